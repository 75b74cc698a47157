/- routes: the walk of the law RoutesPlays. No condition. -/
import Derived.Test.YtpjelffgakgjaaaRoutesL
import Derived.Test.YtpjelffgakgjaaaRoutesE
namespace Go.Proofs.Ytpjelffgakgjaaa.Q
set_option linter.unusedVariables false
set_option linter.unusedSimpArgs false
open Go.RowKit Go.Maps Go.Proofs.YtpjelffgakgjaaaW.PrintWords Go.Proofs.YtpjelffgakgjaaaW.PrintLast Go.Proofs.YtpjelffgakgjaaaW.PrintMore Go.Proofs.YtpjelffgakgjaaaW.MapIs
def playsOk (l : List S42) : Prop := ∀ x ∈ l, (0 ≤ x.f1.f0 ∧ x.f1.f0 < 4294967296) ∧ -9223372036854775808 ≤ x.f1.f1 ∧ x.f1.f1 ≤ 9223372036854775807
instance (l : List S42) : Decidable (playsOk l) := by unfold playsOk; infer_instance
/-- Both tables in one world. -/
structure JS (w W : World) (g b g2 : Nat) (v : Value) (R : List S32) : Prop where
  t : TB w W g b (conv R)
  r : RTB w W g2 (fun k => k ≠ g ∧ k ≠ b) v R
  i : Inv R
section
variable {w W W' : World} {g b g2 : Nat} {v v' : Value} {R R' : List S32}
theorem JS.step (h : JS w W g b g2 v R) (hb : Below W.heap.size W W') : JS w W' g b g2 v R := ⟨h.t.step hb, h.r.step hb, h.i⟩
theorem JS.drew (h : JS w W g b g2 v R) : JS w W.drew g b g2 v R := h.step (below_drew (Below.refl _ _))
theorem JS.drewN (h : JS w W g b g2 v R) (n : Nat) : JS w (W.drewN n) g b g2 v R := h.step (pw_below_drewN (Below.refl _ _) n)
theorem JS.nb (h : JS w W g b g2 v R) : g2 ≠ b := h.t.m.ne h.r.k
theorem JS.ng (h : JS w W g b g2 v R) : g2 ≠ g := fun e => by
  have h1 := h.r.k
  rw [e, h.t.k] at h1
  injection h1 with h1
  injection h1 with _ h2
  exact absurd h2 (by decide)
theorem JS.fresh (h : JS w W g b g2 v R) : ∀ k, W.heap.size ≤ k → k ≠ g ∧ k ≠ b := fun k hk => ⟨fun e => by subst e; exact absurd (blk_lt h.t.k) (Nat.not_lt.2 hk), fun e => by subst e; exact absurd h.t.m.lt (Nat.not_lt.2 hk)⟩
/-- The map's table turned. -/
theorem RTB.kept (h : RTB w W g2 (fun k => k ≠ g ∧ k ≠ b) v R) (hk : Kept W W' (fun k => k = b)) (hB : Below w.heap.size w W') (hne : g2 ≠ b) : RTB w W' g2 (fun k => k ≠ g ∧ k ≠ b) v R :=
  ⟨hB, h.eg, blk_kept h.k hk hne, Kd.R_kept h.o hk (fun k ho e => ho.1.2 e)⟩
/-- The page's table turned. -/
theorem TB.kept {L : List ((Int × Int) × Int)} (h : TB w W g b L) (hk : Kept W W' (fun k => k = g2 ∨ some k = v.ownBlock)) (hB : Below w.heap.size w W') (n1 : g ≠ g2) (n2 : b ≠ g2) (n3 : some g ≠ v.ownBlock) (n4 : some b ≠ v.ownBlock) : TB w W' g b L := by
  refine ⟨hB, h.eg, h.eb, blk_kept h.k hk (fun e => e.elim n1 n3), ⟨?_, h.m.keys, h.m.nod, h.m.inj⟩⟩
  obtain ⟨es, clock, hb, r⟩ := h.m.out
  exact ⟨es, clock, blk_kept hb hk (fun e => e.elim n2 n4), r⟩
theorem JS.turn (h : JS w W g b g2 v R) (ht : TB w W' g b (conv R')) (hk : Kept W W' (fun k => k = b)) : RTB w W' g2 (fun k => k ≠ g ∧ k ≠ b) v R := h.r.kept hk ht.B h.nb
end
/-- The map's table is ahead of the page's. -/
structure JM (w W : World) (g b g2 : Nat) (v : Value) (R R' : List S32) : Prop where
  t : TB w W g b (conv R')
  r : RTB w W g2 (fun k => k ≠ g ∧ k ≠ b) v R
  nb : g2 ≠ b
  ng : g2 ≠ g
section
variable {w W W' : World} {g b g2 : Nat} {v v' : Value} {R R' : List S32}
theorem JM.step (h : JM w W g b g2 v R R') (hb : Below W.heap.size W W') : JM w W' g b g2 v R R' := ⟨h.t.step hb, h.r.step hb, h.nb, h.ng⟩
theorem JM.fresh (h : JM w W g b g2 v R R') : ∀ k, W.heap.size ≤ k → k ≠ g ∧ k ≠ b := fun k hk => ⟨fun e => by subst e; exact absurd (blk_lt h.t.k) (Nat.not_lt.2 hk), fun e => by subst e; exact absurd h.t.m.lt (Nat.not_lt.2 hk)⟩
theorem JM.turn (h : JM w W g b g2 v R R') (i : Inv R') (hr : RTB w W' g2 (fun k => k ≠ g ∧ k ≠ b) v' R') (hk : Kept W W' (fun k => k = g2 ∨ some k = v.ownBlock)) : JS w W' g b g2 v' R' :=
  ⟨h.t.kept hk hr.B h.ng.symm h.nb.symm (fun e => (h.r.o.1 g e.symm).1.1 rfl) (fun e => (h.r.o.1 b e.symm).1.2 rfl), hr, i⟩
end
set_option maxHeartbeats 8000000 in
set_option maxRecDepth 100000 in
theorem plays_in (A0 : Option Addr) (c0 : Nat) (l : List S42) (w : World) (hr : Kd.C k42 w A0 l.length l) (hc : l.length ≤ c0) (hok : playsOk l) :
    Calls Try.prog 4 #[.slice A0 l.length c0] w fun e w' => e = .returned (.bool true) ∧ Below w.heap.size w w' := by
  have hu31 := Try.underlying31
  have hu32 := Try.underlying32
  have hu40 := Try.underlying40
  have hu42 := Try.underlying42
  have hu65 := Try.underlying65
  have HOK := Aside0.mk hok
  have HC := Aside0.mk hc
  have HR := Aside0.mk hr
  clear hok hc hr
  go_enter Try.func4, Try.ntmps4
  go_wp2_with (first
    | (go_at_call 7; (with_reducible refine Calls.mono (NewTable_in w) ?_); rintro e w2 ⟨g, b, rfl, h1⟩; have HT := Aside0.mk h1; clear h1)
    | ((with_reducible refine gate_dst (N := 13) rfl ?_); refine box_event ?hg (N := 13) ?hd (cs := #[.slice none 0 0]) (t := 40) ?hr ?_; (case hd => rfl); (case hg => rfl); (case hr => first | (go_simp; done) | (go_simp; rfl)); intro g2 e2 w3 k2 b2; have hT := HT.out.step b2; have HJS := Aside0.mk (show JS w w3 g b g2 (.slice none 0 0) [] from ⟨hT, ⟨hT.B, by rw [e2]; exact below_size HT.out.B, k2, Kd.R_nil _ _ _ _ _⟩, ⟨by simp, fun y hy => absurd hy (by simp), by simp⟩⟩); clear e2 k2 b2 hT HT))
  go_loopg [5] l.length (fun kq v5 w' => ∃ (j : Nat) (v : Value) (R : List S32), v5 = .int .i64 j ∧ Aside0 (j + kq = l.length) ∧ Aside0 (JS w w' g b g2 v R))
  case atStart => exact ⟨0, _, _, rfl, ⟨by omega⟩, HJS⟩
  case round =>
    clear HJS
    obtain ⟨j, v, R, rfl, HJ, HS⟩ := hrel
    cases gk with
    | zero =>
      have ej : j = l.length := by have := HJ.out; omega
      subst ej
      have lt1 : decide ((l.length : Int) < (l.length : Int)) = false := by simp
      clear HJ
      go_wp2_with (go_at_call 6; (with_reducible refine Calls.mono (alive_in _) ?_); rintro e w1 ⟨rfl, b1⟩; have HB1 := Aside0.mk b1; clear b1)
      go_ret
      exact ⟨rfl, below_step HS.out.t.B HB1.out⟩
    | succ k1 =>
      have hmx := Kd.C_max HR.out
      have hj : j < l.length := by have := HJ.out; omega
      have hrange := HOK.out l[j] (List.getElem_mem hj)
      obtain ⟨x, hx⟩ : ∃ x, l[j] = x := ⟨_, rfl⟩
      rw [hx] at hrange
      obtain ⟨ad, eA, x0, x1, x2, x3⟩ := at_T42 (Kd.C_below HR.out HS.out.t.B) (j : Int) (by omega) (by omega)
      have er : rd_T42 l (j : Int) = x := by rw [← hx]; unfold rd_T42; simp [List.getD_eq_getElem?_getD, hj]
      rw [er] at x0 x1 x2 x3
      subst eA
      have x0 : wr.cell? (ad.add (j * 4)) = some (.int .i64 x.f0) := x0
      have x1 : wr.cell? ⟨(ad.add (j * 4)).block, (ad.add (j * 4)).off + 1, none⟩ = some (.int .u32 x.f1.f0) := x1
      have x2 : wr.cell? ⟨(ad.add (j * 4)).block, (ad.add (j * 4)).off + 2, none⟩ = some (.int .i64 x.f1.f1) := x2
      have x3 : wr.cell? ⟨(ad.add (j * 4)).block, (ad.add (j * 4)).off + 3, none⟩ = some (.int .u32 x.f1.f2) := x3
      have lt1 : decide ((j : Int) < (l.length : Int)) = true := decide_eq_true (by omega)
      have i0 : (0 : Int) ≤ (j : Int) := by omega
      have i1 : (j : Int) < (l.length : Int) := by omega
      have I2 := Aside0.mk (show (j : Int) + 1 ≤ 9223372036854775807 by omega)
      have HRG := Aside0.mk hrange
      clear hmx hj hx er hrange
      go_upto_region 8 with (fail)
      have b8 : Below wr.heap.size wr (wr.alloc (.cells #[.int .u32 x.f1.f0, .int .i64 x.f1.f1, .int .u32 x.f1.f2] 32)) := below_alloc (Below.refl _ _) _
      have kx := blk_new wr (.cells #[.int .u32 x.f1.f0, .int .i64 x.f1.f1, .int .u32 x.f1.f2] 32)
      have hs8 := HS.out.step b8
      have x0 := (b8.cell (World.block_lt_of_cell? wr _ x0)).trans x0
      have hgx : g ≠ wr.heap.size ∧ b ≠ wr.heap.size ∧ g2 ≠ wr.heap.size ∧ some wr.heap.size ≠ v.ownBlock := ⟨fun e => absurd (blk_lt HS.out.t.k) (by omega), fun e => absurd HS.out.t.m.lt (by omega), fun e => absurd (blk_lt HS.out.r.k) (by omega), fun e => by have := Kd.R_lt HS.out.r.o _ e.symm; omega⟩
      clear x1 x2 x3 b8 HS
      generalize wr.alloc _ = w8 at kx hs8 x0 ⊢
      generalize wr.heap.size = gx at kx hgx ⊢
      have HS := Aside0.mk hs8
      have KX := Aside0.mk kx
      have HGX := Aside0.mk hgx
      clear hs8 kx hgx
      go_upto_block 2 with (fail)
      go_cut [3] (fun v3 W => v3 = .pointer (some ⟨g, 0, none⟩) ∧ ∃ (v : Value) (R : List S32), Aside0 (JS w W g b g2 v R) ∧ Aside0 (W.heap[gx]? = some (.cells #[.int .u32 x.f1.f0, .int .i64 x.f1.f1, .int .u32 x.f1.f2] 32 (0, 0))))
      case first =>
        clear x0
        have q0 : w8.cell? ⟨gx, 0, none⟩ = some (.int .u32 x.f1.f0) := (blk_cell KX.out 0).trans rfl
        have q1 : w8.cell? ⟨gx, 1, none⟩ = some (.int .i64 x.f1.f1) := (blk_cell KX.out 1).trans rfl
        have q2 : w8.cell? ⟨gx, 2, none⟩ = some (.int .u32 x.f1.f2) := (blk_cell KX.out 2).trans rfl
        by_cases c1 : x.f0 = 0
        · have d1 : (x.f0 == 0) = true := beq_iff_eq.2 c1
          clear c1
          by_cases c2 : x.f1.f1 < 0 ∨ 32 < x.f1.f1
          · have hadd := Add_range_kept HS.out.drew.t x.f1.f0 x.f1.f1 x.f1.f2 c2
            have href := fun (W : World) (hm : JS w W g b g2 v R) => refAdd_range hm.r x.f1 c2
            have HAD := Aside0.mk hadd
            have HRF := Aside0.mk href
            clear hadd href c2
            go_wp2
            go_region_held3 (fun w' => w'.cell? ⟨gx, 0, none⟩ = some (.int .u32 x.f1.f0) ∧ w'.cell? ⟨gx, 1, none⟩ = some (.int .i64 x.f1.f1) ∧ w'.cell? ⟨gx, 2, none⟩ = some (.int .u32 x.f1.f2)) (first | exact ⟨q0, q1, q2⟩ | go_keep) (first
              | (go_at_call 9; (with_reducible refine Calls.mono HAD.out ?_); rintro e w9 ⟨rfl, h9, k9⟩; have HM9 := Aside0.mk (HS.out.drew.step k9); have KX9 := Aside0.mk (blk_below (w := w8.drew) KX.out k9); have q0 : w9.cell? ⟨gx, 0, none⟩ = some (.int .u32 x.f1.f0) := (blk_cell KX9.out 0).trans rfl; have q1 : w9.cell? ⟨gx, 1, none⟩ = some (.int .i64 x.f1.f1) := (blk_cell KX9.out 1).trans rfl; have q2 : w9.cell? ⟨gx, 2, none⟩ = some (.int .u32 x.f1.f2) := (blk_cell KX9.out 2).trans rfl; clear h9 k9)
              | (go_at_call 8; (with_reducible refine Calls.mono (num_in _ _) ?_); rintro e w10 ⟨rfl, hdr⟩; have HM10 := Aside0.mk (HM9.out.step hdr.below); have KX10 := Aside0.mk (blk_below KX9.out hdr.below); have q0 : w10.cell? ⟨gx, 0, none⟩ = some (.int .u32 x.f1.f0) := (blk_cell KX10.out 0).trans rfl; have q1 : w10.cell? ⟨gx, 1, none⟩ = some (.int .i64 x.f1.f1) := (blk_cell KX10.out 1).trans rfl; have q2 : w10.cell? ⟨gx, 2, none⟩ = some (.int .u32 x.f1.f2) := (blk_cell KX10.out 2).trans rfl; clear hdr)
              | (go_at_call 11; (with_reducible refine Calls.mono (HRF.out _ HM10.out) ?_); rintro e w11 ⟨rfl, k11⟩; have HS11 := Aside0.mk (HM10.out.step k11); have KX11 := Aside0.mk (blk_below KX10.out k11); have q0 : w11.cell? ⟨gx, 0, none⟩ = some (.int .u32 x.f1.f0) := (blk_cell KX11.out 0).trans rfl; have q1 : w11.cell? ⟨gx, 1, none⟩ = some (.int .i64 x.f1.f1) := (blk_cell KX11.out 1).trans rfl; have q2 : w11.cell? ⟨gx, 2, none⟩ = some (.int .u32 x.f1.f2) := (blk_cell KX11.out 2).trans rfl; clear k11))
            go_wp2
            go_meet
            exact ⟨rfl, v, R, HS11, KX11⟩
          · have hrg := HRG.out
            obtain ⟨as1, as2⟩ := add_same HS.out.i x.f1 hrg.1.1 hrg.1.2 (by omega) (by omega)
            have hadd := Add_kept HS.out.drew.t x.f1.f0 x.f1.f1 x.f1.f2 (mk x.f1.f1) hrg.1.1 hrg.1.2 (by omega) (by omega) (mask_is x.f1.f1 (by omega) (by omega))
            rw [as1] at hadd
            have href := fun (W : World) (hm : JM w W g b g2 v R (refAdd R x.f1).1) => refAdd_in hm.r hm.fresh x.f1 HS.out.i.len (by omega) (by omega)
            have HAD := Aside0.mk hadd
            have HRF := Aside0.mk href
            have AS2 := Aside0.mk as2
            clear hrg as1 as2 hadd href c2
            go_wp2
            go_region_held3 (fun w' => w'.cell? ⟨gx, 0, none⟩ = some (.int .u32 x.f1.f0) ∧ w'.cell? ⟨gx, 1, none⟩ = some (.int .i64 x.f1.f1) ∧ w'.cell? ⟨gx, 2, none⟩ = some (.int .u32 x.f1.f2)) (first | exact ⟨q0, q1, q2⟩ | go_keep) (first
              | (go_at_call 9; (with_reducible refine Calls.mono HAD.out ?_); rintro e w9 ⟨rfl, h9, k9⟩; have HM9 := Aside0.mk (show JM w w9 g b g2 v R (refAdd R x.f1).1 from ⟨h9, HS.out.drew.turn h9 k9, HS.out.nb, HS.out.ng⟩); have KX9 := Aside0.mk (blk_kept (W := w8.drew) KX.out k9 (fun e => HGX.out.2.1 e.symm)); have q0 : w9.cell? ⟨gx, 0, none⟩ = some (.int .u32 x.f1.f0) := (blk_cell KX9.out 0).trans rfl; have q1 : w9.cell? ⟨gx, 1, none⟩ = some (.int .i64 x.f1.f1) := (blk_cell KX9.out 1).trans rfl; have q2 : w9.cell? ⟨gx, 2, none⟩ = some (.int .u32 x.f1.f2) := (blk_cell KX9.out 2).trans rfl; clear h9 k9)
              | (go_at_call 8; (with_reducible refine Calls.mono (num_in _ _) ?_); rintro e w10 ⟨rfl, hdr⟩; have HM10 := Aside0.mk (HM9.out.step hdr.below); have KX10 := Aside0.mk (blk_below KX9.out hdr.below); have q0 : w10.cell? ⟨gx, 0, none⟩ = some (.int .u32 x.f1.f0) := (blk_cell KX10.out 0).trans rfl; have q1 : w10.cell? ⟨gx, 1, none⟩ = some (.int .i64 x.f1.f1) := (blk_cell KX10.out 1).trans rfl; have q2 : w10.cell? ⟨gx, 2, none⟩ = some (.int .u32 x.f1.f2) := (blk_cell KX10.out 2).trans rfl; clear hdr)
              | (go_at_call 11; (with_reducible refine Calls.mono (HRF.out _ HM10.out) ?_); rintro e w11 ⟨rfl, v', h11, k11⟩; have HS11 := Aside0.mk (HM10.out.turn AS2.out h11 k11); have KX11 := Aside0.mk (blk_kept KX10.out k11 (fun e => e.elim (fun e => HGX.out.2.2.1 e.symm) HGX.out.2.2.2)); have q0 : w11.cell? ⟨gx, 0, none⟩ = some (.int .u32 x.f1.f0) := (blk_cell KX11.out 0).trans rfl; have q1 : w11.cell? ⟨gx, 1, none⟩ = some (.int .i64 x.f1.f1) := (blk_cell KX11.out 1).trans rfl; have q2 : w11.cell? ⟨gx, 2, none⟩ = some (.int .u32 x.f1.f2) := (blk_cell KX11.out 2).trans rfl; clear h11 k11))
            go_wp2
            go_meet
            exact ⟨rfl, v', _, HS11, KX11⟩
        · have d1 : (x.f0 == 0) = false := beq_eq_false_iff_ne.2 c1
          clear c1
          by_cases c3 : x.f0 = 1
          · have d3 : (x.f0 == 1) = true := beq_iff_eq.2 c3
            have hrg := HRG.out
            obtain ⟨as1, as2⟩ := drop_same HS.out.i x.f1.f0 x.f1.f1
            have hadd := Drop_kept HS.out.drew.t x.f1.f0 x.f1.f1 hrg.1.1 hrg.1.2 hrg.2.1 hrg.2.2
            rw [as1] at hadd
            have href := fun (W : World) (hm : JM w W g b g2 v R (refDrop R x.f1.f0 x.f1.f1).1) => refDrop_in hm.r hm.fresh x.f1.f0 x.f1.f1 HS.out.i.len
            have HAD := Aside0.mk hadd
            have HRF := Aside0.mk href
            have AS2 := Aside0.mk as2
            clear hrg as1 as2 hadd href c3
            go_wp2
            go_region_held3 (fun w' => w'.cell? ⟨gx, 0, none⟩ = some (.int .u32 x.f1.f0) ∧ w'.cell? ⟨gx, 1, none⟩ = some (.int .i64 x.f1.f1) ∧ w'.cell? ⟨gx, 2, none⟩ = some (.int .u32 x.f1.f2)) (first | exact ⟨q0, q1, q2⟩ | go_keep) (first
              | (go_at_call 12; (with_reducible refine Calls.mono HAD.out ?_); rintro e w9 ⟨rfl, h9, k9⟩; have HM9 := Aside0.mk (show JM w w9 g b g2 v R (refDrop R x.f1.f0 x.f1.f1).1 from ⟨h9, HS.out.drew.turn h9 k9, HS.out.nb, HS.out.ng⟩); have KX9 := Aside0.mk (blk_kept (W := w8.drew) KX.out k9 (fun e => HGX.out.2.1 e.symm)); have q0 : w9.cell? ⟨gx, 0, none⟩ = some (.int .u32 x.f1.f0) := (blk_cell KX9.out 0).trans rfl; have q1 : w9.cell? ⟨gx, 1, none⟩ = some (.int .i64 x.f1.f1) := (blk_cell KX9.out 1).trans rfl; have q2 : w9.cell? ⟨gx, 2, none⟩ = some (.int .u32 x.f1.f2) := (blk_cell KX9.out 2).trans rfl; clear h9 k9)
              | (go_at_call 8; (with_reducible refine Calls.mono (num_in _ _) ?_); rintro e w10 ⟨rfl, hdr⟩; have HM10 := Aside0.mk (HM9.out.step hdr.below); have KX10 := Aside0.mk (blk_below KX9.out hdr.below); have q0 : w10.cell? ⟨gx, 0, none⟩ = some (.int .u32 x.f1.f0) := (blk_cell KX10.out 0).trans rfl; have q1 : w10.cell? ⟨gx, 1, none⟩ = some (.int .i64 x.f1.f1) := (blk_cell KX10.out 1).trans rfl; have q2 : w10.cell? ⟨gx, 2, none⟩ = some (.int .u32 x.f1.f2) := (blk_cell KX10.out 2).trans rfl; clear hdr)
              | (go_at_call 13; (with_reducible refine Calls.mono (HRF.out _ HM10.out) ?_); rintro e w11 ⟨rfl, v', h11, k11⟩; have HS11 := Aside0.mk (HM10.out.turn AS2.out h11 k11); have KX11 := Aside0.mk (blk_kept KX10.out k11 (fun e => e.elim (fun e => HGX.out.2.2.1 e.symm) HGX.out.2.2.2)); have q0 : w11.cell? ⟨gx, 0, none⟩ = some (.int .u32 x.f1.f0) := (blk_cell KX11.out 0).trans rfl; have q1 : w11.cell? ⟨gx, 1, none⟩ = some (.int .i64 x.f1.f1) := (blk_cell KX11.out 1).trans rfl; have q2 : w11.cell? ⟨gx, 2, none⟩ = some (.int .u32 x.f1.f2) := (blk_cell KX11.out 2).trans rfl; clear h11 k11))
            go_wp2
            go_meet
            exact ⟨rfl, v', _, HS11, KX11⟩
          · have d3 : (x.f0 == 1) = false := beq_eq_false_iff_ne.2 c3
            clear c3
            go_wp2
            go_meet
            exact ⟨rfl, v, R, HS, KX⟩
      case rest =>
        obtain ⟨rfl, v1, R1, HS1, KX1⟩ := hcut
        clear HS KX x0
        obtain ⟨Z, hZ⟩ : ∃ Z, refNextR R1 x.f1.f0 = Z := ⟨_, rfl⟩
        have hns := next_same HS1.out.i x.f1.f0 HRG.out.1.1 HRG.out.1.2
        have hnx := Next_in HS1.out.t x.f1.f0 HRG.out.1.1 HRG.out.1.2
        have href := fun (W : World) (hm : JS w W g b g2 v1 R1) => refNext_in hm.r x.f1.f0 hm.i.len (fun y hy => (hm.i.rng y hy).1)
        rw [hns, hZ] at hnx
        rw [hZ] at href
        have HNX := Aside0.mk hnx
        have HRF := Aside0.mk href
        have q0 : wc.cell? ⟨gx, 0, none⟩ = some (.int .u32 x.f1.f0) := (blk_cell KX1.out 0).trans rfl
        clear hns hnx href hZ
        go_upto_region 17 with (first
          | (go_at_call 10; (with_reducible refine Calls.mono HNX.out ?_); rintro e w12 ⟨rfl, b12⟩; have HS2 := Aside0.mk (HS1.out.step b12); have KX2 := Aside0.mk (blk_below KX1.out b12); have q0 : w12.cell? ⟨gx, 0, none⟩ = some (.int .u32 x.f1.f0) := (blk_cell KX2.out 0).trans rfl; clear b12)
          | (go_at_call 14; (with_reducible refine Calls.mono (HRF.out _ HS2.out) ?_); rintro e w13 ⟨rfl, b13⟩; have HS3 := Aside0.mk (HS2.out.step b13); clear b13))
        obtain ⟨A3, c3, ev⟩ := Kd.R_slice HS3.out.r.o
        have z := HS3.out.r.z
        rw [ev] at z
        have hlen := fun n => Len_in (HS3.out.drewN n).t
        have el : (conv R1).length = R1.length := List.length_map _
        rw [el] at hlen
        have HLN := Aside0.mk hlen
        clear hlen el ev q0
        go_quiet (first | (go_at_call 8; exact Calls.quiet_of ((num_in _ _).mono fun _ _ h_ => ⟨h_.1, h_.2.out⟩)) | (go_at_call 15; exact Calls.quiet_of_same ((HLN.out _).mono fun _ _ h_ => ⟨h_.1, h_.2.symm⟩)))
        go_wp2
        go_roundg k1
        case measure => omega
        case rel => exact ⟨j + 1, v1, R1, (by have := I2.out; show Value.int .i64 (wrap64 ((j : Int) + 1)) = .int .i64 ((j + 1 : Nat) : Int); congr 1; unfold wrap64; omega), ⟨by have := HJ.out; omega⟩, ⟨HS3.out.drewN nq⟩⟩
end Go.Proofs.Ytpjelffgakgjaaa.Q
