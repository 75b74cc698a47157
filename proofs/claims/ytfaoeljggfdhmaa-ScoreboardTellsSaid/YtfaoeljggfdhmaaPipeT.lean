/- scoreboard.Pipe: the walk. No condition. -/
import Derived.Test.YtfaoeljggfdhmaaHolesT
namespace Go.Proofs.Ytfaoeljggfdhmaa.Q
set_option linter.unusedVariables false
set_option linter.unusedSimpArgs false
open Go.RowKit Go.Proofs.YtfaoeljggfdhmaaW.PrintWords Go.Proofs.YtfaoeljggfdhmaaW.PrintLast Go.Proofs.YtfaoeljggfdhmaaW.PrintMore Go.Proofs.YtfaoeljggfdhmaaW.RangeSeq
open Go.Shelf
attribute [local go_sem] Oper.semAt_some
/-- The two boxes of the parameters. -/
structure PB (w W : World) (a0 a1 a2 : Int) (S : Value) (mss : Int) : Prop where
  B : Below w.heap.size w W
  x0 : W.cell? ⟨w.heap.size, 0, none⟩ = some (.int .u32 a0)
  x1 : W.cell? ⟨w.heap.size, 1, none⟩ = some (.int .u32 a1)
  x2 : W.cell? ⟨w.heap.size, 2, none⟩ = some (.int .u32 a2)
  x3 : W.cell? ⟨w.heap.size, 3, none⟩ = some S
  y0 : W.cell? ⟨w.heap.size + 1, 0, none⟩ = some (.int .i64 mss)
  s : w.heap.size + 1 < W.heap.size
theorem PB.keep {w W W' : World} {a0 a1 a2 : Int} {S : Value} {mss : Int} (h : PB w W a0 a1 a2 S mss) {b : Nat} (hb : Below b W W') (hw : w.heap.size + 2 ≤ b) : PB w W' a0 a1 a2 S mss :=
  ⟨h.B.trans (hb.mono (by omega)), (hb.cell (p := ⟨w.heap.size, 0, none⟩) (by show w.heap.size < b; omega)).trans h.x0, (hb.cell (p := ⟨w.heap.size, 1, none⟩) (by show w.heap.size < b; omega)).trans h.x1, (hb.cell (p := ⟨w.heap.size, 2, none⟩) (by show w.heap.size < b; omega)).trans h.x2, (hb.cell (p := ⟨w.heap.size, 3, none⟩) (by show w.heap.size < b; omega)).trans h.x3, (hb.cell (p := ⟨w.heap.size + 1, 0, none⟩) (by show w.heap.size + 1 < b; omega)).trans h.y0, Nat.lt_of_lt_of_le h.s hb.size⟩
theorem PB.step {w W W' : World} {a0 a1 a2 : Int} {S : Value} {mss : Int} (h : PB w W a0 a1 a2 S mss) (hb : Below W.heap.size W W') : PB w W' a0 a1 a2 S mss := h.keep hb h.s
theorem PB.new (w : World) (a0 a1 a2 : Int) (S : Value) (mss : Int) (t u : TypeId) : PB w ((w.alloc (.cells #[.int .u32 a0, .int .u32 a1, .int .u32 a2, S] t)).alloc (.cells #[.int .i64 mss] u)) a0 a1 a2 S mss :=
  ⟨((Below.refl _ w).alloc (Nat.le_refl _) _).alloc (by simp) _, by simp, by simp, by simp, by simp, by simp, by simp⟩
/-- What stands within a round: the boxes, the sum, the round's variable. -/
structure RF (w W V2 V : World) (a0 a1 a2 : Int) (S : Value) (mss : Int) (b l bn : Nat) (m f0 f1 : Int) : Prop where
  P : PB w V a0 a1 a2 S mss
  c : V.cell? ⟨bn, 0, none⟩ = some (.int .i64 m)
  f : V.frozen? ⟨bn, 0, none⟩ = false
  h0 : V.cell? ⟨W.heap.size, 0, none⟩ = some (.int .i64 f0)
  h1 : V.cell? ⟨W.heap.size, 1, none⟩ = some (.int .i64 f1)
  ko : KeepsOthers V2 V
  kb : KeepB b l W V
theorem keepsOthers_below {A B : World} (h : Below A.heap.size A B) : KeepsOthers A B := ⟨h.size, fun k o hk _ => (h.block k (Array.getElem?_eq_some_iff.1 hk).1).trans hk⟩
theorem keepB_below {b l : Nat} {A B : World} (h : Below A.heap.size A B) : KeepB b l A B := ⟨h.size, fun k _ hk _ => h.block k hk⟩
theorem RF.step {w W V2 V V' : World} {a0 a1 a2 : Int} {S : Value} {mss : Int} {b l bn : Nat} {m f0 f1 : Int} (h : RF w W V2 V a0 a1 a2 S mss b l bn m f0 f1) (hb : Below V.heap.size V V') : RF w W V2 V' a0 a1 a2 S mss b l bn m f0 f1 :=
  ⟨h.P.step hb, (hb.cell (p := ⟨bn, 0, none⟩) (World.block_lt_of_cell? _ _ h.c)).trans h.c, (hb.frozen (p := ⟨bn, 0, none⟩) (World.block_lt_of_cell? _ _ h.c)).trans h.f, (hb.cell (p := ⟨W.heap.size, 0, none⟩) (World.block_lt_of_cell? _ _ h.h0)).trans h.h0, (hb.cell (p := ⟨W.heap.size, 1, none⟩) (World.block_lt_of_cell? _ _ h.h1)).trans h.h1,
    h.ko.trans (keepsOthers_below hb), h.kb.trans (keepB_below hb)⟩
theorem RF.drew {w W V2 V : World} {a0 a1 a2 : Int} {S : Value} {mss : Int} {b l bn : Nat} {m f0 f1 : Int} (h : RF w W V2 V a0 a1 a2 S mss b l bn m f0 f1) : RF w W V2 V.drew a0 a1 a2 S mss b l bn m f0 f1 := h.step (Below.refl _ V).drew
theorem RF.any {w W V2 V V' : World} {a0 a1 a2 : Int} {S : Value} {mss : Int} {b l bn : Nat} {m f0 f1 : Int} (h : RF w W V2 V a0 a1 a2 S mss b l bn m f0 f1) {q : Nat} (hb : Below (V.drewN q).heap.size (V.drewN q) V') : RF w W V2 V' a0 a1 a2 S mss b l bn m f0 f1 :=
  h.step ⟨hb.os, hb.tape, hb.output, hb.size, hb.block⟩
theorem RF.set {w W V2 V : World} {a0 a1 a2 : Int} {S : Value} {mss : Int} {b l bn : Nat} {m f0 f1 : Int} (h : RF w W V2 V a0 a1 a2 S mss b l bn m f0 f1) (h1 : w.heap.size + 2 ≤ bn) (h2 : bn < b) (h3 : b ≤ W.heap.size) (m' : Int) : RF w W V2 (V.setCell ⟨bn, 0, none⟩ (.int .i64 m')) a0 a1 a2 S mss b l bn m' f0 f1 := by
  have hb : Below bn V (V.setCell ⟨bn, 0, none⟩ (.int .i64 m')) := (Below.refl _ V).setCell (p := ⟨bn, 0, none⟩) (Nat.le_refl _) _
  have ho : ∀ k, k ≠ bn → (V.setCell ⟨bn, 0, none⟩ (.int .i64 m')).heap[k]? = V.heap[k]? := fun k hk => Below.heap_setCell V ⟨bn, 0, none⟩ _ k hk
  exact ⟨h.P.keep hb h1, World.cell?_setCell_same' _ _ _ (by rw [h.c]; rfl), (World.frozen?_setCell ..).trans h.f, (World.cell?_of_block (a := ⟨W.heap.size, 0, none⟩) (ho W.heap.size (by omega))).trans h.h0, (World.cell?_of_block (a := ⟨W.heap.size, 1, none⟩) (ho W.heap.size (by omega))).trans h.h1,
    h.ko.trans (KeepsOthers.setCell _ _ _), h.kb.trans ⟨by simp, fun k hk _ _ => ho k (by omega)⟩⟩
theorem wr64 (x : Int) : IntKind.i64.wrap x = wrap64 x := by
  rw [IntKind.wrap_i64]
  unfold wrap64
  omega
def pipeStep (n : Int) (b : Bool) (h : S75) (hi : Int) : Int := wrap64 ((if b then n else wrap64 (n + wrap64 (h.f1 - h.f0))) + mx 0 (wrap64 (mn h.f1 hi - mx h.f0 0)))
def pipeGo (k : Nat) (a0 a1 a2 : Int) (l3 : List S35) (mss : Int) : List S75 → Int → Option Int
  | [], n => some n
  | h :: r, n => (scoreboard_State_lost.f k a0 a1 a2 l3 mss h.f0).bind fun b => pipeGo k a0 a1 a2 l3 mss r (pipeStep n b h ((a2 - a0) % 4294967296))
set_option maxHeartbeats 8000000 in
set_option maxRecDepth 100000 in
theorem pipe_in (n : Nat) (hn : 3 ≤ n) (k : Nat) (a0 a1 a2 : Int) (A3 : Option Addr) (c3 : Nat) (l3 : List S35) (mss : Int) (sp : List S75) (r : Int) (w : World) (hr : Kd.C k35 w A3 l3.length l3) (hc : l3.length ≤ c3)
    (hask : scoreboard_asked.f k a0 a1 a2 l3 mss = some 0) (hsp : scoreboard_State_spans.f k a0 a1 a2 l3 l3 = some sp) (hlen : sp.length < 8796093022000)
    (hgo : pipeGo k a0 a1 a2 l3 mss (holesOf 0 (sp ++ [⟨(a1 - a0) % 4294967296, (a1 - a0) % 4294967296⟩])) 0 = some r) :
    CallsIn Fence.wide n Try.prog 10 #[.agg #[.int .u32 a0, .int .u32 a1, .int .u32 a2, .slice A3 l3.length c3], .int .i64 mss] w fun e W' => e = .returned (.tuple #[.int .i64 r, .int .i64 0]) ∧ Below w.heap.size w W' := by
  have h1 : 1 ≤ n := by omega
  have hu30 := Try.underlying30
  have HR := Aside0.mk hr
  have HB := Aside0.mk (Below.refl w.heap.size w)
  have HA := Aside0.mk hask
  have HG := Aside0.mk hgo
  clear hr hask hgo
  refine callsIn_of_wp_marks Try.func10 rfl trivial ?_ rfl
  simp only [Try.ntmps10, List.size_toArray, List.length_cons, List.length_nil, Nat.reduceAdd, Nat.reduceSub, Array.replicate_succ, Array.replicate_zero, List.push_toArray, List.append_toArray, List.nil_append, List.cons_append]
  obtain ⟨W1, hW1⟩ : ∃ W1, (w.alloc (.cells #[.int .u32 a0, .int .u32 a1, .int .u32 a2, .slice A3 l3.length c3] 30)).alloc (.cells #[.int .i64 mss] 3) = W1 := ⟨_, rfl⟩
  have t1 : Fence.wide.fn 32 := trivial
  have hP1 := PB.new w a0 a1 a2 (.slice A3 l3.length c3) mss 30 3
  rw [hW1] at hP1
  have HP1 := Aside0.mk hP1
  obtain ⟨B1, x0, x1, x2, x3, y0, s1⟩ := hP1
  gi_wp2_with (gi_at_call 32; refine (callsIn_wide.2 (scoreboard_asked.calls k a0 a1 a2 A3 c3 l3 mss 0 W1 (Kd.C_below HR.out B1) hc HA.out)).mono ?_; rintro e W2 ⟨rfl, hb2⟩; have HP2 := Aside0.mk (HP1.out.step hb2); clear x0 x1 x2 x3 y0 B1 s1 hb2; have hP3 := HP2.out.step ((Below.refl _ W2).alloc (Nat.le_refl _) (.cells #[.int .i64 0] 3)); have HP3 := Aside0.mk hP3; obtain ⟨B3, x0, x1, x2, x3, y0, s3⟩ := hP3)
  obtain ⟨W3, hW3⟩ : ∃ W3, W2.alloc (.cells #[.int .i64 0] 3) = W3 := ⟨_, rfl⟩
  have z0 : W3.cell? ⟨W2.heap.size, 0, none⟩ = some (.int .i64 0) := by rw [← hW3]; simp
  have zf : W3.frozen? ⟨W2.heap.size, 0, none⟩ = false := by rw [← hW3]; simp
  have sz3 : W3.heap.size = W2.heap.size + 1 := by rw [← hW3]; simp
  have sz2 := HP2.out.s
  rw [hW3] at HP3 ⊢
  clear x0 x1 x2 x3 y0 B3 s3 hW3
  obtain ⟨hs, hhs⟩ : ∃ hs, holesOf 0 (sp ++ [⟨(a1 - a0) % 4294967296, (a1 - a0) % 4294967296⟩]) = hs := ⟨_, rfl⟩
  have hgv := holes_gives (n - 1) (by omega) k a0 a1 a2 A3 c3 l3 sp W3 (Kd.C_below HR.out HP3.out.B) hc hsp hlen
  rw [hhs] at HG hgv
  obtain ⟨bn, hbn⟩ : ∃ bn, W2.heap.size = bn := ⟨_, rfl⟩
  rw [hbn] at z0 zf sz3 sz2 ⊢
  refine wp_rangeSeq rfl h1 (gf := 33) (first := #[.agg #[.int .u32 a0, .int .u32 a1, .int .u32 a2, .slice A3 l3.length c3]]) rfl trivial (enters_of Try.func33 (by kernel_rfl) rfl)
    (vs := hs.map encH) (fun v hv => by obtain ⟨x, _, rfl⟩ := List.mem_map.1 hv; rfl) hgv
    (fun i V => ∃ m, pipeGo k a0 a1 a2 l3 mss (hs.drop i) m = some r ∧ PB w V a0 a1 a2 (.slice A3 l3.length c3) mss ∧ V.cell? ⟨bn, 0, none⟩ = some (.int .i64 m) ∧ V.frozen? ⟨bn, 0, none⟩ = false) (fun _ _ => False) ?hI (fun _ _ _ h _ => h) ⟨0, HG.out, HP3.out, z0, zf⟩ ?round ?done ?stop
  case hI =>
    rintro i A B ⟨m, k1, k2, k3, k4⟩ hb
    exact ⟨m, k1, k2.keep hb (by omega), (hb.cell (p := ⟨bn, 0, none⟩) (by show bn < _; omega)).trans k3, (hb.frozen (p := ⟨bn, 0, none⟩) (by show bn < _; omega)).trans k4⟩
  case stop =>
    rintro D c V _ hF _
    exact hF.elim
  case done =>
    rintro D V hD ⟨m, k1, k2, k3, k4⟩ hK
    have hm : m = r := by
      rw [List.drop_eq_nil_of_le (by simp)] at k1
      exact Option.some.inj k1
    subst hm
    gi_wp2
    refine ⟨by simp, .inl ⟨_, _, rfl, run_takeDeferred hK, ?_⟩⟩
    exact ⟨_, results_tmp2 rfl _ _ _, rfl, k2.B.trans (belowK_b (w := w) (Nat.le_refl _) V D _ _ (by omega) hK rfl rfl)⟩
  case round =>
    rintro l i v V hv ⟨m, k1, k2, k3, k4⟩ hl hlt
    rw [List.getElem?_map] at hv
    obtain ⟨h, hh, rfl⟩ := Option.map_eq_some_iff.1 hv
    have hil : i < hs.length := (List.getElem?_eq_some_iff.1 hh).1
    have hdr : hs.drop i = h :: hs.drop (i + 1) := by rw [List.drop_eq_getElem_cons hil, (List.getElem?_eq_some_iff.1 hh).2]
    rw [hdr] at k1
    obtain ⟨f0, f1⟩ := h
    obtain ⟨b, hb, k1⟩ := Option.bind_eq_some_iff.mp k1
    have HBL := Aside0.mk hb
    have HK := Aside0.mk k1
    have h3 : w.heap.size + 2 ≤ bn := by omega
    have h4 : bn < W3.heap.size := by omega
    have h5 : W3.heap.size ≤ V.heap.size := by omega
    clear hv hh hil hdr hb k1
    have HF0 : Aside0 (∀ Z, Turn l (V.alloc (.cells #[.int .i64 f0, .int .i64 f1] 75)) Z → RF w V Z Z a0 a1 a2 (.slice A3 l3.length c3) mss W3.heap.size l bn m f0 f1) := Aside0.mk (fun Z hT => by
      have hA : Below V.heap.size V (V.alloc (.cells #[.int .i64 f0, .int .i64 f1] 75)) := (Below.refl _ V).alloc (Nat.le_refl _) _
      have hZ := hT.below hl
      refine ⟨(k2.step hA).keep hZ (by omega), (hZ.cell (p := ⟨bn, 0, none⟩) h4).trans ((hA.cell (p := ⟨bn, 0, none⟩) (by show bn < _; omega)).trans k3), (hZ.frozen (p := ⟨bn, 0, none⟩) h4).trans ((hA.frozen (p := ⟨bn, 0, none⟩) (by show bn < _; omega)).trans k4), hT.cell (by simp), hT.cell (by simp), KeepsOthers.refl Z, ?_⟩
      exact (keepB_below hA).trans ⟨Nat.le_of_eq hT.size.symm, fun k _ _ hk => hT.other hk⟩)
    clear k2 k3 k4
    simp only [encH]
    gi_wp2
    refine ⟨KeepsOthers.alloc _ _, fun Z hT => ?_⟩
    have HF := Aside0.mk (HF0.out Z hT)
    clear HF0 hT
    obtain ⟨hP, zc, zf', zh0, zh1, zko, zkb⟩ := HF.out
    obtain ⟨B4, x0, x1, x2, x3, y0, s4⟩ := hP
    clear zko zkb
    gi_wp2
    refine ⟨trivial, fun h_ => by (cases h_), ?_⟩
    refine (CallsIn.inRound l (callsIn_wide.2 (scoreboard_State_lost.calls k a0 a1 a2 A3 c3 l3 mss f0 b Z (Kd.C_below HR.out B4) hc HBL.out))).mono ?_
    rintro e Z1 ⟨rfl, hb1⟩
    have HF1 := Aside0.mk (HF.out.step hb1)
    clear HF B4 x0 x1 x2 x3 y0 s4 zc zf' zh0 zh1 hb1
    cases b
    · obtain ⟨⟨_, x0, x1, x2, x3, y0, _⟩, zc, zf', zh0, zh1, _, _⟩ := HF1.out
      gi_wp2
      gi_region_with ((refine ⟨trivial, fun h_ => (by cases h_), ?_⟩; refine (CallsIn.inRound l (callsIn_wide.2 (scoreboard_span_size.calls f0 f1 _ _ rfl))).mono ?_; rintro e Z2 ⟨rfl, hb2⟩; have n1_ := Aside0.mk (by first | exact HF1.out.step hb2 | exact HF1.out.any hb2); clear HF1 zc zf' zh0 zh1 x0 x1 x2 x3 y0 hb2; have HF1 := n1_; clear n1_; obtain ⟨⟨_, x0, x1, x2, x3, y0, _⟩, zc, zf', zh0, zh1, _, _⟩ := HF1.out))
      all_goals
        have n1_ := Aside0.mk (HF1.out.set h3 h4 h5 (IntKind.i64.wrap (m + wrap64 (f1 - f0))))
        clear HF1 zc zf' zh0 zh1 x0 x1 x2 x3 y0
        have HF1 := n1_
        clear n1_
        obtain ⟨m2, hm2⟩ : ∃ m2, IntKind.i64.wrap (m + wrap64 (f1 - f0)) = m2 := ⟨_, rfl⟩
        have HK2 : Aside0 (pipeGo k a0 a1 a2 l3 mss (List.drop (i + 1) hs) (IntKind.i64.wrap (m2 + mx 0 (wrap64 (mn f1 ((a2 - a0) % 4294967296) - mx f0 0)))) = some r) := Aside0.mk (by have := HK.out; unfold pipeStep at this; rw [← hm2, wr64, wr64]; exact this)
        rw [hm2] at HF1 ⊢
        obtain ⟨Z3, hZ3⟩ : ∃ Z3, Z2.setCell ⟨bn, 0, none⟩ (.int .i64 m2) = Z3 := ⟨_, rfl⟩
        rw [hZ3] at HF1 ⊢
        clear hm2 hZ3 HK
        obtain ⟨⟨_, x0, x1, x2, x3, y0, _⟩, zc, zf', zh0, zh1, _, _⟩ := HF1.out
        gi_wp2
        gi_region_with (first
          | (refine ⟨trivial, fun h_ => (by cases h_), ?_⟩; refine (CallsIn.inRound l (callsIn_wide.2 (scoreboard_State_high.calls a0 a1 a2 A3 c3 l3 _ _ (Kd.C_below HR.out (by first | exact HF1.out.P.B | exact HF1.out.drew.P.B)) hc rfl))).mono ?_; rintro e Z4 ⟨rfl, hb4⟩; have n1_ := Aside0.mk (by first | exact HF1.out.step hb4 | exact HF1.out.any hb4); clear HF1 zc zf' zh0 zh1 x0 x1 x2 x3 y0 hb4; have HF1 := n1_; clear n1_; obtain ⟨⟨_, x0, x1, x2, x3, y0, _⟩, zc, zf', zh0, zh1, _, _⟩ := HF1.out)
          | (refine ⟨trivial, fun h_ => (by cases h_), ?_⟩; refine (CallsIn.inRound l (callsIn_wide.2 (scoreboard_span_meet.calls f0 f1 0 ((a2 - a0) % 4294967296) _ _ rfl))).mono ?_; rintro e Z5 ⟨rfl, hb5⟩; have n1_ := Aside0.mk (by first | exact HF1.out.step hb5 | exact HF1.out.any hb5); clear HF1 zc zf' zh0 zh1 x0 x1 x2 x3 y0 hb5; have HF1 := n1_; clear n1_; obtain ⟨⟨_, x0, x1, x2, x3, y0, _⟩, zc, zf', zh0, zh1, _, _⟩ := HF1.out))
        all_goals
          gi_wp2
          have hfin := HF1.out.set h3 h4 h5 (IntKind.i64.wrap (m2 + mx 0 (wrap64 (mn f1 ((a2 - a0) % 4294967296) - mx f0 0))))
          exact ⟨hfin.ko, (by rw [← sz3]; exact hfin.kb), _, HK2.out, hfin.P, hfin.c, hfin.f⟩
    · obtain ⟨⟨_, x0, x1, x2, x3, y0, _⟩, zc, zf', zh0, zh1, _, _⟩ := HF1.out
      gi_wp2
      gi_region_with (first
        | (refine ⟨trivial, fun h_ => (by cases h_), ?_⟩; refine (CallsIn.inRound l (callsIn_wide.2 (scoreboard_State_high.calls a0 a1 a2 A3 c3 l3 _ _ (Kd.C_below HR.out (by first | exact HF1.out.P.B | exact HF1.out.drew.P.B)) hc rfl))).mono ?_; rintro e Z4 ⟨rfl, hb4⟩; have n1_ := Aside0.mk (by first | exact HF1.out.step hb4 | exact HF1.out.any hb4); clear HF1 zc zf' zh0 zh1 x0 x1 x2 x3 y0 hb4; have HF1 := n1_; clear n1_; obtain ⟨⟨_, x0, x1, x2, x3, y0, _⟩, zc, zf', zh0, zh1, _, _⟩ := HF1.out)
        | (refine ⟨trivial, fun h_ => (by cases h_), ?_⟩; refine (CallsIn.inRound l (callsIn_wide.2 (scoreboard_span_meet.calls f0 f1 0 ((a2 - a0) % 4294967296) _ _ rfl))).mono ?_; rintro e Z5 ⟨rfl, hb5⟩; have n1_ := Aside0.mk (by first | exact HF1.out.step hb5 | exact HF1.out.any hb5); clear HF1 zc zf' zh0 zh1 x0 x1 x2 x3 y0 hb5; have HF1 := n1_; clear n1_; obtain ⟨⟨_, x0, x1, x2, x3, y0, _⟩, zc, zf', zh0, zh1, _, _⟩ := HF1.out))
      all_goals
        gi_wp2
        have hfin := HF1.out.set h3 h4 h5 (IntKind.i64.wrap (m + mx 0 (wrap64 (mn f1 ((a2 - a0) % 4294967296) - mx f0 0))))
        exact ⟨hfin.ko, (by rw [← sz3]; exact hfin.kb), _, (by have := HK.out; unfold pipeStep at this; rw [wr64]; exact this), hfin.P, hfin.c, hfin.f⟩
set_option maxHeartbeats 8000000 in
set_option maxRecDepth 100000 in
theorem pipe_err (k : Nat) (a0 a1 a2 : Int) (A3 : Option Addr) (c3 : Nat) (l3 : List S35) (mss e0 : Int) (he : e0 ≠ 0) (w : World) (hr : Kd.C k35 w A3 l3.length l3) (hc : l3.length ≤ c3)
    (hask : scoreboard_asked.f k a0 a1 a2 l3 mss = some e0) :
    Calls Try.prog 10 #[.agg #[.int .u32 a0, .int .u32 a1, .int .u32 a2, .slice A3 l3.length c3], .int .i64 mss] w fun e W' => e = .returned (.tuple #[.int .i64 0, .int .i64 e0]) ∧ Below w.heap.size w W' := by
  have hu30 := Try.underlying30
  have HR := Aside0.mk hr
  have HA := Aside0.mk hask
  clear hr hask
  obtain ⟨W1, hW1⟩ : ∃ W1, (w.alloc (.cells #[.int .u32 a0, .int .u32 a1, .int .u32 a2, .slice A3 l3.length c3] 30)).alloc (.cells #[.int .i64 mss] 3) = W1 := ⟨_, rfl⟩
  have hP1 := PB.new w a0 a1 a2 (.slice A3 l3.length c3) mss 30 3
  rw [hW1] at hP1
  have HP1 := Aside0.mk hP1
  obtain ⟨B1, x0, x1, x2, x3, y0, s1⟩ := hP1
  go_enter Try.func10, Try.ntmps10
  go_wp2_with (go_at_call 32; refine (scoreboard_asked.calls k a0 a1 a2 A3 c3 l3 mss e0 W1 (Kd.C_below HR.out B1) hc HA.out).mono ?_; rintro e W2 ⟨rfl, hb2⟩; have HP2 := Aside0.mk (HP1.out.step hb2))
  go_ret2
  exact ⟨rfl, HP2.out.B⟩
end Go.Proofs.Ytfaoeljggfdhmaa.Q
