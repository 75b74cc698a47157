-- written for this claim out of the program's translation by a program (wip/pr.sh); Lean checks it
import Derived.Test.YtghfljmoaalinaaQ0
import Derived.Test.YtghfljmoaalinaaQ3
import Derived.Test.YtghfljmoaalinaaQ4
import Derived.Laws.IdiomCopy
import Derived.Deep.RegionHeld3
import Derived.Deep.RegionWith
namespace Go.Proofs.Ytghfljmoaalinaa.Q
open Go.RowKit Go.Proofs.YtghfljmoaalinaaW.PrintWords Go.Proofs.YtghfljmoaalinaaW.PrintLast Go.Proofs.YtghfljmoaalinaaW.PrintMore
attribute [local go_sem] max2_int min2_int max_two min_two max_three min_three max_four min_four   -- for this text's walks alone
set_option linter.unusedVariables false
set_option linter.unusedSimpArgs false

/-! ### ipwire_BuildIcmp: function 17 -/
-- GIVENPART
-- IMPORT Derived.Laws.IdiomCopy
-- IMPORT Derived.Deep.RegionHeld3
-- IMPORT Derived.Deep.RegionWith
/-- A message's octets, its checksum 0 yet. -/
def iHead (a0 a1 a2 : Int) (l : List Int) : List Int := put32v (((List.replicate 8 0).set 0 a0).set 1 a1) 4 a2 ++ l
theorem box4 {W : World} {gb : Nat} {t : TypeId} {c0 c1 c2 c3 : Value} (h : W.heap[gb]? = some (.cells #[c0, c1, c2, c3] t (0, 0))) :
    W.cell? ⟨gb, 0, none⟩ = some c0 ∧ W.cell? ⟨gb, 1, none⟩ = some c1 ∧ W.cell? ⟨gb, 2, none⟩ = some c2 ∧ W.cell? ⟨gb, 3, none⟩ = some c3 :=
  ⟨(blk_cell h 0).trans rfl, (blk_cell h 1).trans rfl, (blk_cell h 2).trans rfl, (blk_cell h 3).trans rfl⟩
set_option maxHeartbeats 8000000 in
set_option maxRecDepth 100000 in
theorem icmp_walk (k : Nat) (a0 a1 a2 : Int) (A3 : Option Addr) (c3 : Nat) (l3 : List Int) (C : Int) (w : World)
    (hr3 : Kd.C (Kd.int .u8) w A3 l3.length l3) (hc3 : l3.length ≤ c3) (hsz : l3.length ≤ 65527) (hC : checksum_Check.f k (iHead a0 a1 a2 l3) = some C) :
    Calls Try.prog 17 #[.agg #[.int .u8 a0, .int .u8 a1, .int .u32 a2, .slice A3 l3.length c3]] w
      fun e w' => ∃ v0_ : Value, e = .returned (.tuple #[v0_, .int .i64 0]) ∧ Kd.R (Kd.int .u8) 5 w' w.heap.size (fun _ => True) v0_ (put16v (iHead a0 a1 a2 l3) 2 (IntKind.i64.wrap C)) ∧ Below w.heap.size w w' := by
  obtain ⟨i5, hi5, hz5⟩ := Option.map_eq_some_iff.1 info5
  have hmk : ∀ W, (Instr.makeSlice 24 (.int .i64 8) (.int .i64 (8 + (l3.length : Int)))).run Try.prog W = .ok (.slice (some ⟨W.heap.size, 0, none⟩) 8 (8 + l3.length)) (W.alloc (.cells (madeCells (Value.int .u8 0).cells ((8 + l3.length) * 1)) 5)) := fun W => by
    simp only [Prod.mk.injEq] at hz5
    have h1 := run_make (P := Try.prog) W 24 5 i5 _ Try.underlying24 hi5 hz5.1 .i64 .i64 8 (8 + (l3.length : Int)) (by omega) (by omega) (by rw [hz5.2.2]; omega) (by omega)
    rw [hz5.2.1, show (8 : Int).toNat = 8 from rfl, show (8 + (l3.length : Int)).toNat = 8 + l3.length by omega] at h1
    exact h1
  clear hi5 hz5
  have hu40 := Try.underlying40
  have HR3 := Aside0.mk hr3
  clear hr3
  have HB := Aside0.mk (Below.refl w.heap.size w)
  obtain ⟨LB, hLB0⟩ : ∃ LB, LB = iHead a0 a1 a2 l3 := ⟨_, rfl⟩
  rw [← hLB0] at hC
  rw [← hLB0]
  have hLB := Aside0.mk hLB0
  clear hLB0
  have hC2 := Aside0.mk hC
  clear hC
  have hgt : ¬ (65535 : Int) < 8 + (l3.length : Int) := by omega
  go_enter Try.func17, Try.ntmps17
  go_wp2_with (first | ((with_reducible refine gate_dst (N := 1) rfl ?_); refine box_event ?hg (N := 1) ?hd (cs := #[.int .u8 a0, .int .u8 a1, .int .u32 a2, .slice A3 l3.length c3]) (t := 40) ?hr ?_; (case hd => rfl); (case hg => rfl); (case hr => first | (go_simp; done) | (go_simp; rfl)); intro gb hg w3 hbox hb; clear hg; have BK := Aside0.mk hbox; obtain ⟨z0, z1, z2, z3⟩ := box4 hbox; have n0_ := Aside0.mk (below_step HB.out hb); clear HB; have HB := n0_; clear n0_))
  have hH := make_BI HB.out BK.out 8 (8 + l3.length) (by omega) (by omega)
  clear z0 z1 z2 z3 hmk
  generalize (w3.alloc (.cells (madeCells #[.int .u8 0] (8 + l3.length)) 5)) = W1 at hH ⊢
  generalize w3.heap.size = g at hH ⊢
  generalize hM0 : 8 + l3.length = M at hH ⊢
  have ne1 := hH.hgb
  have ne2 := Ne.symm ne1
  have hM := Aside0.mk hM0
  have ic : (8 : Int) ≤ (M : Int) := by omega
  have ic2 : 8 ≤ M := by omega
  have j4 : (M = 4) = False := eq_false (by omega)
  clear hM0
  obtain ⟨z0, z1, z2, z3⟩ := box4 hH.BK
  obtain ⟨x0, f0⟩ := hH.cell 0 (by omega)
  obtain ⟨x1, f1⟩ := hH.cell 1 (by omega)
  go_region
  go_wp2
  clear z0 z1 z2 z3 x0 f0 x1 f1
  replace hH := ((hH.put 0 a0).put 1 a1).drew
  generalize hW : World.drew _ = W2 at hH ⊢
  clear hW
  obtain ⟨z0, z1, z2, z3⟩ := box4 hH.BK
  replace hH := Aside0.mk hH
  go_region_with (go_at_call 20; (with_reducible refine Calls.mono (put32_at (by first | exact hH.out | exact hH.out.drew) _ _ _ _ ?h1 ?h2 ?h3) ?_); (case h1 => omega); (case h2 => omega); (case h3 => omega); rintro e w' ⟨rfl, h'⟩; clear z0 z1 z2 z3; obtain ⟨z0, z1, z2, z3⟩ := box4 h'.BK; have n1_ := Aside0.mk h'; clear hH h'; have hH := n1_; clear n1_)
  go_wp2_with (first | ((with_reducible refine gate_builtin (b := .append) (xs := #[.tmp 28, .tmp 30]) rfl ?_); at_builtin; refine Kd.R_append_rows (Kd.int .u8) (w0 := w) w.heap.size rfl (.tmp 28) (.tmp 30) 24 5 (.int .u8 0) 1 rfl Try.underlying24 info5 rfl (by decide) (by omega) (.slice (some ⟨g, 0, none⟩) 8 M) (put32v (((List.replicate 8 0).set 0 a0).set 1 a1) 4 a2) l3 _ _ _ (fun k_ => k_ ≠ gb) (fun _ => False) rfl rfl ?aO ?aR (fun _ _ h => h) (fun _ h => h.elim) ?aF ?aB ?aS ?aL ?_; (case aR => exact Kd.C_below HR3.out hH.out.HB); (case aB => exact hH.out.HB); (case aF => intro k_ hk_; have := blk_lt hH.out.BK; omega); (case aO => exact hH.out.HO); (case aS => exact (below_size hH.out.HB)); (case aL => have h_ := hH.out.len; rw [h_]; omega); intro v142 w5 ho hb hg hat; have n0_ := Aside0.mk hb; have n1_ := Aside0.mk ho; have n2_ := Aside0.mk hg; have BK5 := Aside0.mk ((hg.block gb (blk_lt hH.out.BK) (by simp [Value.ownBlock]; exact ne1)).trans hH.out.BK)))
  obtain ⟨g5, c5, e5, gb5, gl5, _, _⟩ := Kd.R_form n1_.out (by rw [List.length_append, hH.out.len]; omega)
  subst e5
  have hl5 : (put32v (((List.replicate 8 0).set 0 a0).set 1 a1) 4 a2 ++ l3).length = 8 + l3.length := by rw [List.length_append, hH.out.len]
  have hO5 := n1_.out
  rw [hl5] at hO5 ⊢
  have hH5 : BI w w5 gb g5 _ _ c5 (8 + l3.length) LB := ⟨n0_.out, BK5.out, by rw [hLB.out]; exact hO5, gb5, Ne.symm (hO5.1 _ rfl), by rw [hLB.out]; exact hl5⟩
  have hcap := (Kd.R_reads' hO5).2.1
  clear n0_ n1_ n2_ BK5 hO5 hl5 ho hb hg hat gl5 gb5 hH z0 z1 z2 z3
  have hH := hH5
  clear hH5
  have i2 : (2 : Int) ≤ 8 + (l3.length : Int) := by omega
  have i3 : 8 + (l3.length : Int) ≤ (c5 : Int) := by omega
  have j2 : (c5 = 2) = False := eq_false (by omega)
  have hlen := Aside0.mk hH.len
  have hck2 : ∀ W, Kd.C (Kd.int .u8) W (some ⟨g5, 0, none⟩) (8 + l3.length) LB → Calls Try.prog 21 #[.slice (some ⟨g5, 0, none⟩) (8 + l3.length) c5] W fun e w' => e = .returned (.int .u16 C) ∧ Below W.heap.size W w' := fun W hr => by
    have h1 := checksum_Check.calls k (some ⟨g5, 0, none⟩) c5 LB C W (by rw [hlen.out]; exact hr) (by rw [hlen.out]; omega) hC2.out
    rw [hlen.out] at h1
    exact h1
  replace hH := Aside0.mk hH
  go_region_with (first | (go_at_call 21; (with_reducible refine Calls.mono (hck2 _ ?h1) ?_); (case h1 => first | exact (by have h_ := (Kd.R_reads' hH.out.HO).2.2; rw [hlen.out] at h_; exact h_) | exact (by have h_ := (Kd.R_reads' hH.out.drew.HO).2.2; rw [hlen.out] at h_; exact h_)); rintro e w' ⟨rfl, h'⟩; (first | have n1_ := Aside0.mk (hH.out.below h') | have n1_ := Aside0.mk (hH.out.drew.below h')); clear hH h'; have hH := n1_; clear n1_) | (go_at_call 19; (with_reducible refine Calls.mono (put16_at (by first | exact hH.out | exact hH.out.drew) _ _ _ _ ?h1 ?h2) ?_); (case h1 => omega); (case h2 => omega); rintro e w' ⟨rfl, h'⟩; have n1_ := Aside0.mk h'; clear hH h'; have hH := n1_; clear n1_))
  go_wp2
  go_ret2
  exact ⟨_, rfl, Kd.R_mono hH.out.HO (fun _ _ => trivial), hH.out.HB⟩

def ipwire_BuildIcmp.f (k : Nat) (a0_0 a0_1 a0_2 : Int) (l0_3 : List Int) : Option (List Int × Int) :=
  if l0_3.length ≤ 65527 then ((checksum_Check.f k (iHead a0_0 a0_1 a0_2 l0_3)).bind fun c => some (put16v (iHead a0_0 a0_1 a0_2 l0_3) 2 (IntKind.i64.wrap c), 0)) else if l0_3.length ≤ 140737488351232 then some (([] : List Int), 5) else none
theorem ipwire_BuildIcmp.mono : ∀ a0_0 a0_1 a0_2 l0_3 k, LeO (ipwire_BuildIcmp.f k a0_0 a0_1 a0_2 l0_3) (ipwire_BuildIcmp.f (k + 1) a0_0 a0_1 a0_2 l0_3) := by
  intro a0_0 a0_1 a0_2 l0_3 k
  unfold ipwire_BuildIcmp.f
  refine LeO.ite ?_ (LeO.refl _)
  exact LeO.bind (checksum_Check.mono _ _) (fun _ => LeO.refl _)
set_option maxHeartbeats 8000000 in
set_option maxRecDepth 100000 in
theorem icmp_err (a0 a1 a2 : Int) (A3 : Option Addr) (c3 : Nat) (l3 : List Int) (w : World) (hsz : ¬ l3.length ≤ 65527) (hm : l3.length ≤ 140737488351232) :
    Calls Try.prog 17 #[.agg #[.int .u8 a0, .int .u8 a1, .int .u32 a2, .slice A3 l3.length c3]] w
      fun e w' => e = .returned (.tuple #[.slice none 0 0, .int .i64 5]) ∧ Below w.heap.size w w' := by
  have hu40 := Try.underlying40
  have HB := Aside0.mk (Below.refl w.heap.size w)
  have hgt : (65535 : Int) < 8 + (l3.length : Int) := by omega
  go_enter Try.func17, Try.ntmps17
  go_wp2_with (first | ((with_reducible refine gate_dst (N := 1) rfl ?_); refine box_event ?hg (N := 1) ?hd (cs := #[.int .u8 a0, .int .u8 a1, .int .u32 a2, .slice A3 l3.length c3]) (t := 40) ?hr ?_; (case hd => rfl); (case hg => rfl); (case hr => first | (go_simp; done) | (go_simp; rfl)); intro gb hg w3 hbox hb; clear hg; have BK := Aside0.mk hbox; obtain ⟨z0, z1, z2, z3⟩ := box4 hbox; have n0_ := Aside0.mk (below_step HB.out hb); clear HB; have HB := n0_; clear n0_))
  go_ret2
  exact ⟨rfl, HB.out⟩
set_option maxHeartbeats 8000000 in
set_option maxRecDepth 100000 in
theorem ipwire_BuildIcmp.calls (k : Nat) (a0_0 : Int) (a0_1 : Int) (a0_2 : Int) (A0_3 : Option Addr) (c0_3 : Nat) (l0_3 : List Int) (r1 : List Int) (r2 : Int) (w : World) (hr0_3 : Kd.C (Kd.int .u8) w A0_3 l0_3.length l0_3) (hc0_3 : l0_3.length ≤ c0_3) (h : ipwire_BuildIcmp.f k a0_0 a0_1 a0_2 l0_3 = some (r1, r2)) :
    Calls Try.prog 17 #[.agg #[.int .u8 a0_0, .int .u8 a0_1, .int .u32 a0_2, .slice A0_3 l0_3.length c0_3]] w fun e w' => ∃ v0_ : Value, e = .returned (.tuple #[v0_, .int .i64 r2]) ∧ Kd.R (Kd.int .u8) 5 w' w.heap.size (fun _ => True) v0_ r1 ∧ Below w.heap.size w w' := by
  unfold ipwire_BuildIcmp.f at h
  by_cases h1 : l0_3.length ≤ 65527
  · rw [if_pos h1] at h
    obtain ⟨C, hC, h⟩ := Option.bind_eq_some_iff.mp h
    have h2 := Option.some.inj h
    obtain ⟨h2a, h2b⟩ := Prod.mk.inj h2
    subst h2a
    subst h2b
    exact icmp_walk k _ _ _ A0_3 c0_3 l0_3 C w hr0_3 hc0_3 h1 hC
  · rw [if_neg h1] at h
    by_cases h3 : l0_3.length ≤ 140737488351232
    · rw [if_pos h3] at h
      have h2 := Option.some.inj h
      obtain ⟨h2a, h2b⟩ := Prod.mk.inj h2
      subst h2a
      subst h2b
      exact (icmp_err _ _ _ A0_3 c0_3 l0_3 w h1 h3).mono fun e w' ⟨h1, h2⟩ => ⟨_, h1, Kd.R_nil _ _ _ _ _, h2⟩
    · rw [if_neg h3] at h
      cases h


end Go.Proofs.Ytghfljmoaalinaa.Q
