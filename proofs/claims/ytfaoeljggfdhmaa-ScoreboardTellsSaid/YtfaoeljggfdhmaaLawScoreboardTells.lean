/- The statement ScoreboardTellsSaid: whatever the input that can be read, the law returns true, and its arguments read as before. No condition. -/
import Derived.Test.YtfaoeljggfdhmaaRows
import Derived.Test.YtfaoeljggfdhmaaQ16
import Derived.Test.YtfaoeljggfdhmaaPureScoreboardTells
import Derived.Test.YtfaoeljggfdhmaaOpen
import Derived.WalkKit
import Derived.ProofKit
import Derived.OpenShut
import Derived.ShutString
import Derived.ChangeOld
import Derived.Below
import Derived.SizedLaws
namespace Go.Proofs.Ytfaoeljggfdhmaa.scoreboardTells
open Go.ChangeShapes Go.WideShapes Go.ChangeAt Go.RowKit Go.Proofs.YtfaoeljggfdhmaaW.PrintWords Go.Proofs.YtfaoeljggfdhmaaW.Opened
open Go.ChangeMaps (open_string shut_string)
open Go.Proofs.Ytfaoeljggfdhmaa.Q
set_option linter.unusedVariables false
theorem own : ownKnob Try.prog.godebug = none := by kernel_rfl
theorem laidOut : laidOutB Try.prog = true := by kernel_rfl
set_option maxRecDepth 100000 in
theorem lifted (os : Os) (started : os.Started) (H : Type) (enc : TypeId × Value → H) :
    ReturnsInHanded {} Try.checked os 5 .any (Rows.scoreboardTellsSpec.pre6 enc Try.prog Try.f5 Rows.scoreboardTellsRow.domain false) (Rows.scoreboardTellsSpec.post enc Try.prog Try.f5 false true false false) := by
  refine returnsInHanded_of_change_sized (C := Try.checked) own started (by kernel_rfl) Try.func5
    (ChangeSpec.witness6 (enc := enc) (C := Try.checked) false ⟨#[], #[(.agg #[(.int .u32 0), (.int .u32 0), (.int .u32 0), (.slice none 0 0)]), (.int .i64 0), (.int .u32 0), (.int .i64 0), (.bool false)], []⟩ 8 (by kernel_rfl) (by kernel_rfl) (by kernel_rfl) (by kernel_rfl)) ?_
  intro W base args ds gs before hval0 hW hcnd hsz0 _
  have hsz : (DataW.weightsEach Try.prog (Try.f5.params.toList ++ Rows.scoreboardTellsSpec.plain.varTypes Try.prog) (ds ++ gs)).all (· ≤ reachBytes) = true := hsz0
  have hval : ∀ (j : Nat) t v, Try.f5.params[j]? = some t → args[j]? = some v → Value.okWide Try.prog W .any base t v := hval0
  have hW' := hW
  obtain ⟨p, q, hA0, hV, rfl, hfz, hnd⟩ := hW
  have hA : DataW.TrodAll enc Try.prog W 0 (fun _ => true) true Try.f5.params.toList args.toList ds p := hA0
  rw [Try.params5] at hA hval hsz
  obtain ⟨v0, vs0, d0, ds0, p0, q0, hargs, rfl, rfl, h0, r0⟩ := trodAll_cons hA
  obtain ⟨v1, vs1, d1, ds1, p1, q1, rfl, rfl, rfl, h1, r1⟩ := trodAll_cons r0
  obtain ⟨v2, vs2, d2, ds2, p2, q2, rfl, rfl, rfl, h2, r2⟩ := trodAll_cons r1
  obtain ⟨v3, vs3, d3, ds3, p3, q3, rfl, rfl, rfl, h3, r3⟩ := trodAll_cons r2
  obtain ⟨v4, vs4, d4, ds4, p4, q4, rfl, rfl, rfl, h4, r4⟩ := trodAll_cons r3
  obtain ⟨rfl, rfl, rfl⟩ := trodAll_nil r4
  obtain rfl : args = #[v0, v1, v2, v3, v4] := by cases args; simp_all
  obtain ⟨rfl, rfl⟩ := trodVars_none hV
  have lt0 : ∀ x ∈ p0, x.block < W.heap.size := by obtain ⟨m, hm⟩ := h0; exact DataW.trod_lt m _ _ _ hm
  obtain ⟨x0, K0, wf0_⟩ := opened op25 hsz (j := 0) rfl rfl h0
  obtain ⟨A0_3, c0_3, e0, hc0_3, hr0_3⟩ := k25_open K0
  obtain rfl := one_of_cells_struct Try.underlying25 (hval 0 25 v0 rfl rfl) e0
  have lt1 : ∀ x ∈ p1, x.block < W.heap.size := by obtain ⟨m, hm⟩ := h1; exact DataW.trod_lt m _ _ _ hm
  obtain ⟨x1, K1, wf1_⟩ := opened (Opens.int Try.underlying3) hsz (j := 1) rfl rfl h1
  obtain rfl := one_of_cells Try.underlying3 (hval 1 3 v1 rfl rfl) K1
  have lt2 : ∀ x ∈ p2, x.block < W.heap.size := by obtain ⟨m, hm⟩ := h2; exact DataW.trod_lt m _ _ _ hm
  obtain ⟨x2, K2, wf2_⟩ := opened (Opens.int Try.underlying22) hsz (j := 2) rfl rfl h2
  obtain rfl := one_of_cells Try.underlying22 (hval 2 22 v2 rfl rfl) K2
  have lt3 : ∀ x ∈ p3, x.block < W.heap.size := by obtain ⟨m, hm⟩ := h3; exact DataW.trod_lt m _ _ _ hm
  obtain ⟨x3, K3, wf3_⟩ := opened (Opens.int Try.underlying3) hsz (j := 3) rfl rfl h3
  obtain rfl := one_of_cells Try.underlying3 (hval 3 3 v3 rfl rfl) K3
  have lt4 : ∀ x ∈ p4, x.block < W.heap.size := by obtain ⟨m, hm⟩ := h4; exact DataW.trod_lt m _ _ _ hm
  obtain ⟨x4, K4, wf4_⟩ := opened (Opens.bool Try.underlying4) hsz (j := 4) rfl rfl h4
  obtain rfl := one_of_cells_bool Try.underlying4 (hval 4 4 v4 rfl rfl) K4
  clear hA0 hval0 hsz0 hsz
  have h := Pure.ScoreboardTells x0.f0 x0.f1 x0.f2 x0.f3 x1 x2 x3 x4 wf0_ wf1_ wf2_ wf3_
  refine (stopcocklaw17_ScoreboardTells.calls x0.f0 x0.f1 x0.f2 A0_3 c0_3 x0.f3 x1 x2 x3 x4 true W hr0_3 hc0_3 h).mono fun e W' ⟨he, bel0⟩ => ?_
  have bel : Below W.heap.size W W' := bel0
  subst he
  exact ⟨_, rfl, _, _, _, [], _, [], hW', trodAll_mk1 (shut_bool Try.underlying4 _), (trodAll_cons_mk (Below.trod laidOut (by kernel_rfl) (of_decide_eq_true (by kernel_rfl)) h0 bel lt0) (trodAll_cons_mk (Below.trod laidOut (by kernel_rfl) (of_decide_eq_true (by kernel_rfl)) h1 bel lt1) (trodAll_cons_mk (Below.trod laidOut (by kernel_rfl) (of_decide_eq_true (by kernel_rfl)) h2 bel lt2) (trodAll_cons_mk (Below.trod laidOut (by kernel_rfl) (of_decide_eq_true (by kernel_rfl)) h3 bel lt3) (trodAll_cons_mk (Below.trod laidOut (by kernel_rfl) (of_decide_eq_true (by kernel_rfl)) h4 bel lt4) trodAll_mk0))))), rfl, bel.frame _, fun h => by cases h⟩
theorem over : Rows.scoreboardTellsRow.holds Try.pinned (OpenSpec.ofChange Rows.scoreboardTellsSpec) :=
  OpenClaim.holds_of_wide 5 Try.f5 rfl rfl rfl rfl rfl rfl rfl ⟨rfl, rfl, rfl, rfl, rfl⟩ rfl rfl rfl rfl rfl (by kernel_rfl) Try.func5 (by kernel_rfl)
    (of_decide_eq_true (by kernel_rfl)) (by unfold Func.isWrapper; first | (rw [if_pos (by decide +kernel)]; kernel_rfl) | (rw [if_neg (by decide +kernel)]; exact ⟨rfl, rfl⟩))
    (fun os started H enc _ => lifted os started H enc)
theorem proved : Rows.ScoreboardTellsSaid := over
#print axioms proved
end Go.Proofs.Ytfaoeljggfdhmaa.scoreboardTells
namespace Go.Proofs.Ytfaoeljggfdhmaa
/-- The row, under a short name, for the claim. -/
theorem scoreboardTells_holds : Rows.ScoreboardTellsSaid := scoreboardTells.proved
end Go.Proofs.Ytfaoeljggfdhmaa
