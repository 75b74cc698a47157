/- The statement RoutesWaitsSaid: whatever the input that can be read, the law returns true, and its arguments read as before. No condition. -/
import Derived.Test.YtpjelffgakgjaaaRows
import Derived.Test.YtpjelffgakgjaaaQ8
import Derived.Test.YtpjelffgakgjaaaPureRoutesWaits
import Derived.Test.YtpjelffgakgjaaaOpen
import Derived.WalkKit
import Derived.ProofKit
import Derived.OpenShut
import Derived.ShutString
import Derived.ChangeOld
import Derived.Below
import Derived.SizedLaws
namespace Go.Proofs.Ytpjelffgakgjaaa.routesWaits
open Go.ChangeShapes Go.WideShapes Go.ChangeAt Go.RowKit Go.Proofs.YtpjelffgakgjaaaW.PrintWords Go.Proofs.YtpjelffgakgjaaaW.Opened
open Go.ChangeMaps (open_string shut_string)
open Go.Proofs.Ytpjelffgakgjaaa.Q
set_option linter.unusedVariables false
theorem own : ownKnob Try.prog.godebug = none := by kernel_rfl
theorem laidOut : laidOutB Try.prog = true := by kernel_rfl
set_option maxRecDepth 100000 in
theorem lifted (os : Os) (started : os.Started) (H : Type) (enc : TypeId × Value → H) :
    ReturnsInHanded {} Try.checked os 5 .any (Rows.routesWaitsSpec.pre6 enc Try.prog Try.f5 Rows.routesWaitsRow.domain false) (Rows.routesWaitsSpec.post enc Try.prog Try.f5 false true false false) := by
  refine returnsInHanded_of_change_sized (C := Try.checked) own started (by kernel_rfl) Try.func5
    (ChangeSpec.witness6 (enc := enc) (C := Try.checked) false ⟨#[], #[(.int .u32 0), (.int .u64 0), (.slice none 0 0)], []⟩ 8 (by kernel_rfl) (by kernel_rfl) (by kernel_rfl) (by kernel_rfl)) ?_
  intro W base args ds gs before hval0 hW hcnd hsz0 _
  have hsz : (DataW.weightsEach Try.prog (Try.f5.params.toList ++ Rows.routesWaitsSpec.plain.varTypes Try.prog) (ds ++ gs)).all (· ≤ reachBytes) = true := hsz0
  have hval : ∀ (j : Nat) t v, Try.f5.params[j]? = some t → args[j]? = some v → Value.okWide Try.prog W .any base t v := hval0
  have hW' := hW
  obtain ⟨p, q, hA0, hV, rfl, hfz, hnd⟩ := hW
  have hA : DataW.TrodAll enc Try.prog W 0 (fun _ => true) true Try.f5.params.toList args.toList ds p := hA0
  rw [Try.params5] at hA hval hsz
  obtain ⟨v0, vs0, d0, ds0, p0, q0, hargs, rfl, rfl, h0, r0⟩ := trodAll_cons hA
  obtain ⟨v1, vs1, d1, ds1, p1, q1, rfl, rfl, rfl, h1, r1⟩ := trodAll_cons r0
  obtain ⟨v2, vs2, d2, ds2, p2, q2, rfl, rfl, rfl, h2, r2⟩ := trodAll_cons r1
  obtain ⟨rfl, rfl, rfl⟩ := trodAll_nil r2
  obtain rfl : args = #[v0, v1, v2] := by cases args; simp_all
  obtain ⟨rfl, rfl⟩ := trodVars_none hV
  have lt0 : ∀ x ∈ p0, x.block < W.heap.size := by obtain ⟨m, hm⟩ := h0; exact DataW.trod_lt m _ _ _ hm
  obtain ⟨x0, K0, wf0_⟩ := opened (Opens.int Try.underlying23) hsz (j := 0) rfl rfl h0
  obtain rfl := one_of_cells Try.underlying23 (hval 0 23 v0 rfl rfl) K0
  have lt1 : ∀ x ∈ p1, x.block < W.heap.size := by obtain ⟨m, hm⟩ := h1; exact DataW.trod_lt m _ _ _ hm
  obtain ⟨x1, K1, wf1_⟩ := opened (Opens.int Try.underlying33) hsz (j := 1) rfl rfl h1
  obtain rfl := one_of_cells Try.underlying33 (hval 1 33 v1 rfl rfl) K1
  have lt2 : ∀ x ∈ p2, x.block < W.heap.size := by obtain ⟨m, hm⟩ := h2; exact DataW.trod_lt m _ _ _ hm
  obtain ⟨x2, K2, wf2_⟩ := opened (Opens.slice (B := 24) Try.underlying50 (by kernel_rfl) (by kernel_rfl) (Opens.slice (B := 1) Try.underlying56 (by kernel_rfl) (by kernel_rfl) (Opens.int Try.underlying5))) hsz (j := 2) rfl rfl h2
  obtain ⟨A2, c2, e2, hc2, hr2⟩ := K2
  obtain rfl := one_of_cells_slice Try.underlying50 (hval 2 50 v2 rfl rfl) e2
  clear hA0 hval0 hsz0 hsz
  have h := Pure.RoutesWaits x0 x1 x2 wf0_ wf1_ wf2_
  refine (stopcocklaw10_RoutesWaits.calls x0 x1 A2 c2 x2 true W hr2 hc2 h).mono fun e W' ⟨he, bel0⟩ => ?_
  have bel : Below W.heap.size W W' := bel0
  subst he
  exact ⟨_, rfl, _, _, _, [], _, [], hW', trodAll_mk1 (shut_bool Try.underlying4 _), (trodAll_cons_mk (Below.trod laidOut (by kernel_rfl) (of_decide_eq_true (by kernel_rfl)) h0 bel lt0) (trodAll_cons_mk (Below.trod laidOut (by kernel_rfl) (of_decide_eq_true (by kernel_rfl)) h1 bel lt1) (trodAll_cons_mk (Below.trod laidOut (by kernel_rfl) (of_decide_eq_true (by kernel_rfl)) h2 bel lt2) trodAll_mk0))), rfl, bel.frame _, fun h => by cases h⟩
theorem over : Rows.routesWaitsRow.holds Try.pinned (OpenSpec.ofChange Rows.routesWaitsSpec) :=
  OpenClaim.holds_of_wide 5 Try.f5 rfl rfl rfl rfl rfl rfl rfl ⟨rfl, rfl, rfl, rfl, rfl⟩ rfl rfl rfl rfl rfl (by kernel_rfl) Try.func5 (by kernel_rfl)
    (of_decide_eq_true (by kernel_rfl)) (by unfold Func.isWrapper; first | (rw [if_pos (by decide +kernel)]; kernel_rfl) | (rw [if_neg (by decide +kernel)]; exact ⟨rfl, rfl⟩))
    (fun os started H enc _ => lifted os started H enc)
theorem proved : Rows.RoutesWaitsSaid := over
#print axioms proved
end Go.Proofs.Ytpjelffgakgjaaa.routesWaits
namespace Go.Proofs.Ytpjelffgakgjaaa
/-- The row, under a short name, for the claim. -/
theorem routesWaits_holds : Rows.RoutesWaitsSaid := routesWaits.proved
end Go.Proofs.Ytpjelffgakgjaaa
