/- The statement IpwireOwnSaid: whatever the input that can be read, the law returns true, and its arguments read as before. No condition. -/
import Derived.Test.YtghfljmoaalinaaRows
import Derived.Test.YtghfljmoaalinaaQ12
import Derived.Test.YtghfljmoaalinaaPureIpwireOwn
import Derived.Test.YtghfljmoaalinaaOpen
import Derived.WalkKit
import Derived.ProofKit
import Derived.OpenShut
import Derived.ShutString
import Derived.ChangeOld
import Derived.Below
import Derived.SizedLaws
namespace Go.Proofs.Ytghfljmoaalinaa.ipwireOwn
open Go.ChangeShapes Go.WideShapes Go.ChangeAt Go.RowKit Go.Proofs.YtghfljmoaalinaaW.PrintWords Go.Proofs.YtghfljmoaalinaaW.Opened
open Go.ChangeMaps (open_string shut_string)
open Go.Proofs.Ytghfljmoaalinaa.Q
set_option linter.unusedVariables false
theorem own : ownKnob Try.prog.godebug = none := by kernel_rfl
theorem laidOut : laidOutB Try.prog = true := by kernel_rfl
set_option maxRecDepth 100000 in
theorem lifted (os : Os) (started : os.Started) (H : Type) (enc : TypeId × Value → H) :
    ReturnsInHanded {} Try.checked os 6 .any (Rows.ipwireOwnSpec.pre6 enc Try.prog Try.f6 Rows.ipwireOwnRow.domain false) (Rows.ipwireOwnSpec.post enc Try.prog Try.f6 false true false false) := by
  refine returnsInHanded_of_change_sized (C := Try.checked) own started (by kernel_rfl) Try.func6
    (ChangeSpec.witness6 (enc := enc) (C := Try.checked) false ⟨#[], #[(.agg #[(.int .u8 0), (.int .u16 0), (.bool false), (.bool false), (.int .i64 0), (.int .u8 0), (.int .u8 0), (.int .u32 0), (.int .u32 0), (.slice none 0 0), (.slice none 0 0)]), (.agg #[(.int .u8 0), (.int .u8 0), (.int .u32 0), (.slice none 0 0)])], []⟩ 8 (by kernel_rfl) (by kernel_rfl) (by kernel_rfl) (by kernel_rfl)) ?_
  intro W base args ds gs before hval0 hW hcnd hsz0 _
  have hsz : (DataW.weightsEach Try.prog (Try.f6.params.toList ++ Rows.ipwireOwnSpec.plain.varTypes Try.prog) (ds ++ gs)).all (· ≤ reachBytes) = true := hsz0
  have hval : ∀ (j : Nat) t v, Try.f6.params[j]? = some t → args[j]? = some v → Value.okWide Try.prog W .any base t v := hval0
  have hW' := hW
  obtain ⟨p, q, hA0, hV, rfl, hfz, hnd⟩ := hW
  have hA : DataW.TrodAll enc Try.prog W 0 (fun _ => true) true Try.f6.params.toList args.toList ds p := hA0
  rw [Try.params6] at hA hval hsz
  obtain ⟨v0, vs0, d0, ds0, p0, q0, hargs, rfl, rfl, h0, r0⟩ := trodAll_cons hA
  obtain ⟨v1, vs1, d1, ds1, p1, q1, rfl, rfl, rfl, h1, r1⟩ := trodAll_cons r0
  obtain ⟨rfl, rfl, rfl⟩ := trodAll_nil r1
  obtain rfl : args = #[v0, v1] := by cases args; simp_all
  obtain ⟨rfl, rfl⟩ := trodVars_none hV
  have lt0 : ∀ x ∈ p0, x.block < W.heap.size := by obtain ⟨m, hm⟩ := h0; exact DataW.trod_lt m _ _ _ hm
  obtain ⟨x0, K0, wf0_⟩ := opened op26 hsz (j := 0) rfl rfl h0
  obtain ⟨A0_9, c0_9, A0_10, c0_10, e0, hc0_9, hr0_9, hc0_10, hr0_10⟩ := k26_open K0
  obtain rfl := one_of_cells_struct Try.underlying26 (hval 0 26 v0 rfl rfl) e0
  have lt1 : ∀ x ∈ p1, x.block < W.heap.size := by obtain ⟨m, hm⟩ := h1; exact DataW.trod_lt m _ _ _ hm
  obtain ⟨x1, K1, wf1_⟩ := opened op40 hsz (j := 1) rfl rfl h1
  obtain ⟨A1_3, c1_3, e1, hc1_3, hr1_3⟩ := k40_open K1
  obtain rfl := one_of_cells_struct Try.underlying40 (hval 1 40 v1 rfl rfl) e1
  clear hA0 hval0 hsz0 hsz
  obtain ⟨k, h⟩ := Pure.IpwireOwn x0.f0 x0.f1 x0.f2 x0.f3 x0.f4 x0.f5 x0.f6 x0.f7 x0.f8 x0.f9 x0.f10 x1.f0 x1.f1 x1.f2 x1.f3 wf0_ wf1_
  refine (stopcocklaw04_IpwireOwn.calls k x0.f0 x0.f1 x0.f2 x0.f3 x0.f4 x0.f5 x0.f6 x0.f7 x0.f8 A0_9 c0_9 x0.f9 A0_10 c0_10 x0.f10 x1.f0 x1.f1 x1.f2 A1_3 c1_3 x1.f3 true W hr0_9 hc0_9 hr0_10 hc0_10 hr1_3 hc1_3 h).mono fun e W' ⟨he, bel0⟩ => ?_
  have bel : Below W.heap.size W W' := bel0
  subst he
  exact ⟨_, rfl, _, _, _, [], _, [], hW', trodAll_mk1 (shut_bool Try.underlying4 _), (trodAll_cons_mk (Below.trod laidOut (by kernel_rfl) (of_decide_eq_true (by kernel_rfl)) h0 bel lt0) (trodAll_cons_mk (Below.trod laidOut (by kernel_rfl) (of_decide_eq_true (by kernel_rfl)) h1 bel lt1) trodAll_mk0)), rfl, bel.frame _, fun h => by cases h⟩
theorem over : Rows.ipwireOwnRow.holds Try.pinned (OpenSpec.ofChange Rows.ipwireOwnSpec) :=
  OpenClaim.holds_of_wide 6 Try.f6 rfl rfl rfl rfl rfl rfl rfl ⟨rfl, rfl, rfl, rfl, rfl⟩ rfl rfl rfl rfl rfl (by kernel_rfl) Try.func6 (by kernel_rfl)
    (of_decide_eq_true (by kernel_rfl)) (by unfold Func.isWrapper; first | (rw [if_pos (by decide +kernel)]; kernel_rfl) | (rw [if_neg (by decide +kernel)]; exact ⟨rfl, rfl⟩))
    (fun os started H enc _ => lifted os started H enc)
theorem proved : Rows.IpwireOwnSaid := over
#print axioms proved
end Go.Proofs.Ytghfljmoaalinaa.ipwireOwn
namespace Go.Proofs.Ytghfljmoaalinaa
/-- The row, under a short name, for the claim. -/
theorem ipwireOwn_holds : Rows.IpwireOwnSaid := ipwireOwn.proved
end Go.Proofs.Ytghfljmoaalinaa
