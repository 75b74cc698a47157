-- written for this claim out of the program's translation by a program (wip/pr.sh); Lean checks it
import Derived.Test.YtpjelffgakgjaaaQ0
import Derived.Test.YtpjelffgakgjaaaRoutesW
namespace Go.Proofs.Ytpjelffgakgjaaa.Q
open Go.RowKit Go.Proofs.YtpjelffgakgjaaaW.PrintWords Go.Proofs.YtpjelffgakgjaaaW.PrintLast Go.Proofs.YtpjelffgakgjaaaW.PrintMore
attribute [local go_sem] max2_int min2_int max_two min_two max_three min_three max_four min_four   -- for this text's walks alone
set_option linter.unusedVariables false
set_option linter.unusedSimpArgs false

/-! ### stopcocklaw10_RoutesWaits: function 5 -/
-- GIVENPART
-- IMPORT Derived.Test.YtpjelffgakgjaaaRoutesW
def stopcocklaw10_RoutesWaits.f (a0 a1 : Int) (l2 : List (List Int)) : Option Bool := if waitsOk a0 a1 l2 then some true else none
set_option maxHeartbeats 8000000 in
set_option maxRecDepth 100000 in
theorem stopcocklaw10_RoutesWaits.calls (a0 : Int) (a1 : Int) (A2 : Option Addr) (c2 : Nat) (l2 : List (List Int)) (r : Bool) (w : World) (hr2 : Kd.C (Kd.slice 5 (Kd.int .u8)) w A2 l2.length l2) (hc2 : l2.length ≤ c2) (h : stopcocklaw10_RoutesWaits.f a0 a1 l2 = some r) :
    Calls Try.prog 5 #[.int .u32 a0, .int .u64 a1, .slice A2 l2.length c2] w fun e w' => e = .returned (.bool r) ∧ Below w.heap.size w w' := by
  unfold stopcocklaw10_RoutesWaits.f at h
  by_cases c : waitsOk a0 a1 l2
  · rw [if_pos c] at h
    have h := Option.some.inj h
    subst h
    exact waits_in a0 a1 A2 c2 l2 w hr2 hc2 c
  · rw [if_neg c] at h
    cases h


/-- THE ONE PURE STATEMENT of stopcocklaw10_RoutesWaits. -/
def stopcocklaw10_RoutesWaits.Pure : Prop := ∀ (a0 : Int) (a1 : Int) (l2 : List (List Int)), (Lit.int .u32 a0).wf = true → (Lit.int .u64 a1).wf = true → (l2.length * 24 ≤ 140737488351232 ∧ ∀ x ∈ l2, (fun l => l.length * 1 ≤ 140737488351232 ∧ ∀ x ∈ l, (fun x => (Lit.int .u8 x).wf = true) x) x) → stopcocklaw10_RoutesWaits.f a0 a1 l2 = some true

end Go.Proofs.Ytpjelffgakgjaaa.Q
