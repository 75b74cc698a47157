-- written for this claim out of the program's translation by a program (wip/pr.sh); Lean checks it
import Derived.Test.YtpjelffgakgjaaaQ0
import Derived.Test.YtpjelffgakgjaaaRoutesL
namespace Go.Proofs.Ytpjelffgakgjaaa.Q
open Go.RowKit Go.Proofs.YtpjelffgakgjaaaW.PrintWords Go.Proofs.YtpjelffgakgjaaaW.PrintLast Go.Proofs.YtpjelffgakgjaaaW.PrintMore
attribute [local go_sem] max2_int min2_int max_two min_two max_three min_three max_four min_four   -- for this text's walks alone
set_option linter.unusedVariables false
set_option linter.unusedSimpArgs false

/-! ### stopcocklaw10_RoutesLongest: function 3 -/
-- GIVENPART
-- IMPORT Derived.Test.YtpjelffgakgjaaaRoutesL
def stopcocklaw10_RoutesLongest.f (l0 : List S32) (a1 : Int) : Option Bool := if longOk l0 a1 then some true else none
set_option maxHeartbeats 8000000 in
set_option maxRecDepth 100000 in
theorem stopcocklaw10_RoutesLongest.calls (A0 : Option Addr) (c0 : Nat) (l0 : List (S32)) (a1 : Int) (r : Bool) (w : World) (hr0 : Kd.C k32 w A0 l0.length l0) (hc0 : l0.length ≤ c0) (h : stopcocklaw10_RoutesLongest.f l0 a1 = some r) :
    Calls Try.prog 3 #[.slice A0 l0.length c0, .int .u32 a1] w fun e w' => e = .returned (.bool r) ∧ Below w.heap.size w w' := by
  unfold stopcocklaw10_RoutesLongest.f at h
  by_cases c : longOk l0 a1
  · rw [if_pos c] at h
    have h := Option.some.inj h
    subst h
    exact long_in A0 c0 l0 a1 w hr0 hc0 c
  · rw [if_neg c] at h
    cases h


/-- THE ONE PURE STATEMENT of stopcocklaw10_RoutesLongest. -/
def stopcocklaw10_RoutesLongest.Pure : Prop := ∀ (l0 : List (S32)) (a1 : Int), (l0.length * 24 ≤ 140737488351232 ∧ ∀ x ∈ l0, wf32 x) → (Lit.int .u32 a1).wf = true → stopcocklaw10_RoutesLongest.f l0 a1 = some true

end Go.Proofs.Ytpjelffgakgjaaa.Q
