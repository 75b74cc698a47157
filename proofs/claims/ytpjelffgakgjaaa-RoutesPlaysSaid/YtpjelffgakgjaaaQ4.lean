-- written for this claim out of the program's translation by a program (wip/pr.sh); Lean checks it
import Derived.Test.YtpjelffgakgjaaaQ0
import Derived.Test.YtpjelffgakgjaaaRoutesP
namespace Go.Proofs.Ytpjelffgakgjaaa.Q
open Go.RowKit Go.Proofs.YtpjelffgakgjaaaW.PrintWords Go.Proofs.YtpjelffgakgjaaaW.PrintLast Go.Proofs.YtpjelffgakgjaaaW.PrintMore
attribute [local go_sem] max2_int min2_int max_two min_two max_three min_three max_four min_four   -- for this text's walks alone
set_option linter.unusedVariables false
set_option linter.unusedSimpArgs false

/-! ### stopcocklaw10_RoutesPlays: function 4 -/
-- GIVENPART
-- IMPORT Derived.Test.YtpjelffgakgjaaaRoutesP
def stopcocklaw10_RoutesPlays.f (l0 : List S42) : Option Bool := if playsOk l0 then some true else none
set_option maxHeartbeats 8000000 in
set_option maxRecDepth 100000 in
theorem stopcocklaw10_RoutesPlays.calls (A0 : Option Addr) (c0 : Nat) (l0 : List (S42)) (r : Bool) (w : World) (hr0 : Kd.C k42 w A0 l0.length l0) (hc0 : l0.length ≤ c0) (h : stopcocklaw10_RoutesPlays.f l0 = some r) :
    Calls Try.prog 4 #[.slice A0 l0.length c0] w fun e w' => e = .returned (.bool r) ∧ Below w.heap.size w w' := by
  unfold stopcocklaw10_RoutesPlays.f at h
  by_cases c : playsOk l0
  · rw [if_pos c] at h
    have h := Option.some.inj h
    subst h
    exact plays_in A0 c0 l0 w hr0 hc0 c
  · rw [if_neg c] at h
    cases h


/-- THE ONE PURE STATEMENT of stopcocklaw10_RoutesPlays. -/
def stopcocklaw10_RoutesPlays.Pure : Prop := ∀ (l0 : List (S42)), (l0.length * 32 ≤ 140737488351232 ∧ ∀ x ∈ l0, wf42 x) → stopcocklaw10_RoutesPlays.f l0 = some true

end Go.Proofs.Ytpjelffgakgjaaa.Q
