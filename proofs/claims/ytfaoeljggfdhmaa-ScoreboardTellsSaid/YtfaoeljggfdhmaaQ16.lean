-- written for this claim out of the program's translation by a program (wip/pr.sh); Lean checks it
import Derived.Test.YtfaoeljggfdhmaaQ0
import Derived.Test.YtfaoeljggfdhmaaTellsF
namespace Go.Proofs.Ytfaoeljggfdhmaa.Q
open Go.RowKit Go.Proofs.YtfaoeljggfdhmaaW.PrintWords Go.Proofs.YtfaoeljggfdhmaaW.PrintLast Go.Proofs.YtfaoeljggfdhmaaW.PrintMore
attribute [local go_sem] max2_int min2_int max_two min_two max_three min_three max_four min_four   -- for this text's walks alone
set_option linter.unusedVariables false
set_option linter.unusedSimpArgs false

/-! ### stopcocklaw17_ScoreboardTells: function 5 -/
-- GIVENPART
-- IMPORT Derived.Test.YtfaoeljggfdhmaaTellsF
def stopcocklaw17_ScoreboardTells.f (a0 a1 a2 : Int) (l3 : List S35) (mss seq n : Int) (resc : Bool) : Option Bool := if tellsB (l3.length + 9000) a0 a1 a2 l3 mss seq n resc = true then some true else none
set_option maxHeartbeats 8000000 in
set_option maxRecDepth 100000 in
theorem stopcocklaw17_ScoreboardTells.calls (a0_0 : Int) (a0_1 : Int) (a0_2 : Int) (A0_3 : Option Addr) (c0_3 : Nat) (l0_3 : List (S35)) (a1 : Int) (a2 : Int) (a3 : Int) (a4 : Bool) (r : Bool) (w : World) (hr0_3 : Kd.C k35 w A0_3 l0_3.length l0_3) (hc0_3 : l0_3.length ≤ c0_3) (h : stopcocklaw17_ScoreboardTells.f a0_0 a0_1 a0_2 l0_3 a1 a2 a3 a4 = some r) :
    Calls Try.prog 5 #[.agg #[.int .u32 a0_0, .int .u32 a0_1, .int .u32 a0_2, .slice A0_3 l0_3.length c0_3], .int .i64 a1, .int .u32 a2, .int .i64 a3, .bool a4] w fun e w' => e = .returned (.bool r) ∧ Below w.heap.size w w' := by
  unfold stopcocklaw17_ScoreboardTells.f at h
  by_cases c : tellsB (l0_3.length + 9000) a0_0 a0_1 a0_2 l0_3 a1 a2 a3 a4 = true
  · rw [if_pos c] at h
    have h := Option.some.inj h
    subst h
    exact tells_go _ a0_0 a0_1 a0_2 A0_3 c0_3 l0_3 a1 a2 a3 a4 w hr0_3 hc0_3 c
  · rw [if_neg c] at h
    cases h


/-- THE ONE PURE STATEMENT of stopcocklaw17_ScoreboardTells. -/
def stopcocklaw17_ScoreboardTells.Pure : Prop := ∀ (a0_0 : Int) (a0_1 : Int) (a0_2 : Int) (l0_3 : List (S35)) (a1 : Int) (a2 : Int) (a3 : Int) (a4 : Bool), wf25 (⟨a0_0, a0_1, a0_2, l0_3⟩ : S25) → (Lit.int .i64 a1).wf = true → (Lit.int .u32 a2).wf = true → (Lit.int .i64 a3).wf = true → stopcocklaw17_ScoreboardTells.f a0_0 a0_1 a0_2 l0_3 a1 a2 a3 a4 = some true

end Go.Proofs.Ytfaoeljggfdhmaa.Q
