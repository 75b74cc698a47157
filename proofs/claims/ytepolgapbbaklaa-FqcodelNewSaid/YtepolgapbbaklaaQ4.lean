-- written for this claim out of the program's translation by a program (wip/pr.sh); Lean checks it
import Derived.Test.YtepolgapbbaklaaQ0
import Derived.Test.YtepolgapbbaklaaFqK
namespace Go.Proofs.Ytepolgapbbaklaa.Q
open Go.RowKit Go.Proofs.YtepolgapbbaklaaW.PrintWords Go.Proofs.YtepolgapbbaklaaW.PrintLast Go.Proofs.YtepolgapbbaklaaW.PrintMore
attribute [local go_sem] max2_int min2_int max_two min_two max_three min_three max_four min_four   -- for this text's walks alone
set_option linter.unusedVariables false
set_option linter.unusedSimpArgs false

/-! ### stopcocklaw13_FqcodelNew: function 7 -/
-- GIVENPART
-- IMPORT Derived.Test.YtepolgapbbaklaaFqK
def stopcocklaw13_FqcodelNew.f (a0 : Int) (a1 : Int) (a2 : Int) : Option Bool := some true
set_option maxHeartbeats 8000000 in
set_option maxRecDepth 100000 in
theorem stopcocklaw13_FqcodelNew.calls (a0 : Int) (a1 : Int) (a2 : Int) (r : Bool) (w : World) (h : stopcocklaw13_FqcodelNew.f a0 a1 a2 = some r) :
    Calls Try.prog 7 #[.int .i64 a0, .int .i64 a1, .int .i64 a2] w fun e w' => e = .returned (.bool r) ∧ Below w.heap.size w w' := by
  unfold stopcocklaw13_FqcodelNew.f at h
  have h := Option.some.inj h
  subst h
  exact new_in a0 a1 a2 w


/-- THE ONE PURE STATEMENT of stopcocklaw13_FqcodelNew. -/
def stopcocklaw13_FqcodelNew.Pure : Prop := ∀ (a0 : Int) (a1 : Int) (a2 : Int), (Lit.int .i64 a0).wf = true → (Lit.int .i64 a1).wf = true → (Lit.int .i64 a2).wf = true → stopcocklaw13_FqcodelNew.f a0 a1 a2 = some true

end Go.Proofs.Ytepolgapbbaklaa.Q
