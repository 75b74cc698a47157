/- The plain law of FqcodelNew: a flow that had nothing goes ahead of those that wait. No condition. -/
import Derived.Test.YtepolgapbbaklaaQ4
namespace Go.Proofs.Ytepolgapbbaklaa.Pure
open Go.RowKit Go.Proofs.Ytepolgapbbaklaa.Q Go.Proofs.YtepolgapbbaklaaW.PrintWords Go.Proofs.YtepolgapbbaklaaW.PrintLast
theorem FqcodelNew : stopcocklaw13_FqcodelNew.Pure := by
  intro a0 a1 a2 _ _ _
  rfl
end Go.Proofs.Ytepolgapbbaklaa.Pure
