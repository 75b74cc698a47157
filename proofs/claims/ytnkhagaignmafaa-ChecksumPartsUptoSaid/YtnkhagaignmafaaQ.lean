-- written for this claim out of the program's translation by a program (wip/pr.sh); Lean checks it
import Derived.Test.YtnkhagaignmafaaQ0
import Derived.Test.YtnkhagaignmafaaQ1
import Derived.Test.YtnkhagaignmafaaQ2
import Derived.Test.YtnkhagaignmafaaQ3
import Derived.Test.YtnkhagaignmafaaQ4
import Derived.Test.YtnkhagaignmafaaQ5
namespace Go.Proofs.Ytnkhagaignmafaa.Q
open Go.RowKit Go.Proofs.YtnkhagaignmafaaW.PrintWords Go.Proofs.YtnkhagaignmafaaW.PrintLast Go.Proofs.YtnkhagaignmafaaW.PrintMore
attribute [local go_sem] max2_int min2_int max_two min_two max_three min_three max_four min_four   -- for this text's walks alone
set_option linter.unusedVariables false
set_option linter.unusedSimpArgs false

end Go.Proofs.Ytnkhagaignmafaa.Q
