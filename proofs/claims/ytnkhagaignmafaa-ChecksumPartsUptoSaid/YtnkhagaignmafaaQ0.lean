-- written for this claim out of the program's translation by a program (wip/pr.sh); Lean checks it
import Derived.Test.YtnkhagaignmafaaProg
import Derived.Below
import Derived.Deep.Draws
import Derived.Deep.AppendLies
import Derived.Maps.AppendAt
import Derived.OwnWalk
import Derived.Laws.BytesArg
import Derived.Laws.MakeOwn
import Derived.Laws.OwnMore
import Derived.Deep.OwnRows
import Derived.Tactics
import Derived.Lib.ConvBytes
import Derived.Laws.Slices
import Derived.WalkKit
import Derived.KernelRfl
import Derived.RowKit3
import Derived.Deep.LoopGhost
import Derived.Deep.QuietTactic
import Derived.BigQuiet
import Derived.WideLaws
import Derived.Deep.DeepCutAuto
import Derived.Deep.CutBlock
import Derived.Deep.RegionHeld3
import Derived.Laws.Rows
import Derived.Lib.AppendStr
import Derived.ArgAppend
import Derived.Laws.IdiomCopy
import Derived.OrdersHeld
import Derived.Laws.BitsLemmas
import Derived.RowKit
import Derived.Test.YtnkhagaignmafaaWWords
import Derived.Test.YtnkhagaignmafaaWLast
import Derived.Test.YtnkhagaignmafaaWTab
import Derived.Test.YtnkhagaignmafaaWFour
import Derived.Test.YtnkhagaignmafaaWQPut
import Derived.Test.YtnkhagaignmafaaWApart
import Derived.Test.YtnkhagaignmafaaWArr
import Derived.Test.YtnkhagaignmafaaWZeros
import Derived.Test.YtnkhagaignmafaaWFoot
import Derived.Test.YtnkhagaignmafaaWKept
import Derived.Test.YtnkhagaignmafaaWShare
import Derived.Test.YtnkhagaignmafaaWN
import Derived.Test.YtnkhagaignmafaaWFootNe
import Derived.Test.YtnkhagaignmafaaWAt
import Derived.Test.YtnkhagaignmafaaWEqStruct
import Derived.Test.YtnkhagaignmafaaWRepsOne
import Derived.Test.YtnkhagaignmafaaWInv
import Derived.Test.YtnkhagaignmafaaWInvWords
import Derived.Test.YtnkhagaignmafaaWGuard
import Derived.Test.YtnkhagaignmafaaWNEv
import Derived.Test.YtnkhagaignmafaaWMore
import Derived.Test.YtnkhagaignmafaaOpen
namespace Go.Proofs.Ytnkhagaignmafaa.Q
open Go.RowKit Go.Proofs.YtnkhagaignmafaaW.PrintWords Go.Proofs.YtnkhagaignmafaaW.PrintLast Go.Proofs.YtnkhagaignmafaaW.PrintMore
attribute [local go_sem] max2_int min2_int max_two min_two max_three min_three max_four min_four   -- for this text's walks alone
set_option linter.unusedVariables false
set_option linter.unusedSimpArgs false



def errW : Option Int → Value
  | none => .nilIface
  | some c => .iface 0 (.int .i64 c)
theorem errW_none : errW none = .nilIface := rfl
theorem errW_some (c : Int) : errW (some c) = .iface 0 (.int .i64 c) := rfl

theorem info5 : (Try.prog.info? 5).map (fun i => (i.zero, i.size, i.bytes)) = some (some (.int .u8 0), 1, 1) := by kernel_rfl
theorem info24 : (Try.prog.info? 24).map (fun i => (i.zero, i.size, i.bytes)) = some (some (.int .u16 0), 1, 2) := by kernel_rfl
-- the values' own types

end Go.Proofs.Ytnkhagaignmafaa.Q
