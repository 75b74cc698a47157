/-
  No cell of these rows narrows 'for every input' (looked for: loops, veiled, ifaces, maps, wideKeys, modest, calm, conditions, laid).
  DERIVED. THE GIVEN ROWS OF THIS SEAT. 5 by the template 'for every input the law returns true; each argument reads behind the call as it read before'; 0 by the template 'total and deterministic' (their statements: YtnkhagaignmafaaTotals.lean).
  GIVEN WITH THE SEED: the statements are not yours to turn. If you find one false, say at which input.
  Laid BY PROGRAM, IN A SANDBOX (cutbox-rows.mjs): the forced cells as the released guide's own fill.sh prints them over the translation 3b682fc992f6553d… (all of the seat's roots in one cut). By AI agents, Wed Nov 11 2026. No macro, syntax, notation, axiom, sorry.
-/
import Derived.Test.YtnkhagaignmafaaChecked
import GoSem.Claim
import GoSem.ClaimJoined
import GoSem.ClaimMapViews
import Derived.JoinedTies
import Derived.KernelRfl
namespace Go.Proofs.Ytnkhagaignmafaa
/- THE CELL 'sum', in the pinned program and in every row, IS THE sha256 OF THE DUMP (.gsa) THAT YtnkhagaignmafaaProg.lean LOADS. Nothing in Lean hashes anything: it is a label: what it is worth is what the hold of that sum in a sandbox is worth. -/
noncomputable def Try.pinned : Pinned := { name := "ytnkhagaignmafaa", sum := "3b682fc992f6553db7786d507a52418024d427f3c423d7fb2aadd33bb11560e1", checked := Try.checked }
namespace Rows
def none {H : Type} : Left H := { results := [], args := [] }

/-- 'stopcocklaw02.ChecksumFinds': WHATEVER THE INPUT: true; the input reads as it did. -/
def checksumFindsSpec : ChangeSpec := { name := "checksumFinds", fn := fun _ => fun
  | [d1, d2, d3] => { results := [.lit (.bool true)], args := [d1, d2, d3] }
  | _ => none }
def checksumFindsRow : OpenClaim := { program := "ytnkhagaignmafaa", sum := "3b682fc992f6553db7786d507a52418024d427f3c423d7fb2aadd33bb11560e1", func := "stopcock/stopcocklaw02.ChecksumFinds", spec := "checksumFinds", unfollowed := true, recurses := true, apart := false }
def ChecksumFindsSaid : Prop := checksumFindsRow.holds Try.pinned (OpenSpec.ofChange checksumFindsSpec)

/-- ITS FALSE NEIGHBOUR: 'it returns false'. Refute it at one input. -/
def checksumFindsWrong : ChangeSpec := { name := "checksumFinds", fn := fun _ => fun
  | [d1, d2, d3] => { results := [.lit (.bool false)], args := [d1, d2, d3] }
  | _ => none }
def ChecksumFindsWrongFalsely : Prop := checksumFindsRow.holds Try.pinned (OpenSpec.ofChange checksumFindsWrong)

/-- 'stopcocklaw02.ChecksumParts': WHATEVER THE INPUT: true; the input reads as it did. -/
def checksumPartsSpec : ChangeSpec := { name := "checksumParts", fn := fun _ => fun
  | [d1, d2] => { results := [.lit (.bool true)], args := [d1, d2] }
  | _ => none }
def checksumPartsRow : OpenClaim := { program := "ytnkhagaignmafaa", sum := "3b682fc992f6553db7786d507a52418024d427f3c423d7fb2aadd33bb11560e1", func := "stopcock/stopcocklaw02.ChecksumParts", spec := "checksumParts", unfollowed := true, recurses := true, apart := false }
def ChecksumPartsSaid : Prop := checksumPartsRow.holds Try.pinned (OpenSpec.ofChange checksumPartsSpec)

/-- ITS FALSE NEIGHBOUR: 'it returns false'. Refute it at one input. -/
def checksumPartsWrong : ChangeSpec := { name := "checksumParts", fn := fun _ => fun
  | [d1, d2] => { results := [.lit (.bool false)], args := [d1, d2] }
  | _ => none }
def ChecksumPartsWrongFalsely : Prop := checksumPartsRow.holds Try.pinned (OpenSpec.ofChange checksumPartsWrong)

/-- 'stopcocklaw02.ChecksumAdds': WHATEVER THE INPUT: true; the input reads as it did. -/
def checksumAddsSpec : ChangeSpec := { name := "checksumAdds", fn := fun _ => fun
  | [d1, d2, d3] => { results := [.lit (.bool true)], args := [d1, d2, d3] }
  | _ => none }
def checksumAddsRow : OpenClaim := { program := "ytnkhagaignmafaa", sum := "3b682fc992f6553db7786d507a52418024d427f3c423d7fb2aadd33bb11560e1", func := "stopcock/stopcocklaw02.ChecksumAdds", spec := "checksumAdds", unfollowed := true, recurses := true, apart := false }
def ChecksumAddsSaid : Prop := checksumAddsRow.holds Try.pinned (OpenSpec.ofChange checksumAddsSpec)

/-- ITS FALSE NEIGHBOUR: 'it returns false'. Refute it at one input. -/
def checksumAddsWrong : ChangeSpec := { name := "checksumAdds", fn := fun _ => fun
  | [d1, d2, d3] => { results := [.lit (.bool false)], args := [d1, d2, d3] }
  | _ => none }
def ChecksumAddsWrongFalsely : Prop := checksumAddsRow.holds Try.pinned (OpenSpec.ofChange checksumAddsWrong)

/-- 'stopcocklaw02.ChecksumUpdates': WHATEVER THE INPUT: true; the input reads as it did. -/
def checksumUpdatesSpec : ChangeSpec := { name := "checksumUpdates", fn := fun _ => fun
  | [d1, d2, d3] => { results := [.lit (.bool true)], args := [d1, d2, d3] }
  | _ => none }
def checksumUpdatesRow : OpenClaim := { program := "ytnkhagaignmafaa", sum := "3b682fc992f6553db7786d507a52418024d427f3c423d7fb2aadd33bb11560e1", func := "stopcock/stopcocklaw02.ChecksumUpdates", spec := "checksumUpdates", unfollowed := true, recurses := true, apart := false }
def ChecksumUpdatesSaid : Prop := checksumUpdatesRow.holds Try.pinned (OpenSpec.ofChange checksumUpdatesSpec)

/-- ITS FALSE NEIGHBOUR: 'it returns false'. Refute it at one input. -/
def checksumUpdatesWrong : ChangeSpec := { name := "checksumUpdates", fn := fun _ => fun
  | [d1, d2, d3] => { results := [.lit (.bool false)], args := [d1, d2, d3] }
  | _ => none }
def ChecksumUpdatesWrongFalsely : Prop := checksumUpdatesRow.holds Try.pinned (OpenSpec.ofChange checksumUpdatesWrong)

/-- 'stopcocklaw02.ChecksumTells': WHATEVER THE INPUT: true; the input reads as it did. -/
def checksumTellsSpec : ChangeSpec := { name := "checksumTells", fn := fun _ => fun
  | [d1, d2, d3, d4, d5, d6] => { results := [.lit (.bool true)], args := [d1, d2, d3, d4, d5, d6] }
  | _ => none }
def checksumTellsRow : OpenClaim := { program := "ytnkhagaignmafaa", sum := "3b682fc992f6553db7786d507a52418024d427f3c423d7fb2aadd33bb11560e1", func := "stopcock/stopcocklaw02.ChecksumTells", spec := "checksumTells", unfollowed := true, recurses := true, apart := false }
def ChecksumTellsSaid : Prop := checksumTellsRow.holds Try.pinned (OpenSpec.ofChange checksumTellsSpec)

/-- ITS FALSE NEIGHBOUR: 'it returns false'. Refute it at one input. -/
def checksumTellsWrong : ChangeSpec := { name := "checksumTells", fn := fun _ => fun
  | [d1, d2, d3, d4, d5, d6] => { results := [.lit (.bool false)], args := [d1, d2, d3, d4, d5, d6] }
  | _ => none }
def ChecksumTellsWrongFalsely : Prop := checksumTellsRow.holds Try.pinned (OpenSpec.ofChange checksumTellsWrong)

/- THE SECOND FORM. 'bulk': how many values and letters a reading holds, each counted each time it is reached (what is shared counts as often as it is met; a slice's spare places count too). A statement '..UptoSaid' is the law's where the arguments, and the package variables that the reading takes, are together of bulk at most 1048576: NARROWER than '..Said'. Prove '..Said' where nothing that the law and all that it calls make is longer than what came in: it says more and counts as full. Else prove '..UptoSaid'. A law counts once. -/
mutual
def uptoBulk {H : Type} : DataW H → Nat
  | .lit (.string bytes) => bytes.length + 1
  | .lit _ => 1
  | .nil => 1
  | .ptr d => uptoBulk d + 1
  | .slice elems spare => uptoBulkAll elems + uptoBulkAll spare + 1
  | .agg parts => uptoBulkAll parts + 1
  | .iface _ d => uptoBulk d + 1
  | .map entries => uptoBulkEntries entries + 1
  | .held _ => 1
def uptoBulkAll {H : Type} : List (DataW H) → Nat
  | [] => 0
  | d :: r => uptoBulk d + uptoBulkAll r
def uptoBulkEntries {H : Type} : List (Lit × DataW H) → Nat
  | [] => 0
  | x :: r => uptoBulkEntry x + uptoBulkEntries r
def uptoBulkEntry {H : Type} : Lit × DataW H → Nat
  | (.string bytes, d) => bytes.length + uptoBulk d + 1
  | (_, d) => uptoBulk d + 1
 end
def uptoSmall : (H : Type) → List (DataW H) → Bool := fun _ ds => decide (uptoBulkAll ds ≤ 1048576)
def OpenSpec.upto (s : _root_.Go.ChangeSpec) : _root_.Go.OpenSpec := { _root_.Go.OpenSpec.ofChange s with cond := some uptoSmall }

/-- 'stopcocklaw02.ChecksumFinds', WHERE WHAT IT READS IS OF BULK AT MOST 1048576: true; the input reads as it did. -/
def checksumFindsUptoRow : OpenClaim := { program := "ytnkhagaignmafaa", sum := "3b682fc992f6553db7786d507a52418024d427f3c423d7fb2aadd33bb11560e1", func := "stopcock/stopcocklaw02.ChecksumFinds", spec := "checksumFinds", unfollowed := true, recurses := true, apart := false, narrowed := true }
def ChecksumFindsUptoSaid : Prop := checksumFindsUptoRow.holds Try.pinned (OpenSpec.upto checksumFindsSpec)

/-- 'stopcocklaw02.ChecksumParts', WHERE WHAT IT READS IS OF BULK AT MOST 1048576: true; the input reads as it did. -/
def checksumPartsUptoRow : OpenClaim := { program := "ytnkhagaignmafaa", sum := "3b682fc992f6553db7786d507a52418024d427f3c423d7fb2aadd33bb11560e1", func := "stopcock/stopcocklaw02.ChecksumParts", spec := "checksumParts", unfollowed := true, recurses := true, apart := false, narrowed := true }
def ChecksumPartsUptoSaid : Prop := checksumPartsUptoRow.holds Try.pinned (OpenSpec.upto checksumPartsSpec)

/-- 'stopcocklaw02.ChecksumAdds', WHERE WHAT IT READS IS OF BULK AT MOST 1048576: true; the input reads as it did. -/
def checksumAddsUptoRow : OpenClaim := { program := "ytnkhagaignmafaa", sum := "3b682fc992f6553db7786d507a52418024d427f3c423d7fb2aadd33bb11560e1", func := "stopcock/stopcocklaw02.ChecksumAdds", spec := "checksumAdds", unfollowed := true, recurses := true, apart := false, narrowed := true }
def ChecksumAddsUptoSaid : Prop := checksumAddsUptoRow.holds Try.pinned (OpenSpec.upto checksumAddsSpec)

/-- 'stopcocklaw02.ChecksumUpdates', WHERE WHAT IT READS IS OF BULK AT MOST 1048576: true; the input reads as it did. -/
def checksumUpdatesUptoRow : OpenClaim := { program := "ytnkhagaignmafaa", sum := "3b682fc992f6553db7786d507a52418024d427f3c423d7fb2aadd33bb11560e1", func := "stopcock/stopcocklaw02.ChecksumUpdates", spec := "checksumUpdates", unfollowed := true, recurses := true, apart := false, narrowed := true }
def ChecksumUpdatesUptoSaid : Prop := checksumUpdatesUptoRow.holds Try.pinned (OpenSpec.upto checksumUpdatesSpec)

/-- 'stopcocklaw02.ChecksumTells', WHERE WHAT IT READS IS OF BULK AT MOST 1048576: true; the input reads as it did. -/
def checksumTellsUptoRow : OpenClaim := { program := "ytnkhagaignmafaa", sum := "3b682fc992f6553db7786d507a52418024d427f3c423d7fb2aadd33bb11560e1", func := "stopcock/stopcocklaw02.ChecksumTells", spec := "checksumTells", unfollowed := true, recurses := true, apart := false, narrowed := true }
def ChecksumTellsUptoSaid : Prop := checksumTellsUptoRow.holds Try.pinned (OpenSpec.upto checksumTellsSpec)

end Rows
end Go.Proofs.Ytnkhagaignmafaa
