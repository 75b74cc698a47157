/-
  No cell of these rows narrows 'for every input' (looked for: loops, veiled, ifaces, maps, wideKeys, modest, calm, conditions, laid).
  DERIVED. THE GIVEN ROWS OF THIS SEAT. 5 by the template 'for every input the law returns true; each argument reads behind the call as it read before'; 0 by the template 'total and deterministic' (their statements: YtepolgapbbaklaaTotals.lean).
  GIVEN WITH THE SEED: the statements are not yours to turn. If you find one false, say at which input.
  Laid BY PROGRAM, IN A SANDBOX (cutbox-rows.mjs): the forced cells as the released guide's own fill.sh prints them over the translation 4a1475bfb24481f1… (all of the seat's roots in one cut). By AI agents, Wed Nov 11 2026. No macro, syntax, notation, axiom, sorry.
-/
import Derived.Test.YtepolgapbbaklaaChecked
import GoSem.Claim
import GoSem.ClaimJoined
import GoSem.ClaimMapViews
import Derived.JoinedTies
import Derived.KernelRfl
namespace Go.Proofs.Ytepolgapbbaklaa
/- THE CELL 'sum', in the pinned program and in every row, IS THE sha256 OF THE DUMP (.gsa) THAT YtepolgapbbaklaaProg.lean LOADS. Nothing in Lean hashes anything: it is a label: what it is worth is what the hold of that sum in a sandbox is worth. -/
noncomputable def Try.pinned : Pinned := { name := "ytepolgapbbaklaa", sum := "4a1475bfb24481f151b460f137733c38e008130c3b50681f3dfd493f7789afb3", checked := Try.checked }
namespace Rows
def none {H : Type} : Left H := { results := [], args := [] }

/-- 'stopcocklaw13.FqcodelOrder': WHATEVER THE INPUT: true; the input reads as it did. -/
def fqcodelOrderSpec : ChangeSpec := { name := "fqcodelOrder", fn := fun _ => fun
  | [d1, d2] => { results := [.lit (.bool true)], args := [d1, d2] }
  | _ => none }
def fqcodelOrderRow : OpenClaim := { program := "ytepolgapbbaklaa", sum := "4a1475bfb24481f151b460f137733c38e008130c3b50681f3dfd493f7789afb3", func := "stopcock/stopcocklaw13.FqcodelOrder", spec := "fqcodelOrder", apart := false }
def FqcodelOrderSaid : Prop := fqcodelOrderRow.holds Try.pinned (OpenSpec.ofChange fqcodelOrderSpec)

/-- ITS FALSE NEIGHBOUR: 'it returns false'. Refute it at one input. -/
def fqcodelOrderWrong : ChangeSpec := { name := "fqcodelOrder", fn := fun _ => fun
  | [d1, d2] => { results := [.lit (.bool false)], args := [d1, d2] }
  | _ => none }
def FqcodelOrderWrongFalsely : Prop := fqcodelOrderRow.holds Try.pinned (OpenSpec.ofChange fqcodelOrderWrong)

/-- 'stopcocklaw13.FqcodelFair': WHATEVER THE INPUT: true; the input reads as it did. -/
def fqcodelFairSpec : ChangeSpec := { name := "fqcodelFair", fn := fun _ => fun
  | [d1, d2, d3] => { results := [.lit (.bool true)], args := [d1, d2, d3] }
  | _ => none }
def fqcodelFairRow : OpenClaim := { program := "ytepolgapbbaklaa", sum := "4a1475bfb24481f151b460f137733c38e008130c3b50681f3dfd493f7789afb3", func := "stopcock/stopcocklaw13.FqcodelFair", spec := "fqcodelFair", apart := false }
def FqcodelFairSaid : Prop := fqcodelFairRow.holds Try.pinned (OpenSpec.ofChange fqcodelFairSpec)

/-- ITS FALSE NEIGHBOUR: 'it returns false'. Refute it at one input. -/
def fqcodelFairWrong : ChangeSpec := { name := "fqcodelFair", fn := fun _ => fun
  | [d1, d2, d3] => { results := [.lit (.bool false)], args := [d1, d2, d3] }
  | _ => none }
def FqcodelFairWrongFalsely : Prop := fqcodelFairRow.holds Try.pinned (OpenSpec.ofChange fqcodelFairWrong)

/-- 'stopcocklaw13.FqcodelFattest': WHATEVER THE INPUT: true; the input reads as it did. -/
def fqcodelFattestSpec : ChangeSpec := { name := "fqcodelFattest", fn := fun _ => fun
  | [d1, d2] => { results := [.lit (.bool true)], args := [d1, d2] }
  | _ => none }
def fqcodelFattestRow : OpenClaim := { program := "ytepolgapbbaklaa", sum := "4a1475bfb24481f151b460f137733c38e008130c3b50681f3dfd493f7789afb3", func := "stopcock/stopcocklaw13.FqcodelFattest", spec := "fqcodelFattest", apart := false }
def FqcodelFattestSaid : Prop := fqcodelFattestRow.holds Try.pinned (OpenSpec.ofChange fqcodelFattestSpec)

/-- ITS FALSE NEIGHBOUR: 'it returns false'. Refute it at one input. -/
def fqcodelFattestWrong : ChangeSpec := { name := "fqcodelFattest", fn := fun _ => fun
  | [d1, d2] => { results := [.lit (.bool false)], args := [d1, d2] }
  | _ => none }
def FqcodelFattestWrongFalsely : Prop := fqcodelFattestRow.holds Try.pinned (OpenSpec.ofChange fqcodelFattestWrong)

/-- 'stopcocklaw13.FqcodelOwn': WHATEVER THE INPUT: true; the input reads as it did. -/
def fqcodelOwnSpec : ChangeSpec := { name := "fqcodelOwn", fn := fun _ => fun
  | [d] => { results := [.lit (.bool true)], args := [d] }
  | _ => none }
def fqcodelOwnRow : OpenClaim := { program := "ytepolgapbbaklaa", sum := "4a1475bfb24481f151b460f137733c38e008130c3b50681f3dfd493f7789afb3", func := "stopcock/stopcocklaw13.FqcodelOwn", spec := "fqcodelOwn", apart := false }
def FqcodelOwnSaid : Prop := fqcodelOwnRow.holds Try.pinned (OpenSpec.ofChange fqcodelOwnSpec)

/-- ITS FALSE NEIGHBOUR: 'it returns false'. Refute it at one input. -/
def fqcodelOwnWrong : ChangeSpec := { name := "fqcodelOwn", fn := fun _ => fun
  | [d] => { results := [.lit (.bool false)], args := [d] }
  | _ => none }
def FqcodelOwnWrongFalsely : Prop := fqcodelOwnRow.holds Try.pinned (OpenSpec.ofChange fqcodelOwnWrong)

/-- 'stopcocklaw13.FqcodelNew': WHATEVER THE INPUT: true; the input reads as it did. -/
def fqcodelNewSpec : ChangeSpec := { name := "fqcodelNew", fn := fun _ => fun
  | [d1, d2, d3] => { results := [.lit (.bool true)], args := [d1, d2, d3] }
  | _ => none }
def fqcodelNewRow : OpenClaim := { program := "ytepolgapbbaklaa", sum := "4a1475bfb24481f151b460f137733c38e008130c3b50681f3dfd493f7789afb3", func := "stopcock/stopcocklaw13.FqcodelNew", spec := "fqcodelNew", apart := false }
def FqcodelNewSaid : Prop := fqcodelNewRow.holds Try.pinned (OpenSpec.ofChange fqcodelNewSpec)

/-- ITS FALSE NEIGHBOUR: 'it returns false'. Refute it at one input. -/
def fqcodelNewWrong : ChangeSpec := { name := "fqcodelNew", fn := fun _ => fun
  | [d1, d2, d3] => { results := [.lit (.bool false)], args := [d1, d2, d3] }
  | _ => none }
def FqcodelNewWrongFalsely : Prop := fqcodelNewRow.holds Try.pinned (OpenSpec.ofChange fqcodelNewWrong)

/- THE SECOND FORM. 'bulk': how many values and letters a reading holds, each counted each time it is reached (what is shared counts as often as it is met; a slice's spare places count too). A statement '..UptoSaid' is the law's where the arguments, and the package variables that the reading takes, are together of bulk at most 1048576: NARROWER than '..Said'. Prove '..Said' where nothing that the law and all that it calls make is longer than what came in: it says more and counts as full. Else prove '..UptoSaid'. A law counts once. -/
mutual
def uptoBulk {H : Type} : DataW H → Nat
  | .lit (.string bytes) => bytes.length + 1
  | .lit _ => 1
  | .nil => 1
  | .ptr d => uptoBulk d + 1
  | .slice elems spare => uptoBulkAll elems + uptoBulkAll spare + 1
  | .agg parts => uptoBulkAll parts + 1
  | .iface _ d => uptoBulk d + 1
  | .map entries => uptoBulkEntries entries + 1
  | .held _ => 1
def uptoBulkAll {H : Type} : List (DataW H) → Nat
  | [] => 0
  | d :: r => uptoBulk d + uptoBulkAll r
def uptoBulkEntries {H : Type} : List (Lit × DataW H) → Nat
  | [] => 0
  | x :: r => uptoBulkEntry x + uptoBulkEntries r
def uptoBulkEntry {H : Type} : Lit × DataW H → Nat
  | (.string bytes, d) => bytes.length + uptoBulk d + 1
  | (_, d) => uptoBulk d + 1
 end
def uptoSmall : (H : Type) → List (DataW H) → Bool := fun _ ds => decide (uptoBulkAll ds ≤ 1048576)
def OpenSpec.upto (s : _root_.Go.ChangeSpec) : _root_.Go.OpenSpec := { _root_.Go.OpenSpec.ofChange s with cond := some uptoSmall }

/-- 'stopcocklaw13.FqcodelOrder', WHERE WHAT IT READS IS OF BULK AT MOST 1048576: true; the input reads as it did. -/
def fqcodelOrderUptoRow : OpenClaim := { program := "ytepolgapbbaklaa", sum := "4a1475bfb24481f151b460f137733c38e008130c3b50681f3dfd493f7789afb3", func := "stopcock/stopcocklaw13.FqcodelOrder", spec := "fqcodelOrder", apart := false, narrowed := true }
def FqcodelOrderUptoSaid : Prop := fqcodelOrderUptoRow.holds Try.pinned (OpenSpec.upto fqcodelOrderSpec)

/-- 'stopcocklaw13.FqcodelFair', WHERE WHAT IT READS IS OF BULK AT MOST 1048576: true; the input reads as it did. -/
def fqcodelFairUptoRow : OpenClaim := { program := "ytepolgapbbaklaa", sum := "4a1475bfb24481f151b460f137733c38e008130c3b50681f3dfd493f7789afb3", func := "stopcock/stopcocklaw13.FqcodelFair", spec := "fqcodelFair", apart := false, narrowed := true }
def FqcodelFairUptoSaid : Prop := fqcodelFairUptoRow.holds Try.pinned (OpenSpec.upto fqcodelFairSpec)

/-- 'stopcocklaw13.FqcodelFattest', WHERE WHAT IT READS IS OF BULK AT MOST 1048576: true; the input reads as it did. -/
def fqcodelFattestUptoRow : OpenClaim := { program := "ytepolgapbbaklaa", sum := "4a1475bfb24481f151b460f137733c38e008130c3b50681f3dfd493f7789afb3", func := "stopcock/stopcocklaw13.FqcodelFattest", spec := "fqcodelFattest", apart := false, narrowed := true }
def FqcodelFattestUptoSaid : Prop := fqcodelFattestUptoRow.holds Try.pinned (OpenSpec.upto fqcodelFattestSpec)

/-- 'stopcocklaw13.FqcodelOwn', WHERE WHAT IT READS IS OF BULK AT MOST 1048576: true; the input reads as it did. -/
def fqcodelOwnUptoRow : OpenClaim := { program := "ytepolgapbbaklaa", sum := "4a1475bfb24481f151b460f137733c38e008130c3b50681f3dfd493f7789afb3", func := "stopcock/stopcocklaw13.FqcodelOwn", spec := "fqcodelOwn", apart := false, narrowed := true }
def FqcodelOwnUptoSaid : Prop := fqcodelOwnUptoRow.holds Try.pinned (OpenSpec.upto fqcodelOwnSpec)

/-- 'stopcocklaw13.FqcodelNew', WHERE WHAT IT READS IS OF BULK AT MOST 1048576: true; the input reads as it did. -/
def fqcodelNewUptoRow : OpenClaim := { program := "ytepolgapbbaklaa", sum := "4a1475bfb24481f151b460f137733c38e008130c3b50681f3dfd493f7789afb3", func := "stopcock/stopcocklaw13.FqcodelNew", spec := "fqcodelNew", apart := false, narrowed := true }
def FqcodelNewUptoSaid : Prop := fqcodelNewUptoRow.holds Try.pinned (OpenSpec.upto fqcodelNewSpec)

end Rows
end Go.Proofs.Ytepolgapbbaklaa
