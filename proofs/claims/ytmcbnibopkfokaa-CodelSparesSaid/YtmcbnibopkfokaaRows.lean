/-
  No cell of these rows narrows 'for every input' (looked for: loops, veiled, ifaces, maps, wideKeys, modest, calm, conditions, laid).
  DERIVED. THE GIVEN ROWS OF THIS SEAT. 4 by the template 'for every input the law returns true; each argument reads behind the call as it read before'; 0 by the template 'total and deterministic' (their statements: YtmcbnibopkfokaaTotals.lean).
  GIVEN WITH THE SEED: the statements are not yours to turn. If you find one false, say at which input.
  Laid BY PROGRAM, IN A SANDBOX (cutbox-rows.mjs): the forced cells as the released guide's own fill.sh prints them over the translation b9ddd07c41289b88… (all of the seat's roots in one cut). By AI agents, Wed Nov 11 2026. No macro, syntax, notation, axiom, sorry.
-/
import Derived.Test.YtmcbnibopkfokaaChecked
import GoSem.Claim
import GoSem.ClaimJoined
import GoSem.ClaimMapViews
import Derived.JoinedTies
import Derived.KernelRfl
namespace Go.Proofs.Ytmcbnibopkfokaa
/- THE CELL 'sum', in the pinned program and in every row, IS THE sha256 OF THE DUMP (.gsa) THAT YtmcbnibopkfokaaProg.lean LOADS. Nothing in Lean hashes anything: it is a label: what it is worth is what the hold of that sum in a sandbox is worth. -/
noncomputable def Try.pinned : Pinned := { name := "ytmcbnibopkfokaa", sum := "b9ddd07c41289b888cf365788ac5fcc4f54eedd2ec107d17050def363f19f3fc", checked := Try.checked }
namespace Rows
def none {H : Type} : Left H := { results := [], args := [] }

/-- 'stopcocklaw12.CodelNumbers': WHATEVER THE INPUT: true; the input reads as it did. -/
def codelNumbersSpec : ChangeSpec := { name := "codelNumbers", fn := fun _ => fun
  | [d1, d2, d3, d4, d5] => { results := [.lit (.bool true)], args := [d1, d2, d3, d4, d5] }
  | _ => none }
def codelNumbersRow : OpenClaim := { program := "ytmcbnibopkfokaa", sum := "b9ddd07c41289b888cf365788ac5fcc4f54eedd2ec107d17050def363f19f3fc", func := "stopcock/stopcocklaw12.CodelNumbers", spec := "codelNumbers", apart := false }
def CodelNumbersSaid : Prop := codelNumbersRow.holds Try.pinned (OpenSpec.ofChange codelNumbersSpec)

/-- ITS FALSE NEIGHBOUR: 'it returns false'. Refute it at one input. -/
def codelNumbersWrong : ChangeSpec := { name := "codelNumbers", fn := fun _ => fun
  | [d1, d2, d3, d4, d5] => { results := [.lit (.bool false)], args := [d1, d2, d3, d4, d5] }
  | _ => none }
def CodelNumbersWrongFalsely : Prop := codelNumbersRow.holds Try.pinned (OpenSpec.ofChange codelNumbersWrong)

/-- 'stopcocklaw12.CodelKeeps': WHATEVER THE INPUT: true; the input reads as it did. -/
def codelKeepsSpec : ChangeSpec := { name := "codelKeeps", fn := fun _ => fun
  | [d1, d2, d3, d4] => { results := [.lit (.bool true)], args := [d1, d2, d3, d4] }
  | _ => none }
def codelKeepsRow : OpenClaim := { program := "ytmcbnibopkfokaa", sum := "b9ddd07c41289b888cf365788ac5fcc4f54eedd2ec107d17050def363f19f3fc", func := "stopcock/stopcocklaw12.CodelKeeps", spec := "codelKeeps", apart := false }
def CodelKeepsSaid : Prop := codelKeepsRow.holds Try.pinned (OpenSpec.ofChange codelKeepsSpec)

/-- ITS FALSE NEIGHBOUR: 'it returns false'. Refute it at one input. -/
def codelKeepsWrong : ChangeSpec := { name := "codelKeeps", fn := fun _ => fun
  | [d1, d2, d3, d4] => { results := [.lit (.bool false)], args := [d1, d2, d3, d4] }
  | _ => none }
def CodelKeepsWrongFalsely : Prop := codelKeepsRow.holds Try.pinned (OpenSpec.ofChange codelKeepsWrong)

/-- 'stopcocklaw12.CodelSpares': WHATEVER THE INPUT: true; the input reads as it did. -/
def codelSparesSpec : ChangeSpec := { name := "codelSpares", fn := fun _ => fun
  | [d1, d2, d3, d4] => { results := [.lit (.bool true)], args := [d1, d2, d3, d4] }
  | _ => none }
def codelSparesRow : OpenClaim := { program := "ytmcbnibopkfokaa", sum := "b9ddd07c41289b888cf365788ac5fcc4f54eedd2ec107d17050def363f19f3fc", func := "stopcock/stopcocklaw12.CodelSpares", spec := "codelSpares", apart := false }
def CodelSparesSaid : Prop := codelSparesRow.holds Try.pinned (OpenSpec.ofChange codelSparesSpec)

/-- ITS FALSE NEIGHBOUR: 'it returns false'. Refute it at one input. -/
def codelSparesWrong : ChangeSpec := { name := "codelSpares", fn := fun _ => fun
  | [d1, d2, d3, d4] => { results := [.lit (.bool false)], args := [d1, d2, d3, d4] }
  | _ => none }
def CodelSparesWrongFalsely : Prop := codelSparesRow.holds Try.pinned (OpenSpec.ofChange codelSparesWrong)

/-- 'stopcocklaw12.CodelOwn': WHATEVER THE INPUT: true; the input reads as it did. -/
def codelOwnSpec : ChangeSpec := { name := "codelOwn", fn := fun _ => fun
  | [d1, d2, d3, d4] => { results := [.lit (.bool true)], args := [d1, d2, d3, d4] }
  | _ => none }
def codelOwnRow : OpenClaim := { program := "ytmcbnibopkfokaa", sum := "b9ddd07c41289b888cf365788ac5fcc4f54eedd2ec107d17050def363f19f3fc", func := "stopcock/stopcocklaw12.CodelOwn", spec := "codelOwn", apart := false }
def CodelOwnSaid : Prop := codelOwnRow.holds Try.pinned (OpenSpec.ofChange codelOwnSpec)

/-- ITS FALSE NEIGHBOUR: 'it returns false'. Refute it at one input. -/
def codelOwnWrong : ChangeSpec := { name := "codelOwn", fn := fun _ => fun
  | [d1, d2, d3, d4] => { results := [.lit (.bool false)], args := [d1, d2, d3, d4] }
  | _ => none }
def CodelOwnWrongFalsely : Prop := codelOwnRow.holds Try.pinned (OpenSpec.ofChange codelOwnWrong)

/- THE SECOND FORM. 'bulk': how many values and letters a reading holds, each counted each time it is reached (what is shared counts as often as it is met; a slice's spare places count too). A statement '..UptoSaid' is the law's where the arguments, and the package variables that the reading takes, are together of bulk at most 1048576: NARROWER than '..Said'. Prove '..Said' where nothing that the law and all that it calls make is longer than what came in: it says more and counts as full. Else prove '..UptoSaid'. A law counts once. -/
mutual
def uptoBulk {H : Type} : DataW H → Nat
  | .lit (.string bytes) => bytes.length + 1
  | .lit _ => 1
  | .nil => 1
  | .ptr d => uptoBulk d + 1
  | .slice elems spare => uptoBulkAll elems + uptoBulkAll spare + 1
  | .agg parts => uptoBulkAll parts + 1
  | .iface _ d => uptoBulk d + 1
  | .map entries => uptoBulkEntries entries + 1
  | .held _ => 1
def uptoBulkAll {H : Type} : List (DataW H) → Nat
  | [] => 0
  | d :: r => uptoBulk d + uptoBulkAll r
def uptoBulkEntries {H : Type} : List (Lit × DataW H) → Nat
  | [] => 0
  | x :: r => uptoBulkEntry x + uptoBulkEntries r
def uptoBulkEntry {H : Type} : Lit × DataW H → Nat
  | (.string bytes, d) => bytes.length + uptoBulk d + 1
  | (_, d) => uptoBulk d + 1
 end
def uptoSmall : (H : Type) → List (DataW H) → Bool := fun _ ds => decide (uptoBulkAll ds ≤ 1048576)
def OpenSpec.upto (s : _root_.Go.ChangeSpec) : _root_.Go.OpenSpec := { _root_.Go.OpenSpec.ofChange s with cond := some uptoSmall }

/-- 'stopcocklaw12.CodelNumbers', WHERE WHAT IT READS IS OF BULK AT MOST 1048576: true; the input reads as it did. -/
def codelNumbersUptoRow : OpenClaim := { program := "ytmcbnibopkfokaa", sum := "b9ddd07c41289b888cf365788ac5fcc4f54eedd2ec107d17050def363f19f3fc", func := "stopcock/stopcocklaw12.CodelNumbers", spec := "codelNumbers", apart := false, narrowed := true }
def CodelNumbersUptoSaid : Prop := codelNumbersUptoRow.holds Try.pinned (OpenSpec.upto codelNumbersSpec)

/-- 'stopcocklaw12.CodelKeeps', WHERE WHAT IT READS IS OF BULK AT MOST 1048576: true; the input reads as it did. -/
def codelKeepsUptoRow : OpenClaim := { program := "ytmcbnibopkfokaa", sum := "b9ddd07c41289b888cf365788ac5fcc4f54eedd2ec107d17050def363f19f3fc", func := "stopcock/stopcocklaw12.CodelKeeps", spec := "codelKeeps", apart := false, narrowed := true }
def CodelKeepsUptoSaid : Prop := codelKeepsUptoRow.holds Try.pinned (OpenSpec.upto codelKeepsSpec)

/-- 'stopcocklaw12.CodelSpares', WHERE WHAT IT READS IS OF BULK AT MOST 1048576: true; the input reads as it did. -/
def codelSparesUptoRow : OpenClaim := { program := "ytmcbnibopkfokaa", sum := "b9ddd07c41289b888cf365788ac5fcc4f54eedd2ec107d17050def363f19f3fc", func := "stopcock/stopcocklaw12.CodelSpares", spec := "codelSpares", apart := false, narrowed := true }
def CodelSparesUptoSaid : Prop := codelSparesUptoRow.holds Try.pinned (OpenSpec.upto codelSparesSpec)

/-- 'stopcocklaw12.CodelOwn', WHERE WHAT IT READS IS OF BULK AT MOST 1048576: true; the input reads as it did. -/
def codelOwnUptoRow : OpenClaim := { program := "ytmcbnibopkfokaa", sum := "b9ddd07c41289b888cf365788ac5fcc4f54eedd2ec107d17050def363f19f3fc", func := "stopcock/stopcocklaw12.CodelOwn", spec := "codelOwn", apart := false, narrowed := true }
def CodelOwnUptoSaid : Prop := codelOwnUptoRow.holds Try.pinned (OpenSpec.upto codelOwnSpec)

end Rows
end Go.Proofs.Ytmcbnibopkfokaa
