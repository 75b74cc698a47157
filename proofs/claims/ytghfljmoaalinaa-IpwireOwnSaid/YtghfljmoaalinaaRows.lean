/-
  No cell of these rows narrows 'for every input' (looked for: loops, veiled, ifaces, maps, wideKeys, modest, calm, conditions, laid).
  DERIVED. THE GIVEN ROWS OF THIS SEAT. 4 by the template 'for every input the law returns true; each argument reads behind the call as it read before'; 0 by the template 'total and deterministic' (their statements: YtghfljmoaalinaaTotals.lean).
  GIVEN WITH THE SEED: the statements are not yours to turn. If you find one false, say at which input.
  Laid BY PROGRAM, IN A SANDBOX (cutbox-rows.mjs): the forced cells as the released guide's own fill.sh prints them over the translation 92ab21ba8c0800ab… (all of the seat's roots in one cut). By AI agents, Wed Nov 11 2026. No macro, syntax, notation, axiom, sorry.
-/
import Derived.Test.YtghfljmoaalinaaChecked
import GoSem.Claim
import GoSem.ClaimJoined
import GoSem.ClaimMapViews
import Derived.JoinedTies
import Derived.KernelRfl
namespace Go.Proofs.Ytghfljmoaalinaa
/- THE CELL 'sum', in the pinned program and in every row, IS THE sha256 OF THE DUMP (.gsa) THAT YtghfljmoaalinaaProg.lean LOADS. Nothing in Lean hashes anything: it is a label: what it is worth is what the hold of that sum in a sandbox is worth. -/
noncomputable def Try.pinned : Pinned := { name := "ytghfljmoaalinaa", sum := "92ab21ba8c0800ab8933fd5e807c235192267c7bb77f47279660fac40e981e9e", checked := Try.checked }
namespace Rows
def none {H : Type} : Left H := { results := [], args := [] }

/-- 'stopcocklaw04.IpwireBack': WHATEVER THE INPUT: true; the input reads as it did. -/
def ipwireBackSpec : ChangeSpec := { name := "ipwireBack", fn := fun _ => fun
  | [d1, d2] => { results := [.lit (.bool true)], args := [d1, d2] }
  | _ => none }
def ipwireBackRow : OpenClaim := { program := "ytghfljmoaalinaa", sum := "92ab21ba8c0800ab8933fd5e807c235192267c7bb77f47279660fac40e981e9e", func := "stopcock/stopcocklaw04.IpwireBack", spec := "ipwireBack", unfollowed := true, recurses := true, apart := false }
def IpwireBackSaid : Prop := ipwireBackRow.holds Try.pinned (OpenSpec.ofChange ipwireBackSpec)

/-- ITS FALSE NEIGHBOUR: 'it returns false'. Refute it at one input. -/
def ipwireBackWrong : ChangeSpec := { name := "ipwireBack", fn := fun _ => fun
  | [d1, d2] => { results := [.lit (.bool false)], args := [d1, d2] }
  | _ => none }
def IpwireBackWrongFalsely : Prop := ipwireBackRow.holds Try.pinned (OpenSpec.ofChange ipwireBackWrong)

/-- 'stopcocklaw04.IpwireAgain': WHATEVER THE INPUT: true; the input reads as it did. -/
def ipwireAgainSpec : ChangeSpec := { name := "ipwireAgain", fn := fun _ => fun
  | [d] => { results := [.lit (.bool true)], args := [d] }
  | _ => none }
def ipwireAgainRow : OpenClaim := { program := "ytghfljmoaalinaa", sum := "92ab21ba8c0800ab8933fd5e807c235192267c7bb77f47279660fac40e981e9e", func := "stopcock/stopcocklaw04.IpwireAgain", spec := "ipwireAgain", unfollowed := true, recurses := true, apart := false }
def IpwireAgainSaid : Prop := ipwireAgainRow.holds Try.pinned (OpenSpec.ofChange ipwireAgainSpec)

/-- ITS FALSE NEIGHBOUR: 'it returns false'. Refute it at one input. -/
def ipwireAgainWrong : ChangeSpec := { name := "ipwireAgain", fn := fun _ => fun
  | [d] => { results := [.lit (.bool false)], args := [d] }
  | _ => none }
def IpwireAgainWrongFalsely : Prop := ipwireAgainRow.holds Try.pinned (OpenSpec.ofChange ipwireAgainWrong)

/-- 'stopcocklaw04.IpwireFinds': WHATEVER THE INPUT: true; the input reads as it did. -/
def ipwireFindsSpec : ChangeSpec := { name := "ipwireFinds", fn := fun _ => fun
  | [d1, d2] => { results := [.lit (.bool true)], args := [d1, d2] }
  | _ => none }
def ipwireFindsRow : OpenClaim := { program := "ytghfljmoaalinaa", sum := "92ab21ba8c0800ab8933fd5e807c235192267c7bb77f47279660fac40e981e9e", func := "stopcock/stopcocklaw04.IpwireFinds", spec := "ipwireFinds", unfollowed := true, recurses := true, apart := false }
def IpwireFindsSaid : Prop := ipwireFindsRow.holds Try.pinned (OpenSpec.ofChange ipwireFindsSpec)

/-- ITS FALSE NEIGHBOUR: 'it returns false'. Refute it at one input. -/
def ipwireFindsWrong : ChangeSpec := { name := "ipwireFinds", fn := fun _ => fun
  | [d1, d2] => { results := [.lit (.bool false)], args := [d1, d2] }
  | _ => none }
def IpwireFindsWrongFalsely : Prop := ipwireFindsRow.holds Try.pinned (OpenSpec.ofChange ipwireFindsWrong)

/-- 'stopcocklaw04.IpwireOwn': WHATEVER THE INPUT: true; the input reads as it did. -/
def ipwireOwnSpec : ChangeSpec := { name := "ipwireOwn", fn := fun _ => fun
  | [d1, d2] => { results := [.lit (.bool true)], args := [d1, d2] }
  | _ => none }
def ipwireOwnRow : OpenClaim := { program := "ytghfljmoaalinaa", sum := "92ab21ba8c0800ab8933fd5e807c235192267c7bb77f47279660fac40e981e9e", func := "stopcock/stopcocklaw04.IpwireOwn", spec := "ipwireOwn", unfollowed := true, recurses := true, apart := false }
def IpwireOwnSaid : Prop := ipwireOwnRow.holds Try.pinned (OpenSpec.ofChange ipwireOwnSpec)

/-- ITS FALSE NEIGHBOUR: 'it returns false'. Refute it at one input. -/
def ipwireOwnWrong : ChangeSpec := { name := "ipwireOwn", fn := fun _ => fun
  | [d1, d2] => { results := [.lit (.bool false)], args := [d1, d2] }
  | _ => none }
def IpwireOwnWrongFalsely : Prop := ipwireOwnRow.holds Try.pinned (OpenSpec.ofChange ipwireOwnWrong)

/- THE SECOND FORM. 'bulk': how many values and letters a reading holds, each counted each time it is reached (what is shared counts as often as it is met; a slice's spare places count too). A statement '..UptoSaid' is the law's where the arguments, and the package variables that the reading takes, are together of bulk at most 1048576: NARROWER than '..Said'. Prove '..Said' where nothing that the law and all that it calls make is longer than what came in: it says more and counts as full. Else prove '..UptoSaid'. A law counts once. -/
mutual
def uptoBulk {H : Type} : DataW H → Nat
  | .lit (.string bytes) => bytes.length + 1
  | .lit _ => 1
  | .nil => 1
  | .ptr d => uptoBulk d + 1
  | .slice elems spare => uptoBulkAll elems + uptoBulkAll spare + 1
  | .agg parts => uptoBulkAll parts + 1
  | .iface _ d => uptoBulk d + 1
  | .map entries => uptoBulkEntries entries + 1
  | .held _ => 1
def uptoBulkAll {H : Type} : List (DataW H) → Nat
  | [] => 0
  | d :: r => uptoBulk d + uptoBulkAll r
def uptoBulkEntries {H : Type} : List (Lit × DataW H) → Nat
  | [] => 0
  | x :: r => uptoBulkEntry x + uptoBulkEntries r
def uptoBulkEntry {H : Type} : Lit × DataW H → Nat
  | (.string bytes, d) => bytes.length + uptoBulk d + 1
  | (_, d) => uptoBulk d + 1
 end
def uptoSmall : (H : Type) → List (DataW H) → Bool := fun _ ds => decide (uptoBulkAll ds ≤ 1048576)
def OpenSpec.upto (s : _root_.Go.ChangeSpec) : _root_.Go.OpenSpec := { _root_.Go.OpenSpec.ofChange s with cond := some uptoSmall }

/-- 'stopcocklaw04.IpwireBack', WHERE WHAT IT READS IS OF BULK AT MOST 1048576: true; the input reads as it did. -/
def ipwireBackUptoRow : OpenClaim := { program := "ytghfljmoaalinaa", sum := "92ab21ba8c0800ab8933fd5e807c235192267c7bb77f47279660fac40e981e9e", func := "stopcock/stopcocklaw04.IpwireBack", spec := "ipwireBack", unfollowed := true, recurses := true, apart := false, narrowed := true }
def IpwireBackUptoSaid : Prop := ipwireBackUptoRow.holds Try.pinned (OpenSpec.upto ipwireBackSpec)

/-- 'stopcocklaw04.IpwireAgain', WHERE WHAT IT READS IS OF BULK AT MOST 1048576: true; the input reads as it did. -/
def ipwireAgainUptoRow : OpenClaim := { program := "ytghfljmoaalinaa", sum := "92ab21ba8c0800ab8933fd5e807c235192267c7bb77f47279660fac40e981e9e", func := "stopcock/stopcocklaw04.IpwireAgain", spec := "ipwireAgain", unfollowed := true, recurses := true, apart := false, narrowed := true }
def IpwireAgainUptoSaid : Prop := ipwireAgainUptoRow.holds Try.pinned (OpenSpec.upto ipwireAgainSpec)

/-- 'stopcocklaw04.IpwireFinds', WHERE WHAT IT READS IS OF BULK AT MOST 1048576: true; the input reads as it did. -/
def ipwireFindsUptoRow : OpenClaim := { program := "ytghfljmoaalinaa", sum := "92ab21ba8c0800ab8933fd5e807c235192267c7bb77f47279660fac40e981e9e", func := "stopcock/stopcocklaw04.IpwireFinds", spec := "ipwireFinds", unfollowed := true, recurses := true, apart := false, narrowed := true }
def IpwireFindsUptoSaid : Prop := ipwireFindsUptoRow.holds Try.pinned (OpenSpec.upto ipwireFindsSpec)

/-- 'stopcocklaw04.IpwireOwn', WHERE WHAT IT READS IS OF BULK AT MOST 1048576: true; the input reads as it did. -/
def ipwireOwnUptoRow : OpenClaim := { program := "ytghfljmoaalinaa", sum := "92ab21ba8c0800ab8933fd5e807c235192267c7bb77f47279660fac40e981e9e", func := "stopcock/stopcocklaw04.IpwireOwn", spec := "ipwireOwn", unfollowed := true, recurses := true, apart := false, narrowed := true }
def IpwireOwnUptoSaid : Prop := ipwireOwnUptoRow.holds Try.pinned (OpenSpec.upto ipwireOwnSpec)

end Rows
end Go.Proofs.Ytghfljmoaalinaa
