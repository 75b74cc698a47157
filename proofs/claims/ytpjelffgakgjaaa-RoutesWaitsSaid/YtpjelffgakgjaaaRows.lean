/-
  No cell of these rows narrows 'for every input' (looked for: loops, veiled, ifaces, maps, wideKeys, modest, calm, conditions, laid).
  DERIVED. THE GIVEN ROWS OF THIS SEAT. 3 by the template 'for every input the law returns true; each argument reads behind the call as it read before'; 0 by the template 'total and deterministic' (their statements: YtpjelffgakgjaaaTotals.lean).
  GIVEN WITH THE SEED: the statements are not yours to turn. If you find one false, say at which input.
  Laid BY PROGRAM, IN A SANDBOX (cutbox-rows.mjs): the forced cells as the released guide's own fill.sh prints them over the translation 1216e1f7b12977fb… (all of the seat's roots in one cut). By AI agents, Wed Nov 11 2026. No macro, syntax, notation, axiom, sorry.
-/
import Derived.Test.YtpjelffgakgjaaaChecked
import GoSem.Claim
import GoSem.ClaimJoined
import GoSem.ClaimMapViews
import Derived.JoinedTies
import Derived.KernelRfl
namespace Go.Proofs.Ytpjelffgakgjaaa
/- THE CELL 'sum', in the pinned program and in every row, IS THE sha256 OF THE DUMP (.gsa) THAT YtpjelffgakgjaaaProg.lean LOADS. Nothing in Lean hashes anything: it is a label: what it is worth is what the hold of that sum in a sandbox is worth. -/
noncomputable def Try.pinned : Pinned := { name := "ytpjelffgakgjaaa", sum := "1216e1f7b12977fb7c34a68bf8c8e2795d973b84eb84ad66a7787039fef51d4e", checked := Try.checked }
namespace Rows
def none {H : Type} : Left H := { results := [], args := [] }

/-- 'stopcocklaw10.RoutesLongest': WHATEVER THE INPUT: true; the input reads as it did. -/
def routesLongestSpec : ChangeSpec := { name := "routesLongest", fn := fun _ => fun
  | [d1, d2] => { results := [.lit (.bool true)], args := [d1, d2] }
  | _ => none }
def routesLongestRow : OpenClaim := { program := "ytpjelffgakgjaaa", sum := "1216e1f7b12977fb7c34a68bf8c8e2795d973b84eb84ad66a7787039fef51d4e", func := "stopcock/stopcocklaw10.RoutesLongest", spec := "routesLongest", plainKeys := false, apart := false }
def RoutesLongestSaid : Prop := routesLongestRow.holds Try.pinned (OpenSpec.ofChange routesLongestSpec)

/-- ITS FALSE NEIGHBOUR: 'it returns false'. Refute it at one input. -/
def routesLongestWrong : ChangeSpec := { name := "routesLongest", fn := fun _ => fun
  | [d1, d2] => { results := [.lit (.bool false)], args := [d1, d2] }
  | _ => none }
def RoutesLongestWrongFalsely : Prop := routesLongestRow.holds Try.pinned (OpenSpec.ofChange routesLongestWrong)

/-- 'stopcocklaw10.RoutesPlays': WHATEVER THE INPUT: true; the input reads as it did. -/
def routesPlaysSpec : ChangeSpec := { name := "routesPlays", fn := fun _ => fun
  | [d] => { results := [.lit (.bool true)], args := [d] }
  | _ => none }
def routesPlaysRow : OpenClaim := { program := "ytpjelffgakgjaaa", sum := "1216e1f7b12977fb7c34a68bf8c8e2795d973b84eb84ad66a7787039fef51d4e", func := "stopcock/stopcocklaw10.RoutesPlays", spec := "routesPlays", plainKeys := false, apart := false }
def RoutesPlaysSaid : Prop := routesPlaysRow.holds Try.pinned (OpenSpec.ofChange routesPlaysSpec)

/-- ITS FALSE NEIGHBOUR: 'it returns false'. Refute it at one input. -/
def routesPlaysWrong : ChangeSpec := { name := "routesPlays", fn := fun _ => fun
  | [d] => { results := [.lit (.bool false)], args := [d] }
  | _ => none }
def RoutesPlaysWrongFalsely : Prop := routesPlaysRow.holds Try.pinned (OpenSpec.ofChange routesPlaysWrong)

/-- 'stopcocklaw10.RoutesWaits': WHATEVER THE INPUT: true; the input reads as it did. -/
def routesWaitsSpec : ChangeSpec := { name := "routesWaits", fn := fun _ => fun
  | [d1, d2, d3] => { results := [.lit (.bool true)], args := [d1, d2, d3] }
  | _ => none }
def routesWaitsRow : OpenClaim := { program := "ytpjelffgakgjaaa", sum := "1216e1f7b12977fb7c34a68bf8c8e2795d973b84eb84ad66a7787039fef51d4e", func := "stopcock/stopcocklaw10.RoutesWaits", spec := "routesWaits", unfollowed := true, recurses := true, plainKeys := false, apart := false }
def RoutesWaitsSaid : Prop := routesWaitsRow.holds Try.pinned (OpenSpec.ofChange routesWaitsSpec)

/-- ITS FALSE NEIGHBOUR: 'it returns false'. Refute it at one input. -/
def routesWaitsWrong : ChangeSpec := { name := "routesWaits", fn := fun _ => fun
  | [d1, d2, d3] => { results := [.lit (.bool false)], args := [d1, d2, d3] }
  | _ => none }
def RoutesWaitsWrongFalsely : Prop := routesWaitsRow.holds Try.pinned (OpenSpec.ofChange routesWaitsWrong)

/- THE SECOND FORM. 'bulk': how many values and letters a reading holds, each counted each time it is reached (what is shared counts as often as it is met; a slice's spare places count too). A statement '..UptoSaid' is the law's where the arguments, and the package variables that the reading takes, are together of bulk at most 1048576: NARROWER than '..Said'. Prove '..Said' where nothing that the law and all that it calls make is longer than what came in: it says more and counts as full. Else prove '..UptoSaid'. A law counts once. -/
mutual
def uptoBulk {H : Type} : DataW H → Nat
  | .lit (.string bytes) => bytes.length + 1
  | .lit _ => 1
  | .nil => 1
  | .ptr d => uptoBulk d + 1
  | .slice elems spare => uptoBulkAll elems + uptoBulkAll spare + 1
  | .agg parts => uptoBulkAll parts + 1
  | .iface _ d => uptoBulk d + 1
  | .map entries => uptoBulkEntries entries + 1
  | .held _ => 1
def uptoBulkAll {H : Type} : List (DataW H) → Nat
  | [] => 0
  | d :: r => uptoBulk d + uptoBulkAll r
def uptoBulkEntries {H : Type} : List (Lit × DataW H) → Nat
  | [] => 0
  | x :: r => uptoBulkEntry x + uptoBulkEntries r
def uptoBulkEntry {H : Type} : Lit × DataW H → Nat
  | (.string bytes, d) => bytes.length + uptoBulk d + 1
  | (_, d) => uptoBulk d + 1
 end
def uptoSmall : (H : Type) → List (DataW H) → Bool := fun _ ds => decide (uptoBulkAll ds ≤ 1048576)
def OpenSpec.upto (s : _root_.Go.ChangeSpec) : _root_.Go.OpenSpec := { _root_.Go.OpenSpec.ofChange s with cond := some uptoSmall }

/-- 'stopcocklaw10.RoutesLongest', WHERE WHAT IT READS IS OF BULK AT MOST 1048576: true; the input reads as it did. -/
def routesLongestUptoRow : OpenClaim := { program := "ytpjelffgakgjaaa", sum := "1216e1f7b12977fb7c34a68bf8c8e2795d973b84eb84ad66a7787039fef51d4e", func := "stopcock/stopcocklaw10.RoutesLongest", spec := "routesLongest", plainKeys := false, apart := false, narrowed := true }
def RoutesLongestUptoSaid : Prop := routesLongestUptoRow.holds Try.pinned (OpenSpec.upto routesLongestSpec)

/-- 'stopcocklaw10.RoutesPlays', WHERE WHAT IT READS IS OF BULK AT MOST 1048576: true; the input reads as it did. -/
def routesPlaysUptoRow : OpenClaim := { program := "ytpjelffgakgjaaa", sum := "1216e1f7b12977fb7c34a68bf8c8e2795d973b84eb84ad66a7787039fef51d4e", func := "stopcock/stopcocklaw10.RoutesPlays", spec := "routesPlays", plainKeys := false, apart := false, narrowed := true }
def RoutesPlaysUptoSaid : Prop := routesPlaysUptoRow.holds Try.pinned (OpenSpec.upto routesPlaysSpec)

/-- 'stopcocklaw10.RoutesWaits', WHERE WHAT IT READS IS OF BULK AT MOST 1048576: true; the input reads as it did. -/
def routesWaitsUptoRow : OpenClaim := { program := "ytpjelffgakgjaaa", sum := "1216e1f7b12977fb7c34a68bf8c8e2795d973b84eb84ad66a7787039fef51d4e", func := "stopcock/stopcocklaw10.RoutesWaits", spec := "routesWaits", unfollowed := true, recurses := true, plainKeys := false, apart := false, narrowed := true }
def RoutesWaitsUptoSaid : Prop := routesWaitsUptoRow.holds Try.pinned (OpenSpec.upto routesWaitsSpec)

end Rows
end Go.Proofs.Ytpjelffgakgjaaa
