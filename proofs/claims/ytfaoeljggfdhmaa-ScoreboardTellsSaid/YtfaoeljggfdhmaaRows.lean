/-
  No cell of these rows narrows 'for every input' (looked for: loops, veiled, ifaces, maps, wideKeys, modest, calm, conditions, laid).
  DERIVED. THE GIVEN ROWS OF THIS SEAT. 6 by the template 'for every input the law returns true; each argument reads behind the call as it read before'; 0 by the template 'total and deterministic' (their statements: YtfaoeljggfdhmaaTotals.lean).
  GIVEN WITH THE SEED: the statements are not yours to turn. If you find one false, say at which input.
  Laid BY PROGRAM, IN A SANDBOX (cutbox-rows.mjs): the forced cells as the released guide's own fill.sh prints them over the translation cf0c13bf4e703362… (all of the seat's roots in one cut). By AI agents, Wed Nov 11 2026. No macro, syntax, notation, axiom, sorry.
-/
import Derived.Test.YtfaoeljggfdhmaaChecked
import GoSem.Claim
import GoSem.ClaimJoined
import GoSem.ClaimMapViews
import Derived.JoinedTies
import Derived.KernelRfl
namespace Go.Proofs.Ytfaoeljggfdhmaa
/- THE CELL 'sum', in the pinned program and in every row, IS THE sha256 OF THE DUMP (.gsa) THAT YtfaoeljggfdhmaaProg.lean LOADS. Nothing in Lean hashes anything: it is a label: what it is worth is what the hold of that sum in a sandbox is worth. -/
noncomputable def Try.pinned : Pinned := { name := "ytfaoeljggfdhmaa", sum := "cf0c13bf4e703362edda24c3385b69261e06a485df517d688837c8c6910a1086", checked := Try.checked }
namespace Rows
def none {H : Type} : Left H := { results := [], args := [] }

/-- 'stopcocklaw17.ScoreboardPipe': WHATEVER THE INPUT: true; the input reads as it did. -/
def scoreboardPipeSpec : ChangeSpec := { name := "scoreboardPipe", fn := fun _ => fun
  | [d1, d2] => { results := [.lit (.bool true)], args := [d1, d2] }
  | _ => none }
def scoreboardPipeRow : OpenClaim := { program := "ytfaoeljggfdhmaa", sum := "cf0c13bf4e703362edda24c3385b69261e06a485df517d688837c8c6910a1086", func := "stopcock/stopcocklaw17.ScoreboardPipe", spec := "scoreboardPipe", unfollowed := true, recurses := true, apart := false }
def ScoreboardPipeSaid : Prop := scoreboardPipeRow.holds Try.pinned (OpenSpec.ofChange scoreboardPipeSpec)

/-- ITS FALSE NEIGHBOUR: 'it returns false'. Refute it at one input. -/
def scoreboardPipeWrong : ChangeSpec := { name := "scoreboardPipe", fn := fun _ => fun
  | [d1, d2] => { results := [.lit (.bool false)], args := [d1, d2] }
  | _ => none }
def ScoreboardPipeWrongFalsely : Prop := scoreboardPipeRow.holds Try.pinned (OpenSpec.ofChange scoreboardPipeWrong)

/-- 'stopcocklaw17.ScoreboardNext': WHATEVER THE INPUT: true; the input reads as it did. -/
def scoreboardNextSpec : ChangeSpec := { name := "scoreboardNext", fn := fun _ => fun
  | [d1, d2, d3] => { results := [.lit (.bool true)], args := [d1, d2, d3] }
  | _ => none }
def scoreboardNextRow : OpenClaim := { program := "ytfaoeljggfdhmaa", sum := "cf0c13bf4e703362edda24c3385b69261e06a485df517d688837c8c6910a1086", func := "stopcock/stopcocklaw17.ScoreboardNext", spec := "scoreboardNext", unfollowed := true, recurses := true, apart := false }
def ScoreboardNextSaid : Prop := scoreboardNextRow.holds Try.pinned (OpenSpec.ofChange scoreboardNextSpec)

/-- ITS FALSE NEIGHBOUR: 'it returns false'. Refute it at one input. -/
def scoreboardNextWrong : ChangeSpec := { name := "scoreboardNext", fn := fun _ => fun
  | [d1, d2, d3] => { results := [.lit (.bool false)], args := [d1, d2, d3] }
  | _ => none }
def ScoreboardNextWrongFalsely : Prop := scoreboardNextRow.holds Try.pinned (OpenSpec.ofChange scoreboardNextWrong)

/-- 'stopcocklaw17.ScoreboardTells': WHATEVER THE INPUT: true; the input reads as it did. -/
def scoreboardTellsSpec : ChangeSpec := { name := "scoreboardTells", fn := fun _ => fun
  | [d1, d2, d3, d4, d5] => { results := [.lit (.bool true)], args := [d1, d2, d3, d4, d5] }
  | _ => none }
def scoreboardTellsRow : OpenClaim := { program := "ytfaoeljggfdhmaa", sum := "cf0c13bf4e703362edda24c3385b69261e06a485df517d688837c8c6910a1086", func := "stopcock/stopcocklaw17.ScoreboardTells", spec := "scoreboardTells", unfollowed := true, recurses := true, apart := false }
def ScoreboardTellsSaid : Prop := scoreboardTellsRow.holds Try.pinned (OpenSpec.ofChange scoreboardTellsSpec)

/-- ITS FALSE NEIGHBOUR: 'it returns false'. Refute it at one input. -/
def scoreboardTellsWrong : ChangeSpec := { name := "scoreboardTells", fn := fun _ => fun
  | [d1, d2, d3, d4, d5] => { results := [.lit (.bool false)], args := [d1, d2, d3, d4, d5] }
  | _ => none }
def ScoreboardTellsWrongFalsely : Prop := scoreboardTellsRow.holds Try.pinned (OpenSpec.ofChange scoreboardTellsWrong)

/-- 'stopcocklaw17.ScoreboardOwn': WHATEVER THE INPUT: true; the input reads as it did. -/
def scoreboardOwnSpec : ChangeSpec := { name := "scoreboardOwn", fn := fun _ => fun
  | [d1, d2, d3] => { results := [.lit (.bool true)], args := [d1, d2, d3] }
  | _ => none }
def scoreboardOwnRow : OpenClaim := { program := "ytfaoeljggfdhmaa", sum := "cf0c13bf4e703362edda24c3385b69261e06a485df517d688837c8c6910a1086", func := "stopcock/stopcocklaw17.ScoreboardOwn", spec := "scoreboardOwn", unfollowed := true, recurses := true, apart := false }
def ScoreboardOwnSaid : Prop := scoreboardOwnRow.holds Try.pinned (OpenSpec.ofChange scoreboardOwnSpec)

/-- ITS FALSE NEIGHBOUR: 'it returns false'. Refute it at one input. -/
def scoreboardOwnWrong : ChangeSpec := { name := "scoreboardOwn", fn := fun _ => fun
  | [d1, d2, d3] => { results := [.lit (.bool false)], args := [d1, d2, d3] }
  | _ => none }
def ScoreboardOwnWrongFalsely : Prop := scoreboardOwnRow.holds Try.pinned (OpenSpec.ofChange scoreboardOwnWrong)

/-- 'stopcocklaw17.ScoreboardCounts': WHATEVER THE INPUT: true; the input reads as it did. -/
def scoreboardCountsSpec : ChangeSpec := { name := "scoreboardCounts", fn := fun _ => fun
  | [d1, d2, d3] => { results := [.lit (.bool true)], args := [d1, d2, d3] }
  | _ => none }
def scoreboardCountsRow : OpenClaim := { program := "ytfaoeljggfdhmaa", sum := "cf0c13bf4e703362edda24c3385b69261e06a485df517d688837c8c6910a1086", func := "stopcock/stopcocklaw17.ScoreboardCounts", spec := "scoreboardCounts", unfollowed := true, recurses := true, apart := false }
def ScoreboardCountsSaid : Prop := scoreboardCountsRow.holds Try.pinned (OpenSpec.ofChange scoreboardCountsSpec)

/-- ITS FALSE NEIGHBOUR: 'it returns false'. Refute it at one input. -/
def scoreboardCountsWrong : ChangeSpec := { name := "scoreboardCounts", fn := fun _ => fun
  | [d1, d2, d3] => { results := [.lit (.bool false)], args := [d1, d2, d3] }
  | _ => none }
def ScoreboardCountsWrongFalsely : Prop := scoreboardCountsRow.holds Try.pinned (OpenSpec.ofChange scoreboardCountsWrong)

/-- 'stopcocklaw17.ScoreboardKeeps': WHATEVER THE INPUT: true; the input reads as it did. -/
def scoreboardKeepsSpec : ChangeSpec := { name := "scoreboardKeeps", fn := fun _ => fun
  | [d1, d2, d3] => { results := [.lit (.bool true)], args := [d1, d2, d3] }
  | _ => none }
def scoreboardKeepsRow : OpenClaim := { program := "ytfaoeljggfdhmaa", sum := "cf0c13bf4e703362edda24c3385b69261e06a485df517d688837c8c6910a1086", func := "stopcock/stopcocklaw17.ScoreboardKeeps", spec := "scoreboardKeeps", unfollowed := true, recurses := true, apart := false }
def ScoreboardKeepsSaid : Prop := scoreboardKeepsRow.holds Try.pinned (OpenSpec.ofChange scoreboardKeepsSpec)

/-- ITS FALSE NEIGHBOUR: 'it returns false'. Refute it at one input. -/
def scoreboardKeepsWrong : ChangeSpec := { name := "scoreboardKeeps", fn := fun _ => fun
  | [d1, d2, d3] => { results := [.lit (.bool false)], args := [d1, d2, d3] }
  | _ => none }
def ScoreboardKeepsWrongFalsely : Prop := scoreboardKeepsRow.holds Try.pinned (OpenSpec.ofChange scoreboardKeepsWrong)

/- THE SECOND FORM. 'bulk': how many values and letters a reading holds, each counted each time it is reached (what is shared counts as often as it is met; a slice's spare places count too). A statement '..UptoSaid' is the law's where the arguments, and the package variables that the reading takes, are together of bulk at most 1048576: NARROWER than '..Said'. Prove '..Said' where nothing that the law and all that it calls make is longer than what came in: it says more and counts as full. Else prove '..UptoSaid'. A law counts once. -/
mutual
def uptoBulk {H : Type} : DataW H → Nat
  | .lit (.string bytes) => bytes.length + 1
  | .lit _ => 1
  | .nil => 1
  | .ptr d => uptoBulk d + 1
  | .slice elems spare => uptoBulkAll elems + uptoBulkAll spare + 1
  | .agg parts => uptoBulkAll parts + 1
  | .iface _ d => uptoBulk d + 1
  | .map entries => uptoBulkEntries entries + 1
  | .held _ => 1
def uptoBulkAll {H : Type} : List (DataW H) → Nat
  | [] => 0
  | d :: r => uptoBulk d + uptoBulkAll r
def uptoBulkEntries {H : Type} : List (Lit × DataW H) → Nat
  | [] => 0
  | x :: r => uptoBulkEntry x + uptoBulkEntries r
def uptoBulkEntry {H : Type} : Lit × DataW H → Nat
  | (.string bytes, d) => bytes.length + uptoBulk d + 1
  | (_, d) => uptoBulk d + 1
 end
def uptoSmall : (H : Type) → List (DataW H) → Bool := fun _ ds => decide (uptoBulkAll ds ≤ 1048576)
def OpenSpec.upto (s : _root_.Go.ChangeSpec) : _root_.Go.OpenSpec := { _root_.Go.OpenSpec.ofChange s with cond := some uptoSmall }

/-- 'stopcocklaw17.ScoreboardPipe', WHERE WHAT IT READS IS OF BULK AT MOST 1048576: true; the input reads as it did. -/
def scoreboardPipeUptoRow : OpenClaim := { program := "ytfaoeljggfdhmaa", sum := "cf0c13bf4e703362edda24c3385b69261e06a485df517d688837c8c6910a1086", func := "stopcock/stopcocklaw17.ScoreboardPipe", spec := "scoreboardPipe", unfollowed := true, recurses := true, apart := false, narrowed := true }
def ScoreboardPipeUptoSaid : Prop := scoreboardPipeUptoRow.holds Try.pinned (OpenSpec.upto scoreboardPipeSpec)

/-- 'stopcocklaw17.ScoreboardNext', WHERE WHAT IT READS IS OF BULK AT MOST 1048576: true; the input reads as it did. -/
def scoreboardNextUptoRow : OpenClaim := { program := "ytfaoeljggfdhmaa", sum := "cf0c13bf4e703362edda24c3385b69261e06a485df517d688837c8c6910a1086", func := "stopcock/stopcocklaw17.ScoreboardNext", spec := "scoreboardNext", unfollowed := true, recurses := true, apart := false, narrowed := true }
def ScoreboardNextUptoSaid : Prop := scoreboardNextUptoRow.holds Try.pinned (OpenSpec.upto scoreboardNextSpec)

/-- 'stopcocklaw17.ScoreboardTells', WHERE WHAT IT READS IS OF BULK AT MOST 1048576: true; the input reads as it did. -/
def scoreboardTellsUptoRow : OpenClaim := { program := "ytfaoeljggfdhmaa", sum := "cf0c13bf4e703362edda24c3385b69261e06a485df517d688837c8c6910a1086", func := "stopcock/stopcocklaw17.ScoreboardTells", spec := "scoreboardTells", unfollowed := true, recurses := true, apart := false, narrowed := true }
def ScoreboardTellsUptoSaid : Prop := scoreboardTellsUptoRow.holds Try.pinned (OpenSpec.upto scoreboardTellsSpec)

/-- 'stopcocklaw17.ScoreboardOwn', WHERE WHAT IT READS IS OF BULK AT MOST 1048576: true; the input reads as it did. -/
def scoreboardOwnUptoRow : OpenClaim := { program := "ytfaoeljggfdhmaa", sum := "cf0c13bf4e703362edda24c3385b69261e06a485df517d688837c8c6910a1086", func := "stopcock/stopcocklaw17.ScoreboardOwn", spec := "scoreboardOwn", unfollowed := true, recurses := true, apart := false, narrowed := true }
def ScoreboardOwnUptoSaid : Prop := scoreboardOwnUptoRow.holds Try.pinned (OpenSpec.upto scoreboardOwnSpec)

/-- 'stopcocklaw17.ScoreboardCounts', WHERE WHAT IT READS IS OF BULK AT MOST 1048576: true; the input reads as it did. -/
def scoreboardCountsUptoRow : OpenClaim := { program := "ytfaoeljggfdhmaa", sum := "cf0c13bf4e703362edda24c3385b69261e06a485df517d688837c8c6910a1086", func := "stopcock/stopcocklaw17.ScoreboardCounts", spec := "scoreboardCounts", unfollowed := true, recurses := true, apart := false, narrowed := true }
def ScoreboardCountsUptoSaid : Prop := scoreboardCountsUptoRow.holds Try.pinned (OpenSpec.upto scoreboardCountsSpec)

/-- 'stopcocklaw17.ScoreboardKeeps', WHERE WHAT IT READS IS OF BULK AT MOST 1048576: true; the input reads as it did. -/
def scoreboardKeepsUptoRow : OpenClaim := { program := "ytfaoeljggfdhmaa", sum := "cf0c13bf4e703362edda24c3385b69261e06a485df517d688837c8c6910a1086", func := "stopcock/stopcocklaw17.ScoreboardKeeps", spec := "scoreboardKeeps", unfollowed := true, recurses := true, apart := false, narrowed := true }
def ScoreboardKeepsUptoSaid : Prop := scoreboardKeepsUptoRow.holds Try.pinned (OpenSpec.upto scoreboardKeepsSpec)

end Rows
end Go.Proofs.Ytfaoeljggfdhmaa
