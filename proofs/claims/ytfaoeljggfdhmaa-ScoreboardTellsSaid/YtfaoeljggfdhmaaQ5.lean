-- written for this claim out of the program's translation by a program (wip/pr.sh); Lean checks it
import Derived.Test.YtfaoeljggfdhmaaQ0
import Derived.Test.YtfaoeljggfdhmaaQ2
import Derived.Test.YtfaoeljggfdhmaaQ4
import Derived.Test.YtfaoeljggfdhmaaPipeT
namespace Go.Proofs.Ytfaoeljggfdhmaa.Q
open Go.RowKit Go.Proofs.YtfaoeljggfdhmaaW.PrintWords Go.Proofs.YtfaoeljggfdhmaaW.PrintLast Go.Proofs.YtfaoeljggfdhmaaW.PrintMore
attribute [local go_sem] max2_int min2_int max_two min_two max_three min_three max_four min_four   -- for this text's walks alone
set_option linter.unusedVariables false
set_option linter.unusedSimpArgs false

/-! ### scoreboard_Pipe: function 10 -/
-- GIVENPART
-- IMPORT Derived.Test.YtfaoeljggfdhmaaPipeT
def scoreboard_Pipe.f (k : Nat) (a0_0 a0_1 a0_2 : Int) (l0_3 : List (S35)) (a1 : Int) : Option (Int × Int) :=
  (scoreboard_asked.f k a0_0 a0_1 a0_2 l0_3 a1).bind fun e => if e = 0 then ((scoreboard_State_spans.f k a0_0 a0_1 a0_2 l0_3 l0_3).bind fun sp => if sp.length < 8796093022000 then ((pipeGo k a0_0 a0_1 a0_2 l0_3 a1 (holesOf 0 (sp ++ [⟨(a0_1 - a0_0) % 4294967296, (a0_1 - a0_0) % 4294967296⟩])) 0).bind fun n => some (n, 0)) else none) else some (0, e)
theorem pipeGo.mono (k : Nat) (a0 a1 a2 : Int) (l3 : List S35) (mss : Int) : ∀ (hs : List S75) (n : Int), LeO (pipeGo k a0 a1 a2 l3 mss hs n) (pipeGo (k + 1) a0 a1 a2 l3 mss hs n)
  | [], n => LeO.refl _
  | h :: r, n => LeO.bind (scoreboard_State_lost.mono _ _ _ _ _ _ _) (fun _ => pipeGo.mono k a0 a1 a2 l3 mss r _)
theorem scoreboard_Pipe.mono : ∀ a0_0 a0_1 a0_2 l0_3 a1 k, LeO (scoreboard_Pipe.f k a0_0 a0_1 a0_2 l0_3 a1) (scoreboard_Pipe.f (k + 1) a0_0 a0_1 a0_2 l0_3 a1) := by
  intro a0_0 a0_1 a0_2 l0_3 a1 k
  unfold scoreboard_Pipe.f
  refine LeO.bind (scoreboard_asked.mono _ _ _ _ _ _) (fun _ => ?_)
  refine LeO.ite ?_ (LeO.refl _)
  refine LeO.bind (scoreboard_State_spans.mono _ _ _ _ _ _) (fun _ => ?_)
  exact LeO.ite (LeO.bind (pipeGo.mono _ _ _ _ _ _ _ _) (fun _ => LeO.refl _)) (LeO.refl _)
set_option maxHeartbeats 8000000 in
set_option maxRecDepth 100000 in
theorem scoreboard_Pipe.calls (k : Nat) (a0_0 : Int) (a0_1 : Int) (a0_2 : Int) (A0_3 : Option Addr) (c0_3 : Nat) (l0_3 : List (S35)) (a1 : Int) (r1 : Int) (r2 : Int) (w : World) (hr0_3 : Kd.C k35 w A0_3 l0_3.length l0_3) (hc0_3 : l0_3.length ≤ c0_3) (h : scoreboard_Pipe.f k a0_0 a0_1 a0_2 l0_3 a1 = some (r1, r2)) :
    Calls Try.prog 10 #[.agg #[.int .u32 a0_0, .int .u32 a0_1, .int .u32 a0_2, .slice A0_3 l0_3.length c0_3], .int .i64 a1] w fun e w' => e = .returned (.tuple #[.int .i64 r1, .int .i64 r2]) ∧ Below w.heap.size w w' := by
  unfold scoreboard_Pipe.f at h
  obtain ⟨e0, hask, h⟩ := Option.bind_eq_some_iff.mp h
  by_cases h0 : e0 = 0
  · subst h0
    rw [if_pos rfl] at h
    obtain ⟨sp, hsp, h⟩ := Option.bind_eq_some_iff.mp h
    by_cases h1 : sp.length < 8796093022000
    · rw [if_pos h1] at h
      obtain ⟨n, hgo, h⟩ := Option.bind_eq_some_iff.mp h
      obtain ⟨h2a, h2b⟩ := Prod.mk.inj (Option.some.inj h)
      subst h2a
      subst h2b
      exact callsIn_wide.1 (pipe_in 5 (by omega) k a0_0 a0_1 a0_2 A0_3 c0_3 l0_3 a1 sp n w hr0_3 hc0_3 hask hsp h1 hgo)
    · rw [if_neg h1] at h
      cases h
  · rw [if_neg h0] at h
    obtain ⟨h2a, h2b⟩ := Prod.mk.inj (Option.some.inj h)
    subst h2a
    subst h2b
    exact pipe_err k a0_0 a0_1 a0_2 A0_3 c0_3 l0_3 a1 _ h0 w hr0_3 hc0_3 hask


end Go.Proofs.Ytfaoeljggfdhmaa.Q
