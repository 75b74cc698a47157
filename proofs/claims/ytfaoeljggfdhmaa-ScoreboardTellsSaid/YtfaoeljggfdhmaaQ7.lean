-- written for this claim out of the program's translation by a program (wip/pr.sh); Lean checks it
import Derived.Test.YtfaoeljggfdhmaaQ0
import Derived.Test.YtfaoeljggfdhmaaQ2
import Derived.Test.YtfaoeljggfdhmaaQ4
import Derived.Test.YtfaoeljggfdhmaaQ6
import Derived.Test.YtfaoeljggfdhmaaNextE
namespace Go.Proofs.Ytfaoeljggfdhmaa.Q
open Go.RowKit Go.Proofs.YtfaoeljggfdhmaaW.PrintWords Go.Proofs.YtfaoeljggfdhmaaW.PrintLast Go.Proofs.YtfaoeljggfdhmaaW.PrintMore
attribute [local go_sem] max2_int min2_int max_two min_two max_three min_three max_four min_four   -- for this text's walks alone
set_option linter.unusedVariables false
set_option linter.unusedSimpArgs false

/-! ### scoreboard_Next: function 13 -/
-- GIVENPART
-- IMPORT Derived.Test.YtfaoeljggfdhmaaNextE
def scoreboard_Next.f (k : Nat) (a0_0 a0_1 a0_2 : Int) (l0_3 : List (S35)) (a1 : Int) (a2 : Bool) : Option (Int × Int × Bool × Int) :=
  (scoreboard_asked.f k a0_0 a0_1 a0_2 l0_3 a1).bind fun e => if e = 0 then (if l0_3.length = 0 then some (0, 0, false, 0) else ((scoreboard_State_spans.f k a0_0 a0_1 a0_2 l0_3 l0_3).bind fun sp => if sp.length < 8796093022000 then (nextGo k a0_0 a0_1 a0_2 l0_3 a1 a2 (lastOf a0_0 l0_3) (holesOf 0 (sp ++ [⟨(a0_1 - a0_0) % 4294967296, (a0_1 - a0_0) % 4294967296⟩]))) else none)) else some (0, 0, false, e)
theorem nextHit.mono (k : Nat) (a0 a1 a2 : Int) (l3 : List S35) (mss f t : Int) : LeO (nextHit k a0 a1 a2 l3 mss f t) (nextHit (k + 1) a0 a1 a2 l3 mss f t) := by
  unfold nextHit
  exact LeO.bind (scoreboard_State_blocks.mono _ _ _ _ _ _) (fun _ => LeO.refl _)
theorem nextGo.mono (k : Nat) (a0 a1 a2 : Int) (l3 : List S35) (mss : Int) (resc : Bool) (last : Int) : ∀ (hs : List S75), LeO (nextGo k a0 a1 a2 l3 mss resc last hs) (nextGo (k + 1) a0 a1 a2 l3 mss resc last hs)
  | [] => LeO.refl _
  | h :: r => by
    simp only [nextGo]
    refine LeO.ite (nextGo.mono k a0 a1 a2 l3 mss resc last r) (LeO.ite (nextGo.mono k a0 a1 a2 l3 mss resc last r) (LeO.ite (nextHit.mono _ _ _ _ _ _ _ _) ?_))
    exact LeO.bind (scoreboard_State_lost.mono _ _ _ _ _ _ _) (fun _ => LeO.ite (nextHit.mono _ _ _ _ _ _ _ _) (nextGo.mono k a0 a1 a2 l3 mss resc last r))
theorem scoreboard_Next.mono : ∀ a0_0 a0_1 a0_2 l0_3 a1 a2 k, LeO (scoreboard_Next.f k a0_0 a0_1 a0_2 l0_3 a1 a2) (scoreboard_Next.f (k + 1) a0_0 a0_1 a0_2 l0_3 a1 a2) := by
  intro a0_0 a0_1 a0_2 l0_3 a1 a2 k
  unfold scoreboard_Next.f
  refine LeO.bind (scoreboard_asked.mono _ _ _ _ _ _) (fun _ => ?_)
  refine LeO.ite (LeO.ite (LeO.refl _) ?_) (LeO.refl _)
  refine LeO.bind (scoreboard_State_spans.mono _ _ _ _ _ _) (fun _ => ?_)
  exact LeO.ite (nextGo.mono _ _ _ _ _ _ _ _ _) (LeO.refl _)
set_option maxHeartbeats 8000000 in
set_option maxRecDepth 100000 in
theorem scoreboard_Next.calls (k : Nat) (a0_0 : Int) (a0_1 : Int) (a0_2 : Int) (A0_3 : Option Addr) (c0_3 : Nat) (l0_3 : List (S35)) (a1 : Int) (a2 : Bool) (r1 : Int) (r2 : Int) (r3 : Bool) (r4 : Int) (w : World) (hr0_3 : Kd.C k35 w A0_3 l0_3.length l0_3) (hc0_3 : l0_3.length ≤ c0_3) (h : scoreboard_Next.f k a0_0 a0_1 a0_2 l0_3 a1 a2 = some (r1, r2, r3, r4)) :
    Calls Try.prog 13 #[.agg #[.int .u32 a0_0, .int .u32 a0_1, .int .u32 a0_2, .slice A0_3 l0_3.length c0_3], .int .i64 a1, .bool a2] w fun e w' => e = .returned (.tuple #[.agg #[.int .u32 r1, .int .u32 r2], .bool r3, .int .i64 r4]) ∧ Below w.heap.size w w' := by
  unfold scoreboard_Next.f at h
  obtain ⟨e0, hask, h⟩ := Option.bind_eq_some_iff.mp h
  by_cases h0 : e0 = 0
  · subst h0
    rw [if_pos rfl] at h
    by_cases hl : l0_3.length = 0
    · rw [if_pos hl] at h
      have h2 := Option.some.inj h
      simp only [Prod.mk.injEq] at h2
      obtain ⟨h2a, h2b, h2c, h2d⟩ := h2
      subst h2a h2b h2c h2d
      exact next_empty k a0_0 a0_1 a0_2 A0_3 c0_3 l0_3 a1 a2 w hr0_3 hc0_3 hask hl
    rw [if_neg hl] at h
    obtain ⟨sp, hsp, h⟩ := Option.bind_eq_some_iff.mp h
    by_cases h1 : sp.length < 8796093022000
    · rw [if_pos h1] at h
      exact callsIn_wide.1 (next_in 5 (by omega) k a0_0 a0_1 a0_2 A0_3 c0_3 l0_3 a1 a2 sp _ _ _ _ w hr0_3 hc0_3 hask (Nat.pos_of_ne_zero hl) hsp h1 h)
    · rw [if_neg h1] at h
      cases h
  · rw [if_neg h0] at h
    have h2 := Option.some.inj h
    simp only [Prod.mk.injEq] at h2
    obtain ⟨h2a, h2b, h2c, h2d⟩ := h2
    subst h2a h2b h2c h2d
    exact next_err k a0_0 a0_1 a0_2 A0_3 c0_3 l0_3 a1 a2 _ h0 w hr0_3 hc0_3 hask


end Go.Proofs.Ytfaoeljggfdhmaa.Q
