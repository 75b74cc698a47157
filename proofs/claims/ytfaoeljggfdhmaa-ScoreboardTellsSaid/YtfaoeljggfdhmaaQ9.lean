-- written for this claim out of the program's translation by a program (wip/pr.sh); Lean checks it
import Derived.Test.YtfaoeljggfdhmaaQ0
import Derived.Test.YtfaoeljggfdhmaaQ2
import Derived.Test.YtfaoeljggfdhmaaQ4
import Derived.Test.YtfaoeljggfdhmaaLostT
namespace Go.Proofs.Ytfaoeljggfdhmaa.Q
open Go.RowKit Go.Proofs.YtfaoeljggfdhmaaW.PrintWords Go.Proofs.YtfaoeljggfdhmaaW.PrintLast Go.Proofs.YtfaoeljggfdhmaaW.PrintMore
attribute [local go_sem] max2_int min2_int max_two min_two max_three min_three max_four min_four   -- for this text's walks alone
set_option linter.unusedVariables false
set_option linter.unusedSimpArgs false

/-! ### scoreboard_Lost: function 14 -/
-- GIVENPART
-- IMPORT Derived.Test.YtfaoeljggfdhmaaLostT
def scoreboard_Lost.f (k : Nat) (a0_0 a0_1 a0_2 : Int) (l0_3 : List (S35)) (a1 a2 : Int) : Option (Bool × Int) :=
  (scoreboard_asked.f k a0_0 a0_1 a0_2 l0_3 a1).bind fun e => if e = 0 then (if (a2 - a0_0) % 4294967296 ≥ (a0_1 - a0_0) % 4294967296 then some (false, 151) else ((scoreboard_State_spans.f k a0_0 a0_1 a0_2 l0_3 l0_3).bind fun sp => if 0 ≤ idxOf ((a2 - a0_0) % 4294967296) sp 0 then some (false, 0) else ((scoreboard_State_lost.f k a0_0 a0_1 a0_2 l0_3 a1 ((a2 - a0_0) % 4294967296)).bind fun b => some (b, 0)))) else some (false, e)
theorem scoreboard_Lost.mono : ∀ a0_0 a0_1 a0_2 l0_3 a1 a2 k, LeO (scoreboard_Lost.f k a0_0 a0_1 a0_2 l0_3 a1 a2) (scoreboard_Lost.f (k + 1) a0_0 a0_1 a0_2 l0_3 a1 a2) := by
  intro a0_0 a0_1 a0_2 l0_3 a1 a2 k
  unfold scoreboard_Lost.f
  refine LeO.bind (scoreboard_asked.mono _ _ _ _ _ _) (fun _ => ?_)
  refine LeO.ite (LeO.ite (LeO.refl _) ?_) (LeO.refl _)
  refine LeO.bind (scoreboard_State_spans.mono _ _ _ _ _ _) (fun _ => ?_)
  exact LeO.ite (LeO.refl _) (LeO.bind (scoreboard_State_lost.mono _ _ _ _ _ _ _) (fun _ => LeO.refl _))
set_option maxHeartbeats 8000000 in
set_option maxRecDepth 100000 in
theorem scoreboard_Lost.calls (k : Nat) (a0_0 : Int) (a0_1 : Int) (a0_2 : Int) (A0_3 : Option Addr) (c0_3 : Nat) (l0_3 : List (S35)) (a1 : Int) (a2 : Int) (r1 : Bool) (r2 : Int) (w : World) (hr0_3 : Kd.C k35 w A0_3 l0_3.length l0_3) (hc0_3 : l0_3.length ≤ c0_3) (h : scoreboard_Lost.f k a0_0 a0_1 a0_2 l0_3 a1 a2 = some (r1, r2)) :
    Calls Try.prog 14 #[.agg #[.int .u32 a0_0, .int .u32 a0_1, .int .u32 a0_2, .slice A0_3 l0_3.length c0_3], .int .i64 a1, .int .u32 a2] w fun e w' => e = .returned (.tuple #[.bool r1, .int .i64 r2]) ∧ Below w.heap.size w w' := by
  unfold scoreboard_Lost.f at h
  obtain ⟨e0, hask, h⟩ := Option.bind_eq_some_iff.mp h
  by_cases h0 : e0 = 0
  · subst h0
    rw [if_pos rfl] at h
    by_cases hf : (a2 - a0_0) % 4294967296 ≥ (a0_1 - a0_0) % 4294967296
    · rw [if_pos hf] at h
      obtain ⟨h2a, h2b⟩ := Prod.mk.inj (Option.some.inj h)
      subst h2a h2b
      exact lost_far k a0_0 a0_1 a0_2 A0_3 c0_3 l0_3 a1 a2 _ rfl w hr0_3 hc0_3 hask hf
    · rw [if_neg hf] at h
      obtain ⟨sp, hsp, h⟩ := Option.bind_eq_some_iff.mp h
      by_cases hi : 0 ≤ idxOf ((a2 - a0_0) % 4294967296) sp 0
      · rw [if_pos hi] at h
        obtain ⟨h2a, h2b⟩ := Prod.mk.inj (Option.some.inj h)
        subst h2a h2b
        exact lost_walk k a0_0 a0_1 a0_2 A0_3 c0_3 l0_3 a1 a2 _ rfl sp true false w hr0_3 hc0_3 hask hf hsp (decide_eq_true hi) (fun e => by cases e)
      · rw [if_neg hi] at h
        obtain ⟨b, hb, h⟩ := Option.bind_eq_some_iff.mp h
        obtain ⟨h2a, h2b⟩ := Prod.mk.inj (Option.some.inj h)
        subst h2a h2b
        exact lost_walk k a0_0 a0_1 a0_2 A0_3 c0_3 l0_3 a1 a2 _ rfl sp false _ w hr0_3 hc0_3 hask hf hsp (decide_eq_false hi) (fun _ => hb)
  · rw [if_neg h0] at h
    obtain ⟨h2a, h2b⟩ := Prod.mk.inj (Option.some.inj h)
    subst h2a h2b
    exact lost_err k a0_0 a0_1 a0_2 A0_3 c0_3 l0_3 a1 a2 _ h0 w hr0_3 hc0_3 hask


end Go.Proofs.Ytfaoeljggfdhmaa.Q
