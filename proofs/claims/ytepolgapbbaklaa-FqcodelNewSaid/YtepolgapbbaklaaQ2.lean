-- written for this claim out of the program's translation by a program (wip/pr.sh); Lean checks it
import Derived.Test.YtepolgapbbaklaaQ0
import Derived.Test.YtepolgapbbaklaaCodelZ
namespace Go.Proofs.Ytepolgapbbaklaa.Q
open Go.RowKit Go.Proofs.YtepolgapbbaklaaW.PrintWords Go.Proofs.YtepolgapbbaklaaW.PrintLast Go.Proofs.YtepolgapbbaklaaW.PrintMore
attribute [local go_sem] max2_int min2_int max_two min_two max_three min_three max_four min_four   -- for this text's walks alone
set_option linter.unusedVariables false
set_option linter.unusedSimpArgs false

/-! ### codel_Dequeue: function 26 -/
-- GIVENPART
-- IMPORT Derived.Test.YtepolgapbbaklaaCodelZ
def codel_Dequeue.f (k : Nat) (a0_0 a0_1 a0_2 : Int) (a1_0 : Bool) (a1_1 : Int) (a1_2 : Bool) (a1_3 a1_4 a1_5 : Int) (l2 : List S41) (a3 : Int) : Option (Bool × Int × Bool × Int × Int × Int × Bool × Int × Int × Bool × Int × Bool × List S41 × Int × Int) :=
  (deqR k a0_0 a0_1 a0_2 a1_0 a1_1 a1_2 a1_3 a1_4 a1_5 l2 a3).bind fun p => some (p.1.above, p.1.aboveAt, p.1.dropping, p.1.next, p.1.count, p.1.last, p.1.rhas, p.1.out.f0, p.1.out.f1, p.1.out.f2, p.1.out.f3, p.1.marked, p.1.dropped, p.1.left, p.2)
theorem codel_Dequeue.mono : ∀ a0_0 a0_1 a0_2 a1_0 a1_1 a1_2 a1_3 a1_4 a1_5 l2 a3 k, LeO (codel_Dequeue.f k a0_0 a0_1 a0_2 a1_0 a1_1 a1_2 a1_3 a1_4 a1_5 l2 a3) (codel_Dequeue.f (k + 1) a0_0 a0_1 a0_2 a1_0 a1_1 a1_2 a1_3 a1_4 a1_5 l2 a3) := by
  intro a0_0 a0_1 a0_2 a1_0 a1_1 a1_2 a1_3 a1_4 a1_5 l2 a3 k
  unfold codel_Dequeue.f
  exact LeO.bind (deqR.mono _ _ _ _ _ _ _ _ _ _ _ _) (fun _ => LeO.refl _)
set_option maxHeartbeats 8000000 in
set_option maxRecDepth 100000 in
theorem codel_Dequeue.calls (k : Nat) (a0_0 : Int) (a0_1 : Int) (a0_2 : Int) (a1_0 : Bool) (a1_1 : Int) (a1_2 : Bool) (a1_3 : Int) (a1_4 : Int) (a1_5 : Int) (A2 : Option Addr) (c2 : Nat) (l2 : List (S41)) (a3 : Int) (r1 : Bool) (r2 : Int) (r3 : Bool) (r4 : Int) (r5 : Int) (r6 : Int) (r7 : Bool) (r8 : Int) (r9 : Int) (r10 : Bool) (r11 : Int) (r12 : Bool) (r13 : List (S41)) (r14 : Int) (r15 : Int) (w : World) (hr2 : Kd.C k41 w A2 l2.length l2) (hc2 : l2.length ≤ c2) (h : codel_Dequeue.f k a0_0 a0_1 a0_2 a1_0 a1_1 a1_2 a1_3 a1_4 a1_5 l2 a3 = some (r1, r2, r3, r4, r5, r6, r7, r8, r9, r10, r11, r12, r13, r14, r15)) :
    Calls Try.prog 26 #[.agg #[.int .i64 a0_0, .int .i64 a0_1, .int .i64 a0_2], .agg #[.bool a1_0, .int .i64 a1_1, .bool a1_2, .int .i64 a1_3, .int .i64 a1_4, .int .i64 a1_5], .slice A2 l2.length c2, .int .i64 a3] w fun e w' => ∃ v12_ : Value, e = .returned (.tuple #[.agg #[.bool r1, .int .i64 r2, .bool r3, .int .i64 r4, .int .i64 r5, .int .i64 r6], .agg #[.bool r7, .int .i64 r8, .int .i64 r9, .bool r10, .int .i64 r11, .bool r12, v12_, .int .i64 r14], .int .i64 r15]) ∧ Kd.R k41 41 w' w.heap.size (fun _ => True) v12_ r13 ∧ Below w.heap.size w w' := by
  unfold codel_Dequeue.f at h
  obtain ⟨p, hp, h⟩ := Option.bind_eq_some_iff.1 h
  obtain ⟨rr, er⟩ := p
  have h := Option.some.inj h
  simp only [Prod.mk.injEq] at h
  obtain ⟨rfl, rfl, rfl, rfl, rfl, rfl, rfl, rfl, rfl, rfl, rfl, rfl, rfl, rfl, rfl⟩ := h
  exact deq_in k _ _ _ _ _ _ _ _ _ A2 c2 l2 _ rr er w hr2 hc2 hp


end Go.Proofs.Ytepolgapbbaklaa.Q
