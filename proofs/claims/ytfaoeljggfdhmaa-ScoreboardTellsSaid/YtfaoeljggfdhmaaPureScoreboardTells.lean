/- The plain law of ScoreboardTells: the page's functions and the program's answer alike. Numbers and lists alone. No condition. -/
import Derived.Test.YtfaoeljggfdhmaaQ16
import Derived.Test.YtfaoeljggfdhmaaSbR
namespace Go.Proofs.Ytfaoeljggfdhmaa.Pure
open Go.RowKit Go.Proofs.Ytfaoeljggfdhmaa.Q Go.Proofs.YtfaoeljggfdhmaaW.PrintWords Go.Proofs.YtfaoeljggfdhmaaW.PrintLast Go.Proofs.YtfaoeljggfdhmaaW.PrintMore Go.Proofs.YtfaoeljggfdhmaaW.Arith Go.Proofs.YtfaoeljggfdhmaaW.Opened
theorem ScoreboardTells : stopcocklaw17_ScoreboardTells.Pure := by
  intro a0 a1 a2 l mss seq n resc hw hm hs hn
  obtain ⟨h0, h1, h2, h3⟩ := hw
  have u0 : U32 a0 := wf_u32 h0
  have u1 : U32 a1 := wf_u32 h1
  have u2 : U32 a2 := wf_u32 h2
  have hll : l.length * 8 ≤ 140737488351232 := h3.1
  have ul : ∀ b ∈ l, U32 b.f0 ∧ U32 b.f1 := fun b hb => ⟨wf_u32 (h3.2 b hb).1, wf_u32 (h3.2 b hb).2⟩
  unfold stopcocklaw17_ScoreboardTells.f
  refine if_pos ?_
  obtain ⟨k, hk⟩ : ∃ k, l.length + 9000 = k := ⟨_, rfl⟩
  rw [hk]
  unfold tellsB
  simp only [Bool.and_eq_true]
  obtain ⟨v1, p1, q1⟩ := Lost_same k a0 a1 a2 l mss seq (by omega) (by omega)
  obtain ⟨v2, p2, q2⟩ := Pipe_same k a0 a1 a2 l mss (by omega) (by omega) u0 u1 ul
  obtain ⟨v3, p3, q3⟩ := Next_same k a0 a1 a2 l mss resc (by omega) (by omega) u0 u1 u2 ul
  obtain ⟨v5, p5, q5, s5⟩ := Sent_same k a0 a1 a2 l n (by omega) (by omega) (by omega)
  obtain ⟨v6, p6, q6, s6⟩ := Resent_same k a0 a1 a2 l seq (by omega) (by omega) (by omega)
  obtain ⟨v7, p7, q7, s7⟩ := Timeout_same k a0 a1 a2 l (by omega) (by omega)
  have ck : alike (scoreboard_Check.f k a0 a1 a2 l) (stopcockref17_Check.f k a0 a1 a2 l) = true := by
    rcases chk_both k a0 a1 a2 l (by omega) (by omega) with ⟨x, y, _⟩ | ⟨x, y⟩
    · exact alike_of _ x y
    · exact alike_of _ x y
  have so : ∀ (x : Option (Int × Int × Int × List S35 × Int)) v, x = some v → stopcocklaw17_same.f k v.1 v.2.1 v.2.2.1 v.2.2.2.1 v.1 v.2.1 v.2.2.1 v.2.2.2.1 = some true → selfOk k x = true := by
    intro x v hx hv
    subst hx
    exact decide_eq_true hv
  exact ⟨decide_eq_true (own_tells a0 a1 a2 l (by omega)), alike_of v1 p1 q1, alike_of v2 p2 q2, alike_of v3 p3 q3, ck, alike_of v5 p5 q5, alike_of v6 p6 q6, alike_of v7 p7 q7, so _ v5 p5 s5, so _ v6 p6 s6, so _ v7 p7 s7, decide_eq_true (self_same k a0 a1 a2 l (by omega) (by omega)), decide_eq_true (alive_tells k (by omega))⟩
end Go.Proofs.Ytfaoeljggfdhmaa.Pure
