/- The plain law of ScoreboardPipe: the pipe is at most twice what is on its way; where nothing is in blocks or sent again, it is just that. Numbers and lists alone. No condition. -/
import Derived.Test.YtfaoeljggfdhmaaSb
namespace Go.Proofs.Ytfaoeljggfdhmaa.Pure
open Go.RowKit Go.Proofs.Ytfaoeljggfdhmaa.Q Go.Proofs.YtfaoeljggfdhmaaW.PrintWords Go.Proofs.YtfaoeljggfdhmaaW.PrintLast Go.Proofs.YtfaoeljggfdhmaaW.PrintMore Go.Proofs.YtfaoeljggfdhmaaW.Arith Go.Proofs.YtfaoeljggfdhmaaW.Opened

/-- One hole more. -/
theorem step_range (n : Int) (b : Bool) (h : S75) (hi : Int) (h0 : 0 ≤ n) (h1 : n ≤ 8589934592) (k0 : 0 ≤ h.f0) (k1 : h.f0 < h.f1) (k2 : h.f1 ≤ 1073741824) (i0 : 0 ≤ hi) (i1 : hi ≤ 1073741824) :
    n ≤ pipeStep n b h hi ∧ pipeStep n b h hi ≤ n + 2 * (h.f1 - h.f0) := by
  have e : mx 0 (wrap64 (mn h.f1 hi - mx h.f0 0)) = mx 0 (mn h.f1 hi - h.f0) := by
    have : mx h.f0 0 = h.f0 := by unfold mx; split <;> omega
    rw [this, w64 (by unfold mn; split <;> omega) (by unfold mn; split <;> omega)]
  have r : 0 ≤ mx 0 (mn h.f1 hi - h.f0) ∧ mx 0 (mn h.f1 hi - h.f0) ≤ h.f1 - h.f0 := by unfold mx mn; split <;> split <;> omega
  unfold pipeStep
  rw [e]
  cases b
  · simp only [Bool.false_eq_true, if_false]
    rw [w64 (x := h.f1 - h.f0) (by omega) (by omega), w64 (x := n + (h.f1 - h.f0)) (by omega) (by omega), w64 (by omega) (by omega)]
    omega
  · simp only [if_true]
    rw [w64 (by omega) (by omega)]
    omega
theorem pipe_range (k : Nat) (hk : 1100 ≤ k) (a0 a1 a2 : Int) (l : List S35) (mss : Int) (hm : 1 ≤ mss ∧ mss ≤ 65535) (hl : l.length ≤ 1024) (fl : Int) (hfl : fl ≤ 1073741824) (hhi : (a2 - a0) % 4294967296 ≤ 1073741824) :
    ∀ (sp : List S75) (at_ n : Int), Rise fl at_ sp → 0 ≤ at_ → at_ ≤ fl → 0 ≤ n → n + 2 * (fl - at_) ≤ 4294967296 → ∃ r, pipeGo k a0 a1 a2 l mss (holesOf at_ (sp ++ [⟨fl, fl⟩])) n = some r ∧ n ≤ r ∧ r ≤ n + 2 * (fl - at_)
  | [], at_, n, _, h0, h1, n0, n1 => by
    simp only [List.nil_append, holesOf]
    by_cases c : at_ < fl
    · rw [if_pos c]
      simp only [pipeGo]
      rw [lost_tells k a0 a1 a2 l mss at_ hm hl hk, Option.bind_some]
      have := step_range n (lostB mss at_ (spansOf a0 l)) ⟨at_, fl⟩ ((a2 - a0) % 4294967296) n0 (by omega) h0 c hfl (by omega) hhi
      exact ⟨_, rfl, this.1, this.2⟩
    · rw [if_neg c]
      exact ⟨n, rfl, by omega, by omega⟩
  | x :: r, at_, n, hR, h0, h1, n0, n1 => by
    obtain ⟨c, k1, k2, hR⟩ := hR
    simp only [List.cons_append, holesOf]
    rw [if_pos c]
    simp only [pipeGo]
    rw [lost_tells k a0 a1 a2 l mss at_ hm hl hk, Option.bind_some]
    have hs := step_range n (lostB mss at_ (spansOf a0 l)) ⟨at_, x.f0⟩ ((a2 - a0) % 4294967296) n0 (by omega) h0 c (by dsimp only; omega) (by omega) hhi
    dsimp only at hs
    obtain ⟨q, hq, q0, q1⟩ := pipe_range k hk a0 a1 a2 l mss hm hl fl hfl hhi r x.f1 (pipeStep n (lostB mss at_ (spansOf a0 l)) ⟨at_, x.f0⟩ ((a2 - a0) % 4294967296)) hR (by omega) (by omega) (by omega) (by omega)
    exact ⟨q, hq, by omega, by omega⟩
theorem ScoreboardPipe : stopcocklaw17_ScoreboardPipe.Pure := by
  intro a0 a1 a2 l mss hw hm
  obtain ⟨h0, h1, h2, h3⟩ := hw
  have h0 := wf_u32 h0
  have h1 := wf_u32 h1
  have h2 := wf_u32 h2
  have hll : l.length * 8 ≤ 140737488351232 := h3.1
  refine ⟨3000, ?_⟩
  obtain ⟨K, hK, hK'⟩ : ∃ K : Nat, K = 3000 ∧ 3000 ≤ K := ⟨3000, rfl, by omega⟩
  rw [← hK]
  clear hK
  unfold stopcocklaw17_ScoreboardPipe.f
  rw [alive_tells K (by omega), Option.bind_some, if_pos rfl, own_tells a0 a1 a2 l (by omega), Option.bind_some]
  simp only []
  unfold scoreboard_Pipe.f
  rcases ask_tells K a0 a1 a2 l mss (by omega) (by omega) with ⟨ha, hF, hm1⟩ | ⟨e, he, hne⟩
  · have hs := spansOf_length a0 l
    have hlen := hF.len
    rw [ha, Option.bind_some, if_pos rfl, spans_tells K a0 a1 a2 l (by omega) (by omega), Option.bind_some, if_pos (by omega)]
    obtain ⟨r, hr, r0, r1⟩ := pipe_range K (by omega) a0 a1 a2 l mss hm1 hF.len ((a1 - a0) % 4294967296) hF.fl (by have := hF.hi; have := hF.fl; omega) (spansOf a0 l) 0 0 hF.rise (by omega) (by omega) (by omega) (by have := hF.fl; omega)
    rw [hr, Option.bind_some, Option.bind_some]
    simp only [stopcocklaw17_num.f, Option.bind_some, if_true]
    rw [if_pos (by omega), if_pos (by omega)]
    by_cases c : (l.length : Int) > 0
    · rw [if_pos c]
    · rw [if_neg c]
      by_cases c2 : a2 = a0
      · rw [if_pos c2]
        have hl0 : l = [] := List.eq_nil_of_length_eq_zero (by omega)
        subst hl0 c2
        have hr2 : r = (a1 - a2) % 4294967296 := by
          have e1 : spansOf a2 [] = [] := rfl
          rw [e1] at hr
          simp only [List.nil_append, holesOf] at hr
          by_cases c3 : 0 < (a1 - a2) % 4294967296
          · rw [if_pos c3] at hr
            simp only [pipeGo] at hr
            have hb : lostB mss 0 (spansOf a2 []) = false := by
              rw [e1]
              unfold lostB behind octs
              exact decide_eq_false (by omega)
            have e2 : (a2 - a2) % 4294967296 = 0 := by omega
            rw [lost_tells K a2 a1 a2 [] mss 0 hm1 (by simp) (by omega), Option.bind_some, hb, e2] at hr
            have hr := Option.some.inj hr
            unfold pipeStep at hr
            dsimp only at hr
            simp only [Bool.false_eq_true, if_false] at hr
            have e3 : mn ((a1 - a2) % 4294967296) 0 = 0 := by unfold mn; rw [if_pos c3]
            have e4 : mx (0 : Int) 0 = 0 := by decide
            have e5 : mx 0 (wrap64 (0 - 0)) = 0 := by
              rw [w64 (by omega) (by omega)]
              decide
            rw [e3, e4, e5, Int.sub_zero, w64 (x := (a1 - a2) % 4294967296) (by omega) (by omega), Int.zero_add, w64 (x := (a1 - a2) % 4294967296) (by omega) (by omega), Int.add_zero, w64 (x := (a1 - a2) % 4294967296) (by omega) (by omega)] at hr
            omega
          · rw [if_neg c3] at hr
            have := Option.some.inj hr
            omega
        rw [hr2]
        simp
      · rw [if_neg c2]
  · rw [he, Option.bind_some, if_neg hne, Option.bind_some]
    simp only [stopcocklaw17_num.f, Option.bind_some]
    rw [if_neg hne]
    rfl
end Go.Proofs.Ytfaoeljggfdhmaa.Pure
