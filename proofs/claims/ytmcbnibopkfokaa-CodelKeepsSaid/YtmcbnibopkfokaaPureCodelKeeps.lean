/- The plain law of CodelKeeps: the packets come in order, none is lost, none made. No condition. -/
import Derived.Test.YtmcbnibopkfokaaQ4
import Derived.Test.YtmcbnibopkfokaaCodelS
namespace Go.Proofs.Ytmcbnibopkfokaa.Pure
open Go.RowKit Go.Proofs.Ytmcbnibopkfokaa.Q Go.Proofs.YtmcbnibopkfokaaW.PrintWords Go.Proofs.YtmcbnibopkfokaaW.PrintLast Go.Proofs.YtmcbnibopkfokaaW.PrintMore Go.Proofs.YtmcbnibopkfokaaW.Arith Go.Proofs.YtmcbnibopkfokaaW.Opened
theorem CodelKeeps : stopcocklaw12_CodelKeeps.Pure := by
  intro p0 p1 p2 s0 s1 s2 s3 s4 s5 l now hp hs hl hn
  have hlen : l.length ≤ 4398046510976 := by have := hl.1; omega
  refine ⟨BIG + l.length + 2, ?_⟩
  obtain ⟨K, hK⟩ : ∃ K, K = BIG + l.length + 1 := ⟨_, rfl⟩
  rw [show BIG + l.length + 2 = K + 1 by omega]
  unfold stopcocklaw12_CodelKeeps.f
  rw [alive_tells (K + 1) (by omega)]
  simp only [Option.bind_some]
  rw [if_pos trivial]
  obtain ⟨r, e, hd, hq⟩ := Dequeue_tells (K + 1) (by omega) p0 p1 p2 s0 s1 s2 s3 s4 s5 l now hlen
  rw [hd]
  simp only [Option.bind_some, stopcocklaw12_num.f]
  by_cases c : e = 0
  · rw [if_pos c]
    obtain ⟨t, hi, h1, h2, h3, h4, h5, hr⟩ := hq.on c
    have hall := hi.all
    have hln : t.dropped.length + (if t.has = true then [t.cur] else []).length + t.q.length = l.length := by
      rw [← hall]
      simp only [List.length_append]
      omega
    subst hr
    dsimp only
    rw [if_neg (by omega), decide_eq_false (by omega)]
    simp only [stopcocklaw12_CodelKeeps.j0]
    rw [if_neg (by decide), copy_is _ (by omega)]
    simp only [Option.bind_some]
    have hw : wrap64 ((l.length : Int) - (t.q.length : Int)) = (l.length : Int) - (t.q.length : Int) := w64 (by omega) (by omega)
    have hdrop : l.drop ((l.length : Int) - (t.q.length : Int)).toNat = t.q := by
      have e1 : ((l.length : Int) - (t.q.length : Int)).toNat = t.dropped.length + (if t.has = true then [t.cur] else []).length := by omega
      rw [e1, ← hall, ← List.append_assoc, ← List.length_append, List.drop_left]
    rw [hw, hdrop]
    cases hh : t.has with
    | true =>
      rw [hh] at hln hall
      simp only [if_true, List.length_cons, List.length_nil] at hln hall
      rw [if_pos rfl, if_pos (by omega), if_pos (by omega), if_pos (by omega)]
      have hl2 : t.dropped ++ [t.cur] ++ t.q = l := by rw [← hall]; simp
      rw [if_pos (by simp only [List.length_append, List.length_cons, List.length_nil]; omega)]
      show ((stopcockplain_SamePackets.f K (t.dropped ++ [t.cur] ++ t.q) l).bind _) = _
      rw [hl2, same_self K l (by omega) (by omega)]
      rfl
    | false =>
      rw [hh] at hln hall
      simp only [Bool.false_eq_true, if_false, List.length_nil, List.nil_append] at hln hall
      rw [if_neg (by decide), if_pos (by omega), if_pos (by omega)]
      show (if t.dropped.length + t.q.length < 4398046511104 then ((stopcockplain_SamePackets.f K (t.dropped ++ t.q) l).bind _) else none) = _
      rw [if_pos (by omega), hall, same_self K l (by omega) (by omega), hi.emp hh]
      rfl
  · rw [if_neg c]
    obtain ⟨h1, h2, h3⟩ := hq.off c
    rw [h1, h2, h3, if_neg (by decide)]
    show some (wrap64 (((0 : Nat) : Int) + 0) == 0) = some true
    rw [w64 (by omega) (by omega)]
    rfl
end Go.Proofs.Ytmcbnibopkfokaa.Pure
