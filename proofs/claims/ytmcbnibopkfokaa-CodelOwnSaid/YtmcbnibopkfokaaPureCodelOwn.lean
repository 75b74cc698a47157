/- The plain law of CodelOwn: answers are the caller's. No condition. -/
import Derived.Test.YtmcbnibopkfokaaQ6
import Derived.Test.YtmcbnibopkfokaaCodelS
namespace Go.Proofs.Ytmcbnibopkfokaa.Pure
open Go.RowKit Go.Proofs.Ytmcbnibopkfokaa.Q Go.Proofs.YtmcbnibopkfokaaW.PrintWords Go.Proofs.YtmcbnibopkfokaaW.PrintLast Go.Proofs.YtmcbnibopkfokaaW.PrintMore Go.Proofs.YtmcbnibopkfokaaW.Arith Go.Proofs.YtmcbnibopkfokaaW.Opened
theorem own_go (dr : List S42) (hn : dr.length ≤ 4398046511104) (b0 : Bool) (o0 o1 : Int) (o2 : Bool) (o3 : Int) (mk : Bool) (lf : Int) : ∀ (d k i : Nat) (xs : List S42), i + d = xs.length → xs.length ≤ 4398046511104 → d + dr.length + 2 ≤ k →
    stopcocklaw12_CodelOwn.l0 k xs dr (i : Int) b0 o0 o1 o2 o3 mk dr lf = some true := by
  intro d
  induction d with
  | zero =>
    intro k i xs h hx hk
    obtain ⟨k, rfl⟩ : ∃ z, k = z + 1 := ⟨k - 1, by omega⟩
    simp only [stopcocklaw12_CodelOwn.l0]
    rw [if_neg (by omega), same_self k dr hn (by omega)]
    rfl
  | succ d ih =>
    intro k i xs h hx hk
    obtain ⟨k, rfl⟩ : ∃ z, k = z + 1 := ⟨k - 1, by omega⟩
    simp only [stopcocklaw12_CodelOwn.l0]
    rw [if_pos (by omega), if_pos (by omega), w64 (by omega) (by omega)]
    have := ih k (i + 1) (xs.set (i : Int).toNat ⟨0, 0, false, -1⟩) (by rw [List.length_set]; omega) (by rw [List.length_set]; omega) (by omega)
    rw [show ((i + 1 : Nat) : Int) = (i : Int) + 1 by omega] at this
    exact this
theorem CodelOwn : stopcocklaw12_CodelOwn.Pure := by
  intro p0 p1 p2 s0 s1 s2 s3 s4 s5 l now hp hs hl hn
  have hlen : l.length ≤ 4398046510976 := by have := hl.1; omega
  refine ⟨BIG + 2 * l.length + 2, ?_⟩
  obtain ⟨K, hK⟩ : ∃ K, K = BIG + 2 * l.length + 2 := ⟨_, rfl⟩
  rw [← hK]
  unfold stopcocklaw12_CodelOwn.f
  rw [alive_tells K (by omega)]
  simp only [Option.bind_some]
  rw [if_pos trivial, copy_is l (by omega)]
  simp only [Option.bind_some]
  obtain ⟨r, e, hd, hq⟩ := Dequeue_tells K (by omega) p0 p1 p2 s0 s1 s2 s3 s4 s5 l now hlen
  have hdl := dropped_len hq
  rw [hd]
  simp only [Option.bind_some]
  rw [copy_is _ (by omega)]
  simp only [Option.bind_some]
  exact own_go r.dropped (by omega) _ _ _ _ _ _ _ l.length K 0 l (by omega) (by omega) (by omega)
end Go.Proofs.Ytmcbnibopkfokaa.Pure
