/- Packets that are the same, copied, summed. No condition. -/
import Derived.Test.YtmcbnibopkfokaaQ4
import Derived.Test.YtmcbnibopkfokaaCodelM
namespace Go.Proofs.Ytmcbnibopkfokaa.Pure
open Go.RowKit Go.Proofs.Ytmcbnibopkfokaa.Q Go.Proofs.YtmcbnibopkfokaaW.PrintWords Go.Proofs.YtmcbnibopkfokaaW.PrintLast Go.Proofs.YtmcbnibopkfokaaW.PrintMore Go.Proofs.YtmcbnibopkfokaaW.Arith Go.Proofs.YtmcbnibopkfokaaW.Opened
theorem same_go (l : List S42) (hn : l.length ≤ 4398046511104) : ∀ (d k : Nat) (i : Int), 0 ≤ i → i + d = l.length → d < k → stopcockplain_SamePackets.l0 k l l i = some true := by
  intro d
  induction d with
  | zero =>
    intro k i h0 h1 hk
    obtain ⟨k, rfl⟩ : ∃ m, k = m + 1 := ⟨k - 1, by omega⟩
    simp only [stopcockplain_SamePackets.l0]
    rw [if_neg (by omega)]
  | succ d ih =>
    intro k i h0 h1 hk
    obtain ⟨k, rfl⟩ : ∃ m, k = m + 1 := ⟨k - 1, by omega⟩
    simp only [stopcockplain_SamePackets.l0]
    rw [if_pos (by omega), if_pos h0, if_pos (by omega), if_neg (by simp), w64 (by omega) (by omega)]
    exact ih k (i + 1) (by omega) (by omega) (by omega)
theorem same_self (k : Nat) (l : List S42) (hn : l.length ≤ 4398046511104) (hk : l.length < k) : stopcockplain_SamePackets.f k l l = some true := by
  unfold stopcockplain_SamePackets.f
  rw [if_pos rfl]
  exact same_go l hn l.length k 0 (by omega) (by omega) hk
theorem copy_is (l : List S42) (hn : l.length < 4398046511104) : stopcockplain_CopyPackets.f l = some l := by
  unfold stopcockplain_CopyPackets.f
  rw [if_pos (by simpa using hn)]
  simp
theorem Dequeue_tells (k : Nat) (hk : BIG ≤ k) (a0_0 a0_1 a0_2 : Int) (a1_0 : Bool) (a1_1 : Int) (a1_2 : Bool) (a1_3 a1_4 a1_5 : Int) (l : List S42) (a3 : Int) (hn : l.length ≤ 4398046510976) :
    ∃ r e, codel_Dequeue.f k a0_0 a0_1 a0_2 a1_0 a1_1 a1_2 a1_3 a1_4 a1_5 l a3 = some (r.above, r.aboveAt, r.dropping, r.next, r.count, r.last, r.rhas, r.out.f0, r.out.f1, r.out.f2, r.out.f3, r.marked, r.dropped, r.left, e) ∧ Dq a0_0 a0_2 l a3 r e := by
  obtain ⟨r, e, h, hd⟩ := deq_tells k hk a0_0 a0_1 a0_2 a1_0 a1_1 a1_2 a1_3 a1_4 a1_5 l a3 hn
  refine ⟨r, e, ?_, hd⟩
  unfold codel_Dequeue.f
  rw [h]
  rfl
theorem dropped_len {a0_0 a0_2 : Int} {l : List S42} {a3 : Int} {r : Run} {e : Int} (h : Dq a0_0 a0_2 l a3 r e) : r.dropped.length ≤ l.length := by
  by_cases c : e = 0
  · obtain ⟨s, hi, _, _, _, _, _, hr⟩ := h.on c
    have := hi.all
    rw [hr]
    show s.dropped.length ≤ _
    rw [← this, List.length_append]
    omega
  · rw [(h.off c).2.1]
    simp
end Go.Proofs.Ytmcbnibopkfokaa.Pure
