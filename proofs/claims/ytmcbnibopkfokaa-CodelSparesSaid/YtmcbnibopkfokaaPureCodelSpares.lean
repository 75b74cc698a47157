/- The plain law of CodelSpares: what may be spared is neither dropped nor marked. No condition. -/
import Derived.Test.YtmcbnibopkfokaaQ5
import Derived.Test.YtmcbnibopkfokaaCodelS
namespace Go.Proofs.Ytmcbnibopkfokaa.Pure
open Go.RowKit Go.Proofs.Ytmcbnibopkfokaa.Q Go.Proofs.YtmcbnibopkfokaaW.PrintWords Go.Proofs.YtmcbnibopkfokaaW.PrintLast Go.Proofs.YtmcbnibopkfokaaW.PrintMore Go.Proofs.YtmcbnibopkfokaaW.Arith Go.Proofs.YtmcbnibopkfokaaW.Opened
theorem rd_at (l : List S42) (i : Nat) (x : S42) (h : l[i]? = some x) : rd_T42 l (i : Int) = x := by
  unfold rd_T42
  simp [List.getD_eq_getElem?_getD, h]
theorem drop_at (l : List S42) (i : Nat) (x : S42) (h : l[i]? = some x) : l.drop i = x :: l.drop (i + 1) := by
  obtain ⟨hi, e⟩ := List.getElem?_eq_some_iff.1 h
  rw [List.drop_eq_getElem_cons hi, e]
theorem all_drop (l : List S42) (h : l.all inR = true) (n : Nat) : (l.drop n).all inR = true := by
  rw [List.all_eq_true] at h ⊢
  exact fun x hx => h x (List.mem_of_mem_drop hx)
section
variable (l : List S42) (now : Int) (hit : List S42) (p0 p1 p2 : Int) (b0 : Bool) (o0 o1 : Int) (o2 : Bool) (o3 : Int) (mk : Bool) (dr : List S42) (lf : Int)
theorem rest_sum (hl : l.all inR = true) (hn : l.length ≤ 4398046511104) (i : Int) : ∀ (d k j : Nat) (acc : Int), j + d = l.length → 0 ≤ acc → acc + 65535 * d ≤ 9223372036854775807 →
    stopcocklaw12_CodelSpares.l1 (k + d + 1) l now hit i acc (j : Int) p0 p1 p2 b0 o0 o1 o2 o3 mk dr lf = stopcocklaw12_CodelSpares.l1 (k + 1) l now hit i (acc + sumI (l.drop j)) (l.length : Int) p0 p1 p2 b0 o0 o1 o2 o3 mk dr lf := by
  intro d
  induction d with
  | zero =>
    intro k j acc h h0 h1
    obtain rfl : j = l.length := by omega
    rw [List.drop_length]
    simp only [sumI, Int.add_zero, Nat.add_zero]
  | succ d ih =>
    intro k j acc h h0 h1
    obtain ⟨x, hx⟩ : ∃ x, l[j]? = some x := ⟨_, List.getElem?_eq_getElem (by omega)⟩
    have hd := drop_at l j x hx
    have hin : inR x = true := by
      have := all_drop l hl j
      rw [hd, List.all_cons, Bool.and_eq_true] at this
      exact this.1
    have hx' := of_decide_eq_true hin
    obtain ⟨kk, hkk⟩ : ∃ kk, k + (d + 1) = kk := ⟨_, rfl⟩
    rw [hkk]
    conv => lhs; simp only [stopcocklaw12_CodelSpares.l1]
    rw [if_pos (by omega), if_pos (by omega), rd_at l j x hx, w64 (by omega) (by omega), w64 (x := (j : Int) + 1) (by omega) (by omega), show kk = k + d + 1 by omega]
    have := ih k (j + 1) (acc + x.f1) (by omega) (by omega) (by omega)
    rw [show ((j + 1 : Nat) : Int) = (j : Int) + 1 by omega] at this
    rw [this, hd]
    simp only [sumI]
    congr 1
    omega
/-- What each packet that was hit is like. -/
def Hits : Prop := ∀ (i : Nat) (x : S42), hit[i]? = some x → -4611686018427387904 ≤ now - x.f0 ∧ now - x.f0 ≤ 4611686018427387904 ∧ p0 ≤ now - x.f0 ∧ p2 < sumI (l.drop (i + 1)) ∧ (x.f2 = true → dr.length ≤ i) ∧ (x.f2 = false → i ≠ dr.length)
theorem spare_go (hl : l.all inR = true) (hn : l.length ≤ 4398046510976) (hh : Hits l now hit p0 p2 dr) (hln : hit.length ≤ l.length) : ∀ (m k i : Nat), i + m = hit.length → (m + 1) * (l.length + 3) ≤ k →
    stopcocklaw12_CodelSpares.l0 k l now hit (i : Int) p0 p1 p2 b0 o0 o1 o2 o3 mk dr lf = some true := by
  intro m
  induction m with
  | zero =>
    intro k i h hk
    obtain ⟨k, rfl⟩ : ∃ z, k = z + 1 := ⟨k - 1, by omega⟩
    simp only [stopcocklaw12_CodelSpares.l0]
    rw [if_neg (by omega)]
  | succ m ih =>
    intro k i h hk
    rw [Nat.succ_mul] at hk
    obtain ⟨K, hK⟩ : ∃ K, (m + 1) * (l.length + 3) = K := ⟨_, rfl⟩
    rw [hK] at hk
    obtain ⟨k, rfl⟩ : ∃ z, k = (K + z + (l.length - (i + 1)) + 1) + 1 := ⟨k - K - (l.length - (i + 1)) - 2, by omega⟩
    have ih2 := ih (K + k) (i + 1) (by omega) (by omega)
    rw [show ((i + 1 : Nat) : Int) = (i : Int) + 1 by omega] at ih2
    simp only [stopcocklaw12_CodelSpares.l0]
    rw [if_pos (by omega), w64 (x := (i : Int) + 1) (by omega) (by omega)]
    have hs := rest_sum l now hit p0 p1 p2 b0 o0 o1 o2 o3 mk dr lf hl (by omega) (i : Int) (l.length - (i + 1)) (K + k) (i + 1) 0 (by omega) (by omega) (by omega)
    rw [show ((i + 1 : Nat) : Int) = (i : Int) + 1 by omega] at hs
    rw [hs]
    obtain ⟨x, hx⟩ : ∃ x, hit[i]? = some x := ⟨_, List.getElem?_eq_getElem (by omega)⟩
    obtain ⟨h1, h2, h3, h4, h5, h6⟩ := hh i x hx
    simp only [stopcocklaw12_CodelSpares.l1]
    rw [if_neg (by omega), if_pos (by omega), if_pos (by omega), rd_at hit i x hx, w64 (x := now - x.f0) (by omega) (by omega), if_neg (by omega), if_neg (by omega), w64 (x := (i : Int) + 1) (by omega) (by omega)]
    cases hf : x.f2 with
    | true =>
      have := h5 hf
      rw [if_pos rfl, if_neg (by omega), if_pos rfl]
      exact ih2
    | false =>
      have := h6 hf
      rw [if_neg (by decide), if_neg (by decide), if_neg (by omega)]
      exact ih2
end
theorem CodelSpares : stopcocklaw12_CodelSpares.Pure := by
  intro p0 p1 p2 s0 s1 s2 s3 s4 s5 l now hp hs hl hn
  have hlen : l.length ≤ 4398046510976 := by have := hl.1; omega
  obtain ⟨K, hK⟩ : ∃ K, K = BIG + (l.length + 2) * (l.length + 3) := ⟨_, rfl⟩
  have hK2 : ∀ m : Nat, m ≤ l.length → (m + 1) * (l.length + 3) ≤ K := fun m hm => by
    have : (m + 1) * (l.length + 3) ≤ (l.length + 2) * (l.length + 3) := Nat.mul_le_mul_right _ (by omega)
    omega
  refine ⟨K + 1, ?_⟩
  unfold stopcocklaw12_CodelSpares.f
  rw [alive_tells (K + 1) (by omega)]
  simp only [Option.bind_some]
  rw [if_pos trivial]
  obtain ⟨r, e, hd, hq⟩ := Dequeue_tells (K + 1) (by omega) p0 p1 p2 s0 s1 s2 s3 s4 s5 l now hlen
  have hdl := dropped_len hq
  rw [hd]
  simp only [Option.bind_some, stopcocklaw12_num.f]
  by_cases c : e = 0
  · rw [if_pos c, copy_is _ (by omega)]
    simp only [Option.bind_some]
    obtain ⟨t, hi, h1, h2, h3, h4, h5, hr⟩ := hq.on c
    have hall := hi.all
    have hin : ∀ x ∈ l, inR x = true := by rw [List.all_eq_true] at h5; exact h5
    have htg := hi.tg
    have hnw := hi.nw
    have hokd := hi.okd
    rw [h1] at htg hokd
    rw [h3] at hnw hokd
    rw [h2] at hokd
    have low : ∀ x ∈ l, -4611686018427387904 ≤ now - x.f0 ∧ now - x.f0 ≤ 4611686018427387904 := fun x hx => by
      have := of_decide_eq_true (hin x hx)
      omega
    have hdm : ∀ x ∈ t.dropped, x ∈ l := fun x hx => by rw [← hall]; exact List.mem_append_left _ hx
    subst hr
    dsimp only at hdl ⊢
    cases hm : t.marked with
    | false =>
      rw [if_neg (by decide)]
      simp only [stopcocklaw12_CodelSpares.j0]
      refine spare_go l now t.dropped p0 p1 p2 _ _ _ _ _ _ t.dropped _ h5 hlen (fun i x hx => ?_) hdl t.dropped.length K 0 (by omega) (hK2 _ hdl)
      have hm2 := low x (hdm x (List.mem_of_getElem? hx))
      obtain ⟨a1, a2, a3⟩ := hokd i x hx
      have hlt := (List.getElem?_eq_some_iff.1 hx).1
      exact ⟨hm2.1, hm2.2, a2, a3, fun e => (by rw [a1] at e; cases e), fun _ => (by omega)⟩
    | true =>
      rw [if_pos rfl, if_pos (by omega)]
      obtain ⟨hrp, hect⟩ := h4 hm
      have hhas := hrp.has
      rw [hhas, if_pos rfl] at hall
      have hcl : t.dropped.length + 1 ≤ l.length := by rw [← hall]; simp
      have hcm : t.cur ∈ l := by rw [← hall]; simp
      have hcd : l.drop (t.dropped.length + 1) = t.q := by
        rw [← hall, List.drop_append]
        simp
      simp only [stopcocklaw12_CodelSpares.j0]
      refine spare_go l now (t.dropped ++ [t.cur]) p0 p1 p2 _ _ _ _ _ _ t.dropped _ h5 hlen (fun i x hx => ?_) (by simpa using hcl) (t.dropped.length + 1) K 0 (by simp) (hK2 _ hcl)
      by_cases hlt : i < t.dropped.length
      · rw [List.getElem?_append_left hlt] at hx
        have hm2 := low x (hdm x (List.mem_of_getElem? hx))
        obtain ⟨a1, a2, a3⟩ := hokd i x hx
        exact ⟨hm2.1, hm2.2, a2, a3, fun e => (by rw [a1] at e; cases e), fun _ => (by omega)⟩
      · have hi2 : i = t.dropped.length := by
          have := (List.getElem?_eq_some_iff.1 hx).1
          simp at this
          omega
        subst hi2
        rw [List.getElem?_append_right (Nat.le_refl _)] at hx
        simp at hx
        subst hx
        have hm2 := low t.cur hcm
        refine ⟨hm2.1, hm2.2, by rw [← h1, ← h3]; exact hrp.old, by rw [hcd, ← hi.bytes, ← h2]; exact hrp.big, fun _ => Nat.le_refl _, fun e => (by rw [hect] at e; cases e)⟩
  · rw [if_neg c]
end Go.Proofs.Ytmcbnibopkfokaa.Pure
