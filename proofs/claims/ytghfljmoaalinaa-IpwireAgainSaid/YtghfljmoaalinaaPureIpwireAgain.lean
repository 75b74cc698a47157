/- The plain law of IpwireAgain: octets that are read are built again of what was read: the same, but for bit 15, a checksum of 0 or 65535, and what stands behind. Numbers and lists alone. No condition. -/
import Derived.Test.YtghfljmoaalinaaIp
import Derived.Test.YtghfljmoaalinaaQ12
namespace Go.Proofs.Ytghfljmoaalinaa.Pure
open Go.RowKit Go.Proofs.Ytghfljmoaalinaa.Q Go.Proofs.YtghfljmoaalinaaW.PrintWords Go.Proofs.YtghfljmoaalinaaW.PrintLast Go.Proofs.YtghfljmoaalinaaW.PrintMore Go.Proofs.YtghfljmoaalinaaW.Arith Go.Proofs.YtghfljmoaalinaaW.Opened

theorem again_go (l c : List Int) (odd : Bool) (hl : c.length ≤ l.length) (hc : c.length ≤ 100000) (h : ∀ i, i < c.length → g c i = g l i ∨ (odd = true ∧ (i = 6 ∨ i = 10 ∨ i = 11))) (d : Nat) : ∀ (k : Nat) (i : Int), 0 ≤ i → i ≤ c.length → (c.length : Int) - i = d → d < k →
    stopcocklaw04_IpwireAgain.l0 k l c odd i = some true := by
  induction d with
  | zero =>
    intro k i h0 h1 hd hk
    obtain ⟨k, rfl⟩ : ∃ m, k = m + 1 := ⟨k - 1, by omega⟩
    simp only [stopcocklaw04_IpwireAgain.l0]
    rw [if_neg (by omega)]
  | succ d ih =>
    intro k i h0 h1 hd hk
    obtain ⟨k, rfl⟩ : ∃ m, k = m + 1 := ⟨k - 1, by omega⟩
    obtain ⟨j, rfl⟩ := Int.eq_ofNat_of_zero_le h0
    have ih' := ih k ((j : Int) + 1) (by omega) (by omega) (by omega) (by omega)
    simp only [stopcocklaw04_IpwireAgain.l0]
    rw [if_pos (by omega), if_pos h0, if_pos (by omega), rd_g, rd_g, w64 (by omega) (by omega), ih']
    by_cases he : g c j = g l j
    · rw [if_pos he]
    · rw [if_neg he]
      rcases h j (by omega) with h1 | ⟨ho, h2⟩
      · exact absurd h1 he
      · rw [if_pos ho]
        by_cases h6 : (j : Int) = 6
        · rw [if_pos h6]
        rw [if_neg h6]
        by_cases h10 : (j : Int) = 10
        · rw [if_pos h10]
        rw [if_neg h10, if_pos (by omega)]
theorem split20 (l : List Int) (h : 20 ≤ l.length) : ∃ x0 x1 x2 x3 x4 x5 x6 x7 x8 x9 x10 x11 x12 x13 x14 x15 x16 x17 x18 x19 r, l = x0 :: x1 :: x2 :: x3 :: x4 :: x5 :: x6 :: x7 :: x8 :: x9 :: x10 :: x11 :: x12 :: x13 :: x14 :: x15 :: x16 :: x17 :: x18 :: x19 :: r := by
  have step : ∀ (m : Nat) (l : List Int), m + 1 ≤ l.length → ∃ x r, l = x :: r ∧ m ≤ r.length := fun m l h => by
    cases l with
    | nil => simp at h
    | cons x r => exact ⟨x, r, rfl, by simp at h; omega⟩
  obtain ⟨x0, l0, rfl, k0⟩ := step 19 l h
  obtain ⟨x1, l1, rfl, k1⟩ := step 18 l0 k0
  obtain ⟨x2, l2, rfl, k2⟩ := step 17 l1 k1
  obtain ⟨x3, l3, rfl, k3⟩ := step 16 l2 k2
  obtain ⟨x4, l4, rfl, k4⟩ := step 15 l3 k3
  obtain ⟨x5, l5, rfl, k5⟩ := step 14 l4 k4
  obtain ⟨x6, l6, rfl, k6⟩ := step 13 l5 k5
  obtain ⟨x7, l7, rfl, k7⟩ := step 12 l6 k6
  obtain ⟨x8, l8, rfl, k8⟩ := step 11 l7 k7
  obtain ⟨x9, l9, rfl, k9⟩ := step 10 l8 k8
  obtain ⟨x10, l10, rfl, k10⟩ := step 9 l9 k9
  obtain ⟨x11, l11, rfl, k11⟩ := step 8 l10 k10
  obtain ⟨x12, l12, rfl, k12⟩ := step 7 l11 k11
  obtain ⟨x13, l13, rfl, k13⟩ := step 6 l12 k12
  obtain ⟨x14, l14, rfl, k14⟩ := step 5 l13 k13
  obtain ⟨x15, l15, rfl, k15⟩ := step 4 l14 k14
  obtain ⟨x16, l16, rfl, k16⟩ := step 3 l15 k15
  obtain ⟨x17, l17, rfl, k17⟩ := step 2 l16 k16
  obtain ⟨x18, l18, rfl, k18⟩ := step 1 l17 k17
  obtain ⟨x19, l19, rfl, k19⟩ := step 0 l18 k18
  exact ⟨x0, x1, x2, x3, x4, x5, x6, x7, x8, x9, x10, x11, x12, x13, x14, x15, x16, x17, x18, x19, l19, rfl⟩
theorem fv_back {w f : Int} (h0 : 0 ≤ w) (hf : 0 ≤ f) (hf' : f ≤ 65535) (h : fv (w + f) = 65535) (_h1 : f ≠ 0) (h2 : f ≠ 65535) : 65535 - fv w = f := by
  unfold fv at h ⊢
  split at h
  · omega
  · split <;> omega
theorem g_append_ge (a b : List Int) (i : Nat) (h : a.length ≤ i) : g (a ++ b) i = g b (i - a.length) := by
  unfold g
  rw [List.getD_eq_getElem?_getD, List.getD_eq_getElem?_getD, List.getElem?_append_right h]
theorem g_take (l : List Int) (n i : Nat) (h : i < n) : g (l.take n) i = g l i := by
  unfold g
  rw [List.getD_eq_getElem?_getD, List.getD_eq_getElem?_getD, List.getElem?_take_of_lt h]
/-- What was read, built again. -/
theorem out_again (l : List Int) (hO : Oct l) (s a : Nat) (hl : 20 ≤ l.length) (hv : g l 0 / 16 = 4) (hs : (s : Int) = g l 0 % 16 * 4) (ha : (a : Int) = g l 2 * 256 + g l 3) (hs20 : 20 ≤ s) (hsa : s ≤ a) (hal : a ≤ l.length) (hsum : fv (wsum (l.take s)) = 65535) :
    ∀ i, i < a → g (out (g l 1) (g l 4 * 256 + g l 5) (decide ((g l 6 * 256 + g l 7) / 16384 % 2 = 1)) (decide ((g l 6 * 256 + g l 7) / 8192 % 2 = 1)) ((g l 6 * 256 + g l 7) % 8192 * 8) (g l 8) (g l 9) (g32 l 12) (g32 l 16) ((l.take s).drop 20) ((l.take a).drop s)) i = g l i ∨
      ((128 ≤ g l 6 ∨ (g l 10 = g l 11 ∧ (g l 10 = 0 ∨ g l 10 = 255))) ∧ (i = 6 ∨ i = 10 ∨ i = 11)) := by
  obtain ⟨n, rfl⟩ : ∃ n, s = n + 20 := ⟨s - 20, by omega⟩
  obtain ⟨m, rfl⟩ : ∃ m, a = m + (n + 20) := ⟨a - (n + 20), by omega⟩
  obtain ⟨x0, x1, x2, x3, x4, x5, x6, x7, x8, x9, x10, x11, x12, x13, x14, x15, x16, x17, x18, x19, r, rfl⟩ := split20 l hl
  have b : ∀ i, 0 ≤ g (x0 :: x1 :: x2 :: x3 :: x4 :: x5 :: x6 :: x7 :: x8 :: x9 :: x10 :: x11 :: x12 :: x13 :: x14 :: x15 :: x16 :: x17 :: x18 :: x19 :: r) i ∧ g (x0 :: x1 :: x2 :: x3 :: x4 :: x5 :: x6 :: x7 :: x8 :: x9 :: x10 :: x11 :: x12 :: x13 :: x14 :: x15 :: x16 :: x17 :: x18 :: x19 :: r) i ≤ 255 := fun i => hO.g i
  have b0 : 0 ≤ x0 ∧ x0 ≤ 255 := b 0
  have b1 : 0 ≤ x1 ∧ x1 ≤ 255 := b 1
  have b2 : 0 ≤ x2 ∧ x2 ≤ 255 := b 2
  have b3 : 0 ≤ x3 ∧ x3 ≤ 255 := b 3
  have b4 : 0 ≤ x4 ∧ x4 ≤ 255 := b 4
  have b5 : 0 ≤ x5 ∧ x5 ≤ 255 := b 5
  have b6 : 0 ≤ x6 ∧ x6 ≤ 255 := b 6
  have b7 : 0 ≤ x7 ∧ x7 ≤ 255 := b 7
  have b8 : 0 ≤ x8 ∧ x8 ≤ 255 := b 8
  have b9 : 0 ≤ x9 ∧ x9 ≤ 255 := b 9
  have b10 : 0 ≤ x10 ∧ x10 ≤ 255 := b 10
  have b11 : 0 ≤ x11 ∧ x11 ≤ 255 := b 11
  have b12 : 0 ≤ x12 ∧ x12 ≤ 255 := b 12
  have b13 : 0 ≤ x13 ∧ x13 ≤ 255 := b 13
  have b14 : 0 ≤ x14 ∧ x14 ≤ 255 := b 14
  have b15 : 0 ≤ x15 ∧ x15 ≤ 255 := b 15
  have b16 : 0 ≤ x16 ∧ x16 ≤ 255 := b 16
  have b17 : 0 ≤ x17 ∧ x17 ≤ 255 := b 17
  have b18 : 0 ≤ x18 ∧ x18 ≤ 255 := b 18
  have b19 : 0 ≤ x19 ∧ x19 ≤ 255 := b 19
  have hR : Oct r := fun x hx => hO x (by simp [hx])
  clear b hO
  have hv : x0 / 16 = 4 := hv
  have hs : ((n + 20 : Nat) : Int) = x0 % 16 * 4 := hs
  have ha : ((m + (n + 20) : Nat) : Int) = x2 * 256 + x3 := ha
  have hrl : m + n ≤ r.length := by simp only [List.length_cons] at hal; omega
  have hto : ((x0 :: x1 :: x2 :: x3 :: x4 :: x5 :: x6 :: x7 :: x8 :: x9 :: x10 :: x11 :: x12 :: x13 :: x14 :: x15 :: x16 :: x17 :: x18 :: x19 :: r).take (n + 20)).drop 20 = r.take n := rfl
  have htd : ((x0 :: x1 :: x2 :: x3 :: x4 :: x5 :: x6 :: x7 :: x8 :: x9 :: x10 :: x11 :: x12 :: x13 :: x14 :: x15 :: x16 :: x17 :: x18 :: x19 :: r).take (m + (n + 20))).drop (n + 20) = (r.take (m + n)).drop n := rfl
  have hsum : fv (wsum (x0 :: x1 :: x2 :: x3 :: x4 :: x5 :: x6 :: x7 :: x8 :: x9 :: x10 :: x11 :: x12 :: x13 :: x14 :: x15 :: x16 :: x17 :: x18 :: x19 :: r.take n)) = 65535 := hsum
  rw [hto, htd]
  have hol : (r.take n).length = n := by rw [List.length_take]; omega
  have hdl : ((r.take (m + n)).drop n).length = m := by rw [List.length_drop, List.length_take]; omega
  have hod : r.take n ++ (r.take (m + n)).drop n = r.take (m + n) := by
    have : r.take n = (r.take (m + n)).take n := by rw [List.take_take, Nat.min_eq_left (by omega)]
    rw [this]
    exact List.take_append_drop n _
  unfold out
  rw [hol, hdl, List.append_assoc, hod]
  show ∀ i, i < m + (n + 20) → g (hd20 (69 + (n : Int) / 4) x1 (20 + (n : Int) + (m : Int)) (x4 * 256 + x5) ((if decide ((x6 * 256 + x7) / 16384 % 2 = 1) = true then 16384 else 0) + (if decide ((x6 * 256 + x7) / 8192 % 2 = 1) = true then 8192 else 0) + (x6 * 256 + x7) % 8192 * 8 / 8) x8 x9
      (ckv (69 + (n : Int) / 4) x1 (20 + (n : Int) + (m : Int)) (x4 * 256 + x5) ((if decide ((x6 * 256 + x7) / 16384 % 2 = 1) = true then 16384 else 0) + (if decide ((x6 * 256 + x7) / 8192 % 2 = 1) = true then 8192 else 0) + (x6 * 256 + x7) % 8192 * 8 / 8) x8 x9 ((x12 * 256 + x13) * 65536 + (x14 * 256 + x15)) ((x16 * 256 + x17) * 65536 + (x18 * 256 + x19)) (r.take n))
      ((x12 * 256 + x13) * 65536 + (x14 * 256 + x15)) ((x16 * 256 + x17) * 65536 + (x18 * 256 + x19)) ++ r.take (m + n)) i = g (x0 :: x1 :: x2 :: x3 :: x4 :: x5 :: x6 :: x7 :: x8 :: x9 :: x10 :: x11 :: x12 :: x13 :: x14 :: x15 :: x16 :: x17 :: x18 :: x19 :: r) i ∨ ((128 ≤ x6 ∨ (x10 = x11 ∧ (x10 = 0 ∨ x10 = 255))) ∧ (i = 6 ∨ i = 10 ∨ i = 11))
  have hW : (if decide ((x6 * 256 + x7) / 16384 % 2 = 1) = true then (16384 : Int) else 0) + (if decide ((x6 * 256 + x7) / 8192 % 2 = 1) = true then 8192 else 0) + (x6 * 256 + x7) % 8192 * 8 / 8 = (x6 * 256 + x7) % 32768 := by
    simp only [decide_eq_true_eq]
    split <;> split <;> omega
  rw [hW]
  have e0 : 69 + (n : Int) / 4 = x0 := by omega
  have e2 : 20 + (n : Int) + (m : Int) = x2 * 256 + x3 := by omega
  rw [e0, e2]
  have s2 : (x2 * 256 + x3) / 256 % 256 = x2 ∧ (x2 * 256 + x3) % 256 = x3 := by omega
  have s4 : (x4 * 256 + x5) / 256 % 256 = x4 ∧ (x4 * 256 + x5) % 256 = x5 := by omega
  have s6 : x6 < 128 → (x6 * 256 + x7) % 32768 / 256 % 256 = x6 := by omega
  have s7 : (x6 * 256 + x7) % 32768 % 256 = x7 := by omega
  have s12 : ((x12 * 256 + x13) * 65536 + (x14 * 256 + x15)) / 16777216 % 256 = x12 ∧ ((x12 * 256 + x13) * 65536 + (x14 * 256 + x15)) / 65536 % 256 = x13 ∧ ((x12 * 256 + x13) * 65536 + (x14 * 256 + x15)) / 256 % 256 = x14 ∧ ((x12 * 256 + x13) * 65536 + (x14 * 256 + x15)) % 256 = x15 := by omega
  have s16 : ((x16 * 256 + x17) * 65536 + (x18 * 256 + x19)) / 16777216 % 256 = x16 ∧ ((x16 * 256 + x17) * 65536 + (x18 * 256 + x19)) / 65536 % 256 = x17 ∧ ((x16 * 256 + x17) * 65536 + (x18 * 256 + x19)) / 256 % 256 = x18 ∧ ((x16 * 256 + x17) * 65536 + (x18 * 256 + x19)) % 256 = x19 := by omega
  have hC : x6 < 128 → ¬ (x10 = x11 ∧ (x10 = 0 ∨ x10 = 255)) → ckv x0 x1 (x2 * 256 + x3) (x4 * 256 + x5) ((x6 * 256 + x7) % 32768) x8 x9 ((x12 * 256 + x13) * 65536 + (x14 * 256 + x15)) ((x16 * 256 + x17) * 65536 + (x18 * 256 + x19)) (r.take n) = x10 * 256 + x11 := fun h6 hF => by
    have hq := wsum_range (hR.take n)
    have ew : wsum (x0 :: x1 :: x2 :: x3 :: x4 :: x5 :: x6 :: x7 :: x8 :: x9 :: x10 :: x11 :: x12 :: x13 :: x14 :: x15 :: x16 :: x17 :: x18 :: x19 :: r.take n) = wsum (hd20 x0 x1 (x2 * 256 + x3) (x4 * 256 + x5) ((x6 * 256 + x7) % 32768) x8 x9 0 ((x12 * 256 + x13) * 65536 + (x14 * 256 + x15)) ((x16 * 256 + x17) * 65536 + (x18 * 256 + x19)) ++ r.take n) + (x10 * 256 + x11) := by
      simp only [hd20, List.cons_append, List.nil_append, wsum, s2.1, s2.2, s4.1, s4.2, s6 h6, s7, s12.1, s12.2.1, s12.2.2.1, s12.2.2.2, s16.1, s16.2.1, s16.2.2.1, s16.2.2.2]
      omega
    rw [ew] at hsum
    unfold ckv
    have hoo : Oct (hd20 x0 x1 (x2 * 256 + x3) (x4 * 256 + x5) ((x6 * 256 + x7) % 32768) x8 x9 0 ((x12 * 256 + x13) * 65536 + (x14 * 256 + x15)) ((x16 * 256 + x17) * 65536 + (x18 * 256 + x19)) ++ r.take n) := (hd20_oct b0 b1 b8 b9).append (hR.take n)
    exact fv_back (wsum_range hoo).1 (by omega) (by omega) hsum (by omega) (by omega)
  generalize ckv x0 x1 (x2 * 256 + x3) (x4 * 256 + x5) ((x6 * 256 + x7) % 32768) x8 x9 ((x12 * 256 + x13) * 65536 + (x14 * 256 + x15)) ((x16 * 256 + x17) * 65536 + (x18 * 256 + x19)) (r.take n) = C at hC ⊢
  intro i hi
  rcases Nat.lt_or_ge i 20 with h | h
  · have hdec : i = 0 ∨ i = 1 ∨ i = 2 ∨ i = 3 ∨ i = 4 ∨ i = 5 ∨ i = 6 ∨ i = 7 ∨ i = 8 ∨ i = 9 ∨ i = 10 ∨ i = 11 ∨ i = 12 ∨ i = 13 ∨ i = 14 ∨ i = 15 ∨ i = 16 ∨ i = 17 ∨ i = 18 ∨ i = 19 := by omega
    rcases hdec with rfl | rfl | rfl | rfl | rfl | rfl | rfl | rfl | rfl | rfl | rfl | rfl | rfl | rfl | rfl | rfl | rfl | rfl | rfl | rfl
    · exact .inl rfl
    · exact .inl rfl
    · exact .inl s2.1
    · exact .inl s2.2
    · exact .inl s4.1
    · exact .inl s4.2
    · by_cases h6 : x6 < 128
      · exact .inl (s6 h6)
      · exact .inr ⟨.inl (by omega), .inl rfl⟩
    · exact .inl s7
    · exact .inl rfl
    · exact .inl rfl
    · by_cases h6 : x6 < 128
      · by_cases hF : x10 = x11 ∧ (x10 = 0 ∨ x10 = 255)
        · exact .inr ⟨.inr hF, .inr (.inl rfl)⟩
        · refine .inl ?_
          show C / 256 % 256 = x10
          rw [hC h6 hF]
          omega
      · exact .inr ⟨.inl (by omega), .inr (.inl rfl)⟩
    · by_cases h6 : x6 < 128
      · by_cases hF : x10 = x11 ∧ (x10 = 0 ∨ x10 = 255)
        · exact .inr ⟨.inr hF, .inr (.inr rfl)⟩
        · refine .inl ?_
          show C % 256 = x11
          rw [hC h6 hF]
          omega
      · exact .inr ⟨.inl (by omega), .inr (.inr rfl)⟩
    · exact .inl s12.1
    · exact .inl s12.2.1
    · exact .inl s12.2.2.1
    · exact .inl s12.2.2.2
    · exact .inl s16.1
    · exact .inl s16.2.1
    · exact .inl s16.2.2.1
    · exact .inl s16.2.2.2
  · refine .inl ?_
    rw [g_append_ge _ _ _ (by rw [hd20_len]; exact h), hd20_len, g_take _ _ _ (by omega)]
    obtain ⟨j, rfl⟩ : ∃ j, i = j + 20 := ⟨i - 20, by omega⟩
    rw [Nat.add_sub_cancel]
    rfl
theorem IpwireAgain : stopcocklaw04_IpwireAgain.Pure := by
  intro l hl
  have hO : Oct l := fun x hx => wf_u8 (hl.2 x hx)
  have hll : l.length * 1 ≤ 140737488351232 := hl.1
  refine ⟨70000, ?_⟩
  obtain ⟨K, hK, hK'⟩ : ∃ K : Nat, K = 70000 ∧ 70000 ≤ K := ⟨70000, rfl, by omega⟩
  rw [← hK]
  clear hK
  unfold stopcocklaw04_IpwireAgain.f
  rw [alive_tells K (by omega), Option.bind_some, if_pos rfl]
  have fin : ∀ e : Int, e ≠ 0 → ipwire_Parse.f K l = some (perr e) → ((ipwire_Parse.f K l).bind fun bt214 => ((stopcocklaw04_num.f bt214.2.2.2.2.2.2.2.2.2.2.2).bind fun t231 => (if t231 = 0 then ((ipwire_Build.f K bt214.1 bt214.2.1 bt214.2.2.1 bt214.2.2.2.1 bt214.2.2.2.2.1 bt214.2.2.2.2.2.1 bt214.2.2.2.2.2.2.1 bt214.2.2.2.2.2.2.2.1 bt214.2.2.2.2.2.2.2.2.1 bt214.2.2.2.2.2.2.2.2.2.1 bt214.2.2.2.2.2.2.2.2.2.2.1).bind fun bt232 => ((stopcocklaw04_num.f bt232.2).bind fun t236 => (if t236 = 0 then (stopcocklaw04_IpwireAgain.j0 K l bt232.1 (decide ((bt232.1.length : Int) > (l.length : Int)))) else (stopcocklaw04_IpwireAgain.j0 K l bt232.1 true)))) else (some ((bt214.2.2.2.2.2.2.2.2.2.2.1.length : Int) == 0))))) = some true := by
    intro e hne he
    rw [he, Option.bind_some]
    simp only [stopcocklaw04_num.f, Option.bind_some, perr]
    rw [if_neg hne]
    rfl
  by_cases h20 : l.length < 20
  · exact fin 8 (by decide) (parse_short K l h20)
  by_cases hv : g l 0 / 16 = 4
  · by_cases hb : g l 0 % 16 * 4 < 20 ∨ g l 2 * 256 + g l 3 < g l 0 % 16 * 4 ∨ g l 0 % 16 * 4 > l.length ∨ g l 2 * 256 + g l 3 > l.length
    · exact fin 42 (by decide) (parse_len K (by omega) l hO (by omega) hv hb)
    by_cases hs : fv (wsum (l.take (g l 0 % 16 * 4).toNat)) = 65535
    · clear fin
      rw [parse_ok K (by omega) l hO (by omega) (by omega) hv hb hs, Option.bind_some]
      have g0 := hO.g 0
      have g1 := hO.g 1
      have g2 := hO.g 2
      have g3 := hO.g 3
      have g4 := hO.g 4
      have g5 := hO.g 5
      have g6 := hO.g 6
      have g7 := hO.g 7
      have g8 := hO.g 8
      have g9 := hO.g 9
      have g10 := hO.g 10
      have g11 := hO.g 11
      have g12 := hO.g 12
      have g13 := hO.g 13
      have g14 := hO.g 14
      have g15 := hO.g 15
      have g16 := hO.g 16
      have g17 := hO.g 17
      have g18 := hO.g 18
      have g19 := hO.g 19
      obtain ⟨s, es⟩ : ∃ s : Nat, (g l 0 % 16 * 4).toNat = s := ⟨_, rfl⟩
      obtain ⟨a, ea⟩ : ∃ a : Nat, (g l 2 * 256 + g l 3).toNat = a := ⟨_, rfl⟩
      have es' : (s : Int) = g l 0 % 16 * 4 := by omega
      have ea' : (a : Int) = g l 2 * 256 + g l 3 := by omega
      rw [es] at hs ⊢
      rw [ea]
      simp only [pok, stopcocklaw04_num.f, Option.bind_some]
      rw [if_pos trivial]
      have hol : ((l.take s).drop 20).length = s - 20 := by rw [List.length_drop, List.length_take]; omega
      have hdl : ((l.take a).drop s).length = a - s := by rw [List.length_drop, List.length_take]; omega
      have hag := out_again l hO s a (by omega) hv es' ea' (by omega) (by omega) (by omega) hs
      have hn1 : 0 ≤ g32 l 12 ∧ g32 l 12 ≤ 4294967295 := by unfold g32; simp only [Nat.reduceAdd]; omega
      have hn2 : 0 ≤ g32 l 16 ∧ g32 l 16 ≤ 4294967295 := by unfold g32; simp only [Nat.reduceAdd]; omega
      rcases chk_ok K (by omega) (g l 1) (g l 4 * 256 + g l 5) (decide ((g l 6 * 256 + g l 7) / 16384 % 2 = 1)) (decide ((g l 6 * 256 + g l 7) / 8192 % 2 = 1)) ((g l 6 * 256 + g l 7) % 8192 * 8) (g l 8) (g l 9) (g32 l 12) (g32 l 16) ((l.take s).drop 20) ((l.take a).drop s) (by omega) (by omega) with ⟨hc, c1, c2, c3, c4, c5, c6⟩ | ⟨e, he, hne, hbad⟩
      · rw [build_ok K (by omega) _ _ _ _ _ _ _ _ _ _ _ g1 (by omega) ⟨c1, c2⟩ g8 g9 hn1 hn2 ((hO.take s).drop 20) c4 c5 c6 hc, Option.bind_some]
        have hl2 := out_len (g l 1) (g l 4 * 256 + g l 5) (decide ((g l 6 * 256 + g l 7) / 16384 % 2 = 1)) (decide ((g l 6 * 256 + g l 7) / 8192 % 2 = 1)) ((g l 6 * 256 + g l 7) % 8192 * 8) (g l 8) (g l 9) (g32 l 12) (g32 l 16) ((l.take s).drop 20) ((l.take a).drop s)
        generalize out (g l 1) (g l 4 * 256 + g l 5) (decide ((g l 6 * 256 + g l 7) / 16384 % 2 = 1)) (decide ((g l 6 * 256 + g l 7) / 8192 % 2 = 1)) ((g l 6 * 256 + g l 7) % 8192 * 8) (g l 8) (g l 9) (g32 l 12) (g32 l 16) ((l.take s).drop 20) ((l.take a).drop s) = c at hag hl2 ⊢
        have hca : c.length = a := by omega
        simp only [if_true]
        rw [decide_eq_false (by omega)]
        obtain ⟨K, rfl⟩ : ∃ m, K = m + 1 := ⟨K - 1, by omega⟩
        simp only [stopcocklaw04_IpwireAgain.j0, Bool.false_eq_true, if_false]
        rw [if_pos (by omega)]
        have r6 : rd l 6 = g l 6 := rd_g l 6
        have r10 : rd l 10 = g l 10 := rd_g l 10
        have r11 : rd l 11 = g l 11 := rd_g l 11
        obtain ⟨K, rfl⟩ : ∃ m, K = m + 1 := ⟨K - 1, by omega⟩
        have fin : ∀ odd : Bool, (odd = false → ¬ (128 ≤ g l 6 ∨ (g l 10 = g l 11 ∧ (g l 10 = 0 ∨ g l 10 = 255)))) → stopcocklaw04_IpwireAgain.j1 (K + 1) l c odd = some true := fun odd hodd => by
          simp only [stopcocklaw04_IpwireAgain.j1]
          refine again_go l c odd (by omega) (by omega) (fun i hi => ?_) c.length K 0 (by omega) (by omega) (by omega) (by omega)
          rcases hag i (by omega) with h1 | ⟨h1, h2⟩
          · exact .inl h1
          · refine .inr ⟨?_, h2⟩
            cases odd
            · exact absurd h1 (hodd rfl)
            · rfl
        rw [r6, r10, r11]
        by_cases q6 : g l 6 ≥ 128
        · rw [if_pos q6]
          exact fin true (fun h => by cases h)
        rw [if_neg q6, if_pos (by omega), if_pos (by omega)]
        by_cases q10 : g l 10 = g l 11
        · rw [if_pos q10]
          by_cases qz : g l 10 = 0
          · rw [if_pos qz]
            exact fin true (fun h => by cases h)
          · rw [if_neg qz]
            refine fin _ (fun h => ?_)
            have : g l 10 ≠ 255 := by simpa using h
            omega
        · rw [if_neg q10]
          exact fin false (fun _ => by omega)
      · exact absurd ⟨by omega, by omega, by omega, by omega, by omega, by omega⟩ hbad
    · exact fin 21 (by decide) (parse_sum K (by omega) l hO (by omega) (by omega) hv hb hs)
  · exact fin 41 (by decide) (parse_ver K l (by omega) hv)
end Go.Proofs.Ytghfljmoaalinaa.Pure
