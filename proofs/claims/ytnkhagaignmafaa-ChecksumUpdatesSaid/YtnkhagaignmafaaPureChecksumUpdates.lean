/- The plain law of ChecksumUpdates: a checksum brought up to date is right. Numbers and lists alone. No condition. -/
import Derived.Test.YtnkhagaignmafaaSums
namespace Go.Proofs.Ytnkhagaignmafaa.Pure
open Go.RowKit Go.Proofs.Ytnkhagaignmafaa.Q Go.Proofs.YtnkhagaignmafaaW.PrintWords Go.Proofs.YtnkhagaignmafaaW.PrintLast Go.Proofs.YtnkhagaignmafaaW.PrintMore Go.Proofs.YtnkhagaignmafaaW.Arith Go.Proofs.YtnkhagaignmafaaW.Opened

theorem updates_loop (c : List Int) (hl : c.length ≤ 140737488355327) (hc : Oct c) (hg : fv (wsum c) = 65535 ∨ ∀ j, 2 ≤ j → c.getD j 0 = 0) (d : Nat) : ∀ (k : Nat) (i : Int) (z : Bool), 2 ≤ i → i ≤ c.length → (c.length : Int) - i = d → d + 6 < k → (fv (wsum c) = 65535 ∨ z = true) →
    stopcocklaw02_ChecksumUpdates.l0 k c z i = some true := by
  induction d with
  | zero =>
    intro k i z h0 hi hd hk hz
    obtain ⟨k, rfl⟩ : ∃ m, k = m + 1 := ⟨k - 1, by omega⟩
    simp only [stopcocklaw02_ChecksumUpdates.l0]
    rw [if_neg (by omega), right_tells k (by omega) c hc hl, Option.bind_some]
    by_cases h : fv (wsum c) = 65535
    · rw [if_pos (by simpa using h)]
    · rw [if_neg (by simpa using h)]
      rcases hz with hz | hz
      · exact absurd hz h
      · rw [hz]
  | succ d ih =>
    intro k i z h0 hi hd hk hz
    obtain ⟨k, rfl⟩ : ∃ m, k = m + 1 := ⟨k - 1, by omega⟩
    simp only [stopcocklaw02_ChecksumUpdates.l0]
    rw [if_pos (by omega), w64 (by omega) (by omega)]
    cases z with
    | true =>
      rw [if_pos rfl, if_pos (by omega)]
      refine ih k (i + 1) _ (by omega) (by omega) (by omega) (by omega) ?_
      rcases hg with h | h
      · exact .inl h
      · right
        have := h i.toNat (by omega)
        simpa [rd] using this
    | false =>
      rw [if_neg (by simp)]
      refine ih k (i + 1) false (by omega) (by omega) (by omega) (by omega) ?_
      rcases hz with h | h
      · exact .inl h
      · cases h
theorem at_place (a1 : Int) (c : List Int) (h4 : 4 ≤ c.length) (hl : c.length ≤ 140737488355327) (he : c.length % 2 = 0) :
    ∃ q : Nat, 2 + 2 * q + 1 < c.length ∧ wrap64 ((wrap64 ((c.length : Int) / 2)) - 1) ≠ 0 ∧ (wrap64 (2 + (wrap64 (2 * (Int.tmod (wrap64 ((wrap64 ((Int.tmod a1 (wrap64 ((wrap64 ((c.length : Int) / 2)) - 1))) + (wrap64 ((c.length : Int) / 2)))) - 1)) (wrap64 ((wrap64 ((c.length : Int) / 2)) - 1))))))) = ((2 + 2 * q : Nat) : Int) := by
  have hm : wrap64 ((wrap64 ((c.length : Int) / 2)) - 1) = (c.length : Int) / 2 - 1 := by rw [w64 (x := (c.length : Int) / 2) (by omega) (by omega), w64 (by omega) (by omega)]
  rw [hm, w64 (x := (c.length : Int) / 2) (by omega) (by omega)]
  generalize hM : (c.length : Int) / 2 - 1 = m at *
  have hm1 : 1 ≤ m := by omega
  have hb1 := Int.tmod_lt_of_pos a1 (show 0 < m by omega)
  have hb2 := Int.lt_tmod_of_pos a1 (show 0 < m by omega)
  have e1 : wrap64 (Int.tmod a1 m + (c.length : Int) / 2) = Int.tmod a1 m + (c.length : Int) / 2 := w64 (by omega) (by omega)
  rw [e1]
  generalize ho : Int.tmod a1 m = t at *
  have e2 : wrap64 (t + (c.length : Int) / 2 - 1) = t + (c.length : Int) / 2 - 1 := w64 (by omega) (by omega)
  rw [e2, Int.tmod_eq_emod_of_nonneg (by omega)]
  have hp0 := Int.emod_nonneg (t + (c.length : Int) / 2 - 1) (show m ≠ 0 by omega)
  have hp1 := Int.emod_lt_of_pos (t + (c.length : Int) / 2 - 1) (show 0 < m by omega)
  generalize (t + (c.length : Int) / 2 - 1) % m = p at *
  refine ⟨p.toNat, by omega, by omega, ?_⟩
  rw [w64 (x := 2 * p) (by omega) (by omega), w64 (by omega) (by omega)]
  omega
theorem updates_j (k : Nat) (a1 a2 : Int) (c : List Int) (hk : c.length + 3000 ≤ k) (h4 : 4 ≤ c.length) (hl : c.length ≤ 140737488355327) (he : c.length % 2 = 0) (hc : Oct c) (h0 : c.getD 0 0 = 0) (h1 : c.getD 1 0 = 0) (h2 : 0 ≤ a2 ∧ a2 ≤ 65535) : stopcocklaw02_ChecksumUpdates.j0 k a1 a2 c = some true := by
  obtain ⟨k, rfl⟩ : ∃ m, k = m + 1 := ⟨k - 1, by omega⟩
  obtain ⟨q, hq, hm, hat⟩ := at_place a1 c h4 hl he
  simp only [stopcocklaw02_ChecksumUpdates.j0]
  rw [check_tells k (by omega) c hc hl, Option.bind_some, if_neg hm, hat]
  have e1 : wrap64 (((2 + 2 * q : Nat) : Int) + 1) = ((2 + 2 * q + 1 : Nat) : Int) := by rw [w64 (by omega) (by omega)]; omega
  rw [e1, if_pos (by omega), if_pos (by omega), if_pos (by omega), if_pos (by omega)]
  have r1 : rd c ((2 + 2 * q : Nat) : Int) = c.getD (2 + 2 * q) 0 := rfl
  have r2 : rd c ((2 + 2 * q + 1 : Nat) : Int) = c.getD (2 + 2 * q + 1) 0 := rfl
  have o1 := hc.at_ (2 + 2 * q)
  have o2 := hc.at_ (2 + 2 * q + 1)
  have hp : (2 + 2 * q) % 2 = 0 := by omega
  have hp' : (2 + 2 * q + 1) % 2 = 1 := by omega
  have s0 := wsum_set c (2 + 2 * q) (a2 / 256 % 256) (by omega)
  have s1 := wsum_set (c.set (2 + 2 * q) (a2 / 256 % 256)) (2 + 2 * q + 1) (a2 % 256) (by rw [List.length_set]; omega)
  rw [getD_set_ne c _ (by omega), hp', if_neg (by omega)] at s1
  rw [hp, if_pos rfl] at s0
  rw [r1, r2, Int.toNat_natCast, Int.toNat_natCast]
  have z0 : ((c.set (2 + 2 * q) (a2 / 256 % 256)).set (2 + 2 * q + 1) (a2 % 256)).getD 0 0 = 0 := by rw [getD_set_ne _ _ (by omega), getD_set_ne _ _ (by omega), h0]
  have z1 : ((c.set (2 + 2 * q) (a2 / 256 % 256)).set (2 + 2 * q + 1) (a2 % 256)).getD 1 0 = 0 := by rw [getD_set_ne _ _ (by omega), getD_set_ne _ _ (by omega), h1]
  have hY : Oct ((c.set (2 + 2 * q) (a2 / 256 % 256)).set (2 + 2 * q + 1) (a2 % 256)) := (hc.set _ _ (by omega) (by omega)).set _ _ (by omega) (by omega)
  have hYl : ((c.set (2 + 2 * q) (a2 / 256 % 256)).set (2 + 2 * q + 1) (a2 % 256)).length = c.length := by simp
  generalize (c.set (2 + 2 * q) (a2 / 256 % 256)).set (2 + 2 * q + 1) (a2 % 256) = Y at *
  generalize c.getD (2 + 2 * q) 0 = x at *
  generalize c.getD (2 + 2 * q + 1) 0 = y at *
  have hW := wsum_range hc
  have hfW := fv_range hW.1
  rw [u16i (x := x) o1.1 (by omega), u16i (x := x * 256) (by omega) (by omega), u16i (x := y) o2.1 (by omega), or16 o1.1 o1.2 o2.1 o2.2,
    update_tells k (by omega) _ _ a2 (by omega) (by omega) h2, Option.bind_some, if_pos (by omega), if_pos (by omega)]
  have hfX := fv_range (n := 65535 - (65535 - fv (wsum c)) + (65535 - (x * 256 + y)) + a2) (by omega)
  generalize hn : 65535 - fv (65535 - (65535 - fv (wsum c)) + (65535 - (x * 256 + y)) + a2) = n at *
  have t0 := wsum_set Y 0 (n / 256 % 256) (by omega)
  have t1 := wsum_set (Y.set 0 (n / 256 % 256)) 1 (n % 256) (by rw [List.length_set]; omega)
  rw [z0, if_pos (by omega)] at t0
  rw [getD_set_ne Y _ (by omega), z1, if_neg (by omega)] at t1
  have hZ : Oct ((Y.set 0 (n / 256 % 256)).set 1 (n % 256)) := (hY.set _ _ (by omega) (by omega)).set _ _ (by omega) (by omega)
  have hZl : ((Y.set 0 (n / 256 % 256)).set 1 (n % 256)).length = c.length := by simp [hYl]
  have hYw := wsum_range hY
  have hzero : wsum Y = 0 → ∀ j, 2 ≤ j → ((Y.set 0 (n / 256 % 256)).set 1 (n % 256)).getD j 0 = 0 := fun h j hj => by
    rw [getD_set_ne _ _ (by omega), getD_set_ne _ _ (by omega)]
    exact wsum_zero hY h j
  have hz1 : wsum ((Y.set 0 (n / 256 % 256)).set 1 (n % 256)) = n + wsum Y := by omega
  have e0 : (0 : Int).toNat = 0 := rfl
  have e1' : (1 : Int).toNat = 1 := rfl
  rw [e0, e1']
  refine updates_loop _ (by omega) hZ ?_ (c.length - 2) k 2 true (by omega) (by omega) (by omega) (by omega) (.inr rfl)
  rw [hz1]
  by_cases hY0 : wsum Y = 0
  · exact .inr (hzero hY0)
  · left
    have hWY : wsum Y = wsum c - (x * 256 + y) + a2 := by omega
    have hYp : 1 ≤ wsum Y := by omega
    clear s0 s1 t0 t1 hz1 hzero hZ hZl z0 z1 hY hYl
    unfold fv at hn ⊢
    rw [if_neg (by omega)]
    split at hn <;> split at hn <;> omega
theorem ChecksumUpdates : stopcocklaw02_ChecksumUpdates.Pure := by
  intro l a1 a2 hl _ h2
  have hO : Oct l := fun x hx => wf_u8 (hl.2 x hx)
  have hlen : l.length ≤ 140737488351232 := by have := hl.1; omega
  replace h2 := wf_u16 h2
  obtain ⟨K, hK⟩ : ∃ K : Nat, l.length + 4000 ≤ K := ⟨_, Nat.le_refl _⟩
  refine ⟨K, ?_⟩
  unfold stopcocklaw02_ChecksumUpdates.f
  have hz : Oct [0, 0, 7, 7] := by intro x hx; simp at hx; omega
  have hc : Oct ([0, 0, 7, 7] ++ l) := hz.append hO
  have hcl : ([0, 0, 7, 7] ++ l).length = l.length + 4 := by simp
  rw [alive_tells _ (by omega), Option.bind_some, if_pos rfl, Option.bind_some, if_pos (by simp only [List.length_cons, List.length_nil]; omega), Option.bind_some]
  have g0 : ([0, 0, 7, 7] ++ l).getD 0 0 = 0 := rfl
  have g1 : ([0, 0, 7, 7] ++ l).getD 1 0 = 0 := rfl
  have g0' : (([0, 0, 7, 7] ++ l) ++ [0]).getD 0 0 = 0 := rfl
  have g1' : (([0, 0, 7, 7] ++ l) ++ [0]).getD 1 0 = 0 := rfl
  generalize [0, 0, 7, 7] ++ l = c at *
  by_cases hp : ((c.length : Int) % 2) = 1
  · rw [if_pos hp, if_pos (by omega)]
    exact updates_j K a1 a2 _ (by simp; omega) (by simp; omega) (by simp; omega) (by simp; omega) (hc.append (by intro x hx; simp at hx; omega)) g0' g1' h2
  · rw [if_neg hp]
    exact updates_j K a1 a2 c (by omega) (by omega) (by omega) (by omega) hc g0 g1 h2
end Go.Proofs.Ytnkhagaignmafaa.Pure
