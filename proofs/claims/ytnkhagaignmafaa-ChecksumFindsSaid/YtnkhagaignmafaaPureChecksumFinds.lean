/- The plain law of ChecksumFinds: octets with their checksum in them are right; one octet turned makes them wrong. Numbers and lists alone. No condition. -/
import Derived.Test.YtnkhagaignmafaaSums
namespace Go.Proofs.Ytnkhagaignmafaa.Pure
open Go.RowKit Go.Proofs.Ytnkhagaignmafaa.Q Go.Proofs.YtnkhagaignmafaaW.PrintWords Go.Proofs.YtnkhagaignmafaaW.PrintLast Go.Proofs.YtnkhagaignmafaaW.PrintMore Go.Proofs.YtnkhagaignmafaaW.Arith Go.Proofs.YtnkhagaignmafaaW.Opened

theorem mod_ne (a b : Int) (h : a ≠ b) (ha : 0 ≤ a ∧ a ≤ 255) (hb : 0 ≤ b ∧ b ≤ 255) (m : Int) (hm : m = 256 ∨ m = 1) (S : Int) (hS : fv S = 65535) (hS0 : 0 ≤ S) (hp : 0 ≤ S + (a - b) * m) : fv (S + (a - b) * m) ≠ 65535 := by
  have h1 : S % 65535 = 0 ∧ S ≠ 0 := by
    unfold fv at hS
    split at hS <;> omega
  unfold fv
  split
  · omega
  · rcases hm with rfl | rfl <;> omega
/-- The rest behind the loop that looks whether all are 0. -/
theorem finds_loop (l c : List Int) (a1 a2 : Int) (hl : l.length ≤ 140737488351232) (h1 : 0 ≤ a2 ∧ a2 ≤ 255) (hc : Oct c) (hcl : c.length = l.length + 2) (hr : fv (wsum c) = 65535) (d : Nat) : ∀ (k : Nat) (i : Int) (z : Bool), 0 ≤ i → i ≤ l.length → (l.length : Int) - i = d → d + 6 < k →
    stopcocklaw02_ChecksumFinds.l0 k l a1 a2 c z i = some true := by
  induction d with
  | zero =>
    intro k i z h0 hi hd hk
    obtain ⟨k, rfl⟩ : ∃ m, k = m + 1 := ⟨k - 1, by omega⟩
    simp only [stopcocklaw02_ChecksumFinds.l0]
    rw [if_neg (by omega), right_tells k (by omega) c hc (by omega), Option.bind_some, if_pos (by simpa using hr)]
    by_cases ht : a2 = 0
    · rw [if_pos ht]
    rw [if_neg ht]
    cases z with
    | true => rw [if_pos rfl]
    | false =>
      have hn : (c.length : Int) ≠ 0 := by omega
      rw [if_neg (by simp), if_neg hn]
      have hb : -(c.length : Int) < Int.tmod a1 (c.length : Int) ∧ Int.tmod a1 (c.length : Int) < c.length := by
        have := Int.tmod_lt_of_pos a1 (show 0 < (c.length : Int) by omega)
        have h2 := Int.lt_tmod_of_pos a1 (show 0 < (c.length : Int) by omega)
        exact ⟨by omega, this⟩
      rw [w64 (by omega) (by omega)]
      generalize ho : Int.tmod a1 (c.length : Int) + (c.length : Int) = o at *
      have e : Int.tmod o (c.length : Int) = o % (c.length : Int) := Int.tmod_eq_emod_of_nonneg (by omega)
      rw [e]
      have hp0 := Int.emod_nonneg o hn
      have hp1 := Int.emod_lt_of_pos o (show 0 < (c.length : Int) by omega)
      generalize o % (c.length : Int) = p at *
      rw [if_pos hp0, if_pos hp1]
      have hj : p.toNat < c.length := by omega
      have hx := hc.at_ p.toNat
      have erd : rd c p = c.getD p.toNat 0 := rfl
      rw [erd]
      obtain ⟨x0, x1, x2⟩ := xor8 hx.1 hx.2 h1.1 h1.2 ht
      generalize Go.bits .xor .u8 (c.getD p.toNat 0) a2 = v at *
      have hO := hc.set p.toNat v x0 x1
      rw [right_tells k (by omega) _ hO (by rw [List.length_set]; omega), Option.bind_some]
      have hw := (wsum_range hO).1
      have hw0 := (wsum_range hc).1
      have ne : fv (wsum (c.set p.toNat v)) ≠ 65535 := by
        rw [wsum_set c p.toNat v hj] at hw ⊢
        exact mod_ne v _ x2 ⟨x0, x1⟩ hx _ (by split <;> simp) _ hr hw0 hw
      simp [ne]
  | succ d ih =>
    intro k i z h0 hi hd hk
    obtain ⟨k, rfl⟩ : ∃ m, k = m + 1 := ⟨k - 1, by omega⟩
    simp only [stopcocklaw02_ChecksumFinds.l0]
    rw [if_pos (by omega), w64 (by omega) (by omega), ih k (i + 1) false (by omega) (by omega) (by omega) (by omega)]
    cases z with
    | true => rw [if_pos rfl, if_pos h0, ih k (i + 1) _ (by omega) (by omega) (by omega) (by omega)]
    | false => rw [if_neg (by simp)]
theorem ChecksumFinds : stopcocklaw02_ChecksumFinds.Pure := by
  intro l a1 a2 hl _ h2
  have hO : Oct l := fun x hx => wf_u8 (hl.2 x hx)
  have hlen : l.length ≤ 140737488351232 := by have := hl.1; omega
  replace h2 := wf_u8 h2
  obtain ⟨K, hK⟩ : ∃ K : Nat, l.length + 100 ≤ K := ⟨_, Nat.le_refl _⟩
  refine ⟨K, ?_⟩
  unfold stopcocklaw02_ChecksumFinds.f
  have hz : Oct [0, 0] := by intro x hx; simp at hx; omega
  have hc : Oct ([0, 0] ++ l) := hz.append hO
  rw [alive_tells _ (by omega), Option.bind_some, if_pos rfl, Option.bind_some, if_pos (by simp only [List.length_cons, List.length_nil]; omega), Option.bind_some,
    check_tells K (by omega) _ hc (by simp only [List.length_append, List.length_cons, List.length_nil]; omega), Option.bind_some]
  have hw : wsum ([0, 0] ++ l) = wsum l := by simp [wsum]
  rw [hw, if_pos (by simp only [List.length_append, List.length_cons, List.length_nil]; omega), if_pos (by simp only [List.length_append, List.length_cons, List.length_nil]; omega)]
  have hW := (wsum_range hO).1
  have hv := fv_range hW
  generalize hk : 65535 - fv (wsum l) = kk
  have hset : (([0, 0] ++ l).set (0 : Int).toNat (kk / 256 % 256)).set (1 : Int).toNat (kk % 256) = [kk / 256 % 256, kk % 256] ++ l := rfl
  rw [hset]
  have hc2 : Oct ([kk / 256 % 256, kk % 256] ++ l) := Oct.append (by intro x hx; simp at hx; omega) hO
  refine finds_loop l _ a1 a2 hlen h2 hc2 (by simp) ?_ l.length K 0 true (by omega) (by omega) (by omega) (by omega)
  have e : wsum ([kk / 256 % 256, kk % 256] ++ l) = kk + wsum l := by
    simp only [List.cons_append, List.nil_append, wsum]
    omega
  rw [e]
  unfold fv at hk ⊢
  split at hk
  · rename_i h
    rw [if_neg (by omega)]
    omega
  · rw [if_neg (by omega)]
    omega
end Go.Proofs.Ytnkhagaignmafaa.Pure
