/- Bits of a header's words. Numbers alone. No condition. -/
import Derived.Test.YtghfljmoaalinaaQ4
import Derived.Laws.BitsLemmas
namespace Go.Proofs.Ytghfljmoaalinaa.Pure
open Go.RowKit Go.Proofs.Ytghfljmoaalinaa.Q
theorem w62 (n : Int) (h0 : 0 ≤ n) (h1 : n < 2 ^ 62) : IntKind.i64.wrap n = n := by
  have e : (2 : Int) ^ 62 = 4611686018427387904 := by decide
  rw [e] at h1
  rw [IntKind.wrap_i64]
  omega
theorem n62 : (2 : Nat) ^ 62 = 4611686018427387904 := by decide
theorem i62 : (2 : Int) ^ 62 = 4611686018427387904 := by decide
/-- Low bits. -/
theorem and_low (i : Nat) (hi : i ≤ 40) {x : Int} (h0 : 0 ≤ x) (h1 : x < 4611686018427387904) : Go.bits .and .i64 x (2 ^ i - 1) = x % 2 ^ i :=
  bits_mask .i64 62 (by decide) w62 i (by omega) x h0 (by rw [i62]; omega)
theorem and_pow (t i : Nat) : (t &&& 2 ^ i) = if t / 2 ^ i % 2 = 1 then 2 ^ i else 0 := by
  apply Nat.eq_of_testBit_eq
  intro j
  rw [Nat.testBit_and, Nat.testBit_two_pow]
  by_cases h : i = j
  · subst h
    rw [Nat.testBit_eq_decide_div_mod_eq]
    split
    · rename_i h
      simp [h]
    · rename_i h
      simp [h]
  · split <;> simp [h]
theorem and_bit (i : Nat) (hi : i ≤ 40) {x : Int} (h0 : 0 ≤ x) (h1 : x < 4611686018427387904) : (Go.bits .and .i64 x ((2 ^ i : Nat) : Int) != 0) = decide (x / ((2 ^ i : Nat) : Int) % 2 = 1) := by
  obtain ⟨a, rfl⟩ := Int.eq_ofNat_of_zero_le h0
  have hp : 2 ^ i < 2 ^ 62 := Nat.pow_lt_pow_right (by decide) (by omega)
  rw [(bits_nat .i64 62 (by decide) w62 a (2 ^ i) (by rw [n62]; omega) hp).1, and_pow]
  have h2 : ((a : Int) / ((2 ^ i : Nat) : Int) % 2 = 1) = (a / 2 ^ i % 2 = 1) := by
    rw [eq_iff_iff]
    omega
  simp only [h2]
  have h3 := Nat.two_pow_pos i
  split
  · rename_i h
    rw [decide_eq_true h]
    exact bne_iff_ne.2 (by omega)
  · rename_i h
    rw [decide_eq_false h]
    rfl
theorem or_hi (i c : Nat) {x : Int} (h0 : 0 ≤ x) (h1 : x < ((2 ^ i : Nat) : Int)) (hc : 2 ^ i * c + 2 ^ i ≤ 4611686018427387904) : Go.bits .or .i64 x ((2 ^ i * c : Nat) : Int) = x + ((2 ^ i * c : Nat) : Int) := by
  obtain ⟨a, rfl⟩ := Int.eq_ofNat_of_zero_le h0
  have ha : a < 2 ^ i := by omega
  rw [(bits_nat .i64 62 (by decide) w62 a (2 ^ i * c) (by rw [n62]; omega) (by rw [n62]; omega)).2, Nat.or_comm, ← Nat.two_pow_add_eq_or_of_lt ha]
  omega
theorem or_lo (i c : Nat) {x : Int} (h0 : 0 ≤ x) (h1 : x < ((2 ^ i : Nat) : Int)) (hc : 2 ^ i * c + 2 ^ i ≤ 4611686018427387904) : Go.bits .or .i64 ((2 ^ i * c : Nat) : Int) x = ((2 ^ i * c : Nat) : Int) + x := by
  obtain ⟨a, rfl⟩ := Int.eq_ofNat_of_zero_le h0
  have ha : a < 2 ^ i := by omega
  rw [(bits_nat .i64 62 (by decide) w62 (2 ^ i * c) a (by rw [n62]; omega) (by rw [n62]; omega)).2, ← Nat.two_pow_add_eq_or_of_lt ha]
  omega
theorem bWord_eq (d m : Bool) {x : Int} (h0 : 0 ≤ x) (h1 : x ≤ 65528) : bWord d m x = (if d then 16384 else 0) + (if m then 8192 else 0) + x / 8 := by
  have e14 := or_hi 14 1 (x := x / 8) (by omega) (by simp; omega) (by decide)
  have e13 := or_hi 13 1 (x := x / 8) (by omega) (by simp; omega) (by decide)
  have s14 : ((2 ^ 14 * 1 : Nat) : Int) = 16384 := by decide
  have s13 : ((2 ^ 13 * 1 : Nat) : Int) = 8192 := by decide
  rw [s14] at e14
  rw [s13] at e13
  cases d <;> cases m <;> simp only [bWord, Bool.false_eq_true, if_true, if_false]
  · omega
  · rw [e13]; omega
  · rw [e14]; omega
  · rw [e14]
    have a : ∃ a : Nat, x / 8 = a ∧ a < 2 ^ 13 := ⟨(x / 8).toNat, by omega, by simp; omega⟩
    obtain ⟨a, ea, ha⟩ := a
    rw [ea]
    have e : ((a : Int) + 16384) = ((a + 16384 : Nat) : Int) := by omega
    rw [e, show (8192 : Int) = ((8192 : Nat) : Int) from rfl, (bits_nat .i64 62 (by decide) w62 (a + 16384) 8192 (by rw [n62]; omega) (by rw [n62]; omega)).2]
    have k1 := Nat.two_pow_add_eq_or_of_lt (show a < 2 ^ 14 by omega) 1
    have k2 := Nat.two_pow_add_eq_or_of_lt (show a < 2 ^ 13 by omega) 1
    have k3 := Nat.two_pow_add_eq_or_of_lt (show 2 ^ 13 * 1 + a < 2 ^ 14 by omega) 1
    have k4 : a + 16384 = 2 ^ 14 * 1 ||| a := by rw [← k1]; omega
    rw [k4, Nat.or_assoc, Nat.or_comm a, show (8192 : Nat) = 2 ^ 13 * 1 by decide, ← k2, ← k3]
    omega
end Go.Proofs.Ytghfljmoaalinaa.Pure
