/- What the program's and the page's sums are, as whole numbers: 'fv' of the sum of the words. Numbers and lists alone. No condition. -/
import Derived.Test.YtghfljmoaalinaaQ5
import Derived.Test.YtghfljmoaalinaaArith
import Derived.Laws.BitsLemmas
namespace Go.Proofs.Ytghfljmoaalinaa.Pure
open Go.RowKit Go.Proofs.Ytghfljmoaalinaa.Q Go.Proofs.YtghfljmoaalinaaW.PrintWords Go.Proofs.YtghfljmoaalinaaW.PrintLast Go.Proofs.YtghfljmoaalinaaW.PrintMore Go.Proofs.YtghfljmoaalinaaW.Arith Go.Proofs.YtghfljmoaalinaaW.Opened

/-- A long sum, within 16 bits: 0 of 0 alone. -/
def fv (n : Int) : Int := if n = 0 then 0 else (n - 1) % 65535 + 1
theorem fv_range {n : Int} (_h : 0 ≤ n) : 0 ≤ fv n ∧ fv n ≤ 65535 := by unfold fv; split <;> omega
theorem fv_small {n : Int} (h : 0 ≤ n) (h' : n ≤ 65535) : fv n = n := by unfold fv; split <;> omega
theorem fv_step {n : Int} (h : 65536 ≤ n) : fv (n % 65536 + n / 65536) = fv n := by
  unfold fv
  rw [if_neg (by omega), if_neg (by omega)]
  omega
theorem fv_add {a b : Int} (ha : 0 ≤ a) (hb : 0 ≤ b) : fv (fv a + b) = fv (a + b) := by
  unfold fv
  by_cases h : a = 0
  · subst h
    simp
  · rw [if_neg h]
    rw [if_neg (by omega), if_neg (by omega)]
    omega
theorem fv_add' {a b : Int} (ha : 0 ≤ a) (hb : 0 ≤ b) : fv (a + fv b) = fv (a + b) := by rw [Int.add_comm, fv_add hb ha, Int.add_comm]

theorem u64_i (n : Int) (h0 : 0 ≤ n) (h1 : n < 2 ^ 64) : IntKind.u64.wrap n = n := by
  have e : (2 : Int) ^ 64 = 18446744073709551616 := by decide
  rw [e] at h1
  exact u64i h0 (by omega)
theorem i64_i (n : Int) (h0 : 0 ≤ n) (h1 : n < 2 ^ 62) : IntKind.i64.wrap n = n := by
  have e : (2 : Int) ^ 62 = 4611686018427387904 := by decide
  rw [e] at h1
  rw [IntKind.wrap_i64]
  omega
theorem u16_i (n : Int) (h0 : 0 ≤ n) (h1 : n < 2 ^ 16) : IntKind.u16.wrap n = n := by
  have e : (2 : Int) ^ 16 = 65536 := by decide
  rw [e] at h1
  exact u16i h0 (by omega)
theorem and64 {x : Int} (h0 : 0 ≤ x) (h1 : x ≤ 18446744073709551615) : Go.bits .and .u64 x 65535 = x % 65536 := by
  have := bits_mask .u64 64 (by decide) u64_i 16 (by decide) x h0 (by have e : (2 : Int) ^ 64 = 18446744073709551616 := by decide
                                                                      rw [e]; omega)
  simpa using this
theorem or16 {a b : Int} (ha : 0 ≤ a) (ha' : a ≤ 255) (hb : 0 ≤ b) (hb' : b ≤ 255) : Go.bits .or .u16 (a * 256) b = a * 256 + b := by
  have e8 : (2 : Int) ^ 8 = 256 := by decide
  have e16 : (2 : Int) ^ 16 = 65536 := by decide
  exact bits_join .u16 16 (by decide) u16_i 8 (a * 256) b (by omega) (by rw [e8]; omega) (by rw [e16]; omega) hb (by rw [e8]; omega) (by rw [e16]; omega)
theorem xor16_all : ∀ x : Nat, x < 65536 → (65535 ^^^ x) = 65535 - x := by
  intro x hx
  have h := BitVec.toNat_not (x := BitVec.ofNat 16 x)
  have h2 : (BitVec.ofNat 16 65535 ^^^ BitVec.ofNat 16 x) = ~~~ BitVec.ofNat 16 x := by
    have : BitVec.ofNat 16 65535 = BitVec.allOnes 16 := by decide
    rw [this, BitVec.allOnes_xor]
  have h3 := congrArg BitVec.toNat h2
  rw [BitVec.toNat_xor, h] at h3
  simp only [BitVec.toNat_ofNat, Nat.mod_eq_of_lt (show 65535 < 2 ^ 16 by decide), Nat.mod_eq_of_lt (show x < 2 ^ 16 from hx)] at h3
  rw [h3]
theorem not16 {x : Int} (h0 : 0 ≤ x) (h1 : x ≤ 65535) : Go.bits .xor .u16 65535 x = 65535 - x := by
  obtain ⟨a, rfl⟩ := Int.eq_ofNat_of_zero_le h0
  have ha : a < 65536 := by omega
  unfold Go.bits
  have e1 : BitVec.ofInt IntKind.u16.bits 65535 = BitVec.ofNat 16 65535 := rfl
  have e2 : BitVec.ofInt IntKind.u16.bits (a : Int) = BitVec.ofNat 16 a := BitVec.ofInt_natCast 16 a
  simp only [e1, e2]
  have e3 : (BitVec.ofNat 16 65535 ^^^ BitVec.ofNat 16 a).toNat = 65535 - a := by
    rw [BitVec.toNat_xor, BitVec.toNat_ofNat, BitVec.toNat_ofNat, Nat.mod_eq_of_lt (show 65535 < 2 ^ 16 by decide), Nat.mod_eq_of_lt (show a < 2 ^ 16 from ha)]
    exact xor16_all a ha
  show IntKind.u16.wrap (((BitVec.ofNat 16 65535 ^^^ BitVec.ofNat 16 a).toNat : Nat) : Int) = _
  rw [e3, u16i (by omega) (by omega)]
  omega
/-- An octet turned by one that is not 0 is another octet. -/
theorem xor8 {x y : Int} (h0 : 0 ≤ x) (h1 : x ≤ 255) (k0 : 0 ≤ y) (k1 : y ≤ 255) (hy : y ≠ 0) : 0 ≤ Go.bits .xor .u8 x y ∧ Go.bits .xor .u8 x y ≤ 255 ∧ Go.bits .xor .u8 x y ≠ x := by
  obtain ⟨a, rfl⟩ := Int.eq_ofNat_of_zero_le h0
  obtain ⟨b, rfl⟩ := Int.eq_ofNat_of_zero_le k0
  have ha : a < 256 := by omega
  have hb : b < 256 := by omega
  have e : Go.bits .xor .u8 (a : Int) (b : Int) = ((a ^^^ b : Nat) : Int) := by
    unfold Go.bits
    have e1 : BitVec.ofInt IntKind.u8.bits (a : Int) = BitVec.ofNat 8 a := BitVec.ofInt_natCast 8 a
    have e2 : BitVec.ofInt IntKind.u8.bits (b : Int) = BitVec.ofNat 8 b := BitVec.ofInt_natCast 8 b
    simp only [e1, e2]
    show IntKind.u8.wrap (((BitVec.ofNat 8 a ^^^ BitVec.ofNat 8 b).toNat : Nat) : Int) = _
    rw [BitVec.toNat_xor, BitVec.toNat_ofNat, BitVec.toNat_ofNat, Nat.mod_eq_of_lt (show a < 2 ^ 8 from ha), Nat.mod_eq_of_lt (show b < 2 ^ 8 from hb)]
    have := Nat.xor_lt_two_pow (n := 8) ha hb
    rw [u8w]
    omega
  have hlt := Nat.xor_lt_two_pow (n := 8) ha hb
  rw [e]
  refine ⟨by omega, by omega, fun h => ?_⟩
  have h' : a ^^^ b = a := by omega
  have : a ^^^ (a ^^^ b) = a ^^^ a := by rw [h']
  rw [← Nat.xor_assoc, Nat.xor_self, Nat.zero_xor] at this
  omega

/-! The program's. -/
theorem fold_base (k : Nat) (n : Int) (h0 : 0 ≤ n) (h1 : n ≤ 65535) (hk : 1 ≤ k) : checksum_fold.l0 k n = some (fv n) := by
  obtain ⟨k, rfl⟩ : ∃ m, k = m + 1 := ⟨k - 1, by omega⟩
  simp only [checksum_fold.l0]
  rw [if_pos (by omega), u16i h0 h1, fv_small h0 h1]
theorem fold_up (B B' : Int) (d : Nat) (hB' : B' ≤ 18446744073709551615) (hB : ∀ n : Int, 65536 ≤ n → n ≤ B' → n % 65536 + n / 65536 ≤ B) (h : ∀ (k : Nat) (n : Int), 0 ≤ n → n ≤ B → d ≤ k → checksum_fold.l0 k n = some (fv n)) :
    ∀ (k : Nat) (n : Int), 0 ≤ n → n ≤ B' → d + 1 ≤ k → checksum_fold.l0 k n = some (fv n) := by
  intro k n h0 h1 hk
  by_cases hs : n ≤ 65535
  · exact fold_base k n h0 hs (by omega)
  · obtain ⟨k, rfl⟩ : ∃ m, k = m + 1 := ⟨k - 1, by omega⟩
    simp only [checksum_fold.l0]
    rw [if_neg (by omega), and64 h0 (by omega), u64i (by omega) (by omega), h k _ (by omega) (hB n (by omega) h1) (by omega), fv_step (by omega)]
theorem fold_tells (k : Nat) (hk : 6 ≤ k) (n : Int) (h0 : 0 ≤ n) (h1 : n ≤ 18446744073709551615) : checksum_fold.f k n = some (fv n) := by
  unfold checksum_fold.f
  have s1 := fold_up 65535 131070 1 (by omega) (by intros; omega) (fun k n a b c => fold_base k n a b c)
  have s2 := fold_up 131070 1048576 2 (by omega) (by intros; omega) s1
  have s3 := fold_up 1048576 8589934592 3 (by omega) (by intros; omega) s2
  have s4 := fold_up 8589934592 281474976776191 4 (by omega) (by intros; omega) s3
  have s5 := fold_up 281474976776191 18446744073709551615 5 (by omega) (by intros; omega) s4
  exact s5 k n h0 h1 hk
def Oct (l : List Int) : Prop := ∀ x ∈ l, 0 ≤ x ∧ x ≤ 255
theorem Oct.ok {l : List Int} (h : Oct l) : okBytes l = true := by
  unfold okBytes
  rw [List.all_eq_true]
  intro x hx
  simpa using h x hx
theorem Oct.append {l r : List Int} (h : Oct l) (k : Oct r) : Oct (l ++ r) := fun x hx => (List.mem_append.1 hx).elim (h x) (k x)
theorem Oct.set {l : List Int} (h : Oct l) (i : Nat) (v : Int) (h0 : 0 ≤ v) (h1 : v ≤ 255) : Oct (l.set i v) := fun x hx => by
  rcases List.mem_or_eq_of_mem_set hx with hx | rfl
  · exact h x hx
  · exact ⟨h0, h1⟩
theorem Oct.at_ {l : List Int} (h : Oct l) (i : Nat) : 0 ≤ l.getD i 0 ∧ l.getD i 0 ≤ 255 := okBytes_at h.ok i
theorem wsum_range : ∀ {l : List Int}, Oct l → 0 ≤ wsum l ∧ wsum l ≤ l.length * 65535
  | [], _ => by simp [wsum]
  | [a], h => by
    have := h a (by simp)
    simp only [wsum, List.length_singleton]
    omega
  | a :: b :: r, h => by
    have ha := h a (by simp)
    have hb := h b (by simp)
    have := wsum_range (l := r) (fun x hx => h x (by simp [hx]))
    simp only [wsum, List.length_cons]
    omega
/-- What one octet more or less makes. -/
theorem wsum_set : ∀ (l : List Int) (j : Nat) (v : Int), j < l.length → wsum (l.set j v) = wsum l + (v - l.getD j 0) * (if j % 2 = 0 then 256 else 1)
  | [], j, v, h => by simp at h
  | [a], j, v, h => by
    obtain rfl : j = 0 := by simp at h; omega
    simp [wsum]
    omega
  | a :: b :: r, 0, v, h => by
    simp [wsum]
    omega
  | a :: b :: r, 1, v, h => by
    simp [wsum]
    omega
  | a :: b :: r, j + 2, v, h => by
    have hj : j < r.length := by simp at h; omega
    have hm : (j + 2) % 2 = j % 2 := by omega
    simp only [List.set_cons_succ, wsum, wsum_set r j v hj, hm, List.getD_cons_succ]
    omega
theorem wsum_zero : ∀ {l : List Int}, Oct l → wsum l = 0 → ∀ j, l.getD j 0 = 0
  | [], _, _, j => by simp
  | [a], h, h0, j => by
    have := h a (by simp)
    simp only [wsum] at h0
    cases j with
    | zero => simp; omega
    | succ j => simp
  | a :: b :: r, h, h0, j => by
    have ha := h a (by simp)
    have hb := h b (by simp)
    have hr : Oct r := fun x hx => h x (by simp [hx])
    have := wsum_range hr
    simp only [wsum] at h0
    match j with
    | 0 => simp; omega
    | 1 => simp; omega
    | j + 2 => simpa using wsum_zero hr (by omega) j
theorem getD_set_ne (l : List Int) {i j : Nat} (v : Int) (h : i ≠ j) : (l.set i v).getD j 0 = l.getD j 0 := by
  rw [List.getD_eq_getElem?_getD, List.getD_eq_getElem?_getD, List.getElem?_set_ne h]
theorem sum_tells (k : Nat) (hk : 6 ≤ k) (l : List Int) (h : Oct l) (hl : l.length ≤ 140737488355327) : checksum_Sum.f k l = some (fv (wsum l)) := by
  unfold checksum_Sum.f
  have := wsum_range h
  rw [if_pos h.ok, if_pos hl, fold_tells k hk _ this.1 (by omega)]
theorem check_tells (k : Nat) (hk : 6 ≤ k) (l : List Int) (h : Oct l) (hl : l.length ≤ 140737488355327) : checksum_Check.f k l = some (65535 - fv (wsum l)) := by
  unfold checksum_Check.f
  have := fv_range (wsum_range h).1
  rw [sum_tells k hk l h hl, Option.bind_some, not16 this.1 this.2]
theorem right_tells (k : Nat) (hk : 6 ≤ k) (l : List Int) (h : Oct l) (hl : l.length ≤ 140737488355327) : checksum_Right.f k l = some (decide (fv (wsum l) = 65535)) := by
  unfold checksum_Right.f
  rw [check_tells k hk l h hl, Option.bind_some]
  congr 1
  rw [Bool.eq_iff_iff]
  simp
  omega
end Go.Proofs.Ytghfljmoaalinaa.Pure
