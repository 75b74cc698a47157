/- Roots, laws of drops and the page's examples: what codel's small functions tell. No condition. -/
import Derived.Test.YtmcbnibopkfokaaQ2
import Derived.Test.YtmcbnibopkfokaaArith
namespace Go.Proofs.Ytmcbnibopkfokaa.Pure
open Go.RowKit Go.Proofs.Ytmcbnibopkfokaa.Q Go.Proofs.YtmcbnibopkfokaaW.PrintWords Go.Proofs.YtmcbnibopkfokaaW.PrintLast Go.Proofs.YtmcbnibopkfokaaW.PrintMore Go.Proofs.YtmcbnibopkfokaaW.Arith Go.Proofs.YtmcbnibopkfokaaW.Opened

/-- r is the square root of n, rounded down. -/
def IsRoot (n r : Int) : Prop := 0 ≤ r ∧ r * r ≤ n ∧ n < (r + 1) * (r + 1)
theorem sq_nonneg (a : Int) : 0 ≤ a * a := by
  rcases Int.le_total 0 a with h | h
  · exact Int.mul_nonneg h h
  · have := Int.mul_nonneg (show 0 ≤ -a by omega) (show 0 ≤ -a by omega)
    rwa [Int.neg_mul_neg] at this
theorem sq_mono {a b : Int} (h0 : 0 ≤ a) (h : a ≤ b) : a * a ≤ b * b := Int.mul_le_mul h h h0 (by omega)
theorem root_one {n r s : Int} (h : IsRoot n r) (k : IsRoot n s) : r = s := by
  obtain ⟨h0, h1, h2⟩ := h
  obtain ⟨k0, k1, k2⟩ := k
  rcases Int.lt_trichotomy r s with hlt | rfl | hlt
  · have := sq_mono (show 0 ≤ r + 1 by omega) (show r + 1 ≤ s by omega)
    omega
  · rfl
  · have := sq_mono (show 0 ≤ s + 1 by omega) (show s + 1 ≤ r by omega)
    omega
/-- One step of Newton's stays above the root. -/
theorem newton {n x : Int} (hx : 1 ≤ x) : n < ((x + n / x) / 2 + 1) * ((x + n / x) / 2 + 1) := by
  have h1 : n < x * (n / x + 1) := by
    have := Int.lt_mul_ediv_self_add (x := n) (k := x) (by omega)
    rw [Int.mul_add, Int.mul_one]
    exact this
  generalize n / x = s at *
  have h2 : x + s + 1 ≤ 2 * ((x + s) / 2 + 1) := by omega
  generalize (x + s) / 2 = y at *
  have h3 := sq_nonneg (x - (s + 1))
  have e3 : (x - (s + 1)) * (x - (s + 1)) = (x + s + 1) * (x + s + 1) - 4 * (x * (s + 1)) := by grind
  rcases Int.le_total 0 (x + s + 1) with h4 | h4
  · have h5 := sq_mono h4 h2
    have e5 : (2 * (y + 1)) * (2 * (y + 1)) = 4 * ((y + 1) * (y + 1)) := by grind
    omega
  · have h6 : x * (s + 1) ≤ 0 := by
      have := Int.mul_nonneg (show 0 ≤ x by omega) (show 0 ≤ -(s + 1) by omega)
      rw [Int.mul_neg] at this
      omega
    have := sq_nonneg (y + 1)
    omega
theorem newton_le {n x : Int} (hx : 1 ≤ x) (h : x ≤ (x + n / x) / 2) : x * x ≤ n := by
  have h1 : x * (n / x) ≤ n := Int.mul_ediv_self_le (by omega)
  have h2 : x ≤ n / x := by omega
  have h3 := Int.mul_le_mul_of_nonneg_left h2 (show 0 ≤ x by omega)
  omega

theorem root_loop (n : Int) (h0 : 1 ≤ n) (hn : n ≤ 18446744073709551615) (d : Nat) : ∀ (k : Nat) (x : Int), 1 ≤ x → x ≤ 4294967295 → n < (x + 1) * (x + 1) → x.toNat ≤ d → d < k →
    ∃ r, codel_Root.l0 k n x = some r ∧ IsRoot n r := by
  induction d with
  | zero => intro k x hx; omega
  | succ d ih =>
    intro k x hx hx' hlt hd hk
    obtain ⟨k, rfl⟩ : ∃ m, k = m + 1 := ⟨k - 1, by omega⟩
    have hq0 : 0 ≤ n / x := Int.ediv_nonneg (by omega) (by omega)
    have hq1 : n / x ≤ n := Int.ediv_le_self x (by omega)
    have hsum : x + n / x ≤ 18446744073709551615 := by
      rcases Int.lt_or_le x 2 with h | h
      · have : x = 1 := by omega
        subst this
        rw [Int.ediv_one]
        omega
      · have : n / x ≤ n / 2 := by
          have h1 : x * (n / x) ≤ n := Int.mul_ediv_self_le (by omega)
          have h2 := Int.mul_le_mul_of_nonneg_right h hq0
          omega
        omega
    have e : IntKind.u64.wrap (Int.tdiv (IntKind.u64.wrap (x + IntKind.u64.wrap (Int.tdiv n x))) 2) = (x + n / x) / 2 := by
      rw [tdivp (a := n) (b := x) (by omega), u64i hq0 (by omega), u64i (by omega) hsum, tdivp (by omega), u64i (by omega) (by omega)]
    simp only [codel_Root.l0]
    rw [if_neg (by omega), e]
    by_cases hy : (x + n / x) / 2 ≥ x
    · rw [if_pos hy]
      exact ⟨x, rfl, by omega, newton_le hx hy, hlt⟩
    · rw [if_neg hy]
      refine ih k _ ?_ (by omega) (newton hx) (by omega) (by omega)
      by_cases hxx : x = 1
      · subst hxx
        rw [Int.ediv_one] at hy
        omega
      · rcases Int.lt_or_le (n / x) 1 with h | h
        · omega
        · omega

def tab : ByteArray := ⟨#[0, 1, 2, 2, 3, 3, 3, 3, 4, 4, 4, 4, 4, 4, 4, 4, 5, 5, 5, 5, 5, 5, 5, 5, 5, 5, 5, 5, 5, 5, 5, 5, 6, 6, 6, 6, 6, 6, 6, 6, 6, 6, 6, 6, 6, 6, 6, 6, 6, 6, 6, 6, 6, 6, 6, 6, 6, 6, 6, 6, 6, 6, 6, 6, 7, 7, 7, 7, 7, 7, 7, 7, 7, 7, 7, 7, 7, 7, 7, 7, 7, 7, 7, 7, 7, 7, 7, 7, 7, 7, 7, 7, 7, 7, 7, 7, 7, 7, 7, 7, 7, 7, 7, 7, 7, 7, 7, 7, 7, 7, 7, 7, 7, 7, 7, 7, 7, 7, 7, 7, 7, 7, 7, 7, 7, 7, 7, 7, 8, 8, 8, 8, 8, 8, 8, 8, 8, 8, 8, 8, 8, 8, 8, 8, 8, 8, 8, 8, 8, 8, 8, 8, 8, 8, 8, 8, 8, 8, 8, 8, 8, 8, 8, 8, 8, 8, 8, 8, 8, 8, 8, 8, 8, 8, 8, 8, 8, 8, 8, 8, 8, 8, 8, 8, 8, 8, 8, 8, 8, 8, 8, 8, 8, 8, 8, 8, 8, 8, 8, 8, 8, 8, 8, 8, 8, 8, 8, 8, 8, 8, 8, 8, 8, 8, 8, 8, 8, 8, 8, 8, 8, 8, 8, 8, 8, 8, 8, 8, 8, 8, 8, 8, 8, 8, 8, 8, 8, 8, 8, 8, 8, 8, 8, 8, 8, 8, 8, 8, 8, 8, 8, 8, 8, 8, 8, 8]⟩
theorem tab_tells : ∀ i : Fin 256, 0 ≤ bt tab (i.val : Int) ∧ bt tab (i.val : Int) ≤ 8 ∧ i.val < 2 ^ (bt tab (i.val : Int)).toNat := by decide +kernel
theorem tab_at (x : Int) (h0 : 0 ≤ x) (h1 : x < 256) : 0 ≤ bt tab x ∧ bt tab x ≤ 8 ∧ x < 2 ^ (bt tab x).toNat := by
  have := tab_tells ⟨x.toNat, by omega⟩
  simp only [Int.toNat_of_nonneg h0] at this
  refine ⟨this.1, this.2.1, ?_⟩
  have h := Int.ofNat_lt.2 this.2.2
  rw [Int.natCast_pow, Int.toNat_of_nonneg h0] at h
  exact h
theorem pow_add_nat (a b : Nat) : (2 : Int) ^ (a + b) = 2 ^ a * 2 ^ b := Int.pow_add 2 a b
theorem lt_scale (x : Int) (c : Nat) (m : Int) (hm : (2 : Int) ^ c = m) (h0 : 0 < m) (t : Nat) (h : x / m < 2 ^ t) : x < 2 ^ (t + c) := by
  rw [pow_add_nat, hm]
  have h1 : x < (x / m + 1) * m := by
    have := Int.lt_mul_ediv_self_add (x := x) h0
    rw [Int.add_mul, Int.one_mul, Int.mul_comm]
    exact this
  have h2 : (x / m + 1) * m ≤ 2 ^ t * m := Int.mul_le_mul_of_nonneg_right (by omega) (by omega)
  omega
theorem p8 : (2 : Int) ^ 8 = 256 := by decide
theorem p16 : (2 : Int) ^ 16 = 65536 := by decide
theorem p32 : (2 : Int) ^ 32 = 4294967296 := by decide
theorem j0_eq (k : Nat) (x b : Int) : bits_Len64.j0 (k + 1) x b = if x ≥ 65536 then (if x / 65536 ≥ 256 then (if 0 ≤ x / 65536 / 256 % 256 then (if x / 65536 / 256 % 256 < 256 then some (wrap64 (wrap64 (wrap64 (b + 16) + 8) + wrap64 (bt tab (x / 65536 / 256 % 256)))) else none) else none) else (if 0 ≤ x / 65536 % 256 then (if x / 65536 % 256 < 256 then some (wrap64 (wrap64 (b + 16) + wrap64 (bt tab (x / 65536 % 256)))) else none) else none))
    else (if x ≥ 256 then (if 0 ≤ x / 256 % 256 then (if x / 256 % 256 < 256 then some (wrap64 (wrap64 (b + 8) + wrap64 (bt tab (x / 256 % 256)))) else none) else none) else (if 0 ≤ x % 256 then (if x % 256 < 256 then some (wrap64 (b + wrap64 (bt tab (x % 256)))) else none) else none)) := rfl
/-- The number of bits: n is below that power of two. -/
theorem len_j (k : Nat) (x b : Int) (h0 : 0 ≤ x) (h1 : x < 4294967296) (hb : b = 0 ∨ b = 32) : ∃ t : Nat, bits_Len64.j0 (k + 1) x b = some (b + t) ∧ t ≤ 32 ∧ x < 2 ^ t := by
  have key : ∀ y : Int, 0 ≤ y → y < 256 → ∀ c : Nat, (c = 0 ∨ c = 8 ∨ c = 16 ∨ c = 24) → ∃ t : Nat, wrap64 (b + c + wrap64 (bt tab y)) = b + ((t + c : Nat) : Int) ∧ t + c ≤ 32 ∧ y < 2 ^ t := by
    intro y hy0 hy1 c hc
    obtain ⟨a1, a2, a3⟩ := tab_at y hy0 hy1
    refine ⟨(bt tab y).toNat, ?_, by omega, a3⟩
    rw [w64 (x := bt tab y) (by omega) (by omega), w64 (by omega) (by omega)]
    omega
  rw [j0_eq]
  by_cases c1 : x ≥ 65536
  · rw [if_pos c1]
    by_cases c2 : x / 65536 ≥ 256
    · rw [if_pos c2, if_pos (by omega), if_pos (by omega)]
      obtain ⟨t, e, ht, hlt⟩ := key ((x / 65536 / 256) % 256) (by omega) (by omega) 24 (by omega)
      refine ⟨t + 24, ?_, by omega, ?_⟩
      · rw [← e]
        show some _ = some _
        rw [w64 (x := b + 16) (by omega) (by omega), w64 (x := b + 16 + 8) (by omega) (by omega)]
        rw [show b + 16 + 8 = b + ((24 : Nat) : Int) by omega]
      · have e1 : (x / 65536 / 256) % 256 = x / 65536 / 256 := by omega
        rw [e1] at hlt
        exact lt_scale x 16 65536 p16 (by omega) (t + 8) (lt_scale _ 8 256 p8 (by omega) t hlt)
    · rw [if_neg c2, if_pos (by omega), if_pos (by omega)]
      obtain ⟨t, e, ht, hlt⟩ := key ((x / 65536) % 256) (by omega) (by omega) 16 (by omega)
      refine ⟨t + 16, ?_, by omega, ?_⟩
      · rw [← e, w64 (x := b + 16) (by omega) (by omega)]
        rfl
      · have e1 : (x / 65536) % 256 = x / 65536 := by omega
        rw [e1] at hlt
        exact lt_scale x 16 65536 p16 (by omega) t hlt
  · rw [if_neg c1]
    by_cases c2 : x ≥ 256
    · rw [if_pos c2, if_pos (by omega), if_pos (by omega)]
      obtain ⟨t, e, ht, hlt⟩ := key ((x / 256) % 256) (by omega) (by omega) 8 (by omega)
      refine ⟨t + 8, ?_, by omega, ?_⟩
      · rw [← e, w64 (x := b + 8) (by omega) (by omega)]
        rfl
      · have e1 : (x / 256) % 256 = x / 256 := by omega
        rw [e1] at hlt
        exact lt_scale x 8 256 p8 (by omega) t hlt
    · rw [if_neg c2, if_pos (by omega), if_pos (by omega)]
      obtain ⟨t, e, ht, hlt⟩ := key (x % 256) (by omega) (by omega) 0 (by omega)
      refine ⟨t + 0, ?_, by omega, ?_⟩
      · rw [← e, show b + ((0 : Nat) : Int) = b by omega]
      · have e1 : x % 256 = x := by omega
        rw [e1] at hlt
        exact hlt
theorem len_tells (k : Nat) (hk : 1 ≤ k) (x : Int) (h0 : 0 ≤ x) (h1 : x ≤ 18446744073709551615) : ∃ t : Nat, bits_Len64.f k x = some (t : Int) ∧ t ≤ 64 ∧ x < 2 ^ t := by
  obtain ⟨k, rfl⟩ : ∃ m, k = m + 1 := ⟨k - 1, by omega⟩
  unfold bits_Len64.f
  by_cases c : x ≥ 4294967296
  · rw [if_pos c]
    obtain ⟨t, e, ht, hlt⟩ := len_j k (x / 4294967296) 32 (by omega) (by omega) (.inr rfl)
    refine ⟨t + 32, ?_, by omega, lt_scale x 32 4294967296 p32 (by omega) t hlt⟩
    rw [e]
    congr 1
    first | omega | rfl
  · rw [if_neg c]
    obtain ⟨t, e, ht, hlt⟩ := len_j k x 0 h0 (by omega) (.inl rfl)
    exact ⟨t, by rw [e]; congr 1; omega, by omega, hlt⟩
theorem pow_le {a b : Nat} (h : a ≤ b) : (2 : Int) ^ a ≤ 2 ^ b := by
  have := Nat.pow_le_pow_right (n := 2) (by omega) h
  have h2 := Int.ofNat_le.2 this
  simpa [Int.natCast_pow] using h2
theorem pow_pos' (a : Nat) : (1 : Int) ≤ 2 ^ a := pow_le (a := 0) (b := a) (by omega)
def BIG : Nat := 5000000000
theorem first_guess (t : Nat) (ht : t ≤ 64) : wrap64 (Int.tdiv (wrap64 ((t : Int) + 1)) 2) = (((t + 1) / 2 : Nat) : Int) := by
  rw [w64 (x := (t : Int) + 1) (by omega) (by omega), tdivp (by omega), w64 (by omega) (by omega)]
  omega
theorem first_shift (m : Nat) (hm : m ≤ 32) : shl .u64 1 (m : Int) = 2 ^ m := by
  rw [shl_u64 _ _ (by omega), Int.toNat_natCast, Int.one_mul]
  have a := pow_le hm
  have b := pow_pos' m
  rw [p32] at a
  exact u64i (by omega) (by omega)
theorem above (n : Int) (t : Nat) (h : n < 2 ^ t) : n < 2 ^ ((t + 1) / 2) * 2 ^ ((t + 1) / 2) := by
  rw [← pow_add_nat]
  have := pow_le (show t ≤ (t + 1) / 2 + (t + 1) / 2 by omega)
  omega
theorem from_guess (k D : Nat) (hD : 4294967295 ≤ D) (hk : D + 1 < k) (n x : Int) (h0 : 1 ≤ n) (hn : n ≤ 18446744073709551615) (hx : 1 ≤ x) (hx' : x ≤ 4294967296) (h : n < x * x) :
    ∃ r, (if x > 4294967295 then codel_Root.j0 k n 4294967295 else codel_Root.j0 k n x) = some r ∧ IsRoot n r := by
  obtain ⟨k, rfl⟩ : ∃ m, k = m + 1 := ⟨k - 1, by omega⟩
  by_cases c : x > 4294967295
  · rw [if_pos c]
    simp only [codel_Root.j0]
    have h2 : n < (4294967295 + 1) * (4294967295 + 1) := by omega
    exact root_loop n h0 hn D k 4294967295 (by omega) (by omega) h2 (by omega) (by omega)
  · rw [if_neg c]
    simp only [codel_Root.j0]
    have := sq_mono (show 0 ≤ x by omega) (show x ≤ x + 1 by omega)
    exact root_loop n h0 hn D k x hx (by omega) (by omega) (by omega) (by omega)
theorem root_small (k D : Nat) (hD : 4294967295 ≤ D) (hk : D + 1 < k) (n : Int) (h0 : 0 ≤ n) (hn : n ≤ 18446744073709551615) : ∃ r, codel_Root.f k n = some r ∧ IsRoot n r := by
  unfold codel_Root.f
  by_cases hz : n = 0
  · rw [if_pos hz]
    subst hz
    exact ⟨0, rfl, Int.le_refl _, Int.le_refl _, by decide⟩
  rw [if_neg hz]
  obtain ⟨t, e, ht, hlt⟩ := len_tells k (by omega) n h0 hn
  have hm : (t + 1) / 2 ≤ 32 := by omega
  rw [e, Option.bind_some, first_guess t ht, if_pos (Int.natCast_nonneg _), first_shift _ hm]
  have b := pow_pos' ((t + 1) / 2)
  have a := pow_le hm
  rw [p32] at a
  exact from_guess k D hD hk n _ (by omega) hn b a (above n t hlt)
theorem root_tells (k : Nat) (hk : BIG ≤ k) (n : Int) (h0 : 0 ≤ n) (hn : n ≤ 18446744073709551615) : ∃ r, codel_Root.f k n = some r ∧ IsRoot n r := by
  unfold BIG at hk
  exact root_small k 4294967295 (Nat.le_refl _) (by omega) n h0 hn

theorem root_range {n r : Int} (h : IsRoot n r) (hn : n ≤ 18446744073709551615) : r ≤ 4294967295 := by
  obtain ⟨h0, h1, _⟩ := h
  rcases Int.lt_or_le r 4294967296 with hlt | hge
  · omega
  · have := sq_mono (by omega) hge
    omega

/-! The numbers within. -/
theorem within_go (lo hi : Int) (l : List Int) (hl : l.length ≤ 1000) (d : Nat) : ∀ (k : Nat) (i : Int), 0 ≤ i → i ≤ l.length → (l.length : Int) - i = d → d < k →
    codel_within.l0 k lo hi l (l.length : Int) i = some (decide (∀ x ∈ l.drop i.toNat, lo ≤ x ∧ x ≤ hi)) := by
  induction d with
  | zero =>
    intro k i h0 h1 hd hk
    obtain ⟨k, rfl⟩ : ∃ m, k = m + 1 := ⟨k - 1, by omega⟩
    simp only [codel_within.l0]
    rw [if_neg (by omega), List.drop_eq_nil_of_le (by omega)]
    simp
  | succ d ih =>
    intro k i h0 h1 hd hk
    obtain ⟨k, rfl⟩ : ∃ m, k = m + 1 := ⟨k - 1, by omega⟩
    have hi' : i.toNat < l.length := by omega
    have e : rd l i = l[i.toNat] := by simp [rd, List.getD_eq_getElem?_getD, List.getElem?_eq_getElem hi']
    simp only [codel_within.l0]
    rw [if_pos (by omega), if_pos h0, if_pos (by omega), e, List.drop_eq_getElem_cons hi']
    by_cases c1 : l[i.toNat] < lo
    · rw [if_pos c1]
      congr 1
      exact (decide_eq_false (fun h => by have := h l[i.toNat] List.mem_cons_self; omega)).symm
    · rw [if_neg c1]
      by_cases c2 : l[i.toNat] > hi
      · rw [if_pos c2]
        congr 1
        exact (decide_eq_false (fun h => by have := h l[i.toNat] List.mem_cons_self; omega)).symm
      · rw [if_neg c2, w64 (by omega) (by omega), ih k (i + 1) (by omega) (by omega) (by omega) (by omega)]
        rw [show (i + 1).toNat = i.toNat + 1 by omega]
        congr 1
        simp only [List.mem_cons, forall_eq_or_imp]
        congr 1
        simp only [eq_iff_iff]
        exact ⟨fun h => ⟨⟨by omega, by omega⟩, h⟩, fun h => h.2⟩
theorem within_tells (k : Nat) (hk : BIG ≤ k) (lo hi : Int) (l : List Int) (hl : l.length ≤ 1000) : codel_within.f k lo hi l = some (decide (∀ x ∈ l, lo ≤ x ∧ x ≤ hi)) := by
  unfold BIG at hk
  unfold codel_within.f
  rw [within_go lo hi l hl l.length k 0 (by omega) (by omega) (by omega) (by omega)]
  simp
theorem law_some (k : Nat) (hk : BIG ≤ k) (at_ iv ct : Int) (hc : 1 ≤ ct) (hc' : ct ≤ 1073741824) : ∃ v, codel_law.f k at_ iv ct = some v := by
  unfold codel_law.f
  have e : IntKind.u64.wrap (IntKind.u64.wrap ct * 4294967296) = ct * 4294967296 := by
    rw [u64i (x := ct) (by omega) (by omega), u64i (by omega) (by omega)]
  rw [e]
  obtain ⟨r, hr, hR⟩ := root_tells k hk (ct * 4294967296) (by omega) (by omega)
  have hr1 := root_range hR (by omega)
  have hr0 : r ≠ 0 := by
    rintro rfl
    have := hR.2.2
    omega
  have := hR.1
  rw [hr]
  simp only [Option.bind_some]
  rw [w64 (x := r) (by omega) (by omega), if_neg hr0]
  exact ⟨_, rfl⟩
theorem Law_ok (k : Nat) (hk : BIG ≤ k) (at_ iv ct : Int) (h1 : 0 ≤ at_ ∧ at_ ≤ 1099511627776) (h2 : 1 ≤ iv ∧ iv ≤ 1073741824) (h3 : 1 ≤ ct ∧ ct ≤ 1073741824) : ∃ a e, codel_Law.f k at_ iv ct = some (a, e) ∧ (e = 0 ∧ codel_law.f k at_ iv ct = some a) := by
  unfold codel_Law.f
  rw [within_tells k hk _ _ _ (by simp), within_tells k hk _ _ _ (by simp)]
  simp only [Option.bind_some, List.mem_cons, List.not_mem_nil, or_false, forall_eq_or_imp, forall_eq, decide_eq_true_eq]
  rw [if_pos h1, if_pos ⟨h2, h3⟩]
  obtain ⟨v, h4⟩ := law_some k hk at_ iv ct h3.1 h3.2
  rw [h4]
  exact ⟨v, 0, rfl, rfl, rfl⟩
theorem root_is (k : Nat) (hk : BIG ≤ k) (n r : Int) (h0 : 0 ≤ n) (hn : n ≤ 18446744073709551615) (h : IsRoot n r) : codel_Root.f k n = some r := by
  obtain ⟨s, hs, hS⟩ := root_tells k hk n h0 hn
  rw [hs, root_one hS h]
theorem alive_tells (k : Nat) (hk : BIG ≤ k) : stopcocklaw12_alive.f k = some true := by
  unfold stopcocklaw12_alive.f
  obtain ⟨a, e, h1, he, h4⟩ := Law_ok k hk 100 100 1 (by decide) (by decide) (by decide)
  obtain ⟨b, f, g1, hf, g4⟩ := Law_ok k hk 100 100 4 (by decide) (by decide) (by decide)
  subst he hf
  have r1 := root_is k hk 4294967296 65536 (by decide) (by decide) ⟨by decide, by decide, by decide⟩
  have r4 := root_is k hk 17179869184 131072 (by decide) (by decide) ⟨by decide, by decide, by decide⟩
  have r8 := root_is k hk 8 2 (by decide) (by decide) ⟨by decide, by decide, by decide⟩
  have rm := root_is k hk 18446744073709551615 4294967295 (by decide) (by decide) ⟨by decide, by decide, by decide⟩
  have e1 : IntKind.u64.wrap (IntKind.u64.wrap 1 * 4294967296) = 4294967296 := by rw [u64w, u64w]; decide
  have e4 : IntKind.u64.wrap (IntKind.u64.wrap 4 * 4294967296) = 17179869184 := by rw [u64w, u64w]; decide
  have ea : a = 200 := by
    unfold codel_law.f at h4
    rw [e1, r1] at h4
    simp only [Option.bind_some] at h4
    rw [if_neg (by unfold wrap64; decide)] at h4
    rw [← Option.some.inj h4]
    unfold wrap64
    decide
  have eb : b = 150 := by
    unfold codel_law.f at g4
    rw [e4, r4] at g4
    simp only [Option.bind_some] at g4
    rw [if_neg (by unfold wrap64; decide)] at g4
    rw [← Option.some.inj g4]
    unfold wrap64
    decide
  subst ea eb
  rw [h1, g1]
  simp only [Option.bind_some, stopcocklaw12_num.f]
  rw [if_pos (by unfold wrap64; decide), if_pos trivial, if_pos trivial, r8, rm]
  simp only [Option.bind_some]
  rfl
end Go.Proofs.Ytmcbnibopkfokaa.Pure
