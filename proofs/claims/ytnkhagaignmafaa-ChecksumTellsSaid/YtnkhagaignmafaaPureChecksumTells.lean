/- The plain law of ChecksumTells: the program's sums, checksums, updates and sums of addresses are the page's. Numbers and lists alone. No condition. -/
import Derived.Test.YtnkhagaignmafaaSums
namespace Go.Proofs.Ytnkhagaignmafaa.Pure
open Go.RowKit Go.Proofs.Ytnkhagaignmafaa.Q Go.Proofs.YtnkhagaignmafaaW.PrintWords Go.Proofs.YtnkhagaignmafaaW.PrintLast Go.Proofs.YtnkhagaignmafaaW.PrintMore Go.Proofs.YtnkhagaignmafaaW.Arith Go.Proofs.YtnkhagaignmafaaW.Opened

theorem radd {a b : Int} (ha : 0 ≤ a ∧ a ≤ 65535) (hb : 0 ≤ b ∧ b ≤ 65535) : stopcockref02_Add.f a b = some (fv (a + b)) := by
  unfold stopcockref02_Add.f
  have e : wrap64 (wrap64 a + wrap64 b) = a + b := by rw [w64 (x := a) (by omega) (by omega), w64 (x := b) (by omega) (by omega), w64 (by omega) (by omega)]
  rw [e]
  by_cases h : a + b > 65535
  · rw [if_pos h, w64 (by omega) (by omega), u16i (by omega) (by omega)]
    unfold fv
    rw [if_neg (by omega)]
    congr 1
    omega
  · rw [if_neg h, u16i (by omega) (by omega), fv_small (by omega) (by omega)]
theorem wsum_drop (l : List Int) (i : Nat) (h : i < l.length) : wsum (l.drop i) = (if i + 1 < l.length then l.getD i 0 * 256 + l.getD (i + 1) 0 else l.getD i 0 * 256) + wsum (l.drop (i + 2)) := by
  rw [List.drop_eq_getElem_cons h]
  have e : l.getD i 0 = l[i] := by simp [List.getD_eq_getElem?_getD, List.getElem?_eq_getElem h]
  by_cases h2 : i + 1 < l.length
  · rw [List.drop_eq_getElem_cons h2, if_pos h2]
    have e2 : l.getD (i + 1) 0 = l[i + 1] := by simp [List.getD_eq_getElem?_getD, List.getElem?_eq_getElem h2]
    rw [e, e2]
    simp only [wsum]
  · rw [if_neg h2, List.drop_eq_nil_of_le (show l.length ≤ i + 1 by omega), List.drop_eq_nil_of_le (show l.length ≤ i + 2 by omega), e]
    simp [wsum]
theorem rsum_go (l : List Int) (h : Oct l) (hl : l.length ≤ 140737488355328) (d : Nat) : ∀ (k : Nat) (x : Int) (i : Nat), l.length ≤ i + d → d < k → 0 ≤ x → x ≤ 65535 →
    stopcockref02_Sum.l0 k l x (i : Int) = some (fv (x + wsum (l.drop i))) := by
  induction d with
  | zero =>
    intro k x i hd hk h0 h1
    obtain ⟨k, rfl⟩ : ∃ m, k = m + 1 := ⟨k - 1, by omega⟩
    simp only [stopcockref02_Sum.l0]
    rw [if_neg (by omega), List.drop_eq_nil_of_le (by omega)]
    simp only [wsum, Int.add_zero]
    rw [fv_small h0 h1]
  | succ d ih =>
    intro k x i hd hk h0 h1
    obtain ⟨k, rfl⟩ : ∃ m, k = m + 1 := ⟨k - 1, by omega⟩
    simp only [stopcockref02_Sum.l0]
    by_cases hi : i < l.length
    · have c1 : (i : Int) < (l.length : Int) := by omega
      have c2 : 0 ≤ (i : Int) := by omega
      have hw := wsum_range (l := l.drop (i + 2)) (fun x hx => h x (List.mem_of_mem_drop hx))
      have o1 := h.at_ i
      have o2 := h.at_ (i + 1)
      have e1 : wrap64 ((i : Int) + 1) = ((i + 1 : Nat) : Int) := by rw [w64 (by omega) (by omega)]; omega
      have e2 : wrap64 ((i : Int) + 2) = ((i + 2 : Nat) : Int) := by rw [w64 (by omega) (by omega)]; omega
      have r1 : rd l (i : Int) = l.getD i 0 := rfl
      have r2 : rd l ((i + 1 : Nat) : Int) = l.getD (i + 1) 0 := rfl
      rw [if_pos c1, if_pos c2, e1, e2, r1, r2, wsum_drop l i hi]
      generalize l.getD i 0 = a at *
      generalize l.getD (i + 1) 0 = b at *
      rw [u16i (x := a) o1.1 (by omega), u16i (x := a * 256) (by omega) (by omega), u16i (x := b) o2.1 (by omega), or16 o1.1 o1.2 o2.1 o2.2]
      by_cases h2 : i + 1 < l.length
      · have := fv_range (n := x + (a * 256 + b)) (by omega)
        rw [if_pos (by omega), if_pos (by omega), if_pos h2, radd ⟨h0, h1⟩ (by omega), Option.bind_some, ih k _ (i + 2) (by omega) (by omega) this.1 this.2, fv_add (by omega) hw.1, Int.add_assoc]
      · have := fv_range (n := x + a * 256) (by omega)
        rw [if_neg (by omega), if_neg h2, radd ⟨h0, h1⟩ (by omega), Option.bind_some, ih k _ (i + 2) (by omega) (by omega) this.1 this.2, fv_add (by omega) hw.1, Int.add_assoc]
    · rw [if_neg (by omega), List.drop_eq_nil_of_le (by omega)]
      simp only [wsum, Int.add_zero]
      rw [fv_small h0 h1]
theorem rsum_tells (k : Nat) (l : List Int) (hk : l.length < k) (h : Oct l) (hl : l.length ≤ 140737488355328) : stopcockref02_Sum.f k l = some (fv (wsum l)) := by
  unfold stopcockref02_Sum.f
  have := rsum_go l h hl l.length k 0 0 (by omega) hk (by omega) (by omega)
  simpa using this
theorem rcheck_tells (k : Nat) (l : List Int) (hk : l.length < k) (h : Oct l) (hl : l.length ≤ 140737488355328) : stopcockref02_Check.f k l = some (65535 - fv (wsum l)) := by
  unfold stopcockref02_Check.f
  have := fv_range (wsum_range h).1
  rw [rsum_tells k l hk h hl, Option.bind_some, u16i (by omega) (by omega)]
theorem rright_tells (k : Nat) (l : List Int) (hk : l.length < k) (h : Oct l) (hl : l.length ≤ 140737488355328) : stopcockref02_Right.f k l = some (decide (fv (wsum l) = 65535)) := by
  unfold stopcockref02_Right.f
  rw [rsum_tells k l hk h hl, Option.bind_some]
  rfl
theorem same_go (l : List Int) (hl : l.length ≤ 140737488355328) (d : Nat) : ∀ (k : Nat) (i : Int), 0 ≤ i → i ≤ l.length → (l.length : Int) - i = d → d < k → stopcockplain_SameBytes.l0 k l l i = some true := by
  induction d with
  | zero =>
    intro k i h0 h1 hd hk
    obtain ⟨k, rfl⟩ : ∃ m, k = m + 1 := ⟨k - 1, by omega⟩
    simp only [stopcockplain_SameBytes.l0]
    rw [if_neg (by omega)]
  | succ d ih =>
    intro k i h0 h1 hd hk
    obtain ⟨k, rfl⟩ : ∃ m, k = m + 1 := ⟨k - 1, by omega⟩
    simp only [stopcockplain_SameBytes.l0]
    rw [if_pos (by omega), if_pos h0, if_pos (by omega), if_true, w64 (by omega) (by omega), ih k (i + 1) (by omega) (by omega) (by omega) (by omega)]
theorem same_tells (k : Nat) (l : List Int) (hk : l.length < k) (hl : l.length ≤ 140737488355328) : stopcockplain_SameBytes.f k l l = some true := by
  unfold stopcockplain_SameBytes.f
  rw [if_pos rfl, same_go l hl l.length k 0 (by omega) (by omega) (by omega) hk]
theorem oct4 (k : Nat) (hk : 6 ≤ k) (n : Int) (h0 : 0 ≤ n) (h1 : n ≤ 4294967295) : stopcockref01_Octets.f k (IntKind.u64.wrap n) 4 = some [n / 16777216, n / 65536 % 256, n / 256 % 256, n % 256] := by
  obtain ⟨k, rfl⟩ : ∃ m, k = m + 5 := ⟨k - 5, by omega⟩
  unfold stopcockref01_Octets.f
  rw [u64i h0 (by omega), if_pos (by omega), if_pos (by omega)]
  have w3 : wrap64 (4 - 1) = 3 := by unfold wrap64; decide
  have w2 : wrap64 (3 - 1) = 2 := by unfold wrap64; decide
  have w1 : wrap64 (2 - 1) = 1 := by unfold wrap64; decide
  have w0 : wrap64 (1 - 1) = 0 := by unfold wrap64; decide
  have wm : wrap64 (0 - 1) = -1 := by unfold wrap64; decide
  rw [w3]
  have hr : List.replicate (4 : Int).toNat (0 : Int) = [0, 0, 0, 0] := rfl
  rw [hr]
  simp only [stopcockref01_Octets.l0, List.length_set, List.length_cons, List.length_nil]
  rw [if_pos (by omega), if_pos (by omega), if_pos (by omega), w2, if_pos (by omega), if_pos (by omega), if_pos (by omega), w1, if_pos (by omega), if_pos (by omega), if_pos (by omega), w0, if_pos (by omega), if_pos (by omega), if_pos (by omega), wm, if_neg (by omega)]
  have e3 : (3 : Int).toNat = 3 := rfl
  have e2 : (2 : Int).toNat = 2 := rfl
  have e1 : (1 : Int).toNat = 1 := rfl
  have e0 : (0 : Int).toNat = 0 := rfl
  rw [e3, e2, e1, e0]
  simp only [List.set_cons_succ, List.set_cons_zero]
  congr 2
  · omega
  · congr 1
    omega
theorem oct2 (k : Nat) (hk : 6 ≤ k) (n : Int) (h0 : 0 ≤ n) (h1 : n ≤ 65535) : stopcockref01_Octets.f k (IntKind.u64.wrap n) 2 = some [n / 256, n % 256] := by
  obtain ⟨k, rfl⟩ : ∃ m, k = m + 5 := ⟨k - 5, by omega⟩
  unfold stopcockref01_Octets.f
  rw [u64i h0 (by omega), if_pos (by omega), if_pos (by omega)]
  have w1 : wrap64 (2 - 1) = 1 := by unfold wrap64; decide
  have w0 : wrap64 (1 - 1) = 0 := by unfold wrap64; decide
  have wm : wrap64 (0 - 1) = -1 := by unfold wrap64; decide
  rw [w1]
  have hr : List.replicate (2 : Int).toNat (0 : Int) = [0, 0] := rfl
  rw [hr]
  simp only [stopcockref01_Octets.l0, List.length_set, List.length_cons, List.length_nil]
  rw [if_pos (by omega), if_pos (by omega), if_pos (by omega), w0, if_pos (by omega), if_pos (by omega), if_pos (by omega), wm, if_neg (by omega)]
  have e1 : (1 : Int).toNat = 1 := rfl
  have e0 : (0 : Int).toNat = 0 := rfl
  rw [e1, e0]
  simp only [List.set_cons_succ, List.set_cons_zero]
  congr 2
  omega
theorem and_i64 (x : Int) : Go.bits .and .i64 x 65535 = x % 65536 := by
  unfold Go.bits
  have e2 : BitVec.ofInt IntKind.i64.bits 65535 = BitVec.ofNat 64 65535 := rfl
  simp only [e2]
  show IntKind.i64.wrap (((BitVec.ofInt 64 x &&& BitVec.ofNat 64 65535).toNat : Nat) : Int) = _
  have h : (BitVec.ofInt 64 x &&& BitVec.ofNat 64 65535).toNat = (BitVec.ofInt 64 x).toNat % 65536 := by
    rw [BitVec.toNat_and, BitVec.toNat_ofNat, Nat.mod_eq_of_lt (show 65535 < 2 ^ 64 by decide)]
    exact Nat.and_two_pow_sub_one_eq_mod _ 16
  rw [h, BitVec.toNat_ofInt, IntKind.wrap_i64]
  omega
theorem pseudo_same (k : Nat) (hk : 2000 ≤ k) (s d p n : Int) (hs : 0 ≤ s ∧ s ≤ 4294967295) (hd : 0 ≤ d ∧ d ≤ 4294967295) (hp : 0 ≤ p ∧ p ≤ 255) : ∃ r, checksum_Pseudo.f k s d p n = some r ∧ stopcockref02_Pseudo.f k s d p n = some r := by
  unfold checksum_Pseudo.f stopcockref02_Pseudo.f
  have eN : Go.bits .and .i64 n 65535 = n % 65536 := and_i64 n
  rw [eN, oct4 k (by omega) s hs.1 hs.2, oct4 k (by omega) d hd.1 hd.2, oct2 k (by omega) (n % 65536) (by omega) (by omega)]
  simp only [Option.bind_some]
  rw [if_pos (by simp), if_pos (by simp), if_pos (by simp)]
  simp only [List.cons_append, List.nil_append]
  rw [rsum_tells k _ (by simp; omega) (by intro x hx; simp at hx; omega) (by simp), Option.bind_some]
  rw [words_tells k (by omega) _ (by intro x hx; simp only [u16w] at hx; simp at hx; omega) (by simp), Option.bind_some]
  refine ⟨_, rfl, ?_⟩
  congr 2
  simp only [wsum, lsum, u16w]
  omega
theorem ChecksumTells : stopcocklaw02_ChecksumTells.Pure := by
  intro l x y z s d hl hx hy hz hs hd
  have hO : Oct l := fun x hx => wf_u8 (hl.2 x hx)
  have hlen : l.length ≤ 140737488351232 := by have := hl.1; omega
  replace hx := wf_u16 hx
  replace hy := wf_u16 hy
  replace hz := wf_u16 hz
  replace hs := wf_u32 hs
  replace hd := wf_u32 hd
  obtain ⟨K, hK⟩ : ∃ K : Nat, l.length + 4000 ≤ K := ⟨_, Nat.le_refl _⟩
  obtain ⟨K, rfl⟩ : ∃ m, K = m + 1 := ⟨K - 1, by omega⟩
  refine ⟨K + 1, ?_⟩
  unfold stopcocklaw02_ChecksumTells.f
  have hcopy : stopcockplain_CopyBytes.f l = some l := by
    unfold stopcockplain_CopyBytes.f
    rw [if_pos (by simp; omega)]
    rfl
  rw [hcopy, Option.bind_some, sum_tells _ (by omega) l hO (by omega), Option.bind_some, rsum_tells _ l (by omega) hO (by omega), Option.bind_some, if_pos rfl, check_tells _ (by omega) l hO (by omega), Option.bind_some,
    rcheck_tells _ l (by omega) hO (by omega), Option.bind_some, if_pos rfl, right_tells _ (by omega) l hO (by omega), Option.bind_some, rright_tells _ l (by omega) hO (by omega), Option.bind_some]
  have e : (decide (fv (wsum l) = 65535) != decide (fv (wsum l) = 65535)) = false := by simp
  rw [e]
  generalize wrap64 (wrap64 (wrap64 x * 256) - wrap64 y) = n
  simp only [stopcocklaw02_ChecksumTells.j0, Bool.false_eq_true, if_false]
  rw [add_tells K (by omega) x y hx hy, Option.bind_some, radd hx hy, Option.bind_some, if_pos rfl, update_tells K (by omega) x y z hx hy hz, Option.bind_some]
  have hu : stopcockref02_Update.f x y z = some (65535 - fv (65535 - x + (65535 - y) + z)) := by
    unfold stopcockref02_Update.f
    have f1 := fv_range (n := 65535 - x + (65535 - y)) (by omega)
    have f2 := fv_range (n := 65535 - x + (65535 - y) + z) (by omega)
    rw [u16i (x := 65535 - x) (by omega) (by omega), u16i (x := 65535 - y) (by omega) (by omega), radd (by omega) (by omega), Option.bind_some, radd f1 hz, Option.bind_some, fv_add (by omega) hz.1, u16i (by omega) (by omega)]
  obtain ⟨r, p1, p2⟩ := pseudo_same K (by omega) s d (z % 256) n hs hd (by omega)
  rw [hu, Option.bind_some, if_pos rfl, p1, p2, Option.bind_some, Option.bind_some, if_pos rfl, same_tells K l (by omega) (by omega), Option.bind_some, if_pos rfl, alive_tells K (by omega), Option.bind_some]
end Go.Proofs.Ytnkhagaignmafaa.Pure
