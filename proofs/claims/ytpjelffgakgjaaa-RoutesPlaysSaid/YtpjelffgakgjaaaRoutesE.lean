/- routes: the map of routes and the page's list answer alike. No condition. -/
import Derived.Test.YtpjelffgakgjaaaRoutesD
import Derived.Test.YtpjelffgakgjaaaArith
import Derived.Laws.BitsLemmas
namespace Go.Proofs.Ytpjelffgakgjaaa.Q
set_option linter.unusedVariables false
open Go.RowKit Go.Maps Go.Proofs.YtpjelffgakgjaaaW.PrintWords Go.Proofs.YtpjelffgakgjaaaW.PrintLast Go.Proofs.YtpjelffgakgjaaaW.PrintMore Go.Proofs.YtpjelffgakgjaaaW.MapIs Go.Proofs.YtpjelffgakgjaaaW.Arith
theorem high_bits (n c : Nat) (hn : n < 4294967296) (hc : c ≤ 32) : n &&& (4294967296 - 2 ^ c) = n / 2 ^ c * 2 ^ c := by
  have e0 : (4294967296 : Nat) = 2 ^ 32 := by decide
  have e1 : 4294967296 - 2 ^ c = (2 ^ (32 - c) - 1) <<< c := by
    rw [Nat.shiftLeft_eq, Nat.sub_mul, ← Nat.pow_add, Nat.sub_add_cancel hc, e0, Nat.one_mul]
  rw [e1, ← Nat.shiftRight_eq_div_pow, ← Nat.shiftLeft_eq]
  apply Nat.eq_of_testBit_eq
  intro i
  rw [Nat.testBit_and, Nat.testBit_shiftLeft, Nat.testBit_shiftLeft, Nat.testBit_two_pow_sub_one, Nat.testBit_shiftRight]
  by_cases h1 : i ≥ c
  · rw [show c + (i - c) = i by omega]
    by_cases h2 : i < 32
    · simp [h1, show i - c < 32 - c by omega]
    · have : n.testBit i = false := Nat.testBit_lt_two_pow (Nat.lt_of_lt_of_le (by rw [e0] at hn; exact hn) (Nat.pow_le_pow_right (by decide) (by omega)))
      simp [this]
  · simp [h1]
theorem mk_is (b : Nat) (h : b ≤ 32) : mk (b : Int) = ((4294967296 - 2 ^ (32 - b) : Nat) : Int) := by
  have : ∀ b : Fin 33, mk (b.val : Int) = ((4294967296 - 2 ^ (32 - b.val) : Nat) : Int) := by decide +kernel
  exact this ⟨b, by omega⟩
theorem nat32 : (2 : Nat) ^ 32 = 4294967296 := by decide
theorem and_mk (n b : Nat) (hn : n < 4294967296) (hb : b ≤ 32) : bits .and .u32 (n : Int) (mk (b : Int)) = ((n / 2 ^ (32 - b) * 2 ^ (32 - b) : Nat) : Int) := by
  rw [mk_is b hb, (bits_nat .u32 32 (by decide) (fun n g0 g1 => by rw [u32w]; rw [show (2 : Int) ^ 32 = 4294967296 from by decide] at g1; omega) n (4294967296 - 2 ^ (32 - b)) (by rw [nat32]; exact hn) (by have := Nat.two_pow_pos (32 - b); rw [nat32]; omega)).1, high_bits n (32 - b) hn (by omega)]
theorem lead_mk (n b : Nat) (hn : n < 4294967296) (hb : b ≤ 32) : leadV (n : Int) (b : Int) = bits .and .u32 (n : Int) (mk (b : Int)) := by
  rw [and_mk n b hn hb]
  unfold leadV
  by_cases c : (b : Int) = 0
  · rw [if_pos c]
    have : b = 0 := by omega
    subst this
    rw [Nat.sub_zero, nat32, Nat.div_eq_of_lt hn, Nat.zero_mul]
    rfl
  · rw [if_neg c]
    have e1 : wrap64 (32 - (b : Int)) = ((32 - b : Nat) : Int) := by rw [w64 (by omega) (by omega)]; omega
    rw [e1]
    generalize hc : 32 - b = d
    have hd : d ≤ 31 := by omega
    unfold shl shr
    rw [Int.toNat_natCast, show IntKind.bits .u32 = 32 from rfl, Nat.min_eq_left (by omega), u32w]
    have e2 : (n : Int) / 2 ^ d * 2 ^ d = ((n / 2 ^ d * 2 ^ d : Nat) : Int) := by push_cast; rfl
    rw [e2]
    have := Nat.div_mul_le_self n (2 ^ d)
    omega
theorem lead_eq {n b : Int} (h0 : 0 ≤ n) (h1 : n < 4294967296) (h2 : 0 ≤ b) (h3 : b ≤ 32) : leadV n b = bits .and .u32 n (mk b) := by
  obtain ⟨a, rfl⟩ := Int.eq_ofNat_of_zero_le h0
  obtain ⟨c, rfl⟩ := Int.eq_ofNat_of_zero_le h2
  exact lead_mk a c (by omega) (by omega)
theorem bv_andNot {w : Nat} (x y : BitVec w) : x &&& ~~~y = 0#w ↔ x &&& y = x := by
  constructor
  · intro h
    apply BitVec.eq_of_getLsbD_eq
    intro i hi
    have h2 := congrArg (fun z => z.getLsbD i) h
    simp only [BitVec.getLsbD_and, BitVec.getLsbD_not, hi, decide_true, Bool.true_and, BitVec.getLsbD_zero] at h2 ⊢
    revert h2
    cases x.getLsbD i <;> cases y.getLsbD i <;> simp
  · intro h
    apply BitVec.eq_of_getLsbD_eq
    intro i hi
    have h2 := congrArg (fun z => z.getLsbD i) h
    simp only [BitVec.getLsbD_and, BitVec.getLsbD_not, hi, decide_true, Bool.true_and, BitVec.getLsbD_zero] at h2 ⊢
    revert h2
    cases x.getLsbD i <;> cases y.getLsbD i <;> simp
theorem andNot_zero (n m : Nat) (hn : n < 4294967296) (hm : m < 4294967296) : bits .andNot .u32 (n : Int) (m : Int) = 0 ↔ bits .and .u32 (n : Int) (m : Int) = (n : Int) := by
  have hw : ∀ z : Nat, z < 4294967296 → IntKind.u32.wrap (z : Int) = (z : Int) := fun z hz => by rw [u32w]; omega
  have e1 : bits .andNot .u32 (n : Int) (m : Int) = (((BitVec.ofNat 32 n) &&& ~~~(BitVec.ofNat 32 m)).toNat : Int) := by
    simp only [bits, BitVec.ofInt_natCast]
    exact hw _ (BitVec.isLt _)
  have e2 : bits .and .u32 (n : Int) (m : Int) = (((BitVec.ofNat 32 n) &&& (BitVec.ofNat 32 m)).toNat : Int) := by
    simp only [bits, BitVec.ofInt_natCast]
    exact hw _ (BitVec.isLt _)
  rw [e1, e2]
  constructor
  · intro h
    have h1 : (BitVec.ofNat 32 n) &&& ~~~(BitVec.ofNat 32 m) = 0#32 := by
      apply BitVec.eq_of_toNat_eq
      have : ((BitVec.ofNat 32 n) &&& ~~~(BitVec.ofNat 32 m)).toNat = 0 := by omega
      rw [this]
      rfl
    rw [(bv_andNot _ _).1 h1, BitVec.toNat_ofNat]
    omega
  · intro h
    have h1 : (BitVec.ofNat 32 n) &&& (BitVec.ofNat 32 m) = BitVec.ofNat 32 n := by
      apply BitVec.eq_of_toNat_eq
      have : ((BitVec.ofNat 32 n) &&& (BitVec.ofNat 32 m)).toNat = n := by omega
      rw [this, BitVec.toNat_ofNat]
      omega
    rw [(bv_andNot _ _).2 h1]
    rfl
def key (y : S32) : Int × Int := (y.f0, y.f1)
def conv (R : List S32) : List ((Int × Int) × Int) := R.map (fun y => (key y, y.f2))
/-- What the page's list always is. -/
structure Inv (R : List S32) : Prop where
  len : R.length ≤ 256
  rng : ∀ y ∈ R, (0 ≤ y.f1 ∧ y.f1 ≤ 32) ∧ 0 ≤ y.f0 ∧ y.f0 < 4294967296
  nod : (R.map key).Nodup
theorem getM_conv (R : List S32) (n b : Int) : (getM (conv R) (n, b)).isSome = hasR R n b := by
  induction R with
  | nil => rfl
  | cons y r ih =>
    simp only [conv, List.map_cons, getM, hasR, List.any_cons]
    by_cases c : y.f0 = n ∧ y.f1 = b
    · rw [if_pos (by rw [key, c.1, c.2])]
      simp [c]
    · rw [if_neg (by rw [key]; intro e; exact c (Prod.mk.inj e)), decide_eq_false c, Bool.false_or]
      exact ih
theorem delM_conv (R : List S32) (n b : Int) : delM (conv R) (n, b) = conv (delR R n b) := by
  induction R with
  | nil => rfl
  | cons y r ih =>
    simp only [conv, List.map_cons, delM, delR]
    by_cases c : y.f0 = n ∧ y.f1 = b
    · rw [if_pos (by rw [key, c.1, c.2]), if_pos c]
    · rw [if_neg (by rw [key]; intro e; exact c (Prod.mk.inj e)), if_neg c]
      simp only [List.map_cons]
      exact congrArg _ ih
theorem delR_sub (n b : Int) : ∀ R : List S32, (delR R n b).Sublist R
  | [] => List.Sublist.refl _
  | y :: r => by
    simp only [delR]
    split
    · exact List.sublist_cons_self _ _
    · exact (delR_sub n b r).cons_cons _
theorem Inv.sub {R R' : List S32} (h : Inv R) (hs : R'.Sublist R) : Inv R' := ⟨Nat.le_trans hs.length_le h.len, fun y hy => h.rng y (hs.subset hy), (hs.map _).nodup h.nod⟩
theorem add_same {R : List S32} (h : Inv R) (x : S32) (h0 : 0 ≤ x.f0) (h1 : x.f0 < 4294967296) (h2 : 0 ≤ x.f1) (h3 : x.f1 ≤ 32) :
    addR (conv R) x.f0 x.f1 x.f2 (mk x.f1) = (conv (refAdd R x).1, (refAdd R x).2) ∧ Inv (refAdd R x).1 := by
  have hl := lead_eq h0 h1 h2 h3
  have hz : bits .andNot .u32 x.f0 (mk x.f1) = 0 ↔ bits .and .u32 x.f0 (mk x.f1) = x.f0 := by
    obtain ⟨a, ha⟩ := Int.eq_ofNat_of_zero_le h0
    obtain ⟨b, hb⟩ := Int.eq_ofNat_of_zero_le h2
    rw [ha, hb, mk_is b (by omega)]
    exact andNot_zero a _ (by omega) (by have := Nat.two_pow_pos (32 - b); omega)
  unfold addR refAdd
  rw [if_neg (show ¬ (x.f1 < 0 ∨ 32 < x.f1) by omega), getM_conv]
  by_cases c1 : leadV x.f0 x.f1 = x.f0
  · rw [if_neg (show ¬ (leadV x.f0 x.f1 ≠ x.f0) from fun h_ => h_ c1), if_neg (show ¬ (bits .andNot .u32 x.f0 (mk x.f1) ≠ 0) from fun h_ => h_ (hz.2 (by rw [← hl]; exact c1)))]
    by_cases c2 : hasR R x.f0 x.f1 = true
    · rw [if_pos c2, if_pos c2]
      exact ⟨rfl, h⟩
    · rw [if_neg c2, if_neg c2]
      by_cases c3 : 256 ≤ R.length
      · rw [if_pos c3, if_pos (by simpa [conv] using c3)]
        exact ⟨rfl, h⟩
      · rw [if_neg c3, if_neg (by simpa [conv] using c3)]
        refine ⟨by simp [conv, key], by simp; omega, fun y hy => ?_, ?_⟩
        · rcases List.mem_append.1 hy with hy | hy
          · exact h.rng y hy
          · simp at hy
            subst hy
            exact ⟨⟨h2, h3⟩, h0, h1⟩
        · rw [List.map_append, List.nodup_append]
          refine ⟨h.nod, by simp, fun a ha b hb e => c2 ?_⟩
          simp at hb
          subst hb
          obtain ⟨y, hy, ey⟩ := List.mem_map.1 ha
          rw [e] at ey
          unfold hasR
          rw [List.any_eq_true]
          exact ⟨y, hy, decide_eq_true (Prod.mk.inj ey)⟩
  · rw [if_pos (show leadV x.f0 x.f1 ≠ x.f0 from c1), if_pos (show bits .andNot .u32 x.f0 (mk x.f1) ≠ 0 from fun h_ => c1 (by rw [hl]; exact hz.1 h_))]
    exact ⟨rfl, h⟩
theorem drop_same {R : List S32} (h : Inv R) (n b : Int) : dropR (conv R) n b = (conv (refDrop R n b).1, (refDrop R n b).2) ∧ Inv (refDrop R n b).1 := by
  unfold dropR refDrop
  rw [getM_conv, delM_conv]
  by_cases c : hasR R n b = true
  · rw [if_pos c, if_pos c]
    exact ⟨rfl, h.sub (delR_sub n b R)⟩
  · rw [if_neg c, if_neg c]
    exact ⟨rfl, h⟩
theorem next_none (L : List ((Int × Int) × Int)) (ip : Int) : ∀ n : Nat, (∀ b : Nat, b < n → getM L (bits .and .u32 ip (mk (b : Int)), (b : Int)) = none) → nextR L ip n = (0, 101)
  | 0, _ => rfl
  | n + 1, h => by
    simp only [nextR, h n (by omega)]
    exact next_none L ip n (fun b hb => h b (by omega))
theorem next_some (L : List ((Int × Int) × Int)) (ip g : Int) (b : Nat) (hg : getM L (bits .and .u32 ip (mk (b : Int)), (b : Int)) = some g) : ∀ n : Nat, b < n → (∀ c : Nat, b < c → c < n → getM L (bits .and .u32 ip (mk (c : Int)), (c : Int)) = none) → nextR L ip n = (if g = 0 then ip else g, 0)
  | 0, h, _ => by omega
  | n + 1, h, hc => by
    by_cases e : n = b
    · subst e
      simp only [nextR, hg]
    · simp only [nextR, hc n (by omega) (by omega)]
      exact next_some L ip g b hg n (by omega) (fun c h1 h2 => hc c h1 (by omega))
/-- The best one: it matches, and none that matches is longer. -/
theorem best_is (ip : Int) : ∀ (l : List S32) (st : Option S32), match l.foldl (stepB ip) st with
    | none => st = none ∧ ∀ y ∈ l, leadV ip y.f1 ≠ y.f0
    | some z => (st = some z ∨ z ∈ l ∧ leadV ip z.f1 = z.f0) ∧ (∀ y ∈ l, leadV ip y.f1 = y.f0 → y.f1 ≤ z.f1) ∧ ∀ q, st = some q → q.f1 ≤ z.f1
  | [], none => ⟨rfl, fun _ h => absurd h (by simp)⟩
  | [], some q => ⟨.inl rfl, fun _ h => absurd h (by simp), fun _ e => by cases e; omega⟩
  | x :: l, st => by
    rw [List.foldl_cons]
    have ih := best_is ip l (stepB ip st x)
    cases hf : l.foldl (stepB ip) (stepB ip st x) with
    | none =>
      rw [hf] at ih
      obtain ⟨i1, i2⟩ := ih
      cases st with
      | some q => simp only [stepB] at i1; split at i1 <;> cases i1
      | none =>
        simp only [stepB] at i1
        split at i1
        · cases i1
        · rename_i c
          exact ⟨rfl, fun y hy => (List.mem_cons.1 hy).elim (fun e => by rw [e]; exact c) (i2 y)⟩
    | some z =>
      rw [hf] at ih
      obtain ⟨i1, i2, i3⟩ := ih
      have hx : leadV ip x.f1 = x.f0 → x.f1 ≤ z.f1 := fun hl => by
        cases st with
        | none => exact i3 x (by simp [stepB, hl])
        | some q =>
          by_cases c : q.f1 < x.f1
          · exact i3 x (by simp [stepB, hl, c])
          · have := i3 q (by simp [stepB, c])
            omega
      refine ⟨?_, fun y hy hl => (List.mem_cons.1 hy).elim (fun e => by subst e; exact hx hl) (fun hy => i2 y hy hl), fun q e => ?_⟩
      · rcases i1 with i1 | ⟨i4, i5⟩
        · cases st with
          | none =>
            simp only [stepB] at i1
            split at i1
            · rename_i c; cases i1; exact .inr ⟨List.mem_cons_self .., c⟩
            · cases i1
          | some q =>
            simp only [stepB] at i1
            split at i1
            · rename_i c; cases i1; exact .inr ⟨List.mem_cons_self .., c.1⟩
            · cases i1; exact .inl rfl
        · exact .inr ⟨List.mem_cons_of_mem _ i4, i5⟩
      · subst e
        by_cases c : leadV ip x.f1 = x.f0 ∧ q.f1 < x.f1
        · have := i3 x (by simp [stepB, c])
          omega
        · exact i3 q (by simp only [stepB]; rw [if_neg c])
theorem next_same {R : List S32} (h : Inv R) (ip : Int) (h0 : 0 ≤ ip) (h1 : ip < 4294967296) : nextR (conv R) ip 33 = refNextR R ip := by
  have hb := best_is ip R none
  have hnod : ((conv R).map (·.1)).Nodup := by have := h.nod; simpa [conv, Function.comp_def] using this
  have hmem : ∀ (b : Nat) (g : Int), b ≤ 32 → getM (conv R) (bits .and .u32 ip (mk (b : Int)), (b : Int)) = some g → ∃ y ∈ R, leadV ip y.f1 = y.f0 ∧ y.f1 = b ∧ y.f2 = g := fun b g hb hg => by
    have := getM_mem hg
    obtain ⟨y, hy, e⟩ := List.mem_map.1 this
    obtain ⟨e1, e2⟩ := Prod.mk.inj e
    obtain ⟨e3, e4⟩ := Prod.mk.inj e1
    refine ⟨y, hy, ?_, e4, e2⟩
    rw [lead_eq h0 h1 (h.rng y hy).1.1 (h.rng y hy).1.2, e4, e3]
  unfold refNextR
  cases hf : R.foldl (stepB ip) none with
  | none =>
    rw [hf] at hb
    refine next_none _ _ 33 (fun b hlt => ?_)
    cases hg : getM (conv R) (bits .and .u32 ip (mk (b : Int)), (b : Int)) with
    | none => rfl
    | some g =>
      obtain ⟨y, hy, e, _⟩ := hmem b g (by omega) hg
      exact absurd e (hb.2 y hy)
  | some z =>
    rw [hf] at hb
    obtain ⟨i1, i2, _⟩ := hb
    rcases i1 with i1 | ⟨i4, i5⟩
    · cases i1
    have hz := h.rng z i4
    obtain ⟨b, eb⟩ := Int.eq_ofNat_of_zero_le hz.1.1
    have hg : getM (conv R) (bits .and .u32 ip (mk (b : Int)), (b : Int)) = some z.f2 := by
      refine getM_of_mem hnod (List.mem_map.2 ⟨z, i4, ?_⟩)
      rw [key, ← i5, lead_eq h0 h1 hz.1.1 hz.1.2, eb]
    exact next_some _ _ z.f2 b hg 33 (by omega) (fun c h2 h3 => by
      cases hg2 : getM (conv R) (bits .and .u32 ip (mk (c : Int)), (c : Int)) with
      | none => rfl
      | some g =>
        obtain ⟨y, hy, e, e2, _⟩ := hmem c g (by omega) hg2
        have := i2 y hy e
        omega)
end Go.Proofs.Ytpjelffgakgjaaa.Q
