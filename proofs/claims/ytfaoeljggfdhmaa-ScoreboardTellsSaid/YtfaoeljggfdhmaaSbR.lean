/- The page's scoreboard as plain lists of numbers: it answers as the program's does. Numbers and lists alone. No condition. -/
import Derived.Test.YtfaoeljggfdhmaaSbT
import Derived.Test.YtfaoeljggfdhmaaQ15
import Derived.Test.YtfaoeljggfdhmaaQ13
import Derived.Test.YtfaoeljggfdhmaaQ12
import Derived.Test.YtfaoeljggfdhmaaQ9
namespace Go.Proofs.Ytfaoeljggfdhmaa.Pure
open Go.RowKit Go.Proofs.Ytfaoeljggfdhmaa.Q Go.Proofs.YtfaoeljggfdhmaaW.PrintWords Go.Proofs.YtfaoeljggfdhmaaW.PrintLast Go.Proofs.YtfaoeljggfdhmaaW.PrintMore Go.Proofs.YtfaoeljggfdhmaaW.Arith Go.Proofs.YtfaoeljggfdhmaaW.Opened

theorem rd35 (l : List S35) (i : Int) (hi : i.toNat < l.length) : rd_T35 l i = l[i.toNat] := by
  unfold rd_T35
  rw [List.getD_eq_getElem?_getD, List.getElem?_eq_getElem hi]
  rfl
theorem spans_drop (a0 : Int) (l : List S35) (n : Nat) (h : n < l.length) : (spansOf a0 l).drop n = ⟨(l[n].f0 - a0) % 4294967296, (l[n].f1 - a0) % 4294967296⟩ :: (spansOf a0 l).drop (n + 1) := by
  rw [List.drop_eq_getElem_cons (by rw [spansOf_length]; exact h)]
  congr 1
  unfold spansOf
  rw [List.getElem_map]
theorem rise_all (fl : Int) : ∀ (L : List S75) (e : Int), Rise fl e L → ∀ x ∈ L, e < x.f0 ∧ x.f0 < x.f1 ∧ x.f1 ≤ fl
  | [], _, _, x, hx => by simp at hx
  | y :: r, e, h, x, hx => by
    obtain ⟨h1, h2, h3, h4⟩ := h
    rcases List.mem_cons.1 hx with rfl | hx
    · exact ⟨h1, h2, h3⟩
    · have := rise_all fl r y.f1 h4 x hx
      exact ⟨by omega, this.2⟩
theorem span_mem (a0 : Int) (l : List S35) (n : Nat) (h : n < l.length) : (⟨(l[n].f0 - a0) % 4294967296, (l[n].f1 - a0) % 4294967296⟩ : S75) ∈ spansOf a0 l := by
  unfold spansOf
  exact List.mem_map.2 ⟨l[n], List.getElem_mem h, rfl⟩
/-- Checking the blocks. -/
def chkB (fl : Int) : Int → List S75 → Int
  | _, [] => 0
  | e, x :: r => if x.f0 ≤ e then 171 else if x.f1 ≤ x.f0 then 171 else if x.f1 > fl then 171 else chkB fl x.f1 r
theorem cchk_go (a0 a1 a2 : Int) (l3 : List S35) (L : List S75) (hL : L.length ≤ 1024) (d : Nat) : ∀ (k : Nat) (i e : Int), 0 ≤ i → i ≤ L.length → (L.length : Int) - i = d → 2 * d < k →
    scoreboard_Check.l0 k e L (L.length : Int) i a0 a1 a2 l3 = some (chkB ((a1 - a0) % 4294967296) e (L.drop i.toNat)) := by
  induction d with
  | zero =>
    intro k i e h0 h1 hd hk
    obtain ⟨k, rfl⟩ : ∃ m, k = m + 1 := ⟨k - 1, by omega⟩
    simp only [scoreboard_Check.l0]
    rw [if_neg (by omega), List.drop_eq_nil_of_le (by omega)]
    rfl
  | succ d ih =>
    intro k i e h0 h1 hd hk
    obtain ⟨k, rfl⟩ : ∃ m, k = m + 1 + 1 := ⟨k - 2, by omega⟩
    have hi : i.toNat < L.length := by omega
    have er : rd_T75 L i = L[i.toNat] := by
      unfold rd_T75
      rw [List.getD_eq_getElem?_getD, List.getElem?_eq_getElem hi]
      rfl
    simp only [scoreboard_Check.l0]
    rw [if_pos (by omega), if_pos h0, if_pos (by omega), er, List.drop_eq_getElem_cons hi]
    simp only [chkB]
    by_cases c1 : L[i.toNat].f0 ≤ e
    · rw [if_pos c1, if_pos c1]
      simp only [scoreboard_Check.j2, if_true]
    rw [if_neg c1, if_neg c1]
    by_cases c2 : L[i.toNat].f1 ≤ L[i.toNat].f0
    · rw [if_pos c2, if_pos c2]
      simp only [scoreboard_Check.j2, if_true]
    rw [if_neg c2, if_neg c2]
    unfold scoreboard_State_flight.f
    rw [Option.bind_some]
    by_cases c3 : L[i.toNat].f1 > (a1 - a0) % 4294967296
    · rw [if_pos c3, decide_eq_true c3]
      simp only [scoreboard_Check.j2, if_true]
    rw [if_neg c3, decide_eq_false c3]
    simp only [scoreboard_Check.j2, Bool.false_eq_true, if_false]
    rw [w64 (by omega) (by omega), ih k (i + 1) _ (by omega) (by omega) (by omega) (by omega), show i.toNat + 1 = (i + 1).toNat by omega]
theorem rchk_go (a0 a1 a2 : Int) (l : List S35) (hL : l.length ≤ 1024) (d : Nat) : ∀ (k : Nat) (i e : Int), 0 ≤ i → i ≤ l.length → (l.length : Int) - i = d → 2 * d < k →
    stopcockref17_Check.l0 k e i a0 a1 a2 l = some (chkB ((a1 - a0) % 4294967296) e ((spansOf a0 l).drop i.toNat)) := by
  induction d with
  | zero =>
    intro k i e h0 h1 hd hk
    obtain ⟨k, rfl⟩ : ∃ m, k = m + 1 := ⟨k - 1, by omega⟩
    simp only [stopcockref17_Check.l0]
    rw [if_neg (by omega), List.drop_eq_nil_of_le (by rw [spansOf_length]; omega)]
    rfl
  | succ d ih =>
    intro k i e h0 h1 hd hk
    obtain ⟨k, rfl⟩ : ∃ m, k = m + 1 + 1 := ⟨k - 2, by omega⟩
    have hi : i.toNat < l.length := by omega
    simp only [stopcockref17_Check.l0]
    rw [if_pos (by omega), if_pos h0, rd35 l i hi, spans_drop a0 l _ hi]
    simp only [chkB]
    by_cases c1 : (l[i.toNat].f0 - a0) % 4294967296 ≤ e
    · rw [if_pos c1, if_pos c1]
      simp only [stopcockref17_Check.j2, if_true]
    rw [if_neg c1, if_neg c1]
    by_cases c2 : (l[i.toNat].f1 - a0) % 4294967296 ≤ (l[i.toNat].f0 - a0) % 4294967296
    · rw [if_pos c2, if_pos c2]
      simp only [stopcockref17_Check.j2, if_true]
    rw [if_neg c2, if_neg c2]
    unfold stopcockref17_size.f
    rw [Option.bind_some]
    by_cases c3 : (l[i.toNat].f1 - a0) % 4294967296 > (a1 - a0) % 4294967296
    · rw [if_pos c3, decide_eq_true c3]
      simp only [stopcockref17_Check.j2, if_true]
    rw [if_neg c3, decide_eq_false c3]
    simp only [stopcockref17_Check.j2, Bool.false_eq_true, if_false]
    rw [w64 (by omega) (by omega), ih k (i + 1) _ (by omega) (by omega) (by omega) (by omega), show i.toNat + 1 = (i + 1).toNat by omega]
theorem chk_same (k : Nat) (a0 a1 a2 : Int) (l : List S35) (hk : 3000 ≤ k) (hl : l.length ≤ 8796093022207 * 2) : stopcockref17_Check.f k a0 a1 a2 l = scoreboard_Check.f k a0 a1 a2 l := by
  obtain ⟨k, rfl⟩ : ∃ m, k = m + 1 := ⟨k - 1, by omega⟩
  unfold scoreboard_Check.f scoreboard_State_flight.f scoreboard_State_high.f stopcockref17_Check.f stopcockref17_size.f
  simp only [Option.bind_some]
  by_cases c1 : (a1 - a0) % 4294967296 > 1073741824
  · rw [if_pos c1, if_pos c1]
    simp only [scoreboard_Check.j0, stopcockref17_Check.j0, if_true]
  rw [if_neg c1, if_neg c1]
  by_cases c2 : (a2 - a0) % 4294967296 > (a1 - a0) % 4294967296
  · rw [if_pos c2, if_pos c2]
    simp only [scoreboard_Check.j0, stopcockref17_Check.j0, if_true]
  rw [if_neg c2, if_neg c2]
  by_cases c3 : (l.length : Int) > 1024
  · rw [decide_eq_true c3]
    simp only [scoreboard_Check.j0, stopcockref17_Check.j0, if_true]
  rw [decide_eq_false c3]
  simp only [scoreboard_Check.j0, stopcockref17_Check.j0, Bool.false_eq_true, if_false]
  have hs := spansOf_length a0 l
  rw [spans_tells k a0 a1 a2 l (by omega) (by omega), Option.bind_some]
  have e1 := cchk_go a0 a1 a2 l (spansOf a0 l) (by omega) (spansOf a0 l).length k 0 0 (by omega) (by omega) (by omega) (by omega)
  have e2 := rchk_go a0 a1 a2 l (by omega) l.length k 0 0 (by omega) (by omega) (by omega) (by omega)
  rw [e1, e2]
theorem chk_both (k : Nat) (a0 a1 a2 : Int) (l : List S35) (hk : 3000 ≤ k) (hl : l.length ≤ 8796093022207 * 2) :
    (scoreboard_Check.f k a0 a1 a2 l = some 0 ∧ stopcockref17_Check.f k a0 a1 a2 l = some 0 ∧ Fit a0 a1 a2 l) ∨ (scoreboard_Check.f k a0 a1 a2 l = some 171 ∧ stopcockref17_Check.f k a0 a1 a2 l = some 171) := by
  have e := chk_same k a0 a1 a2 l hk hl
  rcases chk_tells k a0 a1 a2 l (by omega) hl with ⟨h, hF⟩ | h
  · exact .inl ⟨h, e.trans h, hF⟩
  · exact .inr ⟨h, e.trans h⟩
theorem ask_both (k : Nat) (a0 a1 a2 : Int) (l : List S35) (mss : Int) (hk : 3000 ≤ k) (hl : l.length ≤ 8796093022207 * 2) :
    (scoreboard_asked.f k a0 a1 a2 l mss = some 0 ∧ stopcockref17_check.f k a0 a1 a2 l mss = some 0 ∧ Fit a0 a1 a2 l ∧ 1 ≤ mss ∧ mss ≤ 65535) ∨ (∃ e, scoreboard_asked.f k a0 a1 a2 l mss = some e ∧ stopcockref17_check.f k a0 a1 a2 l mss = some e ∧ e ≠ 0) := by
  unfold scoreboard_asked.f stopcockref17_check.f
  rcases chk_both k a0 a1 a2 l hk hl with ⟨h, g, hF⟩ | ⟨h, g⟩
  · rw [h, g, Option.bind_some, Option.bind_some, if_pos rfl, if_pos rfl]
    by_cases c1 : mss < 1
    · exact .inr ⟨4, if_pos c1, if_pos c1, by decide⟩
    rw [if_neg c1]
    by_cases c2 : mss > 65535
    · exact .inr ⟨4, if_pos c2, if_pos c2, by decide⟩
    · exact .inl ⟨if_neg c2, if_neg c2, hF, by omega, by omega⟩
  · rw [h, g, Option.bind_some, Option.bind_some, if_neg (by decide)]
    exact .inr ⟨171, rfl, rfl, by decide⟩
/-- The page's lost and has. -/
theorem rlost_go (a0 a1 a2 mss seq : Int) (l : List S35) (hm : 1 ≤ mss ∧ mss ≤ 65535) (hR : ∀ x ∈ spansOf a0 l, x.f0 < x.f1) (hL : l.length ≤ 1024) (d : Nat) : ∀ (k : Nat) (i n o : Int), 0 ≤ i → i ≤ l.length → (l.length : Int) - i = d → d < k → 0 ≤ n → n ≤ i → 0 ≤ o → o ≤ i * 4294967296 →
    stopcockref17_lost.l0 k mss seq n o i a0 a1 a2 l = some (decide (3 ≤ n + behind ((seq - a0) % 4294967296) ((spansOf a0 l).drop i.toNat) ∨ o + octs ((seq - a0) % 4294967296) ((spansOf a0 l).drop i.toNat) > 2 * mss)) := by
  induction d with
  | zero =>
    intro k i n o h0 h1 hd hk n0 n1 o0 o1
    obtain ⟨k, rfl⟩ : ∃ m, k = m + 1 := ⟨k - 1, by omega⟩
    simp only [stopcockref17_lost.l0]
    rw [if_neg (by omega), List.drop_eq_nil_of_le (by rw [spansOf_length]; omega)]
    simp only [behind, octs, Int.add_zero]
    by_cases c : n ≥ 3
    · rw [if_pos c, decide_eq_true (Or.inl c)]
    · rw [if_neg c, w64 (by omega) (by omega)]
      congr 1
      apply decide_eq_decide.2
      constructor
      · exact fun h => .inr h
      · rintro (h | h)
        · exact absurd h c
        · exact h
  | succ d ih =>
    intro k i n o h0 h1 hd hk n0 n1 o0 o1
    obtain ⟨k, rfl⟩ : ∃ m, k = m + 1 := ⟨k - 1, by omega⟩
    have hi : i.toNat < l.length := by omega
    have hx := hR _ (span_mem a0 l _ hi)
    simp only [stopcockref17_lost.l0]
    rw [if_pos (by omega), if_pos h0, rd35 l i hi, spans_drop a0 l _ hi]
    generalize l[i.toNat] = x at hx ⊢
    dsimp only at hx
    have ed : (x.f1 - x.f0) % 4294967296 = (x.f1 - a0) % 4294967296 - (x.f0 - a0) % 4294967296 := by omega
    rw [show i.toNat + 1 = (i + 1).toNat by omega, ed, w64 (x := n + 1) (by omega) (by omega), w64 (x := o + ((x.f1 - a0) % 4294967296 - (x.f0 - a0) % 4294967296)) (by omega) (by omega), w64 (x := i + 1) (by omega) (by omega)]
    by_cases c : (x.f0 - a0) % 4294967296 > (seq - a0) % 4294967296
    · rw [if_pos c, dec_more mss _ n o ⟨(x.f0 - a0) % 4294967296, (x.f1 - a0) % 4294967296⟩ _ c, ih k (i + 1) (n + 1) (o + ((x.f1 - a0) % 4294967296 - (x.f0 - a0) % 4294967296)) (by omega) (by omega) (by omega) (by omega) (by omega) (by omega) (by omega) (by omega)]
    · rw [if_neg c, dec_less mss _ n o ⟨(x.f0 - a0) % 4294967296, (x.f1 - a0) % 4294967296⟩ _ c, ih k (i + 1) n o (by omega) (by omega) (by omega) (by omega) (by omega) (by omega) (by omega) (by omega)]
theorem rlost_tells (k : Nat) (a0 a1 a2 : Int) (l : List S35) (mss seq : Int) (hm : 1 ≤ mss ∧ mss ≤ 65535) (hF : Fit a0 a1 a2 l) (hk : 1100 ≤ k) : stopcockref17_lost.f k a0 a1 a2 l mss seq = some (lostB mss ((seq - a0) % 4294967296) (spansOf a0 l)) := by
  unfold stopcockref17_lost.f
  have hl := hF.len
  rw [rlost_go a0 a1 a2 mss seq l hm (fun x hx => (rise_all _ _ _ hF.rise x hx).2.1) hl l.length k 0 0 0 (by omega) (by omega) (by omega) (by omega) (by omega) (by omega) (by omega) (by omega)]
  simp [lostB]
def inB (p : Int) : List S75 → Bool
  | [] => false
  | x :: r => if x.f0 ≤ p ∧ p < x.f1 then true else inB p r
theorem idx_in (p : Int) : ∀ (L : List S75) (j : Int), 0 ≤ j → (0 ≤ idxOf p L j ↔ inB p L = true)
  | [], j, _ => by simp [idxOf, inB]
  | x :: r, j, hj => by
    simp only [idxOf, inB]
    by_cases c : x.f0 ≤ p ∧ p < x.f1
    · have e : inSp p x = true := decide_eq_true c
      rw [if_pos e, if_pos c]
      simp [hj]
    · have e : ¬ inSp p x = true := by
        intro h
        exact c (of_decide_eq_true h)
      rw [if_neg e, if_neg c]
      exact idx_in p r (j + 1) (by omega)
theorem rhas_go (a0 a1 a2 seq : Int) (l : List S35) (hR : ∀ x ∈ spansOf a0 l, x.f0 < x.f1) (hL : l.length ≤ 1024) (d : Nat) : ∀ (k : Nat) (i : Int), 0 ≤ i → i ≤ l.length → (l.length : Int) - i = d → d < k →
    stopcockref17_has.l0 k seq i a0 a1 a2 l = some (inB ((seq - a0) % 4294967296) ((spansOf a0 l).drop i.toNat)) := by
  induction d with
  | zero =>
    intro k i h0 h1 hd hk
    obtain ⟨k, rfl⟩ : ∃ m, k = m + 1 := ⟨k - 1, by omega⟩
    simp only [stopcockref17_has.l0]
    rw [if_neg (by omega), List.drop_eq_nil_of_le (by rw [spansOf_length]; omega)]
    rfl
  | succ d ih =>
    intro k i h0 h1 hd hk
    obtain ⟨k, rfl⟩ : ∃ m, k = m + 1 := ⟨k - 1, by omega⟩
    have hi : i.toNat < l.length := by omega
    have hx := hR _ (span_mem a0 l _ hi)
    simp only [stopcockref17_has.l0]
    rw [if_pos (by omega), if_pos h0, rd35 l i hi, spans_drop a0 l _ hi, w64 (by omega) (by omega), ih k (i + 1) (by omega) (by omega) (by omega) (by omega), show i.toNat + 1 = (i + 1).toNat by omega]
    generalize l[i.toNat] = x at hx ⊢
    dsimp only at hx
    simp only [inB]
    by_cases c : (x.f0 - a0) % 4294967296 ≤ (seq - a0) % 4294967296 ∧ (seq - a0) % 4294967296 < (x.f1 - a0) % 4294967296
    · rw [if_pos c, if_pos (by omega)]
    · rw [if_neg c, if_neg (by omega)]
theorem Lost_same (k : Nat) (a0 a1 a2 : Int) (l : List S35) (mss seq : Int) (hk : 3000 ≤ k) (hl : l.length ≤ 8796093022207 * 2) : ∃ v, scoreboard_Lost.f k a0 a1 a2 l mss seq = some v ∧ stopcockref17_Lost.f k a0 a1 a2 l mss seq = some v := by
  unfold scoreboard_Lost.f stopcockref17_Lost.f
  rcases ask_both k a0 a1 a2 l mss hk hl with ⟨h, g, hF, hm⟩ | ⟨e, h, g, hne⟩
  · have hlen := hF.len
    rw [h, g, Option.bind_some, Option.bind_some, if_pos rfl, if_pos rfl]
    unfold stopcockref17_size.f stopcockref17_has.f
    rw [Option.bind_some]
    by_cases c : (seq - a0) % 4294967296 ≥ (a1 - a0) % 4294967296
    · rw [if_pos c, if_pos c]
      exact ⟨_, rfl, rfl⟩
    rw [if_neg c, if_neg c, spans_tells k a0 a1 a2 l (by omega) (by omega), Option.bind_some, lost_tells k a0 a1 a2 l mss _ hm hF.len (by omega), rlost_tells k a0 a1 a2 l mss seq hm hF (by omega), Option.bind_some, rhas_go a0 a1 a2 seq l (fun x hx => (rise_all _ _ _ hF.rise x hx).2.1) hF.len l.length k 0 (by omega) (by omega) (by omega) (by omega), Option.bind_some]
    have hi := idx_in ((seq - a0) % 4294967296) (spansOf a0 l) 0 (by omega)
    simp only [Int.toNat_zero, List.drop_zero]
    by_cases c2 : inB ((seq - a0) % 4294967296) (spansOf a0 l) = true
    · rw [if_pos (hi.2 c2), if_pos c2]
      exact ⟨_, rfl, rfl⟩
    · rw [if_neg (fun x => c2 (hi.1 x)), if_neg c2]
      exact ⟨_, rfl, rfl⟩
  · rw [h, g, Option.bind_some, Option.bind_some, if_neg hne, if_neg hne]
    exact ⟨_, rfl, rfl⟩
/-- The page's holes. -/
def rholes (a1 : Int) : Int → List S35 → List S35
  | f, [] => if f = a1 then [] else [⟨f, a1⟩]
  | f, x :: r => ⟨f, x.f0⟩ :: rholes a1 x.f1 r
theorem rholes_go (a0 a1 a2 : Int) (l : List S35) (hL : l.length ≤ 1024) (d : Nat) : ∀ (k : Nat) (i f : Int) (acc : List S35), 0 ≤ i → i ≤ l.length → (l.length : Int) - i = d → d + 1 < k → acc.length ≤ i →
    stopcockref17_holes.l0 k acc f i a0 a1 a2 l = some (acc ++ rholes a1 f (l.drop i.toNat)) := by
  induction d with
  | zero =>
    intro k i f acc h0 h1 hd hk ha
    obtain ⟨k, rfl⟩ : ∃ m, k = m + 1 + 1 := ⟨k - 2, by omega⟩
    simp only [stopcockref17_holes.l0]
    rw [if_neg (by omega), List.drop_eq_nil_of_le (by omega)]
    simp only [rholes]
    by_cases c : f = a1
    · rw [if_pos c, if_pos c]
      simp only [stopcockref17_holes.j1, List.append_nil]
    · rw [if_neg c, if_neg c, if_pos (by omega)]
      simp only [stopcockref17_holes.j1]
  | succ d ih =>
    intro k i f acc h0 h1 hd hk ha
    obtain ⟨k, rfl⟩ : ∃ m, k = m + 1 := ⟨k - 1, by omega⟩
    have hi : i.toNat < l.length := by omega
    simp only [stopcockref17_holes.l0]
    rw [if_pos (by omega), if_pos h0, if_pos (by omega), rd35 l i hi, w64 (by omega) (by omega), ih k (i + 1) _ _ (by omega) (by omega) (by omega) (by omega) (by rw [List.length_append]; simp; omega), List.drop_eq_getElem_cons hi, show i.toNat + 1 = (i + 1).toNat by omega]
    simp only [rholes, List.append_assoc, List.cons_append, List.nil_append]
theorem rholes_len (a1 : Int) : ∀ (f : Int) (l : List S35), (rholes a1 f l).length ≤ l.length + 1
  | f, [] => by
    simp only [rholes]
    split <;> simp
  | f, x :: r => by
    have := rholes_len a1 x.f1 r
    simp only [rholes, List.length_cons]
    omega
/-- Numbers of 32 bits. -/
def U32 (x : Int) : Prop := 0 ≤ x ∧ x ≤ 4294967295
theorem rholes_spans (a0 a1 : Int) (h1 : U32 a1) : ∀ (bs : List S35) (f : Int), U32 f → (∀ b ∈ bs, U32 b.f0 ∧ U32 b.f1) → Rise ((a1 - a0) % 4294967296) ((f - a0) % 4294967296) (spansOf a0 bs) → (f - a0) % 4294967296 ≤ (a1 - a0) % 4294967296 →
    spansOf a0 (rholes a1 f bs) = holesOf ((f - a0) % 4294967296) (spansOf a0 bs ++ [⟨(a1 - a0) % 4294967296, (a1 - a0) % 4294967296⟩])
  | [], f, hf, _, _, hle => by
    unfold U32 at hf h1
    simp only [rholes, spansOf, List.map_nil, List.nil_append, holesOf]
    by_cases c : f = a1
    · subst c
      rw [if_pos rfl, if_neg (by omega)]
      rfl
    · rw [if_neg c, if_pos (by omega)]
      rfl
  | x :: r, f, hf, hb, hR, hle => by
    obtain ⟨c, k1, k2, hR⟩ := hR
    have hx := hb x (by simp)
    have e : spansOf a0 (x :: r) = ⟨(x.f0 - a0) % 4294967296, (x.f1 - a0) % 4294967296⟩ :: spansOf a0 r := rfl
    have ih := rholes_spans a0 a1 h1 r x.f1 hx.2 (fun b hb' => hb b (by simp [hb'])) hR k2
    rw [e, List.cons_append]
    simp only [holesOf]
    rw [if_pos c, ← ih]
    rfl
theorem holes_fit (fl : Int) : ∀ (L : List S75) (at_ : Int), 0 ≤ at_ → at_ ≤ fl → Rise fl at_ L → ∀ h ∈ holesOf at_ (L ++ [⟨fl, fl⟩]), 0 ≤ h.f0 ∧ h.f0 < h.f1 ∧ h.f1 ≤ fl
  | [], at_, h0, h1, _, h, hh => by
    simp only [List.nil_append, holesOf] at hh
    by_cases c : at_ < fl
    · rw [if_pos c] at hh
      rcases List.mem_cons.1 hh with rfl | hh
      · exact ⟨h0, c, Int.le_refl _⟩
      · simp at hh
    · rw [if_neg c] at hh
      simp at hh
  | x :: r, at_, h0, h1, hR, h, hh => by
    obtain ⟨c, k1, k2, hR⟩ := hR
    simp only [List.cons_append, holesOf] at hh
    rw [if_pos c] at hh
    rcases List.mem_cons.1 hh with rfl | hh
    · exact ⟨h0, c, by dsimp only; omega⟩
    · exact holes_fit fl r x.f1 (by omega) k2 hR h hh
/-- The pipe, hole by hole. -/
def pipeP (mss hi : Int) (L : List S75) : List S75 → Int → Int
  | [], n => n
  | h :: r, n => pipeP mss hi L r (pipeStep n (lostB mss h.f0 L) h hi)
theorem cpipe (k : Nat) (hk : 1100 ≤ k) (a0 a1 a2 : Int) (l : List S35) (mss : Int) (hm : 1 ≤ mss ∧ mss ≤ 65535) (hl : l.length ≤ 1024) : ∀ (hs : List S75) (n : Int), pipeGo k a0 a1 a2 l mss hs n = some (pipeP mss ((a2 - a0) % 4294967296) (spansOf a0 l) hs n)
  | [], n => rfl
  | h :: r, n => by
    simp only [pipeGo, pipeP]
    rw [lost_tells k a0 a1 a2 l mss h.f0 hm hl hk, Option.bind_some, cpipe k hk a0 a1 a2 l mss hm hl r]
theorem step_same (n : Int) (b : Bool) (p q hi : Int) (h0 : 0 ≤ p) (h1 : p < q) (h2 : q ≤ 1073741824) (h3 : 0 ≤ hi) (h4 : hi ≤ 1073741824) :
    pipeStep n b ⟨p, q⟩ hi = wrap64 ((if b = true then n else wrap64 (n + (q - p))) + mx 0 (mn (q - p) (hi - p))) := by
  have e : mx 0 (wrap64 (mn q hi - mx p 0)) = mx 0 (mn (q - p) (hi - p)) := by
    have : mx p 0 = p := by unfold mx; split <;> omega
    rw [this, w64 (by unfold mn; split <;> omega) (by unfold mn; split <;> omega)]
    congr 1
    unfold mn
    split <;> split <;> omega
  unfold pipeStep
  dsimp only
  rw [e, w64 (x := q - p) (by omega) (by omega)]
theorem rpipe_go (a0 a1 a2 : Int) (l : List S35) (mss : Int) (hm : 1 ≤ mss ∧ mss ≤ 65535) (hF : Fit a0 a1 a2 l) (H : List S35) (hH : H.length ≤ 1025) (hfit : ∀ h ∈ spansOf a0 H, 0 ≤ h.f0 ∧ h.f0 < h.f1 ∧ h.f1 ≤ (a1 - a0) % 4294967296) (d : Nat) : ∀ (k : Nat) (i n : Int), 0 ≤ i → i ≤ H.length → (H.length : Int) - i = d → 2 * d + 1100 < k →
    stopcockref17_Pipe.l0 k mss n H i a0 a1 a2 l = some (pipeP mss ((a2 - a0) % 4294967296) (spansOf a0 l) ((spansOf a0 H).drop i.toNat) n, 0) := by
  induction d with
  | zero =>
    intro k i n h0 h1 hd hk
    obtain ⟨k, rfl⟩ : ∃ m, k = m + 1 := ⟨k - 1, by omega⟩
    simp only [stopcockref17_Pipe.l0]
    rw [if_neg (by omega), List.drop_eq_nil_of_le (by rw [spansOf_length]; omega)]
    rfl
  | succ d ih =>
    intro k i n h0 h1 hd hk
    obtain ⟨k, rfl⟩ : ∃ m, k = m + 1 + 1 := ⟨k - 2, by omega⟩
    have hi : i.toNat < H.length := by omega
    have hx := hfit _ (span_mem a0 H _ hi)
    have hfl := hF.fl
    have hhi := hF.hi
    simp only [stopcockref17_Pipe.l0]
    rw [if_pos (by omega), if_pos h0, rd35 H i hi, spans_drop a0 H _ hi, rlost_tells (k + 1) a0 a1 a2 l mss _ hm hF (by omega), Option.bind_some]
    simp only [pipeP]
    have er := rd35 H i hi
    generalize H[i.toNat] = x at hx er ⊢
    dsimp only at hx
    have ed : (x.f1 - x.f0) % 4294967296 = (x.f1 - a0) % 4294967296 - (x.f0 - a0) % 4294967296 := by omega
    rw [step_same n _ _ _ _ hx.1 hx.2.1 (by omega) (by omega) (by omega), ed]
    generalize lostB mss ((x.f0 - a0) % 4294967296) (spansOf a0 l) = b
    cases b
    · simp only [Bool.false_eq_true, if_false]
      simp only [stopcockref17_Pipe.j1]
      rw [if_pos h0, if_pos (by omega), er, w64 (x := i + 1) (by omega) (by omega), ih k (i + 1) _ (by omega) (by omega) (by omega) (by omega), show i.toNat + 1 = (i + 1).toNat by omega]
    · simp only [if_true]
      simp only [stopcockref17_Pipe.j1]
      rw [if_pos h0, if_pos (by omega), er, w64 (x := i + 1) (by omega) (by omega), ih k (i + 1) _ (by omega) (by omega) (by omega) (by omega), show i.toNat + 1 = (i + 1).toNat by omega]
theorem Pipe_same (k : Nat) (a0 a1 a2 : Int) (l : List S35) (mss : Int) (hk : 9000 ≤ k) (hl : l.length ≤ 8796093022207 * 2) (u0 : U32 a0) (u1 : U32 a1) (ul : ∀ b ∈ l, U32 b.f0 ∧ U32 b.f1) : ∃ v, scoreboard_Pipe.f k a0 a1 a2 l mss = some v ∧ stopcockref17_Pipe.f k a0 a1 a2 l mss = some v := by
  unfold scoreboard_Pipe.f stopcockref17_Pipe.f
  rcases ask_both k a0 a1 a2 l mss (by omega) hl with ⟨h, g, hF, hm⟩ | ⟨e, h, g, hne⟩
  · have hlen := hF.len
    have hs := spansOf_length a0 l
    have e0 : (a0 - a0) % 4294967296 = 0 := by omega
    have hR : Rise ((a1 - a0) % 4294967296) ((a0 - a0) % 4294967296) (spansOf a0 l) := by rw [e0]; exact hF.rise
    have eh := rholes_spans a0 a1 u1 l a0 u0 ul hR (by omega)
    rw [e0] at eh
    have hn := rholes_len a1 a0 l
    rw [h, g, Option.bind_some, Option.bind_some, if_pos rfl, if_pos rfl, spans_tells k a0 a1 a2 l (by omega) (by omega), Option.bind_some, if_pos (by omega)]
    unfold stopcockref17_holes.f
    rw [rholes_go a0 a1 a2 l hlen l.length k 0 a0 [] (by omega) (by omega) (by omega) (by omega) (by simp), Option.bind_some, Int.toNat_zero, List.drop_zero, List.nil_append, cpipe k (by omega) a0 a1 a2 l mss hm hlen, Option.bind_some,
      rpipe_go a0 a1 a2 l mss hm hF (rholes a1 a0 l) (by omega) (by rw [eh]; exact holes_fit _ _ 0 (by omega) (by omega) hF.rise) (rholes a1 a0 l).length k 0 0 (by omega) (by omega) (by omega) (by omega), Int.toNat_zero, List.drop_zero, eh]
    exact ⟨_, rfl, rfl⟩
  · rw [h, g, Option.bind_some, Option.bind_some, if_neg hne, if_neg hne]
    exact ⟨_, rfl, rfl⟩
/-- What to send again, hole by hole. -/
def nextP (a0 mss : Int) (resc : Bool) (last hi : Int) (L : List S75) : List S75 → Int × Int × Bool × Int
  | [] => (0, 0, false, 0)
  | h :: r =>
    if mx h.f0 hi ≥ h.f1 then nextP a0 mss resc last hi L r
    else if mx h.f0 hi ≥ last then nextP a0 mss resc last hi L r
    else if resc = true then ((a0 + mx h.f0 hi) % 4294967296, (a0 + mn (mx h.f0 hi + mss) h.f1) % 4294967296, true, 0)
    else if lostB mss (mx h.f0 hi) L = true then ((a0 + mx h.f0 hi) % 4294967296, (a0 + mn (mx h.f0 hi + mss) h.f1) % 4294967296, true, 0)
    else nextP a0 mss resc last hi L r
theorem hit_tells (k : Nat) (hk : 1100 ≤ k) (a0 a1 a2 : Int) (l : List S35) (mss f t : Int) (hm : 1 ≤ mss ∧ mss ≤ 65535) (h0 : 0 ≤ f) (h1 : f ≤ 1073741824) :
    nextHit k a0 a1 a2 l mss f t = some ((a0 + f) % 4294967296, (a0 + mn (f + mss) t) % 4294967296, true, 0) := by
  unfold nextHit
  rw [w64 (by omega) (by omega)]
  obtain ⟨k, rfl⟩ : ∃ m, k = m + 1 + 1 := ⟨k - 2, by omega⟩
  have e : scoreboard_State_blocks.f (k + 1 + 1) a0 a1 a2 l [⟨f, mn (f + mss) t⟩] = some [(⟨(a0 + f) % 4294967296, (a0 + mn (f + mss) t) % 4294967296⟩ : S35)] := by
    unfold scoreboard_State_blocks.f
    rw [scoreboard_State_blocks.l0, if_pos (by simp), if_pos (by omega), if_pos (by simp), if_pos (by simp), w64 (by omega) (by omega), scoreboard_State_blocks.l0, if_neg (by simp)]
    rfl
  rw [e, Option.bind_some, if_pos (by simp)]
  rfl
theorem cnext (k : Nat) (hk : 1100 ≤ k) (a0 a1 a2 : Int) (l : List S35) (mss : Int) (resc : Bool) (last fl : Int) (hm : 1 ≤ mss ∧ mss ≤ 65535) (hl : l.length ≤ 1024) (hfl : fl ≤ 1073741824) : ∀ hs : List S75, (∀ h ∈ hs, 0 ≤ h.f0 ∧ h.f0 < h.f1 ∧ h.f1 ≤ fl) → nextGo k a0 a1 a2 l mss resc last hs = some (nextP a0 mss resc last ((a2 - a0) % 4294967296) (spansOf a0 l) hs)
  | [], _ => rfl
  | h :: r, hf => by
    have ih := cnext k hk a0 a1 a2 l mss resc last fl hm hl hfl r (fun x hx => hf x (by simp [hx]))
    have h0 := hf h (by simp)
    have g0 : h.f0 ≤ mx h.f0 ((a2 - a0) % 4294967296) := by unfold mx; split <;> omega
    simp only [nextGo, nextP]
    by_cases c1 : mx h.f0 ((a2 - a0) % 4294967296) ≥ h.f1
    · rw [if_pos c1, if_pos c1, ih]
    rw [if_neg c1, if_neg c1]
    by_cases c2 : mx h.f0 ((a2 - a0) % 4294967296) ≥ last
    · rw [if_pos c2, if_pos c2, ih]
    rw [if_neg c2, if_neg c2, hit_tells k hk a0 a1 a2 l mss _ _ hm (by omega) (by omega), lost_tells k a0 a1 a2 l mss _ hm hl hk, Option.bind_some, ih]
    split
    · rfl
    · split <;> rfl
def LastOk (last : Int) : Int → List S75 → Prop
  | at_, [] => last ≤ at_
  | _, x :: r => x.f0 ≤ last ∧ LastOk last x.f1 r
theorem last_ok (fl : Int) : ∀ (L : List S75) (x : S75) (e e' : Int), Rise fl e (x :: L) → LastOk ((x :: L).getLast (by simp)).f0 e' (x :: L)
  | [], x, e, e', h => by
    obtain ⟨h1, h2, h3, h4⟩ := h
    exact ⟨Int.le_refl _, Int.le_of_lt h2⟩
  | y :: r, x, e, e', h => by
    obtain ⟨h1, h2, h3, h4⟩ := h
    have i := last_ok fl r y x.f1 x.f1 h4
    have e1 : ((x :: y :: r).getLast (by simp)).f0 = ((y :: r).getLast (by simp)).f0 := by rw [List.getLast_cons (by simp)]
    rw [e1]
    refine ⟨?_, i⟩
    have h5 := i.1
    have h6 := h4.1
    omega
theorem last_tells (a0 : Int) (x : S35) (r : List S35) : lastOf a0 (x :: r) = ((spansOf a0 (x :: r)).getLast (by simp [spansOf])).f0 := by
  unfold lastOf spansOf
  rw [List.getLast_map]
  have e : rd_T35 (x :: r) (((x :: r).length : Int) - 1) = (x :: r).getLast (by simp) := by
    unfold rd_T35
    rw [List.getD_eq_getElem?_getD, List.getLast_eq_getElem, List.getElem?_eq_getElem (by simp)]
    simp
  rw [e]
theorem next_tail (a0 mss : Int) (resc : Bool) (last hi : Int) (L : List S75) (at_ fl : Int) (h : last ≤ at_) : nextP a0 mss resc last hi L (holesOf at_ ([] ++ [⟨fl, fl⟩])) = (0, 0, false, 0) := by
  simp only [List.nil_append, holesOf]
  by_cases c : at_ < fl
  · rw [if_pos c]
    simp only [nextP]
    have : mx at_ hi ≥ last := by unfold mx; split <;> omega
    rw [if_pos this]
    split <;> rfl
  · rw [if_neg c]
    rfl
theorem drop_cons {α : Type} {l : List α} {n : Nat} {x : α} {r : List α} (h : l.drop n = x :: r) : ∃ hn : n < l.length, l[n] = x ∧ l.drop (n + 1) = r := by
  have hn : n < l.length := by
    apply Nat.lt_of_not_le
    intro hc
    rw [List.drop_eq_nil_of_le hc] at h
    cases h
  rw [List.drop_eq_getElem_cons hn] at h
  injection h with h1 h2
  exact ⟨hn, h1, h2⟩
theorem rnext_j2 (m : Nat) (hk : 1100 ≤ m) (a0 a1 a2 : Int) (l : List S35) (mss : Int) (resc : Bool) (hm : 1 ≤ mss ∧ mss ≤ 65535) (hF : Fit a0 a1 a2 l) (H : List S35) (hH : H.length ≤ 1025) (i : Int) (h0 : 0 ≤ i) (hi : i.toNat < H.length) (f e : Int) (hx : H[i.toNat] = ⟨f, e⟩) (x12 : Int) (hu : U32 x12) :
    stopcockref17_Next.j2 (m + 1 + 1) mss resc H i x12 a0 a1 a2 l = if (x12 - a0) % 4294967296 ≥ (e - a0) % 4294967296 then stopcockref17_Next.l0 m mss resc H (i + 1) a0 a1 a2 l
      else if resc = true then some ((a0 + (x12 - a0) % 4294967296) % 4294967296, (a0 + mn ((x12 - a0) % 4294967296 + mss) ((e - a0) % 4294967296)) % 4294967296, true, 0)
      else if lostB mss ((x12 - a0) % 4294967296) (spansOf a0 l) = true then some ((a0 + (x12 - a0) % 4294967296) % 4294967296, (a0 + mn ((x12 - a0) % 4294967296 + mss) ((e - a0) % 4294967296)) % 4294967296, true, 0)
      else stopcockref17_Next.l0 m mss resc H (i + 1) a0 a1 a2 l := by
  unfold U32 at hu
  have er : rd_T35 H i = ⟨f, e⟩ := (rd35 H i hi).trans hx
  have hit : ¬ (x12 - a0) % 4294967296 ≥ (e - a0) % 4294967296 → (some (x12, (x12 + mn mss ((e - x12) % 4294967296)) % 4294967296, true, 0) : Option (Int × Int × Bool × Int)) = some ((a0 + (x12 - a0) % 4294967296) % 4294967296, (a0 + mn ((x12 - a0) % 4294967296 + mss) ((e - a0) % 4294967296)) % 4294967296, true, 0) := by
    intro c
    have e1 : x12 = (a0 + (x12 - a0) % 4294967296) % 4294967296 := by omega
    have e2 : (x12 + mn mss ((e - x12) % 4294967296)) % 4294967296 = (a0 + mn ((x12 - a0) % 4294967296 + mss) ((e - a0) % 4294967296)) % 4294967296 := by
      have e3 : (e - x12) % 4294967296 = (e - a0) % 4294967296 - (x12 - a0) % 4294967296 := by omega
      rw [e3]
      unfold mn
      split <;> split <;> omega
    rw [e2, ← e1]
  simp only [stopcockref17_Next.j2]
  rw [if_pos h0, if_pos (by omega), er]
  dsimp only
  by_cases c : (x12 - a0) % 4294967296 ≥ (e - a0) % 4294967296
  · rw [if_pos c, if_pos c]
    simp only [stopcockref17_Next.j3, if_true]
    rw [w64 (by omega) (by omega)]
  rw [if_neg c, if_neg c]
  by_cases c2 : resc = true
  · rw [if_pos c2, if_pos c2]
    simp only [stopcockref17_Next.j3, Bool.false_eq_true, if_false]
    rw [if_pos h0, if_pos (by omega), er]
    exact hit c
  rw [if_neg c2, if_neg c2, rlost_tells (m + 1) a0 a1 a2 l mss x12 hm hF (by omega), Option.bind_some]
  cases lostB mss ((x12 - a0) % 4294967296) (spansOf a0 l)
  · simp only [stopcockref17_Next.j3, Bool.not_false, if_true, Bool.false_eq_true, if_false]
    rw [w64 (by omega) (by omega)]
  · simp only [stopcockref17_Next.j3, Bool.not_true, Bool.false_eq_true, if_false, if_true]
    rw [if_pos h0, if_pos (by omega), er]
    exact hit c
theorem rnext_go (a0 a1 a2 : Int) (l : List S35) (mss : Int) (resc : Bool) (last : Int) (hm : 1 ≤ mss ∧ mss ≤ 65535) (hF : Fit a0 a1 a2 l) (h2 : U32 a2) (H : List S35) (hH : H.length ≤ 1025) : ∀ (bs : List S35) (f : Int) (k : Nat) (i : Int), 0 ≤ i → l.drop i.toNat = bs → H.drop i.toNat = rholes a1 f bs → U32 f → (∀ b ∈ bs, U32 b.f0 ∧ U32 b.f1) → Rise ((a1 - a0) % 4294967296) ((f - a0) % 4294967296) (spansOf a0 bs) → LastOk last ((f - a0) % 4294967296) (spansOf a0 bs) → 4 * bs.length + 1104 < k →
    stopcockref17_Next.l0 k mss resc H i a0 a1 a2 l = some (nextP a0 mss resc last ((a2 - a0) % 4294967296) (spansOf a0 l) (holesOf ((f - a0) % 4294967296) (spansOf a0 bs ++ [⟨(a1 - a0) % 4294967296, (a1 - a0) % 4294967296⟩])))
  | [], f, k, i, h0, hd, hHd, hf, hb, hR, hL, hk => by
    obtain ⟨k, rfl⟩ : ∃ m, k = m + 1 + 1 := ⟨k - 2, by omega⟩
    have hli : ¬ i < (l.length : Int) := by
      intro hc
      have := List.drop_eq_getElem_cons (l := l) (i := i.toNat) (by omega)
      rw [hd] at this
      cases this
    have ht : nextP a0 mss resc last ((a2 - a0) % 4294967296) (spansOf a0 l) (holesOf ((f - a0) % 4294967296) (spansOf a0 [] ++ [⟨(a1 - a0) % 4294967296, (a1 - a0) % 4294967296⟩])) = (0, 0, false, 0) := next_tail a0 mss resc last _ _ _ _ hL
    rw [ht]
    simp only [stopcockref17_Next.l0]
    by_cases c : i < (H.length : Int)
    · rw [if_pos c, decide_eq_false hli]
      simp only [stopcockref17_Next.j1, Bool.false_eq_true, if_false]
    · rw [if_neg c]
      simp only [stopcockref17_Next.j1, Bool.false_eq_true, if_false]
  | x :: r, f, k, i, h0, hd, hHd, hf, hb, hR, hL, hk => by
    simp only [List.length_cons] at hk
    obtain ⟨k, rfl⟩ : ∃ m, k = m + 1 + 1 + 1 + 1 := ⟨k - 4, by omega⟩
    obtain ⟨hn, hx, hd2⟩ := drop_cons hd
    simp only [rholes] at hHd
    obtain ⟨hHn, hHx, hH2⟩ := drop_cons hHd
    obtain ⟨c, k1, k2, hR⟩ := hR
    obtain ⟨l1, hL⟩ := hL
    have hux := hb x (by simp)
    have e : spansOf a0 (x :: r) = ⟨(x.f0 - a0) % 4294967296, (x.f1 - a0) % 4294967296⟩ :: spansOf a0 r := rfl
    have ih := rnext_go a0 a1 a2 l mss resc last hm hF h2 H hH r x.f1 k (i + 1) (by omega) (by rw [show (i + 1).toNat = i.toNat + 1 by omega]; exact hd2) (by rw [show (i + 1).toNat = i.toNat + 1 by omega]; exact hH2) hux.2 (fun b hb' => hb b (by simp [hb'])) hR hL (by omega)
    rw [e, List.cons_append]
    simp only [holesOf]
    rw [if_pos c]
    simp only [nextP]
    have fin : ∀ x12, U32 x12 → mx ((f - a0) % 4294967296) ((a2 - a0) % 4294967296) = (x12 - a0) % 4294967296 → stopcockref17_Next.j2 (k + 1 + 1) mss resc H i x12 a0 a1 a2 l = some (if mx ((f - a0) % 4294967296) ((a2 - a0) % 4294967296) ≥ (x.f0 - a0) % 4294967296 then nextP a0 mss resc last ((a2 - a0) % 4294967296) (spansOf a0 l) (holesOf ((x.f1 - a0) % 4294967296) (spansOf a0 r ++ [⟨(a1 - a0) % 4294967296, (a1 - a0) % 4294967296⟩])) else if mx ((f - a0) % 4294967296) ((a2 - a0) % 4294967296) ≥ last then nextP a0 mss resc last ((a2 - a0) % 4294967296) (spansOf a0 l) (holesOf ((x.f1 - a0) % 4294967296) (spansOf a0 r ++ [⟨(a1 - a0) % 4294967296, (a1 - a0) % 4294967296⟩])) else if resc = true then ((a0 + mx ((f - a0) % 4294967296) ((a2 - a0) % 4294967296)) % 4294967296, (a0 + mn (mx ((f - a0) % 4294967296) ((a2 - a0) % 4294967296) + mss) ((x.f0 - a0) % 4294967296)) % 4294967296, true, 0) else if lostB mss (mx ((f - a0) % 4294967296) ((a2 - a0) % 4294967296)) (spansOf a0 l) = true then ((a0 + mx ((f - a0) % 4294967296) ((a2 - a0) % 4294967296)) % 4294967296, (a0 + mn (mx ((f - a0) % 4294967296) ((a2 - a0) % 4294967296) + mss) ((x.f0 - a0) % 4294967296)) % 4294967296, true, 0) else nextP a0 mss resc last ((a2 - a0) % 4294967296) (spansOf a0 l) (holesOf ((x.f1 - a0) % 4294967296) (spansOf a0 r ++ [⟨(a1 - a0) % 4294967296, (a1 - a0) % 4294967296⟩]))) := by
      intro x12 hu em
      rw [rnext_j2 k (by omega) a0 a1 a2 l mss resc hm hF H hH i h0 hHn f x.f0 hHx x12 hu, em]
      by_cases c1 : (x12 - a0) % 4294967296 ≥ (x.f0 - a0) % 4294967296
      · rw [if_pos c1, if_pos c1, ih]
      rw [if_neg c1, if_neg c1, if_neg (show ¬ (x12 - a0) % 4294967296 ≥ last from fun h => by dsimp only at l1; omega)]
      by_cases c2 : resc = true
      · rw [if_pos c2, if_pos c2]
      rw [if_neg c2, if_neg c2]
      by_cases c3 : lostB mss ((x12 - a0) % 4294967296) (spansOf a0 l) = true
      · rw [if_pos c3, if_pos c3]
      rw [if_neg c3, if_neg c3, ih]
    simp only [stopcockref17_Next.l0]
    rw [if_pos (by omega), decide_eq_true (by omega)]
    simp only [stopcockref17_Next.j1, if_true]
    rw [if_pos h0, if_pos (by omega), rd35 H i hHn, hHx]
    dsimp only
    by_cases cc : (f - a0) % 4294967296 < (a2 - a0) % 4294967296
    · rw [if_pos cc]
      exact fin a2 h2 (by unfold mx; rw [if_pos cc])
    · rw [if_neg cc]
      exact fin f hf (by unfold mx; rw [if_neg cc])
theorem Next_same (k : Nat) (a0 a1 a2 : Int) (l : List S35) (mss : Int) (resc : Bool) (hk : 9000 ≤ k) (hl : l.length ≤ 8796093022207 * 2) (u0 : U32 a0) (u1 : U32 a1) (u2 : U32 a2) (ul : ∀ b ∈ l, U32 b.f0 ∧ U32 b.f1) : ∃ v, scoreboard_Next.f k a0 a1 a2 l mss resc = some v ∧ stopcockref17_Next.f k a0 a1 a2 l mss resc = some v := by
  unfold scoreboard_Next.f stopcockref17_Next.f
  rcases ask_both k a0 a1 a2 l mss (by omega) hl with ⟨h, g, hF, hm⟩ | ⟨e, h, g, hne⟩
  · have hlen := hF.len
    have hs := spansOf_length a0 l
    have e0 : (a0 - a0) % 4294967296 = 0 := by omega
    have hR : Rise ((a1 - a0) % 4294967296) ((a0 - a0) % 4294967296) (spansOf a0 l) := by rw [e0]; exact hF.rise
    have eh := rholes_spans a0 a1 u1 l a0 u0 ul hR (by omega)
    rw [e0] at eh
    have hn := rholes_len a1 a0 l
    have hd0 : ∀ m : List S35, m.drop (0 : Int).toNat = m := fun m => by rw [Int.toNat_zero, List.drop_zero]
    rw [h, g, Option.bind_some, Option.bind_some, if_pos rfl, if_pos rfl]
    unfold stopcockref17_holes.f
    rw [rholes_go a0 a1 a2 l hlen l.length k 0 a0 [] (by omega) (by omega) (by omega) (by omega) (by simp), Option.bind_some, hd0, List.nil_append]
    have go : ∀ last, LastOk last ((a0 - a0) % 4294967296) (spansOf a0 l) → _ := fun last hL => rnext_go a0 a1 a2 l mss resc last hm hF u2 (rholes a1 a0 l) (by omega) l a0 k 0 (by omega) (hd0 l) (hd0 _) u0 ul hR hL (by omega)
    by_cases cl : l.length = 0
    · rw [if_pos cl]
      have hl0 : l = [] := List.eq_nil_of_length_eq_zero cl
      have := go 0 (by rw [hl0]; exact Int.le_of_eq e0.symm)
      rw [this]
      refine ⟨_, rfl, ?_⟩
      rw [hl0]
      exact congrArg some (next_tail a0 mss resc 0 _ _ _ _ (by omega))
    · rw [if_neg cl, spans_tells k a0 a1 a2 l (by omega) (by omega), Option.bind_some, if_pos (by omega)]
      have hok : LastOk (lastOf a0 l) ((a0 - a0) % 4294967296) (spansOf a0 l) := by
        cases l with
        | nil => exact absurd rfl cl
        | cons x r =>
          rw [last_tells a0 x r]
          exact last_ok _ _ _ 0 _ hF.rise
      rw [go _ hok, e0, cnext k (by omega) a0 a1 a2 l mss resc _ ((a1 - a0) % 4294967296) hm hlen hF.fl _ (holes_fit _ _ 0 (by omega) (by omega) hF.rise)]
      exact ⟨_, rfl, rfl⟩
  · rw [h, g, Option.bind_some, Option.bind_some, if_neg hne, if_neg hne]
    exact ⟨_, rfl, rfl⟩
/-- A state is like itself. -/
theorem same_go (l : List S35) (hL : l.length ≤ 8796093022207 * 2) (d : Nat) : ∀ (k : Nat) (i : Int), 0 ≤ i → i ≤ l.length → (l.length : Int) - i = d → d < k → stopcockplain_SameBlocks.l0 k l l i = some true := by
  induction d with
  | zero =>
    intro k i h0 h1 hd hk
    obtain ⟨k, rfl⟩ : ∃ m, k = m + 1 := ⟨k - 1, by omega⟩
    simp only [stopcockplain_SameBlocks.l0]
    rw [if_neg (by omega)]
  | succ d ih =>
    intro k i h0 h1 hd hk
    obtain ⟨k, rfl⟩ : ∃ m, k = m + 1 := ⟨k - 1, by omega⟩
    simp only [stopcockplain_SameBlocks.l0]
    rw [if_pos (by omega), if_pos h0, if_pos (by omega), if_neg (by simp), w64 (by omega) (by omega)]
    exact ih k (i + 1) (by omega) (by omega) (by omega) (by omega)
theorem self_same (k : Nat) (a b c : Int) (l : List S35) (hL : l.length ≤ 8796093022207 * 2) (hk : l.length < k) : stopcocklaw17_same.f k a b c l a b c l = some true := by
  unfold stopcocklaw17_same.f stopcockplain_SameBlocks.f
  rw [if_pos rfl, if_pos rfl, if_pos rfl, if_pos rfl, same_go l hL l.length k 0 (by omega) (by omega) (by omega) hk]
  rfl
theorem Sent_same (k : Nat) (a0 a1 a2 : Int) (l : List S35) (n : Int) (hk : 9000 ≤ k) (hl : l.length ≤ 8796093022207 * 2) (hlk : l.length < k) : ∃ v, scoreboard_Sent.f k a0 a1 a2 l n = some v ∧ stopcockref17_Sent.f k a0 a1 a2 l n = some v ∧ stopcocklaw17_same.f k v.1 v.2.1 v.2.2.1 v.2.2.2.1 v.1 v.2.1 v.2.2.1 v.2.2.2.1 = some true := by
  unfold scoreboard_Sent.f stopcockref17_Sent.f scoreboard_State_flight.f stopcockref17_size.f api_Block.f stopcockref17_Own.f
  rcases chk_both k a0 a1 a2 l (by omega) (by omega) with ⟨h, g, hF⟩ | ⟨h, g⟩
  · rw [h, g]
    simp only [Option.bind_some, eq_self, if_true]
    by_cases c1 : n < 0
    · rw [if_pos c1, if_pos c1]
      exact ⟨_, rfl, rfl, self_same k _ _ _ _ (by simp) (by simp; omega)⟩
    rw [if_neg c1, if_neg c1]
    by_cases c2 : n > wrap64 (1073741824 - (a1 - a0) % 4294967296)
    · rw [if_pos c2, if_pos c2]
      exact ⟨_, rfl, rfl, self_same k _ _ _ _ (by simp) (by simp; omega)⟩
    rw [if_neg c2, if_neg c2, if_pos (by omega), if_pos (by simp; omega), Option.bind_some, Option.bind_some]
    exact ⟨_, rfl, rfl, self_same k _ _ _ _ (by dsimp only; omega) (by dsimp only; omega)⟩
  · rw [h, g, Option.bind_some, Option.bind_some, if_neg (by decide)]
    exact ⟨_, rfl, rfl, self_same k _ _ _ _ (by simp) (by simp; omega)⟩
theorem Resent_same (k : Nat) (a0 a1 a2 : Int) (l : List S35) (n : Int) (hk : 9000 ≤ k) (hl : l.length ≤ 8796093022207 * 2) (hlk : l.length < k) : ∃ v, scoreboard_Resent.f k a0 a1 a2 l n = some v ∧ stopcockref17_Resent.f k a0 a1 a2 l n = some v ∧ stopcocklaw17_same.f k v.1 v.2.1 v.2.2.1 v.2.2.2.1 v.1 v.2.1 v.2.2.1 v.2.2.2.1 = some true := by
  unfold scoreboard_Resent.f stopcockref17_Resent.f api_Block.f stopcockref17_Own.f
  rcases chk_both k a0 a1 a2 l (by omega) (by omega) with ⟨h, g, hF⟩ | ⟨h, g⟩
  · rw [h, g]
    simp only [Option.bind_some, eq_self, if_true]
    by_cases c1 : (n - a2) % 4294967296 > (a1 - a2) % 4294967296
    · rw [if_pos c1, if_pos c1]
      exact ⟨_, rfl, rfl, self_same k _ _ _ _ (by simp) (by simp; omega)⟩
    rw [if_neg c1, if_neg c1, if_pos (by omega), if_pos (by simp; omega), Option.bind_some, Option.bind_some]
    exact ⟨_, rfl, rfl, self_same k _ _ _ _ (by dsimp only; omega) (by dsimp only; omega)⟩
  · rw [h, g, Option.bind_some, Option.bind_some, if_neg (by decide)]
    exact ⟨_, rfl, rfl, self_same k _ _ _ _ (by simp) (by simp; omega)⟩
theorem Timeout_same (k : Nat) (a0 a1 a2 : Int) (l : List S35) (hk : 9000 ≤ k) (hl : l.length ≤ 8796093022207 * 2) : ∃ v, scoreboard_Timeout.f k a0 a1 a2 l = some v ∧ stopcockref17_Timeout.f k a0 a1 a2 l = some v ∧ stopcocklaw17_same.f k v.1 v.2.1 v.2.2.1 v.2.2.2.1 v.1 v.2.1 v.2.2.1 v.2.2.2.1 = some true := by
  unfold scoreboard_Timeout.f stopcockref17_Timeout.f
  rcases chk_both k a0 a1 a2 l (by omega) (by omega) with ⟨h, g, hF⟩ | ⟨h, g⟩
  · rw [h, g]
    simp only [Option.bind_some, eq_self, if_true]
    exact ⟨_, rfl, rfl, self_same k _ _ _ _ (by simp) (by simp; omega)⟩
  · rw [h, g, Option.bind_some, Option.bind_some, if_neg (by decide)]
    exact ⟨_, rfl, rfl, self_same k _ _ _ _ (by simp) (by simp; omega)⟩
end Go.Proofs.Ytfaoeljggfdhmaa.Pure
