/- The scoreboard's functions as plain lists of numbers: what checking a state tells, where the spans lie. No program in sight but its own printed functions. No condition. -/
import Derived.Test.YtfaoeljggfdhmaaQ8
import Derived.Test.YtfaoeljggfdhmaaArith
namespace Go.Proofs.Ytfaoeljggfdhmaa.Pure
open Go.RowKit Go.Proofs.Ytfaoeljggfdhmaa.Q Go.Proofs.YtfaoeljggfdhmaaW.PrintWords Go.Proofs.YtfaoeljggfdhmaaW.PrintLast Go.Proofs.YtfaoeljggfdhmaaW.PrintMore Go.Proofs.YtfaoeljggfdhmaaW.Arith Go.Proofs.YtfaoeljggfdhmaaW.Opened

/-- The places of the blocks. -/
def spansOf (a0 : Int) (l : List S35) : List S75 := l.map fun b => ⟨(b.f0 - a0) % 4294967296, (b.f1 - a0) % 4294967296⟩
theorem spansOf_length (a0 : Int) (l : List S35) : (spansOf a0 l).length = l.length := by simp [spansOf]
theorem spans_go (a0 a1 a2 : Int) (l3 l : List S35) (hl : l.length ≤ 8796093022207) (d : Nat) : ∀ (k : Nat) (i : Int) (acc : List S75), 0 ≤ i → i ≤ l.length → (l.length : Int) - i = d → d < k → acc = spansOf a0 (l.take i.toNat) →
    scoreboard_State_spans.l0 k acc l (l.length : Int) i a0 a1 a2 l3 = some (spansOf a0 l) := by
  induction d with
  | zero =>
    intro k i acc h0 h1 hd hk ha
    obtain ⟨k, rfl⟩ : ∃ m, k = m + 1 := ⟨k - 1, by omega⟩
    simp only [scoreboard_State_spans.l0]
    rw [if_neg (by omega), ha, List.take_of_length_le (by omega)]
  | succ d ih =>
    intro k i acc h0 h1 hd hk ha
    obtain ⟨k, rfl⟩ : ∃ m, k = m + 1 := ⟨k - 1, by omega⟩
    have hi : i.toNat < l.length := by omega
    have hlen : acc.length = i.toNat := by rw [ha, spansOf_length, List.length_take]; omega
    simp only [scoreboard_State_spans.l0]
    rw [if_pos (by omega), if_pos h0, if_pos (by omega), if_pos (by omega), w64 (by omega) (by omega)]
    refine ih k (i + 1) _ (by omega) (by omega) (by omega) (by omega) ?_
    have e : rd_T35 l i = l[i.toNat] := by
      unfold rd_T35
      rw [List.getD_eq_getElem?_getD, List.getElem?_eq_getElem hi]
      rfl
    rw [show (i + 1).toNat = i.toNat + 1 by omega, List.take_succ_eq_append_getElem hi, ha, e]
    unfold spansOf
    rw [List.map_append]
    rfl
theorem spans_tells (k : Nat) (a0 a1 a2 : Int) (l : List S35) (hk : l.length < k) (hl : l.length ≤ 8796093022207) : scoreboard_State_spans.f k a0 a1 a2 l l = some (spansOf a0 l) := by
  unfold scoreboard_State_spans.f
  exact spans_go a0 a1 a2 l l hl l.length k 0 [] (by omega) (by omega) (by omega) hk (by simp [spansOf])
/-- Spans that rise, from behind e on, up to fl. -/
def Rise (fl : Int) : Int → List S75 → Prop
  | _, [] => True
  | e, x :: r => e < x.f0 ∧ x.f0 < x.f1 ∧ x.f1 ≤ fl ∧ Rise fl x.f1 r
theorem chk_go (a0 a1 a2 : Int) (l3 : List S35) (L : List S75) (hL : L.length ≤ 1024) (d : Nat) : ∀ (k : Nat) (i e : Int), 0 ≤ i → i ≤ L.length → (L.length : Int) - i = d → 2 * d < k →
    (scoreboard_Check.l0 k e L (L.length : Int) i a0 a1 a2 l3 = some 0 ∧ Rise ((a1 - a0) % 4294967296) e (L.drop i.toNat)) ∨ scoreboard_Check.l0 k e L (L.length : Int) i a0 a1 a2 l3 = some 171 := by
  induction d with
  | zero =>
    intro k i e h0 h1 hd hk
    obtain ⟨k, rfl⟩ : ∃ m, k = m + 1 := ⟨k - 1, by omega⟩
    simp only [scoreboard_Check.l0]
    rw [if_neg (by omega), List.drop_eq_nil_of_le (by omega)]
    exact .inl ⟨rfl, trivial⟩
  | succ d ih =>
    intro k i e h0 h1 hd hk
    obtain ⟨k, rfl⟩ : ∃ m, k = m + 1 + 1 := ⟨k - 2, by omega⟩
    have hi : i.toNat < L.length := by omega
    have er : rd_T75 L i = L[i.toNat] := by
      unfold rd_T75
      rw [List.getD_eq_getElem?_getD, List.getElem?_eq_getElem hi]
      rfl
    simp only [scoreboard_Check.l0]
    rw [if_pos (by omega), if_pos h0, if_pos (by omega), er, List.drop_eq_getElem_cons hi]
    by_cases c1 : L[i.toNat].f0 ≤ e
    · rw [if_pos c1]
      exact .inr (by simp only [scoreboard_Check.j2, if_true])
    rw [if_neg c1]
    by_cases c2 : L[i.toNat].f1 ≤ L[i.toNat].f0
    · rw [if_pos c2]
      exact .inr (by simp only [scoreboard_Check.j2, if_true])
    rw [if_neg c2]
    unfold scoreboard_State_flight.f
    rw [Option.bind_some]
    by_cases c3 : L[i.toNat].f1 > (a1 - a0) % 4294967296
    · rw [decide_eq_true c3]
      exact .inr (by simp only [scoreboard_Check.j2, if_true])
    rw [decide_eq_false c3]
    simp only [scoreboard_Check.j2, Bool.false_eq_true, if_false]
    rw [w64 (by omega) (by omega)]
    rcases ih k (i + 1) L[i.toNat].f1 (by omega) (by omega) (by omega) (by omega) with ⟨k1, k2⟩ | k1
    · refine .inl ⟨k1, by omega, by omega, by omega, ?_⟩
      rw [show i.toNat + 1 = (i + 1).toNat by omega]
      exact k2
    · exact .inr k1
/-- What a state that may be is. -/
structure Fit (a0 a1 a2 : Int) (l : List S35) : Prop where
  fl : (a1 - a0) % 4294967296 ≤ 1073741824
  hi : (a2 - a0) % 4294967296 ≤ (a1 - a0) % 4294967296
  len : l.length ≤ 1024
  rise : Rise ((a1 - a0) % 4294967296) 0 (spansOf a0 l)
theorem chk_tells (k : Nat) (a0 a1 a2 : Int) (l : List S35) (hk : 3000 ≤ k) (hl : l.length ≤ 8796093022207 * 2) :
    (scoreboard_Check.f k a0 a1 a2 l = some 0 ∧ Fit a0 a1 a2 l) ∨ scoreboard_Check.f k a0 a1 a2 l = some 171 := by
  obtain ⟨k, rfl⟩ : ∃ m, k = m + 1 := ⟨k - 1, by omega⟩
  unfold scoreboard_Check.f scoreboard_State_flight.f scoreboard_State_high.f
  simp only [Option.bind_some]
  by_cases c1 : (a1 - a0) % 4294967296 > 1073741824
  · rw [if_pos c1]
    exact .inr (by simp only [scoreboard_Check.j0, if_true])
  rw [if_neg c1]
  by_cases c2 : (a2 - a0) % 4294967296 > (a1 - a0) % 4294967296
  · rw [if_pos c2]
    exact .inr (by simp only [scoreboard_Check.j0, if_true])
  rw [if_neg c2]
  by_cases c3 : (l.length : Int) > 1024
  · rw [decide_eq_true c3]
    exact .inr (by simp only [scoreboard_Check.j0, if_true])
  rw [decide_eq_false c3]
  simp only [scoreboard_Check.j0, Bool.false_eq_true, if_false]
  rw [spans_tells k a0 a1 a2 l (by omega) (by omega), Option.bind_some]
  have hs := spansOf_length a0 l
  rcases chk_go a0 a1 a2 l (spansOf a0 l) (by omega) (spansOf a0 l).length k 0 0 (by omega) (by omega) (by omega) (by omega) with ⟨k1, k2⟩ | k1
  · exact .inl ⟨k1, by omega, by omega, by omega, by simpa using k2⟩
  · exact .inr k1
theorem ask_tells (k : Nat) (a0 a1 a2 : Int) (l : List S35) (mss : Int) (hk : 3000 ≤ k) (hl : l.length ≤ 8796093022207 * 2) :
    (scoreboard_asked.f k a0 a1 a2 l mss = some 0 ∧ Fit a0 a1 a2 l ∧ 1 ≤ mss ∧ mss ≤ 65535) ∨ (∃ e, scoreboard_asked.f k a0 a1 a2 l mss = some e ∧ e ≠ 0) := by
  unfold scoreboard_asked.f
  rcases chk_tells k a0 a1 a2 l hk hl with ⟨h, hF⟩ | h
  · rw [h, Option.bind_some, if_pos rfl]
    by_cases c1 : mss < 1
    · exact .inr ⟨4, if_pos c1, by decide⟩
    rw [if_neg c1]
    by_cases c2 : mss > 65535
    · exact .inr ⟨4, if_pos c2, by decide⟩
    · exact .inl ⟨if_neg c2, hF, by omega, by omega⟩
  · rw [h, Option.bind_some, if_neg (by decide)]
    exact .inr ⟨171, rfl, by decide⟩
/-- Of a place: how many spans lie behind it, and how many octets. -/
def behind (p : Int) : List S75 → Int
  | [] => 0
  | x :: r => (if p < x.f0 then 1 else 0) + behind p r
def octs (p : Int) : List S75 → Int
  | [] => 0
  | x :: r => (if p < x.f0 then x.f1 - x.f0 else 0) + octs p r
theorem behind_range (p : Int) : ∀ l : List S75, 0 ≤ behind p l ∧ behind p l ≤ l.length
  | [] => by simp [behind]
  | x :: r => by
    have := behind_range p r
    simp only [behind, List.length_cons]
    split <;> omega
def Small (l : List S75) : Prop := ∀ x ∈ l, 0 ≤ x.f0 ∧ x.f0 ≤ 4294967295 ∧ 0 ≤ x.f1 ∧ x.f1 ≤ 4294967295
theorem octs_range (p : Int) : ∀ l : List S75, Small l → -(l.length * 4294967296 : Int) ≤ octs p l ∧ octs p l ≤ l.length * 4294967296
  | [], _ => by simp [octs]
  | x :: r, h => by
    have := octs_range p r (fun y hy => h y (by simp [hy]))
    have hx := h x (by simp)
    simp only [octs, List.length_cons]
    split <;> omega
def lostB (mss p : Int) (l : List S75) : Bool := decide (3 ≤ behind p l ∨ octs p l > 2 * mss)
theorem dec_more (mss p n o : Int) (x : S75) (r : List S75) (c : x.f0 > p) : decide (3 ≤ n + behind p (x :: r) ∨ o + octs p (x :: r) > 2 * mss) = decide (3 ≤ n + 1 + behind p r ∨ o + (x.f1 - x.f0) + octs p r > 2 * mss) := by
  apply decide_eq_decide.2
  simp only [behind, octs]
  rw [if_pos (by omega), if_pos (by omega)]
  omega
theorem dec_less (mss p n o : Int) (x : S75) (r : List S75) (c : ¬ x.f0 > p) : decide (3 ≤ n + behind p (x :: r) ∨ o + octs p (x :: r) > 2 * mss) = decide (3 ≤ n + behind p r ∨ o + octs p r > 2 * mss) := by
  apply decide_eq_decide.2
  simp only [behind, octs]
  rw [if_neg (by omega), if_neg (by omega)]
  omega
theorem lost_go (mss p : Int) (hm : 1 ≤ mss ∧ mss ≤ 65535) (L : List S75) (hS : Small L) (hL : L.length ≤ 1024) (d : Nat) : ∀ (k : Nat) (i n o : Int), 0 ≤ i → i ≤ L.length → (L.length : Int) - i = d → d < k → 0 ≤ n → n ≤ i → -(i * 4294967296) ≤ o → o ≤ i * 4294967296 →
    scoreboard_State_lost.l0 k mss p n o L (L.length : Int) i = some (decide (3 ≤ n + behind p (L.drop i.toNat) ∨ o + octs p (L.drop i.toNat) > 2 * mss)) := by
  induction d with
  | zero =>
    intro k i n o h0 h1 hd hk n0 n1 o0 o1
    obtain ⟨k, rfl⟩ : ∃ m, k = m + 1 := ⟨k - 1, by omega⟩
    simp only [scoreboard_State_lost.l0]
    rw [if_neg (by omega), List.drop_eq_nil_of_le (by omega)]
    simp only [behind, octs, Int.add_zero]
    by_cases c : n ≥ 3
    · rw [if_pos c, decide_eq_true (Or.inl c)]
    · rw [if_neg c, w64 (by omega) (by omega)]
      congr 1
      apply decide_eq_decide.2
      constructor
      · exact fun h => .inr h
      · rintro (h | h)
        · exact absurd h c
        · exact h
  | succ d ih =>
    intro k i n o h0 h1 hd hk n0 n1 o0 o1
    obtain ⟨k, rfl⟩ : ∃ m, k = m + 1 := ⟨k - 1, by omega⟩
    have hi : i.toNat < L.length := by omega
    have er : rd_T75 L i = L[i.toNat] := by
      unfold rd_T75
      rw [List.getD_eq_getElem?_getD, List.getElem?_eq_getElem hi]
      rfl
    have hx := hS _ (List.getElem_mem hi)
    simp only [scoreboard_State_lost.l0]
    rw [if_pos (by omega), if_pos h0, if_pos (by omega), er, List.drop_eq_getElem_cons hi]
    generalize L[i.toNat] = x at hx ⊢
    rw [show i.toNat + 1 = (i + 1).toNat by omega]
    unfold scoreboard_span_size.f
    rw [Option.bind_some, w64 (x := x.f1 - x.f0) (by omega) (by omega), w64 (x := n + 1) (by omega) (by omega), w64 (x := o + (x.f1 - x.f0)) (by omega) (by omega), w64 (x := i + 1) (by omega) (by omega)]
    by_cases c : x.f0 > p
    · rw [if_pos c, dec_more mss p n o x _ c, ih k (i + 1) (n + 1) (o + (x.f1 - x.f0)) (by omega) (by omega) (by omega) (by omega) (by omega) (by omega) (by omega) (by omega)]
    · rw [if_neg c, dec_less mss p n o x _ c, ih k (i + 1) n o (by omega) (by omega) (by omega) (by omega) (by omega) (by omega) (by omega) (by omega)]
theorem spansOf_small (a0 : Int) (l : List S35) : Small (spansOf a0 l) := by
  intro x hx
  unfold spansOf at hx
  obtain ⟨b, _, rfl⟩ := List.mem_map.1 hx
  refine ⟨?_, ?_, ?_, ?_⟩ <;> (dsimp only; omega)
theorem lost_tells (k : Nat) (a0 a1 a2 : Int) (l : List S35) (mss p : Int) (hm : 1 ≤ mss ∧ mss ≤ 65535) (hl : l.length ≤ 1024) (hk : 1100 ≤ k) : scoreboard_State_lost.f k a0 a1 a2 l mss p = some (lostB mss p (spansOf a0 l)) := by
  unfold scoreboard_State_lost.f
  have hs := spansOf_length a0 l
  rw [spans_tells k a0 a1 a2 l (by omega) (by omega), Option.bind_some, lost_go mss p hm (spansOf a0 l) (spansOf_small a0 l) (by omega) (spansOf a0 l).length k 0 0 0 (by omega) (by omega) (by omega) (by omega) (by omega) (by omega) (by omega) (by omega)]
  simp [lostB]
theorem own_tells (a0 a1 a2 : Int) (l : List S35) (hl : l.length ≤ 17592186044415) : stopcocklaw17_given.f a0 a1 a2 l = some (a0, a1, a2, l) := by
  unfold stopcocklaw17_given.f stopcockref17_Own.f
  rw [if_pos (by simp; omega)]
  rfl
theorem alive_tells (k : Nat) (hk : 40 ≤ k) : stopcocklaw17_alive.f k = some true :=
  at_rounds (g := stopcocklaw17_alive.f) (fun k => stopcocklaw17_alive.mono k) hk (by decide +kernel)
end Go.Proofs.Ytfaoeljggfdhmaa.Pure
