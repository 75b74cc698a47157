/- The plain law of ScoreboardNext: it names the first place that may be sent again, and as much of the hole as fits. Numbers and lists alone. No condition. -/
import Derived.Test.YtfaoeljggfdhmaaSb
import Derived.Test.YtfaoeljggfdhmaaQ11
namespace Go.Proofs.Ytfaoeljggfdhmaa.Pure
open Go.RowKit Go.Proofs.Ytfaoeljggfdhmaa.Q Go.Proofs.YtfaoeljggfdhmaaW.PrintWords Go.Proofs.YtfaoeljggfdhmaaW.PrintLast Go.Proofs.YtfaoeljggfdhmaaW.PrintMore Go.Proofs.YtfaoeljggfdhmaaW.Arith Go.Proofs.YtfaoeljggfdhmaaW.Opened

/-- Is the place in a span; does a span meet [f, t)? -/
def inB (p : Int) : List S75 → Bool
  | [] => false
  | x :: r => if x.f0 ≤ p ∧ p < x.f1 then true else inB p r
def hitB (f t : Int) : List S75 → Bool
  | [] => false
  | x :: r => if f < x.f1 ∧ x.f0 < t then true else hitB f t r
theorem hit_one (p : Int) : ∀ L : List S75, hitB p (p + 1) L = inB p L
  | [] => rfl
  | x :: r => by
    simp only [hitB, inB]
    rw [hit_one p r]
    by_cases c : x.f0 ≤ p ∧ p < x.f1
    · rw [if_pos c, if_pos (by omega)]
    · rw [if_neg c, if_neg (by omega)]
theorem idx_in (p : Int) : ∀ (L : List S75) (j : Int), 0 ≤ j → (0 ≤ idxOf p L j ↔ inB p L = true)
  | [], j, _ => by simp [idxOf, inB]
  | x :: r, j, hj => by
    simp only [idxOf, inB]
    by_cases c : x.f0 ≤ p ∧ p < x.f1
    · have e : inSp p x = true := decide_eq_true c
      rw [if_pos e, if_pos c]
      simp [hj]
    · have e : ¬ inSp p x = true := by
        intro h
        exact c (of_decide_eq_true h)
      rw [if_neg e, if_neg c]
      exact idx_in p r (j + 1) (by omega)
theorem inside_go (a0 a1 a2 f t : Int) (l : List S35) (hl : l.length ≤ 1024) (d : Nat) : ∀ (k : Nat) (i : Int), 0 ≤ i → i ≤ l.length → (l.length : Int) - i = d → d < k →
    stopcocklaw17_inside.l0 k i a0 a1 a2 l f t = some (hitB ((f - a0) % 4294967296) ((t - a0) % 4294967296) ((spansOf a0 l).drop i.toNat)) := by
  induction d with
  | zero =>
    intro k i h0 h1 hd hk
    obtain ⟨k, rfl⟩ : ∃ m, k = m + 1 := ⟨k - 1, by omega⟩
    simp only [stopcocklaw17_inside.l0]
    rw [if_neg (by omega), List.drop_eq_nil_of_le (by rw [spansOf_length]; omega)]
    rfl
  | succ d ih =>
    intro k i h0 h1 hd hk
    obtain ⟨k, rfl⟩ : ∃ m, k = m + 1 := ⟨k - 1, by omega⟩
    have hi : i.toNat < l.length := by omega
    have er : rd_T35 l i = l[i.toNat] := by
      unfold rd_T35
      rw [List.getD_eq_getElem?_getD, List.getElem?_eq_getElem hi]
      rfl
    simp only [stopcocklaw17_inside.l0]
    rw [if_pos (by omega), if_pos h0, er, w64 (by omega) (by omega), List.drop_eq_getElem_cons (by rw [spansOf_length]; exact hi)]
    have e2 : (spansOf a0 l)[i.toNat]'(by rw [spansOf_length]; exact hi) = ⟨(l[i.toNat].f0 - a0) % 4294967296, (l[i.toNat].f1 - a0) % 4294967296⟩ := by
      unfold spansOf
      rw [List.getElem_map]
    rw [e2]
    simp only [hitB]
    rw [ih k (i + 1) (by omega) (by omega) (by omega) (by omega), show (i + 1).toNat = i.toNat + 1 by omega]
    by_cases c1 : (f - a0) % 4294967296 < (l[i.toNat].f1 - a0) % 4294967296
    · rw [if_pos c1]
      by_cases c2 : (l[i.toNat].f0 - a0) % 4294967296 < (t - a0) % 4294967296
      · rw [if_pos c2, if_pos ⟨c1, c2⟩]
      · rw [if_neg c2, if_neg (fun h => c2 h.2)]
    · rw [if_neg c1, if_neg (fun h => c1 h.1)]
theorem inside_tells (k : Nat) (a0 a1 a2 f t : Int) (l : List S35) (hl : l.length ≤ 1024) (hk : 1100 ≤ k) : stopcocklaw17_inside.f k a0 a1 a2 l f t = some (hitB ((f - a0) % 4294967296) ((t - a0) % 4294967296) (spansOf a0 l)) := by
  unfold stopcocklaw17_inside.f
  exact inside_go a0 a1 a2 f t l hl l.length k 0 (by omega) (by omega) (by omega) (by omega)
/-- May the place be sent again? -/
def sB (mss : Int) (resc : Bool) (L : List S75) (p : Int) : Bool := !inB p L && (resc || lostB mss p L)
/-- Spans that begin behind p. -/
theorem in_none (p : Int) : ∀ L : List S75, (∀ y ∈ L, p < y.f0) → inB p L = false
  | [], _ => rfl
  | x :: r, h => by
    have := h x (by simp)
    simp only [inB]
    rw [if_neg (by omega)]
    exact in_none p r (fun y hy => h y (by simp [hy]))
theorem hit_none (f t : Int) : ∀ L : List S75, (∀ y ∈ L, t ≤ y.f0) → hitB f t L = false
  | [], _ => rfl
  | x :: r, h => by
    have := h x (by simp)
    simp only [hitB]
    rw [if_neg (by omega)]
    exact hit_none f t r (fun y hy => h y (by simp [hy]))
theorem behind_all (p q : Int) : ∀ L : List S75, (∀ y ∈ L, p < y.f0) → (∀ y ∈ L, q < y.f0) → behind p L = behind q L ∧ octs p L = octs q L
  | [], _, _ => ⟨rfl, rfl⟩
  | x :: r, hp, hq => by
    have h1 := hp x (by simp)
    have h2 := hq x (by simp)
    have ⟨i1, i2⟩ := behind_all p q r (fun y hy => hp y (by simp [hy])) (fun y hy => hq y (by simp [hy]))
    simp only [behind, octs]
    rw [if_pos h1, if_pos h2, if_pos h1, if_pos h2, i1, i2]
    exact ⟨rfl, rfl⟩
theorem lost_all (mss p q : Int) (L : List S75) (hp : ∀ y ∈ L, p < y.f0) (hq : ∀ y ∈ L, q < y.f0) : lostB mss p L = lostB mss q L := by
  have ⟨h1, h2⟩ := behind_all p q L hp hq
  unfold lostB
  apply decide_eq_decide.2
  rw [h1, h2]
theorem rise_far (fl : Int) : ∀ (L : List S75) (e : Int), Rise fl e L → ∀ y ∈ L, e < y.f0
  | [], _, _, y, hy => by simp at hy
  | x :: r, e, h, y, hy => by
    obtain ⟨h1, h2, h3, h4⟩ := h
    rcases List.mem_cons.1 hy with rfl | hy
    · exact h1
    · have := rise_far fl r x.f1 h4 y hy
      omega
theorem lost_past (mss p : Int) (x : S75) (r : List S75) (h : x.f0 ≤ p) : lostB mss p (x :: r) = lostB mss p r := by
  have e1 : behind p (x :: r) = behind p r := by
    simp only [behind]
    rw [if_neg (by omega), Int.zero_add]
  have e2 : octs p (x :: r) = octs p r := by
    simp only [octs]
    rw [if_neg (by omega), Int.zero_add]
  unfold lostB
  apply decide_eq_decide.2
  rw [e1, e2]
theorem in_past (p : Int) (x : S75) (r : List S75) (h : x.f1 ≤ p) : inB p (x :: r) = inB p r := by
  simp only [inB]
  rw [if_neg (by omega)]
theorem hit_past (f t : Int) (x : S75) (r : List S75) (h : x.f1 ≤ f) : hitB f t (x :: r) = hitB f t r := by
  simp only [hitB]
  rw [if_neg (by omega)]
theorem in_at (p : Int) (x : S75) (r : List S75) (h : x.f0 ≤ p) (h' : p < x.f1) : inB p (x :: r) = true := by
  simp only [inB]
  rw [if_pos ⟨h, h'⟩]
def LastOk (last : Int) : Int → List S75 → Prop
  | at_, [] => last ≤ at_
  | _, x :: r => x.f0 ≤ last ∧ LastOk last x.f1 r
theorem last_ok (fl : Int) : ∀ (L : List S75) (x : S75) (e e' : Int), Rise fl e (x :: L) → LastOk ((x :: L).getLast (by simp)).f0 e' (x :: L)
  | [], x, e, e', h => by
    obtain ⟨h1, h2, h3, h4⟩ := h
    exact ⟨Int.le_refl _, Int.le_of_lt h2⟩
  | y :: r, x, e, e', h => by
    obtain ⟨h1, h2, h3, h4⟩ := h
    have i := last_ok fl r y x.f1 x.f1 h4
    have e1 : ((x :: y :: r).getLast (by simp)).f0 = ((y :: r).getLast (by simp)).f0 := by rw [List.getLast_cons (by simp)]
    rw [e1]
    refine ⟨?_, i⟩
    have h5 := i.1
    have h6 := h4.1
    omega
theorem hit_tells (k : Nat) (hk : 1100 ≤ k) (a0 a1 a2 : Int) (l : List S35) (mss f t : Int) (hm : 1 ≤ mss ∧ mss ≤ 65535) (h0 : 0 ≤ f) (h1 : f ≤ 1073741824) :
    nextHit k a0 a1 a2 l mss f t = some ((a0 + f) % 4294967296, (a0 + mn (f + mss) t) % 4294967296, true, 0) := by
  unfold nextHit
  rw [w64 (by omega) (by omega)]
  obtain ⟨k, rfl⟩ : ∃ m, k = m + 1 + 1 := ⟨k - 2, by omega⟩
  have e : scoreboard_State_blocks.f (k + 1 + 1) a0 a1 a2 l [⟨f, mn (f + mss) t⟩] = some [(⟨(a0 + f) % 4294967296, (a0 + mn (f + mss) t) % 4294967296⟩ : S35)] := by
    unfold scoreboard_State_blocks.f
    rw [scoreboard_State_blocks.l0, if_pos (by simp), if_pos (by omega), if_pos (by simp), if_pos (by simp), w64 (by omega) (by omega), scoreboard_State_blocks.l0, if_neg (by simp)]
    rfl
  rw [e, Option.bind_some, if_pos (by simp)]
  rfl
/-- What Next answers. -/
inductive Tells (a0 hi fl mss last : Int) (resc : Bool) (L : List S75) (at_ : Int) (r : Option (Int × Int × Bool × Int)) : Prop
  | none (h : r = some (0, 0, false, 0)) (g : ∀ p, at_ ≤ p → hi ≤ p → p < last → sB mss resc L p = false)
  | hit (f t : Int) (h : r = some ((a0 + f) % 4294967296, (a0 + t) % 4294967296, true, 0)) (h0 : at_ ≤ f) (h1 : hi ≤ f) (h2 : f < last) (h3 : sB mss resc L f = true) (g : ∀ p, at_ ≤ p → hi ≤ p → p < f → sB mss resc L p = false) (h4 : f < t) (h5 : t ≤ f + mss) (h5' : t ≤ fl) (h6 : hitB f t L = false) (h7 : t = f + mss ∨ t = fl ∨ inB t L = true)
theorem go_tells (k : Nat) (hk : 1100 ≤ k) (a0 a1 a2 : Int) (l : List S35) (mss : Int) (resc : Bool) (hm : 1 ≤ mss ∧ mss ≤ 65535) (hl : l.length ≤ 1024) (fl last : Int) (hfl : fl ≤ 1073741824) (hhi : (a2 - a0) % 4294967296 ≤ fl) :
    ∀ (suf : List S75) (at_ : Int), Rise fl at_ suf → LastOk last at_ suf → 0 ≤ at_ → at_ ≤ fl → (∀ p, at_ ≤ p → inB p (spansOf a0 l) = inB p suf) → (∀ p, at_ ≤ p → lostB mss p (spansOf a0 l) = lostB mss p suf) → (∀ f t, at_ ≤ f → hitB f t (spansOf a0 l) = hitB f t suf) →
      Tells a0 ((a2 - a0) % 4294967296) fl mss last resc (spansOf a0 l) at_ (nextGo k a0 a1 a2 l mss resc last (holesOf at_ (suf ++ [⟨fl, fl⟩])))
  | [], at_, _, hlast, h0, h1, hI, hB, hH => by
    have hlast : last ≤ at_ := hlast
    simp only [List.nil_append, holesOf]
    refine .none ?_ (fun p p0 p1 p2 => by omega)
    by_cases c : at_ < fl
    · rw [if_pos c]
      simp only [nextGo]
      have : mx at_ ((a2 - a0) % 4294967296) ≥ last := by unfold mx; split <;> omega
      rw [if_pos this]
      split <;> rfl
    · rw [if_neg c]
      rfl
  | x :: r, at_, hR, hlast, h0, h1, hI, hB, hH => by
    have hR' := hR
    obtain ⟨c, k1, k2, hR⟩ := hR
    obtain ⟨l1, hlast⟩ := hlast
    have far := rise_far fl (x :: r) at_ hR'
    have far2 : ∀ y ∈ x :: r, x.f0 ≤ y.f0 := by
      intro y hy
      rcases List.mem_cons.1 hy with rfl | hy
      · exact Int.le_refl _
      · have := rise_far fl r x.f1 hR y hy
        omega
    have ih := go_tells k hk a0 a1 a2 l mss resc hm hl fl last hfl hhi r x.f1 hR hlast (by omega) k2 (fun p hp => (hI p (by omega)).trans (in_past p x r hp)) (fun p hp => (hB p (by omega)).trans (lost_past mss p x r (by omega))) (fun f t hf => (hH f t (by omega)).trans (hit_past f t x r hf))
    have hin : ∀ p, at_ ≤ p → x.f0 ≤ p → p < x.f1 → sB mss resc (spansOf a0 l) p = false := by
      intro p p0 p1 p2
      unfold sB
      rw [hI p p0, in_at p x r p1 p2]
      rfl
    -- the places of this hole don't stand: the rest tells
    have skip : (∀ p, at_ ≤ p → (a2 - a0) % 4294967296 ≤ p → p < x.f0 → sB mss resc (spansOf a0 l) p = false) → Tells a0 ((a2 - a0) % 4294967296) fl mss last resc (spansOf a0 l) at_ (nextGo k a0 a1 a2 l mss resc last (holesOf x.f1 (r ++ [⟨fl, fl⟩]))) := by
      intro hs
      have all : ∀ p, at_ ≤ p → (a2 - a0) % 4294967296 ≤ p → p < x.f1 → sB mss resc (spansOf a0 l) p = false := by
        intro p p0 p1 p2
        by_cases cc : p < x.f0
        · exact hs p p0 p1 cc
        · exact hin p p0 (by omega) p2
      rcases ih with ⟨i1, g⟩ | ⟨f, t, i1, i2, i3, i4, i5, g, i6, i7, i7', i8, i9⟩
      · refine .none i1 (fun p p0 p1 p2 => ?_)
        by_cases cc : p < x.f1
        · exact all p p0 p1 cc
        · exact g p (by omega) p1 p2
      · refine .hit f t i1 (by omega) i3 i4 i5 (fun p p0 p1 p2 => ?_) i6 i7 i7' i8 i9
        by_cases cc : p < x.f1
        · exact all p p0 p1 cc
        · exact g p (by omega) p1 p2
    -- this hole stands
    have take : ∀ f, f = mx at_ ((a2 - a0) % 4294967296) → f < x.f0 → (resc || lostB mss f (spansOf a0 l)) = true → Tells a0 ((a2 - a0) % 4294967296) fl mss last resc (spansOf a0 l) at_ (nextHit k a0 a1 a2 l mss f x.f0) := by
      intro f hf hfx hb
      have hf0 : at_ ≤ f ∧ (a2 - a0) % 4294967296 ≤ f ∧ (f = at_ ∨ f = (a2 - a0) % 4294967296) := by rw [hf]; unfold mx; split <;> omega
      have hn : inB f (spansOf a0 l) = false := by
        rw [hI f hf0.1]
        exact in_none f _ (fun y hy => by have := far2 y hy; omega)
      have hmn : f < mn (f + mss) x.f0 ∧ mn (f + mss) x.f0 ≤ f + mss ∧ mn (f + mss) x.f0 ≤ x.f0 ∧ (mn (f + mss) x.f0 = f + mss ∨ mn (f + mss) x.f0 = x.f0) := by unfold mn; split <;> omega
      refine .hit f (mn (f + mss) x.f0) (hit_tells k hk a0 a1 a2 l mss f x.f0 hm (by omega) (by omega)) hf0.1 hf0.2.1 (by omega) ?_ (fun p p0 p1 p2 => by omega) hmn.1 hmn.2.1 (by omega) ?_ ?_
      · unfold sB
        rw [hn, hb]
        rfl
      · rw [hH _ _ hf0.1]
        exact hit_none _ _ _ (fun y hy => by have := far2 y hy; omega)
      · rcases hmn.2.2.2 with h | h
        · exact .inl h
        · refine .inr (.inr ?_)
          rw [h, hI x.f0 (by omega)]
          exact in_at x.f0 x r (Int.le_refl _) k1
    simp only [List.cons_append, holesOf]
    rw [if_pos c]
    simp only [nextGo]
    by_cases c1 : mx at_ ((a2 - a0) % 4294967296) ≥ x.f0
    · rw [if_pos c1]
      refine skip (fun p p0 p1 p2 => ?_)
      have : mx at_ ((a2 - a0) % 4294967296) ≤ p := by unfold mx; split <;> omega
      omega
    rw [if_neg c1, if_neg (by omega)]
    by_cases c2 : resc = true
    · rw [if_pos c2]
      exact take _ rfl (by omega) (by rw [c2]; rfl)
    rw [if_neg c2, lost_tells k a0 a1 a2 l mss _ hm hl hk, Option.bind_some]
    by_cases c3 : lostB mss (mx at_ ((a2 - a0) % 4294967296)) (spansOf a0 l) = true
    · rw [if_pos c3]
      exact take _ rfl (by omega) (by rw [c3]; simp)
    · rw [if_neg c3]
      have hmx : at_ ≤ mx at_ ((a2 - a0) % 4294967296) := by unfold mx; split <;> omega
      refine skip (fun p p0 p1 p2 => ?_)
      unfold sB
      rw [hB p p0, lost_all mss p (mx at_ ((a2 - a0) % 4294967296)) (x :: r) (fun y hy => by have := far2 y hy; omega) (fun y hy => by have := far2 y hy; omega), ← hB _ hmx, Bool.eq_false_iff.2 c3, Bool.eq_false_iff.2 c2]
      simp
theorem Lost_tells (k : Nat) (hk : 1100 ≤ k) (a0 a1 a2 : Int) (l : List S35) (mss p : Int) (hm : 1 ≤ mss ∧ mss ≤ 65535) (hl : l.length ≤ 1024) (hask : scoreboard_asked.f k a0 a1 a2 l mss = some 0) (p0 : 0 ≤ p) (p1 : p < (a1 - a0) % 4294967296) :
    scoreboard_Lost.f k a0 a1 a2 l mss ((a0 + p) % 4294967296) = some (!inB p (spansOf a0 l) && lostB mss p (spansOf a0 l), 0) := by
  unfold scoreboard_Lost.f
  have e : ((a0 + p) % 4294967296 - a0) % 4294967296 = p := by omega
  rw [hask, Option.bind_some, if_pos rfl, e, if_neg (by omega), spans_tells k a0 a1 a2 l (by omega) (by omega), Option.bind_some, lost_tells k a0 a1 a2 l mss p hm hl hk, Option.bind_some]
  have hi := idx_in p (spansOf a0 l) 0 (by omega)
  by_cases c : inB p (spansOf a0 l) = true
  · rw [if_pos (hi.2 c), c]
    rfl
  · rw [if_neg (fun h => c (hi.1 h)), Bool.eq_false_iff.2 c]
    rfl
/-- One place of the law's own walk. -/
theorem step_tells (k : Nat) (hk : 1100 ≤ k) (a0 a1 a2 : Int) (l : List S35) (mss : Int) (resc ok : Bool) (last p b0 b1 : Int) (hm : 1 ≤ mss ∧ mss ≤ 65535) (hl : l.length ≤ 1024) (hask : scoreboard_asked.f (k + 1) a0 a1 a2 l mss = some 0) (hfl : (a1 - a0) % 4294967296 ≤ 3000) (hlast : last ≤ (a1 - a0) % 4294967296) (p0 : 0 ≤ p) (p1 : p < last) :
    stopcocklaw17_ScoreboardNext.l0 (k + 2) mss resc ok last p a0 a1 a2 l a0 a1 a2 l b0 b1 = stopcocklaw17_ScoreboardNext.j3 (k + 1) mss resc ok last p (!sB mss resc (spansOf a0 l) p) a0 a1 a2 l a0 a1 a2 l b0 b1 ((a0 + p) % 4294967296) ((a0 + (p + 1)) % 4294967296) := by
  have e : ((a0 + p) % 4294967296 - a0) % 4294967296 = p := by omega
  have e1 : ((a0 + (p + 1)) % 4294967296 - a0) % 4294967296 = p + 1 := by omega
  rw [stopcocklaw17_ScoreboardNext.l0]
  rw [if_pos p1, Lost_tells (k + 1) (by omega) a0 a1 a2 l mss p hm hl hask p0 (by omega), Option.bind_some]
  simp only [stopcocklaw17_num.f, Option.bind_some, if_true]
  rw [w64 (x := p + 1) (by omega) (by omega), inside_tells (k + 1) a0 a1 a2 _ _ l hl (by omega), e, e1, hit_one, Option.bind_some]
  unfold sB
  cases inB p (spansOf a0 l) <;> cases resc <;> cases lostB mss p (spansOf a0 l) <;> rfl
theorem step_no (k : Nat) (hk : 1100 ≤ k) (a0 a1 a2 : Int) (l : List S35) (mss : Int) (resc ok : Bool) (last p b0 b1 : Int) (hm : 1 ≤ mss ∧ mss ≤ 65535) (hl : l.length ≤ 1024) (hask : scoreboard_asked.f (k + 1) a0 a1 a2 l mss = some 0) (hfl : (a1 - a0) % 4294967296 ≤ 3000) (hlast : last ≤ (a1 - a0) % 4294967296) (p0 : 0 ≤ p) (p1 : p < last) (hs : sB mss resc (spansOf a0 l) p = false) :
    stopcocklaw17_ScoreboardNext.l0 (k + 2) mss resc ok last p a0 a1 a2 l a0 a1 a2 l b0 b1 = stopcocklaw17_ScoreboardNext.l0 k mss resc ok last (p + 1) a0 a1 a2 l a0 a1 a2 l b0 b1 := by
  rw [step_tells k hk a0 a1 a2 l mss resc ok last p b0 b1 hm hl hask hfl hlast p0 p1, hs, stopcocklaw17_ScoreboardNext.j3, if_pos (show (!false) = true from rfl), w64 (x := p + 1) (by omega) (by omega)]
theorem loop_none (a0 a1 a2 : Int) (l : List S35) (mss : Int) (resc : Bool) (last : Int) (hm : 1 ≤ mss ∧ mss ≤ 65535) (hl : l.length ≤ 1024) (hask : ∀ k, 1100 ≤ k → scoreboard_asked.f k a0 a1 a2 l mss = some 0) (hfl : (a1 - a0) % 4294967296 ≤ 3000) (hlast : last ≤ (a1 - a0) % 4294967296) (d : Nat) :
    ∀ (k : Nat) (p : Int), 0 ≤ p → last - p ≤ d → 2 * d + 1200 ≤ k → (∀ q, p ≤ q → q < last → sB mss resc (spansOf a0 l) q = false) → stopcocklaw17_ScoreboardNext.l0 k mss resc false last p a0 a1 a2 l a0 a1 a2 l 0 0 = some true := by
  induction d with
  | zero =>
    intro k p p0 hd hk hs
    obtain ⟨k, rfl⟩ : ∃ m, k = m + 1 := ⟨k - 1, by omega⟩
    rw [stopcocklaw17_ScoreboardNext.l0, if_neg (by omega)]
    rfl
  | succ d ih =>
    intro k p p0 hd hk hs
    by_cases c : p < last
    · obtain ⟨k, rfl⟩ : ∃ m, k = m + 2 := ⟨k - 2, by omega⟩
      rw [step_no k (by omega) a0 a1 a2 l mss resc false last p 0 0 hm hl (hask _ (by omega)) hfl hlast p0 c (hs p (Int.le_refl _) c)]
      exact ih k (p + 1) (by omega) (by omega) (by omega) (fun q h1 h2 => hs q (by omega) h2)
    · obtain ⟨k, rfl⟩ : ∃ m, k = m + 1 := ⟨k - 1, by omega⟩
      rw [stopcocklaw17_ScoreboardNext.l0, if_neg c]
      rfl
theorem loop_hit (a0 a1 a2 : Int) (l : List S35) (mss : Int) (resc : Bool) (last f t : Int) (w1 : 0 ≤ a1 ∧ a1 ≤ 4294967295) (hm : 1 ≤ mss ∧ mss ≤ 65535) (hl : l.length ≤ 1024) (hask : ∀ k, 1100 ≤ k → scoreboard_asked.f k a0 a1 a2 l mss = some 0) (hfl : (a1 - a0) % 4294967296 ≤ 3000) (hlast : last ≤ (a1 - a0) % 4294967296) (hf : f < last) (hs : sB mss resc (spansOf a0 l) f = true) (h4 : f < t) (h5 : t ≤ f + mss) (h5' : t ≤ (a1 - a0) % 4294967296) (h6 : hitB f t (spansOf a0 l) = false) (h7 : t = f + mss ∨ t = (a1 - a0) % 4294967296 ∨ inB t (spansOf a0 l) = true) (d : Nat) :
    ∀ (k : Nat) (p : Int), 0 ≤ p → p ≤ f → f - p = d → 2 * d + 1200 ≤ k → (∀ q, p ≤ q → q < f → sB mss resc (spansOf a0 l) q = false) → stopcocklaw17_ScoreboardNext.l0 k mss resc true last p a0 a1 a2 l a0 a1 a2 l ((a0 + f) % 4294967296) ((a0 + t) % 4294967296) = some true := by
  induction d with
  | zero =>
    intro k p p0 pf hd hk hq
    obtain rfl : f = p := by omega
    obtain ⟨k, rfl⟩ : ∃ m, k = m + 2 := ⟨k - 2, by omega⟩
    have ef : ((a0 + f) % 4294967296 - a0) % 4294967296 = f := by omega
    have et : ((a0 + t) % 4294967296 - a0) % 4294967296 = t := by omega
    have et1 : (((a0 + t) % 4294967296 + 1) % 4294967296 - a0) % 4294967296 = t + 1 := by omega
    have es : ((a0 + t) % 4294967296 - (a0 + f) % 4294967296) % 4294967296 = t - f := by omega
    rw [step_tells k (by omega) a0 a1 a2 l mss resc true last f _ _ hm hl (hask _ (by omega)) hfl hlast p0 hf, hs, stopcocklaw17_ScoreboardNext.j3, if_neg (by decide), if_pos rfl, if_pos rfl, es, if_neg (by omega), if_neg (by omega), inside_tells k a0 a1 a2 _ _ l hl (by omega), ef, et, h6, Option.bind_some, if_neg (by decide)]
    by_cases c1 : t - f = mss
    · rw [if_pos c1]
    rw [if_neg c1]
    by_cases c2 : (a0 + t) % 4294967296 = a1
    · rw [if_pos c2]
    rw [if_neg c2, inside_tells k a0 a1 a2 _ _ l hl (by omega), et, et1, hit_one, Option.bind_some]
    rcases h7 with h | h | h
    · omega
    · omega
    · rw [h]
  | succ d ih =>
    intro k p p0 pf hd hk hq
    obtain ⟨k, rfl⟩ : ∃ m, k = m + 2 := ⟨k - 2, by omega⟩
    rw [step_no k (by omega) a0 a1 a2 l mss resc true last p _ _ hm hl (hask _ (by omega)) hfl hlast p0 (by omega) (hq p (Int.le_refl _) (by omega))]
    exact ih k (p + 1) (by omega) (by omega) (by omega) (by omega) (fun q h1 h2 => hq q (by omega) h2)
theorem rise_top (fl : Int) : ∀ (L : List S75) (x : S75) (e : Int), Rise fl e (x :: L) → ((x :: L).getLast (by simp)).f0 ≤ fl
  | [], x, e, h => by
    obtain ⟨h1, h2, h3, h4⟩ := h
    show x.f0 ≤ fl
    omega
  | y :: r, x, e, h => by
    rw [List.getLast_cons (by simp)]
    exact rise_top fl r y x.f1 h.2.2.2
theorem last_tells (a0 : Int) (x : S35) (r : List S35) : lastOf a0 (x :: r) = ((spansOf a0 (x :: r)).getLast (by simp [spansOf])).f0 := by
  unfold lastOf spansOf
  rw [List.getLast_map]
  have e : rd_T35 (x :: r) (((x :: r).length : Int) - 1) = (x :: r).getLast (by simp) := by
    unfold rd_T35
    rw [List.getD_eq_getElem?_getD, List.getLast_eq_getElem, List.getElem?_eq_getElem (by simp)]
    simp
  rw [e]
theorem ScoreboardNext : stopcocklaw17_ScoreboardNext.Pure := by
  intro a0 a1 a2 l mss resc hw hm
  obtain ⟨h0, h1, h2, h3⟩ := hw
  have h0 := wf_u32 h0
  have h1 := wf_u32 h1
  have h2 := wf_u32 h2
  have hll : l.length * 8 ≤ 140737488351232 := h3.1
  refine ⟨20000, ?_⟩
  obtain ⟨K, hK, hK'⟩ : ∃ K : Nat, K = 20000 ∧ 20000 ≤ K := ⟨20000, rfl, by omega⟩
  rw [← hK]
  clear hK
  unfold stopcocklaw17_ScoreboardNext.f
  rw [alive_tells K (by omega), Option.bind_some, if_pos rfl, own_tells a0 a1 a2 l (by omega), Option.bind_some]
  simp only []
  unfold scoreboard_Next.f
  obtain ⟨K', rfl⟩ : ∃ m, K = m + 2 := ⟨K - 2, by omega⟩
  rcases ask_tells 1100 a0 a1 a2 l mss (by omega) (by omega) with ⟨ha, hF, hm1⟩ | ⟨e, he, hne⟩
  · have hs := spansOf_length a0 l
    have hlen := hF.len
    have hask : ∀ k, 1100 ≤ k → scoreboard_asked.f k a0 a1 a2 l mss = some 0 := fun k hk => at_rounds (g := fun k => scoreboard_asked.f k a0 a1 a2 l mss) (fun k => scoreboard_asked.mono a0 a1 a2 l mss k) hk ha
    rw [hask (K' + 2) (by omega), Option.bind_some, if_pos rfl]
    by_cases cl : l.length = 0
    · rw [if_pos cl, Option.bind_some]
      simp only [stopcocklaw17_num.f, Option.bind_some, if_true]
      rw [stopcocklaw17_ScoreboardNext.j0]
      by_cases c : (a1 - a0) % 4294967296 > 3000
      · rw [if_pos (decide_eq_true c)]
        simp only [stopcocklaw17_num.f, Option.bind_some, if_true]
      rw [if_neg (by simpa using c), if_neg (by omega), stopcocklaw17_ScoreboardNext.j1]
      exact loop_none a0 a1 a2 l mss resc 0 hm1 hF.len hask (by omega) (by omega) 0 K' _ (by omega) (by omega) (by omega) (fun q q0 q1 => by omega)
    rw [if_neg cl, spans_tells (K' + 2) a0 a1 a2 l (by omega) (by omega), Option.bind_some, if_pos (by omega)]
    obtain ⟨x, r, rfl⟩ : ∃ x r, l = x :: r := by
      cases l with
      | nil => exact absurd rfl cl
      | cons x r => exact ⟨x, r, rfl⟩
    have hR := hF.rise
    have hlt := last_tells a0 x r
    have hok : LastOk (lastOf a0 (x :: r)) 0 (spansOf a0 (x :: r)) := by
      rw [hlt]
      exact last_ok _ _ _ 0 0 hR
    have htop : lastOf a0 (x :: r) ≤ (a1 - a0) % 4294967296 := by
      rw [hlt]
      exact rise_top _ _ _ 0 hR
    have hT := go_tells (K' + 2) (by omega) a0 a1 a2 (x :: r) mss resc hm1 hF.len ((a1 - a0) % 4294967296) (lastOf a0 (x :: r)) hF.fl hF.hi (spansOf a0 (x :: r)) 0 hR hok (by omega) (by omega) (fun _ _ => rfl) (fun _ _ => rfl) (fun _ _ _ => rfl)
    have elast : ((rd_T35 (x :: r) (wrap64 (((x :: r).length : Int) - 1))).f0 - a0) % 4294967296 = lastOf a0 (x :: r) := by
      unfold lastOf
      rw [w64 (by omega) (by omega)]
    have walk : ∀ (ok : Bool) (b0 b1 : Int), (∀ k, 2 * 3000 + 1200 ≤ k → (a1 - a0) % 4294967296 ≤ 3000 → stopcocklaw17_ScoreboardNext.l0 k mss resc ok (lastOf a0 (x :: r)) ((a2 - a0) % 4294967296) a0 a1 a2 (x :: r) a0 a1 a2 (x :: r) b0 b1 = some true) → stopcocklaw17_ScoreboardNext.j0 (K' + 2) mss resc ok 0 (decide ((a1 - a0) % 4294967296 > 3000)) a0 a1 a2 (x :: r) a0 a1 a2 (x :: r) b0 b1 = some true := by
      intro ok b0 b1 hgo
      rw [stopcocklaw17_ScoreboardNext.j0]
      by_cases c : (a1 - a0) % 4294967296 > 3000
      · rw [if_pos (decide_eq_true c)]
        simp only [stopcocklaw17_num.f, Option.bind_some, if_true]
      rw [if_neg (by simpa using c), if_pos (by simp), w64 (by omega) (by omega), if_pos (by simp), if_pos (by omega), stopcocklaw17_ScoreboardNext.j1]
      exact hgo K' (by omega) (by omega)
    have hhi := hF.hi
    rcases hT with ⟨e, g⟩ | ⟨f, t, e, i0, i1, i2, i3, g, i4, i5, i5', i6, i7⟩
    · rw [e, Option.bind_some]
      simp only [stopcocklaw17_num.f, Option.bind_some, if_true]
      exact walk false 0 0 (fun k hk c => loop_none a0 a1 a2 (x :: r) mss resc _ hm1 hF.len hask c htop 3000 k _ (by omega) (by omega) hk (fun q q0 q1 => g q (by omega) q0 q1))
    · rw [e, Option.bind_some]
      simp only [stopcocklaw17_num.f, Option.bind_some, if_true]
      exact walk true _ _ (fun k hk c => loop_hit a0 a1 a2 (x :: r) mss resc _ f t h1 hm1 hF.len hask c htop i2 i3 i4 i5 i5' i6 i7 (f - (a2 - a0) % 4294967296).toNat k _ (by omega) i1 (by omega) (by omega) (fun q q0 q1 => g q (by omega) q0 q1))
  · have hask : scoreboard_asked.f (K' + 2) a0 a1 a2 l mss = some e := at_rounds (g := fun k => scoreboard_asked.f k a0 a1 a2 l mss) (fun k => scoreboard_asked.mono a0 a1 a2 l mss k) (by omega) he
    rw [hask, Option.bind_some, if_neg hne, Option.bind_some]
    simp only [stopcocklaw17_num.f, Option.bind_some]
    rw [if_neg hne, stopcocklaw17_ScoreboardNext.j0, if_pos rfl]
    simp only [stopcocklaw17_num.f, Option.bind_some]
    rw [if_neg hne]
    rfl
end Go.Proofs.Ytfaoeljggfdhmaa.Pure
