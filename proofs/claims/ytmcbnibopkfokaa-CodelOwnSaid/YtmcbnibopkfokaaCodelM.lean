/- codel: what Dequeue tells keeps the packets' order and spares those that may be spared. No condition. -/
import Derived.Test.YtmcbnibopkfokaaCodelY
import Derived.Test.YtmcbnibopkfokaaCodelL
namespace Go.Proofs.Ytmcbnibopkfokaa.Pure
open Go.RowKit Go.Proofs.Ytmcbnibopkfokaa.Q Go.Proofs.YtmcbnibopkfokaaW.PrintWords Go.Proofs.YtmcbnibopkfokaaW.PrintLast Go.Proofs.YtmcbnibopkfokaaW.PrintMore Go.Proofs.YtmcbnibopkfokaaW.Arith Go.Proofs.YtmcbnibopkfokaaW.Opened
def sumI : List S42 → Int
  | [] => 0
  | x :: q => x.f1 + sumI q
def inR (x : S42) : Bool := decide ((0 ≤ x.f0 ∧ x.f0 ≤ 2199023255552) ∧ (1 ≤ x.f1 ∧ x.f1 ≤ 65535))
theorem sumI_range (l : List S42) (h : l.all inR = true) : 0 ≤ sumI l ∧ sumI l ≤ 65535 * l.length := by
  induction l with
  | nil => simp [sumI]
  | cons x q ih =>
    rw [List.all_cons, Bool.and_eq_true] at h
    have := ih h.2
    have hx := of_decide_eq_true h.1
    simp only [sumI, List.length_cons]
    omega
theorem sumGo_is (l : List S42) (h : l.all inR = true) : ∀ b : Int, 0 ≤ b → b + 65535 * l.length ≤ 9223372036854775807 → sumGo b l = b + sumI l := by
  induction l with
  | nil => intro b _ _; simp [sumI, sumGo]
  | cons x q ih =>
    intro b h0 h1
    rw [List.all_cons, Bool.and_eq_true] at h
    have hx := of_decide_eq_true h.1
    simp only [List.length_cons] at h1
    simp only [sumGo, sumI]
    rw [w64 (x := b + x.f1) (by omega) (by omega), ih h.2 _ (by omega) (by omega)]
    omega
theorem okGo_is (k : Nat) (hk : BIG ≤ k) (l : List S42) : ∀ b : Bool, okGo k b l = some (b && l.all inR) := by
  induction l with
  | nil => intro b; simp [okGo]
  | cons x q ih =>
    intro b
    simp only [okGo]
    rw [within_tells k hk _ _ _ (by simp), within_tells k hk _ _ _ (by simp)]
    simp only [Option.bind_some, ih, List.all_cons, inR]
    congr 1
    simp only [List.mem_cons, List.not_mem_nil, or_false, forall_eq, Bool.decide_and, Bool.and_assoc]
/-- What the call holds all the way: the packets in their order; those that were dropped could not be spared. -/
structure In (l : List S42) (r : Run) : Prop where
  all : r.dropped ++ ((if r.has = true then [r.cur] else []) ++ r.q) = l
  emp : r.has = false → r.q = []
  bytes : r.bytes = sumI r.q
  tg : 1 ≤ r.tg ∧ r.tg ≤ 1073741824
  nw : 0 ≤ r.now ∧ r.now ≤ 2199023255552
  cnt : 0 ≤ r.count ∧ r.count ≤ 1073741824
  lst : 0 ≤ r.last ∧ r.last ≤ 1073741824
  okd : ∀ (i : Nat) (x : S42), r.dropped[i]? = some x → x.f2 = false ∧ r.tg ≤ r.now - x.f0 ∧ r.mtu < sumI (l.drop (i + 1))
structure Ripe (r : Run) : Prop where
  has : r.has = true
  old : r.tg ≤ r.now - r.cur.f0
  big : r.mtu < r.bytes
/-- The settings and the time of the call. -/
def same (r s : Run) : Prop := s.tg = r.tg ∧ s.mtu = r.mtu ∧ s.now = r.now ∧ s.iv = r.iv
theorem same.refl (r : Run) : same r r := ⟨rfl, rfl, rfl, rfl⟩
theorem same.trans {r s t : Run} (h : same r s) (k : same s t) : same r t := ⟨k.1.trans h.1, k.2.1.trans h.2.1, k.2.2.1.trans h.2.2.1, k.2.2.2.trans h.2.2.2⟩
theorem takeR_in {l : List S42} (hl : l.all inR = true) (hn : l.length ≤ 4398046511104) (r : Run) (all : r.dropped ++ r.q = l) (bytes : r.bytes = sumI r.q) (tg : 1 ≤ r.tg ∧ r.tg ≤ 1073741824) (nw : 0 ≤ r.now ∧ r.now ≤ 2199023255552)
    (cnt : 0 ≤ r.count ∧ r.count ≤ 1073741824) (lst : 0 ≤ r.last ∧ r.last ≤ 1073741824) (okd : ∀ (i : Nat) (x : S42), r.dropped[i]? = some x → x.f2 = false ∧ r.tg ≤ r.now - x.f0 ∧ r.mtu < sumI (l.drop (i + 1))) :
    In l (takeR r).1 ∧ ((takeR r).2 = true → Ripe (takeR r).1) ∧ same r (takeR r).1 ∧ (takeR r).1.marked = r.marked ∧ (takeR r).1.dropping = r.dropping ∧ ((takeR r).2 = true → (takeR r).1.q.length + 1 = r.q.length) ∧ (takeR r).1.q.length ≤ r.q.length := by
  cases hq : r.q with
  | nil =>
    rw [takeR_nil hq]
    refine ⟨⟨?_, fun _ => hq, ?_, tg, nw, cnt, lst, okd⟩, fun h => (by cases h), same.refl _, rfl, rfl, fun h => (by cases h), by simp [hq]⟩
    · simpa [hq] using all
    · simpa [hq] using bytes
  | cons x q =>
    rw [takeR_cons hq]
    have hx : inR x = true := by
      rw [← all, List.all_append, Bool.and_eq_true, hq, List.all_cons, Bool.and_eq_true] at hl
      exact hl.2.1
    have hqs : q.all inR = true := by
      rw [← all, List.all_append, Bool.and_eq_true, hq, List.all_cons, Bool.and_eq_true] at hl
      exact hl.2.2
    have hlen : q.length + 1 ≤ l.length := by
      rw [← all, List.length_append, hq, List.length_cons]
      omega
    have hs := sumI_range q hqs
    have hx' := of_decide_eq_true hx
    have hb : wrap64 (r.bytes - x.f1) = sumI q := by
      rw [bytes, hq]
      simp only [sumI]
      rw [w64 (by omega) (by omega)]
      omega
    have hw : wrap64 (r.now - x.f0) = r.now - x.f0 := w64 (by omega) (by omega)
    rw [hb, hw]
    have hall : r.dropped ++ ([x] ++ q) = l := by simpa [hq] using all
    have base : ∀ (ab : Bool) (aa : Int), In l { r with cur := x, has := true, q := q, bytes := sumI q, above := ab, aboveAt := aa } := fun ab aa =>
      ⟨by simpa using hall, fun h => (by cases h), rfl, tg, nw, cnt, lst, okd⟩
    by_cases c1 : r.now - x.f0 < r.tg ∨ sumI q ≤ r.mtu
    · rw [if_pos c1]
      exact ⟨base _ _, fun h => (by cases h), same.refl _, rfl, rfl, fun h => (by cases h), by simp⟩
    · rw [if_neg c1]
      by_cases c2 : r.above = false
      · rw [if_pos c2]
        exact ⟨base _ _, fun h => (by cases h), same.refl _, rfl, rfl, fun h => (by cases h), by simp⟩
      · rw [if_neg c2]
        exact ⟨base _ _, fun _ => ⟨rfl, by show r.tg ≤ r.now - x.f0; omega, by show r.mtu < sumI q; omega⟩, same.refl _, rfl, rfl, fun _ => by simp, by simp⟩
theorem hitR_in {l : List S42} (hl : l.all inR = true) (hn : l.length ≤ 4398046511104) (r : Run) (h : In l r) (hp : Ripe r) :
    In l (hitR r).1 ∧ ((hitR r).2 = true → Ripe (hitR r).1) ∧ same r (hitR r).1 ∧ (hitR r).1.dropping = r.dropping ∧ (hitR r).1.q.length ≤ r.q.length ∧ ((hitR r).2 = true → (hitR r).1.q.length + 1 = r.q.length) ∧
    (r.marked = false → (hitR r).1.marked = true → Ripe (hitR r).1 ∧ (hitR r).1.cur.f2 = true) ∧ (r.marked = false → (hitR r).2 = true → (hitR r).1.marked = false) := by
  unfold hitR
  by_cases c : r.cur.f2 = true
  · rw [if_pos c]
    exact ⟨⟨h.all, h.emp, h.bytes, h.tg, h.nw, h.cnt, h.lst, h.okd⟩, fun e => (by cases e), same.refl _, rfl, Nat.le_refl _, fun e => (by cases e), fun _ _ => ⟨⟨hp.has, hp.old, hp.big⟩, c⟩, fun _ e => (by cases e)⟩
  · rw [if_neg c]
    have ha := h.all
    rw [if_pos hp.has] at ha
    obtain ⟨a1, a2, a3, a4, a5, a6, a7⟩ := takeR_in hl hn { r with dropped := r.dropped ++ [r.cur] } (by rw [← ha]; simp) h.bytes h.tg h.nw h.cnt h.lst (fun i x hx => by
      by_cases hi : i < r.dropped.length
      · rw [List.getElem?_append_left hi] at hx
        exact h.okd i x hx
      · have hi2 : i = r.dropped.length := by
          have := (List.getElem?_eq_some_iff.1 hx).1
          simp at this
          omega
        subst hi2
        rw [List.getElem?_append_right (Nat.le_refl _)] at hx
        simp at hx
        subst hx
        refine ⟨by simpa using c, hp.old, ?_⟩
        have hd : l.drop (r.dropped.length + 1) = r.q := by
          rw [← ha, List.drop_append]
          simp
        rw [hd, ← h.bytes]
        exact hp.big)
    exact ⟨a1, a2, a3, a5, a7, a6, fun e1 e2 => (by rw [a4] at e2; rw [show r.marked = true from e2] at e1; cases e1), fun e1 _ => a4.trans e1⟩
/-- In, and ripe where it drops or has marked. -/
structure Go2 (l : List S42) (r : Run) : Prop where
  i : In l r
  d : r.dropping = true → Ripe r
  m : r.marked = true → Ripe r ∧ r.cur.f2 = true
theorem stepR_in (k : Nat) (hk : BIG ≤ k) {l : List S42} (hl : l.all inR = true) (hn : l.length ≤ 4398046511104) (r : Run) (h : Go2 l r) (hd : r.dropping = true) (hm : r.marked = false) :
    ∃ s, stepR k r = some s ∧ Go2 l s ∧ same r s ∧ ((s.dropping = false ∨ s.marked = true) ∨ s.q.length + 1 = r.q.length) := by
  obtain ⟨c, hc⟩ : ∃ c, mn (wrap64 (r.count + 1)) 1073741824 = c := ⟨_, rfl⟩
  have hcn := h.i.cnt
  have hc1 : 1 ≤ c ∧ c ≤ 1073741824 := by
    rw [← hc, w64 (by omega) (by omega)]
    unfold mn
    split <;> omega
  unfold stepR
  rw [hc]
  have hi : In l { r with count := c } := ⟨h.i.all, h.i.emp, h.i.bytes, h.i.tg, h.i.nw, ⟨by show 0 ≤ c; omega, hc1.2⟩, h.i.lst, h.i.okd⟩
  have hr := h.d hd
  obtain ⟨a1, a2, a3, a4, a5, a6, a7, a8⟩ := hitR_in hl hn { r with count := c } hi ⟨hr.has, hr.old, hr.big⟩
  have hcc : (hitR { r with count := c }).1.count = c := by
    unfold hitR
    split
    · rfl
    · unfold takeR
      split
      · rfl
      · split
        · rfl
        · split <;> rfl
  generalize hitR { r with count := c } = p at a1 a2 a3 a4 a5 a6 a7 a8 hcc ⊢
  obtain ⟨s, b⟩ := p
  dsimp only at a1 a2 a3 a4 a5 a6 a7 a8 hcc ⊢
  by_cases hb : (b || s.marked) = true
  · rw [if_pos hb]
    obtain ⟨v, hv⟩ := law_some k hk s.next s.iv s.count (by omega) (by omega)
    rw [hv]
    refine ⟨{ s with dropping := true, next := v }, rfl, ⟨⟨a1.all, a1.emp, a1.bytes, a1.tg, a1.nw, a1.cnt, a1.lst, a1.okd⟩, fun _ => ?_, fun e => ?_⟩, a3, ?_⟩
    · cases hb' : b with
      | true => have := a2 hb'; exact ⟨this.has, this.old, this.big⟩
      | false =>
        rw [hb', Bool.false_or] at hb
        have := (a7 hm hb).1
        exact ⟨this.has, this.old, this.big⟩
    · have := a7 hm e
      exact ⟨⟨this.1.has, this.1.old, this.1.big⟩, this.2⟩
    · cases hb' : b with
      | true => exact Or.inr (a6 hb')
      | false =>
        rw [hb', Bool.false_or] at hb
        exact Or.inl (Or.inr hb)
  · rw [if_neg hb]
    exact ⟨{ s with dropping := false }, rfl, ⟨⟨a1.all, a1.emp, a1.bytes, a1.tg, a1.nw, a1.cnt, a1.lst, a1.okd⟩, fun e => (by cases e), fun e => (by rw [show s.marked = true from e] at hb; simp at hb)⟩, a3, Or.inl (Or.inl rfl)⟩
theorem goOnR_in (k : Nat) (hk : BIG ≤ k) {l : List S42} (hl : l.all inR = true) (hn : l.length ≤ 4398046511104) : ∀ (n : Nat) (r : Run), Go2 l r → (r.q.length + 2 ≤ n ∨ (1 ≤ n ∧ (r.dropping = false ∨ r.marked = true))) →
    ∃ s, goOnR k n r = some s ∧ Go2 l s ∧ same r s := by
  intro n
  induction n with
  | zero => intro r _ h; omega
  | succ n ih =>
    intro r h hh
    simp only [goOnR]
    by_cases c : r.dropping = true ∧ r.now ≥ r.next ∧ r.marked = false
    · rw [if_pos c]
      obtain ⟨s, e, hs, hsm, hor⟩ := stepR_in k hk hl hn r h c.1 c.2.2
      rw [e]
      simp only [Option.bind_some]
      have h2 : r.q.length + 2 ≤ n + 1 := by
        rcases hh with hh | ⟨_, hh | hh⟩
        · exact hh
        · rw [c.1] at hh; cases hh
        · rw [c.2.2] at hh; cases hh
      obtain ⟨t, e2, h3, h4⟩ := ih s hs (by
        rcases hor with hor | hor
        · exact Or.inr ⟨by omega, hor⟩
        · exact Or.inl (by omega))
      exact ⟨t, e2, h3, hsm.trans h4⟩
    · rw [if_neg c]
      exact ⟨r, rfl, h, same.refl _⟩
theorem beginR_in (k : Nat) (hk : BIG ≤ k) {l : List S42} (hl : l.all inR = true) (hn : l.length ≤ 4398046511104) (r : Run) (h : In l r) (hp : Ripe r) (hm : r.marked = false) :
    ∃ s, beginR k r = some s ∧ In l s ∧ same r s ∧ (s.marked = true → Ripe s ∧ s.cur.f2 = true) := by
  obtain ⟨a1, a2, a3, a4, a5, a6, a7, a8⟩ := hitR_in hl hn r h hp
  unfold beginR
  generalize (hitR r).1 = s at a1 a2 a3 a4 a5 a6 a7 a8 ⊢
  have hc := a1.cnt
  have hls := a1.lst
  have hcn : 1 ≤ cntR s ∧ cntR s ≤ 1073741824 := by
    unfold cntR
    rw [w64 (x := s.count - s.last) (by omega) (by omega)]
    split <;> omega
  generalize cntR s = c at hcn ⊢
  obtain ⟨v, hv⟩ := law_some k hk s.now s.iv c hcn.1 hcn.2
  rw [hv]
  refine ⟨_, rfl, ⟨a1.all, a1.emp, a1.bytes, a1.tg, a1.nw, ⟨by show 0 ≤ c; omega, hcn.2⟩, ⟨by show 0 ≤ c; omega, hcn.2⟩, a1.okd⟩, a3, fun e => ?_⟩
  have := a7 hm e
  exact ⟨⟨this.1.has, this.1.old, this.1.big⟩, this.2⟩
theorem afterR_in (k : Nat) (hk : BIG ≤ k) {l : List S42} (hl : l.all inR = true) (hn : l.length ≤ 4398046511104) (d : Bool) (r : Run) (hq : r.q = l) (hdr : r.dropped = []) (bytes : r.bytes = sumI l) (tg : 1 ≤ r.tg ∧ r.tg ≤ 1073741824) (nw : 0 ≤ r.now ∧ r.now ≤ 2199023255552)
    (cnt : 0 ≤ r.count ∧ r.count ≤ 1073741824) (lst : 0 ≤ r.last ∧ r.last ≤ 1073741824) (hm : r.marked = false) :
    ∃ s, afterR k (l.length + 2) d r = some s ∧ In l s ∧ same r s ∧ (s.marked = true → Ripe s ∧ s.cur.f2 = true) := by
  obtain ⟨a1, a2, a3, a4, a5, a6, a7⟩ := takeR_in hl hn r (by rw [hdr, hq]; rfl) (by rw [bytes, hq]) tg nw cnt lst (fun i x hx => by rw [hdr] at hx; simp at hx)
  unfold afterR
  rw [hm] at a4
  rw [hq] at a7
  generalize takeR r = p at a1 a2 a3 a4 a5 a6 a7 ⊢
  obtain ⟨s, b⟩ := p
  dsimp only at a1 a2 a3 a4 a5 a6 a7 ⊢
  cases d with
  | true =>
    rw [if_pos rfl]
    obtain ⟨t, e, h, h2⟩ := goOnR_in k hk hl hn (l.length + 2) { s with dropping := b } ⟨⟨a1.all, a1.emp, a1.bytes, a1.tg, a1.nw, a1.cnt, a1.lst, a1.okd⟩, fun e => (have := a2 e; ⟨this.has, this.old, this.big⟩), fun e => (by rw [show s.marked = true from e] at a4; cases a4)⟩ (Or.inl (by show s.q.length + 2 ≤ _; omega))
    exact ⟨t, e, h.i, a3.trans h2, h.m⟩
  | false =>
    rw [if_neg (by decide)]
    cases b with
    | true =>
      rw [if_pos rfl]
      obtain ⟨t, e, h, h2, h3⟩ := beginR_in k hk hl hn s a1 (a2 rfl) a4
      exact ⟨t, e, h, a3.trans h2, h3⟩
    | false =>
      rw [if_neg (by decide)]
      exact ⟨s, rfl, a1, a3, fun e => (by rw [a4] at e; cases e)⟩
/-- All that the laws want of Dequeue. -/
structure Dq (a0_0 a0_2 : Int) (l : List S42) (a3 : Int) (r : Run) (e : Int) : Prop where
  off : e ≠ 0 → r.rhas = false ∧ r.dropped = [] ∧ r.left = 0
  on : e = 0 → ∃ s : Run, In l s ∧ s.tg = a0_0 ∧ s.mtu = a0_2 ∧ s.now = a3 ∧ (s.marked = true → Ripe s ∧ s.cur.f2 = true) ∧ l.all inR = true ∧ r = { s with rhas := s.has, out := s.cur, left := (s.q.length : Int) }
theorem deq_tells (k : Nat) (hk : BIG ≤ k) (a0_0 a0_1 a0_2 : Int) (a1_0 : Bool) (a1_1 : Int) (a1_2 : Bool) (a1_3 a1_4 a1_5 : Int) (l : List S42) (a3 : Int) (hn : l.length ≤ 4398046510976) :
    ∃ r e, deqR k a0_0 a0_1 a0_2 a1_0 a1_1 a1_2 a1_3 a1_4 a1_5 l a3 = some (r, e) ∧ Dq a0_0 a0_2 l a3 r e := by
  unfold deqR codel_Check.f
  rw [within_tells k hk _ _ _ (by simp), within_tells k hk _ _ _ (by simp), within_tells k hk _ _ _ (by simp)]
  simp only [Option.bind_some, okGo_is k hk]
  by_cases c0 : decide (∀ x ∈ [a0_0, a0_1, a0_2], 1 ≤ x ∧ x ≤ 1073741824) = true
  · rw [if_pos c0]
    simp only [Option.bind_some]
    rw [if_pos trivial]
    have c0' := of_decide_eq_true c0
    have h0 := c0' a0_0 (by simp)
    by_cases c1 : (decide (∀ x ∈ [a3, a1_1, a1_3], 0 ≤ x ∧ x ≤ 2199023255552) && decide (∀ x ∈ [a1_4, a1_5], 0 ≤ x ∧ x ≤ 1073741824) && l.all inR) = true
    · rw [if_pos c1, if_pos (by omega)]
      rw [Bool.and_eq_true, Bool.and_eq_true] at c1
      obtain ⟨⟨c2, c3⟩, hl⟩ := c1
      have h3 := of_decide_eq_true c2 a3 (by simp)
      have h4 := of_decide_eq_true c3 a1_4 (by simp)
      have h5 := of_decide_eq_true c3 a1_5 (by simp)
      have hs := sumGo_is l hl 0 (by omega) (by omega)
      obtain ⟨s, e, hi, hsm, hm⟩ := afterR_in k hk hl (by omega) a1_2 (runOf a0_0 a0_1 a0_2 a1_0 a1_1 a1_2 a1_3 a1_4 a1_5 l (sumGo 0 l) a3) rfl rfl (by show sumGo 0 l = _; rw [hs]; omega) h0 h3 h4 h5 rfl
      rw [e]
      exact ⟨_, _, rfl, fun h => absurd rfl h, fun _ => ⟨s, hi, hsm.1, hsm.2.1, hsm.2.2.1, hm, hl, rfl⟩⟩
    · rw [if_neg c1]
      exact ⟨_, _, rfl, fun _ => ⟨rfl, rfl, rfl⟩, fun h => (by cases h)⟩
  · rw [if_neg c0]
    simp only [Option.bind_some]
    rw [if_neg (by decide)]
    exact ⟨_, _, rfl, fun _ => ⟨rfl, rfl, rfl⟩, fun h => (by cases h)⟩
end Go.Proofs.Ytmcbnibopkfokaa.Pure
