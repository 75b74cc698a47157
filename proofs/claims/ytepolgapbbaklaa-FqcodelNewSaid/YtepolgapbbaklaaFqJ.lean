/- fqcodel: what stays true of a calm queue of queues, call by call. Numbers and lists alone. No condition. -/
import Derived.Test.YtepolgapbbaklaaFqI
namespace Go.Proofs.Ytepolgapbbaklaa.Q
set_option linter.unusedVariables false
set_option linter.unusedSimpArgs false
open Go.RowKit Go.Proofs.YtepolgapbbaklaaW.PrintWords Go.Proofs.YtepolgapbbaklaaW.PrintLast Go.Proofs.YtepolgapbbaklaaW.PrintMore
def octets : List PK → Int
  | [] => 0
  | x :: r => x.f1 + octets r
theorem octets_app : ∀ (l : List PK) (p : PK), octets (l ++ [p]) = octets l + p.f1
  | [], p => by simp [octets]
  | x :: r, p => by
    simp only [List.cons_append, octets, octets_app r p]
    omega
/-- Packets that came now, of M octets at most. -/
def Small (M : Int) (ps : List PK) : Prop := ∀ x ∈ ps, x.f0 = 0 ∧ 1 ≤ x.f1 ∧ x.f1 ≤ M
theorem octets_bound {M : Int} : ∀ {l : List PK}, Small M l → (l.length : Int) ≤ octets l ∧ octets l ≤ M * l.length
  | [], _ => by simp [octets]
  | x :: r, h => by
    have hx := h x (by simp)
    have hr := octets_bound (l := r) (fun y hy => h y (by simp [hy]))
    simp only [octets, List.length_cons]
    have e : M * ((r.length + 1 : Nat) : Int) = M * r.length + M := by
      rw [Int.natCast_add, Int.mul_add]
      simp
    rw [e]
    omega
def tot (fs : Nat → Fl) : Nat → Nat
  | 0 => 0
  | N + 1 => tot fs N + (fs N).ps.length
theorem tot_le {fs : Nat → Fl} : ∀ {N i : Nat}, i < N → (fs i).ps.length ≤ tot fs N
  | N + 1, i, h => by
    simp only [tot]
    by_cases c : i = N
    · subst c
      omega
    · have := tot_le (fs := fs) (N := N) (i := i) (by omega)
      omega
theorem tot_out {fs : Nat → Fl} {f : Fl} {i : Nat} : ∀ {N : Nat}, N ≤ i → tot (upd fs i f) N = tot fs N
  | 0, _ => rfl
  | N + 1, h => by
    simp only [tot]
    rw [tot_out (by omega), upd_ne _ _ (by omega)]
theorem tot_upd {fs : Nat → Fl} {f : Fl} {i : Nat} : ∀ {N : Nat}, i < N → tot (upd fs i f) N + (fs i).ps.length = tot fs N + f.ps.length
  | N + 1, h => by
    simp only [tot]
    by_cases c : i = N
    · subst c
      rw [tot_out (Nat.le_refl _), upd_at]
      omega
    · have := tot_upd (fs := fs) (f := f) (N := N) (i := i) (by omega)
      rw [upd_ne _ _ (fun e => c e.symm)]
      omega
/-- One flow of a calm queue. -/
structure CF (c : Cfg) (M : Int) (i : Nat) (f : Fl) : Prop where
  z : Zero f
  ps : Small M f.ps
  by_ : f.bytes = octets f.ps
  id : f.id = (i : Int)
  d0 : 1 - M ≤ f.deficit
  d1 : f.deficit ≤ c.quantum
/-- A calm queue. -/
structure CQ (c : Cfg) (N : Nat) (M : Int) (s : ST) : Prop where
  nd : (s.l1 ++ s.l2).Nodup
  a1 : ∀ i ∈ s.l1, i < N ∧ (s.fs i).on = 1
  a2 : ∀ i ∈ s.l2, i < N ∧ (s.fs i).on = 2
  a0 : ∀ i, i < N → (s.fs i).on ≠ 0 → i ∈ s.l1 ∨ i ∈ s.l2
  wt : ∀ i, i < N → (s.fs i).ps ≠ [] → (s.fs i).on ≠ 0
  f : ∀ i, i < N → CF c M i (s.fs i)
  n : s.n = (tot s.fs N : Int)
  le : s.n ≤ 65536
theorem len_of_nodup : ∀ {N : Nat} {l : List Nat}, l.Nodup → (∀ i ∈ l, i < N) → l.length ≤ N := by
  intro N l h hb
  have h2 : l ⊆ List.range N := fun i hi => List.mem_range.2 (hb i hi)
  have h3 := h.length_le_of_subset h2
  simpa using h3
section
variable {c : Cfg} {N : Nat} {M : Int} {s : ST}
theorem CQ.len (h : CQ c N M s) : s.l1.length + s.l2.length ≤ N := by
  have := len_of_nodup h.nd (fun i hi => by
    rcases List.mem_append.1 hi with hi | hi
    · exact (h.a1 i hi).1
    · exact (h.a2 i hi).1)
  simpa using this
theorem CQ.plen (h : CQ c N M s) {i : Nat} (hi : i < N) : (s.fs i).ps.length ≤ 65536 := by
  have h1 := tot_le (fs := s.fs) hi
  have h2 := h.n
  have h3 := h.le
  omega
theorem CQ.n0 (h : CQ c N M s) : 0 ≤ s.n ∧ s.n ≤ 65536 := ⟨by rw [h.n]; omega, h.le⟩
/-- Calm settings. -/
structure CC (c : Cfg) (M : Int) : Prop where
  tg : c.tg = 1073741824
  iv : c.iv = 1073741824
  mtu : c.mtu = 1500
  q0 : 1 ≤ c.quantum
  q1 : c.quantum ≤ 65535
  m0 : 1 ≤ M
  m1 : M ≤ 65535
theorem CC.of {flows limit quantum : Int} (h0 : 1 ≤ quantum) (h1 : quantum ≤ 65535) (m0 : 1 ≤ M) (m1 : M ≤ 65535) : CC (calmC flows limit quantum) M := ⟨rfl, rfl, rfl, h0, h1, m0, m1⟩
theorem CQ.ok (h : CQ c N M s) (hc : CC c M) : QOk c 0 N s.fs s.l1 s.l2 :=
  ⟨h.nd, h.a1, h.a2, fun i hi => ⟨(h.f i hi).z, calm_of c hc.tg hc.iv hc.mtu _ (fun x hx => by have := (h.f i hi).ps x hx; have := hc.m1; omega) (by have := h.plen hi; omega)⟩, h.len⟩
theorem CQ.new (hc : CC c M) : CQ c N M ⟨newFs N, [], [], 0⟩ := by
  refine ⟨by simp, fun i hi => by simp at hi, fun i hi => by simp at hi, fun i hi ho => absurd rfl ho, fun i hi hp => absurd rfl hp, fun i hi => ⟨⟨rfl, rfl, rfl, rfl, rfl, rfl⟩, fun x hx => by simp [newFs] at hx, rfl, ?_, ?_, ?_⟩, ?_, by simp⟩
  · simp [newFs, hi]
  · have := hc.m0
    simp only [newFs]
    omega
  · have := hc.q0
    simp only [newFs]
    omega
  · have : ∀ K, tot (newFs N) K = 0 := by
      intro K
      induction K with
      | zero => rfl
      | succ K ih => simp only [tot, ih, newFs, List.length_nil]
    rw [this]
    rfl
theorem CF.add {i : Nat} {f : Fl} (h : CF c M i f) (hc : CC c M) {p : PK} (h0 : p.f0 = 0) (h1 : 1 ≤ p.f1) (h2 : p.f1 ≤ M) (hl : f.ps.length ≤ 65536) : CF c M i ((f.add p).wake c) ∧ ((f.add p).wake c).ps = f.ps ++ [p] ∧ ((f.add p).wake c).on = (if f.on = 0 then 1 else f.on) := by
  have hb := octets_bound h.ps
  have hm := hc.m1
  have hM : M * f.ps.length ≤ 65535 * 65536 := by
    have := hc.m0
    exact Int.le_trans (Int.mul_le_mul_of_nonneg_right hm (by omega)) (by omega)
  have e : wrap64 (f.bytes + p.f1) = octets (f.ps ++ [p]) := by
    rw [octets_app, h.by_]
    unfold wrap64
    omega
  have hs : Small M (f.ps ++ [p]) := fun x hx => by
    rcases List.mem_append.1 hx with hx | hx
    · exact h.ps x hx
    · rw [List.mem_singleton] at hx
      subst hx
      exact ⟨h0, h1, h2⟩
  unfold Fl.wake Fl.add
  by_cases co : f.on = 0
  · rw [if_pos co, if_pos co]
    exact ⟨⟨⟨h.z.a, h.z.b, h.z.c, h.z.d, h.z.e, h.z.g⟩, hs, e, h.id, by have := hc.m0; have := hc.q0; show 1 - M ≤ c.quantum; omega, Int.le_refl _⟩, rfl, rfl⟩
  · rw [if_neg co, if_neg co]
    exact ⟨⟨⟨h.z.a, h.z.b, h.z.c, h.z.d, h.z.e, h.z.g⟩, hs, e, h.id, h.d0, h.d1⟩, rfl, rfl⟩
/-- A queue with one flow and its lists changed. -/
theorem CQ.put (h : CQ c N M s) {i : Nat} (hi : i < N) {f : Fl} (hf : CF c M i f) {m1 m2 : List Nat} {n : Int} (hnd : (m1 ++ m2).Nodup) (b1 : ∀ j ∈ m1, if j = i then f.on = 1 else j ∈ s.l1) (b2 : ∀ j ∈ m2, if j = i then f.on = 2 else j ∈ s.l2) (b3 : ∀ j, j ≠ i → j ∈ s.l1 ∨ j ∈ s.l2 → j ∈ m1 ∨ j ∈ m2) (b4 : f.on ≠ 0 → i ∈ m1 ∨ i ∈ m2) (b5 : f.ps ≠ [] → f.on ≠ 0) (hn : n + (s.fs i).ps.length = s.n + f.ps.length) (hl : n ≤ 65536) : CQ c N M ⟨upd s.fs i f, m1, m2, n⟩ := by
  refine ⟨hnd, ?_, ?_, ?_, ?_, ?_, ?_, hl⟩ <;> dsimp only
  rotate_left 5
  · have h1 := tot_upd (fs := s.fs) (f := f) hi
    have h2 := h.n
    omega
  all_goals intro j hj
  rotate_left 4
  · by_cases e : j = i
    · subst e
      rw [upd_at]
      exact hf
    · rw [upd_ne _ _ e]
      exact h.f j hj
  · have b := b1 j hj
    by_cases e : j = i
    · subst e
      rw [if_pos rfl] at b
      rw [upd_at]
      exact ⟨hi, b⟩
    · rw [if_neg e] at b
      rw [upd_ne _ _ e]
      exact h.a1 j b
  · have b := b2 j hj
    by_cases e : j = i
    · subst e
      rw [if_pos rfl] at b
      rw [upd_at]
      exact ⟨hi, b⟩
    · rw [if_neg e] at b
      rw [upd_ne _ _ e]
      exact h.a2 j b
  · intro ho
    by_cases e : j = i
    · subst e
      rw [upd_at] at ho
      exact b4 ho
    · rw [upd_ne _ _ e] at ho
      exact b3 j e (h.a0 j hj ho)
  · intro hp
    by_cases e : j = i
    · subst e
      rw [upd_at] at hp ⊢
      exact b5 hp
    · rw [upd_ne _ _ e] at hp ⊢
      exact h.wt j hj hp
theorem CQ.enq (h : CQ c N M s) (hc : CC c M) {i : Nat} (hi : i < N) {p : PK} (h0 : p.f0 = 0) (h1 : 1 ≤ p.f1) (h2 : p.f1 ≤ M) (hl : s.n + 1 ≤ 65536) : CQ c N M (s.enq c i p) := by
  obtain ⟨hf, hp, ho⟩ := (h.f i hi).add hc h0 h1 h2 (h.plen hi)
  unfold ST.enq enqFs wakeL
  have nd := h.nd
  by_cases co : (s.fs i).on = 0
  · rw [if_pos co] at ho ⊢
    have n1 : i ∉ s.l1 := fun hm => by have := (h.a1 i hm).2; omega
    have n2 : i ∉ s.l2 := fun hm => by have := (h.a2 i hm).2; omega
    refine h.put hi hf ?_ (fun j hj => ?_) (fun j hj => ?_) (fun j hne hj => ?_) (fun _ => .inl (by simp)) (fun _ => by rw [ho]; decide) (by rw [hp]; simp; omega) hl
    · rw [List.append_assoc, List.nodup_append]
      rw [List.nodup_append] at nd
      refine ⟨nd.1, by simpa using ⟨n2, nd.2.1⟩, fun a ha b hb => ?_⟩
      rcases List.mem_append.1 hb with hb | hb
      · rw [List.mem_singleton] at hb
        exact fun e => n1 (by rw [← hb, ← e]; exact ha)
      · exact nd.2.2 a ha b hb
    · by_cases e : j = i
      · rw [if_pos e]
        exact ho
      · rw [if_neg e]
        simpa [e] using hj
    · have e : j ≠ i := fun e => n2 (e ▸ hj)
      rw [if_neg e]
      exact hj
    · rcases hj with hj | hj
      · exact .inl (by simp [hj])
      · exact .inr hj
  · rw [if_neg co] at ho ⊢
    refine h.put hi hf nd (fun j hj => ?_) (fun j hj => ?_) (fun j hne hj => hj) (fun _ => h.a0 i hi co) (fun _ => by rw [ho]; exact co) (by rw [hp]; simp; omega) hl
    · by_cases e : j = i
      · rw [if_pos e, ho]
        exact (h.a1 i (e ▸ hj)).2
      · rw [if_neg e]
        exact hj
    · by_cases e : j = i
      · rw [if_pos e, ho]
        exact (h.a2 i (e ▸ hj)).2
      · rw [if_neg e]
        exact hj
theorem Head.lt (h : CQ c N M s) {i : Nat} {r1 r2 : List Nat} (hh : Head s.fs s.l1 s.l2 i r1 r2) : i < N := by
  rcases hh with ⟨e, _, _⟩ | ⟨_, _, e, _⟩
  · exact (h.a1 i (by rw [e]; simp)).1
  · exact (h.a2 i (by rw [e]; simp)).1
/-- A flow goes to the end of the old ones. -/
theorem CQ.turn (h : CQ c N M s) (hc : CC c M) {i : Nat} {r1 r2 : List Nat} (hh : Head s.fs s.l1 s.l2 i r1 r2) {f : Fl} (hf : CF c M i f) (ho : f.on = 2) (hp : f.ps = (s.fs i).ps) : CQ c N M ⟨upd s.fs i f, r1, r2 ++ [i], s.n⟩ := by
  obtain ⟨n1, n2, nd, s1, s2, hl⟩ := (h.ok hc).rest hh
  have hi := Head.lt h hh
  have hm : ∀ j, j ≠ i → j ∈ s.l1 ∨ j ∈ s.l2 → j ∈ r1 ∨ j ∈ r2 ++ [i] := fun j hne hj => by
    rcases hh with ⟨e1, e2, _⟩ | ⟨e1, e2, e3, _⟩
    · rw [e1, e2] at hj
      simp only [List.mem_cons] at hj
      rcases hj with (hj | hj) | hj
      · exact absurd hj hne
      · exact .inl hj
      · exact .inr (by simp [hj])
    · rw [e1, e3] at hj
      simp only [List.mem_cons, List.not_mem_nil, false_or] at hj
      rcases hj with hj | hj
      · exact absurd hj hne
      · exact .inr (by simp [hj])
  refine h.put hi hf ?_ (fun j hj => ?_) (fun j hj => ?_) hm (fun _ => .inr (by simp)) (fun _ => by rw [ho]; decide) (by rw [hp]) h.le
  · rw [← List.append_assoc, List.nodup_append]
    refine ⟨nd, by simp, fun a ha b hb e => ?_⟩
    rw [List.mem_singleton] at hb
    subst e
    subst hb
    rcases List.mem_append.1 ha with x | x
    · exact n1 x
    · exact n2 x
  · have e : j ≠ i := fun e => n1 (e ▸ hj)
    rw [if_neg e]
    exact s1 j hj
  · by_cases e : j = i
    · rw [if_pos e]
      exact ho
    · rw [if_neg e]
      rcases List.mem_append.1 hj with hj | hj
      · exact s2 j hj
      · exact absurd (List.mem_singleton.1 hj) e
/-- A flow without packets leaves. -/
theorem CQ.gone (h : CQ c N M s) (hc : CC c M) {i : Nat} {r1 r2 : List Nat} (hh : Head s.fs s.l1 s.l2 i r1 r2) {f : Fl} (hf : CF c M i f) (ho : f.on = 0) (hp : f.ps = []) (hp0 : (s.fs i).ps = []) : CQ c N M ⟨upd s.fs i f, r1, r2, s.n⟩ := by
  obtain ⟨n1, n2, nd, s1, s2, hl⟩ := (h.ok hc).rest hh
  have hi := Head.lt h hh
  have hm : ∀ j, j ≠ i → j ∈ s.l1 ∨ j ∈ s.l2 → j ∈ r1 ∨ j ∈ r2 := fun j hne hj => by
    rcases hh with ⟨e1, e2, _⟩ | ⟨e1, e2, e3, _⟩
    · rw [e1, e2] at hj
      simp only [List.mem_cons] at hj
      rcases hj with (hj | hj) | hj
      · exact absurd hj hne
      · exact .inl hj
      · exact .inr hj
    · rw [e1, e3] at hj
      simp only [List.mem_cons, List.not_mem_nil, false_or] at hj
      rcases hj with hj | hj
      · exact absurd hj hne
      · exact .inr hj
  refine h.put hi hf nd (fun j hj => ?_) (fun j hj => ?_) hm (fun x => absurd ho x) (fun x => absurd hp x) (by rw [hp, hp0]) h.le
  · have e : j ≠ i := fun e => n1 (e ▸ hj)
    rw [if_neg e]
    exact s1 j hj
  · have e : j ≠ i := fun e => n2 (e ▸ hj)
    rw [if_neg e]
    exact s2 j hj
theorem CF.put {i : Nat} {f : Fl} (h : CF c M i f) (o : Int) : CF c M i (f.put o) := ⟨⟨h.z.a, h.z.b, h.z.c, h.z.d, h.z.e, h.z.g⟩, h.ps, h.by_, h.id, h.d0, h.d1⟩
theorem CF.quanta {i : Nat} {f : Fl} (h : CF c M i f) (hc : CC c M) (hd : f.deficit ≤ 0) : CF c M i (f.quanta c) ∧ (f.quanta c).deficit = f.deficit + c.quantum := by
  have e : wrap64 (f.deficit + c.quantum) = f.deficit + c.quantum := by
    have := h.d0
    have := hc.m1
    have := hc.q0
    have := hc.q1
    unfold wrap64
    omega
  have e2 : (f.quanta c).deficit = f.deficit + c.quantum := e
  exact ⟨⟨⟨h.z.a, h.z.b, h.z.c, h.z.d, h.z.e, h.z.g⟩, h.ps, h.by_, h.id, by rw [e2]; have := h.d0; have := hc.q0; omega, by rw [e2]; omega⟩, e2⟩
theorem CF.out {i : Nat} {f : Fl} (h : CF c M i f) (hc : CC c M) (hd : 0 < f.deficit) {x : PK} {r : List PK} (hp : f.ps = x :: r) (hl : f.ps.length ≤ 65536) : CF c M i (f.out x r) ∧ (f.out x r).deficit = f.deficit - x.f1 := by
  have hx := h.ps x (by rw [hp]; simp)
  have hq := hc.q1
  have hm := hc.m1
  have hd1 := h.d1
  have e : wrap64 (f.deficit - x.f1) = f.deficit - x.f1 := by
    unfold wrap64
    omega
  have e2 : (f.out x r).deficit = f.deficit - x.f1 := e
  have hr : Small M r := fun y hy => h.ps y (by rw [hp]; simp [hy])
  have hb := octets_bound hr
  have hM : M * r.length ≤ 65535 * 65536 := by
    have : (r.length : Int) ≤ 65536 := by
      rw [hp] at hl
      simp at hl
      omega
    have h2 := Int.mul_le_mul_of_nonneg_right hm (Int.natCast_nonneg r.length)
    omega
  refine ⟨⟨⟨h.z.a, h.z.b, h.z.c, h.z.d, h.z.e, h.z.g⟩, hr, ?_, h.id, by rw [e2]; omega, by rw [e2]; omega⟩, e2⟩
  show wrap64 (f.bytes - x.f1) = octets r
  rw [h.by_, hp]
  simp only [octets]
  unfold wrap64
  omega
theorem CQ.out (h : CQ c N M s) (hc : CC c M) {i : Nat} {r1 r2 : List Nat} (hh : Head s.fs s.l1 s.l2 i r1 r2) (hd : 0 < (s.fs i).deficit) {x : PK} {p : List PK} (hp : (s.fs i).ps = x :: p) : CQ c N M ⟨upd s.fs i ((s.fs i).out x p), s.l1, s.l2, s.n - 1⟩ := by
  have hi := Head.lt h hh
  obtain ⟨hf, _⟩ := (h.f i hi).out hc hd hp (h.plen hi)
  have hon : (s.fs i).on ≠ 0 := h.wt i hi (by rw [hp]; simp)
  refine h.put hi hf h.nd (fun j hj => ?_) (fun j hj => ?_) (fun j _ hj => hj) (fun _ => h.a0 i hi hon) (fun _ => hon) ?_ (by have := h.le; omega)
  · by_cases e : j = i
    · rw [if_pos e]
      exact (h.a1 i (e ▸ hj)).2
    · rw [if_neg e]
      exact hj
  · by_cases e : j = i
    · rw [if_pos e]
      exact (h.a2 i (e ▸ hj)).2
    · rw [if_neg e]
      exact hj
  · rw [hp]
    show s.n - 1 + ((p.length + 1 : Nat) : Int) = s.n + (p.length : Int)
    omega
/-- What Dequeue comes to. -/
inductive DOut (c : Cfg) (s : ST) : DRes → Prop
  | none : s.l1 = [] → s.l2 = [] → DOut c s (s.fs, [], [], s.n, none)
  | some (i : Nat) (r1 r2 : List Nat) (x : PK) (p : List PK) : Head s.fs s.l1 s.l2 i r1 r2 → 0 < (s.fs i).deficit → (s.fs i).ps = x :: p → DOut c s (upd s.fs i ((s.fs i).out x p), s.l1, s.l2, s.n - 1, some (i, x))
theorem CQ.head (h : CQ c N M s) (hc : CC c M) : (s.l1 = [] ∧ s.l2 = []) ∨ ∃ i r1 r2, Head s.fs s.l1 s.l2 i r1 r2 ∧ i < N := (h.ok hc).head
/-- What is true through all of Dequeue's turns. -/
theorem deq_ind (hc : CC c M) (P : ST → Prop)
    (hq : ∀ (s : ST) i r1 r2, CQ c N M s → Head s.fs s.l1 s.l2 i r1 r2 → (s.fs i).deficit ≤ 0 → P s → P ⟨upd s.fs i ((s.fs i).quanta c), r1, r2 ++ [i], s.n⟩)
    (h1 : ∀ (s : ST) i r1 r2, CQ c N M s → Head s.fs s.l1 s.l2 i r1 r2 → 0 < (s.fs i).deficit → (s.fs i).ps = [] → (s.fs i).on = 1 → P s → P ⟨upd s.fs i ((s.fs i).put 2), r1, r2 ++ [i], s.n⟩)
    (h2 : ∀ (s : ST) i r1 r2, CQ c N M s → Head s.fs s.l1 s.l2 i r1 r2 → 0 < (s.fs i).deficit → (s.fs i).ps = [] → (s.fs i).on ≠ 1 → P s → P ⟨upd s.fs i ((s.fs i).put 0), r1, r2, s.n⟩) :
    ∀ (k : Nat) (s : ST) (R : DRes), CQ c N M s → P s → deqGo c k s.fs s.l1 s.l2 s.n = some R → ∃ s', CQ c N M s' ∧ P s' ∧ DOut c s' R
  | 0, s, R, _, _, hR => by simp [deqGo] at hR
  | k + 1, s, R, h, hP, hR => by
    rcases h.head hc with ⟨e1, e2⟩ | ⟨i, r1, r2, hh, hi⟩
    · rw [e1, e2] at hR
      simp only [deqGo] at hR
      have e := Option.some.inj hR
      subst e
      exact ⟨s, h, hP, .none e1 e2⟩
    · rw [hh.step] at hR
      by_cases cd : (s.fs i).deficit ≤ 0
      · rw [if_pos cd] at hR
        have hf := ((h.f i hi).quanta hc cd).1
        exact deq_ind hc P hq h1 h2 k ⟨_, _, _, _⟩ R (h.turn hc hh hf rfl rfl) (hq s i r1 r2 h hh cd hP) hR
      · rw [if_neg cd] at hR
        cases hp : (s.fs i).ps with
        | nil =>
          rw [hp] at hR
          simp only at hR
          by_cases co : (s.fs i).on = 1
          · rw [if_pos co] at hR
            exact deq_ind hc P hq h1 h2 k ⟨_, _, _, _⟩ R (h.turn hc hh ((h.f i hi).put 2) rfl rfl) (h1 s i r1 r2 h hh (by omega) hp co hP) hR
          · rw [if_neg co] at hR
            exact deq_ind hc P hq h1 h2 k ⟨_, _, _, _⟩ R (h.gone hc hh ((h.f i hi).put 0) rfl hp hp) (h2 s i r1 r2 h hh (by omega) hp co hP) hR
        | cons x p =>
          rw [hp] at hR
          simp only at hR
          have e := Option.some.inj hR
          subst e
          exact ⟨s, h, hP, .some i r1 r2 x p hh (by omega) hp⟩
theorem CQ.dout (h : CQ c N M s) (hc : CC c M) {R : DRes} (hR : DOut c s R) : CQ c N M (ST.of R) := by
  cases hR with
  | none e1 e2 =>
    cases s
    simp only at e1 e2
    subst e1
    subst e2
    exact h
  | some i r1 r2 x p hh hd hp => exact h.out hc hh hd hp
/-- How long Dequeue turns. -/
def wgt (fs : Nat → Fl) (a : Nat) : List Nat → Nat
  | [] => 0
  | i :: r => a + (1 - (fs i).deficit).toNat + wgt fs a r
theorem wgt_app (fs : Nat → Fl) (a : Nat) : ∀ (l : List Nat) (i : Nat), wgt fs a (l ++ [i]) = wgt fs a l + (a + (1 - (fs i).deficit).toNat)
  | [], i => by simp [wgt]
  | x :: r, i => by
    simp only [List.cons_append, wgt, wgt_app fs a r i]
    omega
theorem wgt_upd (fs : Nat → Fl) (a : Nat) (f : Fl) (i : Nat) : ∀ (l : List Nat), i ∉ l → wgt (upd fs i f) a l = wgt fs a l
  | [], _ => rfl
  | x :: r, h => by
    simp only [List.mem_cons, not_or] at h
    simp only [wgt]
    rw [upd_ne _ _ (fun e => h.1 e.symm), wgt_upd fs a f i r h.2]
theorem Head.wgt {fs : Nat → Fl} {l1 l2 : List Nat} {i : Nat} {r1 r2 : List Nat} (h : Head fs l1 l2 i r1 r2) : ((fs i).on = 1 ∧ wgt fs 2 l1 + wgt fs 1 l2 = 2 + (1 - (fs i).deficit).toNat + wgt fs 2 r1 + wgt fs 1 r2) ∨ ((fs i).on = 2 ∧ wgt fs 2 l1 + wgt fs 1 l2 = 1 + (1 - (fs i).deficit).toNat + wgt fs 2 r1 + wgt fs 1 r2) := by
  rcases h with ⟨rfl, rfl, ho⟩ | ⟨rfl, rfl, rfl, ho⟩
  · exact .inl ⟨ho, rfl⟩
  · refine .inr ⟨ho, ?_⟩
    simp only [Q.wgt]
    omega
theorem deq_total (hc : CC c M) : ∀ (k : Nat) (s : ST), CQ c N M s → wgt s.fs 2 s.l1 + wgt s.fs 1 s.l2 < k → ∃ R, deqGo c k s.fs s.l1 s.l2 s.n = some R
  | 0, s, _, hk => absurd hk (by omega)
  | k + 1, s, h, hk => by
    rcases h.head hc with ⟨e1, e2⟩ | ⟨i, r1, r2, hh, hi⟩
    · rw [e1, e2]
      exact ⟨_, rfl⟩
    · rw [hh.step]
      obtain ⟨n1, n2, nd, s1, s2, hl⟩ := (h.ok hc).rest hh
      have hw := hh.wgt
      by_cases cd : (s.fs i).deficit ≤ 0
      · rw [if_pos cd]
        obtain ⟨hf, hd⟩ := (h.f i hi).quanta hc cd
        refine deq_total hc k ⟨_, _, _, _⟩ (h.turn hc hh hf rfl rfl) ?_
        show wgt (upd _ _ _) 2 _ + wgt (upd _ _ _) 1 _ < k
        rw [wgt_app, wgt_upd _ _ _ _ _ n1, wgt_upd _ _ _ _ _ n2, upd_at, hd]
        have := hc.q0
        rcases hw with ⟨_, hw⟩ | ⟨_, hw⟩ <;> omega
      · rw [if_neg cd]
        cases hp : (s.fs i).ps with
        | nil =>
          simp only
          by_cases co : (s.fs i).on = 1
          · rw [if_pos co]
            refine deq_total hc k ⟨_, _, _, _⟩ (h.turn hc hh ((h.f i hi).put 2) rfl rfl) ?_
            show wgt (upd _ _ _) 2 _ + wgt (upd _ _ _) 1 _ < k
            rw [wgt_app, wgt_upd _ _ _ _ _ n1, wgt_upd _ _ _ _ _ n2, upd_at]
            simp only [Fl.put]
            rcases hw with ⟨_, hw⟩ | ⟨hw2, hw⟩ <;> omega
          · rw [if_neg co]
            refine deq_total hc k ⟨_, _, _, _⟩ (h.gone hc hh ((h.f i hi).put 0) rfl hp hp) ?_
            show wgt (upd _ _ _) 2 _ + wgt (upd _ _ _) 1 _ < k
            rw [wgt_upd _ _ _ _ _ n1, wgt_upd _ _ _ _ _ n2]
            rcases hw with ⟨_, hw⟩ | ⟨hw2, hw⟩ <;> omega
        | cons x p => exact ⟨_, rfl⟩
end
end Go.Proofs.Ytepolgapbbaklaa.Q
