/- fqcodel: Dequeue walked, where CoDel drops nothing. No condition. -/
import Derived.Test.YtepolgapbbaklaaFqD
import Derived.Test.YtepolgapbbaklaaQ2
import Derived.Deep.Upon
namespace Go.Proofs.Ytepolgapbbaklaa.Q
set_option linter.unusedVariables false
set_option linter.unusedSimpArgs false
open Go.RowKit Go.Proofs.YtepolgapbbaklaaW.PrintWords Go.Proofs.YtepolgapbbaklaaW.PrintLast Go.Proofs.YtepolgapbbaklaaW.PrintMore
def zP : PK := ⟨0, 0, false, 0⟩
structure Zero (f : Fl) : Prop where
  a : f.above = false
  b : f.aboveAt = 0
  c : f.dropping = false
  d : f.next = 0
  e : f.count = 0
  g : f.last = 0
/-- CoDel gives out the first packet, and drops none. -/
def Calm (c : Cfg) (now : Int) (ps : List PK) : Prop := ∃ k, codel_Dequeue.f k c.tg c.iv c.mtu false 0 false 0 0 0 ps now = some (false, 0, false, 0, 0, 0, !ps.isEmpty, (ps.headD zP).f0, (ps.headD zP).f1, (ps.headD zP).f2, (ps.headD zP).f3, false, [], ((ps.length - 1 : Nat) : Int), 0)
/-- The lists and the flows. -/
structure QOk (c : Cfg) (now : Int) (N : Nat) (fs : Nat → Fl) (l1 l2 : List Nat) : Prop where
  nd : (l1 ++ l2).Nodup
  a1 : ∀ i ∈ l1, i < N ∧ (fs i).on = 1
  a2 : ∀ i ∈ l2, i < N ∧ (fs i).on = 2
  z : ∀ i, i < N → Zero (fs i) ∧ Calm c now (fs i).ps
  len : l1.length + l2.length ≤ N
def Fl.quanta (f : Fl) (c : Cfg) : Fl := { f with deficit := wrap64 (f.deficit + c.quantum), on := 2 }
def Fl.out (f : Fl) (x : PK) (r : List PK) : Fl := { f.cut x r with deficit := wrap64 (f.deficit - x.f1) }
def Fl.put (f : Fl) (o : Int) : Fl := { f with on := o }
abbrev DRes : Type := (Nat → Fl) × List Nat × List Nat × Int × Option (Nat × PK)
/-- What Dequeue does, turn by turn. -/
def deqGo (c : Cfg) : Nat → (Nat → Fl) → List Nat → List Nat → Int → Option DRes
  | 0, _, _, _, _ => none
  | k + 1, fs, l1, l2, n => match l1 with
    | i :: r =>
      if (fs i).deficit ≤ 0 then deqGo c k (upd fs i ((fs i).quanta c)) r (l2 ++ [i]) n
      else match (fs i).ps with
        | [] => deqGo c k (upd fs i ((fs i).put 2)) r (l2 ++ [i]) n
        | x :: p => some (upd fs i ((fs i).out x p), i :: r, l2, n - 1, some (i, x))
    | [] => match l2 with
      | i :: r =>
        if (fs i).deficit ≤ 0 then deqGo c k (upd fs i ((fs i).quanta c)) [] (r ++ [i]) n
        else match (fs i).ps with
          | [] => deqGo c k (upd fs i ((fs i).put 0)) [] r n
          | x :: p => some (upd fs i ((fs i).out x p), [], i :: r, n - 1, some (i, x))
      | [] => some (fs, [], [], n, none)
/-- The answer. -/
def resV (fs : Nat → Fl) : Option (Nat × PK) → Value
  | none => .agg #[.bool false, .int .i64 0, .int .i64 0, .int .i64 0, .bool false, .int .i64 0, .bool false, .slice none 0 0]
  | some (i, x) => .agg #[.bool true, .int .i64 (fs i).id, .int .i64 x.f0, .int .i64 x.f1, .bool x.f2, .int .i64 x.f3, .bool false, .slice none 0 0]
theorem info41s : (Try.prog.info? 41).map (·.size) = some 4 := by kernel_rfl
theorem app0 (A : Option Addr) (c : Nat) (w : World) : (Builtin.append_ #[39, 39] 39 #[.slice none 0 0, .slice A 0 c]).run Try.prog w = .ok (.slice none 0 0) w := by
  obtain ⟨i, hi, hs⟩ := Option.map_eq_some_iff.1 info41s
  cases A <;> simp [Builtin.append_, run_underlying Try.underlying39, Go.sizeOf, Go.typeInfo, hi, Builtin.lenOf, Builtin.firstCells, storeCells, loadCells, loadCellsFrom]
theorem app_step {ops : Array Oper} {rest : List Oper} {o : Oper} {a : Act} {w : World} {Q' : Exit → Act → World → Prop} (hgd : o.guard = none) (s x : Operand) (ho : o.op = .call { callee := .builtin .append, args := #[s, x], argTypes := #[39, 39] }) (hty : o.type = 39) (A : Option Addr) (c : Nat) (hs : a.eval s = .slice none 0 0) (hx : a.eval x = .slice A 0 c) (h : wpList Try.prog ops Q' rest (a.put o.dst (.slice none 0 0)) w) : wpList Try.prog ops Q' (o :: rest) a w := by
  have hr := app0 A c w
  refine wpList_plain hgd fun K hK => ?_
  unfold Oper.wp execOp
  simp only [ho, hty, resolve, invoke, builtin, Sem.run_bind, Sem.run_pure, Result.andThen_ok, List.map_toArray, List.map_cons, List.map_nil, hs, hx, hr]
  exact hK _ _ h
/-- The flow whose turn it is, and the lists behind it. -/
def Head (fs : Nat → Fl) (m1 m2 : List Nat) (i : Nat) (r1 r2 : List Nat) : Prop := (m1 = i :: r1 ∧ m2 = r2 ∧ (fs i).on = 1) ∨ (m1 = [] ∧ r1 = [] ∧ m2 = i :: r2 ∧ (fs i).on = 2)
theorem Head.first {fs : Nat → Fl} {m1 m2 : List Nat} {i : Nat} {r1 r2 : List Nat} (h : Head fs m1 m2 i r1 r2) : firstOf m1 m2 = some i := by
  rcases h with ⟨rfl, rfl, _⟩ | ⟨rfl, rfl, rfl, _⟩ <;> rfl
theorem Head.step {c : Cfg} {fs : Nat → Fl} {m1 m2 : List Nat} {i : Nat} {r1 r2 : List Nat} (h : Head fs m1 m2 i r1 r2) (k : Nat) (n : Int) :
    deqGo c (k + 1) fs m1 m2 n = if (fs i).deficit ≤ 0 then deqGo c k (upd fs i ((fs i).quanta c)) r1 (r2 ++ [i]) n
      else match (fs i).ps with
        | [] => if (fs i).on = 1 then deqGo c k (upd fs i ((fs i).put 2)) r1 (r2 ++ [i]) n else deqGo c k (upd fs i ((fs i).put 0)) r1 r2 n
        | x :: p => some (upd fs i ((fs i).out x p), m1, m2, n - 1, some (i, x)) := by
  rcases h with ⟨rfl, rfl, ho⟩ | ⟨rfl, rfl, rfl, ho⟩
  · simp only [deqGo, ho, if_true]
  · simp only [deqGo]
    rw [if_neg (show ¬ (fs i).on = 1 by rw [ho]; decide)]
theorem QOk.head {c : Cfg} {now : Int} {N : Nat} {fs : Nat → Fl} {m1 m2 : List Nat} (h : QOk c now N fs m1 m2) : (m1 = [] ∧ m2 = []) ∨ ∃ i r1 r2, Head fs m1 m2 i r1 r2 ∧ i < N := by
  cases m1 with
  | cons i r => exact .inr ⟨i, r, m2, .inl ⟨rfl, rfl, (h.a1 i (by simp)).2⟩, (h.a1 i (by simp)).1⟩
  | nil =>
    cases m2 with
    | nil => exact .inl ⟨rfl, rfl⟩
    | cons i r => exact .inr ⟨i, [], r, .inr ⟨rfl, rfl, rfl, (h.a2 i (by simp)).2⟩, (h.a2 i (by simp)).1⟩
theorem QOk.rest {c : Cfg} {now : Int} {N : Nat} {fs : Nat → Fl} {m1 m2 : List Nat} {i : Nat} {r1 r2 : List Nat} (h : QOk c now N fs m1 m2) (hh : Head fs m1 m2 i r1 r2) : i ∉ r1 ∧ i ∉ r2 ∧ (r1 ++ r2).Nodup ∧ (∀ j ∈ r1, j ∈ m1) ∧ (∀ j ∈ r2, j ∈ m2) ∧ r1.length + r2.length + 1 = m1.length + m2.length := by
  have nd := h.nd
  rcases hh with ⟨rfl, rfl, _⟩ | ⟨rfl, rfl, rfl, _⟩
  · rw [List.cons_append, List.nodup_cons] at nd
    refine ⟨fun x => nd.1 (by simp [x]), fun x => nd.1 (by simp [x]), nd.2, fun j hj => by simp [hj], fun j hj => hj, by simp; omega⟩
  · rw [List.nil_append, List.nodup_cons] at nd
    exact ⟨by simp, nd.1, by simpa using nd.2, fun j hj => hj, fun j hj => by simp [hj], by simp⟩
theorem QOk.turn {c : Cfg} {now : Int} {N : Nat} {fs : Nat → Fl} {m1 m2 : List Nat} {i : Nat} {r1 r2 : List Nat} (h : QOk c now N fs m1 m2) (hh : Head fs m1 m2 i r1 r2) (hi : i < N) {f : Fl} (ho : f.on = 2) (hz : Zero f) (hc : Calm c now f.ps) : QOk c now N (upd fs i f) r1 (r2 ++ [i]) := by
  obtain ⟨n1, n2, nd, s1, s2, hl⟩ := h.rest hh
  refine ⟨?_, fun j hj => ?_, fun j hj => ?_, fun j hj => ?_, by have := h.len; simp; omega⟩
  · rw [← List.append_assoc, List.nodup_append]
    refine ⟨nd, by simp, fun a ha b hb e => ?_⟩
    rw [List.mem_singleton] at hb
    subst e
    subst hb
    rcases List.mem_append.1 ha with x | x
    · exact n1 x
    · exact n2 x
  · have hne : j ≠ i := fun e => n1 (e ▸ hj)
    rw [upd_ne _ _ hne]
    exact h.a1 j (s1 j hj)
  · rcases List.mem_append.1 hj with hj | hj
    · have hne : j ≠ i := fun e => n2 (e ▸ hj)
      rw [upd_ne _ _ hne]
      exact h.a2 j (s2 j hj)
    · rw [List.mem_singleton] at hj
      subst hj
      rw [upd_at]
      exact ⟨hi, ho⟩
  · by_cases e : j = i
    · subst e
      rw [upd_at]
      exact ⟨hz, hc⟩
    · rw [upd_ne _ _ e]
      exact h.z j hj
theorem QOk.gone {c : Cfg} {now : Int} {N : Nat} {fs : Nat → Fl} {m1 m2 : List Nat} {i : Nat} {r1 r2 : List Nat} (h : QOk c now N fs m1 m2) (hh : Head fs m1 m2 i r1 r2) {f : Fl} (hz : Zero f) (hc : Calm c now f.ps) : QOk c now N (upd fs i f) r1 r2 := by
  obtain ⟨n1, n2, nd, s1, s2, hl⟩ := h.rest hh
  refine ⟨nd, fun j hj => ?_, fun j hj => ?_, fun j hj => ?_, by have := h.len; omega⟩
  · have hne : j ≠ i := fun e => n1 (e ▸ hj)
    rw [upd_ne _ _ hne]
    exact h.a1 j (s1 j hj)
  · have hne : j ≠ i := fun e => n2 (e ▸ hj)
    rw [upd_ne _ _ hne]
    exact h.a2 j (s2 j hj)
  · by_cases e : j = i
    · subst e
      rw [upd_at]
      exact ⟨hz, hc⟩
    · rw [upd_ne _ _ e]
      exact h.z j hj
theorem leave_any {w W : World} {q fb N : Nat} {c : Cfg} {fs : Nat → Fl} {rv : Nat → Value} {v1 v2 : Value} {m1 m2 : List Nat} {n now : Int} {i : Nat} {r1 r2 : List Nat} (h : FQ w W q fb N c fs rv v1 v2 m1 m2 n now) (hi : i < N) (hh : Head fs m1 m2 i r1 r2) :
    Calls Try.prog 25 #[.pointer (some ⟨q, 0, none⟩), .pointer (some ⟨fb, i * 11, none⟩)] W fun e W' => e = .returned (.tuple #[]) ∧ (∃ u1 u2, FQ w W' q fb N c fs rv u1 u2 r1 r2 n now ∧ u1.ownBlock = v1.ownBlock ∧ u2.ownBlock = v2.ownBlock) ∧ Kept W W' (fun k => k = q) := by
  rcases hh with ⟨rfl, rfl, ho⟩ | ⟨rfl, rfl, rfl, ho⟩
  · refine (leave1 h hi ho).mono ?_
    rintro e w' ⟨he, ⟨v', hf, hv⟩, hk⟩
    exact ⟨he, ⟨v', v2, hf, hv, rfl⟩, hk⟩
  · refine (leave2 h hi ho).mono ?_
    rintro e w' ⟨he, ⟨v', hf, hv⟩, hk⟩
    exact ⟨he, ⟨v1, v', hf, rfl, hv⟩, hk⟩
theorem FQ.setF {w W : World} {q fb N : Nat} {c : Cfg} {fs : Nat → Fl} {rv : Nat → Value} {v1 v2 : Value} {l1 l2 : List Nat} {n now : Int} (h : FQ w W q fb N c fs rv v1 v2 l1 l2 n now) {i : Nat} (hi : i < N) (j : Nat) (hj : j < 11) (u : Value) (f : Fl) (hc : ((fs i).cells (rv i)).setIfInBounds j u = f.cells (rv i)) (hp : f.ps = (fs i).ps) : FQ w (W.setCell ⟨fb, i * 11 + j, none⟩ u) q fb N c (upd fs i f) rv v1 v2 l1 l2 n now := by
  have h2 := FR.putF h hi j hj u
  unfold FQ
  rw [← cells_upd' fs rv i f, ← ps_same fs i f hp, ← hc]
  exact h2
/-- The state in the midst of Dequeue. -/
structure DS (w W0 W : World) (q fb N : Nat) (c : Cfg) (rv0 : Nat → Value) (v10 v20 : Value) (fs : Nat → Fl) (l1 l2 : List Nat) (n now : Int) (g4 : Nat) (rv : Nat → Value) (v1 v2 : Value) : Prop where
  F : FQ w W q fb N c fs rv v1 v2 l1 l2 n now
  K4 : W.heap[g4]? = some (.cells #[.bool false, .int .i64 0, .int .i64 0, .int .i64 0, .bool false, .int .i64 0, .bool false, .slice none 0 0] 47 (0, 0))
  G4 : W0.heap.size ≤ g4
  KK : Kept W0 W (Mine q fb N rv0 v10 v20)
  MO : ∀ k, Mine q fb N rv v1 v2 k → Mine q fb N rv0 v10 v20 k ∨ W0.heap.size ≤ k
theorem DS.nm {w W0 W : World} {q fb N : Nat} {c : Cfg} {rv0 : Nat → Value} {v10 v20 : Value} {fs : Nat → Fl} {m1 m2 : List Nat} {n now : Int} {g4 : Nat} {rv : Nat → Value} {u1 u2 : Value} (d : DS w W0 W q fb N c rv0 v10 v20 fs m1 m2 n now g4 rv u1 u2) : ¬ Mine q fb N rv u1 u2 g4 :=
  FR.other d.F d.K4 (by decide) (by decide) (by decide) (by decide)
theorem DS.call {w W0 W W' : World} {q fb N : Nat} {c : Cfg} {rv0 : Nat → Value} {v10 v20 : Value} {fs fs' : Nat → Fl} {m1 m2 r1 r2 : List Nat} {n n' now : Int} {g4 : Nat} {rv rv' : Nat → Value} {u1 u2 u1' u2' : Value} (d : DS w W0 W q fb N c rv0 v10 v20 fs m1 m2 n now g4 rv u1 u2)
    (hf : FQ w W' q fb N c fs' rv' u1' u2' r1 r2 n' now) {S : Nat → Prop} (hk : Kept W W' S) (hS : ∀ k, S k → Mine q fb N rv u1 u2 k) (hm : ∀ k, Mine q fb N rv' u1' u2' k → Mine q fb N rv u1 u2 k ∨ W.heap.size ≤ k) : DS w W0 W' q fb N c rv0 v10 v20 fs' r1 r2 n' now g4 rv' u1' u2' :=
  ⟨hf, (hk.2 g4 (blk_lt d.K4) (fun s => d.nm (hS g4 s))).trans d.K4, d.G4, d.KK.then_ hk (fun k h => d.MO k (hS k h)), fun k h => by
    rcases hm k h with h | h
    · exact d.MO k h
    · exact .inr (Nat.le_trans d.KK.1 h)⟩
theorem DS.call2 {w W0 W W' : World} {q fb N : Nat} {c : Cfg} {rv0 : Nat → Value} {v10 v20 : Value} {fs fs' : Nat → Fl} {m1 m2 r1 r2 : List Nat} {n n' now : Int} {g4 : Nat} {rv rv' : Nat → Value} {u1 u2 u1' u2' : Value} (d : DS w W0 W q fb N c rv0 v10 v20 fs m1 m2 n now g4 rv u1 u2)
    (hf : FQ w W' q fb N c fs' rv' u1' u2' r1 r2 n' now) {S : Nat → Prop} (hk : Kept W W' S) (hS : ∀ k, S k → Mine q fb N rv u1 u2 k ∨ W0.heap.size ≤ k) (h4 : ¬ S g4) (hm : ∀ k, Mine q fb N rv' u1' u2' k → Mine q fb N rv u1 u2 k ∨ W.heap.size ≤ k) : DS w W0 W' q fb N c rv0 v10 v20 fs' r1 r2 n' now g4 rv' u1' u2' :=
  ⟨hf, (hk.2 g4 (blk_lt d.K4) h4).trans d.K4, d.G4, d.KK.then_ hk (fun k h => by
    rcases hS k h with h | h
    · exact d.MO k h
    · exact .inr h), fun k h => by
    rcases hm k h with h | h
    · exact d.MO k h
    · exact .inr (Nat.le_trans d.KK.1 h)⟩
theorem DS.step {w W0 W W' : World} {q fb N : Nat} {c : Cfg} {rv0 : Nat → Value} {v10 v20 : Value} {fs : Nat → Fl} {m1 m2 : List Nat} {n now : Int} {g4 : Nat} {rv : Nat → Value} {u1 u2 : Value} (d : DS w W0 W q fb N c rv0 v10 v20 fs m1 m2 n now g4 rv u1 u2) (hb : Below W.heap.size W W') : DS w W0 W' q fb N c rv0 v10 v20 fs m1 m2 n now g4 rv u1 u2 :=
  d.call (FR.step d.F hb) (Kept.of_below hb (fun _ => False)) (fun _ h => h.elim) (fun _ h => .inl h)
theorem mine_same {q fb N : Nat} {rv rv' : Nat → Value} {u1 u2 u1' u2' : Value} (hr : ∀ i, i < N → (rv' i).ownBlock = (rv i).ownBlock) (h1 : u1'.ownBlock = u1.ownBlock) (h2 : u2'.ownBlock = u2.ownBlock) {k : Nat} (h : Mine q fb N rv' u1' u2' k) : Mine q fb N rv u1 u2 k := by
  rcases h with h | h | ⟨i, hi, h⟩ | h | h
  · exact .inl h
  · exact .inr (.inl h)
  · exact .inr (.inr (.inl ⟨i, hi, by rw [← hr i hi]; exact h⟩))
  · exact .inr (.inr (.inr (.inl (by rw [← h1]; exact h))))
  · exact .inr (.inr (.inr (.inr (by rw [← h2]; exact h))))
theorem mine_put2 {q fb N b : Nat} {rv : Nat → Value} {u1 u2 u2' : Value} (h2 : u2'.ownBlock = u2.ownBlock ∨ ∃ k, u2'.ownBlock = some k ∧ b ≤ k) {k : Nat} (h : Mine q fb N rv u1 u2' k) : Mine q fb N rv u1 u2 k ∨ b ≤ k := by
  rcases h with h | h | h | h | h
  · exact .inl (.inl h)
  · exact .inl (.inr (.inl h))
  · exact .inl (.inr (.inr (.inl h)))
  · exact .inl (.inr (.inr (.inr (.inl h))))
  · rcases h2 with h2 | ⟨k', h2, hle⟩
    · exact .inl (.inr (.inr (.inr (.inr (by rw [← h2]; exact h)))))
    · rw [h2] at h
      exact .inr (by have := Option.some.inj h; omega)
theorem cz8 {W : World} {g : Nat} {v0 v1 v2 v3 v4 v5 v6 v7 : Value} {t : TypeId} (h : W.heap[g]? = some (.cells #[v0, v1, v2, v3, v4, v5, v6, v7] t (0, 0))) : (W.cell? ⟨g, 0, none⟩ = some v0 ∧ W.cell? ⟨g, 1, none⟩ = some v1 ∧ W.cell? ⟨g, 2, none⟩ = some v2 ∧ W.cell? ⟨g, 3, none⟩ = some v3 ∧ W.cell? ⟨g, 4, none⟩ = some v4 ∧ W.cell? ⟨g, 5, none⟩ = some v5 ∧ W.cell? ⟨g, 6, none⟩ = some v6 ∧ W.cell? ⟨g, 7, none⟩ = some v7) ∧
    (W.frozen? ⟨g, 0, none⟩ = false ∧ W.frozen? ⟨g, 1, none⟩ = false ∧ W.frozen? ⟨g, 2, none⟩ = false ∧ W.frozen? ⟨g, 3, none⟩ = false ∧ W.frozen? ⟨g, 4, none⟩ = false ∧ W.frozen? ⟨g, 5, none⟩ = false ∧ W.frozen? ⟨g, 6, none⟩ = false ∧ W.frozen? ⟨g, 7, none⟩ = false) :=
  ⟨⟨(blk_cell h 0).trans rfl, (blk_cell h 1).trans rfl, (blk_cell h 2).trans rfl, (blk_cell h 3).trans rfl, (blk_cell h 4).trans rfl, (blk_cell h 5).trans rfl, (blk_cell h 6).trans rfl, (blk_cell h 7).trans rfl⟩, ⟨blk_frozen h 0, blk_frozen h 1, blk_frozen h 2, blk_frozen h 3, blk_frozen h 4, blk_frozen h 5, blk_frozen h 6, blk_frozen h 7⟩⟩
theorem FQ.state {w W : World} {q fb N : Nat} {c : Cfg} {fs : Nat → Fl} {rv : Nat → Value} {v1 v2 : Value} {l1 l2 : List Nat} {n now : Int} (h : FQ w W q fb N c fs rv v1 v2 l1 l2 n now) {i : Nat} (hi : i < N) (z : Zero (fs i)) :
    (W.cell? ⟨fb, i * 11 + 3, none⟩ = some (.bool false) ∧ W.cell? ⟨fb, i * 11 + 4, none⟩ = some (.int .i64 0) ∧ W.cell? ⟨fb, i * 11 + 5, none⟩ = some (.bool false) ∧ W.cell? ⟨fb, i * 11 + 6, none⟩ = some (.int .i64 0) ∧ W.cell? ⟨fb, i * 11 + 7, none⟩ = some (.int .i64 0) ∧ W.cell? ⟨fb, i * 11 + 8, none⟩ = some (.int .i64 0)) ∧
    (W.frozen? ⟨fb, i * 11 + 3, none⟩ = false ∧ W.frozen? ⟨fb, i * 11 + 4, none⟩ = false ∧ W.frozen? ⟨fb, i * 11 + 5, none⟩ = false ∧ W.frozen? ⟨fb, i * 11 + 6, none⟩ = false ∧ W.frozen? ⟨fb, i * 11 + 7, none⟩ = false ∧ W.frozen? ⟨fb, i * 11 + 8, none⟩ = false) :=
  ⟨⟨(h.zf hi 3 (by omega)).1.trans (by rw [← z.a]; rfl), (h.zf hi 4 (by omega)).1.trans (by rw [← z.b]; rfl), (h.zf hi 5 (by omega)).1.trans (by rw [← z.c]; rfl), (h.zf hi 6 (by omega)).1.trans (by rw [← z.d]; rfl), (h.zf hi 7 (by omega)).1.trans (by rw [← z.e]; rfl), (h.zf hi 8 (by omega)).1.trans (by rw [← z.g]; rfl)⟩,
   ⟨(h.zf hi 3 (by omega)).2, (h.zf hi 4 (by omega)).2, (h.zf hi 5 (by omega)).2, (h.zf hi 6 (by omega)).2, (h.zf hi 7 (by omega)).2, (h.zf hi 8 (by omega)).2⟩⟩
/-- A cell that is written as it is. -/
theorem FQ.again {w W : World} {q fb N : Nat} {c : Cfg} {fs : Nat → Fl} {rv : Nat → Value} {v1 v2 : Value} {l1 l2 : List Nat} {n now : Int} (h : FQ w W q fb N c fs rv v1 v2 l1 l2 n now) {i : Nat} (hi : i < N) (j : Nat) (hj : j < 11) (u : Value) (hc : ((fs i).cells (rv i)).setIfInBounds j u = (fs i).cells (rv i)) : FQ w (W.setCell ⟨fb, i * 11 + j, none⟩ u) q fb N c fs rv v1 v2 l1 l2 n now := by
  have h2 := FQ.setF h hi j hj u (fs i) hc rfl
  rw [upd_self] at h2
  exact h2
theorem Head.upd {fs : Nat → Fl} {m1 m2 : List Nat} {i : Nat} {r1 r2 : List Nat} (h : Head fs m1 m2 i r1 r2) {f : Fl} (ho : f.on = (fs i).on) : Head (Q.upd fs i f) m1 m2 i r1 r2 := by
  unfold Head
  rw [upd_at, ho]
  exact h
set_option maxHeartbeats 8000000 in
set_option maxRecDepth 100000 in
theorem Deq_in {w W : World} {q fb N : Nat} {c : Cfg} {fs : Nat → Fl} {rv : Nat → Value} {v1 v2 : Value} {l1 l2 : List Nat} {n now0 now : Int} (h : FQ w W q fb N c fs rv v1 v2 l1 l2 n now0) (hM : N ≤ 1024) (h0 : now0 ≤ now) (h1 : now ≤ 1099511627776) (hn : 0 ≤ n ∧ n ≤ 70000) (ok : QOk c now N fs l1 l2) (k : Nat) (R : DRes) (hR : deqGo c k fs l1 l2 n = some R) :
    Calls Try.prog 13 #[.pointer (some ⟨q, 0, none⟩), .int .i64 now] W fun e W' => e = .returned (.tuple #[resV R.1 R.2.2.2.2, .int .i64 0]) ∧ ∃ rv' v1' v2', FQ w W' q fb N c R.1 rv' v1' v2' R.2.1 R.2.2.1 R.2.2.2.1 now ∧ Kept W W' (Mine q fb N rv v1 v2) ∧ ∀ k, Mine q fb N rv' v1' v2' k → Mine q fb N rv v1 v2 k ∨ W.heap.size ≤ k := by
  have hu := Try.underlying66
  have hu73 := Try.underlying73
  have hu41 := Try.underlying41
  have hu34 := Try.underlying34
  have hu32 := Try.underlying32
  have hu71 := Try.underlying71
  have hu47 := Try.underlying47
  have hu80 := Try.underlying80
  have HH := Aside0.mk h
  have HM := Aside0.mk hM
  have HNN := Aside0.mk hn
  have HOK := Aside0.mk ok
  have HR := Aside0.mk hR
  have b4 : (now < now0) = False := eq_false (by omega)
  have b5 : ((1099511627776 : Int) < now) = False := eq_false (by omega)
  clear h hM h0 h1 hn ok hR
  go_enter Try.func13, Try.ntmps13
  go_upto_region 6 with (first
    | ((with_reducible refine gate_dst (N := 4) rfl ?_); refine box_event ?hg (N := 4) ?hd (cs := #[.bool false, .int .i64 0, .int .i64 0, .int .i64 0, .bool false, .int .i64 0, .bool false, .slice none 0 0]) (t := 47) ?hr ?_; (case hd => rfl); (case hg => rfl); (case hr => first | (go_simp; done) | (go_simp; rfl)); intro g4 e_ w4 k_ b_; have E4 := Aside0.mk e_; have B4 := Aside0.mk b_; have K4 := Aside0.mk k_; have H4 := Aside0.mk (FR.step HH.out b_); clear e_ b_ k_; have HNO := Aside0.mk (none_in ((FQ.zq H4.out 6).1.trans rfl)); have z11 : w4.cell? ⟨q, 11, none⟩ = some (.int .i64 now0) := (FQ.zq H4.out 11).1.trans rfl; have f11 : w4.frozen? ⟨q, 11, none⟩ = false := (FQ.zq H4.out 11).2)
    | (go_at_call 20; (with_reducible refine Calls.mono HNO.out ?_); rintro e w6 ⟨rfl, rfl⟩))
  have g4h : W.heap.size ≤ g4 := by have := E4.out; omega
  have nm : ¬ Mine q fb N rv v1 v2 g4 := fun hm => Nat.lt_irrefl _ (Nat.lt_of_lt_of_le (FR.lt HH.out hm) g4h)
  have n1 : DS w W (w4.setCell ⟨q, 11, none⟩ (.int .i64 now)) q fb N c rv v1 v2 fs l1 l2 n now g4 rv v1 v2 :=
    ⟨FR.putQ H4.out 11 (.int .i64 now), blk_far (p := ⟨q, 11, none⟩) K4.out (fun e => nm (.inl e)) _, g4h, ((Kept.refl W (Mine q fb N rv v1 v2)).below B4.out).setCell (p := ⟨q, 11, none⟩) (.inl (.inl rfl)) _, fun k hk => .inl hk⟩
  generalize w4.setCell ⟨q, 11, none⟩ (.int .i64 now) = W1 at n1 ⊢
  have D1 := Aside0.mk n1
  obtain ⟨P1, hP1⟩ : ∃ P1 : Option Addr, ((firstOf l1 l2).map fun i => (⟨fb, i * 11, none⟩ : Addr)) = P1 := ⟨_, rfl⟩
  have hf1 := first_in n1.F
  rw [hP1] at hf1
  have HF1 := Aside0.mk hf1
  have HP1 := Aside0.mk hP1
  clear hf1 hP1
  clear n1 nm g4h z11 f11 b4 b5
  go_wp2_with (go_at_call 24; (with_reducible refine Calls.mono HF1.out ?_); rintro e w6 ⟨rfl, rfl⟩)
  go_loopg [6] k (fun kq v6 wr => ∃ (fs' : Nat → Fl) (m1 m2 : List Nat) (rv' : Nat → Value) (u1 u2 : Value), v6 = .pointer ((firstOf m1 m2).map fun i => ⟨fb, i * 11, none⟩) ∧ Aside0 (deqGo c kq fs' m1 m2 n = some R) ∧ Aside0 (kq ≤ k) ∧ Aside0 (DS w W wr q fb N c rv v1 v2 fs' m1 m2 n now g4 rv' u1 u2) ∧ Aside0 (QOk c now N fs' m1 m2))
  case atStart => exact ⟨fs, l1, l2, rv, v1, v2, by rw [HP1.out], HR, ⟨Nat.le_refl _⟩, D1, HOK⟩
  case round =>
    obtain ⟨fs', m1, m2, rv', u1, u2, rfl, HA, HK1, D2, OK2⟩ := hrel
    cases gk with
    | zero => exact absurd HA.out (by simp [deqGo])
    | succ k1 =>
      rcases OK2.out.head with ⟨rfl, rfl⟩ | ⟨i, r1, r2, hh, hi⟩
      · have e := HA.out
        simp only [deqGo] at e
        have e := Option.some.inj e
        subst e
        have z40 : wr.cell? ⟨g4, 0, none⟩ = some (.bool false) := (blk_cell D2.out.K4 0).trans rfl
        have z41 : wr.cell? ⟨g4, 1, none⟩ = some (.int .i64 0) := (blk_cell D2.out.K4 1).trans rfl
        have z42 : wr.cell? ⟨g4, 2, none⟩ = some (.int .i64 0) := (blk_cell D2.out.K4 2).trans rfl
        have z43 : wr.cell? ⟨g4, 3, none⟩ = some (.int .i64 0) := (blk_cell D2.out.K4 3).trans rfl
        have z44 : wr.cell? ⟨g4, 4, none⟩ = some (.bool false) := (blk_cell D2.out.K4 4).trans rfl
        have z45 : wr.cell? ⟨g4, 5, none⟩ = some (.int .i64 0) := (blk_cell D2.out.K4 5).trans rfl
        have z46 : wr.cell? ⟨g4, 6, none⟩ = some (.bool false) := (blk_cell D2.out.K4 6).trans rfl
        have z47 : wr.cell? ⟨g4, 7, none⟩ = some (.slice none 0 0) := (blk_cell D2.out.K4 7).trans rfl
        have zf0 := blk_frozen D2.out.K4 0
        have zf1 := blk_frozen D2.out.K4 1
        have zf2 := blk_frozen D2.out.K4 2
        have zf3 := blk_frozen D2.out.K4 3
        have zf4 := blk_frozen D2.out.K4 4
        have zf5 := blk_frozen D2.out.K4 5
        have zf6 := blk_frozen D2.out.K4 6
        have zf7 := blk_frozen D2.out.K4 7
        simp only [firstOf, Option.map_none]
        go_wp2
        have nm := D2.out.nm
        have wg : w.heap.size ≤ g4 := Nat.le_trans (below_size (FR.B HH.out)) D2.out.G4
        refine bodyPost_ret (results_ct rfl _ _ g4 47 #[.bool false, .int .i64 0, .int .i64 0, .int .i64 0, .bool false, .int .i64 0, .bool false, .slice none 0 0] (0, 0) _ rfl (blk_set (blk_set (blk_set (blk_set (blk_set (blk_set (blk_set (blk_set D2.out.K4 0 _) 1 _) 2 _) 3 _) 4 _) 5 _) 6 _) 7 _) hu47 rfl (by kernel_rfl)) rfl ?_
        exact ⟨rfl, _, _, _, FR.far (FR.far (FR.far (FR.far (FR.far (FR.far (FR.far (FR.far D2.out.F wg nm 0 _) wg nm 1 _) wg nm 2 _) wg nm 3 _) wg nm 4 _) wg nm 5 _) wg nm 6 _) wg nm 7 _,
          (((((((D2.out.KK.setCell (p := ⟨g4, 0, none⟩) (.inr D2.out.G4) _).setCell (p := ⟨g4, 1, none⟩) (.inr D2.out.G4) _).setCell (p := ⟨g4, 2, none⟩) (.inr D2.out.G4) _).setCell (p := ⟨g4, 3, none⟩) (.inr D2.out.G4) _).setCell (p := ⟨g4, 4, none⟩) (.inr D2.out.G4) _).setCell (p := ⟨g4, 5, none⟩) (.inr D2.out.G4) _).setCell (p := ⟨g4, 6, none⟩) (.inr D2.out.G4) _).setCell (p := ⟨g4, 7, none⟩) (.inr D2.out.G4) _, D2.out.MO⟩
      · rw [hh.first]
        simp only [Option.map_some]
        have e := HA.out
        rw [hh.step] at e
        clear HA
        have z9 : wr.cell? ⟨fb, i * 11 + 9, none⟩ = some (.int .i64 (fs' i).deficit) := (FQ.zf D2.out.F hi 9 (by omega)).1.trans rfl
        have f9 : wr.frozen? ⟨fb, i * 11 + 9, none⟩ = false := (FQ.zf D2.out.F hi 9 (by omega)).2
        have zq2 : wr.cell? ⟨q, 2, none⟩ = some (.int .i64 c.quantum) := (FQ.zq D2.out.F 2).1.trans rfl
        have HHD := Aside0.mk hh
        have HI := Aside0.mk hi
        clear hh hi
        by_cases cd : (fs' i).deficit ≤ 0
        · rw [if_pos cd] at e
          have HE := Aside0.mk e
          have cdt : decide ((fs' i).deficit ≤ 0) = true := decide_eq_true cd
          clear e cd
          go_upto_region 10 with (fail)
          go_region
          have n1 := FR.drew (FQ.setF D2.out.F HI.out 9 (by omega) (.int .i64 (wrap64 ((fs' i).deficit + c.quantum))) { fs' i with deficit := wrap64 ((fs' i).deficit + c.quantum) } rfl rfl)
          have D3 := Aside0.mk (D2.out.call n1 (S := fun k => k = fb) ((Kept.refl wr (fun k => k = fb)).setCell (p := ⟨fb, i * 11 + 9, none⟩) (.inl rfl) (.int .i64 (wrap64 ((fs' i).deficit + c.quantum)))).drew (fun k h => .inr (.inl h)) (fun k h => .inl h))
          clear n1 z9 f9 zq2 cdt
          generalize (wr.setCell ⟨fb, i * 11 + 9, none⟩ (.int .i64 (wrap64 ((fs' i).deficit + c.quantum)))).drew = W3 at D3 ⊢
          have HLV := Aside0.mk (leave_any D3.out.F HI.out (HHD.out.upd (f := { fs' i with deficit := wrap64 ((fs' i).deficit + c.quantum) }) rfl))
          have HLN := Aside0.mk (show r2.length ≤ 65536 by have h1 := (OK2.out.rest HHD.out).2.2.2.2.2; have h2 := OK2.out.len; have h3 := HM.out; omega)
          go_wp2_with (first
            | (go_at_call 25; (with_reducible refine Calls.mono HLV.out ?_); rintro e w7 ⟨rfl, ⟨u3, u4, hf, e3, e4⟩, hk⟩; have D4 := Aside0.mk (D3.out.call hf hk (fun k h => .inl h) (fun k h => .inl (mine_same (fun _ _ => rfl) e3 e4 h))); have HPT := Aside0.mk (put2 D4.out.F HI.out HLN.out); clear hf e3 e4 hk)
            | (go_at_call 21; (with_reducible refine Calls.mono HPT.out ?_); rintro e w8 ⟨rfl, ⟨u5, hf, ho⟩, hk⟩; rw [upd_upd, upd_at] at hf; have D5 := Aside0.mk (D4.out.call hf hk (fun k h => by rcases h with h | h | h; exact .inl h; exact .inr (.inl h); exact .inr (.inr (.inr (.inr h)))) (fun k h => mine_put2 ho h)); have hfi := first_in hf; obtain ⟨P2, hP2⟩ : ∃ P2 : Option Addr, ((firstOf r1 (r2 ++ [i])).map fun i => (⟨fb, i * 11, none⟩ : Addr)) = P2 := ⟨_, rfl⟩; rw [hP2] at hfi; have HFI := Aside0.mk hfi; have HP2 := Aside0.mk hP2; clear hf ho hk hfi hP2)
            | (go_at_call 24; (with_reducible refine Calls.mono HFI.out ?_); rintro e w9 ⟨rfl, rfl⟩))
          go_roundg k1
          case measure => have := HK1.out; omega
          case rel => exact ⟨upd fs' i ((fs' i).quanta c), r1, r2 ++ [i], rv', u3, u5, by rw [HP2.out], HE, ⟨by have := HK1.out; omega⟩, ⟨D5.out⟩, ⟨OK2.out.turn HHD.out HI.out rfl ⟨(OK2.out.z i HI.out).1.a, (OK2.out.z i HI.out).1.b, (OK2.out.z i HI.out).1.c, (OK2.out.z i HI.out).1.d, (OK2.out.z i HI.out).1.e, (OK2.out.z i HI.out).1.g⟩ (OK2.out.z i HI.out).2⟩⟩
        · rw [if_neg cd] at e
          have cdt : decide ((fs' i).deficit ≤ 0) = false := decide_eq_false cd
          clear cd
          go_upto_region 14 with ((with_reducible refine gate_dst (N := 7) rfl ?_); refine box_event ?hg (N := 7) ?hd (cs := #[.bool false, .int .i64 0, .int .i64 0, .bool false, .int .i64 0, .bool false, .slice none 0 0, .int .i64 0]) (t := 80) ?hr ?_; (case hd => rfl); (case hg => rfl); (case hr => first | (go_simp; done) | (go_simp; rfl)); intro g7 e_ w7 k_ b_; have E7 := Aside0.mk e_; have K7 := Aside0.mk k_; have D3 := Aside0.mk (D2.out.step b_); clear e_ k_ b_)
          have HE := Aside0.mk e
          clear e z9 f9 zq2 cdt
          have hzi := OK2.out.z i HI.out
          obtain ⟨kk, hkk⟩ := hzi.2
          obtain ⟨has, hhas⟩ : ∃ b, (!(fs' i).ps.isEmpty) = b := ⟨_, rfl⟩
          obtain ⟨o, ho⟩ : ∃ o, (fs' i).ps.headD zP = o := ⟨_, rfl⟩
          obtain ⟨lf, hlf⟩ : ∃ lf : Int, (((fs' i).ps.length - 1 : Nat) : Int) = lf := ⟨_, rfl⟩
          rw [hhas, ho, hlf] at hkk
          have HHAS := Aside0.mk hhas
          have HO := Aside0.mk ho
          have HLF := Aside0.mk hlf
          have ngf : g7 ≠ fb := by
            have h1 := FR.lt D2.out.F (k := fb) (.inr (.inl rfl))
            have h2 := E7.out
            omega
          have nfg : fb ≠ g7 := fun e => ngf e.symm
          have HKK := Aside0.mk hkk
          have HZ := Aside0.mk hzi.1
          have hrow : kP.Q 41 w7 w.heap.size (fun _ => True) (rv' i) (fs' i).ps := FR.R D3.out.F i HI.out
          obtain ⟨A7, c7, ev, hc7⟩ := Kd.Q_slice hrow
          have EV := Aside0.mk ev
          have HC7 := Aside0.mk hc7
          have HRD := Aside0.mk (show Kd.C kP w7 A7 (fs' i).ps.length (fs' i).ps by rw [ev] at hrow; exact (Kd.Q_reads' hrow).2.2)
          have z1 : w7.cell? ⟨fb, i * 11 + 1, none⟩ = some (.slice A7 (fs' i).ps.length c7) := (FQ.zf D3.out.F HI.out 1 (by omega)).1.trans (by rw [← EV.out]; rfl)
          obtain ⟨⟨z3, z4, z5, z6, z7, z8⟩, ⟨f3, f4, f5, f6, f7, f8⟩⟩ := FQ.state D3.out.F HI.out HZ.out
          have zq3 : w7.cell? ⟨q, 3, none⟩ = some (.int .i64 c.tg) := (FQ.zq D3.out.F 3).1.trans rfl
          have zq4 : w7.cell? ⟨q, 4, none⟩ = some (.int .i64 c.iv) := (FQ.zq D3.out.F 4).1.trans rfl
          have zq5 : w7.cell? ⟨q, 5, none⟩ = some (.int .i64 c.mtu) := (FQ.zq D3.out.F 5).1.trans rfl
          clear hzi hkk hrow ev hc7 hhas ho hlf
          (try simp only [Act.put, List.setIfInBounds_toArray, List.set_cons_zero, List.set_cons_succ])
          go_cut [6] (fun v6 Wx => v6 = .pointer (some ⟨fb, i * 11, none⟩) ∧ ∃ (A12 : Option Addr) (c12 : Nat), Aside0 (DS w W Wx q fb N c rv v1 v2 fs' m1 m2 n now g4 rv' u1 u2) ∧ Aside0 (Wx.heap[g7]? = some (.cells #[.bool has, .int .i64 o.f0, .int .i64 o.f1, .bool o.f2, .int .i64 o.f3, .bool false, .slice A12 0 c12, .int .i64 lf] 80 (0, 0))))
          case first =>
            go_region_law (refine goes_ Try.func26 (by kernel_rfl) rfl #[.agg #[.int .i64 c.tg, .int .i64 c.iv, .int .i64 c.mtu], .agg #[.bool false, .int .i64 0, .bool false, .int .i64 0, .int .i64 0, .int .i64 0], .slice A7 (fs' i).ps.length c7, .int .i64 now] (by rfl) rfl rfl (by (try simp only [List.map_toArray, List.map_cons, List.map_nil]); first | done | rfl) ?_; with_reducible refine (codel_Dequeue.calls kk _ _ _ _ _ _ _ _ _ A7 c7 (fs' i).ps now _ _ _ _ _ _ _ _ _ _ _ _ _ _ _ _ (Kd.C_below HRD.out (below_drew (Below.refl _ _))) HC7.out HKK.out).mono ?_; rintro e w14 ⟨v12, rfl, hr12, b14⟩; refine ⟨_, rfl, ?_⟩; clear z1 z3 z4 z5 z6 z7 z8 f3 f4 f5 f6 f7 f8 zq3 zq4 zq5; have hb14 : Below w7.heap.size w7 w14 := below_step (below_drew (Below.refl _ _)) b14; have D4 := Aside0.mk (D3.out.step hb14); have K14 := Aside0.mk (blk_below K7.out hb14); obtain ⟨⟨z3, z4, z5, z6, z7, z8⟩, ⟨f3, f4, f5, f6, f7, f8⟩⟩ := FQ.state D4.out.F HI.out HZ.out; obtain ⟨⟨y0, y1, y2, y3, y4, y5, y6, y7⟩, ⟨yf0, yf1, yf2, yf3, yf4, yf5, yf6, yf7⟩⟩ := cz8 K14.out; obtain ⟨A12, c12, ev12⟩ := Kd.R_slice hr12; subst ev12; clear hr12 b14 hb14)
            all_goals
              clear z3 z4 z5 z6 z7 z8 f3 f4 f5 f6 f7 f8 y0 y1 y2 y3 y4 y5 y6 y7 yf0 yf1 yf2 yf3 yf4 yf5 yf6 yf7
              try go_wp2
              go_meet
              have nm7 : ¬ Mine q fb N rv' u1 u2 g7 := FR.other D4.out.F K14.out (by decide) (by decide) (by decide) (by decide)
              have g7h : W.heap.size ≤ g7 := by
                have h1 := E7.out
                have h2 := D2.out.KK.1
                omega
              have wg : w.heap.size ≤ g7 := Nat.le_trans (below_size (FR.B HH.out)) g7h
              have g47 : g4 ≠ g7 := blk_ne D4.out.K4 K14.out (by decide)
              have z := HZ.out
              have q1 := FQ.again (FQ.again (FQ.again (FQ.again (FQ.again (FQ.again D4.out.F HI.out 3 (by omega) (.bool false) (by unfold Fl.cells; rw [z.a]; rfl)) HI.out 4 (by omega) (.int .i64 0) (by unfold Fl.cells; rw [z.b]; rfl)) HI.out 5 (by omega) (.bool false) (by unfold Fl.cells; rw [z.c]; rfl)) HI.out 6 (by omega) (.int .i64 0) (by unfold Fl.cells; rw [z.d]; rfl)) HI.out 7 (by omega) (.int .i64 0) (by unfold Fl.cells; rw [z.e]; rfl)) HI.out 8 (by omega) (.int .i64 0) (by unfold Fl.cells; rw [z.g]; rfl)
              have q2 := FR.far (FR.far (FR.far (FR.far (FR.far (FR.far (FR.far (FR.far q1 wg nm7 0 (.bool has)) wg nm7 1 (.int .i64 o.f0)) wg nm7 2 (.int .i64 o.f1)) wg nm7 3 (.bool o.f2)) wg nm7 4 (.int .i64 o.f3)) wg nm7 5 (.bool false)) wg nm7 6 (.slice A12 0 c12)) wg nm7 7 (.int .i64 lf)
              have k1 := blk_far (p := ⟨fb, i * 11 + 8, none⟩) (blk_far (p := ⟨fb, i * 11 + 7, none⟩) (blk_far (p := ⟨fb, i * 11 + 6, none⟩) (blk_far (p := ⟨fb, i * 11 + 5, none⟩) (blk_far (p := ⟨fb, i * 11 + 4, none⟩) (blk_far (p := ⟨fb, i * 11 + 3, none⟩) K14.out ngf (.bool false)) ngf (.int .i64 0)) ngf (.bool false)) ngf (.int .i64 0)) ngf (.int .i64 0)) ngf (.int .i64 0)
              have k2 := blk_set (blk_set (blk_set (blk_set (blk_set (blk_set (blk_set (blk_set k1 0 (.bool has)) 1 (.int .i64 o.f0)) 2 (.int .i64 o.f1)) 3 (.bool o.f2)) 4 (.int .i64 o.f3)) 5 (.bool false)) 6 (.slice A12 0 c12)) 7 (.int .i64 lf)
              have kk1 := ((((((Kept.refl w14 (fun k => k = fb ∨ k = g7)).setCell (p := ⟨fb, i * 11 + 3, none⟩) (.inl (.inl rfl)) (.bool false)).setCell (p := ⟨fb, i * 11 + 4, none⟩) (.inl (.inl rfl)) (.int .i64 0)).setCell (p := ⟨fb, i * 11 + 5, none⟩) (.inl (.inl rfl)) (.bool false)).setCell (p := ⟨fb, i * 11 + 6, none⟩) (.inl (.inl rfl)) (.int .i64 0)).setCell (p := ⟨fb, i * 11 + 7, none⟩) (.inl (.inl rfl)) (.int .i64 0)).setCell (p := ⟨fb, i * 11 + 8, none⟩) (.inl (.inl rfl)) (.int .i64 0)
              have kk2 := (((((((kk1.setCell (p := ⟨g7, 0, none⟩) (.inl (.inr rfl)) (.bool has)).setCell (p := ⟨g7, 1, none⟩) (.inl (.inr rfl)) (.int .i64 o.f0)).setCell (p := ⟨g7, 2, none⟩) (.inl (.inr rfl)) (.int .i64 o.f1)).setCell (p := ⟨g7, 3, none⟩) (.inl (.inr rfl)) (.bool o.f2)).setCell (p := ⟨g7, 4, none⟩) (.inl (.inr rfl)) (.int .i64 o.f3)).setCell (p := ⟨g7, 5, none⟩) (.inl (.inr rfl)) (.bool false)).setCell (p := ⟨g7, 6, none⟩) (.inl (.inr rfl)) (.slice A12 0 c12)).setCell (p := ⟨g7, 7, none⟩) (.inl (.inr rfl)) (.int .i64 lf)
              refine ⟨rfl, A12, c12, ⟨DS.call2 D4.out q2 kk2 (fun k h => ?_) (fun h => ?_) (fun k h => .inl h)⟩, ⟨k2⟩⟩
              · rcases h with h | h
                · exact .inl (.inr (.inl h))
                · exact .inr (by rw [h]; exact g7h)
              · rcases h with h | h
                · exact D4.out.nm (.inr (.inl h))
                · exact g47 h
          case rest =>
            obtain ⟨rfl, A12, c12, D5, K15⟩ := hcut
            clear z1 z3 z4 z5 z6 z7 z8 f3 f4 f5 f6 f7 f8 zq3 zq4 zq5
            have x6 : wc.cell? ⟨g7, 6, none⟩ = some (.slice A12 0 c12) := (blk_cell K15.out 6).trans rfl
            have x7 : wc.cell? ⟨g4, 7, none⟩ = some (.slice none 0 0) := (blk_cell D5.out.K4 7).trans rfl
            have xf7 : wc.frozen? ⟨g4, 7, none⟩ = false := blk_frozen D5.out.K4 7
            have g47 : g4 ≠ g7 := blk_ne D5.out.K4 K15.out (by decide)
            have g74 : g7 ≠ g4 := fun e => g47 e.symm
            go_upto_block 3 with (refine app_step (by rfl) (.tmp 80) (.tmp 82) (by rfl) (by rfl) A12 c12 (by rfl) (by rfl) ?_)
            have D6 : DS w W (wc.setCell ⟨g4, 7, none⟩ (.slice none 0 0)) q fb N c rv v1 v2 fs' m1 m2 n now g4 rv' u1 u2 :=
              ⟨FR.far D5.out.F (Nat.le_trans (below_size (FR.B HH.out)) D5.out.G4) D5.out.nm 7 _, blk_set D5.out.K4 7 (.slice none 0 0), D5.out.G4, D5.out.KK.setCell (p := ⟨g4, 7, none⟩) (.inr D5.out.G4) _, D5.out.MO⟩
            have K16 := blk_far (p := ⟨g4, 7, none⟩) K15.out g74 (.slice none 0 0)
            clear x6 x7 xf7
            generalize wc.setCell ⟨g4, 7, none⟩ (.slice none 0 0) = W6 at D6 K16 ⊢
            have D6 := Aside0.mk D6
            have K16 := Aside0.mk K16
            have HLN := Aside0.mk (show r2.length ≤ 65536 by have h1 := (OK2.out.rest HHD.out).2.2.2.2.2; have h2 := OK2.out.len; have h3 := HM.out; omega)
            cases hps : (fs' i).ps with
            | nil =>
              have hH : has = false := by
                have h1 := HHAS.out
                rw [hps] at h1
                exact h1.symm
              have hL : lf = 0 := by
                have h1 := HLF.out
                rw [hps] at h1
                exact h1.symm
              have hE := HE.out
              rw [hps] at hE
              have HPS := Aside0.mk hps
              have HE2 := Aside0.mk hE
              subst hH
              subst hL
              clear hE hps HE HHAS HLF
              go_wp2
              go_loopw [] (fun wr2 => Aside0 (DS w W wr2 q fb N c rv v1 v2 fs' m1 m2 n now g4 rv' u1 u2) ∧ Aside0 (wr2.heap[g7]? = some (.cells #[.bool false, .int .i64 o.f0, .int .i64 o.f1, .bool o.f2, .int .i64 o.f3, .bool false, .slice A12 0 c12, .int .i64 0] 80 (0, 0)))) (fun _ => 0)
              case atStart => exact ⟨D6, K16⟩
              case round =>
                obtain ⟨D7, K17⟩ := hrel
                obtain ⟨A8, c8, ev8, _⟩ := Kd.Q_slice (FR.R D7.out.F i HI.out)
                have ev8 : rv' i = .slice A8 (fs' i).ps.length c8 := ev8
                rw [HPS.out] at ev8
                have EV8 := Aside0.mk ev8
                clear ev8
                have z1 : wr.cell? ⟨fb, i * 11 + 1, none⟩ = some (.slice A8 0 c8) := (FQ.zf D7.out.F HI.out 1 (by omega)).1.trans (by show ((fs' i).cells (rv' i))[1]? = _; rw [EV8.out]; rfl)
                have y7 : wr.cell? ⟨g7, 7, none⟩ = some (.int .i64 0) := (blk_cell K17.out 7).trans rfl
                go_wp2
                go_region
                have D8 := Aside0.mk (D7.out.step (below_drew (Below.refl wr.heap.size wr)))
                have K18 := Aside0.mk (blk_drew K17.out)
                clear z1 y7
                generalize wr.drew = W8 at D8 K18 ⊢
                have y0 : W8.cell? ⟨g7, 0, none⟩ = some (.bool false) := (blk_cell K18.out 0).trans rfl
                have HLV := Aside0.mk (leave_any D8.out.F HI.out HHD.out)
                have hon : (fs' i).on = 1 ∨ (fs' i).on = 2 := by
                  rcases HHD.out with ⟨_, _, h⟩ | ⟨_, _, _, h⟩
                  · exact .inl h
                  · exact .inr h
                rcases hon with hon | hon
                · have HON := Aside0.mk hon
                  have he := HE2.out
                  rw [if_pos hon] at he
                  have HE3 := Aside0.mk he
                  clear hon he HE2
                  go_wp2_with (first
                    | (go_at_call 25; (with_reducible refine Calls.mono HLV.out ?_); rintro e w9 ⟨rfl, ⟨u3, u4, hf, e3, e4⟩, hk⟩; have D9 := Aside0.mk (D8.out.call hf hk (fun k h => .inl h) (fun k h => .inl (mine_same (fun _ _ => rfl) e3 e4 h))); clear hf e3 e4 hk; have z10 : w9.cell? ⟨fb, i * 11 + 10, none⟩ = some (.int .i64 1) := (FQ.zf D9.out.F HI.out 10 (by omega)).1.trans (by rw [← HON.out]; rfl); have HPT := Aside0.mk (put2 D9.out.F HI.out HLN.out))
                    | (go_at_call 21; (with_reducible refine Calls.mono HPT.out ?_); rintro e w8 ⟨rfl, ⟨u5, hf, ho⟩, hk⟩; have D5 := Aside0.mk (D9.out.call hf hk (fun k h => by rcases h with h | h | h; exact .inl h; exact .inr (.inl h); exact .inr (.inr (.inr (.inr h)))) (fun k h => mine_put2 ho h)); have hfi := first_in hf; obtain ⟨P2, hP2⟩ : ∃ P2 : Option Addr, ((firstOf r1 (r2 ++ [i])).map fun i => (⟨fb, i * 11, none⟩ : Addr)) = P2 := ⟨_, rfl⟩; rw [hP2] at hfi; have HFI := Aside0.mk hfi; have HP2 := Aside0.mk hP2; clear hf ho hk hfi hP2 z10)
                    | (go_at_call 24; (with_reducible refine Calls.mono HFI.out ?_); rintro e w9 ⟨rfl, rfl⟩))
                  go_roundg k1
                  case measure => have := HK1.out; omega
                  case rel => exact ⟨upd fs' i ((fs' i).put 2), r1, r2 ++ [i], rv', u3, u5, by rw [HP2.out], HE3, ⟨by have := HK1.out; omega⟩, ⟨D5.out⟩, ⟨OK2.out.turn HHD.out HI.out rfl ⟨(OK2.out.z i HI.out).1.a, (OK2.out.z i HI.out).1.b, (OK2.out.z i HI.out).1.c, (OK2.out.z i HI.out).1.d, (OK2.out.z i HI.out).1.e, (OK2.out.z i HI.out).1.g⟩ (OK2.out.z i HI.out).2⟩⟩
                · have HON := Aside0.mk hon
                  have he := HE2.out
                  rw [if_neg (by rw [hon]; decide)] at he
                  have HE3 := Aside0.mk he
                  clear hon he HE2
                  go_upto_region 26 with (go_at_call 25; (with_reducible refine Calls.mono HLV.out ?_); rintro e w9 ⟨rfl, ⟨u3, u4, hf, e3, e4⟩, hk⟩; have D9 := Aside0.mk (D8.out.call hf hk (fun k h => .inl h) (fun k h => .inl (mine_same (fun _ _ => rfl) e3 e4 h))); clear hf e3 e4 hk; have z10 : w9.cell? ⟨fb, i * 11 + 10, none⟩ = some (.int .i64 2) := (FQ.zf D9.out.F HI.out 10 (by omega)).1.trans (by rw [← HON.out]; rfl))
                  have f10 : w9.frozen? ⟨fb, i * 11 + 10, none⟩ = false := (FQ.zf D9.out.F HI.out 10 (by omega)).2
                  go_upto_region 8 with (fail)
                  have D10 := Aside0.mk (D9.out.call (FQ.setF D9.out.F HI.out 10 (by omega) (.int .i64 0) ((fs' i).put 0) rfl rfl) (S := fun k => k = fb) ((Kept.refl w9 (fun k => k = fb)).setCell (p := ⟨fb, i * 11 + 10, none⟩) (.inl rfl) (.int .i64 0)) (fun k h => .inr (.inl h)) (fun k h => .inl h))
                  clear z10 f10
                  generalize w9.setCell ⟨fb, i * 11 + 10, none⟩ (.int .i64 0) = W10 at D10 ⊢
                  have hfi := first_in D10.out.F
                  obtain ⟨P2, hP2⟩ : ∃ P2 : Option Addr, ((firstOf r1 r2).map fun i => (⟨fb, i * 11, none⟩ : Addr)) = P2 := ⟨_, rfl⟩
                  rw [hP2] at hfi
                  have HFI := Aside0.mk hfi
                  have HP2 := Aside0.mk hP2
                  clear hfi hP2
                  go_wp2_with (go_at_call 24; (with_reducible refine Calls.mono HFI.out ?_); rintro e w9 ⟨rfl, rfl⟩)
                  go_roundg k1
                  case measure => have := HK1.out; omega
                  case rel => exact ⟨upd fs' i ((fs' i).put 0), r1, r2, rv', u3, u4, by rw [HP2.out], HE3, ⟨by have := HK1.out; omega⟩, ⟨D10.out⟩, ⟨OK2.out.gone HHD.out ⟨(OK2.out.z i HI.out).1.a, (OK2.out.z i HI.out).1.b, (OK2.out.z i HI.out).1.c, (OK2.out.z i HI.out).1.d, (OK2.out.z i HI.out).1.e, (OK2.out.z i HI.out).1.g⟩ (OK2.out.z i HI.out).2⟩⟩
            | cons x p =>
              have hH : has = true := by
                have h1 := HHAS.out
                rw [hps] at h1
                exact h1.symm
              have hL : lf = (p.length : Int) := by
                have h1 := HLF.out
                rw [hps] at h1
                exact h1.symm
              have hO : o = x := by
                have h1 := HO.out
                rw [hps] at h1
                exact h1.symm
              have hE := HE.out
              rw [hps] at hE
              have hE := Option.some.inj hE
              have HPS := Aside0.mk hps
              have HE2 := Aside0.mk hE
              subst hH
              subst hO
              obtain ⟨pl, hpl⟩ : ∃ pl, p.length = pl := ⟨_, rfl⟩
              rw [hpl] at hL
              subst hL
              have HPL := Aside0.mk hpl
              clear hE hps HE HHAS HLF HO hpl
              go_wp2
              go_loopw [] (fun wr2 => Aside0 (wr2.heap[g7]? = some (.cells #[.bool true, .int .i64 o.f0, .int .i64 o.f1, .bool o.f2, .int .i64 o.f3, .bool false, .slice A12 0 c12, .int .i64 (pl : Int)] 80 (0, 0))) ∧ (Aside0 (DS w W wr2 q fb N c rv v1 v2 fs' m1 m2 n now g4 rv' u1 u2) ∨ ∃ rv2, Aside0 (DS w W wr2 q fb N c rv v1 v2 (upd fs' i ((fs' i).cut o p)) m1 m2 (n - 1) now g4 rv2 u1 u2))) (fun wr2 => match wr2.cell? ⟨fb, i * 11 + 1, none⟩ with | some (.slice _ m _) => m | _ => 0)
              case atStart => exact ⟨K16, .inl D6⟩
              case round =>
                obtain ⟨K17, D7 | ⟨rv2, D7⟩⟩ := hrel
                · obtain ⟨A8, c8, ev8, _⟩ := Kd.Q_slice (FR.R D7.out.F i HI.out)
                  have ev8 : rv' i = .slice A8 (fs' i).ps.length c8 := ev8
                  obtain ⟨m, hm⟩ : ∃ m, (fs' i).ps.length = m := ⟨_, rfl⟩
                  rw [hm] at ev8
                  have hm2 : m = pl + 1 := by
                    rw [← hm, HPS.out, List.length_cons, HPL.out]
                  have EV8 := Aside0.mk ev8
                  have d0 : (pl : Int) < (m : Int) := by omega
                  have HM2 := Aside0.mk hm2
                  clear ev8 hm hm2
                  have z1 : wr.cell? ⟨fb, i * 11 + 1, none⟩ = some (.slice A8 m c8) := (FQ.zf D7.out.F HI.out 1 (by omega)).1.trans (by show ((fs' i).cells (rv' i))[1]? = _; rw [EV8.out]; rfl)
                  have Z1 := Aside0.mk z1
                  have y7 : wr.cell? ⟨g7, 7, none⟩ = some (.int .i64 (pl : Int)) := (blk_cell K17.out 7).trans rfl
                  go_wp2
                  go_region
                  have D8 := Aside0.mk (D7.out.step (below_drew (Below.refl wr.heap.size wr)))
                  have K18 := Aside0.mk (blk_drew K17.out)
                  clear z1 y7 d0
                  generalize wr.drew = W8 at D8 K18 ⊢
                  have hdr := drop_in D8.out.F HI.out HPS.out
                  unfold pkV at hdr
                  have HDR := Aside0.mk hdr
                  clear hdr
                  have hw : IntKind.i64.wrap (n - 1) = n - 1 := by
                    have := HNN.out
                    rw [i64_w]
                    unfold wrap64
                    omega
                  go_upto_region 18 with (go_at_call 23; (with_reducible refine Calls.mono HDR.out ?_); rintro e w9 ⟨rfl, ⟨v9, hf, ho⟩, hk⟩; have D9 := Aside0.mk (D8.out.call hf hk (fun k h => .inr (.inl h)) (fun k h => .inl (mine_same (fun j hj => by by_cases cj : j = i; rw [cj, upd_at, ho]; rw [upd_ne _ _ cj]) rfl rfl h))); have K19 := Aside0.mk ((hk.2 g7 (blk_lt K18.out) ngf).trans K18.out); clear hf ho hk; have zq10 : w9.cell? ⟨q, 10, none⟩ = some (.int .i64 n) := (FQ.zq D9.out.F 10).1.trans rfl; have fq10 : w9.frozen? ⟨q, 10, none⟩ = false := (FQ.zq D9.out.F 10).2)
                  go_wp2
                  go_roundw
                  case rel =>
                    have h1 := FR.putQ D9.out.F 10 (.int .i64 (n - 1))
                    have g7q : g7 ≠ q := fun e => FR.other D9.out.F K19.out (by decide) (by decide) (by decide) (by decide) (.inl e)
                    exact ⟨⟨blk_far (p := ⟨q, 10, none⟩) K19.out g7q _⟩, .inr ⟨_, ⟨D9.out.call (n' := n - 1) h1 (S := fun k => k = q) ((Kept.refl w9 (fun k => k = q)).setCell (p := ⟨q, 10, none⟩) (.inl rfl) _) (fun k h => .inl h) (fun k h => .inl h)⟩⟩⟩
                  case measure =>
                    have h1 := FR.putQ D9.out.F 10 (.int .i64 (n - 1))
                    have hz := (h1.F.z HI.out 1 (by omega)).1
                    obtain ⟨A9, c9, ev9, _⟩ := Kd.Q_slice (h1.R i HI.out)
                    have e9 : ((upd fs' i ((fs' i).cut o p) i).cells (upd rv' i v9 i))[1]? = some (upd rv' i v9 i) := rfl
                    have hz2 := hz.trans e9
                    rw [ev9] at hz2
                    have e10 : (upd fs' i ((fs' i).cut o p) i).ps.length = pl := by
                      rw [upd_at]
                      exact HPL.out
                    have hz3 : (w9.setCell ⟨q, 10, none⟩ (.int .i64 (n - 1))).cell? ⟨fb, i * 11 + 1, none⟩ = some (.slice A9 pl c9) := by
                      rw [hz2]
                      show some (Value.slice A9 (upd fs' i ((fs' i).cut o p) i).ps.length c9) = _
                      rw [e10]
                    rw [hz3, Z1.out]
                    have := HM2.out
                    show pl < m
                    omega
                · obtain ⟨A8, c8, ev8, _⟩ := Kd.Q_slice (FR.R D7.out.F i HI.out)
                  have ev8 : rv2 i = .slice A8 (upd fs' i ((fs' i).cut o p) i).ps.length c8 := ev8
                  have e10 : (upd fs' i ((fs' i).cut o p) i).ps.length = pl := by
                    rw [upd_at]
                    exact HPL.out
                  rw [e10] at ev8
                  have EV8 := Aside0.mk ev8
                  clear ev8 e10
                  have z1 : wr.cell? ⟨fb, i * 11 + 1, none⟩ = some (.slice A8 pl c8) := (FQ.zf D7.out.F HI.out 1 (by omega)).1.trans (by show ((upd fs' i ((fs' i).cut o p) i).cells (rv2 i))[1]? = _; rw [EV8.out]; rfl)
                  have y7 : wr.cell? ⟨g7, 7, none⟩ = some (.int .i64 (pl : Int)) := (blk_cell K17.out 7).trans rfl
                  go_wp2
                  go_region
                  have D8 := Aside0.mk (D7.out.step (below_drew (Below.refl wr.heap.size wr)))
                  have K18 := Aside0.mk (blk_drew K17.out)
                  clear z1 y7
                  generalize wr.drew = W8 at D8 K18 ⊢
                  have y0 : W8.cell? ⟨g7, 0, none⟩ = some (.bool true) := (blk_cell K18.out 0).trans rfl
                  have y2 : W8.cell? ⟨g7, 2, none⟩ = some (.int .i64 o.f1) := (blk_cell K18.out 2).trans rfl
                  have z9 : W8.cell? ⟨fb, i * 11 + 9, none⟩ = some (.int .i64 (fs' i).deficit) := (FQ.zf D8.out.F HI.out 9 (by omega)).1.trans (by rw [upd_at]; rfl)
                  have f9 : W8.frozen? ⟨fb, i * 11 + 9, none⟩ = false := (FQ.zf D8.out.F HI.out 9 (by omega)).2
                  go_upto_region 20 with (fail)
                  go_region
                  have D9 := Aside0.mk (D8.out.call (FR.drew (FQ.setF D8.out.F HI.out 9 (by omega) (.int .i64 (wrap64 ((fs' i).deficit - o.f1))) ((fs' i).out o p) (by rw [upd_at]; rfl) (by rw [upd_at]; rfl))) (S := fun k => k = fb) ((Kept.refl W8 (fun k => k = fb)).setCell (p := ⟨fb, i * 11 + 9, none⟩) (.inl rfl) (.int .i64 (wrap64 ((fs' i).deficit - o.f1)))).drew (fun k h => .inr (.inl h)) (fun k h => .inl h))
                  have K19 := Aside0.mk (blk_drew (blk_far (p := ⟨fb, i * 11 + 9, none⟩) K18.out ngf (.int .i64 (wrap64 ((fs' i).deficit - o.f1)))))
                  clear y0 y2 z9 f9
                  generalize (W8.setCell ⟨fb, i * 11 + 9, none⟩ (.int .i64 (wrap64 ((fs' i).deficit - o.f1)))).drew = W9 at D9 K19 ⊢
                  have d9 := D9.out
                  rw [upd_upd] at d9
                  have D9 := Aside0.mk d9
                  clear d9
                  have z0 : W9.cell? ⟨fb, i * 11, none⟩ = some (.int .i64 (fs' i).id) := (FQ.zf D9.out.F HI.out 0 (by omega)).1.trans (by rw [upd_at]; rfl)
                  obtain ⟨⟨y0, y1, y2, y3, y4, y5, y6, y7⟩, _⟩ := cz8 K19.out
                  obtain ⟨⟨x0, x1, x2, x3, x4, x5, x6, x7⟩, ⟨xf0, xf1, xf2, xf3, xf4, xf5, xf6, xf7⟩⟩ := cz8 D9.out.K4
                  clear y6 y7
                  have n4f : g4 ≠ fb := fun e => D9.out.nm (.inr (.inl e))
                  have nf4 : fb ≠ g4 := fun e => n4f e.symm
                  go_upto_region 21 with (fail)
                  go_region
                  have nm := D9.out.nm
                  have wg : w.heap.size ≤ g4 := Nat.le_trans (below_size (FR.B HH.out)) D9.out.G4
                  have H11 := Aside0.mk (FR.drew (FR.far (FR.far (FR.far (FR.far (FR.far (FR.far (FR.far D9.out.F wg nm 0 (.bool true)) wg nm 1 (.int .i64 (fs' i).id)) wg nm 2 (.int .i64 o.f0)) wg nm 3 (.int .i64 o.f1)) wg nm 4 (.bool o.f2)) wg nm 5 (.int .i64 o.f3)) wg nm 6 (.bool false)))
                  have K11 := Aside0.mk (blk_drew (blk_put (cs' := #[.bool true, .int .i64 (fs' i).id, .int .i64 o.f0, .int .i64 o.f1, .bool o.f2, .int .i64 o.f3, .bool false, .slice none 0 0]) (blk_put (cs' := #[.bool true, .int .i64 (fs' i).id, .int .i64 o.f0, .int .i64 o.f1, .bool o.f2, .int .i64 o.f3, .bool false, .slice none 0 0]) (blk_put (cs' := #[.bool true, .int .i64 (fs' i).id, .int .i64 o.f0, .int .i64 o.f1, .bool o.f2, .int .i64 0, .bool false, .slice none 0 0]) (blk_put (cs' := #[.bool true, .int .i64 (fs' i).id, .int .i64 o.f0, .int .i64 o.f1, .bool false, .int .i64 0, .bool false, .slice none 0 0]) (blk_put (cs' := #[.bool true, .int .i64 (fs' i).id, .int .i64 o.f0, .int .i64 0, .bool false, .int .i64 0, .bool false, .slice none 0 0]) (blk_put (cs' := #[.bool true, .int .i64 (fs' i).id, .int .i64 0, .int .i64 0, .bool false, .int .i64 0, .bool false, .slice none 0 0]) (blk_put (cs' := #[.bool true, .int .i64 0, .int .i64 0, .int .i64 0, .bool false, .int .i64 0, .bool false, .slice none 0 0]) D9.out.K4 0 (.bool true) rfl) 1 (.int .i64 (fs' i).id) rfl) 2 (.int .i64 o.f0) rfl) 3 (.int .i64 o.f1) rfl) 4 (.bool o.f2) rfl) 5 (.int .i64 o.f3) rfl) 6 (.bool false) rfl))
                  have KK11 := Aside0.mk ((((((((D9.out.KK.setCell (p := ⟨g4, 0, none⟩) (.inr D9.out.G4) (.bool true)).setCell (p := ⟨g4, 1, none⟩) (.inr D9.out.G4) (.int .i64 (fs' i).id)).setCell (p := ⟨g4, 2, none⟩) (.inr D9.out.G4) (.int .i64 o.f0)).setCell (p := ⟨g4, 3, none⟩) (.inr D9.out.G4) (.int .i64 o.f1)).setCell (p := ⟨g4, 4, none⟩) (.inr D9.out.G4) (.bool o.f2)).setCell (p := ⟨g4, 5, none⟩) (.inr D9.out.G4) (.int .i64 o.f3)).setCell (p := ⟨g4, 6, none⟩) (.inr D9.out.G4) (.bool false)).drew)
                  have nm11 := Aside0.mk nm
                  have G4 := Aside0.mk D9.out.G4
                  have MO := Aside0.mk D9.out.MO
                  clear z0 y0 y1 y2 y3 y4 y5 x0 x1 x2 x3 x4 x5 x6 x7 xf0 xf1 xf2 xf3 xf4 xf5 xf6 xf7 n4f nf4 nm
                  generalize (((((((W9.setCell ⟨g4, 0, none⟩ (.bool true)).setCell ⟨g4, 1, none⟩ (.int .i64 (fs' i).id)).setCell ⟨g4, 2, none⟩ (.int .i64 o.f0)).setCell ⟨g4, 3, none⟩ (.int .i64 o.f1)).setCell ⟨g4, 4, none⟩ (.bool o.f2)).setCell ⟨g4, 5, none⟩ (.int .i64 o.f3)).setCell ⟨g4, 6, none⟩ (.bool false)).drew = W11 at H11 K11 KK11 ⊢
                  obtain ⟨⟨x0, x1, x2, x3, x4, x5, x6, x7⟩, ⟨xf0, xf1, xf2, xf3, xf4, xf5, xf6, xf7⟩⟩ := cz8 K11.out
                  go_wp2
                  have hE := HE2.out
                  refine bodyPost_ret (results_ct rfl _ _ g4 47 #[.bool true, .int .i64 (fs' i).id, .int .i64 o.f0, .int .i64 o.f1, .bool o.f2, .int .i64 o.f3, .bool false, .slice none 0 0] (0, 0) _ rfl (blk_put (cs' := #[.bool true, .int .i64 (fs' i).id, .int .i64 o.f0, .int .i64 o.f1, .bool o.f2, .int .i64 o.f3, .bool false, .slice none 0 0]) (blk_put (cs' := #[.bool true, .int .i64 (fs' i).id, .int .i64 o.f0, .int .i64 o.f1, .bool o.f2, .int .i64 o.f3, .bool false, .slice none 0 0]) (blk_put (cs' := #[.bool true, .int .i64 (fs' i).id, .int .i64 o.f0, .int .i64 o.f1, .bool o.f2, .int .i64 o.f3, .bool false, .slice none 0 0]) (blk_put (cs' := #[.bool true, .int .i64 (fs' i).id, .int .i64 o.f0, .int .i64 o.f1, .bool o.f2, .int .i64 o.f3, .bool false, .slice none 0 0]) (blk_put (cs' := #[.bool true, .int .i64 (fs' i).id, .int .i64 o.f0, .int .i64 o.f1, .bool o.f2, .int .i64 o.f3, .bool false, .slice none 0 0]) (blk_put (cs' := #[.bool true, .int .i64 (fs' i).id, .int .i64 o.f0, .int .i64 o.f1, .bool o.f2, .int .i64 o.f3, .bool false, .slice none 0 0]) (blk_put (cs' := #[.bool true, .int .i64 (fs' i).id, .int .i64 o.f0, .int .i64 o.f1, .bool o.f2, .int .i64 o.f3, .bool false, .slice none 0 0]) (blk_put (cs' := #[.bool true, .int .i64 (fs' i).id, .int .i64 o.f0, .int .i64 o.f1, .bool o.f2, .int .i64 o.f3, .bool false, .slice none 0 0]) K11.out 0 _ rfl) 1 _ rfl) 2 _ rfl) 3 _ rfl) 4 _ rfl) 5 _ rfl) 6 _ rfl) 7 _ rfl) hu47 rfl (by kernel_rfl)) rfl ?_
                  rw [← hE]
                  refine ⟨?_, rv2, u1, u2, (FR.far (FR.far (FR.far (FR.far (FR.far (FR.far (FR.far (FR.far H11.out wg nm11.out 0 _) wg nm11.out 1 _) wg nm11.out 2 _) wg nm11.out 3 _) wg nm11.out 4 _) wg nm11.out 5 _) wg nm11.out 6 _) wg nm11.out 7 _), ((((((((KK11.out.setCell (p := ⟨g4, 0, none⟩) (.inr G4.out) _).setCell (p := ⟨g4, 1, none⟩) (.inr G4.out) _).setCell (p := ⟨g4, 2, none⟩) (.inr G4.out) _).setCell (p := ⟨g4, 3, none⟩) (.inr G4.out) _).setCell (p := ⟨g4, 4, none⟩) (.inr G4.out) _).setCell (p := ⟨g4, 5, none⟩) (.inr G4.out) _).setCell (p := ⟨g4, 6, none⟩) (.inr G4.out) _).setCell (p := ⟨g4, 7, none⟩) (.inr G4.out) _), MO.out⟩
                  simp only [resV, upd_at]
                  rfl
end Go.Proofs.Ytepolgapbbaklaa.Q
