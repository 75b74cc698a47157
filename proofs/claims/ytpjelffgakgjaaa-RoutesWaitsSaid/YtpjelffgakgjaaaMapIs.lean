/- A block of the heap that is a map, told as the list of its entries; reading, storing at a new key, striking, counting. No condition. -/
import Derived.Maps.OwnSet
import Derived.DeepKeys5
import Derived.Test.YtpjelffgakgjaaaWMore
namespace Go.Proofs.YtpjelffgakgjaaaW.MapIs
open Go Go.Maps Go.MapKept Go.ChangeMaps Go.RowKit Go.Proofs.YtpjelffgakgjaaaW.PrintWords
variable {α β : Type} [DecidableEq α]
set_option linter.unusedSectionVars false
/-- The entry at a key. -/
def getM : List (α × β) → α → Option β
  | [], _ => none
  | p :: r, a => if p.1 = a then some p.2 else getM r a
def delM : List (α × β) → α → List (α × β)
  | [], _ => []
  | p :: r, a => if p.1 = a then r else p :: delM r a
/-- Block b is a map whose entries are L's. -/
structure MapIs (P : Program) (k : TypeId) (ek : α → Value) (ev : β → Value) (w : World) (b : Nat) (L : List (α × β)) : Prop where
  out : ∃ es clock, w.heap[b]? = some (.map es clock) ∧ es.toList.map (fun e => (e.key, e.val)) = L.map (fun p => (ek p.1, ev p.2))
  keys : ∀ p ∈ L, ∃ l, keyOf P k (ek p.1) = some l
  nod : (L.map (·.1)).Nodup
  inj : ∀ a b : α, ek a = ek b → a = b
variable {P : Program} {k e t : TypeId} {ek : α → Value} {ev : β → Value} {w : World} {b : Nat} {L : List (α × β)}
theorem MapIs.made (inj : ∀ a b : α, ek a = ek b → a = b) (w : World) : MapIs P k ek ev (w.alloc (.map #[] 0)) w.heap.size ([] : List (α × β)) :=
  ⟨⟨#[], 0, by simpa using heap_alloc_new w (.map #[] 0), rfl⟩, fun _ h => absurd h (by simp), by simp, inj⟩
theorem MapIs.lt (h : MapIs P k ek ev w b L) : b < w.heap.size := by
  obtain ⟨es, clock, hb, _⟩ := h.out
  exact blk_lt hb
theorem MapIs.kept {w' : World} {row : Option Nat} (h : MapIs P k ek ev w b L) (hg : w.grownBy w' row) (hne : some b ≠ row) : MapIs P k ek ev w' b L := by
  obtain ⟨es, clock, hb, r⟩ := h.out
  exact ⟨⟨es, clock, blk_grown hb hg hne, r⟩, h.keys, h.nod, h.inj⟩
theorem MapIs.below {w' : World} (h : MapIs P k ek ev w b L) (hb : Below w.heap.size w w') : MapIs P k ek ev w' b L := by
  obtain ⟨es, clock, hb', r⟩ := h.out
  exact ⟨⟨es, clock, blk_below hb' hb, r⟩, h.keys, h.nod, h.inj⟩
theorem MapIs.drew (h : MapIs P k ek ev w b L) : MapIs P k ek ev w.drew b L := ⟨h.out, h.keys, h.nod, h.inj⟩
theorem MapIs.drewN (h : MapIs P k ek ev w b L) (n : Nat) : MapIs P k ek ev (w.drewN n) b L := h.below (pw_below_drewN (Below.refl _ _) n)
theorem MapIs.setCell (h : MapIs P k ek ev w b L) {a : Addr} (ha : b ≠ a.block) (u : Value) : MapIs P k ek ev (w.setCell a u) b L := by
  obtain ⟨es, clock, hb, r⟩ := h.out
  exact ⟨⟨es, clock, by rw [Below.heap_setCell _ _ _ _ ha]; exact hb, r⟩, h.keys, h.nod, h.inj⟩
theorem MapIs.ne {g : Nat} {cs : Array Value} {ty : TypeId} {c : Nat × Nat} (h : MapIs P k ek ev w b L) (hk : w.heap[g]? = some (.cells cs ty c)) : g ≠ b := by
  rintro rfl
  obtain ⟨es, clock, hb, _⟩ := h.out
  rw [hb] at hk
  cases hk
theorem getM_mem {a : α} {v : β} : ∀ {L : List (α × β)}, getM L a = some v → (a, v) ∈ L
  | [], h => by simp [getM] at h
  | p :: r, h => by
    simp only [getM] at h
    split at h
    · rename_i e
      cases h
      subst e
      exact List.mem_cons_self ..
    · exact List.mem_cons_of_mem _ (getM_mem h)
theorem getM_none {a : α} : ∀ {L : List (α × β)}, getM L a = none ↔ ∀ p ∈ L, p.1 ≠ a
  | [] => by simp [getM]
  | p :: r => by
    simp only [getM]
    split
    · rename_i e
      simp [e]
    · rename_i e
      rw [getM_none]
      simp [e]
theorem getM_of_mem {a : α} {v : β} : ∀ {L : List (α × β)}, (L.map (·.1)).Nodup → (a, v) ∈ L → getM L a = some v
  | [], _, h => by simp at h
  | p :: r, hn, h => by
    simp only [List.map_cons, List.nodup_cons] at hn
    simp only [getM]
    rcases List.mem_cons.1 h with e | h
    · subst e
      simp
    · rw [if_neg (fun e => hn.1 (by rw [e]; exact List.mem_map.2 ⟨_, h, rfl⟩)), getM_of_mem hn.2 h]
/-- What a look-up at one of the map's blocks finds. -/
theorem MapIs.found (h : MapIs P k ek ev w b L) (K : Keyed P k) {a : α} {kl : Lit} (hk : keyOf P k (ek a) = some kl) : ∃ es clock, w.heap[b]? = some (.map es clock) ∧ es.toList.map (fun e => (e.key, e.val)) = L.map (fun p => (ek p.1, ev p.2)) ∧
    (((Instr.findKey k (ek a) es.toList).run P w = .ok none w ∧ getM L a = none) ∨ ∃ j v, (Instr.findKey k (ek a) es.toList).run P w = .ok (some (j, ev v)) w ∧ L[j]? = some (a, v) ∧ getM L a = some v) := by
  obtain ⟨es, clock, hb, hes⟩ := h.out
  refine ⟨es, clock, hb, hes, ?_⟩
  have hks : ∀ x ∈ es.toList, ∃ l, keyOf P k x.key = some l := fun x hx => by
    have : (x.key, x.val) ∈ L.map (fun p => (ek p.1, ev p.2)) := by rw [← hes]; exact List.mem_map.2 ⟨x, hx, rfl⟩
    obtain ⟨p, hp, e⟩ := List.mem_map.1 this
    obtain ⟨l, hl⟩ := h.keys p hp
    exact ⟨l, by rw [← (Prod.mk.inj e).1]; exact hl⟩
  rcases K.find w hk es.toList hks with ⟨h1, h2⟩ | ⟨j, e0, h1, h2, h3⟩
  · refine Or.inl ⟨h1, getM_none.2 (fun p hp e => ?_)⟩
    have : (ek p.1, ev p.2) ∈ es.toList.map (fun e => (e.key, e.val)) := by rw [hes]; exact List.mem_map.2 ⟨p, hp, rfl⟩
    obtain ⟨x, hx, ex⟩ := List.mem_map.1 this
    exact h2 x hx (by rw [(Prod.mk.inj ex).1, e])
  · have e1 : (es.toList.map (fun e => (e.key, e.val)))[j]? = some (e0.key, e0.val) := by rw [List.getElem?_map, h2]; rfl
    rw [hes, List.getElem?_map] at e1
    obtain ⟨p, hp, ep⟩ := Option.map_eq_some_iff.1 e1
    obtain ⟨e2, e3⟩ := Prod.mk.inj ep
    have e4 : p.1 = a := h.inj _ _ (e2.trans h3)
    refine Or.inr ⟨j, p.2, by rw [h1, ← e3], by rw [hp, ← e4], ?_⟩
    exact getM_of_mem h.nod (by rw [← e4]; exact List.mem_of_getElem? hp)
theorem MapIs.look (h : MapIs P k ek ev w b L) (K : Keyed P k) (ht : P.underlying t = some (.map k e)) {z : Value} (hz : (zeroValue e).run P w = .ok z w) {a : α} {kl : Lit} (hk : keyOf P k (ek a) = some kl) :
    (Instr.lookup t (.map (some b)) (ek a) true).run P w = .ok (.tuple #[((getM L a).map ev).getD z, .bool (getM L a).isSome]) w := by
  obtain ⟨es, clock, hb, hes, hor⟩ := h.found K hk
  rcases hor with ⟨h1, h2⟩ | ⟨j, v, h1, h2, h3⟩
  · rw [h2]
    simp [Instr.lookup, run_underlying ht, MapKept.run_getObj_map hb, K.check w _ hk, h1, hz, Result.andThen]
  · rw [h3]
    simp [Instr.lookup, run_underlying ht, MapKept.run_getObj_map hb, K.check w _ hk, h1, Result.andThen]
theorem MapIs.len (h : MapIs P k ek ev w b L) (ht : P.underlying t = some (.map k e)) (ty : TypeId) : (Builtin.len_ #[t] ty #[.map (some b)]).run P w = .ok (.int .i64 L.length) w := by
  obtain ⟨es, clock, hb, hes⟩ := h.out
  have e1 : es.size = L.length := by
    have := congrArg List.length hes
    simpa using this
  simp [Builtin.len_, run_underlying ht, MapKept.run_getObj_map hb, goInt, Result.andThen, e1]
theorem turned {w : World} {b : Nat} {es es' : Array MapEntry} {c c' : Nat} (hb : w.heap[b]? = some (.map es c)) : w.grownBy (setBlock w b (.map es' c')) (some b) :=
  World.mapTurned.grown ⟨es, c, es', c', hb, rfl⟩
/-- A store at a key that isn't there yet. -/
theorem MapIs.store (h : MapIs P k ek ev w b L) (K : Keyed P k) (ht : P.underlying t = some (.map k e)) {a : α} {v : β} {kl : Lit} (hk : keyOf P k (ek a) = some kl) (hn : getM L a = none) :
    ∃ w', (Instr.mapUpdate t (.map (some b)) (ek a) (ev v)).run P w = .ok () w' ∧ MapIs P k ek ev w' b (L ++ [(a, v)]) ∧ w.grownBy w' (some b) := by
  obtain ⟨es, clock, hb, hes, hor⟩ := h.found K hk
  rcases hor with ⟨h1, h2⟩ | ⟨j, v, h1, h2, h3⟩
  · refine ⟨setBlock w b (.map (es.push ⟨ek a, ev v, clock⟩) (clock + 1)), ?_, ⟨⟨_, _, heap_setBlock_same hb _, ?_⟩, ?_, ?_, h.inj⟩, turned hb⟩
    · simp [Instr.mapUpdate, run_underlying ht, MapKept.run_getObj_map hb, K.check w false hk, h1, MapKept.run_setObj_map _ hb, Result.andThen, setBlock]
    · rw [Array.toList_push, List.map_append, hes, List.map_append]
      rfl
    · intro p hp
      rcases List.mem_append.1 hp with hp | hp
      · exact h.keys p hp
      · simp at hp
        subst hp
        exact ⟨kl, hk⟩
    · rw [List.map_append, List.nodup_append]
      refine ⟨h.nod, by simp, fun x hx y hy e => ?_⟩
      simp at hy
      subst hy e
      obtain ⟨p, hp, e⟩ := List.mem_map.1 hx
      exact getM_none.1 hn p hp e
  · rw [hn] at h3
    cases h3
theorem delM_at {a : α} {v : β} : ∀ {L : List (α × β)} {j : Nat}, (L.map (·.1)).Nodup → L[j]? = some (a, v) → delM L a = L.eraseIdx j
  | [], j, _, h => by simp at h
  | p :: r, 0, _, h => by
    simp at h
    subst h
    simp [delM]
  | p :: r, j + 1, hn, h => by
    simp only [List.map_cons, List.nodup_cons] at hn
    simp only [List.getElem?_cons_succ] at h
    have : p.1 ≠ a := fun e => hn.1 (by rw [e]; exact List.mem_map.2 ⟨_, List.mem_of_getElem? h, rfl⟩)
    simp only [delM, if_neg this, List.eraseIdx_cons_succ, delM_at hn.2 h]
theorem delM_none {a : α} : ∀ {L : List (α × β)}, getM L a = none → delM L a = L
  | [], _ => rfl
  | p :: r, h => by
    simp only [getM] at h
    split at h
    · cases h
    · rename_i e
      simp only [delM, if_neg e, delM_none h]
theorem delM_sub (a : α) : ∀ (L : List (α × β)), (delM L a).Sublist L
  | [] => List.Sublist.refl _
  | p :: r => by
    simp only [delM]
    split
    · exact List.sublist_cons_self _ _
    · exact (delM_sub a r).cons_cons _
/-- delete. -/
theorem MapIs.drop (h : MapIs P k ek ev w b L) (K : Keyed P k) (ht : P.underlying t = some (.map k e)) {a : α} {kl : Lit} (hk : keyOf P k (ek a) = some kl) (ty : TypeId) :
    ∃ w', (Builtin.delete_ #[t, k] ty #[.map (some b), ek a]).run P w = .ok (.tuple #[]) w' ∧ MapIs P k ek ev w' b (delM L a) ∧ w.grownBy w' (some b) := by
  obtain ⟨es, clock, hb, hes, hor⟩ := h.found K hk
  have hsub := delM_sub a L
  have hkeys : ∀ p ∈ delM L a, ∃ l, keyOf P k (ek p.1) = some l := fun p hp => h.keys p (hsub.subset hp)
  have hnod : ((delM L a).map (·.1)).Nodup := (hsub.map _).nodup h.nod
  rcases hor with ⟨h1, h2⟩ | ⟨j, v, h1, h2, h3⟩
  · refine ⟨setBlock w b (.map es clock), ?_, ⟨⟨_, _, heap_setBlock_same hb _, ?_⟩, hkeys, hnod, h.inj⟩, turned hb⟩
    · simp [Builtin.delete_, run_underlying ht, MapKept.run_getObj_map hb, K.check w _ hk, h1, MapKept.run_setObj_map _ hb, Result.andThen, setBlock]
    · rw [hes, delM_none h2]
  · have hjl : j < L.length := (List.getElem?_eq_some_iff.1 h2).1
    have hsz : es.size = L.length := by simpa using congrArg List.length hes
    refine ⟨setBlock w b (.map (es.eraseIdxIfInBounds j) clock), ?_, ⟨⟨_, _, heap_setBlock_same hb _, ?_⟩, hkeys, hnod, h.inj⟩, turned hb⟩
    · simp [Builtin.delete_, run_underlying ht, MapKept.run_getObj_map hb, K.check w _ hk, h1, MapKept.run_setObj_map _ hb, Result.andThen, setBlock]
    · have hs : (es.eraseIdxIfInBounds j).toList = es.toList.eraseIdx j := by
        unfold Array.eraseIdxIfInBounds
        rw [dif_pos (by omega)]
        simp
      rw [hs, map_eraseIdx, hes, delM_at h.nod h2, map_eraseIdx]
/-- A key that is a struct of two whole numbers. -/
theorem keyOf_two {P : Program} {k t1 t2 : TypeId} {q1 q2 : IntKind} {f1 f2 : Field} (hk : P.keyType k = true) (hu : P.underlying k = some (.struct #[f1, f2])) (n1 : (f1.name != "_") = true) (n2 : (f2.name != "_") = true) (e1 : f1.type = t1) (e2 : f2.type = t2)
    (o1 : f1.offset = 0) (o2 : f2.offset = 1) (c : P.cellsOf k = 2) (c1 : P.cellsOf t1 = 1) (c2 : P.cellsOf t2 = 1) (u1 : P.underlying t1 = some (.int q1)) (u2 : P.underlying t2 = some (.int q2)) (hs : 0 < P.types.size) {a b : Int} (w1 : (Lit.int q1 a).wf = true) (w2 : (Lit.int q2 b).wf = true) :
    ∃ l, keyOf P k (.agg #[.int q1 a, .int q2 b]) = some l := by
  obtain ⟨m, hm⟩ : ∃ m, P.types.size = m + 1 := ⟨P.types.size - 1, by omega⟩
  unfold keyOf
  rw [hu]
  simp only [hk, Bool.true_and]
  simp [Value.formed, hu, c, hm, Program.keyLits, c1, c2, u1, u2, w1, w2, Value.cells, n1, n2, e1, e2, o1, o2]
theorem keyOf_one {P : Program} {k : TypeId} {q : IntKind} (u : P.underlying k = some (.int q)) {a : Int} (w : (Lit.int q a).wf = true) : ∃ l, keyOf P k (.int q a) = some l := ⟨_, keyOf_int_mk u w⟩
end Go.Proofs.YtpjelffgakgjaaaW.MapIs
