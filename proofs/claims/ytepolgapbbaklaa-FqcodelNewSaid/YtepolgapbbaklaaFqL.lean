/- fqcodel: a calm queue of queues beside boxes that are not its own. No condition. -/
import Derived.Test.YtepolgapbbaklaaFqJ
namespace Go.Proofs.Ytepolgapbbaklaa.Q
set_option linter.unusedVariables false
set_option linter.unusedSimpArgs false
open Go.RowKit Go.Proofs.YtepolgapbbaklaaW.PrintWords Go.Proofs.YtepolgapbbaklaaW.PrintLast Go.Proofs.YtepolgapbbaklaaW.PrintMore
/-- The queue, wherever its rows lie, but not in X. -/
def LX (w W : World) (q N : Nat) (c : Cfg) (s : ST) (now : Int) (X : Nat → Prop) : Prop := ∃ fb rv v1 v2, FQ w W q fb N c s.fs rv v1 v2 s.l1 s.l2 s.n now ∧ ∀ k, X k → ¬ Mine q fb N rv v1 v2 k ∧ k < W.heap.size
/-- What lies in X stays. -/
def Stay (W W' : World) (X : Nat → Prop) : Prop := ∀ k, X k → W'.heap[k]? = W.heap[k]?
section
variable {w W W' : World} {q N : Nat} {c : Cfg} {s : ST} {now : Int} {X Y : Nat → Prop}
theorem LX.below (h : LX w W q N c s now X) : Below w.heap.size w W := by
  obtain ⟨fb, rv, v1, v2, h, _⟩ := h
  exact FR.B h
theorem LX.step (h : LX w W q N c s now X) (hb : Below W.heap.size W W') : LX w W' q N c s now X := by
  obtain ⟨fb, rv, v1, v2, h, hx⟩ := h
  exact ⟨fb, rv, v1, v2, FQ.step h hb, fun k hk => ⟨(hx k hk).1, Nat.lt_of_lt_of_le (hx k hk).2 hb.size⟩⟩
theorem LX.weaken (h : LX w W q N c s now X) (hy : ∀ k, Y k → X k) : LX w W q N c s now Y := by
  obtain ⟨fb, rv, v1, v2, h, hx⟩ := h
  exact ⟨fb, rv, v1, v2, h, fun k hk => hx k (hy k hk)⟩
theorem Live.lx (h : Live w W q N c s now) : LX w W q N c s now (fun _ => False) := by
  obtain ⟨fb, rv, v1, v2, h⟩ := h
  exact ⟨fb, rv, v1, v2, h, fun k hk => hk.elim⟩
/-- What came newly is beside it. -/
theorem LX.fresh (h : LX w W q N c s now X) (hb : Below W.heap.size W W') : LX w W' q N c s now (fun k => X k ∨ (W.heap.size ≤ k ∧ k < W'.heap.size)) := by
  obtain ⟨fb, rv, v1, v2, h, hx⟩ := h
  refine ⟨fb, rv, v1, v2, FQ.step h hb, fun k hk => ?_⟩
  rcases hk with hk | ⟨hk, hl⟩
  · exact ⟨(hx k hk).1, Nat.lt_of_lt_of_le (hx k hk).2 hb.size⟩
  · exact ⟨fun hm => Nat.lt_irrefl _ (Nat.lt_of_lt_of_le (FR.lt h hm) hk), hl⟩
theorem LX.set (h : LX w W q N c s now X) {g : Nat} (hg : w.heap.size ≤ g) (hx : X g) (i : Nat) (u : Value) : LX w (W.setCell ⟨g, i, none⟩ u) q N c s now X := by
  obtain ⟨fb, rv, v1, v2, h, hX⟩ := h
  refine ⟨fb, rv, v1, v2, FR.far h hg (hX g hx).1 i u, fun k hk => ⟨(hX k hk).1, ?_⟩⟩
  have := (hX k hk).2
  simpa [World.setCell] using this
theorem LX.lt (h : LX w W q N c s now X) {k : Nat} (hk : X k) : k < W.heap.size := by
  obtain ⟨fb, rv, v1, v2, h, hX⟩ := h
  exact (hX k hk).2
theorem LX.call {s' : ST} {now' : Int} {fb : Nat} {rv : Nat → Value} {v1 v2 : Value} (h : FQ w W q fb N c s.fs rv v1 v2 s.l1 s.l2 s.n now) (hx : ∀ k, X k → ¬ Mine q fb N rv v1 v2 k ∧ k < W.heap.size) {rv' : Nat → Value} {v1' v2' : Value} (h' : FQ w W' q fb N c s'.fs rv' v1' v2' s'.l1 s'.l2 s'.n now') (hk : Kept W W' (Mine q fb N rv v1 v2)) (hm : ∀ k, Mine q fb N rv' v1' v2' k → Mine q fb N rv v1 v2 k ∨ W.heap.size ≤ k) : LX w W' q N c s' now' X ∧ Stay W W' X := by
  refine ⟨⟨fb, rv', v1', v2', h', fun k hxk => ⟨fun hm' => ?_, Nat.lt_of_lt_of_le (hx k hxk).2 hk.1⟩⟩, fun k hxk => hk.2 k (hx k hxk).2 (hx k hxk).1⟩
  rcases hm k hm' with hm' | hm'
  · exact (hx k hxk).1 hm'
  · exact Nat.lt_irrefl _ (Nat.lt_of_lt_of_le (hx k hxk).2 hm')
theorem Enq_lx (h : LX w W q N c s now X) {i : Nat} (hi : i < N) (hM : N ≤ 1024) {p : PK} (hp : POk p now) (hps : (s.fs i).ps.length ≤ 70000) (hl1 : s.l1.length ≤ 65536) (hn : 0 ≤ s.n ∧ s.n ≤ 70000) (hr : s.n + 1 ≤ c.limit) :
    Calls Try.prog 12 #[.pointer (some ⟨q, 0, none⟩), .int .i64 (i : Int), pkV p] W fun e W' => e = .returned (.tuple #[.slice none 0 0, .int .i64 0]) ∧ LX w W' q N c (s.enq c i p) p.f0 X ∧ Stay W W' X := by
  obtain ⟨fb, rv, v1, v2, h, hx⟩ := h
  refine (Enq_ok h hi hM hp hps hl1 hn (fun x => absurd hr x)).mono ?_
  intro e w' he
  obtain ⟨he, rv', v1', hq, hk, hm⟩ := he.room hr
  exact ⟨he, LX.call h hx hq hk hm⟩
theorem Deq_lx (h : LX w W q N c s now X) (hM : N ≤ 1024) {now' : Int} (h0 : now ≤ now') (h1 : now' ≤ 1099511627776) (hn : 0 ≤ s.n ∧ s.n ≤ 70000) (ok : QOk c now' N s.fs s.l1 s.l2) (k : Nat) (R : DRes) (hR : deqGo c k s.fs s.l1 s.l2 s.n = some R) :
    Calls Try.prog 13 #[.pointer (some ⟨q, 0, none⟩), .int .i64 now'] W fun e W' => e = .returned (.tuple #[resV R.1 R.2.2.2.2, .int .i64 0]) ∧ LX w W' q N c (ST.of R) now' X ∧ Stay W W' X := by
  obtain ⟨fb, rv, v1, v2, h, hx⟩ := h
  refine (Deq_in h hM h0 h1 hn ok k R hR).mono ?_
  rintro e w' ⟨he, rv', v1', v2', hq, hk, hm⟩
  exact ⟨he, LX.call h hx hq hk hm⟩
theorem LX.box (h : LX w W q N c s now X) (cs : Array Value) (t : TypeId) : LX w (W.alloc (.cells cs t)) q N c s now (fun k => X k ∨ k = W.heap.size) ∧ (W.alloc (.cells cs t)).heap[W.heap.size]? = some (.cells cs t (0, 0)) := by
  refine ⟨(h.fresh (below_alloc (Below.refl _ _) _)).weaken (fun k hk => ?_), heap_alloc_new W (.cells cs t)⟩
  rcases hk with hk | hk
  · exact .inl hk
  · exact .inr ⟨Nat.le_of_eq hk.symm, by simp; omega⟩
theorem LX.ge (h : LX w W q N c s now X) : w.heap.size ≤ W.heap.size := below_size h.below
theorem LX.set8 (h : LX w W q N c s now X) {g : Nat} (hg : w.heap.size ≤ g) (hx : X g) {t : TypeId} {b0 b1 b2 b3 b4 b5 b6 b7 : Value} (k : W.heap[g]? = some (.cells #[b0, b1, b2, b3, b4, b5, b6, b7] t (0, 0))) (u0 u1 u2 u3 u4 u5 u6 u7 : Value) : LX w ((((((((W.setCell ⟨g, 0, none⟩ u0).setCell ⟨g, 1, none⟩ u1).setCell ⟨g, 2, none⟩ u2).setCell ⟨g, 3, none⟩ u3).setCell ⟨g, 4, none⟩ u4).setCell ⟨g, 5, none⟩ u5).setCell ⟨g, 6, none⟩ u6).setCell ⟨g, 7, none⟩ u7) q N c s now X ∧ ((((((((W.setCell ⟨g, 0, none⟩ u0).setCell ⟨g, 1, none⟩ u1).setCell ⟨g, 2, none⟩ u2).setCell ⟨g, 3, none⟩ u3).setCell ⟨g, 4, none⟩ u4).setCell ⟨g, 5, none⟩ u5).setCell ⟨g, 6, none⟩ u6).setCell ⟨g, 7, none⟩ u7).heap[g]? = some (.cells #[u0, u1, u2, u3, u4, u5, u6, u7] t (0, 0)) :=
  ⟨((((((((h.set hg hx 0 u0).set hg hx 1 u1).set hg hx 2 u2).set hg hx 3 u3).set hg hx 4 u4).set hg hx 5 u5).set hg hx 6 u6).set hg hx 7 u7), (blk_put (cs' := #[u0, u1, u2, u3, u4, u5, u6, u7]) (blk_put (cs' := #[u0, u1, u2, u3, u4, u5, u6, b7]) (blk_put (cs' := #[u0, u1, u2, u3, u4, u5, b6, b7]) (blk_put (cs' := #[u0, u1, u2, u3, u4, b5, b6, b7]) (blk_put (cs' := #[u0, u1, u2, u3, b4, b5, b6, b7]) (blk_put (cs' := #[u0, u1, u2, b3, b4, b5, b6, b7]) (blk_put (cs' := #[u0, u1, b2, b3, b4, b5, b6, b7]) (blk_put (cs' := #[u0, b1, b2, b3, b4, b5, b6, b7]) k 0 u0 rfl) 1 u1 rfl) 2 u2 rfl) 3 u3 rfl) 4 u4 rfl) 5 u5 rfl) 6 u6 rfl) 7 u7 rfl)⟩
theorem wp_far {P : Program} {cd : Code} {Q' : Exit → Act → World → Prop} {a : Act} {V : World} (h : ∀ V2, V = V2 → Code.wp P cd Q' a V2) : Code.wp P cd Q' a V := h V rfl
theorem cells8 {g : Nat} {t : TypeId} {b0 b1 b2 b3 b4 b5 b6 b7 : Value} (k : W.heap[g]? = some (.cells #[b0, b1, b2, b3, b4, b5, b6, b7] t (0, 0))) : (W.cell? ⟨g, 0, none⟩ = some b0 ∧ W.cell? ⟨g, 1, none⟩ = some b1 ∧ W.cell? ⟨g, 2, none⟩ = some b2 ∧ W.cell? ⟨g, 3, none⟩ = some b3 ∧ W.cell? ⟨g, 4, none⟩ = some b4 ∧ W.cell? ⟨g, 5, none⟩ = some b5 ∧ W.cell? ⟨g, 6, none⟩ = some b6 ∧ W.cell? ⟨g, 7, none⟩ = some b7) ∧ (W.frozen? ⟨g, 0, none⟩ = false ∧ W.frozen? ⟨g, 1, none⟩ = false ∧ W.frozen? ⟨g, 2, none⟩ = false ∧ W.frozen? ⟨g, 3, none⟩ = false ∧ W.frozen? ⟨g, 4, none⟩ = false ∧ W.frozen? ⟨g, 5, none⟩ = false ∧ W.frozen? ⟨g, 6, none⟩ = false ∧ W.frozen? ⟨g, 7, none⟩ = false) :=
  ⟨⟨(blk_cell k 0).trans rfl, (blk_cell k 1).trans rfl, (blk_cell k 2).trans rfl, (blk_cell k 3).trans rfl, (blk_cell k 4).trans rfl, (blk_cell k 5).trans rfl, (blk_cell k 6).trans rfl, (blk_cell k 7).trans rfl⟩, blk_frozen k 0, blk_frozen k 1, blk_frozen k 2, blk_frozen k 3, blk_frozen k 4, blk_frozen k 5, blk_frozen k 6, blk_frozen k 7⟩
theorem Len_lx (h : LX w W q N c s now X) :
    Calls Try.prog 15 #[.pointer (some ⟨q, 0, none⟩)] W fun e W' => e = .returned (.int .i64 s.n) ∧ W = W' := by
  obtain ⟨fb, rv, v1, v2, h, hx⟩ := h
  exact Len_in h
theorem Flow_lx (h : LX w W q N c s now X) {i : Nat} (hi : i < N) (hl : (s.fs i).ps.length ≤ 70000) :
    Calls Try.prog 17 #[.pointer (some ⟨q, 0, none⟩), .int .i64 (i : Int)] W fun e W' => ∃ v, e = .returned (.tuple #[v, .int .i64 (s.fs i).deficit, .int .i64 (s.fs i).on]) ∧ Kd.R kP 41 W' W.heap.size (fun _ => True) v (s.fs i).ps ∧ Below W.heap.size W W' := by
  obtain ⟨fb, rv, v1, v2, h, hx⟩ := h
  exact Flow_in h hi hl
end
/-- A number as the laws make it. -/
def nrm (k m x : Int) : Int := wrap64 (k + (wrap64 (x.tmod m + m)).tmod m)
theorem nrm_is (k m x : Int) (hm : 0 < m) (hm2 : m ≤ 1000000) (hk : 0 ≤ k) (hk2 : k ≤ 1000000) : k ≤ nrm k m x ∧ nrm k m x < k + m := by
  have a1 := Int.tmod_lt_of_pos x hm
  have a2 : -m < x.tmod m := by
    have h := Int.tmod_lt_of_pos (-x) hm
    rw [Int.neg_tmod] at h
    omega
  have e1 : wrap64 (x.tmod m + m) = x.tmod m + m := by
    unfold wrap64
    omega
  have b1 := Int.tmod_lt_of_pos (x.tmod m + m) hm
  have b2 : 0 ≤ (x.tmod m + m).tmod m := Int.tmod_nonneg m (by omega)
  unfold nrm
  rw [e1]
  have e2 : wrap64 (k + (x.tmod m + m).tmod m) = k + (x.tmod m + m).tmod m := by
    unfold wrap64
    omega
  rw [e2]
  omega
end Go.Proofs.Ytepolgapbbaklaa.Q
