/- fqcodel: the queue of queues as its boxes and rows. No condition. -/
import Derived.Test.YtepolgapbbaklaaQ0
import Derived.Outline
import Derived.Lib.Hide
import Derived.Deep.RegionHeld3
import Derived.Deep.RegionWith
import Derived.Deep.RegionLaw
namespace Go.Proofs.Ytepolgapbbaklaa.Q
set_option linter.unusedVariables false
set_option linter.unusedSimpArgs false
open Go.RowKit Go.Proofs.YtepolgapbbaklaaW.PrintWords Go.Proofs.YtepolgapbbaklaaW.PrintLast Go.Proofs.YtepolgapbbaklaaW.PrintMore
abbrev PK := S41
/-- One flow. -/
structure Fl where
  id : Int
  ps : List PK
  bytes : Int
  above : Bool
  aboveAt : Int
  dropping : Bool
  next : Int
  count : Int
  last : Int
  deficit : Int
  on : Int
def Fl.cells (f : Fl) (v : Value) : Array Value := #[.int .i64 f.id, v, .int .i64 f.bytes, .bool f.above, .int .i64 f.aboveAt, .bool f.dropping, .int .i64 f.next, .int .i64 f.count, .int .i64 f.last, .int .i64 f.deficit, .int .i64 f.on]
/-- Of a row of things one is another. -/
def upd {α : Type} (f : Nat → α) (i : Nat) (x : α) : Nat → α := fun k => if k = i then x else f k
theorem upd_at {α : Type} (f : Nat → α) (i : Nat) (x : α) : upd f i x i = x := if_pos rfl
theorem upd_ne {α : Type} (f : Nat → α) {i k : Nat} (x : α) (h : k ≠ i) : upd f i x k = f k := if_neg h
theorem upd_self {α : Type} (f : Nat → α) (i : Nat) : upd f i (f i) = f := by
  funext k
  unfold upd
  by_cases c : k = i
  · rw [if_pos c, c]
  · rw [if_neg c]
theorem upd_upd {α : Type} (f : Nat → α) (i : Nat) (x y : α) : upd (upd f i x) i y = upd f i y := by
  funext k
  unfold upd
  by_cases c : k = i
  · rw [if_pos c, if_pos c]
  · rw [if_neg c, if_neg c, if_neg c]
/-- The flows' block. -/
structure FB (W : World) (fb N : Nat) (fc : Nat → Array Value) : Prop where
  k : ∃ C : Array Value, W.heap[fb]? = some (.cells C 73 (0, 0)) ∧ ∀ i j, i < N → j < 11 → C[i * 11 + j]? = (fc i)[j]?
  sz : ∀ i, i < N → (fc i).size = 11
theorem FB.z {W : World} {fb N : Nat} {fc : Nat → Array Value} (h : FB W fb N fc) {i : Nat} (hi : i < N) (j : Nat) (hj : j < 11) : W.cell? ⟨fb, i * 11 + j, none⟩ = (fc i)[j]? ∧ W.frozen? ⟨fb, i * 11 + j, none⟩ = false := by
  obtain ⟨C, hC, hc⟩ := h.k
  exact ⟨(blk_cell hC _).trans (hc i j hi hj), blk_frozen hC _⟩
theorem FB.typed {W : World} {fb N : Nat} {fc : Nat → Array Value} (h : FB W fb N fc) : ∃ C, W.heap[fb]? = some (.cells C 73 (0, 0)) := by
  obtain ⟨C, hC, _⟩ := h.k
  exact ⟨C, hC⟩
theorem FB.move {W W' : World} {fb N : Nat} {fc : Nat → Array Value} (h : FB W fb N fc) (e : W'.heap[fb]? = W.heap[fb]?) : FB W' fb N fc := by
  obtain ⟨C, hC, hc⟩ := h.k
  exact ⟨⟨C, e.trans hC, hc⟩, h.sz⟩
theorem FB.put {W : World} {fb N : Nat} {fc : Nat → Array Value} (h : FB W fb N fc) {i : Nat} (hi : i < N) (j : Nat) (hj : j < 11) (u : Value) : FB (W.setCell ⟨fb, i * 11 + j, none⟩ u) fb N (upd fc i ((fc i).setIfInBounds j u)) := by
  obtain ⟨C, hC, hc⟩ := h.k
  have hsz := h.sz i hi
  have hp : i * 11 + j < C.size := by
    have e := (hc i j hi hj).trans (Array.getElem?_eq_getElem (xs := fc i) (i := j) (by omega))
    exact (Array.getElem?_eq_some_iff.1 e).1
  refine ⟨⟨_, blk_set hC _ u, fun i' j' hi' hj' => ?_⟩, fun i' hi' => ?_⟩
  · rw [Array.getElem?_setIfInBounds]
    by_cases c : i' = i
    · subst c
      rw [upd_at, Array.getElem?_setIfInBounds]
      by_cases c2 : j = j'
      · subst c2
        rw [if_pos rfl, if_pos rfl, if_pos hp, if_pos (by omega)]
      · rw [if_neg (by omega), if_neg c2]
        exact hc i' j' hi' hj'
    · rw [upd_ne _ _ c, if_neg (by omega)]
      exact hc i' j' hi' hj'
  · by_cases c : i' = i
    · subst c
      rw [upd_at, Array.size_setIfInBounds]
      exact hsz
    · rw [upd_ne _ _ c]
      exact h.sz i' hi'
/-- Pointers to flows. -/
abbrev kF (fb : Nat) : Kd Nat := Kd.scalar (fun i => Value.pointer (some ⟨fb, i * 11, none⟩)) (fun _ => rfl)
abbrev kP : Kd PK := k41
/-- What is the queue's. -/
def Mine (q fb N : Nat) (rv : Nat → Value) (v1 v2 : Value) (k : Nat) : Prop := k = q ∨ k = fb ∨ (∃ i, i < N ∧ (rv i).ownBlock = some k) ∨ v1.ownBlock = some k ∨ v2.ownBlock = some k
/-- The boxes and rows, whatever the cells are. -/
structure FR (w W : World) (q fb N : Nat) (qc : Array Value) (fc : Nat → Array Value) (rv : Nat → Value) (ps : Nat → List PK) (v1 v2 : Value) (l1 l2 : List Nat) : Prop where
  B : Below w.heap.size w W
  gq : w.heap.size ≤ q
  gf : w.heap.size ≤ fb
  K : W.heap[q]? = some (.cells qc 66 (0, 0))
  F : FB W fb N fc
  R : ∀ i, i < N → kP.Q 41 W w.heap.size (fun _ => True) (rv i) (ps i)
  A : ∀ i j k, i < N → j < N → i ≠ j → (rv i).ownBlock = some k → (rv j).ownBlock ≠ some k
  L1 : (kF fb).Q 74 W w.heap.size (fun _ => True) v1 l1
  L2 : (kF fb).Q 74 W w.heap.size (fun _ => True) v2 l2
  LA : ∀ k, v1.ownBlock = some k → v2.ownBlock ≠ some k
section
variable {w W W' : World} {q fb N : Nat} {qc : Array Value} {fc : Nat → Array Value} {rv : Nat → Value} {ps : Nat → List PK} {v1 v2 : Value} {l1 l2 : List Nat}
theorem qmove {α : Type} {d : Kd α} {e b : Nat} {v : Value} {xs : List α} (hE : d.E = []) (h : d.Q e W b (fun _ => True) v xs) (hm : ∀ k, v.ownBlock = some k → W'.heap[k]? = W.heap[k]?) : d.Q e W' b (fun _ => True) v xs :=
  Kd.Q_mono (Kd.Q_move (Kd.Q_tight hE h) (fun k hk => hm k hk.symm)) (fun _ _ => trivial)
theorem FR.lt (h : FR w W q fb N qc fc rv ps v1 v2 l1 l2) {k : Nat} (hk : Mine q fb N rv v1 v2 k) : k < W.heap.size := by
  rcases hk with rfl | rfl | ⟨i, hi, hk⟩ | hk | hk
  · exact blk_lt h.K
  · obtain ⟨C, hC⟩ := h.F.typed
    exact blk_lt hC
  · exact Kd.Q_lt (h.R i hi) k hk
  · exact Kd.Q_lt h.L1 k hk
  · exact Kd.Q_lt h.L2 k hk
theorem FR.ge (h : FR w W q fb N qc fc rv ps v1 v2 l1 l2) {k : Nat} (hk : Mine q fb N rv v1 v2 k) : w.heap.size ≤ k := by
  rcases hk with rfl | rfl | ⟨i, hi, hk⟩ | hk | hk
  · exact h.gq
  · exact h.gf
  · exact Kd.Q_base (h.R i hi) k hk
  · exact Kd.Q_base h.L1 k hk
  · exact Kd.Q_base h.L2 k hk
theorem FR.move (h : FR w W q fb N qc fc rv ps v1 v2 l1 l2) (hB : Below w.heap.size w W') (hm : ∀ k, Mine q fb N rv v1 v2 k → W'.heap[k]? = W.heap[k]?) : FR w W' q fb N qc fc rv ps v1 v2 l1 l2 :=
  ⟨hB, h.gq, h.gf, (hm q (.inl rfl)).trans h.K, h.F.move (hm fb (.inr (.inl rfl))), fun i hi => qmove rfl (h.R i hi) (fun k hk => hm k (.inr (.inr (.inl ⟨i, hi, hk⟩)))), h.A, qmove rfl h.L1 (fun k hk => hm k (.inr (.inr (.inr (.inl hk))))), qmove rfl h.L2 (fun k hk => hm k (.inr (.inr (.inr (.inr hk))))), h.LA⟩
theorem FR.step (h : FR w W q fb N qc fc rv ps v1 v2 l1 l2) (hb : Below W.heap.size W W') : FR w W' q fb N qc fc rv ps v1 v2 l1 l2 :=
  h.move (below_step h.B hb) (fun k hk => hb.block k (h.lt hk))
theorem FR.any (h : FR w W q fb N qc fc rv ps v1 v2 l1 l2) {n : Nat} (hb : Below (W.drewN n).heap.size (W.drewN n) W') : FR w W' q fb N qc fc rv ps v1 v2 l1 l2 := h.step ⟨hb.os, hb.tape, hb.output, hb.size, hb.block⟩
theorem FR.drew (h : FR w W q fb N qc fc rv ps v1 v2 l1 l2) : FR w W.drew q fb N qc fc rv ps v1 v2 l1 l2 := h.step (below_drew (Below.refl _ _))
theorem FR.drewN (h : FR w W q fb N qc fc rv ps v1 v2 l1 l2) (n : Nat) : FR w (W.drewN n) q fb N qc fc rv ps v1 v2 l1 l2 := h.step (pw_below_drewN (Below.refl _ _) n)
theorem FR.alloc (h : FR w W q fb N qc fc rv ps v1 v2 l1 l2) (o : Obj) : FR w (W.alloc o) q fb N qc fc rv ps v1 v2 l1 l2 := h.step (below_alloc (Below.refl _ _) o)
theorem FR.kept (h : FR w W q fb N qc fc rv ps v1 v2 l1 l2) (hB : Below w.heap.size w W') {S : Nat → Prop} (hk : Kept W W' S) (hS : ∀ k, S k → ¬ Mine q fb N rv v1 v2 k) : FR w W' q fb N qc fc rv ps v1 v2 l1 l2 :=
  h.move hB (fun k hm => hk.2 k (h.lt hm) (fun hs => hS k hs hm))
theorem FR.far (h : FR w W q fb N qc fc rv ps v1 v2 l1 l2) {g : Nat} (hg : w.heap.size ≤ g) (hn : ¬ Mine q fb N rv v1 v2 g) (i : Nat) (u : Value) : FR w (W.setCell ⟨g, i, none⟩ u) q fb N qc fc rv ps v1 v2 l1 l2 :=
  h.move (below_set h.B hg) (fun k hk => Below.heap_setCell W ⟨g, i, none⟩ u k (fun e => hn (by have e2 : k = g := e; rw [← e2]; exact hk)))
theorem FR.row_ne (h : FR w W q fb N qc fc rv ps v1 v2 l1 l2) {i k : Nat} (hi : i < N) (hk : (rv i).ownBlock = some k) : k ≠ q ∧ k ≠ fb ∧ v1.ownBlock ≠ some k ∧ v2.ownBlock ≠ some k := by
  obtain ⟨C, hC⟩ := Kd.Q_typed (h.R i hi) k hk
  refine ⟨?_, ?_, ?_, ?_⟩
  · rintro rfl
    rw [h.K] at hC
    injection hC with hC
    injection hC with _ hC
    exact absurd hC (by decide)
  · rintro rfl
    obtain ⟨D, hD⟩ := h.F.typed
    rw [hD] at hC
    injection hC with hC
    injection hC with _ hC
    exact absurd hC (by decide)
  · intro e
    obtain ⟨D, hD⟩ := Kd.Q_typed h.L1 k e
    rw [hD] at hC
    injection hC with hC
    injection hC with _ hC
    exact absurd hC (by decide)
  · intro e
    obtain ⟨D, hD⟩ := Kd.Q_typed h.L2 k e
    rw [hD] at hC
    injection hC with hC
    injection hC with _ hC
    exact absurd hC (by decide)
theorem FR.list_ne {v : Value} {l : List Nat} (h : FR w W q fb N qc fc rv ps v1 v2 l1 l2) (hL : (kF fb).Q 74 W w.heap.size (fun _ => True) v l) {k : Nat} (hk : v.ownBlock = some k) : k ≠ q ∧ k ≠ fb ∧ ∀ i, i < N → (rv i).ownBlock ≠ some k := by
  obtain ⟨C, hC⟩ := Kd.Q_typed hL k hk
  refine ⟨?_, ?_, fun i hi e => ?_⟩
  · rintro rfl
    rw [h.K] at hC
    injection hC with hC
    injection hC with _ hC
    exact absurd hC (by decide)
  · rintro rfl
    obtain ⟨D, hD⟩ := h.F.typed
    rw [hD] at hC
    injection hC with hC
    injection hC with _ hC
    exact absurd hC (by decide)
  · obtain ⟨D, hD⟩ := Kd.Q_typed (h.R i hi) k e
    rw [hD] at hC
    injection hC with hC
    injection hC with _ hC
    exact absurd hC (by decide)
theorem FR.qf (h : FR w W q fb N qc fc rv ps v1 v2 l1 l2) : fb ≠ q := by
  rintro rfl
  obtain ⟨D, hD⟩ := h.F.typed
  rw [h.K] at hD
  injection hD with hD
  injection hD with _ hD
  exact absurd hD (by decide)
theorem FR.other (h : FR w W q fb N qc fc rv ps v1 v2 l1 l2) {g : Nat} {t : TypeId} {cs : Array Value} (hk : W.heap[g]? = some (.cells cs t (0, 0))) (h1 : t ≠ 66) (h2 : t ≠ 73) (h3 : t ≠ 41) (h4 : t ≠ 74) : ¬ Mine q fb N rv v1 v2 g := by
  have key : ∀ {t' : TypeId} {D : Array Value}, W.heap[g]? = some (.cells D t' (0, 0)) → t = t' := fun hD => by
    rw [hk] at hD
    injection hD with hD
    injection hD with _ hD
  rintro (rfl | rfl | ⟨i, hi, hm⟩ | hm | hm)
  · exact h1 (key h.K)
  · obtain ⟨D, hD⟩ := h.F.typed
    exact h2 (key hD)
  · obtain ⟨D, hD⟩ := Kd.Q_typed (h.R i hi) _ hm
    exact h3 (key hD)
  · obtain ⟨D, hD⟩ := Kd.Q_typed h.L1 _ hm
    exact h4 (key hD)
  · obtain ⟨D, hD⟩ := Kd.Q_typed h.L2 _ hm
    exact h4 (key hD)
theorem FR.putQ (h : FR w W q fb N qc fc rv ps v1 v2 l1 l2) (i : Nat) (u : Value) : FR w (W.setCell ⟨q, i, none⟩ u) q fb N (qc.setIfInBounds i u) fc rv ps v1 v2 l1 l2 := by
  have hm : ∀ k, k ≠ q → (W.setCell ⟨q, i, none⟩ u).heap[k]? = W.heap[k]? := fun k hk => Below.heap_setCell W ⟨q, i, none⟩ u k hk
  exact ⟨below_set h.B h.gq, h.gq, h.gf, blk_set h.K i u, h.F.move (hm fb h.qf), fun j hj => qmove rfl (h.R j hj) (fun k hk => hm k (h.row_ne hj hk).1), h.A, qmove rfl h.L1 (fun k hk => hm k (h.list_ne h.L1 hk).1), qmove rfl h.L2 (fun k hk => hm k (h.list_ne h.L2 hk).1), h.LA⟩
theorem FR.putF (h : FR w W q fb N qc fc rv ps v1 v2 l1 l2) {i : Nat} (hi : i < N) (j : Nat) (hj : j < 11) (u : Value) : FR w (W.setCell ⟨fb, i * 11 + j, none⟩ u) q fb N qc (upd fc i ((fc i).setIfInBounds j u)) rv ps v1 v2 l1 l2 := by
  have hm : ∀ k, k ≠ fb → (W.setCell ⟨fb, i * 11 + j, none⟩ u).heap[k]? = W.heap[k]? := fun k hk => Below.heap_setCell W ⟨fb, i * 11 + j, none⟩ u k hk
  exact ⟨below_set h.B h.gf, h.gq, h.gf, (hm q (fun e => h.qf e.symm)).trans h.K, h.F.put hi j hj u, fun j' hj' => qmove rfl (h.R j' hj') (fun k hk => hm k (h.row_ne hj' hk).2.1), h.A, qmove rfl h.L1 (fun k hk => hm k (h.list_ne h.L1 hk).2.1), qmove rfl h.L2 (fun k hk => hm k (h.list_ne h.L2 hk).2.1), h.LA⟩
/-- A flow's row, as another value that lies where it lay. -/
theorem FR.cutP (h : FR w W q fb N qc fc rv ps v1 v2 l1 l2) {i : Nat} (hi : i < N) {v : Value} {xs : List PK} (hv : kP.Q 41 W w.heap.size (fun _ => True) v xs) (ho : v.ownBlock = (rv i).ownBlock) : FR w W q fb N qc fc (upd rv i v) (upd ps i xs) v1 v2 l1 l2 := by
  have ho' : ∀ j, (upd rv i v j).ownBlock = (rv j).ownBlock := fun j => by
    by_cases c : j = i
    · subst c
      rw [upd_at, ho]
    · rw [upd_ne _ _ c]
  refine ⟨h.B, h.gq, h.gf, h.K, h.F, fun j hj => ?_, fun a b k ha hb hab hk => ?_, h.L1, h.L2, h.LA⟩
  · by_cases c : j = i
    · subst c
      rw [upd_at, upd_at]
      exact hv
    · rw [upd_ne _ _ c, upd_ne _ _ c]
      exact h.R j hj
  · rw [ho'] at hk ⊢
    exact h.A a b k ha hb hab hk
/-- A flow's row that has grown. -/
theorem FR.growP (h : FR w W q fb N qc fc rv ps v1 v2 l1 l2) {i : Nat} (hi : i < N) {v : Value} {xs : List PK} (hv : kP.Q 41 W' w.heap.size (fun _ => True) v xs) (hB : Below w.heap.size w W') (hg : W.grownBy W' (rv i).ownBlock) (hat : v.ownBlock = (rv i).ownBlock ∨ ∃ b, v.ownBlock = some b ∧ W.heap.size ≤ b) :
    FR w W' q fb N qc fc (upd rv i v) (upd ps i xs) v1 v2 l1 l2 := by
  have mv : ∀ k, k < W.heap.size → (rv i).ownBlock ≠ some k → W'.heap[k]? = W.heap[k]? := fun k hk hn => hg.block k hk (fun e => hn e.symm)
  refine ⟨hB, h.gq, h.gf, (mv q (blk_lt h.K) (fun e => (h.row_ne hi e).1 rfl)).trans h.K, h.F.move (mv fb (h.lt (.inr (.inl rfl))) (fun e => (h.row_ne hi e).2.1 rfl)), fun j hj => ?_, fun a b k ha hb hab hk e => ?_,
    qmove rfl h.L1 (fun k hk => mv k (Kd.Q_lt h.L1 k hk) (fun e => (h.row_ne hi e).2.2.1 hk)), qmove rfl h.L2 (fun k hk => mv k (Kd.Q_lt h.L2 k hk) (fun e => (h.row_ne hi e).2.2.2 hk)), h.LA⟩
  · by_cases c : j = i
    · subst c
      rw [upd_at, upd_at]
      exact hv
    · rw [upd_ne _ _ c, upd_ne _ _ c]
      exact qmove rfl (h.R j hj) (fun k hk => mv k (Kd.Q_lt (h.R j hj) k hk) (fun e => h.A i j k hi hj (fun x => c x.symm) e hk))
  · by_cases ca : a = i
    · subst ca
      have cb : b ≠ a := fun x => hab x.symm
      rw [upd_at] at hk
      rw [upd_ne _ _ cb] at e
      rcases hat with hat | ⟨b', hb', hle⟩
      · exact h.A a b k ha hb hab (by rw [← hat]; exact hk) e
      · rw [hb'] at hk
        have hk := Option.some.inj hk
        have := Kd.Q_lt (h.R b hb) k e
        omega
    · rw [upd_ne _ _ ca] at hk
      by_cases cb : b = i
      · subst cb
        rw [upd_at] at e
        rcases hat with hat | ⟨b', hb', hle⟩
        · exact h.A a b k ha hb hab hk (by rw [← hat]; exact e)
        · rw [hb'] at e
          have e := Option.some.inj e
          have := Kd.Q_lt (h.R a ha) k hk
          omega
      · rw [upd_ne _ _ cb] at e
        exact h.A a b k ha hb hab hk e
theorem FR.cut1 (h : FR w W q fb N qc fc rv ps v1 v2 l1 l2) {v : Value} {l : List Nat} (hv : (kF fb).Q 74 W w.heap.size (fun _ => True) v l) (ho : v.ownBlock = v1.ownBlock) : FR w W q fb N qc fc rv ps v v2 l l2 :=
  ⟨h.B, h.gq, h.gf, h.K, h.F, h.R, h.A, hv, h.L2, fun k hk => h.LA k (by rw [← ho]; exact hk)⟩
theorem FR.cut2 (h : FR w W q fb N qc fc rv ps v1 v2 l1 l2) {v : Value} {l : List Nat} (hv : (kF fb).Q 74 W w.heap.size (fun _ => True) v l) (ho : v.ownBlock = v2.ownBlock) : FR w W q fb N qc fc rv ps v1 v l1 l :=
  ⟨h.B, h.gq, h.gf, h.K, h.F, h.R, h.A, h.L1, hv, fun k hk => by rw [ho]; exact h.LA k hk⟩
theorem FR.grow1 (h : FR w W q fb N qc fc rv ps v1 v2 l1 l2) {v : Value} {l : List Nat} (hv : (kF fb).Q 74 W' w.heap.size (fun _ => True) v l) (hB : Below w.heap.size w W') (hg : W.grownBy W' v1.ownBlock) (hat : v.ownBlock = v1.ownBlock ∨ ∃ b, v.ownBlock = some b ∧ W.heap.size ≤ b) :
    FR w W' q fb N qc fc rv ps v v2 l l2 := by
  have mv : ∀ k, k < W.heap.size → v1.ownBlock ≠ some k → W'.heap[k]? = W.heap[k]? := fun k hk hn => hg.block k hk (fun e => hn e.symm)
  refine ⟨hB, h.gq, h.gf, (mv q (blk_lt h.K) (fun e => (h.list_ne h.L1 e).1 rfl)).trans h.K, h.F.move (mv fb (h.lt (.inr (.inl rfl))) (fun e => (h.list_ne h.L1 e).2.1 rfl)), fun j hj => qmove rfl (h.R j hj) (fun k hk => mv k (Kd.Q_lt (h.R j hj) k hk) (fun e => (h.row_ne hj hk).2.2.1 e)), h.A, hv,
    qmove rfl h.L2 (fun k hk => mv k (Kd.Q_lt h.L2 k hk) (fun e => h.LA k e hk)), fun k hk e => ?_⟩
  rcases hat with hat | ⟨b', hb', hle⟩
  · exact h.LA k (by rw [← hat]; exact hk) e
  · rw [hb'] at hk
    have hk := Option.some.inj hk
    have := Kd.Q_lt h.L2 k e
    omega
theorem FR.grow2 (h : FR w W q fb N qc fc rv ps v1 v2 l1 l2) {v : Value} {l : List Nat} (hv : (kF fb).Q 74 W' w.heap.size (fun _ => True) v l) (hB : Below w.heap.size w W') (hg : W.grownBy W' v2.ownBlock) (hat : v.ownBlock = v2.ownBlock ∨ ∃ b, v.ownBlock = some b ∧ W.heap.size ≤ b) :
    FR w W' q fb N qc fc rv ps v1 v l1 l := by
  have mv : ∀ k, k < W.heap.size → v2.ownBlock ≠ some k → W'.heap[k]? = W.heap[k]? := fun k hk hn => hg.block k hk (fun e => hn e.symm)
  refine ⟨hB, h.gq, h.gf, (mv q (blk_lt h.K) (fun e => (h.list_ne h.L2 e).1 rfl)).trans h.K, h.F.move (mv fb (h.lt (.inr (.inl rfl))) (fun e => (h.list_ne h.L2 e).2.1 rfl)), fun j hj => qmove rfl (h.R j hj) (fun k hk => mv k (Kd.Q_lt (h.R j hj) k hk) (fun e => (h.row_ne hj hk).2.2.2 e)), h.A,
    qmove rfl h.L1 (fun k hk => mv k (Kd.Q_lt h.L1 k hk) (fun e => h.LA k hk e)), hv, fun k hk e => ?_⟩
  rcases hat with hat | ⟨b', hb', hle⟩
  · exact h.LA k hk (by rw [← hat]; exact e)
  · rw [hb'] at e
    have e := Option.some.inj e
    have := Kd.Q_lt h.L1 k hk
    omega
end
theorem cut_own (A : Option Addr) (n c k s : Nat) : (Value.slice (if c = k then A else A.map (·.add (k * s))) (n - k) (c - k)).ownBlock = (Value.slice A n c).ownBlock := by
  split
  · cases A <;> rfl
  · cases A with
    | none => rfl
    | some a => simp [Value.ownBlock]; unfold Addr.add; split <;> rfl
/-- One packet, as a list of its own. -/
theorem litP (W : World) (x : PK) (b : Nat) (hb : b ≤ W.heap.size) : Kd.R kP 41 (W.alloc (.cells #[.int .i64 x.f0, .int .i64 x.f1, .bool x.f2, .int .i64 x.f3] 41)) b (fun k => k = W.heap.size) (.slice (some ⟨W.heap.size, 0, none⟩) 1 1) [x] := by
  refine ⟨fun k hk => ?_, [.int .i64 x.f0, .int .i64 x.f1, .bool x.f2, .int .i64 x.f3], ?_, ?_⟩
  · simp [Value.ownBlock] at hk
    exact hk.symm
  · exact World.ownsRow_lit W #[.int .i64 x.f0, .int .i64 x.f1, .bool x.f2, .int .i64 x.f3] 1 hb (by decide) rfl
  · exact Reps.c4 (show Kd.M kP _ _ _ x [.int .i64 x.f0, .int .i64 x.f1, .bool x.f2, .int .i64 x.f3] from k41_mkM _ _ _ x) (Reps.none _ _)
end Go.Proofs.Ytepolgapbbaklaa.Q
