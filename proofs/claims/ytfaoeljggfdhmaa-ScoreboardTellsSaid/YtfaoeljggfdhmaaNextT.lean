/- scoreboard.Next: the walk. No condition. -/
import Derived.Test.YtfaoeljggfdhmaaPipeT
import Derived.Test.YtfaoeljggfdhmaaQ6
namespace Go.Proofs.Ytfaoeljggfdhmaa.Q
set_option linter.unusedVariables false
set_option linter.unusedSimpArgs false
open Go.RowKit Go.Proofs.YtfaoeljggfdhmaaW.PrintWords Go.Proofs.YtfaoeljggfdhmaaW.PrintLast Go.Proofs.YtfaoeljggfdhmaaW.PrintMore Go.Proofs.YtfaoeljggfdhmaaW.RangeSeq
open Go.Shelf
attribute [local go_sem] Oper.semAt_some
attribute [local go_sem] max2_int min2_int max_two min_two max_three min_three max_four min_four   -- for this text's walks alone
/-- The boxes: of the parameters and of the results. -/
structure NB (w W : World) (a0 a1 a2 : Int) (S : Value) (mss : Int) (resc : Bool) (q0 q1 : Int) (qb : Bool) (qe : Int) : Prop where
  B : Below w.heap.size w W
  x0 : W.cell? ⟨w.heap.size, 0, none⟩ = some (.int .u32 a0)
  x1 : W.cell? ⟨w.heap.size, 1, none⟩ = some (.int .u32 a1)
  x2 : W.cell? ⟨w.heap.size, 2, none⟩ = some (.int .u32 a2)
  x3 : W.cell? ⟨w.heap.size, 3, none⟩ = some S
  y0 : W.cell? ⟨w.heap.size + 1, 0, none⟩ = some (.int .i64 mss)
  y1 : W.cell? ⟨w.heap.size + 1 + 1, 0, none⟩ = some (.bool resc)
  r0 : W.cell? ⟨w.heap.size + 1 + 1 + 1, 0, none⟩ = some (.int .u32 q0)
  r1 : W.cell? ⟨w.heap.size + 1 + 1 + 1, 1, none⟩ = some (.int .u32 q1)
  r2 : W.cell? ⟨w.heap.size + 1 + 1 + 1 + 1, 0, none⟩ = some (.bool qb)
  r3 : W.cell? ⟨w.heap.size + 1 + 1 + 1 + 1 + 1, 0, none⟩ = some (.int .i64 qe)
  u0 : W.frozen? ⟨w.heap.size + 1 + 1 + 1, 0, none⟩ = false
  u1 : W.frozen? ⟨w.heap.size + 1 + 1 + 1, 1, none⟩ = false
  u2 : W.frozen? ⟨w.heap.size + 1 + 1 + 1 + 1, 0, none⟩ = false
  u3 : W.frozen? ⟨w.heap.size + 1 + 1 + 1 + 1 + 1, 0, none⟩ = false
  s : w.heap.size + 6 ≤ W.heap.size
theorem NB.keep {w W W' : World} {a0 a1 a2 : Int} {S : Value} {mss : Int} {resc : Bool} {q0 q1 : Int} {qb : Bool} {qe : Int} (h : NB w W a0 a1 a2 S mss resc q0 q1 qb qe) {b : Nat} (hb : Below b W W') (hw : w.heap.size + 6 ≤ b) : NB w W' a0 a1 a2 S mss resc q0 q1 qb qe := by
  have c : ∀ (p : Addr), p.block < w.heap.size + 6 → W'.cell? p = W.cell? p := fun p hp => hb.cell (p := p) (by omega)
  have f : ∀ (p : Addr), p.block < w.heap.size + 6 → W'.frozen? p = W.frozen? p := fun p hp => hb.frozen (p := p) (by omega)
  exact ⟨h.B.trans (hb.mono (by omega)), (c _ (by show w.heap.size < _; omega)).trans h.x0, (c _ (by show w.heap.size < _; omega)).trans h.x1, (c _ (by show w.heap.size < _; omega)).trans h.x2, (c _ (by show w.heap.size < _; omega)).trans h.x3, (c _ (by show w.heap.size + 1 < _; omega)).trans h.y0, (c _ (by show w.heap.size + 1 + 1 < _; omega)).trans h.y1,
    (c _ (by show w.heap.size + 1 + 1 + 1 < _; omega)).trans h.r0, (c _ (by show w.heap.size + 1 + 1 + 1 < _; omega)).trans h.r1, (c _ (by show w.heap.size + 1 + 1 + 1 + 1 < _; omega)).trans h.r2, (c _ (by show w.heap.size + 1 + 1 + 1 + 1 + 1 < _; omega)).trans h.r3,
    (f _ (by show w.heap.size + 1 + 1 + 1 < _; omega)).trans h.u0, (f _ (by show w.heap.size + 1 + 1 + 1 < _; omega)).trans h.u1, (f _ (by show w.heap.size + 1 + 1 + 1 + 1 < _; omega)).trans h.u2, (f _ (by show w.heap.size + 1 + 1 + 1 + 1 + 1 < _; omega)).trans h.u3, Nat.le_trans h.s hb.size⟩
theorem NB.step {w W W' : World} {a0 a1 a2 : Int} {S : Value} {mss : Int} {resc : Bool} {q0 q1 : Int} {qb : Bool} {qe : Int} (h : NB w W a0 a1 a2 S mss resc q0 q1 qb qe) (hb : Below W.heap.size W W') : NB w W' a0 a1 a2 S mss resc q0 q1 qb qe := h.keep hb h.s
theorem NB.any {w W W' : World} {a0 a1 a2 : Int} {S : Value} {mss : Int} {resc : Bool} {q0 q1 : Int} {qb : Bool} {qe : Int} (h : NB w W a0 a1 a2 S mss resc q0 q1 qb qe) {q : Nat} (hb : Below (W.drewN q).heap.size (W.drewN q) W') : NB w W' a0 a1 a2 S mss resc q0 q1 qb qe := h.step ⟨hb.os, hb.tape, hb.output, hb.size, hb.block⟩
def nbW (w : World) (a0 a1 a2 : Int) (S : Value) (mss : Int) (resc : Bool) (t tb ti te tr : TypeId) : World :=
  (((((w.alloc (.cells #[.int .u32 a0, .int .u32 a1, .int .u32 a2, S] t)).alloc (.cells #[.int .i64 mss] ti)).alloc (.cells #[.bool resc] tb)).alloc (.cells #[.int .u32 0, .int .u32 0] tr)).alloc (.cells #[.bool false] tb)).alloc (.cells #[.int .i64 0] te)
theorem cell_new_i (W : World) (n i : Nat) (hn : W.heap.size = n) (cs : Array Value) (t : TypeId) (v : Value) (h : cs[i]? = some v) : (W.alloc (.cells cs t)).cell? ⟨n, i, none⟩ = some v ∧ (W.alloc (.cells cs t)).frozen? ⟨n, i, none⟩ = false := by
  subst hn
  have hh : (W.alloc (.cells cs t)).heap[W.heap.size]? = some (.cells cs t) := World.alloc_heap_new W _
  constructor
  · unfold World.cell?
    simp only [hh]
    exact h
  · unfold World.frozen?
    simp only [hh]
    simp
theorem cell_old_i (W : World) (o : Obj) (n i : Nat) {v : Value} (h : W.cell? ⟨n, i, none⟩ = some v ∧ W.frozen? ⟨n, i, none⟩ = false) : (W.alloc o).cell? ⟨n, i, none⟩ = some v ∧ (W.alloc o).frozen? ⟨n, i, none⟩ = false := by
  have hb : Below W.heap.size W (W.alloc o) := (Below.refl _ W).alloc (Nat.le_refl _) o
  have hlt := World.block_lt_of_cell? _ _ h.1
  exact ⟨(hb.cell (p := ⟨n, i, none⟩) hlt).trans h.1, (hb.frozen (p := ⟨n, i, none⟩) hlt).trans h.2⟩
theorem NB.new (w : World) (a0 a1 a2 : Int) (S : Value) (mss : Int) (resc : Bool) (t tb ti te tr : TypeId) : NB w (nbW w a0 a1 a2 S mss resc t tb ti te tr) a0 a1 a2 S mss resc 0 0 false 0 := by
  unfold nbW
  have hB : Below w.heap.size w ((((((w.alloc (.cells #[.int .u32 a0, .int .u32 a1, .int .u32 a2, S] t)).alloc (.cells #[.int .i64 mss] ti)).alloc (.cells #[.bool resc] tb)).alloc (.cells #[.int .u32 0, .int .u32 0] tr)).alloc (.cells #[.bool false] tb)).alloc (.cells #[.int .i64 0] te)) :=
    ((((((Below.refl _ w).alloc (Nat.le_refl _) _).alloc (by simp) _).alloc (by simp; omega) _).alloc (by simp; omega) _).alloc (by simp; omega) _).alloc (by simp; omega) _
  obtain ⟨W1, h1⟩ : ∃ W1, w.alloc (.cells #[.int .u32 a0, .int .u32 a1, .int .u32 a2, S] t) = W1 := ⟨_, rfl⟩
  obtain ⟨W2, h2⟩ : ∃ W2, W1.alloc (.cells #[.int .i64 mss] ti) = W2 := ⟨_, rfl⟩
  obtain ⟨W3, h3⟩ : ∃ W3, W2.alloc (.cells #[.bool resc] tb) = W3 := ⟨_, rfl⟩
  obtain ⟨W4, h4⟩ : ∃ W4, W3.alloc (.cells #[.int .u32 0, .int .u32 0] tr) = W4 := ⟨_, rfl⟩
  obtain ⟨W5, h5⟩ : ∃ W5, W4.alloc (.cells #[.bool false] tb) = W5 := ⟨_, rfl⟩
  rw [h1, h2, h3, h4, h5] at hB ⊢
  have s1 : W1.heap.size = w.heap.size + 1 := by rw [← h1]; simp
  have s2 : W2.heap.size = w.heap.size + 1 + 1 := by rw [← h2]; simp [s1]
  have s3 : W3.heap.size = w.heap.size + 1 + 1 + 1 := by rw [← h3]; simp [s2]
  have s4 : W4.heap.size = w.heap.size + 1 + 1 + 1 + 1 := by rw [← h4]; simp [s3]
  have s5 : W5.heap.size = w.heap.size + 1 + 1 + 1 + 1 + 1 := by rw [← h5]; simp [s4]
  have k0 : ∀ i v, (#[Value.int .u32 a0, .int .u32 a1, .int .u32 a2, S])[i]? = some v → (W5.alloc (.cells #[.int .i64 0] te)).cell? ⟨w.heap.size, i, none⟩ = some v := fun i v hv => by
    have := cell_new_i w w.heap.size i rfl _ t v hv
    rw [h1] at this
    have := cell_old_i W1 (.cells #[.int .i64 mss] ti) _ i this
    rw [h2] at this
    have := cell_old_i W2 (.cells #[.bool resc] tb) _ i this
    rw [h3] at this
    have := cell_old_i W3 (.cells #[.int .u32 0, .int .u32 0] tr) _ i this
    rw [h4] at this
    have := cell_old_i W4 (.cells #[.bool false] tb) _ i this
    rw [h5] at this
    exact (cell_old_i W5 _ _ i this).1
  have k1 : (W5.alloc (.cells #[.int .i64 0] te)).cell? ⟨w.heap.size + 1, 0, none⟩ = some (.int .i64 mss) := by
    have := cell_new_i W1 _ 0 s1 #[.int .i64 mss] ti _ rfl
    rw [h2] at this
    have := cell_old_i W2 (.cells #[.bool resc] tb) _ 0 this
    rw [h3] at this
    have := cell_old_i W3 (.cells #[.int .u32 0, .int .u32 0] tr) _ 0 this
    rw [h4] at this
    have := cell_old_i W4 (.cells #[.bool false] tb) _ 0 this
    rw [h5] at this
    exact (cell_old_i W5 _ _ 0 this).1
  have k2 : (W5.alloc (.cells #[.int .i64 0] te)).cell? ⟨w.heap.size + 1 + 1, 0, none⟩ = some (.bool resc) := by
    have := cell_new_i W2 _ 0 s2 #[.bool resc] tb _ rfl
    rw [h3] at this
    have := cell_old_i W3 (.cells #[.int .u32 0, .int .u32 0] tr) _ 0 this
    rw [h4] at this
    have := cell_old_i W4 (.cells #[.bool false] tb) _ 0 this
    rw [h5] at this
    exact (cell_old_i W5 _ _ 0 this).1
  have k3 : ∀ i, i < 2 → (W5.alloc (.cells #[.int .i64 0] te)).cell? ⟨w.heap.size + 1 + 1 + 1, i, none⟩ = some (.int .u32 0) ∧ (W5.alloc (.cells #[.int .i64 0] te)).frozen? ⟨w.heap.size + 1 + 1 + 1, i, none⟩ = false := fun i hi => by
    have := cell_new_i W3 _ i s3 #[.int .u32 0, .int .u32 0] tr (.int .u32 0) (by have : i = 0 ∨ i = 1 := by omega
                                                                                  rcases this with rfl | rfl <;> rfl)
    rw [h4] at this
    have := cell_old_i W4 (.cells #[.bool false] tb) _ i this
    rw [h5] at this
    exact cell_old_i W5 _ _ i this
  have k4 : (W5.alloc (.cells #[.int .i64 0] te)).cell? ⟨w.heap.size + 1 + 1 + 1 + 1, 0, none⟩ = some (.bool false) ∧ (W5.alloc (.cells #[.int .i64 0] te)).frozen? ⟨w.heap.size + 1 + 1 + 1 + 1, 0, none⟩ = false := by
    have := cell_new_i W4 _ 0 s4 #[.bool false] tb _ rfl
    rw [h5] at this
    exact cell_old_i W5 _ _ 0 this
  have k5 := cell_new_i W5 _ 0 s5 #[.int .i64 0] te _ rfl
  exact ⟨hB, k0 0 _ rfl, k0 1 _ rfl, k0 2 _ rfl, k0 3 _ rfl, k1, k2, (k3 0 (by omega)).1, (k3 1 (by omega)).1, k4.1, k5.1, (k3 0 (by omega)).2, (k3 1 (by omega)).2, k4.2, k5.2, by simp [s5]⟩
theorem nset_other (W : World) {b o b' o' : Nat} (v : Value) (h : b ≠ b' ∨ o ≠ o') : (W.setCell ⟨b, o, none⟩ v).cell? ⟨b', o', none⟩ = W.cell? ⟨b', o', none⟩ :=
  World.cell?_setCell_other W _ _ _ (by intro e; injection e with e1 e2; omega)
theorem NB.res {w W : World} {a0 a1 a2 : Int} {S : Value} {mss : Int} {resc : Bool} {q0 q1 : Int} {qb : Bool} {qe : Int} (h : NB w W a0 a1 a2 S mss resc q0 q1 qb qe) (p0 p1 : Int) (pb : Bool) (pe : Int) :
    NB w ((((W.setCell ⟨w.heap.size + 1 + 1 + 1, 0, none⟩ (.int .u32 p0)).setCell ⟨w.heap.size + 1 + 1 + 1, 1, none⟩ (.int .u32 p1)).setCell ⟨w.heap.size + 1 + 1 + 1 + 1, 0, none⟩ (.bool pb)).setCell ⟨w.heap.size + 1 + 1 + 1 + 1 + 1, 0, none⟩ (.int .i64 pe)) a0 a1 a2 S mss resc p0 p1 pb pe ∧
    KeepsOthers W ((((W.setCell ⟨w.heap.size + 1 + 1 + 1, 0, none⟩ (.int .u32 p0)).setCell ⟨w.heap.size + 1 + 1 + 1, 1, none⟩ (.int .u32 p1)).setCell ⟨w.heap.size + 1 + 1 + 1 + 1, 0, none⟩ (.bool pb)).setCell ⟨w.heap.size + 1 + 1 + 1 + 1 + 1, 0, none⟩ (.int .i64 pe)) := by
  obtain ⟨B, x0, x1, x2, x3, y0, y1, r0, r1, r2, r3, u0, u1, u2, u3, s⟩ := h
  have hB := (((B.setCell (p := ⟨w.heap.size + 1 + 1 + 1, 0, none⟩) (by show w.heap.size ≤ _; simp only [Nat.add_assoc]; exact Nat.le_add_right _ _) (.int .u32 p0)).setCell (p := ⟨w.heap.size + 1 + 1 + 1, 1, none⟩) (by show w.heap.size ≤ _; simp only [Nat.add_assoc]; exact Nat.le_add_right _ _) (.int .u32 p1)).setCell (p := ⟨w.heap.size + 1 + 1 + 1 + 1, 0, none⟩) (by show w.heap.size ≤ _; simp only [Nat.add_assoc]; exact Nat.le_add_right _ _) (.bool pb)).setCell (p := ⟨w.heap.size + 1 + 1 + 1 + 1 + 1, 0, none⟩) (by show w.heap.size ≤ _; simp only [Nat.add_assoc]; exact Nat.le_add_right _ _) (.int .i64 pe)
  have far : ∀ b' o', b' < w.heap.size + 1 + 1 + 1 → ((((W.setCell ⟨w.heap.size + 1 + 1 + 1, 0, none⟩ (.int .u32 p0)).setCell ⟨w.heap.size + 1 + 1 + 1, 1, none⟩ (.int .u32 p1)).setCell ⟨w.heap.size + 1 + 1 + 1 + 1, 0, none⟩ (.bool pb)).setCell ⟨w.heap.size + 1 + 1 + 1 + 1 + 1, 0, none⟩ (.int .i64 pe)).cell? ⟨b', o', none⟩ = W.cell? ⟨b', o', none⟩ := fun b' o' hb' => by
    rw [nset_other _ _ (by omega), nset_other _ _ (by omega), nset_other _ _ (by omega), nset_other _ _ (by omega)]
  refine ⟨⟨hB, (far _ _ (by omega)).trans x0, (far _ _ (by omega)).trans x1, (far _ _ (by omega)).trans x2, (far _ _ (by omega)).trans x3, (far _ _ (by omega)).trans y0, (far _ _ (by omega)).trans y1, ?_, ?_, ?_, ?_, ?_, ?_, ?_, ?_, by simpa using s⟩, ?_⟩
  · rw [nset_other _ _ (by omega), nset_other _ _ (by omega), nset_other _ _ (by omega)]
    exact World.cell?_setCell_same _ _ _ r0
  · rw [nset_other _ _ (by omega), nset_other _ _ (by omega)]
    exact World.cell?_setCell_same _ _ _ (u := .int .u32 q1) (by rw [nset_other _ _ (by omega)]; exact r1)
  · rw [nset_other _ _ (by omega)]
    exact World.cell?_setCell_same _ _ _ (u := .bool qb) (by rw [nset_other _ _ (by omega), nset_other _ _ (by omega)]; exact r2)
  · exact World.cell?_setCell_same _ _ _ (u := .int .i64 qe) (by rw [nset_other _ _ (by omega), nset_other _ _ (by omega), nset_other _ _ (by omega)]; exact r3)
  · rw [World.frozen?_setCell, World.frozen?_setCell, World.frozen?_setCell, World.frozen?_setCell]; exact u0
  · rw [World.frozen?_setCell, World.frozen?_setCell, World.frozen?_setCell, World.frozen?_setCell]; exact u1
  · rw [World.frozen?_setCell, World.frozen?_setCell, World.frozen?_setCell, World.frozen?_setCell]; exact u2
  · rw [World.frozen?_setCell, World.frozen?_setCell, World.frozen?_setCell, World.frozen?_setCell]; exact u3
  · exact (((KeepsOthers.setCell _ _ _).trans (KeepsOthers.setCell _ _ _)).trans (KeepsOthers.setCell _ _ _)).trans (KeepsOthers.setCell _ _ _)
/-- What stands within a round. -/
structure NR (w W V2 V : World) (a0 a1 a2 : Int) (S : Value) (mss : Int) (resc : Bool) (b l bn : Nat) (lv f0 f1 : Int) : Prop where
  P : NB w V a0 a1 a2 S mss resc 0 0 false 0
  c : V.cell? ⟨bn, 0, none⟩ = some (.int .i64 lv)
  h0 : V.cell? ⟨W.heap.size, 0, none⟩ = some (.int .i64 f0)
  h1 : V.cell? ⟨W.heap.size, 1, none⟩ = some (.int .i64 f1)
  ko : KeepsOthers V2 V
  kb : KeepB b l W V
theorem NR.step {w W V2 V V' : World} {a0 a1 a2 : Int} {S : Value} {mss : Int} {resc : Bool} {b l bn : Nat} {lv f0 f1 : Int} (h : NR w W V2 V a0 a1 a2 S mss resc b l bn lv f0 f1) (hb : Below V.heap.size V V') : NR w W V2 V' a0 a1 a2 S mss resc b l bn lv f0 f1 :=
  ⟨h.P.step hb, (hb.cell (p := ⟨bn, 0, none⟩) (World.block_lt_of_cell? _ _ h.c)).trans h.c, (hb.cell (p := ⟨W.heap.size, 0, none⟩) (World.block_lt_of_cell? _ _ h.h0)).trans h.h0, (hb.cell (p := ⟨W.heap.size, 1, none⟩) (World.block_lt_of_cell? _ _ h.h1)).trans h.h1,
    h.ko.trans (keepsOthers_below hb), h.kb.trans (keepB_below hb)⟩
theorem NR.drew {w W V2 V : World} {a0 a1 a2 : Int} {S : Value} {mss : Int} {resc : Bool} {b l bn : Nat} {lv f0 f1 : Int} (h : NR w W V2 V a0 a1 a2 S mss resc b l bn lv f0 f1) : NR w W V2 V.drew a0 a1 a2 S mss resc b l bn lv f0 f1 := h.step (Below.refl _ V).drew
theorem NR.any {w W V2 V V' : World} {a0 a1 a2 : Int} {S : Value} {mss : Int} {resc : Bool} {b l bn : Nat} {lv f0 f1 : Int} (h : NR w W V2 V a0 a1 a2 S mss resc b l bn lv f0 f1) {q : Nat} (hb : Below (V.drewN q).heap.size (V.drewN q) V') : NR w W V2 V' a0 a1 a2 S mss resc b l bn lv f0 f1 := h.step ⟨hb.os, hb.tape, hb.output, hb.size, hb.block⟩
theorem lit75 (W : World) (x : S75) : Kd.C k75 (W.alloc (.cells #[.int .i64 x.f0, .int .i64 x.f1] 75)) (some ⟨W.heap.size, 0, none⟩) 1 [x] := by
  refine ⟨rfl, by omega, fun _ => ⟨_, rfl, fun j p hj => ?_⟩⟩
  have hj0 : j = 0 := by
    have := (List.getElem?_eq_some_iff.1 hj).1
    simpa using this
  subst hj0
  obtain rfl : x = p := by simpa using hj
  refine ⟨[.int .i64 x.f0, .int .i64 x.f1], rfl, k75.K_of_M (base := 0) (ok := fun _ => True) (k75_mkM _ _ _ x), fun i u hu => ?_⟩
  have hi : i < 2 := (List.getElem?_eq_some_iff.1 hu).1
  have : i = 0 ∨ i = 1 := by omega
  rcases this with rfl | rfl
  · have := (cell_new_i W _ 0 rfl #[.int .i64 x.f0, .int .i64 x.f1] 75 u (by simpa using hu)).1
    simpa [Addr.add] using this
  · have := (cell_new_i W _ 1 rfl #[.int .i64 x.f0, .int .i64 x.f1] 75 u (by simpa using hu)).1
    simpa [Addr.add] using this
theorem no_undef {p : Prop} (b : Bool) (h : some undef = some (Value.bool b)) : p := by
  unfold undef at h
  injection h with h
  cases h
def nextHit (k : Nat) (a0 a1 a2 : Int) (l3 : List S35) (mss from_ to_ : Int) : Option (Int × Int × Bool × Int) :=
  (scoreboard_State_blocks.f k a0 a1 a2 l3 [⟨from_, mn (wrap64 (from_ + mss)) to_⟩]).bind fun bl => if 0 < bl.length then some ((rd_T35 bl 0).f0, (rd_T35 bl 0).f1, true, 0) else none
def nextGo (k : Nat) (a0 a1 a2 : Int) (l3 : List S35) (mss : Int) (resc : Bool) (last : Int) : List S75 → Option (Int × Int × Bool × Int)
  | [] => some (0, 0, false, 0)
  | h :: r =>
    if mx h.f0 ((a2 - a0) % 4294967296) ≥ h.f1 then nextGo k a0 a1 a2 l3 mss resc last r
    else if mx h.f0 ((a2 - a0) % 4294967296) ≥ last then nextGo k a0 a1 a2 l3 mss resc last r
    else if resc = true then nextHit k a0 a1 a2 l3 mss (mx h.f0 ((a2 - a0) % 4294967296)) h.f1
    else (scoreboard_State_lost.f k a0 a1 a2 l3 mss (mx h.f0 ((a2 - a0) % 4294967296))).bind fun b => if b = true then nextHit k a0 a1 a2 l3 mss (mx h.f0 ((a2 - a0) % 4294967296)) h.f1 else nextGo k a0 a1 a2 l3 mss resc last r
def lastOf (a0 : Int) (l3 : List S35) : Int := ((rd_T35 l3 ((l3.length : Int) - 1)).f0 - a0) % 4294967296
set_option maxRecDepth 100000 in
theorem next_results {w W : World} {a0 a1 a2 : Int} {S : Value} {mss : Int} {resc : Bool} {q0 q1 : Int} {qb : Bool} {qe : Int} (a : Act) (h : NB w W a0 a1 a2 S mss resc q0 q1 qb qe)
    (h6 : a.tmps[6]? = some (.pointer (some ⟨w.heap.size + 1 + 1 + 1, 0, none⟩))) (h7 : a.tmps[7]? = some (.pointer (some ⟨w.heap.size + 1 + 1 + 1 + 1, 0, none⟩))) (h8 : a.tmps[8]? = some (.pointer (some ⟨w.heap.size + 1 + 1 + 1 + 1 + 1, 0, none⟩))) :
    (results Try.f13 a.tmps).run Try.prog W = .ok (.tuple #[.agg #[.int .u32 q0, .int .u32 q1], .bool qb, .int .i64 qe]) W := by
  have hr : Try.f13.results = #[.cell 6 35, .cell 7 4, .cell 8 27] := rfl
  have e0 := h.r0
  have e1 := h.r1
  have e2 := h.r2
  have e3 := h.r3
  simp [results, hr, h6, h7, h8, go_sem, e0, e1, e2, e3, Try.underlying35]
set_option maxHeartbeats 8000000 in
set_option maxRecDepth 100000 in
theorem next_in (n : Nat) (hn : 3 ≤ n) (k : Nat) (a0 a1 a2 : Int) (A3 : Option Addr) (c3 : Nat) (l3 : List S35) (mss : Int) (resc : Bool) (sp : List S75) (q0 q1 : Int) (qb : Bool) (qe : Int) (w : World) (hr : Kd.C k35 w A3 l3.length l3) (hc : l3.length ≤ c3)
    (hask : scoreboard_asked.f k a0 a1 a2 l3 mss = some 0) (hne : 0 < l3.length) (hsp : scoreboard_State_spans.f k a0 a1 a2 l3 l3 = some sp) (hlen : sp.length < 8796093022000)
    (hgo : nextGo k a0 a1 a2 l3 mss resc (lastOf a0 l3) (holesOf 0 (sp ++ [⟨(a1 - a0) % 4294967296, (a1 - a0) % 4294967296⟩])) = some (q0, q1, qb, qe)) :
    CallsIn Fence.wide n Try.prog 13 #[.agg #[.int .u32 a0, .int .u32 a1, .int .u32 a2, .slice A3 l3.length c3], .int .i64 mss, .bool resc] w fun e W' => e = .returned (.tuple #[.agg #[.int .u32 q0, .int .u32 q1], .bool qb, .int .i64 qe]) ∧ Below w.heap.size w W' := by
  have h1 : 1 ≤ n := by omega
  have hu30 := Try.underlying30
  have hu35 := Try.underlying35
  have HR := Aside0.mk hr
  have HA := Aside0.mk hask
  have HG := Aside0.mk hgo
  clear hr hask hgo
  refine callsIn_of_wp_marks Try.func13 rfl trivial ?_ rfl
  simp only [Try.ntmps13, List.size_toArray, List.length_cons, List.length_nil, Nat.reduceAdd, Nat.reduceSub, Array.replicate_succ, Array.replicate_zero, List.push_toArray, List.append_toArray, List.nil_append, List.cons_append]
  obtain ⟨W1, hW1⟩ : ∃ W1, nbW w a0 a1 a2 (.slice A3 l3.length c3) mss resc 30 4 3 27 35 = W1 := ⟨_, rfl⟩
  have hP1 := NB.new w a0 a1 a2 (.slice A3 l3.length c3) mss resc 30 4 3 27 35
  rw [hW1] at hP1
  have HP1 := Aside0.mk hP1
  have hW1' := hW1
  unfold nbW at hW1'
  clear hW1
  have B1 := hP1.B
  have x0 := hP1.x0
  have x1 := hP1.x1
  have x2 := hP1.x2
  have x3 := hP1.x3
  have y0 := hP1.y0
  clear hP1
  have t1 : Fence.wide.fn 32 := trivial
  have hl0 : ((l3.length : Int) == 0) = false := beq_eq_false_iff_ne.mpr (by omega)
  have hl0' : (l3.length == 0) = false := beq_eq_false_iff_ne.mpr (by omega)
  gi_wp2_with (gi_at_call 32; refine (callsIn_wide.2 (scoreboard_asked.calls k a0 a1 a2 A3 c3 l3 mss 0 W1 (Kd.C_below HR.out B1) hc HA.out)).mono ?_; rintro e W2 ⟨rfl, hb2⟩; have HP2 := Aside0.mk (HP1.out.step hb2); clear x0 x1 x2 x3 y0 B1 hb2; have x0 := HP2.out.x0; have x3 := HP2.out.x3)
  have hl3 : l3.length ≤ 9223372036854775807 := HR.out.2.1
  obtain ⟨li, hli⟩ : ∃ li : Int, (l3.length : Int) - 1 = li := ⟨_, rfl⟩
  have hli' : IntKind.i64.wrap ((l3.length : Int) - 1) = li := by rw [IntKind.wrap_i64]; omega
  have hli2 : wrap64 ((l3.length : Int) - 1) = li := by unfold wrap64; omega
  have hli3 : IntKind.i64.wrap li = li := by rw [IntKind.wrap_i64]; omega
  have hi0 : 0 ≤ li := by omega
  have hi1 : li < (l3.length : Int) := by omega
  obtain ⟨ad, ead, c0, _⟩ := at_T35 (Kd.C_below HR.out HP2.out.B) li hi0 hi1
  have hlast : lastOf a0 l3 = ((rd_T35 l3 li).f0 - a0) % 4294967296 := by unfold lastOf; rw [hli]
  have HL := Aside0.mk hlast
  clear hlast
  subst ead
  rw [wpIn_wide]
  go_region_held3 (fun w' => w'.cell? ⟨w.heap.size, 0, none⟩ = some (.int .u32 a0) ∧ w'.cell? ⟨w.heap.size, 3, none⟩ = some (.slice (some ad) l3.length c3) ∧ w'.cell? (ad.add (li.toNat * 2)) = some (.int .u32 (rd_T35 l3 li).f0)) (go_keep) (fail)
  have hlv : IntKind.i64.wrap (IntKind.u32.wrap ((rd_T35 l3 li).f0 - a0)) = lastOf a0 l3 := by rw [HL.out, IntKind.wrap_u32, IntKind.wrap_i64]; omega
  rw [hlv]
  obtain ⟨lv, hlv2⟩ : ∃ lv, lastOf a0 l3 = lv := ⟨_, rfl⟩
  rw [hlv2] at HG ⊢
  obtain ⟨W3, hW3⟩ : ∃ W3, (W2.alloc (.cells #[.int .i64 lv] 3)).drew = W3 := ⟨_, rfl⟩
  obtain ⟨bn, hbn⟩ : ∃ bn, W2.heap.size = bn := ⟨_, rfl⟩
  have z0 : W3.cell? ⟨bn, 0, none⟩ = some (.int .i64 lv) := by rw [← hW3, ← hbn]; simp
  have sz3 : W3.heap.size = bn + 1 := by rw [← hW3, ← hbn]; simp
  have hb3 : Below W2.heap.size W2 W3 := by rw [← hW3]; exact ((Below.refl _ W2).alloc (Nat.le_refl _) _).drew
  have HP3 := Aside0.mk (HP2.out.step hb3)
  have sz2 := HP2.out.s
  rw [hW3, hbn]
  rw [hbn] at sz2
  clear x0 x3 c0 hli hli' hli2 hli3 hi0 hi1 hlv hlv2 HL hb3 hW3 hl0 hl0'
  have x0 := HP3.out.x0
  have x1 := HP3.out.x1
  have x2 := HP3.out.x2
  have x3 := HP3.out.x3
  gi_wp2
  obtain ⟨hs, hhs⟩ : ∃ hs, holesOf 0 (sp ++ [⟨(a1 - a0) % 4294967296, (a1 - a0) % 4294967296⟩]) = hs := ⟨_, rfl⟩
  have hgv := holes_gives (n - 1) (by omega) k a0 a1 a2 (some ad) c3 l3 sp W3 (Kd.C_below HR.out HP3.out.B) hc hsp hlen
  rw [hhs] at HG hgv
  clear hbn x0 x1 x2 x3
  refine wp_rangeSeq rfl h1 (gf := 33) (first := #[.agg #[.int .u32 a0, .int .u32 a1, .int .u32 a2, .slice (some ad) l3.length c3]]) rfl trivial (enters_of Try.func33 (by kernel_rfl) rfl)
    (vs := hs.map encH) (fun v hv => by obtain ⟨x, _, rfl⟩ := List.mem_map.1 hv; rfl) hgv
    (fun i V => nextGo k a0 a1 a2 l3 mss resc lv (hs.drop i) = some (q0, q1, qb, qe) ∧ NB w V a0 a1 a2 (.slice (some ad) l3.length c3) mss resc 0 0 false 0 ∧ V.cell? ⟨bn, 0, none⟩ = some (.int .i64 lv))
    (fun c V => c = .ret ∧ NB w V a0 a1 a2 (.slice (some ad) l3.length c3) mss resc q0 q1 qb qe) ?hI ?hX ⟨HG.out, HP3.out, z0⟩ ?round ?done ?stop
  case hI =>
    rintro i A B ⟨k1, k2, k3⟩ hb
    exact ⟨k1, k2.keep hb (by omega), (hb.cell (p := ⟨bn, 0, none⟩) (by show bn < _; omega)).trans k3⟩
  case hX =>
    rintro c A B ⟨k1, k2⟩ hb
    exact ⟨k1, k2.keep hb (by omega)⟩
  case stop =>
    rintro D c V hD ⟨rfl, k2⟩ hK
    gi_wp2
    refine ⟨by simp, .inl ⟨_, _, rfl, run_takeDeferred hK, ?_⟩⟩
    have k4 := k2.keep (below_putObj V (.deferred none) hD) (by omega)
    exact ⟨_, next_results _ k4 rfl rfl rfl, rfl, k4.B⟩
  case done =>
    rintro D V hD ⟨k1, k2, k3⟩ hK
    have hm : nextGo k a0 a1 a2 l3 mss resc lv ([] : List S75) = some (q0, q1, qb, qe) := by
      rw [List.drop_eq_nil_of_le (by simp)] at k1
      exact k1
    simp only [nextGo] at hm
    cases hm
    have HK2 := Aside0.mk k2
    obtain ⟨B, x0, x1, x2, x3, y0, y1, r0, r1, r2, r3, u0, u1, u2, u3, s⟩ := k2
    clear k1 k3 HG HP3 HP2 HP1 z0
    gi_wp2
    obtain ⟨k5, k6⟩ := HK2.out.res 0 0 false 0
    have hK2 := k6.same D _ hK rfl
    refine ⟨by simp, .inl ⟨_, _, rfl, run_takeDeferred hK2, ?_⟩⟩
    have k4 := k5.keep (below_putObj _ (.deferred none) hD) (by omega)
    exact ⟨_, next_results _ k4 rfl rfl rfl, rfl, k4.B⟩
  case round =>
    rintro l i v V hv ⟨k1, k2, k3⟩ hl hlt
    rw [List.getElem?_map] at hv
    obtain ⟨h, hh, rfl⟩ := Option.map_eq_some_iff.1 hv
    have hil : i < hs.length := (List.getElem?_eq_some_iff.1 hh).1
    have hdr : hs.drop i = h :: hs.drop (i + 1) := by rw [List.drop_eq_getElem_cons hil, (List.getElem?_eq_some_iff.1 hh).2]
    rw [hdr] at k1
    obtain ⟨f0, f1⟩ := h
    simp only [nextGo] at k1
    obtain ⟨hi, hhi⟩ : ∃ hi, (a2 - a0) % 4294967296 = hi := ⟨_, rfl⟩
    obtain ⟨fr, hfr⟩ : ∃ fr, mx f0 hi = fr := ⟨_, rfl⟩
    rw [hhi, hfr] at k1
    have HK := Aside0.mk k1
    have HHI := Aside0.mk hhi
    have HFR : Aside0 ((if f0 < hi then hi else f0) = fr) := Aside0.mk (by rw [← hfr]; unfold mx; rfl)
    have h3 : w.heap.size + 6 ≤ bn := by omega
    have h5 : W3.heap.size ≤ V.heap.size := by omega
    clear hv hh hil hdr k1 hhi hfr
    have HF0 : Aside0 (∀ Z, Turn l (V.alloc (.cells #[.int .i64 f0, .int .i64 f1] 75)) Z → NR w V Z Z a0 a1 a2 (.slice (some ad) l3.length c3) mss resc W3.heap.size l bn lv f0 f1) := Aside0.mk (fun Z hT => by
      have hA : Below V.heap.size V (V.alloc (.cells #[.int .i64 f0, .int .i64 f1] 75)) := (Below.refl _ V).alloc (Nat.le_refl _) _
      have hZ := hT.below hl
      refine ⟨(k2.step hA).keep hZ (by omega), (hZ.cell (p := ⟨bn, 0, none⟩) (by show bn < _; omega)).trans ((hA.cell (p := ⟨bn, 0, none⟩) (by show bn < _; omega)).trans k3), hT.cell (by simp), hT.cell (by simp), KeepsOthers.refl Z, ?_⟩
      exact (keepB_below hA).trans ⟨Nat.le_of_eq hT.size.symm, fun k _ _ hk => hT.other hk⟩)
    clear k2 k3
    simp only [encH]
    gi_wp2
    refine ⟨KeepsOthers.alloc _ _, fun Z hT => ?_⟩
    have HF1 := Aside0.mk (HF0.out Z hT)
    clear HF0 hT
    have x0 := HF1.out.P.x0
    have x1 := HF1.out.P.x1
    have x2 := HF1.out.P.x2
    have x3 := HF1.out.P.x3
    have zh0 := HF1.out.h0
    have zh1 := HF1.out.h1
    gi_wp2
    gi_region_with (refine ⟨trivial, fun h_ => (by cases h_), ?_⟩; refine (CallsIn.inRound l (callsIn_wide.2 (scoreboard_State_high.calls a0 a1 a2 (some ad) c3 l3 hi _ (Kd.C_below HR.out (by first | exact HF1.out.P.B | exact HF1.out.drew.P.B)) hc (by rw [← HHI.out]; rfl)))).mono ?_; rintro e Z4 ⟨rfl, hb4⟩; have n1_ := Aside0.mk (by first | exact HF1.out.step hb4 | exact HF1.out.any hb4); clear HF1 x0 x1 x2 x3 zh0 zh1 hb4; have HF1 := n1_; clear n1_; have x0 := HF1.out.P.x0; have x1 := HF1.out.P.x1; have x2 := HF1.out.P.x2; have x3 := HF1.out.P.x3; have zh0 := HF1.out.h0; have zh1 := HF1.out.h1)
    all_goals
      rw [HFR.out]
      have zc := HF1.out.c
      have y0 := HF1.out.P.y0
      have y1 := HF1.out.P.y1
      by_cases c1 : fr ≥ f1
      · have hk2 := HK.out
        rw [if_pos c1] at hk2
        have HK2 := Aside0.mk hk2
        clear hk2
        gi_wp2
        all_goals first
          | exact no_undef _ (by assumption)
          | (refine ⟨trivial, ?_⟩
             gi_wp2
             exact ⟨HF1.out.ko, HF1.out.kb, HK2.out, HF1.out.P, HF1.out.c⟩)
      have hk2 := HK.out
      rw [if_neg c1] at hk2
      by_cases c2 : fr ≥ lv
      · rw [if_pos c2] at hk2
        have HK2 := Aside0.mk hk2
        clear hk2
        gi_wp2
        all_goals first
          | exact no_undef _ (by assumption)
          | (refine ⟨trivial, ?_⟩
             gi_wp2
             exact ⟨HF1.out.ko, HF1.out.kb, HK2.out, HF1.out.P, HF1.out.c⟩)
      rw [if_neg c2] at hk2
      cases resc
      · rw [if_neg (by decide)] at hk2
        obtain ⟨b, hb, hk2⟩ := Option.bind_eq_some_iff.mp hk2
        have HBB := Aside0.mk hb
        clear hb
        cases b
        · rw [if_neg (by decide)] at hk2
          have HK2 := Aside0.mk hk2
          clear hk2
          gi_wp2_with (refine ⟨trivial, fun h_ => (by cases h_), ?_⟩; refine (CallsIn.inRound l (callsIn_wide.2 (scoreboard_State_lost.calls k a0 a1 a2 (some ad) c3 l3 mss fr false _ (Kd.C_below HR.out HF1.out.P.B) hc HBB.out))).mono ?_; rintro e Z5 ⟨rfl, hb5⟩; have n1_ := Aside0.mk (HF1.out.step hb5); clear HF1 x0 x1 x2 x3 zh0 zh1 zc y0 y1 hb5; have HF1 := n1_; clear n1_)
          exact ⟨HF1.out.ko, HF1.out.kb, HK2.out, HF1.out.P, HF1.out.c⟩
        · rw [if_pos rfl] at hk2
          unfold nextHit at hk2
          obtain ⟨bl, hbl, hk2⟩ := Option.bind_eq_some_iff.mp hk2
          by_cases hbp : 0 < bl.length
          · rw [if_pos hbp] at hk2
            simp only [Option.some.injEq, Prod.mk.injEq] at hk2
            obtain ⟨e0, e1, e2, e3⟩ := hk2
            subst e0 e1 e2 e3
            obtain ⟨to_, hto⟩ : ∃ to_, mn (wrap64 (fr + mss)) f1 = to_ := ⟨_, rfl⟩
            have hto2 : (if f1 < wrap64 (fr + mss) then f1 else wrap64 (fr + mss)) = to_ := by rw [← hto]; unfold mn; rfl
            rw [hto] at hbl
            have HBL := Aside0.mk hbl
            clear hbl hto
            gi_wp2
            refine ⟨trivial, fun h_ => (by cases h_), ?_⟩
            refine (CallsIn.inRound l (callsIn_wide.2 (scoreboard_State_lost.calls k a0 a1 a2 (some ad) c3 l3 mss fr true _ (Kd.C_below HR.out HF1.out.P.B) hc HBB.out))).mono ?_
            rintro e Z5 ⟨rfl, hb5⟩
            have n1_ := Aside0.mk (HF1.out.step hb5)
            clear HF1 x0 x1 x2 x3 zh0 zh1 zc y0 y1 hb5
            have HF1 := n1_
            clear n1_
            have x0 := HF1.out.P.x0
            have x1 := HF1.out.P.x1
            have x2 := HF1.out.P.x2
            have x3 := HF1.out.P.x3
            have zh0 := HF1.out.h0
            have zh1 := HF1.out.h1
            have zc := HF1.out.c
            have y0 := HF1.out.P.y0
            have y1 := HF1.out.P.y1
            gi_wp2
            refine ⟨trivial, fun h_ => (by cases h_), ?_⟩
            refine (CallsIn.inRound l (callsIn_wide.2 (scoreboard_State_blocks.calls k a0 a1 a2 (some ad) c3 l3 (some ⟨_, 0, none⟩) 1 [⟨fr, to_⟩] bl _ (Kd.C_alloc (Kd.C_below HR.out HF1.out.P.B) _) hc (lit75 _ ⟨fr, to_⟩) (by simp) HBL.out))).mono ?_
            rintro e Z6 ⟨v6, rfl, ho6, hb6⟩
            have n1_ := Aside0.mk ((HF1.out.step ((Below.refl _ _).alloc (Nat.le_refl _) _)).step hb6)
            clear HF1 x0 x1 x2 x3 zh0 zh1 zc y0 y1 hb6
            have HF1 := n1_
            clear n1_
            obtain ⟨A6, c6, e6⟩ := Kd.R_slice ho6
            subst e6
            obtain ⟨ad6, e6, d0, d1⟩ := at_T35 (Kd.R_reads' ho6).2.2 0 (by omega) (by omega)
            cases e6
            simp only [Int.toNat_zero, Nat.zero_mul, Addr.add_zero'] at d0 d1
            clear ho6
            have qq : (0 < bl.length) = True := eq_true hbp
            have qi : ((0 : Int) < (bl.length : Int)) = True := eq_true (by omega)
            have r0 := HF1.out.P.r0
            have r1 := HF1.out.P.r1
            have r2 := HF1.out.P.r2
            have r3 := HF1.out.P.r3
            have u0 := HF1.out.P.u0
            have u1 := HF1.out.P.u1
            have u2 := HF1.out.P.u2
            have u3 := HF1.out.P.u3
            gi_wp2
            all_goals
              obtain ⟨k5, k6⟩ := HF1.out.P.res (rd_T35 bl 0).f0 (rd_T35 bl 0).f1 true 0
              exact ⟨HF1.out.ko.trans k6, rfl, k5⟩
          · rw [if_neg hbp] at hk2
            cases hk2
      · rw [if_pos rfl] at hk2
        unfold nextHit at hk2
        obtain ⟨bl, hbl, hk2⟩ := Option.bind_eq_some_iff.mp hk2
        by_cases hbp : 0 < bl.length
        · rw [if_pos hbp] at hk2
          simp only [Option.some.injEq, Prod.mk.injEq] at hk2
          obtain ⟨e0, e1, e2, e3⟩ := hk2
          subst e0 e1 e2 e3
          obtain ⟨to_, hto⟩ : ∃ to_, mn (wrap64 (fr + mss)) f1 = to_ := ⟨_, rfl⟩
          have hto2 : (if f1 < wrap64 (fr + mss) then f1 else wrap64 (fr + mss)) = to_ := by rw [← hto]; unfold mn; rfl
          rw [hto] at hbl
          have HBL := Aside0.mk hbl
          clear hbl hto
          gi_wp2
          refine ⟨trivial, ?_⟩
          gi_wp2
          refine ⟨trivial, fun h_ => (by cases h_), ?_⟩
          refine (CallsIn.inRound l (callsIn_wide.2 (scoreboard_State_blocks.calls k a0 a1 a2 (some ad) c3 l3 (some ⟨_, 0, none⟩) 1 [⟨fr, to_⟩] bl _ (Kd.C_alloc (Kd.C_below HR.out HF1.out.P.B) _) hc (lit75 _ ⟨fr, to_⟩) (by simp) HBL.out))).mono ?_
          rintro e Z6 ⟨v6, rfl, ho6, hb6⟩
          have n1_ := Aside0.mk ((HF1.out.step ((Below.refl _ _).alloc (Nat.le_refl _) _)).step hb6)
          clear HF1 x0 x1 x2 x3 zh0 zh1 zc y0 y1 hb6
          have HF1 := n1_
          clear n1_
          obtain ⟨A6, c6, e6⟩ := Kd.R_slice ho6
          subst e6
          obtain ⟨ad6, e6, d0, d1⟩ := at_T35 (Kd.R_reads' ho6).2.2 0 (by omega) (by omega)
          cases e6
          simp only [Int.toNat_zero, Nat.zero_mul, Addr.add_zero'] at d0 d1
          clear ho6
          have qq : (0 < bl.length) = True := eq_true hbp
          have qi : ((0 : Int) < (bl.length : Int)) = True := eq_true (by omega)
          have r0 := HF1.out.P.r0
          have r1 := HF1.out.P.r1
          have r2 := HF1.out.P.r2
          have r3 := HF1.out.P.r3
          have u0 := HF1.out.P.u0
          have u1 := HF1.out.P.u1
          have u2 := HF1.out.P.u2
          have u3 := HF1.out.P.u3
          gi_wp2
          all_goals
            obtain ⟨k5, k6⟩ := HF1.out.P.res (rd_T35 bl 0).f0 (rd_T35 bl 0).f1 true 0
            exact ⟨HF1.out.ko.trans k6, rfl, k5⟩
        · rw [if_neg hbp] at hk2
          cases hk2
end Go.Proofs.Ytfaoeljggfdhmaa.Q
