/- Short words for steps that the printed texts take again and again. No condition. -/
import Derived.Test.YtfaoeljggfdhmaaWWords
import Derived.Test.YtfaoeljggfdhmaaWFoot
import Derived.Test.YtfaoeljggfdhmaaWKept
import Derived.Test.YtfaoeljggfdhmaaWShare
import Derived.Test.YtfaoeljggfdhmaaWMore
import Derived.Test.YtfaoeljggfdhmaaWApart
namespace Go.Proofs.YtfaoeljggfdhmaaW.PrintWords
open Go.RowKit
theorem bq {p q : Prop} (h : p) (k : p → q := by (intro h_; (with_reducible repeat (first | refine blk_drewN ?_ _ | refine blk_drew ?_ | refine blk_alloc ?_ _)); exact h_)) : q := k h
theorem kq {p q : Prop} (h : p) (k : p → q := by (intro h_; (with_reducible repeat (first | apply Kd.R_alloc | apply Kd.R_drewN | apply Kd.R_drew)); exact h_)) : q := k h
theorem cq {p q : Prop} (h : p) (k : p → q := by (intro h_; repeat (first | exact h_ | (with_reducible refine Kd.C_alloc ?_ _) | (with_reducible refine Kd.C_drewN ?_ _) | (with_reducible refine Kd.C_drew ?_)))) : q := k h
theorem bb {p q : Prop} (h : p) (k : p → q := by (intro h_; repeat (first | (with_reducible first | exact h_ | apply below_alloc | apply pw_below_drewN | apply below_drew1) | exact h_))) : q := k h
theorem bb1 {p q r : Prop} (h : p) (g : r) (k : p → r → q := by (intro h_ g_; repeat (first | (with_reducible first | exact h_ | apply below_alloc | apply pw_below_drewN | apply below_drew1 | refine below_set ?_ g_) | exact h_))) : q := k h g
theorem bb2 {p q r s : Prop} (h : p) (g : r) (g' : s) (k : p → r → s → q := by (intro h_ g_ g2_; repeat (first | (with_reducible first | exact h_ | apply below_alloc | apply pw_below_drewN | apply below_drew1 | refine below_set ?_ g_ | refine below_set ?_ g2_) | exact h_))) : q := k h g g'
theorem bb3 {p q r s t : Prop} (h : p) (g : r) (g' : s) (g'' : t) (k : p → r → s → t → q := by (intro h_ g_ g2_ g3_; repeat (first | (with_reducible first | exact h_ | apply below_alloc | apply pw_below_drewN | apply below_drew1 | refine below_set ?_ g_ | refine below_set ?_ g2_ | refine below_set ?_ g3_) | exact h_))) : q := k h g g' g''
theorem bbk {W W1 W2 : World} {g : Nat} {o : Obj} (h : W.heap[g]? = some o) (hb : Below W1.heap.size W1 W2) (k : W.heap[g]? = some o → W1.heap[g]? = some o := by (intro h_; (with_reducible repeat (first | refine blk_drewN ?_ _ | refine blk_drew ?_ | refine blk_alloc ?_ _)); exact h_)) : W2.heap[g]? = some o := blk_below (k h) hb
theorem bnl {W W1 : World} {g n : Nat} {o : Obj} (h : W.heap[g]? = some o) (e : n = W1.heap.size) (k : W.heap[g]? = some o → W1.heap[g]? = some o := by (intro h_; (with_reducible repeat (first | refine blk_drewN ?_ _ | refine blk_drew ?_ | refine blk_alloc ?_ _)); exact h_)) : g ≠ n := e ▸ Nat.ne_of_lt (blk_lt (k h))
theorem bng {W W1 : World} {g n : Nat} {o : Obj} (h : W.heap[g]? = some o) (e : n = W1.heap.size) (k : W.heap[g]? = some o → W1.heap[g]? = some o := by (intro h_; (with_reducible repeat (first | refine blk_drewN ?_ _ | refine blk_drew ?_ | refine blk_alloc ?_ _)); exact h_)) : n ≠ g := e ▸ Nat.ne_of_gt (blk_lt (k h))
theorem cz4 {W : World} {g : Nat} {v0 v1 v2 v3 : Value} {t : TypeId} (h : W.heap[g]? = some (.cells #[v0, v1, v2, v3] t (0, 0))) : W.cell? ⟨g, 0, none⟩ = some v0 ∧ W.cell? ⟨g, 1, none⟩ = some v1 ∧ W.cell? ⟨g, 2, none⟩ = some v2 ∧ W.cell? ⟨g, 3, none⟩ = some v3 ∧ W.frozen? ⟨g, 0, none⟩ = false ∧ W.frozen? ⟨g, 1, none⟩ = false ∧ W.frozen? ⟨g, 2, none⟩ = false ∧ W.frozen? ⟨g, 3, none⟩ = false :=
  ⟨(blk_cell h 0).trans rfl, (blk_cell h 1).trans rfl, (blk_cell h 2).trans rfl, (blk_cell h 3).trans rfl, blk_frozen h 0, blk_frozen h 1, blk_frozen h 2, blk_frozen h 3⟩
end Go.Proofs.YtfaoeljggfdhmaaW.PrintWords
