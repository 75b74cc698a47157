/- Short words for steps that the printed texts take again and again. No condition. -/
import Derived.Test.YtghfljmoaalinaaWWords
import Derived.Test.YtghfljmoaalinaaWFoot
import Derived.Test.YtghfljmoaalinaaWKept
import Derived.Test.YtghfljmoaalinaaWShare
import Derived.Test.YtghfljmoaalinaaWMore
import Derived.Test.YtghfljmoaalinaaWApart
namespace Go.Proofs.YtghfljmoaalinaaW.PrintWords
open Go.RowKit
theorem bq {p q : Prop} (h : p) (k : p → q := by (intro h_; (with_reducible repeat (first | refine blk_drewN ?_ _ | refine blk_drew ?_ | refine blk_alloc ?_ _)); exact h_)) : q := k h
theorem kq {p q : Prop} (h : p) (k : p → q := by (intro h_; (with_reducible repeat (first | apply Kd.R_alloc | apply Kd.R_drewN | apply Kd.R_drew)); exact h_)) : q := k h
theorem cq {p q : Prop} (h : p) (k : p → q := by (intro h_; repeat (first | exact h_ | (with_reducible refine Kd.C_alloc ?_ _) | (with_reducible refine Kd.C_drewN ?_ _) | (with_reducible refine Kd.C_drew ?_)))) : q := k h
theorem bb {p q : Prop} (h : p) (k : p → q := by (intro h_; repeat (first | (with_reducible first | exact h_ | apply below_alloc | apply pw_below_drewN | apply below_drew1) | exact h_))) : q := k h
theorem bb1 {p q r : Prop} (h : p) (g : r) (k : p → r → q := by (intro h_ g_; repeat (first | (with_reducible first | exact h_ | apply below_alloc | apply pw_below_drewN | apply below_drew1 | refine below_set ?_ g_) | exact h_))) : q := k h g
theorem bb2 {p q r s : Prop} (h : p) (g : r) (g' : s) (k : p → r → s → q := by (intro h_ g_ g2_; repeat (first | (with_reducible first | exact h_ | apply below_alloc | apply pw_below_drewN | apply below_drew1 | refine below_set ?_ g_ | refine below_set ?_ g2_) | exact h_))) : q := k h g g'
theorem bb3 {p q r s t : Prop} (h : p) (g : r) (g' : s) (g'' : t) (k : p → r → s → t → q := by (intro h_ g_ g2_ g3_; repeat (first | (with_reducible first | exact h_ | apply below_alloc | apply pw_below_drewN | apply below_drew1 | refine below_set ?_ g_ | refine below_set ?_ g2_ | refine below_set ?_ g3_) | exact h_))) : q := k h g g' g''
theorem bbk {W W1 W2 : World} {g : Nat} {o : Obj} (h : W.heap[g]? = some o) (hb : Below W1.heap.size W1 W2) (k : W.heap[g]? = some o → W1.heap[g]? = some o := by (intro h_; (with_reducible repeat (first | refine blk_drewN ?_ _ | refine blk_drew ?_ | refine blk_alloc ?_ _)); exact h_)) : W2.heap[g]? = some o := blk_below (k h) hb
theorem bnl {W W1 : World} {g n : Nat} {o : Obj} (h : W.heap[g]? = some o) (e : n = W1.heap.size) (k : W.heap[g]? = some o → W1.heap[g]? = some o := by (intro h_; (with_reducible repeat (first | refine blk_drewN ?_ _ | refine blk_drew ?_ | refine blk_alloc ?_ _)); exact h_)) : g ≠ n := e ▸ Nat.ne_of_lt (blk_lt (k h))
theorem bng {W W1 : World} {g n : Nat} {o : Obj} (h : W.heap[g]? = some o) (e : n = W1.heap.size) (k : W.heap[g]? = some o → W1.heap[g]? = some o := by (intro h_; (with_reducible repeat (first | refine blk_drewN ?_ _ | refine blk_drew ?_ | refine blk_alloc ?_ _)); exact h_)) : n ≠ g := e ▸ Nat.ne_of_gt (blk_lt (k h))
end Go.Proofs.YtghfljmoaalinaaW.PrintWords
