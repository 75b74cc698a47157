-- written for this claim out of the program's translation by a program (wip/pr.sh); Lean checks it
import Derived.Test.YtghfljmoaalinaaQ0
import Derived.Test.YtghfljmoaalinaaQ1
import Derived.Lib.Hide
import Derived.LoopIn
import Derived.LoopNIn
import Derived.OwnWalkIn
import Derived.RangeFuncBound
import Derived.RangeFuncCalls
import Derived.RangeFuncFrom
import Derived.RangeFuncLeaves
import Derived.RangeFuncNested
import Derived.Shelf.Abstract
import Derived.Shelf.RegionOpen
import Derived.TacticsInMore
import Derived.Test.YtghfljmoaalinaaArith
namespace Go.Proofs.Ytghfljmoaalinaa.Q
open Go.RowKit Go.Proofs.YtghfljmoaalinaaW.PrintWords Go.Proofs.YtghfljmoaalinaaW.PrintLast Go.Proofs.YtghfljmoaalinaaW.PrintMore
attribute [local go_sem] max2_int min2_int max_two min_two max_three min_three max_four min_four   -- for this text's walks alone
set_option linter.unusedVariables false
set_option linter.unusedSimpArgs false

/-! ### checksum_Sum: function 25 -/
-- GIVENPART
-- IMPORT Derived.Lib.Hide
-- IMPORT Derived.LoopIn
-- IMPORT Derived.LoopNIn
-- IMPORT Derived.OwnWalkIn
-- IMPORT Derived.RangeFuncBound
-- IMPORT Derived.RangeFuncCalls
-- IMPORT Derived.RangeFuncFrom
-- IMPORT Derived.RangeFuncLeaves
-- IMPORT Derived.RangeFuncNested
-- IMPORT Derived.Shelf.Abstract
-- IMPORT Derived.Shelf.RegionOpen
-- IMPORT Derived.TacticsInMore
-- IMPORT Derived.Test.YtghfljmoaalinaaArith
open Go.Shelf
open Go.Proofs.YtghfljmoaalinaaW
attribute [local go_sem] Oper.semAt_some
/-- The chunk that begins at place i: at most m cells, as many as there are. -/
def chunkVal (ad : Addr) (n m i : Nat) : Value := .slice (some (ad.add i)) (min m (n - i)) (min m (n - i))
def startsTo (m k : Nat) : List Nat := (List.range k).map (· * m)
theorem startsTo_succ (m k : Nat) : startsTo m (k + 1) = startsTo m k ++ [k * m] := by simp [startsTo, List.range_succ]
theorem startsTo_length (m k : Nat) : (startsTo m k).length = k := by simp [startsTo]

set_option maxHeartbeats 2000000 in
/-- slices.Chunk(s, m): both are boxed; the function value captures the boxes. -/
theorem chunk_in (F : Fence) (n : Nat) (h : F.fn 26) (hro : F.round = none) (A : Option Addr) (len cap : Nat) (m : Int) (hm : 1 ≤ m) (w : World) :
    CallsIn F n Try.prog 26 #[.slice A len cap, .int .i64 m] w fun e w' => e = .returned (.func (.func 28) #[] #[.pointer (some ⟨w.heap.size, 0, none⟩), .pointer (some ⟨w.heap.size + 1, 0, none⟩)]) ∧
      w' = (w.alloc (.cells #[.slice A len cap] 24)).alloc (.cells #[.int .i64 m] 3) := by
  have hm' : ¬ m < 1 := by omega
  refine callsIn_of_wp Try.func26 rfl h ?_ hro
  simp only [Try.ntmps26, List.size_toArray, List.length_cons, List.length_nil, Nat.reduceAdd, Nat.reduceSub, Array.replicate_succ, Array.replicate_zero, List.push_toArray, List.append_toArray, List.nil_append, List.cons_append]
  gi_wp2
  go_ret
  exact ⟨rfl, rfl⟩

/-- What the iterator reads between two rounds: its two boxes. -/
def KeepsTwo (Bs Bm : Nat) (W W' : World) : Prop := W'.heap[Bs]? = W.heap[Bs]? ∧ W'.heap[Bm]? = W.heap[Bm]?
theorem KeepsTwo.trans {Bs Bm : Nat} {A B C : World} (h : KeepsTwo Bs Bm A B) (k : KeepsTwo Bs Bm B C) : KeepsTwo Bs Bm A C := ⟨k.1.trans h.1, k.2.trans h.2⟩
theorem KeepsTwo.putObj {Bs Bm : Nat} (W : World) (l : Nat) (o' : Obj) (h1 : Bs ≠ l) (h2 : Bm ≠ l) : KeepsTwo Bs Bm W (W.putObj l o') := ⟨World.putObj_heap_other h1, World.putObj_heap_other h2⟩

set_option maxRecDepth 100000 in
set_option maxHeartbeats 4000000 in
theorem chunk1_in (F : Fence) (n : Nat) (h7 : F.fn 28) (hro : F.round = none) (hn : 1 ≤ n) (l Bs Bm : Nat) (ad : Addr) (len cap m : Nat) (hm : 1 ≤ m) (hm8 : m ≤ 8) (hlc : len ≤ cap) (hreach : len ≤ 140737488355328) (J Jx : List Nat → World → Prop) (hJd : ∀ s A, J s A → J s A.drew)
    (hY : ∀ pre x W, J pre W → pre.length * m < len → x < len → YieldAt F (n - 1) Try.prog l #[chunkVal ad len m x] W fun e W' =>
      (e = .returned (.bool true) ∧ J (pre ++ [x]) W' ∧ KeepsTwo Bs Bm W W') ∨ (e = .returned (.bool false) ∧ Jx (pre ++ [x]) W'))
    (W : World) (hBs : W.cell? ⟨Bs, 0, none⟩ = some (.slice (some ad) len cap)) (hBm : W.cell? ⟨Bm, 0, none⟩ = some (.int .i64 (m : Int))) (h0 : J [] W) :
    CallsIn F n Try.prog 28 #[.func (.yield l) #[] #[], .pointer (some ⟨Bs, 0, none⟩), .pointer (some ⟨Bm, 0, none⟩)] W fun e W' => (∃ v, e = .returned v) ∧
      ((∃ k, len ≤ k * m ∧ k * m < len + m ∧ J (startsTo m k) W') ∨ (∃ k, Jx (startsTo m k) W')) := by
  refine callsIn_of_wp Try.func28 rfl h7 ?_ hro
  simp only [Try.ntmps28, List.size_toArray, List.length_cons, List.length_nil, Nat.reduceAdd, Nat.reduceSub, Array.replicate_succ, Array.replicate_zero, List.push_toArray, List.append_toArray, List.nil_append, List.cons_append]
  gi_wp2
  gi_loopw [4] (fun i wr => ∃ k : Nat, k * m < len + m ∧ i = .int .i64 ((k * m : Nat) : Int) ∧ J (startsTo m k) wr ∧ KeepsTwo Bs Bm W wr)
    (fun i _ => len + m - (intOf i).toNat)
  case atStart => exact ⟨0, by omega, by simp, h0, rfl, rfl⟩
  case round =>
    obtain ⟨k, hk, rfl, hJs, hnx⟩ := hrel
    have hcs := (World.cell?_of_block (a := ⟨Bs, 0, none⟩) hnx.1).trans hBs
    have hcm := (World.cell?_of_block (a := ⟨Bm, 0, none⟩) hnx.2).trans hBm
    generalize hi : k * m = i at *
    by_cases hlt : i < len
    · have hi' := Lib.hid hi
      clear hi
      have h1 : (0 : Int) ≤ (i : Int) := by omega
      have h2 : (i : Int) ≤ (len : Int) := by omega
      have hJ' := hJd _ _ hJs
      obtain ⟨fn, tmps, assign, body, hy, hR⟩ := hY _ i wr.drew hJ' (by rw [startsTo_length, hi'.out]; exact hlt) hlt
      have hnd : KeepsTwo Bs Bm W wr.drew := hnx
      by_cases hmin : m ≤ len - i
      · have h3 : (m : Int) ≤ (len : Int) - (i : Int) := by omega
        simp only [chunkVal, Nat.min_eq_left hmin] at hy
        gi_wp2
        gi_region
        all_goals
          gi_wp2
          refine hR.mono ?_
          rintro e W3 (⟨rfl, hJ3, hk3⟩ | ⟨rfl, hJx3⟩)
          · have hcm3 := (World.cell?_of_block (a := ⟨Bm, 0, none⟩) hk3.2).trans hcm
            gi_wp2
            go_roundw
            case rel => exact ⟨k + 1, by rw [Nat.succ_mul, hi'.out]; omega, by rw [Nat.succ_mul, hi'.out]; simp, by rw [startsTo_succ, hi'.out]; exact hJ3, hnd.trans hk3⟩
            case measure => simp [intOf]; omega
          · gi_wp2
            refine bodyPost_ret (results_none rfl _ _ _) rfl ?_
            exact ⟨⟨_, rfl⟩, .inr ⟨k + 1, by rw [startsTo_succ, hi'.out]; exact hJx3⟩⟩
      · have h3 : (len : Int) - (i : Int) < (m : Int) := by omega
        simp only [chunkVal, Nat.min_eq_right (Nat.le_of_lt (Nat.lt_of_not_le hmin))] at hy
        gi_wp2
        gi_region
        all_goals
          gi_wp2
          refine hR.mono ?_
          rintro e W3 (⟨rfl, hJ3, hk3⟩ | ⟨rfl, hJx3⟩)
          · have hcm3 := (World.cell?_of_block (a := ⟨Bm, 0, none⟩) hk3.2).trans hcm
            gi_wp2
            go_roundw
            case rel => exact ⟨k + 1, by rw [Nat.succ_mul, hi'.out]; omega, by rw [Nat.succ_mul, hi'.out]; simp, by rw [startsTo_succ, hi'.out]; exact hJ3, hnd.trans hk3⟩
            case measure => simp [intOf]; omega
          · gi_wp2
            refine bodyPost_ret (results_none rfl _ _ _) rfl ?_
            exact ⟨⟨_, rfl⟩, .inr ⟨k + 1, by rw [startsTo_succ, hi'.out]; exact hJx3⟩⟩
    · have h2 : ¬ (i : Int) < (len : Int) := by omega
      have hi' := Lib.hid hi
      clear hi
      gi_wp2
      go_end0
      exact ⟨⟨_, rfl⟩, .inl ⟨k, by rw [hi'.out]; omega, by rw [hi'.out]; exact hk, hJs⟩⟩

theorem cell_new_l (W : World) (v : Value) (t : TypeId) : (W.alloc (.cells #[v] t)).cell? ⟨W.heap.size, 0, none⟩ = some v ∧ (W.alloc (.cells #[v] t)).frozen? ⟨W.heap.size, 0, none⟩ = false := by constructor <;> simp
theorem cell_alloc_l {W : World} {a : Addr} {v : Value} (o : Obj) (h : W.cell? a = some v) : (W.alloc o).cell? a = some v := cell_kept h (World.grownBy_alloc W o none) (fun r e => by cases e)
theorem frozen_alloc_l {W : World} {a : Addr} {v : Value} (o : Obj) (h : W.cell? a = some v) (hf : W.frozen? a = false) : (W.alloc o).frozen? a = false := (frozen_kept h (World.grownBy_alloc W o none) (fun r e => by cases e)).trans hf
/-- The places at which a chunk may begin. -/
abbrev Plc (len : Nat) := { i : Nat // i < len }
theorem chunk_stops (F : Fence) (n : Nat) (h7 : F.fn 28) (hro : F.round = none) (hn : 1 ≤ n) (Bs Bm : Nat) (ad : Addr) (len cap m : Nat) (hm : 1 ≤ m) (hm8 : m ≤ 8) (hlc : len ≤ cap) (hreach : len ≤ 140737488355328)
    (w : World) (hBs0 : Bs < w.heap.size) (hBm0 : Bm < w.heap.size) (hBs : w.cell? ⟨Bs, 0, none⟩ = some (.slice (some ad) len cap)) (hBm : w.cell? ⟨Bm, 0, none⟩ = some (.int .i64 (m : Int))) :
    SeqStopsK F n Try.prog 28 #[.pointer (some ⟨Bs, 0, none⟩), .pointer (some ⟨Bm, 0, none⟩)] (fun x : Plc len => #[chunkVal ad len m x.1]) (KeepsTwo Bs Bm)
      (fun xs => ∃ k, len ≤ k * m ∧ k * m < len + m ∧ xs.map (·.1) = startsTo m k) (fun _ => True) len w := fun l J Jx W hW hJ hJx hY h0 => by
  have hs := (hW.cell (p := ⟨Bs, 0, none⟩) hBs0).trans hBs
  have hb := (hW.cell (p := ⟨Bm, 0, none⟩) hBm0).trans hBm
  refine (chunk1_in F n h7 hro hn l Bs Bm ad len cap m hm hm8 hlc hreach (fun s A => ∃ xs : List (Plc len), xs.map (·.1) = s ∧ J xs A) (fun s A => ∃ xs : List (Plc len), xs.map (·.1) = s ∧ Jx xs A) ?_ ?_ W hs hb ⟨[], rfl, h0⟩).mono ?_
  · rintro s A ⟨xs, he, hj⟩
    exact ⟨xs, he, hJ xs A A.drew none hj ⟨rfl, rfl, rfl, Nat.le_refl _, fun _ _ _ => rfl⟩ (fun r e => by cases e)⟩
  · rintro pre x A ⟨xs, he, hj⟩ hlt hx
    have hlen : xs.length < len := by
      have : xs.length = pre.length := by rw [← he, List.length_map]
      rw [this]
      exact Nat.lt_of_le_of_lt (Nat.le_mul_of_pos_right _ hm) hlt
    obtain ⟨fn, tmps, assign, body, hy, hR⟩ := hY xs ⟨x, hx⟩ A hj hlen
    refine ⟨fn, tmps, assign, body, hy, hR.mono ?_⟩
    rintro e W' (⟨h1, h2, h3⟩ | ⟨h1, h2⟩)
    · exact .inl ⟨h1, ⟨_, by rw [List.map_append, he]; rfl, h2⟩, h3⟩
    · exact .inr ⟨h1, ⟨_, by rw [List.map_append, he]; rfl, h2⟩⟩
  · rintro e W' ⟨he, ⟨k, h1, h2, xs, hx, hj⟩ | ⟨k, xs, hx, hj⟩⟩
    · exact ⟨he, .inl ⟨xs, ⟨k, h1, h2, hx⟩, hj⟩⟩
    · exact ⟨he, .inr ⟨xs, trivial, hj⟩⟩

/-- The sum of the words of some octets, an odd one behind them with a 0. -/
def wsum : List Int → Int
  | [] => 0
  | [a] => a * 256
  | a :: b :: r => a * 256 + b + wsum r
def okBytes (l : List Int) : Bool := l.all (fun x => decide (0 ≤ x ∧ x ≤ 255))
def cval (l : List Int) (i : Nat) : Int := l.getD i 0 * 256 + (if i + 1 < l.length then l.getD (i + 1) 0 else 0)
def csum (l : List Int) : List Nat → Int
  | [] => 0
  | i :: r => cval l i + csum l r
theorem csum_snoc (l : List Int) (xs : List Nat) (i : Nat) : csum l (xs ++ [i]) = csum l xs + cval l i := by
  induction xs with
  | nil => simp [csum]
  | cons a r ih => simp only [List.cons_append, csum, ih]; omega
theorem okBytes_at {l : List Int} (h : okBytes l = true) (i : Nat) : 0 ≤ l.getD i 0 ∧ l.getD i 0 ≤ 255 := by
  rw [List.getD_eq_getElem?_getD]
  rcases Nat.lt_or_ge i l.length with hi | hi
  · rw [List.getElem?_eq_getElem hi]
    have := List.all_eq_true.1 h _ (List.getElem_mem hi)
    simpa using this
  · rw [List.getElem?_eq_none hi]
    simp
theorem cval_range {l : List Int} (h : okBytes l = true) (i : Nat) : 0 ≤ cval l i ∧ cval l i ≤ 65535 := by
  have a := okBytes_at h i
  have b := okBytes_at h (i + 1)
  unfold cval
  split <;> omega
theorem csum_range {l : List Int} (h : okBytes l = true) (xs : List Nat) : 0 ≤ csum l xs ∧ csum l xs ≤ xs.length * 65535 := by
  induction xs with
  | nil => simp [csum]
  | cons a r ih =>
    have := cval_range h a
    simp only [csum, List.length_cons]
    omega
theorem csum_drop (a b : Int) (r : List Int) (xs : List Nat) : csum (a :: b :: r) (xs.map (· + 2)) = csum r xs := by
  induction xs with
  | nil => rfl
  | cons i s ih =>
    simp only [List.map_cons, csum, ih]
    congr 1
    unfold cval
    have e : (i + 2 + 1 < (a :: b :: r).length) = (i + 1 < r.length) := by simp only [List.length_cons, eq_iff_iff]; omega
    simp only [e]
    rfl
theorem starts_succ' (k : Nat) : startsTo 2 (k + 1) = 0 :: (startsTo 2 k).map (· + 2) := by
  unfold startsTo
  rw [List.range_succ_eq_map, List.map_cons, List.map_map, List.map_map]
  congr 1
  apply List.map_congr_left
  intro a _
  simp
  omega
theorem wsum_starts : ∀ (l : List Int) (k : Nat), l.length ≤ k * 2 → k * 2 < l.length + 2 → csum l (startsTo 2 k) = wsum l
  | [], k, _, h => by
    have : k = 0 := by simp at h; omega
    subst this
    rfl
  | [a], k, h, h' => by
    have : k = 1 := by simp at h h'; omega
    subst this
    simp [startsTo, csum, cval, wsum, List.range_succ]
  | a :: b :: r, k, h, h' => by
    simp only [List.length_cons] at h h'
    obtain ⟨k, rfl⟩ : ∃ m, k = m + 1 := ⟨k - 1, by omega⟩
    rw [starts_succ']
    simp only [csum, csum_drop, wsum]
    rw [wsum_starts r k (by omega) (by omega)]
    simp [cval]

/-- A round's store into the box at B, what it keeps. -/
theorem box_end {w W W1 : World} {B : Nat} {v0 : Value} (v : Value) (k1 : W1.cell? ⟨B, 0, none⟩ = some v0) (k2 : W1.frozen? ⟨B, 0, none⟩ = false) (k5 : KeepsOthers W W1) (k6 : KeepsTwo (B + 1) (B + 1 + 1) W W1) (k7 : Below B w W1) :
    KeepsOthers W (W1.setCell ⟨B, 0, none⟩ v).drew ∧ KeepsTwo (B + 1) (B + 1 + 1) W (W1.setCell ⟨B, 0, none⟩ v).drew ∧ ((W1.setCell ⟨B, 0, none⟩ v).drew.cell? ⟨B, 0, none⟩ = some v ∧ (W1.setCell ⟨B, 0, none⟩ v).drew.frozen? ⟨B, 0, none⟩ = false) ∧ Below B w (W1.setCell ⟨B, 0, none⟩ v).drew :=
  ⟨k5.trans ((KeepsOthers.setCell _ _ _).trans (KeepsOthers.drew _)), k6.trans ⟨Below.heap_setCell W1 ⟨B, 0, none⟩ _ _ (by simp), Below.heap_setCell W1 ⟨B, 0, none⟩ _ _ (by simp; omega)⟩,
    ⟨World.cell?_setCell_same' _ _ _ (by rw [k1]; rfl), (World.frozen?_setCell ..).trans k2⟩, (k7.setCell (p := ⟨B, 0, none⟩) (Nat.le_refl _) _).drew⟩

def checksum_Sum.f (k : Nat) (l0 : List Int) : Option Int := if okBytes l0 = true then (if l0.length ≤ 140737488355327 then checksum_fold.f k (wsum l0) else none) else none

set_option maxRecDepth 100000 in
set_option maxHeartbeats 4000000 in
theorem sum_in (n : Nat) (hn : 3 ≤ n) (ad : Addr) (c : Nat) (l : List Int) (hok : okBytes l = true) (hl : l.length ≤ 140737488355327) (hlc : l.length ≤ c)
    (w : World) (hc : ∀ j, j < l.length → w.cell? (ad.add j) = some (.int .u8 (l.getD j 0))) (hadb : ad.block < w.heap.size) (R : Int) (hf : ∀ W, Calls Try.prog 27 #[.int .u64 (wsum l)] W fun e W' => e = .returned (.int .u16 R) ∧ Drawn0 W W') :
    CallsIn Fence.wide n Try.prog 25 #[.slice (some ad) l.length c] w fun e W' => e = .returned (.int .u16 R) ∧ Below w.heap.size w W' := by
  have h1 : 1 ≤ n := by omega
  have t23 : Fence.wide.fn 26 := trivial
  have t27 : Fence.wide.fn 28 := trivial
  have t24 : Fence.wide.fn 27 := trivial
  refine callsIn_of_wp_marks Try.func25 rfl trivial ?_ rfl
  simp only [Try.ntmps25, List.size_toArray, List.length_cons, List.length_nil, Nat.reduceAdd, Nat.reduceSub, Array.replicate_succ, Array.replicate_zero, List.push_toArray, List.append_toArray, List.nil_append, List.cons_append]
  gi_wp2_with (gi_at_call 26; refine (chunk_in Fence.wide (n - 1) trivial rfl _ _ _ _ (by omega) _).mono ?_; rintro e w' ⟨rfl, rfl⟩)
  have hs := cell_new_l w (.int .u64 0) 53
  have hb := cell_new_l (w.alloc (.cells #[.int .u64 0] 53)) (.slice (some ad) l.length c) 24
  have hm := cell_new_l ((w.alloc (.cells #[.int .u64 0] 53)).alloc (.cells #[.slice (some ad) l.length c] 24)) (.int .i64 2) 3
  simp only [World.size_alloc] at hb hm
  have hB0 : Below w.heap.size w (((w.alloc (.cells #[.int .u64 0] 53)).alloc (.cells #[.slice (some ad) l.length c] 24)).alloc (.cells #[.int .i64 2] 3)) := (((Below.refl _ w).alloc (Nat.le_refl _) _).alloc (by simp) _).alloc (by simp; omega) _
  refine wpIn_rangeFunc_ownF rfl h1 (gf := 28) (lb := #[.pointer (some ⟨w.heap.size + 1, 0, none⟩), .pointer (some ⟨w.heap.size + 1 + 1, 0, none⟩)]) rfl trivial (enters_of Try.func28 (by kernel_rfl) rfl)
    (chunk_stops Fence.wide (n - 1) trivial rfl (by omega) (w.heap.size + 1) (w.heap.size + 1 + 1) ad l.length c 2 (by omega) (by omega) hlc (by omega) _ (by simp; try omega) (by simp; try omega) (cell_alloc_l _ hb.1) hm.1) KeepsTwo.trans (fun W l o o' hl _ _ _ => KeepsTwo.putObj W l o' (by simp at hl; omega) (by simp at hl; omega)) (Below.refl _ _) (fun _ => rfl)
    (fun pre W => (W.cell? ⟨w.heap.size, 0, none⟩ = some (.int .u64 (csum l (pre.map (·.1)))) ∧ W.frozen? ⟨w.heap.size, 0, none⟩ = false) ∧ Below w.heap.size w W)
    (fun _ _ _ => False)
    (OwnFrom.and (Own.from (fun s A B row hs hg hr => ⟨cell_kept hs.1 hg hr, (frozen_kept hs.1 hg hr).trans hs.2⟩) _) (ownFrom_below (Nat.le_refl _) (by simp; omega)))
    (fun _ _ _ _ _ hs _ _ => hs)
    ⟨⟨cell_alloc_l _ (cell_alloc_l _ hs.1), frozen_alloc_l _ (cell_alloc_l _ hs.1) (frozen_alloc_l _ hs.1 hs.2)⟩, hB0⟩
    (fun x => { tmps := #[.slice (some ad) l.length c, undef, .int .u16 0, .pointer (some ⟨w.heap.size, 0, none⟩), chunkVal ad l.length 2 x.1, .slice (some ad) l.length c, .func (.func 28) #[] #[.pointer (some ⟨w.heap.size + 1, 0, none⟩), .pointer (some ⟨w.heap.size + 1 + 1, 0, none⟩)], chunkVal ad l.length 2 x.1, undef, undef, undef, undef, undef, undef, undef, undef, undef, undef, undef, undef, undef, undef, undef, undef, undef, undef], defers := [] }) ?assign ?body ?done ?stop
  case assign =>
    intro l x W K hK
    gi_wp2
    exact hK
  case body =>
    rintro l' pre ⟨i, hi⟩ W ⟨⟨hcn, hfn⟩, hB⟩ hpl
    have hblk : ∀ j, (ad.add j).block < w.heap.size := fun j => by unfold Addr.add; split <;> exact hadb
    have hc0 := (hB.cell (p := ad.add i) (hblk i)).trans (hc i hi)
    have hcv : cval l i = l.getD i 0 * 256 + (if i + 1 < l.length then l.getD (i + 1) 0 else 0) := rfl
    have ha := okBytes_at hok i
    have hb' := okBytes_at hok (i + 1)
    have hs0 := csum_range hok (pre.map (·.1))
    have hpl' : ((pre.map (·.1)).length : Int) ≤ 140737488355327 := by rw [List.length_map]; omega
    have fin : csum l ((pre ++ [(⟨i, hi⟩ : Plc l.length)]).map (·.1)) = csum l (pre.map (·.1)) + cval l i := by rw [List.map_append]; exact csum_snoc l _ i
    generalize hS : csum l (pre.map (·.1)) = S at *
    have hS0 : 0 ≤ S := hs0.1
    have hS1 : S ≤ 9223372036854775807 := by omega
    generalize hA : l.getD i 0 = a at *
    by_cases h2 : i + 1 < l.length
    · have hc1 := (hB.cell (p := ad.add (i + 1)) (hblk (i + 1))).trans (hc (i + 1) h2)
      generalize hB2 : l.getD (i + 1) 0 = b at *
      have e : min 2 (l.length - i) = 2 := by omega
      rw [if_pos h2] at hcv
      have HF := Lib.hid fin
      have HV := Lib.hid hcv
      clear fin hcv hS hA hB2 hs0
      have hW1 : Below w.heap.size W (W.setCell ⟨w.heap.size, 0, none⟩ (.int .u64 (S + a * 256))).drew := ((Below.refl w.heap.size W).setCell (p := ⟨w.heap.size, 0, none⟩) (Nat.le_refl _) _).drew
      have k1 : (W.setCell ⟨w.heap.size, 0, none⟩ (.int .u64 (S + a * 256))).drew.cell? ⟨w.heap.size, 0, none⟩ = some (.int .u64 (S + a * 256)) := World.cell?_setCell_same' _ _ _ (by rw [hcn]; rfl)
      have k2 : (W.setCell ⟨w.heap.size, 0, none⟩ (.int .u64 (S + a * 256))).drew.frozen? ⟨w.heap.size, 0, none⟩ = false := (World.frozen?_setCell ..).trans hfn
      have k3 : (W.setCell ⟨w.heap.size, 0, none⟩ (.int .u64 (S + a * 256))).drew.cell? (ad.add (i + 1)) = some (.int .u8 b) := (hW1.cell (p := ad.add (i + 1)) (hblk (i + 1))).trans hc1
      have k5 : KeepsOthers W (W.setCell ⟨w.heap.size, 0, none⟩ (.int .u64 (S + a * 256))).drew := (KeepsOthers.setCell _ _ _).trans (KeepsOthers.drew _)
      have k6 : KeepsTwo (w.heap.size + 1) (w.heap.size + 1 + 1) W (W.setCell ⟨w.heap.size, 0, none⟩ (.int .u64 (S + a * 256))).drew := ⟨Below.heap_setCell W ⟨w.heap.size, 0, none⟩ _ _ (by simp), Below.heap_setCell W ⟨w.heap.size, 0, none⟩ _ _ (by simp; omega)⟩
      have k7 : Below w.heap.size w (W.setCell ⟨w.heap.size, 0, none⟩ (.int .u64 (S + a * 256))).drew := hB.trans hW1
      clear hW1 hc hB hs hb hm hB0 hf
      simp only [chunkVal, e]
      rw [← Addr.add_add] at k3
      generalize ad.add i = p at *
      gi_wp2
      gi_region
      all_goals
        gi_wp2
        obtain ⟨W1, hW1e⟩ : ∃ W1, (W.setCell ⟨w.heap.size, 0, none⟩ (.int .u64 (S + a * 256))).drew = W1 := ⟨_, rfl⟩
        rw [hW1e] at k1 k2 k3 k5 k6 k7 ⊢
        have k4 : W1.cell? ⟨p.block, p.off + 1, none⟩ = some (.int .u8 b) := k3
        have hW1h := Lib.hid hW1e
        clear hW1e
        clear hcn hfn hc0 hc1
        gi_region
        all_goals gi_wp2
        all_goals
          obtain ⟨q1, q2, ⟨q3, q4⟩, q5⟩ := box_end (.int .u64 (IntKind.u64.wrap (S + a * 256 + IntKind.u64.wrap b))) k1 k2 k5 k6 k7
          refine ⟨q1, q2, ⟨q3.trans ?_, q4⟩, q5⟩
          rw [HF.out, HV.out, Arith.u64i (x := b) hb'.1 (by omega), Arith.u64i (by omega) (by omega), Int.add_assoc]
    · rw [if_neg h2] at hcv
      have e : min 2 (l.length - i) = 1 := by omega
      have HF := Lib.hid fin
      have HV := Lib.hid hcv
      clear fin hcv hS hA hs0 hb'
      have k6 : KeepsTwo (w.heap.size + 1) (w.heap.size + 1 + 1) W W := ⟨rfl, rfl⟩
      clear hc hs hb hm hB0 hf
      simp only [chunkVal, e]
      generalize ad.add i = p at *
      gi_wp2
      gi_region
      all_goals gi_wp2
      all_goals
        obtain ⟨q1, q2, ⟨q3, q4⟩, q5⟩ := box_end (.int .u64 (S + a * 256)) hcn hfn (KeepsOthers.refl W) k6 hB
        refine ⟨q1, q2, ⟨q3.trans ?_, q4⟩, q5⟩
        rw [HF.out, HV.out, Int.add_zero]
  case done =>
    rintro D ys W hD ⟨k, hk1, hk2, hks⟩ ⟨⟨hcn, hfn⟩, hB⟩ hK
    rw [hks, wsum_starts l k hk1 hk2] at hcn
    gi_wp2_with (gi_at_call 27; refine (callsIn_wide.2 (hf _)).mono ?_; rintro e w' ⟨rfl, hd⟩)
    have hK' : w'.heap[D]? = some (.deferred (some [])) := by
      obtain ⟨q, rfl⟩ := hd
      exact hK
    refine ⟨by simp, .inl ⟨_, _, rfl, run_takeDeferred hK', ?_⟩⟩
    exact ⟨_, results_tmp rfl _ _ _, rfl, (below_then hB hB.size hd.below).trans (belowK_b (w := w) (Nat.le_refl _) w' D _ _ (by simp at hD; omega) hK' rfl rfl)⟩
  case stop =>
    rintro D c pre W _ _ h _
    exact h.elim

set_option maxRecDepth 100000 in
set_option maxHeartbeats 1000000 in
/-- .. of no octet: no round. -/
theorem chunk1_none_in (F : Fence) (n : Nat) (h7 : F.fn 28) (hro : F.round = none) (l Bs Bm : Nat) (A : Option Addr) (cap : Nat) (J : List Nat → World → Prop) (W : World) (hBs : W.cell? ⟨Bs, 0, none⟩ = some (.slice A 0 cap)) (h0 : J [] W) :
    CallsIn F n Try.prog 28 #[.func (.yield l) #[] #[], .pointer (some ⟨Bs, 0, none⟩), .pointer (some ⟨Bm, 0, none⟩)] W fun e W' => (∃ v, e = .returned v) ∧ J [] W' := by
  refine callsIn_of_wp Try.func28 rfl h7 ?_ hro
  simp only [Try.ntmps28, List.size_toArray, List.length_cons, List.length_nil, Nat.reduceAdd, Nat.reduceSub, Array.replicate_succ, Array.replicate_zero, List.push_toArray, List.append_toArray, List.nil_append, List.cons_append]
  gi_wp2
  gi_loopw [4] (fun i wr => i = .int .i64 0 ∧ J [] wr ∧ wr = W) (fun _ _ => 0)
  case atStart => exact ⟨rfl, h0, rfl⟩
  case round =>
    obtain ⟨rfl, hJs, rfl⟩ := hrel
    gi_wp2
    go_end0
    exact ⟨⟨_, rfl⟩, hJs⟩
theorem chunk_stops_none (F : Fence) (n : Nat) (h7 : F.fn 28) (hro : F.round = none) (Bs Bm : Nat) (A : Option Addr) (cap : Nat) (w : World) (hBs0 : Bs < w.heap.size) (hBs : w.cell? ⟨Bs, 0, none⟩ = some (.slice A 0 cap)) :
    SeqStopsK F n Try.prog 28 #[.pointer (some ⟨Bs, 0, none⟩), .pointer (some ⟨Bm, 0, none⟩)] (fun _ : Nat => #[Value.slice A 0 cap]) (KeepsTwo Bs Bm) (fun xs => xs = []) (fun _ => False) 0 w := fun l J Jx W hW hJ hJx hY h0 => by
  have hs := (hW.cell (p := ⟨Bs, 0, none⟩) hBs0).trans hBs
  exact (chunk1_none_in F n h7 hro l Bs Bm A cap J W hs h0).mono fun e W' ⟨he, hj⟩ => ⟨he, .inl ⟨[], rfl, hj⟩⟩

set_option maxRecDepth 100000 in
set_option maxHeartbeats 4000000 in
theorem sum_none_in (n : Nat) (hn : 3 ≤ n) (A : Option Addr) (c : Nat) (w : World) (R : Int) (hf : ∀ W, Calls Try.prog 27 #[.int .u64 0] W fun e W' => e = .returned (.int .u16 R) ∧ Drawn0 W W') :
    CallsIn Fence.wide n Try.prog 25 #[.slice A 0 c] w fun e W' => e = .returned (.int .u16 R) ∧ Below w.heap.size w W' := by
  have h1 : 1 ≤ n := by omega
  have t23 : Fence.wide.fn 26 := trivial
  have t27 : Fence.wide.fn 28 := trivial
  have t24 : Fence.wide.fn 27 := trivial
  refine callsIn_of_wp_marks Try.func25 rfl trivial ?_ rfl
  simp only [Try.ntmps25, List.size_toArray, List.length_cons, List.length_nil, Nat.reduceAdd, Nat.reduceSub, Array.replicate_succ, Array.replicate_zero, List.push_toArray, List.append_toArray, List.nil_append, List.cons_append]
  gi_wp2_with (gi_at_call 26; refine (chunk_in Fence.wide (n - 1) trivial rfl _ _ _ _ (by omega) _).mono ?_; rintro e w' ⟨rfl, rfl⟩)
  have hs := cell_new_l w (.int .u64 0) 53
  have hb := cell_new_l (w.alloc (.cells #[.int .u64 0] 53)) (.slice A 0 c) 24
  simp only [World.size_alloc] at hb
  have hB0 : Below w.heap.size w (((w.alloc (.cells #[.int .u64 0] 53)).alloc (.cells #[.slice A 0 c] 24)).alloc (.cells #[.int .i64 2] 3)) := (((Below.refl _ w).alloc (Nat.le_refl _) _).alloc (by simp) _).alloc (by simp; omega) _
  refine wpIn_rangeFunc_ownF rfl h1 (gf := 28) (lb := #[.pointer (some ⟨w.heap.size + 1, 0, none⟩), .pointer (some ⟨w.heap.size + 1 + 1, 0, none⟩)]) rfl trivial (enters_of Try.func28 (by kernel_rfl) rfl)
    (chunk_stops_none Fence.wide (n - 1) trivial rfl (w.heap.size + 1) (w.heap.size + 1 + 1) A c _ (by simp; try omega) (cell_alloc_l _ hb.1)) KeepsTwo.trans (fun W l o o' hl _ _ _ => KeepsTwo.putObj W l o' (by simp at hl; omega) (by simp at hl; omega)) (Below.refl _ _) (fun _ => rfl)
    (fun pre W => (W.cell? ⟨w.heap.size, 0, none⟩ = some (.int .u64 0) ∧ W.frozen? ⟨w.heap.size, 0, none⟩ = false) ∧ Below w.heap.size w W)
    (fun _ _ _ => False)
    (OwnFrom.and (Own.from (fun s A B row hs hg hr => ⟨cell_kept hs.1 hg hr, (frozen_kept hs.1 hg hr).trans hs.2⟩) _) (ownFrom_below (Nat.le_refl _) (by simp; omega)))
    (fun _ _ _ _ _ hs _ _ => hs)
    ⟨⟨cell_alloc_l _ (cell_alloc_l _ hs.1), frozen_alloc_l _ (cell_alloc_l _ hs.1) (frozen_alloc_l _ hs.1 hs.2)⟩, hB0⟩
    (fun x => { tmps := #[.slice A 0 c, undef, .int .u16 0, .pointer (some ⟨w.heap.size, 0, none⟩), .slice A 0 c, .slice A 0 c, .func (.func 28) #[] #[.pointer (some ⟨w.heap.size + 1, 0, none⟩), .pointer (some ⟨w.heap.size + 1 + 1, 0, none⟩)], .slice A 0 c, undef, undef, undef, undef, undef, undef, undef, undef, undef, undef, undef, undef, undef, undef, undef, undef, undef, undef], defers := [] }) ?assign ?body ?done ?stop
  case assign =>
    intro l x W K hK
    gi_wp2
    exact hK
  case body =>
    intro l' pre x W _ hpl
    exact absurd hpl (Nat.not_lt_zero _)
  case done =>
    rintro D ys W hD rfl ⟨⟨hcn, hfn⟩, hB⟩ hK
    gi_wp2_with (gi_at_call 27; refine (callsIn_wide.2 (hf _)).mono ?_; rintro e w' ⟨rfl, hd⟩)
    have hK' : w'.heap[D]? = some (.deferred (some [])) := by
      obtain ⟨q, rfl⟩ := hd
      exact hK
    refine ⟨by simp, .inl ⟨_, _, rfl, run_takeDeferred hK', ?_⟩⟩
    exact ⟨_, results_tmp rfl _ _ _, rfl, (below_then hB hB.size hd.below).trans (belowK_b (w := w) (Nat.le_refl _) w' D _ _ (by simp at hD; omega) hK' rfl rfl)⟩
  case stop =>
    rintro D c pre W _ hF _ _
    exact hF.elim
theorem checksum_Sum.mono : ∀ a0 k, LeO (checksum_Sum.f k a0) (checksum_Sum.f (k + 1) a0) := by
  intro a0 k
  unfold checksum_Sum.f
  exact LeO.ite (LeO.ite (checksum_fold.mono _ _) (LeO.refl _)) (LeO.refl _)
set_option maxHeartbeats 8000000 in
set_option maxRecDepth 100000 in
theorem checksum_Sum.calls (k : Nat) (A0 : Option Addr) (c0 : Nat) (l0 : List Int) (r : Int) (w : World) (hr0 : Kd.C (Kd.int .u8) w A0 l0.length l0) (hc0 : l0.length ≤ c0) (h : checksum_Sum.f k l0 = some r) :
    Calls Try.prog 25 #[.slice A0 l0.length c0] w fun e w' => e = .returned (.int .u16 r) ∧ Below w.heap.size w w' := by
  unfold checksum_Sum.f at h
  by_cases h1 : okBytes l0 = true
  · rw [if_pos h1] at h
    by_cases h2 : l0.length ≤ 140737488355327
    · rw [if_pos h2] at h
      rcases Nat.eq_zero_or_pos l0.length with h0 | h0
      · obtain rfl : l0 = [] := List.eq_nil_of_length_eq_zero h0
        exact callsIn_wide.1 (sum_none_in 3 (Nat.le_refl _) A0 c0 w r (fun W => checksum_fold.calls k _ r W h))
      · obtain ⟨ad, rfl, hcell⟩ := hr0.2.2 h0
        have hc : ∀ j, j < l0.length → w.cell? (ad.add j) = some (.int .u8 (l0.getD j 0)) := by
          intro j hj
          obtain ⟨c, hc1, hc2, hc3⟩ := hcell j l0[j] (List.getElem?_eq_getElem hj)
          have e : c = [.int .u8 l0[j]] := hc2
          subst e
          have := hc3 0 _ rfl
          simp only [show (Kd.int .u8).sz = 1 from rfl, Nat.mul_one, Nat.add_zero] at this
          rw [this, List.getD_eq_getElem?_getD, List.getElem?_eq_getElem hj]
          rfl
        have hb := World.block_lt_of_cell? w _ (hc 0 h0)
        have hadb : ad.block < w.heap.size := by simpa [Addr.add] using hb
        exact callsIn_wide.1 (sum_in 3 (Nat.le_refl _) ad c0 l0 h1 h2 hc0 w hc hadb r (fun W => checksum_fold.calls k _ r W h))
    · rw [if_neg h2] at h
      cases h
  · rw [if_neg h1] at h
    cases h


end Go.Proofs.Ytghfljmoaalinaa.Q
