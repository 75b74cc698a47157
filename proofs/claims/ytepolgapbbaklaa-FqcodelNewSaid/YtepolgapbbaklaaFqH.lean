/- fqcodel: where CoDel is calm it gives out the first packet. Numbers and lists alone. No condition. -/
import Derived.Test.YtepolgapbbaklaaFqF
import Derived.Test.YtepolgapbbaklaaFqE
import Derived.Test.YtepolgapbbaklaaFqG
import Derived.Test.YtepolgapbbaklaaQ3
namespace Go.Proofs.Ytepolgapbbaklaa.Q
set_option linter.unusedVariables false
set_option linter.unusedSimpArgs false
open Go.RowKit Go.Proofs.YtepolgapbbaklaaW.PrintWords Go.Proofs.YtepolgapbbaklaaW.PrintLast Go.Proofs.YtepolgapbbaklaaW.PrintMore
theorem within_one (lo hi x : Int) (h0 : lo ≤ x) (h1 : x ≤ hi) : codel_within.f 10 lo hi [x] = some true := by
  unfold codel_within.f
  have e : rd [x] 0 = x := rfl
  have w : wrap64 (0 + 1) = 1 := by unfold wrap64; omega
  simp only [codel_within.l0, List.length_cons, List.length_nil]
  rw [if_pos (by omega), if_pos (by omega), if_pos (by omega), e, if_neg (by omega), if_neg (by omega), w, if_neg (by omega)]
/-- Packets that CoDel takes. -/
def Fresh (ps : List PK) : Prop := ∀ x ∈ ps, x.f0 = 0 ∧ 1 ≤ x.f1 ∧ x.f1 ≤ 65535
theorem okGo_true : ∀ l : List PK, Fresh l → okGo 10 true l = some true
  | [], _ => rfl
  | x :: q, h => by
    have hx := h x (by simp)
    simp only [okGo]
    rw [within_one 0 2199023255552 x.f0 (by omega) (by omega), Option.bind_some, within_one 1 65535 x.f1 (by omega) (by omega), Option.bind_some]
    exact okGo_true q (fun y hy => h y (by simp [hy]))
theorem calm_of (c : Cfg) (ht : c.tg = 1073741824) (hi : c.iv = 1073741824) (hm : c.mtu = 1500) (ps : List PK) (hp : Fresh ps) (hl : ps.length ≤ 70000) : Calm c 0 ps := by
  refine ⟨10, ?_⟩
  unfold codel_Dequeue.f deqR
  rw [ht, hi, hm]
  have e1 : codel_Check.f 10 1073741824 1073741824 1500 = some 0 := by decide +kernel
  have e2 : codel_within.f 10 0 2199023255552 [0, 0, 0] = some true := by decide +kernel
  have e3 : codel_within.f 10 0 1073741824 [0, 0] = some true := by decide +kernel
  rw [e1, Option.bind_some, if_pos rfl, e2, Option.bind_some, e3, Option.bind_some]
  simp only [Bool.and_true]
  rw [okGo_true ps hp, Option.bind_some, if_pos rfl, if_pos (by omega)]
  cases ps with
  | nil =>
    unfold afterR
    rw [if_neg (by decide), takeR_nil rfl, if_neg (by decide)]
    rfl
  | cons x q =>
    have hx := hp x (by simp)
    unfold afterR
    have ew : wrap64 (0 - x.f0) < 1073741824 := by
      rw [hx.1]
      unfold wrap64
      omega
    have et : takeR (runOf 1073741824 1073741824 1500 false 0 false 0 0 0 (x :: q) (sumGo 0 (x :: q)) 0) = ({ runOf 1073741824 1073741824 1500 false 0 false 0 0 0 (x :: q) (sumGo 0 (x :: q)) 0 with cur := x, has := true, q := q, bytes := wrap64 (sumGo 0 (x :: q) - x.f1), above := false }, false) := by
      rw [takeR_cons rfl]
      exact if_pos (.inl ew)
    rw [if_neg (by decide), et]
    simp only [Bool.false_eq_true, if_false]
    rfl
/-- A state of the calm queue. -/
structure ST where
  fs : Nat → Fl
  l1 : List Nat
  l2 : List Nat
  n : Int
def calmC (flows limit quantum : Int) : Cfg := ⟨flows, limit, quantum, 1073741824, 1073741824, 1500⟩
def zeroB (f : Fl) : Bool := !f.above && (f.aboveAt == 0 && (!f.dropping && (f.next == 0 && (f.count == 0 && f.last == 0))))
theorem zero_of {f : Fl} (h : zeroB f = true) : Zero f := by
  unfold zeroB at h
  simp only [Bool.and_eq_true, Bool.not_eq_true', beq_iff_eq] at h
  obtain ⟨a, b, c, d, e, g⟩ := h
  exact ⟨a, b, c, d, e, g⟩
def freshB (ps : List PK) : Bool := ps.all fun x => decide (x.f0 = 0 ∧ 1 ≤ x.f1 ∧ x.f1 ≤ 65535)
theorem fresh_of {ps : List PK} (h : freshB ps = true) : Fresh ps := fun x hx => of_decide_eq_true (List.all_eq_true.1 h x hx)
/-- May the state be: lists and flows. -/
def okB (N : Nat) (s : ST) : Bool := decide ((s.l1 ++ s.l2).Nodup) && (s.l1.all (fun i => decide (i < N ∧ (s.fs i).on = 1)) && (s.l2.all (fun i => decide (i < N ∧ (s.fs i).on = 2)) && ((List.range N).all (fun i => zeroB (s.fs i) && (freshB (s.fs i).ps && decide ((s.fs i).ps.length ≤ 70000))) && (decide (s.l1.length + s.l2.length ≤ N) && decide (0 ≤ s.n ∧ s.n ≤ 60000)))))
theorem ok_of {flows limit quantum : Int} {N : Nat} {s : ST} (h : okB N s = true) : QOk (calmC flows limit quantum) 0 N s.fs s.l1 s.l2 ∧ (∀ i, i < N → (s.fs i).ps.length ≤ 70000) ∧ 0 ≤ s.n ∧ s.n ≤ 60000 := by
  unfold okB at h
  simp only [Bool.and_eq_true] at h
  obtain ⟨h1, h2, h3, h4, h5, h6⟩ := h
  have h7 : ∀ i, i < N → zeroB (s.fs i) = true ∧ freshB (s.fs i).ps = true ∧ (s.fs i).ps.length ≤ 70000 := fun i hi => by
    have := List.all_eq_true.1 h4 i (List.mem_range.2 hi)
    simp only [Bool.and_eq_true] at this
    exact ⟨this.1, this.2.1, of_decide_eq_true this.2.2⟩
  exact ⟨⟨of_decide_eq_true h1, fun i hi => of_decide_eq_true (List.all_eq_true.1 h2 i hi), fun i hi => of_decide_eq_true (List.all_eq_true.1 h3 i hi), fun i hi => ⟨zero_of (h7 i hi).1, calm_of _ rfl rfl rfl _ (fresh_of (h7 i hi).2.1) (h7 i hi).2.2⟩, of_decide_eq_true h5⟩, fun i hi => (h7 i hi).2.2, (of_decide_eq_true h6).1, (of_decide_eq_true h6).2⟩
def pkJ (size : Int) (j : Nat) : PK := ⟨0, size, false, (j : Int)⟩
/-- The page's example. -/
def aE : Nat → ST
  | 0 => ⟨newFs 2, [], [], 0⟩
  | j + 1 => ⟨enqFs (calmC 2 10 1000) (aE j).fs (j / 2) (pkJ 1000 j), wakeL ((aE j).fs (j / 2)) (aE j).l1 (j / 2), (aE j).l2, (aE j).n + 1⟩
def aD : Nat → DRes
  | 0 => ((aE 4).fs, (aE 4).l1, (aE 4).l2, (aE 4).n, none)
  | j + 1 => (deqGo (calmC 2 10 1000) 10 (aD j).1 (aD j).2.1 (aD j).2.2.1 (aD j).2.2.2.1).getD (aD j)
def aSt (j : Nat) : ST := ⟨(aD j).1, (aD j).2.1, (aD j).2.2.1, (aD j).2.2.2.1⟩
theorem aE_ok : ∀ j : Fin 5, okB 2 (aE j.val) = true ∧ (aE j.val).n = (j.val : Int) := by decide +kernel
theorem aD_ok : ∀ j : Fin 5, okB 2 (aSt j.val) = true ∧ (aD j.val).2.2.2.1 = 4 - (j.val : Int) := by decide +kernel
theorem aD_next : ∀ j : Fin 4, (deqGo (calmC 2 10 1000) 10 (aD j.val).1 (aD j.val).2.1 (aD j.val).2.2.1 (aD j.val).2.2.2.1).isSome = true ∧ (aD (j.val + 1)).2.2.2.2.map (·.1) = some (j.val % 2) ∧ ((aD (j.val + 1)).1 (j.val % 2)).id = ((j.val % 2 : Nat) : Int) := by decide +kernel
theorem aD_step {j : Nat} (hj : j < 4) : deqGo (calmC 2 10 1000) 10 (aD j).1 (aD j).2.1 (aD j).2.2.1 (aD j).2.2.2.1 = some (aD (j + 1)) := by
  have h := (aD_next ⟨j, hj⟩).1
  obtain ⟨r, hr⟩ := Option.isSome_iff_exists.1 h
  have hr : deqGo (calmC 2 10 1000) 10 (aD j).1 (aD j).2.1 (aD j).2.2.1 (aD j).2.2.2.1 = some r := hr
  rw [hr]
  simp only [aD, hr, Option.getD_some]
end Go.Proofs.Ytepolgapbbaklaa.Q
