/- fqcodel: none, Len, first, leave, put, drop walked. No condition. -/
import Derived.Test.YtepolgapbbaklaaFqA
import Derived.Lib.SliceRun
namespace Go.Proofs.Ytepolgapbbaklaa.Q
set_option linter.unusedVariables false
set_option linter.unusedSimpArgs false
open Go.RowKit Go.Proofs.YtepolgapbbaklaaW.PrintWords Go.Proofs.YtepolgapbbaklaaW.PrintLast Go.Proofs.YtepolgapbbaklaaW.PrintMore
/-- Settings. -/
structure Cfg where
  flows : Int
  limit : Int
  quantum : Int
  tg : Int
  iv : Int
  mtu : Int
def qCells (c : Cfg) (fb N : Nat) (v1 v2 : Value) (n now : Int) : Array Value :=
  #[.int .i64 c.flows, .int .i64 c.limit, .int .i64 c.quantum, .int .i64 c.tg, .int .i64 c.iv, .int .i64 c.mtu, .slice (some ⟨fb, 0, none⟩) N N, .slice none 0 0, v1, v2, .int .i64 n, .int .i64 now]
/-- The queue of queues. -/
def FQ (w W : World) (q fb N : Nat) (c : Cfg) (fs : Nat → Fl) (rv : Nat → Value) (v1 v2 : Value) (l1 l2 : List Nat) (n now : Int) : Prop :=
  FR w W q fb N (qCells c fb N v1 v2 n now) (fun i => (fs i).cells (rv i)) rv (fun i => (fs i).ps) v1 v2 l1 l2
theorem cells_upd (fs : Nat → Fl) (rv : Nat → Value) (i : Nat) (f : Fl) (v : Value) : upd (fun k => (fs k).cells (rv k)) i (f.cells v) = fun k => (upd fs i f k).cells (upd rv i v k) := by
  funext k
  by_cases c : k = i
  · subst c
    rw [upd_at, upd_at, upd_at]
  · rw [upd_ne _ _ c, upd_ne _ _ c, upd_ne _ _ c]
theorem cells_upd' (fs : Nat → Fl) (rv : Nat → Value) (i : Nat) (f : Fl) : upd (fun k => (fs k).cells (rv k)) i (f.cells (rv i)) = fun k => (upd fs i f k).cells (rv k) := by
  rw [cells_upd, upd_self]
theorem ps_upd (fs : Nat → Fl) (i : Nat) (f : Fl) : upd (fun k => (fs k).ps) i f.ps = fun k => (upd fs i f k).ps := by
  funext k
  by_cases c : k = i
  · subst c
    rw [upd_at, upd_at]
  · rw [upd_ne _ _ c, upd_ne _ _ c]
theorem ps_same (fs : Nat → Fl) (i : Nat) (f : Fl) (h : f.ps = (fs i).ps) : (fun k => (fs k).ps) = fun k => (upd fs i f k).ps := by
  funext k
  by_cases c : k = i
  · subst c
    rw [upd_at, h]
  · rw [upd_ne _ _ c]
section
variable {w W W' : World} {q fb N : Nat} {c : Cfg} {fs : Nat → Fl} {rv : Nat → Value} {v1 v2 : Value} {l1 l2 : List Nat} {n now : Int}
theorem FQ.zq (h : FQ w W q fb N c fs rv v1 v2 l1 l2 n now) (i : Nat) : W.cell? ⟨q, i, none⟩ = (qCells c fb N v1 v2 n now)[i]? ∧ W.frozen? ⟨q, i, none⟩ = false := ⟨blk_cell (FR.K h) i, blk_frozen (FR.K h) i⟩
theorem FQ.zf (h : FQ w W q fb N c fs rv v1 v2 l1 l2 n now) {i : Nat} (hi : i < N) (j : Nat) (hj : j < 11) : W.cell? ⟨fb, i * 11 + j, none⟩ = ((fs i).cells (rv i))[j]? ∧ W.frozen? ⟨fb, i * 11 + j, none⟩ = false := (FR.F h).z hi j hj
end
set_option maxHeartbeats 8000000 in
set_option maxRecDepth 100000 in
theorem none_in {W : World} {q : Nat} {ad : Addr} {N c : Nat} (z : W.cell? ⟨q, 6, none⟩ = some (.slice (some ad) N c)) :
    Calls Try.prog 20 #[.pointer (some ⟨q, 0, none⟩)] W fun e W' => e = .returned (.bool false) ∧ W = W' := by
  have hu := Try.underlying66
  have hn : ∀ (w : World) (a : Option Addr) (n c n' c' : Nat), (binOp .eql 62 (.slice a n c) (.slice none n' c')).run Try.prog w = .ok (.bool a.isNone) w := fun w a n c n' c' => Lib.run_eql_slice_nil w _ _ a n c n' c' Try.underlying62
  go_enter Try.func20, Try.ntmps20
  go_wp2
  go_ret
  exact ⟨rfl, rfl⟩
set_option maxHeartbeats 8000000 in
set_option maxRecDepth 100000 in
theorem Len_in {w W : World} {q fb N : Nat} {c : Cfg} {fs : Nat → Fl} {rv : Nat → Value} {v1 v2 : Value} {l1 l2 : List Nat} {n now : Int} (h : FQ w W q fb N c fs rv v1 v2 l1 l2 n now) :
    Calls Try.prog 15 #[.pointer (some ⟨q, 0, none⟩)] W fun e W' => e = .returned (.int .i64 n) ∧ W = W' := by
  have hu := Try.underlying66
  have z10 := (h.zq 10).1.trans (show _ = some (.int .i64 n) from rfl)
  have HN := Aside0.mk (none_in ((h.zq 6).1.trans rfl))
  go_enter Try.func15, Try.ntmps15
  go_wp2_with (go_at_call 20; (with_reducible refine Calls.mono HN.out ?_); rintro e w2 ⟨rfl, rfl⟩)
  go_ret
  exact ⟨rfl, rfl⟩
/-- The first of a list, and what is left of it. -/
theorem hdF {fb : Nat} {W : World} {b : Nat} {v : Value} {i : Nat} {r : List Nat} (h : (kF fb).Q 74 W b (fun _ => True) v (i :: r)) : ∃ g o c, v = .slice (some ⟨g, o, none⟩) (r.length + 1) c ∧ W.cell? ⟨g, o, none⟩ = some (.pointer (some ⟨fb, i * 11, none⟩)) ∧ r.length + 1 ≤ c := by
  obtain ⟨g, o, c, rfl, _, _, _⟩ := Kd.Q_form h (by simp)
  refine ⟨g, o, c, rfl, ?_, (Kd.Q_reads' h).2.1⟩
  have hc := (Kd.Q_cell 0 h 0 (by omega) (by simp)).1
  simpa [rdOf] using hc
theorem tlF {fb : Nat} {W : World} {b g o c : Nat} {i : Nat} {r : List Nat} (h : (kF fb).Q 74 W b (fun _ => True) (.slice (some ⟨g, o, none⟩) (r.length + 1) c) (i :: r)) :
    (kF fb).Q 74 W b (fun _ => True) (.slice (if c = 1 then some ⟨g, o, none⟩ else some ⟨g, o + 1, none⟩) r.length (c - 1)) r ∧ (Value.slice (if c = 1 then some (⟨g, o, none⟩ : Addr) else some ⟨g, o + 1, none⟩) r.length (c - 1)).ownBlock = some g := by
  have h1 := Kd.Q_drop (k := 1) h (by simp)
  have e : (if c = 1 then some (⟨g, o, none⟩ : Addr) else (some (⟨g, o, none⟩ : Addr)).map (·.add (1 * (kF fb).sz))) = (if c = 1 then some (⟨g, o, none⟩ : Addr) else some ⟨g, o + 1, none⟩) := by
    have : (⟨g, o, none⟩ : Addr).add (1 * (kF fb).sz) = ⟨g, o + 1, none⟩ := add_at g o 1
    simp only [Option.map_some, this]
  rw [e] at h1
  refine ⟨h1, ?_⟩
  by_cases cc : c = 1
  · rw [if_pos cc]
    rfl
  · rw [if_neg cc]
    rfl
theorem info3s : (Try.prog.info? 3).map (·.size) = some 1 := by kernel_rfl
theorem size3 (w : World) : (Go.sizeOf 3).run Try.prog w = .ok 1 w := by
  obtain ⟨i, hi, hs⟩ := Option.map_eq_some_iff.1 info3s
  simp [Go.sizeOf, Go.typeInfo, hi, hs, Result.andThen]
theorem idx0 (w : World) : (Instr.index 54 (.agg #[.int .i64 1, .int .i64 2]) (.int .i64 0)).run Try.prog w = .ok (.int .i64 1) w := by
  have e2 : ∀ w, (part 3 #[.int .i64 1, .int .i64 2] 0).run Try.prog w = .ok (.int .i64 1) w := fun w => by simp [part, Sem.run_bind, Result.andThen]
  simp [Instr.index, run_underlying Try.underlying54, asIntOf, Sem.run_bind, Result.andThen, size3, e2]
theorem idx1 (w : World) : (Instr.index 54 (.agg #[.int .i64 1, .int .i64 2]) (.int .i64 1)).run Try.prog w = .ok (.int .i64 2) w := by
  have e2 : ∀ w, (part 3 #[.int .i64 1, .int .i64 2] 1).run Try.prog w = .ok (.int .i64 2) w := fun w => by simp [part, Sem.run_bind, Result.andThen]
  simp [Instr.index, run_underlying Try.underlying54, asIntOf, Sem.run_bind, Result.andThen, size3, e2]
def firstOf (l1 l2 : List Nat) : Option Nat := match l1 with
  | i :: _ => some i
  | [] => match l2 with
    | i :: _ => some i
    | [] => none
set_option maxHeartbeats 8000000 in
set_option maxRecDepth 100000 in
theorem first_in {w W : World} {q fb N : Nat} {c : Cfg} {fs : Nat → Fl} {rv : Nat → Value} {v1 v2 : Value} {l1 l2 : List Nat} {n now : Int} (h : FQ w W q fb N c fs rv v1 v2 l1 l2 n now) :
    Calls Try.prog 24 #[.pointer (some ⟨q, 0, none⟩)] W fun e W' => e = .returned (.pointer ((firstOf l1 l2).map fun i => ⟨fb, i * 11, none⟩)) ∧ W = W' := by
  have hu := Try.underlying66
  have i0 := idx0
  have i1 := idx1
  have HH := Aside0.mk h
  obtain ⟨A1, c1, e1, hc1⟩ := Kd.Q_slice (FR.L1 h)
  obtain ⟨A2, c2, e2, hc2⟩ := Kd.Q_slice (FR.L2 h)
  have z8 := (h.zq 8).1.trans (show _ = some v1 from rfl)
  have z9 := (h.zq 9).1.trans (show _ = some v2 from rfl)
  rw [e1] at z8
  rw [e2] at z9
  clear h
  go_enter Try.func24, Try.ntmps24
  go_wp2
  go_loopw [7] (fun v7 wr => wr = W ∧ ((v7 = .int .i64 0) ∨ (v7 = .int .i64 1 ∧ l1 = []) ∨ (v7 = .int .i64 2 ∧ l1 = [] ∧ l2 = []))) (fun v7 _ => 2 - (intOf v7).toNat)
  case atStart => exact ⟨rfl, .inl rfl⟩
  case round =>
    obtain ⟨rfl, h7⟩ := hrel
    rcases h7 with rfl | ⟨rfl, h1⟩ | ⟨rfl, h1, h2⟩
    · cases l1 with
      | nil =>
        go_wp2
        go_roundw
        case rel => simp
        case measure => simp [intOf]
      | cons i r =>
        obtain ⟨g, o, cc, ev, hc, hcc⟩ := hdF (FR.L1 HH.out)
        rw [ev] at e1
        injection e1 with ea _ _
        subst ea
        rw [List.length_cons] at z8
        obtain ⟨m, hm⟩ : ∃ m, r.length + 1 = m := ⟨_, rfl⟩
        rw [hm] at z8
        have d0 : (0 : Int) < (m : Int) := by omega
        clear hc1 hc2 hm ev hcc
        go_wp2
        go_ret
        exact ⟨rfl, rfl⟩
    · subst h1
      cases l2 with
      | nil =>
        go_wp2
        go_roundw
        case rel => simp
        case measure => simp [intOf]
      | cons i r =>
        obtain ⟨g, o, cc, ev, hc, hcc⟩ := hdF (FR.L2 HH.out)
        rw [ev] at e2
        injection e2 with ea _ _
        subst ea
        rw [List.length_cons] at z9
        obtain ⟨m, hm⟩ : ∃ m, r.length + 1 = m := ⟨_, rfl⟩
        rw [hm] at z9
        have d0 : (0 : Int) < (m : Int) := by omega
        clear hc1 hc2 hm ev hcc
        go_wp2
        go_ret
        exact ⟨rfl, rfl⟩
    · subst h1 h2
      go_wp2
      go_ret
      exact ⟨rfl, rfl⟩
end Go.Proofs.Ytepolgapbbaklaa.Q
