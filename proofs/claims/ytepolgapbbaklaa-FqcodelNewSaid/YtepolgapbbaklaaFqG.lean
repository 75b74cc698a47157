/- fqcodel: New and Flow walked. No condition. -/
import Derived.Test.YtepolgapbbaklaaFqD
import Derived.Test.YtepolgapbbaklaaQ1
import Derived.Laws.MakeOwn
import Derived.Shelf.Slices.In.Clone
import Derived.Lib.SliceRun
namespace Go.Proofs.Ytepolgapbbaklaa.Q
set_option linter.unusedVariables false
set_option linter.unusedSimpArgs false
open Go.RowKit Go.Proofs.YtepolgapbbaklaaW.PrintWords Go.Proofs.YtepolgapbbaklaaW.PrintLast Go.Proofs.YtepolgapbbaklaaW.PrintMore
theorem made_at (z : Array Value) (hz : z.size = 11) (N i j : Nat) (hi : i < N) (hj : j < 11) : (madeCells z (N * 11))[i * 11 + j]? = z[j]? := by
  unfold madeCells
  have h : i * 11 + j < N * 11 := by omega
  have e : (i * 11 + j) % 11 = j := by omega
  simp [h, hz, e]
  rw [getElem!_pos z j (by omega), Array.getElem?_eq_getElem (by omega)]
/-- Flows that are new, of which j have their numbers. -/
def newFs (j : Nat) : Nat → Fl := fun i => ⟨if i < j then (i : Int) else 0, [], 0, false, 0, false, 0, 0, 0, 0, 0⟩
def zFl : Fl := ⟨0, [], 0, false, 0, false, 0, 0, 0, 0, 0⟩
theorem newFs_next (j : Nat) : upd (newFs j) j { newFs j j with id := (j : Int) } = newFs (j + 1) := by
  funext i
  by_cases c : i = j
  · subst c
    rw [upd_at]
    simp [newFs]
  · rw [upd_ne _ _ c]
    simp only [newFs]
    by_cases c2 : i < j
    · rw [if_pos c2, if_pos (by omega)]
    · rw [if_neg c2, if_neg (by omega)]
theorem FQ.step {w W W' : World} {q fb N : Nat} {c : Cfg} {fs : Nat → Fl} {rv : Nat → Value} {v1 v2 : Value} {l1 l2 : List Nat} {n now : Int} (h : FQ w W q fb N c fs rv v1 v2 l1 l2 n now) (hb : Below W.heap.size W W') : FQ w W' q fb N c fs rv v1 v2 l1 l2 n now := FR.step h hb
theorem infoFl : (Try.prog.info? 73).map (fun i => (i.zero, i.size, i.bytes)) = some (some (.agg #[.int .i64 0, .slice none 0 0, .int .i64 0, .bool false, .int .i64 0, .bool false, .int .i64 0, .int .i64 0, .int .i64 0, .int .i64 0, .int .i64 0]), 11, 104) := by kernel_rfl
set_option maxHeartbeats 8000000 in
set_option maxRecDepth 100000 in
theorem New_in (W : World) (N : Nat) (c : Cfg) (hf : c.flows = (N : Int)) (hN : 1 ≤ N) (hM : N ≤ 1024) (k : Nat) (hc : fqcodel_Check.f k (N : Int) c.limit c.quantum c.tg c.iv c.mtu = some 0) :
    Calls Try.prog 9 #[.agg #[.int .i64 (N : Int), .int .i64 c.limit, .int .i64 c.quantum, .int .i64 c.tg, .int .i64 c.iv, .int .i64 c.mtu]] W fun e W' => ∃ q fb : Nat, e = .returned (.tuple #[.pointer (some ⟨q, 0, none⟩), .int .i64 0]) ∧ FQ W W' q fb N c (newFs N) (fun _ => .slice none 0 0) (.slice none 0 0) (.slice none 0 0) [] [] 0 0 := by
  have hu := Try.underlying66
  have hu73 := Try.underlying73
  have hu34 := Try.underlying34
  have HC := Aside0.mk hc
  have HF := Aside0.mk hf
  have HM := Aside0.mk hM
  have HN := Aside0.mk hN
  have hmk : ∀ V : World, (Instr.makeSlice 62 (.int .i64 (N : Int)) (.int .i64 (N : Int))).run Try.prog V = .ok (.slice (some ⟨V.heap.size, 0, none⟩) N N) (V.alloc (.cells (madeCells (zFl.cells (.slice none 0 0)) (N * 11)) 73)) := fun V => by
    obtain ⟨i0, hi, hz⟩ := Option.map_eq_some_iff.1 infoFl
    simp only [Prod.mk.injEq] at hz
    obtain ⟨h1, h2, h3⟩ := hz
    have := run_make (P := Try.prog) V 62 73 i0 _ Try.underlying62 hi h1 .i64 .i64 (N : Int) (N : Int) (by omega) (by omega) (by rw [h3]; omega) (by omega)
    rw [h2] at this
    have e : (Value.agg #[.int .i64 0, .slice none 0 0, .int .i64 0, .bool false, .int .i64 0, .bool false, .int .i64 0, .int .i64 0, .int .i64 0, .int .i64 0, .int .i64 0]).cells = zFl.cells (.slice none 0 0) := rfl
    rw [e] at this
    simpa using this
  clear hc hf hM hN
  go_enter Try.func9, Try.ntmps9
  go_upto_region 4 with (first
    | ((with_reducible refine gate_dst (N := 1) rfl ?_); refine box_event ?hg (N := 1) ?hd (cs := #[.int .i64 (N : Int), .int .i64 c.limit, .int .i64 c.quantum, .int .i64 c.tg, .int .i64 c.iv, .int .i64 c.mtu]) (t := 34) ?hr ?_; (case hd => rfl); (case hg => rfl); (case hr => first | (go_simp; done) | (go_simp; rfl)); intro g1 e_ w1 k_ b_; have B1 := Aside0.mk b_; have K1 := Aside0.mk k_; clear e_ b_ k_; have y0 : w1.cell? ⟨g1, 0, none⟩ = some (.int .i64 (N : Int)) := (blk_cell K1.out 0).trans rfl; have y1 : w1.cell? ⟨g1, 1, none⟩ = some (.int .i64 c.limit) := (blk_cell K1.out 1).trans rfl; have y2 : w1.cell? ⟨g1, 2, none⟩ = some (.int .i64 c.quantum) := (blk_cell K1.out 2).trans rfl; have y3 : w1.cell? ⟨g1, 3, none⟩ = some (.int .i64 c.tg) := (blk_cell K1.out 3).trans rfl; have y4 : w1.cell? ⟨g1, 4, none⟩ = some (.int .i64 c.iv) := (blk_cell K1.out 4).trans rfl; have y5 : w1.cell? ⟨g1, 5, none⟩ = some (.int .i64 c.mtu) := (blk_cell K1.out 5).trans rfl)
    | (go_at_call 19; (with_reducible refine (fqcodel_Check.calls k _ _ _ _ _ _ _ _ HC.out).mono ?_); rintro e w2 ⟨rfl, hb⟩; have B2 := Aside0.mk (below_step B1.out hb); have K2 := Aside0.mk (blk_below K1.out hb); clear hb y0 y1 y2 y3 y4 y5; have y0 : w2.cell? ⟨g1, 0, none⟩ = some (.int .i64 (N : Int)) := (blk_cell K2.out 0).trans rfl; have y1 : w2.cell? ⟨g1, 1, none⟩ = some (.int .i64 c.limit) := (blk_cell K2.out 1).trans rfl; have y2 : w2.cell? ⟨g1, 2, none⟩ = some (.int .i64 c.quantum) := (blk_cell K2.out 2).trans rfl; have y3 : w2.cell? ⟨g1, 3, none⟩ = some (.int .i64 c.tg) := (blk_cell K2.out 3).trans rfl; have y4 : w2.cell? ⟨g1, 4, none⟩ = some (.int .i64 c.iv) := (blk_cell K2.out 4).trans rfl; have y5 : w2.cell? ⟨g1, 5, none⟩ = some (.int .i64 c.mtu) := (blk_cell K2.out 5).trans rfl))
  have a0 : (w2.alloc (.cells (madeCells (zFl.cells (.slice none 0 0)) (N * 11)) 73)).cell? ⟨g1, 0, none⟩ = some (.int .i64 (N : Int)) := (blk_cell (blk_alloc K2.out _) 0).trans rfl
  have a1 : (w2.alloc (.cells (madeCells (zFl.cells (.slice none 0 0)) (N * 11)) 73)).cell? ⟨g1, 1, none⟩ = some (.int .i64 c.limit) := (blk_cell (blk_alloc K2.out _) 1).trans rfl
  have a2 : (w2.alloc (.cells (madeCells (zFl.cells (.slice none 0 0)) (N * 11)) 73)).cell? ⟨g1, 2, none⟩ = some (.int .i64 c.quantum) := (blk_cell (blk_alloc K2.out _) 2).trans rfl
  have a3 : (w2.alloc (.cells (madeCells (zFl.cells (.slice none 0 0)) (N * 11)) 73)).cell? ⟨g1, 3, none⟩ = some (.int .i64 c.tg) := (blk_cell (blk_alloc K2.out _) 3).trans rfl
  have a4 : (w2.alloc (.cells (madeCells (zFl.cells (.slice none 0 0)) (N * 11)) 73)).cell? ⟨g1, 4, none⟩ = some (.int .i64 c.iv) := (blk_cell (blk_alloc K2.out _) 4).trans rfl
  have a5 : (w2.alloc (.cells (madeCells (zFl.cells (.slice none 0 0)) (N * 11)) 73)).cell? ⟨g1, 5, none⟩ = some (.int .i64 c.mtu) := (blk_cell (blk_alloc K2.out _) 5).trans rfl
  go_region
  clear y0 y1 y2 y3 y4 y5 a0 a1 a2 a3 a4 a5 hmk
  have b1 : Below W.heap.size W (w2.alloc (.cells (madeCells (zFl.cells (.slice none 0 0)) (N * 11)) 73)) := below_alloc B2.out _
  have wle : W.heap.size ≤ w2.heap.size := below_size B2.out
  have n1 : FQ W (((w2.alloc (.cells (madeCells (zFl.cells (.slice none 0 0)) (N * 11)) 73)).alloc (.cells #[.int .i64 (N : Int), .int .i64 c.limit, .int .i64 c.quantum, .int .i64 c.tg, .int .i64 c.iv, .int .i64 c.mtu, .slice (some ⟨w2.heap.size, 0, none⟩) N N, .slice none 0 0, .slice none 0 0, .slice none 0 0, .int .i64 0, .int .i64 0] 66)).drew) (w2.heap.size + 1) w2.heap.size N c (newFs 0) (fun _ => .slice none 0 0) (.slice none 0 0) (.slice none 0 0) [] [] 0 0 := by
    have hs1 : (w2.alloc (.cells (madeCells (zFl.cells (.slice none 0 0)) (N * 11)) 73)).heap.size = w2.heap.size + 1 := by simp
    refine ⟨below_drew1 (below_alloc b1 _), by omega, wle, ?_, ⟨⟨_, blk_drew (blk_alloc (heap_alloc_new w2 (.cells (madeCells (zFl.cells (.slice none 0 0)) (N * 11)) 73)) _), fun i j hi hj => ?_⟩, fun i hi => rfl⟩, fun i hi => Kd.Q_nil _ _ _ _ _, fun i j k _ _ _ h => by simp [Value.ownBlock] at h, Kd.Q_nil _ _ _ _ _, Kd.Q_nil _ _ _ _ _, fun k h => by simp [Value.ownBlock] at h⟩
    · have h1 := heap_alloc_new (w2.alloc (.cells (madeCells (zFl.cells (.slice none 0 0)) (N * 11)) 73)) (.cells #[.int .i64 (N : Int), .int .i64 c.limit, .int .i64 c.quantum, .int .i64 c.tg, .int .i64 c.iv, .int .i64 c.mtu, .slice (some ⟨w2.heap.size, 0, none⟩) N N, .slice none 0 0, .slice none 0 0, .slice none 0 0, .int .i64 0, .int .i64 0] 66)
      rw [hs1] at h1
      unfold qCells
      rw [HF.out]
      exact blk_drew h1
    · rw [made_at _ rfl N i j hi hj]
      simp only [newFs, zFl, Nat.not_lt_zero, if_false]
  obtain ⟨q, hq⟩ : ∃ q, w2.heap.size + 1 = q := ⟨_, rfl⟩
  obtain ⟨fb, hfb⟩ : ∃ fb, w2.heap.size = fb := ⟨_, rfl⟩
  rw [hq, hfb] at n1 ⊢
  generalize (((w2.alloc (.cells (madeCells (zFl.cells (.slice none 0 0)) (N * 11)) 73)).alloc (.cells #[.int .i64 (N : Int), .int .i64 c.limit, .int .i64 c.quantum, .int .i64 c.tg, .int .i64 c.iv, .int .i64 c.mtu, .slice (some ⟨fb, 0, none⟩) N N, .slice none 0 0, .slice none 0 0, .slice none 0 0, .int .i64 0, .int .i64 0] 66)).drew) = W3 at n1 ⊢
  have H3 := Aside0.mk n1
  have z6 : W3.cell? ⟨q, 6, none⟩ = some (.slice (some ⟨fb, 0, none⟩) N N) := (FQ.zq H3.out 6).1.trans rfl
  clear n1 b1 wle hq hfb
  go_wp2
  go_loopw [23] (fun v23 wr => ∃ j : Nat, j ≤ N ∧ v23 = .int .i64 (j : Int) ∧ Aside0 (FQ W wr q fb N c (newFs j) (fun _ => .slice none 0 0) (.slice none 0 0) (.slice none 0 0) [] [] 0 0)) (fun v23 _ => N - (intOf v23).toNat)
  case atStart => exact ⟨0, Nat.zero_le _, rfl, H3⟩
  case round =>
    obtain ⟨j, hj, rfl, H4⟩ := hrel
    clear z6
    have z6 : wr.cell? ⟨q, 6, none⟩ = some (.slice (some ⟨fb, 0, none⟩) N N) := (FQ.zq H4.out 6).1.trans rfl
    by_cases hlt : j < N
    · have i0 : (0 : Int) ≤ (j : Int) := by omega
      have i1 : (j : Int) < (N : Int) := by omega
      have z0 : wr.cell? ⟨fb, j * 11, none⟩ = some (.int .i64 0) := (FQ.zf H4.out hlt 0 (by omega)).1.trans (by simp [newFs, Fl.cells])
      have f0 : wr.frozen? ⟨fb, j * 11, none⟩ = false := (FQ.zf H4.out hlt 0 (by omega)).2
      have hw : IntKind.i64.wrap ((j : Int) + 1) = (j : Int) + 1 := by
        have := HM.out
        rw [i64_w]
        unfold wrap64
        omega
      go_wp2
      go_roundw
      case rel =>
        have h2 := FR.putF H4.out hlt 0 (by omega) (.int .i64 (j : Int))
        refine ⟨j + 1, by omega, by go_num, ⟨?_⟩⟩
        unfold FQ
        rw [← newFs_next, ← cells_upd' (newFs j) (fun _ => .slice none 0 0) j, ← ps_same (newFs j) j { newFs j j with id := (j : Int) } rfl]
        exact h2
      case measure => simp [intOf]; omega
    · have e : j = N := by omega
      subst e
      have i1 : ¬ (j : Int) < (j : Int) := by omega
      go_wp2
      go_ret2
      exact ⟨q, rfl, fb, H4.out⟩
set_option maxHeartbeats 8000000 in
set_option maxRecDepth 100000 in
theorem clone_in (A0 : Option Addr) (c0 : Nat) (l0 : List PK) (w : World) (hr0 : Kd.C kP w A0 l0.length l0) (hc0 : l0.length ≤ c0) (c2 : l0.length ≤ 70000) :
    Calls Try.prog 27 #[.slice A0 l0.length c0] w fun e w' => ∃ v, e = .returned v ∧ Kd.R kP 41 w' w.heap.size (fun _ => True) v l0 ∧ Below w.heap.size w w' := by
  have HR0 := Aside0.mk hr0
  have HC0 := Aside0.mk hc0
  have HB := Aside0.mk (Below.refl w.heap.size w)
  have LMc2 := Aside0.mk c2
  clear c2 hc0
  have q22 : ∀ (w : World) (a : Option Addr) (n c n' c' : Nat), (binOp .eql 39 (.slice a n c) (.slice none n' c')).run Try.prog w = .ok (.bool a.isNone) w := fun w a n c n' c' => Lib.run_eql_slice_nil w _ _ a n c n' c' Try.underlying39
  cases A0 with
  | none =>
    have e0 : l0 = [] := by
      have h2 := hr0
      unfold Kd.C ReadsRow at h2
      rcases Nat.eq_zero_or_pos l0.length with h0 | h0
      · exact List.eq_nil_of_length_eq_zero h0
      · obtain ⟨ad, e, _⟩ := h2.2.2 h0
        cases e
    subst e0
    clear hr0
    go_enter Try.func27, Try.ntmps27
    go_wp2
    go_ret
    exact ⟨_, rfl, Kd.R_nil _ _ _ _ _, HB.out⟩
  | some ad =>
    clear hr0
    go_enter Try.func27, Try.ntmps27
    go_wp2_with (first | ((with_reducible refine gate_dst (N := 5) rfl ?_); refine Kd.R_lit k41 _ 41 ?hg (N := 5) ?hd (xs := ([] : List S41)) (inner := []) (ok := fun _ => True) (okp := fun _ => True) ?hr ?hp (fun _ hk => hk) trivial (Below.refl _ _) (Nat.le_refl _) (by simp) ?_; (case hd => rfl); (case hg => rfl); (case hr => first | (go_simp; done) | (go_simp; rfl)); (case hp => exact (Reps.none _ _)); intro v117 w2 ho3 hb hg_ hnew_; clear hg_ hnew_; have n0_ := Aside0.mk (Kd.R_lower ho3 (below_size (by repeat (first | (with_reducible first | exact HB.out | apply below_alloc | apply pw_below_drewN | apply below_drew1) | exact HB.out)))); have n1_ := Aside0.mk (Kd.C_below HR0.out (by exact hb)); have n2_ := Aside0.mk (below_step (by repeat (first | (with_reducible first | exact HB.out | apply below_alloc | apply pw_below_drewN | apply below_drew1) | exact HB.out)) hb); clear HB HR0; have HO118 := n0_; have HR0 := n1_; have HB := n2_; clear n0_ n1_ n2_; clear hb ho3) | ((with_reducible refine gate_builtin (b := .append) (xs := #[.tmp 5, .tmp 6]) rfl ?_); at_builtin; refine Kd.R_append_rows k41 (w0 := w) w.heap.size rfl (.tmp 5) (.tmp 6) 39 41 (.agg #[(.int .i64 0), (.int .i64 0), (.bool false), (.int .i64 0)]) 32 rfl Try.underlying39 info41 rfl (by decide) (by omega) v117 ([] : List S41) l0 _ _ _ (fun _ => True) (fun _ => False) rfl rfl ?aO ?aR (fun _ _ h => h) (fun _ h => h.elim) ?aF ?aB ?aS ?aL ?_; (case aR => exact HR0.out); (case aB => exact HB.out); (case aF => exact (fun _ _ => trivial)); (case aO => exact HO118.out); (case aS => exact (below_size HB.out)); (case aL => have := LMc2.out; simp only [List.length_nil]; omega); intro v142 w3 ho hb hg hat; have n0_ := Aside0.mk (hb); have n1_ := Aside0.mk (ho); clear HB; have HB := n0_; have HO143 := n1_; clear n0_ n1_; clear ho hb hg hat))
    go_ret
    exact ⟨_, rfl, HO143.out, HB.out⟩
set_option maxHeartbeats 8000000 in
set_option maxRecDepth 100000 in
theorem Flow_in {w W : World} {q fb N : Nat} {c : Cfg} {fs : Nat → Fl} {rv : Nat → Value} {v1 v2 : Value} {l1 l2 : List Nat} {n now : Int} {i : Nat} (h : FQ w W q fb N c fs rv v1 v2 l1 l2 n now) (hi : i < N) (hl : (fs i).ps.length ≤ 70000) :
    Calls Try.prog 17 #[.pointer (some ⟨q, 0, none⟩), .int .i64 (i : Int)] W fun e W' => ∃ v, e = .returned (.tuple #[v, .int .i64 (fs i).deficit, .int .i64 (fs i).on]) ∧ Kd.R kP 41 W' W.heap.size (fun _ => True) v (fs i).ps ∧ Below W.heap.size W W' := by
  have hu := Try.underlying66
  have hu73 := Try.underlying73
  have HH := Aside0.mk h
  have HI := Aside0.mk hi
  have HL := Aside0.mk hl
  have i0 : (0 : Int) ≤ (i : Int) := by omega
  have i1 : (i : Int) < (N : Int) := by omega
  have b0 : ((i : Int) < 0) = False := eq_false (by omega)
  have b1 : ((N : Int) ≤ (i : Int)) = False := eq_false (by omega)
  have HNO := Aside0.mk (none_in ((FQ.zq h 6).1.trans rfl))
  have z6 : W.cell? ⟨q, 6, none⟩ = some (.slice (some ⟨fb, 0, none⟩) N N) := (FQ.zq h 6).1.trans rfl
  have hrow : kP.Q 41 W w.heap.size (fun _ => True) (rv i) (fs i).ps := FR.R h i hi
  obtain ⟨A0, c0, ev, hc0⟩ := Kd.Q_slice hrow
  have EV := Aside0.mk ev
  have HC0 := Aside0.mk hc0
  have HRD := Aside0.mk (show Kd.C kP W A0 (fs i).ps.length (fs i).ps by rw [ev] at hrow; exact (Kd.Q_reads' hrow).2.2)
  have z1 : W.cell? ⟨fb, i * 11 + 1, none⟩ = some (.slice A0 (fs i).ps.length c0) := (FQ.zf h hi 1 (by omega)).1.trans (by rw [← EV.out]; rfl)
  have z9 : W.cell? ⟨fb, i * 11 + 9, none⟩ = some (.int .i64 (fs i).deficit) := (FQ.zf h hi 9 (by omega)).1.trans rfl
  have z10 : W.cell? ⟨fb, i * 11 + 10, none⟩ = some (.int .i64 (fs i).on) := (FQ.zf h hi 10 (by omega)).1.trans rfl
  clear h hi hl ev hc0 hrow
  go_enter Try.func17, Try.ntmps17
  go_upto_region 4 with (go_at_call 20; (with_reducible refine Calls.mono HNO.out ?_); rintro e w2 ⟨rfl, rfl⟩)
  have HCL := fun (V : World) (hb : Below W.heap.size W V) => clone_in A0 c0 (fs i).ps V (Kd.C_below HRD.out hb) HC0.out HL.out
  go_region_law (refine goes_ Try.func27 (by kernel_rfl) rfl #[.slice A0 (fs i).ps.length c0] (by rfl) rfl rfl (by (try simp only [List.map_toArray, List.map_cons, List.map_nil]); first | done | rfl) ?_; with_reducible refine (HCL _ (below_drew (Below.refl _ _))).mono ?_; rintro e w5 ⟨v0, rfl, hr5, b5⟩; refine ⟨_, rfl, ?_⟩; have hb5 : Below W.heap.size W w5 := below_step (below_drew (Below.refl _ _)) b5; have HR5 := Aside0.mk hr5; have HB5 := Aside0.mk hb5; have h5 : FQ w w5 q fb N c fs rv v1 v2 l1 l2 n now := FQ.step HH.out hb5; have y9 : w5.cell? ⟨fb, i * 11 + 9, none⟩ = some (.int .i64 (fs i).deficit) := (h5.zf HI.out 9 (by omega)).1.trans rfl; have y10 : w5.cell? ⟨fb, i * 11 + 10, none⟩ = some (.int .i64 (fs i).on) := (h5.zf HI.out 10 (by omega)).1.trans rfl; clear h5; clear hr5 b5 hb5)
  all_goals
    go_wp2
    go_ret3
    exact ⟨_, rfl, Kd.R_lower HR5.out (Nat.le_refl _), HB5.out⟩
end Go.Proofs.Ytepolgapbbaklaa.Q
