/- fqcodel: the walk of the law FqcodelNew. No condition. -/
import Derived.Test.YtepolgapbbaklaaFqL
namespace Go.Proofs.Ytepolgapbbaklaa.Q
set_option linter.unusedVariables false
set_option linter.unusedSimpArgs false
open Go.RowKit Go.Proofs.YtepolgapbbaklaaW.PrintWords Go.Proofs.YtepolgapbbaklaaW.PrintLast Go.Proofs.YtepolgapbbaklaaW.PrintMore
def nE (qm : Int) : Nat → ST
  | 0 => ⟨newFs 2, [], [], 0⟩
  | j + 1 => (nE qm j).enq (calmC 2 100 qm) 0 (pkJ 1500 j)
theorem pkJ_POk (j : Nat) : POk (pkJ 1500 j) 0 := ⟨by simp [pkJ], by simp [pkJ], by simp [pkJ], by simp [pkJ]⟩
theorem nE_ok (qm : Int) (h0 : 1 ≤ qm) (h1 : qm ≤ 1500) : ∀ j : Nat, j ≤ 21 → CQ (calmC 2 100 qm) 2 1500 (nE qm j) ∧ (nE qm j).n = (j : Int) ∧ (nE qm j).l2 = [] ∧ ((nE qm j).fs 0).ps = (List.range j).map (pkJ 1500) ∧ (nE qm j).fs 1 = newFs 2 1 ∧ (j ≠ 0 → (nE qm j).l1 = [0] ∧ ((nE qm j).fs 0).deficit = qm ∧ ((nE qm j).fs 0).on = 1) ∧ (j = 0 → ((nE qm j).fs 0).on = 0 ∧ (nE qm j).l1 = [])
  | 0, _ => ⟨CQ.new (CC.of h0 (by omega) (by omega) (by omega)), rfl, rfl, rfl, rfl, fun h => absurd rfl h, fun _ => ⟨rfl, rfl⟩⟩
  | j + 1, hj => by
    obtain ⟨a, b, d, e, f, g, g2⟩ := nE_ok qm h0 h1 j (by omega)
    have hc := CC.of (flows := 2) (limit := 100) (M := 1500) h0 (by omega) (by omega) (by omega)
    refine ⟨a.enq hc (by omega) rfl (by simp [pkJ]) (by simp [pkJ]) (by rw [b]; omega), ?_, d, ?_, ?_, fun _ => ?_, fun h => by omega⟩
    · show (nE qm j).n + 1 = _
      rw [b]
      omega
    · simp only [nE, ST.enq, enqFs]
      rw [upd_at]
      unfold Fl.wake Fl.add
      rw [List.range_succ, List.map_append, ← e]
      split <;> rfl
    · simp only [nE, ST.enq, enqFs]
      rw [upd_ne _ _ (by omega)]
      exact f
    · simp only [nE, ST.enq, enqFs, wakeL]
      rw [upd_at]
      unfold Fl.wake Fl.add
      by_cases c : j = 0
      · obtain ⟨x, y⟩ := g2 c
        rw [if_pos x, if_pos x, y]
        exact ⟨rfl, rfl, rfl⟩
      · obtain ⟨x, y, z⟩ := g c
        have z2 : ¬ ((nE qm j).fs 0).on = 0 := by omega
        rw [if_neg z2, if_neg z2]
        exact ⟨x, y, z⟩
/-- Behind the first Dequeue. -/
def nS1 (qm : Int) (j : Nat) : DRes := (upd (nE qm j).fs 0 (((nE qm j).fs 0).out (pkJ 1500 0) (((nE qm j).fs 0).ps.drop 1)), [0], [], (j : Int) - 1, some (0, pkJ 1500 0))
theorem range_two {j : Nat} (hj : 2 ≤ j) : ∃ r, (List.range j).map (pkJ 1500) = pkJ 1500 0 :: pkJ 1500 1 :: r := by
  obtain ⟨k, rfl⟩ : ∃ k, j = k + 2 := ⟨j - 2, by omega⟩
  exact ⟨((List.range k).map (fun i => pkJ 1500 (i + 2))), by
    rw [List.range_succ_eq_map, List.range_succ_eq_map]
    simp [Function.comp_def]⟩
theorem nS1_go (qm : Int) (h0 : 1 ≤ qm) (h1 : qm ≤ 1500) {j : Nat} (hj : 2 ≤ j) (hj2 : j ≤ 21) : deqGo (calmC 2 100 qm) 1 (nE qm j).fs (nE qm j).l1 (nE qm j).l2 (nE qm j).n = some (nS1 qm j) ∧ CQ (calmC 2 100 qm) 2 1500 (ST.of (nS1 qm j)) ∧ ((nS1 qm j).1 0).deficit ≤ 0 ∧ (∃ r, ((nS1 qm j).1 0).ps = pkJ 1500 1 :: r) ∧ (nS1 qm j).1 1 = newFs 2 1 := by
  obtain ⟨a, b, d, e, f, g, _⟩ := nE_ok qm h0 h1 j hj2
  obtain ⟨g1, g2, g3⟩ := g (by omega)
  obtain ⟨r, hr⟩ := range_two hj
  have hc := CC.of (flows := 2) (limit := 100) (M := 1500) h0 (by omega) (by omega) (by omega)
  rw [hr] at e
  have hh : Head (nE qm j).fs (nE qm j).l1 (nE qm j).l2 0 [] [] := .inl ⟨g1, d, g3⟩
  have hd : 0 < ((nE qm j).fs 0).deficit := by rw [g2]; omega
  have hS : nS1 qm j = (upd (nE qm j).fs 0 (((nE qm j).fs 0).out (pkJ 1500 0) (pkJ 1500 1 :: r)), (nE qm j).l1, (nE qm j).l2, (nE qm j).n - 1, some (0, pkJ 1500 0)) := by
    unfold nS1
    rw [g1, d, b, e]
    rfl
  rw [hS]
  refine ⟨?_, a.out hc hh hd e, ?_, ⟨r, by dsimp only; rw [upd_at]; rfl⟩, by dsimp only; rw [upd_ne _ _ (by omega)]; exact f⟩
  · rw [hh.step, if_neg (by omega), e]
  · dsimp only
    rw [upd_at, ((a.f 0 (by omega)).out hc hd e (a.plen (by omega))).2, g2]
    simp [pkJ]
    omega
theorem nS2_go (qm : Int) (h0 : 1 ≤ qm) (h1 : qm ≤ 1500) {j : Nat} (hj : 2 ≤ j) (hj2 : j ≤ 21) : ∃ k R, deqGo (calmC 2 100 qm) k (nS1 qm j).1 (nS1 qm j).2.1 (nS1 qm j).2.2.1 (nS1 qm j).2.2.2.1 = some R ∧ CQ (calmC 2 100 qm) 2 1500 (ST.of R) ∧ R.2.2.2.2 = some (0, pkJ 1500 1) ∧ R.2.1 = [] ∧ R.2.2.1 = [0] ∧ R.1 1 = newFs 2 1 ∧ (R.1 0).on = 2 ∧ (R.1 0).id = 0 ∧ R.2.2.2.1 ≤ 20 := by
  obtain ⟨_, a, b, ⟨r, hr⟩, d⟩ := nS1_go qm h0 h1 hj hj2
  have hc := CC.of (flows := 2) (limit := 100) (M := 1500) h0 (by omega) (by omega) (by omega)
  obtain ⟨R, hR⟩ := deq_total hc _ _ a (Nat.lt_succ_self _)
  refine ⟨_, R, hR, ?_⟩
  have key := deq_ind hc (fun s => (s.fs 0).ps = pkJ 1500 1 :: r ∧ s.fs 1 = newFs 2 1 ∧ s.n = (j : Int) - 1 ∧ ((s.l1 = [0] ∧ s.l2 = [] ∧ (s.fs 0).deficit ≤ 0) ∨ (s.l1 = [] ∧ s.l2 = [0]))) ?_ ?_ ?_ _ (ST.of (nS1 qm j)) R a ⟨hr, d, rfl, .inl ⟨rfl, rfl, b⟩⟩ hR
  · obtain ⟨s', hs, ⟨p1, p2, p3, p4⟩, ho⟩ := key
    have hcq := hs.dout hc ho
    cases ho with
    | none e1 e2 =>
      rcases p4 with ⟨x, _⟩ | ⟨_, x⟩
      · rw [e1] at x; cases x
      · rw [e2] at x; cases x
    | some i r1 r2 x p hh hd hp =>
      have l12 : s'.l1 = [] ∧ s'.l2 = [0] ∧ i = 0 := by
        rcases p4 with ⟨x1, x2, x3⟩ | ⟨x1, x2⟩
        · rcases hh with ⟨e, _, _⟩ | ⟨e, _, _, _⟩
          · rw [x1] at e
            injection e with e _
            subst e
            omega
          · rw [x1] at e
            cases e
        · rcases hh with ⟨e, _, _⟩ | ⟨_, _, e, _⟩
          · rw [x1] at e
            cases e
          · rw [x2] at e
            injection e with e _
            exact ⟨x1, x2, e.symm⟩
      obtain ⟨l1, l2, rfl⟩ := l12
      rw [p1] at hp
      injection hp with hx hp
      subst hx
      refine ⟨hcq, rfl, l1, l2, ?_, ?_, ?_, ?_⟩
      · dsimp only
        rw [upd_ne _ _ (by omega)]
        exact p2
      · exact (hcq.a2 0 (by show 0 ∈ s'.l2; rw [l2]; simp)).2
      · exact (hcq.f 0 (by omega)).id
      · dsimp only
        rw [p3]
        omega
  · rintro s i r1 r2 hs hh hd ⟨p1, p2, p3, p4⟩
    have i0 : i = 0 ∧ r1 = [] ∧ r2 = [] := by
      rcases p4 with ⟨x1, x2, x3⟩ | ⟨x1, x2⟩
      · rcases hh with ⟨e, e2, _⟩ | ⟨e, _, _, _⟩
        · rw [x1] at e
          injection e with e e3
          exact ⟨e.symm, e3.symm, by rw [← e2, x2]⟩
        · rw [x1] at e
          cases e
      · rcases hh with ⟨e, _, _⟩ | ⟨_, e1, e, _⟩
        · rw [x1] at e
          cases e
        · rw [x2] at e
          injection e with e e3
          exact ⟨e.symm, e1, e3.symm⟩
    obtain ⟨rfl, rfl, rfl⟩ := i0
    refine ⟨?_, ?_, p3, .inr ⟨rfl, rfl⟩⟩
    · dsimp only
      rw [upd_at]
      exact p1
    · dsimp only
      rw [upd_ne _ _ (by omega)]
      exact p2
  · rintro s i r1 r2 hs hh hd hp ho ⟨p1, p2, p3, p4⟩
    have i0 : i = 0 := by
      rcases p4 with ⟨x1, x2, x3⟩ | ⟨x1, x2⟩
      · rcases hh with ⟨e, e2, _⟩ | ⟨e, _, _, _⟩
        · rw [x1] at e
          injection e with e e3
          exact e.symm
        · rw [x1] at e
          cases e
      · rcases hh with ⟨e, _, _⟩ | ⟨_, e1, e, _⟩
        · rw [x1] at e
          cases e
        · rw [x2] at e
          injection e with e e3
          exact e.symm
    subst i0
    rw [p1] at hp
    cases hp
  · rintro s i r1 r2 hs hh hd hp ho ⟨p1, p2, p3, p4⟩
    have i0 : i = 0 := by
      rcases p4 with ⟨x1, x2, x3⟩ | ⟨x1, x2⟩
      · rcases hh with ⟨e, e2, _⟩ | ⟨e, _, _, _⟩
        · rw [x1] at e
          injection e with e e3
          exact e.symm
        · rw [x1] at e
          cases e
      · rcases hh with ⟨e, _, _⟩ | ⟨_, e1, e, _⟩
        · rw [x1] at e
          cases e
        · rw [x2] at e
          injection e with e e3
          exact e.symm
    subst i0
    rw [p1] at hp
    cases hp
/-- Behind the flow that had nothing. -/
theorem nS3_go (qm : Int) (h0 : 1 ≤ qm) (h1 : qm ≤ 1500) {s : ST} (h : CQ (calmC 2 100 qm) 2 1500 s) (hl1 : s.l1 = []) (hf : s.fs 1 = newFs 2 1) (hn : s.n ≤ 20) {p : PK} (p0 : p.f0 = 0) (p1 : 1 ≤ p.f1) (p2 : p.f1 ≤ 1500) : ∃ R, deqGo (calmC 2 100 qm) 1 (s.enq (calmC 2 100 qm) 1 p).fs (s.enq (calmC 2 100 qm) 1 p).l1 (s.enq (calmC 2 100 qm) 1 p).l2 (s.enq (calmC 2 100 qm) 1 p).n = some R ∧ CQ (calmC 2 100 qm) 2 1500 (s.enq (calmC 2 100 qm) 1 p) ∧ R.2.2.2.2 = some (1, p) ∧ (R.1 1).id = 1 := by
  have hc := CC.of (flows := 2) (limit := 100) (M := 1500) h0 (by omega) (by omega) (by omega)
  have h3 := h.enq hc (i := 1) (by omega) p0 p1 p2 (by omega)
  have e0 : (s.fs 1).on = 0 := by rw [hf]; rfl
  have el : (s.enq (calmC 2 100 qm) 1 p).l1 = [1] := by
    simp only [ST.enq, wakeL]
    rw [if_pos e0, hl1]
    rfl
  have ef : (s.enq (calmC 2 100 qm) 1 p).fs 1 = (((s.fs 1).add p).wake (calmC 2 100 qm)) := by
    simp only [ST.enq, enqFs]
    rw [upd_at]
  have ew : (((s.fs 1).add p).wake (calmC 2 100 qm)).deficit = qm ∧ (((s.fs 1).add p).wake (calmC 2 100 qm)).on = 1 ∧ (((s.fs 1).add p).wake (calmC 2 100 qm)).ps = [p] := by
    rw [hf]
    exact ⟨rfl, rfl, rfl⟩
  have hh : Head (s.enq (calmC 2 100 qm) 1 p).fs (s.enq (calmC 2 100 qm) 1 p).l1 (s.enq (calmC 2 100 qm) 1 p).l2 1 [] s.l2 := .inl ⟨el, rfl, by rw [ef]; exact ew.2.1⟩
  refine ⟨(upd (s.enq (calmC 2 100 qm) 1 p).fs 1 (((s.enq (calmC 2 100 qm) 1 p).fs 1).out p []), (s.enq (calmC 2 100 qm) 1 p).l1, (s.enq (calmC 2 100 qm) 1 p).l2, (s.enq (calmC 2 100 qm) 1 p).n - 1, some (1, p)), ?_, h3, rfl, ?_⟩
  · rw [hh.step, ef, ew.1, if_neg (by omega), ew.2.2]
  · have := (h3.f 1 (by omega)).id
    dsimp only
    rw [upd_at]
    exact this
set_option maxHeartbeats 8000000 in
set_option maxRecDepth 100000 in
theorem new_in (n size quantum : Int) (W : World) : Calls Try.prog 7 #[.int .i64 n, .int .i64 size, .int .i64 quantum] W fun e W' => e = .returned (.bool true) ∧ Below W.heap.size W W' := by
  have hu47 := Try.underlying47
  have hu41 := Try.underlying41
  go_enter Try.func7, Try.ntmps7
  go_upto_region 4 with (go_at_call 8; (with_reducible refine Calls.mono (alive_in W) ?_); rintro e w1 ⟨rfl, b1⟩; have HB1 := Aside0.mk b1; clear b1)
  have hn := nrm_is 2 20 n (by omega) (by omega) (by omega) (by omega)
  have hs := nrm_is 1 1500 size (by omega) (by omega) (by omega) (by omega)
  have hq := nrm_is 1 1500 quantum (by omega) (by omega) (by omega) (by omega)
  unfold nrm at hn hs hq
  generalize wrap64 (2 + (wrap64 (n.tmod 20 + 20)).tmod 20) = vn at hn ⊢
  generalize wrap64 (1 + (wrap64 (size.tmod 1500 + 1500)).tmod 1500) = vs at hs ⊢
  generalize wrap64 (1 + (wrap64 (quantum.tmod 1500 + 1500)).tmod 1500) = vq at hq ⊢
  obtain ⟨jn, rfl⟩ : ∃ jn : Nat, vn = (jn : Int) := ⟨vn.toNat, by omega⟩
  have HN := Aside0.mk hn
  have HS := Aside0.mk hs
  have HQ := Aside0.mk hq
  clear hn hs hq
  go_wp2_with (first
    | (go_at_call 16; (with_reducible refine Calls.mono (stopcocklaw13_calm.calls 2 100 vq 2 100 vq 1073741824 1073741824 1500 w1 rfl) ?_); rintro e w2 ⟨rfl, hdr⟩; have B2 := Aside0.mk (below_step HB1.out hdr); clear hdr)
    | (go_at_call 9; (with_reducible refine Calls.mono (New_live _ 2 100 vq (by omega) (by omega) (by omega) (by omega) (by have := HQ.out; omega) (by have := HQ.out; omega)) ?_); rintro e w3 ⟨q, rfl, h2⟩; have HT := Aside0.mk h2.lx; clear h2)
    | (go_at_call 11; (with_reducible refine Calls.mono (num_in _ _) ?_); rintro e w6 ⟨rfl, hdr⟩; have HT6 := Aside0.mk (HT.out.step hdr.below); clear hdr HT; have HT := HT6; clear HT6))
  go_loopw [9] (fun v9 wr => ∃ j : Nat, j ≤ jn ∧ v9 = .int .i64 (j : Int) ∧ Aside0 (LX w2 wr q 2 (calmC 2 100 vq) (nE vq j) 0 (fun _ => False))) (fun v9 _ => jn - (intOf v9).toNat)
  case atStart => exact ⟨0, Nat.zero_le _, rfl, HT⟩
  case round =>
    clear HT
    obtain ⟨j, hj, rfl, HT⟩ := hrel
    by_cases hlt : j < jn
    · have i1 : (j : Int) < (jn : Int) := by omega
      have hN := HN.out
      have hQ := HQ.out
      obtain ⟨a, b, _⟩ := nE_ok vq (by omega) (by omega) j (by omega)
      have hcall := Enq_lx HT.out (i := 0) (by omega) (by omega) (pkJ_POk j) (by have := a.plen (i := 0) (by omega); omega) (by have := a.len; omega) (by rw [b]; omega) (by rw [b]; simp [calmC]; omega)
      rw [show ((0 : Nat) : Int) = 0 from rfl] at hcall
      rw [show (nE vq j).enq (calmC 2 100 vq) 0 (pkJ 1500 j) = nE vq (j + 1) from rfl] at hcall
      simp only [pkV, pkJ] at hcall
      have HCL := Aside0.mk hcall
      have hw : IntKind.i64.wrap ((j : Int) + 1) = (j : Int) + 1 := by
        rw [i64_w]
        unfold wrap64
        omega
      clear hcall a b hN hQ
      go_wp2_with (go_at_call 12; (with_reducible refine Calls.mono HCL.out ?_); rintro e w4 ⟨rfl, h4, _⟩; clear HT; have HT := Aside0.mk h4; clear h4)
      go_roundw
      case rel => exact ⟨j + 1, by omega, by go_num, HT⟩
      case measure => simp [intOf]; omega
    · have e : j = jn := by omega
      have i1 : ¬ (j : Int) < (jn : Int) := by omega
      have HT2 : Aside0 (LX w2 wr q 2 (calmC 2 100 vq) (nE vq jn) 0 (fun _ => False)) := ⟨by rw [e] at HT; exact HT.out⟩
      clear HT hlt hj e
      have hN := HN.out
      have hQ := HQ.out
      obtain ⟨a, b, _⟩ := nE_ok vq (by omega) (by omega) jn (by omega)
      obtain ⟨g1, cq1, _⟩ := nS1_go vq (by omega) (by omega) (j := jn) (by omega) (by omega)
      have hc := CC.of (flows := 2) (limit := 100) (quantum := vq) (M := 1500) (by omega) (by omega) (by omega) (by omega)
      have hcall := Deq_lx HT2.out (by omega) (now' := 0) (by omega) (by omega) (by rw [b]; omega) (a.ok hc) 1 _ g1
      simp only [show (nS1 vq jn).2.2.2.2 = some (0, pkJ 1500 0) from rfl, resV, pkJ] at hcall
      generalize ((nS1 vq jn).1 0).id = id1 at hcall
      have HCL := Aside0.mk hcall
      have CQ1 := Aside0.mk cq1
      clear hcall cq1 g1 a b hN hQ hc
      go_upto_region 12 with (go_at_call 13; (with_reducible refine Calls.mono HCL.out ?_); rintro e w4 ⟨rfl, h4, _⟩; clear HT2 HCL; have HT := Aside0.mk h4; clear h4)
      obtain ⟨hX, k5⟩ := HT.out.box #[.bool true, .int .i64 id1, .int .i64 0, .int .i64 1500, .bool false, .int .i64 0, .bool false, .slice none 0 0] 47
      have g5 := HT.out.ge
      generalize w4.alloc (.cells #[.bool true, .int .i64 id1, .int .i64 0, .int .i64 1500, .bool false, .int .i64 0, .bool false, .slice none 0 0] 47) = w5 at hX k5 ⊢
      generalize w4.heap.size = g at hX k5 g5 ⊢
      clear HT
      have HT := Aside0.mk (hX.weaken (Y := fun k => k = g) (fun k hk => .inr hk))
      have G5 := Aside0.mk g5
      have K5 := Aside0.mk k5
      clear hX g5 k5
      go_upto_region 14 with (go_at_call 11; (with_reducible refine Calls.mono (num_in _ _) ?_); rintro e w6 ⟨rfl, hdr⟩; have HT6 := Aside0.mk (HT.out.step hdr.below); have K6 := Aside0.mk (blk_below K5.out hdr.below); have y5 : w6.cell? ⟨g, 5, none⟩ = some (.int .i64 0) := (blk_cell K6.out 5).trans rfl; clear hdr HT K5; have HT := HT6; clear HT6)
      clear y5
      have hN := HN.out
      have hQ := HQ.out
      have hc := CC.of (flows := 2) (limit := 100) (quantum := vq) (M := 1500) (by omega) (by omega) (by omega) (by omega)
      obtain ⟨k2, R2, g2, cq2, r2, l21, l22, f21, o2, id2, n2⟩ := nS2_go vq (by omega) (by omega) (j := jn) (by omega) (by omega)
      have hcall := Deq_lx HT.out (by omega) (now' := 0) (by omega) (by omega) (by have := CQ1.out.n0; omega) (CQ1.out.ok hc) k2 _ g2
      simp only [r2, resV, pkJ, id2] at hcall
      have HCL := Aside0.mk hcall
      have CQ2 := Aside0.mk cq2
      have L21 := Aside0.mk l21
      have F21 := Aside0.mk f21
      have O2 := Aside0.mk o2
      have N2 := Aside0.mk n2
      clear hcall g2 cq2 r2 l21 l22 f21 o2 id2 n2 hN hQ hc
      go_upto_region 15 with (go_at_call 13; (with_reducible refine Calls.mono HCL.out ?_); rintro e w7 ⟨rfl, h4, st⟩; clear HT HCL; have HT := Aside0.mk h4; have K7 := Aside0.mk ((st g rfl).trans K6.out); clear h4 st K6; obtain ⟨⟨z0, z1, z2, z3, z4, z5, z6, z7⟩, zf0, zf1, zf2, zf3, zf4, zf5, zf6, zf7⟩ := cells8 K7.out)
      refine wp_far (fun w8 e8 => ?_)
      obtain ⟨hX, k8⟩ := HT.out.set8 G5.out rfl K7.out (.bool true) (.int .i64 0) (.int .i64 0) (.int .i64 1500) (.bool false) (.int .i64 1) (.bool false) (.slice none 0 0)
      rw [e8] at hX k8
      clear HT K7 e8 z0 z1 z2 z3 z4 z5 z6 z7 zf0 zf1 zf2 zf3 zf4 zf5 zf6 zf7
      have HT := Aside0.mk hX
      have K8 := Aside0.mk k8
      clear hX k8
      go_upto_region 17 with (go_at_call 11; (with_reducible refine Calls.mono (num_in _ _) ?_); rintro e w9 ⟨rfl, hdr⟩; have HT6 := Aside0.mk (HT.out.step hdr.below); have K9 := Aside0.mk (blk_below K8.out hdr.below); have y5 : w9.cell? ⟨g, 5, none⟩ = some (.int .i64 1) := (blk_cell K9.out 5).trans rfl; clear hdr HT K8; have HT := HT6; clear HT6)
      clear y5
      have hfl := Flow_lx HT.out (i := 0) (by omega) (by have := CQ2.out.plen (i := 0) (by omega); omega)
      rw [show ((ST.of R2).fs 0).on = 2 from O2.out, show ((0 : Nat) : Int) = 0 from rfl] at hfl
      generalize ((ST.of R2).fs 0).deficit = d2 at hfl
      have HFL := Aside0.mk hfl
      clear hfl
      go_upto_region 18 with (go_at_call 17; (with_reducible refine Calls.mono HFL.out ?_); rintro e w10 ⟨vv, rfl, _, hb⟩; have HT6 := Aside0.mk (HT.out.step hb); have K10 := Aside0.mk (blk_below K9.out hb); clear hb HT K9 HFL; have HT := HT6; clear HT6)
      have hS := HS.out
      have hcall := Enq_lx HT.out (i := 1) (by omega) (by omega) (p := ⟨0, vs, false, 99⟩) ⟨by dsimp only; omega, by dsimp only; omega, by dsimp only; omega, by dsimp only; omega⟩ (by have := CQ2.out.plen (i := 1) (by omega); omega) (by have := CQ2.out.len; omega) (by have := CQ2.out.n0; omega) (by have := N2.out; show R2.2.2.2.1 + 1 ≤ 100; omega)
      rw [show ((1 : Nat) : Int) = 1 from rfl] at hcall
      simp only [pkV] at hcall
      have HCL := Aside0.mk hcall
      clear hcall hS
      go_upto_region 19 with (go_at_call 12; (with_reducible refine Calls.mono HCL.out ?_); rintro e w11 ⟨rfl, h4, st⟩; clear HT HCL; have HT := Aside0.mk h4; have K11 := Aside0.mk ((st g rfl).trans K10.out); clear h4 st K10)
      have hN := HN.out
      have hQ := HQ.out
      have hS := HS.out
      have hc := CC.of (flows := 2) (limit := 100) (quantum := vq) (M := 1500) (by omega) (by omega) (by omega) (by omega)
      obtain ⟨R3, g3, cq3, r3, id3⟩ := nS3_go vq (by omega) (by omega) CQ2.out L21.out F21.out N2.out (p := ⟨0, vs, false, 99⟩) rfl (by dsimp only; omega) (by dsimp only; omega)
      have hcall := Deq_lx HT.out (by omega) (now' := 0) (Int.le_refl 0) (by omega) (by have := cq3.n0; omega) (cq3.ok hc) 1 _ g3
      simp only [r3, resV, id3] at hcall
      have HCL := Aside0.mk hcall
      clear hcall g3 cq3 r3 id3 hN hQ hS hc
      go_upto_region 20 with (go_at_call 13; (with_reducible refine Calls.mono HCL.out ?_); rintro e w7 ⟨rfl, h4, st⟩; clear HT HCL; have HT := Aside0.mk h4; have K7 := Aside0.mk ((st g rfl).trans K11.out); clear h4 st K11; obtain ⟨⟨z0, z1, z2, z3, z4, z5, z6, z7⟩, zf0, zf1, zf2, zf3, zf4, zf5, zf6, zf7⟩ := cells8 K7.out)
      refine wp_far (fun w8 e8 => ?_)
      obtain ⟨hX, k8⟩ := HT.out.set8 G5.out rfl K7.out (.bool true) (.int .i64 1) (.int .i64 0) (.int .i64 vs) (.bool false) (.int .i64 99) (.bool false) (.slice none 0 0)
      rw [e8] at hX k8
      clear HT K7 e8 z0 z1 z2 z3 z4 z5 z6 z7 zf0 zf1 zf2 zf3 zf4 zf5 zf6 zf7
      have HT := Aside0.mk hX
      have K8 := Aside0.mk k8
      clear hX k8
      go_wp2_with (go_at_call 11; (with_reducible refine Calls.mono (num_in _ _) ?_); rintro e w12 ⟨rfl, hdr⟩; have HT6 := Aside0.mk (HT.out.step hdr.below); have K7 := Aside0.mk (blk_below K8.out hdr.below); clear hdr HT K8; have HT := HT6; clear HT6; obtain ⟨⟨z0, z1, z2, z3, z4, z5, z6, z7⟩, zf0, zf1, zf2, zf3, zf4, zf5, zf6, zf7⟩ := cells8 K7.out)
      go_ret
      exact ⟨rfl, below_step B2.out HT.out.below⟩
end Go.Proofs.Ytepolgapbbaklaa.Q
