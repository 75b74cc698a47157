/- codel: the walk of begin. No condition. -/
import Derived.Test.YtepolgapbbaklaaCodelV
namespace Go.Proofs.Ytepolgapbbaklaa.Q
set_option linter.unusedVariables false
set_option linter.unusedSimpArgs false
open Go.RowKit Go.Proofs.YtepolgapbbaklaaW.PrintWords Go.Proofs.YtepolgapbbaklaaW.PrintLast Go.Proofs.YtepolgapbbaklaaW.PrintMore
def cntR (r : Run) : Int := if wrap64 (r.count - r.last) > 1 ∧ wrap64 (r.now - r.next) < wrap64 (16 * r.iv) then wrap64 (r.count - r.last) else 1
def beginR (k : Nat) (r : Run) : Option Run :=
  (codel_law.f k (hitR r).1.now (hitR r).1.iv (cntR (hitR r).1)).bind fun nx => some { (hitR r).1 with dropping := true, count := cntR (hitR r).1, next := nx, last := cntR (hitR r).1 }
set_option maxHeartbeats 8000000 in
set_option maxRecDepth 100000 in
theorem begin_in (k : Nat) {w W : World} {gb : Nat} {r r2 : Run} {A : Option Addr} {c : Nat} {v : Value} (h : RB w W gb r A c v) (hl : r.dropped.length < 4398046511103) (hb : beginR k r = some r2) :
    Calls Try.prog 32 #[.pointer (some ⟨gb, 0, none⟩)] W fun e W' => e = .returned (.tuple #[]) ∧ ∃ A' c' v', RB w W' gb r2 A' c' v' := by
  have hu33 := Try.underlying32
  have hu40 := Try.underlying71
  have hu42 := Try.underlying41
  have hu44 := Try.underlying80
  have hu56 := Try.underlying87
  unfold beginR at hb
  obtain ⟨nx, hx, hb⟩ := Option.bind_eq_some_iff.1 hb
  have hb := Option.some.inj hb
  have hh := Aside0.mk h
  have HL := Aside0.mk hl
  clear h hl
  obtain ⟨r1, hr1⟩ : ∃ r1, (hitR r).1 = r1 := ⟨_, rfl⟩
  rw [hr1] at hx hb
  obtain ⟨n, hn⟩ : ∃ n, cntR r1 = n := ⟨_, rfl⟩
  rw [hn] at hx hb
  have HX := Aside0.mk hx
  have HB := Aside0.mk hb
  have R1 := Aside0.mk hr1
  have N1 := Aside0.mk hn
  clear hx hb hr1 hn
  go_enter Try.func32, Try.ntmps32
  go_wp2_with (go_at_call 33; (with_reducible refine Calls.mono (hit_in hh.out HL.out) ?_); rintro e w3 ⟨rfl, A1, c1, v1, h3⟩; have HT := Aside0.mk h3; clear h3)
  have h1 := HT.out
  rw [R1.out] at h1
  clear HT hh
  obtain ⟨fz, z0, z1, z2, z3, z4, z5, z6, z7, z8, z9, z10, z11, z12, z13, z14, z15, z16, z17, z18, z19, z20, z21, z22, z23, z24⟩ := h1.C.zs
  have hh := Aside0.mk h1
  clear h1
  by_cases k1 : 1 < wrap64 (r1.count - r1.last)
  · have d1 : decide (1 < wrap64 (r1.count - r1.last)) = true := decide_eq_true k1
    by_cases k2 : wrap64 (r1.now - r1.next) < wrap64 (16 * r1.iv)
    · have en : wrap64 (r1.count - r1.last) = n := by rw [← N1.out]; unfold cntR; rw [if_pos ⟨k1, k2⟩]
      have d2 : decide (wrap64 (r1.now - r1.next) < wrap64 (16 * r1.iv)) = true := decide_eq_true k2
      have EN := Aside0.mk en
      clear k1 k2 en
      go_region
      go_wp2
      go_region
      go_wp2
      have h2 : RC w _ gb (({ r1 with dropping := true, count := wrap64 (r1.count - r1.last) } : Run).cells A1 c1 v1) v1 r1.dropped := (((hh.out.C.put 5 (.bool true)).put 7 (.int .i64 1)).put 7 (.int .i64 (wrap64 (r1.count - r1.last)))).drew.drew
      have hc2 := hh.out.hc
      have hq2 := hh.out.HQ
      have Hc := Aside0.mk hc2
      have HQ := Aside0.mk hq2
      clear fz z0 z1 z2 z3 z4 z5 z6 z7 z8 z9 z10 z11 z12 z13 z14 z15 z16 z17 z18 z19 z20 z21 z22 z23 z24 hh hc2 hq2 d1 d2
      generalize World.drew _ = W2 at h2 ⊢
      rw [EN.out] at h2
      obtain ⟨fz, z0, z1, z2, z3, z4, z5, z6, z7, z8, z9, z10, z11, z12, z13, z14, z15, z16, z17, z18, z19, z20, z21, z22, z23, z24⟩ := h2.zs
      dsimp only at z0 z1 z2 z3 z4 z5 z6 z7 z8 z9 z10 z11 z12 z13 z14 z15 z16 z17 z18 z19 z20 z21 z22 z23 z24
      have HH := Aside0.mk h2
      clear h2
      go_region_held3 (fun w' => w'.cell? ⟨gb, 11, none⟩ = some (.int .i64 r1.now) ∧ w'.cell? ⟨gb, 1, none⟩ = some (.int .i64 r1.iv) ∧ w'.cell? ⟨gb, 7, none⟩ = some (.int .i64 n)) (first | exact ⟨z11, z1, z7⟩ | go_keep | exact ⟨(((HH.out.drewN _).put 6 (.int .i64 nx)).z 11).1.trans rfl, (((HH.out.drewN _).put 6 (.int .i64 nx)).z 1).1.trans rfl, (((HH.out.drewN _).put 6 (.int .i64 nx)).z 7).1.trans rfl⟩) (first | (go_at_call 34; (with_reducible refine Calls.mono (codel_law.calls k _ _ _ nx _ HX.out) ?_); rintro e w' ⟨rfl, ⟨nd, rfl⟩⟩; have HV := Aside0.mk (HH.out.drew.drewN nd)))
      have h3 : RC w _ gb (({ r1 with dropping := true, count := n, next := nx } : Run).cells A1 c1 v1) v1 r1.dropped := (HH.out.drewN (1 + nd)).put 6 (.int .i64 nx)
      clear fz z0 z1 z2 z3 z4 z5 z6 z7 z8 z9 z10 z11 z12 z13 z14 z15 z16 z17 z18 z19 z20 z21 z22 z23 z24 HH HV
      generalize World.setCell _ _ _ = W3 at h3 ⊢
      obtain ⟨fz, z0, z1, z2, z3, z4, z5, z6, z7, z8, z9, z10, z11, z12, z13, z14, z15, z16, z17, z18, z19, z20, z21, z22, z23, z24⟩ := h3.zs
      dsimp only at z0 z1 z2 z3 z4 z5 z6 z7 z8 z9 z10 z11 z12 z13 z14 z15 z16 z17 z18 z19 z20 z21 z22 z23 z24
      go_wp2
      first | go_end0 | ((try simp only [Exit.inBlock, Exit.then]); refine bodyPost_ret (results_none rfl _ _ _) rfl ?_)
      have e := HB.out
      subst e
      exact ⟨rfl, A1, c1, v1, RC.rb (h3.put 8 (.int .i64 n)) _ _ _ rfl rfl Hc.out HQ.out⟩
    · have en : (1 : Int) = n := by rw [← N1.out]; unfold cntR; rw [if_neg (fun h_ => k2 h_.2)]
      have d2 : decide (wrap64 (r1.now - r1.next) < wrap64 (16 * r1.iv)) = false := decide_eq_false k2
      have EN := Aside0.mk en
      clear k1 k2 en
      go_region
      go_wp2
      go_region
      go_wp2
      have h2 : RC w _ gb (({ r1 with dropping := true, count := 1 } : Run).cells A1 c1 v1) v1 r1.dropped := ((hh.out.C.put 5 (.bool true)).put 7 (.int .i64 1)).drew.drew
      have hc2 := hh.out.hc
      have hq2 := hh.out.HQ
      have Hc := Aside0.mk hc2
      have HQ := Aside0.mk hq2
      clear fz z0 z1 z2 z3 z4 z5 z6 z7 z8 z9 z10 z11 z12 z13 z14 z15 z16 z17 z18 z19 z20 z21 z22 z23 z24 hh hc2 hq2 d1 d2
      generalize World.drew _ = W2 at h2 ⊢
      rw [EN.out] at h2
      obtain ⟨fz, z0, z1, z2, z3, z4, z5, z6, z7, z8, z9, z10, z11, z12, z13, z14, z15, z16, z17, z18, z19, z20, z21, z22, z23, z24⟩ := h2.zs
      dsimp only at z0 z1 z2 z3 z4 z5 z6 z7 z8 z9 z10 z11 z12 z13 z14 z15 z16 z17 z18 z19 z20 z21 z22 z23 z24
      have HH := Aside0.mk h2
      clear h2
      go_region_held3 (fun w' => w'.cell? ⟨gb, 11, none⟩ = some (.int .i64 r1.now) ∧ w'.cell? ⟨gb, 1, none⟩ = some (.int .i64 r1.iv) ∧ w'.cell? ⟨gb, 7, none⟩ = some (.int .i64 n)) (first | exact ⟨z11, z1, z7⟩ | go_keep | exact ⟨(((HH.out.drewN _).put 6 (.int .i64 nx)).z 11).1.trans rfl, (((HH.out.drewN _).put 6 (.int .i64 nx)).z 1).1.trans rfl, (((HH.out.drewN _).put 6 (.int .i64 nx)).z 7).1.trans rfl⟩) (first | (go_at_call 34; (with_reducible refine Calls.mono (codel_law.calls k _ _ _ nx _ HX.out) ?_); rintro e w' ⟨rfl, ⟨nd, rfl⟩⟩; have HV := Aside0.mk (HH.out.drew.drewN nd)))
      have h3 : RC w _ gb (({ r1 with dropping := true, count := n, next := nx } : Run).cells A1 c1 v1) v1 r1.dropped := (HH.out.drewN (1 + nd)).put 6 (.int .i64 nx)
      clear fz z0 z1 z2 z3 z4 z5 z6 z7 z8 z9 z10 z11 z12 z13 z14 z15 z16 z17 z18 z19 z20 z21 z22 z23 z24 HH HV
      generalize World.setCell _ _ _ = W3 at h3 ⊢
      obtain ⟨fz, z0, z1, z2, z3, z4, z5, z6, z7, z8, z9, z10, z11, z12, z13, z14, z15, z16, z17, z18, z19, z20, z21, z22, z23, z24⟩ := h3.zs
      dsimp only at z0 z1 z2 z3 z4 z5 z6 z7 z8 z9 z10 z11 z12 z13 z14 z15 z16 z17 z18 z19 z20 z21 z22 z23 z24
      go_wp2
      first | go_end0 | ((try simp only [Exit.inBlock, Exit.then]); refine bodyPost_ret (results_none rfl _ _ _) rfl ?_)
      have e := HB.out
      subst e
      exact ⟨rfl, A1, c1, v1, RC.rb (h3.put 8 (.int .i64 n)) _ _ _ rfl rfl Hc.out HQ.out⟩
  · have en : (1 : Int) = n := by rw [← N1.out]; unfold cntR; rw [if_neg (fun h_ => k1 h_.1)]
    have d1 : decide (1 < wrap64 (r1.count - r1.last)) = false := decide_eq_false k1
    have EN := Aside0.mk en
    clear k1 en
    go_region
    go_wp2
    go_region
    go_wp2
    have h2 : RC w _ gb (({ r1 with dropping := true, count := 1 } : Run).cells A1 c1 v1) v1 r1.dropped := ((hh.out.C.put 5 (.bool true)).put 7 (.int .i64 1)).drew.drew
    have hc2 := hh.out.hc
    have hq2 := hh.out.HQ
    have Hc := Aside0.mk hc2
    have HQ := Aside0.mk hq2
    clear fz z0 z1 z2 z3 z4 z5 z6 z7 z8 z9 z10 z11 z12 z13 z14 z15 z16 z17 z18 z19 z20 z21 z22 z23 z24 hh hc2 hq2 d1
    generalize World.drew _ = W2 at h2 ⊢
    rw [EN.out] at h2
    obtain ⟨fz, z0, z1, z2, z3, z4, z5, z6, z7, z8, z9, z10, z11, z12, z13, z14, z15, z16, z17, z18, z19, z20, z21, z22, z23, z24⟩ := h2.zs
    dsimp only at z0 z1 z2 z3 z4 z5 z6 z7 z8 z9 z10 z11 z12 z13 z14 z15 z16 z17 z18 z19 z20 z21 z22 z23 z24
    have HH := Aside0.mk h2
    clear h2
    go_region_held3 (fun w' => w'.cell? ⟨gb, 11, none⟩ = some (.int .i64 r1.now) ∧ w'.cell? ⟨gb, 1, none⟩ = some (.int .i64 r1.iv) ∧ w'.cell? ⟨gb, 7, none⟩ = some (.int .i64 n)) (first | exact ⟨z11, z1, z7⟩ | go_keep | exact ⟨(((HH.out.drewN _).put 6 (.int .i64 nx)).z 11).1.trans rfl, (((HH.out.drewN _).put 6 (.int .i64 nx)).z 1).1.trans rfl, (((HH.out.drewN _).put 6 (.int .i64 nx)).z 7).1.trans rfl⟩) (first | (go_at_call 34; (with_reducible refine Calls.mono (codel_law.calls k _ _ _ nx _ HX.out) ?_); rintro e w' ⟨rfl, ⟨nd, rfl⟩⟩; have HV := Aside0.mk (HH.out.drew.drewN nd)))
    have h3 : RC w _ gb (({ r1 with dropping := true, count := n, next := nx } : Run).cells A1 c1 v1) v1 r1.dropped := (HH.out.drewN (1 + nd)).put 6 (.int .i64 nx)
    clear fz z0 z1 z2 z3 z4 z5 z6 z7 z8 z9 z10 z11 z12 z13 z14 z15 z16 z17 z18 z19 z20 z21 z22 z23 z24 HH HV
    generalize World.setCell _ _ _ = W3 at h3 ⊢
    obtain ⟨fz, z0, z1, z2, z3, z4, z5, z6, z7, z8, z9, z10, z11, z12, z13, z14, z15, z16, z17, z18, z19, z20, z21, z22, z23, z24⟩ := h3.zs
    dsimp only at z0 z1 z2 z3 z4 z5 z6 z7 z8 z9 z10 z11 z12 z13 z14 z15 z16 z17 z18 z19 z20 z21 z22 z23 z24
    go_wp2
    first | go_end0 | ((try simp only [Exit.inBlock, Exit.then]); refine bodyPost_ret (results_none rfl _ _ _) rfl ?_)
    have e := HB.out
    subst e
    exact ⟨rfl, A1, c1, v1, RC.rb (h3.put 8 (.int .i64 n)) _ _ _ rfl rfl Hc.out HQ.out⟩
end Go.Proofs.Ytepolgapbbaklaa.Q
