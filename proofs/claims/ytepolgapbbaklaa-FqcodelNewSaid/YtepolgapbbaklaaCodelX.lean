/- codel: the walk of goOn. No condition. -/
import Derived.Test.YtepolgapbbaklaaCodelW
namespace Go.Proofs.Ytepolgapbbaklaa.Q
set_option linter.unusedVariables false
set_option linter.unusedSimpArgs false
open Go.RowKit Go.Proofs.YtepolgapbbaklaaW.PrintWords Go.Proofs.YtepolgapbbaklaaW.PrintLast Go.Proofs.YtepolgapbbaklaaW.PrintMore
attribute [local go_sem] max2_int min2_int max_two min_two max_three min_three max_four min_four   -- for this text's walks alone
/-- A round of goOn. -/
def stepR (K : Nat) (r : Run) : Option Run :=
  if ((hitR { r with count := mn (wrap64 (r.count + 1)) 1073741824 }).2 || (hitR { r with count := mn (wrap64 (r.count + 1)) 1073741824 }).1.marked) = true then
    (codel_law.f K (hitR { r with count := mn (wrap64 (r.count + 1)) 1073741824 }).1.next (hitR { r with count := mn (wrap64 (r.count + 1)) 1073741824 }).1.iv (hitR { r with count := mn (wrap64 (r.count + 1)) 1073741824 }).1.count).bind fun nx =>
      some { (hitR { r with count := mn (wrap64 (r.count + 1)) 1073741824 }).1 with dropping := true, next := nx }
  else some { (hitR { r with count := mn (wrap64 (r.count + 1)) 1073741824 }).1 with dropping := false }
def goOnR (K : Nat) : Nat → Run → Option Run
  | 0, _ => none
  | k + 1, r => if r.dropping = true ∧ r.now ≥ r.next ∧ r.marked = false then (stepR K r).bind (goOnR K k) else some r
theorem takeR_dropped (r : Run) : (takeR r).1.dropped = r.dropped := by
  unfold takeR
  split
  · rfl
  · split
    · rfl
    · split <;> rfl
theorem hitR_len (r : Run) : (hitR r).1.dropped.length ≤ r.dropped.length + 1 := by
  unfold hitR
  split
  · simp
  · rw [takeR_dropped]
    simp
set_option maxHeartbeats 8000000 in
set_option maxRecDepth 100000 in
theorem goOn_in (K k : Nat) {w W : World} {gb : Nat} {r r2 : Run} {A : Option Addr} {c : Nat} {v : Value} (b : Bool) (h : RB w W gb r A c v) (hl : r.dropped.length + k < 4398046511103) (hb : goOnR K k { r with dropping := b } = some r2) :
    Calls Try.prog 31 #[.pointer (some ⟨gb, 0, none⟩), .bool b] W fun e W' => e = .returned (.tuple #[]) ∧ ∃ A' c' v', RB w W' gb r2 A' c' v' := by
  have hu33 := Try.underlying32
  have hu40 := Try.underlying71
  have hu42 := Try.underlying41
  have hu44 := Try.underlying80
  have hu56 := Try.underlying87
  have H' := Aside0.mk hb
  have HL := Aside0.mk hl
  have hh := Aside0.mk h
  clear h hl hb
  obtain ⟨fz, z0, z1, z2, z3, z4, z5, z6, z7, z8, z9, z10, z11, z12, z13, z14, z15, z16, z17, z18, z19, z20, z21, z22, z23, z24⟩ := hh.out.C.zs
  go_enter Try.func31, Try.ntmps31
  go_wp2
  have h1 := RC.rb (hh.out.C.put 5 (.bool b)) ({ r with dropping := b }) A c rfl rfl hh.out.hc hh.out.HQ
  clear fz z0 z1 z2 z3 z4 z5 z6 z7 z8 z9 z10 z11 z12 z13 z14 z15 z16 z17 z18 z19 z20 z21 z22 z23 z24 hh
  generalize World.setCell _ _ _ = W1 at h1 ⊢
  have HR1 := Aside0.mk h1
  clear h1
  go_loopg [1] k (fun kq v1 w' => ∃ (r1 : Run) (A1 : Option Addr) (c1 : Nat) (u1 : Value) (b1 : Bool), v1 = .bool b1 ∧ Aside0 (goOnR K kq r1 = some r2) ∧ Aside0 (kq ≤ k) ∧ Aside0 (r1.dropped.length + kq < 4398046511103) ∧ Aside0 (RB w w' gb r1 A1 c1 u1))
  case atStart => exact ⟨_, A, c, v, b, rfl, H', ⟨Nat.le_refl _⟩, ⟨HL.out⟩, HR1⟩
  case round =>
    clear H' HL HR1
    obtain ⟨r1, A1, c1, u1, b1, rfl, HA, HK1, HL1, HR1⟩ := hrel
    cases gk with
    | zero => exact absurd HA.out (by simp [goOnR])
    | succ k1 =>
      have H := HA.out
      clear HA
      simp only [goOnR] at H
      obtain ⟨fz, z0, z1, z2, z3, z4, z5, z6, z7, z8, z9, z10, z11, z12, z13, z14, z15, z16, z17, z18, z19, z20, z21, z22, z23, z24⟩ := HR1.out.C.zs
      by_cases kd : r1.dropping = true
      · rw [kd] at z5
        by_cases kn : r1.next ≤ r1.now
        · have dn : decide (r1.next ≤ r1.now) = true := decide_eq_true kn
          by_cases km : r1.marked = false
          · rw [km] at z22
            rw [if_pos ⟨kd, kn, km⟩] at H
            obtain ⟨r3, hs, H⟩ := Option.bind_eq_some_iff.1 H
            have HS := Aside0.mk hs
            have H' := Aside0.mk H
            clear H hs kd kn km
            obtain ⟨rh, hrh⟩ : ∃ p, hitR ({ r1 with count := mn (wrap64 (r1.count + 1)) 1073741824 } : Run) = p := ⟨_, rfl⟩
            have hcall := hit_in (RC.rb ((HR1.out.C.put 7 (.int .i64 (mn (wrap64 (r1.count + 1)) 1073741824))).drew) ({ r1 with count := mn (wrap64 (r1.count + 1)) 1073741824 }) A1 c1 rfl rfl HR1.out.hc HR1.out.HQ) (by have := HL1.out; show r1.dropped.length < _; omega)
            rw [hrh] at hcall
            have hs := HS.out
            unfold stepR at hs
            rw [hrh] at hs
            have HS := Aside0.mk hs
            by_cases c7 : (1073741824 : Int) < wrap64 (r1.count + 1)
            · skip
              have e7 : mn (wrap64 (r1.count + 1)) 1073741824 = 1073741824 := by unfold mn; rw [if_pos c7]
              rw [e7] at hcall
              have HC := Aside0.mk hcall
              have RH := Aside0.mk hrh
              have E7 := Aside0.mk e7
              clear hs hcall hrh e7
              go_wp2
              go_region
              by_cases kr : rh.2 = true
              · have dr := kr
                clear kr
                go_wp2_with (go_at_call 33; (with_reducible refine Calls.mono HC.out ?_); rintro e w3 ⟨rfl, A3, c3, u3, h3⟩; have HT := Aside0.mk h3; clear h3 fz z0 z1 z2 z3 z4 z5 z6 z7 z8 z9 z10 z11 z12 z13 z14 z15 z16 z17 z18 z19 z20 z21 z22 z23 z24; obtain ⟨fz, z0, z1, z2, z3, z4, z5, z6, z7, z8, z9, z10, z11, z12, z13, z14, z15, z16, z17, z18, z19, z20, z21, z22, z23, z24⟩ := HT.out.C.zs)
                have hs := HS.out
                rw [if_pos (by rw [dr]; rfl)] at hs
                obtain ⟨nx, hx, he⟩ := Option.bind_eq_some_iff.1 hs
                have HX := Aside0.mk hx
                have HE := Aside0.mk (Option.some.inj he)
                have h2 : RC w _ gb (({ rh.1 with dropping := true } : Run).cells A3 c3 u3) u3 rh.1.dropped := HT.out.C.put 5 (.bool true)
                have Hc := Aside0.mk HT.out.hc
                have HQ := Aside0.mk HT.out.HQ
                clear fz z0 z1 z2 z3 z4 z5 z6 z7 z8 z9 z10 z11 z12 z13 z14 z15 z16 z17 z18 z19 z20 z21 z22 z23 z24 HT hs hx he dr
                generalize World.setCell _ _ _ = W2 at h2 ⊢
                obtain ⟨fz, z0, z1, z2, z3, z4, z5, z6, z7, z8, z9, z10, z11, z12, z13, z14, z15, z16, z17, z18, z19, z20, z21, z22, z23, z24⟩ := h2.zs
                dsimp only at z0 z1 z2 z3 z4 z5 z6 z7 z8 z9 z10 z11 z12 z13 z14 z15 z16 z17 z18 z19 z20 z21 z22 z23 z24
                have HH := Aside0.mk h2
                clear h2
                go_region_law (refine goes_ Try.func34 (by kernel_rfl) rfl #[.int .i64 rh.1.next, .int .i64 rh.1.iv, .int .i64 rh.1.count] (by rfl) rfl rfl (by (try simp only [List.map_toArray, List.map_cons, List.map_nil]); first | done | rfl) ?_; with_reducible refine (codel_law.calls K _ _ _ nx _ HX.out).mono ?_; rintro e w' ⟨rfl, ⟨nd, rfl⟩⟩; refine ⟨_, rfl, ?_⟩)
                all_goals
                  have h3 := RC.rb ((HH.out.drewN (1 + nd)).put 6 (.int .i64 nx)) ({ rh.1 with dropping := true, next := nx }) A3 c3 rfl rfl Hc.out HQ.out
                  rw [HE.out] at h3
                  have H3 := Aside0.mk h3
                  have hd3 : r3.dropped.length ≤ r1.dropped.length + 1 := by
                    have e1 := hitR_len ({ r1 with count := mn (wrap64 (r1.count + 1)) 1073741824 } : Run)
                    rw [RH.out] at e1
                    rw [← HE.out]
                    exact e1
                  have HD3 := Aside0.mk hd3
                  clear h3 hd3 fz z0 z1 z2 z3 z4 z5 z6 z7 z8 z9 z10 z11 z12 z13 z14 z15 z16 z17 z18 z19 z20 z21 z22 z23 z24
                  go_wp2
                  go_roundg k1
                  case measure => have := HK1.out; omega
                  case rel => exact ⟨r3, A3, c3, u3, _, rfl, H', ⟨by have := HK1.out; omega⟩, ⟨by have := HL1.out; have := HD3.out; omega⟩, H3⟩
              · rw [Bool.not_eq_true] at kr
                have KR := Aside0.mk kr
                have dr := kr
                clear kr
                by_cases km2 : rh.1.marked = true
                · have KM := Aside0.mk km2
                  clear km2
                  go_wp2_with (go_at_call 33; (with_reducible refine Calls.mono HC.out ?_); rintro e w3 ⟨rfl, A3, c3, u3, h3⟩; have HT := Aside0.mk h3; clear h3 fz z0 z1 z2 z3 z4 z5 z6 z7 z8 z9 z10 z11 z12 z13 z14 z15 z16 z17 z18 z19 z20 z21 z22 z23 z24; obtain ⟨fz, z0, z1, z2, z3, z4, z5, z6, z7, z8, z9, z10, z11, z12, z13, z14, z15, z16, z17, z18, z19, z20, z21, z22, z23, z24⟩ := HT.out.C.zs; rw [KM.out] at z22)
                  have hs := HS.out
                  rw [if_pos (by rw [KM.out]; exact Bool.or_true _)] at hs
                  obtain ⟨nx, hx, he⟩ := Option.bind_eq_some_iff.1 hs
                  have HX := Aside0.mk hx
                  have HE := Aside0.mk (Option.some.inj he)
                  have h2 : RC w _ gb (({ rh.1 with dropping := true } : Run).cells A3 c3 u3) u3 rh.1.dropped := HT.out.C.put 5 (.bool true)
                  have Hc := Aside0.mk HT.out.hc
                  have HQ := Aside0.mk HT.out.HQ
                  clear fz z0 z1 z2 z3 z4 z5 z6 z7 z8 z9 z10 z11 z12 z13 z14 z15 z16 z17 z18 z19 z20 z21 z22 z23 z24 HT hs hx he
                  generalize World.setCell _ _ _ = W2 at h2 ⊢
                  obtain ⟨fz, z0, z1, z2, z3, z4, z5, z6, z7, z8, z9, z10, z11, z12, z13, z14, z15, z16, z17, z18, z19, z20, z21, z22, z23, z24⟩ := h2.zs
                  dsimp only at z0 z1 z2 z3 z4 z5 z6 z7 z8 z9 z10 z11 z12 z13 z14 z15 z16 z17 z18 z19 z20 z21 z22 z23 z24
                  have HH := Aside0.mk h2
                  clear h2
                  go_region_law (refine goes_ Try.func34 (by kernel_rfl) rfl #[.int .i64 rh.1.next, .int .i64 rh.1.iv, .int .i64 rh.1.count] (by rfl) rfl rfl (by (try simp only [List.map_toArray, List.map_cons, List.map_nil]); first | done | rfl) ?_; with_reducible refine (codel_law.calls K _ _ _ nx _ HX.out).mono ?_; rintro e w' ⟨rfl, ⟨nd, rfl⟩⟩; refine ⟨_, rfl, ?_⟩)
                  all_goals
                    have h3 := RC.rb ((HH.out.drewN (1 + nd)).put 6 (.int .i64 nx)) ({ rh.1 with dropping := true, next := nx }) A3 c3 rfl rfl Hc.out HQ.out
                    rw [HE.out] at h3
                    have H3 := Aside0.mk h3
                    have hd3 : r3.dropped.length ≤ r1.dropped.length + 1 := by
                      have e1 := hitR_len ({ r1 with count := mn (wrap64 (r1.count + 1)) 1073741824 } : Run)
                      rw [RH.out] at e1
                      rw [← HE.out]
                      exact e1
                    have HD3 := Aside0.mk hd3
                    clear h3 hd3 fz z0 z1 z2 z3 z4 z5 z6 z7 z8 z9 z10 z11 z12 z13 z14 z15 z16 z17 z18 z19 z20 z21 z22 z23 z24
                    go_wp2
                    go_roundg k1
                    case measure => have := HK1.out; omega
                    case rel => exact ⟨r3, A3, c3, u3, _, rfl, H', ⟨by have := HK1.out; omega⟩, ⟨by have := HL1.out; have := HD3.out; omega⟩, H3⟩
                · rw [Bool.not_eq_true] at km2
                  have KM := Aside0.mk km2
                  clear km2
                  go_wp2_with (go_at_call 33; (with_reducible refine Calls.mono HC.out ?_); rintro e w3 ⟨rfl, A3, c3, u3, h3⟩; have HT := Aside0.mk h3; clear h3 fz z0 z1 z2 z3 z4 z5 z6 z7 z8 z9 z10 z11 z12 z13 z14 z15 z16 z17 z18 z19 z20 z21 z22 z23 z24; obtain ⟨fz, z0, z1, z2, z3, z4, z5, z6, z7, z8, z9, z10, z11, z12, z13, z14, z15, z16, z17, z18, z19, z20, z21, z22, z23, z24⟩ := HT.out.C.zs; rw [KM.out] at z22)
                  have hs := HS.out
                  rw [if_neg (by rw [KM.out, KR.out]; exact Bool.false_ne_true)] at hs
                  have HE := Aside0.mk (Option.some.inj hs)
                  have h3 := RC.rb (HT.out.C.put 5 (.bool false)) ({ rh.1 with dropping := false }) A3 c3 rfl rfl HT.out.hc HT.out.HQ
                  rw [HE.out] at h3
                  have H3 := Aside0.mk h3
                  have hd3 : r3.dropped.length ≤ r1.dropped.length + 1 := by
                    have e1 := hitR_len ({ r1 with count := mn (wrap64 (r1.count + 1)) 1073741824 } : Run)
                    rw [RH.out] at e1
                    rw [← HE.out]
                    exact e1
                  have HD3 := Aside0.mk hd3
                  clear h3 hd3 hs fz z0 z1 z2 z3 z4 z5 z6 z7 z8 z9 z10 z11 z12 z13 z14 z15 z16 z17 z18 z19 z20 z21 z22 z23 z24
                  go_roundg k1
                  case measure => have := HK1.out; omega
                  case rel => exact ⟨r3, A3, c3, u3, _, rfl, H', ⟨by have := HK1.out; omega⟩, ⟨by have := HL1.out; have := HD3.out; omega⟩, H3⟩
            · skip
              have e7 : mn (wrap64 (r1.count + 1)) 1073741824 = wrap64 (r1.count + 1) := by unfold mn; rw [if_neg c7]
              rw [e7] at hcall
              have HC := Aside0.mk hcall
              have RH := Aside0.mk hrh
              have E7 := Aside0.mk e7
              clear hs hcall hrh e7
              go_wp2
              go_region
              by_cases kr : rh.2 = true
              · have dr := kr
                clear kr
                go_wp2_with (go_at_call 33; (with_reducible refine Calls.mono HC.out ?_); rintro e w3 ⟨rfl, A3, c3, u3, h3⟩; have HT := Aside0.mk h3; clear h3 fz z0 z1 z2 z3 z4 z5 z6 z7 z8 z9 z10 z11 z12 z13 z14 z15 z16 z17 z18 z19 z20 z21 z22 z23 z24; obtain ⟨fz, z0, z1, z2, z3, z4, z5, z6, z7, z8, z9, z10, z11, z12, z13, z14, z15, z16, z17, z18, z19, z20, z21, z22, z23, z24⟩ := HT.out.C.zs)
                have hs := HS.out
                rw [if_pos (by rw [dr]; rfl)] at hs
                obtain ⟨nx, hx, he⟩ := Option.bind_eq_some_iff.1 hs
                have HX := Aside0.mk hx
                have HE := Aside0.mk (Option.some.inj he)
                have h2 : RC w _ gb (({ rh.1 with dropping := true } : Run).cells A3 c3 u3) u3 rh.1.dropped := HT.out.C.put 5 (.bool true)
                have Hc := Aside0.mk HT.out.hc
                have HQ := Aside0.mk HT.out.HQ
                clear fz z0 z1 z2 z3 z4 z5 z6 z7 z8 z9 z10 z11 z12 z13 z14 z15 z16 z17 z18 z19 z20 z21 z22 z23 z24 HT hs hx he dr
                generalize World.setCell _ _ _ = W2 at h2 ⊢
                obtain ⟨fz, z0, z1, z2, z3, z4, z5, z6, z7, z8, z9, z10, z11, z12, z13, z14, z15, z16, z17, z18, z19, z20, z21, z22, z23, z24⟩ := h2.zs
                dsimp only at z0 z1 z2 z3 z4 z5 z6 z7 z8 z9 z10 z11 z12 z13 z14 z15 z16 z17 z18 z19 z20 z21 z22 z23 z24
                have HH := Aside0.mk h2
                clear h2
                go_region_law (refine goes_ Try.func34 (by kernel_rfl) rfl #[.int .i64 rh.1.next, .int .i64 rh.1.iv, .int .i64 rh.1.count] (by rfl) rfl rfl (by (try simp only [List.map_toArray, List.map_cons, List.map_nil]); first | done | rfl) ?_; with_reducible refine (codel_law.calls K _ _ _ nx _ HX.out).mono ?_; rintro e w' ⟨rfl, ⟨nd, rfl⟩⟩; refine ⟨_, rfl, ?_⟩)
                all_goals
                  have h3 := RC.rb ((HH.out.drewN (1 + nd)).put 6 (.int .i64 nx)) ({ rh.1 with dropping := true, next := nx }) A3 c3 rfl rfl Hc.out HQ.out
                  rw [HE.out] at h3
                  have H3 := Aside0.mk h3
                  have hd3 : r3.dropped.length ≤ r1.dropped.length + 1 := by
                    have e1 := hitR_len ({ r1 with count := mn (wrap64 (r1.count + 1)) 1073741824 } : Run)
                    rw [RH.out] at e1
                    rw [← HE.out]
                    exact e1
                  have HD3 := Aside0.mk hd3
                  clear h3 hd3 fz z0 z1 z2 z3 z4 z5 z6 z7 z8 z9 z10 z11 z12 z13 z14 z15 z16 z17 z18 z19 z20 z21 z22 z23 z24
                  go_wp2
                  go_roundg k1
                  case measure => have := HK1.out; omega
                  case rel => exact ⟨r3, A3, c3, u3, _, rfl, H', ⟨by have := HK1.out; omega⟩, ⟨by have := HL1.out; have := HD3.out; omega⟩, H3⟩
              · rw [Bool.not_eq_true] at kr
                have KR := Aside0.mk kr
                have dr := kr
                clear kr
                by_cases km2 : rh.1.marked = true
                · have KM := Aside0.mk km2
                  clear km2
                  go_wp2_with (go_at_call 33; (with_reducible refine Calls.mono HC.out ?_); rintro e w3 ⟨rfl, A3, c3, u3, h3⟩; have HT := Aside0.mk h3; clear h3 fz z0 z1 z2 z3 z4 z5 z6 z7 z8 z9 z10 z11 z12 z13 z14 z15 z16 z17 z18 z19 z20 z21 z22 z23 z24; obtain ⟨fz, z0, z1, z2, z3, z4, z5, z6, z7, z8, z9, z10, z11, z12, z13, z14, z15, z16, z17, z18, z19, z20, z21, z22, z23, z24⟩ := HT.out.C.zs; rw [KM.out] at z22)
                  have hs := HS.out
                  rw [if_pos (by rw [KM.out]; exact Bool.or_true _)] at hs
                  obtain ⟨nx, hx, he⟩ := Option.bind_eq_some_iff.1 hs
                  have HX := Aside0.mk hx
                  have HE := Aside0.mk (Option.some.inj he)
                  have h2 : RC w _ gb (({ rh.1 with dropping := true } : Run).cells A3 c3 u3) u3 rh.1.dropped := HT.out.C.put 5 (.bool true)
                  have Hc := Aside0.mk HT.out.hc
                  have HQ := Aside0.mk HT.out.HQ
                  clear fz z0 z1 z2 z3 z4 z5 z6 z7 z8 z9 z10 z11 z12 z13 z14 z15 z16 z17 z18 z19 z20 z21 z22 z23 z24 HT hs hx he
                  generalize World.setCell _ _ _ = W2 at h2 ⊢
                  obtain ⟨fz, z0, z1, z2, z3, z4, z5, z6, z7, z8, z9, z10, z11, z12, z13, z14, z15, z16, z17, z18, z19, z20, z21, z22, z23, z24⟩ := h2.zs
                  dsimp only at z0 z1 z2 z3 z4 z5 z6 z7 z8 z9 z10 z11 z12 z13 z14 z15 z16 z17 z18 z19 z20 z21 z22 z23 z24
                  have HH := Aside0.mk h2
                  clear h2
                  go_region_law (refine goes_ Try.func34 (by kernel_rfl) rfl #[.int .i64 rh.1.next, .int .i64 rh.1.iv, .int .i64 rh.1.count] (by rfl) rfl rfl (by (try simp only [List.map_toArray, List.map_cons, List.map_nil]); first | done | rfl) ?_; with_reducible refine (codel_law.calls K _ _ _ nx _ HX.out).mono ?_; rintro e w' ⟨rfl, ⟨nd, rfl⟩⟩; refine ⟨_, rfl, ?_⟩)
                  all_goals
                    have h3 := RC.rb ((HH.out.drewN (1 + nd)).put 6 (.int .i64 nx)) ({ rh.1 with dropping := true, next := nx }) A3 c3 rfl rfl Hc.out HQ.out
                    rw [HE.out] at h3
                    have H3 := Aside0.mk h3
                    have hd3 : r3.dropped.length ≤ r1.dropped.length + 1 := by
                      have e1 := hitR_len ({ r1 with count := mn (wrap64 (r1.count + 1)) 1073741824 } : Run)
                      rw [RH.out] at e1
                      rw [← HE.out]
                      exact e1
                    have HD3 := Aside0.mk hd3
                    clear h3 hd3 fz z0 z1 z2 z3 z4 z5 z6 z7 z8 z9 z10 z11 z12 z13 z14 z15 z16 z17 z18 z19 z20 z21 z22 z23 z24
                    go_wp2
                    go_roundg k1
                    case measure => have := HK1.out; omega
                    case rel => exact ⟨r3, A3, c3, u3, _, rfl, H', ⟨by have := HK1.out; omega⟩, ⟨by have := HL1.out; have := HD3.out; omega⟩, H3⟩
                · rw [Bool.not_eq_true] at km2
                  have KM := Aside0.mk km2
                  clear km2
                  go_wp2_with (go_at_call 33; (with_reducible refine Calls.mono HC.out ?_); rintro e w3 ⟨rfl, A3, c3, u3, h3⟩; have HT := Aside0.mk h3; clear h3 fz z0 z1 z2 z3 z4 z5 z6 z7 z8 z9 z10 z11 z12 z13 z14 z15 z16 z17 z18 z19 z20 z21 z22 z23 z24; obtain ⟨fz, z0, z1, z2, z3, z4, z5, z6, z7, z8, z9, z10, z11, z12, z13, z14, z15, z16, z17, z18, z19, z20, z21, z22, z23, z24⟩ := HT.out.C.zs; rw [KM.out] at z22)
                  have hs := HS.out
                  rw [if_neg (by rw [KM.out, KR.out]; exact Bool.false_ne_true)] at hs
                  have HE := Aside0.mk (Option.some.inj hs)
                  have h3 := RC.rb (HT.out.C.put 5 (.bool false)) ({ rh.1 with dropping := false }) A3 c3 rfl rfl HT.out.hc HT.out.HQ
                  rw [HE.out] at h3
                  have H3 := Aside0.mk h3
                  have hd3 : r3.dropped.length ≤ r1.dropped.length + 1 := by
                    have e1 := hitR_len ({ r1 with count := mn (wrap64 (r1.count + 1)) 1073741824 } : Run)
                    rw [RH.out] at e1
                    rw [← HE.out]
                    exact e1
                  have HD3 := Aside0.mk hd3
                  clear h3 hd3 hs fz z0 z1 z2 z3 z4 z5 z6 z7 z8 z9 z10 z11 z12 z13 z14 z15 z16 z17 z18 z19 z20 z21 z22 z23 z24
                  go_roundg k1
                  case measure => have := HK1.out; omega
                  case rel => exact ⟨r3, A3, c3, u3, _, rfl, H', ⟨by have := HK1.out; omega⟩, ⟨by have := HL1.out; have := HD3.out; omega⟩, H3⟩
          · have km' := km
            rw [Bool.not_eq_false] at km'
            rw [km'] at z22
            clear km'
            rw [if_neg (fun h_ => km h_.2.2)] at H
            obtain rfl := Option.some.inj H
            go_wp2
            go_region
            go_wp2
            first | go_end0 | ((try simp only [Exit.inBlock, Exit.then]); refine bodyPost_ret (results_none rfl _ _ _) rfl ?_)
            exact ⟨rfl, A1, c1, u1, RC.rb (HR1.out.C.drew) _ _ _ rfl rfl HR1.out.hc HR1.out.HQ⟩
        · have dn : decide (r1.next ≤ r1.now) = false := decide_eq_false kn
          rw [if_neg (fun h_ => kn h_.2.1)] at H
          obtain rfl := Option.some.inj H
          go_wp2
          go_region
          go_wp2
          first | go_end0 | ((try simp only [Exit.inBlock, Exit.then]); refine bodyPost_ret (results_none rfl _ _ _) rfl ?_)
          exact ⟨rfl, A1, c1, u1, RC.rb (HR1.out.C.drew) _ _ _ rfl rfl HR1.out.hc HR1.out.HQ⟩
      · have kd' := kd
        rw [Bool.not_eq_true] at kd'
        rw [kd'] at z5
        clear kd'
        rw [if_neg (fun h_ => kd h_.1)] at H
        obtain rfl := Option.some.inj H
        go_wp2
        go_region
        go_wp2
        first | go_end0 | ((try simp only [Exit.inBlock, Exit.then]); refine bodyPost_ret (results_none rfl _ _ _) rfl ?_)
        exact ⟨rfl, A1, c1, u1, RC.rb (HR1.out.C.drew) _ _ _ rfl rfl HR1.out.hc HR1.out.HQ⟩
end Go.Proofs.Ytepolgapbbaklaa.Q
