/- routes: the walk of Ask where no address waits yet. No condition. -/
import Derived.Test.YtpjelffgakgjaaaRoutesA
namespace Go.Proofs.Ytpjelffgakgjaaa.Q
set_option linter.unusedVariables false
set_option linter.unusedSimpArgs false
open Go.RowKit Go.Maps Go.Proofs.YtpjelffgakgjaaaW.PrintWords Go.Proofs.YtpjelffgakgjaaaW.PrintLast Go.Proofs.YtpjelffgakgjaaaW.PrintMore Go.Proofs.YtpjelffgakgjaaaW.MapIs
attribute [local go_sem] max2_int min2_int max_two min_two max_three min_three max_four min_four   -- for this text's walks alone
set_option maxHeartbeats 8000000 in
set_option maxRecDepth 100000 in
theorem Ask_first {w W : World} {gc bm bw : Nat} {ip : Int} {ok : Nat → Prop} (h : CB w W gc bm bw 0 [] []) (hok : ∀ k, W.heap.size ≤ k → ok k) (nc : ¬ ok gc) (nm : ¬ ok bm) (nb : ¬ ok bw)
    (A : Option Addr) (c : Nat) (x : List Int) (hx : ∀ W', Below w.heap.size w W' → Kd.C (Kd.int .u8) W' A x.length x) (hxc : x.length ≤ c) (hxn : x.length ≤ 65535) (hi0 : 0 ≤ ip) (hi1 : ip < 4294967296) :
    Calls Try.prog 17 #[.pointer (some ⟨gc, 0, none⟩), .int .u32 ip, .slice A x.length c, .int .i64 5] W fun e W' => e = .returned (.tuple #[.int .u64 0, .bool false, .bool true, .int .i64 0]) ∧ ∃ gw v', CB w W' gc bm bw 5 [] [(ip, gw)] ∧ WB w W' gw ok v' [x] 5 := by
  have hu := Try.underlying75
  have hu80 := Try.underlying80
  have HCO := Aside0.mk (come_in h 5 (by omega) (by omega))
  have d0 : decide ((65535 : Int) < (x.length : Int)) = false := decide_eq_false (by omega)
  have z := h.z
  obtain ⟨z0, z1, z2, z3, z4, f2⟩ := z
  have HS := Aside0.mk (h.put 5)
  have HX := Aside0.mk hx
  have HXC := Aside0.mk hxc
  have HOK := Aside0.mk hok
  have HSZ := Aside0.mk (show (W.setCell ⟨gc, 2, none⟩ (.int .i64 5)).heap.size = W.heap.size by simp [World.setCell])
  have NC := Aside0.mk nc
  have NM := Aside0.mk nm
  have NB := Aside0.mk nb
  have clo : bytes_Clone.f x = some x := by unfold bytes_Clone.f; rw [if_pos (by omega)]
  have HCL := Aside0.mk clo
  clear h hx hxc hxn hok nc nm nb clo
  go_enter Try.func17, Try.ntmps17
  go_upto_region 7 with (go_at_call 25; (with_reducible refine Calls.mono HCO.out ?_); rintro e w2 ⟨rfl, rfl⟩)
  have HKN := Aside0.mk (Known_none HS.out ip 5 hi0 hi1 (by omega) (by omega))
  clear z0 z1 z2 z3 z4 f2
  generalize W.setCell ⟨gc, 2, none⟩ (.int .i64 5) = W1 at HS HSZ HKN ⊢
  obtain ⟨kl, hkl⟩ := ipKey ip hi0 hi1
  have HKL := Aside0.mk hkl
  clear hkl
  go_upto_region 16 with (first
    | (go_at_call 19; (with_reducible refine Calls.mono HKN.out ?_); rintro e w4 ⟨rfl, b3⟩; have HS4 := Aside0.mk (HS.out.step b3); have HSZ4 := Aside0.mk (show W.heap.size ≤ w4.heap.size by have h1 := HSZ.out; have h2 := b3.size; omega); clear b3; obtain ⟨z0, z1, z2, z3, z4, f2⟩ := HS4.out.z; have hlk : (Instr.lookup 73 (.map (some bw)) (.int .u32 ip) true).run Try.prog w4 = .ok (.tuple #[.pointer none, .bool false]) w4 := (by have hl := HS4.out.t.look ipLaw Try.underlying73 (zeroP w4) HKL.out; exact hl); have hlen := fun ty => HS4.out.t.len Try.underlying73 ty)
    | ((with_reducible refine gate_dst (N := 64) rfl ?_); refine box_event ?hg (N := 64) ?hd (cs := #[.slice none 0 0, .int .i64 (-5)]) (t := 80) ?hr ?_; (case hd => rfl); (case hg => rfl); (case hr => first | (go_simp; done) | (go_simp; rfl)); intro gw ew w5 kw bw5; have hs5 := HS4.out.step bw5; obtain ⟨w3, hup, hm3, hg3⟩ := hs5.t.store (v := gw) ipLaw Try.underlying73 HKL.out rfl; have HS3 := Aside0.mk (hs5.turnW hg3 hm3); have hup2 : (Instr.mapUpdate 73 (.map (some bw)) (.int .u32 ip) (.pointer (some ⟨gw, 0, none⟩))).run Try.prog w5 = .ok () w3 := hup; have HKW := Aside0.mk (show w3.heap[gw]? = some (.cells #[.slice none 0 0, .int .i64 (-5)] 80 (0, 0)) from blk_grown kw hg3 (fun e => (hs5.t.ne kw) (Option.some.inj e))); have HEG := Aside0.mk (show w.heap.size ≤ gw by rw [ew]; exact below_size HS4.out.B); have HSZ3 := Aside0.mk (show W.heap.size ≤ w3.heap.size from Nat.le_trans HSZ4.out (Nat.le_trans bw5.size hg3.size)); have HGW := Aside0.mk (show gw ≠ gc from fun e => by have h1 := kw; rw [e, hs5.k] at h1; injection h1 with h1; injection h1 with _ h2; exact absurd h2 (by decide)); clear z0 z1 z2 z3 z4 f2 hlk hlen; obtain ⟨z0, z1, z2, z3, z4, f2⟩ := hs5.z; clear kw bw5 ew hs5 hup hm3 hg3))
  clear z0 z1 z2 z3 z4 f2 hup2 HSZ HS HKN HCO d0 HS4 HSZ4
  obtain ⟨F, hF0⟩ : ∃ F : List (List Int), F = [] := ⟨_, rfl⟩
  obtain ⟨v, hv⟩ : ∃ v : Value, v = .slice none 0 0 := ⟨_, rfl⟩
  have hwb : WB w w3 gw ok v F (-5) := ⟨HEG.out, by rw [hv]; exact HKW.out, by rw [hv, hF0]; exact Kd.Q_nil _ _ _ _ _⟩
  have HWB3 := Aside0.mk hwb
  have HF0 := Aside0.mk hF0
  have HF := Aside0.mk (show F.length ≤ 4 by rw [hF0]; simp)
  have HK3 : Aside0 (Kept w3 w3 (fun k => k = gc ∨ k = gw ∨ some k = v.ownBlock)) := ⟨Kept.refl _ _⟩
  clear hF0 hv hwb HKW HEG
  have zg : w3.cell? ⟨gw, 0, none⟩ = some v := (blk_cell HWB3.out.k 0).trans rfl
  obtain ⟨A1, c1, ev, hc1⟩ := Kd.Q_slice HWB3.out.o
  subst ev
  have HCC := fun (W' : World) (hb : Below w3.heap.size w3 W') => bytes_Clone.calls A c x x W' (HX.out W' (below_step HS3.out.B hb)) HXC.out HCL.out
  have HC2 := Aside0.mk HCC
  clear HCC hc1
  have zh := HWB3.out.k
  have HZH := Aside0.mk zh
  have HFR := Aside0.mk (show ∀ k, w3.heap.size ≤ k → ok k ∧ k ≠ gw from fun k hk => ⟨HOK.out k (Nat.le_trans HSZ3.out hk), fun e => by subst e; exact absurd (blk_lt HWB3.out.k) (Nat.not_lt.2 hk)⟩)
  have HNV := Aside0.mk (show some gw ≠ (Value.slice A1 F.length c1).ownBlock from fun e => (HWB3.out.o.1 gw e.symm).2 rfl)
  clear zh
  go_cut [15] (fun v15 Wx => v15 = .pointer (some ⟨gw, 0, none⟩) ∧ ∃ v1 : Value, Aside0 (CB w Wx gc bm bw 5 [] [(ip, gw)]) ∧ Aside0 (WB w Wx gw ok v1 (F ++ [x]) (-5)) ∧ Aside0 (Kept w3 Wx (fun k => k = gc ∨ k = gw ∨ some k = (Value.slice A1 F.length c1).ownBlock)))
  case first =>
    go_region_law (first
      | (refine goes_ Try.func26 (by kernel_rfl) rfl #[.slice A x.length c] (by rfl) rfl rfl (by (try simp only [List.map_toArray, List.map_cons, List.map_nil]); first | done | rfl) ?_; with_reducible refine (HC2.out _ (below_drew (Below.refl _ _))).mono ?_; rintro e w5 ⟨v0, rfl, hr5, b5⟩; refine ⟨_, rfl, ?_⟩; obtain ⟨A5, c5, ev5⟩ := Kd.R_slice hr5; subst ev5; have hb5 : Below w3.heap.size w3 w5 := below_step (below_drew (Below.refl _ _)) b5; have HR5 := Aside0.mk hr5; have HB5 := Aside0.mk hb5; have zg5 : w5.cell? ⟨gw, 0, none⟩ = some (.slice A1 F.length c1) := (blk_cell (blk_below HZH.out hb5) 0).trans rfl; have zg6 : (w5.alloc (.cells #[.slice A5 x.length c5] 56)).cell? ⟨gw, 0, none⟩ = some (.slice A1 F.length c1) := (blk_cell (blk_alloc (blk_below HZH.out hb5) _) 0).trans rfl; clear hr5 b5 hb5)
      | (refine Kd.Q_append_step kF (w0 := w) w.heap.size (by rfl) (.tmp 75) (.tmp 78) 50 56 (.slice none 0 0) 24 rfl Try.underlying50 infoF rfl (by decide) (by omega) (.slice A1 F.length c1) F x [.slice A5 x.length c5] (fun k => ok k ∧ k ≠ gw) (fun k => w3.heap.size ≤ k) (by rfl) (by rfl) ?aP ?aK ?aF ?aO ?aB ?aS ?aL ?_; (case aP => exact ⟨_, rfl, Kd.R_lower (Kd.R_mono (Kd.R_bound HR5.out) (fun k hk => hk.2.1)) (below_size HS3.out.drew.B)⟩); (case aK => intro k hk; exact ⟨HFR.out k hk, fun e => absurd (Kd.Q_lt HWB3.out.o k e.symm) (Nat.not_lt.2 hk)⟩); (case aF => intro k hk; exact HFR.out k (Nat.le_trans HB5.out.size hk)); (case aO => exact Kd.Q_below HWB3.out.o HB5.out); (case aB => exact below_step HS3.out.B HB5.out); (case aS => exact below_size (below_step HS3.out.B HB5.out)); (case aL => have := HF.out; omega); intro v1 w6 ho hb hg hat; obtain ⟨A6, c6, e6, hc6⟩ := Kd.Q_slice ho; subst e6; have HO6 := Aside0.mk ho; have HB6 := Aside0.mk hb; have HG6 := Aside0.mk hg; have HC6 := Aside0.mk hc6; have hkg := blk_grown (blk_below HZH.out HB5.out) hg HNV.out; have KG := Aside0.mk hkg; have zg7 : w6.cell? ⟨gw, 0, none⟩ = some (.slice A1 F.length c1) := (blk_cell hkg 0).trans rfl; have fg7 : w6.frozen? ⟨gw, 0, none⟩ = false := blk_frozen hkg 0; clear ho hb hg hat hc6 hkg zg zg5 zg6))
    all_goals
      go_wp2
      go_meet
      have hel : (F ++ [x]).length = F.length + 1 := by simp
      have ho := HO6.out
      rw [hel] at ho
      have hbl : ∀ k, (Value.slice A1 F.length c1).ownBlock = some k → ok k := fun k e => (HWB3.out.o.1 k e).1
      have hcb := (HS3.out.step HB5.out).grown HB6.out HG6.out (fun k e => ⟨fun e2 => NC.out (e2 ▸ hbl k e), fun e2 => NM.out (e2 ▸ hbl k e), fun e2 => NB.out (e2 ▸ hbl k e)⟩)
      have hnm : bm ≠ gw := fun e => (HS3.out.m.ne HWB3.out.k) e.symm
      have hnw : bw ≠ gw := fun e => (HS3.out.t.ne HWB3.out.k) e.symm
      exact ⟨rfl, _, ⟨hcb.far HWB3.out.eg (fun e => HGW.out e.symm) hnm hnw 0 _⟩, ⟨HWB3.out.eg, blk_put KG.out 0 _ rfl, Kd.Q_far (p := ⟨gw, 0, none⟩) ho (fun _ hk => hk.2) _⟩, ⟨(Kept.of_grown HG6.out (HK3.out.below HB5.out) (fun k e => .inl (.inr (.inr e.symm)))).setCell (.inl (.inr (.inl rfl))) _⟩⟩
  case rest =>
    obtain ⟨rfl, v1, HS7, HW7, HK7⟩ := hcut
    clear zg
    go_upto_region 17 with (fail)
    have hlen : (F ++ [x]).length = F.length + 1 := by simp
    have hpos : 0 < (F ++ [x]).length := by omega
    obtain ⟨g7, o7, c7, ev7, hg7, hg8, _⟩ := Kd.Q_form HW7.out.o hpos
    subst ev7
    have hcap := (Kd.Q_reads' HW7.out.o).2.1
    go_cut [15] (fun v15 Wx => v15 = .pointer (some ⟨gw, 0, none⟩) ∧ ∃ v2 : Value, Aside0 (CB w Wx gc bm bw 5 [] [(ip, gw)]) ∧ Aside0 (WB w Wx gw ok v2 (last4 (F ++ [x])) (-5)) ∧ Aside0 (Kept w3 Wx (fun k => k = gc ∨ k = gw ∨ some k = (Value.slice A1 F.length c1).ownBlock)))
    case first =>
      have hN : F.length = 0 ∨ F.length = 1 ∨ F.length = 2 ∨ F.length = 3 ∨ F.length = 4 := by have := HF.out; omega
      have hw7 := HW7.out
      rw [hlen] at hw7 hcap
      have FL := Aside0.mk hlen
      clear hlen hpos
      rcases hN with hN | hN | hN | hN | hN
      all_goals
        have HNN := Aside0.mk hN
        rw [hN] at hw7 hcap
        have HW8 := Aside0.mk hw7
        have zg : wc.cell? ⟨gw, 0, none⟩ = some _ := (blk_cell hw7.k 0).trans rfl
        have fg : wc.frozen? ⟨gw, 0, none⟩ = false := blk_frozen hw7.k 0
        have n0 : (c7 = 0) = False := eq_false (by omega)
        have HCP := Aside0.mk hcap
        clear hw7 hN
      · go_wp2
        go_region
        go_wp2
        go_meet
        have h4 : last4 (F ++ [x]) = F ++ [x] := by unfold last4; rw [FL.out, HNN.out]; rfl
        rw [h4]
        exact ⟨rfl, _, ⟨(HS7.out.far HW7.out.eg (fun e => HGW.out e.symm) (fun e => (HS7.out.m.ne HW7.out.k) e.symm) (fun e => (HS7.out.t.ne HW7.out.k) e.symm) 0 _).drew⟩, ⟨(show WB w (wc.setCell ⟨gw, 0, none⟩ _) gw ok _ (F ++ [x]) (-5) from ⟨HW8.out.eg, blk_put HW8.out.k 0 _ rfl, Kd.Q_far (p := ⟨gw, 0, none⟩) HW8.out.o (fun _ hk => hk.2) _⟩).step (below_drew (Below.refl _ _))⟩, ⟨(HK7.out.setCell (.inl (.inr (.inl rfl))) _).drew⟩⟩
      · go_wp2
        go_region
        go_wp2
        go_meet
        have h4 : last4 (F ++ [x]) = F ++ [x] := by unfold last4; rw [FL.out, HNN.out]; rfl
        rw [h4]
        exact ⟨rfl, _, ⟨(HS7.out.far HW7.out.eg (fun e => HGW.out e.symm) (fun e => (HS7.out.m.ne HW7.out.k) e.symm) (fun e => (HS7.out.t.ne HW7.out.k) e.symm) 0 _).drew⟩, ⟨(show WB w (wc.setCell ⟨gw, 0, none⟩ _) gw ok _ (F ++ [x]) (-5) from ⟨HW8.out.eg, blk_put HW8.out.k 0 _ rfl, Kd.Q_far (p := ⟨gw, 0, none⟩) HW8.out.o (fun _ hk => hk.2) _⟩).step (below_drew (Below.refl _ _))⟩, ⟨(HK7.out.setCell (.inl (.inr (.inl rfl))) _).drew⟩⟩
      · go_wp2
        go_region
        go_wp2
        go_meet
        have h4 : last4 (F ++ [x]) = F ++ [x] := by unfold last4; rw [FL.out, HNN.out]; rfl
        rw [h4]
        exact ⟨rfl, _, ⟨(HS7.out.far HW7.out.eg (fun e => HGW.out e.symm) (fun e => (HS7.out.m.ne HW7.out.k) e.symm) (fun e => (HS7.out.t.ne HW7.out.k) e.symm) 0 _).drew⟩, ⟨(show WB w (wc.setCell ⟨gw, 0, none⟩ _) gw ok _ (F ++ [x]) (-5) from ⟨HW8.out.eg, blk_put HW8.out.k 0 _ rfl, Kd.Q_far (p := ⟨gw, 0, none⟩) HW8.out.o (fun _ hk => hk.2) _⟩).step (below_drew (Below.refl _ _))⟩, ⟨(HK7.out.setCell (.inl (.inr (.inl rfl))) _).drew⟩⟩
      · go_wp2
        go_region
        go_wp2
        go_meet
        have h4 : last4 (F ++ [x]) = F ++ [x] := by unfold last4; rw [FL.out, HNN.out]; rfl
        rw [h4]
        exact ⟨rfl, _, ⟨(HS7.out.far HW7.out.eg (fun e => HGW.out e.symm) (fun e => (HS7.out.m.ne HW7.out.k) e.symm) (fun e => (HS7.out.t.ne HW7.out.k) e.symm) 0 _).drew⟩, ⟨(show WB w (wc.setCell ⟨gw, 0, none⟩ _) gw ok _ (F ++ [x]) (-5) from ⟨HW8.out.eg, blk_put HW8.out.k 0 _ rfl, Kd.Q_far (p := ⟨gw, 0, none⟩) HW8.out.o (fun _ hk => hk.2) _⟩).step (below_drew (Below.refl _ _))⟩, ⟨(HK7.out.setCell (.inl (.inr (.inl rfl))) _).drew⟩⟩
      · have n1 : (c7 = 1) = False := eq_false (by have := HCP.out; omega)
        go_wp2
        go_region
        go_wp2
        go_meet
        have h4 : last4 (F ++ [x]) = (F ++ [x]).drop 1 := by unfold last4; rw [FL.out, HNN.out]
        rw [h4]
        have hq := Kd.Q_drop (k := 1) HW8.out.o (by rw [FL.out, HNN.out]; omega)
        rw [if_neg (by have := HCP.out; omega)] at hq
        exact ⟨rfl, _, ⟨(HS7.out.far HW7.out.eg (fun e => HGW.out e.symm) (fun e => (HS7.out.m.ne HW7.out.k) e.symm) (fun e => (HS7.out.t.ne HW7.out.k) e.symm) 0 _).drew⟩, ⟨(show WB w (wc.setCell ⟨gw, 0, none⟩ (.slice (some ⟨g7, o7 + 1, none⟩) 4 (c7 - 1))) gw ok (.slice (some ⟨g7, o7 + 1, none⟩) 4 (c7 - 1)) ((F ++ [x]).drop 1) (-5) from ⟨HW8.out.eg, blk_put HW8.out.k 0 _ rfl, Kd.Q_far (p := ⟨gw, 0, none⟩) hq (fun _ hk => hk.2) _⟩).step (below_drew (Below.refl _ _))⟩, ⟨(HK7.out.setCell (.inl (.inr (.inl rfl))) _).drew⟩⟩
    case rest =>
      obtain ⟨rfl, v2, HS9, HW9, HK9⟩ := hcut
      clear HW7 HS7 HK7 hcap hpos hlen hg7 hg8
      have zg : wc.cell? ⟨gw, 1, none⟩ = some (.int .i64 (-5)) := (blk_cell HW9.out.k 1).trans rfl
      have fg : wc.frozen? ⟨gw, 1, none⟩ = false := blk_frozen HW9.out.k 1
      have zc : wc.cell? ⟨gc, 1, none⟩ = some (.int .i64 10) := (blk_cell HS9.out.k 1).trans rfl
      go_wp2
      go_quiet (fail)
      go_wp2
      have hw9 := HW9.out.step (pw_below_drewN (Below.refl _ _) nq)
      have hs9 := HS9.out.drewN nq
      have h4 : last4 (F ++ [x]) = [x] := by rw [HF0.out]; rfl
      rw [h4] at hw9
      refine bodyPost_ret (v := .tuple #[.int .u64 0, .bool false, .bool true, .int .i64 0]) (by simp [results, askRes]) rfl ⟨rfl, gw, v2, ?_, ?_⟩
      · exact hs9.far hw9.eg (fun e => HGW.out e.symm) (fun e => (hs9.m.ne hw9.k) e.symm) (fun e => (hs9.t.ne hw9.k) e.symm) 1 _
      · exact ⟨hw9.eg, blk_put hw9.k 1 _ rfl, Kd.Q_far (p := ⟨gw, 1, none⟩) hw9.o (fun _ hk => hk.2) _⟩
end Go.Proofs.Ytpjelffgakgjaaa.Q
