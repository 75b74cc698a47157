/- routes: the walk of Ask. No condition. -/
import Derived.Test.YtpjelffgakgjaaaRoutesC
namespace Go.Proofs.Ytpjelffgakgjaaa.Q
set_option linter.unusedVariables false
set_option linter.unusedSimpArgs false
open Go.RowKit Go.Maps Go.Proofs.YtpjelffgakgjaaaW.PrintWords Go.Proofs.YtpjelffgakgjaaaW.PrintLast Go.Proofs.YtpjelffgakgjaaaW.PrintMore Go.Proofs.YtpjelffgakgjaaaW.MapIs
attribute [local go_sem] max2_int min2_int max_two min_two max_three min_three max_four min_four   -- for this text's walks alone
abbrev kF : Kd (List Int) := Kd.slice 5 (Kd.int .u8)
theorem CB.grown {w W W' : World} {gc bm bw : Nat} {now : Int} {M : List (Int × (Int × Int))} {T : List (Int × Nat)} (h : CB w W gc bm bw now M T) {row : Option Nat} (hB : Below w.heap.size w W') (hg : W.grownBy W' row) (hr : ∀ k, row = some k → k ≠ gc ∧ k ≠ bm ∧ k ≠ bw) : CB w W' gc bm bw now M T :=
  ⟨hB, h.eg, h.em, h.ew, blk_grown h.k hg (fun e => (hr gc e.symm).1 rfl), h.m.kept hg (fun e => (hr bm e.symm).2.1 rfl), h.t.kept hg (fun e => (hr bw e.symm).2.2 rfl), h.ne⟩
theorem CB.far {w W : World} {gc bm bw g : Nat} {now : Int} {M : List (Int × (Int × Int))} {T : List (Int × Nat)} (h : CB w W gc bm bw now M T) (hg : w.heap.size ≤ g) (n1 : gc ≠ g) (n2 : bm ≠ g) (n3 : bw ≠ g) (i : Nat) (u : Value) : CB w (W.setCell ⟨g, i, none⟩ u) gc bm bw now M T :=
  ⟨below_set h.B hg, h.eg, h.em, h.ew, blk_far (p := ⟨g, i, none⟩) h.k n1 u, h.m.setCell (a := ⟨g, i, none⟩) n2 u, h.t.setCell (a := ⟨g, i, none⟩) n3 u, h.ne⟩
/-- What waits: its box, and its frames. -/
structure WB (w W : World) (gw : Nat) (ok : Nat → Prop) (v : Value) (F : List (List Int)) (asked : Int) : Prop where
  eg : w.heap.size ≤ gw
  k : W.heap[gw]? = some (.cells #[v, .int .i64 asked] 80 (0, 0))
  o : kF.Q 56 W w.heap.size (fun k => ok k ∧ k ≠ gw) v F
section
variable {w W W' : World} {gw : Nat} {ok : Nat → Prop} {v : Value} {F : List (List Int)} {asked : Int}
theorem WB.step (h : WB w W gw ok v F asked) (hb : Below W.heap.size W W') : WB w W' gw ok v F asked := ⟨h.eg, blk_below h.k hb, Kd.Q_below h.o hb⟩
theorem WB.grown (h : WB w W gw ok v F asked) {row : Option Nat} (hg : W.grownBy W' row) (hr : ∀ k, row = some k → ¬ ok k ∧ k ≠ gw) : WB w W' gw ok v F asked :=
  ⟨h.eg, blk_grown h.k hg (fun e => (hr gw e.symm).2 rfl), Kd.Q_grown h.o hg (fun k ho e => (hr k e.symm).1 ho.1)⟩
theorem WB.far (h : WB w W gw ok v F asked) {g : Nat} (hg : ¬ ok g) (hne : g ≠ gw) (i : Nat) (u : Value) : WB w (W.setCell ⟨g, i, none⟩ u) gw ok v F asked :=
  ⟨h.eg, blk_far (p := ⟨g, i, none⟩) h.k (fun e => hne e.symm) u, Kd.Q_far (p := ⟨g, i, none⟩) h.o (fun k ho e => hg (by have e2 : k = g := e; rw [← e2]; exact ho.1)) u⟩
end
theorem askRes : Try.f17.results = #[.tmp 8, .tmp 9, .tmp 10, .tmp 11] := by kernel_rfl
set_option maxHeartbeats 8000000 in
set_option maxRecDepth 100000 in
theorem Ask_long {w W : World} {gc bm bw : Nat} {now : Int} {M : List (Int × (Int × Int))} {T : List (Int × Nat)} (h : CB w W gc bm bw now M T) (ip n2 : Int) (A : Option Addr) (n c : Nat) (h0 : now ≤ n2) (h1 : n2 ≤ 1099511627776) (hn : 65535 < n) :
    Calls Try.prog 17 #[.pointer (some ⟨gc, 0, none⟩), .int .u32 ip, .slice A n c, .int .i64 n2] W fun e W' => e = .returned (.tuple #[.int .u64 0, .bool false, .bool false, .int .i64 5]) ∧ W = W' := by
  have hu := Try.underlying75
  have HC := Aside0.mk (come_in h n2 h0 h1)
  have d0 : decide ((65535 : Int) < (n : Int)) = true := decide_eq_true (by omega)
  clear h h0 h1 hn
  go_enter Try.func17, Try.ntmps17
  go_wp2_with (go_at_call 25; (with_reducible refine Calls.mono HC.out ?_); rintro e w2 ⟨rfl, rfl⟩)
  exact bodyPost_ret (v := .tuple #[.int .u64 0, .bool false, .bool false, .int .i64 5]) (by simp [results, askRes]) rfl ⟨rfl, rfl⟩
theorem infoF : (Try.prog.info? 56).map (fun i => (i.zero, i.size, i.bytes)) = some (some (.slice none 0 0), 1, 24) := by kernel_rfl
def last4 (F : List (List Int)) : List (List Int) := F.drop (F.length - 4)
set_option maxHeartbeats 8000000 in
set_option maxRecDepth 100000 in
theorem Ask_next {w W : World} {gc bm bw gw : Nat} {ip : Int} {ok : Nat → Prop} {v : Value} {F : List (List Int)} (h : CB w W gc bm bw 5 [] [(ip, gw)]) (hw : WB w W gw ok v F 5) (hok : ∀ k, W.heap.size ≤ k → ok k) (nc : ¬ ok gc) (nm : ¬ ok bm) (nb : ¬ ok bw) (hF : F.length ≤ 4)
    (A : Option Addr) (c : Nat) (x : List Int) (hx : ∀ W', Below w.heap.size w W' → Kd.C (Kd.int .u8) W' A x.length x) (hxc : x.length ≤ c) (hxn : x.length ≤ 65535) (hi0 : 0 ≤ ip) (hi1 : ip < 4294967296) :
    Calls Try.prog 17 #[.pointer (some ⟨gc, 0, none⟩), .int .u32 ip, .slice A x.length c, .int .i64 5] W fun e W' => e = .returned (.tuple #[.int .u64 0, .bool false, .bool false, .int .i64 0]) ∧ CB w W' gc bm bw 5 [] [(ip, gw)] ∧ (∃ v', WB w W' gw ok v' (last4 (F ++ [x])) 5) ∧ Kept W W' (fun k => k = gc ∨ k = gw ∨ some k = v.ownBlock) := by
  have hu := Try.underlying75
  have hu80 := Try.underlying80
  have HCO := Aside0.mk (come_in h 5 (by omega) (by omega))
  have d0 : decide ((65535 : Int) < (x.length : Int)) = false := decide_eq_false (by omega)
  have z := h.z
  obtain ⟨z0, z1, z2, z3, z4, f2⟩ := z
  have HS := Aside0.mk (h.put 5)
  have HN := Aside0.mk h.nw
  have hgw : gw ≠ gc := fun e => by
    have h1 := hw.k
    rw [e, h.k] at h1
    injection h1 with h1
    injection h1 with _ h2
    exact absurd h2 (by decide)
  have HWB := Aside0.mk (hw.far nc (fun e => hgw e.symm) 2 (.int .i64 5))
  have HX := Aside0.mk hx
  have HXC := Aside0.mk hxc
  have HF := Aside0.mk hF
  have HOK := Aside0.mk hok
  have HSZ := Aside0.mk (show (W.setCell ⟨gc, 2, none⟩ (.int .i64 5)).heap.size = W.heap.size by simp [World.setCell])
  have HK0 := Aside0.mk ((Kept.refl W (fun k => k = gc ∨ k = gw ∨ some k = v.ownBlock)).setCell (p := ⟨gc, 2, none⟩) (.inl (.inl rfl)) (.int .i64 5))
  have NC := Aside0.mk nc
  have NM := Aside0.mk nm
  have NB := Aside0.mk nb
  have HGW := Aside0.mk hgw
  have clo : bytes_Clone.f x = some x := by unfold bytes_Clone.f; rw [if_pos (by omega)]
  have HCL := Aside0.mk clo
  clear h hw hx hxc hxn hF hok nc nm nb hgw clo
  go_enter Try.func17, Try.ntmps17
  go_upto_region 7 with (go_at_call 25; (with_reducible refine Calls.mono HCO.out ?_); rintro e w2 ⟨rfl, rfl⟩)
  have HKN := Aside0.mk (Known_none HS.out ip 5 hi0 hi1 (by omega) (by omega))
  clear z0 z1 z2 z3 z4 f2
  generalize W.setCell ⟨gc, 2, none⟩ (.int .i64 5) = W1 at HS HWB HSZ HK0 HKN ⊢
  obtain ⟨kl, hkl⟩ := ipKey ip hi0 hi1
  go_upto_region 16 with (go_at_call 19; (with_reducible refine Calls.mono HKN.out ?_); rintro e w3 ⟨rfl, b3⟩; have HS3 := Aside0.mk (HS.out.step b3); have HWB3 := Aside0.mk (HWB.out.step b3); have HK3 := Aside0.mk (HK0.out.below b3); have HSZ3 := Aside0.mk (show W.heap.size ≤ w3.heap.size by have h1 := HSZ.out; have h2 := b3.size; omega); clear b3; obtain ⟨z0, z1, z2, z3, z4, f2⟩ := HS3.out.z; have hlk : (Instr.lookup 73 (.map (some bw)) (.int .u32 ip) true).run Try.prog w3 = .ok (.tuple #[.pointer (some ⟨gw, 0, none⟩), .bool true]) w3 := (by have hl := HS3.out.t.look ipLaw Try.underlying73 (zeroP w3) hkl; rw [show getM [(ip, gw)] ip = some gw by simp [getM]] at hl; exact hl))
  clear z0 z1 z2 z3 z4 f2 hlk hkl HSZ HS HWB HK0 HKN HCO d0
  have zg : w3.cell? ⟨gw, 0, none⟩ = some v := (blk_cell HWB3.out.k 0).trans rfl
  obtain ⟨A1, c1, ev, hc1⟩ := Kd.Q_slice HWB3.out.o
  subst ev
  have HCC := fun (W' : World) (hb : Below w3.heap.size w3 W') => bytes_Clone.calls A c x x W' (HX.out W' (below_step HS3.out.B hb)) HXC.out HCL.out
  have HC2 := Aside0.mk HCC
  clear HCC hc1
  have zh := HWB3.out.k
  have HZH := Aside0.mk zh
  have HFR := Aside0.mk (show ∀ k, w3.heap.size ≤ k → ok k ∧ k ≠ gw from fun k hk => ⟨HOK.out k (Nat.le_trans HSZ3.out hk), fun e => by subst e; exact absurd (blk_lt HWB3.out.k) (Nat.not_lt.2 hk)⟩)
  have HNV := Aside0.mk (show some gw ≠ (Value.slice A1 F.length c1).ownBlock from fun e => (HWB3.out.o.1 gw e.symm).2 rfl)
  clear zh
  go_cut [15] (fun v15 Wx => v15 = .pointer (some ⟨gw, 0, none⟩) ∧ ∃ v1 : Value, Aside0 (CB w Wx gc bm bw 5 [] [(ip, gw)]) ∧ Aside0 (WB w Wx gw ok v1 (F ++ [x]) 5) ∧ Aside0 (Kept W Wx (fun k => k = gc ∨ k = gw ∨ some k = (Value.slice A1 F.length c1).ownBlock)))
  case first =>
    go_region_law (first
      | (refine goes_ Try.func26 (by kernel_rfl) rfl #[.slice A x.length c] (by rfl) rfl rfl (by (try simp only [List.map_toArray, List.map_cons, List.map_nil]); first | done | rfl) ?_; with_reducible refine (HC2.out _ (below_drew (Below.refl _ _))).mono ?_; rintro e w5 ⟨v0, rfl, hr5, b5⟩; refine ⟨_, rfl, ?_⟩; obtain ⟨A5, c5, ev5⟩ := Kd.R_slice hr5; subst ev5; have hb5 : Below w3.heap.size w3 w5 := below_step (below_drew (Below.refl _ _)) b5; have HR5 := Aside0.mk hr5; have HB5 := Aside0.mk hb5; have zg5 : w5.cell? ⟨gw, 0, none⟩ = some (.slice A1 F.length c1) := (blk_cell (blk_below HZH.out hb5) 0).trans rfl; have zg6 : (w5.alloc (.cells #[.slice A5 x.length c5] 56)).cell? ⟨gw, 0, none⟩ = some (.slice A1 F.length c1) := (blk_cell (blk_alloc (blk_below HZH.out hb5) _) 0).trans rfl; clear hr5 b5 hb5)
      | (refine Kd.Q_append_step kF (w0 := w) w.heap.size (by rfl) (.tmp 75) (.tmp 78) 50 56 (.slice none 0 0) 24 rfl Try.underlying50 infoF rfl (by decide) (by omega) (.slice A1 F.length c1) F x [.slice A5 x.length c5] (fun k => ok k ∧ k ≠ gw) (fun k => w3.heap.size ≤ k) (by rfl) (by rfl) ?aP ?aK ?aF ?aO ?aB ?aS ?aL ?_; (case aP => exact ⟨_, rfl, Kd.R_lower (Kd.R_mono (Kd.R_bound HR5.out) (fun k hk => hk.2.1)) (below_size HS3.out.drew.B)⟩); (case aK => intro k hk; exact ⟨HFR.out k hk, fun e => absurd (Kd.Q_lt HWB3.out.o k e.symm) (Nat.not_lt.2 hk)⟩); (case aF => intro k hk; exact HFR.out k (Nat.le_trans HB5.out.size hk)); (case aO => exact Kd.Q_below HWB3.out.o HB5.out); (case aB => exact below_step HS3.out.B HB5.out); (case aS => exact below_size (below_step HS3.out.B HB5.out)); (case aL => have := HF.out; omega); intro v1 w6 ho hb hg hat; obtain ⟨A6, c6, e6, hc6⟩ := Kd.Q_slice ho; subst e6; have HO6 := Aside0.mk ho; have HB6 := Aside0.mk hb; have HG6 := Aside0.mk hg; have HC6 := Aside0.mk hc6; have hkg := blk_grown (blk_below HZH.out HB5.out) hg HNV.out; have KG := Aside0.mk hkg; have zg7 : w6.cell? ⟨gw, 0, none⟩ = some (.slice A1 F.length c1) := (blk_cell hkg 0).trans rfl; have fg7 : w6.frozen? ⟨gw, 0, none⟩ = false := blk_frozen hkg 0; clear ho hb hg hat hc6 hkg zg zg5 zg6))
    all_goals
      go_wp2
      go_meet
      have hel : (F ++ [x]).length = F.length + 1 := by simp
      have ho := HO6.out
      rw [hel] at ho
      have hbl : ∀ k, (Value.slice A1 F.length c1).ownBlock = some k → ok k := fun k e => (HWB3.out.o.1 k e).1
      have hcb := (HS3.out.step HB5.out).grown HB6.out HG6.out (fun k e => ⟨fun e2 => NC.out (e2 ▸ hbl k e), fun e2 => NM.out (e2 ▸ hbl k e), fun e2 => NB.out (e2 ▸ hbl k e)⟩)
      have hnm : bm ≠ gw := fun e => (HS3.out.m.ne HWB3.out.k) e.symm
      have hnw : bw ≠ gw := fun e => (HS3.out.t.ne HWB3.out.k) e.symm
      exact ⟨rfl, _, ⟨hcb.far HWB3.out.eg (fun e => HGW.out e.symm) hnm hnw 0 _⟩, ⟨HWB3.out.eg, blk_put KG.out 0 _ rfl, Kd.Q_far (p := ⟨gw, 0, none⟩) ho (fun _ hk => hk.2) _⟩, ⟨(Kept.of_grown HG6.out (HK3.out.below HB5.out) (fun k e => .inl (.inr (.inr e.symm)))).setCell (.inl (.inr (.inl rfl))) _⟩⟩
  case rest =>
    obtain ⟨rfl, v1, HS7, HW7, HK7⟩ := hcut
    clear zg
    go_upto_region 17 with (fail)
    have hlen : (F ++ [x]).length = F.length + 1 := by simp
    have hpos : 0 < (F ++ [x]).length := by omega
    obtain ⟨g7, o7, c7, ev7, hg7, hg8, _⟩ := Kd.Q_form HW7.out.o hpos
    subst ev7
    have hcap := (Kd.Q_reads' HW7.out.o).2.1
    go_cut [15] (fun v15 Wx => v15 = .pointer (some ⟨gw, 0, none⟩) ∧ ∃ v2 : Value, Aside0 (CB w Wx gc bm bw 5 [] [(ip, gw)]) ∧ Aside0 (WB w Wx gw ok v2 (last4 (F ++ [x])) 5) ∧ Aside0 (Kept W Wx (fun k => k = gc ∨ k = gw ∨ some k = (Value.slice A1 F.length c1).ownBlock)))
    case first =>
      have hN : F.length = 0 ∨ F.length = 1 ∨ F.length = 2 ∨ F.length = 3 ∨ F.length = 4 := by have := HF.out; omega
      have hw7 := HW7.out
      rw [hlen] at hw7 hcap
      have FL := Aside0.mk hlen
      clear hlen hpos
      rcases hN with hN | hN | hN | hN | hN
      all_goals
        have HNN := Aside0.mk hN
        rw [hN] at hw7 hcap
        have HW8 := Aside0.mk hw7
        have zg : wc.cell? ⟨gw, 0, none⟩ = some _ := (blk_cell hw7.k 0).trans rfl
        have fg : wc.frozen? ⟨gw, 0, none⟩ = false := blk_frozen hw7.k 0
        have n0 : (c7 = 0) = False := eq_false (by omega)
        have HCP := Aside0.mk hcap
        clear hw7 hN
      · go_wp2
        go_region
        go_wp2
        go_meet
        have h4 : last4 (F ++ [x]) = F ++ [x] := by unfold last4; rw [FL.out, HNN.out]; rfl
        rw [h4]
        exact ⟨rfl, _, ⟨(HS7.out.far HW7.out.eg (fun e => HGW.out e.symm) (fun e => (HS7.out.m.ne HW7.out.k) e.symm) (fun e => (HS7.out.t.ne HW7.out.k) e.symm) 0 _).drew⟩, ⟨(show WB w (wc.setCell ⟨gw, 0, none⟩ _) gw ok _ (F ++ [x]) 5 from ⟨HW8.out.eg, blk_put HW8.out.k 0 _ rfl, Kd.Q_far (p := ⟨gw, 0, none⟩) HW8.out.o (fun _ hk => hk.2) _⟩).step (below_drew (Below.refl _ _))⟩, ⟨(HK7.out.setCell (.inl (.inr (.inl rfl))) _).drew⟩⟩
      · go_wp2
        go_region
        go_wp2
        go_meet
        have h4 : last4 (F ++ [x]) = F ++ [x] := by unfold last4; rw [FL.out, HNN.out]; rfl
        rw [h4]
        exact ⟨rfl, _, ⟨(HS7.out.far HW7.out.eg (fun e => HGW.out e.symm) (fun e => (HS7.out.m.ne HW7.out.k) e.symm) (fun e => (HS7.out.t.ne HW7.out.k) e.symm) 0 _).drew⟩, ⟨(show WB w (wc.setCell ⟨gw, 0, none⟩ _) gw ok _ (F ++ [x]) 5 from ⟨HW8.out.eg, blk_put HW8.out.k 0 _ rfl, Kd.Q_far (p := ⟨gw, 0, none⟩) HW8.out.o (fun _ hk => hk.2) _⟩).step (below_drew (Below.refl _ _))⟩, ⟨(HK7.out.setCell (.inl (.inr (.inl rfl))) _).drew⟩⟩
      · go_wp2
        go_region
        go_wp2
        go_meet
        have h4 : last4 (F ++ [x]) = F ++ [x] := by unfold last4; rw [FL.out, HNN.out]; rfl
        rw [h4]
        exact ⟨rfl, _, ⟨(HS7.out.far HW7.out.eg (fun e => HGW.out e.symm) (fun e => (HS7.out.m.ne HW7.out.k) e.symm) (fun e => (HS7.out.t.ne HW7.out.k) e.symm) 0 _).drew⟩, ⟨(show WB w (wc.setCell ⟨gw, 0, none⟩ _) gw ok _ (F ++ [x]) 5 from ⟨HW8.out.eg, blk_put HW8.out.k 0 _ rfl, Kd.Q_far (p := ⟨gw, 0, none⟩) HW8.out.o (fun _ hk => hk.2) _⟩).step (below_drew (Below.refl _ _))⟩, ⟨(HK7.out.setCell (.inl (.inr (.inl rfl))) _).drew⟩⟩
      · go_wp2
        go_region
        go_wp2
        go_meet
        have h4 : last4 (F ++ [x]) = F ++ [x] := by unfold last4; rw [FL.out, HNN.out]; rfl
        rw [h4]
        exact ⟨rfl, _, ⟨(HS7.out.far HW7.out.eg (fun e => HGW.out e.symm) (fun e => (HS7.out.m.ne HW7.out.k) e.symm) (fun e => (HS7.out.t.ne HW7.out.k) e.symm) 0 _).drew⟩, ⟨(show WB w (wc.setCell ⟨gw, 0, none⟩ _) gw ok _ (F ++ [x]) 5 from ⟨HW8.out.eg, blk_put HW8.out.k 0 _ rfl, Kd.Q_far (p := ⟨gw, 0, none⟩) HW8.out.o (fun _ hk => hk.2) _⟩).step (below_drew (Below.refl _ _))⟩, ⟨(HK7.out.setCell (.inl (.inr (.inl rfl))) _).drew⟩⟩
      · have n1 : (c7 = 1) = False := eq_false (by have := HCP.out; omega)
        go_wp2
        go_region
        go_wp2
        go_meet
        have h4 : last4 (F ++ [x]) = (F ++ [x]).drop 1 := by unfold last4; rw [FL.out, HNN.out]
        rw [h4]
        have hq := Kd.Q_drop (k := 1) HW8.out.o (by rw [FL.out, HNN.out]; omega)
        rw [if_neg (by have := HCP.out; omega)] at hq
        exact ⟨rfl, _, ⟨(HS7.out.far HW7.out.eg (fun e => HGW.out e.symm) (fun e => (HS7.out.m.ne HW7.out.k) e.symm) (fun e => (HS7.out.t.ne HW7.out.k) e.symm) 0 _).drew⟩, ⟨(show WB w (wc.setCell ⟨gw, 0, none⟩ (.slice (some ⟨g7, o7 + 1, none⟩) 4 (c7 - 1))) gw ok (.slice (some ⟨g7, o7 + 1, none⟩) 4 (c7 - 1)) ((F ++ [x]).drop 1) 5 from ⟨HW8.out.eg, blk_put HW8.out.k 0 _ rfl, Kd.Q_far (p := ⟨gw, 0, none⟩) hq (fun _ hk => hk.2) _⟩).step (below_drew (Below.refl _ _))⟩, ⟨(HK7.out.setCell (.inl (.inr (.inl rfl))) _).drew⟩⟩
    case rest =>
      obtain ⟨rfl, v2, HS9, HW9, HK9⟩ := hcut
      clear HW7 HS7 HK7 hcap hpos hlen hg7 hg8
      have zg : wc.cell? ⟨gw, 1, none⟩ = some (.int .i64 5) := (blk_cell HW9.out.k 1).trans rfl
      have zc : wc.cell? ⟨gc, 1, none⟩ = some (.int .i64 10) := (blk_cell HS9.out.k 1).trans rfl
      go_wp2
      go_quiet (fail)
      go_wp2
      exact bodyPost_ret (v := .tuple #[.int .u64 0, .bool false, .bool false, .int .i64 0]) (by simp [results, askRes]) rfl ⟨rfl, HS9.out.drewN nq, ⟨v2, HW9.out.step (pw_below_drewN (Below.refl _ _) nq)⟩, HK9.out.drewN nq⟩
end Go.Proofs.Ytpjelffgakgjaaa.Q
