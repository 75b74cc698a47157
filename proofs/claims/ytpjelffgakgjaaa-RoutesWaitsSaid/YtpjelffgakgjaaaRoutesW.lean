/- routes: the walk of the law RoutesWaits. No condition. -/
import Derived.Test.YtpjelffgakgjaaaRoutesL
import Derived.Test.YtpjelffgakgjaaaRoutesN
namespace Go.Proofs.Ytpjelffgakgjaaa.Q
set_option linter.unusedVariables false
set_option linter.unusedSimpArgs false
open Go.RowKit Go.Maps Go.Proofs.YtpjelffgakgjaaaW.PrintWords Go.Proofs.YtpjelffgakgjaaaW.PrintLast Go.Proofs.YtpjelffgakgjaaaW.PrintMore Go.Proofs.YtpjelffgakgjaaaW.MapIs
/-- Slices that lead to rows of the world w0. -/
def kS (w0 : World) : Kd (List Int) where
  sz := 1
  E := []
  K := fun _ x cs => ∃ A c, cs = [.slice A x.length c] ∧ x.length ≤ c ∧ (Kd.int .u8).C w0 A x.length x
  M := fun _ _ _ x cs => ∃ A c, cs = [.slice A x.length c] ∧ x.length ≤ c ∧ (Kd.int .u8).C w0 A x.length x
  K_len := by
    rintro w x cs ⟨A, c, rfl, _⟩
    rfl
  K_one := by
    rintro w x cs ⟨A, c, rfl, _⟩ u hu
    rw [List.mem_singleton.1 hu]
    rfl
  K_below := fun _ h => h
  K_of_M := fun h => h
  M_mono := fun _ h => h
  M_bound := fun h => h
  M_move := fun _ h => h
  M_lower := fun _ h => h
theorem kS_ok {w0 W : World} {e base : Nat} {ok ok' : Nat → Prop} {v : Value} {xs : List (List Int)} (h : (kS w0).R e W base ok v xs) (h2 : ∀ k, v.ownBlock = some k → ok' k) : (kS w0).R e W base ok' v xs := ⟨h2, h.2⟩
theorem kS_read {w0 W : World} (hb : Below w0.heap.size w0 W) {A : Option Addr} {n : Nat} {xs : List (List Int)} (h : (kS w0).C W A n xs) : kF.C W A n xs :=
  Kd.C_read (d := kF) (dm := kS w0) rfl (fun x cs ⟨A, c, h1, h2, h3⟩ => ⟨A, c, h1, h2, Kd.C_below h3 hb⟩) h
def okW (gc bm bw : Nat) (u : Value) : Nat → Prop := fun k => (k ≠ gc ∧ k ≠ bm ∧ k ≠ bw) ∧ some k ≠ u.ownBlock
def okU (gc bm bw gw : Nat) (v : Value) : Nat → Prop := fun k => (k ≠ gc ∧ k ≠ bm ∧ k ≠ bw ∧ k ≠ gw) ∧ some k ≠ v.ownBlock
/-- The cache waits for the address, with the last four of the frames kept. -/
structure LS (w w1 W : World) (ip : Int) (gc bm bw gw : Nat) (v u : Value) (K : List (List Int)) : Prop where
  c : CB w1 W gc bm bw 5 [] [(ip, gw)]
  f : WB w1 W gw (okW gc bm bw u) v (last4 K) 5
  k : (kS w).R 56 W w1.heap.size (okU gc bm bw gw v) u K
section
variable {w w1 W W' : World} {ip : Int} {gc bm bw gw : Nat} {v u : Value} {K : List (List Int)}
theorem LS.step (h : LS w w1 W ip gc bm bw gw v u K) (hb : Below W.heap.size W W') : LS w w1 W' ip gc bm bw gw v u K := ⟨h.c.step hb, h.f.step hb, Kd.R_below h.k hb⟩
theorem CB.fresh {now : Int} {M : List (Int × (Int × Int))} {T : List (Int × Nat)} (h : CB w W gc bm bw now M T) : ∀ k, W.heap.size ≤ k → k ≠ gc ∧ k ≠ bm ∧ k ≠ bw := fun k hk => ⟨fun e => by subst e; exact absurd (blk_lt h.k) (Nat.not_lt.2 hk), fun e => by subst e; exact absurd h.m.lt (Nat.not_lt.2 hk), fun e => by subst e; exact absurd h.t.lt (Nat.not_lt.2 hk)⟩
/-- Behind Ask, ahead of the append: the frames are one ahead. -/
structure LM (w w1 W : World) (ip : Int) (gc bm bw gw : Nat) (v u : Value) (K : List (List Int)) (x : List Int) : Prop where
  c : CB w1 W gc bm bw 5 [] [(ip, gw)]
  f : WB w1 W gw (okW gc bm bw u) v (last4 (K ++ [x])) 5
  k : (kS w).R 56 W w1.heap.size (okU gc bm bw gw v) u K
theorem LM.step {x : List Int} (h : LM w w1 W ip gc bm bw gw v u K x) (hb : Below W.heap.size W W') : LM w w1 W' ip gc bm bw gw v u K x := ⟨h.c.step hb, h.f.step hb, Kd.R_below h.k hb⟩
theorem LM.app {x : List Int} {u' : Value} (h : LM w w1 W ip gc bm bw gw v u K x) (ho : (kS w).R 56 W' w1.heap.size (okU gc bm bw gw v) u' (K ++ [x])) (hB : Below w1.heap.size w1 W') (hg : W.grownBy W' u.ownBlock) (hat : u'.ownBlock = u.ownBlock ∨ ∃ b, u'.ownBlock = some b ∧ W.heap.size ≤ b) : LS w w1 W' ip gc bm bw gw v u' (K ++ [x]) := by
  refine ⟨h.c.grown hB hg (fun k e => ?_), ⟨h.f.eg, blk_grown h.f.k hg (fun e => (h.k.1 gw e.symm).1.2.2.2 rfl), ?_⟩, ho⟩
  · have := (h.k.1 k e).1
    exact ⟨this.1, this.2.1, this.2.2.1⟩
  · have h1 : kF.Q 56 W w1.heap.size (fun k => ((k ≠ gc ∧ k ≠ bm ∧ k ≠ bw) ∧ k ≠ gw) ∧ some k ≠ u.ownBlock) v (last4 (K ++ [x])) := Kd.Q_mono h.f.o (fun k hk => ⟨⟨hk.1.1, hk.2⟩, hk.1.2⟩)
    exact Kd.Q_mono (Kd.Q_after h1 hg hat) (fun k hk => ⟨⟨hk.1.1, hk.2⟩, hk.1.2⟩)
end
theorem infoS : (Try.prog.info? 56).map (fun i => (i.zero, i.size, i.bytes)) = some (some (.slice none 0 0), 1, 24) := infoF
def keptOf (l : List (List Int)) : List (List Int) := l.filter (fun x => decide (x.length ≤ 65535))
def waitsOk (ip mac : Int) (l : List (List Int)) : Prop := (0 ≤ ip ∧ ip < 4294967296) ∧ 0 ≤ mac ∧ l.length * 24 ≤ 140737488351232 ∧ stopcockplain_SameLists.f 100000 (last4 (keptOf l)) (last4 (keptOf l)) = some true
instance (ip mac : Int) (l : List (List Int)) : Decidable (waitsOk ip mac l) := by unfold waitsOk; infer_instance
/-- What holds at each round's head. -/
def AtH (w w1 W : World) (ip : Int) (gc bm bw : Nat) (u : Value) (K : List (List Int)) : Prop :=
  (K = [] ∧ u = .slice none 0 0 ∧ CB w1 W gc bm bw 0 [] []) ∨ (K ≠ [] ∧ ∃ gw v, LS w w1 W ip gc bm bw gw v u K)
theorem AtH.step {w w1 W W' : World} {ip : Int} {gc bm bw : Nat} {u : Value} {K : List (List Int)} (h : AtH w w1 W ip gc bm bw u K) (hb : Below W.heap.size W W') : AtH w w1 W' ip gc bm bw u K := by
  rcases h with ⟨h1, h2, h3⟩ | ⟨h1, gw, v, h2⟩
  · exact .inl ⟨h1, h2, h3.step hb⟩
  · exact .inr ⟨h1, gw, v, h2.step hb⟩
theorem AtH.any {w w1 W : World} {ip : Int} {gc bm bw : Nat} {u : Value} {K : List (List Int)} (h : AtH w w1 W ip gc bm bw u K) : ∃ now T, now ≤ 5 ∧ CB w1 W gc bm bw now [] T := by
  rcases h with ⟨h1, h2, h3⟩ | ⟨h1, gw, v, h2⟩
  · exact ⟨0, [], by omega, h3⟩
  · exact ⟨5, _, by omega, h2.c⟩
theorem keptOf_snoc (l : List (List Int)) (x : List Int) : keptOf (l ++ [x]) = if x.length ≤ 65535 then keptOf l ++ [x] else keptOf l := by
  unfold keptOf
  rw [List.filter_append]
  by_cases c : x.length ≤ 65535 <;> simp [c]
theorem last4_last4 (K : List (List Int)) (x : List Int) : last4 (last4 K ++ [x]) = last4 (K ++ [x]) := by
  unfold last4
  by_cases c : K.length ≤ 4
  · rw [show K.length - 4 = 0 by omega, List.drop_zero]
  · have h1 : (List.drop (K.length - 4) K ++ [x]).length - 4 = 1 := by first | (simp; done) | (simp; omega)
    have h2 : (K ++ [x]).length - 4 = K.length - 3 := by first | (simp; done) | (simp; omega)
    rw [h1, h2, List.drop_append, List.drop_append, List.drop_drop]
    simp only [List.length_drop]
    rw [show K.length - 4 + 1 = K.length - 3 by omega, show 1 - (K.length - (K.length - 4)) = 0 by omega, show K.length - 3 - K.length = 0 by omega]
theorem last4_len (F : List (List Int)) : (last4 F).length ≤ 4 := by unfold last4; rw [List.length_drop]; omega
set_option maxHeartbeats 8000000 in
set_option maxRecDepth 100000 in
theorem waits_in (ip mac : Int) (A2 : Option Addr) (c2 : Nat) (l : List (List Int)) (w : World) (hr : kF.C w A2 l.length l) (hc : l.length ≤ c2) (hok : waitsOk ip mac l) :
    Calls Try.prog 5 #[.int .u32 ip, .int .u64 mac, .slice A2 l.length c2] w fun e w' => e = .returned (.bool true) ∧ Below w.heap.size w w' := by
  have hu := Try.underlying75
  have HOK := Aside0.mk hok
  have HC := Aside0.mk hc
  have HR := Aside0.mk hr
  clear hok hc hr
  by_cases cm : 281474976710655 < mac
  · have dm : decide (281474976710655 < mac) = true := decide_eq_true cm
    clear cm
    go_enter Try.func5, Try.ntmps5
    go_wp2_with (first
      | (go_at_call 6; (with_reducible refine Calls.mono (alive_in w) ?_); rintro e w1 ⟨rfl, b1⟩; have HB1 := Aside0.mk b1; clear b1)
      | (go_at_call 16; (with_reducible refine Calls.mono (NewCache_in w1) ?_); rintro e w2 ⟨gc, bm, bw, rfl, h1⟩; have HS := Aside0.mk h1; clear h1)
      | (go_at_call 8; (with_reducible refine Calls.mono (num_in _ _) ?_); rintro e w6 ⟨rfl, hdr⟩; have HS2 := Aside0.mk (HS.out.step hdr.below); clear hdr))
    go_ret
    exact ⟨rfl, below_step HB1.out HS2.out.B⟩
  · have dm : decide (281474976710655 < mac) = false := decide_eq_false cm
    have CM := Aside0.mk (show mac ≤ 281474976710655 by omega)
    clear cm
    go_enter Try.func5, Try.ntmps5
    go_wp2_with (first
      | (go_at_call 6; (with_reducible refine Calls.mono (alive_in w) ?_); rintro e w1 ⟨rfl, b1⟩; have HB1 := Aside0.mk b1; clear b1)
      | (go_at_call 16; (with_reducible refine Calls.mono (NewCache_in w1) ?_); rintro e w2 ⟨gc, bm, bw, rfl, h1⟩; have HS := Aside0.mk h1; clear h1)
      | (go_at_call 8; (with_reducible refine Calls.mono (num_in _ _) ?_); rintro e w6 ⟨rfl, hdr⟩; have HS2 := Aside0.mk (HS.out.step hdr.below); clear hdr))
    go_loopg [9, 10] l.length (fun kq v9 v10 w' => ∃ (j : Nat) (u : Value), v9 = u ∧ v10 = .int .i64 j ∧ Aside0 (j + kq = l.length) ∧ Aside0 (AtH w w1 w' ip gc bm bw u (keptOf (l.take j))))
    case atStart => exact ⟨0, _, rfl, rfl, ⟨by omega⟩, ⟨.inl ⟨rfl, rfl, HS2.out⟩⟩⟩
    case round =>
      clear HS HS2
      obtain ⟨j, u, rfl, rfl, HJ, HH⟩ := hrel
      cases gk with
      | zero =>
        have ej : j = l.length := by have := HJ.out; omega
        subst ej
        have lt1 : decide ((l.length : Int) < (l.length : Int)) = false := by simp
        have hh := HH.out
        rw [List.take_length] at hh
        have HSM := Aside0.mk HOK.out.2.2.2
        clear HJ HH
        have HKB := Aside0.mk (show (keptOf l).length ≤ 140737488351232 by have h1 : (keptOf l).length ≤ l.length := List.length_filter_le _ _; have := HOK.out.2.2.1; omega)
        generalize keptOf l = K at hh HSM HKB
        rcases hh with ⟨h1, h2, h3⟩ | ⟨h1, gw, v, h2⟩
        · subst h1 h2
          have HLa := Aside0.mk (Learn_none h3 mac rfl (by omega) HOK.out.2.1 CM.out HOK.out.1.1 HOK.out.1.2)
          clear h3
          go_wp2_with (first
            | (go_at_call 18; (with_reducible refine Calls.mono HLa.out ?_); rintro e w3 ⟨rfl, hc3, hk3⟩; have HS3 := Aside0.mk hc3; have HK3 := Aside0.mk hk3; have HLb := Aside0.mk (Learn_none hc3 mac (by simp [delM]) (by omega) HOK.out.2.1 CM.out HOK.out.1.1 HOK.out.1.2); clear hc3 hk3)
            | (go_at_call 18; (with_reducible refine Calls.mono HLb.out ?_); rintro e w4 ⟨rfl, hc4, hk4⟩; have HS4 := Aside0.mk hc4; have HK4 := Aside0.mk (HK3.out.then_ hk4 (fun k h_ => .inl h_)); have HKn := Aside0.mk (Known_some hc4 6 HOK.out.1.1 HOK.out.1.2 (by omega) (by omega) (by omega) (by omega) (by omega)); clear hc4 hk4)
            | (go_at_call 19; (with_reducible refine Calls.mono HKn.out ?_); rintro e w5 ⟨rfl, b5⟩; have HS5 := Aside0.mk (HS4.out.step b5); have HK5 := Aside0.mk (HK4.out.below b5); clear b5)
            | (go_at_call 8; (with_reducible refine Calls.mono (num_in _ w5) ?_); rintro e w6 ⟨rfl, hdr⟩; have HS6 := Aside0.mk (HS5.out.step hdr.below); have HK6 := Aside0.mk (HK5.out.below hdr.below); clear hdr)
            | (go_at_call 8; (with_reducible refine Calls.mono (num_in _ w6) ?_); rintro e w7 ⟨rfl, hdr⟩; have HS7 := Aside0.mk (HS6.out.step hdr.below); have HK7 := Aside0.mk (HK6.out.below hdr.below); have HSL := Aside0.mk (show Calls Try.prog 20 #[.slice none 0 0, .slice none 0 0] w7 (fun e W' => e = .returned (.bool true) ∧ Drawn0 w7 W') from stopcockplain_SameLists.calls 100000 none 0 [] none 0 [] true w7 (Kd.C_nil _ _) (Nat.le_refl _) (Kd.C_nil _ _) (Nat.le_refl _) HSM.out); clear hdr)
            | (go_at_call 20; (with_reducible refine Calls.mono HSL.out ?_); rintro e w8 ⟨rfl, hdr⟩; have HS8 := Aside0.mk (HS7.out.step hdr.below); clear hdr))
          go_ret
          exact ⟨rfl, below_step HB1.out HS8.out.B⟩
        · obtain ⟨Au, cu, eu⟩ := Kd.R_slice h2.k
          subst eu
          obtain ⟨A9, c9, ev, hv9⟩ := Kd.Q_slice h2.f.o
          subst ev
          have hgw : gw ≠ gc := fun e => by
            have h1 := h2.f.k
            rw [e, h2.c.k] at h1
            injection h1 with h1
            injection h1 with _ h2
            exact absurd h2 (by decide)
          have hc9 := Aside0.mk hv9
          have hcu := Aside0.mk (Kd.R_reads' h2.k).2.1
          have HVC := Aside0.mk (show ∀ W, Kept wr W (KS gc bm bw) → kF.C W A9 (last4 K).length (last4 K) from fun W hk => (Kd.Q_reads' (Kd.Q_kept h2.f.o hk (fun k ho h_ => by rcases h_ with h_ | h_ | h_; exact ho.1.1.1 h_; exact ho.1.1.2.1 h_; exact ho.1.1.2.2 h_))).2.2)
          have HUQ := Aside0.mk (show ∀ W, Kept wr W (KS gc bm bw) → (kS w).R 56 W w1.heap.size (okU gc bm bw gw (.slice A9 (last4 K).length c9)) (.slice Au K.length cu) K from fun W hk => Kd.R_kept h2.k hk (fun k ho h_ => by rcases h_ with h_ | h_ | h_; exact ho.1.1 h_; exact ho.1.2.1 h_; exact ho.1.2.2.1 h_))
          have HUC := Aside0.mk (show ∀ W, Kept wr W (KS gc bm bw) → Below w.heap.size w W → kF.C W Au K.length K from fun W hk hb => kS_read hb (Kd.R_reads' (HUQ.out W hk)).2.2)
          clear hv9
          by_cases c4 : K.length ≤ 4
          · have HLa := Aside0.mk (Learn_some h2.c mac rfl (by omega) h2.f.k hgw HOK.out.2.1 CM.out HOK.out.1.1 HOK.out.1.2)
            clear h2 h1
            have d4 : decide ((4 : Int) < (K.length : Int)) = false := decide_eq_false (by omega)
            have h4 : last4 K = K := by unfold last4; rw [show K.length - 4 = 0 by omega, List.drop_zero]
            have H4 := Aside0.mk h4
            clear c4 h4
            go_wp2_with (first
              | (go_at_call 18; (with_reducible refine Calls.mono HLa.out ?_); rintro e w3 ⟨rfl, hc3, hk3⟩; have HS3 := Aside0.mk hc3; have HK3 := Aside0.mk hk3; have HLb := Aside0.mk (Learn_none hc3 mac (by simp [delM]) (by omega) HOK.out.2.1 CM.out HOK.out.1.1 HOK.out.1.2); clear hc3 hk3)
              | (go_at_call 18; (with_reducible refine Calls.mono HLb.out ?_); rintro e w4 ⟨rfl, hc4, hk4⟩; have HS4 := Aside0.mk hc4; have HK4 := Aside0.mk (HK3.out.then_ hk4 (fun k h_ => .inl h_)); have HKn := Aside0.mk (Known_some hc4 6 HOK.out.1.1 HOK.out.1.2 (by omega) (by omega) (by omega) (by omega) (by omega)); clear hc4 hk4)
              | (go_at_call 19; (with_reducible refine Calls.mono HKn.out ?_); rintro e w5 ⟨rfl, b5⟩; have HS5 := Aside0.mk (HS4.out.step b5); have HK5 := Aside0.mk (HK4.out.below b5); clear b5)
              | (go_at_call 8; (with_reducible refine Calls.mono (num_in _ w5) ?_); rintro e w6 ⟨rfl, hdr⟩; have HS6 := Aside0.mk (HS5.out.step hdr.below); have HK6 := Aside0.mk (HK5.out.below hdr.below); clear hdr)
              | (go_at_call 8; (with_reducible refine Calls.mono (num_in _ w6) ?_); rintro e w7 ⟨rfl, hdr⟩; have HS7 := Aside0.mk (HS6.out.step hdr.below); have HK7 := Aside0.mk (HK6.out.below hdr.below); have hsl := stopcockplain_SameLists.calls 100000 A9 c9 (last4 K) Au cu K true w7 (HVC.out w7 HK7.out) hc9.out (HUC.out w7 HK7.out (below_step HB1.out HS7.out.B)) hcu.out (by have := HSM.out; rw [H4.out] at this ⊢; exact this); have HSL := Aside0.mk hsl; clear hsl; clear hdr)
              | (go_at_call 20; (with_reducible refine Calls.mono HSL.out ?_); rintro e w8 ⟨rfl, hdr⟩; have HS8 := Aside0.mk (HS7.out.step hdr.below); clear hdr))
            go_ret
            exact ⟨rfl, below_step HB1.out HS8.out.B⟩
          · have hla := Learn_some h2.c mac rfl (by omega) h2.f.k hgw HOK.out.2.1 CM.out HOK.out.1.1 HOK.out.1.2
            obtain ⟨d, hd⟩ : ∃ d, K.length = d + 4 := ⟨K.length - 4, by omega⟩
            have hl4 : (last4 K).length = 4 := by unfold last4; rw [List.length_drop]; omega
            rw [hl4] at hla
            have HLa := Aside0.mk hla
            have L4 := Aside0.mk hl4
            have HD := Aside0.mk hd
            obtain ⟨ad, cq, eq⟩ := Kd.R_slice1 h2.k (by omega)
            injection eq with eq1 eq2 eq3
            subst eq1
            have hdd : last4 K = K.drop d := by unfold last4; rw [hd]; rfl
            have HUD := Aside0.mk (show ∀ W, Kept wr W (KS gc bm bw) → Below w.heap.size w W → kF.C W (some (ad.add d)) (last4 K).length (last4 K) from fun W hk hb => by
              have h1 := Kd.C_drop (m := d) (HUC.out W hk hb) (by omega) hcu.out
              rw [if_neg (by have := hcu.out; omega), ← hdd] at h1
              have e1 : (some ad).map (fun x => x.add (d * kF.sz)) = some (ad.add d) := by simp [Kd.slice]
              rw [e1] at h1
              exact h1)
            have d4 : decide ((4 : Int) < (d : Int) + 4) = true := decide_eq_true (by omega)
            have nd : (cu = d) = False := eq_false (by have := hcu.out; omega)
            have db : (d : Int) ≤ 140737488351232 := by have := HKB.out; omega
            have le1 : (d : Int) + 4 ≤ (cu : Int) := by have := hcu.out; omega
            rw [hd]
            clear h2 h1 hla hd hl4 hdd c4 eq2 eq3
            go_wp2_with (first
              | (go_at_call 18; (with_reducible refine Calls.mono HLa.out ?_); rintro e w3 ⟨rfl, hc3, hk3⟩; have HS3 := Aside0.mk hc3; have HK3 := Aside0.mk hk3; have HLb := Aside0.mk (Learn_none hc3 mac (by simp [delM]) (by omega) HOK.out.2.1 CM.out HOK.out.1.1 HOK.out.1.2); clear hc3 hk3)
              | (go_at_call 18; (with_reducible refine Calls.mono HLb.out ?_); rintro e w4 ⟨rfl, hc4, hk4⟩; have HS4 := Aside0.mk hc4; have HK4 := Aside0.mk (HK3.out.then_ hk4 (fun k h_ => .inl h_)); have HKn := Aside0.mk (Known_some hc4 6 HOK.out.1.1 HOK.out.1.2 (by omega) (by omega) (by omega) (by omega) (by omega)); clear hc4 hk4)
              | (go_at_call 19; (with_reducible refine Calls.mono HKn.out ?_); rintro e w5 ⟨rfl, b5⟩; have HS5 := Aside0.mk (HS4.out.step b5); have HK5 := Aside0.mk (HK4.out.below b5); clear b5)
              | (go_at_call 8; (with_reducible refine Calls.mono (num_in _ w5) ?_); rintro e w6 ⟨rfl, hdr⟩; have HS6 := Aside0.mk (HS5.out.step hdr.below); have HK6 := Aside0.mk (HK5.out.below hdr.below); clear hdr)
              | (go_at_call 8; (with_reducible refine Calls.mono (num_in _ w6) ?_); rintro e w7 ⟨rfl, hdr⟩; have HS7 := Aside0.mk (HS6.out.step hdr.below); have HK7 := Aside0.mk (HK6.out.below hdr.below); have hsl := stopcockplain_SameLists.calls 100000 A9 c9 (last4 K) (some (ad.add d)) (cu - d) (last4 K) true w7 (HVC.out w7 HK7.out) hc9.out (HUD.out w7 HK7.out (below_step HB1.out HS7.out.B)) (by have := L4.out; have := hcu.out; have := HD.out; omega) HSM.out; rw [L4.out] at hsl; have HSL := Aside0.mk hsl; clear hsl; clear hdr)
              | (go_at_call 20; (with_reducible refine Calls.mono HSL.out ?_); rintro e w8 ⟨rfl, hdr⟩; have HS8 := Aside0.mk (HS7.out.step hdr.below); clear hdr))
            go_ret
            exact ⟨rfl, below_step HB1.out HS8.out.B⟩
      | succ k1 =>
        have hmx := Kd.C_max HR.out
        have hj : j < l.length := by have := HJ.out; omega
        obtain ⟨x, hx⟩ : ∃ x, l[j] = x := ⟨_, rfl⟩
        have htk : l.take (j + 1) = l.take j ++ [x] := by rw [List.take_add_one, List.getElem?_eq_getElem hj, hx]; rfl
        obtain ⟨ad, A5, c5, eA, xa, xl, xr⟩ := at_L6 HR.out (j : Int) (by omega) (by omega)
        have er : rd_L6 l (j : Int) = x := by rw [← hx]; unfold rd_L6; simp [List.getD_eq_getElem?_getD, hj]
        rw [er] at xa xl xr
        subst eA
        have XW := Aside0.mk (show ∀ W : World, Below w.heap.size w W → W.cell? (ad.add j) = some (.slice A5 x.length c5) from fun W hB => (hB.cell (World.block_lt_of_cell? w _ xa)).trans xa)
        have XR := Aside0.mk xr
        have XL := Aside0.mk xl
        have HXS := Aside0.mk (show (kS w).M w w1.heap.size (fun _ => False) x [.slice A5 x.length c5] from ⟨A5, c5, rfl, xl, xr⟩)
        have lt1 : decide ((j : Int) < (l.length : Int)) = true := decide_eq_true (by omega)
        have i0 : (0 : Int) ≤ (j : Int) := by omega
        have i1 : (j : Int) < (l.length : Int) := by omega
        have I2 := Aside0.mk (show (j : Int) + 1 ≤ 9223372036854775807 by omega)
        have TK := Aside0.mk htk
        obtain ⟨now, T, hnow, hcb⟩ := HH.out.any
        have hbw := below_step HB1.out hcb.B
        have x0 := XW.out wr hbw
        have HBW := Aside0.mk hbw
        have HJ2 := Aside0.mk hj
        clear hmx xa xl xr er htk hj hx hbw
        by_cases cx : 65535 < x.length
        · have dx : decide ((65535 : Int) < (x.length : Int)) = true := decide_eq_true (by omega)
          have HA := Aside0.mk (Ask_long hcb ip 5 A5 x.length c5 hnow (by omega) cx)
          have KT := Aside0.mk (show keptOf (l.take (j + 1)) = keptOf (l.take j) by rw [TK.out, keptOf_snoc, if_neg (by omega)])
          clear cx hcb hnow
          go_wp2_with (first
            | (go_at_call 17; (with_reducible refine Calls.mono HA.out ?_); rintro e w3 ⟨rfl, rfl⟩)
            | (go_at_call 8; (with_reducible refine Calls.mono (num_in _ _) ?_); rintro e w4 ⟨rfl, hdr⟩; have HH4 := Aside0.mk (HH.out.step hdr.below); clear hdr))
          go_roundg k1
          case measure => omega
          case rel => exact ⟨j + 1, _, rfl, (by have := I2.out; show Value.int .i64 (wrap64 ((j : Int) + 1)) = .int .i64 ((j + 1 : Nat) : Int); congr 1; unfold wrap64; omega), ⟨by have := HJ.out; omega⟩, ⟨by rw [KT.out]; exact HH4.out⟩⟩
        · have dx : decide ((65535 : Int) < (x.length : Int)) = false := decide_eq_false (by omega)
          have CX := Aside0.mk (show x.length ≤ 65535 by omega)
          have HXR := Aside0.mk (show ∀ W', Below w1.heap.size w1 W' → (Kd.int .u8).C W' A5 x.length x from fun W' hb => Kd.C_below XR.out (below_step HB1.out hb))
          have KT := Aside0.mk (show keptOf (l.take (j + 1)) = keptOf (l.take j) ++ [x] by rw [TK.out, keptOf_snoc, if_pos CX.out])
          have HLM := Aside0.mk (show ((keptOf (l.take j)).length + 1) * 24 ≤ 140737488355328 by
            have h1 : (keptOf (l.take j)).length ≤ (l.take j).length := List.length_filter_le _ _
            rw [List.length_take] at h1
            have := HOK.out.2.2.1
            omega)
          clear cx hcb hnow
          generalize keptOf (l.take j) = K at HH KT HLM
          rcases HH.out with ⟨h1, h2, h3⟩ | ⟨h1, gw, v, h2⟩
          · subst h1 h2
            have HA := Aside0.mk (Ask_first (ip := ip) (ok := okW gc bm bw (.slice none 0 0)) h3 (fun k hk => ⟨h3.fresh k hk, by simp [Value.ownBlock]⟩) (fun h_ => h_.1.1 rfl) (fun h_ => h_.1.2.1 rfl) (fun h_ => h_.1.2.2 rfl) A5 c5 x HXR.out XL.out CX.out HOK.out.1.1 HOK.out.1.2)
            clear h3
            go_wp2_with (first
              | (go_at_call 17; (with_reducible refine Calls.mono HA.out ?_); rintro e w3 ⟨rfl, gw, v', hc3, hw3⟩; have HM3 := Aside0.mk (show LM w w1 w3 ip gc bm bw gw v' (.slice none 0 0) [] x from ⟨hc3, hw3, Kd.R_nil _ _ _ _ _⟩); clear x0; have x0 := XW.out w3 (below_step HB1.out hc3.B); clear hc3 hw3)
              | (go_at_call 8; (with_reducible refine Calls.mono (num_in _ _) ?_); rintro e w4 ⟨rfl, hdr⟩; have HM4 := Aside0.mk (HM3.out.step hdr.below); have HFR := Aside0.mk (show ∀ k, w4.heap.size ≤ k → okU gc bm bw gw v' k from fun k hk => ⟨⟨(HM4.out.c.fresh k hk).1, (HM4.out.c.fresh k hk).2.1, (HM4.out.c.fresh k hk).2.2, fun e => by subst e; exact absurd (blk_lt HM4.out.f.k) (Nat.not_lt.2 hk)⟩, fun e => absurd (Kd.Q_lt HM4.out.f.o k e.symm) (Nat.not_lt.2 hk)⟩); have x0 := XW.out w4 (below_step HB1.out HM4.out.c.B); clear hdr)
              | ((with_reducible refine gate_builtin (b := .append) (xs := #[.tmp 80, .tmp 85]) rfl ?_); at_builtin; refine Kd.R_append (kS w) (w0 := w1) w1.heap.size rfl (.tmp 80) (.tmp 85) 50 56 (.slice none 0 0) 24 rfl Try.underlying50 infoS rfl Nat.zero_lt_one (by omega) (.slice none 0 0) [] x [.slice A5 x.length c5] (okU gc bm bw gw v') (fun _ => False) rfl rfl ?aP (fun _ hk => hk.elim) ?aF ?aO ?aB ?aS ?aL ?_; (case aP => exact HXS.out); (case aF => exact HFR.out); (case aO => exact HM4.out.k); (case aB => exact HM4.out.c.B); (case aS => exact below_size HM4.out.c.B); (case aL => exact HLM.out); intro u1 w5 ho hb hg hat; have HL5 := Aside0.mk (HM4.out.app ho hb hg hat); clear ho hb hg hat))
            go_roundg k1
            case measure => omega
            case rel => exact ⟨j + 1, u1, rfl, (by have := I2.out; show Value.int .i64 (wrap64 ((j : Int) + 1)) = .int .i64 ((j + 1 : Nat) : Int); congr 1; unfold wrap64; omega), ⟨by have := HJ.out; omega⟩, ⟨by rw [KT.out]; exact .inr ⟨by simp, gw, v', HL5.out⟩⟩⟩
          · obtain ⟨Au, cu, eu⟩ := Kd.R_slice h2.k
            subst eu
            have H1 := Aside0.mk h1
            have hK0 : ((K.length : Int) == 0) = false := beq_eq_false_iff_ne.2 (fun e => h1 (List.length_eq_zero_iff.1 (by omega)))
            have hns : ∀ k, (Value.slice Au K.length cu).ownBlock = some k → ¬ (k = gc ∨ k = gw ∨ some k = v.ownBlock) := fun k e h_ => by
              have := h2.k.1 k e
              rcases h_ with h_ | h_ | h_
              · exact this.1.1 h_
              · exact this.1.2.2.2 h_
              · exact this.2 h_
            have HA := Aside0.mk (Ask_next h2.c h2.f (fun k hk => ⟨h2.c.fresh k hk, fun e => absurd (Kd.R_lt h2.k k e.symm) (Nat.not_lt.2 hk)⟩) (fun h_ => h_.1.1 rfl) (fun h_ => h_.1.2.1 rfl) (fun h_ => h_.1.2.2 rfl) (last4_len K) A5 c5 x HXR.out XL.out CX.out HOK.out.1.1 HOK.out.1.2)
            have HKR := Aside0.mk (kS_ok (ok' := fun k => ¬ (k = gc ∨ k = gw ∨ some k = v.ownBlock)) h2.k hns)
            have HOU := Aside0.mk (show ∀ k, (Value.slice Au K.length cu).ownBlock = some k → k ≠ gc ∧ k ≠ bm ∧ k ≠ bw ∧ k ≠ gw from fun k e => (h2.k.1 k e).1)
            clear h1 h2 hns
            have H44 := Aside0.mk (last4_last4 K x)
            go_wp2_with (first
              | (go_at_call 17; (with_reducible refine Calls.mono HA.out ?_); rintro e w3 ⟨rfl, hc3, ⟨v', hw3⟩, hk3⟩; rw [H44.out] at hw3; have HM3 := Aside0.mk (show LM w w1 w3 ip gc bm bw gw v' (.slice Au K.length cu) K x from ⟨hc3, hw3, kS_ok (Kd.R_kept HKR.out hk3 (fun _ ho => ho)) (fun k e => ⟨HOU.out k e, fun e2 => (hw3.o.1 k e2.symm).1.2 e.symm⟩)⟩); clear x0; have x0 := XW.out w3 (below_step HB1.out hc3.B); clear hc3 hw3 hk3)
              | (go_at_call 8; (with_reducible refine Calls.mono (num_in _ _) ?_); rintro e w4 ⟨rfl, hdr⟩; have HM4 := Aside0.mk (HM3.out.step hdr.below); have HFR := Aside0.mk (show ∀ k, w4.heap.size ≤ k → okU gc bm bw gw v' k from fun k hk => ⟨⟨(HM4.out.c.fresh k hk).1, (HM4.out.c.fresh k hk).2.1, (HM4.out.c.fresh k hk).2.2, fun e => by subst e; exact absurd (blk_lt HM4.out.f.k) (Nat.not_lt.2 hk)⟩, fun e => absurd (Kd.Q_lt HM4.out.f.o k e.symm) (Nat.not_lt.2 hk)⟩); have x0 := XW.out w4 (below_step HB1.out HM4.out.c.B); clear hdr)
              | ((with_reducible refine gate_builtin (b := .append) (xs := #[.tmp 80, .tmp 85]) rfl ?_); at_builtin; refine Kd.R_append (kS w) (w0 := w1) w1.heap.size rfl (.tmp 80) (.tmp 85) 50 56 (.slice none 0 0) 24 rfl Try.underlying50 infoS rfl Nat.zero_lt_one (by omega) (.slice Au K.length cu) K x [.slice A5 x.length c5] (okU gc bm bw gw v') (fun _ => False) rfl rfl ?aP (fun _ hk => hk.elim) ?aF ?aO ?aB ?aS ?aL ?_; (case aP => exact HXS.out); (case aF => exact HFR.out); (case aO => exact HM4.out.k); (case aB => exact HM4.out.c.B); (case aS => exact below_size HM4.out.c.B); (case aL => exact HLM.out); intro u1 w5 ho hb hg hat; have HL5 := Aside0.mk (HM4.out.app ho hb hg hat); clear ho hb hg hat))
            go_roundg k1
            case measure => omega
            case rel => exact ⟨j + 1, u1, rfl, (by have := I2.out; show Value.int .i64 (wrap64 ((j : Int) + 1)) = .int .i64 ((j + 1 : Nat) : Int); congr 1; unfold wrap64; omega), ⟨by have := HJ.out; omega⟩, ⟨by rw [KT.out]; exact .inr ⟨by simp, gw, v', HL5.out⟩⟩⟩
end Go.Proofs.Ytpjelffgakgjaaa.Q
