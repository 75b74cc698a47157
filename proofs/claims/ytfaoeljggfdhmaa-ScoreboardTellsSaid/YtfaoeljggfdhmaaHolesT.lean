/- scoreboard.State.holes: what the iterator gives. No condition. -/
import Derived.Test.YtfaoeljggfdhmaaQ4
import Derived.Test.YtfaoeljggfdhmaaRange
import Derived.Outline
import Derived.Lib.Hide
import Derived.LoopIn
import Derived.LoopNIn
import Derived.OwnWalkIn
import Derived.RangeFuncBound
import Derived.RangeFuncCalls
import Derived.RangeFuncNested
import Derived.Shelf.Abstract
import Derived.Shelf.RegionOpen
import Derived.TacticsInMore
import Derived.Deep.RegionHeld3
namespace Go.Proofs.Ytfaoeljggfdhmaa.Q
set_option linter.unusedVariables false
set_option linter.unusedSimpArgs false
open Go.RowKit Go.Proofs.YtfaoeljggfdhmaaW.PrintWords Go.Proofs.YtfaoeljggfdhmaaW.PrintLast Go.Proofs.YtfaoeljggfdhmaaW.PrintMore Go.Proofs.YtfaoeljggfdhmaaW.RangeSeq
open Go.Shelf
attribute [local go_sem] Oper.semAt_some
theorem undrew {A B : World} (h : Below A.drew.heap.size A.drew B) : Below A.heap.size A B := ⟨h.os, h.tape, h.output, h.size, h.block⟩
theorem box4_below {A B : World} {g : Nat} {v0 v1 v2 v3 : Value} (h0 : A.cell? ⟨g, 0, none⟩ = some v0) (h1 : A.cell? ⟨g, 1, none⟩ = some v1) (h2 : A.cell? ⟨g, 2, none⟩ = some v2) (h3 : A.cell? ⟨g, 3, none⟩ = some v3) (hb : Below A.heap.size A B) :
    B.cell? ⟨g, 0, none⟩ = some v0 ∧ B.cell? ⟨g, 1, none⟩ = some v1 ∧ B.cell? ⟨g, 2, none⟩ = some v2 ∧ B.cell? ⟨g, 3, none⟩ = some v3 :=
  have hg := World.block_lt_of_cell? _ _ h0
  ⟨(hb.cell (p := ⟨g, 0, none⟩) hg).trans h0, (hb.cell (p := ⟨g, 1, none⟩) hg).trans h1, (hb.cell (p := ⟨g, 2, none⟩) hg).trans h2, (hb.cell (p := ⟨g, 3, none⟩) hg).trans h3⟩
theorem box4_grown {A B : World} {g : Nat} {v0 v1 v2 v3 : Value} {row : Option Nat} (h0 : A.cell? ⟨g, 0, none⟩ = some v0) (h1 : A.cell? ⟨g, 1, none⟩ = some v1) (h2 : A.cell? ⟨g, 2, none⟩ = some v2) (h3 : A.cell? ⟨g, 3, none⟩ = some v3) (hb : A.grownBy B row) (hne : some g ≠ row) :
    B.cell? ⟨g, 0, none⟩ = some v0 ∧ B.cell? ⟨g, 1, none⟩ = some v1 ∧ B.cell? ⟨g, 2, none⟩ = some v2 ∧ B.cell? ⟨g, 3, none⟩ = some v3 :=
  have hg := World.block_lt_of_cell? _ _ h0
  have hk := hb.block g hg hne
  ⟨(World.cell?_of_block (a := ⟨g, 0, none⟩) hk).trans h0, (World.cell?_of_block (a := ⟨g, 1, none⟩) hk).trans h1, (World.cell?_of_block (a := ⟨g, 2, none⟩) hk).trans h2, (World.cell?_of_block (a := ⟨g, 3, none⟩) hk).trans h3⟩
theorem own_far {α : Type} {d : Kd α} {e : Nat} {w : World} {base g : Nat} {ok : Nat → Prop} {v : Value} {xs : List α} (h : d.R e w base ok v xs) (hg : g < base) : some g ≠ v.ownBlock := fun he => by
  have := Kd.R_base h g he.symm
  omega
/-- The row's cells, two by two. -/
def RowAt (g : Nat) (L : List S75) (w : World) : Prop := ∀ m, m < L.length → w.cell? ⟨g, m * 2, none⟩ = some (.int .i64 (L.getD m z75).f0) ∧ w.cell? ⟨g, m * 2 + 1, none⟩ = some (.int .i64 (L.getD m z75).f1)
theorem row_of {e : Nat} {w : World} {base : Nat} {ok : Nat → Prop} {A : Option Addr} {c : Nat} {L : List S75} (h : Kd.R k75 e w base ok (.slice A L.length c) L) (hne : 0 < L.length) : ∃ g, base ≤ g ∧ A = some ⟨g, 0, none⟩ ∧ RowAt g L w := by
  obtain ⟨inner, ho⟩ := Kd.R_own h
  obtain ⟨_, hv | ⟨g, cap, cur, hv, hg, _⟩⟩ := ho
  · omega
  · injection hv with h1 h2 h3
    subst h1
    refine ⟨g, hg, rfl, fun m hm => ?_⟩
    obtain ⟨ad, e, k0, k1⟩ := at_T75 (Kd.R_reads' h).2.2 (m : Int) (by omega) (by omega)
    cases e
    rw [Int.toNat_natCast] at k0 k1
    have ea : Addr.add ⟨g, 0, none⟩ (m * 2) = ⟨g, m * 2, none⟩ := by simp only [Addr.add, Nat.zero_add]; split <;> simp_all
    rw [ea] at k0 k1
    have er : rd_T75 L (m : Int) = L.getD m z75 := by unfold rd_T75; rw [Int.toNat_natCast]
    rw [er] at k0 k1
    exact ⟨k0, k1⟩
def holesOf : Int → List S75 → List S75
  | _, [] => []
  | at_, x :: r => if at_ < x.f0 then ⟨at_, x.f0⟩ :: holesOf x.f1 r else holesOf x.f1 r
def encH (h : S75) : Array Value := #[.agg #[.int .i64 h.f0, .int .i64 h.f1]]
set_option maxHeartbeats 8000000 in
set_option maxRecDepth 100000 in
theorem holes_gives (n : Nat) (hn : 1 ≤ n) (k : Nat) (a0 a1 a2 : Int) (A3 : Option Addr) (c3 : Nat) (l3 : List S35) (sp : List S75) (w0 : World) (hr : Kd.C k35 w0 A3 l3.length l3) (hc : l3.length ≤ c3)
    (hsp : scoreboard_State_spans.f k a0 a1 a2 l3 l3 = some sp) (hlen : sp.length < 8796093022000) :
    Gives Fence.wide n Try.prog 33 #[.agg #[.int .u32 a0, .int .u32 a1, .int .u32 a2, .slice A3 l3.length c3]] ((holesOf 0 (sp ++ [⟨(a1 - a0) % 4294967296, (a1 - a0) % 4294967296⟩])).map encH) w0 := by
  intro l J E W hb hl hlt hJ hY h0
  obtain ⟨L, hL⟩ : ∃ L, sp ++ [(⟨(a1 - a0) % 4294967296, (a1 - a0) % 4294967296⟩ : S75)] = L := ⟨_, rfl⟩
  rw [hL] at hY ⊢
  obtain ⟨vs, hvs⟩ : ∃ vs, (holesOf 0 L).map encH = vs := ⟨_, rfl⟩
  rw [hvs] at hY ⊢
  have hL' := Lib.hid hL
  have hvs' := Lib.hid hvs
  clear hL hvs
  have hbig : sp.length + 1 < 8796093022208 := by omega
  have HR := Aside0.mk (Kd.C_below hr hb)
  have HY := Aside0.mk hY
  have HJ := Aside0.mk hJ
  clear hY hJ hr
  refine callsIn_of_wp Try.func33 rfl trivial ?_ rfl
  simp only [Try.ntmps33, List.size_toArray, List.length_cons, List.length_nil, Nat.reduceAdd, Nat.reduceSub, Array.replicate_succ, Array.replicate_zero, List.push_toArray, List.append_toArray, List.nil_append, List.cons_append]
  gi_wp2
  obtain ⟨W1, hW1⟩ : ∃ W1, W.alloc (.cells #[.int .u32 a0, .int .u32 a1, .int .u32 a2, .slice A3 l3.length c3] 30) = W1 := ⟨_, rfl⟩
  have B1 : Below W.heap.size W W1 := by rw [← hW1]; exact (Below.refl _ W).alloc (Nat.le_refl _) _
  have x0 : W1.cell? ⟨W.heap.size, 0, none⟩ = some (.int .u32 a0) := by rw [← hW1]; simp
  have x1 : W1.cell? ⟨W.heap.size, 1, none⟩ = some (.int .u32 a1) := by rw [← hW1]; simp
  have x2 : W1.cell? ⟨W.heap.size, 2, none⟩ = some (.int .u32 a2) := by rw [← hW1]; simp
  have x3 : W1.cell? ⟨W.heap.size, 3, none⟩ = some (.slice A3 l3.length c3) := by rw [← hW1]; simp
  have s1 : W.heap.size < W1.heap.size := by rw [← hW1]; simp
  rw [hW1]
  rw [wpIn_wide]
  have HRc := Aside0.mk (Kd.C_below HR.out B1)
  have HB := Aside0.mk B1
  have hL16 : (sp.length + 1) * 16 ≤ 140737488355328 := by omega
  have HY4 := Aside0.mk (And.intro x0 (And.intro x1 (And.intro x2 x3)))
  clear x0 x1 x2 x3
  go_region_held3 (fun w' => w'.cell? ⟨W.heap.size, 0, none⟩ = some (.int .u32 a0) ∧ w'.cell? ⟨W.heap.size, 1, none⟩ = some (.int .u32 a1) ∧ w'.cell? ⟨W.heap.size, 2, none⟩ = some (.int .u32 a2) ∧ w'.cell? ⟨W.heap.size, 3, none⟩ = some (.slice A3 l3.length c3))
    (first | exact HY4.out | go_keep)
    (first
      | (go_at_call 42; refine (scoreboard_State_spans.calls k a0 a1 a2 A3 c3 l3 A3 c3 l3 sp _ ?s1 hc ?s2 hc hsp).mono ?_; (case s1 => repeat (first | exact HRc.out | (with_reducible refine Kd.C_alloc ?_ _) | (with_reducible refine Kd.C_drewN ?_ _) | (with_reducible refine Kd.C_drew ?_))); (case s2 => repeat (first | exact HRc.out | (with_reducible refine Kd.C_alloc ?_ _) | (with_reducible refine Kd.C_drewN ?_ _) | (with_reducible refine Kd.C_drew ?_))); rintro e w2 ⟨v, rfl, ho, hb2⟩;
         have n1_ := Aside0.mk (Kd.C_below (by repeat (first | exact HRc.out | (with_reducible refine Kd.C_alloc ?_ _) | (with_reducible refine Kd.C_drewN ?_ _) | (with_reducible refine Kd.C_drew ?_))) hb2);
         have n2_ := Aside0.mk (below_step (by repeat (first | (with_reducible first | exact HB.out | apply below_alloc | apply pw_below_drewN | apply below_drew1) | exact HB.out)) hb2);
         have n3_ := Aside0.mk (box4_below HY4.out.1 HY4.out.2.1 HY4.out.2.2.1 HY4.out.2.2.2 (by first | exact hb2 | exact undrew hb2));
         have HO := Aside0.mk ho; clear HRc HB ho HY4 hb2; have HY4 := n3_; clear n3_; have HRc := n1_; have HB := n2_; clear n1_ n2_)
      | (go_at_call 40; refine (scoreboard_State_flight.calls a0 a1 a2 A3 c3 l3 _ _ ?s1 hc rfl).mono ?_; (case s1 => repeat (first | exact HRc.out | (with_reducible refine Kd.C_alloc ?_ _) | (with_reducible refine Kd.C_drewN ?_ _) | (with_reducible refine Kd.C_drew ?_))); rintro e w3 ⟨rfl, hb3⟩;
         have n1_ := Aside0.mk (Kd.C_below (by repeat (first | exact HRc.out | (with_reducible refine Kd.C_alloc ?_ _) | (with_reducible refine Kd.C_drewN ?_ _) | (with_reducible refine Kd.C_drew ?_))) hb3);
         have n2_ := Aside0.mk (below_step (by repeat (first | (with_reducible first | exact HB.out | apply below_alloc | apply pw_below_drewN | apply below_drew1) | exact HB.out)) hb3);
         have n3_ := Aside0.mk (Kd.R_below (by (with_reducible repeat (first | apply Kd.R_alloc | apply Kd.R_drewN | apply Kd.R_drew)); exact HO.out) hb3);
         have n4_ := Aside0.mk (box4_below HY4.out.1 HY4.out.2.1 HY4.out.2.2.1 HY4.out.2.2.2 (by first | exact hb3 | exact undrew hb3));
         clear HRc HB HO HY4 hb3; have HY4 := n4_; clear n4_; have HRc := n1_; have HB := n2_; have HO := n3_; clear n1_ n2_ n3_)
      | (refine Kd.R_append_step k75 (w0 := W) W.heap.size (by rfl) (.tmp 10) (.tmp 16) 81 75 (.agg #[(.int .i64 0), (.int .i64 0)]) 16 rfl Try.underlying81 info75 rfl (by decide) (by omega) v sp (⟨(a1 - a0) % 4294967296, (a1 - a0) % 4294967296⟩ : S75) [.int .i64 ((a1 - a0) % 4294967296), .int .i64 ((a1 - a0) % 4294967296)] (fun _ => True) (fun _ => False) (by rfl) (by rfl) ?aP (fun _ hk => hk.elim) ?aF ?aO ?aB ?aS ?aL ?_; (case aP => exact k75_mkM _ _ _ (⟨(a1 - a0) % 4294967296, (a1 - a0) % 4294967296⟩ : S75)); (case aB => exact (by repeat (first | (with_reducible first | exact HB.out | apply below_alloc | apply pw_below_drewN | apply below_drew1) | exact HB.out))); (case aF => exact (fun _ _ => trivial)); (case aO => exact Kd.R_lower (by (with_reducible repeat (first | apply Kd.R_alloc | apply Kd.R_drewN | apply Kd.R_drew)); exact HO.out) (Nat.le_of_lt s1)); (case aS => exact (below_size (by repeat (first | (with_reducible first | exact HB.out | apply below_alloc | apply pw_below_drewN | apply below_drew1) | exact HB.out)))); (case aL => exact hL16); intro v1 w9 ho hb9 hg9 hat9; obtain ⟨A9, c9, e9⟩ := Kd.R_slice ho; subst e9;
         have n1_ := Aside0.mk ho; have n2_ := Aside0.mk hb9; have n4_ := Aside0.mk (box4_grown HY4.out.1 HY4.out.2.1 HY4.out.2.2.1 HY4.out.2.2.2 hg9 (own_far HO.out s1));
         clear HO HB HY4 ho hb9 hg9 hat9; have HO := n1_; have HB := n2_; have HY4 := n4_; clear n1_ n2_ n4_))
  have hLN : L.length = sp.length + 1 := by rw [← hL'.out]; simp
  have hL := hL'.out
  obtain ⟨g, hg, hA9, hrow⟩ := row_of HO.out (by simp)
  have hs9 : W.heap.size < w9.heap.size := by
    have := World.block_lt_of_cell? _ _ HY4.out.1
    exact this
  have hg9 := hrow 0 (by simp)
  have hg9' := World.block_lt_of_cell? _ _ hg9.1
  rw [hL] at hrow ⊢
  have hJ9 : J 0 w9 := HJ.out 0 W w9 h0 HB.out
  subst hA9
  have HVS := Aside0.mk hvs'.out
  have HLN := Aside0.mk hLN
  clear hL hL' hvs' HO HRc HR HY4 hg9 hsp hlen hL16 h0 hc
  rw [hLN]
  have hN : sp.length + 1 < 8796093022208 := hbig
  clear hLN hbig
  generalize sp.length = N0 at *
  gi_wp2
  have s0 := hb.size
  gi_loopw [4, 19] (fun at_ i wr => ∃ (j : Nat) (p : Int) (q : Nat), j ≤ N0 + 1 ∧ i = .int .i64 (j : Int) ∧ at_ = .int .i64 p ∧ q ≤ vs.length ∧ vs.drop q = (holesOf p (L.drop j)).map encH ∧ J q wr ∧ RowAt g L wr ∧ g < wr.heap.size ∧ W.heap.size ≤ wr.heap.size)
    (fun _ i _ => N0 + 1 - (intOf i).toNat)
  case atStart => exact ⟨0, 0, 0, by omega, rfl, rfl, by omega, by rw [List.drop_zero, List.drop_zero]; exact HVS.out.symm, hJ9, hrow, hg9', by omega⟩
  case round =>
    obtain ⟨j, p, q, hj, rfl, rfl, hq, hdrop, hJq, hrw, hgs, hws⟩ := hrel
    have HD := Aside0.mk hdrop
    have HQ := Aside0.mk hq
    have HJQ := Aside0.mk hJq
    have HRW := Aside0.mk hrw
    clear hdrop hq hJq hrow hJ9
    by_cases hlt : j < N0 + 1
    · have hjL : j < L.length := by rw [HLN.out]; exact hlt
      obtain ⟨c0, c1⟩ := hrw j hjL
      obtain ⟨x, hx⟩ : ∃ x, L.getD j z75 = x := ⟨_, rfl⟩
      have hdr : L.drop j = x :: L.drop (j + 1) := by
        rw [List.drop_eq_getElem_cons hjL, ← hx, List.getD_eq_getElem?_getD, List.getElem?_eq_getElem hjL]
        rfl
      rw [hx] at c0 c1
      have HX := Aside0.mk hdr
      clear hx hdr hrw
      have i0 : (0 : Int) ≤ (j : Int) := by omega
      have i1 : (j : Int) < (N0 : Int) + 1 := by omega
      by_cases hat : p < x.f0
      · have hd2 : vs.drop q = encH ⟨p, x.f0⟩ :: (holesOf x.f1 (L.drop (j + 1))).map encH := by
          rw [HD.out, HX.out]
          simp only [holesOf]
          rw [if_pos hat]
          rfl
        have hql : q < vs.length := by
          rcases Nat.lt_or_ge q vs.length with h | h
          · exact h
          · rw [List.drop_eq_nil_of_le h] at hd2
            cases hd2
        have hv : vs[q]? = some (encH ⟨p, x.f0⟩) := by
          have := congrArg (fun l => l[0]?) hd2
          simpa [List.getElem?_drop] using this
        have hq1 : vs.drop (q + 1) = (holesOf x.f1 (L.drop (j + 1))).map encH := by
          have := congrArg List.tail hd2
          simpa using this
        have HQ1 := Aside0.mk hq1
        have HQL := Aside0.mk hql
        have hbX : Below W.heap.size wr (wr.alloc (.cells #[.int .i64 x.f0, .int .i64 x.f1] 75)) := (Below.refl _ wr).alloc hws _
        obtain ⟨fn, tmps, assign, body, hy, hR⟩ := HY.out q _ _ hv (HJ.out q wr _ HJQ.out hbX)
        simp only [encH] at hy
        clear hd2 hv hq1 hql
        gi_wp2
        refine hR.mono ?_
        rintro e W3 (⟨rfl, hJ3, hk3⟩ | ⟨rfl, hE⟩)
        · have cX1 : W3.cell? ⟨wr.heap.size, 1, none⟩ = some (.int .i64 x.f1) := by
            rw [World.cell?_of_block (a := ⟨wr.heap.size, 1, none⟩) (hk3.2 wr.heap.size (by omega) (by simp) (by omega))]
            simp
          have HJ3 := Aside0.mk hJ3
          have HR3 : Aside0 (RowAt g L W3) := Aside0.mk (fun m hm => by
            have e1 := hk3.2 g (by omega) (by simp; omega) (by omega)
            have e2 : (wr.alloc (.cells #[.int .i64 x.f0, .int .i64 x.f1] 75)).heap[g]? = wr.heap[g]? := Below.heap_alloc _ _ _ hgs
            obtain ⟨r0, r1⟩ := HRW.out m hm
            exact ⟨(World.cell?_of_block (a := ⟨g, m * 2, none⟩) (e1.trans e2)).trans r0, (World.cell?_of_block (a := ⟨g, m * 2 + 1, none⟩) (e1.trans e2)).trans r1⟩)
          have hs3 : wr.heap.size < W3.heap.size := by have := hk3.1; simp at this; omega
          clear hJ3 hk3 hy hR c0 c1
          gi_wp2
          go_roundw
          case rel => exact ⟨j + 1, x.f1, q + 1, by omega, by go_num, rfl, by have := HQL.out; omega, HQ1.out, HJ3.out, HR3.out, by omega, by omega⟩
          case measure => simp [intOf]; omega
        · clear hy hR c0 c1
          gi_wp2
          refine bodyPost_ret (results_none rfl _ _ _) rfl ?_
          exact ⟨⟨_, rfl⟩, .inr hE⟩
      · have hd2 : vs.drop q = (holesOf x.f1 (L.drop (j + 1))).map encH := by
          rw [HD.out, HX.out]
          simp only [holesOf]
          rw [if_neg hat]
        have HD2 := Aside0.mk hd2
        have hbX : Below W.heap.size wr (wr.alloc (.cells #[.int .i64 x.f0, .int .i64 x.f1] 75)) := (Below.refl _ wr).alloc hws _
        have HJX := Aside0.mk (HJ.out q wr _ HJQ.out hbX)
        have HR3 : Aside0 (RowAt g L (wr.alloc (.cells #[.int .i64 x.f0, .int .i64 x.f1] 75))) := Aside0.mk (fun m hm => by
            have e2 : (wr.alloc (.cells #[.int .i64 x.f0, .int .i64 x.f1] 75)).heap[g]? = wr.heap[g]? := Below.heap_alloc _ _ _ hgs
            obtain ⟨r0, r1⟩ := HRW.out m hm
            exact ⟨(World.cell?_of_block (a := ⟨g, m * 2, none⟩) e2).trans r0, (World.cell?_of_block (a := ⟨g, m * 2 + 1, none⟩) e2).trans r1⟩)
        clear hd2 hbX
        gi_wp2
        refine ⟨fun f h => by (cases h), ?_⟩
        gi_wp2
        go_roundw
        case rel => exact ⟨j + 1, x.f1, q, by omega, by go_num, rfl, HQ.out, HD2.out, HJX.out, HR3.out, by simp; omega, by simp; omega⟩
        case measure => simp [intOf]; omega
    · have hjN : j = N0 + 1 := by omega
      have hd2 : vs.drop q = [] := by
        rw [HD.out, List.drop_eq_nil_of_le (by rw [HLN.out]; omega)]
        rfl
      have hqe : q = vs.length := by
        have := congrArg List.length hd2
        have h2 := HQ.out
        simp at this
        omega
      have hJe : J vs.length wr := by rw [← hqe]; exact HJQ.out
      have HJE := Aside0.mk hJe
      have i1 : ¬ (j : Int) < (N0 : Int) + 1 := by omega
      clear hd2 hqe hJe hjN
      gi_wp2
      go_end0
      exact ⟨⟨_, rfl⟩, .inl HJE.out⟩
end Go.Proofs.Ytfaoeljggfdhmaa.Q
