/- codel: the walk of Dequeue. No condition. -/
import Derived.Test.YtepolgapbbaklaaCodelY
namespace Go.Proofs.Ytepolgapbbaklaa.Q
set_option linter.unusedVariables false
set_option linter.unusedSimpArgs false
open Go.RowKit Go.Proofs.YtepolgapbbaklaaW.PrintWords Go.Proofs.YtepolgapbbaklaaW.PrintLast Go.Proofs.YtepolgapbbaklaaW.PrintMore
set_option maxHeartbeats 8000000 in
set_option maxRecDepth 100000 in
theorem deq_in (k : Nat) (a0_0 a0_1 a0_2 : Int) (a1_0 : Bool) (a1_1 : Int) (a1_2 : Bool) (a1_3 a1_4 a1_5 : Int) (A2 : Option Addr) (c2 : Nat) (l2 : List S41) (a3 : Int) (rr : Run) (er : Int) (w : World) (hr2 : Kd.C k41 w A2 l2.length l2) (hc2 : l2.length ≤ c2) (h : deqR k a0_0 a0_1 a0_2 a1_0 a1_1 a1_2 a1_3 a1_4 a1_5 l2 a3 = some (rr, er)) :
    Calls Try.prog 26 #[.agg #[.int .i64 a0_0, .int .i64 a0_1, .int .i64 a0_2], .agg #[.bool a1_0, .int .i64 a1_1, .bool a1_2, .int .i64 a1_3, .int .i64 a1_4, .int .i64 a1_5], .slice A2 l2.length c2, .int .i64 a3] w (DqPost w rr er) := by
  have hu33 := Try.underlying32
  have hu40 := Try.underlying71
  have hu42 := Try.underlying41
  have hu44 := Try.underlying80
  have hu56 := Try.underlying87
  have HR := Aside0.mk hr2
  have HC := Aside0.mk hc2
  clear hr2 hc2
  unfold deqR at h
  obtain ⟨e0, hchk, h⟩ := Option.bind_eq_some_iff.1 h
  have HK := Aside0.mk hchk
  have D0 := Aside0.mk (Bx.nil w)
  clear hchk
  by_cases c0 : e0 = 0
  · rw [if_pos c0] at h
    subst c0
    obtain ⟨b1, hb1, h⟩ := Option.bind_eq_some_iff.1 h
    obtain ⟨b2, hb2, h⟩ := Option.bind_eq_some_iff.1 h
    obtain ⟨ok, hok, h⟩ := Option.bind_eq_some_iff.1 h
    have HB1 := Aside0.mk hb1
    have HB2 := Aside0.mk hb2
    have HOK := Aside0.mk hok
    have H := Aside0.mk h
    clear hb1 hb2 hok h
    go_enter Try.func26, Try.ntmps26
    go_upto_region 4 with (first
      | ((with_reducible refine gate_dst (N := 4) rfl ?_); refine box_event ?hg (N := 4) ?hd (cs := #[.int .i64 a0_0, .int .i64 a0_1, .int .i64 a0_2]) (t := 32) ?hr ?_; (case hd => rfl); (case hg => rfl); (case hr => first | (go_simp; done) | (go_simp; rfl)); intro g4 e4 w4 k4 b4; have D1 := Aside0.mk (D0.out.new b4 e4 k4); clear e4 k4 b4)
      | ((with_reducible refine gate_dst (N := 5) rfl ?_); refine box_event ?hg (N := 5) ?hd (cs := #[.bool a1_0, .int .i64 a1_1, .bool a1_2, .int .i64 a1_3, .int .i64 a1_4, .int .i64 a1_5]) (t := 71) ?hr ?_; (case hd => rfl); (case hg => rfl); (case hr => first | (go_simp; done) | (go_simp; rfl)); intro g5 e5 w5 k5 b5; have D2 := Aside0.mk (D1.out.new b5 e5 k5); clear e5 k5 b5)
      | ((with_reducible refine gate_dst (N := 8) rfl ?_); refine box_event ?hg (N := 8) ?hd (cs := #[.bool false, .int .i64 0, .bool false, .int .i64 0, .int .i64 0, .int .i64 0]) (t := 71) ?hr ?_; (case hd => rfl); (case hg => rfl); (case hr => first | (go_simp; done) | (go_simp; rfl)); intro g8 e8 w8 k8 b8; have D3 := Aside0.mk (D2.out.new b8 e8 k8); clear e8 k8 b8)
      | ((with_reducible refine gate_dst (N := 9) rfl ?_); refine box_event ?hg (N := 9) ?hd (cs := #[.bool false, .int .i64 0, .int .i64 0, .bool false, .int .i64 0, .bool false, .slice none 0 0, .int .i64 0]) (t := 80) ?hr ?_; (case hd => rfl); (case hg => rfl); (case hr => first | (go_simp; done) | (go_simp; rfl)); intro g9 e9 w9 k9 b9; have D4 := Aside0.mk (D3.out.new b9 e9 k9); clear e9 k9 b9; have q4 := (D4.out.at g4 _ _ (.tail _ (.tail _ (.tail _ (.head _))))).1; have p40 : w9.cell? ⟨g4, 0, none⟩ = some (.int .i64 a0_0) := (blk_cell q4 0).trans rfl; have p41 : w9.cell? ⟨g4, 1, none⟩ = some (.int .i64 a0_1) := (blk_cell q4 1).trans rfl; have p42 : w9.cell? ⟨g4, 2, none⟩ = some (.int .i64 a0_2) := (blk_cell q4 2).trans rfl; clear q4)
      | (go_at_call 28; (with_reducible refine Calls.mono (codel_Check.calls k _ _ _ _ _ HK.out) ?_); rintro e w10 ⟨rfl, b5⟩; have D5 := Aside0.mk (D4.out.step b5); clear b5 p40 p41 p42; have q5 := (D5.out.at g5 _ _ (.tail _ (.tail _ (.head _)))).1; have p50 : w10.cell? ⟨g5, 0, none⟩ = some (.bool a1_0) := (blk_cell q5 0).trans rfl; have p51 : w10.cell? ⟨g5, 1, none⟩ = some (.int .i64 a1_1) := (blk_cell q5 1).trans rfl; have p52 : w10.cell? ⟨g5, 2, none⟩ = some (.bool a1_2) := (blk_cell q5 2).trans rfl; have p53 : w10.cell? ⟨g5, 3, none⟩ = some (.int .i64 a1_3) := (blk_cell q5 3).trans rfl; have p54 : w10.cell? ⟨g5, 4, none⟩ = some (.int .i64 a1_4) := (blk_cell q5 4).trans rfl; have p55 : w10.cell? ⟨g5, 5, none⟩ = some (.int .i64 a1_5) := (blk_cell q5 5).trans rfl; clear q5))
    obtain ⟨y1, hy1⟩ : ∃ y_ : List Int, y_ = [a3, a1_1, a1_3] := ⟨_, rfl⟩
    obtain ⟨y2, hy2⟩ : ∃ y_ : List Int, y_ = [a1_4, a1_5] := ⟨_, rfl⟩
    have hb1 := HB1.out
    have hb2 := HB2.out
    rw [← hy1] at hb1
    rw [← hy2] at hb2
    have HB1 := Aside0.mk hb1
    have HB2 := Aside0.mk hb2
    have NY1 := Aside0.mk hy1
    have NY2 := Aside0.mk hy2
    clear hb1 hb2 hy1 hy2
    go_cut [12] (fun v12 W => v12 = .bool (b1 && b2) ∧ Aside0 (Bx w W [(g9, #[.bool false, .int .i64 0, .int .i64 0, .bool false, .int .i64 0, .bool false, .slice none 0 0, .int .i64 0], 80), (g8, #[.bool false, .int .i64 0, .bool false, .int .i64 0, .int .i64 0, .int .i64 0], 71), (g5, #[.bool a1_0, .int .i64 a1_1, .bool a1_2, .int .i64 a1_3, .int .i64 a1_4, .int .i64 a1_5], 71), (g4, #[.int .i64 a0_0, .int .i64 a0_1, .int .i64 a0_2], 32)]))
    case first =>
      cases b1 with
      | false =>
        go_wp2_with (first
        | ((with_reducible refine gate_dst (N := 29) rfl ?_); refine Kd.R_lit (Kd.int .i64) _ 3 ?hg (N := 29) ?hd (xs := [a3, a1_1, a1_3]) (inner := [.int .i64 a3, .int .i64 a1_1, .int .i64 a1_3]) (ok := fun _ => True) (okp := fun _ => True) ?hr ?hp (fun _ hk => hk) trivial (Below.refl _ _) (Nat.le_refl _) (by simp) ?_; (case hd => rfl); (case hg => rfl); (case hr => first | (go_simp; done) | (go_simp; rfl)); (case hp => exact (Reps.one (show Kd.M (Kd.int .i64) _ _ _ a3 [.int .i64 a3] from rfl) (Reps.one (show Kd.M (Kd.int .i64) _ _ _ a1_1 [.int .i64 a1_1] from rfl) (Reps.one (show Kd.M (Kd.int .i64) _ _ _ a1_3 [.int .i64 a1_3] from rfl) (Reps.none _ _))))); intro v29 w11 ho hb hg_ hnew_; clear hg_ hnew_; rw [← NY1.out] at ho; have D6 := Aside0.mk (D5.out.step hb); obtain ⟨A29, c29, eo⟩ := Kd.R_slice ho; subst eo; have HO29 := Aside0.mk ho; clear ho hb)
        | (go_at_call 29; ((with_reducible refine Calls.mono (codel_within.calls k 0 2199023255552 _ _ y1 false _ ?s1 ?s2 HB1.out) ?_); (case s1 => exact (Kd.R_reads' HO29.out).2.2); (case s2 => exact (Kd.R_reads' HO29.out).2.1); rintro e w12 ⟨rfl, hdr⟩; have D7 := Aside0.mk (D6.out.step hdr.below); clear hdr))
          )
        go_meet
        exact ⟨rfl, D7⟩
      | true =>
        go_wp2_with (first
        | ((with_reducible refine gate_dst (N := 29) rfl ?_); refine Kd.R_lit (Kd.int .i64) _ 3 ?hg (N := 29) ?hd (xs := [a3, a1_1, a1_3]) (inner := [.int .i64 a3, .int .i64 a1_1, .int .i64 a1_3]) (ok := fun _ => True) (okp := fun _ => True) ?hr ?hp (fun _ hk => hk) trivial (Below.refl _ _) (Nat.le_refl _) (by simp) ?_; (case hd => rfl); (case hg => rfl); (case hr => first | (go_simp; done) | (go_simp; rfl)); (case hp => exact (Reps.one (show Kd.M (Kd.int .i64) _ _ _ a3 [.int .i64 a3] from rfl) (Reps.one (show Kd.M (Kd.int .i64) _ _ _ a1_1 [.int .i64 a1_1] from rfl) (Reps.one (show Kd.M (Kd.int .i64) _ _ _ a1_3 [.int .i64 a1_3] from rfl) (Reps.none _ _))))); intro v29 w11 ho hb hg_ hnew_; clear hg_ hnew_; rw [← NY1.out] at ho; have D6 := Aside0.mk (D5.out.step hb); obtain ⟨A29, c29, eo⟩ := Kd.R_slice ho; subst eo; have HO29 := Aside0.mk ho; clear ho hb)
        | (go_at_call 29; ((with_reducible refine Calls.mono (codel_within.calls k 0 2199023255552 _ _ y1 true _ ?s1 ?s2 HB1.out) ?_); (case s1 => exact (Kd.R_reads' HO29.out).2.2); (case s2 => exact (Kd.R_reads' HO29.out).2.1); rintro e w12 ⟨rfl, hdr⟩; have D7 := Aside0.mk (D6.out.step hdr.below); clear hdr; clear p50 p51 p52 p53 p54 p55; have q5 := (D7.out.at g5 _ _ (.tail _ (.tail _ (.head _)))).1; have p74 : w12.cell? ⟨g5, 4, none⟩ = some (.int .i64 a1_4) := (blk_cell q5 4).trans rfl; have p75 : w12.cell? ⟨g5, 5, none⟩ = some (.int .i64 a1_5) := (blk_cell q5 5).trans rfl; clear q5))
        | ((with_reducible refine gate_dst (N := 36) rfl ?_); (try (refine gate_guard (by rfl) ?_; dsimp only)); refine Kd.R_lit (Kd.int .i64) _ 3 ?hg (N := 36) ?hd (xs := [a1_4, a1_5]) (inner := [.int .i64 a1_4, .int .i64 a1_5]) (ok := fun _ => True) (okp := fun _ => True) ?hr ?hp (fun _ hk => hk) trivial (Below.refl _ _) (Nat.le_refl _) (by simp) ?_; (case hd => rfl); (case hg => rfl); (case hr => first | (go_simp; done) | (go_simp; rfl)); (case hp => exact (Reps.one (show Kd.M (Kd.int .i64) _ _ _ a1_4 [.int .i64 a1_4] from rfl) (Reps.one (show Kd.M (Kd.int .i64) _ _ _ a1_5 [.int .i64 a1_5] from rfl) (Reps.none _ _)))); intro v36 w13 ho hb hg_ hnew_; clear hg_ hnew_; rw [← NY2.out] at ho; have D8 := Aside0.mk (D7.out.step hb); obtain ⟨A36, c36, eo⟩ := Kd.R_slice ho; subst eo; have HO36 := Aside0.mk ho; clear ho hb)
        | (go_at_call 29; ((with_reducible refine Calls.mono (codel_within.calls k 0 1073741824 _ _ y2 b2 _ ?s1 ?s2 HB2.out) ?_); (case s1 => exact (Kd.R_reads' HO36.out).2.2); (case s2 => exact (Kd.R_reads' HO36.out).2.1); rintro e w14 ⟨rfl, hdr⟩; have D9 := Aside0.mk (D8.out.step hdr.below); clear hdr))
          )
        go_meet
        exact ⟨rfl, D9⟩
    case rest =>
      obtain ⟨rfl, DC⟩ := hcut
      clear p50 p51 p52 p53 p54 p55 D0 D1 D2 D3 D4 D5 HB1 HB2 NY1 NY2 HK
      obtain ⟨wo, rfl⟩ : ∃ wo : World, wo = wc := ⟨_, rfl⟩
      have HQ := Aside0.mk (Kd.C_below HR.out DC.out.B)
      have q4 := (DC.out.at g4 _ _ (.tail _ (.tail _ (.tail _ (.head _))))).1
      have p40 : wo.cell? ⟨g4, 0, none⟩ = some (.int .i64 a0_0) := (blk_cell q4 0).trans rfl
      have p41 : wo.cell? ⟨g4, 1, none⟩ = some (.int .i64 a0_1) := (blk_cell q4 1).trans rfl
      have p42 : wo.cell? ⟨g4, 2, none⟩ = some (.int .i64 a0_2) := (blk_cell q4 2).trans rfl
      clear q4
      have q5 := (DC.out.at g5 _ _ (.tail _ (.tail _ (.head _)))).1
      have p50 : wo.cell? ⟨g5, 0, none⟩ = some (.bool a1_0) := (blk_cell q5 0).trans rfl
      have p51 : wo.cell? ⟨g5, 1, none⟩ = some (.int .i64 a1_1) := (blk_cell q5 1).trans rfl
      have p52 : wo.cell? ⟨g5, 2, none⟩ = some (.bool a1_2) := (blk_cell q5 2).trans rfl
      have p53 : wo.cell? ⟨g5, 3, none⟩ = some (.int .i64 a1_3) := (blk_cell q5 3).trans rfl
      have p54 : wo.cell? ⟨g5, 4, none⟩ = some (.int .i64 a1_4) := (blk_cell q5 4).trans rfl
      have p55 : wo.cell? ⟨g5, 5, none⟩ = some (.int .i64 a1_5) := (blk_cell q5 5).trans rfl
      clear q5
      go_upto_region 6 with ((with_reducible refine gate_dst (N := 44) rfl ?_); refine box_event ?hg (N := 44) ?hd (cs := (runOf a0_0 a0_1 a0_2 a1_0 a1_1 a1_2 a1_3 a1_4 a1_5 l2 0 a3).cells A2 c2 (.slice none 0 0)) (t := 87) ?hr ?_; (case hd => rfl); (case hg => rfl); (case hr => first | (go_simp; done) | (go_simp; rfl)); intro gb eb w15 kb bb; have HRB := Aside0.mk (show RB wo w15 gb (runOf a0_0 a0_1 a0_2 a1_0 a1_1 a1_2 a1_3 a1_4 a1_5 l2 0 a3) A2 c2 (.slice none 0 0) from ⟨⟨bb, by rw [eb]; exact Nat.le_refl _, kb, Kd.R_nil _ _ _ _ _⟩, HC.out, HQ.out⟩); clear eb kb bb)
      clear p40 p41 p42 p50 p51 p52 p53 p54 p55
      go_wp2
      go_loopg [12, 47] l2.length (fun kq v12 v47 w' => ∃ (j : Nat) (okj : Bool) (sj : Int), v12 = .bool okj ∧ v47 = .int .i64 j ∧ Aside0 (j + kq = l2.length) ∧ Aside0 (okGo k okj (l2.drop j) = some ok) ∧ Aside0 (sumGo sj (l2.drop j) = sumGo 0 l2) ∧ Aside0 (RB wo w' gb (runOf a0_0 a0_1 a0_2 a1_0 a1_1 a1_2 a1_3 a1_4 a1_5 l2 sj a3) A2 c2 (.slice none 0 0)))
      case atStart => exact ⟨0, b1 && b2, 0, rfl, rfl, ⟨by omega⟩, ⟨by rw [List.drop_zero]; exact HOK.out⟩, ⟨by rw [List.drop_zero]⟩, HRB⟩
      case round =>
        clear HRB HOK
        obtain ⟨j, okj, sj, rfl, rfl, HJ, HOK, HS, HRB⟩ := hrel
        cases gk with
        | zero =>
          have ej : j = l2.length := by have := HJ.out; omega
          subst ej
          have hok := HOK.out
          have hs := HS.out
          rw [List.drop_length] at hok hs
          simp only [okGo, sumGo] at hok hs
          obtain rfl := Option.some.inj hok
          subst hs
          have lt1 : decide ((l2.length : Int) < (l2.length : Int)) = false := by simp
          have h := H.out
          clear hok HJ HOK HS H
          have hbx := DC.out.step HRB.out.C.B
          have HD := Aside0.mk hbx
          clear hbx
          cases okj with
          | false =>
            rw [if_neg (by decide)] at h
            obtain ⟨e1, e2⟩ := Prod.mk.inj (Option.some.inj h)
            subst e1 e2
            clear h
            have k8 := HD.out.at g8 _ _ (.tail _ (.head _))
            have k9 := HD.out.at g9 _ _ (.head _)
            have n89 : g8 ≠ g9 := blk_ne k8.1 k9.1 (by decide)
            have n98 : g9 ≠ g8 := fun e => n89 e.symm
            have z80 : wr.cell? ⟨g8, 0, none⟩ = some (.bool false) := (blk_cell k8.1 0).trans rfl
            have z81 : wr.cell? ⟨g8, 1, none⟩ = some (.int .i64 0) := (blk_cell k8.1 1).trans rfl
            have z82 : wr.cell? ⟨g8, 2, none⟩ = some (.bool false) := (blk_cell k8.1 2).trans rfl
            have z83 : wr.cell? ⟨g8, 3, none⟩ = some (.int .i64 0) := (blk_cell k8.1 3).trans rfl
            have z84 : wr.cell? ⟨g8, 4, none⟩ = some (.int .i64 0) := (blk_cell k8.1 4).trans rfl
            have z85 : wr.cell? ⟨g8, 5, none⟩ = some (.int .i64 0) := (blk_cell k8.1 5).trans rfl
            have f8 : ∀ i, wr.frozen? ⟨g8, i, none⟩ = false := fun i => blk_frozen k8.1 i
            have z90 : wr.cell? ⟨g9, 0, none⟩ = some (.bool false) := (blk_cell k9.1 0).trans rfl
            have z91 : wr.cell? ⟨g9, 1, none⟩ = some (.int .i64 0) := (blk_cell k9.1 1).trans rfl
            have z92 : wr.cell? ⟨g9, 2, none⟩ = some (.int .i64 0) := (blk_cell k9.1 2).trans rfl
            have z93 : wr.cell? ⟨g9, 3, none⟩ = some (.bool false) := (blk_cell k9.1 3).trans rfl
            have z94 : wr.cell? ⟨g9, 4, none⟩ = some (.int .i64 0) := (blk_cell k9.1 4).trans rfl
            have z95 : wr.cell? ⟨g9, 5, none⟩ = some (.bool false) := (blk_cell k9.1 5).trans rfl
            have z96 : wr.cell? ⟨g9, 6, none⟩ = some (.slice none 0 0) := (blk_cell k9.1 6).trans rfl
            have z97 : wr.cell? ⟨g9, 7, none⟩ = some (.int .i64 0) := (blk_cell k9.1 7).trans rfl
            have f9 : ∀ i, wr.frozen? ⟨g9, i, none⟩ = false := fun i => blk_frozen k9.1 i
            have ou : Ou w wr g8 g9 (stC (runOf 0 0 0 false 0 false 0 0 0 [] 0 0)) (reC (runOf 0 0 0 false 0 false 0 0 0 [] 0 0) (.slice none 0 0)) (.slice none 0 0) (runOf 0 0 0 false 0 false 0 0 0 [] 0 0).dropped := ⟨HD.out.B, k8.2, k9.2, k8.1, k9.1, Kd.R_nil _ _ _ _ _⟩
            have HO := Aside0.mk ou
            clear k8 k9 ou
            go_wp2
            have ou := HO.out
            exact dq_ret (show Ou w _ g8 g9 (stC (runOf 0 0 0 false 0 false 0 0 0 [] 0 0)) (reC (runOf 0 0 0 false 0 false 0 0 0 [] 0 0) (.slice none 0 0)) (.slice none 0 0) (runOf 0 0 0 false 0 false 0 0 0 [] 0 0).dropped from ((((((((((((((ou.p8 0 (.bool false)).p8 1 (.int .i64 0)).p8 2 (.bool false)).p8 3 (.int .i64 0)).p8 4 (.int .i64 0)).p8 5 (.int .i64 0)).p9 0 (.bool false)).p9 1 (.int .i64 0)).p9 2 (.int .i64 0)).p9 3 (.bool false)).p9 4 (.int .i64 0)).p9 5 (.bool false)).p9 6 (.slice none 0 0)).p9 7 (.int .i64 0))) rfl rfl rfl
          | true =>
            rw [if_pos rfl] at h
            by_cases hn : l2.length < 4398046511000
            · rw [if_pos hn] at h
              obtain ⟨r2, haf, h⟩ := Option.bind_eq_some_iff.1 h
              obtain ⟨e1, e2⟩ := Prod.mk.inj (Option.some.inj h)
              subst e2
              have E1 := Aside0.mk e1
              have hrb := HRB.out
              have hd0 : (runOf a0_0 a0_1 a0_2 a1_0 a1_1 a1_2 a1_3 a1_4 a1_5 l2 (sumGo 0 l2) a3).dropped = [] := rfl
              generalize runOf a0_0 a0_1 a0_2 a1_0 a1_1 a1_2 a1_3 a1_4 a1_5 l2 (sumGo 0 l2) a3 = r0 at haf hrb hd0
              have HAF := Aside0.mk haf
              have HR0 := Aside0.mk hrb
              have HD0 := Aside0.mk hd0
              have HN := Aside0.mk hn
              clear haf hrb hd0 hn h e1 HRB
              go_upto_block 2 with (go_at_call 30; (with_reducible refine Calls.mono (take_in HR0.out) ?_); rintro e w20 ⟨rfl, A3, c3, h3⟩; have HT := Aside0.mk h3; clear h3)
              clear HR0
              have hbt := DC.out.step HT.out.C.B
              have p52 : w20.cell? ⟨g5, 2, none⟩ = some (.bool a1_2) := (blk_cell (hbt.at g5 _ _ (.tail _ (.tail _ (.head _)))).1 2).trans rfl
              clear hbt HD
              have htd : (takeR r0).1.dropped = [] := (takeR_dropped r0).trans HD0.out
              have hlen : (takeR r0).1.dropped.length + (l2.length + 2) < 4398046511103 := by rw [htd]; have := HN.out; simp; omega
              have haf := HAF.out
              unfold afterR at haf
              have HLEN := Aside0.mk hlen
              clear HAF htd hlen
              generalize hr1 : (takeR r0).1 = r1 at haf HT HLEN
              generalize hrip : (takeR r0).2 = rp at haf ⊢
              clear hr1 hrip
              go_cut [13] (fun v13 W => v13 = .pointer (some ⟨gb, 0, none⟩) ∧ ∃ A' c' v', Aside0 (RB wo W gb r2 A' c' v'))
              case first =>
                cases a1_2 with
                | true =>
                  rw [if_pos rfl] at haf
                  have HAF := Aside0.mk haf
                  clear haf
                  go_wp2_with (go_at_call 31; (with_reducible refine Calls.mono (goOn_in k (l2.length + 2) rp HT.out HLEN.out HAF.out) ?_); rintro e w21 ⟨rfl, A4, c4, v4, h4⟩; have HU := Aside0.mk h4; clear h4)
                  go_meet
                  exact ⟨rfl, A4, c4, v4, HU⟩
                | false =>
                  rw [if_neg (by decide)] at haf
                  cases rp with
                  | true =>
                    rw [if_pos rfl] at haf
                    have HAF := Aside0.mk haf
                    clear haf
                    go_wp2_with (go_at_call 32; (with_reducible refine Calls.mono (begin_in k HT.out (by have := HLEN.out; omega) HAF.out) ?_); rintro e w21 ⟨rfl, A4, c4, v4, h4⟩; have HU := Aside0.mk h4; clear h4)
                    go_meet
                    exact ⟨rfl, A4, c4, v4, HU⟩
                  | false =>
                    rw [if_neg (by decide)] at haf
                    have ha := Option.some.inj haf
                    subst ha
                    clear haf
                    go_wp2
                    go_meet
                    exact ⟨rfl, A3, c3, _, HT⟩
              case rest =>
                obtain ⟨rfl, A4, c4, v4, HU⟩ := hcut
                clear p52 haf HT HLEN
                obtain ⟨Av, cv, ev⟩ := Kd.R_slice HU.out.C.HD
                subst ev
                obtain ⟨fz, z0, z1, z2, z3, z4, z5, z6, z7, z8, z9, z10, z11, z12, z13, z14, z15, z16, z17, z18, z19, z20, z21, z22, z23, z24⟩ := HU.out.C.zs
                clear z0 z1 z2 z3 z4 z5 z6 z7 z8 z10 z11 z22 z23
                go_wp2
                go_region
                have h19 : RC wo _ gb (({ r2 with rhas := r2.has, out := r2.cur, left := (r2.q.length : Int) } : Run).cells A4 c4 (.slice Av r2.dropped.length cv)) (.slice Av r2.dropped.length cv) r2.dropped := ((((((HU.out.C.put 17 (.bool r2.has)).put 18 (.int .i64 r2.cur.f0)).put 19 (.int .i64 r2.cur.f1)).put 20 (.bool r2.cur.f2)).put 21 (.int .i64 r2.cur.f3)).put 24 (.int .i64 (r2.q.length : Int))).drew
                clear fz z9 z12 z13 z14 z15 z16 z17 z18 z19 z20 z21 z24 HU
                generalize World.drew _ = W2 at h19 ⊢
                have hd2 := DC.out.step h19.B
                have k8 := hd2.at g8 _ _ (.tail _ (.head _))
                have k9 := hd2.at g9 _ _ (.head _)
                have l8 := blk_lt (DC.out.at g8 _ _ (.tail _ (.head _))).1
                have l9 := blk_lt (DC.out.at g9 _ _ (.head _)).1
                have n89 : g8 ≠ g9 := blk_ne k8.1 k9.1 (by decide)
                have n98 : g9 ≠ g8 := fun e => n89 e.symm
                have n8 : g8 ≠ gb := fun e => by have := h19.ge; omega
                have n8' : gb ≠ g8 := fun e => n8 e.symm
                have n9 : g9 ≠ gb := fun e => by have := h19.ge; omega
                have n9' : gb ≠ g9 := fun e => n9 e.symm
                have ou : Ou w W2 g8 g9 #[.bool false, .int .i64 0, .bool false, .int .i64 0, .int .i64 0, .int .i64 0] #[.bool false, .int .i64 0, .int .i64 0, .bool false, .int .i64 0, .bool false, .slice none 0 0, .int .i64 0] (.slice Av r2.dropped.length cv) ({ r2 with rhas := r2.has, out := r2.cur, left := (r2.q.length : Int) } : Run).dropped := ⟨hd2.B, k8.2, k9.2, k8.1, k9.1, Kd.R_lower (Kd.R_mono (Kd.R_bound h19.HD) (fun k hk => ⟨fun e => by have := hk.2.1; omega, fun e => by have := hk.2.1; omega⟩)) (below_size DC.out.B)⟩
                have HO := Aside0.mk ou
                obtain ⟨fz, z0, z1, z2, z3, z4, z5, z6, z7, z8, z9, z10, z11, z12, z13, z14, z15, z16, z17, z18, z19, z20, z21, z22, z23, z24⟩ := h19.zs
                dsimp only at z0 z1 z2 z3 z4 z5 z6 z7 z8 z9 z10 z11 z12 z13 z14 z15 z16 z17 z18 z19 z20 z21 z22 z23 z24
                have y80 : W2.cell? ⟨g8, 0, none⟩ = some (.bool false) := (blk_cell k8.1 0).trans rfl
                have y81 : W2.cell? ⟨g8, 1, none⟩ = some (.int .i64 0) := (blk_cell k8.1 1).trans rfl
                have y82 : W2.cell? ⟨g8, 2, none⟩ = some (.bool false) := (blk_cell k8.1 2).trans rfl
                have y83 : W2.cell? ⟨g8, 3, none⟩ = some (.int .i64 0) := (blk_cell k8.1 3).trans rfl
                have y84 : W2.cell? ⟨g8, 4, none⟩ = some (.int .i64 0) := (blk_cell k8.1 4).trans rfl
                have y85 : W2.cell? ⟨g8, 5, none⟩ = some (.int .i64 0) := (blk_cell k8.1 5).trans rfl
                have y8 : ∀ i, W2.frozen? ⟨g8, i, none⟩ = false := fun i => blk_frozen k8.1 i
                have y90 : W2.cell? ⟨g9, 0, none⟩ = some (.bool false) := (blk_cell k9.1 0).trans rfl
                have y91 : W2.cell? ⟨g9, 1, none⟩ = some (.int .i64 0) := (blk_cell k9.1 1).trans rfl
                have y92 : W2.cell? ⟨g9, 2, none⟩ = some (.int .i64 0) := (blk_cell k9.1 2).trans rfl
                have y93 : W2.cell? ⟨g9, 3, none⟩ = some (.bool false) := (blk_cell k9.1 3).trans rfl
                have y94 : W2.cell? ⟨g9, 4, none⟩ = some (.int .i64 0) := (blk_cell k9.1 4).trans rfl
                have y95 : W2.cell? ⟨g9, 5, none⟩ = some (.bool false) := (blk_cell k9.1 5).trans rfl
                have y96 : W2.cell? ⟨g9, 6, none⟩ = some (.slice none 0 0) := (blk_cell k9.1 6).trans rfl
                have y97 : W2.cell? ⟨g9, 7, none⟩ = some (.int .i64 0) := (blk_cell k9.1 7).trans rfl
                have y9 : ∀ i, W2.frozen? ⟨g9, i, none⟩ = false := fun i => blk_frozen k9.1 i
                clear k8 k9 l8 l9 ou hd2 z0 z1 z2 z9 z10 z11 z12 z13 z14 z15 z16
                have H19 := Aside0.mk h19
                clear h19
                go_wp2
                go_region
                go_wp2
                have e1 := E1.out
                subst e1
                exact dq_ret (show Ou w _ g8 g9 (stC ({ r2 with rhas := r2.has, out := r2.cur, left := (r2.q.length : Int) } : Run)) (reC ({ r2 with rhas := r2.has, out := r2.cur, left := (r2.q.length : Int) } : Run) (.slice Av r2.dropped.length cv)) (.slice Av r2.dropped.length cv) ({ r2 with rhas := r2.has, out := r2.cur, left := (r2.q.length : Int) } : Run).dropped from ((((((((((((((HO.out.p8 0 (.bool r2.above)).p8 1 (.int .i64 r2.aboveAt)).p8 2 (.bool r2.dropping)).p8 3 (.int .i64 r2.next)).p8 4 (.int .i64 r2.count)).p8 5 (.int .i64 r2.last)).p9 0 (.bool r2.has)).p9 1 (.int .i64 r2.cur.f0)).p9 2 (.int .i64 r2.cur.f1)).p9 3 (.bool r2.cur.f2)).p9 4 (.int .i64 r2.cur.f3)).p9 5 (.bool r2.marked)).p9 6 (.slice Av r2.dropped.length cv)).p9 7 (.int .i64 (r2.q.length : Int))).drew) rfl rfl rfl
            · rw [if_neg hn] at h
              cases h
        | succ k1 =>
          have hj : j < l2.length := by have := HJ.out; omega
          have ed : l2.drop j = l2[j] :: l2.drop (j + 1) := List.drop_eq_getElem_cons hj
          have hok := HOK.out
          have hs := HS.out
          rw [ed] at hok hs
          obtain ⟨x, hx⟩ : ∃ x, l2[j] = x := ⟨_, rfl⟩
          rw [hx] at hok hs
          simp only [okGo] at hok
          obtain ⟨bx, hbx, hok⟩ := Option.bind_eq_some_iff.1 hok
          obtain ⟨by_, hby, hok⟩ := Option.bind_eq_some_iff.1 hok
          simp only [sumGo] at hs
          obtain ⟨ad, eA, x0, x1, x2, x3⟩ := at_T41 HQ.out (j : Int) (by omega) (by omega)
          have er : rd_T41 l2 (j : Int) = x := by rw [← hx]; unfold rd_T41; simp [List.getD_eq_getElem?_getD, hj]
          rw [er] at x0 x1 x2 x3
          subst eA
          have x0 : wr.cell? (ad.add (j * 4)) = some (.int .i64 x.f0) := by simpa using (HRB.out.C.B.cell (World.block_lt_of_cell? wo _ x0)).trans x0
          have x1 : wr.cell? ⟨(ad.add (j * 4)).block, (ad.add (j * 4)).off + 1, none⟩ = some (.int .i64 x.f1) := by simpa using (HRB.out.C.B.cell (World.block_lt_of_cell? wo _ x1)).trans x1
          have x2 : wr.cell? ⟨(ad.add (j * 4)).block, (ad.add (j * 4)).off + 2, none⟩ = some (.bool x.f2) := by simpa using (HRB.out.C.B.cell (World.block_lt_of_cell? wo _ x2)).trans x2
          have x3 : wr.cell? ⟨(ad.add (j * 4)).block, (ad.add (j * 4)).off + 3, none⟩ = some (.int .i64 x.f3) := by simpa using (HRB.out.C.B.cell (World.block_lt_of_cell? wo _ x3)).trans x3
          have lt1 : decide ((j : Int) < (l2.length : Int)) = true := decide_eq_true (by omega)
          have i0 : (0 : Int) ≤ (j : Int) := by omega
          have i1 : (j : Int) < (l2.length : Int) := by omega
          have HJ2 := Aside0.mk hj
          have HBX := Aside0.mk hbx
          have HBY := Aside0.mk hby
          have HOK2 := Aside0.mk hok
          have HS2 := Aside0.mk hs
          clear hj ed hok hs hx hbx hby er HOK HS
          go_upto_region 9 with (fail)
          have kx := blk_new wr (.cells #[.int .i64 x.f0, .int .i64 x.f1, .bool x.f2, .int .i64 x.f3] 41)
          have b8 : Below wr.heap.size wr (wr.alloc (.cells #[.int .i64 x.f0, .int .i64 x.f1, .bool x.f2, .int .i64 x.f3] 41)) := below_alloc (Below.refl _ _) _
          have hrb8 := HRB.out.C.step b8
          clear x0 x1 x2 x3 b8
          generalize wr.alloc _ = W8 at kx hrb8 ⊢
          generalize wr.heap.size = gx at kx ⊢
          have HRB8 := Aside0.mk hrb8
          have KX8 := Aside0.mk kx
          obtain ⟨y3, hy3⟩ : ∃ y_ : List Int, y_ = [x.f0] := ⟨_, rfl⟩
          obtain ⟨y4, hy4⟩ : ∃ y_ : List Int, y_ = [x.f1] := ⟨_, rfl⟩
          have hbx := HBX.out
          have hby := HBY.out
          rw [← hy3] at hbx
          rw [← hy4] at hby
          have HBX := Aside0.mk hbx
          have HBY := Aside0.mk hby
          have NY3 := Aside0.mk hy3
          have NY4 := Aside0.mk hy4
          clear hbx hby hy3 hy4 hrb8 kx lt1 i0 i1
          go_cut [12] (fun v12 W => v12 = .bool (okj && bx && by_) ∧ Aside0 (Below W8.heap.size W8 W))
          case first =>
            have KX := KX8
            have DB := Aside0.mk (Below.refl W8.heap.size W8)
            have px0 : W8.cell? ⟨gx, 0, none⟩ = some (.int .i64 x.f0) := (blk_cell KX.out 0).trans rfl
            have px1 : W8.cell? ⟨gx, 1, none⟩ = some (.int .i64 x.f1) := (blk_cell KX.out 1).trans rfl
            cases okj with
            | false =>
              go_wp2
              go_meet
              exact ⟨rfl, DB⟩
            | true =>
              cases bx with
              | false =>
                go_wp2_with (first
              | ((with_reducible refine gate_dst (N := 55) rfl ?_); (try (refine gate_guard (by rfl) ?_; dsimp only)); refine Kd.R_lit (Kd.int .i64) _ 3 ?hg (N := 55) ?hd (xs := [x.f0]) (inner := [.int .i64 x.f0]) (ok := fun _ => True) (okp := fun _ => True) ?hr ?hp (fun _ hk => hk) trivial (Below.refl _ _) (Nat.le_refl _) (by simp) ?_; (case hd => rfl); (case hg => rfl); (case hr => first | (go_simp; done) | (go_simp; rfl)); (case hp => exact (Reps.one (show Kd.M (Kd.int .i64) _ _ _ x.f0 [.int .i64 x.f0] from rfl) (Reps.none _ _))); intro v55 w16 ho hb hg_ hnew_; clear hg_ hnew_; rw [← NY3.out] at ho; have n0_ := Aside0.mk (below_step DB.out hb); have n1_ := Aside0.mk (blk_below KX.out hb); clear DB KX px0 px1; have DB := n0_; have KX := n1_; clear n0_ n1_; have px0 : w16.cell? ⟨gx, 0, none⟩ = some (.int .i64 x.f0) := (blk_cell KX.out 0).trans rfl; have px1 : w16.cell? ⟨gx, 1, none⟩ = some (.int .i64 x.f1) := (blk_cell KX.out 1).trans rfl; obtain ⟨A55, c55, eo⟩ := Kd.R_slice ho; subst eo; have HO55 := Aside0.mk ho; clear ho hb)
              | (go_at_call 29; (with_reducible refine Calls.mono (codel_within.calls k 0 2199023255552 _ _ y3 false _ ?s1 ?s2 HBX.out) ?_); (case s1 => exact (Kd.R_reads' HO55.out).2.2); (case s2 => exact (Kd.R_reads' HO55.out).2.1); rintro e w17 ⟨rfl, hdr⟩; have n0_ := Aside0.mk (below_step DB.out hdr.below); have n1_ := Aside0.mk (blk_below KX.out hdr.below); clear DB KX px0 px1 hdr; have DB := n0_; have KX := n1_; clear n0_ n1_; have px0 : w17.cell? ⟨gx, 0, none⟩ = some (.int .i64 x.f0) := (blk_cell KX.out 0).trans rfl; have px1 : w17.cell? ⟨gx, 1, none⟩ = some (.int .i64 x.f1) := (blk_cell KX.out 1).trans rfl)
              )
                go_meet
                exact ⟨rfl, DB⟩
              | true =>
                go_wp2_with (first
              | ((with_reducible refine gate_dst (N := 55) rfl ?_); (try (refine gate_guard (by rfl) ?_; dsimp only)); refine Kd.R_lit (Kd.int .i64) _ 3 ?hg (N := 55) ?hd (xs := [x.f0]) (inner := [.int .i64 x.f0]) (ok := fun _ => True) (okp := fun _ => True) ?hr ?hp (fun _ hk => hk) trivial (Below.refl _ _) (Nat.le_refl _) (by simp) ?_; (case hd => rfl); (case hg => rfl); (case hr => first | (go_simp; done) | (go_simp; rfl)); (case hp => exact (Reps.one (show Kd.M (Kd.int .i64) _ _ _ x.f0 [.int .i64 x.f0] from rfl) (Reps.none _ _))); intro v55 w16 ho hb hg_ hnew_; clear hg_ hnew_; rw [← NY3.out] at ho; have n0_ := Aside0.mk (below_step DB.out hb); have n1_ := Aside0.mk (blk_below KX.out hb); clear DB KX px0 px1; have DB := n0_; have KX := n1_; clear n0_ n1_; have px0 : w16.cell? ⟨gx, 0, none⟩ = some (.int .i64 x.f0) := (blk_cell KX.out 0).trans rfl; have px1 : w16.cell? ⟨gx, 1, none⟩ = some (.int .i64 x.f1) := (blk_cell KX.out 1).trans rfl; obtain ⟨A55, c55, eo⟩ := Kd.R_slice ho; subst eo; have HO55 := Aside0.mk ho; clear ho hb)
              | (go_at_call 29; (with_reducible refine Calls.mono (codel_within.calls k 0 2199023255552 _ _ y3 true _ ?s1 ?s2 HBX.out) ?_); (case s1 => exact (Kd.R_reads' HO55.out).2.2); (case s2 => exact (Kd.R_reads' HO55.out).2.1); rintro e w17 ⟨rfl, hdr⟩; have n0_ := Aside0.mk (below_step DB.out hdr.below); have n1_ := Aside0.mk (blk_below KX.out hdr.below); clear DB KX px0 px1 hdr; have DB := n0_; have KX := n1_; clear n0_ n1_; have px0 : w17.cell? ⟨gx, 0, none⟩ = some (.int .i64 x.f0) := (blk_cell KX.out 0).trans rfl; have px1 : w17.cell? ⟨gx, 1, none⟩ = some (.int .i64 x.f1) := (blk_cell KX.out 1).trans rfl)
              | ((with_reducible refine gate_dst (N := 61) rfl ?_); (try (refine gate_guard (by rfl) ?_; dsimp only)); refine Kd.R_lit (Kd.int .i64) _ 3 ?hg (N := 61) ?hd (xs := [x.f1]) (inner := [.int .i64 x.f1]) (ok := fun _ => True) (okp := fun _ => True) ?hr ?hp (fun _ hk => hk) trivial (Below.refl _ _) (Nat.le_refl _) (by simp) ?_; (case hd => rfl); (case hg => rfl); (case hr => first | (go_simp; done) | (go_simp; rfl)); (case hp => exact (Reps.one (show Kd.M (Kd.int .i64) _ _ _ x.f1 [.int .i64 x.f1] from rfl) (Reps.none _ _))); intro v61 w18 ho hb hg_ hnew_; clear hg_ hnew_; rw [← NY4.out] at ho; have n0_ := Aside0.mk (below_step DB.out hb); have n1_ := Aside0.mk (blk_below KX.out hb); clear DB KX px0 px1; have DB := n0_; have KX := n1_; clear n0_ n1_; have px0 : w18.cell? ⟨gx, 0, none⟩ = some (.int .i64 x.f0) := (blk_cell KX.out 0).trans rfl; have px1 : w18.cell? ⟨gx, 1, none⟩ = some (.int .i64 x.f1) := (blk_cell KX.out 1).trans rfl; obtain ⟨A61, c61, eo⟩ := Kd.R_slice ho; subst eo; have HO61 := Aside0.mk ho; clear ho hb)
              | (go_at_call 29; (with_reducible refine Calls.mono (codel_within.calls k 1 65535 _ _ y4 by_ _ ?s1 ?s2 HBY.out) ?_); (case s1 => exact (Kd.R_reads' HO61.out).2.2); (case s2 => exact (Kd.R_reads' HO61.out).2.1); rintro e w19 ⟨rfl, hdr⟩; have n0_ := Aside0.mk (below_step DB.out hdr.below); have n1_ := Aside0.mk (blk_below KX.out hdr.below); clear DB KX px0 px1 hdr; have DB := n0_; have KX := n1_; clear n0_ n1_; have px0 : w19.cell? ⟨gx, 0, none⟩ = some (.int .i64 x.f0) := (blk_cell KX.out 0).trans rfl; have px1 : w19.cell? ⟨gx, 1, none⟩ = some (.int .i64 x.f1) := (blk_cell KX.out 1).trans rfl)
              )
                go_meet
                exact ⟨rfl, DB⟩
          case rest =>
            obtain ⟨rfl, DB⟩ := hcut
            have hrb := HRB8.out.step DB.out
            have kx := blk_below KX8.out DB.out
            have HRB9 := Aside0.mk hrb
            have z10 : wc.cell? ⟨gb, 10, none⟩ = some (.int .i64 sj) := (hrb.z 10).1.trans rfl
            have f10 : wc.frozen? ⟨gb, 10, none⟩ = false := (hrb.z 10).2
            have px1 : wc.cell? ⟨gx, 1, none⟩ = some (.int .i64 x.f1) := (blk_cell kx 1).trans rfl
            clear hrb kx HRB8 KX8 DB HBX HBY NY3 NY4
            go_wp2
            go_region
            have h9 := RC.rb ((HRB9.out.put 10 (.int .i64 (wrap64 (sj + x.f1)))).drew) (runOf a0_0 a0_1 a0_2 a1_0 a1_1 a1_2 a1_3 a1_4 a1_5 l2 (wrap64 (sj + x.f1)) a3) (some ad) c2 rfl rfl HC.out HQ.out
            have H9 := Aside0.mk h9
            have hmx := Kd.C_max HQ.out
            have hj3 := HJ2.out
            have j0 : (0 : Int) ≤ (j : Int) := by omega
            have j1 : (j : Int) + 1 ≤ 9223372036854775807 := by omega
            clear h9 z10 f10 px1 hmx hj3
            go_wp2
            go_roundg k1
            case measure => omega
            case rel => exact ⟨j + 1, okj && bx && by_, wrap64 (sj + x.f1), rfl, by go_num, ⟨by have := HJ.out; omega⟩, HOK2, HS2, H9⟩
  · rw [if_neg c0] at h
    obtain ⟨e1, e2⟩ := Prod.mk.inj (Option.some.inj h)
    subst e1 e2
    have d0 : (e0 == 0) = false := by simpa using c0
    have d1 : (e0 != 0) = true := by simpa using c0
    clear h c0
    go_enter Try.func26, Try.ntmps26
    go_wp2_with (first
      | ((with_reducible refine gate_dst (N := 4) rfl ?_); refine box_event ?hg (N := 4) ?hd (cs := #[.int .i64 a0_0, .int .i64 a0_1, .int .i64 a0_2]) (t := 32) ?hr ?_; (case hd => rfl); (case hg => rfl); (case hr => first | (go_simp; done) | (go_simp; rfl)); intro g4 e4 w4 k4 b4; have D1 := Aside0.mk (D0.out.new b4 e4 k4); clear e4 k4 b4)
      | ((with_reducible refine gate_dst (N := 5) rfl ?_); refine box_event ?hg (N := 5) ?hd (cs := #[.bool a1_0, .int .i64 a1_1, .bool a1_2, .int .i64 a1_3, .int .i64 a1_4, .int .i64 a1_5]) (t := 71) ?hr ?_; (case hd => rfl); (case hg => rfl); (case hr => first | (go_simp; done) | (go_simp; rfl)); intro g5 e5 w5 k5 b5; have D2 := Aside0.mk (D1.out.new b5 e5 k5); clear e5 k5 b5)
      | ((with_reducible refine gate_dst (N := 8) rfl ?_); refine box_event ?hg (N := 8) ?hd (cs := #[.bool false, .int .i64 0, .bool false, .int .i64 0, .int .i64 0, .int .i64 0]) (t := 71) ?hr ?_; (case hd => rfl); (case hg => rfl); (case hr => first | (go_simp; done) | (go_simp; rfl)); intro g8 e8 w8 k8 b8; have D3 := Aside0.mk (D2.out.new b8 e8 k8); clear e8 k8 b8)
      | ((with_reducible refine gate_dst (N := 9) rfl ?_); refine box_event ?hg (N := 9) ?hd (cs := #[.bool false, .int .i64 0, .int .i64 0, .bool false, .int .i64 0, .bool false, .slice none 0 0, .int .i64 0]) (t := 80) ?hr ?_; (case hd => rfl); (case hg => rfl); (case hr => first | (go_simp; done) | (go_simp; rfl)); intro g9 e9 w9 k9 b9; have D4 := Aside0.mk (D3.out.new b9 e9 k9); clear e9 k9 b9; have q4 := (D4.out.at g4 _ _ (.tail _ (.tail _ (.tail _ (.head _))))).1; have p40 : w9.cell? ⟨g4, 0, none⟩ = some (.int .i64 a0_0) := (blk_cell q4 0).trans rfl; have p41 : w9.cell? ⟨g4, 1, none⟩ = some (.int .i64 a0_1) := (blk_cell q4 1).trans rfl; have p42 : w9.cell? ⟨g4, 2, none⟩ = some (.int .i64 a0_2) := (blk_cell q4 2).trans rfl; clear q4)
      | (go_at_call 28; (with_reducible refine Calls.mono (codel_Check.calls k _ _ _ _ _ HK.out) ?_); rintro e w10 ⟨rfl, b5⟩; have D5 := Aside0.mk (D4.out.step b5); clear b5 p40 p41 p42; have k8 := D5.out.at g8 _ _ (.tail _ (.head _)); have k9 := D5.out.at g9 _ _ (.head _); have n89 : g8 ≠ g9 := blk_ne k8.1 k9.1 (by decide); have n98 : g9 ≠ g8 := fun e => n89 e.symm; have HO := Aside0.mk (show Ou w w10 g8 g9 (stC (runOf 0 0 0 false 0 false 0 0 0 [] 0 0)) (reC (runOf 0 0 0 false 0 false 0 0 0 [] 0 0) (.slice none 0 0)) (.slice none 0 0) (runOf 0 0 0 false 0 false 0 0 0 [] 0 0).dropped from ⟨D5.out.B, k8.2, k9.2, k8.1, k9.1, Kd.R_nil _ _ _ _ _⟩); have z80 : w10.cell? ⟨g8, 0, none⟩ = some (.bool false) := (blk_cell k8.1 0).trans rfl; have z81 : w10.cell? ⟨g8, 1, none⟩ = some (.int .i64 0) := (blk_cell k8.1 1).trans rfl; have z82 : w10.cell? ⟨g8, 2, none⟩ = some (.bool false) := (blk_cell k8.1 2).trans rfl; have z83 : w10.cell? ⟨g8, 3, none⟩ = some (.int .i64 0) := (blk_cell k8.1 3).trans rfl; have z84 : w10.cell? ⟨g8, 4, none⟩ = some (.int .i64 0) := (blk_cell k8.1 4).trans rfl; have z85 : w10.cell? ⟨g8, 5, none⟩ = some (.int .i64 0) := (blk_cell k8.1 5).trans rfl; have f8 : ∀ i, w10.frozen? ⟨g8, i, none⟩ = false := fun i => blk_frozen k8.1 i; have z90 : w10.cell? ⟨g9, 0, none⟩ = some (.bool false) := (blk_cell k9.1 0).trans rfl; have z91 : w10.cell? ⟨g9, 1, none⟩ = some (.int .i64 0) := (blk_cell k9.1 1).trans rfl; have z92 : w10.cell? ⟨g9, 2, none⟩ = some (.int .i64 0) := (blk_cell k9.1 2).trans rfl; have z93 : w10.cell? ⟨g9, 3, none⟩ = some (.bool false) := (blk_cell k9.1 3).trans rfl; have z94 : w10.cell? ⟨g9, 4, none⟩ = some (.int .i64 0) := (blk_cell k9.1 4).trans rfl; have z95 : w10.cell? ⟨g9, 5, none⟩ = some (.bool false) := (blk_cell k9.1 5).trans rfl; have z96 : w10.cell? ⟨g9, 6, none⟩ = some (.slice none 0 0) := (blk_cell k9.1 6).trans rfl; have z97 : w10.cell? ⟨g9, 7, none⟩ = some (.int .i64 0) := (blk_cell k9.1 7).trans rfl; have f9 : ∀ i, w10.frozen? ⟨g9, i, none⟩ = false := fun i => blk_frozen k9.1 i; clear k8 k9))
    have ou := HO.out
    exact dq_ret (show Ou w _ g8 g9 (stC (runOf 0 0 0 false 0 false 0 0 0 [] 0 0)) (reC (runOf 0 0 0 false 0 false 0 0 0 [] 0 0) (.slice none 0 0)) (.slice none 0 0) (runOf 0 0 0 false 0 false 0 0 0 [] 0 0).dropped from ((((((((((((((ou.p8 0 (.bool false)).p8 1 (.int .i64 0)).p8 2 (.bool false)).p8 3 (.int .i64 0)).p8 4 (.int .i64 0)).p8 5 (.int .i64 0)).p9 0 (.bool false)).p9 1 (.int .i64 0)).p9 2 (.int .i64 0)).p9 3 (.bool false)).p9 4 (.int .i64 0)).p9 5 (.bool false)).p9 6 (.slice none 0 0)).p9 7 (.int .i64 0))) rfl rfl rfl
end Go.Proofs.Ytepolgapbbaklaa.Q
