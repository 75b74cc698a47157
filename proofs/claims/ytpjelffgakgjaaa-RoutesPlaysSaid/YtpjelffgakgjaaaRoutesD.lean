/- routes: the walk of the page's Drop. No condition. -/
import Derived.Test.YtpjelffgakgjaaaRoutesR
namespace Go.Proofs.Ytpjelffgakgjaaa.Q
set_option linter.unusedVariables false
set_option linter.unusedSimpArgs false
open Go.RowKit Go.Maps Go.Proofs.YtpjelffgakgjaaaW.PrintWords Go.Proofs.YtpjelffgakgjaaaW.PrintLast Go.Proofs.YtpjelffgakgjaaaW.PrintMore Go.Proofs.YtpjelffgakgjaaaW.MapIs
def delR (R : List S32) (n b : Int) : List S32 :=
  match R with
  | [] => []
  | y :: r => if y.f0 = n ∧ y.f1 = b then r else y :: delR r n b
def refDrop (R : List S32) (n b : Int) : List S32 × Int := if hasR R n b = true then (delR R n b, 0) else (R, 71)
set_option maxHeartbeats 8000000 in
set_option maxRecDepth 100000 in
theorem refDrop_in {w W : World} {g : Nat} {ok : Nat → Prop} {v : Value} {R : List S32} (h : RTB w W g ok v R) (hok : ∀ k, W.heap.size ≤ k → ok k) (n b : Int) (hn : R.length ≤ 256) :
    Calls Try.prog 13 #[.pointer (some ⟨g, 0, none⟩), .int .u32 n, .int .i64 b] W fun e W' => e = .returned (.int .i64 (refDrop R n b).2) ∧ ∃ v', RTB w W' g ok v' (refDrop R n b).1 ∧ Kept W W' (fun k => k = g ∨ some k = v.ownBlock) := by
  have hu32 := Try.underlying32
  have hu40 := Try.underlying40
  obtain ⟨Z, hZ⟩ : ∃ Z, refDrop R n b = Z := ⟨_, rfl⟩
  rw [hZ]
  unfold refDrop at hZ
  obtain ⟨A, c, ev⟩ := Kd.R_slice h.o
  subst ev
  have HZ := Aside0.mk hZ
  have HT := Aside0.mk h
  have HN := Aside0.mk hn
  have HOK := Aside0.mk hok
  have z := h.z
  clear h hZ hn hok
  go_enter Try.func13, Try.ntmps13
  go_wp2
  go_loopg [7] R.length (fun kq v7 w' => v7 = .int .i64 ((R.length - kq : Nat) : Int) ∧ Aside0 (kq ≤ R.length) ∧ Aside0 (hasR R n b = hasR (R.drop (R.length - kq)) n b) ∧ Aside0 (delR R n b = R.take (R.length - kq) ++ delR (R.drop (R.length - kq)) n b) ∧ W = w')
  case atStart => exact ⟨by rw [Nat.sub_self]; rfl, ⟨Nat.le_refl _⟩, ⟨by rw [Nat.sub_self, List.drop_zero]⟩, ⟨by rw [Nat.sub_self, List.drop_zero]; rfl⟩, rfl⟩
  case round =>
    obtain ⟨rfl, HJ, HA, HD, rfl⟩ := hrel
    cases gk with
    | zero =>
      have ha := HA.out
      rw [Nat.sub_zero, List.drop_length] at ha
      have HA2 := Aside0.mk (show hasR R n b = false by rw [ha]; rfl)
      clear ha HA HD
      rw [Nat.sub_zero]
      have lt1 : decide ((R.length : Int) < (R.length : Int)) = false := by simp
      go_wp2
      go_ret
      have e := HZ.out
      rw [HA2.out, if_neg (by simp)] at e
      subst e
      exact ⟨rfl, _, HT.out, Kept.refl _ _⟩
    | succ k1 =>
      obtain ⟨j, hj0⟩ : ∃ j, R.length - (k1 + 1) = j := ⟨_, rfl⟩
      have hjk := HJ.out
      have hj : j < R.length := by omega
      have ed : R.drop j = R[j] :: R.drop (j + 1) := List.drop_eq_getElem_cons hj
      obtain ⟨y, hy⟩ : ∃ y, R[j] = y := ⟨_, rfl⟩
      have ha := HA.out
      have hd := HD.out
      rw [hj0] at ha hd
      rw [hj0]
      rw [ed, hy] at ha hd
      have hcr := (Kd.R_reads' HT.out.o).2.2
      have hcc := (Kd.R_reads' HT.out.o).2.1
      obtain ⟨ad, eA, x0, x1, x2⟩ := at_T32 hcr (j : Int) (by omega) (by omega)
      have er : rd_T32 R (j : Int) = y := by rw [← hy]; unfold rd_T32; simp [List.getD_eq_getElem?_getD, hj]
      rw [er] at x0 x1 x2
      subst eA
      have x0 : W.cell? (ad.add (j * 3)) = some (.int .u32 y.f0) := x0
      have x1 : W.cell? ⟨(ad.add (j * 3)).block, (ad.add (j * 3)).off + 1, none⟩ = some (.int .i64 y.f1) := x1
      have lt1 : decide ((j : Int) < (R.length : Int)) = true := decide_eq_true (by omega)
      have i0 : (0 : Int) ≤ (j : Int) := by omega
      have i1 : (j : Int) < (R.length : Int) := by omega
      have J0 := Aside0.mk hj0
      have HJ2 := Aside0.mk hj
      have HCR := Aside0.mk hcr
      have HA2 := Aside0.mk ha
      have HD2 := Aside0.mk hd
      have hyj : R[j]? = some y := by rw [List.getElem?_eq_getElem hj, hy]
      have HYJ := Aside0.mk hyj
      by_cases e1 : y.f0 = n
      · have f1 : (y.f0 == n) = true := beq_iff_eq.2 e1
        by_cases e2 : y.f1 = b
        · have f2 : (y.f1 == b) = true := beq_iff_eq.2 e2
          have HH := Aside0.mk (show hasR R n b = true by rw [HA2.out]; simp [hasR, e1, e2])
          have HE := Aside0.mk (show delR R n b = R.take j ++ R.drop (j + 1) by rw [HD2.out]; simp [delR, e1, e2])
          have i2 : (j : Int) + 1 ≤ (R.length : Int) := by omega
          have i3 : (R.length : Int) ≤ (c : Int) := by omega
          have i4 : (j : Int) ≤ 256 := by have := HN.out; omega
          clear e1 e2 hj0 hjk hj ed hy ha hd hcr hcc er x2 HA HD hyj
          have HTK := Aside0.mk (show Kd.C k32 W (some ad) j (R.take j) by have := Kd.C_take (m := j) HCR.out (by have := HJ2.out; omega); rw [List.length_take, Nat.min_eq_left (by have := HJ2.out; omega)] at this; exact this)
          have HFR := Aside0.mk (show ∀ k, W.heap.size ≤ k → ok k ∧ k ≠ g from fun k hk => ⟨HOK.out k hk, fun e => by subst e; exact absurd (blk_lt HT.out.k) (Nat.not_lt.2 hk)⟩)
          go_upto_region 7 with (((with_reducible refine gate_builtin (b := .append) (xs := #[.tmp 40, .tmp 46]) rfl ?_); at_builtin; refine Kd.R_append_rows k32 (w0 := w) w.heap.size rfl (.tmp 40) (.tmp 46) 22 32 (.agg #[(.int .u32 0), (.int .i64 0), (.int .u32 0)]) 24 rfl Try.underlying22 infoR rfl (by decide) (by omega) (.slice none 0 0) ([] : List S32) (R.take j) _ j c (fun k => ok k ∧ k ≠ g) (fun _ => False) rfl rfl ?aO ?aR (fun _ _ h => h) (fun _ h => h.elim) ?aF ?aB ?aS ?aL ?_; (case aR => exact HTK.out); (case aB => exact HT.out.B); (case aF => exact HFR.out); (case aO => exact (Kd.R_nil _ _ _ _ _)); (case aS => exact (below_size HT.out.B)); (case aL => have := HN.out; have := HJ2.out; simp; omega); intro v1 w1 ho hb hg hat; have HO1 := Aside0.mk ho; have HB1 := Aside0.mk hb; have HG1 := Aside0.mk hg; have HAT1 := Aside0.mk hat; clear ho hb hg hat z x0 x1; have z := (blk_cell (blk_grown HT.out.k HG1.out (by simp [Value.ownBlock])) 0).trans (show _ = some (Value.slice (some ad) R.length c) from rfl)))
          have HSZ := Aside0.mk (show W.heap.size ≤ w1.heap.size from HG1.out.size)
          have HR1 := Kd.R_grown HT.out.o HG1.out (fun k _ => by simp [Value.ownBlock])
          have htd := Kd.C_drop (m := j + 1) (Kd.R_reads' HR1).2.2 (by have := HJ2.out; omega) (Kd.R_reads' HR1).2.1
          rw [List.length_drop] at htd
          have HTD := Aside0.mk htd
          have k1g := blk_grown HT.out.k HG1.out (by simp [Value.ownBlock])
          have K1 := Aside0.mk k1g
          have HNE := Aside0.mk (show some g ≠ v1.ownBlock from fun e => (HO1.out.1 g e.symm).2 rfl)
          clear htd k1g HR1
          go_wp2_with (((with_reducible refine gate_builtin (b := .append) (xs := #[.tmp 49, .tmp 56]) rfl ?_); at_builtin; refine Kd.R_append_rows k32 (w0 := w) w.heap.size rfl (.tmp 49) (.tmp 56) 22 32 (.agg #[(.int .u32 0), (.int .i64 0), (.int .u32 0)]) 24 rfl Try.underlying22 infoR rfl (by decide) (by omega) v1 ([] ++ R.take j) (R.drop (j + 1)) _ _ _ (fun k => ok k ∧ k ≠ g) (fun _ => False) rfl rfl ?aO ?aR (fun _ _ h => h) (fun _ h => h.elim) ?aF ?aB ?aS ?aL ?_; (case aR => exact HTD.out); (case aB => exact HB1.out); (case aF => exact fun k hk => HFR.out k (Nat.le_trans HSZ.out hk)); (case aO => exact HO1.out); (case aS => exact (below_size HB1.out)); (case aL => have := HN.out; have := HJ2.out; simp; omega); intro v2 w2 ho hb hg hat; have HO2 := Aside0.mk ho; have HB2 := Aside0.mk hb; have HG2 := Aside0.mk hg; have HAT2 := Aside0.mk hat; obtain ⟨A2, c2, e2⟩ := Kd.R_slice ho; subst e2; clear ho hb hg hat z; have kg := blk_grown K1.out HG2.out HNE.out; have zg := (blk_cell kg 0).trans (show _ = some (Value.slice (some ad) R.length c) from rfl); have fg := blk_frozen kg 0; have KG := Aside0.mk kg; clear kg))
          all_goals
            go_ret
            have e := HZ.out
            rw [if_pos HH.out, HE.out] at e
            subst e
            have el : ([] ++ R.take j ++ R.drop (j + 1)).length = min j R.length + (R.length - (j + 1)) := by simp
            have ho := HO2.out
            rw [el, List.nil_append] at ho
            refine ⟨rfl, ⟨_, below_set HB2.out HT.out.eg, HT.out.eg, blk_put KG.out 0 _ rfl, Kd.R_far (p := ⟨g, 0, none⟩) ho (fun _ hk => hk.2) _⟩, ?_⟩
            refine (Kept.of_grown HG2.out (Kept.of_grown HG1.out (Kept.refl W _) (fun k e => by simp [Value.ownBlock] at e)) (fun k e => ?_)).setCell (.inl (.inl rfl)) _
            rcases HAT1.out with e1 | ⟨b1, e1, hb1⟩
            · rw [e1] at e
              simp [Value.ownBlock] at e
            · rw [e1] at e
              cases e
              exact .inr hb1
        · have f2 : (y.f1 == b) = false := beq_eq_false_iff_ne.2 e2
          have HH := Aside0.mk (show hasR R n b = hasR (R.drop (j + 1)) n b by rw [HA2.out]; simp [hasR, e2])
          have HE := Aside0.mk (show delR R n b = R.take (j + 1) ++ delR (R.drop (j + 1)) n b by rw [HD2.out, List.take_add_one, HYJ.out]; simp [delR, e2])
          clear e1 e2 hj0 hjk hj ed hy ha hd hcr hcc er x2 HA HD hyj
          go_wp2
          go_roundg k1
          case measure => omega
          case rel => exact ⟨(by have := HN.out; have := HJ2.out; have := J0.out; have := HJ.out; show Value.int .i64 (wrap64 ((j : Int) + 1)) = _; congr 1; unfold wrap64; omega), ⟨by have := HJ.out; omega⟩, ⟨by rw [show R.length - k1 = j + 1 by have := J0.out; have := HJ.out; omega]; exact HH.out⟩, ⟨by rw [show R.length - k1 = j + 1 by have := J0.out; have := HJ.out; omega]; exact HE.out⟩, rfl⟩
      · have f1 : (y.f0 == n) = false := beq_eq_false_iff_ne.2 e1
        have HH := Aside0.mk (show hasR R n b = hasR (R.drop (j + 1)) n b by rw [HA2.out]; simp [hasR, e1])
        have HE := Aside0.mk (show delR R n b = R.take (j + 1) ++ delR (R.drop (j + 1)) n b by rw [HD2.out, List.take_add_one, HYJ.out]; simp [delR, e1])
        clear e1 hj0 hjk hj ed hy ha hd hcr hcc er x2 HA HD hyj
        go_wp2
        go_roundg k1
        case measure => omega
        case rel => exact ⟨(by have := HN.out; have := HJ2.out; have := J0.out; have := HJ.out; show Value.int .i64 (wrap64 ((j : Int) + 1)) = _; congr 1; unfold wrap64; omega), ⟨by have := HJ.out; omega⟩, ⟨by rw [show R.length - k1 = j + 1 by have := J0.out; have := HJ.out; omega]; exact HH.out⟩, ⟨by rw [show R.length - k1 = j + 1 by have := J0.out; have := HJ.out; omega]; exact HE.out⟩, rfl⟩
end Go.Proofs.Ytpjelffgakgjaaa.Q
