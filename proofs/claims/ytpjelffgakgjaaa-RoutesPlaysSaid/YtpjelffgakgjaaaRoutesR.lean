/- routes: the page's table (stopcockref10): its box and the walks of Add, Drop and Next. No condition. -/
import Derived.Test.YtpjelffgakgjaaaQ3
import Derived.Test.YtpjelffgakgjaaaRoutesT
namespace Go.Proofs.Ytpjelffgakgjaaa.Q
set_option linter.unusedVariables false
set_option linter.unusedSimpArgs false
open Go.RowKit Go.Maps Go.Proofs.YtpjelffgakgjaaaW.PrintWords Go.Proofs.YtpjelffgakgjaaaW.PrintLast Go.Proofs.YtpjelffgakgjaaaW.PrintMore Go.Proofs.YtpjelffgakgjaaaW.MapIs
structure RTB (w W : World) (g : Nat) (ok : Nat → Prop) (v : Value) (R : List S32) : Prop where
  B : Below w.heap.size w W
  eg : w.heap.size ≤ g
  k : W.heap[g]? = some (.cells #[v] 40 (0, 0))
  o : Kd.R k32 32 W w.heap.size (fun k => ok k ∧ k ≠ g) v R
section
variable {w W W' : World} {g : Nat} {ok : Nat → Prop} {v : Value} {R : List S32}
theorem RTB.step (h : RTB w W g ok v R) (hb : Below W.heap.size W W') : RTB w W' g ok v R := ⟨below_step h.B hb, h.eg, blk_below h.k hb, Kd.R_below h.o hb⟩
theorem RTB.drew (h : RTB w W g ok v R) : RTB w W.drew g ok v R := h.step (below_drew (Below.refl _ _))
theorem RTB.drewN (h : RTB w W g ok v R) (n : Nat) : RTB w (W.drewN n) g ok v R := h.step (pw_below_drewN (Below.refl _ _) n)
theorem RTB.grown {v1 : Value} {R1 : List S32} (h : RTB w W g ok v R) (hb : Below w.heap.size w W') (ho : Kd.R k32 32 W' w.heap.size (fun k => ok k ∧ k ≠ g) v1 R1) (hg : W.grownBy W' v.ownBlock) : RTB w (W'.setCell ⟨g, 0, none⟩ v1) g ok v1 R1 :=
  ⟨below_set hb h.eg, h.eg, blk_put (blk_grown h.k hg (fun e => (h.o.1 g e.symm).2 rfl)) 0 v1 rfl, Kd.R_far (p := ⟨g, 0, none⟩) ho (fun _ hk => hk.2) v1⟩
theorem RTB.z (h : RTB w W g ok v R) : W.cell? ⟨g, 0, none⟩ = some v := (blk_cell h.k 0).trans rfl
theorem RTB.f (h : RTB w W g ok v R) : W.frozen? ⟨g, 0, none⟩ = false := blk_frozen h.k 0
end
theorem infoR : (Try.prog.info? 32).map (fun i => (i.zero, i.size, i.bytes)) = some (some (.agg #[(.int .u32 0), (.int .i64 0), (.int .u32 0)]), 3, 24) := by kernel_rfl
def leadV (n b : Int) : Int := if b = 0 then 0 else shl .u32 (shr .u32 n (wrap64 (32 - b))) (wrap64 (32 - b))
theorem lead_is (n b : Int) (h0 : 0 ≤ b) (h1 : b ≤ 32) : stopcockref10_lead.f n b = some (leadV n b) := by
  unfold stopcockref10_lead.f leadV
  by_cases c : b = 0
  · rw [if_pos c, if_pos c]
  · rw [if_neg c, if_neg c, if_pos (by unfold wrap64; omega)]
def hasR (R : List S32) (n b : Int) : Bool := R.any (fun y => decide (y.f0 = n ∧ y.f1 = b))
def refAdd (R : List S32) (x : S32) : List S32 × Int :=
  if x.f1 < 0 ∨ 32 < x.f1 then (R, 4) else if leadV x.f0 x.f1 ≠ x.f0 then (R, 1) else if hasR R x.f0 x.f1 = true then (R, 6) else if 256 ≤ R.length then (R, 81) else (R ++ [x], 0)
set_option maxHeartbeats 8000000 in
set_option maxRecDepth 100000 in
theorem refAdd_range {w W : World} {g : Nat} {ok : Nat → Prop} {v : Value} {R : List S32} (h : RTB w W g ok v R) (x : S32) (hb : x.f1 < 0 ∨ 32 < x.f1) :
    Calls Try.prog 11 #[.pointer (some ⟨g, 0, none⟩), .agg #[.int .u32 x.f0, .int .i64 x.f1, .int .u32 x.f2]] W fun e W' => e = .returned (.int .i64 4) ∧ Below W.heap.size W W' := by
  have hu32 := Try.underlying32
  have hu40 := Try.underlying40
  clear h
  by_cases c1 : x.f1 < 0
  · have d1 : decide (x.f1 < 0) = true := decide_eq_true c1
    clear hb
    go_enter Try.func11, Try.ntmps11
    go_wp2_with ((with_reducible refine gate_dst (N := 3) rfl ?_); refine box_event ?hg (N := 3) ?hd (cs := #[.int .u32 x.f0, .int .i64 x.f1, .int .u32 x.f2]) (t := 32) ?hr ?_; (case hd => rfl); (case hg => rfl); (case hr => first | (go_simp; done) | (go_simp; rfl)); intro g3 e3 w1 k3 b3; have HW1 := Aside0.mk b3; have p1 : w1.cell? ⟨g3, 1, none⟩ = some (.int .i64 x.f1) := (blk_cell k3 1).trans rfl; clear e3 b3 k3)
    go_ret
    exact ⟨rfl, HW1.out⟩
  · have c2 : 32 < x.f1 := by omega
    have d1 : decide (x.f1 < 0) = false := decide_eq_false c1
    have d2 : decide (32 < x.f1) = true := decide_eq_true c2
    clear hb
    go_enter Try.func11, Try.ntmps11
    go_wp2_with ((with_reducible refine gate_dst (N := 3) rfl ?_); refine box_event ?hg (N := 3) ?hd (cs := #[.int .u32 x.f0, .int .i64 x.f1, .int .u32 x.f2]) (t := 32) ?hr ?_; (case hd => rfl); (case hg => rfl); (case hr => first | (go_simp; done) | (go_simp; rfl)); intro g3 e3 w1 k3 b3; have HW1 := Aside0.mk b3; have p1 : w1.cell? ⟨g3, 1, none⟩ = some (.int .i64 x.f1) := (blk_cell k3 1).trans rfl; clear e3 b3 k3)
    go_ret
    exact ⟨rfl, HW1.out⟩
set_option maxHeartbeats 8000000 in
set_option maxRecDepth 100000 in
theorem refAdd_in {w W : World} {g : Nat} {ok : Nat → Prop} {v : Value} {R : List S32} (h : RTB w W g ok v R) (hok : ∀ k, W.heap.size ≤ k → ok k) (x : S32) (hn : R.length ≤ 256) (hb0 : 0 ≤ x.f1) (hb1 : x.f1 ≤ 32) :
    Calls Try.prog 11 #[.pointer (some ⟨g, 0, none⟩), .agg #[.int .u32 x.f0, .int .i64 x.f1, .int .u32 x.f2]] W fun e W' => e = .returned (.int .i64 (refAdd R x).2) ∧ ∃ v', RTB w W' g ok v' (refAdd R x).1 ∧ Kept W W' (fun k => k = g ∨ some k = v.ownBlock) := by
  have hu32 := Try.underlying32
  have hu40 := Try.underlying40
  obtain ⟨Z, hZ⟩ : ∃ Z, refAdd R x = Z := ⟨_, rfl⟩
  rw [hZ]
  unfold refAdd at hZ
  rw [if_neg (by omega)] at hZ
  obtain ⟨A, c, ev⟩ := Kd.R_slice h.o
  subst ev
  have hm := lead_is x.f0 x.f1 hb0 hb1
  obtain ⟨m, hmm⟩ : ∃ m, leadV x.f0 x.f1 = m := ⟨_, rfl⟩
  rw [hmm] at hm hZ
  have HM := Aside0.mk hm
  have HZ := Aside0.mk hZ
  have HT := Aside0.mk h
  have HOK := Aside0.mk hok
  have HN := Aside0.mk hn
  clear h hZ hm hmm hok hn
  go_enter Try.func11, Try.ntmps11
  go_upto_region 3 with ((with_reducible refine gate_dst (N := 3) rfl ?_); refine box_event ?hg (N := 3) ?hd (cs := #[.int .u32 x.f0, .int .i64 x.f1, .int .u32 x.f2]) (t := 32) ?hr ?_; (case hd => rfl); (case hg => rfl); (case hr => first | (go_simp; done) | (go_simp; rfl)); intro g3 e3 w1 k3 b3; have HT1 := Aside0.mk (HT.out.step b3); have HW1 := Aside0.mk b3; have K3 := Aside0.mk k3; have p0 : w1.cell? ⟨g3, 0, none⟩ = some (.int .u32 x.f0) := (blk_cell k3 0).trans rfl; have p1 : w1.cell? ⟨g3, 1, none⟩ = some (.int .i64 x.f1) := (blk_cell k3 1).trans rfl; clear e3 b3 k3)
  go_quiet ((go_at_call 24; exact Calls.quiet_of ((stopcockref10_lead.calls x.f0 x.f1 m _ HM.out).mono fun _ _ h_ => ⟨h_.1, h_.2.out⟩)))
  have HT2 := Aside0.mk (HT1.out.drewN nq)
  have HW2 := Aside0.mk (pw_below_drewN HW1.out nq)
  have k3 : (w1.drewN nq).heap[g3]? = _ := blk_drewN K3.out nq
  clear p0 p1 HT HT1 HW1 K3 hb0 hb1
  generalize w1.drewN nq = w2 at HT2 HW2 k3 ⊢
  have K3 := Aside0.mk k3
  clear k3
  by_cases c1 : m = x.f0
  · have d1 : (m != x.f0) = false := by rw [c1]; simp
    have C1 := Aside0.mk c1
    clear c1
    have z := HT2.out.z
    go_wp2
    go_loopg [5] R.length (fun kq v5 w' => ∃ (j : Nat), v5 = .int .i64 j ∧ Aside0 (j + kq = R.length) ∧ Aside0 (hasR (R.drop j) x.f0 x.f1 = hasR R x.f0 x.f1) ∧ Aside0 (Below w2.heap.size w2 w'))
    case atStart => exact ⟨0, rfl, ⟨by omega⟩, ⟨by rw [List.drop_zero]⟩, ⟨Below.refl _ _⟩⟩
    case round =>
      obtain ⟨j, rfl, HJ, HA, HB⟩ := hrel
      have ht := HT2.out.step HB.out
      have z := ht.z
      have k3 := blk_below K3.out HB.out
      have p0 : wr.cell? ⟨g3, 0, none⟩ = some (.int .u32 x.f0) := (blk_cell k3 0).trans rfl
      have p1 : wr.cell? ⟨g3, 1, none⟩ = some (.int .i64 x.f1) := (blk_cell k3 1).trans rfl
      have HT3 := Aside0.mk ht
      have HW3 := Aside0.mk (below_step HW2.out HB.out)
      cases gk with
      | zero =>
        have ej : j = R.length := by have := HJ.out; omega
        subst ej
        have ha := HA.out
        rw [List.drop_length] at ha
        have ha : hasR R x.f0 x.f1 = false := by rw [← ha]; rfl
        have HA2 := Aside0.mk ha
        have lt1 : decide ((R.length : Int) < (R.length : Int)) = false := by simp
        clear ha HA HJ
        by_cases c2 : 256 ≤ R.length
        · have d2 : decide ((256 : Int) ≤ (R.length : Int)) = true := decide_eq_true (by omega)
          have C2 := Aside0.mk c2
          clear c2
          go_wp2
          go_ret
          have e := HZ.out
          rw [if_neg (by rw [C1.out]; simp), HA2.out, if_neg (by simp), if_pos C2.out] at e
          subst e
          exact ⟨rfl, _, HT3.out, Kept.of_below HW3.out _⟩
        · have d2 : decide ((256 : Int) ≤ (R.length : Int)) = false := decide_eq_false (by omega)
          have hL : (R.length + 1) * 24 ≤ 140737488355328 := by omega
          have p2 : wr.cell? ⟨g3, 2, none⟩ = some (.int .u32 x.f2) := (blk_cell k3 2).trans rfl
          have C2 := Aside0.mk c2
          clear c2
          have k3' := blk_alloc k3 (.cells #[.int .u32 x.f0, .int .i64 x.f1, .int .u32 x.f2] 32)
          have HT4 := HT3.out.step (below_alloc (Below.refl wr.heap.size wr) (.cells #[.int .u32 x.f0, .int .i64 x.f1, .int .u32 x.f2] 32) : Below wr.heap.size wr _)
          have y0 := (blk_cell k3' 0).trans (show _ = some (Value.int .u32 x.f0) from rfl)
          have y1 := (blk_cell k3' 1).trans (show _ = some (Value.int .i64 x.f1) from rfl)
          have y2 := (blk_cell k3' 2).trans (show _ = some (Value.int .u32 x.f2) from rfl)
          have yz := HT4.z
          have HAD := Aside0.mk (show ∀ o, (wr.alloc o).drew = wr.drew.alloc o from fun _ => rfl)
          have HS := Aside0.mk (show w2.heap.size ≤ wr.heap.size from below_size HB.out)
          have HSW := Aside0.mk (show W.heap.size ≤ wr.heap.size from below_size HW3.out)
          clear k3 k3' HT4 ht
          go_wp2
          go_region_law (rw [HAD.out]; refine Kd.R_append_step k32 (w0 := w) w.heap.size (by rfl) (.tmp 65) (.tmp 67) 22 32 (.agg #[(.int .u32 0), (.int .i64 0), (.int .u32 0)]) 24 rfl Try.underlying22 infoR rfl (by decide) (by omega) (.slice A R.length c) R x [.int .u32 x.f0, .int .i64 x.f1, .int .u32 x.f2] (fun k => ok k ∧ k ≠ g) (fun _ => False) (by rfl) (by rfl) ?aP (fun _ hk => hk.elim) ?aF ?aO ?aB ?aS ?aL ?_; (case aP => exact k32_mkM _ _ _ x); (case aB => exact HT3.out.drew.B); (case aF => intro k hk; exact ⟨HOK.out k (Nat.le_trans HSW.out hk), fun e => by subst e; exact absurd (blk_lt HT3.out.k) (Nat.not_lt.2 hk)⟩); (case aO => exact HT3.out.drew.o); (case aS => exact below_size HT3.out.drew.B); (case aL => exact hL); intro v1 w4 ho hb hg hat; obtain ⟨Ao, co, eo⟩ := Kd.R_slice ho; subst eo; have HG := Aside0.mk (HT3.out.drew.grown hb ho hg); have HK := Aside0.mk (Kept.of_grown hg (Kept.of_below HW3.out.drew (fun k => k = g ∨ some k = (Value.slice A R.length c).ownBlock)) (fun k e => .inl (.inr e.symm))); have kg := blk_grown HT3.out.drew.k hg (fun e => (HT3.out.o.1 g e.symm).2 rfl); have zg := (blk_cell kg 0).trans (show _ = some (Value.slice A R.length c) from rfl); have fg := blk_frozen kg 0; clear ho hb hg hat z p0 p1 p2 y0 y1 y2 yz kg)
          all_goals
            go_wp2
            go_ret
            have e := HZ.out
            rw [if_neg (by rw [C1.out]; simp), HA2.out, if_neg (by simp), if_neg C2.out] at e
            subst e
            have hG := HG.out
            rw [show (R ++ [x]).length = R.length + 1 by simp] at hG
            exact ⟨rfl, _, hG, HK.out.setCell (.inl (.inl rfl)) _⟩
      | succ k1 =>
        have hj : j < R.length := by have := HJ.out; omega
        have ed : R.drop j = R[j] :: R.drop (j + 1) := List.drop_eq_getElem_cons hj
        obtain ⟨y, hy⟩ : ∃ y, R[j] = y := ⟨_, rfl⟩
        have ha := HA.out
        rw [ed, hy] at ha
        have hcr := (Kd.R_reads' ht.o).2.2
        obtain ⟨ad, eA, x0, x1, x2⟩ := at_T32 hcr (j : Int) (by omega) (by omega)
        have er : rd_T32 R (j : Int) = y := by rw [← hy]; unfold rd_T32; simp [List.getD_eq_getElem?_getD, hj]
        rw [er] at x0 x1 x2
        subst eA
        have x0 : wr.cell? (ad.add (j * 3)) = some (.int .u32 y.f0) := x0
        have x1 : wr.cell? ⟨(ad.add (j * 3)).block, (ad.add (j * 3)).off + 1, none⟩ = some (.int .i64 y.f1) := x1
        have lt1 : decide ((j : Int) < (R.length : Int)) = true := decide_eq_true (by omega)
        have i0 : (0 : Int) ≤ (j : Int) := by omega
        have i1 : (j : Int) < (R.length : Int) := by omega
        have HJ2 := Aside0.mk hj
        have HA2 := Aside0.mk ha
        clear hj ed hy ha hcr er x2 HA k3 ht
        by_cases e1 : y.f0 = x.f0
        · have f1 : (y.f0 == x.f0) = true := beq_iff_eq.2 e1
          by_cases e2 : y.f1 = x.f1
          · have f2 : (y.f1 == x.f1) = true := beq_iff_eq.2 e2
            have HH := Aside0.mk (show hasR R x.f0 x.f1 = true by rw [← HA2.out]; simp [hasR, e1, e2])
            clear e1 e2
            go_wp2
            go_quiet (fail)
            go_wp2
            go_ret
            have e := HZ.out
            rw [if_neg (by rw [C1.out]; simp), if_pos HH.out] at e
            subst e
            exact ⟨rfl, _, HT3.out.drewN nq, Kept.of_below (pw_below_drewN HW3.out nq) _⟩
          · have f2 : (y.f1 == x.f1) = false := beq_eq_false_iff_ne.2 e2
            have HH := Aside0.mk (show hasR (R.drop (j + 1)) x.f0 x.f1 = hasR R x.f0 x.f1 by rw [← HA2.out]; simp [hasR, e2])
            clear e1 e2
            go_wp2
            go_quiet (fail)
            go_wp2
            go_roundg k1
            case measure => omega
            case rel => exact ⟨j + 1, (by have := HN.out; have := HJ2.out; show Value.int .i64 (wrap64 ((j : Int) + 1)) = .int .i64 ((j + 1 : Nat) : Int); congr 1; unfold wrap64; omega), ⟨by have := HJ.out; omega⟩, HH, ⟨pw_below_drewN HB.out nq⟩⟩
        · have f1 : (y.f0 == x.f0) = false := beq_eq_false_iff_ne.2 e1
          have HH := Aside0.mk (show hasR (R.drop (j + 1)) x.f0 x.f1 = hasR R x.f0 x.f1 by rw [← HA2.out]; simp [hasR, e1])
          clear e1
          go_wp2
          go_quiet (fail)
          go_wp2
          go_roundg k1
          case measure => omega
          case rel => exact ⟨j + 1, (by have := HN.out; have := HJ2.out; show Value.int .i64 (wrap64 ((j : Int) + 1)) = .int .i64 ((j + 1 : Nat) : Int); congr 1; unfold wrap64; omega), ⟨by have := HJ.out; omega⟩, HH, ⟨pw_below_drewN HB.out nq⟩⟩
  · have d1 : (m != x.f0) = true := by simpa using c1
    have C1 := Aside0.mk c1
    clear c1
    go_wp2
    go_ret
    have e := HZ.out
    rw [if_pos C1.out] at e
    subst e
    exact ⟨rfl, _, HT2.out, Kept.of_below HW2.out _⟩
def stepB (ip : Int) (st : Option S32) (y : S32) : Option S32 :=
  match st with
  | none => if leadV ip y.f1 = y.f0 then some y else none
  | some z => if leadV ip y.f1 = y.f0 ∧ z.f1 < y.f1 then some y else some z
def refNextR (R : List S32) (ip : Int) : Int × Int :=
  match R.foldl (stepB ip) none with
  | none => (0, 101)
  | some z => (if z.f2 = 0 then ip else z.f2, 0)
/-- Where the best one lies. -/
def At (R : List S32) (b : Int) : Option S32 → Prop
  | none => b = -1
  | some z => ∃ i : Nat, b = i ∧ R[i]? = some z
set_option maxHeartbeats 8000000 in
set_option maxRecDepth 100000 in
theorem refNext_in {w W : World} {g : Nat} {ok : Nat → Prop} {v : Value} {R : List S32} (h : RTB w W g ok v R) (ip : Int) (hn : R.length ≤ 256) (hr : ∀ y ∈ R, 0 ≤ y.f1 ∧ y.f1 ≤ 32) :
    Calls Try.prog 14 #[.pointer (some ⟨g, 0, none⟩), .int .u32 ip] W fun e W' => e = .returned (.tuple #[.int .u32 (refNextR R ip).1, .int .i64 (refNextR R ip).2]) ∧ Below W.heap.size W W' := by
  have hu32 := Try.underlying32
  have hu40 := Try.underlying40
  obtain ⟨Z, hZ⟩ : ∃ Z, refNextR R ip = Z := ⟨_, rfl⟩
  rw [hZ]
  unfold refNextR at hZ
  obtain ⟨A, c, ev⟩ := Kd.R_slice h.o
  subst ev
  have HZ := Aside0.mk hZ
  have HT := Aside0.mk h
  have HN := Aside0.mk hn
  have HR := Aside0.mk hr
  have z := h.z
  clear h hZ hn hr
  go_enter Try.func14, Try.ntmps14
  go_wp2
  go_loopg [6, 7] R.length (fun kq v6 v7 w' => ∃ (j : Nat) (b : Int) (st : Option S32), v6 = .int .i64 b ∧ v7 = .int .i64 j ∧ Aside0 (j + kq = R.length) ∧ Aside0 (At R b st) ∧ Aside0 ((R.drop j).foldl (stepB ip) st = R.foldl (stepB ip) none) ∧ Aside0 (Below W.heap.size W w'))
  case atStart => exact ⟨0, -1, none, rfl, rfl, ⟨by omega⟩, ⟨rfl⟩, ⟨by rw [List.drop_zero]⟩, ⟨Below.refl _ _⟩⟩
  case round =>
    obtain ⟨j, b, st, rfl, rfl, HJ, HAt, HA, HB⟩ := hrel
    have ht := HT.out.step HB.out
    have z := ht.z
    have HT3 := Aside0.mk ht
    cases gk with
    | zero =>
      have ej : j = R.length := by have := HJ.out; omega
      subst ej
      have ha := HA.out
      rw [List.drop_length, List.foldl_nil] at ha
      have hz := HZ.out
      rw [← ha] at hz
      have lt1 : decide ((R.length : Int) < (R.length : Int)) = false := by simp
      clear ha HA HJ HZ
      cases st with
      | none =>
        have eb : b = -1 := HAt.out
        subst eb
        have HZ := Aside0.mk hz
        clear hz ht
        go_wp2
        go_ret2
        have e := HZ.out
        subst e
        exact ⟨rfl, HB.out⟩
      | some y =>
        obtain ⟨i, eb, hi⟩ := HAt.out
        subst eb
        have hil : i < R.length := (List.getElem?_eq_some_iff.1 hi).1
        obtain ⟨ad, eA, x0, x1, x2⟩ := at_T32 (Kd.R_reads' ht.o).2.2 (i : Int) (by omega) (by omega)
        have er : rd_T32 R (i : Int) = y := by unfold rd_T32; simp [List.getD_eq_getElem?_getD, hi]
        rw [er] at x0 x1 x2
        subst eA
        have x2 : wr.cell? ⟨(ad.add (i * 3)).block, (ad.add (i * 3)).off + 2, none⟩ = some (.int .u32 y.f2) := x2
        have g0 : decide ((i : Int) < 0) = false := decide_eq_false (by omega)
        have i0 : (0 : Int) ≤ (i : Int) := by omega
        have i1 : (i : Int) < (R.length : Int) := by omega
        clear hi hil er x0 x1 ht HAt
        dsimp only at hz
        by_cases c2 : y.f2 = 0
        · rw [if_pos c2] at hz
          have d2 : (y.f2 == 0) = true := beq_iff_eq.2 c2
          have HZ := Aside0.mk hz
          clear c2 hz
          go_wp2
          go_ret2
          have e := HZ.out
          subst e
          exact ⟨rfl, HB.out⟩
        · rw [if_neg c2] at hz
          have d2 : (y.f2 == 0) = false := beq_eq_false_iff_ne.2 c2
          have HZ := Aside0.mk hz
          clear c2 hz
          go_wp2
          go_ret2
          have e := HZ.out
          subst e
          exact ⟨rfl, HB.out⟩
    | succ k1 =>
      have hj : j < R.length := by have := HJ.out; omega
      have ed : R.drop j = R[j] :: R.drop (j + 1) := List.drop_eq_getElem_cons hj
      have hry := HR.out R[j] (List.getElem_mem hj)
      obtain ⟨y, hy⟩ : ∃ y, R[j] = y := ⟨_, rfl⟩
      have ha := HA.out
      rw [ed, hy, List.foldl_cons] at ha
      rw [hy] at hry
      have hcr := (Kd.R_reads' ht.o).2.2
      obtain ⟨ad, eA, x0, x1, x2⟩ := at_T32 hcr (j : Int) (by omega) (by omega)
      have er : rd_T32 R (j : Int) = y := by rw [← hy]; unfold rd_T32; simp [List.getD_eq_getElem?_getD, hj]
      rw [er] at x0 x1 x2
      subst eA
      have x0 : wr.cell? (ad.add (j * 3)) = some (.int .u32 y.f0) := x0
      have x1 : wr.cell? ⟨(ad.add (j * 3)).block, (ad.add (j * 3)).off + 1, none⟩ = some (.int .i64 y.f1) := x1
      have lt1 : decide ((j : Int) < (R.length : Int)) = true := decide_eq_true (by omega)
      have i0 : (0 : Int) ≤ (j : Int) := by omega
      have i1 : (j : Int) < (R.length : Int) := by omega
      have HJ2 := Aside0.mk hj
      have hyj : R[j]? = some y := by rw [List.getElem?_eq_getElem hj, hy]
      have HYJ := Aside0.mk hyj
      have hm := lead_is ip y.f1 hry.1 hry.2
      obtain ⟨m, hmm⟩ : ∃ m, leadV ip y.f1 = m := ⟨_, rfl⟩
      rw [hmm] at hm
      have HM := Aside0.mk hm
      have HMM := Aside0.mk hmm
      have HA2 := Aside0.mk ha
      clear hj ed hy ha er x2 HA hyj hm hmm hry hcr
      by_cases e1 : m = y.f0
      · have f1 : (m == y.f0) = true := beq_iff_eq.2 e1
        cases st with
        | none =>
          have eb : b = -1 := HAt.out
          subst eb
          have HH := Aside0.mk (show (R.drop (j + 1)).foldl (stepB ip) (some y) = R.foldl (stepB ip) none by rw [← HA2.out]; simp [stepB, HMM.out, e1])
          clear e1 ht
          go_wp2
          go_quiet ((go_at_call 24; exact Calls.quiet_of ((stopcockref10_lead.calls ip y.f1 m _ HM.out).mono fun _ _ h_ => ⟨h_.1, h_.2.out⟩)))
          go_wp2
          go_roundg k1
          case measure => omega
          case rel => exact ⟨j + 1, (j : Int), some y, rfl, (by have := HN.out; have := HJ2.out; show Value.int .i64 (wrap64 ((j : Int) + 1)) = .int .i64 ((j + 1 : Nat) : Int); congr 1; unfold wrap64; omega), ⟨by have := HJ.out; omega⟩, ⟨j, rfl, HYJ.out⟩, HH, ⟨pw_below_drewN HB.out nq⟩⟩
        | some q =>
          obtain ⟨i, eb, hi⟩ := HAt.out
          subst eb
          have HI := Aside0.mk hi
          have hil : i < R.length := (List.getElem?_eq_some_iff.1 hi).1
          obtain ⟨ad2, eA2, u0, u1, u2⟩ := at_T32 (Kd.R_reads' ht.o).2.2 (i : Int) (by omega) (by omega)
          have er : rd_T32 R (i : Int) = q := by unfold rd_T32; simp [List.getD_eq_getElem?_getD, hi]
          rw [er] at u0 u1 u2
          cases eA2
          have v1 : wr.cell? ⟨(ad.add (i * 3)).block, (ad.add (i * 3)).off + 1, none⟩ = some (.int .i64 q.f1) := u1
          have g0 : decide ((i : Int) < 0) = false := decide_eq_false (by omega)
          have j0 : (0 : Int) ≤ (i : Int) := by omega
          have j1 : (i : Int) < (R.length : Int) := by omega
          clear hi hil er u0 u1 u2 ht HAt
          by_cases e2 : q.f1 < y.f1
          · have f2 : decide (q.f1 < y.f1) = true := decide_eq_true e2
            have HH := Aside0.mk (show (R.drop (j + 1)).foldl (stepB ip) (some y) = R.foldl (stepB ip) none by rw [← HA2.out]; simp [stepB, HMM.out, e1, e2])
            clear e1 e2
            go_wp2
            go_quiet ((go_at_call 24; exact Calls.quiet_of ((stopcockref10_lead.calls ip y.f1 m _ HM.out).mono fun _ _ h_ => ⟨h_.1, h_.2.out⟩)))
            go_wp2
            go_roundg k1
            case measure => omega
            case rel => exact ⟨j + 1, (j : Int), some y, rfl, (by have := HN.out; have := HJ2.out; show Value.int .i64 (wrap64 ((j : Int) + 1)) = .int .i64 ((j + 1 : Nat) : Int); congr 1; unfold wrap64; omega), ⟨by have := HJ.out; omega⟩, ⟨j, rfl, HYJ.out⟩, HH, ⟨pw_below_drewN HB.out nq⟩⟩
          · have f2 : decide (q.f1 < y.f1) = false := decide_eq_false e2
            have HH := Aside0.mk (show (R.drop (j + 1)).foldl (stepB ip) (some q) = R.foldl (stepB ip) none by rw [← HA2.out]; simp [stepB, HMM.out, e2])
            clear e1 e2
            go_wp2
            go_quiet ((go_at_call 24; exact Calls.quiet_of ((stopcockref10_lead.calls ip y.f1 m _ HM.out).mono fun _ _ h_ => ⟨h_.1, h_.2.out⟩)))
            go_wp2
            go_roundg k1
            case measure => omega
            case rel => exact ⟨j + 1, (i : Int), some q, rfl, (by have := HN.out; have := HJ2.out; show Value.int .i64 (wrap64 ((j : Int) + 1)) = .int .i64 ((j + 1 : Nat) : Int); congr 1; unfold wrap64; omega), ⟨by have := HJ.out; omega⟩, ⟨i, rfl, HI.out⟩, HH, ⟨pw_below_drewN HB.out nq⟩⟩
      · have f1 : (m == y.f0) = false := beq_eq_false_iff_ne.2 e1
        have HH := Aside0.mk (show (R.drop (j + 1)).foldl (stepB ip) st = R.foldl (stepB ip) none by rw [← HA2.out]; cases st <;> simp [stepB, HMM.out, e1])
        clear e1 ht
        go_wp2
        go_quiet ((go_at_call 24; exact Calls.quiet_of ((stopcockref10_lead.calls ip y.f1 m _ HM.out).mono fun _ _ h_ => ⟨h_.1, h_.2.out⟩)))
        go_wp2
        go_roundg k1
        case measure => omega
        case rel => exact ⟨j + 1, b, st, rfl, (by have := HN.out; have := HJ2.out; show Value.int .i64 (wrap64 ((j : Int) + 1)) = .int .i64 ((j + 1 : Nat) : Int); congr 1; unfold wrap64; omega), ⟨by have := HJ.out; omega⟩, HAt, HH, ⟨pw_below_drewN HB.out nq⟩⟩
end Go.Proofs.Ytpjelffgakgjaaa.Q
