/- routes: the table's box, and the walks of none, NewTable and Add. No condition. -/
import Derived.Test.YtpjelffgakgjaaaQ1
import Derived.Test.YtpjelffgakgjaaaMapIs
import Derived.Test.YtpjelffgakgjaaaWFoot
import Derived.Test.YtpjelffgakgjaaaWKept
import Derived.Test.YtpjelffgakgjaaaWShare
import Derived.Test.YtpjelffgakgjaaaWApart
import Derived.Test.YtpjelffgakgjaaaWGuard
import Derived.Outline
import Derived.Lib.Hide
import Derived.WalkSpells
import Derived.Laws.Closers25b
import Derived.Deep.RegionHeld3
import Derived.Deep.RegionWith
import Derived.Deep.RegionLaw
namespace Go.Proofs.Ytpjelffgakgjaaa.Q
set_option linter.unusedVariables false
set_option linter.unusedSimpArgs false
open Go.RowKit Go.Maps Go.Proofs.YtpjelffgakgjaaaW.PrintWords Go.Proofs.YtpjelffgakgjaaaW.PrintLast Go.Proofs.YtpjelffgakgjaaaW.PrintMore Go.Proofs.YtpjelffgakgjaaaW.MapIs
def netV (p : Int × Int) : Value := .agg #[.int .u32 p.1, .int .i64 p.2]
def gwV (g : Int) : Value := .int .u32 g
theorem netV_inj : ∀ a b : Int × Int, netV a = netV b → a = b := by
  rintro ⟨a, b⟩ ⟨c, d⟩ h
  simp [netV] at h
  exact Prod.ext h.1 h.2
theorem netLaw : Keyed Try.prog 68 := Keyed.of_law (deep_law_gate (by kernel_rfl) (of_decide_eq_true (by kernel_rfl)) (of_decide_eq_true (by kernel_rfl)) (by kernel_rfl) (by kernel_rfl))
theorem wf_u32_of {a : Int} (h0 : 0 ≤ a) (h1 : a < 4294967296) : (Lit.int .u32 a).wf = true := by simp [Lit.wf, IntKind.min, IntKind.max, IntKind.signed, IntKind.bits]; omega
theorem wf_i64_of {a : Int} (h0 : -9223372036854775808 ≤ a) (h1 : a ≤ 9223372036854775807) : (Lit.int .i64 a).wf = true := by simp [Lit.wf, IntKind.min, IntKind.max, IntKind.signed, IntKind.bits]; omega
theorem netKey (a b : Int) (h0 : 0 ≤ a) (h1 : a < 4294967296) (h2 : -9223372036854775808 ≤ b) (h3 : b ≤ 9223372036854775807) : ∃ l, keyOf Try.prog 68 (netV (a, b)) = some l :=
  keyOf_two (by kernel_rfl) Try.underlying68 rfl rfl rfl rfl rfl rfl (by kernel_rfl) (by kernel_rfl) (by kernel_rfl) Try.underlying23 Try.underlying3 (of_decide_eq_true (by kernel_rfl)) (wf_u32_of h0 h1) (wf_i64_of h2 h3)
abbrev NetMap (W : World) (b : Nat) (L : List ((Int × Int) × Int)) : Prop := MapIs Try.prog 68 netV gwV W b L
/-- A table's box, and the map that it leads to. -/
structure TB (w W : World) (g b : Nat) (L : List ((Int × Int) × Int)) : Prop where
  B : Below w.heap.size w W
  eg : w.heap.size ≤ g
  eb : w.heap.size ≤ b
  k : W.heap[g]? = some (.cells #[.map (some b)] 65 (0, 0))
  m : NetMap W b L
theorem TB.step {w W W' : World} {g b : Nat} {L : List ((Int × Int) × Int)} (h : TB w W g b L) (hb : Below W.heap.size W W') : TB w W' g b L :=
  ⟨below_step h.B hb, h.eg, h.eb, blk_below h.k hb, h.m.below hb⟩
theorem TB.ne {w W : World} {g b : Nat} {L : List ((Int × Int) × Int)} (h : TB w W g b L) : g ≠ b := h.m.ne h.k
theorem TB.turn {w W W' : World} {g b : Nat} {L L' : List ((Int × Int) × Int)} (h : TB w W g b L) (hg : W.grownBy W' (some b)) (hm : NetMap W' b L') : TB w W' g b L' :=
  ⟨pw_below_grown h.B (some b) (below_size h.B) hg (fun k e => by cases e; exact h.eb), h.eg, h.eb, blk_grown h.k hg (fun e => h.ne (Option.some.inj e)), hm⟩
theorem TB.drew {w W : World} {g b : Nat} {L : List ((Int × Int) × Int)} (h : TB w W g b L) : TB w W.drew g b L := h.step (below_drew (Below.refl _ _))
theorem TB.drewN {w W : World} {g b : Nat} {L : List ((Int × Int) × Int)} (h : TB w W g b L) (n : Nat) : TB w (W.drewN n) g b L := h.step (pw_below_drewN (Below.refl _ _) n)
set_option maxHeartbeats 8000000 in
set_option maxRecDepth 100000 in
theorem none_in {W : World} {g b : Nat} (z : W.cell? ⟨g, 0, none⟩ = some (.map (some b))) :
    Calls Try.prog 21 #[.pointer (some ⟨g, 0, none⟩)] W fun e W' => e = .returned (.bool false) ∧ W = W' := by
  have hu := Try.underlying65
  have hn := fun w : World => run_eql_map_nil (P := Try.prog) w 63 68 23 (some b) Try.underlying63
  go_enter Try.func21, Try.ntmps21
  go_wp2
  go_ret
  exact ⟨rfl, rfl⟩
set_option maxHeartbeats 8000000 in
set_option maxRecDepth 100000 in
theorem NewTable_in (W : World) :
    Calls Try.prog 7 #[] W fun e W' => ∃ g b, e = .returned (.pointer (some ⟨g, 0, none⟩)) ∧ TB W W' g b [] := by
  have hu := Try.underlying65
  have hmm := @run_makeMap Try.prog
  go_enter Try.func7, Try.ntmps7
  go_wp2
  go_ret
  have b1 : Below W.heap.size W (W.alloc (.map #[] 0)) := below_alloc (Below.refl _ _) _
  have m1 : NetMap (W.alloc (.map #[] 0)) W.heap.size [] := MapIs.made netV_inj W
  have b2 : Below W.heap.size W ((W.alloc (.map #[] 0)).alloc (.cells #[.map (some W.heap.size)] 65)) := below_alloc b1 _
  have hs : (W.alloc (.map #[] 0)).heap.size = W.heap.size + 1 := by simp
  refine ⟨W.heap.size + 1, W.heap.size, rfl, b2, by omega, Nat.le_refl _, ?_, m1.below (below_alloc (Below.refl _ _) _)⟩
  have := blk_new (W.alloc (.map #[] 0)) (.cells #[.map (some W.heap.size)] 65)
  rw [hs] at this
  exact this
/-- What Add tells of a route whose bits are in range; m: its mask. -/
def addR (L : List ((Int × Int) × Int)) (n bt gw m : Int) : List ((Int × Int) × Int) × Int :=
  if bits .andNot .u32 n m ≠ 0 then (L, 1) else if (getM L (n, bt)).isSome = true then (L, 6) else if 256 ≤ L.length then (L, 81) else (L ++ [((n, bt), gw)], 0)
theorem zeroU (W : World) : (zeroValue 23).run Try.prog W = .ok (.int .u32 0) W := by kernel_rfl
set_option maxHeartbeats 8000000 in
set_option maxRecDepth 100000 in
theorem Add_kept {w W : World} {g b : Nat} {L : List ((Int × Int) × Int)} (h : TB w W g b L) (n bt gw m : Int) (hn0 : 0 ≤ n) (hn1 : n < 4294967296) (hb0 : 0 ≤ bt) (hb1 : bt ≤ 32) (hm : routes_mask.f bt = some m) :
    Calls Try.prog 9 #[.pointer (some ⟨g, 0, none⟩), .agg #[.int .u32 n, .int .i64 bt, .int .u32 gw]] W fun e W' => e = .returned (.int .i64 (addR L n bt gw m).2) ∧ TB w W' g b (addR L n bt gw m).1 ∧ Kept W W' (fun k => k = b) := by
  have hu31 := Try.underlying31
  have hu65 := Try.underlying65
  have hu68 := Try.underlying68
  obtain ⟨R, hR⟩ : ∃ R, addR L n bt gw m = R := ⟨_, rfl⟩
  rw [hR]
  unfold addR at hR
  have HR := Aside0.mk hR
  have HM := Aside0.mk hm
  have HT := Aside0.mk h
  have HKY := Aside0.mk (netKey n bt hn0 hn1 (by omega) (by omega))
  clear h hm hR
  go_enter Try.func9, Try.ntmps9
  go_upto_region 3 with (first
    | ((with_reducible refine gate_dst (N := 3) rfl ?_); refine box_event ?hg (N := 3) ?hd (cs := #[.int .u32 n, .int .i64 bt, .int .u32 gw]) (t := 31) ?hr ?_; (case hd => rfl); (case hg => rfl); (case hr => first | (go_simp; done) | (go_simp; rfl)); intro g3 e3 w1 k3 b3; have HT1 := Aside0.mk (HT.out.step b3); have HW1 := Aside0.mk b3; have K3 := Aside0.mk k3; have z := (blk_cell HT1.out.k 0).trans (show _ = some (Value.map (some b)) from rfl); have p0 : w1.cell? ⟨g3, 0, none⟩ = some (.int .u32 n) := (blk_cell k3 0).trans rfl; have p1 : w1.cell? ⟨g3, 1, none⟩ = some (.int .i64 bt) := (blk_cell k3 1).trans rfl; have p2 : w1.cell? ⟨g3, 2, none⟩ = some (.int .u32 gw) := (blk_cell k3 2).trans rfl; clear e3 b3 k3)
    | (go_at_call 21; (with_reducible refine Calls.mono (none_in z) ?_); rintro e w2 ⟨rfl, rfl⟩))
  go_upto_region 5 with (fail)
  go_quiet ((go_at_call 22; exact Calls.quiet_of ((routes_mask.calls bt m _ HM.out).mono fun _ _ h_ => ⟨h_.1, h_.2.out⟩)))
  have HT2 := Aside0.mk (HT1.out.drewN nq)
  have HW2 := Aside0.mk (pw_below_drewN HW1.out nq)
  have k3 : (w1.drewN nq).heap[g3]? = _ := blk_drewN K3.out nq
  clear z p0 p1 p2 HT HT1 HW1 K3 hb0 hb1
  generalize w1.drewN nq = w2 at HT2 HW2 k3 ⊢
  have K3 := Aside0.mk k3
  have p0 : w2.cell? ⟨g3, 0, none⟩ = some (.int .u32 n) := (blk_cell k3 0).trans rfl
  have p1 : w2.cell? ⟨g3, 1, none⟩ = some (.int .i64 bt) := (blk_cell k3 1).trans rfl
  clear k3
  by_cases c1 : bits .andNot .u32 n m = 0
  · have d1 : (bits .andNot .u32 n m != 0) = false := by rw [c1]; rfl
    have C1 := Aside0.mk c1
    clear c1
    go_upto_region 8 with (fail)
    have b4 : Below w2.heap.size w2 (w2.alloc (.cells #[.int .u32 n, .int .i64 bt] 68)) := below_alloc (Below.refl _ _) _
    have HT4 := HT2.out.step b4
    have HW4 := Aside0.mk (below_step HW2.out b4)
    have k3 := blk_below K3.out b4
    have k5 := blk_new w2 (.cells #[.int .u32 n, .int .i64 bt] 68)
    clear HT2 HW2 K3 b4 p0 p1
    generalize w2.alloc _ = w4 at HT4 HW4 k3 k5 ⊢
    generalize w2.heap.size = g5 at k5 ⊢
    have z := (blk_cell HT4.k 0).trans (show _ = some (Value.map (some b)) from rfl)
    have p2 : w4.cell? ⟨g3, 2, none⟩ = some (.int .u32 gw) := (blk_cell k3 2).trans rfl
    have q0 : w4.cell? ⟨g5, 0, none⟩ = some (.int .u32 n) := (blk_cell k5 0).trans rfl
    have q1 : w4.cell? ⟨g5, 1, none⟩ = some (.int .i64 bt) := (blk_cell k5 1).trans rfl
    obtain ⟨kl, hkl⟩ := HKY.out
    have hlk : (Instr.lookup 63 (.map (some b)) (.agg #[.int .u32 n, .int .i64 bt]) true).run Try.prog w4.drew = .ok (.tuple #[((getM L (n, bt)).map gwV).getD (.int .u32 0), .bool (getM L (n, bt)).isSome]) w4.drew := (HT4.drew).m.look netLaw Try.underlying63 (zeroU _) hkl
    have HKL := Aside0.mk hkl
    have HT4' := Aside0.mk HT4
    clear k3 k5 HT4 hkl HKY
    cases hg : getM L (n, bt) with
    | some v =>
      have HG := Aside0.mk hg
      rw [hg] at hlk
      simp only [Option.map_some, Option.getD_some, Option.isSome_some, gwV] at hlk
      clear hg
      go_region
      go_wp2
      go_ret
      have e := HR.out
      rw [if_neg (by rw [C1.out]; simp), HG.out, if_pos (show (some v).isSome = true from rfl)] at e
      subst e
      exact ⟨rfl, HT4'.out.drew, Kept.of_below HW4.out.drew _⟩
    | none =>
      have HG := Aside0.mk hg
      rw [hg] at hlk
      simp only [Option.map_none, Option.getD_none, Option.isSome_none] at hlk
      clear hg
      go_region
      clear hlk
      have hlen := fun ty => (HT4'.out.drew).m.len Try.underlying63 ty
      by_cases c2 : 256 ≤ L.length
      · have d2 : decide ((256 : Int) ≤ (L.length : Int)) = true := decide_eq_true (by omega)
        have C2 := Aside0.mk c2
        clear c2
        go_wp2
        go_ret
        have e := HR.out
        rw [if_neg (by rw [C1.out]; simp), HG.out, if_neg (by simp), if_pos C2.out] at e
        subst e
        exact ⟨rfl, HT4'.out.drew, Kept.of_below HW4.out.drew _⟩
      · have d2 : decide ((256 : Int) ≤ (L.length : Int)) = false := decide_eq_false (by omega)
        have C2 := Aside0.mk c2
        clear c2
        obtain ⟨w6, hup, hm6, hg6⟩ := (HT4'.out.drew.drew).m.store (v := gw) netLaw Try.underlying63 HKL.out HG.out
        have HM6 := Aside0.mk hm6
        have HG6 := Aside0.mk hg6
        have hup2 : (Instr.mapUpdate 63 (.map (some b)) (.agg #[.int .u32 n, .int .i64 bt]) (.int .u32 gw)).run Try.prog w4.drew.drew = .ok () w6 := hup
        clear hm6 hg6 hup
        go_wp2
        clear hlen
        go_region
        go_wp2
        go_ret
        have e := HR.out
        rw [if_neg (by rw [C1.out]; simp), HG.out, if_neg (by simp), if_neg C2.out] at e
        subst e
        exact ⟨rfl, HT4'.out.drew.drew.turn HG6.out HM6.out, Kept.of_grown HG6.out (Kept.of_below HW4.out.drew.drew _) (fun k e => .inl (Option.some.inj e).symm)⟩
  · have d1 : (bits .andNot .u32 n m != 0) = true := by simpa using c1
    have C1 := Aside0.mk c1
    clear c1
    go_wp2
    go_ret
    have e := HR.out
    rw [if_pos C1.out] at e
    subst e
    exact ⟨rfl, HT2.out, Kept.of_below HW2.out _⟩
theorem Add_in {w W : World} {g b : Nat} {L : List ((Int × Int) × Int)} (h : TB w W g b L) (n bt gw m : Int) (hn0 : 0 ≤ n) (hn1 : n < 4294967296) (hb0 : 0 ≤ bt) (hb1 : bt ≤ 32) (hm : routes_mask.f bt = some m) :
    Calls Try.prog 9 #[.pointer (some ⟨g, 0, none⟩), .agg #[.int .u32 n, .int .i64 bt, .int .u32 gw]] W fun e W' => e = .returned (.int .i64 (addR L n bt gw m).2) ∧ TB w W' g b (addR L n bt gw m).1 :=
  (Add_kept h n bt gw m hn0 hn1 hb0 hb1 hm).mono fun _ _ h_ => ⟨h_.1, h_.2.1⟩
set_option maxHeartbeats 8000000 in
set_option maxRecDepth 100000 in
theorem Add_range_kept {w W : World} {g b : Nat} {L : List ((Int × Int) × Int)} (h : TB w W g b L) (n bt gw : Int) (hb : bt < 0 ∨ 32 < bt) :
    Calls Try.prog 9 #[.pointer (some ⟨g, 0, none⟩), .agg #[.int .u32 n, .int .i64 bt, .int .u32 gw]] W fun e W' => e = .returned (.int .i64 4) ∧ TB w W' g b L ∧ Below W.heap.size W W' := by
  have hu31 := Try.underlying31
  have hu65 := Try.underlying65
  have HT := Aside0.mk h
  clear h
  by_cases c1 : bt < 0
  · have d1 : decide (bt < 0) = true := decide_eq_true c1
    clear hb
    go_enter Try.func9, Try.ntmps9
    go_wp2_with (first
      | ((with_reducible refine gate_dst (N := 3) rfl ?_); refine box_event ?hg (N := 3) ?hd (cs := #[.int .u32 n, .int .i64 bt, .int .u32 gw]) (t := 31) ?hr ?_; (case hd => rfl); (case hg => rfl); (case hr => first | (go_simp; done) | (go_simp; rfl)); intro g3 e3 w1 k3 b3; have HT1 := Aside0.mk (HT.out.step b3); have HW1 := Aside0.mk b3; have z := (blk_cell HT1.out.k 0).trans (show _ = some (Value.map (some b)) from rfl); have p1 : w1.cell? ⟨g3, 1, none⟩ = some (.int .i64 bt) := (blk_cell k3 1).trans rfl; clear e3 b3 k3)
      | (go_at_call 21; (with_reducible refine Calls.mono (none_in z) ?_); rintro e w2 ⟨rfl, rfl⟩))
    go_ret
    exact ⟨rfl, HT1.out, HW1.out⟩
  · have c2 : 32 < bt := by omega
    have d1 : decide (bt < 0) = false := decide_eq_false c1
    have d2 : decide (32 < bt) = true := decide_eq_true c2
    clear hb
    go_enter Try.func9, Try.ntmps9
    go_wp2_with (first
      | ((with_reducible refine gate_dst (N := 3) rfl ?_); refine box_event ?hg (N := 3) ?hd (cs := #[.int .u32 n, .int .i64 bt, .int .u32 gw]) (t := 31) ?hr ?_; (case hd => rfl); (case hg => rfl); (case hr => first | (go_simp; done) | (go_simp; rfl)); intro g3 e3 w1 k3 b3; have HT1 := Aside0.mk (HT.out.step b3); have HW1 := Aside0.mk b3; have z := (blk_cell HT1.out.k 0).trans (show _ = some (Value.map (some b)) from rfl); have p1 : w1.cell? ⟨g3, 1, none⟩ = some (.int .i64 bt) := (blk_cell k3 1).trans rfl; clear e3 b3 k3)
      | (go_at_call 21; (with_reducible refine Calls.mono (none_in z) ?_); rintro e w2 ⟨rfl, rfl⟩))
    go_ret
    exact ⟨rfl, HT1.out, HW1.out⟩
theorem Add_range {w W : World} {g b : Nat} {L : List ((Int × Int) × Int)} (h : TB w W g b L) (n bt gw : Int) (hb : bt < 0 ∨ 32 < bt) :
    Calls Try.prog 9 #[.pointer (some ⟨g, 0, none⟩), .agg #[.int .u32 n, .int .i64 bt, .int .u32 gw]] W fun e W' => e = .returned (.int .i64 4) ∧ TB w W' g b L :=
  (Add_range_kept h n bt gw hb).mono fun _ _ h_ => ⟨h_.1, h_.2.1⟩
/-- The mask of so many bits. -/
def mk (b : Int) : Int := (shl .u64 18446744073709551615 (wrap64 (32 - b))) % 4294967296
theorem mask_is (b : Int) (h0 : 0 ≤ b) (h1 : b ≤ 32) : routes_mask.f b = some (mk b) := by
  unfold routes_mask.f mk
  rw [if_pos (by unfold wrap64; omega)]
theorem mk_range (b : Int) : 0 ≤ mk b ∧ mk b < 4294967296 := by
  unfold mk
  omega
def nextR (L : List ((Int × Int) × Int)) (ip : Int) : Nat → Int × Int
  | 0 => (0, 101)
  | b + 1 => match getM L (bits .and .u32 ip (mk b), (b : Int)) with
    | some g => (if g = 0 then ip else g, 0)
    | none => nextR L ip b
theorem or_is (g ip : Int) : cmp_Or_uint32.f 5 [g, ip] = some (if g = 0 then ip else g) := by
  unfold cmp_Or_uint32.f
  have w1 : wrap64 1 = 1 := by unfold wrap64; omega
  have w2 : wrap64 2 = 2 := by unfold wrap64; omega
  by_cases c : g = 0
  · subst c
    by_cases d : ip = 0
    · subst d
      simp [cmp_Or_uint32.l0, rd, w1, w2]
    · simp [cmp_Or_uint32.l0, rd, w1, w2, d]
  · simp [cmp_Or_uint32.l0, rd, c]
set_option maxHeartbeats 8000000 in
set_option maxRecDepth 100000 in
theorem Next_in {w W : World} {g b : Nat} {L : List ((Int × Int) × Int)} (h : TB w W g b L) (ip : Int) (hn0 : 0 ≤ ip) (hn1 : ip < 4294967296) :
    Calls Try.prog 10 #[.pointer (some ⟨g, 0, none⟩), .int .u32 ip] W fun e W' => e = .returned (.tuple #[.int .u32 (nextR L ip 33).1, .int .i64 (nextR L ip 33).2]) ∧ Below W.heap.size W W' := by
  have hu31 := Try.underlying31
  have hu65 := Try.underlying65
  have hu68 := Try.underlying68
  obtain ⟨R, hR⟩ : ∃ R, nextR L ip 33 = R := ⟨_, rfl⟩
  rw [hR]
  have HR := Aside0.mk hR
  have HT := Aside0.mk h
  have z := (blk_cell h.k 0).trans (show _ = some (Value.map (some b)) from rfl)
  clear h hR
  go_enter Try.func10, Try.ntmps10
  go_wp2_with (go_at_call 21; (with_reducible refine Calls.mono (none_in z) ?_); rintro e w2 ⟨rfl, rfl⟩)
  go_loopg [6] 33 (fun kq v6 w' => v6 = .int .i64 ((kq : Int) - 1) ∧ Aside0 (nextR L ip kq = R) ∧ Aside0 (kq ≤ 33) ∧ Aside0 (Below W.heap.size W w'))
  case atStart => exact ⟨rfl, HR, ⟨Nat.le_refl _⟩, ⟨Below.refl _ _⟩⟩

  case round =>
    clear HR
    obtain ⟨rfl, HR, HK, HB⟩ := hrel
    have hT := HT.out.step HB.out
    have z := (blk_cell hT.k 0).trans (show _ = some (Value.map (some b)) from rfl)
    have HT := Aside0.mk hT
    clear hT
    cases gk with
    | zero =>
      go_wp2
      go_ret2
      have e := HR.out
      simp only [nextR] at e
      subst e
      exact ⟨rfl, HB.out⟩
    | succ k1 =>
      have hk1 := HK.out
      have e := HR.out
      simp only [nextR] at e
      have hm := mask_is (k1 : Int) (by omega) (by omega)
      obtain ⟨m, hmm⟩ : ∃ m, mk (k1 : Int) = m := ⟨_, rfl⟩
      rw [hmm] at hm e
      have r0 := mk_range (k1 : Int)
      rw [hmm] at r0
      have HM := Aside0.mk hm
      obtain ⟨x, hx⟩ : ∃ x, bits .and .u32 ip m = x := ⟨_, rfl⟩
      have hxr : 0 ≤ x ∧ x < 4294967296 := by rw [← hx]; exact ⟨bits_lo_u32 _ _ _, by have := bits_hi_u32 .and ip m; omega⟩
      obtain ⟨kl, hkl⟩ := netKey x (k1 : Int) hxr.1 hxr.2 (by omega) (by omega)
      rw [hx] at e
      have hlk : ∀ n, (Instr.lookup 63 (.map (some b)) (.agg #[.int .u32 x, .int .i64 (k1 : Int)]) true).run Try.prog (wr.drewN n) = .ok (.tuple #[((getM L (x, (k1 : Int))).map gwV).getD (.int .u32 0), .bool (getM L (x, (k1 : Int))).isSome]) (wr.drewN n) := fun n => (HT.out.drewN n).m.look netLaw Try.underlying63 (zeroU _) hkl
      have ek : (((k1 + 1 : Nat) : Int) - 1) = (k1 : Int) := by omega
      have k0 : (0 : Int) ≤ (k1 : Int) := by omega
      have k2 : (k1 : Int) ≤ 32 := by omega
      rw [ek]
      have E := Aside0.mk e
      have HX := Aside0.mk hx
      clear hk1 e hm hmm r0 hxr hkl HR ek
      cases hg : getM L (x, (k1 : Int)) with
      | none =>
        rw [hg] at hlk
        simp only [Option.map_none, Option.getD_none, Option.isSome_none] at hlk
        have HG := Aside0.mk hg
        clear hg
        go_wp2
        go_quiet ((go_at_call 22; exact Calls.quiet_of ((routes_mask.calls (k1 : Int) m _ HM.out).mono fun _ _ h_ => ⟨h_.1, h_.2.out⟩)))
        go_wp2
        go_roundg k1
        case measure => omega
        case rel => exact ⟨rfl, ⟨by have := E.out; rw [HG.out] at this; exact this⟩, ⟨by omega⟩, ⟨pw_below_drewN HB.out nq⟩⟩
      | some v =>
        rw [hg] at hlk
        simp only [Option.map_some, Option.getD_some, Option.isSome_some, gwV] at hlk
        have HG := Aside0.mk hg
        clear hg
        obtain ⟨y1, hy1⟩ : ∃ y_ : List Int, y_ = [v, ip] := ⟨_, rfl⟩
        have hor := or_is v ip
        have er := E.out
        rw [HG.out] at er
        dsimp only at er
        generalize (if v = 0 then ip else v) = q at hor er
        have ER := Aside0.mk er
        rw [← hy1] at hor
        clear er
        have NY1 := Aside0.mk hy1
        have HOR := Aside0.mk hor
        clear hy1 hor
        go_wp2
        go_quiet ((go_at_call 22; exact Calls.quiet_of ((routes_mask.calls (k1 : Int) m _ HM.out).mono fun _ _ h_ => ⟨h_.1, h_.2.out⟩)))
        go_wp2_with (first
          | ((with_reducible refine gate_dst (N := 32) rfl ?_); refine Kd.R_lit (Kd.int .u32) _ 23 ?hg (N := 32) ?hd (xs := [v, ip]) (inner := [.int .u32 v, .int .u32 ip]) (ok := fun _ => True) (okp := fun _ => True) ?hr ?hp (fun _ hk => hk) trivial (Below.refl _ _) (Nat.le_refl _) (by simp) ?_; (case hd => rfl); (case hg => rfl); (case hr => first | (go_simp; done) | (go_simp; rfl)); (case hp => exact (Reps.one (show Kd.M (Kd.int .u32) _ _ _ v [.int .u32 v] from rfl) (Reps.one (show Kd.M (Kd.int .u32) _ _ _ ip [.int .u32 ip] from rfl) (Reps.none _ _)))); intro v32 w5 ho hb hg_ hnew_; clear hg_ hnew_; rw [← NY1.out] at ho; have HB5 := Aside0.mk (below_step (pw_below_drewN HB.out nq) hb); obtain ⟨A32, c32, eo⟩ := Kd.R_slice ho; subst eo; have HO32 := Aside0.mk ho; clear ho hb)
          | (go_at_call 23; (with_reducible refine Calls.mono (cmp_Or_uint32.calls 5 _ _ y1 _ _ ?s1 ?s2 HOR.out) ?_); (case s1 => exact (Kd.R_reads' HO32.out).2.2); (case s2 => exact (Kd.R_reads' HO32.out).2.1); rintro e w6 ⟨rfl, hdr⟩; have HB6 := Aside0.mk (below_step HB5.out hdr.below); clear hdr))
        go_ret2
        have e := ER.out
        subst e
        exact ⟨rfl, HB6.out⟩
theorem dropL_none {L : List ((Int × Int) × Int)} {k : Int × Int} (h : getM L k = none) : delM L k = L := delM_none h
def dropR (L : List ((Int × Int) × Int)) (n bt : Int) : List ((Int × Int) × Int) × Int :=
  if (getM L (n, bt)).isSome = true then (delM L (n, bt), 0) else (L, 71)
set_option maxHeartbeats 8000000 in
set_option maxRecDepth 100000 in
theorem Drop_kept {w W : World} {g b : Nat} {L : List ((Int × Int) × Int)} (h : TB w W g b L) (n bt : Int) (hn0 : 0 ≤ n) (hn1 : n < 4294967296) (hb0 : -9223372036854775808 ≤ bt) (hb1 : bt ≤ 9223372036854775807) :
    Calls Try.prog 12 #[.pointer (some ⟨g, 0, none⟩), .int .u32 n, .int .i64 bt] W fun e W' => e = .returned (.int .i64 (dropR L n bt).2) ∧ TB w W' g b (dropR L n bt).1 ∧ Kept W W' (fun k => k = b) := by
  have hu65 := Try.underlying65
  have hu68 := Try.underlying68
  obtain ⟨R, hR⟩ : ∃ R, dropR L n bt = R := ⟨_, rfl⟩
  rw [hR]
  unfold dropR at hR
  have HR := Aside0.mk hR
  have HT := Aside0.mk h
  have HKY := Aside0.mk (netKey n bt hn0 hn1 hb0 hb1)
  have z := (blk_cell HT.out.k 0).trans (show _ = some (Value.map (some b)) from rfl)
  clear h hR hb0 hb1
  go_enter Try.func12, Try.ntmps12
  go_upto_region 4 with (go_at_call 21; (with_reducible refine Calls.mono (none_in z) ?_); rintro e w2 ⟨rfl, rfl⟩)
  have b4 : Below W.heap.size W (W.alloc (.cells #[.int .u32 n, .int .i64 bt] 68)) := below_alloc (Below.refl _ _) _
  have HT4 := HT.out.step b4
  have HW4 := Aside0.mk b4
  have k5 := blk_new W (.cells #[.int .u32 n, .int .i64 bt] 68)
  clear b4 z
  generalize W.alloc _ = w4 at HT4 HW4 k5 ⊢
  obtain ⟨g5, hg5⟩ : ∃ g5, W.heap.size = g5 := ⟨_, rfl⟩
  rw [hg5] at k5
  rw [hg5]
  have z := (blk_cell HT4.k 0).trans (show _ = some (Value.map (some b)) from rfl)
  have q0 : w4.cell? ⟨g5, 0, none⟩ = some (.int .u32 n) := (blk_cell k5 0).trans rfl
  have q1 : w4.cell? ⟨g5, 1, none⟩ = some (.int .i64 bt) := (blk_cell k5 1).trans rfl
  obtain ⟨kl, hkl⟩ := HKY.out
  have hlk : (Instr.lookup 63 (.map (some b)) (.agg #[.int .u32 n, .int .i64 bt]) true).run Try.prog w4.drew = .ok (.tuple #[((getM L (n, bt)).map gwV).getD (.int .u32 0), .bool (getM L (n, bt)).isSome]) w4.drew := (HT4.drew).m.look netLaw Try.underlying63 (zeroU _) hkl
  have HKL := Aside0.mk hkl
  have HT4' := Aside0.mk HT4
  have HG5 := Aside0.mk hg5
  clear k5 HT4 hkl HKY hg5 HT
  cases hg : getM L (n, bt) with
  | some v =>
    have HG := Aside0.mk hg
    rw [hg] at hlk
    simp only [Option.map_some, Option.getD_some, Option.isSome_some, gwV] at hlk
    clear hg
    go_region
    clear hlk
    obtain ⟨w6, hdel, hm6, hg6⟩ := (HT4'.out.drew.drew).m.drop netLaw Try.underlying63 HKL.out 0
    have HM6 := Aside0.mk hm6
    have HG6 := Aside0.mk hg6
    have hdel2 : ∀ ty, (Builtin.delete_ #[63, 68] ty #[.map (some b), .agg #[.int .u32 n, .int .i64 bt]]).run Try.prog w4.drew.drew = .ok (.tuple #[]) w6 := fun ty => hdel
    clear hm6 hg6 hdel
    go_wp2
    go_region
    go_wp2
    go_ret
    have e := HR.out
    rw [HG.out, if_pos (show (some v).isSome = true from rfl)] at e
    subst e
    exact ⟨rfl, HT4'.out.drew.drew.turn HG6.out HM6.out, Kept.of_grown HG6.out (Kept.of_below HW4.out.drew.drew _) (fun k e => .inl (Option.some.inj e).symm)⟩
  | none =>
    have HG := Aside0.mk hg
    rw [hg] at hlk
    simp only [Option.map_none, Option.getD_none, Option.isSome_none] at hlk
    clear hg
    go_region
    go_wp2
    go_ret
    have e := HR.out
    rw [HG.out, if_neg (by simp)] at e
    subst e
    exact ⟨rfl, HT4'.out.drew, Kept.of_below HW4.out.drew _⟩
set_option maxHeartbeats 8000000 in
set_option maxRecDepth 100000 in
theorem Len_in {w W : World} {g b : Nat} {L : List ((Int × Int) × Int)} (h : TB w W g b L) :
    Calls Try.prog 15 #[.pointer (some ⟨g, 0, none⟩)] W fun e W' => e = .returned (.int .i64 L.length) ∧ W = W' := by
  have hu65 := Try.underlying65
  have z := (blk_cell h.k 0).trans (show _ = some (Value.map (some b)) from rfl)
  have hlen := fun ty => h.m.len Try.underlying63 ty
  clear h
  go_enter Try.func15, Try.ntmps15
  go_wp2_with (go_at_call 21; (with_reducible refine Calls.mono (none_in z) ?_); rintro e w2 ⟨rfl, rfl⟩)
  go_ret
  exact ⟨rfl, rfl⟩
end Go.Proofs.Ytpjelffgakgjaaa.Q
