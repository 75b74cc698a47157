/- scoreboard.Lost: the walk. No condition. -/
import Derived.Test.YtfaoeljggfdhmaaQ4
import Derived.Outline
import Derived.Lib.Hide
import Derived.Deep.RegionHeld3
import Derived.Deep.RegionWith
namespace Go.Proofs.Ytfaoeljggfdhmaa.Q
set_option linter.unusedVariables false
set_option linter.unusedSimpArgs false
open Go.RowKit Go.Proofs.YtfaoeljggfdhmaaW.PrintWords Go.Proofs.YtfaoeljggfdhmaaW.PrintLast Go.Proofs.YtfaoeljggfdhmaaW.PrintMore
def inSp (p : Int) (x : S75) : Bool := decide (x.f0 ≤ p ∧ p < x.f1)
def idxOf (p : Int) : List S75 → Int → Int
  | [], _ => -1
  | x :: r, j => if inSp p x = true then j else idxOf p r (j + 1)
set_option maxHeartbeats 4000000 in
set_option maxRecDepth 100000 in
theorem held_one (x : S75) (p : Int) (bp : Nat) (w : World) (hp : w.cell? ⟨bp, 0, none⟩ = some (.int .i64 p)) :
    Calls Try.prog 43 #[.agg #[.int .i64 x.f0, .int .i64 x.f1], .pointer (some ⟨bp, 0, none⟩)] w fun e w' => e = .returned (.bool (inSp p x)) ∧ Below w.heap.size w w' := by
  have hu := Try.underlying75
  have hb : Below w.heap.size w (w.alloc (.cells #[.int .i64 x.f0, .int .i64 x.f1] 75)) := (Below.refl _ w).alloc (Nat.le_refl _) _
  have hp' : (w.alloc (.cells #[.int .i64 x.f0, .int .i64 x.f1] 75)).cell? ⟨bp, 0, none⟩ = some (.int .i64 p) := (hb.cell (p := ⟨bp, 0, none⟩) (World.block_lt_of_cell? _ _ hp)).trans hp
  have HB := Aside0.mk hb
  clear hb
  obtain ⟨f0, f1⟩ := x
  by_cases c1 : f0 ≤ p
  · by_cases c2 : p < f1
    · have he : inSp p ⟨f0, f1⟩ = true := decide_eq_true ⟨c1, c2⟩
      rw [he]
      clear he
      go_enter Try.func43, Try.ntmps43
      go_wp2
      go_ret
      exact ⟨by simp, HB.out⟩
    · have he : inSp p ⟨f0, f1⟩ = false := decide_eq_false (fun h => c2 h.2)
      rw [he]
      clear he
      go_enter Try.func43, Try.ntmps43
      go_wp2
      go_ret
      exact ⟨by simp, HB.out⟩
  · have he : inSp p ⟨f0, f1⟩ = false := decide_eq_false (fun h => c1 h.1)
    rw [he]
    clear he
    go_enter Try.func43, Try.ntmps43
    go_wp2
    go_ret
    exact ⟨by simp, HB.out⟩
set_option maxHeartbeats 4000000 in
set_option maxRecDepth 100000 in
theorem held_index (A : Option Addr) (c : Nat) (L : List S75) (p : Int) (bp : Nat) (w : World) (hr : Kd.C k75 w A L.length L) (hc : L.length ≤ c) (hp : w.cell? ⟨bp, 0, none⟩ = some (.int .i64 p)) :
    Calls Try.prog 52 #[.slice A L.length c, .func (.func 43) #[] #[.pointer (some ⟨bp, 0, none⟩)]] w fun e w' => e = .returned (.int .i64 (idxOf p L 0)) ∧ Below w.heap.size w w' := by
  have hmax : L.length ≤ 9223372036854775807 := hr.2.1
  have HR := Aside0.mk hr
  have HP := Aside0.mk hp
  clear hr hp
  obtain ⟨R, hR⟩ : ∃ R, idxOf p L 0 = R := ⟨_, rfl⟩
  rw [hR]
  have HQ := Aside0.mk hR
  clear hR
  go_enter Try.func52, Try.ntmps52
  go_wp2
  go_loopw [5, 8] (fun _ i wr => ∃ j : Nat, j ≤ L.length ∧ i = .int .i64 (j : Int) ∧ idxOf p (L.drop j) (j : Int) = R ∧ Below w.heap.size w wr) (fun _ i _ => L.length - (intOf i).toNat)
  case atStart => exact ⟨0, Nat.zero_le _, rfl, HQ.out, Below.refl _ _⟩
  case round =>
    obtain ⟨j, hj, rfl, hR, hB⟩ := hrel
    have HQ2 := Aside0.mk hR
    have HB := Aside0.mk hB
    clear hR hB
    by_cases hlt : j < L.length
    · have i0 : (0 : Int) ≤ (j : Int) := by omega
      have i1 : (j : Int) < (L.length : Int) := by omega
      obtain ⟨ad, e, c0, c1⟩ := at_T75 (Kd.C_below HR.out HB.out) (j : Int) i0 i1
      subst e
      rw [Int.toNat_natCast] at c0 c1
      obtain ⟨x, hx⟩ : ∃ x, rd_T75 L (j : Int) = x := ⟨_, rfl⟩
      rw [hx] at c0 c1
      have hdr : L.drop j = x :: L.drop (j + 1) := by
        rw [List.drop_eq_getElem_cons hlt, ← hx]
        unfold rd_T75
        rw [Int.toNat_natCast, List.getD_eq_getElem?_getD, List.getElem?_eq_getElem hlt]
        rfl
      have h2 := HQ2.out
      rw [hdr] at h2
      simp only [idxOf] at h2
      have hp2 := (HB.out.cell (p := ⟨bp, 0, none⟩) (World.block_lt_of_cell? _ _ HP.out)).trans HP.out
      have HP2 := Aside0.mk hp2
      clear hx hdr hp2
      by_cases hin : inSp p x = true
      · rw [if_pos hin] at h2
        subst h2
        go_wp2_with (go_at_call 43; refine (held_one x p bp _ HP2.out).mono ?_; rintro e w' ⟨rfl, hb⟩; rw [hin]; have HB2 := Aside0.mk (below_step HB.out hb); clear hb)
        go_ret
        exact ⟨rfl, HB2.out⟩
      · rw [if_neg hin] at h2
        have hin' : inSp p x = false := by simpa using hin
        have HQ3 := Aside0.mk h2
        clear h2 hin
        go_wp2_with (go_at_call 43; refine (held_one x p bp _ HP2.out).mono ?_; rintro e w' ⟨rfl, hb⟩; rw [hin']; have HB2 := Aside0.mk (below_step HB.out hb); clear hb)
        go_roundw
        case rel => exact ⟨j + 1, by omega, by go_num, by have := HQ3.out; rw [show (((j + 1 : Nat)) : Int) = (j : Int) + 1 by omega]; exact this, HB2.out⟩
        case measure => simp [intOf]; omega
    · have hjl : j = L.length := by omega
      have h2 := HQ2.out
      rw [List.drop_eq_nil_of_le (by omega)] at h2
      simp only [idxOf] at h2
      subst h2
      have i1 : ¬ (j : Int) < (L.length : Int) := by omega
      go_wp2
      go_ret
      exact ⟨rfl, HB.out⟩
set_option maxHeartbeats 4000000 in
set_option maxRecDepth 100000 in
theorem held_any (A : Option Addr) (c : Nat) (L : List S75) (p : Int) (bp : Nat) (b : Bool) (hb : decide (0 ≤ idxOf p L 0) = b) (w : World) (hr : Kd.C k75 w A L.length L) (hc : L.length ≤ c) (hp : w.cell? ⟨bp, 0, none⟩ = some (.int .i64 p)) :
    Calls Try.prog 41 #[.slice A L.length c, .func (.func 43) #[] #[.pointer (some ⟨bp, 0, none⟩)]] w fun e w' => e = .returned (.bool b) ∧ Below w.heap.size w w' := by
  have HR := Aside0.mk hr
  have HP := Aside0.mk hp
  have HD := Aside0.mk hb
  clear hr hp hb
  go_enter Try.func41, Try.ntmps41
  go_wp2_with (go_at_call 52; refine (held_index A c L p bp _ HR.out hc HP.out).mono ?_; rintro e w' ⟨rfl, hb⟩; have HB := Aside0.mk hb; clear hb)
  go_ret
  exact ⟨by rw [← HD.out]; rfl, HB.out⟩
/-- The box of the state. -/
structure SB (w W : World) (a0 a1 a2 : Int) (S : Value) : Prop where
  B : Below w.heap.size w W
  x0 : W.cell? ⟨w.heap.size, 0, none⟩ = some (.int .u32 a0)
  x1 : W.cell? ⟨w.heap.size, 1, none⟩ = some (.int .u32 a1)
  x2 : W.cell? ⟨w.heap.size, 2, none⟩ = some (.int .u32 a2)
  x3 : W.cell? ⟨w.heap.size, 3, none⟩ = some S
theorem SB.step {w W W' : World} {a0 a1 a2 : Int} {S : Value} (h : SB w W a0 a1 a2 S) (hb : Below W.heap.size W W') : SB w W' a0 a1 a2 S := by
  have hg := World.block_lt_of_cell? _ _ h.x0
  have hg : w.heap.size < W.heap.size := hg
  exact ⟨h.B.trans (hb.mono (by omega)), (hb.cell (p := ⟨w.heap.size, 0, none⟩) hg).trans h.x0, (hb.cell (p := ⟨w.heap.size, 1, none⟩) hg).trans h.x1, (hb.cell (p := ⟨w.heap.size, 2, none⟩) hg).trans h.x2, (hb.cell (p := ⟨w.heap.size, 3, none⟩) hg).trans h.x3⟩
theorem SB.new (w : World) (a0 a1 a2 : Int) (S : Value) (t : TypeId) : SB w (w.alloc (.cells #[.int .u32 a0, .int .u32 a1, .int .u32 a2, S] t)) a0 a1 a2 S :=
  ⟨(Below.refl _ w).alloc (Nat.le_refl _) _, by simp, by simp, by simp, by simp⟩
theorem SB.any {w W W' : World} {a0 a1 a2 : Int} {S : Value} (h : SB w W a0 a1 a2 S) {q : Nat} (hb : Below (W.drewN q).heap.size (W.drewN q) W') : SB w W' a0 a1 a2 S := h.step ⟨hb.os, hb.tape, hb.output, hb.size, hb.block⟩
set_option maxHeartbeats 8000000 in
set_option maxRecDepth 100000 in
theorem lost_err (k : Nat) (a0 a1 a2 : Int) (A3 : Option Addr) (c3 : Nat) (l3 : List S35) (mss seq e0 : Int) (he : e0 ≠ 0) (w : World) (hr : Kd.C k35 w A3 l3.length l3) (hc : l3.length ≤ c3) (hask : scoreboard_asked.f k a0 a1 a2 l3 mss = some e0) :
    Calls Try.prog 14 #[.agg #[.int .u32 a0, .int .u32 a1, .int .u32 a2, .slice A3 l3.length c3], .int .i64 mss, .int .u32 seq] w fun e W' => e = .returned (.tuple #[.bool false, .int .i64 e0]) ∧ Below w.heap.size w W' := by
  have hu30 := Try.underlying30
  have HR := Aside0.mk hr
  have HA := Aside0.mk hask
  clear hr hask
  obtain ⟨W1, hW1⟩ : ∃ W1, w.alloc (.cells #[.int .u32 a0, .int .u32 a1, .int .u32 a2, .slice A3 l3.length c3] 30) = W1 := ⟨_, rfl⟩
  have hS := SB.new w a0 a1 a2 (.slice A3 l3.length c3) 30
  rw [hW1] at hS
  have HS := Aside0.mk hS
  obtain ⟨B1, x0, x1, x2, x3⟩ := hS
  go_enter Try.func14, Try.ntmps14
  go_wp2_with (go_at_call 32; refine (scoreboard_asked.calls k a0 a1 a2 A3 c3 l3 mss e0 W1 (Kd.C_below HR.out B1) hc HA.out).mono ?_; rintro e W2 ⟨rfl, hb2⟩; have HS2 := Aside0.mk (HS.out.step hb2))
  go_ret2
  exact ⟨rfl, HS2.out.B⟩
set_option maxHeartbeats 8000000 in
set_option maxRecDepth 100000 in
theorem lost_walk (k : Nat) (a0 a1 a2 : Int) (A3 : Option Addr) (c3 : Nat) (l3 : List S35) (mss seq pl : Int) (hpl : (seq - a0) % 4294967296 = pl) (sp : List S75) (h b : Bool) (w : World) (hr : Kd.C k35 w A3 l3.length l3) (hc : l3.length ≤ c3)
    (hask : scoreboard_asked.f k a0 a1 a2 l3 mss = some 0) (hf : ¬ pl ≥ (a1 - a0) % 4294967296) (hsp : scoreboard_State_spans.f k a0 a1 a2 l3 l3 = some sp) (hh : decide (0 ≤ idxOf pl sp 0) = h) (hb : h = false → scoreboard_State_lost.f k a0 a1 a2 l3 mss pl = some b) :
    Calls Try.prog 14 #[.agg #[.int .u32 a0, .int .u32 a1, .int .u32 a2, .slice A3 l3.length c3], .int .i64 mss, .int .u32 seq] w fun e W' => e = .returned (.tuple #[.bool (!h && b), .int .i64 0]) ∧ Below w.heap.size w W' := by
  have hu30 := Try.underlying30
  have HR := Aside0.mk hr
  have HA := Aside0.mk hask
  have HSP := Aside0.mk hsp
  have HH := Aside0.mk hh
  have HBB := Aside0.mk hb
  obtain ⟨fl, hfl⟩ : ∃ fl, (a1 - a0) % 4294967296 = fl := ⟨_, rfl⟩
  rw [hfl] at hf
  have HFL := Aside0.mk hfl
  clear hr hask hsp hh hb hfl
  obtain ⟨W1, hW1⟩ : ∃ W1, w.alloc (.cells #[.int .u32 a0, .int .u32 a1, .int .u32 a2, .slice A3 l3.length c3] 30) = W1 := ⟨_, rfl⟩
  have hS := SB.new w a0 a1 a2 (.slice A3 l3.length c3) 30
  rw [hW1] at hS
  have HS := Aside0.mk hS
  obtain ⟨B1, x0, x1, x2, x3⟩ := hS
  go_enter Try.func14, Try.ntmps14
  go_wp2_with (go_at_call 32; refine (scoreboard_asked.calls k a0 a1 a2 A3 c3 l3 mss 0 W1 (Kd.C_below HR.out B1) hc HA.out).mono ?_; rintro e W2 ⟨rfl, hb2⟩; have HS2 := Aside0.mk (HS.out.step hb2); clear B1 x0 x1 x2 x3 hb2; have x0 := HS2.out.x0)
  have hw3 : Below W2.heap.size W2 (W2.alloc (.cells #[.int .i64 pl] 3)) := (Below.refl _ W2).alloc (Nat.le_refl _) _
  have HS3 := Aside0.mk (HS2.out.step hw3)
  obtain ⟨W3, hW3⟩ : ∃ W3, W2.alloc (.cells #[.int .i64 pl] 3) = W3 := ⟨_, rfl⟩
  obtain ⟨bp, hbp⟩ : ∃ bp, W2.heap.size = bp := ⟨_, rfl⟩
  have z0 : W3.cell? ⟨bp, 0, none⟩ = some (.int .i64 pl) := by rw [← hW3, ← hbp]; simp
  rw [hW3] at HS3
  have HZ := Aside0.mk z0
  clear x0 z0
  rw [hW3, hbp]
  clear hW3 hbp hw3 hpl
  go_region_held3 (fun w' => w'.cell? ⟨bp, 0, none⟩ = some (.int .i64 pl) ∧ w'.cell? ⟨w.heap.size, 0, none⟩ = some (.int .u32 a0) ∧ w'.cell? ⟨w.heap.size, 1, none⟩ = some (.int .u32 a1) ∧ w'.cell? ⟨w.heap.size, 2, none⟩ = some (.int .u32 a2) ∧ w'.cell? ⟨w.heap.size, 3, none⟩ = some (.slice A3 l3.length c3))
    (first | exact ⟨HZ.out, HS4.out.x0, HS4.out.x1, HS4.out.x2, HS4.out.x3⟩ | exact ⟨HZ.out, HS3.out.x0, HS3.out.x1, HS3.out.x2, HS3.out.x3⟩ | go_keep)
    (first | (go_at_call 40; refine (scoreboard_State_flight.calls a0 a1 a2 A3 c3 l3 fl _ (Kd.C_below HR.out (by first | exact HS3.out.B | exact HS3.out.B.drew)) hc (by rw [← HFL.out]; rfl)).mono ?_; rintro e W4 ⟨rfl, hb4⟩; have HS4 := Aside0.mk (by first | exact HS3.out.step hb4 | exact HS3.out.any hb4); have hz4 : W4.cell? ⟨bp, 0, none⟩ = some (.int .i64 pl) := (by exact (hb4.cell (p := ⟨bp, 0, none⟩) (World.block_lt_of_cell? _ _ HZ.out)).trans HZ.out); clear HZ hb4; have HZ := Aside0.mk hz4; clear hz4))
  have hf' : ¬ fl ≤ pl := by omega
  have z0 := HZ.out
  have x0 := HS4.out.x0
  have x1 := HS4.out.x1
  have x2 := HS4.out.x2
  have x3 := HS4.out.x3
  cases h
  · have HB3 := Aside0.mk (HBB.out rfl)
    clear HBB
    go_wp2_with (first | (go_at_call 42; refine (scoreboard_State_spans.calls k a0 a1 a2 A3 c3 l3 A3 c3 l3 sp _ (Kd.C_below HR.out HS4.out.B) hc (Kd.C_below HR.out HS4.out.B) hc HSP.out).mono ?_; rintro e W5 ⟨v5, rfl, ho5, hb5⟩; obtain ⟨A5, c5, e5⟩ := Kd.R_slice ho5; subst e5; have HC5 := Aside0.mk (Kd.R_reads' ho5).2.2; have hc5 := (Kd.R_reads' ho5).2.1; have HS5 := Aside0.mk (HS4.out.step hb5); have HZ5 := Aside0.mk ((hb5.cell (p := ⟨bp, 0, none⟩) (World.block_lt_of_cell? _ _ HZ.out)).trans HZ.out); clear z0 x0 x1 x2 x3 ho5 hb5) | (go_at_call 41; refine (held_any A5 c5 sp pl bp _ HH.out _ HC5.out hc5 HZ5.out).mono ?_; rintro e W6 ⟨rfl, hb6⟩; have HS6 := Aside0.mk (HS5.out.step hb6); have z0 := (hb6.cell (p := ⟨bp, 0, none⟩) (World.block_lt_of_cell? _ _ HZ5.out)).trans HZ5.out; have x0 := HS6.out.x0; have x1 := HS6.out.x1; have x2 := HS6.out.x2; have x3 := HS6.out.x3; clear hb6))
    go_at_call 34
    refine (scoreboard_State_lost.calls k a0 a1 a2 A3 c3 l3 mss pl b _ (Kd.C_below HR.out HS6.out.B) hc HB3.out).mono ?_
    rintro e W7 ⟨rfl, hb7⟩
    have HS7 := Aside0.mk (HS6.out.step hb7)
    clear hb7
    go_wp2
    go_ret2
    exact ⟨by simp, HS7.out.B⟩
  · go_wp2_with (first | (go_at_call 42; refine (scoreboard_State_spans.calls k a0 a1 a2 A3 c3 l3 A3 c3 l3 sp _ (Kd.C_below HR.out HS4.out.B) hc (Kd.C_below HR.out HS4.out.B) hc HSP.out).mono ?_; rintro e W5 ⟨v5, rfl, ho5, hb5⟩; obtain ⟨A5, c5, e5⟩ := Kd.R_slice ho5; subst e5; have HC5 := Aside0.mk (Kd.R_reads' ho5).2.2; have hc5 := (Kd.R_reads' ho5).2.1; have HS5 := Aside0.mk (HS4.out.step hb5); have HZ5 := Aside0.mk ((hb5.cell (p := ⟨bp, 0, none⟩) (World.block_lt_of_cell? _ _ HZ.out)).trans HZ.out); clear z0 x0 x1 x2 x3 ho5 hb5) | (go_at_call 41; refine (held_any A5 c5 sp pl bp _ HH.out _ HC5.out hc5 HZ5.out).mono ?_; rintro e W6 ⟨rfl, hb6⟩; have HS6 := Aside0.mk (HS5.out.step hb6); have z0 := (hb6.cell (p := ⟨bp, 0, none⟩) (World.block_lt_of_cell? _ _ HZ5.out)).trans HZ5.out; have x0 := HS6.out.x0; have x1 := HS6.out.x1; have x2 := HS6.out.x2; have x3 := HS6.out.x3; clear hb6))
    go_ret2
    exact ⟨by simp, HS6.out.B⟩
set_option maxHeartbeats 8000000 in
set_option maxRecDepth 100000 in
theorem lost_far (k : Nat) (a0 a1 a2 : Int) (A3 : Option Addr) (c3 : Nat) (l3 : List S35) (mss seq pl : Int) (hpl : (seq - a0) % 4294967296 = pl) (w : World) (hr : Kd.C k35 w A3 l3.length l3) (hc : l3.length ≤ c3)
    (hask : scoreboard_asked.f k a0 a1 a2 l3 mss = some 0) (hf : pl ≥ (a1 - a0) % 4294967296) :
    Calls Try.prog 14 #[.agg #[.int .u32 a0, .int .u32 a1, .int .u32 a2, .slice A3 l3.length c3], .int .i64 mss, .int .u32 seq] w fun e W' => e = .returned (.tuple #[.bool false, .int .i64 151]) ∧ Below w.heap.size w W' := by
  have hu30 := Try.underlying30
  have HR := Aside0.mk hr
  have HA := Aside0.mk hask
  obtain ⟨fl, hfl⟩ : ∃ fl, (a1 - a0) % 4294967296 = fl := ⟨_, rfl⟩
  rw [hfl] at hf
  have HFL := Aside0.mk hfl
  clear hr hask hfl
  obtain ⟨W1, hW1⟩ : ∃ W1, w.alloc (.cells #[.int .u32 a0, .int .u32 a1, .int .u32 a2, .slice A3 l3.length c3] 30) = W1 := ⟨_, rfl⟩
  have hS := SB.new w a0 a1 a2 (.slice A3 l3.length c3) 30
  rw [hW1] at hS
  have HS := Aside0.mk hS
  obtain ⟨B1, x0, x1, x2, x3⟩ := hS
  go_enter Try.func14, Try.ntmps14
  go_wp2_with (go_at_call 32; refine (scoreboard_asked.calls k a0 a1 a2 A3 c3 l3 mss 0 W1 (Kd.C_below HR.out B1) hc HA.out).mono ?_; rintro e W2 ⟨rfl, hb2⟩; have HS2 := Aside0.mk (HS.out.step hb2); clear B1 x0 x1 x2 x3 hb2; have x0 := HS2.out.x0)
  have hw3 : Below W2.heap.size W2 (W2.alloc (.cells #[.int .i64 pl] 3)) := (Below.refl _ W2).alloc (Nat.le_refl _) _
  have HS3 := Aside0.mk (HS2.out.step hw3)
  obtain ⟨W3, hW3⟩ : ∃ W3, W2.alloc (.cells #[.int .i64 pl] 3) = W3 := ⟨_, rfl⟩
  obtain ⟨bp, hbp⟩ : ∃ bp, W2.heap.size = bp := ⟨_, rfl⟩
  have z0 : W3.cell? ⟨bp, 0, none⟩ = some (.int .i64 pl) := by rw [← hW3, ← hbp]; simp
  rw [hW3] at HS3
  have HZ := Aside0.mk z0
  clear x0 z0
  rw [hW3, hbp]
  clear hW3 hbp hw3 hpl
  go_region_held3 (fun w' => w'.cell? ⟨bp, 0, none⟩ = some (.int .i64 pl) ∧ w'.cell? ⟨w.heap.size, 0, none⟩ = some (.int .u32 a0) ∧ w'.cell? ⟨w.heap.size, 1, none⟩ = some (.int .u32 a1) ∧ w'.cell? ⟨w.heap.size, 2, none⟩ = some (.int .u32 a2) ∧ w'.cell? ⟨w.heap.size, 3, none⟩ = some (.slice A3 l3.length c3))
    (first | exact ⟨HZ.out, HS4.out.x0, HS4.out.x1, HS4.out.x2, HS4.out.x3⟩ | exact ⟨HZ.out, HS3.out.x0, HS3.out.x1, HS3.out.x2, HS3.out.x3⟩ | go_keep)
    (first | (go_at_call 40; refine (scoreboard_State_flight.calls a0 a1 a2 A3 c3 l3 fl _ (Kd.C_below HR.out (by first | exact HS3.out.B | exact HS3.out.B.drew)) hc (by rw [← HFL.out]; rfl)).mono ?_; rintro e W4 ⟨rfl, hb4⟩; have HS4 := Aside0.mk (by first | exact HS3.out.step hb4 | exact HS3.out.any hb4); have hz4 : W4.cell? ⟨bp, 0, none⟩ = some (.int .i64 pl) := (by exact (hb4.cell (p := ⟨bp, 0, none⟩) (World.block_lt_of_cell? _ _ HZ.out)).trans HZ.out); clear HZ hb4; have HZ := Aside0.mk hz4; clear hz4))
  have hf' : fl ≤ pl := by omega
  go_wp2
  go_ret2
  exact ⟨rfl, HS4.out.B⟩
end Go.Proofs.Ytfaoeljggfdhmaa.Q
