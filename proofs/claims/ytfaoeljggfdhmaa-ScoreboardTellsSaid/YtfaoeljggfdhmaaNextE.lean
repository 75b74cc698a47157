/- scoreboard.Next: the walks that come to no loop. No condition. -/
import Derived.Test.YtfaoeljggfdhmaaNextT
namespace Go.Proofs.Ytfaoeljggfdhmaa.Q
set_option linter.unusedVariables false
set_option linter.unusedSimpArgs false
open Go.RowKit Go.Proofs.YtfaoeljggfdhmaaW.PrintWords Go.Proofs.YtfaoeljggfdhmaaW.PrintLast Go.Proofs.YtfaoeljggfdhmaaW.PrintMore Go.Proofs.YtfaoeljggfdhmaaW.RangeSeq
theorem asked0 (k : Nat) (a0 a1 a2 : Int) (A3 : Option Addr) (c3 : Nat) (l3 : List S35) (mss : Int) (W : World) (hr : Kd.C k35 W A3 l3.length l3) (hc : l3.length ≤ c3) (hask : scoreboard_asked.f k a0 a1 a2 l3 mss = some 0) (hl : l3.length = 0) :
    Calls Try.prog 32 #[.agg #[.int .u32 a0, .int .u32 a1, .int .u32 a2, .slice A3 0 c3], .int .i64 mss] W fun e W' => e = .returned (.int .i64 0) ∧ Below W.heap.size W W' := by
  have := scoreboard_asked.calls k a0 a1 a2 A3 c3 l3 mss 0 W hr hc hask
  rw [hl] at this
  exact this
set_option maxHeartbeats 8000000 in
set_option maxRecDepth 100000 in
theorem next_err (k : Nat) (a0 a1 a2 : Int) (A3 : Option Addr) (c3 : Nat) (l3 : List S35) (mss : Int) (resc : Bool) (e0 : Int) (he : e0 ≠ 0) (w : World) (hr : Kd.C k35 w A3 l3.length l3) (hc : l3.length ≤ c3) (hask : scoreboard_asked.f k a0 a1 a2 l3 mss = some e0) :
    Calls Try.prog 13 #[.agg #[.int .u32 a0, .int .u32 a1, .int .u32 a2, .slice A3 l3.length c3], .int .i64 mss, .bool resc] w fun e W' => e = .returned (.tuple #[.agg #[.int .u32 0, .int .u32 0], .bool false, .int .i64 e0]) ∧ Below w.heap.size w W' := by
  have hu30 := Try.underlying30
  have hu35 := Try.underlying35
  have HR := Aside0.mk hr
  have HA := Aside0.mk hask
  clear hr hask
  obtain ⟨W1, hW1⟩ : ∃ W1, nbW w a0 a1 a2 (.slice A3 l3.length c3) mss resc 30 4 3 27 35 = W1 := ⟨_, rfl⟩
  have hP1 := NB.new w a0 a1 a2 (.slice A3 l3.length c3) mss resc 30 4 3 27 35
  rw [hW1] at hP1
  have HP1 := Aside0.mk hP1
  have hW1' := hW1
  unfold nbW at hW1'
  clear hW1
  have B1 := hP1.B
  have x0 := hP1.x0
  have x1 := hP1.x1
  have x2 := hP1.x2
  have x3 := hP1.x3
  have y0 := hP1.y0
  clear hP1
  go_enter Try.func13, Try.ntmps13
  go_wp2_with (go_at_call 32; refine (scoreboard_asked.calls k a0 a1 a2 A3 c3 l3 mss e0 W1 (Kd.C_below HR.out B1) hc HA.out).mono ?_; rintro e W2 ⟨rfl, hb2⟩; have HP2 := Aside0.mk (HP1.out.step hb2); clear x0 x1 x2 x3 y0 B1 hb2; have x0 := HP2.out.x0; have x3 := HP2.out.x3; have r0 := HP2.out.r0; have r1 := HP2.out.r1; have r2 := HP2.out.r2; have r3 := HP2.out.r3; have u0 := HP2.out.u0; have u1 := HP2.out.u1; have u2 := HP2.out.u2; have u3 := HP2.out.u3)
  obtain ⟨k5, _⟩ := HP2.out.res 0 0 false e0
  exact bodyPost_ret (next_results _ k5 rfl rfl rfl) rfl ⟨rfl, k5.B⟩
set_option maxHeartbeats 8000000 in
set_option maxRecDepth 100000 in
theorem next_empty (k : Nat) (a0 a1 a2 : Int) (A3 : Option Addr) (c3 : Nat) (l3 : List S35) (mss : Int) (resc : Bool) (w : World) (hr : Kd.C k35 w A3 l3.length l3) (hc : l3.length ≤ c3) (hask : scoreboard_asked.f k a0 a1 a2 l3 mss = some 0) (hl : l3.length = 0) :
    Calls Try.prog 13 #[.agg #[.int .u32 a0, .int .u32 a1, .int .u32 a2, .slice A3 l3.length c3], .int .i64 mss, .bool resc] w fun e W' => e = .returned (.tuple #[.agg #[.int .u32 0, .int .u32 0], .bool false, .int .i64 0]) ∧ Below w.heap.size w W' := by
  have hu30 := Try.underlying30
  have hu35 := Try.underlying35
  have HR := Aside0.mk hr
  have HA := Aside0.mk hask
  clear hr hask
  obtain ⟨W1, hW1⟩ : ∃ W1, nbW w a0 a1 a2 (.slice A3 l3.length c3) mss resc 30 4 3 27 35 = W1 := ⟨_, rfl⟩
  have hP1 := NB.new w a0 a1 a2 (.slice A3 l3.length c3) mss resc 30 4 3 27 35
  rw [hW1] at hP1
  have HP1 := Aside0.mk hP1
  have hW1' := hW1
  unfold nbW at hW1'
  clear hW1
  have B1 := hP1.B
  have x0 := hP1.x0
  have x1 := hP1.x1
  have x2 := hP1.x2
  have x3 := hP1.x3
  have y0 := hP1.y0
  clear hP1
  rw [hl]
  rw [hl] at hW1' x3
  have hq := HP1.out.x3
  rw [hl] at hq
  go_enter Try.func13, Try.ntmps13
  go_wp2_with (go_at_call 32; refine (asked0 k a0 a1 a2 A3 c3 l3 mss W1 (Kd.C_below HR.out B1) hc HA.out hl).mono ?_; rintro e W2 ⟨rfl, hb2⟩; have HP2 := Aside0.mk (HP1.out.step hb2); clear x0 x1 x2 x3 y0 B1 hb2; have x0 := HP2.out.x0; have x3 := HP2.out.x3; rw [hl] at x3; have r0 := HP2.out.r0; have r1 := HP2.out.r1; have r2 := HP2.out.r2; have r3 := HP2.out.r3; have u0 := HP2.out.u0; have u1 := HP2.out.u1; have u2 := HP2.out.u2; have u3 := HP2.out.u3)
  obtain ⟨k5, _⟩ := HP2.out.res 0 0 false 0
  exact bodyPost_ret (next_results _ k5 rfl rfl rfl) rfl ⟨rfl, k5.B⟩
end Go.Proofs.Ytfaoeljggfdhmaa.Q
