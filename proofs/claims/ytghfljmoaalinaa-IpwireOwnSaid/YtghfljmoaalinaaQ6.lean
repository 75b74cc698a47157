-- written for this claim out of the program's translation by a program (wip/pr.sh); Lean checks it
import Derived.Test.YtghfljmoaalinaaQ0
import Derived.Test.YtghfljmoaalinaaQ5
import Derived.Deep.RegionWith
import Derived.Deep.RegionHeld3
namespace Go.Proofs.Ytghfljmoaalinaa.Q
open Go.RowKit Go.Proofs.YtghfljmoaalinaaW.PrintWords Go.Proofs.YtghfljmoaalinaaW.PrintLast Go.Proofs.YtghfljmoaalinaaW.PrintMore
attribute [local go_sem] max2_int min2_int max_two min_two max_three min_three max_four min_four   -- for this text's walks alone
set_option linter.unusedVariables false
set_option linter.unusedSimpArgs false

/-! ### ipwire_get32: function 23 -/
-- GIVENPART
-- IMPORT Derived.Deep.RegionWith
-- IMPORT Derived.Deep.RegionHeld3
def ipwire_get32.f (l0 : List Int) : Option (Int) := (ipwire_get16.f l0).bind fun t115 => (if 2 ≤ (l0.length : Int) then ((ipwire_get16.f (l0.drop 2)).bind fun t117 => (some (Go.bits .or .u32 ((((t115) % 4294967296) * 65536) % 4294967296) ((t117) % 4294967296)))) else (none))
set_option maxHeartbeats 8000000 in
set_option maxRecDepth 100000 in
theorem ipwire_get32.calls (A0 : Option Addr) (c0 : Nat) (l0 : List Int) (r : Int) (w : World) (hr0 : Kd.C (Kd.int .u8) w A0 l0.length l0) (hc0 : l0.length ≤ c0) (h : ipwire_get32.f l0 = some r) :
    Calls Try.prog 23 #[.slice A0 l0.length c0] w fun e w' => e = .returned (.int .u32 r) ∧ Drawn0 w w' := by
  have HR0 := Aside0.mk hr0
  have HC0 := Aside0.mk hc0
  clear hr0 hc0
  have H : ((ipwire_get16.f l0).bind fun t115 => (if 2 ≤ (l0.length : Int) then ((ipwire_get16.f (l0.drop 2)).bind fun t117 => (some (Go.bits .or .u32 ((((t115) % 4294967296) * 65536) % 4294967296) ((t117) % 4294967296)))) else (none))) = some r := h
  clear h
  replace H := Option.bind_eq_some_iff.mp H
  obtain ⟨t115, A20, H⟩ := H
  replace H : (if 2 ≤ (l0.length : Int) then ((ipwire_get16.f (l0.drop 2)).bind fun t117 => (some (Go.bits .or .u32 ((((t115) % 4294967296) * 65536) % 4294967296) ((t117) % 4294967296)))) else (none)) = some r := H
  have A2 := Aside0.mk A20
  clear A20
  by_cases c3 : 2 ≤ (l0.length : Int)
  · rw [if_pos c3] at H
    replace H := Option.bind_eq_some_iff.mp H
    obtain ⟨t117, A40, H⟩ := H
    replace H : (some (Go.bits .or .u32 ((((t115) % 4294967296) * 65536) % 4294967296) ((t117) % 4294967296))) = some r := H
    have A4 := Aside0.mk A40
    clear A40
    obtain rfl := Option.some.inj H
    clear H
    obtain ⟨i05, hi05, _, hsz5, _⟩ := info_parts info5
    obtain ⟨A5, hcut5, hA5, hC5⟩ := print_drop_of (P := Try.prog) (Value.int .u8) 0 24 5 .i64 Try.underlying24 hi05 hsz5 A0 c0 l0 2 (by omega) c3 HC0.out
    have HR116 : Aside0 (Kd.C (Kd.int .u8) w A5 (l0.drop 2).length (l0.drop 2)) := Aside0.mk (Kd.C_of_reads (h1 := fun _ => rfl) (hA5 _ (Kd.reads_of_C HR0.out)))
    have HC116 := Aside0.mk hC5
    have hc2 : ∀ W, Kd.C (Kd.int .u8) W A5 (l0.drop 2).length (l0.drop 2) → Calls Try.prog 22 #[.slice A5 (l0.length - 2) (c0 - 2)] W fun e w' => e = .returned (.int .i64 t117) ∧ Drawn0 W w' := fun W hr => by
      have h1 := ipwire_get16.calls A5 (c0 - 2) (l0.drop 2) t117 W hr hC5 A4.out
      rw [List.length_drop] at h1
      exact h1
    clear hA5 hC5 hi05 hsz5
    go_enter Try.func23, Try.ntmps23
    go_wp2
    go_region_with (first | (go_at_call 22; (with_reducible refine (ipwire_get16.calls _ _ l0 t115 _ ?s1 ?s2 A2.out).mono ?_); (case s1 => repeat (first | exact HR0.out | (with_reducible refine Kd.C_alloc ?_ _) | (with_reducible refine Kd.C_drewN ?_ _) | (with_reducible refine Kd.C_drew ?_))); (case s2 => exact HC0.out); rintro e w' ⟨rfl, ⟨nd, rfl⟩⟩) | (go_at_call 22; (with_reducible refine (hc2 _ ?s1).mono ?_); (case s1 => repeat (first | exact HR116.out | (with_reducible refine Kd.C_alloc ?_ _) | (with_reducible refine Kd.C_drewN ?_ _) | (with_reducible refine Kd.C_drew ?_))); rintro e w' ⟨rfl, ⟨nd2, rfl⟩⟩))
    all_goals
      go_wp2
      go_ret
      exact ⟨by first | rfl | (simp; done) | (simp [*]; done), by repeat (first | exact Drawn0.refl _ | apply Drawn0.step)⟩
  · rw [if_neg c3] at H
    exact absurd H (by simp)


end Go.Proofs.Ytghfljmoaalinaa.Q
