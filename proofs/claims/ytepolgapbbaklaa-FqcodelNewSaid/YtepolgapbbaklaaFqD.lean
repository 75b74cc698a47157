/- fqcodel: fattest and Enqueue walked. No condition. -/
import Derived.Test.YtepolgapbbaklaaFqC
namespace Go.Proofs.Ytepolgapbbaklaa.Q
set_option linter.unusedVariables false
set_option linter.unusedSimpArgs false
open Go.RowKit Go.Proofs.YtepolgapbbaklaaW.PrintWords Go.Proofs.YtepolgapbbaklaaW.PrintLast Go.Proofs.YtepolgapbbaklaaW.PrintMore
def fatGo (b : Nat → Int) : Nat → Nat → Nat → Nat
  | 0, _, f => f
  | d + 1, i, f => fatGo b d (i + 1) (if b f < b i then i else f)
set_option maxHeartbeats 8000000 in
set_option maxRecDepth 100000 in
theorem fattest_in {w W : World} {q fb N : Nat} {c : Cfg} {fs : Nat → Fl} {rv : Nat → Value} {v1 v2 : Value} {l1 l2 : List Nat} {n now : Int} (h : FQ w W q fb N c fs rv v1 v2 l1 l2 n now) (hN : 0 < N) (hM : N ≤ 1024) :
    Calls Try.prog 22 #[.pointer (some ⟨q, 0, none⟩)] W fun e W' => e = .returned (.pointer (some ⟨fb, fatGo (fun i => (fs i).bytes) N 0 0 * 11, none⟩)) ∧ Below W.heap.size W W' := by
  have hu := Try.underlying66
  have hu73 := Try.underlying73
  obtain ⟨R, hR⟩ : ∃ R, fatGo (fun i => (fs i).bytes) N 0 0 = R := ⟨_, rfl⟩
  rw [hR]
  have HQ := Aside0.mk hR
  have HH := Aside0.mk h
  have HM := Aside0.mk hM
  have HN := Aside0.mk hN
  have z6 := (h.zq 6).1.trans (show _ = some (.slice (some ⟨fb, 0, none⟩) N N) from rfl)
  have d0 : (0 : Int) < (N : Int) := by omega
  clear h hR hM
  go_enter Try.func22, Try.ntmps22
  go_wp2
  go_loopw [3, 15] (fun v3 v15 wr => ∃ j f : Nat, j ≤ N ∧ f < N ∧ v3 = .pointer (some ⟨fb, f * 11, none⟩) ∧ v15 = .int .i64 (j : Int) ∧ fatGo (fun i => (fs i).bytes) (N - j) j f = R ∧ Below W.heap.size W wr) (fun _ v15 _ => N - (intOf v15).toNat)
  case atStart => exact ⟨0, 0, Nat.zero_le _, HN.out, by simp, rfl, HQ.out, Below.refl _ _⟩
  case round =>
    obtain ⟨j, f, hj, hf, rfl, rfl, hR, hB⟩ := hrel
    have HB := Aside0.mk hB
    clear z6
    have z6 : wr.cell? ⟨q, 6, none⟩ = some (.slice (some ⟨fb, 0, none⟩) N N) := ((FQ.zq (FR.step HH.out hB) 6).1).trans rfl
    by_cases hlt : j < N
    · have i0 : (0 : Int) ≤ (j : Int) := by omega
      have i1 : (j : Int) < (N : Int) := by omega
      have zj : wr.cell? ⟨fb, j * 11 + 2, none⟩ = some (.int .i64 (fs j).bytes) := ((FQ.zf (FR.step HH.out hB) hlt 2 (by omega)).1).trans rfl
      have zf : wr.cell? ⟨fb, f * 11 + 2, none⟩ = some (.int .i64 (fs f).bytes) := ((FQ.zf (FR.step HH.out hB) hf 2 (by omega)).1).trans rfl
      obtain ⟨d, hd⟩ : ∃ d, N - j = d + 1 := ⟨N - j - 1, by omega⟩
      rw [hd] at hR
      simp only [fatGo] at hR
      have HR := Aside0.mk hR
      have HF := Aside0.mk hf
      have HD := Aside0.mk hd
      clear hB hR hf hd hj
      by_cases cb : (fs f).bytes < (fs j).bytes
      · have e := HR.out
        rw [if_pos cb] at e
        have HE := Aside0.mk e
        have cbt : decide ((fs f).bytes < (fs j).bytes) = true := decide_eq_true cb
        clear e HR cb
        go_wp2
        go_region
        have z7 : wr.drew.cell? ⟨q, 6, none⟩ = some (.slice (some ⟨fb, 0, none⟩) N N) := z6
        have hw : IntKind.i64.wrap ((j : Int) + 1) = (j : Int) + 1 := by
          have := HM.out
          rw [i64_w]
          unfold wrap64
          omega
        go_wp2
        go_roundw
        case rel => exact ⟨j + 1, j, by omega, hlt, rfl, by go_num, by rw [show N - (j + 1) = d by have := HD.out; omega]; exact HE.out, below_drew HB.out⟩
        case measure => simp [intOf]; omega
      · have e := HR.out
        rw [if_neg cb] at e
        have HE := Aside0.mk e
        have cbt : decide ((fs f).bytes < (fs j).bytes) = false := decide_eq_false cb
        clear e HR cb
        go_wp2
        go_region
        have hw : IntKind.i64.wrap ((j : Int) + 1) = (j : Int) + 1 := by
          have := HM.out
          rw [i64_w]
          unfold wrap64
          omega
        go_wp2
        go_roundw
        case rel => exact ⟨j + 1, f, by omega, HF.out, rfl, by go_num, by rw [show N - (j + 1) = d by have := HD.out; omega]; exact HE.out, below_drew HB.out⟩
        case measure => simp [intOf]; omega
    · have e : N - j = 0 := by omega
      rw [e] at hR
      have hR : f = R := hR
      subst hR
      have i1 : ¬ (j : Int) < (N : Int) := by omega
      go_wp2
      go_ret
      exact ⟨rfl, HB.out⟩
end Go.Proofs.Ytepolgapbbaklaa.Q
