/- The plain law of RoutesLongest: the longest route counts. No condition. -/
import Derived.Test.YtpjelffgakgjaaaQ2
import Derived.Test.YtpjelffgakgjaaaRoutesL
import Derived.Test.YtpjelffgakgjaaaOpen
import Derived.Test.YtpjelffgakgjaaaArith
import Derived.Laws.BitsLemmas
namespace Go.Proofs.Ytpjelffgakgjaaa.Pure
open Go.RowKit Go.Proofs.Ytpjelffgakgjaaa.Q Go.Proofs.YtpjelffgakgjaaaW.PrintWords Go.Proofs.YtpjelffgakgjaaaW.PrintLast Go.Proofs.YtpjelffgakgjaaaW.MapIs Go.Proofs.YtpjelffgakgjaaaW.Opened Go.Proofs.YtpjelffgakgjaaaW.Arith
theorem masks : ∀ b : Fin 33, Q.mk (b.val : Int) = m64 (b.val : Int) ∧ 0 ≤ Q.mk (b.val : Int) ∧ Q.mk (b.val : Int) < 4294967296 := by decide +kernel
theorem mask_eq (b : Nat) (h : b ≤ 32) : Q.mk (b : Int) = m64 (b : Int) ∧ 0 ≤ Q.mk (b : Int) ∧ Q.mk (b : Int) < 4294967296 := masks ⟨b, by omega⟩
theorem and_kinds {x y : Int} (h0 : 0 ≤ x) (h1 : x < 4294967296) (h2 : 0 ≤ y) (h3 : y < 4294967296) : bits .and .u64 x y = bits .and .u32 x y := by
  obtain ⟨a, rfl⟩ := Int.eq_ofNat_of_zero_le h0
  obtain ⟨b, rfl⟩ := Int.eq_ofNat_of_zero_le h2
  have e1 := (bits_nat .u64 32 (by decide) (fun n g0 g1 => u64i g0 (by rw [show (2 : Int) ^ 32 = 4294967296 from by decide] at g1; omega)) a b (by omega) (by omega)).1
  have e2 := (bits_nat .u32 32 (by decide) (fun n g0 g1 => by rw [u32w]; rw [show (2 : Int) ^ 32 = 4294967296 from by decide] at g1; omega) a b (by omega) (by omega)).1
  rw [e1, e2]
theorem getM_append {α β : Type} [DecidableEq α] (L : List (α × β)) (p : α × β) (k : α) : getM (L ++ [p]) k = match getM L k with | some v => some v | none => if p.1 = k then some p.2 else none := by
  induction L with
  | nil => simp [getM]
  | cons q r ih =>
    simp only [List.cons_append, getM]
    split
    · rfl
    · exact ih
theorem nextR_none (L : List ((Int × Int) × Int)) (ip : Int) : ∀ n : Nat, (∀ b : Nat, b < n → getM L (bits .and .u32 ip (Q.mk (b : Int)), (b : Int)) = none) → nextR L ip n = (0, 101)
  | 0, _ => rfl
  | n + 1, h => by
    simp only [nextR, h n (by omega)]
    exact nextR_none L ip n (fun b hb => h b (by omega))
theorem nextR_some (L : List ((Int × Int) × Int)) (ip g : Int) (b : Nat) (hg : getM L (bits .and .u32 ip (Q.mk (b : Int)), (b : Int)) = some g) : ∀ n : Nat, b < n → (∀ c : Nat, b < c → c < n → getM L (bits .and .u32 ip (Q.mk (c : Int)), (c : Int)) = none) → nextR L ip n = (if g = 0 then ip else g, 0)
  | 0, h, _ => by omega
  | n + 1, h, hc => by
    by_cases e : n = b
    · subst e
      simp only [nextR, hg]
    · simp only [nextR, hc n (by omega) (by omega)]
      exact nextR_some L ip g b hg n (by omega) (fun c h1 h2 => hc c h1 (by omega))
structure J (ip : Int) (s : LSt) : Prop where
  a : ∀ b : Nat, b ≤ 32 → s.best < b → getM s.L (bits .and .u32 ip (Q.mk (b : Int)), (b : Int)) = none
  f : s.any = false → s.best = -1
  t : s.any = true → ∃ b : Nat, b ≤ 32 ∧ s.best = b ∧ ∃ g, getM s.L (bits .and .u32 ip (Q.mk (b : Int)), (b : Int)) = some g ∧ s.way = (if g = 0 then ip else g)
theorem J.step {ip : Int} (h0 : 0 ≤ ip) (h1 : ip < 4294967296) {s : LSt} (h : J ip s) (x : S32) : J ip (longStep ip s x) := by
  unfold longStep
  by_cases c1 : x.f1 < 0 ∨ 32 < x.f1
  · rw [if_pos c1]; exact h
  rw [if_neg c1]
  by_cases c2 : (addR s.L x.f0 x.f1 x.f2 (Q.mk x.f1)).2 ≠ 0
  · rw [if_pos c2]; exact h
  rw [if_neg c2]
  obtain ⟨bt, hbt⟩ : ∃ bt : Nat, x.f1 = bt := ⟨x.f1.toNat, by omega⟩
  have hb32 : bt ≤ 32 := by omega
  obtain ⟨m1, m2, m3⟩ := mask_eq bt hb32
  have hadd : addR s.L x.f0 x.f1 x.f2 (Q.mk x.f1) = (s.L ++ [((x.f0, x.f1), x.f2)], 0) ∧ getM s.L (x.f0, x.f1) = none := by
    unfold addR at c2 ⊢
    by_cases d1 : bits .andNot .u32 x.f0 (Q.mk x.f1) ≠ 0
    · rw [if_pos d1] at c2; exact absurd (show (1 : Int) ≠ 0 by decide) c2
    rw [if_neg d1] at c2 ⊢
    by_cases d2 : (getM s.L (x.f0, x.f1)).isSome = true
    · rw [if_pos d2] at c2; exact absurd (show (6 : Int) ≠ 0 by decide) c2
    rw [if_neg d2] at c2 ⊢
    by_cases d3 : 256 ≤ s.L.length
    · rw [if_pos d3] at c2; exact absurd (show (81 : Int) ≠ 0 by decide) c2
    rw [if_neg d3]
    refine ⟨rfl, ?_⟩
    cases hg : getM s.L (x.f0, x.f1) with
    | none => rfl
    | some v => rw [hg] at d2; exact absurd rfl d2
  rw [hadd.1]
  have hnone := hadd.2
  dsimp only
  rw [hbt] at hnone ⊢
  rw [← m1, and_kinds h0 h1 m2 m3]
  by_cases c3 : bits .and .u32 ip (Q.mk (bt : Int)) = x.f0 ∧ s.best < (bt : Int)
  · rw [if_pos c3]
    refine ⟨fun b hb hlt => ?_, fun e => (by cases e), fun _ => ⟨bt, hb32, rfl, x.f2, ?_, rfl⟩⟩
    · have hlt' : (bt : Int) < (b : Int) := hlt
      rw [getM_append, h.a b hb (by omega)]
      dsimp only
      rw [if_neg (fun e => by have := (Prod.mk.inj e).2; omega)]
    · rw [getM_append, c3.1, hnone]
      dsimp only
      rw [if_pos rfl]
  · rw [if_neg c3]
    refine ⟨fun b hb hlt => ?_, h.f, fun e => ?_⟩
    · have hlt' : s.best < (b : Int) := hlt
      rw [getM_append, h.a b hb hlt']
      dsimp only
      rw [if_neg (fun e => c3 ?_)]
      obtain ⟨e1, e2⟩ := Prod.mk.inj e
      have e3 : bt = b := by omega
      subst e3
      exact ⟨e1.symm, hlt'⟩
    · obtain ⟨b, hb, e1, g, hg, hw⟩ := h.t e
      exact ⟨b, hb, e1, g, by rw [getM_append, hg], hw⟩
theorem J.all {ip : Int} (h0 : 0 ≤ ip) (h1 : ip < 4294967296) : ∀ (l : List S32) (s : LSt), J ip s → J ip (l.foldl (longStep ip) s)
  | [], _, h => h
  | x :: l, _, h => J.all h0 h1 l _ (h.step h0 h1 x)
theorem RoutesLongest : stopcocklaw10_RoutesLongest.Pure := by
  intro l ip hl hip
  obtain ⟨h0, h1⟩ := wf_u32 hip
  unfold stopcocklaw10_RoutesLongest.f
  have hj : J ip (longEnd l ip) := J.all h0 (by omega) l _ ⟨fun _ _ _ => rfl, fun _ => rfl, fun e => (by cases e)⟩
  refine if_pos ⟨⟨h0, by omega⟩, fun x hx => ?_, fun e => ?_, fun e => ?_⟩
  · obtain ⟨a, b⟩ := wf_u32 (hl.2 x hx).1
    exact ⟨a, by omega⟩
  · exact nextR_none _ _ _ (fun b hb => hj.a b (by omega) (by rw [hj.f e]; omega))
  · obtain ⟨b, hb, e1, g, hg, hw⟩ := hj.t e
    rw [hw]
    exact nextR_some _ _ g b hg 33 (by omega) (fun c h2 h3 => hj.a c (by omega) (by rw [e1]; omega))
end Go.Proofs.Ytpjelffgakgjaaa.Pure
