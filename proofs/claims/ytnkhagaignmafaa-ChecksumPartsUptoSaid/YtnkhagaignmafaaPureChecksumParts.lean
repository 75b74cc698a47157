/- The plain law of ChecksumParts: the sum of two texts, one behind the other, is their sums, added, if the first one's length is even. Numbers and lists alone. No condition. -/
import Derived.Test.YtnkhagaignmafaaSums
namespace Go.Proofs.Ytnkhagaignmafaa.Pure
open Go.RowKit Go.Proofs.Ytnkhagaignmafaa.Q Go.Proofs.YtnkhagaignmafaaW.PrintWords Go.Proofs.YtnkhagaignmafaaW.PrintLast Go.Proofs.YtnkhagaignmafaaW.PrintMore Go.Proofs.YtnkhagaignmafaaW.Arith Go.Proofs.YtnkhagaignmafaaW.Opened

theorem wsum_append : ∀ (a b : List Int), a.length % 2 = 0 → wsum (a ++ b) = wsum a + wsum b
  | [], b, _ => by simp [wsum]
  | [x], b, h => by simp at h
  | x :: y :: r, b, h => by
    have hr : r.length % 2 = 0 := by simp only [List.length_cons] at h; omega
    simp only [List.cons_append, wsum, wsum_append r b hr]
    omega
theorem copy_tells (l : List Int) (hl : l.length ≤ 140737488351232) : stopcockplain_CopyBytes.f l = some l := by
  unfold stopcockplain_CopyBytes.f
  rw [if_pos (by simp; omega)]
  rfl
theorem ChecksumParts : stopcocklaw02_ChecksumParts.Pure := by
  intro a b ha hal hb hbl
  have hA : Oct a := fun x hx => wf_u8 (ha.2 x hx)
  have hB : Oct b := fun x hx => wf_u8 (hb.2 x hx)
  have main : ∀ (K : Nat) (c : List Int), 2000 ≤ K → Oct c → c.length ≤ 1048577 → c.length % 2 = 0 → ∃ s t u, checksum_Sum.f K (c ++ b) = some s ∧ checksum_Sum.f K c = some t ∧ checksum_Sum.f K b = some u ∧ checksum_Add.f K t u = some s := by
    intro K c hK hc hcl he
    have w1 := (wsum_range hc).1
    have w2 := (wsum_range hB).1
    refine ⟨_, _, _, sum_tells K (by omega) _ (hc.append hB) (by simp; omega), sum_tells K (by omega) c hc (by omega), sum_tells K (by omega) b hB (by omega), ?_⟩
    rw [add_tells K (by omega) _ _ (fv_range w1) (fv_range w2), fv_add w1 (fv_range w2).1, fv_add' w1 w2, wsum_append c b he]
  refine ⟨3000, ?_⟩
  obtain ⟨K, hK, hK'⟩ : ∃ K : Nat, K = 3000 ∧ 2000 ≤ K := ⟨3000, rfl, by omega⟩
  rw [← hK]
  clear hK
  unfold stopcocklaw02_ChecksumParts.f
  rw [alive_tells K (by omega), Option.bind_some, if_pos rfl]
  by_cases hp : ((a.length : Int) % 2) = 1
  · have hA1 : Oct (a ++ [0]) := hA.append (by intro x hx; simp at hx; omega)
    have hlen : (a ++ [0]).length = a.length + 1 := by simp
    obtain ⟨s, t, u, h1, h2, h3, h4⟩ := main K (a ++ [0]) hK' hA1 (by omega) (by omega)
    rw [if_pos hp, copy_tells a (by omega), Option.bind_some, if_pos (by omega), Option.bind_some, copy_tells (a ++ [0]) (by omega), Option.bind_some, if_pos (by omega), h1, h2, h3, Option.bind_some, Option.bind_some, Option.bind_some, h4, Option.bind_some]
    simp
  · obtain ⟨s, t, u, h1, h2, h3, h4⟩ := main K a hK' hA (by omega) (by omega)
    rw [if_neg hp, copy_tells a (by omega), Option.bind_some, if_pos (by omega), h1, h2, h3, Option.bind_some, Option.bind_some, Option.bind_some, h4, Option.bind_some]
    simp
end Go.Proofs.Ytnkhagaignmafaa.Pure
