/- The plain law of ChecksumAdds: adding hangs on no order, and 0 and 65535 are its only silent ones. Numbers alone. No condition. -/
import Derived.Test.YtnkhagaignmafaaSums
namespace Go.Proofs.Ytnkhagaignmafaa.Pure
open Go.RowKit Go.Proofs.Ytnkhagaignmafaa.Q Go.Proofs.YtnkhagaignmafaaW.PrintWords Go.Proofs.YtnkhagaignmafaaW.PrintLast Go.Proofs.YtnkhagaignmafaaW.PrintMore Go.Proofs.YtnkhagaignmafaaW.Arith Go.Proofs.YtnkhagaignmafaaW.Opened

theorem ChecksumAdds : stopcocklaw02_ChecksumAdds.Pure := by
  intro a b c ha hb hc
  replace ha := wf_u16 ha
  replace hb := wf_u16 hb
  replace hc := wf_u16 hc
  refine ⟨2000, ?_⟩
  obtain ⟨K, hK, hK'⟩ : ∃ K : Nat, K = 2000 ∧ 1101 ≤ K := ⟨2000, rfl, by omega⟩
  rw [← hK]
  clear hK
  obtain ⟨K, rfl⟩ : ∃ m, K = m + 1 := ⟨K - 1, by omega⟩
  unfold stopcocklaw02_ChecksumAdds.f
  have hab := fv_range (n := a + b) (by omega)
  have hbc := fv_range (n := b + c) (by omega)
  rw [alive_tells _ (by omega), Option.bind_some, if_pos rfl, add_tells _ (by omega) a b ha hb, add_tells _ (by omega) b a hb ha, Option.bind_some, Option.bind_some, Int.add_comm b a, if_pos rfl, Option.bind_some,
    add_tells _ (by omega) _ c hab hc, add_tells _ (by omega) b c hb hc, Option.bind_some, Option.bind_some, add_tells _ (by omega) a _ ha hbc, Option.bind_some, fv_add (by omega) (by omega), fv_add' (by omega) (by omega)]
  have e : (fv (a + b + c) != fv (a + (b + c))) = false := by rw [Int.add_assoc]; simp
  rw [e]
  simp only [stopcocklaw02_ChecksumAdds.j0, Bool.false_eq_true, if_false]
  rw [add_tells K (by omega) a 0 ha (by omega), Option.bind_some, Int.add_zero, fv_small ha.1 ha.2, if_pos rfl]
  by_cases hz : a = 0
  · rw [if_pos hz]
  · rw [if_neg hz, add_tells K (by omega) a 65535 ha (by omega), Option.bind_some]
    have : fv (a + 65535) = a := by unfold fv; rw [if_neg (by omega)]; omega
    rw [this]
    simp
end Go.Proofs.Ytnkhagaignmafaa.Pure
