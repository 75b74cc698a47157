/- The plain law of RoutesPlays: what is read is in range. No condition. -/
import Derived.Test.YtpjelffgakgjaaaQ4
import Derived.Test.YtpjelffgakgjaaaOpen
namespace Go.Proofs.Ytpjelffgakgjaaa.Pure
open Go.RowKit Go.Proofs.Ytpjelffgakgjaaa.Q Go.Proofs.YtpjelffgakgjaaaW.PrintWords Go.Proofs.YtpjelffgakgjaaaW.PrintLast Go.Proofs.YtpjelffgakgjaaaW.Opened
theorem RoutesPlays : stopcocklaw10_RoutesPlays.Pure := by
  intro l hl
  unfold stopcocklaw10_RoutesPlays.f
  refine if_pos (fun x hx => ?_)
  have h := (hl.2 x hx).2
  obtain ⟨a, b⟩ := wf_u32 h.1
  obtain ⟨c, d⟩ := wf_i64 h.2.1
  exact ⟨⟨a, by omega⟩, by omega, by omega⟩
end Go.Proofs.Ytpjelffgakgjaaa.Pure
