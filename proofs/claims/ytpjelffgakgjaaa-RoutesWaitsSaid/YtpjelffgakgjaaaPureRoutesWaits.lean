/- The plain law of RoutesWaits: lists are the same as themselves. No condition. -/
import Derived.Test.YtpjelffgakgjaaaQ8
import Derived.Test.YtpjelffgakgjaaaOpen
import Derived.Test.YtpjelffgakgjaaaArith
namespace Go.Proofs.Ytpjelffgakgjaaa.Pure
open Go.RowKit Go.Proofs.Ytpjelffgakgjaaa.Q Go.Proofs.YtpjelffgakgjaaaW.PrintWords Go.Proofs.YtpjelffgakgjaaaW.PrintLast Go.Proofs.YtpjelffgakgjaaaW.Opened Go.Proofs.YtpjelffgakgjaaaW.Arith
theorem bytes_go (l : List Int) (hn : l.length ≤ 65535) : ∀ (d k : Nat) (i : Int), 0 ≤ i → i + d = l.length → d < k → stopcockplain_SameBytes.l0 k l l i = some true := by
  intro d
  induction d with
  | zero =>
    intro k i h0 h1 hk
    obtain ⟨k, rfl⟩ : ∃ m, k = m + 1 := ⟨k - 1, by omega⟩
    simp only [stopcockplain_SameBytes.l0]
    rw [if_neg (by omega)]
  | succ d ih =>
    intro k i h0 h1 hk
    obtain ⟨k, rfl⟩ : ∃ m, k = m + 1 := ⟨k - 1, by omega⟩
    simp only [stopcockplain_SameBytes.l0]
    rw [if_pos (by omega), if_pos h0, if_pos (by omega), if_pos trivial, w64 (by omega) (by omega)]
    exact ih k (i + 1) (by omega) (by omega) (by omega)
theorem bytes_self (k : Nat) (l : List Int) (hn : l.length ≤ 65535) (hk : 65535 < k) : stopcockplain_SameBytes.f k l l = some true := by
  unfold stopcockplain_SameBytes.f
  rw [if_pos rfl]
  exact bytes_go l hn l.length k 0 (by omega) (by omega) (by omega)
theorem lists_go (F : List (List Int)) (hF : F.length ≤ 4) (hx : ∀ x ∈ F, x.length ≤ 65535) : ∀ (d k : Nat) (i : Int), 0 ≤ i → i + d = F.length → d + 65536 < k → stopcockplain_SameLists.l0 k F F i = some true := by
  intro d
  induction d with
  | zero =>
    intro k i h0 h1 hk
    obtain ⟨k, rfl⟩ : ∃ m, k = m + 1 := ⟨k - 1, by omega⟩
    simp only [stopcockplain_SameLists.l0]
    rw [if_neg (by omega)]
  | succ d ih =>
    intro k i h0 h1 hk
    obtain ⟨k, rfl⟩ : ∃ m, k = m + 1 := ⟨k - 1, by omega⟩
    simp only [stopcockplain_SameLists.l0]
    have hm : rd_L6 F i ∈ F := by
      unfold rd_L6
      rw [List.getD_eq_getElem?_getD, List.getElem?_eq_getElem (by omega)]
      exact List.getElem_mem _
    rw [if_pos (by omega), if_pos h0, if_pos (by omega), bytes_self k _ (hx _ hm) (by omega)]
    simp only [Option.bind_some, if_true]
    rw [w64 (by omega) (by omega)]
    exact ih k (i + 1) (by omega) (by omega) (by omega)
theorem lists_self (F : List (List Int)) (hF : F.length ≤ 4) (hx : ∀ x ∈ F, x.length ≤ 65535) : stopcockplain_SameLists.f 100000 F F = some true := by
  unfold stopcockplain_SameLists.f
  rw [if_pos rfl]
  exact lists_go F hF hx F.length 100000 0 (by omega) (by omega) (by omega)
theorem RoutesWaits : stopcocklaw10_RoutesWaits.Pure := by
  intro ip mac l hip hmac hl
  unfold stopcocklaw10_RoutesWaits.f
  obtain ⟨a, b⟩ := wf_u32 hip
  obtain ⟨c, d⟩ := wf_u64 hmac
  refine if_pos ⟨⟨a, by omega⟩, c, hl.1, lists_self _ (last4_len _) (fun x hx => ?_)⟩
  have h1 : x ∈ keptOf l := List.mem_of_mem_drop hx
  unfold keptOf at h1
  rw [List.mem_filter] at h1
  exact of_decide_eq_true h1.2
end Go.Proofs.Ytpjelffgakgjaaa.Pure
