/- What the bound of an '..UptoSaid' gives of a slice among the arguments. No condition. -/
import Derived.Test.YtghfljmoaalinaaRows
import Derived.Test.YtghfljmoaalinaaOpen
namespace Go.Proofs.Ytghfljmoaalinaa.Bulk
theorem one_le {H : Type} (d : DataW H) : 1 ≤ Rows.uptoBulk d := by
  cases d with
  | lit l => cases l <;> simp [Rows.uptoBulk]
  | nil => simp [Rows.uptoBulk]
  | ptr d => simp [Rows.uptoBulk]
  | slice elems spare => simp [Rows.uptoBulk]
  | agg parts => simp [Rows.uptoBulk]
  | iface t d => simp [Rows.uptoBulk]
  | map entries => simp [Rows.uptoBulk]
  | held h => simp [Rows.uptoBulk]
theorem part_le {H : Type} {d : DataW H} {l : List (DataW H)} (h : d ∈ l) : Rows.uptoBulk d ≤ Rows.uptoBulkAll l := by
  induction l with
  | nil => cases h
  | cons x r ih =>
    simp only [Rows.uptoBulkAll]
    cases List.mem_cons.1 h with
    | inl e => subst e; omega
    | inr e => have := ih e; omega
theorem length_le {H : Type} (l : List (DataW H)) : l.length ≤ Rows.uptoBulkAll l := by
  induction l with
  | nil => simp [Rows.uptoBulkAll]
  | cons x r ih => have := one_le x; simp only [Rows.uptoBulkAll, List.length_cons]; omega
theorem slice_len {H : Type} {enc : TypeId × Value → H} {P : Program} {W : World} {spare : Nat → Bool} {held : Bool} {T e : TypeId} {A : Option Addr} {n c : Nat} {D : DataW H} {ps : List MemPlace} {l : List (DataW H)}
    (hk : Rows.uptoSmall H l = true) (hm : D ∈ l) (hu : P.underlying T = some (.slice e)) (h : DataW.Trod enc P W 0 spare held T (.slice A n c) D ps) : n ≤ 1048576 := by
  have hb : Rows.uptoBulkAll l ≤ 1048576 := of_decide_eq_true hk
  have h1 := part_le hm
  obtain ⟨fuel, hf⟩ := h
  rcases DataW.trod_slice hu hf with ⟨he, _⟩ | ⟨a, len, cap, elems, rest, m, _, he, hx, _, _, _, hlen, _⟩
  · simp [Value.cells] at he
    omega
  · simp [Value.cells] at he
    have hD : D = .slice (elems.map (·.1)) (rest.map (·.1)) := (Prod.mk.inj hx).1
    rw [hD] at h1
    have h2 := length_le (elems.map (·.1))
    rw [List.length_map, hlen] at h2
    simp only [Rows.uptoBulk] at h1
    omega
end Go.Proofs.Ytghfljmoaalinaa.Bulk
