/- The plain law of IpwireOwn: what was answered stays when what was handed in is spoilt. Numbers and lists alone. No condition. -/
import Derived.Test.YtghfljmoaalinaaIpSame
import Derived.Test.YtghfljmoaalinaaQ12
namespace Go.Proofs.Ytghfljmoaalinaa.Pure
open Go.RowKit Go.Proofs.Ytghfljmoaalinaa.Q Go.Proofs.YtghfljmoaalinaaW.PrintWords Go.Proofs.YtghfljmoaalinaaW.PrintLast Go.Proofs.YtghfljmoaalinaaW.PrintMore Go.Proofs.YtghfljmoaalinaaW.Arith Go.Proofs.YtghfljmoaalinaaW.Opened

theorem spoil_go (d : Nat) : ∀ (k : Nat) (l : List Int) (i : Int), l.length ≤ 140737488355327 → 0 ≤ i → i ≤ l.length → (l.length : Int) - i = d → d < k → ∃ r, stopcockplain_Spoil.l0 k l i = some r := by
  induction d with
  | zero =>
    intro k l i hl h0 h1 hd hk
    obtain ⟨k, rfl⟩ : ∃ m, k = m + 1 := ⟨k - 1, by omega⟩
    simp only [stopcockplain_Spoil.l0]
    rw [if_neg (by omega)]
    exact ⟨_, rfl⟩
  | succ d ih =>
    intro k l i hl h0 h1 hd hk
    obtain ⟨k, rfl⟩ : ∃ m, k = m + 1 := ⟨k - 1, by omega⟩
    simp only [stopcockplain_Spoil.l0]
    rw [if_pos (by omega), if_pos h0, w64 (by omega) (by omega)]
    exact ih k _ (i + 1) (by rw [List.length_set]; exact hl) (by omega) (by rw [List.length_set]; omega) (by rw [List.length_set]; omega) (by omega)
theorem spoil_tells (k : Nat) (l : List Int) (hl : l.length ≤ 140737488355327) (hk : l.length < k) : ∃ r, stopcockplain_Spoil.f k l = some r := by
  unfold stopcockplain_Spoil.f
  exact spoil_go l.length k l 0 hl (by omega) (by omega) (by omega) hk
theorem oct16 {L : List Int} (h : Oct L) (lo : Nat) (a : Int) : Oct (put16v L lo a) := by
  unfold put16v
  exact (h.set lo _ (by omega) (by omega)).set (lo + 1) _ (by omega) (by omega)
theorem oct32 {L : List Int} (h : Oct L) (lo : Nat) (a : Int) : Oct (put32v L lo a) := by
  unfold put32v
  exact oct16 (oct16 h lo _) (lo + 2) _
theorem iHead_oct (a0 a1 a2 : Int) (l : List Int) (h0 : 0 ≤ a0 ∧ a0 ≤ 255) (h1 : 0 ≤ a1 ∧ a1 ≤ 255) (h : Oct l) : Oct (iHead a0 a1 a2 l) := by
  unfold iHead
  refine Oct.append (oct32 (Oct.set (Oct.set ?_ 0 a0 h0.1 h0.2) 1 a1 h1.1 h1.2) 4 a2) h
  intro x hx
  have := List.eq_of_mem_replicate hx
  omega
theorem iHead_len (a0 a1 a2 : Int) (l : List Int) : (iHead a0 a1 a2 l).length = 8 + l.length := by
  unfold iHead
  rw [List.length_append, put32v_length, List.length_set, List.length_set, List.length_replicate]
theorem icmp_tells (k : Nat) (hk : 6 ≤ k) (a0 a1 a2 : Int) (l : List Int) (h0 : 0 ≤ a0 ∧ a0 ≤ 255) (h1 : 0 ≤ a1 ∧ a1 ≤ 255) (h : Oct l) (hl : l.length ≤ 140737488351232) : ∃ c e, ipwire_BuildIcmp.f k a0 a1 a2 l = some (c, e) ∧ c.length ≤ 65535 := by
  unfold ipwire_BuildIcmp.f
  by_cases c1 : l.length ≤ 65527
  · rw [if_pos c1, check_tells k hk _ (iHead_oct a0 a1 a2 l h0 h1 h) (by rw [iHead_len]; omega), Option.bind_some]
    exact ⟨_, _, rfl, by rw [put16v_length, iHead_len]; omega⟩
  · rw [if_neg c1, if_pos hl]
    exact ⟨_, _, rfl, by simp⟩
theorem IpwireOwn : stopcocklaw04_IpwireOwn.Pure := by
  intro a0 a1 a2 a3 a4 a5 a6 a7 a8 o d m0 m1 m2 m hw hw'
  obtain ⟨h0, h1, _, _, h4, h5, h6, h7, h8, ho, hd⟩ := hw
  obtain ⟨g0, g1, g2, hm⟩ := hw'
  have h0 := wf_u8 h0
  have h1 := wf_u16 h1
  have h5 := wf_u8 h5
  have h6 := wf_u8 h6
  have h7 := wf_u32 h7
  have h8 := wf_u32 h8
  have g0 := wf_u8 g0
  have g1 := wf_u8 g1
  have hO : Oct o := fun x hx => wf_u8 (ho.2 x hx)
  have hD : Oct d := fun x hx => wf_u8 (hd.2 x hx)
  have hM : Oct m := fun x hx => wf_u8 (hm.2 x hx)
  have hol : o.length * 1 ≤ 140737488351232 := ho.1
  have hdl : d.length * 1 ≤ 140737488351232 := hd.1
  have hml : m.length * 1 ≤ 140737488351232 := hm.1
  refine ⟨70000 + o.length + d.length + m.length, ?_⟩
  obtain ⟨K, hK, hK'⟩ : ∃ K : Nat, K = 70000 + o.length + d.length + m.length ∧ 70000 + o.length + d.length + m.length ≤ K := ⟨_, rfl, Nat.le_refl _⟩
  rw [← hK]
  clear hK
  unfold stopcocklaw04_IpwireOwn.f stopcockplain_CopyIP.f
  rw [alive_tells K (by omega), Option.bind_some, if_pos rfl, copy_tells o (by omega), Option.bind_some, copy_tells d (by omega), Option.bind_some, Option.bind_some]
  simp only []
  obtain ⟨o', hos⟩ := spoil_tells K o (by omega) (by omega)
  obtain ⟨d', hds⟩ := spoil_tells K d (by omega) (by omega)
  obtain ⟨m', hms⟩ := spoil_tells K m (by omega) (by omega)
  rcases chk_ok K (by omega) a0 a1 a2 a3 a4 a5 a6 a7 a8 o d (by omega) (by omega) with ⟨hc, c1, c2, c3, c4, c5, c6⟩ | ⟨e, he, hne, _⟩
  · rw [build_ok K (by omega) a0 a1 a2 a3 a4 a5 a6 a7 a8 o d h0 h1 ⟨c1, c2⟩ h5 h6 h7 h8 hO c4 c5 c6 hc, Option.bind_some]
    have hl := out_len a0 a1 a2 a3 a4 a5 a6 a7 a8 o d
    have hp := parse_out K (by omega) a0 a1 a2 a3 a4 a5 a6 a7 a8 o d [] h0 h1 ⟨c1, c2⟩ c3 h5 h6 h7 h8 hO hD (fun x hx => absurd hx (by simp)) c4 c5 c6 (by simp)
    rw [List.append_nil] at hp
    obtain ⟨b', hbs⟩ := spoil_tells K (out a0 a1 a2 a3 a4 a5 a6 a7 a8 o d) (by omega) (by omega)
    simp only [stopcocklaw04_num.f, Option.bind_some]
    rw [copy_tells _ (by omega), Option.bind_some, hds, Option.bind_some, hos, Option.bind_some, if_pos trivial, same_tells _ (by omega) K (by omega), Option.bind_some, if_pos rfl, hp, Option.bind_some, hbs, Option.bind_some, copy_tells m (by omega), Option.bind_some]
    obtain ⟨c, e, hi, hcl⟩ := icmp_tells K (by omega) m0 m1 m2 m g0 g1 hM (by omega)
    rw [hi, Option.bind_some]
    simp only []
    rw [copy_tells c (by omega), Option.bind_some, hms, Option.bind_some, sameIP_refl K a0 a1 a2 a3 a4 a5 a6 a7 a8 o d (by omega) (by omega) (by omega) (by omega), Option.bind_some, if_pos rfl]
    obtain ⟨K, rfl⟩ : ∃ j, K = j + 1 := ⟨K - 1, by omega⟩
    by_cases ce : e = 0
    · rw [if_pos ce, same_tells c (by omega) (K + 1) (by omega), Option.bind_some]
      rfl
    · rw [if_neg ce]
      rfl
  · unfold ipwire_Build.f
    rw [he, Option.bind_some, if_neg hne, Option.bind_some]
    simp only [stopcocklaw04_num.f, Option.bind_some]
    rw [copy_tells [] (by simp), Option.bind_some, hds, Option.bind_some, hos, Option.bind_some, if_neg hne]
    rfl
end Go.Proofs.Ytghfljmoaalinaa.Pure
