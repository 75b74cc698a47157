/- The plain law of IpwireFinds: one bit of a header turned (but of its own length) is told: it is read as no packet. Numbers and lists alone. No condition. -/
import Derived.Test.YtghfljmoaalinaaIp
import Derived.Test.YtghfljmoaalinaaQ13
namespace Go.Proofs.Ytghfljmoaalinaa.Pure
open Go.RowKit Go.Proofs.Ytghfljmoaalinaa.Q Go.Proofs.YtghfljmoaalinaaW.PrintWords Go.Proofs.YtghfljmoaalinaaW.PrintLast Go.Proofs.YtghfljmoaalinaaW.PrintMore Go.Proofs.YtghfljmoaalinaaW.Arith Go.Proofs.YtghfljmoaalinaaW.Opened

theorem fv_off {n d : Int} (_h0 : 0 ≤ n) (h : fv n = 65535) (hn : 0 ≤ n + d) (hd : d ≠ 0) (h1 : -65535 < d) (h2 : d < 65535) : fv (n + d) ≠ 65535 := by
  unfold fv at h ⊢
  split at h
  · omega
  · split <;> omega
theorem bit8 (p : Int) (h0 : 0 ≤ p) (h1 : p < 8) : 1 ≤ shl .u8 1 p ∧ shl .u8 1 p ≤ 255 := by
  have : p = 0 ∨ p = 1 ∨ p = 2 ∨ p = 3 ∨ p = 4 ∨ p = 5 ∨ p = 6 ∨ p = 7 := by omega
  rcases this with rfl | rfl | rfl | rfl | rfl | rfl | rfl | rfl <;> decide +kernel
theorem ver8 (p : Int) (h0 : 4 ≤ p) (h1 : p < 8) : Go.bits .xor .u8 69 (shl .u8 1 p) / 16 ≠ 4 := by
  have : p = 4 ∨ p = 5 ∨ p = 6 ∨ p = 7 := by omega
  rcases this with rfl | rfl | rfl | rfl <;> decide +kernel
theorem set_take20 (l : List Int) (j : Nat) (v : Int) : (l.set j v).take 20 = (l.take 20).set j v := by rw [List.take_set]
theorem sum_off (L : List Int) (hO : Oct L) (hl : 20 ≤ L.length) (hs : fv (wsum (L.take 20)) = 65535) (j : Nat) (hj : j < 20) (v : Int) (h0 : 0 ≤ v) (h1 : v ≤ 255) (hne : v ≠ g L j) : fv (wsum ((L.set j v).take 20)) ≠ 65535 := by
  have hT : Oct (L.take 20) := hO.take 20
  have hlen : j < (L.take 20).length := by rw [List.length_take]; omega
  have hg : (L.take 20).getD j 0 = g L j := by
    unfold g
    rw [List.getD_eq_getElem?_getD, List.getD_eq_getElem?_getD, List.getElem?_take_of_lt hj]
  have hr := hO.g j
  have hn := wsum_range (hT.set j v h0 h1)
  rw [set_take20, wsum_set _ _ _ hlen, hg]
  rw [wsum_set _ _ _ hlen, hg] at hn
  refine fv_off (wsum_range hT).1 hs hn.1 ?_ ?_ ?_ <;> split <;> omega
theorem g_set_ne (L : List Int) {i j : Nat} (v : Int) (h : i ≠ j) : g (L.set i v) j = g L j := getD_set_ne L v h
theorem g_set_eq (L : List Int) (i : Nat) (v : Int) (h : i < L.length) : g (L.set i v) i = v := by
  unfold g
  rw [List.getD_eq_getElem?_getD, List.getElem?_set_self h]
  rfl
theorem flip_err (k : Nat) (hk : 7 ≤ k) (L : List Int) (hO : Oct L) (hl : 20 ≤ L.length) (hl' : L.length ≤ 140737488355327) (hs : fv (wsum (L.take 20)) = 65535) (h69 : g L 0 = 69) (j : Nat) (hj : j < 20) (p : Int) (hp : 0 ≤ p) (hp' : p < 8) (hjp : j = 0 → 4 ≤ p) :
    (∃ e, e ≠ 0 ∧ ipwire_Parse.f k (L.set j (Go.bits .xor .u8 (g L j) (shl .u8 1 p))) = some (perr e)) ∧ fv (wsum ((L.set j (Go.bits .xor .u8 (g L j) (shl .u8 1 p))).take 20)) ≠ 65535 := by
  have hb := bit8 p hp hp'
  have hx := xor8 (hO.g j).1 (hO.g j).2 (by omega : 0 ≤ shl .u8 1 p) hb.2 (by omega)
  have hv := ver8 p
  have hoff := sum_off L hO hl hs j hj _ hx.1 hx.2.1 hx.2.2
  refine ⟨?_, hoff⟩
  have hO' := hO.set j _ hx.1 hx.2.1
  by_cases h0 : j = 0
  · subst h0
    refine ⟨41, by decide, parse_ver k _ (by rw [List.length_set]; exact hl) ?_⟩
    rw [g_set_eq L 0 _ (by omega), h69]
    exact hv (hjp rfl) hp'
  · have e0 : g (L.set j (Go.bits .xor .u8 (g L j) (shl .u8 1 p))) 0 = 69 := (g_set_ne L _ h0).trans h69
    have hML : (L.set j (Go.bits .xor .u8 (g L j) (shl .u8 1 p))).length = L.length := List.length_set
    generalize L.set j (Go.bits .xor .u8 (g L j) (shl .u8 1 p)) = M at *
    by_cases hlen : M.length < 20
    · exact ⟨8, by decide, parse_short k M hlen⟩
    by_cases hb' : g M 0 % 16 * 4 < 20 ∨ g M 2 * 256 + g M 3 < g M 0 % 16 * 4 ∨ g M 0 % 16 * 4 > M.length ∨ g M 2 * 256 + g M 3 > M.length
    · exact ⟨42, by decide, parse_len k (by omega) M hO' (by omega) (by rw [e0]; decide) hb'⟩
    by_cases hlen' : M.length ≤ 140737488355327
    · refine ⟨21, by decide, parse_sum k hk M hO' (by omega) hlen' (by rw [e0]; decide) hb' ?_⟩
      rw [e0]
      exact hoff
    · exact absurd hlen' (by omega)
theorem at_160 (a : Int) (_h : -9223372036854775808 ≤ a ∧ a ≤ 9223372036854775807) : 0 ≤ Int.tmod (wrap64 (Int.tmod a 160 + 160)) 160 ∧ Int.tmod (wrap64 (Int.tmod a 160 + 160)) 160 < 160 := by
  have h1 := Int.tmod_lt_of_pos a (show (0 : Int) < 160 by decide)
  have h2 : -160 < Int.tmod a 160 := by
    have := Int.lt_tmod_of_pos a (show (0 : Int) < 160 by decide)
    omega
  rw [w64 (by omega) (by omega)]
  exact ⟨Int.tmod_nonneg _ (by omega), Int.tmod_lt_of_pos _ (by decide)⟩
theorem IpwireFinds : stopcocklaw04_IpwireFinds.Pure := by
  intro a0 a1 a2 a3 a4 a5 a6 a7 a8 o d at_ hw hat
  obtain ⟨h0, h1, _, _, h4, h5, h6, h7, h8, ho, hd⟩ := hw
  have h0 := wf_u8 h0
  have h1 := wf_u16 h1
  have h5 := wf_u8 h5
  have h6 := wf_u8 h6
  have h7 := wf_u32 h7
  have h8 := wf_u32 h8
  have hD : Oct d := fun x hx => wf_u8 (hd.2 x hx)
  have hO : Oct ([] : List Int) := fun x hx => by simp at hx
  have hdl : d.length * 1 ≤ 140737488351232 := hd.1
  have hA := at_160 at_ (wf_i64 hat)
  refine ⟨70000, ?_⟩
  obtain ⟨K, hK, hK'⟩ : ∃ K : Nat, K = 70000 ∧ 70000 ≤ K := ⟨70000, rfl, by omega⟩
  rw [← hK]
  clear hK
  unfold stopcocklaw04_IpwireFinds.f
  generalize Int.tmod (wrap64 (Int.tmod at_ 160 + 160)) 160 = A at hA ⊢
  rw [alive_tells K (by omega), Option.bind_some, if_pos rfl]
  rcases chk_ok K (by omega) a0 a1 a2 a3 a4 a5 a6 a7 a8 [] d (by simp) (by omega) with ⟨hc, c1, c2, c3, c4, c5, c6⟩ | ⟨e, he, hne, _⟩
  · rw [build_ok K (by omega) a0 a1 a2 a3 a4 a5 a6 a7 a8 [] d h0 h1 ⟨c1, c2⟩ h5 h6 h7 h8 hO c4 c5 c6 hc, Option.bind_some]
    have hl := out_len a0 a1 a2 a3 a4 a5 a6 a7 a8 [] d
    have hLO : Oct (out a0 a1 a2 a3 a4 a5 a6 a7 a8 [] d) := by
      unfold out
      exact ((hd20_oct (by simp) h0 h5 h6).append hO).append hD
    have h69 : g (out a0 a1 a2 a3 a4 a5 a6 a7 a8 [] d) 0 = 69 := rfl
    have hS : fv (wsum ((out a0 a1 a2 a3 a4 a5 a6 a7 a8 [] d).take 20)) = 65535 := by
      have hoo : Oct (hd20 (69 + (([] : List Int).length : Int) / 4) a0 (20 + (([] : List Int).length : Int) + (d.length : Int)) a1 ((if a2 then 16384 else 0) + (if a3 then 8192 else 0) + a4 / 8) a5 a6 0 a7 a8 ++ []) := (hd20_oct (by simp) h0 h5 h6).append hO
      have hw := (wsum_range hoo).1
      have hc := fv_range hw
      unfold out
      rw [List.take_left' (by simp only [List.length_append, hd20_len, List.length_nil]), wsum_hd _ _ _ _ _ _ _ _ _ _ _ (by unfold ckv; omega) (by unfold ckv; omega)]
      exact fv_right hw
    generalize out a0 a1 a2 a3 a4 a5 a6 a7 a8 [] d = L at hl hLO h69 hS ⊢
    simp only [List.length_nil] at hl c6
    simp only [stopcocklaw04_num.f, Option.bind_some]
    rw [if_pos trivial]
    by_cases hA4 : A < 4
    · rw [if_pos hA4]
    · have t1 : Int.tdiv A 8 = A / 8 := Int.tdiv_eq_ediv_of_nonneg hA.1
      have t2 : Int.tmod A 8 = A % 8 := Int.tmod_eq_emod_of_nonneg hA.1
      rw [if_neg hA4, t1, t2, w64 (x := A / 8) (by omega) (by omega), if_pos (by omega), if_pos (by omega), if_pos (by omega)]
      have hr : rd L (A / 8) = g L (A / 8).toNat := rfl
      rw [hr]
      obtain ⟨⟨e, hne, hp⟩, hoff⟩ := flip_err K (by omega) L hLO (by omega) (by omega) hS h69 (A / 8).toNat (by omega) (A % 8) (by omega) (by omega) (by omega)
      have hLO2 : Oct ((L.set (A / 8).toNat (Go.bits .xor .u8 (g L (A / 8).toNat) (shl .u8 1 (A % 8)))).take 20) := by
        have hb := bit8 (A % 8) (by omega) (by omega)
        have hx := xor8 (hLO.g (A / 8).toNat).1 (hLO.g (A / 8).toNat).2 (by omega : 0 ≤ shl .u8 1 (A % 8)) hb.2 (by omega)
        exact (hLO.set _ _ hx.1 hx.2.1).take 20
      rw [hp, Option.bind_some]
      simp only [perr]
      refine (if_neg hne).trans ?_
      refine (if_pos rfl).trans ?_
      refine (if_pos (by omega)).trans ?_
      rw [right_tells K (by omega) _ hLO2 (by rw [List.length_take]; omega), Option.bind_some, decide_eq_false hoff]
      rfl
  · unfold ipwire_Build.f
    rw [he, Option.bind_some, if_neg hne, Option.bind_some]
    simp only [stopcocklaw04_num.f, Option.bind_some]
    rw [if_neg hne]
    rfl
end Go.Proofs.Ytghfljmoaalinaa.Pure
