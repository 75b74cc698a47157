/- Copies are the same, and packets are read back from their octets. Numbers and lists alone. For IpwireOwn's own family (pr.sh 04 IpwireOwn). No condition. -/
import Derived.Test.YtghfljmoaalinaaIp
import Derived.Test.YtghfljmoaalinaaQ11
namespace Go.Proofs.Ytghfljmoaalinaa.Pure
open Go.RowKit Go.Proofs.Ytghfljmoaalinaa.Q Go.Proofs.YtghfljmoaalinaaW.PrintWords Go.Proofs.YtghfljmoaalinaaW.PrintLast Go.Proofs.YtghfljmoaalinaaW.PrintMore Go.Proofs.YtghfljmoaalinaaW.Arith Go.Proofs.YtghfljmoaalinaaW.Opened

theorem copy_tells (l : List Int) (hl : l.length ≤ 140737488351232) : stopcockplain_CopyBytes.f l = some l := by
  unfold stopcockplain_CopyBytes.f
  rw [if_pos (by simp; omega)]
  rfl
theorem same_go (l : List Int) (hl : l.length ≤ 140737488355327) (d : Nat) : ∀ (k : Nat) (i : Int), 0 ≤ i → i ≤ l.length → (l.length : Int) - i = d → d < k → stopcockplain_SameBytes.l0 k l l i = some true := by
  induction d with
  | zero =>
    intro k i h0 h1 hd hk
    obtain ⟨k, rfl⟩ : ∃ m, k = m + 1 := ⟨k - 1, by omega⟩
    simp only [stopcockplain_SameBytes.l0]
    rw [if_neg (by omega)]
  | succ d ih =>
    intro k i h0 h1 hd hk
    obtain ⟨k, rfl⟩ : ∃ m, k = m + 1 := ⟨k - 1, by omega⟩
    simp only [stopcockplain_SameBytes.l0]
    rw [if_pos (by omega), if_pos h0, if_pos (by omega), if_pos trivial, w64 (by omega) (by omega), ih k (i + 1) (by omega) (by omega) (by omega) (by omega)]
theorem same_tells (l : List Int) (hl : l.length ≤ 140737488355327) (k : Nat) (hk : l.length < k) : stopcockplain_SameBytes.f k l l = some true := by
  unfold stopcockplain_SameBytes.f
  rw [if_pos rfl, same_go l hl l.length k 0 (by omega) (by omega) (by omega) hk]
theorem sameIP_refl (k : Nat) (a0 a1 : Int) (a2 a3 : Bool) (a4 a5 a6 a7 a8 : Int) (o d : List Int) (ho : o.length < k) (hd : d.length < k) (ho' : o.length ≤ 140737488355327) (hd' : d.length ≤ 140737488355327) :
    stopcockplain_SameIP.f k a0 a1 a2 a3 a4 a5 a6 a7 a8 o d a0 a1 a2 a3 a4 a5 a6 a7 a8 o d = some true := by
  unfold stopcockplain_SameIP.f
  rw [if_pos rfl, if_pos rfl, if_pos (by simp), if_pos (by simp), if_pos rfl, if_pos rfl, if_pos rfl, if_pos rfl, if_pos rfl, same_tells o ho' k ho, Option.bind_some, if_pos rfl, same_tells d hd' k hd, Option.bind_some]
theorem parse_out (k : Nat) (hk : 7 ≤ k) (a0 a1 : Int) (a2 a3 : Bool) (a4 a5 a6 a7 a8 : Int) (o d m : List Int) (h0 : 0 ≤ a0 ∧ a0 ≤ 255) (h1 : 0 ≤ a1 ∧ a1 ≤ 65535) (h4 : 0 ≤ a4 ∧ a4 ≤ 65528) (h4' : a4 % 8 = 0) (h5 : 0 ≤ a5 ∧ a5 ≤ 255) (h6 : 0 ≤ a6 ∧ a6 ≤ 255) (h7 : 0 ≤ a7 ∧ a7 ≤ 4294967295) (h8 : 0 ≤ a8 ∧ a8 ≤ 4294967295)
    (hO : Oct o) (hD : Oct d) (hM : Oct m) (ho : o.length ≤ 40) (ho4 : o.length % 4 = 0) (hn : o.length + d.length ≤ 65515) (hm : m.length ≤ 140737488000000) :
    ipwire_Parse.f k (out a0 a1 a2 a3 a4 a5 a6 a7 a8 o d ++ m) = some (a0, a1, a2, a3, a4, a5, a6, a7, a8, o, d, 0) := by
  have hc := fv_range (wsum_range (l := hd20 (69 + (o.length : Int) / 4) a0 (20 + (o.length : Int) + (d.length : Int)) a1 ((if a2 then 16384 else 0) + (if a3 then 8192 else 0) + a4 / 8) a5 a6 0 a7 a8 ++ o) ((hd20_oct (by omega) h0 h5 h6).append hO)).1
  have hw := (wsum_range (l := hd20 (69 + (o.length : Int) / 4) a0 (20 + (o.length : Int) + (d.length : Int)) a1 ((if a2 then 16384 else 0) + (if a3 then 8192 else 0) + a4 / 8) a5 a6 0 a7 a8 ++ o) ((hd20_oct (by omega) h0 h5 h6).append hO)).1
  unfold out
  have hS : fv (wsum (hd20 (69 + (o.length : Int) / 4) a0 (20 + (o.length : Int) + (d.length : Int)) a1 ((if a2 then 16384 else 0) + (if a3 then 8192 else 0) + a4 / 8) a5 a6 (ckv (69 + (o.length : Int) / 4) a0 (20 + (o.length : Int) + (d.length : Int)) a1 ((if a2 then 16384 else 0) + (if a3 then 8192 else 0) + a4 / 8) a5 a6 a7 a8 o) a7 a8 ++ o)) = 65535 := by
    rw [wsum_hd _ _ _ _ _ _ _ _ _ _ _ (by unfold ckv; omega) (by unfold ckv; omega)]
    exact fv_right hw
  generalize ckv (69 + (o.length : Int) / 4) a0 (20 + (o.length : Int) + (d.length : Int)) a1 ((if a2 then 16384 else 0) + (if a3 then 8192 else 0) + a4 / 8) a5 a6 a7 a8 o = C at hS ⊢
  have hwd : (if a2 then (16384 : Int) else 0) + (if a3 then 8192 else 0) + a4 / 8 ≤ 65535 ∧ 0 ≤ (if a2 then (16384 : Int) else 0) + (if a3 then 8192 else 0) + a4 / 8 := by
    cases a2 <;> cases a3 <;> simp <;> omega
  have hb2 : ((if a2 then (16384 : Int) else 0) + (if a3 then 8192 else 0) + a4 / 8) / 16384 % 2 = (if a2 then 1 else 0) := by
    cases a2 <;> cases a3 <;> simp <;> omega
  have hb3 : ((if a2 then (16384 : Int) else 0) + (if a3 then 8192 else 0) + a4 / 8) / 8192 % 2 = (if a3 then 1 else 0) := by
    cases a2 <;> cases a3 <;> simp <;> omega
  have hb4 : ((if a2 then (16384 : Int) else 0) + (if a3 then 8192 else 0) + a4 / 8) % 8192 * 8 = a4 := by
    cases a2 <;> cases a3 <;> simp <;> omega
  generalize (if a2 then (16384 : Int) else 0) + (if a3 then 8192 else 0) + a4 / 8 = W at hS hwd hb2 hb3 hb4 ⊢
  obtain ⟨L, hL⟩ : ∃ L, L = hd20 (69 + (o.length : Int) / 4) a0 (20 + (o.length : Int) + (d.length : Int)) a1 W a5 a6 C a7 a8 ++ o ++ d ++ m := ⟨_, rfl⟩
  have hlen : L.length = 20 + o.length + d.length + m.length := by rw [hL]; simp only [List.length_append, hd20_len]
  have hoct : Oct L := by rw [hL]; exact (((hd20_oct (by omega) h0 h5 h6).append hO).append hD).append hM
  have e0 : g L 0 = 69 + (o.length : Int) / 4 := by rw [hL]; rfl
  have e1 : g L 1 = a0 := by rw [hL]; rfl
  have e2 : g L 2 = (20 + (o.length : Int) + (d.length : Int)) / 256 % 256 := by rw [hL]; rfl
  have e3 : g L 3 = (20 + (o.length : Int) + (d.length : Int)) % 256 := by rw [hL]; rfl
  have e4 : g L 4 = a1 / 256 % 256 := by rw [hL]; rfl
  have e5 : g L 5 = a1 % 256 := by rw [hL]; rfl
  have e6 : g L 6 = W / 256 % 256 := by rw [hL]; rfl
  have e7 : g L 7 = W % 256 := by rw [hL]; rfl
  have e8 : g L 8 = a5 := by rw [hL]; rfl
  have e9 : g L 9 = a6 := by rw [hL]; rfl
  have e12 : g32 L 12 = (a7 / 16777216 % 256 * 256 + a7 / 65536 % 256) * 65536 + (a7 / 256 % 256 * 256 + a7 % 256) := by rw [hL]; rfl
  have e16 : g32 L 16 = (a8 / 16777216 % 256 * 256 + a8 / 65536 % 256) * 65536 + (a8 / 256 % 256 * 256 + a8 % 256) := by rw [hL]; rfl
  have es : (g L 0 % 16 * 4).toNat = 20 + o.length := by rw [e0]; omega
  have ea : (g L 2 * 256 + g L 3).toNat = 20 + o.length + d.length := by rw [e2, e3]; omega
  have t1 : L.take (20 + o.length) = hd20 (69 + (o.length : Int) / 4) a0 (20 + (o.length : Int) + (d.length : Int)) a1 W a5 a6 C a7 a8 ++ o := by
    rw [hL, List.append_assoc _ d m]
    exact List.take_left' (by rw [List.length_append, hd20_len])
  have t2 : (L.take (20 + o.length)).drop 20 = o := by
    rw [t1]
    exact List.drop_left' (hd20_len _ _ _ _ _ _ _ _ _ _)
  have t3 : (L.take (20 + o.length + d.length)).drop (20 + o.length) = d := by
    rw [hL, List.take_left' (by simp only [List.length_append, hd20_len])]
    exact List.drop_left' (by simp only [List.length_append, hd20_len])
  rw [← hL, parse_ok k hk L hoct (by omega) (by omega) (by rw [e0]; omega) (by rw [e0, e2, e3, hlen]; omega) (by rw [es, t1]; exact hS), es, ea]
  unfold pok
  have w1 : g L 6 * 256 + g L 7 = W := by rw [e6, e7]; omega
  have w2 : g L 4 * 256 + g L 5 = a1 := by rw [e4, e5]; omega
  rw [w1, w2, t2, t3, e1, e8, e9, e12, e16, hb2, hb3, hb4]
  have c7 : (a7 / 16777216 % 256 * 256 + a7 / 65536 % 256) * 65536 + (a7 / 256 % 256 * 256 + a7 % 256) = a7 := by omega
  have c8 : (a8 / 16777216 % 256 * 256 + a8 / 65536 % 256) * 65536 + (a8 / 256 % 256 * 256 + a8 % 256) = a8 := by omega
  rw [c7, c8]
  cases a2 <;> cases a3 <;> rfl
end Go.Proofs.Ytghfljmoaalinaa.Pure
