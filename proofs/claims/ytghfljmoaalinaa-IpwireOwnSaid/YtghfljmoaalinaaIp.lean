/- Packets: what building and reading answer, as lists of octets. Numbers and lists alone; no program in sight but its own printed functions. No condition. -/
import Derived.Test.YtghfljmoaalinaaSumsC
import Derived.Test.YtghfljmoaalinaaQ10
import Derived.Test.YtghfljmoaalinaaIpBits
namespace Go.Proofs.Ytghfljmoaalinaa.Pure
open Go.RowKit Go.Proofs.Ytghfljmoaalinaa.Q Go.Proofs.YtghfljmoaalinaaW.PrintWords Go.Proofs.YtghfljmoaalinaaW.PrintLast Go.Proofs.YtghfljmoaalinaaW.PrintMore Go.Proofs.YtghfljmoaalinaaW.Arith Go.Proofs.YtghfljmoaalinaaW.Opened

theorem rep20 (n : Nat) : List.replicate (20 + n) (0 : Int) = 0 :: 0 :: 0 :: 0 :: 0 :: 0 :: 0 :: 0 :: 0 :: 0 :: 0 :: 0 :: 0 :: 0 :: 0 :: 0 :: 0 :: 0 :: 0 :: 0 :: List.replicate n 0 := by
  rw [Nat.add_comm]
  rfl
/-- The header, octet by octet (b0: the first one; t: the length; i: the number; w: the third word). -/
def hd20 (b0 a0 t i w a5 a6 c s d : Int) : List Int :=
  [b0, a0, t / 256 % 256, t % 256, i / 256 % 256, i % 256, w / 256 % 256, w % 256, a5, a6, c / 256 % 256, c % 256, s / 16777216 % 256, s / 65536 % 256, s / 256 % 256, s % 256, d / 16777216 % 256, d / 65536 % 256, d / 256 % 256, d % 256]
theorem and32 {x : Int} (h0 : 0 ≤ x) (h1 : x ≤ 4294967295) : Go.bits .and .u32 x 65535 = x % 65536 := by
  have u32_i : ∀ n : Int, 0 ≤ n → n < 2 ^ 32 → IntKind.u32.wrap n = n := fun n h0 h1 => by
    have e : (2 : Int) ^ 32 = 4294967296 := by decide
    rw [e] at h1
    rw [u32w]
    omega
  have := bits_mask .u32 32 (by decide) u32_i 16 (by decide) x h0 (by have e : (2 : Int) ^ 32 = 4294967296 := by decide
                                                                      rw [e]; omega)
  simpa using this
theorem or32 {a b : Int} (ha : 0 ≤ a) (ha' : a ≤ 65535) (hb : 0 ≤ b) (hb' : b ≤ 65535) : Go.bits .or .u32 (a * 65536) b = a * 65536 + b := by
  have u32_i : ∀ n : Int, 0 ≤ n → n < 2 ^ 32 → IntKind.u32.wrap n = n := fun n h0 h1 => by
    have e : (2 : Int) ^ 32 = 4294967296 := by decide
    rw [e] at h1
    rw [u32w]
    omega
  have e1 : (2 : Int) ^ 16 = 65536 := by decide
  have e2 : (2 : Int) ^ 32 = 4294967296 := by decide
  exact bits_join .u32 32 (by decide) u32_i 16 (a * 65536) b (by omega) (by rw [e1]; omega) (by rw [e2]; omega) hb (by rw [e1]; omega) (by rw [e2]; omega)
theorem or8 {a b : Int} (ha : 0 ≤ a) (ha' : a ≤ 255) (hb : 0 ≤ b) (hb' : b ≤ 255) : Go.bits .or .i64 (a * 256) b = a * 256 + b := by
  have e1 : (2 : Int) ^ 8 = 256 := by decide
  exact bits_join .i64 62 (by decide) w62 8 (a * 256) b (by omega) (by rw [e1]; omega) (by rw [i62]; omega) hb (by rw [e1]; omega) (by rw [i62]; omega)
theorem put16_hd (b0 a0 t i w a5 a6 s d C : Int) (r : List Int) : put16v (hd20 b0 a0 t i w a5 a6 0 s d ++ r) 10 C = hd20 b0 a0 t i w a5 a6 C s d ++ r := by
  simp only [put16v, hd20, List.cons_append, List.set_cons_succ, List.set_cons_zero, Nat.reduceAdd]
theorem bHead_eq (a0 a1 : Int) (a2 a3 : Bool) (a4 a5 a6 a7 a8 : Int) (opts : List Int) (m : Nat) (h1 : 0 ≤ a1 ∧ a1 ≤ 65535) (h4 : 0 ≤ a4 ∧ a4 ≤ 65528) (h7 : 0 ≤ a7 ∧ a7 ≤ 4294967295) (h8 : 0 ≤ a8 ∧ a8 ≤ 4294967295) (hn : opts.length + m ≤ 65515) (ho : opts.length ≤ 40) (ho4 : opts.length % 4 = 0) :
    bHead a0 a1 a2 a3 a4 a5 a6 a7 a8 opts m = hd20 (69 + (opts.length : Int) / 4) a0 (20 + (opts.length : Int) + (m : Int)) a1 ((if a2 then 16384 else 0) + (if a3 then 8192 else 0) + a4 / 8) a5 a6 0 a7 a8 ++ opts := by
  unfold bHead
  rw [rep20, bWord_eq a2 a3 h4.1 h4.2]
  have e0 : Go.bits .or .i64 64 ((20 + (opts.length : Int)) / 4) % 256 = 69 + (opts.length : Int) / 4 := by
    have := or_lo 6 1 (x := (20 + (opts.length : Int)) / 4) (by omega) (by simp; omega) (by decide)
    have s6 : ((2 ^ 6 * 1 : Nat) : Int) = 64 := by decide
    rw [s6] at this
    rw [this]
    omega
  have e1 : IntKind.i64.wrap (20 + (opts.length : Int) + (m : Int)) = 20 + (opts.length : Int) + (m : Int) := by rw [IntKind.wrap_i64]; omega
  have e2 : IntKind.i64.wrap a1 = a1 := by rw [IntKind.wrap_i64]; omega
  rw [e0, e1, e2]
  unfold put32v
  rw [and32 h7.1 h7.2, and32 h8.1 h8.2]
  have e3 : ∀ x : Int, 0 ≤ x → x ≤ 4294967295 → wrap64 x = x := fun x _ _ => w64 (by omega) (by omega)
  rw [e3 (a7 / 65536) (by omega) (by omega), e3 (a7 % 65536) (by omega) (by omega), e3 (a8 / 65536) (by omega) (by omega), e3 (a8 % 65536) (by omega) (by omega)]
  have q1 : ∀ x : Int, 0 ≤ x → x / 65536 / 256 % 256 = x / 16777216 % 256 := fun x _ => by omega
  have q2 : ∀ x : Int, 0 ≤ x → x % 65536 / 256 % 256 = x / 256 % 256 := fun x _ => by omega
  have q3 : ∀ x : Int, 0 ≤ x → x % 65536 % 256 = x % 256 := fun x _ => by omega
  simp only [put16v, List.set_cons_succ, List.set_cons_zero, List.take_succ_cons, List.take_zero, Nat.reduceAdd, q1 a7 h7.1, q1 a8 h8.1, q2 a7 h7.1, q2 a8 h8.1, q3 a7 h7.1, q3 a8 h8.1, hd20]
  rfl
/-- May a packet be? -/
theorem chk_ok (k : Nat) (hk : 2 ≤ k) (a0 a1 : Int) (a2 a3 : Bool) (a4 a5 a6 a7 a8 : Int) (o d : List Int) (ho : o.length ≤ 140737488351232) (hd : d.length ≤ 140737488351232) :
    (ipwire_Check.f k a0 a1 a2 a3 a4 a5 a6 a7 a8 o d = some 0 ∧ 0 ≤ a4 ∧ a4 ≤ 65528 ∧ a4 % 8 = 0 ∧ o.length ≤ 40 ∧ o.length % 4 = 0 ∧ o.length + d.length ≤ 65515) ∨
    (∃ e, ipwire_Check.f k a0 a1 a2 a3 a4 a5 a6 a7 a8 o d = some e ∧ e ≠ 0 ∧ ¬ (0 ≤ a4 ∧ a4 ≤ 65528 ∧ a4 % 8 = 0 ∧ o.length ≤ 40 ∧ o.length % 4 = 0 ∧ o.length + d.length ≤ 65515)) := by
  obtain ⟨k, rfl⟩ : ∃ m, k = m + 2 := ⟨k - 2, by omega⟩
  unfold ipwire_Check.f
  by_cases h1 : a4 < 0
  · exact .inr ⟨91, by rw [if_pos h1]; simp only [ipwire_Check.j0, if_true], by decide, by omega⟩
  rw [if_neg h1]
  by_cases h2 : a4 > 65528
  · exact .inr ⟨91, by rw [if_pos h2]; simp only [ipwire_Check.j0, if_true], by decide, by omega⟩
  rw [if_neg h2]
  have e7 := and_low 3 (by decide) (x := a4) (by omega) (by omega)
  have s7 : (2 : Int) ^ 3 - 1 = 7 := by decide
  have s8 : (2 : Int) ^ 3 = 8 := by decide
  rw [s7, s8] at e7
  rw [e7]
  by_cases h3 : a4 % 8 = 0
  · rw [h3]
    simp only [ipwire_Check.j0, bne_self_eq_false, Bool.false_eq_true, if_false]
    by_cases h4 : (o.length : Int) > 40
    · exact .inr ⟨42, by rw [if_pos h4]; simp only [ipwire_Check.j1, if_true], by decide, by omega⟩
    rw [if_neg h4]
    have e3 := and_low 2 (by decide) (x := (o.length : Int)) (by omega) (by omega)
    have s3 : (2 : Int) ^ 2 - 1 = 3 := by decide
    have s4 : (2 : Int) ^ 2 = 4 := by decide
    rw [s3, s4] at e3
    rw [e3]
    by_cases h5 : (o.length : Int) % 4 = 0
    · rw [h5]
      simp only [ipwire_Check.j1, bne_self_eq_false, Bool.false_eq_true, if_false]
      rw [w64 (x := 20 + (o.length : Int)) (by omega) (by omega), w64 (by omega) (by omega)]
      by_cases h6 : 20 + (o.length : Int) + (d.length : Int) > 65535
      · exact .inr ⟨5, by rw [if_pos h6], by decide, by omega⟩
      · exact .inl ⟨by rw [if_neg h6], by omega, by omega, trivial, by omega, by omega, by omega⟩
    · refine .inr ⟨42, ?_, by decide, by omega⟩
      have : ((o.length : Int) % 4 != 0) = true := by simp; omega
      rw [this]
      simp only [ipwire_Check.j1, if_true]
  · refine .inr ⟨91, ?_, by decide, by omega⟩
    have : (a4 % 8 != 0) = true := by simp; omega
    rw [this]
    simp only [ipwire_Check.j0, if_true]
theorem hd20_oct {b0 a0 t i w a5 a6 c s d : Int} (hb : 0 ≤ b0 ∧ b0 ≤ 255) (h0 : 0 ≤ a0 ∧ a0 ≤ 255) (h5 : 0 ≤ a5 ∧ a5 ≤ 255) (h6 : 0 ≤ a6 ∧ a6 ≤ 255) : Oct (hd20 b0 a0 t i w a5 a6 c s d) := by
  have m : ∀ x : Int, 0 ≤ x % 256 ∧ x % 256 ≤ 255 := fun x => by omega
  intro x hx
  simp only [hd20, List.mem_cons, List.not_mem_nil, or_false] at hx
  rcases hx with rfl | rfl | rfl | rfl | rfl | rfl | rfl | rfl | rfl | rfl | rfl | rfl | rfl | rfl | rfl | rfl | rfl | rfl | rfl | rfl
  all_goals first | exact m _ | exact hb | exact h0 | exact h5 | exact h6
theorem hd20_len (b0 a0 t i w a5 a6 c s d : Int) : (hd20 b0 a0 t i w a5 a6 c s d).length = 20 := rfl
/-- The checksum in its place: the header's words and it. -/
theorem wsum_hd (b0 a0 t i w a5 a6 c s d : Int) (r : List Int) (h0 : 0 ≤ c) (h1 : c ≤ 65535) : wsum (hd20 b0 a0 t i w a5 a6 c s d ++ r) = wsum (hd20 b0 a0 t i w a5 a6 0 s d ++ r) + c := by
  simp only [hd20, List.cons_append, wsum, List.nil_append]
  omega
/-- The checksum that building puts: with it the sum is right. -/
def ckv (b0 a0 t i w a5 a6 s d : Int) (o : List Int) : Int := 65535 - fv (wsum (hd20 b0 a0 t i w a5 a6 0 s d ++ o))
theorem fv_right {n : Int} (h : 0 ≤ n) : fv (n + (65535 - fv n)) = 65535 := by
  unfold fv
  by_cases h0 : n = 0
  · subst h0; decide
  · rw [if_neg h0, if_neg (by omega)]
    omega
def out (a0 a1 : Int) (a2 a3 : Bool) (a4 a5 a6 a7 a8 : Int) (o d : List Int) : List Int :=
  hd20 (69 + (o.length : Int) / 4) a0 (20 + (o.length : Int) + (d.length : Int)) a1 ((if a2 then 16384 else 0) + (if a3 then 8192 else 0) + a4 / 8) a5 a6 (ckv (69 + (o.length : Int) / 4) a0 (20 + (o.length : Int) + (d.length : Int)) a1 ((if a2 then 16384 else 0) + (if a3 then 8192 else 0) + a4 / 8) a5 a6 a7 a8 o) a7 a8 ++ o ++ d
theorem build_ok (k : Nat) (hk : 6 ≤ k) (a0 a1 : Int) (a2 a3 : Bool) (a4 a5 a6 a7 a8 : Int) (o d : List Int) (h0 : 0 ≤ a0 ∧ a0 ≤ 255) (h1 : 0 ≤ a1 ∧ a1 ≤ 65535) (h4 : 0 ≤ a4 ∧ a4 ≤ 65528) (h5 : 0 ≤ a5 ∧ a5 ≤ 255) (h6 : 0 ≤ a6 ∧ a6 ≤ 255) (h7 : 0 ≤ a7 ∧ a7 ≤ 4294967295) (h8 : 0 ≤ a8 ∧ a8 ≤ 4294967295)
    (hO : Oct o) (ho : o.length ≤ 40) (ho4 : o.length % 4 = 0) (hn : o.length + d.length ≤ 65515) (hc : ipwire_Check.f k a0 a1 a2 a3 a4 a5 a6 a7 a8 o d = some 0) :
    ipwire_Build.f k a0 a1 a2 a3 a4 a5 a6 a7 a8 o d = some (out a0 a1 a2 a3 a4 a5 a6 a7 a8 o d, 0) := by
  unfold ipwire_Build.f
  rw [hc, Option.bind_some, if_pos rfl, if_pos hn, bHead_eq a0 a1 a2 a3 a4 a5 a6 a7 a8 o d.length h1 h4 h7 h8 hn ho ho4]
  have hO' : Oct (hd20 (69 + (o.length : Int) / 4) a0 (20 + (o.length : Int) + (d.length : Int)) a1 ((if a2 then 16384 else 0) + (if a3 then 8192 else 0) + a4 / 8) a5 a6 0 a7 a8 ++ o) := (hd20_oct (by omega) h0 h5 h6).append hO
  rw [check_tells k hk _ hO' (by rw [List.length_append, hd20_len]; omega), Option.bind_some]
  have hf := fv_range (wsum_range hO').1
  have e : IntKind.i64.wrap (65535 - fv (wsum (hd20 (69 + (o.length : Int) / 4) a0 (20 + (o.length : Int) + (d.length : Int)) a1 ((if a2 then 16384 else 0) + (if a3 then 8192 else 0) + a4 / 8) a5 a6 0 a7 a8 ++ o))) = ckv (69 + (o.length : Int) / 4) a0 (20 + (o.length : Int) + (d.length : Int)) a1 ((if a2 then 16384 else 0) + (if a3 then 8192 else 0) + a4 / 8) a5 a6 a7 a8 o := by
    rw [IntKind.wrap_i64]
    unfold ckv
    omega
  rw [e, put16_hd]
  rfl
theorem out_len (a0 a1 : Int) (a2 a3 : Bool) (a4 a5 a6 a7 a8 : Int) (o d : List Int) : (out a0 a1 a2 a3 a4 a5 a6 a7 a8 o d).length = 20 + o.length + d.length := by
  unfold out
  simp only [List.length_append, hd20_len]
/-! Reading. -/
def g (l : List Int) (i : Nat) : Int := l.getD i 0
theorem g_drop (l : List Int) (n i : Nat) : g (l.drop n) i = g l (n + i) := by
  unfold g
  rw [List.getD_eq_getElem?_getD, List.getD_eq_getElem?_getD, List.getElem?_drop]
theorem rd_g (l : List Int) (i : Nat) : rd l (i : Int) = g l i := by
  unfold rd g
  rw [Int.toNat_natCast]
theorem Oct.g {l : List Int} (h : Oct l) (i : Nat) : 0 ≤ g l i ∧ g l i ≤ 255 := h.at_ i
theorem Oct.drop {l : List Int} (h : Oct l) (n : Nat) : Oct (l.drop n) := fun x hx => h x (List.mem_of_mem_drop hx)
theorem Oct.take {l : List Int} (h : Oct l) (n : Nat) : Oct (l.take n) := fun x hx => h x (List.mem_of_mem_take hx)
theorem get16_tells (l : List Int) (h : Oct l) (n n1 : Nat) (hn1 : n1 = n + 1) (hl : n + 2 ≤ l.length) : ipwire_get16.f (l.drop n) = some (g l n * 256 + g l n1) := by
  subst hn1
  unfold ipwire_get16.f
  have e0 : rd (l.drop n) 0 = g l n := (rd_g (l.drop n) 0).trans (g_drop l n 0)
  have e1 : rd (l.drop n) 1 = g l (n + 1) := (rd_g (l.drop n) 1).trans (g_drop l n 1)
  have h0 := h.g n
  have h1 := h.g (n + 1)
  rw [if_pos (by rw [List.length_drop]; omega), if_pos (by rw [List.length_drop]; omega), e0, e1, w64 (x := g l n) (by omega) (by omega), w64 (x := g l n * 256) (by omega) (by omega), w64 (x := g l (n + 1)) (by omega) (by omega), or8 h0.1 h0.2 h1.1 h1.2]
def g32 (l : List Int) (n : Nat) : Int := (g l n * 256 + g l (n + 1)) * 65536 + (g l (n + 2) * 256 + g l (n + 3))
theorem get32_tells (l : List Int) (h : Oct l) (n : Nat) (hl : n + 4 ≤ l.length) : ipwire_get32.f (l.drop n) = some (g32 l n) := by
  unfold ipwire_get32.f
  have h0 := h.g n
  have h1 := h.g (n + 1)
  have h2 := h.g (n + 2)
  have h3 := h.g (n + 3)
  have q := get16_tells l h (n + 2) (n + 3) rfl (by omega)
  rw [get16_tells l h n (n + 1) rfl (by omega), Option.bind_some, if_pos (by rw [List.length_drop]; omega), List.drop_drop, q, Option.bind_some]
  congr 1
  unfold g32
  rw [Int.emod_eq_of_lt (a := g l n * 256 + g l (n + 1)) (by omega) (by omega), Int.emod_eq_of_lt (a := (g l n * 256 + g l (n + 1)) * 65536) (by omega) (by omega), Int.emod_eq_of_lt (a := g l (n + 2) * 256 + g l (n + 3)) (by omega) (by omega),
    or32 (by omega) (by omega) (by omega) (by omega)]
def perr (e : Int) : Int × Int × Bool × Bool × Int × Int × Int × Int × Int × List Int × List Int × Int := (0, 0, false, false, 0, 0, 0, 0, 0, [], [], e)
def pok (l : List Int) (s a : Nat) : Int × Int × Bool × Bool × Int × Int × Int × Int × Int × List Int × List Int × Int :=
  (g l 1, g l 4 * 256 + g l 5, decide ((g l 6 * 256 + g l 7) / 16384 % 2 = 1), decide ((g l 6 * 256 + g l 7) / 8192 % 2 = 1), (g l 6 * 256 + g l 7) % 8192 * 8, g l 8, g l 9, g32 l 12, g32 l 16, (l.take s).drop 20, (l.take a).drop s, 0)
theorem parse_short (k : Nat) (l : List Int) (hl : l.length < 20) : ipwire_Parse.f k l = some (perr 8) := by
  unfold ipwire_Parse.f
  rw [if_pos (by omega)]
  rfl
theorem parse_ver (k : Nat) (l : List Int) (hl : 20 ≤ l.length) (hv : g l 0 / 16 ≠ 4) : ipwire_Parse.f k l = some (perr 41) := by
  unfold ipwire_Parse.f
  have e0 : rd l 0 = g l 0 := rd_g l 0
  rw [if_neg (by omega), if_pos (by omega), e0, if_neg hv]
  rfl
theorem and15 {x : Int} (h : 0 ≤ x ∧ x ≤ 255) : wrap64 (wrap64 (Go.bits .and .u8 x 15) * 4) = x % 16 * 4 := by
  rw [u8_and15 x h.1 (by omega), w64 (x := x % 16) (by omega) (by omega), w64 (by omega) (by omega)]
theorem parse_j (k : Nat) (l : List Int) (h : Oct l) (hl : 20 ≤ l.length) (hv : g l 0 / 16 = 4) :
    ipwire_Parse.f k l = ipwire_Parse.j0 k l (g l 0 % 16 * 4) (g l 2 * 256 + g l 3) (decide (g l 0 % 16 * 4 < 20 ∨ g l 2 * 256 + g l 3 < g l 0 % 16 * 4 ∨ g l 0 % 16 * 4 > l.length ∨ g l 2 * 256 + g l 3 > l.length)) := by
  unfold ipwire_Parse.f
  have e0 : rd l 0 = g l 0 := rd_g l 0
  rw [if_neg (by omega), if_pos (by omega), e0, if_pos hv, if_pos (by omega), get16_tells l h 2 3 rfl (by omega), Option.bind_some, and15 (h.g 0)]
  show (if g l 0 % 16 * 4 < 20 then _ else if g l 2 * 256 + g l 3 < g l 0 % 16 * 4 then _ else _) = _
  by_cases h1 : g l 0 % 16 * 4 < 20
  · rw [if_pos h1, decide_eq_true (Or.inl h1)]
  rw [if_neg h1]
  by_cases h2 : g l 2 * 256 + g l 3 < g l 0 % 16 * 4
  · rw [if_pos h2, decide_eq_true (Or.inr (Or.inl h2))]
  rw [if_neg h2]
  congr 1
  apply decide_eq_decide.2
  unfold mx
  constructor
  · intro h3
    split at h3 <;> omega
  · intro h3
    split <;> omega
theorem parse_len (k : Nat) (hk : 1 ≤ k) (l : List Int) (h : Oct l) (hl : 20 ≤ l.length) (hv : g l 0 / 16 = 4) (hb : g l 0 % 16 * 4 < 20 ∨ g l 2 * 256 + g l 3 < g l 0 % 16 * 4 ∨ g l 0 % 16 * 4 > l.length ∨ g l 2 * 256 + g l 3 > l.length) : ipwire_Parse.f k l = some (perr 42) := by
  obtain ⟨k, rfl⟩ : ∃ m, k = m + 1 := ⟨k - 1, by omega⟩
  rw [parse_j _ l h hl hv, decide_eq_true hb]
  simp only [ipwire_Parse.j0, if_true]
  rfl
theorem parse_sum (k : Nat) (hk : 7 ≤ k) (l : List Int) (h : Oct l) (hl : 20 ≤ l.length) (hl' : l.length ≤ 140737488355327) (hv : g l 0 / 16 = 4) (hb : ¬ (g l 0 % 16 * 4 < 20 ∨ g l 2 * 256 + g l 3 < g l 0 % 16 * 4 ∨ g l 0 % 16 * 4 > l.length ∨ g l 2 * 256 + g l 3 > l.length))
    (hs : fv (wsum (l.take (g l 0 % 16 * 4).toNat)) ≠ 65535) : ipwire_Parse.f k l = some (perr 21) := by
  obtain ⟨k, rfl⟩ : ∃ m, k = m + 1 := ⟨k - 1, by omega⟩
  rw [parse_j _ l h hl hv, decide_eq_false hb]
  have h0 := h.g 0
  simp only [ipwire_Parse.j0, Bool.false_eq_true, if_false]
  rw [if_pos (by omega), if_pos (by omega), right_tells k (by omega) _ (h.take _) (by rw [List.length_take]; omega), Option.bind_some, decide_eq_false hs, if_neg (by decide)]
  rfl
theorem parse_ok (k : Nat) (hk : 7 ≤ k) (l : List Int) (h : Oct l) (hl : 20 ≤ l.length) (hl' : l.length ≤ 140737488355327) (hv : g l 0 / 16 = 4) (hb : ¬ (g l 0 % 16 * 4 < 20 ∨ g l 2 * 256 + g l 3 < g l 0 % 16 * 4 ∨ g l 0 % 16 * 4 > l.length ∨ g l 2 * 256 + g l 3 > l.length))
    (hs : fv (wsum (l.take (g l 0 % 16 * 4).toNat)) = 65535) : ipwire_Parse.f k l = some (pok l (g l 0 % 16 * 4).toNat (g l 2 * 256 + g l 3).toNat) := by
  obtain ⟨k, rfl⟩ : ∃ m, k = m + 1 := ⟨k - 1, by omega⟩
  rw [parse_j _ l h hl hv, decide_eq_false hb]
  have h0 := h.g 0
  have h4 := h.g 4
  have h5 := h.g 5
  have h6 := h.g 6
  have h7 := h.g 7
  have e1 : rd l 1 = g l 1 := rd_g l 1
  have e8 : rd l 8 = g l 8 := rd_g l 8
  have e9 : rd l 9 = g l 9 := rd_g l 9
  simp only [ipwire_Parse.j0, Bool.false_eq_true, if_false]
  rw [if_pos (by omega), if_pos (by omega), right_tells k (by omega) _ (h.take _) (by rw [List.length_take]; omega), Option.bind_some, decide_eq_true hs, if_pos rfl, if_pos (by omega), get16_tells l h 6 7 rfl (by omega), Option.bind_some, if_pos (by omega), if_pos (by omega),
    get16_tells l h 4 5 rfl (by omega), Option.bind_some, if_pos (by omega), if_pos (by omega), if_pos (by omega), get32_tells l h 12 (by omega), Option.bind_some, if_pos (by omega), get32_tells l h 16 (by omega), Option.bind_some, if_pos (by omega)]
  unfold bytes_Clone.f
  rw [if_pos (by rw [List.length_drop, List.length_take]; omega), Option.bind_some, if_pos (by omega), if_pos (by omega), if_pos (by rw [List.length_drop, List.length_take]; omega), Option.bind_some, e1, e8, e9]
  have b14 := and_bit 14 (by decide) (x := g l 6 * 256 + g l 7) (by omega) (by omega)
  have b13 := and_bit 13 (by decide) (x := g l 6 * 256 + g l 7) (by omega) (by omega)
  have m13 := and_low 13 (by decide) (x := g l 6 * 256 + g l 7) (by omega) (by omega)
  have s14 : ((2 ^ 14 : Nat) : Int) = 16384 := by decide
  have s13 : ((2 ^ 13 : Nat) : Int) = 8192 := by decide
  have t13 : (2 : Int) ^ 13 - 1 = 8191 := by decide
  have u13 : (2 : Int) ^ 13 = 8192 := by decide
  rw [s14] at b14
  rw [s13] at b13
  rw [t13, u13] at m13
  show some (g l 1, IntKind.u16.wrap (g l 4 * 256 + g l 5), (Go.bits .and .i64 (g l 6 * 256 + g l 7) 16384 != 0), (Go.bits .and .i64 (g l 6 * 256 + g l 7) 8192 != 0), wrap64 (Go.bits .and .i64 (g l 6 * 256 + g l 7) 8191 * 8), g l 8, g l 9, g32 l 12, g32 l 16, _, _, 0) = _
  rw [b14, b13, m13, u16i (by omega) (by omega), w64 (by omega) (by omega)]
  rfl
theorem alive_tells (k : Nat) (hk : 40 ≤ k) : stopcocklaw04_alive.f k = some true :=
  at_rounds (g := stopcocklaw04_alive.f) (fun k => stopcocklaw04_alive.mono k) hk (by decide +kernel)
end Go.Proofs.Ytghfljmoaalinaa.Pure
