-- written for this claim out of the program's translation by a program (wip/pr.sh); Lean checks it
import Derived.Test.YtghfljmoaalinaaQ0
import Derived.Test.YtghfljmoaalinaaQ1
import Derived.Test.YtghfljmoaalinaaQ3
import Derived.Laws.IdiomCopy
import Derived.Deep.RegionHeld3
import Derived.Deep.RegionWith
namespace Go.Proofs.Ytghfljmoaalinaa.Q
open Go.RowKit Go.Proofs.YtghfljmoaalinaaW.PrintWords Go.Proofs.YtghfljmoaalinaaW.PrintLast Go.Proofs.YtghfljmoaalinaaW.PrintMore
attribute [local go_sem] max2_int min2_int max_two min_two max_three min_three max_four min_four   -- for this text's walks alone
set_option linter.unusedVariables false
set_option linter.unusedSimpArgs false

/-! ### ipwire_Build: function 8 -/
-- GIVENPART
-- IMPORT Derived.Laws.IdiomCopy
-- IMPORT Derived.Deep.RegionHeld3
-- IMPORT Derived.Deep.RegionWith
/-- What stands while a packet is built: the parameter's box, and the octets. -/
structure BI (w W : World) (gb g : Nat) (cs : Array Value) (t : TypeId) (cap n : Nat) (L : List Int) : Prop where
  HB : Below w.heap.size w W
  BK : W.heap[gb]? = some (.cells cs t (0, 0))
  HO : Kd.R (Kd.int .u8) 5 W w.heap.size (fun k => k ≠ gb) (.slice (some ⟨g, 0, none⟩) n cap) L
  hg : w.heap.size ≤ g
  hgb : gb ≠ g
  len : L.length = n
theorem BI.put {w W : World} {gb g : Nat} {cs : Array Value} {t : TypeId} {cap n : Nat} {L : List Int} (h : BI w W gb g cs t cap n L) (i : Nat) (x : Int) : BI w (W.setCell ⟨g, i, none⟩ (.int .u8 x)) gb g cs t cap n (L.set i x) := by
  have hp := (Kd.R_putg h.HO (i : Int) x).1
  rw [Int.toNat_natCast] at hp
  refine ⟨below_set h.HB h.hg, (Below.heap_setCell W ⟨g, i, none⟩ _ gb h.hgb).trans h.BK, hp, h.hg, h.hgb, by rw [List.length_set]; exact h.len⟩
theorem BI.drew {w W : World} {gb g : Nat} {cs : Array Value} {t : TypeId} {cap n : Nat} {L : List Int} (h : BI w W gb g cs t cap n L) : BI w W.drew gb g cs t cap n L :=
  ⟨h.HB.drew, h.BK, Kd.R_drew h.HO, h.hg, h.hgb, h.len⟩
theorem BI.cell {w W : World} {gb g : Nat} {cs : Array Value} {t : TypeId} {cap n : Nat} {L : List Int} (h : BI w W gb g cs t cap n L) (i : Nat) (hi : i < n) : (W.cell? ⟨g, i, none⟩ = some (.int .u8 (L.getD i 0))) ∧ W.frozen? ⟨g, i, none⟩ = false := by
  have := Kd.R_celln 0 h.HO (i : Int) (by omega) (by omega)
  rw [Int.toNat_natCast] at this
  exact this
/-- Two octets at a place. -/
def put16v (L : List Int) (lo : Nat) (a : Int) : List Int := (L.set lo (a / 256 % 256)).set (lo + 1) (a % 256)
theorem put16v_length (L : List Int) (lo : Nat) (a : Int) : (put16v L lo a).length = L.length := by simp [put16v]
/-- A box of 11 cells, cell by cell. -/
theorem box11 {W : World} {gb : Nat} {t : TypeId} {c0 c1 c2 c3 c4 c5 c6 c7 c8 c9 c10 : Value} (h : W.heap[gb]? = some (.cells #[c0, c1, c2, c3, c4, c5, c6, c7, c8, c9, c10] t (0, 0))) :
    W.cell? ⟨gb, 0, none⟩ = some c0 ∧ W.cell? ⟨gb, 1, none⟩ = some c1 ∧ W.cell? ⟨gb, 2, none⟩ = some c2 ∧ W.cell? ⟨gb, 3, none⟩ = some c3 ∧ W.cell? ⟨gb, 4, none⟩ = some c4 ∧ W.cell? ⟨gb, 5, none⟩ = some c5 ∧ W.cell? ⟨gb, 6, none⟩ = some c6 ∧ W.cell? ⟨gb, 7, none⟩ = some c7 ∧ W.cell? ⟨gb, 8, none⟩ = some c8 ∧ W.cell? ⟨gb, 9, none⟩ = some c9 ∧ W.cell? ⟨gb, 10, none⟩ = some c10 :=
  ⟨(blk_cell h 0).trans rfl, (blk_cell h 1).trans rfl, (blk_cell h 2).trans rfl, (blk_cell h 3).trans rfl, (blk_cell h 4).trans rfl, (blk_cell h 5).trans rfl, (blk_cell h 6).trans rfl, (blk_cell h 7).trans rfl, (blk_cell h 8).trans rfl, (blk_cell h 9).trans rfl, (blk_cell h 10).trans rfl⟩
theorem put16_at {w W : World} {gb g : Nat} {cs : Array Value} {t : TypeId} {cap n : Nat} {L : List Int} (h : BI w W gb g cs t cap n L) (lo n' c' : Nat) (a : Int) (hlo : lo + 1 < n) (hn : 2 ≤ n') :
    Calls Try.prog 19 #[.slice (some ⟨g, lo, none⟩) n' c', .int .i64 a] W fun e W' => e = .returned (.tuple #[]) ∧ BI w W' gb g cs t cap n (put16v L lo a) := by
  obtain ⟨hx0, hf0⟩ := h.cell lo (by omega)
  obtain ⟨hx1, hf1⟩ := h.cell (lo + 1) hlo
  have hn0 : (0 : Int) < (n' : Int) := by omega
  have hn1 : (1 : Int) < (n' : Int) := by omega
  have hH := Aside0.mk h
  clear h
  go_enter Try.func19, Try.ntmps19
  go_wp2
  go_end0
  exact ⟨rfl, (hH.out.put lo _).put (lo + 1) _⟩
def put32v (L : List Int) (lo : Nat) (n : Int) : List Int := put16v (put16v L lo (wrap64 (n / 65536))) (lo + 2) (wrap64 (Go.bits .and .u32 n 65535))
theorem put32v_length (L : List Int) (lo : Nat) (a : Int) : (put32v L lo a).length = L.length := by simp [put32v, put16v_length]
theorem put32_at {w W : World} {gb g : Nat} {cs : Array Value} {t : TypeId} {cap n : Nat} {L : List Int} (h : BI w W gb g cs t cap n L) (lo n' c' : Nat) (a : Int) (hlo : lo + 3 < n) (hn : 4 ≤ n') (hc : n' ≤ c') :
    Calls Try.prog 20 #[.slice (some ⟨g, lo, none⟩) n' c', .int .u32 a] W fun e W' => e = .returned (.tuple #[]) ∧ BI w W' gb g cs t cap n (put32v L lo a) := by
  have hn2 : (2 : Int) ≤ (n' : Int) := by omega
  have hc2 : (n' : Int) ≤ (c' : Int) := by omega
  have hH := Aside0.mk h
  clear h
  have hL := Aside0.mk hlo
  go_enter Try.func20, Try.ntmps20
  go_wp2_with (go_at_call 19; refine Calls.mono (put16_at hH.out _ _ _ _ (by have := hL.out; omega) (by omega)) ?_; rintro e w' ⟨rfl, h'⟩; have n1_ := Aside0.mk h'; clear hH h'; have hH := n1_; clear n1_)
  go_end0
  exact ⟨rfl, hH.out⟩
theorem make_BI0 {w W : World} {gb : Nat} {cs : Array Value} {t : TypeId} (HB : Below w.heap.size w W) (BK : W.heap[gb]? = some (.cells cs t (0, 0))) (n m : Nat) (hnm : n ≤ m) (hm : m ≤ 281474976710656) :
    BI w (W.alloc (.cells (madeCells (Value.int .u8 0).cells (m * 1)) 5)) gb W.heap.size cs t m n (List.replicate n 0) := by
  have hlt : gb < W.heap.size := blk_lt BK
  have h2 := World.ownsRow_lit (base := w.heap.size) (e := 5) (size := 1) W (madeCells (Value.int .u8 0).cells (m * 1)) m HB.size (by simp only [maxLen]; omega) (by simp [size_madeCells])
  have hb := below_alloc (Below.refl W.heap.size W) (.cells (madeCells (Value.int .u8 0).cells (m * 1)) 5)
  have hR : Kd.R (Kd.int .u8) 5 (W.alloc (.cells (madeCells (Value.int .u8 0).cells (m * 1)) 5)) w.heap.size (fun k => k ≠ gb) (.slice (some ⟨W.heap.size, 0, none⟩) m m) (List.replicate m 0) := by
    refine ⟨fun k hk => ?_, _, ?_, Kd.reps_made (z := .int .u8 0) (by rfl) (by decide) (by exact rfl) m⟩
    · have : W.heap.size = k := by simpa [Value.ownBlock] using hk
      omega
    · rw [List.length_replicate]
      exact h2
  have hT := Kd.R_take hR (m := n) (by simp; omega)
  rw [List.take_replicate, Nat.min_eq_left hnm] at hT
  exact ⟨below_step HB hb, blk_below BK hb, hT, HB.size, by omega, List.length_replicate⟩
theorem make_BI {w W : World} {gb : Nat} {cs : Array Value} {t : TypeId} (HB : Below w.heap.size w W) (BK : W.heap[gb]? = some (.cells cs t (0, 0))) (n m : Nat) (hnm : n ≤ m) (hm : m ≤ 281474976710656) :
    BI w (W.alloc (.cells (madeCells #[.int .u8 0] m) 5)) gb W.heap.size cs t m n (List.replicate n 0) := by
  have h := make_BI0 HB BK n m hnm hm
  rw [Nat.mul_one] at h
  exact h
theorem set_cut (L : List Int) (o m : Nat) (x : Int) (ho : o < L.length) : (L.set o x).take (o + 1) = L.take o ++ [x] ∧ (L.set o x).drop (o + 1 + m) = L.drop (o + 1 + m) := by
  constructor
  · apply List.ext_getElem?
    intro i
    rw [List.getElem?_take, List.getElem?_append, List.getElem?_set, List.length_take, Nat.min_eq_left (by omega)]
    by_cases h1 : i < o
    · rw [if_pos (by omega), if_neg (by omega), if_pos h1, List.getElem?_take, if_pos h1]
    · by_cases h2 : i = o
      · subst h2
        simp [ho]
      · rw [if_neg (by omega), if_neg h1, List.getElem?_eq_none (by simp; omega)]
  · rw [List.drop_set_of_lt (by omega)]
theorem BI.puts {w : World} {gb g : Nat} {cs : Array Value} {t : TypeId} {cap n : Nat} : ∀ (xs : List Int) (o : Nat) {W : World} {L : List Int}, BI w W gb g cs t cap n L → o + xs.length ≤ n → BI w (W.setCells g o (xs.map (Value.int .u8))) gb g cs t cap n (L.take o ++ xs ++ L.drop (o + xs.length))
  | [], o, W, L, h, _ => by
    simp only [List.map_nil, World.setCells, List.append_nil, List.length_nil, Nat.add_zero, List.take_append_drop]
    exact h
  | x :: xs, o, W, L, h, hn => by
    simp only [List.length_cons] at hn
    have hlen := h.len
    have h2 := BI.puts xs (o + 1) (h.put o x) (by omega)
    obtain ⟨e1, e2⟩ := set_cut L o xs.length x (by omega)
    rw [e1, e2] at h2
    have e3 : L.take o ++ x :: xs ++ L.drop (o + (xs.length + 1)) = L.take o ++ [x] ++ xs ++ L.drop (o + 1 + xs.length) := by
      rw [show o + (xs.length + 1) = o + 1 + xs.length by omega]
      simp
    simp only [List.map_cons, World.setCells, List.length_cons]
    rw [e3]
    exact h2
theorem copy_at {w W : World} {gb g : Nat} {cs : Array Value} {t : TypeId} {cap n : Nat} {L : List Int} (h : BI w W gb g cs t cap n L) (A : Option Addr) (c : Nat) (l : List Int) (hr : Kd.C (Kd.int .u8) W A l.length l) (o dl dc ty : Nat) (hd : dl = l.length) (hn : o + l.length = n) :
    (Builtin.copy_ #[24, 24] ty #[.slice (some ⟨g, o, none⟩) dl dc, .slice A l.length c]).run Try.prog W = .ok (goInt l.length) (W.setCells g o (l.map (Value.int .u8))) ∧
      BI w (W.setCells g o (l.map (Value.int .u8))) gb g cs t cap n (L.take o ++ l) := by
  obtain ⟨i5, hi5, hz5⟩ := Option.map_eq_some_iff.1 info5
  simp only [Prod.mk.injEq] at hz5
  have hsz : (Try.prog.info? 5).map (·.size) = some 1 := by rw [hi5]; exact congrArg some hz5.2.1
  have hlen := h.len
  refine ⟨?_, ?_⟩
  · subst hd
    rcases Nat.eq_zero_or_pos l.length with h0 | h0
    · obtain rfl : l = [] := List.eq_nil_of_length_eq_zero h0
      exact run_copy_none W 24 24 ty 5 _ A 0 dc 0 c Try.underlying24 hsz rfl
    · obtain ⟨ad, rfl, hcell⟩ := hr.2.2 h0
      have := run_copy_cells W 24 24 ty 5 g o l.length dc ad l.length c (l.map (Value.int .u8)) Try.underlying24 hsz (by rw [List.length_map]; exact (Nat.min_self _).symm) ?_ ?_ ?_ ?_
      · rw [List.length_map] at this
        exact this
      · intro j v hv
        obtain ⟨p, hp, rfl⟩ := List.getElem?_map .. ▸ hv |> Option.map_eq_some_iff.1
        obtain ⟨c, hc1, hc2, hc3⟩ := hcell j p hp
        have e : c = [.int .u8 p] := hc2
        subst e
        have := hc3 0 _ rfl
        simpa only [show (Kd.int .u8).sz = 1 from rfl, Nat.mul_one, Nat.add_zero] using this
      · intro j hj
        rw [List.length_map] at hj
        rw [(h.cell (o + j) (by omega)).1]
        rfl
      · intro j hj
        rw [List.length_map] at hj
        exact (h.cell (o + j) (by omega)).2
      · intro v hv
        obtain ⟨x, _, rfl⟩ := List.mem_map.1 hv
        rfl
  · have h2 := h.puts l o (by omega)
    rw [List.drop_eq_nil_of_le (by omega), List.append_nil] at h2
    exact h2
theorem copy_at2 {w W : World} {gb g : Nat} {cs : Array Value} {t : TypeId} {cap n : Nat} {L : List Int} (h : BI w W gb g cs t cap n L) (A : Option Addr) (c : Nat) (l : List Int) (hr : Kd.C (Kd.int .u8) W A l.length l) (o dc ty : Nat) (B : Option Addr) (hB : B = some ⟨g, o, none⟩ ∨ l.length = 0) (hn : o + l.length = n) :
    (Builtin.copy_ #[24, 24] ty #[.slice B l.length dc, .slice A l.length c]).run Try.prog W = .ok (goInt l.length) (W.setCells g o (l.map (Value.int .u8))) ∧
      BI w (W.setCells g o (l.map (Value.int .u8))) gb g cs t cap n (L.take o ++ l) := by
  have h1 := copy_at h A c l hr o l.length dc ty rfl hn
  rcases hB with rfl | h0
  · exact h1
  · refine ⟨?_, h1.2⟩
    obtain rfl : l = [] := List.eq_nil_of_length_eq_zero h0
    obtain ⟨i5, hi5, hz5⟩ := Option.map_eq_some_iff.1 info5
    simp only [Prod.mk.injEq] at hz5
    have hsz : (Try.prog.info? 5).map (·.size) = some 1 := by rw [hi5]; exact congrArg some hz5.2.1
    exact run_copy_none W 24 24 ty 5 B A 0 dc 0 c Try.underlying24 hsz rfl
theorem BI.as {w W : World} {gb g : Nat} {cs : Array Value} {t : TypeId} {cap n : Nat} {L L' : List Int} (h : BI w W gb g cs t cap n L) (e : L' = L) : BI w W gb g cs t cap n L' := by
  rw [e]
  exact h
theorem BI.below {w W W' : World} {gb g : Nat} {cs : Array Value} {t : TypeId} {cap n : Nat} {L : List Int} (h : BI w W gb g cs t cap n L) (hb : Below W.heap.size W W') : BI w W' gb g cs t cap n L :=
  ⟨below_step h.HB hb, blk_below h.BK hb, Kd.R_below h.HO hb, h.hg, h.hgb, h.len⟩
/-- The page's third word. -/
def bWord : Bool → Bool → Int → Int
  | false, false, x => x / 8
  | true, false, x => Go.bits .or .i64 (x / 8) 16384
  | false, true, x => Go.bits .or .i64 (x / 8) 8192
  | true, true, x => Go.bits .or .i64 (Go.bits .or .i64 (x / 8) 16384) 8192
/-- A header, its checksum 0 yet. -/
def bHead (a0 a1 : Int) (a2 a3 : Bool) (a4 a5 a6 a7 a8 : Int) (opts : List Int) (m : Nat) : List Int :=
  (put32v (put32v (((put16v (put16v (put16v (((List.replicate (20 + opts.length) 0).set 0 (Go.bits .or .i64 64 ((20 + (opts.length : Int)) / 4) % 256)).set 1 a0) 2 (IntKind.i64.wrap (20 + (opts.length : Int) + (m : Int)))) 4 (IntKind.i64.wrap a1)) 6 (bWord a2 a3 a4)).set 8 a5).set 9 a6) 12 a7) 16 a8).take 20 ++ opts
set_option maxHeartbeats 8000000 in
set_option maxRecDepth 100000 in
theorem build_walk (k : Nat) (a0 a1 : Int) (a2 a3 : Bool) (a4 a5 a6 a7 a8 : Int) (A9 : Option Addr) (c9 : Nat) (l9 : List Int) (A10 : Option Addr) (c10 : Nat) (l10 : List Int) (C : Int) (w : World)
    (hr9 : Kd.C (Kd.int .u8) w A9 l9.length l9) (hc9 : l9.length ≤ c9) (hr10 : Kd.C (Kd.int .u8) w A10 l10.length l10) (hc10 : l10.length ≤ c10)
    (hck : ipwire_Check.f k a0 a1 a2 a3 a4 a5 a6 a7 a8 l9 l10 = some 0) (hsz : l9.length + l10.length ≤ 65515) (hC : checksum_Check.f k (bHead a0 a1 a2 a3 a4 a5 a6 a7 a8 l9 l10.length) = some C) :
    Calls Try.prog 8 #[.agg #[.int .u8 a0, .int .u16 a1, .bool a2, .bool a3, .int .i64 a4, .int .u8 a5, .int .u8 a6, .int .u32 a7, .int .u32 a8, .slice A9 l9.length c9, .slice A10 l10.length c10]] w
      fun e w' => ∃ v0_ : Value, e = .returned (.tuple #[v0_, .int .i64 0]) ∧ Kd.R (Kd.int .u8) 5 w' w.heap.size (fun _ => True) v0_ (put16v (bHead a0 a1 a2 a3 a4 a5 a6 a7 a8 l9 l10.length) 10 (IntKind.i64.wrap C) ++ l10) ∧ Below w.heap.size w w' := by
  obtain ⟨i5, hi5, hz5⟩ := Option.map_eq_some_iff.1 info5
  have hmk : ∀ W, (Instr.makeSlice 24 (.int .i64 (20 + (l9.length : Int))) (.int .i64 (20 + (l9.length : Int) + (l10.length : Int)))).run Try.prog W = .ok (.slice (some ⟨W.heap.size, 0, none⟩) (20 + l9.length) (20 + l9.length + l10.length)) (W.alloc (.cells (madeCells (Value.int .u8 0).cells ((20 + l9.length + l10.length) * 1)) 5)) := fun W => by
    simp only [Prod.mk.injEq] at hz5
    have h1 := run_make (P := Try.prog) W 24 5 i5 _ Try.underlying24 hi5 hz5.1 .i64 .i64 (20 + (l9.length : Int)) (20 + (l9.length : Int) + (l10.length : Int)) (by omega) (by omega) (by rw [hz5.2.2]; omega) (by omega)
    rw [hz5.2.1, show (20 + (l9.length : Int)).toNat = 20 + l9.length by omega, show (20 + (l9.length : Int) + (l10.length : Int)).toNat = 20 + l9.length + l10.length by omega] at h1
    exact h1
  clear hi5 hz5
  have hu26 := Try.underlying26
  have HR9 := Aside0.mk hr9
  have HR10 := Aside0.mk hr10
  clear hr9 hr10
  have HB := Aside0.mk (Below.refl w.heap.size w)
  have hck' := Aside0.mk hck
  obtain ⟨LB, hLB0⟩ : ∃ LB, LB = bHead a0 a1 a2 a3 a4 a5 a6 a7 a8 l9 l10.length := ⟨_, rfl⟩
  rw [← hLB0] at hC
  rw [← hLB0]
  have hLB := Aside0.mk hLB0
  clear hLB0
  have hC2 := Aside0.mk hC
  clear hC
  clear hck
  go_enter Try.func8, Try.ntmps8
  go_wp2_with (first | ((with_reducible refine gate_dst (N := 1) rfl ?_); refine box_event ?hg (N := 1) ?hd (cs := #[.int .u8 a0, .int .u16 a1, .bool a2, .bool a3, .int .i64 a4, .int .u8 a5, .int .u8 a6, .int .u32 a7, .int .u32 a8, .slice A9 l9.length c9, .slice A10 l10.length c10]) (t := 26) ?hr ?_; (case hd => rfl); (case hg => rfl); (case hr => first | (go_simp; done) | (go_simp; rfl)); intro gb hg w3 hbox hb; clear hg; have BK := Aside0.mk hbox; obtain ⟨z0, z1, z2, z3, z4, z5, z6, z7, z8, z9, z10⟩ := box11 hbox; have n0_ := Aside0.mk (below_step HB.out hb); clear HB; have HB := n0_; clear n0_) | (go_at_call 18; refine Calls.mono (ipwire_Check.calls k _ _ _ _ _ _ _ _ _ _ _ l9 _ _ l10 0 _ (Kd.C_below HR9.out (by exact hb)) hc9 (Kd.C_below HR10.out (by exact hb)) hc10 hck'.out) ?_; rintro e w' ⟨rfl, hb'⟩; have n0_ := Aside0.mk (below_step HB.out hb'); have n1_ := Aside0.mk (blk_below BK.out hb'); clear HB BK z0 z1 z2 z3 z4 z5 z6 z7 z8 z9 z10; have HB := n0_; have BK := n1_; clear n0_ n1_; obtain ⟨z0, z1, z2, z3, z4, z5, z6, z7, z8, z9, z10⟩ := box11 BK.out))
  have hH := make_BI HB.out BK.out (20 + l9.length) (20 + l9.length + l10.length) (by omega) (by omega)
  clear z0 z1 z2 z3 z4 z5 z6 z7 z8 z9 z10 hmk
  generalize (w'.alloc (.cells (madeCells #[.int .u8 0] (20 + l9.length + l10.length)) 5)) = W1 at hH ⊢
  generalize w'.heap.size = g at hH ⊢
  generalize hM0 : 20 + l9.length + l10.length = M at hH ⊢
  cases a2 <;> cases a3
  all_goals
    have ne1 := hH.hgb
    have ne2 := Ne.symm ne1
    have q0 : (0 : Int) < 20 + (l9.length : Int) := by omega
    have q1 : (1 : Int) < 20 + (l9.length : Int) := by omega
    have q8 : (8 : Int) < 20 + (l9.length : Int) := by omega
    have q9 : (9 : Int) < 20 + (l9.length : Int) := by omega
    have i2 : (2 : Int) ≤ 20 + (l9.length : Int) := by omega
    have i4 : (4 : Int) ≤ 20 + (l9.length : Int) := by omega
    have i6 : (6 : Int) ≤ 20 + (l9.length : Int) := by omega
    have i10 : (10 : Int) ≤ 20 + (l9.length : Int) := by omega
    have i12 : (12 : Int) ≤ 20 + (l9.length : Int) := by omega
    have i16 : (16 : Int) ≤ 20 + (l9.length : Int) := by omega
    have i20 : (20 : Int) ≤ 20 + (l9.length : Int) := by omega
    have j2 : (M = 2) = False := eq_false (by omega)
    have j4 : (M = 4) = False := eq_false (by omega)
    have j6 : (M = 6) = False := eq_false (by omega)
    have j10 : (M = 10) = False := eq_false (by omega)
    have j12 : (M = 12) = False := eq_false (by omega)
    have j16 : (M = 16) = False := eq_false (by omega)
    have ic : 20 + (l9.length : Int) ≤ (M : Int) := by omega
    have ic2 : 20 + l9.length ≤ M := by omega
    have hM := Aside0.mk hM0
    clear hM0
    obtain ⟨z0, z1, z2, z3, z4, z5, z6, z7, z8, z9, z10⟩ := box11 hH.BK
    obtain ⟨x0, f0⟩ := hH.cell 0 (by omega)
    obtain ⟨x1, f1⟩ := hH.cell 1 (by omega)
    go_region
    go_wp2
    clear z0 z1 z2 z3 z4 z5 z6 z7 z8 z9 z10 x0 f0 x1 f1
    replace hH := ((hH.put 0 (Go.bits .or .i64 64 ((20 + (l9.length : Int)) / 4) % 256)).put 1 (a0)).drew
    generalize hW : World.drew _ = W2 at hH ⊢
    clear hW
    obtain ⟨z0, z1, z2, z3, z4, z5, z6, z7, z8, z9, z10⟩ := box11 hH.BK
    replace hH := Aside0.mk hH
    go_region_with (go_at_call 19; (with_reducible refine Calls.mono (put16_at (by first | exact hH.out | exact hH.out.drew) _ _ _ _ ?h1 ?h2) ?_); (case h1 => omega); (case h2 => omega); rintro e w' ⟨rfl, h'⟩; clear z0 z1 z2 z3 z4 z5 z6 z7 z8 z9 z10; obtain ⟨z0, z1, z2, z3, z4, z5, z6, z7, z8, z9, z10⟩ := box11 h'.BK; have n1_ := Aside0.mk h'; clear hH h'; have hH := n1_; clear n1_)
    go_wp2_with (go_at_call 19; (with_reducible refine Calls.mono (put16_at (by first | exact hH.out | exact hH.out.drew) _ _ _ _ ?h1 ?h2) ?_); (case h1 => omega); (case h2 => omega); rintro e w' ⟨rfl, h'⟩; clear z0 z1 z2 z3 z4 z5 z6 z7 z8 z9 z10; obtain ⟨z0, z1, z2, z3, z4, z5, z6, z7, z8, z9, z10⟩ := box11 h'.BK; have n1_ := Aside0.mk h'; clear hH h'; have hH := n1_; clear n1_)
    replace hH := hH.out
    replace hH := Aside0.mk hH
    go_region_with (go_at_call 19; (with_reducible refine Calls.mono (put16_at (by first | exact hH.out | exact hH.out.drew) _ _ _ _ ?h1 ?h2) ?_); (case h1 => omega); (case h2 => omega); rintro e w' ⟨rfl, h'⟩; clear z0 z1 z2 z3 z4 z5 z6 z7 z8 z9 z10; obtain ⟨z0, z1, z2, z3, z4, z5, z6, z7, z8, z9, z10⟩ := box11 h'.BK; have n1_ := Aside0.mk h'; clear hH h'; have hH := n1_; clear n1_)
    go_wp2_with (go_at_call 19; (with_reducible refine Calls.mono (put16_at (by first | exact hH.out | exact hH.out.drew) _ _ _ _ ?h1 ?h2) ?_); (case h1 => omega); (case h2 => omega); rintro e w' ⟨rfl, h'⟩; clear z0 z1 z2 z3 z4 z5 z6 z7 z8 z9 z10; obtain ⟨z0, z1, z2, z3, z4, z5, z6, z7, z8, z9, z10⟩ := box11 h'.BK; have n1_ := Aside0.mk h'; clear hH h'; have hH := n1_; clear n1_)
    replace hH := hH.out
    obtain ⟨x0, f0⟩ := hH.cell 8 (by omega)
    obtain ⟨x1, f1⟩ := hH.cell 9 (by omega)
    go_region
    go_wp2
    clear z0 z1 z2 z3 z4 z5 z6 z7 z8 z9 z10 x0 f0 x1 f1
    replace hH := ((hH.put 8 (a5)).put 9 (a6)).drew
    generalize hW : World.drew _ = W2 at hH ⊢
    clear hW
    obtain ⟨z0, z1, z2, z3, z4, z5, z6, z7, z8, z9, z10⟩ := box11 hH.BK
    replace hH := Aside0.mk hH
    go_region_with (go_at_call 20; (with_reducible refine Calls.mono (put32_at (by first | exact hH.out | exact hH.out.drew) _ _ _ _ ?h1 ?h2 ?h3) ?_); (case h1 => omega); (case h2 => omega); (case h3 => omega); rintro e w' ⟨rfl, h'⟩; clear z0 z1 z2 z3 z4 z5 z6 z7 z8 z9 z10; obtain ⟨z0, z1, z2, z3, z4, z5, z6, z7, z8, z9, z10⟩ := box11 h'.BK; have n1_ := Aside0.mk h'; clear hH h'; have hH := n1_; clear n1_)
    go_wp2_with (go_at_call 20; (with_reducible refine Calls.mono (put32_at (by first | exact hH.out | exact hH.out.drew) _ _ _ _ ?h1 ?h2 ?h3) ?_); (case h1 => omega); (case h2 => omega); (case h3 => omega); rintro e w' ⟨rfl, h'⟩; clear z0 z1 z2 z3 z4 z5 z6 z7 z8 z9 z10; obtain ⟨z0, z1, z2, z3, z4, z5, z6, z7, z8, z9, z10⟩ := box11 h'.BK; have n1_ := Aside0.mk h'; clear hH h'; have hH := n1_; clear n1_)
    replace hH := hH.out
    replace hH := Aside0.mk hH
    go_region_with (go_at_call 20; (with_reducible refine Calls.mono (put32_at (by first | exact hH.out | exact hH.out.drew) _ _ _ _ ?h1 ?h2 ?h3) ?_); (case h1 => omega); (case h2 => omega); (case h3 => omega); rintro e w' ⟨rfl, h'⟩; clear z0 z1 z2 z3 z4 z5 z6 z7 z8 z9 z10; obtain ⟨z0, z1, z2, z3, z4, z5, z6, z7, z8, z9, z10⟩ := box11 h'.BK; have n1_ := Aside0.mk h'; clear hH h'; have hH := n1_; clear n1_)
    go_wp2_with (go_at_call 20; (with_reducible refine Calls.mono (put32_at (by first | exact hH.out | exact hH.out.drew) _ _ _ _ ?h1 ?h2 ?h3) ?_); (case h1 => omega); (case h2 => omega); (case h3 => omega); rintro e w' ⟨rfl, h'⟩; clear z0 z1 z2 z3 z4 z5 z6 z7 z8 z9 z10; obtain ⟨z0, z1, z2, z3, z4, z5, z6, z7, z8, z9, z10⟩ := box11 h'.BK; have n1_ := Aside0.mk h'; clear hH h'; have hH := n1_; clear n1_)
    replace hH := hH.out
    rcases Decidable.em (M = 20) with hz | hz
    · have h9 : l9.length = 0 := by omega
      have hcp := fun ty => copy_at2 hH.drew A9 c9 l9 (Kd.C_drew (Kd.C_below HR9.out hH.HB)) 20 (M - 20) ty (some ⟨g, 0, none⟩) (.inr h9) rfl
      have hz' := eq_true hz
      clear hz h9
      have hcp2 := (hcp 0).2
      have hcp1 := fun ty => (hcp ty).1
      clear hcp
      go_region
      go_wp2
      clear hcp1 z0 z1 z2 z3 z4 z5 z6 z7 z8 z9 z10
      replace hH := hcp2
      clear hcp2
      generalize World.setCells _ _ _ _ = W3 at hH ⊢
      obtain ⟨z0, z1, z2, z3, z4, z5, z6, z7, z8, z9, z10⟩ := box11 hH.BK
      replace hH := BI.as (L' := LB) hH hLB.out
      have hlen := Aside0.mk hH.len
      have hck2 : ∀ W, Kd.C (Kd.int .u8) W (some ⟨g, 0, none⟩) (20 + l9.length) LB → Calls Try.prog 21 #[.slice (some ⟨g, 0, none⟩) (20 + l9.length) M] W fun e w' => e = .returned (.int .u16 C) ∧ Below W.heap.size W w' := fun W hr => by
        have h1 := checksum_Check.calls k (some ⟨g, 0, none⟩) M LB C W (by rw [hlen.out]; exact hr) (by rw [hlen.out]; omega) hC2.out
        rw [hlen.out] at h1
        exact h1
      replace hH := Aside0.mk hH
      go_region_with (first | (go_at_call 21; (with_reducible refine Calls.mono (hck2 _ ?h1) ?_); (case h1 => first | exact (by have h_ := (Kd.R_reads' hH.out.HO).2.2; rw [hlen.out] at h_; exact h_) | exact (by have h_ := (Kd.R_reads' hH.out.drew.HO).2.2; rw [hlen.out] at h_; exact h_)); rintro e w' ⟨rfl, h'⟩; (first | have n1_ := Aside0.mk (hH.out.below h') | have n1_ := Aside0.mk (hH.out.drew.below h')); clear hH h'; have hH := n1_; clear n1_) | (go_at_call 19; (with_reducible refine Calls.mono (put16_at (by first | exact hH.out | exact hH.out.drew) _ _ _ _ ?h1 ?h2) ?_); (case h1 => omega); (case h2 => omega); rintro e w' ⟨rfl, h'⟩; clear z0 z1 z2 z3 z4 z5 z6 z7 z8 z9 z10; obtain ⟨z0, z1, z2, z3, z4, z5, z6, z7, z8, z9, z10⟩ := box11 h'.BK; have n1_ := Aside0.mk h'; clear hH h'; have hH := n1_; clear n1_))
      go_wp2_with (first | ((with_reducible refine gate_builtin (b := .append) (xs := #[.tmp 92, .tmp 94]) rfl ?_); at_builtin; refine Kd.R_append_rows (Kd.int .u8) (w0 := w) w.heap.size rfl (.tmp 92) (.tmp 94) 24 5 (.int .u8 0) 1 rfl Try.underlying24 info5 rfl (by decide) (by omega) (.slice (some ⟨g, 0, none⟩) (20 + l9.length) M) (put16v LB 10 (IntKind.i64.wrap C)) l10 _ _ _ (fun _ => True) (fun _ => False) rfl rfl ?aO ?aR (fun _ _ h => h) (fun _ h => h.elim) ?aF ?aB ?aS ?aL ?_; (case aR => exact Kd.C_below HR10.out hH.out.HB); (case aB => exact hH.out.HB); (case aF => exact (fun _ _ => trivial)); (case aO => exact Kd.R_mono hH.out.HO (fun _ _ => trivial)); (case aS => exact (below_size hH.out.HB)); (case aL => have h_ := hH.out.len; rw [h_]; omega); intro v142 w3 ho hb hg hat; have n0_ := Aside0.mk (hb); have n1_ := Aside0.mk (ho); clear HB; have HB := n0_; have HO143 := n1_; clear n0_ n1_; clear ho hb hg hat))
      go_ret2
      exact ⟨_, rfl, HO143.out, HB.out⟩
    · have hcp := fun ty => copy_at2 hH.drew A9 c9 l9 (Kd.C_drew (Kd.C_below HR9.out hH.HB)) 20 (M - 20) ty (some ⟨g, 20, none⟩) (.inl rfl) rfl
      have hz' := eq_false hz
      clear hz
      have hcp2 := (hcp 0).2
      have hcp1 := fun ty => (hcp ty).1
      clear hcp
      go_region
      go_wp2
      clear hcp1 z0 z1 z2 z3 z4 z5 z6 z7 z8 z9 z10
      replace hH := hcp2
      clear hcp2
      generalize World.setCells _ _ _ _ = W3 at hH ⊢
      obtain ⟨z0, z1, z2, z3, z4, z5, z6, z7, z8, z9, z10⟩ := box11 hH.BK
      replace hH := BI.as (L' := LB) hH hLB.out
      have hlen := Aside0.mk hH.len
      have hck2 : ∀ W, Kd.C (Kd.int .u8) W (some ⟨g, 0, none⟩) (20 + l9.length) LB → Calls Try.prog 21 #[.slice (some ⟨g, 0, none⟩) (20 + l9.length) M] W fun e w' => e = .returned (.int .u16 C) ∧ Below W.heap.size W w' := fun W hr => by
        have h1 := checksum_Check.calls k (some ⟨g, 0, none⟩) M LB C W (by rw [hlen.out]; exact hr) (by rw [hlen.out]; omega) hC2.out
        rw [hlen.out] at h1
        exact h1
      replace hH := Aside0.mk hH
      go_region_with (first | (go_at_call 21; (with_reducible refine Calls.mono (hck2 _ ?h1) ?_); (case h1 => first | exact (by have h_ := (Kd.R_reads' hH.out.HO).2.2; rw [hlen.out] at h_; exact h_) | exact (by have h_ := (Kd.R_reads' hH.out.drew.HO).2.2; rw [hlen.out] at h_; exact h_)); rintro e w' ⟨rfl, h'⟩; (first | have n1_ := Aside0.mk (hH.out.below h') | have n1_ := Aside0.mk (hH.out.drew.below h')); clear hH h'; have hH := n1_; clear n1_) | (go_at_call 19; (with_reducible refine Calls.mono (put16_at (by first | exact hH.out | exact hH.out.drew) _ _ _ _ ?h1 ?h2) ?_); (case h1 => omega); (case h2 => omega); rintro e w' ⟨rfl, h'⟩; clear z0 z1 z2 z3 z4 z5 z6 z7 z8 z9 z10; obtain ⟨z0, z1, z2, z3, z4, z5, z6, z7, z8, z9, z10⟩ := box11 h'.BK; have n1_ := Aside0.mk h'; clear hH h'; have hH := n1_; clear n1_))
      go_wp2_with (first | ((with_reducible refine gate_builtin (b := .append) (xs := #[.tmp 92, .tmp 94]) rfl ?_); at_builtin; refine Kd.R_append_rows (Kd.int .u8) (w0 := w) w.heap.size rfl (.tmp 92) (.tmp 94) 24 5 (.int .u8 0) 1 rfl Try.underlying24 info5 rfl (by decide) (by omega) (.slice (some ⟨g, 0, none⟩) (20 + l9.length) M) (put16v LB 10 (IntKind.i64.wrap C)) l10 _ _ _ (fun _ => True) (fun _ => False) rfl rfl ?aO ?aR (fun _ _ h => h) (fun _ h => h.elim) ?aF ?aB ?aS ?aL ?_; (case aR => exact Kd.C_below HR10.out hH.out.HB); (case aB => exact hH.out.HB); (case aF => exact (fun _ _ => trivial)); (case aO => exact Kd.R_mono hH.out.HO (fun _ _ => trivial)); (case aS => exact (below_size hH.out.HB)); (case aL => have h_ := hH.out.len; rw [h_]; omega); intro v142 w3 ho hb hg hat; have n0_ := Aside0.mk (hb); have n1_ := Aside0.mk (ho); clear HB; have HB := n0_; have HO143 := n1_; clear n0_ n1_; clear ho hb hg hat))
      go_ret2
      exact ⟨_, rfl, HO143.out, HB.out⟩

def ipwire_Build.f (k : Nat) (a0_0 a0_1 : Int) (a0_2 a0_3 : Bool) (a0_4 a0_5 a0_6 a0_7 a0_8 : Int) (l0_9 l0_10 : List Int) : Option (List Int × Int) :=
  (ipwire_Check.f k a0_0 a0_1 a0_2 a0_3 a0_4 a0_5 a0_6 a0_7 a0_8 l0_9 l0_10).bind fun e => if e = 0 then (if l0_9.length + l0_10.length ≤ 65515 then ((checksum_Check.f k (bHead a0_0 a0_1 a0_2 a0_3 a0_4 a0_5 a0_6 a0_7 a0_8 l0_9 l0_10.length)).bind fun c => some (put16v (bHead a0_0 a0_1 a0_2 a0_3 a0_4 a0_5 a0_6 a0_7 a0_8 l0_9 l0_10.length) 10 (IntKind.i64.wrap c) ++ l0_10, 0)) else none) else some (([] : List Int), e)
theorem ipwire_Build.mono : ∀ a0_0 a0_1 a0_2 a0_3 a0_4 a0_5 a0_6 a0_7 a0_8 l0_9 l0_10 k, LeO (ipwire_Build.f k a0_0 a0_1 a0_2 a0_3 a0_4 a0_5 a0_6 a0_7 a0_8 l0_9 l0_10) (ipwire_Build.f (k + 1) a0_0 a0_1 a0_2 a0_3 a0_4 a0_5 a0_6 a0_7 a0_8 l0_9 l0_10) := by
  intro a0_0 a0_1 a0_2 a0_3 a0_4 a0_5 a0_6 a0_7 a0_8 l0_9 l0_10 k
  unfold ipwire_Build.f
  refine LeO.bind (ipwire_Check.mono _ _ _ _ _ _ _ _ _ _ _ _) (fun _ => ?_)
  refine LeO.ite ?_ (LeO.refl _)
  refine LeO.ite ?_ (LeO.refl _)
  exact LeO.bind (checksum_Check.mono _ _) (fun _ => LeO.refl _)
set_option maxHeartbeats 8000000 in
set_option maxRecDepth 100000 in
theorem build_err (k : Nat) (a0 a1 : Int) (a2 a3 : Bool) (a4 a5 a6 a7 a8 : Int) (A9 : Option Addr) (c9 : Nat) (l9 : List Int) (A10 : Option Addr) (c10 : Nat) (l10 : List Int) (e0 : Int) (he0 : e0 ≠ 0) (w : World)
    (hr9 : Kd.C (Kd.int .u8) w A9 l9.length l9) (hc9 : l9.length ≤ c9) (hr10 : Kd.C (Kd.int .u8) w A10 l10.length l10) (hc10 : l10.length ≤ c10)
    (hck : ipwire_Check.f k a0 a1 a2 a3 a4 a5 a6 a7 a8 l9 l10 = some e0) :
    Calls Try.prog 8 #[.agg #[.int .u8 a0, .int .u16 a1, .bool a2, .bool a3, .int .i64 a4, .int .u8 a5, .int .u8 a6, .int .u32 a7, .int .u32 a8, .slice A9 l9.length c9, .slice A10 l10.length c10]] w
      fun e w' => e = .returned (.tuple #[.slice none 0 0, .int .i64 e0]) ∧ Below w.heap.size w w' := by
  have hu26 := Try.underlying26
  have HR9 := Aside0.mk hr9
  have HR10 := Aside0.mk hr10
  clear hr9 hr10
  have HB := Aside0.mk (Below.refl w.heap.size w)
  have hck' := Aside0.mk hck
  clear hck
  go_enter Try.func8, Try.ntmps8
  go_wp2_with (first | ((with_reducible refine gate_dst (N := 1) rfl ?_); refine box_event ?hg (N := 1) ?hd (cs := #[.int .u8 a0, .int .u16 a1, .bool a2, .bool a3, .int .i64 a4, .int .u8 a5, .int .u8 a6, .int .u32 a7, .int .u32 a8, .slice A9 l9.length c9, .slice A10 l10.length c10]) (t := 26) ?hr ?_; (case hd => rfl); (case hg => rfl); (case hr => first | (go_simp; done) | (go_simp; rfl)); intro gb hg w3 hbox hb; clear hg; have BK := Aside0.mk hbox; obtain ⟨z0, z1, z2, z3, z4, z5, z6, z7, z8, z9, z10⟩ := box11 hbox; have n0_ := Aside0.mk (below_step HB.out hb); clear HB; have HB := n0_; clear n0_) | (go_at_call 18; refine Calls.mono (ipwire_Check.calls k _ _ _ _ _ _ _ _ _ _ _ l9 _ _ l10 e0 _ (Kd.C_below HR9.out (by exact hb)) hc9 (Kd.C_below HR10.out (by exact hb)) hc10 hck'.out) ?_; rintro e w' ⟨rfl, hb'⟩; have n0_ := Aside0.mk (below_step HB.out hb'); have n1_ := Aside0.mk (blk_below BK.out hb'); clear HB BK z0 z1 z2 z3 z4 z5 z6 z7 z8 z9 z10; have HB := n0_; have BK := n1_; clear n0_ n1_; obtain ⟨z0, z1, z2, z3, z4, z5, z6, z7, z8, z9, z10⟩ := box11 BK.out))
  go_ret2
  exact ⟨rfl, HB.out⟩
set_option maxHeartbeats 8000000 in
set_option maxRecDepth 100000 in
theorem ipwire_Build.calls (k : Nat) (a0_0 : Int) (a0_1 : Int) (a0_2 : Bool) (a0_3 : Bool) (a0_4 : Int) (a0_5 : Int) (a0_6 : Int) (a0_7 : Int) (a0_8 : Int) (A0_9 : Option Addr) (c0_9 : Nat) (l0_9 : List Int) (A0_10 : Option Addr) (c0_10 : Nat) (l0_10 : List Int) (r1 : List Int) (r2 : Int) (w : World) (hr0_9 : Kd.C (Kd.int .u8) w A0_9 l0_9.length l0_9) (hc0_9 : l0_9.length ≤ c0_9) (hr0_10 : Kd.C (Kd.int .u8) w A0_10 l0_10.length l0_10) (hc0_10 : l0_10.length ≤ c0_10) (h : ipwire_Build.f k a0_0 a0_1 a0_2 a0_3 a0_4 a0_5 a0_6 a0_7 a0_8 l0_9 l0_10 = some (r1, r2)) :
    Calls Try.prog 8 #[.agg #[.int .u8 a0_0, .int .u16 a0_1, .bool a0_2, .bool a0_3, .int .i64 a0_4, .int .u8 a0_5, .int .u8 a0_6, .int .u32 a0_7, .int .u32 a0_8, .slice A0_9 l0_9.length c0_9, .slice A0_10 l0_10.length c0_10]] w fun e w' => ∃ v0_ : Value, e = .returned (.tuple #[v0_, .int .i64 r2]) ∧ Kd.R (Kd.int .u8) 5 w' w.heap.size (fun _ => True) v0_ r1 ∧ Below w.heap.size w w' := by
  unfold ipwire_Build.f at h
  obtain ⟨e0, hck, h⟩ := Option.bind_eq_some_iff.mp h
  by_cases h0 : e0 = 0
  · subst h0
    rw [if_pos rfl] at h
    by_cases h1 : l0_9.length + l0_10.length ≤ 65515
    · rw [if_pos h1] at h
      obtain ⟨C, hC, h⟩ := Option.bind_eq_some_iff.mp h
      have h2 := Option.some.inj h
      obtain ⟨h2a, h2b⟩ := Prod.mk.inj h2
      subst h2a
      subst h2b
      exact build_walk k _ _ _ _ _ _ _ _ _ A0_9 c0_9 l0_9 A0_10 c0_10 l0_10 C w hr0_9 hc0_9 hr0_10 hc0_10 hck h1 hC
    · rw [if_neg h1] at h
      cases h
  · rw [if_neg h0] at h
    have h2 := Option.some.inj h
    obtain ⟨h2a, h2b⟩ := Prod.mk.inj h2
    subst h2a
    subst h2b
    exact (build_err k _ _ _ _ _ _ _ _ _ A0_9 c0_9 l0_9 A0_10 c0_10 l0_10 _ h0 w hr0_9 hc0_9 hr0_10 hc0_10 hck).mono fun e w' ⟨h1, h2⟩ => ⟨_, h1, Kd.R_nil _ _ _ _ _, h2⟩


end Go.Proofs.Ytghfljmoaalinaa.Q
