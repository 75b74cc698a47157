/- routes: the cache's box, and the walks of NewCache, come and Known. No condition. -/
import Derived.Test.YtpjelffgakgjaaaQ6
import Derived.Test.YtpjelffgakgjaaaQ7
import Derived.Test.YtpjelffgakgjaaaRoutesT
namespace Go.Proofs.Ytpjelffgakgjaaa.Q
set_option linter.unusedVariables false
set_option linter.unusedSimpArgs false
open Go.RowKit Go.Maps Go.Proofs.YtpjelffgakgjaaaW.PrintWords Go.Proofs.YtpjelffgakgjaaaW.PrintLast Go.Proofs.YtpjelffgakgjaaaW.PrintMore Go.Proofs.YtpjelffgakgjaaaW.MapIs
attribute [local go_sem] max2_int min2_int max_two min_two max_three min_three max_four min_four   -- for this text's walks alone
def ipV (a : Int) : Value := .int .u32 a
def knV (p : Int × Int) : Value := .agg #[.int .u64 p.1, .int .i64 p.2]
def ptV (g : Nat) : Value := .pointer (some ⟨g, 0, none⟩)
theorem ipV_inj : ∀ a b : Int, ipV a = ipV b → a = b := fun a b h => by simpa [ipV] using h
theorem ipLaw : Keyed Try.prog 23 := int_keyed Try.underlying23
theorem ipKey (a : Int) (h0 : 0 ≤ a) (h1 : a < 4294967296) : ∃ l, keyOf Try.prog 23 (ipV a) = some l := keyOf_one Try.underlying23 (wf_u32_of h0 h1)
theorem zeroK (W : World) : (zeroValue 89).run Try.prog W = .ok (.agg #[.int .u64 0, .int .i64 0]) W := by kernel_rfl
theorem zeroP (W : World) : (zeroValue 77).run Try.prog W = .ok (.pointer none) W := by kernel_rfl
abbrev MacMap (W : World) (b : Nat) (L : List (Int × (Int × Int))) : Prop := MapIs Try.prog 23 ipV knV W b L
abbrev WaitMap (W : World) (b : Nat) (L : List (Int × Nat)) : Prop := MapIs Try.prog 23 ipV ptV W b L
structure CB (w W : World) (gc bm bw : Nat) (now : Int) (M : List (Int × (Int × Int))) (T : List (Int × Nat)) : Prop where
  B : Below w.heap.size w W
  eg : w.heap.size ≤ gc
  em : w.heap.size ≤ bm
  ew : w.heap.size ≤ bw
  k : W.heap[gc]? = some (.cells #[.int .i64 100, .int .i64 10, .int .i64 now, .map (some bm), .map (some bw)] 75 (0, 0))
  m : MacMap W bm M
  t : WaitMap W bw T
  ne : bm ≠ bw
section
variable {w W W' : World} {gc bm bw : Nat} {now : Int} {M M' : List (Int × (Int × Int))} {T T' : List (Int × Nat)}
theorem CB.step (h : CB w W gc bm bw now M T) (hb : Below W.heap.size W W') : CB w W' gc bm bw now M T := ⟨below_step h.B hb, h.eg, h.em, h.ew, blk_below h.k hb, h.m.below hb, h.t.below hb, h.ne⟩
theorem CB.drew (h : CB w W gc bm bw now M T) : CB w W.drew gc bm bw now M T := h.step (below_drew (Below.refl _ _))
theorem CB.drewN (h : CB w W gc bm bw now M T) (n : Nat) : CB w (W.drewN n) gc bm bw now M T := h.step (pw_below_drewN (Below.refl _ _) n)
theorem CB.nm (h : CB w W gc bm bw now M T) : gc ≠ bm := h.m.ne h.k
theorem CB.nw (h : CB w W gc bm bw now M T) : gc ≠ bw := h.t.ne h.k
theorem CB.put (h : CB w W gc bm bw now M T) (n2 : Int) : CB w (W.setCell ⟨gc, 2, none⟩ (.int .i64 n2)) gc bm bw n2 M T :=
  ⟨below_set h.B h.eg, h.eg, h.em, h.ew, blk_put h.k 2 _ rfl, h.m.setCell (a := ⟨gc, 2, none⟩) (fun e => h.nm e.symm) _, h.t.setCell (a := ⟨gc, 2, none⟩) (fun e => h.nw e.symm) _, h.ne⟩
theorem CB.turnM (h : CB w W gc bm bw now M T) (hg : W.grownBy W' (some bm)) (hm : MacMap W' bm M') : CB w W' gc bm bw now M' T :=
  ⟨pw_below_grown h.B (some bm) (below_size h.B) hg (fun k e => by cases e; exact h.em), h.eg, h.em, h.ew, blk_grown h.k hg (fun e => h.nm (Option.some.inj e)), hm, h.t.kept hg (fun e => h.ne (Option.some.inj e).symm), h.ne⟩
theorem CB.turnW (h : CB w W gc bm bw now M T) (hg : W.grownBy W' (some bw)) (hm : WaitMap W' bw T') : CB w W' gc bm bw now M T' :=
  ⟨pw_below_grown h.B (some bw) (below_size h.B) hg (fun k e => by cases e; exact h.ew), h.eg, h.em, h.ew, blk_grown h.k hg (fun e => h.nw (Option.some.inj e)), h.m.kept hg (fun e => h.ne (Option.some.inj e)), hm, h.ne⟩
theorem CB.z (h : CB w W gc bm bw now M T) : W.cell? ⟨gc, 0, none⟩ = some (.int .i64 100) ∧ W.cell? ⟨gc, 1, none⟩ = some (.int .i64 10) ∧ W.cell? ⟨gc, 2, none⟩ = some (.int .i64 now) ∧ W.cell? ⟨gc, 3, none⟩ = some (.map (some bm)) ∧ W.cell? ⟨gc, 4, none⟩ = some (.map (some bw)) ∧ W.frozen? ⟨gc, 2, none⟩ = false :=
  ⟨(blk_cell h.k 0).trans rfl, (blk_cell h.k 1).trans rfl, (blk_cell h.k 2).trans rfl, (blk_cell h.k 3).trans rfl, (blk_cell h.k 4).trans rfl, blk_frozen h.k 2⟩
end
set_option maxHeartbeats 8000000 in
set_option maxRecDepth 100000 in
theorem come_in {w W : World} {gc bm bw : Nat} {now : Int} {M : List (Int × (Int × Int))} {T : List (Int × Nat)} (h : CB w W gc bm bw now M T) (n2 : Int) (h0 : now ≤ n2) (h1 : n2 ≤ 1099511627776) :
    Calls Try.prog 25 #[.pointer (some ⟨gc, 0, none⟩), .int .i64 n2] W fun e W' => e = .returned (.int .i64 0) ∧ W = W' := by
  have hu := Try.underlying75
  have hn := fun w : World => run_eql_map_nil (P := Try.prog) w 72 23 89 (some bm) Try.underlying72
  obtain ⟨z0, z1, z2, z3, z4, f2⟩ := h.z
  have d0 : decide (n2 < now) = false := decide_eq_false (by omega)
  have d1 : decide (1099511627776 < n2) = false := decide_eq_false (by omega)
  clear h h0 h1
  go_enter Try.func25, Try.ntmps25
  go_wp2
  go_ret
  exact ⟨rfl, rfl⟩
set_option maxHeartbeats 8000000 in
set_option maxRecDepth 100000 in
theorem NewCache_in (W : World) :
    Calls Try.prog 16 #[.int .i64 100, .int .i64 10] W fun e W' => ∃ gc bm bw, e = .returned (.tuple #[.pointer (some ⟨gc, 0, none⟩), .int .i64 0]) ∧ CB W W' gc bm bw 0 [] [] := by
  have hu := Try.underlying75
  have hmm := @run_makeMap Try.prog
  go_enter Try.func16, Try.ntmps16
  go_wp2
  go_ret2
  have b1 : Below W.heap.size W (W.alloc (.map #[] 0)) := below_alloc (Below.refl _ _) _
  have m1 : MacMap (W.alloc (.map #[] 0)) W.heap.size [] := MapIs.made ipV_inj W
  have s1 : (W.alloc (.map #[] 0)).heap.size = W.heap.size + 1 := by simp
  have b2 : Below W.heap.size W ((W.alloc (.map #[] 0)).alloc (.map #[] 0)) := below_alloc b1 _
  have m2 : WaitMap ((W.alloc (.map #[] 0)).alloc (.map #[] 0)) (W.alloc (.map #[] 0)).heap.size [] := MapIs.made ipV_inj _
  have s2 : ((W.alloc (.map #[] 0)).alloc (.map #[] 0)).heap.size = W.heap.size + 1 + 1 := by simp
  have b3 := below_alloc b2 (.cells #[.int .i64 100, .int .i64 10, .int .i64 0, .map (some W.heap.size), .map (some (W.heap.size + 1))] 75)
  have k3 := blk_new ((W.alloc (.map #[] 0)).alloc (.map #[] 0)) (.cells #[.int .i64 100, .int .i64 10, .int .i64 0, .map (some W.heap.size), .map (some (W.heap.size + 1))] 75)
  rw [s2] at k3
  rw [s1] at m2
  exact ⟨W.heap.size + 1 + 1, W.heap.size, W.heap.size + 1, rfl, b3, by omega, Nat.le_refl _, by omega, k3, (m1.below (below_alloc (Below.refl _ _) _)).below (below_alloc (Below.refl _ _) _), m2.below (below_alloc (Below.refl _ _) _), by omega⟩
set_option maxHeartbeats 8000000 in
set_option maxRecDepth 100000 in
theorem Known_none {w W : World} {gc bm bw : Nat} {now : Int} {T : List (Int × Nat)} (h : CB w W gc bm bw now [] T) (ip n2 : Int) (hi0 : 0 ≤ ip) (hi1 : ip < 4294967296) (h0 : now ≤ n2) (h1 : n2 ≤ 1099511627776) :
    Calls Try.prog 19 #[.pointer (some ⟨gc, 0, none⟩), .int .u32 ip, .int .i64 n2] W fun e W' => e = .returned (.tuple #[.int .u64 0, .bool false]) ∧ Below W.heap.size W W' := by
  have hu := Try.underlying75
  have hu2 := Try.underlying89
  obtain ⟨z0, z1, z2, z3, z4, f2⟩ := h.z
  obtain ⟨kl, hkl⟩ := ipKey ip hi0 hi1
  have hlk : (Instr.lookup 72 (.map (some bm)) (.int .u32 ip) true).run Try.prog W = .ok (.tuple #[.agg #[.int .u64 0, .int .i64 0], .bool false]) W := h.m.look ipLaw Try.underlying72 (zeroK _) hkl
  have HC := Aside0.mk (come_in h n2 h0 h1)
  clear h h0 h1 hkl
  go_enter Try.func19, Try.ntmps19
  go_wp2_with (go_at_call 25; (with_reducible refine Calls.mono HC.out ?_); rintro e w2 ⟨rfl, rfl⟩)
  go_quiet (fail)
  go_wp2
  go_ret2
  exact ⟨rfl, pw_below_drewN (below_alloc (Below.refl _ _) _) nq⟩
set_option maxHeartbeats 8000000 in
set_option maxRecDepth 100000 in
theorem Known_some {w W : World} {gc bm bw : Nat} {now mac at_ : Int} {T : List (Int × Nat)} {ip : Int} (h : CB w W gc bm bw now [(ip, (mac, at_))] T) (n2 : Int) (hi0 : 0 ≤ ip) (hi1 : ip < 4294967296) (h0 : now ≤ n2) (h1 : n2 ≤ 1099511627776) (ha0 : 0 ≤ at_) (ha1 : at_ ≤ n2) (ha2 : n2 - at_ < 100) :
    Calls Try.prog 19 #[.pointer (some ⟨gc, 0, none⟩), .int .u32 ip, .int .i64 n2] W fun e W' => e = .returned (.tuple #[.int .u64 mac, .bool true]) ∧ Below W.heap.size W W' := by
  have hu := Try.underlying75
  have hu2 := Try.underlying89
  obtain ⟨z0, z1, z2, z3, z4, f2⟩ := h.z
  obtain ⟨kl, hkl⟩ := ipKey ip hi0 hi1
  have hg : getM [(ip, (mac, at_))] ip = some (mac, at_) := by simp [getM]
  have hlk := h.m.look ipLaw Try.underlying72 (zeroK W) hkl
  rw [hg] at hlk
  have hlk : (Instr.lookup 72 (.map (some bm)) (.int .u32 ip) true).run Try.prog W = .ok (.tuple #[.agg #[.int .u64 mac, .int .i64 at_], .bool true]) W := hlk
  have HC := Aside0.mk (come_in h n2 h0 h1)
  have HK := Aside0.mk h.k
  clear h hkl hg
  go_enter Try.func19, Try.ntmps19
  go_wp2_with (go_at_call 25; (with_reducible refine Calls.mono HC.out ?_); rintro e w2 ⟨rfl, rfl⟩)
  have b8 : Below W.heap.size W (W.alloc (.cells #[.int .u64 mac, .int .i64 at_] 89)) := below_alloc (Below.refl _ _) _
  have kx := blk_new W (.cells #[.int .u64 mac, .int .i64 at_] 89)
  have kc := blk_below HK.out b8
  have HB := Aside0.mk b8
  clear z0 z1 z2 z3 z4 f2 hlk HC HK b8
  generalize hw8 : W.alloc _ = w8 at kx kc HB ⊢
  clear hw8
  generalize hgx : W.heap.size = gx at kx ⊢
  have HGX := Aside0.mk hgx
  clear hgx
  have y0 : w8.cell? ⟨gx, 0, none⟩ = some (.int .u64 mac) := (blk_cell kx 0).trans rfl
  have y1 : w8.cell? ⟨gx, 1, none⟩ = some (.int .i64 at_) := (blk_cell kx 1).trans rfl
  have z0 : w8.cell? ⟨gc, 0, none⟩ = some (.int .i64 100) := (blk_cell kc 0).trans rfl
  have d2 : IntKind.i64.wrap (n2 - at_) = n2 - at_ := by rw [i64_w]; unfold wrap64; omega
  have d3 : decide (100 ≤ n2 - at_) = false := decide_eq_false (by omega)
  clear kx kc h0 h1 ha0 ha1 ha2
  go_quiet (fail)
  go_wp2
  go_ret2
  exact ⟨rfl, pw_below_drewN HB.out nq⟩
end Go.Proofs.Ytpjelffgakgjaaa.Q
