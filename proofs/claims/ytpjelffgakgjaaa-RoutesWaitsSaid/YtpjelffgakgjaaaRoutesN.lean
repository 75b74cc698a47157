/- routes: the walk of Learn, of one address. No condition. -/
import Derived.Test.YtpjelffgakgjaaaRoutesB
namespace Go.Proofs.Ytpjelffgakgjaaa.Q
set_option linter.unusedVariables false
set_option linter.unusedSimpArgs false
open Go.RowKit Go.Maps Go.Proofs.YtpjelffgakgjaaaW.PrintWords Go.Proofs.YtpjelffgakgjaaaW.PrintLast Go.Proofs.YtpjelffgakgjaaaW.PrintMore Go.Proofs.YtpjelffgakgjaaaW.MapIs
abbrev KS (gc bm bw : Nat) : Nat → Prop := fun k => k = gc ∨ k = bm ∨ k = bw
set_option maxHeartbeats 8000000 in
set_option maxRecDepth 100000 in
theorem Learn_none {w W : World} {gc bm bw : Nat} {ip now : Int} {M : List (Int × (Int × Int))} (h : CB w W gc bm bw now M []) (mac : Int) (hM : delM M ip = []) (hn : now ≤ 6) (hm0 : 0 ≤ mac) (hm1 : mac ≤ 281474976710655) (hi0 : 0 ≤ ip) (hi1 : ip < 4294967296) :
    Calls Try.prog 18 #[.pointer (some ⟨gc, 0, none⟩), .int .u32 ip, .int .u64 mac, .int .i64 6] W fun e W' => e = .returned (.tuple #[.slice none 0 0, .int .i64 0]) ∧ CB w W' gc bm bw 6 [(ip, (mac, 6))] [] ∧ Kept W W' (KS gc bm bw) := by
  have hu := Try.underlying75
  have hu80 := Try.underlying80
  have hu89 := Try.underlying89
  have d0 : decide (281474976710655 < mac) = false := decide_eq_false (by omega)
  have HM := Aside0.mk hM
  have HN := Aside0.mk hn
  have HS := Aside0.mk h
  obtain ⟨kl, hkl⟩ := ipKey ip hi0 hi1
  have HKL := Aside0.mk hkl
  clear h hM hn hkl
  go_enter Try.func18, Try.ntmps18
  go_upto_region 7 with (first
    | ((with_reducible refine gate_dst (N := 4) rfl ?_); refine box_event ?hg (N := 4) ?hd (cs := #[.pointer (some ⟨gc, 0, none⟩)]) (t := 51) ?hr ?_; (case hd => rfl); (case hg => rfl); (case hr => first | (go_simp; done) | (go_simp; rfl)); intro g4 e4 w1 k4 b4; have HS1 := Aside0.mk (HS.out.step b4); have HK1 := Aside0.mk (Kept.of_below b4 (KS gc bm bw)); have K4 := Aside0.mk k4; have N4 := Aside0.mk (show g4 ≠ gc from fun e => by rw [e4] at e; exact absurd (blk_lt HS.out.k) (by omega)); have y4 : w1.cell? ⟨g4, 0, none⟩ = some (.pointer (some ⟨gc, 0, none⟩)) := (blk_cell k4 0).trans rfl; obtain ⟨z0, z1, z2, z3, z4, f2⟩ := HS1.out.z; clear e4 b4 k4)
    | (go_at_call 25; (with_reducible refine Calls.mono (come_in HS1.out 6 HN.out (by omega)) ?_); rintro e w2 ⟨rfl, rfl⟩))
  have HS2 := Aside0.mk (HS1.out.put 6)
  have HK2 := Aside0.mk (HK1.out.setCell (p := ⟨gc, 2, none⟩) (.inl (.inl rfl)) (.int .i64 6))
  have hk4 := blk_far (p := ⟨gc, 2, none⟩) K4.out N4.out (.int .i64 6)
  clear z0 z1 z2 z3 z4 f2 y4
  generalize w1.setCell ⟨gc, 2, none⟩ (.int .i64 6) = w2 at HS2 HK2 hk4 ⊢
  obtain ⟨w3, hdel, hm3, hg3⟩ := HS2.out.m.drop ipLaw Try.underlying72 HKL.out 0
  rw [HM.out] at hm3
  have HS3 := Aside0.mk (HS2.out.turnM hg3 hm3)
  have HK3 := Aside0.mk (Kept.of_grown hg3 HK2.out (fun k e => .inl (.inr (.inl (Option.some.inj e).symm))))
  have hk4b := blk_grown hk4 hg3 (fun e => (HS2.out.m.ne hk4) (Option.some.inj e))
  obtain ⟨w4, hup, hm4, hg4⟩ := HS3.out.m.store (v := (mac, 6)) ipLaw Try.underlying72 HKL.out rfl
  have HS4 := Aside0.mk (HS3.out.turnM hg4 hm4)
  have HK4 := Aside0.mk (Kept.of_grown hg4 HK3.out (fun k e => .inl (.inr (.inl (Option.some.inj e).symm))))
  have hk4c := blk_grown hk4b hg4 (fun e => (HS3.out.m.ne hk4b) (Option.some.inj e))
  have y2 : w2.cell? ⟨g4, 0, none⟩ = some (.pointer (some ⟨gc, 0, none⟩)) := (blk_cell hk4 0).trans rfl
  have y3 : w3.cell? ⟨g4, 0, none⟩ = some (.pointer (some ⟨gc, 0, none⟩)) := (blk_cell hk4b 0).trans rfl
  have y4 : w4.cell? ⟨g4, 0, none⟩ = some (.pointer (some ⟨gc, 0, none⟩)) := (blk_cell hk4c 0).trans rfl
  have u2 : w2.cell? ⟨gc, 3, none⟩ = some (.map (some bm)) := HS2.out.z.2.2.2.1
  have u3 : w3.cell? ⟨gc, 3, none⟩ = some (.map (some bm)) := HS3.out.z.2.2.2.1
  have u4 : w4.cell? ⟨gc, 4, none⟩ = some (.map (some bw)) := HS4.out.z.2.2.2.2.1
  have hdelA : ∀ ty, (Builtin.delete_ #[72, 23] ty #[.map (some bm), .int .u32 ip]).run Try.prog w2 = .ok (.tuple #[]) w3 := fun ty => hdel
  have hlen : ∀ ty, (Builtin.len_ #[72] ty #[.map (some bm)]).run Try.prog w3 = .ok (.int .i64 0) w3 := fun ty => HS3.out.m.len Try.underlying72 ty
  have hupA : (Instr.mapUpdate 72 (.map (some bm)) (.int .u32 ip) (.agg #[.int .u64 mac, .int .i64 6])).run Try.prog w3 = .ok () w4 := hup
  have hlk : (Instr.lookup 73 (.map (some bw)) (.int .u32 ip) true).run Try.prog w4 = .ok (.tuple #[.pointer none, .bool false]) w4 := by
    have hl := HS4.out.t.look ipLaw Try.underlying73 (zeroP w4) HKL.out
    skip
    exact hl
  clear hdel hm3 hg3 hup hm4 hg4 hk4 hk4b hk4c
  go_wp2
  go_ret2
  exact ⟨rfl, HS4.out, HK4.out⟩
set_option maxHeartbeats 8000000 in
set_option maxRecDepth 100000 in
theorem Learn_some {w W : World} {gc bm bw : Nat} {ip now : Int} {M : List (Int × (Int × Int))} {gw : Nat} {A9 : Option Addr} {n9 c9 : Nat} {asked : Int} (h : CB w W gc bm bw now M [(ip, gw)]) (mac : Int) (hM : delM M ip = []) (hn : now ≤ 6) (kw : W.heap[gw]? = some (.cells #[.slice A9 n9 c9, .int .i64 asked] 80 (0, 0))) (ngw : gw ≠ gc) (hm0 : 0 ≤ mac) (hm1 : mac ≤ 281474976710655) (hi0 : 0 ≤ ip) (hi1 : ip < 4294967296) :
    Calls Try.prog 18 #[.pointer (some ⟨gc, 0, none⟩), .int .u32 ip, .int .u64 mac, .int .i64 6] W fun e W' => e = .returned (.tuple #[.slice A9 n9 c9, .int .i64 0]) ∧ CB w W' gc bm bw 6 [(ip, (mac, 6))] [] ∧ Kept W W' (KS gc bm bw) := by
  have hu := Try.underlying75
  have hu80 := Try.underlying80
  have hu89 := Try.underlying89
  have d0 : decide (281474976710655 < mac) = false := decide_eq_false (by omega)
  have HM := Aside0.mk hM
  have HN := Aside0.mk hn
  have HS := Aside0.mk h
  obtain ⟨kl, hkl⟩ := ipKey ip hi0 hi1
  have HKL := Aside0.mk hkl
  have KW0 := Aside0.mk kw
  have NGW := Aside0.mk ngw
  clear h hM hn hkl kw ngw
  go_enter Try.func18, Try.ntmps18
  go_upto_region 7 with (first
    | ((with_reducible refine gate_dst (N := 4) rfl ?_); refine box_event ?hg (N := 4) ?hd (cs := #[.pointer (some ⟨gc, 0, none⟩)]) (t := 51) ?hr ?_; (case hd => rfl); (case hg => rfl); (case hr => first | (go_simp; done) | (go_simp; rfl)); intro g4 e4 w1 k4 b4; have HS1 := Aside0.mk (HS.out.step b4); have HK1 := Aside0.mk (Kept.of_below b4 (KS gc bm bw)); have KW1 := Aside0.mk (blk_below KW0.out b4); have K4 := Aside0.mk k4; have N4 := Aside0.mk (show g4 ≠ gc from fun e => by rw [e4] at e; exact absurd (blk_lt HS.out.k) (by omega)); have y4 : w1.cell? ⟨g4, 0, none⟩ = some (.pointer (some ⟨gc, 0, none⟩)) := (blk_cell k4 0).trans rfl; obtain ⟨z0, z1, z2, z3, z4, f2⟩ := HS1.out.z; clear e4 b4 k4)
    | (go_at_call 25; (with_reducible refine Calls.mono (come_in HS1.out 6 HN.out (by omega)) ?_); rintro e w2 ⟨rfl, rfl⟩))
  have HS2 := Aside0.mk (HS1.out.put 6)
  have HK2 := Aside0.mk (HK1.out.setCell (p := ⟨gc, 2, none⟩) (.inl (.inl rfl)) (.int .i64 6))
  have hk4 := blk_far (p := ⟨gc, 2, none⟩) K4.out N4.out (.int .i64 6)
  have KW2 := Aside0.mk (blk_far (p := ⟨gc, 2, none⟩) KW1.out NGW.out (.int .i64 6))
  clear z0 z1 z2 z3 z4 f2 y4
  generalize w1.setCell ⟨gc, 2, none⟩ (.int .i64 6) = w2 at HS2 HK2 hk4 KW2 ⊢
  obtain ⟨w3, hdel, hm3, hg3⟩ := HS2.out.m.drop ipLaw Try.underlying72 HKL.out 0
  rw [HM.out] at hm3
  have HS3 := Aside0.mk (HS2.out.turnM hg3 hm3)
  have HK3 := Aside0.mk (Kept.of_grown hg3 HK2.out (fun k e => .inl (.inr (.inl (Option.some.inj e).symm))))
  have hk4b := blk_grown hk4 hg3 (fun e => (HS2.out.m.ne hk4) (Option.some.inj e))
  have KW3 := Aside0.mk (blk_grown KW2.out hg3 (fun e => (HS2.out.m.ne KW2.out) (Option.some.inj e)))
  obtain ⟨w4, hup, hm4, hg4⟩ := HS3.out.m.store (v := (mac, 6)) ipLaw Try.underlying72 HKL.out rfl
  have HS4 := Aside0.mk (HS3.out.turnM hg4 hm4)
  have HK4 := Aside0.mk (Kept.of_grown hg4 HK3.out (fun k e => .inl (.inr (.inl (Option.some.inj e).symm))))
  have hk4c := blk_grown hk4b hg4 (fun e => (HS3.out.m.ne hk4b) (Option.some.inj e))
  have KW4 := Aside0.mk (blk_grown KW3.out hg4 (fun e => (HS3.out.m.ne KW3.out) (Option.some.inj e)))
  have y2 : w2.cell? ⟨g4, 0, none⟩ = some (.pointer (some ⟨gc, 0, none⟩)) := (blk_cell hk4 0).trans rfl
  have y3 : w3.cell? ⟨g4, 0, none⟩ = some (.pointer (some ⟨gc, 0, none⟩)) := (blk_cell hk4b 0).trans rfl
  have y4 : w4.cell? ⟨g4, 0, none⟩ = some (.pointer (some ⟨gc, 0, none⟩)) := (blk_cell hk4c 0).trans rfl
  have u2 : w2.cell? ⟨gc, 3, none⟩ = some (.map (some bm)) := HS2.out.z.2.2.2.1
  have u3 : w3.cell? ⟨gc, 3, none⟩ = some (.map (some bm)) := HS3.out.z.2.2.2.1
  have u4 : w4.cell? ⟨gc, 4, none⟩ = some (.map (some bw)) := HS4.out.z.2.2.2.2.1
  have hdelA : ∀ ty, (Builtin.delete_ #[72, 23] ty #[.map (some bm), .int .u32 ip]).run Try.prog w2 = .ok (.tuple #[]) w3 := fun ty => hdel
  have hlen : ∀ ty, (Builtin.len_ #[72] ty #[.map (some bm)]).run Try.prog w3 = .ok (.int .i64 0) w3 := fun ty => HS3.out.m.len Try.underlying72 ty
  have hupA : (Instr.mapUpdate 72 (.map (some bm)) (.int .u32 ip) (.agg #[.int .u64 mac, .int .i64 6])).run Try.prog w3 = .ok () w4 := hup
  have hlk : (Instr.lookup 73 (.map (some bw)) (.int .u32 ip) true).run Try.prog w4 = .ok (.tuple #[.pointer (some ⟨gw, 0, none⟩), .bool true]) w4 := by
    have hl := HS4.out.t.look ipLaw Try.underlying73 (zeroP w4) HKL.out
    rw [show getM [(ip, gw)] ip = some gw by simp [getM]] at hl
    exact hl
  clear hdel hm3 hg3 hup hm4 hg4 hk4 hk4b hk4c
  obtain ⟨w5, hdel2, hm5, hg5⟩ := HS4.out.t.drop ipLaw Try.underlying73 HKL.out 0
  rw [show delM [(ip, gw)] ip = [] by simp [delM]] at hm5
  have HS5 := Aside0.mk (HS4.out.turnW hg5 hm5)
  have HK5 := Aside0.mk (Kept.of_grown hg5 HK4.out (fun k e => .inl (.inr (.inr (Option.some.inj e).symm))))
  have hdel3 : ∀ ty, (Builtin.delete_ #[73, 23] ty #[.map (some bw), .int .u32 ip]).run Try.prog w4 = .ok (.tuple #[]) w5 := fun ty => hdel2
  have kw5 : w5.cell? ⟨gw, 0, none⟩ = some (.slice A9 n9 c9) := (blk_cell (blk_grown KW4.out hg5 (fun e => (HS4.out.t.ne KW4.out) (Option.some.inj e))) 0).trans rfl
  clear hm5 hg5 hdel2
  go_wp2
  go_ret2
  exact ⟨rfl, HS5.out, HK5.out⟩
end Go.Proofs.Ytpjelffgakgjaaa.Q
