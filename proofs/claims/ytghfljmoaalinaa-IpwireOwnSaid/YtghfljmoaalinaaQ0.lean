-- written for this claim out of the program's translation by a program (wip/pr.sh); Lean checks it
import Derived.Test.YtghfljmoaalinaaProg
import Derived.Below
import Derived.Deep.Draws
import Derived.Deep.AppendLies
import Derived.Maps.AppendAt
import Derived.OwnWalk
import Derived.Laws.BytesArg
import Derived.Laws.MakeOwn
import Derived.Laws.OwnMore
import Derived.Deep.OwnRows
import Derived.Tactics
import Derived.Lib.ConvBytes
import Derived.Laws.Slices
import Derived.WalkKit
import Derived.KernelRfl
import Derived.RowKit3
import Derived.Deep.LoopGhost
import Derived.Deep.QuietTactic
import Derived.BigQuiet
import Derived.WideLaws
import Derived.Deep.DeepCutAuto
import Derived.Deep.CutBlock
import Derived.Deep.RegionHeld3
import Derived.Laws.Rows
import Derived.Lib.AppendStr
import Derived.ArgAppend
import Derived.Laws.IdiomCopy
import Derived.OrdersHeld
import Derived.Laws.BitsLemmas
import Derived.RowKit
import Derived.Test.YtghfljmoaalinaaWWords
import Derived.Test.YtghfljmoaalinaaWLast
import Derived.Test.YtghfljmoaalinaaWTab
import Derived.Test.YtghfljmoaalinaaWFour
import Derived.Test.YtghfljmoaalinaaWQPut
import Derived.Test.YtghfljmoaalinaaWApart
import Derived.Test.YtghfljmoaalinaaWArr
import Derived.Test.YtghfljmoaalinaaWZeros
import Derived.Test.YtghfljmoaalinaaWFoot
import Derived.Test.YtghfljmoaalinaaWKept
import Derived.Test.YtghfljmoaalinaaWShare
import Derived.Test.YtghfljmoaalinaaWN
import Derived.Test.YtghfljmoaalinaaWFootNe
import Derived.Test.YtghfljmoaalinaaWAt
import Derived.Test.YtghfljmoaalinaaWEqStruct
import Derived.Test.YtghfljmoaalinaaWRepsOne
import Derived.Test.YtghfljmoaalinaaWInv
import Derived.Test.YtghfljmoaalinaaWInvWords
import Derived.Test.YtghfljmoaalinaaWGuard
import Derived.Test.YtghfljmoaalinaaWNEv
import Derived.Test.YtghfljmoaalinaaWMore
import Derived.Test.YtghfljmoaalinaaOpen
import Derived.Test.YtghfljmoaalinaaShort
namespace Go.Proofs.Ytghfljmoaalinaa.Q
open Go.RowKit Go.Proofs.YtghfljmoaalinaaW.PrintWords Go.Proofs.YtghfljmoaalinaaW.PrintLast Go.Proofs.YtghfljmoaalinaaW.PrintMore
attribute [local go_sem] max2_int min2_int max_two min_two max_three min_three max_four min_four   -- for this text's walks alone
set_option linter.unusedVariables false
set_option linter.unusedSimpArgs false



def errW : Option Int → Value
  | none => .nilIface
  | some c => .iface 0 (.int .i64 c)
theorem errW_none : errW none = .nilIface := rfl
theorem errW_some (c : Int) : errW (some c) = .iface 0 (.int .i64 c) := rfl

theorem info5 : (Try.prog.info? 5).map (fun i => (i.zero, i.size, i.bytes)) = some (some (.int .u8 0), 1, 1) := by kernel_rfl
-- the values' own types
def rd_L5 (xs : List (List Int)) (i : Int) : (List Int) := xs.getD i.toNat ([] : List Int)
theorem at_L5 {w : World} {A : Option Addr} {n : Nat} {xs : List (List Int)} (h : Kd.C (Kd.slice 5 (Kd.int .u8)) w A n xs) (i : Int) (h0 : 0 ≤ i) (h1 : i < n) : ∃ ad A0 c0, A = some ad ∧ w.cell? (ad.add i.toNat) = some (.slice A0 (rd_L5 xs i).length c0) ∧ (rd_L5 xs i).length ≤ c0 ∧ (Kd.int .u8).C w A0 (rd_L5 xs i).length (rd_L5 xs i) := by
  obtain ⟨ad, c, e, _, hK, hc0⟩ := Kd.C_get h ([] : List Int) i h0 h1
  have hc : ∀ j u, c[j]? = some u → w.cell? (ad.add (i.toNat * 1 + j)) = some u := hc0
  obtain ⟨A0, c0, rfl, l0, g0⟩ := hK
  exact ⟨ad, A0, c0, e, by have hq := hc 0 _ rfl; rwa [Nat.mul_one, Nat.add_zero] at hq, l0, g0⟩

/-! #### struct type 26 -/
structure S26 where
  f0 : Int
  f1 : Int
  f2 : Bool
  f3 : Bool
  f4 : Int
  f5 : Int
  f6 : Int
  f7 : Int
  f8 : Int
  f9 : (List Int)
  f10 : (List Int)
def z26 : S26 := ⟨(0 : Int), (0 : Int), false, false, (0 : Int), (0 : Int), (0 : Int), (0 : Int), (0 : Int), ([] : List Int), ([] : List Int)⟩
def k26 : Kd S26 := Kd.iso (Kd.pair (Kd.int .u8) (Kd.pair (Kd.int .u16) (Kd.pair Kd.bool (Kd.pair Kd.bool (Kd.pair (Kd.int .i64) (Kd.pair (Kd.int .u8) (Kd.pair (Kd.int .u8) (Kd.pair (Kd.int .u32) (Kd.pair (Kd.int .u32) (Kd.pair (Kd.slice 5 (Kd.int .u8)) (Kd.slice 5 (Kd.int .u8)))))))))))) (fun x : S26 => (x.f0, x.f1, x.f2, x.f3, x.f4, x.f5, x.f6, x.f7, x.f8, x.f9, x.f10))
theorem k26_open {w : World} {x : S26} {cs : List Value} (h : k26.K w x cs) : ∃ A9 c9 A10 c10, cs = [.int .u8 x.f0, .int .u16 x.f1, .bool x.f2, .bool x.f3, .int .i64 x.f4, .int .u8 x.f5, .int .u8 x.f6, .int .u32 x.f7, .int .u32 x.f8, .slice A9 x.f9.length c9, .slice A10 x.f10.length c10] ∧ x.f9.length ≤ c9 ∧ (Kd.int .u8).C w A9 x.f9.length x.f9 ∧ x.f10.length ≤ c10 ∧ (Kd.int .u8).C w A10 x.f10.length x.f10 := by
  obtain ⟨_, _, rfl, rfl, ⟨_, _, rfl, rfl, ⟨_, _, rfl, rfl, ⟨_, _, rfl, rfl, ⟨_, _, rfl, rfl, ⟨_, _, rfl, rfl, ⟨_, _, rfl, rfl, ⟨_, _, rfl, rfl, ⟨_, _, rfl, rfl, ⟨_, _, rfl, ⟨A9, c9, rfl, l9, g9⟩, ⟨A10, c10, rfl, l10, g10⟩⟩⟩⟩⟩⟩⟩⟩⟩⟩⟩ := h
  exact ⟨A9, c9, A10, c10, rfl, l9, g9, l10, g10⟩
theorem k26_openM {w : World} {base : Nat} {ok : Nat → Prop} {x : S26} {cs : List Value} (h : k26.M w base ok x cs) : ∃ v9 v10, cs = [.int .u8 x.f0, .int .u16 x.f1, .bool x.f2, .bool x.f3, .int .i64 x.f4, .int .u8 x.f5, .int .u8 x.f6, .int .u32 x.f7, .int .u32 x.f8, v9, v10] ∧ (Kd.int .u8).R 5 w base ok v9 x.f9 ∧ (Kd.int .u8).R 5 w base ok v10 x.f10 := by
  obtain ⟨_, _, rfl, rfl, ⟨_, _, rfl, rfl, ⟨_, _, rfl, rfl, ⟨_, _, rfl, rfl, ⟨_, _, rfl, rfl, ⟨_, _, rfl, rfl, ⟨_, _, rfl, rfl, ⟨_, _, rfl, rfl, ⟨_, _, rfl, rfl, ⟨_, _, rfl, ⟨v9, rfl, g9⟩, ⟨v10, rfl, g10⟩⟩⟩⟩⟩⟩⟩⟩⟩⟩⟩ := h
  exact ⟨v9, v10, rfl, g9, g10⟩
theorem k26_mk (w : World) (x : S26) {A9 : Option Addr} {c9 : Nat} (l9 : x.f9.length ≤ c9) (g9 : (Kd.int .u8).C w A9 x.f9.length x.f9) {A10 : Option Addr} {c10 : Nat} (l10 : x.f10.length ≤ c10) (g10 : (Kd.int .u8).C w A10 x.f10.length x.f10) : k26.K w x [.int .u8 x.f0, .int .u16 x.f1, .bool x.f2, .bool x.f3, .int .i64 x.f4, .int .u8 x.f5, .int .u8 x.f6, .int .u32 x.f7, .int .u32 x.f8, .slice A9 x.f9.length c9, .slice A10 x.f10.length c10] := ⟨[.int .u8 x.f0], [.int .u16 x.f1, .bool x.f2, .bool x.f3, .int .i64 x.f4, .int .u8 x.f5, .int .u8 x.f6, .int .u32 x.f7, .int .u32 x.f8, .slice A9 x.f9.length c9, .slice A10 x.f10.length c10], rfl, rfl, ⟨[.int .u16 x.f1], [.bool x.f2, .bool x.f3, .int .i64 x.f4, .int .u8 x.f5, .int .u8 x.f6, .int .u32 x.f7, .int .u32 x.f8, .slice A9 x.f9.length c9, .slice A10 x.f10.length c10], rfl, rfl, ⟨[.bool x.f2], [.bool x.f3, .int .i64 x.f4, .int .u8 x.f5, .int .u8 x.f6, .int .u32 x.f7, .int .u32 x.f8, .slice A9 x.f9.length c9, .slice A10 x.f10.length c10], rfl, rfl, ⟨[.bool x.f3], [.int .i64 x.f4, .int .u8 x.f5, .int .u8 x.f6, .int .u32 x.f7, .int .u32 x.f8, .slice A9 x.f9.length c9, .slice A10 x.f10.length c10], rfl, rfl, ⟨[.int .i64 x.f4], [.int .u8 x.f5, .int .u8 x.f6, .int .u32 x.f7, .int .u32 x.f8, .slice A9 x.f9.length c9, .slice A10 x.f10.length c10], rfl, rfl, ⟨[.int .u8 x.f5], [.int .u8 x.f6, .int .u32 x.f7, .int .u32 x.f8, .slice A9 x.f9.length c9, .slice A10 x.f10.length c10], rfl, rfl, ⟨[.int .u8 x.f6], [.int .u32 x.f7, .int .u32 x.f8, .slice A9 x.f9.length c9, .slice A10 x.f10.length c10], rfl, rfl, ⟨[.int .u32 x.f7], [.int .u32 x.f8, .slice A9 x.f9.length c9, .slice A10 x.f10.length c10], rfl, rfl, ⟨[.int .u32 x.f8], [.slice A9 x.f9.length c9, .slice A10 x.f10.length c10], rfl, rfl, ⟨[.slice A9 x.f9.length c9], [.slice A10 x.f10.length c10], rfl, ⟨A9, c9, rfl, l9, g9⟩, ⟨A10, c10, rfl, l10, g10⟩⟩⟩⟩⟩⟩⟩⟩⟩⟩⟩
theorem k26_mkM (w : World) (base : Nat) (ok : Nat → Prop) (x : S26) {v9 : Value} (g9 : (Kd.int .u8).R 5 w base ok v9 x.f9) {v10 : Value} (g10 : (Kd.int .u8).R 5 w base ok v10 x.f10) : k26.M w base ok x [.int .u8 x.f0, .int .u16 x.f1, .bool x.f2, .bool x.f3, .int .i64 x.f4, .int .u8 x.f5, .int .u8 x.f6, .int .u32 x.f7, .int .u32 x.f8, v9, v10] := ⟨[.int .u8 x.f0], [.int .u16 x.f1, .bool x.f2, .bool x.f3, .int .i64 x.f4, .int .u8 x.f5, .int .u8 x.f6, .int .u32 x.f7, .int .u32 x.f8, v9, v10], rfl, rfl, ⟨[.int .u16 x.f1], [.bool x.f2, .bool x.f3, .int .i64 x.f4, .int .u8 x.f5, .int .u8 x.f6, .int .u32 x.f7, .int .u32 x.f8, v9, v10], rfl, rfl, ⟨[.bool x.f2], [.bool x.f3, .int .i64 x.f4, .int .u8 x.f5, .int .u8 x.f6, .int .u32 x.f7, .int .u32 x.f8, v9, v10], rfl, rfl, ⟨[.bool x.f3], [.int .i64 x.f4, .int .u8 x.f5, .int .u8 x.f6, .int .u32 x.f7, .int .u32 x.f8, v9, v10], rfl, rfl, ⟨[.int .i64 x.f4], [.int .u8 x.f5, .int .u8 x.f6, .int .u32 x.f7, .int .u32 x.f8, v9, v10], rfl, rfl, ⟨[.int .u8 x.f5], [.int .u8 x.f6, .int .u32 x.f7, .int .u32 x.f8, v9, v10], rfl, rfl, ⟨[.int .u8 x.f6], [.int .u32 x.f7, .int .u32 x.f8, v9, v10], rfl, rfl, ⟨[.int .u32 x.f7], [.int .u32 x.f8, v9, v10], rfl, rfl, ⟨[.int .u32 x.f8], [v9, v10], rfl, rfl, ⟨[v9], [v10], rfl, ⟨v9, rfl, g9⟩, ⟨v10, rfl, g10⟩⟩⟩⟩⟩⟩⟩⟩⟩⟩⟩
def rd_T26 (xs : List S26) (i : Int) : S26 := xs.getD i.toNat z26
theorem at_T26 {w : World} {A : Option Addr} {n : Nat} {xs : List S26} (h : Kd.C k26 w A n xs) (i : Int) (h0 : 0 ≤ i) (h1 : i < n) : ∃ ad A9 c9 A10 c10, A = some ad ∧ w.cell? (ad.add (i.toNat * 11)) = some (.int .u8 (rd_T26 xs i).f0) ∧ w.cell? ⟨(ad.add (i.toNat * 11)).block, (ad.add (i.toNat * 11)).off + 1, none⟩ = some (.int .u16 (rd_T26 xs i).f1) ∧ w.cell? ⟨(ad.add (i.toNat * 11)).block, (ad.add (i.toNat * 11)).off + 2, none⟩ = some (.bool (rd_T26 xs i).f2) ∧ w.cell? ⟨(ad.add (i.toNat * 11)).block, (ad.add (i.toNat * 11)).off + 3, none⟩ = some (.bool (rd_T26 xs i).f3) ∧ w.cell? ⟨(ad.add (i.toNat * 11)).block, (ad.add (i.toNat * 11)).off + 4, none⟩ = some (.int .i64 (rd_T26 xs i).f4) ∧ w.cell? ⟨(ad.add (i.toNat * 11)).block, (ad.add (i.toNat * 11)).off + 5, none⟩ = some (.int .u8 (rd_T26 xs i).f5) ∧ w.cell? ⟨(ad.add (i.toNat * 11)).block, (ad.add (i.toNat * 11)).off + 6, none⟩ = some (.int .u8 (rd_T26 xs i).f6) ∧ w.cell? ⟨(ad.add (i.toNat * 11)).block, (ad.add (i.toNat * 11)).off + 7, none⟩ = some (.int .u32 (rd_T26 xs i).f7) ∧ w.cell? ⟨(ad.add (i.toNat * 11)).block, (ad.add (i.toNat * 11)).off + 8, none⟩ = some (.int .u32 (rd_T26 xs i).f8) ∧ w.cell? ⟨(ad.add (i.toNat * 11)).block, (ad.add (i.toNat * 11)).off + 9, none⟩ = some (.slice A9 (rd_T26 xs i).f9.length c9) ∧ w.cell? ⟨(ad.add (i.toNat * 11)).block, (ad.add (i.toNat * 11)).off + 10, none⟩ = some (.slice A10 (rd_T26 xs i).f10.length c10) ∧ (rd_T26 xs i).f9.length ≤ c9 ∧ (Kd.int .u8).C w A9 (rd_T26 xs i).f9.length (rd_T26 xs i).f9 ∧ (rd_T26 xs i).f10.length ≤ c10 ∧ (Kd.int .u8).C w A10 (rd_T26 xs i).f10.length (rd_T26 xs i).f10 := by
  obtain ⟨ad, c, e, _, hK, hc0⟩ := Kd.C_get h z26 i h0 h1
  have hc : ∀ j u, c[j]? = some u → w.cell? (ad.add (i.toNat * 11 + j)) = some u := hc0
  obtain ⟨A9, c9, A10, c10, rfl, l9, g9, l10, g10⟩ := k26_open hK
  exact ⟨ad, A9, c9, A10, c10, e, hc 0 _ rfl, by rw [← add_field _ _ 1 (by omega)]; exact hc 1 _ rfl, by rw [← add_field _ _ 2 (by omega)]; exact hc 2 _ rfl, by rw [← add_field _ _ 3 (by omega)]; exact hc 3 _ rfl, by rw [← add_field _ _ 4 (by omega)]; exact hc 4 _ rfl, by rw [← add_field _ _ 5 (by omega)]; exact hc 5 _ rfl, by rw [← add_field _ _ 6 (by omega)]; exact hc 6 _ rfl, by rw [← add_field _ _ 7 (by omega)]; exact hc 7 _ rfl, by rw [← add_field _ _ 8 (by omega)]; exact hc 8 _ rfl, by rw [← add_field _ _ 9 (by omega)]; exact hc 9 _ rfl, by rw [← add_field _ _ 10 (by omega)]; exact hc 10 _ rfl, l9, g9, l10, g10⟩

/-! #### struct type 40 -/
structure S40 where
  f0 : Int
  f1 : Int
  f2 : Int
  f3 : (List Int)
def z40 : S40 := ⟨(0 : Int), (0 : Int), (0 : Int), ([] : List Int)⟩
def k40 : Kd S40 := Kd.iso (Kd.pair (Kd.int .u8) (Kd.pair (Kd.int .u8) (Kd.pair (Kd.int .u32) (Kd.slice 5 (Kd.int .u8))))) (fun x : S40 => (x.f0, x.f1, x.f2, x.f3))
theorem k40_open {w : World} {x : S40} {cs : List Value} (h : k40.K w x cs) : ∃ A3 c3, cs = [.int .u8 x.f0, .int .u8 x.f1, .int .u32 x.f2, .slice A3 x.f3.length c3] ∧ x.f3.length ≤ c3 ∧ (Kd.int .u8).C w A3 x.f3.length x.f3 := by
  obtain ⟨_, _, rfl, rfl, ⟨_, _, rfl, rfl, ⟨_, _, rfl, rfl, ⟨A3, c3, rfl, l3, g3⟩⟩⟩⟩ := h
  exact ⟨A3, c3, rfl, l3, g3⟩
theorem k40_openM {w : World} {base : Nat} {ok : Nat → Prop} {x : S40} {cs : List Value} (h : k40.M w base ok x cs) : ∃ v3, cs = [.int .u8 x.f0, .int .u8 x.f1, .int .u32 x.f2, v3] ∧ (Kd.int .u8).R 5 w base ok v3 x.f3 := by
  obtain ⟨_, _, rfl, rfl, ⟨_, _, rfl, rfl, ⟨_, _, rfl, rfl, ⟨v3, rfl, g3⟩⟩⟩⟩ := h
  exact ⟨v3, rfl, g3⟩
theorem k40_mk (w : World) (x : S40) {A3 : Option Addr} {c3 : Nat} (l3 : x.f3.length ≤ c3) (g3 : (Kd.int .u8).C w A3 x.f3.length x.f3) : k40.K w x [.int .u8 x.f0, .int .u8 x.f1, .int .u32 x.f2, .slice A3 x.f3.length c3] := ⟨[.int .u8 x.f0], [.int .u8 x.f1, .int .u32 x.f2, .slice A3 x.f3.length c3], rfl, rfl, ⟨[.int .u8 x.f1], [.int .u32 x.f2, .slice A3 x.f3.length c3], rfl, rfl, ⟨[.int .u32 x.f2], [.slice A3 x.f3.length c3], rfl, rfl, ⟨A3, c3, rfl, l3, g3⟩⟩⟩⟩
theorem k40_mkM (w : World) (base : Nat) (ok : Nat → Prop) (x : S40) {v3 : Value} (g3 : (Kd.int .u8).R 5 w base ok v3 x.f3) : k40.M w base ok x [.int .u8 x.f0, .int .u8 x.f1, .int .u32 x.f2, v3] := ⟨[.int .u8 x.f0], [.int .u8 x.f1, .int .u32 x.f2, v3], rfl, rfl, ⟨[.int .u8 x.f1], [.int .u32 x.f2, v3], rfl, rfl, ⟨[.int .u32 x.f2], [v3], rfl, rfl, ⟨v3, rfl, g3⟩⟩⟩⟩
def rd_T40 (xs : List S40) (i : Int) : S40 := xs.getD i.toNat z40
theorem at_T40 {w : World} {A : Option Addr} {n : Nat} {xs : List S40} (h : Kd.C k40 w A n xs) (i : Int) (h0 : 0 ≤ i) (h1 : i < n) : ∃ ad A3 c3, A = some ad ∧ w.cell? (ad.add (i.toNat * 4)) = some (.int .u8 (rd_T40 xs i).f0) ∧ w.cell? ⟨(ad.add (i.toNat * 4)).block, (ad.add (i.toNat * 4)).off + 1, none⟩ = some (.int .u8 (rd_T40 xs i).f1) ∧ w.cell? ⟨(ad.add (i.toNat * 4)).block, (ad.add (i.toNat * 4)).off + 2, none⟩ = some (.int .u32 (rd_T40 xs i).f2) ∧ w.cell? ⟨(ad.add (i.toNat * 4)).block, (ad.add (i.toNat * 4)).off + 3, none⟩ = some (.slice A3 (rd_T40 xs i).f3.length c3) ∧ (rd_T40 xs i).f3.length ≤ c3 ∧ (Kd.int .u8).C w A3 (rd_T40 xs i).f3.length (rd_T40 xs i).f3 := by
  obtain ⟨ad, c, e, _, hK, hc0⟩ := Kd.C_get h z40 i h0 h1
  have hc : ∀ j u, c[j]? = some u → w.cell? (ad.add (i.toNat * 4 + j)) = some u := hc0
  obtain ⟨A3, c3, rfl, l3, g3⟩ := k40_open hK
  exact ⟨ad, A3, c3, e, hc 0 _ rfl, by rw [← add_field _ _ 1 (by omega)]; exact hc 1 _ rfl, by rw [← add_field _ _ 2 (by omega)]; exact hc 2 _ rfl, by rw [← add_field _ _ 3 (by omega)]; exact hc 3 _ rfl, l3, g3⟩

open Go.Proofs.YtghfljmoaalinaaW.Opened
def wf26 (x : S26) : Prop := ((fun x => (Lit.int .u8 x).wf = true) x.f0) ∧ (((fun x => (Lit.int .u16 x).wf = true) x.f1) ∧ (((fun _ => True) x.f2) ∧ (((fun _ => True) x.f3) ∧ (((fun x => (Lit.int .i64 x).wf = true) x.f4) ∧ (((fun x => (Lit.int .u8 x).wf = true) x.f5) ∧ (((fun x => (Lit.int .u8 x).wf = true) x.f6) ∧ (((fun x => (Lit.int .u32 x).wf = true) x.f7) ∧ (((fun x => (Lit.int .u32 x).wf = true) x.f8) ∧ (((fun l => l.length * 1 ≤ 140737488351232 ∧ ∀ x ∈ l, (fun x => (Lit.int .u8 x).wf = true) x) x.f9) ∧ ((fun l => l.length * 1 ≤ 140737488351232 ∧ ∀ x ∈ l, (fun x => (Lit.int .u8 x).wf = true) x) x.f10))))))))))
theorem op26 : Opens Try.prog 26 k26 wf26 := Opens.mono (Opens.iso (fun p => (⟨p.1, p.2.1, p.2.2.1, p.2.2.2.1, p.2.2.2.2.1, p.2.2.2.2.2.1, p.2.2.2.2.2.2.1, p.2.2.2.2.2.2.2.1, p.2.2.2.2.2.2.2.2.1, p.2.2.2.2.2.2.2.2.2.1, p.2.2.2.2.2.2.2.2.2.2⟩ : S26)) (fun _ => rfl) (Opens.struct Try.underlying26 (by kernel_rfl) (OpensF.cons rfl (by kernel_rfl) rfl (Opens.int Try.underlying5) (OpensF.cons rfl (by kernel_rfl) rfl (Opens.int Try.underlying22) (OpensF.cons rfl (by kernel_rfl) rfl (Opens.bool Try.underlying4) (OpensF.cons rfl (by kernel_rfl) rfl (Opens.bool Try.underlying4) (OpensF.cons rfl (by kernel_rfl) rfl (Opens.int Try.underlying3) (OpensF.cons rfl (by kernel_rfl) rfl (Opens.int Try.underlying5) (OpensF.cons rfl (by kernel_rfl) rfl (Opens.int Try.underlying5) (OpensF.cons rfl (by kernel_rfl) rfl (Opens.int Try.underlying23) (OpensF.cons rfl (by kernel_rfl) rfl (Opens.int Try.underlying23) (OpensF.cons rfl (by kernel_rfl) rfl (Opens.slice (B := 1) Try.underlying24 (by kernel_rfl) (by kernel_rfl) (Opens.int Try.underlying5)) (OpensF.one rfl (by kernel_rfl) (Opens.slice (B := 1) Try.underlying24 (by kernel_rfl) (by kernel_rfl) (Opens.int Try.underlying5))))))))))))))) (fun _ h => h)
def wf40 (x : S40) : Prop := ((fun x => (Lit.int .u8 x).wf = true) x.f0) ∧ (((fun x => (Lit.int .u8 x).wf = true) x.f1) ∧ (((fun x => (Lit.int .u32 x).wf = true) x.f2) ∧ ((fun l => l.length * 1 ≤ 140737488351232 ∧ ∀ x ∈ l, (fun x => (Lit.int .u8 x).wf = true) x) x.f3)))
theorem op40 : Opens Try.prog 40 k40 wf40 := Opens.mono (Opens.iso (fun p => (⟨p.1, p.2.1, p.2.2.1, p.2.2.2⟩ : S40)) (fun _ => rfl) (Opens.struct Try.underlying40 (by kernel_rfl) (OpensF.cons rfl (by kernel_rfl) rfl (Opens.int Try.underlying5) (OpensF.cons rfl (by kernel_rfl) rfl (Opens.int Try.underlying5) (OpensF.cons rfl (by kernel_rfl) rfl (Opens.int Try.underlying23) (OpensF.one rfl (by kernel_rfl) (Opens.slice (B := 1) Try.underlying24 (by kernel_rfl) (by kernel_rfl) (Opens.int Try.underlying5)))))))) (fun _ h => h)
end Go.Proofs.Ytghfljmoaalinaa.Q
