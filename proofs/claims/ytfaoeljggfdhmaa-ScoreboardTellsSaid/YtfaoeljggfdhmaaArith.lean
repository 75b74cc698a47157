/- Small facts on whole numbers that wrap round. No condition. -/
import Derived.Test.YtfaoeljggfdhmaaWMore
namespace Go.Proofs.YtfaoeljggfdhmaaW.Arith
open Go.RowKit Go.Proofs.YtfaoeljggfdhmaaW.PrintWords
theorem w64 {x : Int} (h : -9223372036854775808 ≤ x) (h' : x ≤ 9223372036854775807) : wrap64 x = x := by unfold wrap64; omega
theorem u64w (x : Int) : IntKind.u64.wrap x = x % 18446744073709551616 := by simp [IntKind.wrap, IntKind.signed, IntKind.bits]
theorem u32w (x : Int) : IntKind.u32.wrap x = x % 4294967296 := by simp [IntKind.wrap, IntKind.signed, IntKind.bits]
theorem u16w (x : Int) : IntKind.u16.wrap x = x % 65536 := by simp [IntKind.wrap, IntKind.signed, IntKind.bits]
theorem u8w (x : Int) : IntKind.u8.wrap x = x % 256 := by simp [IntKind.wrap, IntKind.signed, IntKind.bits]
theorem u64i {x : Int} (h : 0 ≤ x) (h' : x ≤ 18446744073709551615) : IntKind.u64.wrap x = x := by rw [u64w]; omega
theorem u16i {x : Int} (h : 0 ≤ x) (h' : x ≤ 65535) : IntKind.u16.wrap x = x := by rw [u16w]; omega
theorem tdivp {a b : Int} (h : 0 ≤ a) : Int.tdiv a b = a / b := Int.tdiv_eq_ediv_of_nonneg h
theorem shl_u64 (x y : Int) (h : y.toNat ≤ 64) : shl .u64 x y = IntKind.u64.wrap (x * 2 ^ y.toNat) := by
  unfold shl
  rw [show IntKind.bits .u64 = 64 from rfl, Nat.min_eq_left h]
theorem two {α β : Type} {g : Option α} {a : α} {f : α → Option β} {r : Option β} (h : g = some a) (k : f a = r) : g.bind f = r := by rw [h]; exact k
end Go.Proofs.YtfaoeljggfdhmaaW.Arith
