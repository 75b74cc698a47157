/- What a straight walk knows of the world: its boxes, and the rows of blocks that it may read. No condition. -/
import Derived.Test.YtfaoeljggfdhmaaQ0
import Derived.Outline
import Derived.Lib.Hide
import Derived.Deep.RegionHeld3
import Derived.Deep.RegionWith
namespace Go.Proofs.Ytfaoeljggfdhmaa.Q
set_option linter.unusedVariables false
set_option linter.unusedSimpArgs false
open Go.RowKit Go.Proofs.YtfaoeljggfdhmaaW.PrintWords Go.Proofs.YtfaoeljggfdhmaaW.PrintLast Go.Proofs.YtfaoeljggfdhmaaW.PrintMore
/-- The boxes L and the rows R, all made before W. -/
structure TW (w W : World) (L : List (Nat × Array Value × TypeId)) (R : List (Option Addr × List S35)) : Prop where
  B : Below w.heap.size w W
  K : ∀ x ∈ L, W.heap[x.1]? = some (.cells x.2.1 x.2.2 (0, 0)) ∧ w.heap.size ≤ x.1
  C : ∀ x ∈ R, Kd.C k35 W x.1 x.2.length x.2
theorem TW.first {w : World} {A : Option Addr} {l : List S35} (h : Kd.C k35 w A l.length l) : TW w w [] [(A, l)] :=
  ⟨Below.refl _ _, fun x hx => absurd hx (by simp), fun x hx => by
    rcases List.mem_cons.1 hx with e | hx
    · subst e
      exact h
    · exact absurd hx (by simp)⟩
theorem TW.step {w W W1 : World} {L : List (Nat × Array Value × TypeId)} {R : List (Option Addr × List S35)} (h : TW w W L R) (hb : Below W.heap.size W W1) : TW w W1 L R :=
  ⟨below_step h.B hb, fun x hx => ⟨blk_below (h.K x hx).1 hb, (h.K x hx).2⟩, fun x hx => Kd.C_below (h.C x hx) hb⟩
theorem TW.any {w W W1 : World} {L : List (Nat × Array Value × TypeId)} {R : List (Option Addr × List S35)} (h : TW w W L R) {q : Nat} (hb : Below (W.drewN q).heap.size (W.drewN q) W1) : TW w W1 L R := h.step ⟨hb.os, hb.tape, hb.output, hb.size, hb.block⟩
theorem TW.row {w W : World} {L : List (Nat × Array Value × TypeId)} {R : List (Option Addr × List S35)} (h : TW w W L R) {A : Option Addr} {c b : Nat} {e : TypeId} {ok : Nat → Prop} {l : List S35} (hr : Kd.R k35 e W b ok (.slice A l.length c) l) : TW w W L ((A, l) :: R) :=
  ⟨h.B, h.K, fun x hx => by
    rcases List.mem_cons.1 hx with e | hx
    · subst e
      exact (Kd.R_reads' hr).2.2
    · exact h.C x hx⟩
theorem TW.new {w W W1 : World} {L : List (Nat × Array Value × TypeId)} {R : List (Option Addr × List S35)} (h : TW w W L R) {g : Nat} {cs : Array Value} {t : TypeId} (hb : Below W.heap.size W W1) (e : g = W.heap.size) (hk : W1.heap[g]? = some (.cells cs t (0, 0))) : TW w W1 ((g, cs, t) :: L) R := by
  have h1 := h.step hb
  refine ⟨h1.B, fun x hx => ?_, h1.C⟩
  rcases List.mem_cons.1 hx with e1 | hx
  · subst e1
    exact ⟨hk, by rw [e]; exact below_size h.B⟩
  · exact h1.K x hx
/-- A box of two cells that is made and filled. -/
theorem TW.two {w W W1 : World} {L : List (Nat × Array Value × TypeId)} {R : List (Option Addr × List S35)} (h : TW w W L R) {g : Nat} {z0 z1 v0 v1 : Value} {t : TypeId} (hb : Below W.heap.size W W1) (e : g = W.heap.size) (hk : W1.heap[g]? = some (.cells #[z0, z1] t (0, 0))) :
    TW w ((W1.setCell ⟨g, 0, none⟩ v0).setCell ⟨g, 1, none⟩ v1) ((g, #[v0, v1], t) :: L) R :=
  h.new (below_set (below_set hb (by omega)) (by omega)) e (blk_set (blk_set hk 0 v0) 1 v1)
/-- A box of four cells that is made and filled. -/
theorem TW.four {w W W1 : World} {L : List (Nat × Array Value × TypeId)} {R : List (Option Addr × List S35)} (h : TW w W L R) {g : Nat} {z0 z1 z2 z3 v0 v1 v2 v3 : Value} {t : TypeId} (hb : Below W.heap.size W W1) (e : g = W.heap.size) (hk : W1.heap[g]? = some (.cells #[z0, z1, z2, z3] t (0, 0))) :
    TW w ((((W1.setCell ⟨g, 0, none⟩ v0).setCell ⟨g, 1, none⟩ v1).setCell ⟨g, 2, none⟩ v2).setCell ⟨g, 3, none⟩ v3) ((g, #[v0, v1, v2, v3], t) :: L) R :=
  h.new (below_set (below_set (below_set (below_set hb (by omega)) (by omega)) (by omega)) (by omega)) e (blk_set (blk_set (blk_set (blk_set hk 0 v0) 1 v1) 2 v2) 3 v3)
theorem TW.at {w W : World} {L : List (Nat × Array Value × TypeId)} {R : List (Option Addr × List S35)} (h : TW w W L R) (g : Nat) (cs : Array Value) (t : TypeId) (hx : (g, cs, t) ∈ L) : W.heap[g]? = some (.cells cs t (0, 0)) := (h.K _ hx).1
theorem TW.c2 {w W : World} {L : List (Nat × Array Value × TypeId)} {R : List (Option Addr × List S35)} (h : TW w W L R) {g : Nat} {v0 v1 : Value} {t : TypeId} (hx : (g, #[v0, v1], t) ∈ L) : W.cell? ⟨g, 0, none⟩ = some v0 ∧ W.cell? ⟨g, 1, none⟩ = some v1 :=
  ⟨(blk_cell (h.K _ hx).1 0).trans rfl, (blk_cell (h.K _ hx).1 1).trans rfl⟩
theorem TW.c4 {w W : World} {L : List (Nat × Array Value × TypeId)} {R : List (Option Addr × List S35)} (h : TW w W L R) {g : Nat} {v0 v1 v2 v3 : Value} {t : TypeId} (hx : (g, #[v0, v1, v2, v3], t) ∈ L) : W.cell? ⟨g, 0, none⟩ = some v0 ∧ W.cell? ⟨g, 1, none⟩ = some v1 ∧ W.cell? ⟨g, 2, none⟩ = some v2 ∧ W.cell? ⟨g, 3, none⟩ = some v3 :=
  ⟨(blk_cell (h.K _ hx).1 0).trans rfl, (blk_cell (h.K _ hx).1 1).trans rfl, (blk_cell (h.K _ hx).1 2).trans rfl, (blk_cell (h.K _ hx).1 3).trans rfl⟩
theorem TW.rd {w W : World} {L : List (Nat × Array Value × TypeId)} {R : List (Option Addr × List S35)} (h : TW w W L R) (A : Option Addr) (l : List S35) (hx : (A, l) ∈ R) : Kd.C k35 W A l.length l := h.C _ hx
end Go.Proofs.Ytfaoeljggfdhmaa.Q
