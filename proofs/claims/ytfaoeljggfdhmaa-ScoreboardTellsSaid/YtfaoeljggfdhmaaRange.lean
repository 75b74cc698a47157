/- A 'for x := range g' where g is a method's value (it bears its receiver), and each round's variable is a new box: what the iterator gives is a list that is known when the loop begins. No condition. -/
import Derived.RangeFuncFrom
import Derived.RangeFuncLeaves
import Derived.RangeFuncWrites
namespace Go.Proofs.YtfaoeljggfdhmaaW.RangeSeq
open Go.RowKit
variable {F : Fence} {n : Nat} {P : Program}

/-- From block b on, all blocks but l stand. -/
def KeepB (b l : Nat) (A B : World) : Prop := A.heap.size ≤ B.heap.size ∧ ∀ k, b ≤ k → k < A.heap.size → k ≠ l → B.heap[k]? = A.heap[k]?
theorem KeepB.trans {b l : Nat} {A B C : World} (h : KeepB b l A B) (k : KeepB b l B C) : KeepB b l A C :=
  ⟨Nat.le_trans h.1 k.1, fun i hb hi hl => (k.2 i hb (Nat.lt_of_lt_of_le hi h.1) hl).trans (h.2 i hb hi hl)⟩
theorem KeepB.putObj (b l : Nat) (A : World) (o : Obj) : KeepB b l A (A.putObj l o) :=
  ⟨by simp, fun _ _ _ hl => World.putObj_heap_other hl⟩
/-- A block that is no cells has turned. -/
def Turn (l : Nat) (A B : World) : Prop := ∃ o o', A.heap[l]? = some o ∧ o.isCells = false ∧ o'.isCells = false ∧ B = A.putObj l o'
theorem Turn.cell {l : Nat} {A B : World} (h : Turn l A B) {a : Addr} {v : Value} (hc : A.cell? a = some v) : B.cell? a = some v := by
  obtain ⟨o, o', h1, h2, _, rfl⟩ := h
  exact cell_kept hc (grownBy_putObj' A l o') (fun r e => by cases e; exact ⟨o, h1, h2⟩)
theorem Turn.frozen {l : Nat} {A B : World} (h : Turn l A B) {a : Addr} {v : Value} (hc : A.cell? a = some v) : B.frozen? a = A.frozen? a := by
  obtain ⟨o, o', h1, h2, _, rfl⟩ := h
  exact frozen_kept hc (grownBy_putObj' A l o') (fun r e => by cases e; exact ⟨o, h1, h2⟩)
theorem Turn.size {l : Nat} {A B : World} (h : Turn l A B) : B.heap.size = A.heap.size := by
  obtain ⟨o, o', _, _, _, rfl⟩ := h
  simp
theorem Turn.other {l : Nat} {A B : World} (h : Turn l A B) {k : Nat} (hk : k ≠ l) : B.heap[k]? = A.heap[k]? := by
  obtain ⟨o, o', _, _, _, rfl⟩ := h
  exact World.putObj_heap_other hk
theorem below_putObj {b l : Nat} (A : World) (o : Obj) (hb : b ≤ l) : Below b A (A.putObj l o) :=
  ⟨rfl, rfl, rfl, by simp, fun k hk => World.putObj_heap_other (by omega)⟩
theorem Turn.below {b l : Nat} {A B : World} (h : Turn l A B) (hb : b ≤ l) : Below b A B := by
  obtain ⟨o, o', _, _, _, rfl⟩ := h
  exact below_putObj A o' hb

/-- **The iterator's contract**: called on 'first' and a yield function, in a world that has come from w0, it gives the values vs, in order, as long as yield says true. -/
def Gives (F : Fence) (n : Nat) (P : Program) (gf : Nat) (first : Array Value) (vs : List (Array Value)) (w0 : World) : Prop :=
  ∀ (l : Nat) (J : Nat → World → Prop) (E : World → Prop) (W : World), Below w0.heap.size w0 W → w0.heap.size ≤ l → l < W.heap.size →
    (∀ i A B, J i A → Below W.heap.size A B → J i B) →
    (∀ i v A, vs[i]? = some v → J i A → YieldAt F (n - 1) P l v A fun e B => (e = .returned (.bool true) ∧ J (i + 1) B ∧ KeepB w0.heap.size l A B) ∨ (e = .returned (.bool false) ∧ E B)) →
    J 0 W → CallsIn F n P gf (first ++ #[.func (.yield l) #[] #[]]) W fun e B => (∃ v, e = .returned v) ∧ (J vs.length B ∨ E B)

/-- How a round's body may be left. -/
def roundEnd (b l : Nat) (I : Nat → World → Prop) (X : Code → World → Prop) (i : Nat) (W W2 : World) : Exit → Act → World → Prop
  | .normal, _, W3 => KeepsOthers W2 W3 ∧ KeepB b l W W3 ∧ I (i + 1) W3
  | .ret, _, W3 => KeepsOthers W2 W3 ∧ X .ret W3
  | .exit id, _, W3 => KeepsOthers W2 W3 ∧ X (.exit id) W3
  | .goto t, _, W3 => KeepsOthers W2 W3 ∧ X (.goto t) W3
  | .panic _, _, _ => False
  | .outgrown, _, _ => False

/-- **The loop.** I i: what stands when i values have been given; X c: what stands when a round was left by c. -/
theorem wp_rangeSeq {g : Operand} {ps : Array Tmp} {assign body : Code} {Q : Exit → Act → World → Prop} {a : Act} {w : World}
    (hro : F.round = none) (h1 : 1 ≤ n) {gf : Nat} {first : Array Value} (hg : a.eval g = .func (.func gf) first #[]) (hFg : F.fn gf) (eg : ∀ args w, (callFunc gf args).run P w = .ok (.enter gf args) w)
    {vs : List (Array Value)} (hps : ∀ v ∈ vs, v.size = ps.size) (hit : Gives F (n - 1) P gf first vs w)
    (I : Nat → World → Prop) (X : Code → World → Prop) (hI : ∀ i A B, I i A → Below w.heap.size A B → I i B) (hX : ∀ c A B, X c A → Below w.heap.size A B → X c B) (h0 : I 0 w)
    (hround : ∀ (l i : Nat) (v : Array Value) (W : World), vs[i]? = some v → I i W → w.heap.size ≤ l → l < W.heap.size →
      assign.wpIn (F.inRound l) (n - 1 - 1) P (Exit.then (fun a1 W1 => KeepsOthers W W1 ∧ ∀ W2, Turn l W1 W2 → body.wpIn (F.inRound l) (n - 1 - 1) P (roundEnd w.heap.size l I X i W W2) a1 W2) (fun _ _ _ => False))
        { tmps := (ps.zip v).foldl (fun t (p, v) => t.setIfInBounds p v) a.tmps, defers := [] } W)
    (hdone : ∀ (D : Nat) (W : World), w.heap.size ≤ D → I vs.length W → W.heap[D]? = some (.deferred (some [])) → Q .normal { a with defers := { target := .collected D, args := #[] } :: a.defers } W)
    (hstop : ∀ (D : Nat) (c : Code) (W : World), w.heap.size ≤ D → X c W → W.heap[D]? = some (.deferred (some [])) → c.wpIn F n P Q { a with defers := { target := .collected D, args := #[] } :: a.defers } W) :
    (Code.rangeFunc g ps assign body).wpIn F n P Q a w := by
  refine wpIn_rangeFunc fun fn hfn => ?_
  rw [hro]
  obtain ⟨mk, hmk⟩ : ∃ mk : LoopState → Option Code → Loop, mk = fun st pe => { state := st, pending := pe, fn := fn, tmps := a.tmps, params := ps, assign := assign, body := body, defers := w.heap.size } := ⟨_, rfl⟩
  obtain ⟨D, hD⟩ : ∃ D, D = w.heap.size := ⟨_, rfl⟩
  obtain ⟨l, hl⟩ : ∃ l, l = w.heap.size + 1 := ⟨_, rfl⟩
  obtain ⟨W1, hW1⟩ : ∃ W1, W1 = (w.alloc (.deferred (some []))).alloc (.loop (mk .ready none)) := ⟨_, rfl⟩
  have sz : W1.heap.size = w.heap.size + 2 := by rw [hW1]; simp
  have atL : W1.heap[l]? = some (.loop (mk .ready none)) := by
    have := World.alloc_heap_new (w.alloc (.deferred (some []))) (.loop (mk .ready none))
    rw [World.size_alloc] at this
    rw [hW1, hl]
    exact this
  have atD : W1.heap[D]? = some (.deferred (some [])) := by
    rw [hW1, hD]
    exact (Below.heap_alloc _ _ _ (by simp)).trans (World.alloc_heap_new w _)
  have b1 : Below w.heap.size w W1 := by
    rw [hW1]
    exact ((Below.refl _ w).alloc (Nat.le_refl _) _).alloc (by simp) _
  have henter : (Instr.enterLoop fn a.tmps ps assign body none).run P w = .ok (l, [{ target := .collected D, args := #[] }]) W1 := by
    rw [hW1, hl, hD, hmk]
    exact run_enterLoop_outer _ _ _ _ _
  refine ⟨l, [{ target := .collected D, args := #[] }], W1, { target := .fn (.func gf) #[], args := first ++ #[.func (.yield l) #[] #[]] }, W1, gf, first ++ #[.func (.yield l) #[] #[]], W1, henter, ?_, ?_, ?_, fun _ => h1, ?_⟩
  · simp only [resolve, hg]
    simp [go_sem]
  · intro f' hf'
    simp [Target.leads] at hf'
    subst hf'
    exact hFg
  · simp [invoke, go_sem, eg]
  -- between the rounds: the record is ready
  refine (hit l (fun i W => I i W ∧ W.heap[l]? = some (.loop (mk .ready none)) ∧ W.heap[D]? = some (.deferred (some [])))
    (fun W => ∃ c, X c W ∧ W.heap[l]? = some (.loop (mk .done (some c))) ∧ W.heap[D]? = some (.deferred (some []))) W1 b1 (by omega) (by omega) ?_ ?_ ⟨hI _ _ _ h0 b1, atL, atD⟩).mono ?_
  · rintro i A B ⟨hi, h2, h3⟩ hb
    exact ⟨hI i A B hi (hb.mono (by omega)), (hb.block l (by omega)).trans h2, (hb.block D (by omega)).trans h3⟩
  · rintro i v W hv ⟨hi, h2, h3⟩
    have hlt : l < W.heap.size := (Array.getElem?_eq_some_iff.1 h2).1
    have hy := run_yield (P := P) (args := v) h2 (by rw [hmk]; exact hps v (List.mem_of_getElem? hv))
    rw [hmk] at hy
    refine ⟨fn, _, assign, body, hy, roundIn_of_wpIn hfn (wpIn_mono (hround l i v W hv hi (by omega) hlt) ?_)⟩
    rintro e a1 V hp
    cases e with
    | normal =>
      obtain ⟨hk, hbody⟩ := hp
      have v2 := hk.same l _ h2 rfl
      have v3 := hk.same D _ h3 rfl
      have vlt : l < V.heap.size := (Array.getElem?_eq_some_iff.1 v2).1
      obtain ⟨busy, hbusy⟩ : ∃ busy : Loop, busy = { mk .ready none with state := .busy } := ⟨_, rfl⟩
      refine ⟨V.putObj l (.loop busy), by rw [hbusy]; exact run_beginRound v2 (by rw [hmk]), ?_⟩
      refine wpIn_mono (hbody (V.putObj l (.loop busy)) ⟨_, .loop busy, v2, rfl, rfl, rfl⟩) ?_
      have u2 : (V.putObj l (.loop busy)).heap[l]? = some (.loop busy) := World.putObj_heap_same vlt
      have u3 : (V.putObj l (.loop busy)).heap[D]? = some (.deferred (some [])) := (World.putObj_heap_other (by omega)).trans v3
      have fin : ∀ (jump : Option Code) (Z : World), KeepsOthers (V.putObj l (.loop busy)) Z →
          (Instr.endRound l jump).run P Z = .ok (.bool jump.isNone) (Z.putObj l (.loop (mk (if jump.isNone then .ready else .done) jump))) ∧
          (Z.putObj l (.loop (mk (if jump.isNone then .ready else .done) jump))).heap[l]? = some (.loop (mk (if jump.isNone then .ready else .done) jump)) ∧
          (Z.putObj l (.loop (mk (if jump.isNone then .ready else .done) jump))).heap[D]? = some (.deferred (some [])) := fun jump Z hz => by
        have z2 := hz.same l _ u2 rfl
        have z3 := hz.same D _ u3 rfl
        have hr := run_endRound (P := P) jump z2
        rw [hbusy, hmk] at hr
        rw [hmk]
        exact ⟨hr, World.putObj_heap_same (Array.getElem?_eq_some_iff.1 z2).1, (World.putObj_heap_other (by omega)).trans z3⟩
      rintro e a3 Z hz
      cases e with
      | normal =>
        obtain ⟨z1, z2, z3⟩ := hz
        obtain ⟨r1, r2, r3⟩ := fin none Z z1
        exact ⟨_, _, r1, .inl ⟨rfl, ⟨hI _ _ _ z3 (below_putObj Z _ (by omega)), r2, r3⟩, z2.trans (KeepB.putObj _ l Z _)⟩⟩
      | ret =>
        obtain ⟨z1, z2⟩ := hz
        obtain ⟨r1, r2, r3⟩ := fin (some .ret) Z z1
        exact ⟨_, _, r1, .inr ⟨rfl, .ret, hX _ _ _ z2 (below_putObj Z _ (by omega)), r2, r3⟩⟩
      | exit id =>
        obtain ⟨z1, z2⟩ := hz
        obtain ⟨r1, r2, r3⟩ := fin (some (.exit id)) Z z1
        exact ⟨_, _, r1, .inr ⟨rfl, .exit id, hX _ _ _ z2 (below_putObj Z _ (by omega)), r2, r3⟩⟩
      | goto t =>
        obtain ⟨z1, z2⟩ := hz
        obtain ⟨r1, r2, r3⟩ := fin (some (.goto t)) Z z1
        exact ⟨_, _, r1, .inr ⟨rfl, .goto t, hX _ _ _ z2 (below_putObj Z _ (by omega)), r2, r3⟩⟩
      | panic ch => exact hz.elim
      | outgrown => exact hz.elim
    | ret => exact hp.elim
    | exit id => exact hp.elim
    | goto t => exact hp.elim
    | panic ch => exact hp.elim
    | outgrown => exact hp.elim
  · rintro e W2 ⟨⟨v, rfl⟩, ⟨hi, h2, h3⟩ | ⟨c, hc, h2, h3⟩⟩
    · refine ⟨none, W2.putObj l (.loop { mk .ready none with state := .exhausted }), by have := run_endLoop (P := P) h2 (by rw [hmk]; simp); rw [hmk] at this ⊢; exact this, ?_⟩
      exact hdone D _ (by omega) (hI _ _ _ hi (below_putObj W2 _ (by omega))) ((World.putObj_heap_other (by omega)).trans h3)
    · refine ⟨some c, W2.putObj l (.loop { mk .done (some c) with state := .exhausted }), by have := run_endLoop (P := P) h2 (by rw [hmk]; simp); rw [hmk] at this ⊢; exact this, ?_⟩
      exact hstop D c _ (by omega) (hX _ _ _ hc (below_putObj W2 _ (by omega))) ((World.putObj_heap_other (by omega)).trans h3)
end Go.Proofs.YtfaoeljggfdhmaaW.RangeSeq
