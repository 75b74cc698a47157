/- codel: what Dequeue tells. No condition. -/
import Derived.Test.YtepolgapbbaklaaCodelX
namespace Go.Proofs.Ytepolgapbbaklaa.Q
set_option linter.unusedVariables false
set_option linter.unusedSimpArgs false
open Go.RowKit Go.Proofs.YtepolgapbbaklaaW.PrintWords Go.Proofs.YtepolgapbbaklaaW.PrintLast Go.Proofs.YtepolgapbbaklaaW.PrintMore
def okGo (k : Nat) : Bool → List S41 → Option Bool
  | ok, [] => some ok
  | ok, x :: q => (codel_within.f k 0 2199023255552 [x.f0]).bind fun b1 => (codel_within.f k 1 65535 [x.f1]).bind fun b2 => okGo k (ok && b1 && b2) q
def sumGo : Int → List S41 → Int
  | b, [] => b
  | b, x :: q => sumGo (wrap64 (b + x.f1)) q
/-- The call as it begins: its queue weighs b. -/
def runOf (a0_0 a0_1 a0_2 : Int) (a1_0 : Bool) (a1_1 : Int) (a1_2 : Bool) (a1_3 a1_4 a1_5 : Int) (l2 : List S41) (b : Int) (a3 : Int) : Run :=
  ⟨a0_0, a0_1, a0_2, a1_0, a1_1, a1_2, a1_3, a1_4, a1_5, l2, b, a3, z41, false, false, z41, false, [], 0⟩
def afterR (k n : Nat) (d : Bool) (r : Run) : Option Run :=
  if d = true then goOnR k n { (takeR r).1 with dropping := (takeR r).2 } else if (takeR r).2 = true then beginR k (takeR r).1 else some (takeR r).1
theorem beginR.mono (k : Nat) (r : Run) : LeO (beginR k r) (beginR (k + 1) r) := by
  unfold beginR
  exact LeO.bind (codel_law.mono _ _ _ _) (fun _ => LeO.refl _)
theorem stepR.mono (k : Nat) (r : Run) : LeO (stepR k r) (stepR (k + 1) r) := by
  unfold stepR
  exact LeO.ite (LeO.bind (codel_law.mono _ _ _ _) (fun _ => LeO.refl _)) (LeO.refl _)
theorem goOnR.mono (k : Nat) : ∀ (n : Nat) (r : Run), LeO (goOnR k n r) (goOnR (k + 1) n r)
  | 0, r => LeO.refl _
  | n + 1, r => by
    unfold goOnR
    exact LeO.ite (LeO.bind (stepR.mono _ _) (fun _ => goOnR.mono k n _)) (LeO.refl _)
theorem afterR.mono (k n : Nat) (d : Bool) (r : Run) : LeO (afterR k n d r) (afterR (k + 1) n d r) := by
  unfold afterR
  exact LeO.ite (goOnR.mono _ _ _) (LeO.ite (beginR.mono _ _) (LeO.refl _))
theorem okGo.mono (k : Nat) : ∀ (ok : Bool) (q : List S41), LeO (okGo k ok q) (okGo (k + 1) ok q)
  | ok, [] => LeO.refl _
  | ok, x :: q => LeO.bind (codel_within.mono _ _ _ _) (fun _ => LeO.bind (codel_within.mono _ _ _ _) (fun _ => okGo.mono k _ q))
/-- Dequeue, as a function. -/
def deqR (k : Nat) (a0_0 a0_1 a0_2 : Int) (a1_0 : Bool) (a1_1 : Int) (a1_2 : Bool) (a1_3 a1_4 a1_5 : Int) (l2 : List S41) (a3 : Int) : Option (Run × Int) :=
  (codel_Check.f k a0_0 a0_1 a0_2).bind fun e =>
  if e = 0 then
    (codel_within.f k 0 2199023255552 [a3, a1_1, a1_3]).bind fun b1 => (codel_within.f k 0 1073741824 [a1_4, a1_5]).bind fun b2 => (okGo k (b1 && b2) l2).bind fun ok =>
    if ok = true then
      if l2.length < 4398046511000 then
        (afterR k (l2.length + 2) a1_2 (runOf a0_0 a0_1 a0_2 a1_0 a1_1 a1_2 a1_3 a1_4 a1_5 l2 (sumGo 0 l2) a3)).bind fun r =>
        some ({ r with rhas := r.has, out := r.cur, left := (r.q.length : Int) }, 0)
      else none
    else some (runOf 0 0 0 false 0 false 0 0 0 [] 0 0, 4)
  else some (runOf 0 0 0 false 0 false 0 0 0 [] 0 0, e)
theorem deqR.mono : ∀ a0_0 a0_1 a0_2 a1_0 a1_1 a1_2 a1_3 a1_4 a1_5 l2 a3 k, LeO (deqR k a0_0 a0_1 a0_2 a1_0 a1_1 a1_2 a1_3 a1_4 a1_5 l2 a3) (deqR (k + 1) a0_0 a0_1 a0_2 a1_0 a1_1 a1_2 a1_3 a1_4 a1_5 l2 a3) := by
  intro a0_0 a0_1 a0_2 a1_0 a1_1 a1_2 a1_3 a1_4 a1_5 l2 a3 k
  unfold deqR
  refine LeO.bind (codel_Check.mono _ _ _ _) (fun _ => LeO.ite ?_ (LeO.refl _))
  refine LeO.bind (codel_within.mono _ _ _ _) (fun _ => LeO.bind (codel_within.mono _ _ _ _) (fun _ => LeO.bind (okGo.mono _ _ _) (fun _ => LeO.ite ?_ (LeO.refl _))))
  exact LeO.ite (LeO.bind (afterR.mono _ _ _ _) (fun _ => LeO.refl _)) (LeO.refl _)
/-- What Dequeue's caller gets. -/
def DqPost (w : World) (r : Run) (err : Int) (e : Ending) (W : World) : Prop :=
  ∃ v : Value, e = .returned (.tuple #[.agg #[.bool r.above, .int .i64 r.aboveAt, .bool r.dropping, .int .i64 r.next, .int .i64 r.count, .int .i64 r.last], .agg #[.bool r.rhas, .int .i64 r.out.f0, .int .i64 r.out.f1, .bool r.out.f2, .int .i64 r.out.f3, .bool r.marked, v, .int .i64 r.left], .int .i64 err]) ∧ Kd.R k41 41 W w.heap.size (fun _ => True) v r.dropped ∧ Below w.heap.size w W
/-- Boxes that the call made. -/
structure Bx (w W : World) (L : List (Nat × Array Value × TypeId)) : Prop where
  B : Below w.heap.size w W
  K : ∀ x ∈ L, W.heap[x.1]? = some (.cells x.2.1 x.2.2 (0, 0)) ∧ w.heap.size ≤ x.1
theorem Bx.nil (w : World) : Bx w w [] := ⟨Below.refl _ _, fun x hx => absurd hx (by simp)⟩
theorem Bx.step {w W W1 : World} {L : List (Nat × Array Value × TypeId)} (h : Bx w W L) (hb : Below W.heap.size W W1) : Bx w W1 L :=
  ⟨below_step h.B hb, fun x hx => ⟨blk_below (h.K x hx).1 hb, (h.K x hx).2⟩⟩
theorem Bx.new {w W W1 : World} {L : List (Nat × Array Value × TypeId)} (h : Bx w W L) {g : Nat} {cs : Array Value} {t : TypeId} (hb : Below W.heap.size W W1) (e : g = W.heap.size) (hk : W1.heap[g]? = some (.cells cs t (0, 0))) : Bx w W1 ((g, cs, t) :: L) := by
  refine ⟨below_step h.B hb, fun x hx => ?_⟩
  rcases List.mem_cons.1 hx with e1 | hx
  · subst e1
    exact ⟨hk, by rw [e]; exact below_size h.B⟩
  · exact ⟨blk_below (h.K x hx).1 hb, (h.K x hx).2⟩
theorem Bx.at {w W : World} {L : List (Nat × Array Value × TypeId)} (h : Bx w W L) (g : Nat) (cs : Array Value) (t : TypeId) (hx : (g, cs, t) ∈ L) : W.heap[g]? = some (.cells cs t (0, 0)) ∧ w.heap.size ≤ g := h.K _ hx
/-- The two boxes that Dequeue's answers lie in, and what is dropped. -/
structure Ou (w W : World) (g8 g9 : Nat) (c8 c9 : Array Value) (v : Value) (ds : List S41) : Prop where
  B : Below w.heap.size w W
  e8 : w.heap.size ≤ g8
  e9 : w.heap.size ≤ g9
  k8 : W.heap[g8]? = some (.cells c8 71 (0, 0))
  k9 : W.heap[g9]? = some (.cells c9 80 (0, 0))
  HD : Kd.R k41 41 W w.heap.size (fun k => k ≠ g8 ∧ k ≠ g9) v ds
section
variable {w W : World} {g8 g9 : Nat} {c8 c9 : Array Value} {v : Value} {ds : List S41}
theorem Ou.ne (h : Ou w W g8 g9 c8 c9 v ds) : g8 ≠ g9 := blk_ne h.k8 h.k9 (by decide)
theorem Ou.p8 (h : Ou w W g8 g9 c8 c9 v ds) (i : Nat) (u : Value) : Ou w (W.setCell ⟨g8, i, none⟩ u) g8 g9 (c8.setIfInBounds i u) c9 v ds :=
  ⟨below_set h.B h.e8, h.e8, h.e9, blk_set h.k8 i u, blk_far h.k9 (fun e => h.ne e.symm) u, Kd.R_far (p := ⟨g8, i, none⟩) h.HD (fun _ hk => hk.1) u⟩
theorem Ou.p9 (h : Ou w W g8 g9 c8 c9 v ds) (i : Nat) (u : Value) : Ou w (W.setCell ⟨g9, i, none⟩ u) g8 g9 c8 (c9.setIfInBounds i u) v ds :=
  ⟨below_set h.B h.e9, h.e8, h.e9, blk_far h.k8 h.ne u, blk_set h.k9 i u, Kd.R_far (p := ⟨g9, i, none⟩) h.HD (fun _ hk => hk.2) u⟩
theorem Ou.drew (h : Ou w W g8 g9 c8 c9 v ds) : Ou w W.drew g8 g9 c8 c9 v ds := ⟨h.B.drew, h.e8, h.e9, h.k8, h.k9, Kd.R_drew h.HD⟩
end
def stC (r : Run) : Array Value := #[.bool r.above, .int .i64 r.aboveAt, .bool r.dropping, .int .i64 r.next, .int .i64 r.count, .int .i64 r.last]
def reC (r : Run) (v : Value) : Array Value := #[.bool r.rhas, .int .i64 r.out.f0, .int .i64 r.out.f1, .bool r.out.f2, .int .i64 r.out.f3, .bool r.marked, v, .int .i64 r.left]
set_option maxHeartbeats 1000000 in
theorem dq_ret {w W : World} {g8 g9 : Nat} {r : Run} {err : Int} {v : Value} (o : Ou w W g8 g9 (stC r) (reC r v) v r.dropped) {T : Array Value}
    (t8 : T[8]? = some (.pointer (some ⟨g8, 0, none⟩))) (t9 : T[9]? = some (.pointer (some ⟨g9, 0, none⟩))) (t10 : T[10]? = some (.int .i64 err)) : bodyPost Try.prog Try.f26 (DqPost w r err) Exit.ret { tmps := T, defers := [] } W := by
  have hu40 := Try.underlying71
  have hu42 := Try.underlying41
  have hu44 := Try.underlying80
  have hres : Try.f26.results = #[.cell 8 71, .cell 9 80, .tmp 10] := by kernel_rfl
  have z80 : W.cell? ⟨g8, 0, none⟩ = some (.bool r.above) := (blk_cell o.k8 0).trans rfl
  have z81 : W.cell? ⟨g8, 1, none⟩ = some (.int .i64 r.aboveAt) := (blk_cell o.k8 1).trans rfl
  have z82 : W.cell? ⟨g8, 2, none⟩ = some (.bool r.dropping) := (blk_cell o.k8 2).trans rfl
  have z83 : W.cell? ⟨g8, 3, none⟩ = some (.int .i64 r.next) := (blk_cell o.k8 3).trans rfl
  have z84 : W.cell? ⟨g8, 4, none⟩ = some (.int .i64 r.count) := (blk_cell o.k8 4).trans rfl
  have z85 : W.cell? ⟨g8, 5, none⟩ = some (.int .i64 r.last) := (blk_cell o.k8 5).trans rfl
  have z90 : W.cell? ⟨g9, 0, none⟩ = some (.bool r.rhas) := (blk_cell o.k9 0).trans rfl
  have z91 : W.cell? ⟨g9, 1, none⟩ = some (.int .i64 r.out.f0) := (blk_cell o.k9 1).trans rfl
  have z92 : W.cell? ⟨g9, 2, none⟩ = some (.int .i64 r.out.f1) := (blk_cell o.k9 2).trans rfl
  have z93 : W.cell? ⟨g9, 3, none⟩ = some (.bool r.out.f2) := (blk_cell o.k9 3).trans rfl
  have z94 : W.cell? ⟨g9, 4, none⟩ = some (.int .i64 r.out.f3) := (blk_cell o.k9 4).trans rfl
  have z95 : W.cell? ⟨g9, 5, none⟩ = some (.bool r.marked) := (blk_cell o.k9 5).trans rfl
  have z96 : W.cell? ⟨g9, 6, none⟩ = some v := (blk_cell o.k9 6).trans rfl
  have z97 : W.cell? ⟨g9, 7, none⟩ = some (.int .i64 r.left) := (blk_cell o.k9 7).trans rfl
  have HO := Aside0.mk o
  clear o
  refine bodyPost_ret (v := .tuple #[.agg #[.bool r.above, .int .i64 r.aboveAt, .bool r.dropping, .int .i64 r.next, .int .i64 r.count, .int .i64 r.last], .agg #[.bool r.rhas, .int .i64 r.out.f0, .int .i64 r.out.f1, .bool r.out.f2, .int .i64 r.out.f3, .bool r.marked, v, .int .i64 r.left], .int .i64 err]) ?_ rfl ⟨v, rfl, Kd.R_mono HO.out.HD (fun _ _ => trivial), HO.out.B⟩
  simp [results, hres, go_sem, t8, t9, t10, hu40, hu42, hu44, z80, z81, z82, z83, z84, z85, z90, z91, z92, z93, z94, z95, z96, z97]
end Go.Proofs.Ytepolgapbbaklaa.Q
