/- codel's run: its box, and the walk of take. No condition. -/
import Derived.Test.YtepolgapbbaklaaQ1
import Derived.Test.YtepolgapbbaklaaWMore
import Derived.Test.YtepolgapbbaklaaWFoot
import Derived.Test.YtepolgapbbaklaaWKept
import Derived.Test.YtepolgapbbaklaaWShare
import Derived.Test.YtepolgapbbaklaaWApart
import Derived.Outline
import Derived.Lib.Hide
import Derived.Deep.RegionHeld3
import Derived.Deep.RegionWith
namespace Go.Proofs.Ytepolgapbbaklaa.Q
set_option linter.unusedVariables false
set_option linter.unusedSimpArgs false
open Go.RowKit Go.Proofs.YtepolgapbbaklaaW.PrintWords Go.Proofs.YtepolgapbbaklaaW.PrintLast Go.Proofs.YtepolgapbbaklaaW.PrintMore
/-- A call of Dequeue on its way. -/
structure Run where
  tg : Int
  iv : Int
  mtu : Int
  above : Bool
  aboveAt : Int
  dropping : Bool
  next : Int
  count : Int
  last : Int
  q : List S41
  bytes : Int
  now : Int
  cur : S41
  has : Bool
  rhas : Bool
  out : S41
  marked : Bool
  dropped : List S41
  left : Int
def Run.cells (r : Run) (A : Option Addr) (c : Nat) (v : Value) : Array Value :=
  #[.int .i64 r.tg, .int .i64 r.iv, .int .i64 r.mtu, .bool r.above, .int .i64 r.aboveAt, .bool r.dropping, .int .i64 r.next, .int .i64 r.count, .int .i64 r.last, .slice A r.q.length c, .int .i64 r.bytes, .int .i64 r.now,
    .int .i64 r.cur.f0, .int .i64 r.cur.f1, .bool r.cur.f2, .int .i64 r.cur.f3, .bool r.has, .bool r.rhas, .int .i64 r.out.f0, .int .i64 r.out.f1, .bool r.out.f2, .int .i64 r.out.f3, .bool r.marked, v, .int .i64 r.left]
/-- The box, whatever its cells are. -/
structure RC (w W : World) (gb : Nat) (cs : Array Value) (v : Value) (ds : List S41) : Prop where
  B : Below w.heap.size w W
  ge : w.heap.size ≤ gb
  BK : W.heap[gb]? = some (.cells cs 87 (0, 0))
  HD : Kd.R k41 41 W w.heap.size (fun k => k ≠ gb) v ds
theorem RC.put {w W : World} {gb : Nat} {cs : Array Value} {v : Value} {ds : List S41} (h : RC w W gb cs v ds) (i : Nat) (u : Value) : RC w (W.setCell ⟨gb, i, none⟩ u) gb (cs.setIfInBounds i u) v ds :=
  ⟨h.B.setCell (p := ⟨gb, i, none⟩) h.ge u, h.ge, blk_put h.BK i u rfl, Kd.R_far (p := ⟨gb, i, none⟩) h.HD (fun _ hk => hk) u⟩
theorem RC.drew {w W : World} {gb : Nat} {cs : Array Value} {v : Value} {ds : List S41} (h : RC w W gb cs v ds) : RC w W.drew gb cs v ds := ⟨h.B.drew, h.ge, h.BK, Kd.R_drew h.HD⟩
theorem RC.drewN {w W : World} {gb : Nat} {cs : Array Value} {v : Value} {ds : List S41} (h : RC w W gb cs v ds) (n : Nat) : RC w (W.drewN n) gb cs v ds := ⟨pw_below_drewN h.B n, h.ge, h.BK, Kd.R_drewN h.HD n⟩
theorem RC.step {w W W' : World} {gb : Nat} {cs : Array Value} {v : Value} {ds : List S41} (h : RC w W gb cs v ds) (hb : Below W.heap.size W W') : RC w W' gb cs v ds :=
  ⟨below_step h.B hb, h.ge, blk_below h.BK hb, Kd.R_below h.HD hb⟩
theorem RC.z {w W : World} {gb : Nat} {cs : Array Value} {v : Value} {ds : List S41} (h : RC w W gb cs v ds) (i : Nat) : W.cell? ⟨gb, i, none⟩ = cs[i]? ∧ W.frozen? ⟨gb, i, none⟩ = false := ⟨blk_cell h.BK i, blk_frozen h.BK i⟩
structure RB (w W : World) (gb : Nat) (r : Run) (A : Option Addr) (c : Nat) (v : Value) : Prop where
  C : RC w W gb (r.cells A c v) v r.dropped
  hc : r.q.length ≤ c
  HQ : Kd.C k41 w A r.q.length r.q
theorem RB.z {w W : World} {gb : Nat} {r : Run} {A : Option Addr} {c : Nat} {v : Value} (h : RB w W gb r A c v) (i : Nat) : W.cell? ⟨gb, i, none⟩ = (r.cells A c v)[i]? ∧ W.frozen? ⟨gb, i, none⟩ = false := h.C.z i
theorem RC.rb {w W : World} {gb : Nat} {cs : Array Value} {v : Value} {ds : List S41} (h : RC w W gb cs v ds) (r : Run) (A : Option Addr) (c : Nat) (e : cs = r.cells A c v) (hd : ds = r.dropped) (hc : r.q.length ≤ c) (HQ : Kd.C k41 w A r.q.length r.q) : RB w W gb r A c v := by
  subst e hd
  exact ⟨h, hc, HQ⟩
theorem RC.zs {w W : World} {gb : Nat} {r : Run} {A : Option Addr} {c : Nat} {u v : Value} {ds : List S41} (h : RC w W gb (r.cells A c u) v ds) : (∀ i, W.frozen? ⟨gb, i, none⟩ = false) ∧ W.cell? ⟨gb, 0, none⟩ = some (.int .i64 r.tg) ∧ W.cell? ⟨gb, 1, none⟩ = some (.int .i64 r.iv) ∧ W.cell? ⟨gb, 2, none⟩ = some (.int .i64 r.mtu) ∧ W.cell? ⟨gb, 3, none⟩ = some (.bool r.above) ∧ W.cell? ⟨gb, 4, none⟩ = some (.int .i64 r.aboveAt) ∧ W.cell? ⟨gb, 5, none⟩ = some (.bool r.dropping) ∧ W.cell? ⟨gb, 6, none⟩ = some (.int .i64 r.next) ∧ W.cell? ⟨gb, 7, none⟩ = some (.int .i64 r.count) ∧ W.cell? ⟨gb, 8, none⟩ = some (.int .i64 r.last) ∧ W.cell? ⟨gb, 9, none⟩ = some (.slice A r.q.length c) ∧ W.cell? ⟨gb, 10, none⟩ = some (.int .i64 r.bytes) ∧ W.cell? ⟨gb, 11, none⟩ = some (.int .i64 r.now) ∧ W.cell? ⟨gb, 12, none⟩ = some (.int .i64 r.cur.f0) ∧ W.cell? ⟨gb, 13, none⟩ = some (.int .i64 r.cur.f1) ∧ W.cell? ⟨gb, 14, none⟩ = some (.bool r.cur.f2) ∧ W.cell? ⟨gb, 15, none⟩ = some (.int .i64 r.cur.f3) ∧ W.cell? ⟨gb, 16, none⟩ = some (.bool r.has) ∧ W.cell? ⟨gb, 17, none⟩ = some (.bool r.rhas) ∧ W.cell? ⟨gb, 18, none⟩ = some (.int .i64 r.out.f0) ∧ W.cell? ⟨gb, 19, none⟩ = some (.int .i64 r.out.f1) ∧ W.cell? ⟨gb, 20, none⟩ = some (.bool r.out.f2) ∧ W.cell? ⟨gb, 21, none⟩ = some (.int .i64 r.out.f3) ∧ W.cell? ⟨gb, 22, none⟩ = some (.bool r.marked) ∧ W.cell? ⟨gb, 23, none⟩ = some u ∧ W.cell? ⟨gb, 24, none⟩ = some (.int .i64 r.left) :=
  ⟨fun i => (h.z i).2, (h.z 0).1, (h.z 1).1, (h.z 2).1, (h.z 3).1, (h.z 4).1, (h.z 5).1, (h.z 6).1, (h.z 7).1, (h.z 8).1, (h.z 9).1, (h.z 10).1, (h.z 11).1, (h.z 12).1, (h.z 13).1, (h.z 14).1, (h.z 15).1, (h.z 16).1, (h.z 17).1, (h.z 18).1, (h.z 19).1, (h.z 20).1, (h.z 21).1, (h.z 22).1, (h.z 23).1, (h.z 24).1⟩
/-- What take tells. -/
def takeR (r : Run) : Run × Bool :=
  match r.q with
  | [] => ({ r with cur := z41, has := false, above := false }, false)
  | x :: q =>
    let r1 := { r with cur := x, has := true, q := q, bytes := wrap64 (r.bytes - x.f1) }
    if wrap64 (r.now - x.f0) < r.tg ∨ wrap64 (r.bytes - x.f1) ≤ r.mtu then ({ r1 with above := false }, false)
    else if r.above = false then ({ r1 with above := true, aboveAt := wrap64 (r.now + r.iv) }, false)
    else (r1, decide (r.now ≥ r.aboveAt))
theorem takeR_nil {r : Run} (hq : r.q = []) : takeR r = ({ r with cur := z41, has := false, above := false }, false) := by unfold takeR; rw [hq]
theorem takeR_cons {r : Run} {x : S41} {q : List S41} (hq : r.q = x :: q) : takeR r =
    (if wrap64 (r.now - x.f0) < r.tg ∨ wrap64 (r.bytes - x.f1) ≤ r.mtu then ({ r with cur := x, has := true, q := q, bytes := wrap64 (r.bytes - x.f1), above := false }, false)
    else if r.above = false then ({ r with cur := x, has := true, q := q, bytes := wrap64 (r.bytes - x.f1), above := true, aboveAt := wrap64 (r.now + r.iv) }, false)
    else ({ r with cur := x, has := true, q := q, bytes := wrap64 (r.bytes - x.f1) }, decide (r.now ≥ r.aboveAt))) := by unfold takeR; rw [hq]
set_option maxHeartbeats 8000000 in
set_option maxRecDepth 100000 in
theorem take_nil {w W : World} {gb : Nat} {r : Run} {A : Option Addr} {c : Nat} {v : Value} (h : RB w W gb r A c v) (hq : r.q = []) :
    Calls Try.prog 30 #[.pointer (some ⟨gb, 0, none⟩)] W fun e W' => e = .returned (.bool (takeR r).2) ∧ RB w W' gb (takeR r).1 A c v := by
  rw [takeR_nil hq]
  have hu33 := Try.underlying32
  have hu40 := Try.underlying71
  have hu42 := Try.underlying41
  have hu44 := Try.underlying80
  have hu56 := Try.underlying87
  have hlen : r.q.length = 0 := by rw [hq]; rfl
  have z9 : W.cell? ⟨gb, 9, none⟩ = some (.slice A 0 c) := by rw [(h.z 9).1, ← hlen]; rfl
  have z3 : W.cell? ⟨gb, 3, none⟩ = some (.bool r.above) := (h.z 3).1
  have z12 : W.cell? ⟨gb, 12, none⟩ = some (.int .i64 r.cur.f0) := (h.z 12).1
  have z13 : W.cell? ⟨gb, 13, none⟩ = some (.int .i64 r.cur.f1) := (h.z 13).1
  have z14 : W.cell? ⟨gb, 14, none⟩ = some (.bool r.cur.f2) := (h.z 14).1
  have z15 : W.cell? ⟨gb, 15, none⟩ = some (.int .i64 r.cur.f3) := (h.z 15).1
  have z16 : W.cell? ⟨gb, 16, none⟩ = some (.bool r.has) := (h.z 16).1
  have f3 := (h.z 3).2
  have f12 := (h.z 12).2
  have f13 := (h.z 13).2
  have f14 := (h.z 14).2
  have f15 := (h.z 15).2
  have f16 := (h.z 16).2
  have hh := Aside0.mk h
  clear h
  go_enter Try.func30, Try.ntmps30
  go_wp2
  go_ret
  exact ⟨rfl, RC.rb ((((((hh.out.C.put 12 _).put 13 _).put 14 _).put 15 _).put 16 _).put 3 _) _ A c rfl rfl hh.out.hc hh.out.HQ⟩
set_option maxHeartbeats 8000000 in
set_option maxRecDepth 100000 in
theorem take_cons {w W : World} {gb : Nat} {r : Run} {A : Option Addr} {c : Nat} {v : Value} (h : RB w W gb r A c v) {x : S41} {q : List S41} (hq : r.q = x :: q) :
    Calls Try.prog 30 #[.pointer (some ⟨gb, 0, none⟩)] W fun e W' => e = .returned (.bool (takeR r).2) ∧ ∃ A' c', RB w W' gb (takeR r).1 A' c' v := by
  obtain ⟨R, hR⟩ : ∃ R, takeR r = R := ⟨_, rfl⟩
  rw [hR]
  rw [takeR_cons hq] at hR
  have HR := Aside0.mk hR
  clear hR
  have hu33 := Try.underlying32
  have hu40 := Try.underlying71
  have hu42 := Try.underlying41
  have hu44 := Try.underlying80
  have hu56 := Try.underlying87
  have hlen : r.q.length = q.length + 1 := by rw [hq]; rfl
  have hcl : q.length + 1 ≤ c := by have := h.hc; omega
  have HQ := h.HQ
  have hdrop := Kd.C_drop (m := 1) HQ (by omega) h.hc
  obtain ⟨ad, eA, x0, x1, x2, x3⟩ := at_T41 HQ 0 (by omega) (by omega)
  have er : rd_T41 r.q 0 = x := by rw [hq]; rfl
  rw [er] at x0 x1 x2 x3
  subst eA
  have e0 : ad.add (Int.toNat 0 * 4) = ad := by simp [Addr.add]
  rw [e0] at x0 x1 x2 x3
  have X0 := Aside0.mk x0
  have X1 := Aside0.mk x1
  have X2 := Aside0.mk x2
  have X3 := Aside0.mk x3
  have hdrop' : Kd.C k41 w (if c = 1 then some ad else (some ad).map (·.add 4)) q.length q := by
    have e1 : (r.q.drop 1) = q := by rw [hq]; rfl
    rw [e1] at hdrop
    exact hdrop
  have HD1 := Aside0.mk hdrop'
  have HL := Aside0.mk hlen
  have HC := Aside0.mk hcl
  have i0 : (0 : Int) < ((q.length + 1 : Nat) : Int) := by omega
  have i1 : (1 : Int) ≤ ((q.length + 1 : Nat) : Int) := by omega
  have ic : ((q.length + 1 : Nat) : Int) ≤ (c : Int) := by omega
  have hh := Aside0.mk h.C
  clear x0 x1 x2 x3 e0 er hdrop hdrop' hlen hcl HQ h
  obtain ⟨fz, z0, z1, z2, z3, z4, z5, z6, z7, z8, z9, z10, z11, z12, z13, z14, z15, z16, z17, z18, z19, z20, z21, z22, z23, z24⟩ := hh.out.zs
  rw [HL.out] at z9
  go_enter Try.func30, Try.ntmps30
  go_wp2
  have h1 : RC w _ gb (({ r with cur := z41, has := true } : Run).cells (some ad) c v) v r.dropped := ((((hh.out.put 12 (.int .i64 0)).put 13 (.int .i64 0)).put 14 (.bool false)).put 15 (.int .i64 0)).put 16 (.bool true)
  clear fz z0 z1 z2 z3 z4 z5 z6 z7 z8 z9 z10 z11 z12 z13 z14 z15 z16 z17 z18 z19 z20 z21 z22 z23 z24 hh
  generalize (((((W.setCell ⟨gb, 12, none⟩ (.int .i64 0)).setCell ⟨gb, 13, none⟩ (.int .i64 0)).setCell ⟨gb, 14, none⟩ (.bool false)).setCell ⟨gb, 15, none⟩ (.int .i64 0)).setCell ⟨gb, 16, none⟩ (.bool true)) = W1 at h1 ⊢
  obtain ⟨fz, z0, z1, z2, z3, z4, z5, z6, z7, z8, z9, z10, z11, z12, z13, z14, z15, z16, z17, z18, z19, z20, z21, z22, z23, z24⟩ := h1.zs
  dsimp only at z0 z1 z2 z3 z4 z5 z6 z7 z8 z9 z10 z11 z12 z13 z14 z15 z16 z17 z18 z19 z20 z21 z22 z23 z24
  rw [HL.out] at z9
  have x0 := (h1.B.cell (World.block_lt_of_cell? w _ X0.out)).trans X0.out
  have x1 := (h1.B.cell (World.block_lt_of_cell? w _ X1.out)).trans X1.out
  have x2 := (h1.B.cell (World.block_lt_of_cell? w _ X2.out)).trans X2.out
  have x3 := (h1.B.cell (World.block_lt_of_cell? w _ X3.out)).trans X3.out
  go_region
  generalize hA2 : (if c = 1 then some ad else some ({ block := ad.block, off := ad.off + 4 } : Addr)) = A2
  have h2 : RC w _ gb (({ r with cur := x, has := true, q := q } : Run).cells A2 (c - 1) v) v r.dropped := (((((h1.put 12 (.int .i64 x.f0)).put 13 (.int .i64 x.f1)).put 14 (.bool x.f2)).put 15 (.int .i64 x.f3)).put 9 (.slice A2 q.length (c - 1))).drew
  have hQ2 : Kd.C k41 w A2 q.length q := by
    have := HD1.out
    rw [← hA2]
    exact this
  have HQ2 := Aside0.mk hQ2
  clear fz z0 z1 z2 z3 z4 z5 z6 z7 z8 z9 z10 z11 z12 z13 z14 z15 z16 z17 z18 z19 z20 z21 z22 z23 z24 h1 x0 x1 x2 x3 hA2 hQ2 i0 i1 ic HD1
  generalize World.drew _ = W2 at h2 ⊢
  obtain ⟨fz, z0, z1, z2, z3, z4, z5, z6, z7, z8, z9, z10, z11, z12, z13, z14, z15, z16, z17, z18, z19, z20, z21, z22, z23, z24⟩ := h2.zs
  dsimp only at z0 z1 z2 z3 z4 z5 z6 z7 z8 z9 z10 z11 z12 z13 z14 z15 z16 z17 z18 z19 z20 z21 z22 z23 z24
  go_wp2
  go_region
  have h3 : RC w _ gb (({ r with cur := x, has := true, q := q, bytes := wrap64 (r.bytes - x.f1) } : Run).cells A2 (c - 1) v) v r.dropped := (h2.put 10 (.int .i64 (wrap64 (r.bytes - x.f1)))).drew
  clear fz z0 z1 z2 z3 z4 z5 z6 z7 z8 z9 z10 z11 z12 z13 z14 z15 z16 z17 z18 z19 z20 z21 z22 z23 z24 h2
  generalize World.drew _ = W3 at h3 ⊢
  obtain ⟨fz, z0, z1, z2, z3, z4, z5, z6, z7, z8, z9, z10, z11, z12, z13, z14, z15, z16, z17, z18, z19, z20, z21, z22, z23, z24⟩ := h3.zs
  dsimp only at z0 z1 z2 z3 z4 z5 z6 z7 z8 z9 z10 z11 z12 z13 z14 z15 z16 z17 z18 z19 z20 z21 z22 z23 z24
  have hcq : q.length ≤ c - 1 := by have := HC.out; omega
  by_cases c1 : wrap64 (r.now - x.f0) < r.tg
  · have d1 : decide (wrap64 (r.now - x.f0) < r.tg) = true := decide_eq_true c1
    have C1 := Aside0.mk c1
    clear c1
    go_wp2
    go_region
    go_wp2
    go_ret
    have e := HR.out
    rw [if_pos (Or.inl C1.out)] at e
    subst e
    exact ⟨rfl, A2, c - 1, RC.rb ((h3.put 3 (.bool false)).drew) _ _ _ rfl rfl hcq HQ2.out⟩
  have d1 : decide (wrap64 (r.now - x.f0) < r.tg) = false := decide_eq_false c1
  by_cases c2 : wrap64 (r.bytes - x.f1) ≤ r.mtu
  · have d2 : decide (wrap64 (r.bytes - x.f1) ≤ r.mtu) = true := decide_eq_true c2
    have C2 := Aside0.mk c2
    clear c1 c2
    go_wp2
    go_region
    go_wp2
    go_ret
    have e := HR.out
    rw [if_pos (Or.inr C2.out)] at e
    subst e
    exact ⟨rfl, A2, c - 1, RC.rb ((h3.put 3 (.bool false)).drew) _ _ _ rfl rfl hcq HQ2.out⟩
  have d2 : decide (wrap64 (r.bytes - x.f1) ≤ r.mtu) = false := decide_eq_false c2
  have C12 := Aside0.mk (show ¬ (wrap64 (r.now - x.f0) < r.tg ∨ wrap64 (r.bytes - x.f1) ≤ r.mtu) from fun h_ => h_.elim c1 c2)
  clear c1 c2
  by_cases c3 : r.above = false
  · have C3 := Aside0.mk c3
    rw [c3] at z3
    clear c3
    go_wp2
    go_region
    go_wp2
    go_region
    go_wp2
    go_ret
    have e := HR.out
    rw [if_neg C12.out, if_pos C3.out] at e
    subst e
    exact ⟨rfl, A2, c - 1, RC.rb (((h3.put 3 (.bool true)).put 4 (.int .i64 (wrap64 (r.now + r.iv)))).drew.drew) _ _ _ rfl rfl hcq HQ2.out⟩
  · have C3 := Aside0.mk c3
    rw [Bool.not_eq_false] at c3
    rw [c3] at z3
    clear c3
    go_wp2
    go_region
    go_wp2
    go_region
    go_wp2
    go_ret
    have e := HR.out
    rw [if_neg C12.out, if_neg C3.out] at e
    subst e
    exact ⟨rfl, A2, c - 1, RC.rb (h3.drew.drew) _ _ _ rfl rfl hcq HQ2.out⟩
theorem take_in {w W : World} {gb : Nat} {r : Run} {A : Option Addr} {c : Nat} {v : Value} (h : RB w W gb r A c v) :
    Calls Try.prog 30 #[.pointer (some ⟨gb, 0, none⟩)] W fun e W' => e = .returned (.bool (takeR r).2) ∧ ∃ A' c', RB w W' gb (takeR r).1 A' c' v := by
  cases hq : r.q with
  | nil => exact (take_nil h hq).mono (fun e W' h_ => ⟨h_.1, A, c, h_.2⟩)
  | cons x q => exact take_cons h hq
end Go.Proofs.Ytepolgapbbaklaa.Q
