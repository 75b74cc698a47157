/- codel: the walk of hit. No condition. -/
import Derived.Test.YtepolgapbbaklaaCodelU
import Derived.Deep.RegionLaw
namespace Go.Proofs.Ytepolgapbbaklaa.Q
set_option linter.unusedVariables false
set_option linter.unusedSimpArgs false
open Go.RowKit Go.Proofs.YtepolgapbbaklaaW.PrintWords Go.Proofs.YtepolgapbbaklaaW.PrintLast Go.Proofs.YtepolgapbbaklaaW.PrintMore
theorem RC.grown {w W W1 : World} {gb : Nat} {cs : Array Value} {v v1 : Value} {ds ds1 : List S41} (h : RC w W gb cs v ds) (hb : Below w.heap.size w W1) (ho : Kd.R k41 41 W1 w.heap.size (fun k => k ≠ gb) v1 ds1) (hg : W.grownBy W1 v.ownBlock) : RC w W1 gb cs v1 ds1 :=
  ⟨hb, h.ge, blk_grown h.BK hg (fun e => h.HD.1 gb e.symm rfl), ho⟩
theorem RC.grownA {w W W1 : World} {gb : Nat} {cs : Array Value} {v v1 : Value} {ds ds1 : List S41} {o : Obj} (h : RC w W gb cs v ds) (hb : Below w.heap.size w W1) (ho : Kd.R k41 41 W1 w.heap.size (fun k => k ≠ gb) v1 ds1) (hg : (W.alloc o).grownBy W1 v.ownBlock) : RC w W1 gb cs v1 ds1 :=
  ⟨hb, h.ge, blk_grown (blk_alloc h.BK _) hg (fun e => h.HD.1 gb e.symm rfl), ho⟩
/-- What hit tells. -/
def hitR (r : Run) : Run × Bool := if r.cur.f2 = true then ({ r with marked := true }, false) else takeR { r with dropped := r.dropped ++ [r.cur] }
set_option maxHeartbeats 8000000 in
set_option maxRecDepth 100000 in
theorem hit_in {w W : World} {gb : Nat} {r : Run} {A : Option Addr} {c : Nat} {v : Value} (h : RB w W gb r A c v) (hl : r.dropped.length < 4398046511103) :
    Calls Try.prog 33 #[.pointer (some ⟨gb, 0, none⟩)] W fun e W' => e = .returned (.bool (hitR r).2) ∧ ∃ A' c' v', RB w W' gb (hitR r).1 A' c' v' := by
  have hu33 := Try.underlying32
  have hu40 := Try.underlying71
  have hu42 := Try.underlying41
  have hu44 := Try.underlying80
  have hu56 := Try.underlying87
  obtain ⟨R, hR⟩ : ∃ R, hitR r = R := ⟨_, rfl⟩
  rw [hR]
  unfold hitR at hR
  have HR := Aside0.mk hR
  clear hR
  have hL32 : (r.dropped.length + 1) * 32 ≤ 140737488355328 := by omega
  have Hc := Aside0.mk h.hc
  have HQ := Aside0.mk h.HQ
  have hh := Aside0.mk h
  clear h hl
  obtain ⟨fz, z0, z1, z2, z3, z4, z5, z6, z7, z8, z9, z10, z11, z12, z13, z14, z15, z16, z17, z18, z19, z20, z21, z22, z23, z24⟩ := hh.out.C.zs
  by_cases c1 : r.cur.f2 = true
  · have C1 := Aside0.mk c1
    rw [c1] at z14
    clear c1
    go_enter Try.func33, Try.ntmps33
    go_wp2
    go_ret
    have e := HR.out
    rw [if_pos C1.out] at e
    subst e
    exact ⟨rfl, A, c, v, RC.rb (hh.out.C.put 22 (.bool true)) _ _ _ rfl rfl hh.out.hc hh.out.HQ⟩
  · have C1 := Aside0.mk c1
    rw [Bool.not_eq_true] at c1
    have z14' := z14
    rw [c1] at z14
    go_enter Try.func33, Try.ntmps33
    go_wp2
    have e1 : Value.bool r.cur.f2 = Value.bool false := by rw [c1]
    clear c1 z14'
    have HAD := Aside0.mk (show ∀ o, (W.alloc o).drew = W.drew.alloc o from fun _ => rfl)
    have za : ∀ o, (W.alloc o).cell? ⟨gb, 23, none⟩ = some v := fun o => (blk_cell (blk_alloc hh.out.C.BK o) 23).trans rfl
    have zb : (W.alloc (.cells #[.int .i64 r.cur.f0, .int .i64 r.cur.f1, .bool false, .int .i64 r.cur.f3] 41)).cell? ⟨gb, 23, none⟩ = some v := za _
    clear za
    go_region_law (rw [HAD.out]; refine Kd.R_append_step k41 (w0 := w) w.heap.size (by rfl) (.tmp 17) (.tmp 22) 39 41 (.agg #[(.int .i64 0), (.int .i64 0), (.bool false), (.int .i64 0)]) 32 rfl Try.underlying39 info41 rfl (by decide) (by omega) v r.dropped r.cur [.int .i64 r.cur.f0, .int .i64 r.cur.f1, .bool false, .int .i64 r.cur.f3] (fun k => k ≠ gb) (fun _ => False) (by rfl) (by rfl) ?aP (fun _ hk => hk.elim) ?aF ?aO ?aB ?aS ?aL ?_; (case aP => rw [← e1]; exact k41_mkM _ _ _ r.cur); (case aB => exact hh.out.C.drew.B); (case aF => intro k hk e; subst e; exact absurd (blk_lt hh.out.C.BK) (Nat.not_lt.2 hk)); (case aO => exact hh.out.C.drew.HD); (case aS => exact below_size hh.out.C.drew.B); (case aL => exact hL32); intro v1 w1 ho hb hg hat; obtain ⟨Ao, co, eo⟩ := Kd.R_slice ho; subst eo; have h1 := Aside0.mk (hh.out.C.drew.grown hb ho hg); clear ho hb hg hat hh zb fz z0 z1 z2 z3 z4 z5 z6 z7 z8 z9 z10 z11 z12 z13 z14 z15 z16 z17 z18 z19 z20 z21 z22 z23 z24; obtain ⟨fz, z0, z1, z2, z3, z4, z5, z6, z7, z8, z9, z10, z11, z12, z13, z14, z15, z16, z17, z18, z19, z20, z21, z22, z23, z24⟩ := h1.out.zs)
    all_goals
      have el : (r.dropped ++ [r.cur]).length = r.dropped.length + 1 := by simp
      have h2 := RC.rb (h1.out.put 23 (.slice Ao (r.dropped ++ [r.cur]).length co)) ({ r with dropped := r.dropped ++ [r.cur] }) A c rfl rfl Hc.out HQ.out
      rw [el] at h2
      clear el h1 fz z0 z1 z2 z3 z4 z5 z6 z7 z8 z9 z10 z11 z12 z13 z14 z15 z16 z17 z18 z19 z20 z21 z22 z23 z24 e1 HAD
      generalize w1.setCell _ _ = w2 at h2 ⊢
      have HT := Aside0.mk h2
      clear h2
      go_wp2_with (go_at_call 30; go_loud ((with_reducible refine Calls.mono (take_in HT.out) ?_); rintro e w3 ⟨rfl, A', c', h3⟩; have HU := Aside0.mk h3; clear h3))
      go_ret
      have e := HR.out
      rw [if_neg C1.out] at e
      rw [e] at HU ⊢
      exact ⟨rfl, A', c', _, HU.out⟩
end Go.Proofs.Ytepolgapbbaklaa.Q
