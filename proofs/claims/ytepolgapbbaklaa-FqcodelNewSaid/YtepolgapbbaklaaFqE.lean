/- fqcodel: Enqueue walked. No condition. -/
import Derived.Test.YtepolgapbbaklaaFqD
namespace Go.Proofs.Ytepolgapbbaklaa.Q
set_option linter.unusedVariables false
set_option linter.unusedSimpArgs false
open Go.RowKit Go.Proofs.YtepolgapbbaklaaW.PrintWords Go.Proofs.YtepolgapbbaklaaW.PrintLast Go.Proofs.YtepolgapbbaklaaW.PrintMore
def Fl.add (f : Fl) (p : PK) : Fl := { f with ps := f.ps ++ [p], bytes := wrap64 (f.bytes + p.f1) }
def Fl.wake (f : Fl) (c : Cfg) : Fl := if f.on = 0 then { f with deficit := c.quantum, on := 1 } else f
def wakeL (f : Fl) (l : List Nat) (i : Nat) : List Nat := if f.on = 0 then l ++ [i] else l
/-- A packet that may come. -/
structure POk (p : PK) (now : Int) : Prop where
  s0 : 1 ≤ p.f1
  s1 : p.f1 ≤ 65535
  a0 : now ≤ p.f0
  a1 : p.f0 ≤ 1099511627776
theorem fatGo_lt (b : Nat → Int) (N : Nat) : ∀ (d i f : Nat), f < N → i + d ≤ N → fatGo b d i f < N
  | 0, _, _, h, _ => h
  | d + 1, i, f, h, h2 => by
    simp only [fatGo]
    refine fatGo_lt b N d (i + 1) _ ?_ (by omega)
    split
    · omega
    · exact h
/-- The flows behind a packet that came; the fattest of them. -/
def enqFs (c : Cfg) (fs : Nat → Fl) (i : Nat) (p : PK) : Nat → Fl := upd fs i (((fs i).add p).wake c)
def fatOf (fs : Nat → Fl) (N : Nat) : Nat := fatGo (fun i => (fs i).bytes) N 0 0
/-- What Enqueue leaves. -/
structure EnqP (w W : World) (q fb N : Nat) (c : Cfg) (fs : Nat → Fl) (rv : Nat → Value) (v1 v2 : Value) (l1 l2 : List Nat) (n : Int) (i : Nat) (p : PK) (e : Ending) (W' : World) : Prop where
  room : n + 1 ≤ c.limit → e = .returned (.tuple #[.slice none 0 0, .int .i64 0]) ∧ ∃ rv' v1', FQ w W' q fb N c (enqFs c fs i p) rv' v1' v2 (wakeL (fs i) l1 i) l2 (n + 1) p.f0 ∧ Kept W W' (Mine q fb N rv v1 v2) ∧ ∀ k, Mine q fb N rv' v1' v2 k → Mine q fb N rv v1 v2 k ∨ W.heap.size ≤ k
  full : ¬ n + 1 ≤ c.limit → ∀ x r, (enqFs c fs i p (fatOf (enqFs c fs i p) N)).ps = x :: r → ∃ v, e = .returned (.tuple #[v, .int .i64 0]) ∧ ∃ rv' v1', Kd.R kP 41 W' W.heap.size (fun k => ¬ Mine q fb N rv' v1' v2 k) v [x] ∧ FQ w W' q fb N c (upd (enqFs c fs i p) (fatOf (enqFs c fs i p) N) ((enqFs c fs i p (fatOf (enqFs c fs i p) N)).cut x r)) rv' v1' v2 (wakeL (fs i) l1 i) l2 n p.f0 ∧ Kept W W' (Mine q fb N rv v1 v2) ∧ ∀ k, Mine q fb N rv' v1' v2 k → Mine q fb N rv v1 v2 k ∨ W.heap.size ≤ k
set_option maxHeartbeats 8000000 in
set_option maxRecDepth 100000 in
theorem Enq_ok {w W : World} {q fb N : Nat} {c : Cfg} {fs : Nat → Fl} {rv : Nat → Value} {v1 v2 : Value} {l1 l2 : List Nat} {n now : Int} {i : Nat} (h : FQ w W q fb N c fs rv v1 v2 l1 l2 n now) (hi : i < N) (hM : N ≤ 1024) {p : PK} (hp : POk p now) (hps : (fs i).ps.length ≤ 70000) (hl1 : l1.length ≤ 65536) (hn : 0 ≤ n ∧ n ≤ 70000) (hx : ¬ n + 1 ≤ c.limit → ∃ x r, (enqFs c fs i p (fatOf (enqFs c fs i p) N)).ps = x :: r) :
    Calls Try.prog 12 #[.pointer (some ⟨q, 0, none⟩), .int .i64 (i : Int), pkV p] W (EnqP w W q fb N c fs rv v1 v2 l1 l2 n i p) := by
  have hu := Try.underlying66
  have hu73 := Try.underlying73
  have hu41 := Try.underlying41
  have hu34 := Try.underlying34
  have HH := Aside0.mk h
  have HI := Aside0.mk hi
  have HM := Aside0.mk hM
  have HP := Aside0.mk hp
  have HPS := Aside0.mk hps
  have HL1 := Aside0.mk hl1
  have HNN := Aside0.mk hn
  have HX := Aside0.mk hx
  have i0 : (0 : Int) ≤ (i : Int) := by omega
  have i1 : (i : Int) < (N : Int) := by omega
  have b0 : ((i : Int) < 0) = False := eq_false (by omega)
  have b1 : ((N : Int) ≤ (i : Int)) = False := eq_false (by omega)
  have b2 : (p.f1 < 1) = False := eq_false (by have := hp.s0; omega)
  have b3 : ((65535 : Int) < p.f1) = False := eq_false (by have := hp.s1; omega)
  have b4 : (p.f0 < now) = False := eq_false (by have := hp.a0; omega)
  have b5 : ((1099511627776 : Int) < p.f0) = False := eq_false (by have := hp.a1; omega)
  clear h hi hM hp hps hl1 hn hx
  unfold pkV
  go_enter Try.func12, Try.ntmps12
  go_upto_region 7 with (first
    | ((with_reducible refine gate_dst (N := 5) rfl ?_); refine box_event ?hg (N := 5) ?hd (cs := #[.int .i64 p.f0, .int .i64 p.f1, .bool p.f2, .int .i64 p.f3]) (t := 41) ?hr ?_; (case hd => rfl); (case hg => rfl); (case hr => first | (go_simp; done) | (go_simp; rfl)); intro g5 e_ w5 k_ b_; have E5 := Aside0.mk e_; have B5 := Aside0.mk b_; have K5 := Aside0.mk k_; have H5 := Aside0.mk (FR.step HH.out b_); clear e_ b_ k_; have HNO := Aside0.mk (none_in ((FQ.zq H5.out 6).1.trans rfl)); have z6 : w5.cell? ⟨q, 6, none⟩ = some (.slice (some ⟨fb, 0, none⟩) N N) := (FQ.zq H5.out 6).1.trans rfl; have z11 : w5.cell? ⟨q, 11, none⟩ = some (.int .i64 now) := (FQ.zq H5.out 11).1.trans rfl; have x0 : w5.cell? ⟨g5, 0, none⟩ = some (.int .i64 p.f0) := (blk_cell K5.out 0).trans rfl; have x1 : w5.cell? ⟨g5, 1, none⟩ = some (.int .i64 p.f1) := (blk_cell K5.out 1).trans rfl)
    | (go_at_call 20; (with_reducible refine Calls.mono HNO.out ?_); rintro e w6 ⟨rfl, rfl⟩))
  go_region
  go_upto_region 9 with (fail)
  have f11 : w5.drew.frozen? ⟨q, 11, none⟩ = false := (FQ.zq H5.out 11).2
  go_upto_region 11 with (fail)
  have nm : ∀ {g : Nat}, W.heap.size ≤ g → ¬ Mine q fb N rv v1 v2 g := fun hg hm => Nat.lt_irrefl _ (Nat.lt_of_lt_of_le (FR.lt HH.out hm) hg)
  have NM := Aside0.mk (@nm)
  have G5 := Aside0.mk (show W.heap.size ≤ g5 by have := E5.out; omega)
  have n1 : FQ w ((w5.setCell ⟨q, 11, none⟩ (.int .i64 p.f0)).drew) q fb N c fs rv v1 v2 l1 l2 n p.f0 := FR.putQ (FR.drew H5.out) 11 (.int .i64 p.f0)
  have n2 : ((w5.setCell ⟨q, 11, none⟩ (.int .i64 p.f0)).drew).heap[g5]? = some (.cells #[.int .i64 p.f0, .int .i64 p.f1, .bool p.f2, .int .i64 p.f3] 41 (0, 0)) := blk_far (p := ⟨q, 11, none⟩) (blk_drew K5.out) (fun e => NM.out G5.out (.inl e)) _
  have n3 : Kept W ((w5.setCell ⟨q, 11, none⟩ (.int .i64 p.f0)).drew) (Mine q fb N rv v1 v2) := (((Kept.refl W (Mine q fb N rv v1 v2)).below B5.out).drew).setCell (p := ⟨q, 11, none⟩) (.inl (.inl rfl)) _
  clear nm f11 z6 z11 x0 x1 b0 b1 b2 b3 b4 b5
  generalize (w5.setCell ⟨q, 11, none⟩ (.int .i64 p.f0)).drew = W1 at n1 n2 n3 ⊢
  have H1 := Aside0.mk n1
  have K1 := Aside0.mk n2
  have KK1 := Aside0.mk n3
  clear n1 n2 n3
  have hrow : kP.Q 41 W1 w.heap.size (fun _ => True) (rv i) (fs i).ps := FR.R H1.out i HI.out
  obtain ⟨A0, c0, ev, hc0⟩ := Kd.Q_slice hrow
  have EV := Aside0.mk ev
  have z1 : W1.cell? ⟨fb, i * 11 + 1, none⟩ = some (.slice A0 (fs i).ps.length c0) := (FQ.zf H1.out HI.out 1 (by omega)).1.trans (by rw [← EV.out]; rfl)
  have f1 : W1.frozen? ⟨fb, i * 11 + 1, none⟩ = false := (FQ.zf H1.out HI.out 1 (by omega)).2
  have x0 : W1.cell? ⟨g5, 0, none⟩ = some (.int .i64 p.f0) := (blk_cell K1.out 0).trans rfl
  have x1 : W1.cell? ⟨g5, 1, none⟩ = some (.int .i64 p.f1) := (blk_cell K1.out 1).trans rfl
  have x2 : W1.cell? ⟨g5, 2, none⟩ = some (.bool p.f2) := (blk_cell K1.out 2).trans rfl
  have x3 : W1.cell? ⟨g5, 3, none⟩ = some (.int .i64 p.f3) := (blk_cell K1.out 3).trans rfl
  have zA : (W1.alloc (.cells #[.int .i64 p.f0, .int .i64 p.f1, .bool p.f2, .int .i64 p.f3] 41)).cell? ⟨fb, i * 11 + 1, none⟩ = some (.slice A0 (fs i).ps.length c0) := (FQ.zf (FR.alloc H1.out _) HI.out 1 (by omega)).1.trans (by rw [← EV.out]; rfl)
  have HAD := Aside0.mk (show ∀ o : Obj, (W1.alloc o).drew = W1.drew.alloc o from fun _ => rfl)
  have HROW := Aside0.mk (show kP.Q 41 W1.drew w.heap.size (fun _ => True) (.slice A0 (fs i).ps.length c0) (fs i).ps by rw [← ev]; exact Kd.Q_drew hrow)
  clear ev hrow hc0
  go_cut [8] (fun v8 Wx => v8 = .pointer (some ⟨fb, i * 11, none⟩) ∧ ∃ v' : Value, Aside0 (FQ w Wx q fb N c (upd fs i { fs i with ps := (fs i).ps ++ [p] }) (upd rv i v') v1 v2 l1 l2 n p.f0) ∧ Aside0 (v'.ownBlock = (rv i).ownBlock ∨ ∃ b, v'.ownBlock = some b ∧ W.heap.size ≤ b) ∧ Aside0 (Wx.heap[g5]? = some (.cells #[.int .i64 p.f0, .int .i64 p.f1, .bool p.f2, .int .i64 p.f3] 41 (0, 0))) ∧ Aside0 (Kept W Wx (Mine q fb N rv v1 v2)))
  case first =>
    go_region_law (refine Kd.Q_append_step kP (W := W1.drew) (w0 := w) w.heap.size ?aW (.tmp 61) (.tmp 63) 39 41 (.agg #[(.int .i64 0), (.int .i64 0), (.bool false), (.int .i64 0)]) 32 ?a2 ?a3 ?a4 ?a5 ?a6 ?a7 (.slice A0 (fs i).ps.length c0) (fs i).ps p [.int .i64 p.f0, .int .i64 p.f1, .bool p.f2, .int .i64 p.f3] (fun _ => True) (fun _ => False) ?aA ?aB ?aP ?aK ?aF ?aO ?aC ?aS ?aL ?_; (case aW => rfl); (case a2 => rfl); (case a3 => exact Try.underlying39); (case a4 => kernel_rfl); (case a5 => rfl); (case a6 => decide); (case a7 => omega); (case aA => rfl); (case aB => rfl); (case aP => exact k41_mkM _ _ _ p); (case aK => exact (fun _ hk => hk.elim)); (case aF => exact fun _ _ => trivial); (case aO => exact HROW.out); (case aC => exact FR.B (FR.drew H1.out)); (case aS => exact below_size (FR.B (FR.drew H1.out))); (case aL => have := HPS.out; omega); intro v' w1 ho hb hg hat; obtain ⟨A2, c2, e2, _⟩ := Kd.Q_slice ho; subst e2; have HG := Aside0.mk (FR.growP (FR.drew H1.out) HI.out ho hb (by rw [EV.out]; exact hg) (by rw [EV.out]; exact hat)); have HKG := Aside0.mk hg; have HAT := Aside0.mk hat; have KB1 := Aside0.mk (blk_grown (blk_drew K1.out) hg (fun e => NM.out G5.out (.inr (.inr (.inl ⟨i, HI.out, by rw [EV.out]; exact e.symm⟩))))); clear ho hb hg hat z1 f1 zA x0 x1 x2 x3; have f1 : w1.frozen? ⟨fb, i * 11 + 1, none⟩ = false := ((FR.F HG.out).z HI.out 1 (by omega)).2; have z1 : w1.cell? ⟨fb, i * 11 + 1, none⟩ = some (.slice A0 (fs i).ps.length c0) := ((FR.F HG.out).z HI.out 1 (by omega)).1.trans (by rw [← EV.out]; rfl))
    all_goals
      try go_wp2
      go_meet
      have hlen : ((fs i).ps ++ [p]).length = (fs i).ps.length + 1 := by simp
      have hg2 := HG.out
      have hat := HAT.out
      rw [hlen] at hg2 hat
      have hf : FQ w (w1.setCell ⟨fb, i * 11 + 1, none⟩ (.slice A2 ((fs i).ps.length + 1) c2)) q fb N c (upd fs i { fs i with ps := (fs i).ps ++ [p] }) (upd rv i (.slice A2 ((fs i).ps.length + 1) c2)) v1 v2 l1 l2 n p.f0 := by
        have h2 := FR.putF hg2 HI.out 1 (by omega) (.slice A2 ((fs i).ps.length + 1) c2)
        unfold FQ
        rw [← cells_upd, ← ps_upd]
        exact h2
      exact ⟨rfl, _, ⟨hf⟩, ⟨by
        rcases hat with hat | ⟨b, hb, hle⟩
        · exact .inl (by rw [hat, EV.out])
        · refine .inr ⟨b, hb, ?_⟩
          have h3 : W1.drew.heap.size = W1.heap.size := rfl
          have h4 := KK1.out.1
          omega⟩, ⟨blk_far (p := ⟨fb, i * 11 + 1, none⟩) KB1.out (fun e => NM.out G5.out (.inr (.inl e))) _⟩,
        ⟨(Kept.of_grown HKG.out KK1.out.drew (fun k e => .inl (.inr (.inr (.inl ⟨i, HI.out, by rw [EV.out]; exact e⟩))))).setCell (p := ⟨fb, i * 11 + 1, none⟩) (.inl (.inr (.inl rfl))) _⟩⟩
  case rest =>
    obtain ⟨rfl, v', H2, OW2, K2, KK2⟩ := hcut
    clear z1 f1 zA x0 x1 x2 x3
    go_upto_region 12 with (fail)
    have z2 : wc.cell? ⟨fb, i * 11 + 2, none⟩ = some (.int .i64 (fs i).bytes) := (FQ.zf H2.out HI.out 2 (by omega)).1.trans (by rw [upd_at, upd_at]; rfl)
    have f2 : wc.frozen? ⟨fb, i * 11 + 2, none⟩ = false := (FQ.zf H2.out HI.out 2 (by omega)).2
    have x1 : wc.cell? ⟨g5, 1, none⟩ = some (.int .i64 p.f1) := (blk_cell K2.out 1).trans rfl
    go_region
    clear z2 f2 x1
    have n1 : FQ w ((wc.setCell ⟨fb, i * 11 + 2, none⟩ (.int .i64 (wrap64 ((fs i).bytes + p.f1)))).drew) q fb N c (upd fs i ((fs i).add p)) (upd rv i v') v1 v2 l1 l2 n p.f0 := by
      have h7 := FR.drew (FR.putF H2.out HI.out 2 (by omega) (.int .i64 (wrap64 ((fs i).bytes + p.f1))))
      unfold FQ
      have e1 : (fun k => (upd fs i ((fs i).add p) k).cells (upd rv i v' k)) = upd (fun k => (upd fs i { fs i with ps := (fs i).ps ++ [p] } k).cells (upd rv i v' k)) i (((upd fs i { fs i with ps := (fs i).ps ++ [p] } i).cells (upd rv i v' i)).setIfInBounds 2 (.int .i64 (wrap64 ((fs i).bytes + p.f1)))) := by
        rw [upd_at, upd_at, ← cells_upd, ← cells_upd, upd_upd]
        rfl
      have e2 : (fun k => (upd fs i ((fs i).add p) k).ps) = fun k => (upd fs i { fs i with ps := (fs i).ps ++ [p] } k).ps := by
        rw [← ps_upd, ← ps_upd]
        rfl
      rw [e1, e2]
      exact h7
    have n2 := (KK2.out.setCell (p := ⟨fb, i * 11 + 2, none⟩) (.inl (.inr (.inl rfl))) (.int .i64 (wrap64 ((fs i).bytes + p.f1)))).drew
    generalize (wc.setCell ⟨fb, i * 11 + 2, none⟩ (.int .i64 (wrap64 ((fs i).bytes + p.f1)))).drew = W3 at n1 n2 ⊢
    have H3 := Aside0.mk n1
    have KK3 := Aside0.mk n2
    clear n1 n2
    go_upto_region 13 with (fail)
    have z10 : W3.cell? ⟨fb, i * 11 + 10, none⟩ = some (.int .i64 (fs i).on) := (FQ.zf H3.out HI.out 10 (by omega)).1.trans (by rw [upd_at, upd_at]; rfl)
    have f9 : W3.frozen? ⟨fb, i * 11 + 9, none⟩ = false := (FQ.zf H3.out HI.out 9 (by omega)).2
    have z9 : W3.cell? ⟨fb, i * 11 + 9, none⟩ = some (.int .i64 (fs i).deficit) := (FQ.zf H3.out HI.out 9 (by omega)).1.trans (by rw [upd_at, upd_at]; rfl)
    have zq2 : W3.cell? ⟨q, 2, none⟩ = some (.int .i64 c.quantum) := (FQ.zq H3.out 2).1.trans rfl
    by_cases co : (fs i).on = 0
    · rw [co] at z10
      go_upto_region 15 with (fail)
      have n1 : FQ w (W3.setCell ⟨fb, i * 11 + 9, none⟩ (.int .i64 c.quantum)) q fb N c (upd fs i { (fs i).add p with deficit := c.quantum }) (upd rv i v') v1 v2 l1 l2 n p.f0 := by
        have h7 := FR.putF H3.out HI.out 9 (by omega) (.int .i64 c.quantum)
        unfold FQ
        have e1 : (fun k => (upd fs i { (fs i).add p with deficit := c.quantum } k).cells (upd rv i v' k)) = upd (fun k => (upd fs i ((fs i).add p) k).cells (upd rv i v' k)) i (((upd fs i ((fs i).add p) i).cells (upd rv i v' i)).setIfInBounds 9 (.int .i64 c.quantum)) := by
          rw [upd_at, upd_at, ← cells_upd, ← cells_upd, upd_upd]
          rfl
        have e2 : (fun k => (upd fs i { (fs i).add p with deficit := c.quantum } k).ps) = fun k => (upd fs i ((fs i).add p) k).ps := by
          rw [← ps_upd, ← ps_upd]
        rw [e1, e2]
        exact h7
      have n2 := KK3.out.setCell (p := ⟨fb, i * 11 + 9, none⟩) (.inl (.inr (.inl rfl))) (.int .i64 c.quantum)
      generalize W3.setCell ⟨fb, i * 11 + 9, none⟩ (.int .i64 c.quantum) = W4 at n1 n2 ⊢
      have HPUT := Aside0.mk (put1 n1 HI.out HL1.out)
      have KK4 := Aside0.mk n2
      have CO := Aside0.mk co
      clear n1 n2 z10 f9 z9 zq2 co
      go_upto_region 16 with (go_at_call 21; (with_reducible refine Calls.mono HPUT.out ?_); rintro e w7 ⟨rfl, ⟨v1', hf, ho⟩, hk⟩; have HF := Aside0.mk hf; have HO := Aside0.mk ho; have HKK := Aside0.mk hk; clear hf ho hk)
      have ef : ((fs i).add p).wake c = { { (fs i).add p with deficit := c.quantum } with on := 1 } := by
        unfold Fl.wake
        rw [if_pos (show ((fs i).add p).on = 0 from CO.out)]
      have el : wakeL (fs i) l1 i = l1 ++ [i] := by
        unfold wakeL
        rw [if_pos CO.out]
      have hf := HF.out
      rw [upd_upd, upd_at] at hf
      have H5 : Aside0 (FQ w w7 q fb N c (upd fs i (((fs i).add p).wake c)) (upd rv i v') v1' v2 (wakeL (fs i) l1 i) l2 n p.f0) := ⟨by rw [ef, el]; exact hf⟩
      have OL : Aside0 (v1'.ownBlock = v1.ownBlock ∨ ∃ b, v1'.ownBlock = some b ∧ W.heap.size ≤ b) := ⟨by
        rcases HO.out with h | ⟨b, h, hle⟩
        · exact .inl h
        · exact .inr ⟨b, h, Nat.le_trans KK4.out.1 hle⟩⟩
      have KK5 : Aside0 (Kept W w7 (Mine q fb N rv v1 v2)) := ⟨KK4.out.then_ HKK.out (fun k hk => by
        rcases hk with h | h | h
        · exact .inl (.inl h)
        · exact .inl (.inr (.inl h))
        · exact .inl (.inr (.inr (.inr (.inl h)))))⟩
      clear hf HF HO HKK KK4 HPUT H3 KK3 ef el
      have H6 : Aside0 (FQ w w7 q fb N c (enqFs c fs i p) (upd rv i v') v1' v2 (wakeL (fs i) l1 i) l2 n p.f0) := H5
      clear H5
      have zq10 : w7.cell? ⟨q, 10, none⟩ = some (.int .i64 n) := (FQ.zq H6.out 10).1.trans rfl
      have fq10 : w7.frozen? ⟨q, 10, none⟩ = false := (FQ.zq H6.out 10).2
      have hw : IntKind.i64.wrap (n + 1) = n + 1 := by
        have := HNN.out
        rw [i64_w]
        unfold wrap64
        omega
      go_upto_region 17 with (fail)
      have n1 : FQ w (w7.setCell ⟨q, 10, none⟩ (.int .i64 (n + 1))) q fb N c (enqFs c fs i p) (upd rv i v') v1' v2 (wakeL (fs i) l1 i) l2 (n + 1) p.f0 := FR.putQ H6.out 10 (.int .i64 (n + 1))
      have n2 := KK5.out.setCell (p := ⟨q, 10, none⟩) (.inl (.inl rfl)) (.int .i64 (n + 1))
      generalize w7.setCell ⟨q, 10, none⟩ (.int .i64 (n + 1)) = w8 at n1 n2 ⊢
      clear zq10 fq10 hw
      have H8 := Aside0.mk n1
      have KK8 := Aside0.mk n2
      clear n1 n2
      have zq10 : w8.cell? ⟨q, 10, none⟩ = some (.int .i64 (n + 1)) := (FQ.zq H8.out 10).1.trans rfl
      have zq1 : w8.cell? ⟨q, 1, none⟩ = some (.int .i64 c.limit) := (FQ.zq H8.out 1).1.trans rfl
      have MO : Aside0 (∀ k, Mine q fb N (upd rv i v') v1' v2 k → Mine q fb N rv v1 v2 k ∨ W.heap.size ≤ k) := ⟨fun k hk => by
        rcases hk with h | h | ⟨j, hj, h⟩ | h | h
        · exact .inl (.inl h)
        · exact .inl (.inr (.inl h))
        · by_cases cj : j = i
          · subst cj
            rw [upd_at] at h
            rcases OW2.out with ow | ⟨b, ow, hle⟩
            · exact .inl (.inr (.inr (.inl ⟨j, hj, by rw [← ow]; exact h⟩)))
            · rw [ow] at h
              exact .inr (by have := Option.some.inj h; omega)
          · rw [upd_ne _ _ cj] at h
            exact .inl (.inr (.inr (.inl ⟨j, hj, h⟩)))
        · rcases OL.out with ow | ⟨b, ow, hle⟩
          · exact .inl (.inr (.inr (.inr (.inl (by rw [← ow]; exact h)))))
          · rw [ow] at h
            exact .inr (by have := Option.some.inj h; omega)
        · exact .inl (.inr (.inr (.inr (.inr h))))⟩
      by_cases cl : n + 1 ≤ c.limit
      · have cld : decide (n + 1 ≤ c.limit) = true := decide_eq_true cl
        have CL := Aside0.mk cl
        clear cl
        go_region
        go_wp2
        go_ret2
        exact ⟨fun _ => ⟨rfl, _, _, FR.drew H8.out, KK8.out.drew, MO.out⟩, fun h => absurd CL.out h⟩
      · have cld : decide (n + 1 ≤ c.limit) = false := decide_eq_false cl
        have CL := Aside0.mk cl
        clear cl
        go_region
        have hw : IntKind.i64.wrap n = n := by
          have := HNN.out
          rw [i64_w]
          unfold wrap64
          omega
        have fq10 : w8.drew.frozen? ⟨q, 10, none⟩ = false := (FQ.zq H8.out 10).2
        go_upto_region 20 with (fail)
        have n1 : FQ w ((w8.setCell ⟨q, 10, none⟩ (.int .i64 n)).drew) q fb N c (enqFs c fs i p) (upd rv i v') v1' v2 (wakeL (fs i) l1 i) l2 n p.f0 := FR.drew (FR.putQ H8.out 10 (.int .i64 n))
        have n2 := (KK8.out.setCell (p := ⟨q, 10, none⟩) (.inl (.inl rfl)) (.int .i64 n)).drew
        generalize (w8.setCell ⟨q, 10, none⟩ (.int .i64 n)).drew = w9 at n1 n2 ⊢
        clear zq10 zq1 fq10 hw cld
        have H9 := Aside0.mk n1
        have KK9 := Aside0.mk n2
        have hN : 0 < N := Nat.lt_of_le_of_lt (Nat.zero_le i) HI.out
        have hfat := fattest_in n1 hN HM.out
        clear n1 n2
        obtain ⟨x, r, hxr⟩ := HX.out (by have := CL.out; omega)
        obtain ⟨F, hF⟩ : ∃ F, fatOf (enqFs c fs i p) N = F := ⟨_, rfl⟩
        have hF2 : fatGo (fun i_1 => (enqFs c fs i p i_1).bytes) N 0 0 = F := hF
        have FLT := Aside0.mk (show F < N by rw [← hF2]; exact fatGo_lt _ N N 0 0 hN (by omega))
        rw [hF2] at hfat
        rw [hF] at hxr
        have HFAT := Aside0.mk hfat
        have XR := Aside0.mk hxr
        have EF := Aside0.mk hF
        clear hfat hxr hF hF2 hN
        go_wp2_with (first
          | (go_at_call 22; (with_reducible refine Calls.mono HFAT.out ?_); rintro e w10 ⟨rfl, b10⟩; have H10 := Aside0.mk (FR.step H9.out b10); have KK10 := Aside0.mk (KK9.out.below b10); have hdr := drop_in H10.out FLT.out XR.out; unfold pkV at hdr; have HDR := Aside0.mk hdr; clear b10 hdr)
          | (go_at_call 23; (with_reducible refine Calls.mono HDR.out ?_); rintro e w11 ⟨rfl, ⟨v11, hf, ho⟩, hk⟩; have H11 := Aside0.mk hf; have O11 := Aside0.mk ho; have KK11 := Aside0.mk (KK10.out.then_ hk (fun k hk => .inl (.inr (.inl hk)))); clear hf ho hk))
        go_ret2
        have hsz : ∀ k, Mine q fb N (upd (upd rv i v') F v11) v1' v2 k → k < w11.heap.size := fun k hk => FR.lt H11.out hk
        have hlit := litP w11 x W.heap.size (KK11.out.1)
        refine ⟨fun h => absurd h (by have := CL.out; omega), fun _ x' r' hxr' => ?_⟩
        rw [EF.out, XR.out] at hxr'
        injection hxr' with hx1 hx2
        subst hx1
        subst hx2
        rw [EF.out]
        refine ⟨_, rfl, _, _, Kd.R_mono hlit (fun k hk hm => ?_), FR.alloc H11.out _, KK11.out.alloc _, fun k hk => ?_⟩
        · have := hsz k hm
          omega
        · refine MO.out k ?_
          rcases hk with h | h | ⟨j, hj, h⟩ | h | h
          · exact .inl h
          · exact .inr (.inl h)
          · refine .inr (.inr (.inl ⟨j, hj, ?_⟩))
            by_cases cj : j = F
            · subst cj
              rw [upd_at, O11.out] at h
              exact h
            · rw [upd_ne _ _ cj] at h
              exact h
          · exact .inr (.inr (.inr (.inl h)))
          · exact .inr (.inr (.inr (.inr h)))
    · have co2 : ((fs i).on == 0) = false := beq_eq_false_iff_ne.2 co
      have CO := Aside0.mk co
      clear co
      go_upto_region 16 with (fail)
      have ef : ((fs i).add p).wake c = (fs i).add p := by
        unfold Fl.wake
        rw [if_neg (show ¬ ((fs i).add p).on = 0 from CO.out)]
      have el : wakeL (fs i) l1 i = l1 := by
        unfold wakeL
        rw [if_neg CO.out]
      have H5 : Aside0 (FQ w W3 q fb N c (upd fs i (((fs i).add p).wake c)) (upd rv i v') v1 v2 (wakeL (fs i) l1 i) l2 n p.f0) := ⟨by rw [ef, el]; exact H3.out⟩
      obtain ⟨w7, hw7⟩ : ∃ w7, W3 = w7 := ⟨_, rfl⟩
      obtain ⟨v1', hv1⟩ : ∃ v1', v1 = v1' := ⟨_, rfl⟩
      have OL : Aside0 (v1'.ownBlock = v1.ownBlock ∨ ∃ b, v1'.ownBlock = some b ∧ W.heap.size ≤ b) := ⟨.inl (by rw [hv1])⟩
      have KK5 := KK3
      clear z10 f9 z9 zq2 co2 KK3 H3
      rw [hw7] at H5 KK5 ⊢
      have H6 : Aside0 (FQ w w7 q fb N c (upd fs i (((fs i).add p).wake c)) (upd rv i v') v1' v2 (wakeL (fs i) l1 i) l2 n p.f0) := ⟨by rw [← hv1]; exact H5.out⟩
      clear H5 hw7 hv1 W3
      have H5 := H6
      clear H6 ef el
      have H6 : Aside0 (FQ w w7 q fb N c (enqFs c fs i p) (upd rv i v') v1' v2 (wakeL (fs i) l1 i) l2 n p.f0) := H5
      clear H5
      have zq10 : w7.cell? ⟨q, 10, none⟩ = some (.int .i64 n) := (FQ.zq H6.out 10).1.trans rfl
      have fq10 : w7.frozen? ⟨q, 10, none⟩ = false := (FQ.zq H6.out 10).2
      have hw : IntKind.i64.wrap (n + 1) = n + 1 := by
        have := HNN.out
        rw [i64_w]
        unfold wrap64
        omega
      go_upto_region 17 with (fail)
      have n1 : FQ w (w7.setCell ⟨q, 10, none⟩ (.int .i64 (n + 1))) q fb N c (enqFs c fs i p) (upd rv i v') v1' v2 (wakeL (fs i) l1 i) l2 (n + 1) p.f0 := FR.putQ H6.out 10 (.int .i64 (n + 1))
      have n2 := KK5.out.setCell (p := ⟨q, 10, none⟩) (.inl (.inl rfl)) (.int .i64 (n + 1))
      generalize w7.setCell ⟨q, 10, none⟩ (.int .i64 (n + 1)) = w8 at n1 n2 ⊢
      clear zq10 fq10 hw
      have H8 := Aside0.mk n1
      have KK8 := Aside0.mk n2
      clear n1 n2
      have zq10 : w8.cell? ⟨q, 10, none⟩ = some (.int .i64 (n + 1)) := (FQ.zq H8.out 10).1.trans rfl
      have zq1 : w8.cell? ⟨q, 1, none⟩ = some (.int .i64 c.limit) := (FQ.zq H8.out 1).1.trans rfl
      have MO : Aside0 (∀ k, Mine q fb N (upd rv i v') v1' v2 k → Mine q fb N rv v1 v2 k ∨ W.heap.size ≤ k) := ⟨fun k hk => by
        rcases hk with h | h | ⟨j, hj, h⟩ | h | h
        · exact .inl (.inl h)
        · exact .inl (.inr (.inl h))
        · by_cases cj : j = i
          · subst cj
            rw [upd_at] at h
            rcases OW2.out with ow | ⟨b, ow, hle⟩
            · exact .inl (.inr (.inr (.inl ⟨j, hj, by rw [← ow]; exact h⟩)))
            · rw [ow] at h
              exact .inr (by have := Option.some.inj h; omega)
          · rw [upd_ne _ _ cj] at h
            exact .inl (.inr (.inr (.inl ⟨j, hj, h⟩)))
        · rcases OL.out with ow | ⟨b, ow, hle⟩
          · exact .inl (.inr (.inr (.inr (.inl (by rw [← ow]; exact h)))))
          · rw [ow] at h
            exact .inr (by have := Option.some.inj h; omega)
        · exact .inl (.inr (.inr (.inr (.inr h))))⟩
      by_cases cl : n + 1 ≤ c.limit
      · have cld : decide (n + 1 ≤ c.limit) = true := decide_eq_true cl
        have CL := Aside0.mk cl
        clear cl
        go_region
        go_wp2
        go_ret2
        exact ⟨fun _ => ⟨rfl, _, _, FR.drew H8.out, KK8.out.drew, MO.out⟩, fun h => absurd CL.out h⟩
      · have cld : decide (n + 1 ≤ c.limit) = false := decide_eq_false cl
        have CL := Aside0.mk cl
        clear cl
        go_region
        have hw : IntKind.i64.wrap n = n := by
          have := HNN.out
          rw [i64_w]
          unfold wrap64
          omega
        have fq10 : w8.drew.frozen? ⟨q, 10, none⟩ = false := (FQ.zq H8.out 10).2
        go_upto_region 20 with (fail)
        have n1 : FQ w ((w8.setCell ⟨q, 10, none⟩ (.int .i64 n)).drew) q fb N c (enqFs c fs i p) (upd rv i v') v1' v2 (wakeL (fs i) l1 i) l2 n p.f0 := FR.drew (FR.putQ H8.out 10 (.int .i64 n))
        have n2 := (KK8.out.setCell (p := ⟨q, 10, none⟩) (.inl (.inl rfl)) (.int .i64 n)).drew
        generalize (w8.setCell ⟨q, 10, none⟩ (.int .i64 n)).drew = w9 at n1 n2 ⊢
        clear zq10 zq1 fq10 hw cld
        have H9 := Aside0.mk n1
        have KK9 := Aside0.mk n2
        have hN : 0 < N := Nat.lt_of_le_of_lt (Nat.zero_le i) HI.out
        have hfat := fattest_in n1 hN HM.out
        clear n1 n2
        obtain ⟨x, r, hxr⟩ := HX.out (by have := CL.out; omega)
        obtain ⟨F, hF⟩ : ∃ F, fatOf (enqFs c fs i p) N = F := ⟨_, rfl⟩
        have hF2 : fatGo (fun i_1 => (enqFs c fs i p i_1).bytes) N 0 0 = F := hF
        have FLT := Aside0.mk (show F < N by rw [← hF2]; exact fatGo_lt _ N N 0 0 hN (by omega))
        rw [hF2] at hfat
        rw [hF] at hxr
        have HFAT := Aside0.mk hfat
        have XR := Aside0.mk hxr
        have EF := Aside0.mk hF
        clear hfat hxr hF hF2 hN
        go_wp2_with (first
          | (go_at_call 22; (with_reducible refine Calls.mono HFAT.out ?_); rintro e w10 ⟨rfl, b10⟩; have H10 := Aside0.mk (FR.step H9.out b10); have KK10 := Aside0.mk (KK9.out.below b10); have hdr := drop_in H10.out FLT.out XR.out; unfold pkV at hdr; have HDR := Aside0.mk hdr; clear b10 hdr)
          | (go_at_call 23; (with_reducible refine Calls.mono HDR.out ?_); rintro e w11 ⟨rfl, ⟨v11, hf, ho⟩, hk⟩; have H11 := Aside0.mk hf; have O11 := Aside0.mk ho; have KK11 := Aside0.mk (KK10.out.then_ hk (fun k hk => .inl (.inr (.inl hk)))); clear hf ho hk))
        go_ret2
        have hsz : ∀ k, Mine q fb N (upd (upd rv i v') F v11) v1' v2 k → k < w11.heap.size := fun k hk => FR.lt H11.out hk
        have hlit := litP w11 x W.heap.size (KK11.out.1)
        refine ⟨fun h => absurd h (by have := CL.out; omega), fun _ x' r' hxr' => ?_⟩
        rw [EF.out, XR.out] at hxr'
        injection hxr' with hx1 hx2
        subst hx1
        subst hx2
        rw [EF.out]
        refine ⟨_, rfl, _, _, Kd.R_mono hlit (fun k hk hm => ?_), FR.alloc H11.out _, KK11.out.alloc _, fun k hk => ?_⟩
        · have := hsz k hm
          omega
        · refine MO.out k ?_
          rcases hk with h | h | ⟨j, hj, h⟩ | h | h
          · exact .inl h
          · exact .inr (.inl h)
          · refine .inr (.inr (.inl ⟨j, hj, ?_⟩))
            by_cases cj : j = F
            · subst cj
              rw [upd_at, O11.out] at h
              exact h
            · rw [upd_ne _ _ cj] at h
              exact h
          · exact .inr (.inr (.inr (.inl h)))
          · exact .inr (.inr (.inr (.inr h)))
end Go.Proofs.Ytepolgapbbaklaa.Q
