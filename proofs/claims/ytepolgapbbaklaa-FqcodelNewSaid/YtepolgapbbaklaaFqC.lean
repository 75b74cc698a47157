/- fqcodel: leave, put, drop, fattest walked. No condition. -/
import Derived.Test.YtepolgapbbaklaaFqB
namespace Go.Proofs.Ytepolgapbbaklaa.Q
set_option linter.unusedVariables false
set_option linter.unusedSimpArgs false
open Go.RowKit Go.Proofs.YtepolgapbbaklaaW.PrintWords Go.Proofs.YtepolgapbbaklaaW.PrintLast Go.Proofs.YtepolgapbbaklaaW.PrintMore
set_option maxHeartbeats 8000000 in
set_option maxRecDepth 100000 in
theorem leave1 {w W : World} {q fb N : Nat} {c : Cfg} {fs : Nat → Fl} {rv : Nat → Value} {v1 v2 : Value} {l2 : List Nat} {n now : Int} {i : Nat} {r : List Nat} (h : FQ w W q fb N c fs rv v1 v2 (i :: r) l2 n now) (hi : i < N) (ho : (fs i).on = 1) :
    Calls Try.prog 25 #[.pointer (some ⟨q, 0, none⟩), .pointer (some ⟨fb, i * 11, none⟩)] W fun e W' => e = .returned (.tuple #[]) ∧ (∃ v1', FQ w W' q fb N c fs rv v1' v2 r l2 n now ∧ v1'.ownBlock = v1.ownBlock) ∧ Kept W W' (fun k => k = q) := by
  have hu := Try.underlying66
  have hu73 := Try.underlying73
  have HH := Aside0.mk h
  obtain ⟨g, o, cc, ev, hc, hcc⟩ := hdF (FR.L1 h)
  have z8 := (h.zq 8).1.trans (show _ = some v1 from rfl)
  have f8 := (h.zq 8).2
  have z10 := (h.zf hi 10 (by omega)).1.trans (show _ = some (.int .i64 (fs i).on) from rfl)
  rw [ho] at z10
  rw [ev] at z8
  obtain ⟨m, hm⟩ : ∃ m, r.length + 1 = m := ⟨_, rfl⟩
  rw [hm] at z8
  have d0 : (1 : Int) ≤ (m : Int) := by omega
  have EV := Aside0.mk ev
  have HM := Aside0.mk hm
  clear h hc hcc ev hm ho
  generalize hp : i * 11 = p at *
  go_enter Try.func25, Try.ntmps25
  go_wp2
  go_region
  go_end0
  have em : m - 1 = r.length := by have := HM.out; omega
  rw [em]
  have hl := FR.L1 HH.out
  rw [EV.out] at hl
  have ht := tlF hl
  refine ⟨rfl, ⟨_, FR.drew (FR.putQ (FR.cut1 HH.out ht.1 (by rw [ht.2, EV.out]; rfl)) 8 _), by rw [ht.2, EV.out]; rfl⟩, (Kept.refl W (fun k => k = q)).setCell (p := ⟨q, 8, none⟩) (.inl rfl) _⟩
set_option maxHeartbeats 8000000 in
set_option maxRecDepth 100000 in
theorem leave2 {w W : World} {q fb N : Nat} {c : Cfg} {fs : Nat → Fl} {rv : Nat → Value} {v1 v2 : Value} {l1 : List Nat} {n now : Int} {i : Nat} {r : List Nat} (h : FQ w W q fb N c fs rv v1 v2 l1 (i :: r) n now) (hi : i < N) (ho : (fs i).on = 2) :
    Calls Try.prog 25 #[.pointer (some ⟨q, 0, none⟩), .pointer (some ⟨fb, i * 11, none⟩)] W fun e W' => e = .returned (.tuple #[]) ∧ (∃ v1', FQ w W' q fb N c fs rv v1 v1' l1 r n now ∧ v1'.ownBlock = v2.ownBlock) ∧ Kept W W' (fun k => k = q) := by
  have hu := Try.underlying66
  have hu73 := Try.underlying73
  have HH := Aside0.mk h
  obtain ⟨g, o, cc, ev, hc, hcc⟩ := hdF (FR.L2 h)
  have z8 := (h.zq 9).1.trans (show _ = some v2 from rfl)
  have f8 := (h.zq 9).2
  have z10 := (h.zf hi 10 (by omega)).1.trans (show _ = some (.int .i64 (fs i).on) from rfl)
  rw [ho] at z10
  rw [ev] at z8
  obtain ⟨m, hm⟩ : ∃ m, r.length + 1 = m := ⟨_, rfl⟩
  rw [hm] at z8
  have d0 : (1 : Int) ≤ (m : Int) := by omega
  have EV := Aside0.mk ev
  have HM := Aside0.mk hm
  clear h hc hcc ev hm ho
  generalize hp : i * 11 = p at *
  go_enter Try.func25, Try.ntmps25
  go_wp2
  go_region
  go_end0
  have em : m - 1 = r.length := by have := HM.out; omega
  rw [em]
  have hl := FR.L2 HH.out
  rw [EV.out] at hl
  have ht := tlF hl
  refine ⟨rfl, ⟨_, FR.drew (FR.putQ (FR.cut2 HH.out ht.1 (by rw [ht.2, EV.out]; rfl)) 9 _), by rw [ht.2, EV.out]; rfl⟩, (Kept.refl W (fun k => k = q)).setCell (p := ⟨q, 9, none⟩) (.inl rfl) _⟩
set_option maxHeartbeats 8000000 in
set_option maxRecDepth 100000 in
theorem put1 {w W : World} {q fb N : Nat} {c : Cfg} {fs : Nat → Fl} {rv : Nat → Value} {v1 v2 : Value} {l1 l2 : List Nat} {n now : Int} {i : Nat} (h : FQ w W q fb N c fs rv v1 v2 l1 l2 n now) (hi : i < N) (hl : l1.length ≤ 65536) :
    Calls Try.prog 21 #[.pointer (some ⟨q, 0, none⟩), .pointer (some ⟨fb, i * 11, none⟩), .int .i64 1] W fun e W' => e = .returned (.tuple #[]) ∧ (∃ v', FQ w W' q fb N c (upd fs i { fs i with on := 1 }) rv v' v2 (l1 ++ [i]) l2 n now ∧ (v'.ownBlock = v1.ownBlock ∨ ∃ b, v'.ownBlock = some b ∧ W.heap.size ≤ b)) ∧ Kept W W' (fun k => k = q ∨ k = fb ∨ v1.ownBlock = some k) := by
  have hu := Try.underlying66
  have hu73 := Try.underlying73
  have h1 : FQ w (W.setCell ⟨fb, i * 11 + 10, none⟩ (.int .i64 1)) q fb N c (upd fs i { fs i with on := 1 }) rv v1 v2 l1 l2 n now := by
    have h2 := FR.putF h hi 10 (by omega) (.int .i64 1)
    unfold FQ
    rw [← cells_upd' fs rv i { fs i with on := 1 }, ← ps_same fs i { fs i with on := 1 } rfl]
    exact h2
  have HK := Aside0.mk ((Kept.refl W (fun k => k = q ∨ k = fb ∨ v1.ownBlock = some k)).setCell (p := ⟨fb, i * 11 + 10, none⟩) (.inl (.inr (.inl rfl))) (.int .i64 1))
  have HS := Aside0.mk (show (W.setCell ⟨fb, i * 11 + 10, none⟩ (.int .i64 1)).heap.size = W.heap.size by simp [World.setCell])
  have z10 := (h.zf hi 10 (by omega)).1.trans (show _ = some (.int .i64 (fs i).on) from rfl)
  have f10 := (h.zf hi 10 (by omega)).2
  have HH := Aside0.mk h1
  have HL := Aside0.mk hl
  have HI := Aside0.mk hi
  clear h h1 hl hi
  go_enter Try.func21, Try.ntmps21
  go_upto_region 1 with (fail)
  generalize W.setCell ⟨fb, i * 11 + 10, none⟩ (.int .i64 1) = W1 at HH HK HS ⊢
  clear z10 f10
  have z8 := (HH.out.zq 8).1.trans (show _ = some v1 from rfl)
  have f8 := (HH.out.zq 8).2
  have HAD := Aside0.mk (show ∀ o : Obj, (W1.alloc o).drew = W1.drew.alloc o from fun _ => rfl)
  obtain ⟨A0, c0, ev, _⟩ := Kd.Q_slice (FR.L1 HH.out)
  subst ev
  have zA : (W1.alloc (.cells #[.pointer (some ⟨fb, i * 11, none⟩)] 74)).cell? ⟨q, 8, none⟩ = some (.slice A0 l1.length c0) := (blk_cell (FR.K (FR.alloc HH.out _)) 8).trans rfl
  have fA : (W1.alloc (.cells #[.pointer (some ⟨fb, i * 11, none⟩)] 74)).frozen? ⟨q, 8, none⟩ = false := blk_frozen (FR.K (FR.alloc HH.out _)) 8
  go_region_law (rw [HAD.out]; refine Kd.Q_append_step (kF fb) (w0 := w) w.heap.size (by rfl) (.tmp 17) (.tmp 19) 63 74 (.pointer none) 8 rfl Try.underlying63 (by kernel_rfl) rfl Nat.one_pos (by omega) (.slice A0 l1.length c0) l1 i [.pointer (some ⟨fb, i * 11, none⟩)] (fun _ => True) (fun _ => False) (by rfl) (by rfl) rfl (fun _ hk => hk.elim) (fun _ _ => trivial) (FR.L1 HH.out.drew) HH.out.drew.B (below_size HH.out.drew.B) (by have := HL.out; omega) ?_; intro v' w1 ho hb hg hat; obtain ⟨A2, c2, e2, _⟩ := Kd.Q_slice ho; subst e2; have HG := Aside0.mk (FR.grow1 HH.out.drew ho hb hg hat); have HKG := Aside0.mk hg; have HAT := Aside0.mk hat; clear ho hb hg hat z8 f8; have z8 : w1.cell? ⟨q, 8, none⟩ = some _ := (blk_cell HG.out.K 8).trans rfl; have f8 : w1.frozen? ⟨q, 8, none⟩ = false := blk_frozen HG.out.K 8)
  all_goals
    try go_wp2
    go_end0
    have hlen : (l1 ++ [i]).length = l1.length + 1 := by simp
    have hg2 := HG.out
    have hat := HAT.out
    rw [hlen] at hg2 hat
    refine ⟨rfl, ⟨_, FR.putQ hg2 8 _, ?_⟩, (Kept.of_grown HKG.out HK.out.drew (fun k e => .inl (.inr (.inr e)))).setCell (p := ⟨q, 8, none⟩) (.inl (.inl rfl)) _⟩
    rcases hat with hat | ⟨b, hb, hle⟩
    · exact .inl hat
    · exact .inr ⟨b, hb, by have := HS.out; have h3 : W1.drew.heap.size = W1.heap.size := rfl; omega⟩
set_option maxHeartbeats 8000000 in
set_option maxRecDepth 100000 in
theorem put2 {w W : World} {q fb N : Nat} {c : Cfg} {fs : Nat → Fl} {rv : Nat → Value} {v1 v2 : Value} {l1 l2 : List Nat} {n now : Int} {i : Nat} (h : FQ w W q fb N c fs rv v1 v2 l1 l2 n now) (hi : i < N) (hl : l2.length ≤ 65536) :
    Calls Try.prog 21 #[.pointer (some ⟨q, 0, none⟩), .pointer (some ⟨fb, i * 11, none⟩), .int .i64 2] W fun e W' => e = .returned (.tuple #[]) ∧ (∃ v', FQ w W' q fb N c (upd fs i { fs i with on := 2 }) rv v1 v' l1 (l2 ++ [i]) n now ∧ (v'.ownBlock = v2.ownBlock ∨ ∃ b, v'.ownBlock = some b ∧ W.heap.size ≤ b)) ∧ Kept W W' (fun k => k = q ∨ k = fb ∨ v2.ownBlock = some k) := by
  have hu := Try.underlying66
  have hu73 := Try.underlying73
  have h1 : FQ w (W.setCell ⟨fb, i * 11 + 10, none⟩ (.int .i64 2)) q fb N c (upd fs i { fs i with on := 2 }) rv v1 v2 l1 l2 n now := by
    have h2 := FR.putF h hi 10 (by omega) (.int .i64 2)
    unfold FQ
    rw [← cells_upd' fs rv i { fs i with on := 2 }, ← ps_same fs i { fs i with on := 2 } rfl]
    exact h2
  have HK := Aside0.mk ((Kept.refl W (fun k => k = q ∨ k = fb ∨ v2.ownBlock = some k)).setCell (p := ⟨fb, i * 11 + 10, none⟩) (.inl (.inr (.inl rfl))) (.int .i64 2))
  have HS := Aside0.mk (show (W.setCell ⟨fb, i * 11 + 10, none⟩ (.int .i64 2)).heap.size = W.heap.size by simp [World.setCell])
  have z10 := (h.zf hi 10 (by omega)).1.trans (show _ = some (.int .i64 (fs i).on) from rfl)
  have f10 := (h.zf hi 10 (by omega)).2
  have HH := Aside0.mk h1
  have HL := Aside0.mk hl
  have HI := Aside0.mk hi
  clear h h1 hl hi
  go_enter Try.func21, Try.ntmps21
  go_upto_region 1 with (fail)
  generalize W.setCell ⟨fb, i * 11 + 10, none⟩ (.int .i64 2) = W1 at HH HK HS ⊢
  clear z10 f10
  have z8 := (HH.out.zq 9).1.trans (show _ = some v2 from rfl)
  have f8 := (HH.out.zq 9).2
  have HAD := Aside0.mk (show ∀ o : Obj, (W1.alloc o).drew = W1.drew.alloc o from fun _ => rfl)
  obtain ⟨A0, c0, ev, _⟩ := Kd.Q_slice (FR.L2 HH.out)
  subst ev
  have zA : (W1.alloc (.cells #[.pointer (some ⟨fb, i * 11, none⟩)] 74)).cell? ⟨q, 9, none⟩ = some (.slice A0 l2.length c0) := (blk_cell (FR.K (FR.alloc HH.out _)) 9).trans rfl
  have fA : (W1.alloc (.cells #[.pointer (some ⟨fb, i * 11, none⟩)] 74)).frozen? ⟨q, 9, none⟩ = false := blk_frozen (FR.K (FR.alloc HH.out _)) 9
  go_region_law (rw [HAD.out]; refine Kd.Q_append_step (kF fb) (w0 := w) w.heap.size (by rfl) (.tmp 17) (.tmp 19) 63 74 (.pointer none) 8 rfl Try.underlying63 (by kernel_rfl) rfl Nat.one_pos (by omega) (.slice A0 l2.length c0) l2 i [.pointer (some ⟨fb, i * 11, none⟩)] (fun _ => True) (fun _ => False) (by rfl) (by rfl) rfl (fun _ hk => hk.elim) (fun _ _ => trivial) (FR.L2 HH.out.drew) HH.out.drew.B (below_size HH.out.drew.B) (by have := HL.out; omega) ?_; intro v' w1 ho hb hg hat; obtain ⟨A2, c2, e2, _⟩ := Kd.Q_slice ho; subst e2; have HG := Aside0.mk (FR.grow2 HH.out.drew ho hb hg hat); have HKG := Aside0.mk hg; have HAT := Aside0.mk hat; clear ho hb hg hat z8 f8; have z8 : w1.cell? ⟨q, 9, none⟩ = some _ := (blk_cell HG.out.K 9).trans rfl; have f8 : w1.frozen? ⟨q, 9, none⟩ = false := blk_frozen HG.out.K 9)
  all_goals
    try go_wp2
    go_end0
    have hlen : (l2 ++ [i]).length = l2.length + 1 := by simp
    have hg2 := HG.out
    have hat := HAT.out
    rw [hlen] at hg2 hat
    refine ⟨rfl, ⟨_, FR.putQ hg2 9 _, ?_⟩, (Kept.of_grown HKG.out HK.out.drew (fun k e => .inl (.inr (.inr e)))).setCell (p := ⟨q, 9, none⟩) (.inl (.inl rfl)) _⟩
    rcases hat with hat | ⟨b, hb, hle⟩
    · exact .inl hat
    · exact .inr ⟨b, hb, by have := HS.out; have h3 : W1.drew.heap.size = W1.heap.size := rfl; omega⟩
/-- The first packet of a flow, and what is left. -/
theorem hdP {W : World} {b : Nat} {v : Value} {x : PK} {r : List PK} (h : kP.Q 41 W b (fun _ => True) v (x :: r)) : ∃ g o c, v = .slice (some ⟨g, o, none⟩) (r.length + 1) c ∧ (W.cell? ⟨g, o, none⟩ = some (.int .i64 x.f0) ∧ W.cell? ⟨g, o + 1, none⟩ = some (.int .i64 x.f1) ∧ W.cell? ⟨g, o + 2, none⟩ = some (.bool x.f2) ∧ W.cell? ⟨g, o + 3, none⟩ = some (.int .i64 x.f3)) ∧ r.length + 1 ≤ c := by
  obtain ⟨g, o, c, rfl, _, _, _⟩ := Kd.Q_form h (by simp)
  obtain ⟨ad, e, k0, k1, k2, k3⟩ := at_T41 (Kd.Q_reads' h).2.2 0 (by omega) (by simp)
  cases e
  have e0 : (⟨g, o, none⟩ : Addr).add (Int.toNat 0 * 4) = ⟨g, o, none⟩ := by simp [Addr.add]
  rw [e0] at k0 k1 k2 k3
  exact ⟨g, o, c, rfl, ⟨k0, k1, k2, k3⟩, (Kd.Q_reads' h).2.1⟩
theorem tlP {W : World} {b g o c : Nat} {x : PK} {r : List PK} (h : kP.Q 41 W b (fun _ => True) (.slice (some ⟨g, o, none⟩) (r.length + 1) c) (x :: r)) :
    kP.Q 41 W b (fun _ => True) (.slice (if c = 1 then some ⟨g, o, none⟩ else some ⟨g, o + 4, none⟩) r.length (c - 1)) r ∧ (Value.slice (if c = 1 then some (⟨g, o, none⟩ : Addr) else some ⟨g, o + 4, none⟩) r.length (c - 1)).ownBlock = some g := by
  have h1 := Kd.Q_drop (k := 1) h (by simp)
  have e : (if c = 1 then some (⟨g, o, none⟩ : Addr) else (some (⟨g, o, none⟩ : Addr)).map (·.add (1 * kP.sz))) = (if c = 1 then some (⟨g, o, none⟩ : Addr) else some ⟨g, o + 4, none⟩) := by
    have : (⟨g, o, none⟩ : Addr).add (1 * kP.sz) = ⟨g, o + 4, none⟩ := add_at g o 4
    simp only [Option.map_some, this]
  rw [e] at h1
  refine ⟨h1, ?_⟩
  by_cases cc : c = 1
  · rw [if_pos cc]
    rfl
  · rw [if_neg cc]
    rfl
def pkV (x : PK) : Value := .agg #[.int .i64 x.f0, .int .i64 x.f1, .bool x.f2, .int .i64 x.f3]
def Fl.cut (f : Fl) (x : PK) (r : List PK) : Fl := { f with ps := r, bytes := wrap64 (f.bytes - x.f1) }
set_option maxHeartbeats 8000000 in
set_option maxRecDepth 100000 in
theorem drop_in {w W : World} {q fb N : Nat} {c : Cfg} {fs : Nat → Fl} {rv : Nat → Value} {v1 v2 : Value} {l1 l2 : List Nat} {n now : Int} {i : Nat} (h : FQ w W q fb N c fs rv v1 v2 l1 l2 n now) (hi : i < N) {x : PK} {r : List PK} (hp : (fs i).ps = x :: r) :
    Calls Try.prog 23 #[.pointer (some ⟨fb, i * 11, none⟩)] W fun e W' => e = .returned (pkV x) ∧ (∃ v', FQ w W' q fb N c (upd fs i ((fs i).cut x r)) (upd rv i v') v1 v2 l1 l2 n now ∧ v'.ownBlock = (rv i).ownBlock) ∧ Kept W W' (fun k => k = fb) := by
  have hu73 := Try.underlying73
  have hu41 := Try.underlying41
  have HH := Aside0.mk h
  have hr := FR.R h i hi
  have hr : kP.Q 41 W w.heap.size (fun _ => True) (rv i) (fs i).ps := hr
  rw [hp] at hr
  obtain ⟨g, o, cc, ev, ⟨x0, x1, x2, x3⟩, hcc⟩ := hdP hr
  have XX := Aside0.mk (And.intro x0 (And.intro x1 (And.intro x2 x3)))
  have EV := Aside0.mk ev
  have HP := Aside0.mk hp
  have HI := Aside0.mk hi
  have HR := Aside0.mk hr
  have HK0 := Aside0.mk (Kept.refl W (fun k => k = fb))
  obtain ⟨m, hm⟩ : ∃ m, r.length + 1 = m := ⟨_, rfl⟩
  have d0 : (0 : Int) < (m : Int) := by omega
  have d1 : (1 : Int) ≤ (m : Int) := by omega
  have HM := Aside0.mk hm
  clear h hr hcc hp hm x0 x1 x2 x3 hi ev
  go_enter Try.func23, Try.ntmps23
  go_upto_region 2 with (first
    | ((with_reducible refine gate_dst (N := 2) rfl ?_); refine box_event ?hg (N := 2) ?hd (cs := #[.int .i64 0, .int .i64 0, .bool false, .int .i64 0]) (t := 41) ?hr ?_; (case hd => rfl); (case hg => rfl); (case hr => first | (go_simp; done) | (go_simp; rfl)); intro g2 e_ w2 k_ b_; have E2 := Aside0.mk e_; have B2 := Aside0.mk b_; have K2 := Aside0.mk k_; have H2 := Aside0.mk (FR.step HH.out b_); have HK2 := Aside0.mk (HK0.out.below b_); clear e_ b_ k_; have z1 : w2.cell? ⟨fb, i * 11 + 1, none⟩ = some (.slice (some ⟨g, o, none⟩) m cc) := ((FR.F H2.out).z HI.out 1 (by omega)).1.trans (by rw [← HM.out, ← EV.out]; rfl); have x0 := (B2.out.cell (World.block_lt_of_cell? W _ XX.out.1)).trans XX.out.1; have x1 := (B2.out.cell (World.block_lt_of_cell? W _ XX.out.2.1)).trans XX.out.2.1; have x2 := (B2.out.cell (World.block_lt_of_cell? W _ XX.out.2.2.1)).trans XX.out.2.2.1; have x3 := (B2.out.cell (World.block_lt_of_cell? W _ XX.out.2.2.2)).trans XX.out.2.2.2)
    | ((with_reducible refine gate_dst (N := 3) rfl ?_); refine box_event ?hg (N := 3) ?hd (cs := #[.int .i64 0, .int .i64 0, .bool false, .int .i64 0]) (t := 41) ?hr ?_; (case hd => rfl); (case hg => rfl); (case hr => first | (go_simp; done) | (go_simp; rfl)); intro g3 e_ w3 k_ b_; have E3 := Aside0.mk e_; have B3 := Aside0.mk b_; have K3 := Aside0.mk k_; have H3 := Aside0.mk (FR.step H2.out b_); have HK3 := Aside0.mk (HK2.out.below b_); have y0 := (blk_cell k_ 0).trans (show _ = some (.int .i64 0) from rfl); have y1 := (blk_cell k_ 1).trans (show _ = some (.int .i64 0) from rfl); have y2 := (blk_cell k_ 2).trans (show _ = some (.bool false) from rfl); have y3 := (blk_cell k_ 3).trans (show _ = some (.int .i64 0) from rfl); have yf0 := blk_frozen k_ 0; have yf1 := blk_frozen k_ 1; have yf2 := blk_frozen k_ 2; have yf3 := blk_frozen k_ 3; clear e_ b_ k_))
  clear z1 x0 x1 x2 x3 y0 y1 y2 y3 yf0 yf1 yf2 yf3 d0
  have nm : ∀ {g : Nat}, W.heap.size ≤ g → ¬ Mine q fb N rv v1 v2 g := fun hg hm => Nat.lt_irrefl _ (Nat.lt_of_lt_of_le (FR.lt HH.out hm) hg)
  have g2h : W.heap.size ≤ g2 := by have := E2.out; omega
  have g3h : W.heap.size ≤ g3 := by have h1 := E3.out; have h2 := B2.out.size; omega
  have g23 : g2 ≠ g3 := by
    have h1 := E3.out
    have h2 := blk_lt K2.out
    omega
  have whi : w.heap.size ≤ W.heap.size := below_size (FR.B HH.out)
  have n2 : FQ w ((((w3.setCell ⟨g3, 0, none⟩ (.int .i64 x.f0)).setCell ⟨g3, 1, none⟩ (.int .i64 x.f1)).setCell ⟨g3, 2, none⟩ (.bool x.f2)).setCell ⟨g3, 3, none⟩ (.int .i64 x.f3)) q fb N c fs rv v1 v2 l1 l2 n now :=
    FR.far (FR.far (FR.far (FR.far H3.out (by omega) (nm g3h) 0 _) (by omega) (nm g3h) 1 _) (by omega) (nm g3h) 2 _) (by omega) (nm g3h) 3 _
  have n3 : ((((w3.setCell ⟨g3, 0, none⟩ (.int .i64 x.f0)).setCell ⟨g3, 1, none⟩ (.int .i64 x.f1)).setCell ⟨g3, 2, none⟩ (.bool x.f2)).setCell ⟨g3, 3, none⟩ (.int .i64 x.f3)).heap[g3]? = some (.cells #[.int .i64 x.f0, .int .i64 x.f1, .bool x.f2, .int .i64 x.f3] 41 (0, 0)) := blk_set (blk_set (blk_set (blk_set K3.out 0 _) 1 _) 2 _) 3 _
  have n4 : ((((w3.setCell ⟨g3, 0, none⟩ (.int .i64 x.f0)).setCell ⟨g3, 1, none⟩ (.int .i64 x.f1)).setCell ⟨g3, 2, none⟩ (.bool x.f2)).setCell ⟨g3, 3, none⟩ (.int .i64 x.f3)).heap[g2]? = some (.cells #[.int .i64 0, .int .i64 0, .bool false, .int .i64 0] 41 (0, 0)) := blk_far (p := ⟨g3, 3, none⟩) (blk_far (p := ⟨g3, 2, none⟩) (blk_far (p := ⟨g3, 1, none⟩) (blk_far (p := ⟨g3, 0, none⟩) (blk_below K2.out B3.out) g23 _) g23 _) g23 _) g23 _
  have n5 : Kept W ((((w3.setCell ⟨g3, 0, none⟩ (.int .i64 x.f0)).setCell ⟨g3, 1, none⟩ (.int .i64 x.f1)).setCell ⟨g3, 2, none⟩ (.bool x.f2)).setCell ⟨g3, 3, none⟩ (.int .i64 x.f3)) (fun k => k = fb) := (((HK3.out.setCell (p := ⟨g3, 0, none⟩) (.inr g3h) _).setCell (p := ⟨g3, 1, none⟩) (.inr g3h) _).setCell (p := ⟨g3, 2, none⟩) (.inr g3h) _).setCell (p := ⟨g3, 3, none⟩) (.inr g3h) _
  have n6 : kP.Q 41 ((((w3.setCell ⟨g3, 0, none⟩ (.int .i64 x.f0)).setCell ⟨g3, 1, none⟩ (.int .i64 x.f1)).setCell ⟨g3, 2, none⟩ (.bool x.f2)).setCell ⟨g3, 3, none⟩ (.int .i64 x.f3)) w.heap.size (fun _ => True) (.slice (some ⟨g, o, none⟩) m cc) (x :: r) := by
    have := FR.R n2 i HI.out
    rw [EV.out, HM.out] at this
    have h2 : kP.Q 41 _ w.heap.size (fun _ => True) (.slice (some ⟨g, o, none⟩) m cc) (fs i).ps := this
    rw [HP.out] at h2
    exact h2
  obtain ⟨W4, hW4⟩ : ∃ W_, ((((w3.setCell ⟨g3, 0, none⟩ (.int .i64 x.f0)).setCell ⟨g3, 1, none⟩ (.int .i64 x.f1)).setCell ⟨g3, 2, none⟩ (.bool x.f2)).setCell ⟨g3, 3, none⟩ (.int .i64 x.f3)) = W_ := ⟨_, rfl⟩
  rw [hW4] at n2 n3 n4 n5 n6 ⊢
  have H4 := Aside0.mk n2
  have K4 := Aside0.mk n3
  have K5 := Aside0.mk n4
  have HK4 := Aside0.mk n5
  have HR4 := Aside0.mk n6
  have G23 := Aside0.mk g23
  have G2 := Aside0.mk g2h
  have G3 := Aside0.mk g3h
  have NM := Aside0.mk (@nm)
  clear n2 n3 n4 n5 n6 hW4 g23 g2h g3h nm whi
  have z1 : W4.cell? ⟨fb, i * 11 + 1, none⟩ = some (.slice (some ⟨g, o, none⟩) m cc) := ((FR.F H4.out).z HI.out 1 (by omega)).1.trans (by rw [← HM.out, ← EV.out]; rfl)
  have f1 : W4.frozen? ⟨fb, i * 11 + 1, none⟩ = false := ((FR.F H4.out).z HI.out 1 (by omega)).2
  go_upto_region 3 with (fail)
  clear z1 f1 d1
  have em : m - 1 = r.length := by have := HM.out; omega
  rw [em]
  have hr4 := HR4.out
  rw [← HM.out] at hr4
  have ht := tlP hr4
  obtain ⟨v', hv'⟩ : ∃ v', Value.slice (if cc = 1 then some (⟨g, o, none⟩ : Addr) else some ⟨g, o + 4, none⟩) r.length (cc - 1) = v' := ⟨_, rfl⟩
  rw [hv'] at ht ⊢
  have hown : v'.ownBlock = (rv i).ownBlock := by rw [ht.2, EV.out]; rfl
  have h5 : FR w (W4.setCell ⟨fb, i * 11 + 1, none⟩ v') q fb N (qCells c fb N v1 v2 n now) (upd (fun i => (fs i).cells (rv i)) i (({ fs i with ps := r } : Fl).cells v')) (upd rv i v') (upd (fun i => (fs i).ps) i ({ fs i with ps := r } : Fl).ps) v1 v2 l1 l2 := FR.putF (FR.cutP H4.out HI.out ht.1 hown) HI.out 1 (by omega) v'
  have h6 : FQ w (W4.setCell ⟨fb, i * 11 + 1, none⟩ v') q fb N c (upd fs i { fs i with ps := r }) (upd rv i v') v1 v2 l1 l2 n now := by
    unfold FQ
    rw [← cells_upd, ← ps_upd]
    exact h5
  have gf3 : g3 ≠ fb := by
    have h1 := FR.lt HH.out (k := fb) (.inr (.inl rfl))
    have h2 := G3.out
    omega
  have gf2 : g2 ≠ fb := by
    have h1 := FR.lt HH.out (k := fb) (.inr (.inl rfl))
    have h2 := G2.out
    omega
  have k6 := blk_far (p := ⟨fb, i * 11 + 1, none⟩) K4.out gf3 v'
  have k7 := blk_far (p := ⟨fb, i * 11 + 1, none⟩) K5.out gf2 v'
  have k8 : Kept W (W4.setCell ⟨fb, i * 11 + 1, none⟩ v') (fun k => k = fb) := HK4.out.setCell (p := ⟨fb, i * 11 + 1, none⟩) (.inl rfl) v'
  generalize W4.setCell ⟨fb, i * 11 + 1, none⟩ v' = W5 at h6 k6 k7 k8 ⊢
  have H6 := Aside0.mk h6
  have K6 := Aside0.mk k6
  have K7 := Aside0.mk k7
  have K8 := Aside0.mk k8
  have HOW := Aside0.mk hown
  have GF3 := Aside0.mk gf3
  have GF2 := Aside0.mk gf2
  clear h5 h6 k6 k7 k8 ht hr4 hv' hown em gf3 gf2
  have z2 : W5.cell? ⟨fb, i * 11 + 2, none⟩ = some (.int .i64 (fs i).bytes) := (FQ.zf H6.out HI.out 2 (by omega)).1.trans (by rw [upd_at, upd_at]; rfl)
  have f2 : W5.frozen? ⟨fb, i * 11 + 2, none⟩ = false := (FQ.zf H6.out HI.out 2 (by omega)).2
  have y1 : W5.cell? ⟨g3, 1, none⟩ = some (.int .i64 x.f1) := (blk_cell K6.out 1).trans rfl
  go_region
  clear z2 f2 y1
  have h9 : FQ w ((W5.setCell ⟨fb, i * 11 + 2, none⟩ (.int .i64 (wrap64 ((fs i).bytes - x.f1)))).drew) q fb N c (upd fs i ((fs i).cut x r)) (upd rv i v') v1 v2 l1 l2 n now := by
    have h7 := FR.drew (FR.putF H6.out HI.out 2 (by omega) (.int .i64 (wrap64 ((fs i).bytes - x.f1))))
    unfold FQ
    have e1 : (fun k => (upd fs i ((fs i).cut x r) k).cells (upd rv i v' k)) = upd (fun k => (upd fs i { fs i with ps := r } k).cells (upd rv i v' k)) i (((upd fs i { fs i with ps := r } i).cells (upd rv i v' i)).setIfInBounds 2 (.int .i64 (wrap64 ((fs i).bytes - x.f1)))) := by
      rw [upd_at, upd_at, ← cells_upd, ← cells_upd, upd_upd]
      rfl
    have e2 : (fun k => (upd fs i ((fs i).cut x r) k).ps) = fun k => (upd fs i { fs i with ps := r } k).ps := by
      rw [← ps_upd, ← ps_upd]
      rfl
    rw [e1, e2]
    exact h7
  have k9 := blk_drew (blk_far (p := ⟨fb, i * 11 + 2, none⟩) K6.out GF3.out (.int .i64 (wrap64 ((fs i).bytes - x.f1))))
  have k10 := blk_drew (blk_far (p := ⟨fb, i * 11 + 2, none⟩) K7.out GF2.out (.int .i64 (wrap64 ((fs i).bytes - x.f1))))
  have k11 := (K8.out.setCell (p := ⟨fb, i * 11 + 2, none⟩) (.inl rfl) (.int .i64 (wrap64 ((fs i).bytes - x.f1)))).drew
  generalize (W5.setCell ⟨fb, i * 11 + 2, none⟩ (.int .i64 (wrap64 ((fs i).bytes - x.f1)))).drew = W6 at h9 k9 k10 k11 ⊢
  have H9 := Aside0.mk h9
  have K9 := Aside0.mk k9
  have K10 := Aside0.mk k10
  have K11 := Aside0.mk k11
  clear h9 k9 k10 k11
  have y0 : W6.cell? ⟨g3, 0, none⟩ = some (.int .i64 x.f0) := (blk_cell K9.out 0).trans rfl
  have y1 : W6.cell? ⟨g3, 1, none⟩ = some (.int .i64 x.f1) := (blk_cell K9.out 1).trans rfl
  have y2 : W6.cell? ⟨g3, 2, none⟩ = some (.bool x.f2) := (blk_cell K9.out 2).trans rfl
  have y3 : W6.cell? ⟨g3, 3, none⟩ = some (.int .i64 x.f3) := (blk_cell K9.out 3).trans rfl
  have u0 : W6.cell? ⟨g2, 0, none⟩ = some (.int .i64 0) := (blk_cell K10.out 0).trans rfl
  have u1 : W6.cell? ⟨g2, 1, none⟩ = some (.int .i64 0) := (blk_cell K10.out 1).trans rfl
  have u2 : W6.cell? ⟨g2, 2, none⟩ = some (.bool false) := (blk_cell K10.out 2).trans rfl
  have u3 : W6.cell? ⟨g2, 3, none⟩ = some (.int .i64 0) := (blk_cell K10.out 3).trans rfl
  have q0 := blk_frozen K10.out 0
  have q1 := blk_frozen K10.out 1
  have q2 := blk_frozen K10.out 2
  have q3 := blk_frozen K10.out 3
  go_wp2
  have nm2 := NM.out G2.out
  have nm3 : ¬ Mine q fb N (upd rv i v') v1 v2 g2 := fun hm => by
    refine nm2 ?_
    rcases hm with h | h | ⟨j, hj, h⟩ | h | h
    · exact .inl h
    · exact .inr (.inl h)
    · refine .inr (.inr (.inl ⟨j, hj, ?_⟩))
      by_cases cj : j = i
      · subst cj
        rw [upd_at, HOW.out] at h
        exact h
      · rw [upd_ne _ _ cj] at h
        exact h
    · exact .inr (.inr (.inr (.inl h)))
    · exact .inr (.inr (.inr (.inr h)))
  have wg : w.heap.size ≤ g2 := Nat.le_trans (below_size (FR.B HH.out)) G2.out
  refine bodyPost_ret (results_cell_row rfl _ _ g2 41 #[.int .i64 x.f0, .int .i64 x.f1, .bool x.f2, .int .i64 x.f3] (0, 0) _ rfl (blk_set (blk_set (blk_set (blk_set K10.out 0 _) 1 _) 2 _) 3 _) hu41 rfl (by kernel_rfl)) rfl ?_
  exact ⟨rfl, ⟨v', FR.far (FR.far (FR.far (FR.far H9.out wg nm3 0 _) wg nm3 1 _) wg nm3 2 _) wg nm3 3 _, HOW.out⟩, (((K11.out.setCell (p := ⟨g2, 0, none⟩) (.inr G2.out) _).setCell (p := ⟨g2, 1, none⟩) (.inr G2.out) _).setCell (p := ⟨g2, 2, none⟩) (.inr G2.out) _).setCell (p := ⟨g2, 3, none⟩) (.inr G2.out) _⟩
end Go.Proofs.Ytepolgapbbaklaa.Q
