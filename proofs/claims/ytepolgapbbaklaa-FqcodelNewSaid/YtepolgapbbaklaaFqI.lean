/- fqcodel: a calm queue of queues, call by call; the page's example walked. No condition. -/
import Derived.Test.YtepolgapbbaklaaFqH
namespace Go.Proofs.Ytepolgapbbaklaa.Q
set_option linter.unusedVariables false
set_option linter.unusedSimpArgs false
open Go.RowKit Go.Proofs.YtepolgapbbaklaaW.PrintWords Go.Proofs.YtepolgapbbaklaaW.PrintLast Go.Proofs.YtepolgapbbaklaaW.PrintMore
/-- The queue, wherever its rows lie. -/
def Live (w W : World) (q N : Nat) (c : Cfg) (s : ST) (now : Int) : Prop := ∃ fb rv v1 v2, FQ w W q fb N c s.fs rv v1 v2 s.l1 s.l2 s.n now
section
variable {w W W' : World} {q N : Nat} {c : Cfg} {s : ST} {now : Int}
theorem Live.below (h : Live w W q N c s now) : Below w.heap.size w W := by
  obtain ⟨fb, rv, v1, v2, h⟩ := h
  exact FR.B h
theorem Live.step (h : Live w W q N c s now) (hb : Below W.heap.size W W') : Live w W' q N c s now := by
  obtain ⟨fb, rv, v1, v2, h⟩ := h
  exact ⟨fb, rv, v1, v2, FQ.step h hb⟩
theorem Live.drew0 (h : Live w W q N c s now) (hb : Drawn0 W W') : Live w W' q N c s now := h.step hb.below
def ST.enq (s : ST) (c : Cfg) (i : Nat) (p : PK) : ST := ⟨enqFs c s.fs i p, wakeL (s.fs i) s.l1 i, s.l2, s.n + 1⟩
def ST.of (R : DRes) : ST := ⟨R.1, R.2.1, R.2.2.1, R.2.2.2.1⟩
theorem Enq_live (h : Live w W q N c s now) {i : Nat} (hi : i < N) (hM : N ≤ 1024) {p : PK} (hp : POk p now) (hps : (s.fs i).ps.length ≤ 70000) (hl1 : s.l1.length ≤ 65536) (hn : 0 ≤ s.n ∧ s.n ≤ 70000) (hx : s.n + 1 ≤ c.limit) :
    Calls Try.prog 12 #[.pointer (some ⟨q, 0, none⟩), .int .i64 (i : Int), pkV p] W fun e W' => e = .returned (.tuple #[.slice none 0 0, .int .i64 0]) ∧ Live w W' q N c (s.enq c i p) p.f0 := by
  obtain ⟨fb, rv, v1, v2, h⟩ := h
  refine (Enq_ok h hi hM hp hps hl1 hn (fun x => absurd hx x)).mono ?_
  intro e w' he
  obtain ⟨he, rv', v1', hq, _⟩ := he.room hx
  exact ⟨he, fb, rv', v1', v2, hq⟩
theorem Deq_live (h : Live w W q N c s now) (hM : N ≤ 1024) {now' : Int} (h0 : now ≤ now') (h1 : now' ≤ 1099511627776) (hn : 0 ≤ s.n ∧ s.n ≤ 70000) (ok : QOk c now' N s.fs s.l1 s.l2) (k : Nat) (R : DRes) (hR : deqGo c k s.fs s.l1 s.l2 s.n = some R) :
    Calls Try.prog 13 #[.pointer (some ⟨q, 0, none⟩), .int .i64 now'] W fun e W' => e = .returned (.tuple #[resV R.1 R.2.2.2.2, .int .i64 0]) ∧ Live w W' q N c (ST.of R) now' := by
  obtain ⟨fb, rv, v1, v2, h⟩ := h
  refine (Deq_in h hM h0 h1 hn ok k R hR).mono ?_
  rintro e w' ⟨he, rv', v1', v2', hq, _⟩
  exact ⟨he, fb, rv', v1', v2', hq⟩
theorem Len_live (h : Live w W q N c s now) :
    Calls Try.prog 15 #[.pointer (some ⟨q, 0, none⟩)] W fun e W' => e = .returned (.int .i64 s.n) ∧ W = W' := by
  obtain ⟨fb, rv, v1, v2, h⟩ := h
  exact Len_in h
theorem Flow_live (h : Live w W q N c s now) {i : Nat} (hi : i < N) (hl : (s.fs i).ps.length ≤ 70000) :
    Calls Try.prog 17 #[.pointer (some ⟨q, 0, none⟩), .int .i64 (i : Int)] W fun e W' => ∃ v, e = .returned (.tuple #[v, .int .i64 (s.fs i).deficit, .int .i64 (s.fs i).on]) ∧ Kd.R kP 41 W' W.heap.size (fun _ => True) v (s.fs i).ps ∧ Below W.heap.size W W' := by
  obtain ⟨fb, rv, v1, v2, h⟩ := h
  exact Flow_in h hi hl
theorem New_live (W : World) (N : Nat) (limit quantum : Int) (hN : 1 ≤ N) (hM : N ≤ 1024) (h1 : 1 ≤ limit) (h2 : limit ≤ 65536) (h3 : 1 ≤ quantum) (h4 : quantum ≤ 65535) :
    Calls Try.prog 9 #[.agg #[.int .i64 (N : Int), .int .i64 limit, .int .i64 quantum, .int .i64 1073741824, .int .i64 1073741824, .int .i64 1500]] W fun e W' => ∃ q, e = .returned (.tuple #[.pointer (some ⟨q, 0, none⟩), .int .i64 0]) ∧ Live W W' q N (calmC N limit quantum) ⟨newFs N, [], [], 0⟩ 0 := by
  refine (New_in W N (calmC N limit quantum) rfl hN hM 10 ?_).mono ?_
  · have e : codel_Check.f 10 1073741824 1073741824 1500 = some 0 := by decide +kernel
    show fqcodel_Check.f 10 (N : Int) limit quantum 1073741824 1073741824 1500 = some 0
    unfold fqcodel_Check.f
    rw [if_neg (by omega), if_neg (by omega), if_neg (show ¬ limit < 1 by omega), if_neg (show ¬ limit > 65536 by omega), if_neg (show ¬ quantum < 1 by omega), if_neg (show ¬ quantum > 65535 by omega)]
    rw [e]
    rfl
  · rintro e w' ⟨q, fb, rfl, h⟩
    exact ⟨q, rfl, fb, _, _, _, h⟩
end
theorem num_in (x : Int) (W : World) : Calls Try.prog 11 #[.int .i64 x] W fun e W' => e = .returned (.int .i64 x) ∧ Drawn0 W W' := stopcocklaw13_num.calls x x W rfl
theorem aE_enq (j : Nat) : (aE j).enq (calmC 2 10 1000) (j / 2) (pkJ 1000 j) = aE (j + 1) := rfl
theorem aE_all {j : Nat} (hj : j ≤ 4) : QOk (calmC 2 10 1000) 0 2 (aE j).fs (aE j).l1 (aE j).l2 ∧ (∀ i, i < 2 → ((aE j).fs i).ps.length ≤ 70000) ∧ (aE j).n = (j : Int) :=
  have h := aE_ok ⟨j, by omega⟩
  have h2 := ok_of (flows := 2) (limit := 10) (quantum := 1000) h.1
  ⟨h2.1, h2.2.1, h.2⟩
theorem aD_all {j : Nat} (hj : j ≤ 4) : QOk (calmC 2 10 1000) 0 2 (aSt j).fs (aSt j).l1 (aSt j).l2 ∧ (aSt j).n = 4 - (j : Int) :=
  have h := aD_ok ⟨j, by omega⟩
  have h2 := ok_of (flows := 2) (limit := 10) (quantum := 1000) h.1
  ⟨h2.1, h.2⟩
set_option maxHeartbeats 8000000 in
set_option maxRecDepth 100000 in
theorem alive_in (W : World) : Calls Try.prog 8 #[] W fun e W' => e = .returned (.bool true) ∧ Below W.heap.size W W' := by
  have hu47 := Try.underlying47
  have hu41 := Try.underlying41
  go_enter Try.func8, Try.ntmps8
  go_wp2_with (first
    | (go_at_call 16; (with_reducible refine Calls.mono (stopcocklaw13_calm.calls 2 10 1000 2 10 1000 1073741824 1073741824 1500 W rfl) ?_); rintro e w1 ⟨rfl, hdr⟩; have B1 := Aside0.mk hdr; clear hdr)
    | (go_at_call 9; (with_reducible refine Calls.mono (New_live _ 2 10 1000 (by omega) (by omega) (by omega) (by omega) (by omega) (by omega)) ?_); rintro e w2 ⟨q, rfl, h2⟩; have HT := Aside0.mk h2; clear h2)
    | (go_at_call 11; (with_reducible refine Calls.mono (num_in _ _) ?_); rintro e w6 ⟨rfl, hdr⟩; have HT6 := Aside0.mk (HT.out.drew0 hdr); clear hdr HT; have HT := HT6; clear HT6))
  go_loopw [3] (fun v3 wr => ∃ j : Nat, j ≤ 4 ∧ v3 = .int .i64 (j : Int) ∧ Aside0 (Live w1 wr q 2 (calmC 2 10 1000) (aE j) 0)) (fun v3 _ => 4 - (intOf v3).toNat)
  case atStart => exact ⟨0, Nat.zero_le _, rfl, HT⟩
  case round =>
    clear HT
    obtain ⟨j, hj, rfl, HT⟩ := hrel
    by_cases hlt : j < 4
    · have i1 : (j : Int) < 4 := by omega
      have hcall := Enq_live HT.out (i := j / 2) (by omega) (by omega) (p := pkJ 1000 j) ⟨by simp [pkJ], by simp [pkJ], by simp [pkJ], by simp [pkJ]⟩ ((aE_all hj).2.1 _ (by omega)) (by have := (aE_all hj).1.len; omega) (by rw [(aE_all hj).2.2]; omega) (by rw [(aE_all hj).2.2]; simp [calmC]; omega)
      rw [aE_enq, show ((j / 2 : Nat) : Int) = (j : Int) / 2 by omega] at hcall
      simp only [pkV, pkJ] at hcall
      have HCL := Aside0.mk hcall
      clear hcall
      have hw : IntKind.i64.wrap ((j : Int) + 1) = (j : Int) + 1 := by
        rw [i64_w]
        unfold wrap64
        omega
      go_wp2_with (first
        | (go_at_call 12; (with_reducible refine Calls.mono HCL.out ?_); rintro e w3 ⟨rfl, h3⟩; clear HT; have HT := Aside0.mk h3; clear h3)
        | (go_at_call 11; (with_reducible refine Calls.mono (num_in _ _) ?_); rintro e w6 ⟨rfl, hdr⟩; have HT6 := Aside0.mk (HT.out.drew0 hdr); clear hdr HT; have HT := HT6; clear HT6))
      go_roundw
      case rel => exact ⟨j + 1, by omega, by go_num, HT⟩
      case measure => simp [intOf]; omega
    · have e : j = 4 := by omega
      have i1 : ¬ (j : Int) < 4 := by omega
      have HT4 : Aside0 (Live w1 wr q 2 (calmC 2 10 1000) (aSt 0) 0) := ⟨by rw [e] at HT; exact HT.out⟩
      clear HT hlt hj e
      have HT := HT4
      clear HT4
      go_wp2
      go_loopw [6] (fun v6 wr => ∃ j : Nat, j ≤ 4 ∧ v6 = .int .i64 (j : Int) ∧ Aside0 (Live w1 wr q 2 (calmC 2 10 1000) (aSt j) 0)) (fun v6 _ => 4 - (intOf v6).toNat)
      case atStart => exact ⟨0, Nat.zero_le _, rfl, HT⟩
      case round =>
        clear HT
        obtain ⟨j, hj, rfl, HT⟩ := hrel
        by_cases hlt : j < 4
        · have i1 : (j : Int) < 4 := by omega
          have ok := aD_all hj
          have hcall := Deq_live HT.out (by omega) (now' := 0) (by omega) (by omega) (by rw [ok.2]; omega) ok.1 10 (aD (j + 1)) (aD_step hlt)
          have hnx := aD_next ⟨j, hlt⟩
          obtain ⟨⟨i, x⟩, hr, hix⟩ := Option.map_eq_some_iff.1 hnx.2.1
          have hid := hnx.2.2
          simp only at hix hid hr
          subst hix
          rw [hr] at hcall
          simp only [resV, hid, ST.of] at hcall
          have HCL := Aside0.mk hcall
          clear hcall hnx ok hr hid
          have hw : IntKind.i64.wrap ((j : Int) + 1) = (j : Int) + 1 := by
            rw [i64_w]
            unfold wrap64
            omega
          go_wp2_with (first
            | (go_at_call 13; (with_reducible refine Calls.mono HCL.out ?_); rintro e w3 ⟨rfl, h3⟩; clear HT; have HT := Aside0.mk h3; clear h3)
            | (go_at_call 11; (with_reducible refine Calls.mono (num_in _ _) ?_); rintro e w6 ⟨rfl, hdr⟩; have HT6 := Aside0.mk ((HT.out.step (below_alloc (Below.refl _ _) _)).drew0 hdr); have k6 := blk_below (heap_alloc_new w3 _) hdr.below; have y0 : w6.cell? ⟨w3.heap.size, 0, none⟩ = some (.bool true) := (blk_cell k6 0).trans rfl; have y1 : w6.cell? ⟨w3.heap.size, 1, none⟩ = some (.int .i64 ((j : Int) % 2)) := (blk_cell k6 1).trans rfl; clear hdr HT; have HT := HT6; clear HT6))
          go_roundw
          case rel => exact ⟨j + 1, by omega, by go_num, HT⟩
          case measure => simp [intOf]; omega
        · have e : j = 4 := by omega
          have i2 : ¬ (j : Int) < 4 := by omega
          have hn := (aD_all hj).2
          rw [e] at hn
          have hl := Len_live HT.out
          rw [e, hn] at hl
          have HL := Aside0.mk hl
          clear hl hn hlt hj
          go_wp2_with (go_at_call 15; (with_reducible refine Calls.mono HL.out ?_); rintro e w7 ⟨rfl, rfl⟩)
          go_ret
          exact ⟨rfl, below_step B1.out HT.out.below⟩
end Go.Proofs.Ytepolgapbbaklaa.Q
