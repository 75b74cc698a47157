/- routes: the walks of the page's example and of the law RoutesLongest. No condition. -/
import Derived.Test.YtpjelffgakgjaaaRoutesT
namespace Go.Proofs.Ytpjelffgakgjaaa.Q
set_option linter.unusedVariables false
set_option linter.unusedSimpArgs false
open Go.RowKit Go.Maps Go.Proofs.YtpjelffgakgjaaaW.PrintWords Go.Proofs.YtpjelffgakgjaaaW.PrintLast Go.Proofs.YtpjelffgakgjaaaW.PrintMore Go.Proofs.YtpjelffgakgjaaaW.MapIs
def L1 : List ((Int × Int) × Int) := [((167772160, 8), 0)]
def L2 : List ((Int × Int) × Int) := [((167772160, 8), 0), ((0, 0), 167772169)]
theorem alive_1 : addR [] 167772160 8 0 (mk 8) = (L1, 0) := by decide +kernel
theorem alive_2 : addR L1 0 0 167772169 (mk 0) = (L2, 0) := by decide +kernel
theorem alive_3 : nextR L2 167838211 33 = (167838211, 0) := by decide +kernel
theorem alive_4 : nextR L2 134744072 33 = (167772169, 0) := by decide +kernel
theorem num_in (x : Int) (W : World) : Calls Try.prog 8 #[.int .i64 x] W fun e W' => e = .returned (.int .i64 x) ∧ Drawn0 W W' := stopcocklaw10_num.calls x x W rfl
set_option maxHeartbeats 8000000 in
set_option maxRecDepth 100000 in
theorem alive_in (W : World) : Calls Try.prog 6 #[] W fun e W' => e = .returned (.bool true) ∧ Below W.heap.size W W' := by
  have hu31 := Try.underlying31
  have hu65 := Try.underlying65
  go_enter Try.func6, Try.ntmps6
  go_wp2_with (first
    | (go_at_call 7; (with_reducible refine Calls.mono (NewTable_in W) ?_); rintro e w1 ⟨g, b, rfl, h1⟩; have HT1 := Aside0.mk h1; clear h1)
    | (go_at_call 9; (with_reducible refine Calls.mono (Add_in HT1.out 167772160 8 0 (mk 8) (by omega) (by omega) (by omega) (by omega) (mask_is 8 (by omega) (by omega))) ?_); rw [alive_1]; rintro e w2 ⟨rfl, h2⟩; have HT2 := Aside0.mk h2; clear h2)
    | (go_at_call 9; (with_reducible refine Calls.mono (Add_in HT2.out 0 0 167772169 (mk 0) (by omega) (by omega) (by omega) (by omega) (mask_is 0 (by omega) (by omega))) ?_); rw [alive_2]; rintro e w3 ⟨rfl, h2⟩; have HT3 := Aside0.mk h2; clear h2)
    | (go_at_call 10; (with_reducible refine Calls.mono (Next_in HT3.out 167838211 (by omega) (by omega)) ?_); rw [alive_3]; rintro e w4 ⟨rfl, b4⟩; have HT4 := Aside0.mk (HT3.out.step b4); clear b4)
    | (go_at_call 10; (with_reducible refine Calls.mono (Next_in HT4.out 134744072 (by omega) (by omega)) ?_); rw [alive_4]; rintro e w5 ⟨rfl, b4⟩; have HT5 := Aside0.mk (HT4.out.step b4); clear b4)
    | (go_at_call 8; (with_reducible refine Calls.mono (num_in _ _) ?_); rintro e w6 ⟨rfl, hdr⟩; first | (have HT6 := Aside0.mk (HT5.out.step hdr.below); clear hdr HT5; have HT5 := HT6; clear HT6) | (have HT6 := Aside0.mk (HT3.out.step hdr.below); clear hdr HT3; have HT3 := HT6; clear HT6) | (have HT6 := Aside0.mk (HT2.out.step hdr.below); clear hdr HT2; have HT2 := HT6; clear HT6)))
  go_ret
  exact ⟨rfl, HT5.out.B⟩
structure LSt where
  L : List ((Int × Int) × Int)
  best : Int
  way : Int
  any : Bool
def m64 (bt : Int) : Int := IntKind.u64.wrap (4294967296 - IntKind.u64.wrap (2 ^ (32 - bt).toNat))
def longStep (ip : Int) (s : LSt) (x : S32) : LSt :=
  if x.f1 < 0 ∨ 32 < x.f1 then s
  else if (addR s.L x.f0 x.f1 x.f2 (mk x.f1)).2 ≠ 0 then s
  else if bits .and .u64 ip (m64 x.f1) = x.f0 ∧ s.best < x.f1 then ⟨(addR s.L x.f0 x.f1 x.f2 (mk x.f1)).1, x.f1, if x.f2 = 0 then ip else x.f2, true⟩
  else { s with L := (addR s.L x.f0 x.f1 x.f2 (mk x.f1)).1 }
def longEnd (l : List S32) (ip : Int) : LSt := l.foldl (longStep ip) ⟨[], -1, 0, false⟩
def longOk (l : List S32) (ip : Int) : Prop :=
  (0 ≤ ip ∧ ip < 4294967296) ∧ (∀ x ∈ l, (0 ≤ x.f0 ∧ x.f0 < 4294967296)) ∧
  ((longEnd l ip).any = false → nextR (longEnd l ip).L ip 33 = (0, 101)) ∧ ((longEnd l ip).any = true → nextR (longEnd l ip).L ip 33 = ((longEnd l ip).way, 0))
instance (l : List S32) (ip : Int) : Decidable (longOk l ip) := by unfold longOk; infer_instance
theorem addR_err {L : List ((Int × Int) × Int)} {n bt gw m : Int} (h : (addR L n bt gw m).2 ≠ 0) : (addR L n bt gw m).1 = L := by
  unfold addR at h ⊢
  split at h
  · rename_i c; rw [if_pos c]
  · rename_i c
    rw [if_neg c]
    split at h
    · rename_i c2; rw [if_pos c2]
    · rename_i c2
      rw [if_neg c2]
      split at h
      · rename_i c3; rw [if_pos c3]
      · exact absurd rfl h
set_option maxHeartbeats 8000000 in
set_option maxRecDepth 100000 in
theorem long_in (A0 : Option Addr) (c0 : Nat) (l : List S32) (ip : Int) (w : World) (hr : Kd.C k32 w A0 l.length l) (hc : l.length ≤ c0) (hok : longOk l ip) :
    Calls Try.prog 3 #[.slice A0 l.length c0, .int .u32 ip] w fun e w' => e = .returned (.bool true) ∧ Below w.heap.size w w' := by
  have hu31 := Try.underlying31
  have hu32 := Try.underlying32
  have hu65 := Try.underlying65
  obtain ⟨E, hE⟩ : ∃ E, longEnd l ip = E := ⟨_, rfl⟩
  unfold longOk at hok
  rw [hE] at hok
  have HE := Aside0.mk hE
  have HOK := Aside0.mk hok
  have HC := Aside0.mk hc
  have HR := Aside0.mk hr
  clear hok hE hc hr
  go_enter Try.func3, Try.ntmps3
  go_wp2_with (first
    | (go_at_call 6; (with_reducible refine Calls.mono (alive_in w) ?_); rintro e w1 ⟨rfl, b1⟩; have HB1 := Aside0.mk b1; clear b1)
    | (go_at_call 7; (with_reducible refine Calls.mono (NewTable_in w1) ?_); rintro e w2 ⟨g, b, rfl, h1⟩; have HT := Aside0.mk h1; clear h1))
  go_loopg [6, 7, 8, 9] l.length (fun kq v6 v7 v8 v9 w' => ∃ (j : Nat) (s : LSt), v6 = .int .i64 s.best ∧ v7 = .int .u32 s.way ∧ v8 = .bool s.any ∧ v9 = .int .i64 j ∧ Aside0 (j + kq = l.length) ∧ Aside0 ((l.drop j).foldl (longStep ip) s = E) ∧ Aside0 (TB w1 w' g b s.L))
  case atStart => exact ⟨0, ⟨[], -1, 0, false⟩, rfl, rfl, rfl, rfl, ⟨by omega⟩, ⟨by rw [List.drop_zero]; exact HE.out⟩, HT⟩
  case round =>
    clear HT HE
    obtain ⟨j, s, rfl, rfl, rfl, rfl, HJ, HE, HT⟩ := hrel
    cases gk with
    | zero =>
      have ej : j = l.length := by have := HJ.out; omega
      subst ej
      have he := HE.out
      rw [List.drop_length, List.foldl_nil] at he
      have lt1 : decide ((l.length : Int) < (l.length : Int)) = false := by simp
      have ok := HOK.out
      rw [← he] at ok
      have OK2 := Aside0.mk ok
      have hnx := Next_in HT.out ip ok.1.1 ok.1.2
      clear he ok HJ HE HOK
      cases hany : s.any with
      | true =>
        rw [OK2.out.2.2.2 hany] at hnx
        have HN := Aside0.mk hnx
        clear hnx hany
        go_wp2_with (first
          | (go_at_call 10; (with_reducible refine Calls.mono HN.out ?_); rintro e w3 ⟨rfl, h3⟩; have HT3 := Aside0.mk (HT.out.step h3); clear h3)
          | (go_at_call 8; (with_reducible refine Calls.mono (num_in _ _) ?_); rintro e w6 ⟨rfl, hdr⟩; have HT4 := Aside0.mk (HT3.out.step hdr.below); clear hdr))
        go_ret
        exact ⟨rfl, below_step HB1.out HT4.out.B⟩
      | false =>
        rw [OK2.out.2.2.1 hany] at hnx
        have HN := Aside0.mk hnx
        clear hnx hany
        go_wp2_with (first
          | (go_at_call 10; (with_reducible refine Calls.mono HN.out ?_); rintro e w3 ⟨rfl, h3⟩; have HT3 := Aside0.mk (HT.out.step h3); clear h3)
          | (go_at_call 8; (with_reducible refine Calls.mono (num_in _ _) ?_); rintro e w6 ⟨rfl, hdr⟩; have HT4 := Aside0.mk (HT3.out.step hdr.below); clear hdr))
        go_ret
        exact ⟨rfl, below_step HB1.out HT4.out.B⟩
    | succ k1 =>
      have hmx := Kd.C_max HR.out
      have hj : j < l.length := by have := HJ.out; omega
      have ed : l.drop j = l[j] :: l.drop (j + 1) := List.drop_eq_getElem_cons hj
      have he := HE.out
      rw [ed] at he
      have hrange := HOK.out.2.1 l[j] (List.getElem_mem hj)
      obtain ⟨x, hx⟩ : ∃ x, l[j] = x := ⟨_, rfl⟩
      rw [hx] at he hrange
      rw [List.foldl_cons] at he
      have hcr := Kd.C_below HR.out (HB1.out)
      obtain ⟨ad, eA, x0, x1, x2⟩ := at_T32 hcr (j : Int) (by omega) (by omega)
      have er : rd_T32 l (j : Int) = x := by rw [← hx]; unfold rd_T32; simp [List.getD_eq_getElem?_getD, hj]
      rw [er] at x0 x1 x2
      subst eA
      have xw : ∀ W : World, Below w1.heap.size w1 W → W.cell? (ad.add (j * 3)) = some (.int .u32 x.f0) ∧ W.cell? ⟨(ad.add (j * 3)).block, (ad.add (j * 3)).off + 1, none⟩ = some (.int .i64 x.f1) ∧ W.cell? ⟨(ad.add (j * 3)).block, (ad.add (j * 3)).off + 2, none⟩ = some (.int .u32 x.f2) := fun W hB =>
        ⟨(hB.cell (World.block_lt_of_cell? w1 _ x0)).trans x0, (hB.cell (World.block_lt_of_cell? w1 _ x1)).trans x1, (hB.cell (World.block_lt_of_cell? w1 _ x2)).trans x2⟩
      have XW := Aside0.mk xw
      clear x0 x1 x2 xw
      obtain ⟨x0, x1, x2⟩ := XW.out wr HT.out.B
      have lt1 : decide ((j : Int) < (l.length : Int)) = true := decide_eq_true (by omega)
      have i0 : (0 : Int) ≤ (j : Int) := by omega
      have i1 : (j : Int) < (l.length : Int) := by omega
      have i2 : (j : Int) + 1 ≤ 9223372036854775807 := by omega
      have I2 := Aside0.mk i2
      clear i2
      obtain ⟨r0, r1⟩ := hrange
      have HE2 := Aside0.mk he
      have HJ2 := Aside0.mk hj
      clear hj ed he hx er hcr HE hmx
      by_cases cb : x.f1 < 0 ∨ 32 < x.f1
      · have hadd := Add_range HT.out x.f0 x.f1 x.f2 cb
        have HA := Aside0.mk hadd
        have he := HE2.out
        rw [show longStep ip s x = s by unfold longStep; rw [if_pos cb]] at he
        have HE3 := Aside0.mk he
        clear hadd he HE2 cb
        go_wp2_with (first
          | (go_at_call 9; (with_reducible refine Calls.mono HA.out ?_); rintro e w3 ⟨rfl, h3⟩; have HT3 := Aside0.mk h3; clear h3)
          | (go_at_call 8; (with_reducible refine Calls.mono (num_in _ _) ?_); rintro e w6 ⟨rfl, hdr⟩; have HT4 := Aside0.mk (HT3.out.step hdr.below); clear hdr x0 x1 x2; obtain ⟨x0, x1, x2⟩ := XW.out w6 HT4.out.B))
        go_roundg k1
        case measure => omega
        case rel => exact ⟨j + 1, s, rfl, rfl, rfl, (by have := I2.out; show Value.int .i64 (wrap64 ((j : Int) + 1)) = .int .i64 ((j + 1 : Nat) : Int); congr 1; unfold wrap64; omega), ⟨by have := HJ.out; omega⟩, HE3, ⟨HT4.out⟩⟩
      · have b0 : 0 ≤ x.f1 := by omega
        have b1' : x.f1 ≤ 32 := by omega
        have CB := Aside0.mk cb
        have hadd := Add_in HT.out x.f0 x.f1 x.f2 (mk x.f1) r0 r1 b0 b1' (mask_is x.f1 b0 b1')
        obtain ⟨pa, hpa⟩ : ∃ p, addR s.L x.f0 x.f1 x.f2 (mk x.f1) = p := ⟨_, rfl⟩
        rw [hpa] at hadd
        have HA := Aside0.mk hadd
        have HPA := Aside0.mk hpa
        clear cb hadd hpa
        by_cases c1 : pa.2 = 0
        · have d1 : (pa.2 != 0) = false := by rw [c1]; rfl
          have C1 := Aside0.mk c1
          clear c1
          go_upto_region 12 with (first
            | (go_at_call 9; (with_reducible refine Calls.mono HA.out ?_); rintro e w3 ⟨rfl, h3⟩; have HT3 := Aside0.mk h3; clear h3)
            | (go_at_call 8; (with_reducible refine Calls.mono (num_in _ _) ?_); rintro e w6 ⟨rfl, hdr⟩; have HT4 := Aside0.mk (HT3.out.step hdr.below); clear hdr x0 x1 x2; obtain ⟨x0, x1, x2⟩ := XW.out w6 HT4.out.B))
          have ip0 := HOK.out.1.1
          have ip1 := HOK.out.1.2
          obtain ⟨M, hM⟩ : ∃ M, m64 x.f1 = M := ⟨_, rfl⟩
          rw [show IntKind.u64.wrap (4294967296 - IntKind.u64.wrap (2 ^ (32 - x.f1).toNat)) = M from hM]
          have HM := Aside0.mk hM
          clear hM
          by_cases e1 : bits .and .u64 ip M = x.f0
          · have f1 : (bits .and .u64 ip M == x.f0) = true := beq_iff_eq.2 e1
            by_cases e2 : s.best < x.f1
            · have f2 : decide (s.best < x.f1) = true := decide_eq_true e2
              by_cases e3 : x.f2 = 0
              · have f3 : (x.f2 == 0) = true := beq_iff_eq.2 e3
                have he := HE2.out
                rw [show longStep ip s x = ⟨pa.1, x.f1, ip, true⟩ by unfold longStep; rw [HM.out]; rw [if_neg CB.out, HPA.out, if_neg (by rw [C1.out]; simp), if_pos ⟨e1, e2⟩, if_pos e3]] at he
                have HE3 := Aside0.mk he
                clear he HE2 e1 e2 e3
                go_wp2
                go_roundg k1
                case measure => omega
                case rel => exact ⟨j + 1, ⟨pa.1, x.f1, ip, true⟩, rfl, rfl, rfl, (by have := I2.out; show Value.int .i64 (wrap64 ((j : Int) + 1)) = .int .i64 ((j + 1 : Nat) : Int); congr 1; unfold wrap64; omega), ⟨by have := HJ.out; omega⟩, HE3, ⟨HT4.out⟩⟩
              · have f3 : (x.f2 == 0) = false := beq_eq_false_iff_ne.2 e3
                have he := HE2.out
                rw [show longStep ip s x = ⟨pa.1, x.f1, x.f2, true⟩ by unfold longStep; rw [HM.out]; rw [if_neg CB.out, HPA.out, if_neg (by rw [C1.out]; simp), if_pos ⟨e1, e2⟩, if_neg e3]] at he
                have HE3 := Aside0.mk he
                clear he HE2 e1 e2 e3
                go_wp2
                go_roundg k1
                case measure => omega
                case rel => exact ⟨j + 1, ⟨pa.1, x.f1, x.f2, true⟩, rfl, rfl, rfl, (by have := I2.out; show Value.int .i64 (wrap64 ((j : Int) + 1)) = .int .i64 ((j + 1 : Nat) : Int); congr 1; unfold wrap64; omega), ⟨by have := HJ.out; omega⟩, HE3, ⟨HT4.out⟩⟩
            · have f2 : decide (s.best < x.f1) = false := decide_eq_false e2
              have he := HE2.out
              rw [show longStep ip s x = ⟨pa.1, s.best, s.way, s.any⟩ by unfold longStep; rw [HM.out]; rw [if_neg CB.out, HPA.out, if_neg (by rw [C1.out]; simp), if_neg (fun h_ => e2 h_.2)]] at he
              have HE3 := Aside0.mk he
              clear he HE2 e1 e2
              go_wp2
              go_roundg k1
              case measure => omega
              case rel => exact ⟨j + 1, ⟨pa.1, s.best, s.way, s.any⟩, rfl, rfl, rfl, (by have := I2.out; show Value.int .i64 (wrap64 ((j : Int) + 1)) = .int .i64 ((j + 1 : Nat) : Int); congr 1; unfold wrap64; omega), ⟨by have := HJ.out; omega⟩, HE3, ⟨HT4.out⟩⟩
          · have f1 : (bits .and .u64 ip M == x.f0) = false := beq_eq_false_iff_ne.2 e1
            have he := HE2.out
            rw [show longStep ip s x = ⟨pa.1, s.best, s.way, s.any⟩ by unfold longStep; rw [HM.out]; rw [if_neg CB.out, HPA.out, if_neg (by rw [C1.out]; simp), if_neg (fun h_ => e1 h_.1)]] at he
            have HE3 := Aside0.mk he
            clear he HE2 e1
            go_wp2
            go_roundg k1
            case measure => omega
            case rel => exact ⟨j + 1, ⟨pa.1, s.best, s.way, s.any⟩, rfl, rfl, rfl, (by have := I2.out; show Value.int .i64 (wrap64 ((j : Int) + 1)) = .int .i64 ((j + 1 : Nat) : Int); congr 1; unfold wrap64; omega), ⟨by have := HJ.out; omega⟩, HE3, ⟨HT4.out⟩⟩
        · have d1 : (pa.2 != 0) = true := by simpa using c1
          have he := HE2.out
          rw [show longStep ip s x = s by unfold longStep; rw [if_neg CB.out, HPA.out, if_pos c1]] at he
          have HE3 := Aside0.mk he
          have HL := Aside0.mk (show pa.1 = s.L by have := addR_err (L := s.L) (n := x.f0) (bt := x.f1) (gw := x.f2) (m := mk x.f1) (by rw [HPA.out]; exact c1); rw [HPA.out] at this; exact this)
          clear he HE2 c1
          go_wp2_with (first
            | (go_at_call 9; (with_reducible refine Calls.mono HA.out ?_); rintro e w3 ⟨rfl, h3⟩; have HT3 := Aside0.mk h3; clear h3)
            | (go_at_call 8; (with_reducible refine Calls.mono (num_in _ _) ?_); rintro e w6 ⟨rfl, hdr⟩; have HT4 := Aside0.mk (HT3.out.step hdr.below); clear hdr x0 x1 x2; obtain ⟨x0, x1, x2⟩ := XW.out w6 HT4.out.B))
          go_roundg k1
          case measure => omega
          case rel => exact ⟨j + 1, s, rfl, rfl, rfl, (by have := I2.out; show Value.int .i64 (wrap64 ((j : Int) + 1)) = .int .i64 ((j + 1 : Nat) : Int); congr 1; unfold wrap64; omega), ⟨by have := HJ.out; omega⟩, HE3, ⟨by have := HT4.out; rw [HL.out] at this; exact this⟩⟩
end Go.Proofs.Ytpjelffgakgjaaa.Q
