/- ScoreboardTells: what its walk wants, as one test. No condition. -/
import Derived.Test.YtfaoeljggfdhmaaTells
namespace Go.Proofs.Ytfaoeljggfdhmaa.Q
open Go.RowKit Go.Proofs.YtfaoeljggfdhmaaW.PrintWords Go.Proofs.YtfaoeljggfdhmaaW.PrintLast Go.Proofs.YtfaoeljggfdhmaaW.PrintMore
instance decS35 : DecidableEq S35 := fun x y => decidable_of_iff (x.f0 = y.f0 ∧ x.f1 = y.f1) ⟨fun h => by
  obtain ⟨x0, x1⟩ := x
  obtain ⟨y0, y1⟩ := y
  obtain ⟨h0, h1⟩ := h
  simp only at h0 h1
  rw [h0, h1], fun h => by rw [h]; exact ⟨rfl, rfl⟩⟩
/-- Two answers, there and one. -/
def alike {α : Type} [DecidableEq α] (x y : Option α) : Bool := x.isSome && decide (y = x)
theorem alike_gives {α : Type} [DecidableEq α] {x y : Option α} (h : alike x y = true) : ∃ v, x = some v ∧ y = some v := by
  unfold alike at h
  rw [Bool.and_eq_true] at h
  obtain ⟨v, hv⟩ := Option.isSome_iff_exists.1 h.1
  exact ⟨v, hv, (of_decide_eq_true h.2).trans hv⟩
theorem alike_of {α : Type} [DecidableEq α] {x y : Option α} (v : α) (hx : x = some v) (hy : y = some v) : alike x y = true := by
  subst hx
  subst hy
  simp [alike]
/-- The state that follows is like itself. -/
def selfOk (k : Nat) (x : Option (Int × Int × Int × List S35 × Int)) : Bool := decide ((x.bind fun r => stopcocklaw17_same.f k r.1 r.2.1 r.2.2.1 r.2.2.2.1 r.1 r.2.1 r.2.2.1 r.2.2.2.1) = some true)
theorem self_gives {k : Nat} {x : Option (Int × Int × Int × List S35 × Int)} {u0 u1 u2 : Int} {ul : List S35} {e : Int} (h : selfOk k x = true) (hx : x = some (u0, u1, u2, ul, e)) : stopcocklaw17_same.f k u0 u1 u2 ul u0 u1 u2 ul = some true := by
  subst hx
  exact of_decide_eq_true h
def tellsB (k : Nat) (a0 a1 a2 : Int) (l3 : List S35) (mss seq n : Int) (resc : Bool) : Bool :=
  decide (stopcocklaw17_given.f a0 a1 a2 l3 = some (a0, a1, a2, l3)) &&
  (alike (scoreboard_Lost.f k a0 a1 a2 l3 mss seq) (stopcockref17_Lost.f k a0 a1 a2 l3 mss seq) &&
  (alike (scoreboard_Pipe.f k a0 a1 a2 l3 mss) (stopcockref17_Pipe.f k a0 a1 a2 l3 mss) &&
  (alike (scoreboard_Next.f k a0 a1 a2 l3 mss resc) (stopcockref17_Next.f k a0 a1 a2 l3 mss resc) &&
  (alike (scoreboard_Check.f k a0 a1 a2 l3) (stopcockref17_Check.f k a0 a1 a2 l3) &&
  (alike (scoreboard_Sent.f k a0 a1 a2 l3 n) (stopcockref17_Sent.f k a0 a1 a2 l3 n) &&
  (alike (scoreboard_Resent.f k a0 a1 a2 l3 seq) (stopcockref17_Resent.f k a0 a1 a2 l3 seq) &&
  (alike (scoreboard_Timeout.f k a0 a1 a2 l3) (stopcockref17_Timeout.f k a0 a1 a2 l3) &&
  (selfOk k (scoreboard_Sent.f k a0 a1 a2 l3 n) &&
  (selfOk k (scoreboard_Resent.f k a0 a1 a2 l3 seq) &&
  (selfOk k (scoreboard_Timeout.f k a0 a1 a2 l3) &&
  (decide (stopcocklaw17_same.f k a0 a1 a2 l3 a0 a1 a2 l3 = some true) &&
  decide (stopcocklaw17_alive.f k = some true))))))))))))
theorem tells_go (k : Nat) (a0 a1 a2 : Int) (A3 : Option Addr) (c3 : Nat) (l3 : List S35) (mss seq n : Int) (resc : Bool) (w : World) (hr : Kd.C k35 w A3 l3.length l3) (hc3 : l3.length ≤ c3) (h : tellsB k a0 a1 a2 l3 mss seq n resc = true) :
    Calls Try.prog 5 #[.agg #[.int .u32 a0, .int .u32 a1, .int .u32 a2, .slice A3 l3.length c3], .int .i64 mss, .int .u32 seq, .int .i64 n, .bool resc] w fun e W' => e = .returned (.bool true) ∧ Below w.heap.size w W' := by
  unfold tellsB at h
  simp only [Bool.and_eq_true] at h
  obtain ⟨hg, hl, hp, hn, hk, hs, hrs, ht, s1, s2, s3, s4, al⟩ := h
  obtain ⟨⟨b1, e1⟩, H1, H2⟩ := alike_gives hl
  obtain ⟨⟨p1, e2⟩, H3, H4⟩ := alike_gives hp
  obtain ⟨⟨n0, n1, nb, e3⟩, H5, H6⟩ := alike_gives hn
  obtain ⟨e4, H7, H8⟩ := alike_gives hk
  obtain ⟨⟨u0, u1, u2, ul, e5⟩, H9, H10⟩ := alike_gives hs
  obtain ⟨⟨y0, y1, y2, yl, e6⟩, H11, H12⟩ := alike_gives hrs
  obtain ⟨⟨t0, t1, t2, tl, e7⟩, H13, H14⟩ := alike_gives ht
  exact tells_in k a0 a1 a2 A3 c3 l3 mss seq n resc w hr hc3 b1 e1 p1 e2 n0 n1 nb e3 e4 u0 u1 u2 ul e5 y0 y1 y2 yl e6 t0 t1 t2 tl e7 ⟨of_decide_eq_true hg⟩ ⟨H1⟩ ⟨H2⟩ ⟨H3⟩ ⟨H4⟩ ⟨H5⟩ ⟨H6⟩ ⟨H7⟩ ⟨H8⟩ ⟨H9⟩ ⟨H10⟩ ⟨H11⟩ ⟨H12⟩ ⟨H13⟩ ⟨H14⟩ ⟨self_gives s1 H9⟩ ⟨self_gives s2 H11⟩ ⟨self_gives s3 H13⟩ ⟨of_decide_eq_true s4⟩ ⟨of_decide_eq_true al⟩
end Go.Proofs.Ytfaoeljggfdhmaa.Q
