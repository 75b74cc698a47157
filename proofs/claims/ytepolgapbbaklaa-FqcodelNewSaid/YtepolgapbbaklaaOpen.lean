/- What a row reads of an argument, of whatever nesting of numbers, bools, strings, slices and structs, is a plain Lean value of that kind, within its bounds: proved once for every program. No condition. -/
import Derived.Test.YtepolgapbbaklaaWMore
import Derived.SizedLaws
import Derived.ChangeSlices
import Derived.ChangeArms
import Derived.WideShapes
import Derived.DataReads
import Derived.DataElems
set_option linter.unusedVariables false
set_option linter.unusedSimpArgs false
namespace Go.Proofs.YtepolgapbbaklaaW.Opened
open Go.RowKit Go.Proofs.YtepolgapbbaklaaW.PrintWords

/-- Whatever is read at type T is a value of the kind d, within its bounds. -/
def Opens {α : Type} (P : Program) (T : TypeId) (d : Kd α) (wf : α → Prop) : Prop :=
  ∀ {H : Type} (enc : TypeId × Value → H) (W : World) (spare : Nat → Bool) (held : Bool) (fuel : Nat) (cs : List Value) (y : DataW H × List MemPlace),
    DataW.trod enc P W 0 spare held fuel T cs = some y → (∀ n ∈ y.1.weights P T, n ≤ reachBytes) → ∃ x, d.K W x cs ∧ wf x

theorem Opens.mono {α : Type} {P : Program} {T : TypeId} {d : Kd α} {wf wf' : α → Prop} (h : Opens P T d wf) (hw : ∀ x, wf x → wf' x) : Opens P T d wf' :=
  fun enc W spare held fuel cs y ht hn => let ⟨x, hk, hx⟩ := h enc W spare held fuel cs y ht hn; ⟨x, hk, hw x hx⟩

theorem Opens.int {P : Program} {T : TypeId} {k : IntKind} (hu : P.underlying T = some (.int k)) : Opens P T (Kd.int k) (fun x => (Lit.int k x).wf = true) := by
  intro H enc W spare held fuel cs y ht hn
  obtain ⟨n, rfl, _, hw⟩ := DataW.trod_int hu ht
  exact ⟨n, rfl, hw⟩

theorem Opens.bool {P : Program} {T : TypeId} (hu : P.underlying T = some .bool) : Opens P T Kd.bool (fun _ => True) := by
  intro H enc W spare held fuel cs y ht hn
  obtain ⟨b, rfl, _⟩ := DataW.trod_bool hu ht
  exact ⟨b, rfl, trivial⟩

theorem trod_string_form {H : Type} {enc : TypeId × Value → H} {P : Program} {W : World} {spare : Nat → Bool} {held : Bool} {fuel : Nat} {T : TypeId} {cs : List Value} {y : DataW H × List MemPlace}
    (hu : P.underlying T = some .string) (h : DataW.trod enc P W 0 spare held fuel T cs = some y) : ∃ s : ByteArray, cs = [.string s] ∧ y.1 = .lit (.string s.data.toList) := by
  cases fuel with
  | zero => simp [DataW.trod] at h
  | succ n =>
    unfold DataW.trod at h
    rw [hu] at h
    split at h <;> simp_all
    obtain ⟨_, rfl⟩ := h
    rfl

theorem Opens.string {P : Program} {T : TypeId} (hu : P.underlying T = some .string) : Opens P T Kd.string (fun s => s.size ≤ 140737488351232) := by
  intro H enc W spare held fuel cs y ht hn
  obtain ⟨s, rfl, hy⟩ := trod_string_form hu ht
  refine ⟨s, rfl, ?_⟩
  rw [hy] at hn
  have := hn s.data.toList.length (by simp [DataW.weights])
  rw [Array.length_toList] at this
  exact this

theorem list_of {α : Type} (Q : Nat → α → Prop) : ∀ n, (∀ i, i < n → ∃ x, Q i x) → ∃ l : List α, l.length = n ∧ ∀ i x, l[i]? = some x → Q i x := by
  intro n
  induction n with
  | zero => exact fun _ => ⟨[], rfl, fun i x h => by simp at h⟩
  | succ n ih =>
    intro h
    obtain ⟨l, hl, hq⟩ := ih (fun i hi => h i (by omega))
    obtain ⟨x, hx⟩ := h n (by omega)
    refine ⟨l ++ [x], by simp [hl], fun i z hz => ?_⟩
    rcases Nat.lt_or_ge i l.length with hi | hi
    · rw [List.getElem?_append_left hi] at hz
      exact hq i z hz
    · have hi' : i = l.length := by
        have := (List.getElem?_eq_some_iff.1 hz).1
        simp at this
        omega
      subst hi'
      simp at hz
      subst hz
      rw [hl]
      exact hx

theorem weightsAll_mem {H : Type} {P : Program} {e : TypeId} : ∀ {ds : List (DataW H)} {d : DataW H}, d ∈ ds → ∀ n ∈ d.weights P e, n ∈ DataW.weightsAll P e ds
  | d0 :: ds, d, hd, n, hn => by
    simp only [DataW.weightsAll, List.mem_append]
    rcases List.mem_cons.1 hd with rfl | hd
    · exact .inl hn
    · exact .inr (weightsAll_mem hd n hn)

theorem Opens.slice {α : Type} {P : Program} {T e : TypeId} {d : Kd α} {wf : α → Prop} {B : Nat} (hu : P.underlying T = some (.slice e)) (hc : P.cellsOf e = d.sz) (hB : P.bytesOf e = B) (h : Opens P e d wf) :
    Opens P T (Kd.slice e d) (fun l => l.length * B ≤ 140737488351232 ∧ ∀ x ∈ l, wf x) := by
  intro H enc W spare held fuel cs y ht hn
  rcases DataW.trod_slice hu ht with ⟨rfl, _⟩ | ⟨a, len, cap, elems, rest, n, _, rfl, rfl, hb, hl, hm, hlen, hel, hsp, hns⟩
  · exact ⟨[], ⟨none, 0, rfl, Nat.le_refl _, rfl, by simp, fun hp => absurd hp (by simp)⟩, by simp, fun x hx => by simp at hx⟩
  · have hw : ∀ m ∈ (DataW.slice (elems.map (·.1)) (rest.map (·.1)) : DataW H).weights P T, m ≤ reachBytes := hn
    simp only [DataW.weights, hu, List.mem_cons, List.mem_append] at hw
    have hsize := hw _ (.inl rfl)
    have each : ∀ i, i < len → ∃ x : α, (∃ c : List Value, c.length = d.sz ∧ d.K W x c ∧ ∀ j u, c[j]? = some u → W.cell? (a.add (i * d.sz + j)) = some u) ∧ wf x := by
      intro i hi
      have hi' : i < elems.length := by omega
      have he := hel i hi
      rw [List.getElem?_eq_getElem hi', Option.bind_eq_some_iff] at he
      obtain ⟨c, hcs, htr⟩ := he
      obtain ⟨x, hx, hwx⟩ := h enc W spare held n c elems[i] htr (fun m hm' => hw m (.inr (.inl (weightsAll_mem (List.mem_map.2 ⟨elems[i], List.getElem_mem hi', rfl⟩) m hm'))))
      refine ⟨x, ⟨c, d.K_len hx, hx, fun j u hj => ?_⟩, hwx⟩
      obtain ⟨_, hlc, hcell⟩ := World.cells?_some hcs
      have hj' : j < c.length := (List.getElem?_eq_some_iff.1 hj).1
      have := hcell j (by omega)
      rw [Addr.add_add, hc] at this
      rw [this, hj]
    obtain ⟨l, hll, hq⟩ := list_of _ len each
    refine ⟨l, ⟨some a, cap, by rw [hll], by omega, rfl, ?_, fun _ => ⟨a, rfl, fun j p hj => (hq j p hj).1⟩⟩, ?_, fun x hx => ?_⟩
    · have : maxLen = 9223372036854775807 := by decide
      omega
    · have h1 : len * B ≤ ((elems.map (·.1)).length + (rest.map (·.1)).length) * P.bytesOf e := by
        rw [hB, List.length_map, hlen]
        exact Nat.mul_le_mul_right _ (by omega)
      rw [hll]
      exact Nat.le_trans h1 hsize
    · obtain ⟨i, hi⟩ := List.getElem?_of_mem hx
      exact (hq i x hi).2

/-- Fields in line, from cell 'off' on. -/
def OpensF {α : Type} (P : Program) (fs : List Field) (off : Nat) (d : Kd α) (wf : α → Prop) : Prop :=
  ∀ {H : Type} (enc : TypeId × Value → H) (W : World) (spare : Nat → Bool) (held : Bool) (n : Nat) (cs : List Value) (xs : List (DataW H × List MemPlace)),
    xs.length = fs.length → (∀ (i : Nat) (f : Field), fs[i]? = some f → DataW.trod enc P W 0 spare held n f.type ((cs.drop f.offset).take (P.cellsOf f.type)) = xs[i]?) →
    (∀ m ∈ DataW.weightsEach P (fs.map (·.type)) (xs.map (·.1)), m ≤ reachBytes) → cs.length = off + d.sz → ∃ x, d.K W x (cs.drop off) ∧ wf x

theorem OpensF.one {α : Type} {P : Program} {d : Kd α} {wf : α → Prop} {f : Field} {off : Nat} (ho : f.offset = off) (hc : P.cellsOf f.type = d.sz) (h : Opens P f.type d wf) : OpensF P [f] off d wf := by
  intro H enc W spare held n cs xs hl hx hw hlen
  match xs, hl with
  | [x0], _ =>
    have h0 := hx 0 f rfl
    simp only [List.getElem?_cons_zero] at h0
    rw [ho, hc, List.take_of_length_le (by rw [List.length_drop]; omega)] at h0
    exact h enc W spare held n _ x0 h0 (fun m hm => hw m (by simpa [DataW.weightsEach] using hm))

theorem OpensF.cons {α β : Type} {P : Program} {a : Kd α} {b : Kd β} {wa : α → Prop} {wb : β → Prop} {f : Field} {fs : List Field} {off off' : Nat} (ho : f.offset = off) (hc : P.cellsOf f.type = a.sz) (ho' : off + a.sz = off')
    (h : Opens P f.type a wa) (hr : OpensF P fs off' b wb) : OpensF P (f :: fs) off (Kd.pair a b) (fun x => wa x.1 ∧ wb x.2) := by
  intro H enc W spare held n cs xs hl hx hw hlen
  match xs, hl with
  | x0 :: xr, hl =>
    have h0 := hx 0 f rfl
    simp only [List.getElem?_cons_zero] at h0
    rw [ho, hc] at h0
    have hsz : (Kd.pair a b).sz = a.sz + b.sz := rfl
    rw [hsz] at hlen
    obtain ⟨x, hkx, hwx⟩ := h enc W spare held n _ x0 h0 (fun m hm => hw m (by simp only [List.map_cons, DataW.weightsEach, List.mem_append]; exact .inl hm))
    obtain ⟨z, hkz, hwz⟩ := hr enc W spare held n cs xr (by simpa using hl) (fun i g hg => by have := hx (i + 1) g (by simpa using hg); simpa using this)
      (fun m hm => hw m (by simp only [List.map_cons, DataW.weightsEach, List.mem_append]; exact .inr hm)) (by omega)
    refine ⟨(x, z), ⟨_, _, ?_, hkx, hkz⟩, hwx, hwz⟩
    rw [← ho', ← List.drop_drop, List.take_append_drop]

theorem Opens.struct {α : Type} {P : Program} {T : TypeId} {fs : Array Field} {d : Kd α} {wf : α → Prop} (hu : P.underlying T = some (.struct fs)) (hc : P.cellsOf T = d.sz) (h : OpensF P fs.toList 0 d wf) : Opens P T d wf := by
  intro H enc W spare held fuel cs y ht hn
  obtain ⟨xs, n, _, rfl, hlen, hl, hf⟩ := DataW.trod_struct hu ht
  have := h enc W spare held n cs xs (by simpa using hl) (fun i f hi => hf i f (by simpa using hi)) (fun m hm => hn m (by simpa [DataW.weights, hu] using hm)) (by omega)
  simpa using this

theorem Opens.iso {α β : Type} {P : Program} {T : TypeId} {d : Kd α} {wf : α → Prop} {f : β → α} (g : α → β) (hg : ∀ y, f (g y) = y) (h : Opens P T d wf) : Opens P T (Kd.iso d f) (fun x => wf (f x)) := by
  intro H enc W spare held fuel cs y ht hn
  obtain ⟨x, hk, hw⟩ := h enc W spare held fuel cs y ht hn
  refine ⟨g x, ?_, by show wf (f (g x)); rw [hg]; exact hw⟩
  show d.K W (f (g x)) cs
  rw [hg]
  exact hk

/-- An argument of a row, opened. -/
theorem opened {α : Type} {P : Program} {T : TypeId} {d : Kd α} {wf : α → Prop} (h : Opens P T d wf) {H : Type} {enc : TypeId × Value → H} {W : World} {spare : Nat → Bool} {held : Bool} {v : Value} {D : DataW H} {ps : List MemPlace} {ts : List TypeId} {ds : List (DataW H)} {j : Nat}
    (hsz : (DataW.weightsEach P ts ds).all (· ≤ reachBytes) = true) (ht : ts[j]? = some T) (hd : ds[j]? = some D) (ht' : DataW.Trod enc P W 0 spare held T v D ps) : ∃ x, d.K W x v.cells.toList ∧ wf x := by
  obtain ⟨fuel, hf⟩ := ht'
  exact h enc W spare held fuel _ _ hf (fun n hn => by simpa using List.all_eq_true.1 hsz n (DataW.weights_mem_each ht hd n hn))

theorem wf_i64 {x : Int} (h : (Lit.int .i64 x).wf = true) : -9223372036854775808 ≤ x ∧ x ≤ 9223372036854775807 := by
  simp only [Lit.wf, Bool.and_eq_true, decide_eq_true_eq] at h
  have a : IntKind.min .i64 = -9223372036854775808 := by decide
  have b : IntKind.max .i64 = 9223372036854775807 := by decide
  rw [a, b] at h
  exact h
theorem wf_u64 {x : Int} (h : (Lit.int .u64 x).wf = true) : 0 ≤ x ∧ x ≤ 18446744073709551615 := by
  simp only [Lit.wf, Bool.and_eq_true, decide_eq_true_eq] at h
  have a : IntKind.min .u64 = 0 := by decide
  have b : IntKind.max .u64 = 18446744073709551615 := by decide
  rw [a, b] at h
  exact h
theorem wf_u32 {x : Int} (h : (Lit.int .u32 x).wf = true) : 0 ≤ x ∧ x ≤ 4294967295 := by
  simp only [Lit.wf, Bool.and_eq_true, decide_eq_true_eq] at h
  have a : IntKind.min .u32 = 0 := by decide
  have b : IntKind.max .u32 = 4294967295 := by decide
  rw [a, b] at h
  exact h
theorem wf_u16 {x : Int} (h : (Lit.int .u16 x).wf = true) : 0 ≤ x ∧ x ≤ 65535 := by
  simp only [Lit.wf, Bool.and_eq_true, decide_eq_true_eq] at h
  have a : IntKind.min .u16 = 0 := by decide
  have b : IntKind.max .u16 = 65535 := by decide
  rw [a, b] at h
  exact h
theorem wf_u8 {x : Int} (h : (Lit.int .u8 x).wf = true) : 0 ≤ x ∧ x ≤ 255 := by
  simp only [Lit.wf, Bool.and_eq_true, decide_eq_true_eq] at h
  have a : IntKind.min .u8 = 0 := by decide
  have b : IntKind.max .u8 = 255 := by decide
  rw [a, b] at h
  exact h
theorem one_of_cells {T : TypeId} {P : Program} {w : World} {r : Reach} {base : Nat} {k : IntKind} {x : Int} {v : Value} (hu : P.underlying T = some (.int k)) (hv : Value.okWide P w r base T v) (h : v.cells.toList = [.int k x]) : v = .int k x := by
  simp only [Value.okWide, hu, Cell.okWide] at hv
  cases v <;> simp_all [Cell.ok, Value.cells]
theorem one_of_cells_bool {T : TypeId} {P : Program} {w : World} {r : Reach} {base : Nat} {x : Bool} {v : Value} (hu : P.underlying T = some .bool) (hv : Value.okWide P w r base T v) (h : v.cells.toList = [.bool x]) : v = .bool x := by
  simp only [Value.okWide, hu, Cell.okWide] at hv
  cases v <;> simp_all [Cell.ok, Value.cells]
theorem one_of_cells_string {T : TypeId} {P : Program} {w : World} {r : Reach} {base : Nat} {x : ByteArray} {v : Value} (hu : P.underlying T = some .string) (hv : Value.okWide P w r base T v) (h : v.cells.toList = [.string x]) : v = .string x := by
  simp only [Value.okWide, hu, Cell.okWide] at hv
  cases v <;> simp_all [Cell.ok, Value.cells]
theorem one_of_cells_slice {T e : TypeId} {P : Program} {w : World} {r : Reach} {base : Nat} {A : Option Addr} {n c : Nat} {v : Value} (hu : P.underlying T = some (.slice e)) (hv : Value.okWide P w r base T v) (h : v.cells.toList = [.slice A n c]) : v = .slice A n c := by
  simp only [Value.okWide, hu, Cell.okWide] at hv
  cases v <;> simp_all [Cell.ok, Value.cells]
theorem one_of_cells_struct {T : TypeId} {fs : Array Field} {P : Program} {w : World} {r : Reach} {base : Nat} {l : List Value} {v : Value} (hu : P.underlying T = some (.struct fs)) (hv : Value.okWide P w r base T v) (h : v.cells.toList = l) : v = .agg l.toArray := by
  obtain ⟨cs, rfl, _⟩ := WideShapes.okWide_struct hu hv
  subst h
  simp [Value.cells]
end Go.Proofs.YtepolgapbbaklaaW.Opened
namespace Go.Proofs.YtepolgapbbaklaaW.PrintWords
open Go.RowKit
/-- A difference of two u32, as an int. -/
theorem u32c_w (x : Int) : wrap64 (IntKind.u32.wrap x) = x % 4294967296 := by
  have e : IntKind.u32.wrap x = x % 4294967296 := rfl
  rw [e]
  unfold wrap64
  omega
theorem u32d_w (x y : Int) : wrap64 (x % 4294967296 - y % 4294967296) = x % 4294967296 - y % 4294967296 := by
  unfold wrap64
  omega
end Go.Proofs.YtepolgapbbaklaaW.PrintWords
