/- What an argument that came in is told of to the walk: ints, bools, slices of these, slices of slices of ints; out of the row's own reading. -/
import Derived.Test.YtfgaglgaofceiaaBase
import Derived.ProofKit
import Derived.OpenShut
import Derived.ChangeOld
import Derived.Lib.SmallJoins
import Derived.Deep.Slices
import Derived.Deep.Matrix
namespace Go.Proofs.Ytfgaglgaofceiaa
open Go.ChangeShapes Go.WideShapes Go.ChangeAt Go.RowKit

/-- The value reads as a slice of ints of the kind k; each fits its kind. -/
def ArgI (k : IntKind) (w : World) (v : Value) (xs : List Int) : Prop :=
  ∃ a c, v = .slice a xs.length c ∧ xs.length ≤ c ∧ c ≤ maxLen ∧ (a = none → c = 0) ∧ SlV w a (xs.map (Value.int k)) ∧ ∀ x ∈ xs, (Lit.int k x).wf = true

/-- The value reads as a slice of bools. -/
def ArgB (w : World) (v : Value) (xs : List Bool) : Prop :=
  ∃ a c, v = .slice a xs.length c ∧ xs.length ≤ c ∧ c ≤ maxLen ∧ (a = none → c = 0) ∧ SlV w a (bools xs)

/-- The value reads as a slice of slices of ints of the kind k. -/
def ArgR (k : IntKind) (w : World) (v : Value) (xss : List (List Int)) : Prop :=
  ∃ a c, v = .slice a xss.length c ∧ xss.length ≤ c ∧ c ≤ maxLen ∧ (a = none → c = 0) ∧
    ∀ j xs, xss[j]? = some xs → ∃ b off u, a = some ⟨b, off, none⟩ ∧ w.cell? ⟨b, off + j, none⟩ = some u ∧ ArgI k w u xs

theorem slV_of_row {w : World} {a : Addr} {vs : List Value} (h : ∀ i v, vs[i]? = some v → w.cell? (a.add i) = some v) : SlV w (some a) vs := by
  intro j v hj
  have h0 : ∃ u, vs[0]? = some u := by
    cases vs with
    | nil => simp at hj
    | cons u us => exact ⟨u, rfl⟩
  obtain ⟨u, hu⟩ := h0
  have hs := World.cell?_spot (h 0 u hu)
  obtain ⟨b, off, spot⟩ := a
  simp [Addr.add] at hs
  subst hs
  refine ⟨b, off, rfl, ?_⟩
  have := h j v hj
  unfold Addr.add at this
  split at this
  · rename_i h0; subst h0; simpa using this
  · exact this

section
variable {P : Program} {W : World} {H : Type} {enc : TypeId × Value → H}

theorem trod_ints {t e : TypeId} {k : IntKind} {fuel : Nat} {held : Bool} {v : Value} {x : DataW H × List MemPlace} (ht : P.underlying t = some (.slice e)) (he : P.underlying e = some (.int k)) (hc : P.cellsOf e = 1)
    (h : DataW.trod enc P W 0 (fun _ => true) held fuel t [v] = some x) : ∃ xs, ArgI k W v xs := by
  rcases open_ints ht he hc h with ⟨hcs, _⟩ | ⟨a, l, c, zs, hcs, _, hl, hm, hz, _, hcell, hwz⟩
  · simp at hcs
    subst hcs
    exact ⟨[], none, 0, rfl, Nat.le_refl _, by simp [maxLen], fun _ => rfl, SlV.nil _ _, by simp⟩
  · simp at hcs
    subst hcs
    simp only [if_true] at hz
    have hlen : (zs.take l).length = l := by simp; omega
    refine ⟨zs.take l, some a, c, by rw [hlen], by omega, hm, nofun, slV_of_row fun i v hv => ?_, fun n hn => hwz n (List.mem_of_mem_take hn)⟩
    simp only [List.getElem?_map, Option.map_eq_some_iff] at hv
    obtain ⟨x, hx, rfl⟩ := hv
    rw [List.getElem?_take] at hx
    split at hx
    · rename_i hi
      have := hcell i (by omega)
      rw [this]
      simp [List.getD_eq_getElem?_getD, hx]
    · cases hx

theorem arg_ints {r : Reach} {b0 : Nat} {t e : TypeId} {k : IntKind} {held : Bool} {v : Value} {d : DataW H} {p : List MemPlace} (ht : P.underlying t = some (.slice e)) (he : P.underlying e = some (.int k)) (hc : P.cellsOf e = 1)
    (hv : Value.okWide P W r b0 t v) (h : DataW.Trod enc P W 0 (fun _ => true) held t v d p) : ∃ xs, ArgI k W v xs := by
  obtain ⟨a, l, c, rfl⟩ := okWide_slice ht hv
  obtain ⟨fuel, hf⟩ := h
  exact trod_ints ht he hc (by simpa [Value.cells] using hf)

theorem arg_int {r : Reach} {b0 : Nat} {t : TypeId} {k : IntKind} {held : Bool} {v : Value} {d : DataW H} {p : List MemPlace} (ht : P.underlying t = some (.int k))
    (hv : Value.okWide P W r b0 t v) (h : DataW.Trod enc P W 0 (fun _ => true) held t v d p) : ∃ x, v = .int k x ∧ (Lit.int k x).wf = true := by
  obtain ⟨n, h1, _, _, h4⟩ := open_int ht hv h
  exact ⟨n, h1, h4⟩

theorem arg_bool {r : Reach} {b0 : Nat} {t : TypeId} {held : Bool} {v : Value} {d : DataW H} {p : List MemPlace} (ht : P.underlying t = some .bool)
    (hv : Value.okWide P W r b0 t v) (h : DataW.Trod enc P W 0 (fun _ => true) held t v d p) : ∃ x, v = .bool x := by
  obtain ⟨n, h1, _, _⟩ := open_bool ht hv h
  exact ⟨n, h1⟩

theorem arg_bools {r : Reach} {b0 : Nat} {t e : TypeId} {held : Bool} {v : Value} {d : DataW H} {p : List MemPlace} (ht : P.underlying t = some (.slice e)) (he : P.underlying e = some .bool) (hc : P.cellsOf e = 1)
    (hv : Value.okWide P W r b0 t v) (h : DataW.Trod enc P W 0 (fun _ => true) held t v d p) : ∃ xs, ArgB W v xs := by
  obtain ⟨a, l, c, rfl⟩ := okWide_slice ht hv
  obtain ⟨fuel, hf⟩ := h
  rcases Go.Deep.open_slice1 ht hc hf with ⟨hcs, _⟩ | ⟨a', l', c', m, n, V, D, Pl, hcs, _, hl, hm, hmm, _, hx⟩
  · simp [Value.cells] at hcs
    obtain ⟨rfl, rfl, rfl⟩ := hcs
    exact ⟨[], none, 0, rfl, Nat.le_refl _, by simp [maxLen], fun _ => rfl, SlV.nil _ _⟩
  · simp [Value.cells] at hcs
    obtain ⟨rfl, rfl, rfl⟩ := hcs
    simp only [if_true] at hmm
    have hb : ∀ i, i < m → ∃ b, V i = .bool b := fun i hi => by
      obtain ⟨b, hb, _⟩ := DataW.trod_bool he (hx i hi).2
      exact ⟨b, by simpa using hb⟩
    refine ⟨(List.range l).map (fun i => match V i with | .bool b => b | _ => false), some a', c, by simp, by simpa using hl, hm, nofun, slV_of_row fun i v hv => ?_⟩
    simp only [bools, List.map_map, List.getElem?_map, Option.map_eq_some_iff] at hv
    obtain ⟨j, hj, rfl⟩ := hv
    obtain ⟨hlt, he'⟩ := List.getElem?_eq_some_iff.1 hj
    simp at hlt he'
    subst he'
    obtain ⟨b, hb'⟩ := hb i (by omega)
    rw [(hx i (by omega)).1]
    simp [hb']

theorem trod_rows {t e q : TypeId} {k : IntKind} {fuel : Nat} {held : Bool} {v : Value} {x : DataW H × List MemPlace} (ht : P.underlying t = some (.slice e)) (he : P.underlying e = some (.slice q)) (hq : P.underlying q = some (.int k)) (ce : P.cellsOf e = 1) (cq : P.cellsOf q = 1)
    (h : DataW.trod enc P W 0 (fun _ => true) held fuel t [v] = some x) : ∃ xss, ArgR k W v xss := by
  rcases Go.Deep.open_slice1 ht ce h with ⟨hcs, _⟩ | ⟨a, l, c, m, n, V, D, Pl, hcs, _, hl, hm, hmm, _, hx⟩
  · simp at hcs
    subst hcs
    exact ⟨[], none, 0, rfl, Nat.le_refl _, by simp [maxLen], fun _ => rfl, by simp⟩
  · simp at hcs
    subst hcs
    simp only [if_true] at hmm
    have hr : ∀ i, ∃ xs, i < l → ArgI k W (V i) xs := fun i => by
      by_cases hi : i < l
      · obtain ⟨xs, hxs⟩ := trod_ints he hq cq (hx i (by omega)).2
        exact ⟨xs, fun _ => hxs⟩
      · exact ⟨[], fun h => (hi h).elim⟩
    let X := fun i => Classical.choose (hr i)
    have hX : ∀ i, i < l → ArgI k W (V i) (X i) := fun i => Classical.choose_spec (hr i)
    have hrow : SlV W (some a) ((List.range l).map V) := slV_of_row fun i v hv => by
      simp only [List.getElem?_map, Option.map_eq_some_iff] at hv
      obtain ⟨j, hj, rfl⟩ := hv
      obtain ⟨hlt, he'⟩ := List.getElem?_eq_some_iff.1 hj
      simp at hlt he'
      subst he'
      exact (hx i (by omega)).1
    refine ⟨(List.range l).map X, some a, c, by simp, by simpa using hl, hm, nofun, fun j xs hj => ?_⟩
    simp only [List.getElem?_map, Option.map_eq_some_iff] at hj
    obtain ⟨i, hi, rfl⟩ := hj
    obtain ⟨hlt, he'⟩ := List.getElem?_eq_some_iff.1 hi
    simp at hlt he'
    subst he'
    obtain ⟨b, off, h1, h2⟩ := hrow j (V j) (by simp [List.getElem?_range hlt])
    exact ⟨b, off, V j, h1, h2, hX j hlt⟩

theorem arg_rows {r : Reach} {b0 : Nat} {t e q : TypeId} {k : IntKind} {held : Bool} {v : Value} {d : DataW H} {p : List MemPlace} (ht : P.underlying t = some (.slice e)) (he : P.underlying e = some (.slice q)) (hq : P.underlying q = some (.int k)) (ce : P.cellsOf e = 1) (cq : P.cellsOf q = 1)
    (hv : Value.okWide P W r b0 t v) (h : DataW.Trod enc P W 0 (fun _ => true) held t v d p) : ∃ xss, ArgR k W v xss := by
  obtain ⟨a, l, c, rfl⟩ := okWide_slice ht hv
  obtain ⟨fuel, hf⟩ := h
  exact trod_rows ht he hq ce cq (by simpa [Value.cells] using hf)

/-- A struct of an int and a slice of slices of ints (api.Formula), by value. -/
theorem arg_formula {r : Reach} {b0 : Nat} {t e q u : TypeId} {f0 f1 : Field} {held : Bool} {v : Value} {d : DataW H} {p : List MemPlace} (hs : P.underlying t = some (.struct #[f0, f1])) (hone : Go.Deep.oneCellFields P #[f0, f1] = true) (hC : P.cellsOf t = 2)
    (h0 : P.underlying f0.type = some (.int .i64)) (h1 : f1.type = u) (ht : P.underlying u = some (.slice e)) (he : P.underlying e = some (.slice q)) (hq : P.underlying q = some (.int .i64)) (ce : P.cellsOf e = 1) (cq : P.cellsOf q = 1)
    (hv : Value.okWide P W r b0 t v) (h : DataW.Trod enc P W 0 (fun _ => true) held t v d p) : ∃ n vc xss, v = .agg #[.int .i64 n, vc] ∧ (Lit.int .i64 n).wf = true ∧ ArgR .i64 W vc xss := by
  obtain ⟨v0, v1, y0, y1, n, rfl, _, _, hy0, hy1⟩ := Go.Joins.open_agg2 hs hone hC hv h
  obtain ⟨m, hm, _, hw⟩ := DataW.trod_int h0 hy0
  simp at hm
  subst hm
  subst h1
  obtain ⟨xss, hx⟩ := trod_rows ht he hq ce cq hy1
  exact ⟨m, v1, xss, rfl, hw, hx⟩

end
end Go.Proofs.Ytfgaglgaofceiaa
