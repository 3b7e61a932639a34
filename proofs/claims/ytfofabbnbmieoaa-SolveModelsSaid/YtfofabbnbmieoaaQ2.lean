/- What an argument that came in is told of to the walk: ints, bools, slices of these, slices of slices of ints; out of the row's own reading. -/
import Derived.ProofKit
import Derived.OpenShut
import Derived.ChangeOld
import Derived.Lib.SmallJoins
import Derived.Deep.Slices
import Derived.Deep.Matrix
import Derived.Test.YtfofabbnbmieoaaQ0
import Derived.Test.YtfofabbnbmieoaaQ1

namespace Go.Proofs.Ytfofabbnbmieoaa
open Go.ChangeShapes Go.WideShapes Go.ChangeAt Go.RowKit

/-- The value reads as a slice of ints of the kind k; each fits its kind. -/
def ArgI (k : IntKind) (w : World) (v : Value) (xs : List Int) : Prop :=
  ∃ a c, v = .slice a xs.length c ∧ xs.length ≤ c ∧ c ≤ maxLen ∧ (a = none → c = 0) ∧ SlV w a (xs.map (Value.int k)) ∧ ∀ x ∈ xs, (Lit.int k x).wf = true

/-- The value reads as a slice of bools. -/
def ArgB (w : World) (v : Value) (xs : List Bool) : Prop :=
  ∃ a c, v = .slice a xs.length c ∧ xs.length ≤ c ∧ c ≤ maxLen ∧ (a = none → c = 0) ∧ SlV w a (bools xs)

/-- The value reads as a slice of slices of ints of the kind k. -/
def ArgR (k : IntKind) (w : World) (v : Value) (xss : List (List Int)) : Prop :=
  ∃ a c, v = .slice a xss.length c ∧ xss.length ≤ c ∧ c ≤ maxLen ∧ (a = none → c = 0) ∧
    ∀ j xs, xss[j]? = some xs → ∃ b off u, a = some ⟨b, off, none⟩ ∧ w.cell? ⟨b, off + j, none⟩ = some u ∧ ArgI k w u xs

theorem slV_of_row {w : World} {a : Addr} {vs : List Value} (h : ∀ i v, vs[i]? = some v → w.cell? (a.add i) = some v) : SlV w (some a) vs := by
  intro j v hj
  have h0 : ∃ u, vs[0]? = some u := by
    cases vs with
    | nil => simp at hj
    | cons u us => exact ⟨u, rfl⟩
  obtain ⟨u, hu⟩ := h0
  have hs := World.cell?_spot (h 0 u hu)
  obtain ⟨b, off, spot⟩ := a
  simp [Addr.add] at hs
  subst hs
  refine ⟨b, off, rfl, ?_⟩
  have := h j v hj
  unfold Addr.add at this
  split at this
  · rename_i h0; subst h0; simpa using this
  · exact this

section
variable {P : Program} {W : World} {H : Type} {enc : TypeId × Value → H}

theorem trod_ints {t e : TypeId} {k : IntKind} {fuel : Nat} {held : Bool} {v : Value} {x : DataW H × List MemPlace} (ht : P.underlying t = some (.slice e)) (he : P.underlying e = some (.int k)) (hc : P.cellsOf e = 1)
    (h : DataW.trod enc P W 0 (fun _ => true) held fuel t [v] = some x) : ∃ xs, ArgI k W v xs := by
  rcases open_ints ht he hc h with ⟨hcs, _⟩ | ⟨a, l, c, zs, hcs, _, hl, hm, hz, _, hcell, hwz⟩
  · simp at hcs
    subst hcs
    exact ⟨[], none, 0, rfl, Nat.le_refl _, by simp [maxLen], fun _ => rfl, SlV.nil _ _, by simp⟩
  · simp at hcs
    subst hcs
    simp only [if_true] at hz
    have hlen : (zs.take l).length = l := by simp; omega
    refine ⟨zs.take l, some a, c, by rw [hlen], by omega, hm, nofun, slV_of_row fun i v hv => ?_, fun n hn => hwz n (List.mem_of_mem_take hn)⟩
    simp only [List.getElem?_map, Option.map_eq_some_iff] at hv
    obtain ⟨x, hx, rfl⟩ := hv
    rw [List.getElem?_take] at hx
    split at hx
    · rename_i hi
      have := hcell i (by omega)
      rw [this]
      simp [List.getD_eq_getElem?_getD, hx]
    · cases hx

theorem arg_ints {r : Reach} {b0 : Nat} {t e : TypeId} {k : IntKind} {held : Bool} {v : Value} {d : DataW H} {p : List MemPlace} (ht : P.underlying t = some (.slice e)) (he : P.underlying e = some (.int k)) (hc : P.cellsOf e = 1)
    (hv : Value.okWide P W r b0 t v) (h : DataW.Trod enc P W 0 (fun _ => true) held t v d p) : ∃ xs, ArgI k W v xs := by
  obtain ⟨a, l, c, rfl⟩ := okWide_slice ht hv
  obtain ⟨fuel, hf⟩ := h
  exact trod_ints ht he hc (by simpa [Value.cells] using hf)

theorem arg_int {r : Reach} {b0 : Nat} {t : TypeId} {k : IntKind} {held : Bool} {v : Value} {d : DataW H} {p : List MemPlace} (ht : P.underlying t = some (.int k))
    (hv : Value.okWide P W r b0 t v) (h : DataW.Trod enc P W 0 (fun _ => true) held t v d p) : ∃ x, v = .int k x ∧ (Lit.int k x).wf = true := by
  obtain ⟨n, h1, _, _, h4⟩ := open_int ht hv h
  exact ⟨n, h1, h4⟩

theorem arg_bool {r : Reach} {b0 : Nat} {t : TypeId} {held : Bool} {v : Value} {d : DataW H} {p : List MemPlace} (ht : P.underlying t = some .bool)
    (hv : Value.okWide P W r b0 t v) (h : DataW.Trod enc P W 0 (fun _ => true) held t v d p) : ∃ x, v = .bool x := by
  obtain ⟨n, h1, _, _⟩ := open_bool ht hv h
  exact ⟨n, h1⟩

theorem arg_bools {r : Reach} {b0 : Nat} {t e : TypeId} {held : Bool} {v : Value} {d : DataW H} {p : List MemPlace} (ht : P.underlying t = some (.slice e)) (he : P.underlying e = some .bool) (hc : P.cellsOf e = 1)
    (hv : Value.okWide P W r b0 t v) (h : DataW.Trod enc P W 0 (fun _ => true) held t v d p) : ∃ xs, ArgB W v xs := by
  obtain ⟨a, l, c, rfl⟩ := okWide_slice ht hv
  obtain ⟨fuel, hf⟩ := h
  rcases Go.Deep.open_slice1 ht hc hf with ⟨hcs, _⟩ | ⟨a', l', c', m, n, V, D, Pl, hcs, _, hl, hm, hmm, _, hx⟩
  · simp [Value.cells] at hcs
    obtain ⟨rfl, rfl, rfl⟩ := hcs
    exact ⟨[], none, 0, rfl, Nat.le_refl _, by simp [maxLen], fun _ => rfl, SlV.nil _ _⟩
  · simp [Value.cells] at hcs
    obtain ⟨rfl, rfl, rfl⟩ := hcs
    simp only [if_true] at hmm
    have hb : ∀ i, i < m → ∃ b, V i = .bool b := fun i hi => by
      obtain ⟨b, hb, _⟩ := DataW.trod_bool he (hx i hi).2
      exact ⟨b, by simpa using hb⟩
    refine ⟨(List.range l).map (fun i => match V i with | .bool b => b | _ => false), some a', c, by simp, by simpa using hl, hm, nofun, slV_of_row fun i v hv => ?_⟩
    simp only [bools, List.map_map, List.getElem?_map, Option.map_eq_some_iff] at hv
    obtain ⟨j, hj, rfl⟩ := hv
    obtain ⟨hlt, he'⟩ := List.getElem?_eq_some_iff.1 hj
    simp at hlt he'
    subst he'
    obtain ⟨b, hb'⟩ := hb i (by omega)
    rw [(hx i (by omega)).1]
    simp [hb']

theorem trod_rows {t e q : TypeId} {k : IntKind} {fuel : Nat} {held : Bool} {v : Value} {x : DataW H × List MemPlace} (ht : P.underlying t = some (.slice e)) (he : P.underlying e = some (.slice q)) (hq : P.underlying q = some (.int k)) (ce : P.cellsOf e = 1) (cq : P.cellsOf q = 1)
    (h : DataW.trod enc P W 0 (fun _ => true) held fuel t [v] = some x) : ∃ xss, ArgR k W v xss := by
  rcases Go.Deep.open_slice1 ht ce h with ⟨hcs, _⟩ | ⟨a, l, c, m, n, V, D, Pl, hcs, _, hl, hm, hmm, _, hx⟩
  · simp at hcs
    subst hcs
    exact ⟨[], none, 0, rfl, Nat.le_refl _, by simp [maxLen], fun _ => rfl, by simp⟩
  · simp at hcs
    subst hcs
    simp only [if_true] at hmm
    have hr : ∀ i, ∃ xs, i < l → ArgI k W (V i) xs := fun i => by
      by_cases hi : i < l
      · obtain ⟨xs, hxs⟩ := trod_ints he hq cq (hx i (by omega)).2
        exact ⟨xs, fun _ => hxs⟩
      · exact ⟨[], fun h => (hi h).elim⟩
    let X := fun i => Classical.choose (hr i)
    have hX : ∀ i, i < l → ArgI k W (V i) (X i) := fun i => Classical.choose_spec (hr i)
    have hrow : SlV W (some a) ((List.range l).map V) := slV_of_row fun i v hv => by
      simp only [List.getElem?_map, Option.map_eq_some_iff] at hv
      obtain ⟨j, hj, rfl⟩ := hv
      obtain ⟨hlt, he'⟩ := List.getElem?_eq_some_iff.1 hj
      simp at hlt he'
      subst he'
      exact (hx i (by omega)).1
    refine ⟨(List.range l).map X, some a, c, by simp, by simpa using hl, hm, nofun, fun j xs hj => ?_⟩
    simp only [List.getElem?_map, Option.map_eq_some_iff] at hj
    obtain ⟨i, hi, rfl⟩ := hj
    obtain ⟨hlt, he'⟩ := List.getElem?_eq_some_iff.1 hi
    simp at hlt he'
    subst he'
    obtain ⟨b, off, h1, h2⟩ := hrow j (V j) (by simp [List.getElem?_range hlt])
    exact ⟨b, off, V j, h1, h2, hX j hlt⟩

theorem arg_rows {r : Reach} {b0 : Nat} {t e q : TypeId} {k : IntKind} {held : Bool} {v : Value} {d : DataW H} {p : List MemPlace} (ht : P.underlying t = some (.slice e)) (he : P.underlying e = some (.slice q)) (hq : P.underlying q = some (.int k)) (ce : P.cellsOf e = 1) (cq : P.cellsOf q = 1)
    (hv : Value.okWide P W r b0 t v) (h : DataW.Trod enc P W 0 (fun _ => true) held t v d p) : ∃ xss, ArgR k W v xss := by
  obtain ⟨a, l, c, rfl⟩ := okWide_slice ht hv
  obtain ⟨fuel, hf⟩ := h
  exact trod_rows ht he hq ce cq (by simpa [Value.cells] using hf)

/-- A struct of an int and a slice of slices of ints (api.Formula), by value. -/
theorem arg_formula {r : Reach} {b0 : Nat} {t e q u : TypeId} {f0 f1 : Field} {held : Bool} {v : Value} {d : DataW H} {p : List MemPlace} (hs : P.underlying t = some (.struct #[f0, f1])) (hone : Go.Deep.oneCellFields P #[f0, f1] = true) (hC : P.cellsOf t = 2)
    (h0 : P.underlying f0.type = some (.int .i64)) (h1 : f1.type = u) (ht : P.underlying u = some (.slice e)) (he : P.underlying e = some (.slice q)) (hq : P.underlying q = some (.int .i64)) (ce : P.cellsOf e = 1) (cq : P.cellsOf q = 1)
    (hv : Value.okWide P W r b0 t v) (h : DataW.Trod enc P W 0 (fun _ => true) held t v d p) : ∃ n vc xss, v = .agg #[.int .i64 n, vc] ∧ (Lit.int .i64 n).wf = true ∧ ArgR .i64 W vc xss := by
  obtain ⟨v0, v1, y0, y1, n, rfl, _, _, hy0, hy1⟩ := Go.Joins.open_agg2 hs hone hC hv h
  obtain ⟨m, hm, _, hw⟩ := DataW.trod_int h0 hy0
  simp at hm
  subst hm
  subst h1
  obtain ⟨xss, hx⟩ := trod_rows ht he hq ce cq hy1
  exact ⟨m, v1, xss, rfl, hw, hx⟩

end
end Go.Proofs.Ytfofabbnbmieoaa

/- The contracts of package lit, the reference and the kit once more, with the result under a name of its own. -/
namespace Go.Proofs.Ytfofabbnbmieoaa
open Go.RowKit

theorem lit_CheckR (n : Int) (a : Option Addr) (xs : List Int) (m cap : Nat) (r : Int) (w : World) (hr : litCheck n xs = r) (hm : m = xs.length) (hx : ∀ x ∈ xs, I64 x) (hs : SlV w a (ints xs)) (hl : xs.length ≤ 9223372036854775807) :
    Calls Try.prog 15 #[.int .i64 n, .slice a m cap] w fun e w' => e = .returned (.int .i64 r) ∧ w = w' := by
  subst hm; subst hr; exact lit_Check n a xs cap w hx hs hl

theorem lit_HoldsR (am : Option Addr) (m : List Bool) (lm capm : Nat) (a : Option Addr) (xs : List Int) (lx cap : Nat) (r : Bool) (w : World) (hr : holdsB m xs = r) (hlm : lm = m.length) (hlx : lx = xs.length) (hm : SlV w am (bools m)) (hx : ∀ x ∈ xs, I64 x)
    (hs : SlV w a (ints xs)) (hl : xs.length ≤ 9223372036854775807) (hl2 : m.length ≤ 9223372036854775807) :
    Calls Try.prog 16 #[.slice am lm capm, .slice a lx cap] w fun e w' => e = .returned (.bool r) ∧ w = w' := by
  subst hlm; subst hlx; subst hr; exact lit_Holds am m capm a xs cap w hm hx hs hl hl2

/-- lit.Norm, where no literal stands beside its negative. -/
theorem lit_NormF (a : Option Addr) (xs ys : List Int) (m cap : Nat) (w : World) (hn : adjB (normL xs) = false) (hy : normL xs = ys) (hm : m = xs.length) (hcap : m ≤ cap) (hc0 : a = none → cap = 0) (hs : SlV w a (ints xs)) (hx : ∀ x ∈ xs, I64 x) (hl : xs.length ≤ 4294967296) :
    Calls Try.prog 14 #[.slice a m cap] w fun e w' =>
      ∃ a' c', e = .returned (.tuple #[.slice a' ys.length c', .bool false]) ∧ OwnT 3 w' w.heap.size (.slice a' ys.length c') ys ∧ Below w.heap.size w w' := by
  refine (lit_Norm a xs m cap w hm hcap hc0 hs hx hl).mono ?_
  rintro e w' ⟨v, rfl, ho, hb⟩
  rw [normV_false hn, hy] at ho
  obtain ⟨a', c', rfl, ho'⟩ := ownT_shape ho
  exact ⟨a', c', by rw [hn], ho', hb⟩

/-- lit.Norm, where a literal stands beside its negative. -/
theorem lit_NormT (a : Option Addr) (xs : List Int) (m cap : Nat) (w : World) (hn : adjB (normL xs) = true) (hm : m = xs.length) (hcap : m ≤ cap) (hc0 : a = none → cap = 0) (hs : SlV w a (ints xs)) (hx : ∀ x ∈ xs, I64 x) (hl : xs.length ≤ 4294967296) :
    Calls Try.prog 14 #[.slice a m cap] w fun e w' =>
      ∃ a' c', e = .returned (.tuple #[.slice a' 0 c', .bool true]) ∧ Below w.heap.size w w' := by
  refine (lit_Norm a xs m cap w hm hcap hc0 hs hx hl).mono ?_
  rintro e w' ⟨v, rfl, ho, hb⟩
  rw [normV_true hn] at ho
  obtain ⟨a', c', rfl, ho'⟩ := ownT_shape ho
  exact ⟨a', c', by rw [hn]; rfl, hb⟩

theorem slv_at {w : World} {b : Nat} {vs : List Value} {e : TypeId} {m : Nat × Nat} (h : w.heap[b]? = some (.cells vs.toArray e m)) : SlV w (some ⟨b, 0, none⟩) vs := by
  intro j v hj
  refine ⟨b, 0, rfl, ?_⟩
  rw [cell_of_row _ _ _ _ _ _ h]
  simpa using hj

theorem below_al {B : Nat} {a w : World} (h : Below B a w) (hB : B ≤ w.heap.size) (o : Obj) : Below B a (w.alloc o) := h.alloc hB o

theorem heap_al (w : World) (o : Obj) : (w.alloc o).heap = w.heap.push o := rfl
theorem heap_dr (w : World) (n : Nat) : (w.drewN n).heap = w.heap := rfl

theorem size_al (w : World) (o : Obj) : (w.alloc o).heap.size = w.heap.size + 1 := by simp

end Go.Proofs.Ytfofabbnbmieoaa

/- Plain facts about lit.Holds and lit.Check. -/
namespace Go.Proofs.Ytfofabbnbmieoaa
open Go.RowKit

end Go.Proofs.Ytfofabbnbmieoaa

/- Plain definitions about formulas: what cnf.Check and cnf.First return. -/
namespace Go.Proofs.Ytfofabbnbmieoaa
open Go.RowKit

/-- cnf.Check. -/
def cnfCheck (n : Int) (f : List (List Int)) : Int :=
  if n < 0 ∨ 1048576 < n then 3 else if 1048576 < f.length then 5 else match f.find? (fun c => litCheck n c != 0) with | some c => litCheck n c | none => 0

/-- The index of the first clause that does not hold. -/
def firstIdx (m : List Bool) (f : List (List Int)) : Int := match f.findIdx? (fun c => !holdsB m c) with | some i => i | none => -1

/-- cnf.First: the index and the error. -/
def cnfFirst (n : Int) (f : List (List Int)) (m : List Bool) : Int × Int :=
  if cnfCheck n f ≠ 0 then (0, cnfCheck n f) else if (m.length : Int) ≠ n then (0, 2) else (firstIdx m f, 0)

theorem cnfCheck_range {n : Int} {f : List (List Int)} (h : n < 0 ∨ 1048576 < n) : cnfCheck n f = 3 := by simp [cnfCheck, h]
theorem cnfCheck_long {n : Int} {f : List (List Int)} (h : 0 ≤ n ∧ n ≤ 1048576) (hl : (1048576 : Int) < f.length) : cnfCheck n f = 5 := by
  unfold cnfCheck; rw [if_neg (by omega), if_pos (by omega)]
theorem cnfCheck_find {n : Int} {f : List (List Int)} (h : 0 ≤ n ∧ n ≤ 1048576) (hl : (f.length : Int) ≤ 1048576) : cnfCheck n f = match f.find? (fun c => litCheck n c != 0) with | some c => litCheck n c | none => 0 := by
  unfold cnfCheck; rw [if_neg (by omega), if_neg (by omega)]

/-- No clause before k has an error. -/
theorem find_none_take {α : Type} {p : α → Bool} {f : List α} {k : Nat} (hk : ¬ k < f.length) (h : (f.take k).any p = false) : f.find? p = none := by
  rw [List.take_of_length_le (by omega)] at h
  rw [List.find?_eq_none]
  intro x hx
  rw [List.any_eq_false] at h
  exact h x hx

theorem find_some_take {α : Type} {p : α → Bool} {f : List α} {k : Nat} {c : α} (hc : f[k]? = some c) (h : (f.take k).any p = false) (hp : p c = true) : f.find? p = some c := by
  obtain ⟨hk, rfl⟩ := List.getElem?_eq_some_iff.1 hc
  rw [List.find?_eq_some_iff_getElem]
  refine ⟨hp, k, hk, rfl, fun j hj => ?_⟩
  rw [List.any_eq_false] at h
  have := h f[j] (List.mem_take_iff_getElem.2 ⟨j, by omega, rfl⟩)
  simpa using this

theorem findIdx_none_take {α : Type} {p : α → Bool} {f : List α} {k : Nat} (hk : ¬ k < f.length) (h : (f.take k).any p = false) : f.findIdx? p = none := by
  rw [List.take_of_length_le (by omega)] at h
  rw [List.findIdx?_eq_none_iff]
  intro x hx
  rw [List.any_eq_false] at h
  simpa using h x hx

theorem findIdx_some_take {α : Type} {p : α → Bool} {f : List α} {k : Nat} {c : α} (hc : f[k]? = some c) (h : (f.take k).any p = false) (hp : p c = true) : f.findIdx? p = some k := by
  obtain ⟨hk, rfl⟩ := List.getElem?_eq_some_iff.1 hc
  rw [List.findIdx?_eq_some_iff_getElem]
  refine ⟨hk, hp, fun j hj => ?_⟩
  rw [List.any_eq_false] at h
  have := h f[j] (List.mem_take_iff_getElem.2 ⟨j, by omega, rfl⟩)
  simpa using this

theorem cnfCheck_bad {n e : Int} {f : List (List Int)} {k : Nat} {c : List Int} (h : 0 ≤ n ∧ n ≤ 1048576) (hl : (f.length : Int) ≤ 1048576) (hc : f[k]? = some c) (hr : (f.take k).any (fun c => litCheck n c != 0) = false)
    (he : litCheck n c = e) (h0 : (e != 0) = true) : cnfCheck n f = e := by
  rw [cnfCheck_find h hl, find_some_take hc hr (by rw [he]; exact h0)]; exact he

theorem cnfCheck_ok {n : Int} {f : List (List Int)} {k : Nat} (h : 0 ≤ n ∧ n ≤ 1048576) (hl : (f.length : Int) ≤ 1048576) (hk : ¬ k < f.length) (hr : (f.take k).any (fun c => litCheck n c != 0) = false) : cnfCheck n f = 0 := by
  rw [cnfCheck_find h hl, find_none_take hk hr]

theorem firstIdx_at {m : List Bool} {f : List (List Int)} {k : Nat} {c : List Int} (hc : f[k]? = some c) (hr : (f.take k).any (fun c => !holdsB m c) = false) (hh : holdsB m c = false) : firstIdx m f = k := by
  unfold firstIdx; rw [findIdx_some_take hc hr (by simp [hh])]

theorem firstIdx_none {m : List Bool} {f : List (List Int)} {k : Nat} (hk : ¬ k < f.length) (hr : (f.take k).any (fun c => !holdsB m c) = false) : firstIdx m f = -1 := by
  unfold firstIdx; rw [findIdx_none_take hk hr]

end Go.Proofs.Ytfofabbnbmieoaa

/- The contracts of weepholelaw02.Small, cnf.Check and the reference's Check of layer 2. -/
namespace Go.Proofs.Ytfofabbnbmieoaa
open Go.RowKit

/-- The slice with the address 'a' reads as the lists 'f'. -/
def Rws (w : World) (a : Option Addr) (f : List (List Int)) : Prop :=
  ∀ j c, f[j]? = some c → ∃ b off v, a = some ⟨b, off, none⟩ ∧ w.cell? ⟨b, off + j, none⟩ = some v ∧ SlI w v c

theorem Rws.below {w w' : World} {a : Option Addr} {f : List (List Int)} (h : Rws w a f) (hb : Below w.heap.size w w') : Rws w' a f :=
  fun j c hj => let ⟨b, off, v, h1, h2, h3⟩ := h j c hj; ⟨b, off, v, h1, below_keeps hb _ _ h2, h3.below hb⟩

/-- Every clause is of ints, and none is too long for an int. -/
def FOk (f : List (List Int)) : Prop := ∀ c ∈ f, (∀ x ∈ c, I64 x) ∧ c.length ≤ 9223372036854775807

theorem Rws.row {w : World} {a : Option Addr} {f : List (List Int)} (h : Rws w a f) (hf : FOk f) {k : Nat} (hk : k < f.length) :
    ∃ b off c a' c', a = some ⟨b, off, none⟩ ∧ w.cell? ⟨b, off + k, none⟩ = some (.slice a' c.length c') ∧ SlV w a' (ints c) ∧ f[k]? = some c ∧ (∀ x ∈ c, I64 x) ∧ c.length ≤ 9223372036854775807 ∧ c.length ≤ c' ∧ (a' = none → c' = 0) := by
  obtain ⟨b, off, v, h1, h2, a', c', rfl, h3, h4, h5⟩ := h k f[k] (by simp [hk])
  have := hf f[k] (by simp)
  exact ⟨b, off, f[k], a', c', h1, h2, h5, by simp [hk], this.1, this.2, h3, h4⟩

/-- The struct's box. -/
abbrev fbox (n : Int) (a : Option Addr) (m c : Nat) : Obj := .cells #[.int .i64 n, .slice a m c] 34

theorem box_below (w : World) (o : Obj) : Below w.heap.size w (w.alloc o) := below_al (Below.refl _ _) (Nat.le_refl _) _

set_option maxHeartbeats 1000000 in
theorem cnf_Check (n : Int) (a : Option Addr) (f : List (List Int)) (m c : Nat) (w : World) (hm : m = f.length) (hf : FOk f) (hr : Rws w a f) (hl : f.length ≤ 9223372036854775807) :
    Calls Try.prog 21 #[.agg #[.int .i64 n, .slice a m c]] w fun e w' => e = .returned (.int .i64 (cnfCheck n f)) ∧ w.alloc (fbox n a m c) = w' := by
  subst hm
  have HF := hid hf
  have HR := hid (hr.below (box_below w (fbox n a f.length c)))
  clear hf hr
  go_enter Try.func21, Try.ntmps21
  go_wp2_with fail
  refine wp_scope_jumps 0 (fun a' w' => w' = w.alloc (fbox n a f.length c) ∧ ∃ u0 u1 u2 u3 u4 u5 u6 u7 u8 u9 u10 u11 u12 u13 u14 u15 u16 u17 u18 u19 u20 u21 u22 u23 u24 u25 u26 u27 u28 u29 u30 u31 : Value, a' = ⟨#[u0, u1, u2, u3, u4, u5, u6, u7, u8, u9, u10, u11, u12, u13, u14, u15, u16, u17, u18, u19, u20, u21, u22, u23, u24, u25, u26, u27, u28, u29, u30, u31], []⟩ ∧ u2 = .int .i64 (cnfCheck n f)) (fun _ _ => 0) (by rfl) ?_ ?_
  · by_cases h0 : n < 0
    · go_wp2_with fail
      simp only [Exit.jump]
      go_ret
      exact ⟨by rw [cnfCheck_range (Or.inl h0)]; rfl, rfl⟩
    · by_cases h1 : 1048576 < n
      · go_wp2_with fail
        simp only [Exit.jump]
        go_ret
        exact ⟨by rw [cnfCheck_range (Or.inr h1)]; rfl, rfl⟩
      · have hn : 0 ≤ n ∧ n ≤ 1048576 := by omega
        have HN := hid hn
        by_cases h2 : (1048576 : Int) < f.length
        · go_wp2_with fail
          simp only [Exit.jump]
          go_ret
          exact ⟨by rw [cnfCheck_long HN.out h2]; rfl, rfl⟩
        · have hl2 : (f.length : Int) ≤ 1048576 := by omega
          go_wp2_with fail
          go_loop [20] (fun i => ∃ k : Nat, k ≤ f.length ∧ i = .int .i64 k ∧ Hid ((f.take k).any (fun c => litCheck n c != 0) = false)) (fun i => f.length - (intOf i).toNat)
          case atStart => exact ⟨0, Nat.zero_le _, rfl, rfl⟩
          case round =>
            obtain ⟨k, hk, rfl, hrel⟩ := hrel
            by_cases hlt : k < f.length
            · obtain ⟨b, off, c1, a1, cc1, rfl, hcell, hsl, hc1, hx1, hl1, -, -⟩ := HR.out.row HF.out hlt
              have HC := hid hc1
              have HS := hid hsl
              have HX := hid hx1
              obtain ⟨e1, he1⟩ : ∃ e1, litCheck n c1 = e1 := ⟨_, rfl⟩
              have HE := hid he1
              clear hc1 hsl hx1 he1
              by_cases hz : e1 = 0
              · have hz' : (e1 != 0) = false := by simp [hz]
                have HZ := hid hz
                clear hz
                go_wp2_with (go_at_call 15; refine (lit_CheckR n _ c1 _ _ _ _ HE.out rfl HX.out HS.out hl1).mono ?_; rintro e w' ⟨rfl, rfl⟩)
                go_round
                case rel => exact ⟨k + 1, by omega, by go_num, take_any_succ HC.out hrel (by simp [HE.out, HZ.out])⟩
                case measure => simp [intOf]; omega
              · have hz' : (e1 != 0) = true := by simp [hz]
                have HB := hid (cnfCheck_bad HN.out hl2 HC.out hrel HE.out hz')
                clear hz
                go_wp2_with (go_at_call 15; refine (lit_CheckR n _ c1 _ _ _ _ HE.out rfl HX.out HS.out hl1).mono ?_; rintro e w' ⟨rfl, rfl⟩)
                go_step3
                simp only [Exit.then, Exit.inBlock]
                refine ⟨rfl, ?_⟩
                refine ⟨rfl, ?_⟩
                repeat (apply Exists.intro)
                exact ⟨rfl, by rw [HB.out]⟩
            · go_wp2_with fail
              simp only [Exit.jump]
              go_ret
              exact ⟨by rw [cnfCheck_ok HN.out hl2 hlt hrel]; rfl, rfl⟩
  · rintro a' w' ⟨rfl, u0, u1, u2, u3, u4, u5, u6, u7, u8, u9, u10, u11, u12, u13, u14, u15, u16, u17, u18, u19, u20, u21, u22, u23, u24, u25, u26, u27, u28, u29, u30, u31, rfl, rfl⟩
    go_wp2_with fail
    simp only [Exit.jump]
    go_ret
    exact ⟨rfl, rfl⟩

end Go.Proofs.Ytfofabbnbmieoaa

/- The contracts of cnf.First and the reference's Check and First of layer 2. -/
namespace Go.Proofs.Ytfofabbnbmieoaa
open Go.RowKit

theorem cnfFirst_err {n e : Int} {f : List (List Int)} {m : List Bool} (h : cnfCheck n f = e) (h0 : (e != 0) = true) : cnfFirst n f m = (0, e) := by
  have : e ≠ 0 := by simpa using h0
  unfold cnfFirst; rw [if_pos (by rw [h]; exact this), h]
theorem cnfFirst_arg {n : Int} {f : List (List Int)} {m : List Bool} (h : cnfCheck n f = 0) (h0 : ((m.length : Int) != n) = true) : cnfFirst n f m = (0, 2) := by
  unfold cnfFirst; rw [if_neg (by simp [h]), if_pos (by simpa using h0)]
theorem cnfFirst_idx {n : Int} {f : List (List Int)} {m : List Bool} (h : cnfCheck n f = 0) (h0 : ((m.length : Int) != n) = false) : cnfFirst n f m = (firstIdx m f, 0) := by
  unfold cnfFirst; rw [if_neg (by simp [h]), if_neg (by simpa using h0)]

theorem cnf_CheckR (n : Int) (a : Option Addr) (f : List (List Int)) (m c : Nat) (e : Int) (w : World) (he : cnfCheck n f = e) (hm : m = f.length) (hf : FOk f) (hr : Rws w a f) (hl : f.length ≤ 9223372036854775807) :
    Calls Try.prog 21 #[.agg #[.int .i64 n, .slice a m c]] w fun x w' => x = .returned (.int .i64 e) ∧ w.alloc (fbox n a m c) = w' := he ▸ cnf_Check n a f m c w hm hf hr hl

set_option maxHeartbeats 1000000 in
theorem cnf_First (n : Int) (a : Option Addr) (f : List (List Int)) (lf c : Nat) (am : Option Addr) (m : List Bool) (lm cm : Nat) (w : World) (hlf : lf = f.length) (hlm : lm = m.length) (hf : FOk f) (hr : Rws w a f) (hm : SlV w am (bools m))
    (hl : f.length ≤ 9223372036854775807) (hl2 : m.length ≤ 9223372036854775807) :
    Calls Try.prog 22 #[.agg #[.int .i64 n, .slice a lf c], .slice am lm cm] w fun x w' =>
      x = .returned (.tuple #[.int .i64 (cnfFirst n f m).1, .int .i64 (cnfFirst n f m).2]) ∧ Below w.heap.size w w' := by
  subst hlf
  subst hlm
  have HF := hid hf
  obtain ⟨e1, he1⟩ : ∃ e1, cnfCheck n f = e1 := ⟨_, rfl⟩
  have HE := hid he1
  have HR1 := hid (hr.below (box_below w (fbox n a f.length c)))
  have hb2 : Below w.heap.size w ((w.alloc (fbox n a f.length c)).alloc (fbox n a f.length c)) := below_al (box_below _ _) (by simp only [size_al]; omega) _
  have HR2 := hid (hr.below hb2)
  have HM2 := hid (hm.below hb2)
  have HB2 := hid hb2
  clear hf hr hm he1 hb2
  by_cases hz : e1 = 0
  · have hz' : (e1 != 0) = false := by simp [hz]
    have HZ : Hid (cnfCheck n f = 0) := by rw [HE.out, hz]; rfl
    clear hz
    cases hlen : ((m.length : Int) != n) with
    | true =>
      have HG := hid (cnfFirst_arg HZ.out hlen)
      go_enter Try.func22, Try.ntmps22
      go_wp2_with (go_at_call 21; refine (cnf_CheckR n _ f _ _ _ _ HE.out rfl HF.out HR1.out hl).mono ?_; rintro e w' ⟨rfl, rfl⟩)
      go_ret2
      exact ⟨by rw [HG.out]; rfl, HB2.out⟩
    | false =>
      have HG := hid (cnfFirst_idx HZ.out hlen)
      go_enter Try.func22, Try.ntmps22
      go_wp2_with (go_at_call 21; refine (cnf_CheckR n _ f _ _ _ _ HE.out rfl HF.out HR1.out hl).mono ?_; rintro e w' ⟨rfl, rfl⟩)
      go_loop [22] (fun i => ∃ k : Nat, k ≤ f.length ∧ i = .int .i64 k ∧ Hid ((f.take k).any (fun c => !holdsB m c) = false)) (fun i => f.length - (intOf i).toNat)
      case atStart => exact ⟨0, Nat.zero_le _, rfl, rfl⟩
      case round =>
        obtain ⟨k, hk, rfl, hrel⟩ := hrel
        by_cases hlt : k < f.length
        · obtain ⟨b, off, c1, a1, cc1, rfl, hcell, hsl, hc1, hx1, hl1, -, -⟩ := HR2.out.row HF.out hlt
          have HC := hid hc1
          have HS := hid hsl
          have HX := hid hx1
          obtain ⟨r1, hr1⟩ : ∃ r1, holdsB m c1 = r1 := ⟨_, rfl⟩
          have HH := hid hr1
          clear hc1 hsl hx1 hr1
          cases r1 with
          | true =>
            go_wp2_with (go_at_call 16; refine (lit_HoldsR _ m _ _ _ c1 _ _ _ _ HH.out rfl rfl HM2.out HX.out HS.out hl1 hl2).mono ?_; rintro e w' ⟨rfl, rfl⟩)
            go_round
            case rel => exact ⟨k + 1, by omega, by go_num, take_any_succ HC.out hrel (by simp [HH.out])⟩
            case measure => simp [intOf]; omega
          | false =>
            have HI := hid (firstIdx_at HC.out hrel HH.out)
            go_wp2_with (go_at_call 16; refine (lit_HoldsR _ m _ _ _ c1 _ _ _ _ HH.out rfl rfl HM2.out HX.out HS.out hl1 hl2).mono ?_; rintro e w' ⟨rfl, rfl⟩)
            go_ret2
            exact ⟨by rw [HG.out, HI.out]; rfl, HB2.out⟩
        · have HI := hid (firstIdx_none hlt hrel)
          go_wp2_with fail
          go_ret2
          exact ⟨by rw [HG.out, HI.out]; rfl, HB2.out⟩
  · have hz' : (e1 != 0) = true := by simp [hz]
    have HG := hid (cnfFirst_err (m := m) HE.out hz')
    clear hz
    go_enter Try.func22, Try.ntmps22
    go_wp2_with (go_at_call 21; refine (cnf_CheckR n _ f _ _ _ _ HE.out rfl HF.out HR1.out hl).mono ?_; rintro e w' ⟨rfl, rfl⟩)
    go_ret2
    exact ⟨by rw [HG.out]; rfl, HB2.out⟩

end Go.Proofs.Ytfofabbnbmieoaa

/- The contracts of the reference's First of layer 2, and of weepholelaw02.three and known. -/
namespace Go.Proofs.Ytfofabbnbmieoaa
open Go.RowKit

theorem sli_of_block {w : World} {b n : Nat} {e : TypeId} {xs : List Int} {m : Nat × Nat} (h : w.heap[b]? = some (.cells (ints xs).toArray e m)) (hn : n = xs.length) : SlI w (.slice (some ⟨b, 0, none⟩) n n) xs :=
  ⟨some ⟨b, 0, none⟩, n, by rw [hn], by omega, nofun, slv_at h⟩

end Go.Proofs.Ytfofabbnbmieoaa

/- Rows of rows of the call's own. -/
namespace Go.Proofs.Ytfofabbnbmieoaa
open Go.RowKit

theorem info_ints : (Try.prog.info? 22).map (fun i => (i.zero, i.size, i.bytes)) = some (some (.slice none 0 0), 1, 24) := by kernel_rfl

/-- The slice value 'v' is a row of the call's own (from B on) of the lists 'f', each a row of the call's own. -/
def OwnRw (w : World) (B : Nat) (v : Value) (f : List (List Int)) : Prop :=
  ∃ vs, w.ownsRow B 22 1 v f.length vs ∧ ∀ (j : Nat) (c : List Int), f[j]? = some c → ∃ u, vs[j]? = some u ∧ w.ownsRow B 3 1 u c.length (ints c)

theorem fit_cell {w : World} {b : Nat} {e : TypeId} {vs : List Value} {m : Nat × Nat} (h : w.heap[b]? = some (.cells vs.toArray e m)) (j : Nat) : w.cell? ⟨b, j, none⟩ = vs[j]? := by
  rw [cell_of_row _ _ _ _ _ _ h]; simp

theorem own_below {w w' : World} {B e s n : Nat} {v : Value} {xs : List Value} (h : w.ownsRow B e s v n xs) (hb : Below w.heap.size w w') : w'.ownsRow B e s v n xs := by
  refine ⟨h.1, ?_⟩
  rcases h.2 with h0 | ⟨g, cap, cur, e1, e2, e3, e4⟩
  · exact .inl h0
  · exact .inr ⟨g, cap, cur, e1, e2, by rw [hb.block g (Array.getElem?_eq_some_iff.1 e3).1]; exact e3, e4⟩

theorem own_apart {w : World} {B B' e e' s s' n n' : Nat} {v v' : Value} {xs xs' : List Value} (h : w.ownsRow B e s v n xs) (h' : w.ownsRow B' e' s' v' n' xs') (hne : e ≠ e') : v.ownBlock = none ∨ v.ownBlock ≠ v'.ownBlock := by
  rcases h.2 with ⟨rfl, _⟩ | ⟨g, cap, cur, rfl, _, hg, _⟩
  · exact .inl rfl
  · rcases h'.2 with ⟨rfl, _⟩ | ⟨g', cap', cur', rfl, _, hg', _⟩
    · exact .inr (by simp [Value.ownBlock])
    · refine .inr fun he => ?_
      simp only [Value.ownBlock, Option.some.injEq] at he
      rw [he, hg'] at hg
      simp at hg
      exact hne hg.2.symm

/-- One element of a slice of ints of the kind k. -/
theorem SlV.intK {w : World} {a : Option Addr} {xs : List Int} {k : IntKind} (h : SlV w a (xs.map (Value.int k))) {j : Nat} (hj : j < xs.length) :
    ∃ b off x, a = some ⟨b, off, none⟩ ∧ w.cell? ⟨b, off + j, none⟩ = some (.int k x) ∧ xs[j]? = some x := by
  obtain ⟨b, off, ha, hc⟩ := h j (.int k xs[j]) (by simp [hj])
  exact ⟨b, off, xs[j], ha, hc, by simp [hj]⟩

theorem own_not {w : World} {B e s n k : Nat} {v : Value} {xs : List Value} (h : w.ownsRow B e s v n xs) (hk : k < B) : some k ≠ v.ownBlock := by
  intro he
  have := h.lt k he.symm
  omega

theorem OwnRw.below {w w' : World} {B : Nat} {v : Value} {f : List (List Int)} (h : OwnRw w B v f) (hb : Below w.heap.size w w') : OwnRw w' B v f :=
  let ⟨vs, h1, h2⟩ := h; ⟨vs, own_below h1 hb, fun j c hj => let ⟨u, e1, e2⟩ := h2 j c hj; ⟨u, e1, own_below e2 hb⟩⟩

theorem OwnRw.base {w : World} {B B' : Nat} {v : Value} {f : List (List Int)} (h : OwnRw w B v f) (hB : B' ≤ B) : OwnRw w B' v f :=
  let ⟨vs, h1, h2⟩ := h; ⟨vs, own_base h1 hB, fun j c hj => let ⟨u, e1, e2⟩ := h2 j c hj; ⟨u, e1, own_base e2 hB⟩⟩

theorem OwnRw.setBelow {w : World} {B : Nat} {v : Value} {f : List (List Int)} (h : OwnRw w B v f) {a : Addr} (ha : a.block < B) (u : Value) : OwnRw (w.setCell a u) B v f :=
  let ⟨vs, h1, h2⟩ := h; ⟨vs, ownsRow_setCell_below h1 ha u, fun j c hj => let ⟨x, e1, e2⟩ := h2 j c hj; ⟨x, e1, ownsRow_setCell_below e2 ha u⟩⟩

/-- A row appended. -/
theorem OwnRw.push {w w' : World} {B : Nat} {v v' x : Value} {f : List (List Int)} {c : List Int} {vs : List Value} (h1 : w.ownsRow B 22 1 v f.length vs)
    (h2 : ∀ (j : Nat) (c : List Int), f[j]? = some c → ∃ u, vs[j]? = some u ∧ w.ownsRow B 3 1 u c.length (ints c)) (hx : w.ownsRow B 3 1 x c.length (ints c))
    (h' : w'.ownsRow B 22 1 v' (f.length + 1) (vs ++ [x])) (hg : w.grownBy w' v.ownBlock) : OwnRw w' B v' (f ++ [c]) := by
  have hl : vs.length = f.length := by have := h1.1; omega
  refine ⟨vs ++ [x], by simpa using h', fun j d hj => ?_⟩
  rcases Nat.lt_or_ge j f.length with hlt | hge
  · rw [List.getElem?_append_left hlt] at hj
    obtain ⟨u, e1, e2⟩ := h2 j d hj
    exact ⟨u, by rw [List.getElem?_append_left (by omega)]; exact e1, e2.kept hg (own_apart e2 h1 (by decide))⟩
  · rw [List.getElem?_append_right hge] at hj
    have hj0 : j - f.length = 0 := by
      rcases Nat.eq_zero_or_pos (j - f.length) with h0 | h0
      · exact h0
      · rw [List.getElem?_eq_none (by simp; omega)] at hj; cases hj
    rw [hj0] at hj
    simp at hj
    subst hj
    exact ⟨x, by rw [List.getElem?_append_right (by omega), hl, hj0]; rfl, hx.kept hg (own_apart hx h1 (by decide))⟩

theorem OwnRw.shape {w : World} {B : Nat} {v : Value} {f : List (List Int)} (h : OwnRw w B v f) : ∃ a c, v = .slice a f.length c ∧ f.length ≤ c ∧ (a = none → c = 0) ∧ Rws w a f := by
  obtain ⟨vs, h1, h2⟩ := h
  obtain ⟨a, c, e1, e2, e3, e4⟩ := own_sl h1
  have hl : vs.length = f.length := by have := h1.1; omega
  rw [hl] at e1 e2
  refine ⟨a, c, e1, e2, e3, fun j d hj => ?_⟩
  obtain ⟨u, g1, g2⟩ := h2 j d hj
  obtain ⟨b, off, k1, k2⟩ := e4 j u g1
  exact ⟨b, off, u, k1, k2, own_sli g2⟩

end Go.Proofs.Ytfofabbnbmieoaa

/- append kept shut while the walk goes, so that an equation laid ahead of the walk tells what it gives: also inside regions whose order is open. -/
namespace Go.Proofs.Ytfofabbnbmieoaa.Ord
open Go.RowKit

/-- append, kept shut. -/
def appM (ats : Array TypeId) (ty : TypeId) (args : Array Value) : Sem Value := Builtin.append_ ats ty args

theorem app_mark (ats : Array TypeId) (ty : TypeId) (cs : Array Bool) (args : Array Value) : builtin .append ats ty cs args = (do pure (.value (← appM ats ty args))) := rfl

/-- One element that was laid into a block of its own. -/
theorem appM_one {P : Program} (w : World) (base : Nat) (t ty e : TypeId) (i : TypeInfo) (z : Value) (bytes : Nat) (ht : P.underlying t = some (.slice e)) (hi : P.info? e = some i) (hz : i.zero = some z)
    (hsize : i.size = 1) (hby : i.bytes = bytes) (hzs : z.cells.size = 1)
    (v : Value) (n : Nat) (xs : List Value) (hown : w.ownsRow base e 1 v n xs)
    (g : Nat) (u : Value) (hc : w.heap[g]? = some (.cells #[u] e (0, 0))) (h1 : u.oneCell' = true)
    (h63 : n + 1 ≤ maxLen) (hbytes : (n + 1) * bytes ≤ 140737488355328) (hbase : base ≤ w.heap.size) :
    ∃ a' c' w', (appM #[t, t] ty #[v, .slice (some ⟨g, 0, none⟩) 1 1]).run P w = .ok (.slice a' (n + 1) c') w' ∧ w'.ownsRow base e 1 (.slice a' (n + 1) c') (n + 1) (xs ++ [u]) ∧ w.grownBy w' v.ownBlock ∧ ((Value.slice a' (n + 1) c').ownBlock = v.ownBlock ∨ (Value.slice a' (n + 1) c').ownBlock = some w.heap.size) := by
  have hnews : ∀ j y, [u][j]? = some y → w.cell? ((⟨g, 0, none⟩ : Addr).add j) = some y := by
    intro j y hj
    match j, hj with
    | 0, hj =>
      simp at hj
      subst hj
      simp [World.cell?, Addr.add, hc]
  obtain ⟨v', w', hr, h2, h3, -, h4⟩ := run_append_own_at (P := P) w base t ty e i z 1 bytes ht hi hz hsize hby hzs (by decide) v n xs hown ⟨g, 0, none⟩ 1 1 [u] rfl hnews (fun x hx => by simp at hx; subst hx; exact h1) h63 hbytes hbase
  obtain ⟨a', c', rfl⟩ := own_lenV' h2
  exact ⟨a', c', w', hr, h2, h3, h4⟩

/-- A block of another type is not the row's. -/
theorem own_ty {w : World} {B e s n g : Nat} {v : Value} {xs : List Value} {cs : Array Value} {t : TypeId} {m : Nat × Nat} (ho : w.ownsRow B e s v n xs) (hg : w.heap[g]? = some (.cells cs t m)) (ht : t ≠ e) : some g ≠ v.ownBlock := by
  intro h
  rcases ho.2 with ⟨rfl, _⟩ | ⟨g', cap, cur, rfl, _, hg', _⟩
  · cases h
  · injection h with h
    have h : g = g' := h
    rw [← h, hg] at hg'
    injection hg' with hg'
    injection hg' with _ hg' _
    exact ht hg'

theorem own_setO {w : World} {B e s n b : Nat} {v : Value} {xs : List Value} {cs : Array Value} {t : TypeId} {m : Nat × Nat} (ho : w.ownsRow B e s v n xs) (hb : w.heap[b]? = some (.cells cs t m)) (ht : t ≠ e) (j : Nat) (u : Value) : (w.setCell ⟨b, j, none⟩ u).ownsRow B e s v n xs :=
  own_frame0 ho fun g hg => heap_setCell_other w ⟨b, j, none⟩ g u (by
    show g ≠ b
    rintro rfl
    exact own_ty ho hb ht hg.symm)

/-! ### What an append leaves: w1 is the world in which it runs, behind w by new blocks and draws. -/

theorem blk_app {w w1 w6 : World} {B e s n g : Nat} {v : Value} {xs : List Value} {cs : Array Value} {t : TypeId} {m : Nat × Nat} (h1 : Below w.heap.size w w1) (ho : w.ownsRow B e s v n xs) (hg : w1.grownBy w6 v.ownBlock) (hb : w.heap[g]? = some (.cells cs t m)) (ht : t ≠ e) : w6.heap[g]? = some (.cells cs t m) :=
  have hl := (Array.getElem?_eq_some_iff.1 hb).1
  (hg.block g (Nat.lt_of_lt_of_le hl h1.size) (own_ty ho hb ht)).trans ((h1.block g hl).trans hb)

theorem below_app {w0 w w1 w6 : World} {B e s n : Nat} {v : Value} {xs : List Value} (hB : Below B w0 w) (hw : B ≤ w.heap.size) (h1 : Below w.heap.size w w1) (ho : w.ownsRow B e s v n xs) (hg : w1.grownBy w6 v.ownBlock) : Below B w0 w6 :=
  (hB.trans (h1.mono hw)).grown hg (Nat.le_trans hw h1.size) (fun q hq => (ho.lt q hq).1)

end Go.Proofs.Ytfofabbnbmieoaa.Ord

/- append kept shut, whatever the source; a slice of the call's own cut short; its size in memory. -/
namespace Go.Proofs.Ytfofabbnbmieoaa.Ord
open Go.RowKit

theorem appM_sl {P : Program} (w : World) (base : Nat) (t ty e : TypeId) (i : TypeInfo) (z : Value) (bytes : Nat) (ht : P.underlying t = some (.slice e)) (hi : P.info? e = some i) (hz : i.zero = some z)
    (hsize : i.size = 1) (hby : i.bytes = bytes) (hzs : z.cells.size = 1)
    (v : Value) (n : Nat) (xs : List Value) (hown : w.ownsRow base e 1 v n xs)
    (a : Option Addr) (m c : Nat) (news : List Value) (hs : SlV w a news) (hm : m = news.length) (hc : a = none → c = 0) (h1 : ∀ u ∈ news, u.oneCell' = true)
    (h63 : n + m ≤ maxLen) (hbytes : (n + m) * bytes ≤ 140737488355328) (hbase : base ≤ w.heap.size) :
    ∃ a' c' w', (appM #[t, t] ty #[v, .slice a m c]).run P w = .ok (.slice a' (n + m) c') w' ∧ w'.ownsRow base e 1 (.slice a' (n + m) c') (n + m) (xs ++ news) ∧ w.grownBy w' v.ownBlock ∧ ((Value.slice a' (n + m) c').ownBlock = v.ownBlock ∨ (Value.slice a' (n + m) c').ownBlock = some w.heap.size) := by
  cases a with
  | some ad =>
    obtain ⟨v', w', hr, h2, h3, -, h4⟩ := run_append_own_at (P := P) w base t ty e i z 1 bytes ht hi hz hsize hby hzs (by decide) v n xs hown ad m c news (by omega) hs.cells h1 h63 hbytes hbase
    obtain ⟨a', c', rfl⟩ := own_lenV' h2
    exact ⟨a', c', w', hr, h2, h3, h4⟩
  | none =>
    have hn : news = [] := by
      cases news with
      | nil => rfl
      | cons u us => obtain ⟨b, off, he, -⟩ := hs 0 u rfl; cases he
    subst hn
    have hm0 : m = 0 := hm
    subst hm0
    rw [hc rfl]
    obtain ⟨a', c', rfl⟩ := own_lenV' hown
    exact ⟨a', c', w, run_append_owned_none (P := P) (w := w) base t ty e i 1 ht hi _ n xs hown, by simpa using hown, ⟨rfl, rfl, rfl, Nat.le_refl _, fun _ _ _ => rfl⟩, .inl rfl⟩

theorem own_take {w : World} {B e n k : Nat} {a : Option Addr} {c : Nat} {xs : List Value} (h : w.ownsRow B e 1 (.slice a n c) n xs) (hk : k ≤ n) (hn : a = none → k = 0 ∧ c = 0) : w.ownsRow B e 1 (.slice a k c) k (xs.take k) := by
  have hl := h.1
  refine ⟨by simp; omega, ?_⟩
  rcases h.2 with ⟨h0, _⟩ | ⟨g', cap, cur, e1, e2, e3, e4, e5, e6, e7⟩
  · injection h0 with h0 _ _
    subst h0
    obtain ⟨rfl, rfl⟩ := hn rfl
    exact .inl ⟨rfl, rfl⟩
  · injection e1 with a1 a2 a3
    refine .inr ⟨g', cap, cur, by rw [a1, a3], e2, e3, by omega, e5, e6, ?_⟩
    rw [← e7, List.take_take]
    congr 1
    omega

theorem slice_toG {P : Program} {t e : TypeId} {a : Option Addr} {n c : Nat} {k : Int} {m : Nat} (hkm : k = m) (ht : P.underlying t = some (.slice e)) (hsz : ∀ wx, (sizeOf e).run P wx = .ok 1 wx) (h1 : m ≤ c) :
    ∀ wx, (Instr.slice t (.slice a n c) none (some (.int .i64 k)) none).run P wx = .ok (.slice a m c) wx := by
  subst hkm
  intro wx
  have he : P.elem t = e := by simp [Program.elem, ht]
  rw [run_slice_h (P := P) wx t a n c (by rw [he]; exact ht) .i64 m (by omega) (by omega), he, hsz]
  cases a <;> simp [sliced, Result.andThen, Addr.add]

theorem own_cap {w : World} {B e n m c : Nat} {a : Option Addr} {xs : List Value} (h : w.ownsRow B e 1 (.slice a m c) n xs) : n = m ∧ m ≤ c ∧ (a = none → c = 0 ∧ m = 0) := by
  rcases h.2 with ⟨h0, h1⟩ | ⟨g', cap, cur, e1, e2, e3, e4, -⟩
  · injection h0 with h2 h3 h4
    subst h2 h3 h4 h1
    exact ⟨rfl, Nat.le_refl _, fun _ => ⟨rfl, rfl⟩⟩
  · injection e1 with a1 a2 a3
    subst a1 a2 a3
    exact ⟨rfl, e4, nofun⟩

theorem made_list (z : Value) (n : Nat) : madeCells #[z] n = (List.replicate n z).toArray := by
  have h : (madeCells #[z] n).toList = List.replicate n z := by
    simp only [madeCells, Array.toList_map, Array.toList_range]
    apply List.ext_getElem?
    intro i
    by_cases hi : i < n
    · simp [hi, Nat.mod_one]
    · simp [hi]
  rw [← h]

end Go.Proofs.Ytfofabbnbmieoaa.Ord

/- How rup's base lies in memory. -/
namespace Go.Proofs.Ytfofabbnbmieoaa.Ord
open Go.RowKit Go.Conc

/-- What a block of ints of the call's own is for. -/
inductive RT where
  | cls (i : Nat)
  | trl
  | wth (a : Int)
  | kep
  | clr
  | oth

def nnts (l : List Nat) : List Value := l.map fun (t : Nat) => Value.int .i64 (t : Int)

theorem nnts_length (l : List Nat) : (nnts l).length = l.length := by simp [nnts]

/-- A list of numbers in blocks of the kind t: a row of the call's own, or an empty one without room. -/
def WT (t : RT) (tag : Nat → RT) (B : Nat) (w : World) (v : Value) (ns : List Nat) : Prop :=
  ∃ ad cap, v = .slice ad ns.length cap ∧ (ad = none → cap = 0) ∧ ((cap = 0 ∧ ns = []) ∨ (w.ownsRow B 3 1 v ns.length (nnts ns) ∧ ∀ g, v.ownBlock = some g → tag g = t))

/-- A watch list. -/
abbrev WV (tag : Nat → RT) (B : Nat) (w : World) (a : Int) (v : Value) (ns : List Nat) : Prop := WT (.wth a) tag B w v ns

/-- The clauses, each in a block of its own. -/
def CR (tag : Nat → RT) (B : Nat) (w : World) (C : List (List Int)) (us : List Value) : Prop :=
  ∀ (i : Nat) (c : List Int), C[i]? = some c → ∃ g o cap cur, us[i]? = some (.slice (some ⟨g, o, none⟩) c.length cap) ∧ tag g = .cls i ∧ B ≤ g ∧ w.heap[g]? = some (.cells cur 3 (0, 0)) ∧ ∀ (j : Nat) (x : Int), c[j]? = some x → cur[o + j]? = some (.int .i64 x)

structure RM (tag : Nat → RT) (B : Nat) (w0 w : World) (bx bw bk : Nat) (vc vt : Value) (dn : Nat) (C : List (List Int)) (us : List Value) (es : List (Int × Value)) (Wt : Int → List Nat) (K : List Int) : Prop where
  bel : Below B w0 w
  le : B ≤ w.heap.size
  bxB : B ≤ bx
  bwB : B ≤ bw
  bkB : B ≤ bk
  ne : bw ≠ bk
  blk : w.heap[bx]? = some (.cells #[vc, .map (some bw), .map (some bk), vt, .int .i64 dn] 120)
  clr : w.ownsRow B 22 1 vc C.length us
  clt : ∀ g, vc.ownBlock = some g → tag g = .clr
  cls : CR tag B w C us
  tr : w.ownsRow B 3 1 vt K.length (ints K)
  trt : ∀ g, vt.ownBlock = some g → tag g = .trl
  wi : IM w bw es
  wr : ∀ a, WV tag B w a ((aget es a).getD nilS) (Wt a)
  kn : IM w bk (kes K)

section
variable {tag : Nat → RT} {B : Nat} {w0 w : World} {bx bw bk : Nat} {vc vt : Value} {dn : Nat} {C : List (List Int)} {us : List Value} {es : List (Int × Value)} {Wt : Int → List Nat} {K : List Int}

theorem RM.cells (h : RM tag B w0 w bx bw bk vc vt dn C us es Wt K) :
    w.cell? ⟨bx, 0, none⟩ = some vc ∧ w.cell? ⟨bx, 1, none⟩ = some (.map (some bw)) ∧ w.cell? ⟨bx, 2, none⟩ = some (.map (some bk)) ∧ w.cell? ⟨bx, 3, none⟩ = some vt ∧ w.cell? ⟨bx, 4, none⟩ = some (.int .i64 dn) :=
  ⟨fit_cell (vs := [vc, .map (some bw), .map (some bk), vt, .int .i64 dn]) h.blk 0, fit_cell (vs := [vc, .map (some bw), .map (some bk), vt, .int .i64 dn]) h.blk 1, fit_cell (vs := [vc, .map (some bw), .map (some bk), vt, .int .i64 dn]) h.blk 2, fit_cell (vs := [vc, .map (some bw), .map (some bk), vt, .int .i64 dn]) h.blk 3, fit_cell (vs := [vc, .map (some bw), .map (some bk), vt, .int .i64 dn]) h.blk 4⟩

/-- Such a list where other blocks change. -/
theorem WT.frame {t : RT} {tag' : Nat → RT} {w' : World} {v : Value} {ns : List Nat} (h : WT t tag B w v ns) (hk : ∀ g (cur : Array Value), w.heap[g]? = some (.cells cur 3 (0, 0)) → tag g = t → w'.heap[g]? = w.heap[g]? ∧ tag' g = tag g) : WT t tag' B w' v ns := by
  obtain ⟨ad, cap, h1, h2, h3⟩ := h
  refine ⟨ad, cap, h1, h2, h3.imp_right fun ⟨ho, ht⟩ => ⟨own_frame0 ho fun g hg => ?_, fun g hg => ?_⟩⟩
  · obtain ⟨cur, hc⟩ := own_cells ho hg
    exact (hk g cur hc (ht g hg)).1
  · obtain ⟨cur, hc⟩ := own_cells ho hg
    exact ((hk g cur hc (ht g hg)).2).trans (ht g hg)

theorem WT.slv {t : RT} {v : Value} {ns : List Nat} (h : WT t tag B w v ns) : ∃ ad cap, v = .slice ad ns.length cap ∧ SlV w ad (nnts ns) := by
  obtain ⟨ad, cap, h1, h2, h3⟩ := h
  refine ⟨ad, cap, h1, ?_⟩
  rcases h3 with ⟨-, h4⟩ | ⟨h4, -⟩
  · rw [h4]; exact SlV.nil _ _
  · rw [h1] at h4; exact own_slv h4

theorem CR.frame {tag' : Nat → RT} {w' : World} (h : CR tag B w C us) (hk : ∀ g i, g < w.heap.size → tag g = .cls i → w'.heap[g]? = w.heap[g]? ∧ tag' g = tag g) : CR tag' B w' C us := by
  intro i c hc
  obtain ⟨g, o, cap, cur, e1, e2, e3, e4, e5⟩ := h i c hc
  have hl := (Array.getElem?_eq_some_iff.1 e4).1
  obtain ⟨q1, q2⟩ := hk g i hl e2
  exact ⟨g, o, cap, cur, e1, q2.trans e2, e3, q1.trans e4, e5⟩

/-- Blocks of other kinds. -/
theorem RM.apart (h : RM tag B w0 w bx bw bk vc vt dn C us es Wt K) : bx ≠ bw ∧ bx ≠ bk ∧ vc.ownBlock ≠ some bx ∧ vc.ownBlock ≠ some bw ∧ vc.ownBlock ≠ some bk ∧ vt.ownBlock ≠ some bx ∧ vt.ownBlock ≠ some bw ∧ vt.ownBlock ≠ some bk ∧ (∀ g, vc.ownBlock = some g → vt.ownBlock ≠ some g) := by
  obtain ⟨arrk, ck, hkm, -⟩ := h.kn
  obtain ⟨arrw, cw, hwm, -⟩ := h.wi
  have hb := h.blk
  have c1 : ∀ {v : Value} {e m : Nat} {xs : List Value} {g : Nat}, w.ownsRow B e 1 v m xs → v.ownBlock = some g → ∃ cur, w.heap[g]? = some (.cells cur e (0, 0)) := fun ho hg => own_cells ho hg
  refine ⟨fun e => ?_, fun e => ?_, fun e => ?_, fun e => ?_, fun e => ?_, fun e => ?_, fun e => ?_, fun e => ?_, fun g h1 h2 => ?_⟩
  · rw [e, hwm] at hb; cases hb
  · rw [e, hkm] at hb; cases hb
  · obtain ⟨cur, hc⟩ := c1 h.clr e; rw [hb] at hc; simp at hc
  · obtain ⟨cur, hc⟩ := c1 h.clr e; rw [hwm] at hc; cases hc
  · obtain ⟨cur, hc⟩ := c1 h.clr e; rw [hkm] at hc; cases hc
  · obtain ⟨cur, hc⟩ := c1 h.tr e; rw [hb] at hc; simp at hc
  · obtain ⟨cur, hc⟩ := c1 h.tr e; rw [hwm] at hc; cases hc
  · obtain ⟨cur, hc⟩ := c1 h.tr e; rw [hkm] at hc; cases hc
  · obtain ⟨cur, hc⟩ := c1 h.clr h1
    obtain ⟨cur2, hc2⟩ := c1 h.tr h2
    rw [hc] at hc2
    simp at hc2

/-- A block of ints is none of the three. -/
theorem RM.intb (h : RM tag B w0 w bx bw bk vc vt dn C us es Wt K) {g : Nat} {cur : Array Value} (hg : w.heap[g]? = some (.cells cur 3 (0, 0))) : g ≠ bx ∧ g ≠ bw ∧ g ≠ bk ∧ vc.ownBlock ≠ some g := by
  obtain ⟨arrk, ck, hkm, -⟩ := h.kn
  obtain ⟨arrw, cw, hwm, -⟩ := h.wi
  refine ⟨fun e => ?_, fun e => ?_, fun e => ?_, fun e => ?_⟩
  · rw [e, h.blk] at hg; simp at hg
  · rw [e, hwm] at hg; cases hg
  · rw [e, hkm] at hg; cases hg
  · obtain ⟨c2, hc2⟩ := own_cells h.clr e; rw [hg] at hc2; simp at hc2

/-- All that was there is as it was. -/
theorem RM.grow (h : RM tag B w0 w bx bw bk vc vt dn C us es Wt K) {w' : World} (hb : Below w.heap.size w w') {tag' : Nat → RT} (ht : ∀ g, g < w.heap.size → tag' g = tag g) : RM tag' B w0 w' bx bw bk vc vt dn C us es Wt K := by
  have hf : ∀ k, k < w.heap.size → w'.heap[k]? = w.heap[k]? := fun k hk => hb.block k hk
  exact ⟨h.bel.trans (hb.mono h.le), Nat.le_trans h.le hb.size, h.bxB, h.bwB, h.bkB, h.ne, (hf bx (Array.getElem?_eq_some_iff.1 h.blk).1).trans h.blk, own_below h.clr hb, fun g hg => (ht g (h.clr.lt g hg).2).trans (h.clt g hg), h.cls.frame fun g i hg _ => ⟨hf g hg, ht g hg⟩, own_below h.tr hb, fun g hg => (ht g (h.tr.lt g hg).2).trans (h.trt g hg), h.wi.frame (hf bw h.wi.lt), fun a => (h.wr a).frame (fun g cur hg _ => have hl := (Array.getElem?_eq_some_iff.1 hg).1; ⟨hf g hl, ht g hl⟩), h.kn.frame (hf bk h.kn.lt)⟩

/-- What is known, and the trail, change: of what was there only they are touched, and the base's trail and number. -/
theorem RM.known (h : RM tag B w0 w bx bw bk vc vt dn C us es Wt K) {w' : World} {tag' : Nat → RT} {vt' : Value} {dn' : Nat} {K' : List Int} (ht : Touch (fun k => k = bx ∨ k = bk ∨ vt.ownBlock = some k) w w') (htag : ∀ g, g < w.heap.size → tag' g = tag g) (hb : w'.heap[bx]? = some (.cells #[vc, .map (some bw), .map (some bk), vt', .int .i64 dn'] 120)) (htr : w'.ownsRow B 3 1 vt' K'.length (ints K')) (htt : ∀ g, vt'.ownBlock = some g → tag' g = .trl) (hkn : IM w' bk (kes K')) : RM tag' B w0 w' bx bw bk vc vt' dn' C us es Wt K' := by
  obtain ⟨a1, a2, a3, a4, a5, a6, a7, a8, a9⟩ := h.apart
  have hlow : ∀ k, (k = bx ∨ k = bk ∨ vt.ownBlock = some k) → B ≤ k := by
    rintro k (e | e | e)
    · rw [e]; exact h.bxB
    · rw [e]; exact h.bkB
    · exact (h.tr.lt k e).1
  have hk : ∀ g (cur : Array Value), w.heap[g]? = some (.cells cur 3 (0, 0)) → tag g ≠ .trl → w'.heap[g]? = w.heap[g]? := fun g cur hg hn => by
    obtain ⟨q1, q2, q3, q4⟩ := h.intb hg
    refine ht.block g (Array.getElem?_eq_some_iff.1 hg).1 ?_
    rintro (e | e | e)
    · exact q1 e
    · exact q3 e
    · exact hn (h.trt g e)
  refine ⟨h.bel.trans (ht.below h.le hlow), Nat.le_trans h.le ht.size, h.bxB, h.bwB, h.bkB, h.ne, hb, own_frame0 h.clr fun g hg => ht.block g (h.clr.lt g hg).2 ?_, fun g hg => (htag g (h.clr.lt g hg).2).trans (h.clt g hg), fun i c hc => ?_, htr, htt, h.wi.frame (ht.block bw h.wi.lt ?_), fun a => ?_, hkn⟩
  · rintro (e | e | e)
    · exact a3 (e ▸ hg)
    · exact a5 (e ▸ hg)
    · exact a9 g hg e
  · obtain ⟨g, o, cap, cur, e1, e2, e3, e4, e5⟩ := h.cls i c hc
    exact ⟨g, o, cap, cur, e1, (htag g (Array.getElem?_eq_some_iff.1 e4).1).trans e2, e3, (hk g cur e4 (by rw [e2]; nofun)).trans e4, e5⟩
  · rintro (e | e | e)
    · exact a1 e.symm
    · exact h.ne e
    · exact a7 e
  · exact (h.wr a).frame fun g cur hg hw => ⟨hk g cur hg (by rw [hw]; nofun), htag g (Array.getElem?_eq_some_iff.1 hg).1⟩

/-- Blocks of others change. -/
theorem RM.oth (h : RM tag B w0 w bx bw bk vc vt dn C us es Wt K) {w' : World} {tag' : Nat → RT} (hT : Touch (fun k => B ≤ k ∧ k ≠ bx ∧ k ≠ bw ∧ k ≠ bk ∧ (tag k = .oth ∨ tag k = .kep)) w w') (ht : ∀ g, g < w.heap.size → tag' g = tag g) : RM tag' B w0 w' bx bw bk vc vt dn C us es Wt K := by
  have hk : ∀ k, k < w.heap.size → (k = bx ∨ k = bw ∨ k = bk ∨ (tag k ≠ .oth ∧ tag k ≠ .kep)) → w'.heap[k]? = w.heap[k]? := fun k hk hh => hT.block k hk fun ⟨_, q1, q2, q3, q4⟩ => by
    rcases hh with e | e | e | e
    · exact q1 e
    · exact q2 e
    · exact q3 e
    · exact q4.elim e.1 e.2
  refine ⟨h.bel.trans (hT.below h.le fun k hk => hk.1), Nat.le_trans h.le hT.size, h.bxB, h.bwB, h.bkB, h.ne, (hk bx (Array.getElem?_eq_some_iff.1 h.blk).1 (.inl rfl)).trans h.blk, own_frame0 h.clr fun g hg => hk g (h.clr.lt g hg).2 (.inr (.inr (.inr (by rw [h.clt g hg]; exact ⟨nofun, nofun⟩)))), fun g hg => (ht g (h.clr.lt g hg).2).trans (h.clt g hg), h.cls.frame fun g i hg hi => ⟨hk g hg (.inr (.inr (.inr (by rw [hi]; exact ⟨nofun, nofun⟩)))), ht g hg⟩, own_frame0 h.tr fun g hg => hk g (h.tr.lt g hg).2 (.inr (.inr (.inr (by rw [h.trt g hg]; exact ⟨nofun, nofun⟩)))), fun g hg => (ht g (h.tr.lt g hg).2).trans (h.trt g hg), h.wi.frame (hk bw h.wi.lt (.inr (.inl rfl))), fun a => (h.wr a).frame fun g cur hg hw => ⟨hk g (Array.getElem?_eq_some_iff.1 hg).1 (.inr (.inr (.inr (by rw [hw]; exact ⟨nofun, nofun⟩)))), ht g (Array.getElem?_eq_some_iff.1 hg).1⟩, h.kn.frame (hk bk h.kn.lt (.inr (.inr (.inl rfl))))⟩

end

end Go.Proofs.Ytfofabbnbmieoaa.Ord

/- Binary heaps as lists, with no program in sight: the order of variables, sifting up and down. -/
namespace Go.Proofs.Ytfofabbnbmieoaa

/-- A variable's activity. -/
def actv (A : List Int) (v : Int) : Int := A.getD v.toNat 0

/-- a comes before b. -/
def bef (A : List Int) (a b : Int) : Bool := decide (actv A b < actv A a) || (decide (actv A a = actv A b) && decide (a < b))

theorem bef_iff (A : List Int) (a b : Int) : bef A a b = true ↔ actv A b < actv A a ∨ (actv A a = actv A b ∧ a < b) := by simp [bef]
theorem nbef_iff (A : List Int) (a b : Int) : bef A a b = false ↔ actv A a < actv A b ∨ (actv A a = actv A b ∧ b ≤ a) := by
  rw [Bool.eq_false_iff, Ne, bef_iff]; omega

theorem nbef_trans {A : List Int} {a b c : Int} (h : bef A a b = false) (h' : bef A b c = false) : bef A a c = false := by
  rw [nbef_iff] at *; omega
theorem nbef_of_bef {A : List Int} {a b : Int} (h : bef A a b = true) : bef A b a = false := by
  rw [bef_iff] at h; rw [nbef_iff]; omega
theorem nbef_self (A : List Int) (a : Int) : bef A a a = false := by rw [nbef_iff]; omega
theorem bef_total {A : List Int} {a b : Int} (h : bef A a b = false) (h' : bef A b a = false) : a = b := by
  rw [nbef_iff] at *; omega

/-- An element. -/
def at' (I : List Int) (k : Nat) : Int := I.getD k 0

/-- Two elements exchanged. -/
def swp (I : List Int) (i j : Nat) : List Int := (I.set i (at' I j)).set j (at' I i)

theorem swp_length (I : List Int) (i j : Nat) : (swp I i j).length = I.length := by simp [swp]

theorem at'_set {I : List Int} {i k : Nat} {x : Int} (hi : i < I.length) : at' (I.set i x) k = if i = k then x else at' I k := by
  unfold at'
  rw [List.getD_eq_getElem?_getD, List.getD_eq_getElem?_getD, List.getElem?_set]
  split
  · rfl
  · rfl

theorem at'_swp {I : List Int} {i j k : Nat} (hi : i < I.length) (hj : j < I.length) : at' (swp I i j) k = if k = i then at' I j else if k = j then at' I i else at' I k := by
  unfold swp
  rw [at'_set (by simpa using hj), at'_set hi]
  by_cases h1 : j = k
  · subst h1
    by_cases h2 : j = i
    · subst h2; simp
    · simp [h2]
  · by_cases h2 : i = k
    · subst h2; simp [h1]
    · have : ¬ k = i := fun e => h2 e.symm
      have h3 : ¬ k = j := fun e => h1 e.symm
      simp [h1, h2, this, h3]

/-- No element comes before its parent. -/
def HeapOrd (A I : List Int) : Prop := ∀ j, 0 < j → j < I.length → bef A (at' I j) (at' I ((j - 1) / 2)) = false

/-- The same but at the place i, which may rise. -/
def UpInv (A I : List Int) (i : Nat) : Prop :=
  (∀ j, 0 < j → j < I.length → j ≠ i → bef A (at' I j) (at' I ((j - 1) / 2)) = false) ∧
  (∀ j, 0 < j → j < I.length → (j - 1) / 2 = i → 0 < i → bef A (at' I j) (at' I ((i - 1) / 2)) = false)

/-- The same but below the place i, which may sink. -/
def DownInv (A I : List Int) (i : Nat) : Prop :=
  (∀ j, 0 < j → j < I.length → (j - 1) / 2 ≠ i → bef A (at' I j) (at' I ((j - 1) / 2)) = false) ∧
  (∀ j, 0 < j → j < I.length → (j - 1) / 2 = i → 0 < i → bef A (at' I j) (at' I ((i - 1) / 2)) = false)

theorem up_done {A I : List Int} {i : Nat} (h : UpInv A I i) (hd : i = 0 ∨ bef A (at' I i) (at' I ((i - 1) / 2)) = false) : HeapOrd A I := fun j h1 h2 => by
  by_cases hj : j = i
  · subst hj
    rcases hd with h0 | h0
    · omega
    · exact h0
  · exact h.1 j h1 h2 hj

theorem up_step {A I : List Int} {i : Nat} (h : UpInv A I i) (hi : 0 < i) (hl : i < I.length) (hb : bef A (at' I i) (at' I ((i - 1) / 2)) = true) : UpInv A (swp I i ((i - 1) / 2)) ((i - 1) / 2) := by
  have hp : (i - 1) / 2 < i := by omega
  have hpl : (i - 1) / 2 < I.length := by omega
  refine ⟨fun j h1 h2 h3 => ?_, fun j h1 h2 h3 h4 => ?_⟩
  · rw [swp_length] at h2
    rw [at'_swp hl hpl, at'_swp hl hpl]
    by_cases hji : j = i
    · subst hji
      rw [if_pos rfl, if_neg (by omega), if_pos rfl]
      exact nbef_of_bef hb
    · rw [if_neg hji, if_neg h3]
      by_cases hpi : (j - 1) / 2 = i
      · rw [if_pos hpi]; exact h.2 j h1 h2 hpi hi
      · rw [if_neg hpi]
        by_cases hpp : (j - 1) / 2 = (i - 1) / 2
        · rw [if_pos hpp]
          have := h.1 j h1 h2 hji
          rw [hpp] at this
          exact nbef_trans this (nbef_of_bef hb)
        · rw [if_neg hpp]; exact h.1 j h1 h2 hji
  · rw [swp_length] at h2
    rw [at'_swp hl hpl, at'_swp hl hpl]
    have e1 : ¬ ((i - 1) / 2 - 1) / 2 = i := by omega
    have e2 : ¬ ((i - 1) / 2 - 1) / 2 = (i - 1) / 2 := by omega
    rw [if_neg e1, if_neg e2]
    have hup := h.1 ((i - 1) / 2) h4 hpl (by omega)
    by_cases hji : j = i
    · subst hji
      rw [if_pos rfl]; exact hup
    · rw [if_neg hji, if_neg (by omega)]
      have := h.1 j h1 h2 hji
      rw [h3] at this
      exact nbef_trans this hup

theorem down_done {A I : List Int} {i : Nat} (h : DownInv A I i) (h1 : 2 * i + 1 < I.length → bef A (at' I (2 * i + 1)) (at' I i) = false) (h2 : 2 * i + 2 < I.length → bef A (at' I (2 * i + 2)) (at' I i) = false) : HeapOrd A I := fun j j1 j2 => by
  by_cases hj : (j - 1) / 2 = i
  · rw [hj]
    by_cases hodd : j = 2 * i + 1
    · subst hodd; exact h1 j2
    · have : j = 2 * i + 2 := by omega
      subst this; exact h2 j2
  · exact h.1 j j1 j2 hj

theorem down_step {A I : List Int} {i c : Nat} (h : DownInv A I i) (hc : c = 2 * i + 1 ∨ c = 2 * i + 2) (hl : c < I.length) (hb : bef A (at' I c) (at' I i) = true)
    (h1 : 2 * i + 1 < I.length → bef A (at' I (2 * i + 1)) (at' I c) = false) (h2 : 2 * i + 2 < I.length → bef A (at' I (2 * i + 2)) (at' I c) = false) : DownInv A (swp I i c) c := by
  have hil : i < I.length := by omega
  have hpc : (c - 1) / 2 = i := by omega
  refine ⟨fun j j1 j2 j3 => ?_, fun j j1 j2 j3 j4 => ?_⟩
  · rw [swp_length] at j2
    rw [at'_swp hil hl, at'_swp hil hl]
    by_cases hji : j = i
    · subst hji
      rw [if_pos rfl, if_neg (by omega), if_neg (by omega)]
      exact h.2 c (by omega) hl hpc j1
    · rw [if_neg hji]
      by_cases hjc : j = c
      · subst hjc
        rw [if_pos rfl, if_pos hpc]
        exact nbef_of_bef hb
      · rw [if_neg hjc]
        by_cases hpi : (j - 1) / 2 = i
        · rw [if_pos hpi]
          have hjj : j = 2 * i + 1 ∨ j = 2 * i + 2 := by omega
          rcases hjj with rfl | rfl
          · exact h1 j2
          · exact h2 j2
        · rw [if_neg hpi, if_neg j3]; exact h.1 j j1 j2 hpi
  · rw [swp_length] at j2
    rw [at'_swp hil hl, at'_swp hil hl, hpc, if_pos rfl, if_neg (by omega), if_neg (by omega)]
    have := h.1 j j1 j2 (by omega)
    rw [j3] at this
    exact this

theorem heap_top {A I : List Int} (h : HeapOrd A I) : ∀ k, k < I.length → bef A (at' I k) (at' I 0) = false := by
  intro k
  induction k using Nat.strongRecOn with
  | ind k ih =>
    intro hk
    by_cases h0 : k = 0
    · subst h0; exact nbef_self _ _
    · exact nbef_trans (h k (by omega) hk) (ih ((k - 1) / 2) (by omega) (by omega))

/-- The places fit the items: 1 to n are the variables. -/
def Fits (I P : List Int) : Prop := (∀ k, k < I.length → at' P (at' I k).toNat = (k : Int)) ∧ (∀ k, k < I.length → 1 ≤ at' I k ∧ at' I k < P.length) ∧ (∀ v, v < P.length → (∀ k, k < I.length → (at' I k).toNat ≠ v) → at' P v = -1)

theorem fits_inj {I P : List Int} (h : Fits I P) {i j : Nat} (hi : i < I.length) (hj : j < I.length) (e : at' I i = at' I j) : i = j := by
  have h1 := h.1 i hi
  have h2 := h.1 j hj
  rw [e, h2] at h1
  omega

/-- Two items exchanged, with their places. -/
theorem fits_swp {I P : List Int} {i j : Nat} (h : Fits I P) (hi : i < I.length) (hj : j < I.length) : Fits (swp I i j) ((P.set (at' I j).toNat i).set (at' I i).toNat j) := by
  have bi := h.2.1 i hi
  have bj := h.2.1 j hj
  have li : (at' I i).toNat < P.length := by omega
  have lj : (at' I j).toNat < P.length := by omega
  have key : ∀ v, at' ((P.set (at' I j).toNat i).set (at' I i).toNat j) v = if (at' I i).toNat = v then (j : Int) else if (at' I j).toNat = v then (i : Int) else at' P v := fun v => by
    rw [at'_set (by simpa using li), at'_set lj]
  refine ⟨fun k hk => ?_, fun k hk => ?_, fun v hv hn => ?_⟩
  · rw [swp_length] at hk
    have bk := h.2.1 k hk
    rw [at'_swp hi hj, key]
    by_cases h1 : k = i
    · subst h1
      rw [if_pos rfl]
      by_cases h2 : at' I k = at' I j
      · rw [if_pos (by rw [h2])]
        exact congrArg Int.ofNat (fits_inj h hk hj h2).symm
      · rw [if_neg (by omega), if_pos rfl]
    · rw [if_neg h1]
      by_cases h2 : k = j
      · subst h2
        rw [if_pos rfl, if_pos rfl]
      · rw [if_neg h2]
        have e1 : ¬ (at' I i).toNat = (at' I k).toNat := fun e => h1 (fits_inj h hk hi (by omega))
        have e2 : ¬ (at' I j).toNat = (at' I k).toNat := fun e => h2 (fits_inj h hk hj (by omega))
        rw [if_neg e1, if_neg e2]; exact h.1 k hk
  · rw [swp_length] at hk
    simp only [List.length_set]
    rw [at'_swp hi hj]
    split
    · exact bj
    · split
      · exact bi
      · exact h.2.1 k hk
  · simp only [List.length_set] at hv
    rw [key]
    have e1 : ¬ (at' I i).toNat = v := fun e => by
      have := hn j (by rw [swp_length]; exact hj)
      rw [at'_swp hi hj] at this
      by_cases hji : j = i
      · subst hji; rw [if_pos rfl] at this; exact this e
      · rw [if_neg hji, if_pos rfl] at this; exact this e
    have e2 : ¬ (at' I j).toNat = v := fun e => by
      have := hn i (by rw [swp_length]; exact hi)
      rw [at'_swp hi hj, if_pos rfl] at this; exact this e
    rw [if_neg e1, if_neg e2]
    refine h.2.2 v hv fun k hk => ?_
    have := hn k (by rw [swp_length]; exact hk)
    rw [at'_swp hi hj] at this
    by_cases h1 : k = i
    · subst h1; exact e1
    · rw [if_neg h1] at this
      by_cases h2 : k = j
      · subst h2; exact e2
      · rw [if_neg h2] at this; exact this

/-- v is in the heap. -/
def inI (I : List Int) (v : Int) : Prop := ∃ k, k < I.length ∧ at' I k = v

theorem inI_swp {I : List Int} {i j : Nat} (hi : i < I.length) (hj : j < I.length) (v : Int) : inI (swp I i j) v ↔ inI I v := by
  have key := fun k => @at'_swp I i j k hi hj
  constructor
  · rintro ⟨k, hk, rfl⟩
    rw [swp_length] at hk
    rw [key]
    split
    · exact ⟨j, hj, rfl⟩
    · split
      · exact ⟨i, hi, rfl⟩
      · exact ⟨k, hk, rfl⟩
  · rintro ⟨k, hk, rfl⟩
    by_cases h1 : k = i
    · subst h1
      refine ⟨j, by rw [swp_length]; exact hj, ?_⟩
      rw [key]
      by_cases h2 : j = k
      · subst h2; rw [if_pos rfl]
      · rw [if_neg h2, if_pos rfl]
    · by_cases h2 : k = j
      · subst h2
        exact ⟨i, by rw [swp_length]; exact hi, by rw [key, if_pos rfl]⟩
      · exact ⟨k, by rw [swp_length]; exact hk, by rw [key, if_neg h1, if_neg h2]⟩

theorem fits_place {I P : List Int} (h : Fits I P) {v : Nat} (hv : v < P.length) : (0 ≤ at' P v ↔ inI I v) ∧ (inI I v → at' P v < I.length ∧ at' I (at' P v).toNat = v) := by
  have hin : inI I v → 0 ≤ at' P v ∧ at' P v < I.length ∧ at' I (at' P v).toNat = v := by
    rintro ⟨k, hk, he⟩
    have := h.1 k hk
    rw [he, Int.toNat_natCast] at this
    rw [this]
    exact ⟨by omega, by omega, by rw [Int.toNat_natCast]; exact he⟩
  refine ⟨⟨fun h0 => ?_, fun hi => (hin hi).1⟩, fun hi => (hin hi).2⟩
  refine Classical.byContradiction fun hn => ?_
  have := h.2.2 v hv fun k hk e => hn ⟨k, hk, by have := (h.2.1 k hk).1; omega⟩
  omega

end Go.Proofs.Ytfofabbnbmieoaa

/- What New, Push, Pop and Bump make of a heap's lists: plain. -/
namespace Go.Proofs.Ytfofabbnbmieoaa

theorem at'_append_left {I J : List Int} {k : Nat} (h : k < I.length) : at' (I ++ J) k = at' I k := by
  unfold at'; rw [List.getD_eq_getElem?_getD, List.getD_eq_getElem?_getD, List.getElem?_append_left h]
theorem at'_snoc (I : List Int) (x : Int) : at' (I ++ [x]) I.length = x := by simp [at']
theorem at'_take {I : List Int} {m k : Nat} (h : k < m) : at' (I.take m) k = at' I k := by
  unfold at'; rw [List.getD_eq_getElem?_getD, List.getD_eq_getElem?_getD, List.getElem?_take, if_pos h]

theorem push_fits {I P : List Int} {v : Int} (h : Fits I P) (h1 : 1 ≤ v) (h2 : v < P.length) (hn : ¬ inI I v) : Fits (I ++ [v]) (P.set v.toNat I.length) := by
  have lv : v.toNat < P.length := by omega
  refine ⟨fun k hk => ?_, fun k hk => ?_, fun u hu hk => ?_⟩
  · simp only [List.length_append, List.length_singleton] at hk
    rcases Nat.lt_or_ge k I.length with hlt | hge
    · rw [at'_append_left hlt, at'_set lv, if_neg]
      · exact h.1 k hlt
      · intro e
        have := h.2.1 k hlt
        exact hn ⟨k, hlt, by omega⟩
    · have : k = I.length := by omega
      subst this
      rw [at'_snoc, at'_set lv, if_pos rfl]
  · simp only [List.length_append, List.length_singleton] at hk
    simp only [List.length_set]
    rcases Nat.lt_or_ge k I.length with hlt | hge
    · rw [at'_append_left hlt]; exact h.2.1 k hlt
    · have : k = I.length := by omega
      subst this
      rw [at'_snoc]; exact ⟨h1, h2⟩
  · simp only [List.length_set] at hu
    have hv := hk I.length (by simp)
    rw [at'_snoc] at hv
    rw [at'_set lv, if_neg hv]
    refine h.2.2 u hu fun k hkl => ?_
    have := hk k (by simp; omega)
    rwa [at'_append_left hkl] at this

theorem push_up {A I : List Int} {v : Int} (h : HeapOrd A I) : UpInv A (I ++ [v]) I.length := by
  refine ⟨fun j h1 h2 h3 => ?_, fun j h1 h2 h3 _ => ?_⟩
  · simp only [List.length_append, List.length_singleton] at h2
    rw [at'_append_left (by omega), at'_append_left (by omega)]
    exact h j h1 (by omega)
  · simp only [List.length_append, List.length_singleton] at h2
    omega

theorem inI_snoc (I : List Int) (v u : Int) : inI (I ++ [v]) u ↔ inI I u ∨ u = v := by
  constructor
  · rintro ⟨k, hk, he⟩
    simp only [List.length_append, List.length_singleton] at hk
    rcases Nat.lt_or_ge k I.length with hlt | hge
    · rw [at'_append_left hlt] at he; exact Or.inl ⟨k, hlt, he⟩
    · have : k = I.length := by omega
      subst this
      rw [at'_snoc] at he; exact Or.inr he.symm
  · rintro (⟨k, hk, he⟩ | rfl)
    · exact ⟨k, by simp; omega, by rw [at'_append_left hk]; exact he⟩
    · exact ⟨I.length, by simp, at'_snoc I u⟩

/-- The items behind a Pop, before the sift. -/
def popI (I : List Int) : List Int := (swp I 0 (I.length - 1)).take (I.length - 1)

theorem popI_length (I : List Int) : (popI I).length = I.length - 1 := by simp [popI, swp_length]

theorem at'_popI {I : List Int} {k : Nat} (h : k < I.length - 1) : at' (popI I) k = if k = 0 then at' I (I.length - 1) else at' I k := by
  unfold popI
  rw [at'_take h, at'_swp (by omega) (by omega)]
  by_cases h0 : k = 0
  · rw [if_pos h0, if_pos h0]
  · rw [if_neg h0, if_neg h0, if_neg (by omega)]

theorem pop_fits {I P : List Int} (h : Fits I P) (hl : 0 < I.length) : Fits (popI I) (((P.set (at' I (I.length - 1)).toNat (0 : Nat)).set (at' I 0).toNat ((I.length - 1 : Nat) : Int)).set (at' I 0).toNat (-1)) := by
  have hs := fits_swp h hl (show I.length - 1 < I.length by omega)
  have b0 := h.2.1 0 hl
  have l0 : (at' I 0).toNat < ((P.set (at' I (I.length - 1)).toNat (0 : Nat)).set (at' I 0).toNat ((I.length - 1 : Nat) : Int)).length := by simp; omega
  have hlast : at' (swp I 0 (I.length - 1)) (I.length - 1) = at' I 0 := by
    rw [at'_swp hl (by omega)]
    by_cases h0 : I.length - 1 = 0
    · rw [if_pos h0, h0]
    · rw [if_neg h0, if_pos rfl]
  have hpl := popI_length I
  have hat : ∀ k, k < (popI I).length → at' (popI I) k = at' (swp I 0 (I.length - 1)) k := fun k hk => by
    unfold popI; rw [at'_take (by omega)]
  refine ⟨fun k hk => ?_, fun k hk => ?_, fun v hv hn => ?_⟩
  · rw [hat k hk, at'_set l0, if_neg]
    · exact hs.1 k (by rw [swp_length]; omega)
    · intro e
      have bk := hs.2.1 k (by rw [swp_length]; omega)
      have := fits_inj hs (i := k) (j := I.length - 1) (by rw [swp_length]; omega) (by rw [swp_length]; omega) (by rw [hlast]; omega)
      omega
  · rw [hat k hk]
    simp only [List.length_set]
    have := hs.2.1 k (by rw [swp_length]; omega)
    simpa using this
  · rw [at'_set l0]
    split
    · rfl
    · rename_i hne
      refine hs.2.2 v (by simpa using hv) fun k hk => ?_
      rw [swp_length] at hk
      by_cases hkl : k = I.length - 1
      · subst hkl; rw [hlast]; exact hne
      · have := hn k (by omega)
        rwa [hat k (by omega)] at this

theorem pop_down {A I : List Int} (h : HeapOrd A I) : DownInv A (popI I) 0 := by
  have hpl := popI_length I
  refine ⟨fun j h1 h2 h3 => ?_, fun j h1 h2 h3 h4 => by omega⟩
  rw [at'_popI (by omega), at'_popI (by omega), if_neg (by omega), if_neg h3]
  exact h j h1 (by omega)

theorem inI_pop {I P : List Int} (h : Fits I P) (hl : 0 < I.length) (u : Int) : inI (popI I) u ↔ inI I u ∧ u ≠ at' I 0 := by
  have hpl := popI_length I
  constructor
  · rintro ⟨k, hk, he⟩
    rw [at'_popI (by omega)] at he
    by_cases h0 : k = 0
    · rw [if_pos h0] at he
      refine ⟨⟨I.length - 1, by omega, he⟩, fun e => ?_⟩
      have := fits_inj h (i := I.length - 1) (j := 0) (by omega) hl (by rw [he, e])
      omega
    · rw [if_neg h0] at he
      refine ⟨⟨k, by omega, he⟩, fun e => ?_⟩
      have := fits_inj h (i := k) (j := 0) (by omega) hl (by rw [he, e])
      omega
  · rintro ⟨⟨k, hk, he⟩, hne⟩
    have h0 : ¬ k = 0 := fun e => hne (by rw [← he, e])
    by_cases hkl : k = I.length - 1
    · exact ⟨0, by omega, by rw [at'_popI (by omega), if_pos rfl, ← hkl]; exact he⟩
    · exact ⟨k, by omega, by rw [at'_popI (by omega), if_neg h0]; exact he⟩

theorem actv_set {A : List Int} {v u : Int} {x : Int} (hv : v.toNat < A.length) : actv (A.set v.toNat x) u = if v.toNat = u.toNat then x else actv A u := by
  have := @at'_set A v.toNat u.toNat x hv
  exact this

/-- A Bump of a variable of the heap. -/
theorem bump_up {A I P : List Int} {v x : Int} {i : Nat} (hf : Fits I P) (h : HeapOrd A I) (hv : v.toNat < A.length) (hx : actv A v ≤ x) (hi : i < I.length) (he : at' I i = v) : UpInv (A.set v.toNat x) I i := by
  have hpos : ∀ k, k < I.length → 1 ≤ at' I k := fun k hk => (hf.2.1 k hk).1
  have old : ∀ a b, (a ≠ v ∧ 1 ≤ a ∧ 1 ≤ v) → bef A a b = false → bef (A.set v.toNat x) a b = false := fun a b ⟨ha, h1, h2⟩ hb => by
    rw [nbef_iff] at hb ⊢
    rw [actv_set hv, actv_set hv, if_neg (show ¬ v.toNat = a.toNat by omega)]
    split
    · rename_i hvb
      have : actv A b = actv A v := by unfold actv; rw [← hvb]
      have hbv : b = v ∨ b ≤ 0 := by omega
      omega
    · exact hb
  have hv1 : 1 ≤ v := he ▸ hpos i hi
  refine ⟨fun j h1 h2 h3 => ?_, fun j h1 h2 h3 h4 => ?_⟩
  · exact old _ _ ⟨fun e => h3 (fits_inj hf h2 hi (by rw [e, he])), hpos j h2, hv1⟩ (h j h1 h2)
  · have hb := h j h1 h2
    rw [h3] at hb
    have hb2 := h i h4 hi
    exact old _ _ ⟨fun e => by have := fits_inj hf h2 hi (by rw [e, he]); omega, hpos j h2, hv1⟩ (nbef_trans hb hb2)

/-- A Bump of a variable that is not in the heap. -/
theorem bump_out {A I P : List Int} {v x : Int} (hf : Fits I P) (h : HeapOrd A I) (hv : v.toNat < A.length) (h1 : 1 ≤ v) (hn : ¬ inI I v) : HeapOrd (A.set v.toNat x) I := fun j j1 j2 => by
  have hb := h j j1 j2
  have ne : ∀ k, k < I.length → ¬ v.toNat = (at' I k).toNat := fun k hk e => hn ⟨k, hk, by have := (hf.2.1 k hk).1; omega⟩
  rw [nbef_iff] at hb ⊢
  rw [actv_set hv, actv_set hv, if_neg (ne j j2), if_neg (ne ((j - 1) / 2) (by omega))]
  exact hb

/-- The items of a new heap. -/
def newI (n : Nat) : List Int := (List.range n).map fun (k : Nat) => (k : Int) + 1
/-- Its places. -/
def newP (n : Nat) : List Int := -1 :: (List.range n).map fun (k : Nat) => (k : Int)

theorem newI_length (n : Nat) : (newI n).length = n := by simp [newI]
theorem newP_length (n : Nat) : (newP n).length = n + 1 := by simp [newP]
theorem at'_newI {n k : Nat} (h : k < n) : at' (newI n) k = (k : Int) + 1 := by simp [newI, at', h]
theorem at'_newP {n k : Nat} (h : k < n) : at' (newP n) (k + 1) = (k : Int) := by simp [newP, at', h]

theorem new_fits (n : Nat) : Fits (newI n) (newP n) := by
  refine ⟨fun k hk => ?_, fun k hk => ?_, fun v hv hn => ?_⟩
  · rw [newI_length] at hk
    rw [at'_newI hk]
    have : ((k : Int) + 1).toNat = k + 1 := by omega
    rw [this, at'_newP hk]
  · rw [newI_length] at hk
    rw [at'_newI hk, newP_length]; omega
  · rw [newP_length] at hv
    cases v with
    | zero => rfl
    | succ v =>
      have := hn v (by rw [newI_length]; omega)
      rw [at'_newI (by omega)] at this
      omega

theorem actv_replicate (n : Nat) (v : Int) : actv (List.replicate n 0) v = 0 := by
  unfold actv; rw [List.getD_eq_getElem?_getD, List.getElem?_replicate]; split <;> rfl

theorem new_ord (n m : Nat) : HeapOrd (List.replicate m 0) (newI n) := fun j h1 h2 => by
  rw [newI_length] at h2
  rw [nbef_iff, actv_replicate, actv_replicate, at'_newI h2, at'_newI (by omega)]
  omega

theorem inI_new (n : Nat) (v : Int) : inI (newI n) v ↔ 1 ≤ v ∧ v ≤ n := by
  constructor
  · rintro ⟨k, hk, he⟩
    rw [newI_length] at hk
    rw [at'_newI hk] at he; omega
  · rintro ⟨h1, h2⟩
    exact ⟨(v - 1).toNat, by rw [newI_length]; omega, by rw [at'_newI (by omega)]; omega⟩

/-- How many are in the heap. -/
theorem in_count {I P : List Int} (h : Fits I P) {In : List Bool} (hl : P.length = In.length + 1) (hr : ∀ v : Int, 1 ≤ v → v ≤ In.length → (inI I v ↔ In[(v - 1).toNat]? = some true)) : I.length = In.countP id := by
  have hnd : I.Nodup := by
    rw [List.nodup_iff_pairwise_ne, List.pairwise_iff_getElem]
    intro i j hi hj hij e
    have : at' I i = at' I j := by simp [at', hi, hj, e]
    have := fits_inj h hi hj this
    omega
  have hp : I.Perm ((List.range In.length).filter (fun (k : Nat) => In[k]? == some true) |>.map fun (k : Nat) => (k : Int) + 1) := by
    refine (List.perm_ext_iff_of_nodup hnd ?_).2 fun v => ?_
    · rw [List.nodup_iff_pairwise_ne, List.pairwise_map]
      refine List.Pairwise.imp ?_ (List.Pairwise.filter _ (List.nodup_iff_pairwise_ne.1 List.nodup_range))
      intro a b hab e; omega
    · simp only [List.mem_map, List.mem_filter, List.mem_range, beq_iff_eq]
      constructor
      · intro hv
        obtain ⟨k, hk, rfl⟩ := List.getElem_of_mem hv
        have ha : at' I k = I[k] := by simp [at', hk]
        have hb := h.2.1 k hk
        rw [ha] at hb
        have := (hr I[k] hb.1 (by omega)).1 ⟨k, hk, ha⟩
        exact ⟨(I[k] - 1).toNat, ⟨by omega, this⟩, by omega⟩
      · rintro ⟨k, ⟨hk, hin⟩, rfl⟩
        have := (hr ((k : Int) + 1) (by omega) (by omega)).2 (by rw [show ((k : Int) + 1 - 1).toNat = k by omega]; exact hin)
        obtain ⟨j, hj, he⟩ := this
        rw [← he]
        have ha : at' I j = I[j] := by simp [at', hj]
        rw [ha]; simp
  rw [hp.length_eq, List.length_map]
  clear hp hr hl hnd
  induction In with
  | nil => rfl
  | cons b In ih =>
    rw [List.length_cons, List.range_succ_eq_map, List.filter_cons, List.filter_map, List.countP_cons]
    have e : (List.filter ((fun k => (b :: In)[k]? == some true) ∘ Nat.succ) (List.range In.length)) = List.filter (fun k => In[k]? == some true) (List.range In.length) := rfl
    rw [e]
    cases b <;> simp_all

theorem bef_trans {A : List Int} {a b c : Int} (h : bef A a b = true) (h' : bef A b c = true) : bef A a c = true := by
  rw [bef_iff] at *; omega

/-- The best of a place and its children so far: j children were looked at. -/
def BestSo (A I : List Int) (i j bb : Nat) : Prop :=
  (bb = i ∨ ((bb = 2 * i + 1 ∨ bb = 2 * i + 2) ∧ bb < I.length ∧ bef A (at' I bb) (at' I i) = true)) ∧
  (1 ≤ j → 2 * i + 1 < I.length → bef A (at' I (2 * i + 1)) (at' I bb) = false) ∧ (2 ≤ j → 2 * i + 2 < I.length → bef A (at' I (2 * i + 2)) (at' I bb) = false)

theorem best_start (A I : List Int) (i : Nat) : BestSo A I i 0 i := ⟨Or.inl rfl, fun h => by omega, fun h => by omega⟩

theorem best_take {A I : List Int} {i j bb c : Nat} (h : BestSo A I i j bb) (hj : j < 2) (hc : c = 2 * i + 1 + j) (hl : c < I.length) (hb : bef A (at' I c) (at' I bb) = true) : BestSo A I i (j + 1) c := by
  refine ⟨Or.inr ⟨by omega, hl, ?_⟩, fun _ hl1 => ?_, fun h2 hl2 => ?_⟩
  · rcases h.1 with rfl | ⟨_, _, h3⟩
    · exact hb
    · exact bef_trans hb h3
  · by_cases h0 : j = 0
    · have : c = 2 * i + 1 := by omega
      subst this; exact nbef_self _ _
    · exact nbef_trans (h.2.1 (by omega) hl1) (nbef_of_bef hb)
  · have : c = 2 * i + 2 := by omega
    subst this; exact nbef_self _ _

theorem best_leave {A I : List Int} {i j bb c : Nat} (h : BestSo A I i j bb) (hj : j < 2) (hc : c = 2 * i + 1 + j) (hb : c < I.length → bef A (at' I c) (at' I bb) = false) : BestSo A I i (j + 1) bb := by
  refine ⟨h.1, fun _ hl1 => ?_, fun h2 hl2 => ?_⟩
  · by_cases h0 : j = 0
    · have : c = 2 * i + 1 := by omega
      subst this; exact hb hl1
    · exact h.2.1 (by omega) hl1
  · have : c = 2 * i + 2 := by omega
    subst this; exact hb hl2

theorem best_done {A I : List Int} {i bb : Nat} (h : DownInv A I i) (hb : BestSo A I i 2 bb) : (bb = i → HeapOrd A I) ∧ (bb ≠ i → i < bb ∧ bb < I.length ∧ DownInv A (swp I i bb) bb) := by
  refine ⟨fun e => ?_, fun e => ?_⟩
  · subst e
    exact down_done h (hb.2.1 (by omega)) (hb.2.2 (by omega))
  · rcases hb.1 with h0 | ⟨h1, h2, h3⟩
    · exact absurd h0 e
    · exact ⟨by omega, h2, down_step h h1 h2 h3 (hb.2.1 (by omega)) (hb.2.2 (by omega))⟩

end Go.Proofs.Ytfofabbnbmieoaa

/- How a heap lies in memory; the contracts of before and is. -/
namespace Go.Proofs.Ytfofabbnbmieoaa.Ord
open Go.RowKit

theorem rw_val {w : World} {g c n : Nat} {xs : List Int} {k : Nat} (h : Rw w (.slice (some ⟨g, 0, none⟩) n c) xs) (hn : n = xs.length) (hk : k < xs.length) : w.cell? ⟨g, k, none⟩ = some (.int .i64 (at' xs k)) := by
  rw [rw_get h hn hk]; simp [at', hk]

/-- The order that a queue is given. -/
def fnv : Value := .func (.func 67) #[] #[]

/-- A heap: activities, items, places. -/
structure HRep (w : World) (b : Nat) (va vi vp : Value) (A I P : List Int) : Prop where
  blk : w.heap[b]? = some (.cells #[va, vi, vp, .pointer (some ⟨b, 0, none⟩), fnv] 111)
  ra : Rw w va A
  ri : Rw w vi I
  rp : Rw w vp P
  ai : va.ownBlock ≠ vi.ownBlock
  ap : va.ownBlock ≠ vp.ownBlock
  ip : vi.ownBlock ≠ vp.ownBlock

/-- The heap's own blocks. -/
def foot (b : Nat) (va vi vp : Value) (k : Nat) : Prop := k = b ∨ va.ownBlock = some k ∨ vi.ownBlock = some k ∨ vp.ownBlock = some k

theorem foot_lt {w : World} {b : Nat} {va vi vp : Value} {A I P : List Int} (h : HRep w b va vi vp A I P) {k : Nat} (hk : foot b va vi vp k) : k < w.heap.size := by
  rcases hk with rfl | hk | hk | hk
  · exact (Array.getElem?_eq_some_iff.1 h.blk).1
  · exact rw_lt h.ra k hk
  · exact rw_lt h.ri k hk
  · exact rw_lt h.rp k hk

/-- What touches none of its blocks leaves it as it is. -/
theorem hrep_frame {w w' : World} {b : Nat} {va vi vp : Value} {A I P : List Int} (h : HRep w b va vi vp A I P) (hk : ∀ k, foot b va vi vp k → w'.heap[k]? = w.heap[k]?) : HRep w' b va vi vp A I P :=
  ⟨(hk b (Or.inl rfl)).trans h.blk, rw_frame h.ra fun k e => hk k (Or.inr (Or.inl e)), rw_frame h.ri fun k e => hk k (Or.inr (Or.inr (Or.inl e))), rw_frame h.rp fun k e => hk k (Or.inr (Or.inr (Or.inr e))), h.ai, h.ap, h.ip⟩

theorem hrep_drewN {w : World} {b : Nat} {va vi vp : Value} {A I P : List Int} (h : HRep w b va vi vp A I P) (n : Nat) : HRep (w.drewN n) b va vi vp A I P := hrep_frame h fun _ _ => rfl

theorem hrep_drew {w : World} {b : Nat} {va vi vp : Value} {A I P : List Int} (h : HRep w b va vi vp A I P) : HRep w.drew b va vi vp A I P := hrep_frame h fun _ _ => rfl

/-- Its five cells. -/
theorem hrep_cells {w : World} {b : Nat} {va vi vp : Value} {A I P : List Int} (h : HRep w b va vi vp A I P) :
    w.cell? ⟨b, 0, none⟩ = some va ∧ w.cell? ⟨b, 1, none⟩ = some vi ∧ w.cell? ⟨b, 2, none⟩ = some vp ∧ w.cell? ⟨b, 3, none⟩ = some (.pointer (some ⟨b, 0, none⟩)) ∧ w.cell? ⟨b, 4, none⟩ = some (.func (.func 67) #[] #[]) :=
  ⟨fit_cell (vs := [va, vi, vp, .pointer (some ⟨b, 0, none⟩), fnv]) h.blk 0, fit_cell (vs := [va, vi, vp, .pointer (some ⟨b, 0, none⟩), fnv]) h.blk 1, fit_cell (vs := [va, vi, vp, .pointer (some ⟨b, 0, none⟩), fnv]) h.blk 2, fit_cell (vs := [va, vi, vp, .pointer (some ⟨b, 0, none⟩), fnv]) h.blk 3, fit_cell (vs := [va, vi, vp, .pointer (some ⟨b, 0, none⟩), fnv]) h.blk 4⟩

theorem hrep_free {w : World} {b : Nat} {va vi vp : Value} {A I P : List Int} (h : HRep w b va vi vp A I P) (k : Nat) : w.frozen? ⟨b, k, none⟩ = false := frozen_of_row _ _ _ _ _ h.blk

set_option maxHeartbeats 1000000 in
theorem heap_before (b : Nat) (va vi vp : Value) (A I P : List Int) (x y : Int) (r : Bool) (w : World) (hr : bef A x y = r) (h : HRep w b va vi vp A I P) (hx : 0 ≤ x ∧ x < A.length) (hy : 0 ≤ y ∧ y < A.length) (hl : A.length ≤ 4294967296) :
    Calls Try.prog 67 #[.pointer (some ⟨b, 0, none⟩), .int .i64 x, .int .i64 y] w fun e w' => e = .returned (.bool r) ∧ ∃ n, w' = w.drewN n := by
  obtain ⟨kx, rfl⟩ := Int.eq_ofNat_of_zero_le hx.1
  obtain ⟨ky, rfl⟩ := Int.eq_ofNat_of_zero_le hy.1
  obtain ⟨ga, ca, rfl⟩ := rw_form h.ra (by omega)
  have hc0 := (hrep_cells h).1
  have lx : kx < A.length := by omega
  have ly : ky < A.length := by omega
  have hcx := rw_get h.ra rfl lx
  have hcy := rw_get h.ra rfl ly
  have ex : actv A (kx : Int) = A[kx] := by simp [actv, lx]
  have ey : actv A (ky : Int) = A[ky] := by simp [actv, ly]
  have hbx : (kx : Int) < A.length := by omega
  have hby : (ky : Int) < A.length := by omega
  have HR : Hid (bef A kx ky = r) := hr
  obtain ⟨ax, hax⟩ : ∃ ax, A[kx] = ax := ⟨_, rfl⟩
  obtain ⟨ay, hay⟩ : ∃ ay, A[ky] = ay := ⟨_, rfl⟩
  rw [hax] at hcx ex
  rw [hay] at hcy ey
  have EX := hid ex
  have EY := hid ey
  clear h hr ex ey hax hay hx hy
  cases hne : (ax != ay) with
  | true =>
    go_enter Try.func67, Try.ntmps67
    go_wp2_with fail
    go_quiet (fail)
    go_wp2_with fail
    go_quiet (fail)
    go_wp2_with fail
    go_ret
    refine ⟨?_, _, by first | rfl | exact World.drewN_drewN ..⟩
    rw [← HR.out]
    have : ax ≠ ay := by simpa using hne
    simp [bef, EX.out, EY.out, this]
  | false =>
    go_enter Try.func67, Try.ntmps67
    go_wp2_with fail
    go_quiet (fail)
    go_wp2_with fail
    go_ret
    refine ⟨?_, _, by first | rfl | exact World.drewN_drewN ..⟩
    rw [← HR.out]
    have : ax = ay := by simpa using hne
    simp [bef, EX.out, EY.out, this]

set_option maxHeartbeats 1000000 in
theorem heap_is (b : Nat) (va vi vp : Value) (A I P : List Int) (v : Int) (r : Bool) (w : World) (hr : (decide (1 ≤ v) && decide (v < A.length)) = r) (h : HRep w b va vi vp A I P) :
    Calls Try.prog 85 #[.pointer (some ⟨b, 0, none⟩), .int .i64 v] w fun e w' => e = .returned (.bool r) ∧ w = w' := by
  obtain ⟨aa, ca, rfl, -⟩ := rw_shape h.ra
  have hc0 := (hrep_cells h).1
  have HR := hid hr
  clear h hr
  cases h1 : decide (1 ≤ v) with
  | false =>
    have h1' : ¬ 1 ≤ v := by simpa using h1
    go_enter Try.func85, Try.ntmps85
    go_wp2_with fail
    go_ret
    exact ⟨by rw [← HR.out, h1]; rfl, rfl⟩
  | true =>
    have h1' : 1 ≤ v := by simpa using h1
    cases h2 : decide (v < A.length)
    all_goals
      go_enter Try.func85, Try.ntmps85
      go_wp2_with fail
      go_ret
      exact ⟨by rw [← HR.out, h1, h2]; rfl, rfl⟩

end Go.Proofs.Ytfofabbnbmieoaa.Ord

/- The contracts of the queue's swap, up and down. -/
namespace Go.Proofs.Ytfofabbnbmieoaa.Ord
open Go.RowKit

theorem hrep_setI {w : World} {b g c n : Nat} {va vp : Value} {A I P : List Int} (h : HRep w b va (.slice (some ⟨g, 0, none⟩) n c) vp A I P) (hn : n = I.length) (k : Nat) (x : Int) :
    HRep (w.setCell ⟨g, k, none⟩ (.int .i64 x)) b va (.slice (some ⟨g, 0, none⟩) n c) vp A (I.set k x) P := by
  have hbg : b ≠ g := fun e => rw_apart h.ri h.blk (by decide) (by rw [e]; rfl)
  refine ⟨?_, ?_, rw_set h.ri hn k x, ?_, h.ai, h.ap, h.ip⟩
  · rw [heap_setCell_other w ⟨g, k, none⟩ b _ hbg]; exact h.blk
  · exact rw_frame h.ra fun j hj => heap_setCell_other w ⟨g, k, none⟩ j _ (fun e => h.ai (by rw [hj]; exact congrArg some e))
  · exact rw_frame h.rp fun j hj => heap_setCell_other w ⟨g, k, none⟩ j _ (fun e => h.ip (by rw [hj]; exact congrArg some e.symm))

theorem hrep_setP {w : World} {b g c n : Nat} {va vi : Value} {A I P : List Int} (h : HRep w b va vi (.slice (some ⟨g, 0, none⟩) n c) A I P) (hn : n = P.length) (k : Nat) (x : Int) :
    HRep (w.setCell ⟨g, k, none⟩ (.int .i64 x)) b va vi (.slice (some ⟨g, 0, none⟩) n c) A I (P.set k x) := by
  have hbg : b ≠ g := fun e => rw_apart h.rp h.blk (by decide) (by rw [e]; rfl)
  refine ⟨?_, ?_, ?_, rw_set h.rp hn k x, h.ai, h.ap, h.ip⟩
  · rw [heap_setCell_other w ⟨g, k, none⟩ b _ hbg]; exact h.blk
  · exact rw_frame h.ra fun j hj => heap_setCell_other w ⟨g, k, none⟩ j _ (fun e => h.ap (by rw [hj]; exact congrArg some e))
  · exact rw_frame h.ri fun j hj => heap_setCell_other w ⟨g, k, none⟩ j _ (fun e => h.ip (by rw [hj]; exact congrArg some e))

theorem hrep_setA {w : World} {b g c n : Nat} {vi vp : Value} {A I P : List Int} (h : HRep w b (.slice (some ⟨g, 0, none⟩) n c) vi vp A I P) (hn : n = A.length) (k : Nat) (x : Int) :
    HRep (w.setCell ⟨g, k, none⟩ (.int .i64 x)) b (.slice (some ⟨g, 0, none⟩) n c) vi vp (A.set k x) I P := by
  have hbg : b ≠ g := fun e => rw_apart h.ra h.blk (by decide) (by rw [e]; rfl)
  refine ⟨?_, rw_set h.ra hn k x, ?_, ?_, h.ai, h.ap, h.ip⟩
  · rw [heap_setCell_other w ⟨g, k, none⟩ b _ hbg]; exact h.blk
  · exact rw_frame h.ri fun j hj => heap_setCell_other w ⟨g, k, none⟩ j _ (fun e => h.ai (by rw [hj]; exact congrArg some e.symm))
  · exact rw_frame h.rp fun j hj => heap_setCell_other w ⟨g, k, none⟩ j _ (fun e => h.ap (by rw [hj]; exact congrArg some e.symm))

/-- The places behind a swap. -/
def swpP (I P : List Int) (i j : Nat) : List Int := (P.set (at' I j).toNat i).set (at' I i).toNat j

set_option maxRecDepth 100000 in
set_option maxHeartbeats 4000000 in
theorem q_swap (b : Nat) (va vi vp : Value) (A I P : List Int) (i j : Nat) (w : World) (h : HRep w b va vi vp A I P) (hf : Fits I P) (hi : i < I.length) (hj : j < I.length) (hl : P.length ≤ 4294967296) :
    Calls Try.prog 87 #[.pointer (some ⟨b, 1, none⟩), .int .i64 i, .int .i64 j] w fun e w' => e = .returned (.tuple #[]) ∧ HRep w' b va vi vp A (swp I i j) (swpP I P i j) ∧ Touch (foot b va vi vp) w w' := by
  obtain ⟨gi, ci, rfl⟩ := rw_form h.ri (by omega)
  have bi := hf.2.1 i hi
  have bj := hf.2.1 j hj
  obtain ⟨gp, cp, rfl⟩ := rw_form h.rp (by omega)
  obtain ⟨-, hc1, hc2, -, -⟩ := hrep_cells h
  have hci := rw_get h.ri rfl hi
  have hcj := rw_get h.ri rfl hj
  have hfi := rw_free h.ri rfl i
  have hfj := rw_free h.ri rfl j
  obtain ⟨x, hx⟩ : ∃ x, at' I i = x := ⟨_, rfl⟩
  obtain ⟨y, hy⟩ : ∃ y, at' I j = y := ⟨_, rfl⟩
  have hxi : I[i] = x := by rw [← hx]; simp [at', hi]
  have hyj : I[j] = y := by rw [← hy]; simp [at', hj]
  rw [hxi] at hci
  rw [hyj] at hcj
  have HX := hid hx
  have HY := hid hy
  have H := hid h
  have HF := hid hf
  have e1 : (i : Int) < I.length := by omega
  have e2 : (j : Int) < I.length := by omega
  have bx1 : 1 ≤ x := by rw [← hx]; exact bi.1
  have bx2 : x < P.length := by rw [← hx]; exact bi.2
  have by1 : 1 ≤ y := by rw [← hy]; exact bj.1
  have by2 : y < P.length := by rw [← hy]; exact bj.2
  clear hx hy hxi hyj h hf bi bj
  by_cases hij : i = j
  · subst hij
    have hyx : y = x := by rw [← HX.out, ← HY.out]
    subst hyx
    go_enter Try.func87, Try.ntmps87
    go_wp2_with fail
    go_cut [] (fun wx => Hid (HRep wx b va (.slice (some ⟨gi, 0, none⟩) I.length ci) (.slice (some ⟨gp, 0, none⟩) P.length cp) A (swp I i i) P) ∧ Hid (Touch (foot b va (.slice (some ⟨gi, 0, none⟩) I.length ci) (.slice (some ⟨gp, 0, none⟩) P.length cp)) w wx))
    case first =>
      go_region
      all_goals
        go_wp2_with fail
        go_meet
        case rel =>
          refine ⟨?_, (((Touch.refl _ _).setCell (Or.inr (Or.inr (Or.inl rfl))) _).setCell (Or.inr (Or.inr (Or.inl rfl))) _).drew⟩
          have h1 := hrep_drew (hrep_setI (hrep_setI H.out rfl i y) (by simp) i y)
          unfold swp
          rw [HX.out]
          exact h1
    case rest =>
      obtain ⟨h2, ht2⟩ := hcut
      clear hc1 hc2 hci hcj hfi hfj
      obtain ⟨-, hc1, hc2, -, -⟩ := hrep_cells h2.out
      have hsl : I.length = (swp I i i).length := (swp_length I i i).symm
      have hci := rw_val h2.out.ri hsl (k := i) (by rw [swp_length]; exact hi)
      have hcj := rw_val h2.out.ri hsl (k := i) (by rw [swp_length]; exact hj)
      rw [at'_swp hi hj, if_pos rfl, HY.out] at hci
      rw [at'_swp hi hj, if_pos rfl, HY.out] at hcj
      have hpy := rw_val h2.out.rp rfl (k := y.toNat) (by omega)
      have hpx := rw_val h2.out.rp rfl (k := y.toNat) (by omega)
      have hfy := rw_free h2.out.rp rfl y.toNat
      have hfx := rw_free h2.out.rp rfl y.toNat
      have H2 := hid h2.out
      have T2 := hid ht2.out
      clear h2 ht2 hsl
      go_wp2_with fail
      go_region
      all_goals
        go_wp2_with fail
        go_end0
        refine ⟨rfl, ?_, T2.out.trans ((((Touch.refl _ _).setCell (Or.inr (Or.inr (Or.inr rfl))) _).setCell (Or.inr (Or.inr (Or.inr rfl))) _).drew)⟩
        have h3 := hrep_drew (hrep_setP (hrep_setP H2.out rfl y.toNat (i : Int)) (by simp) y.toNat (i : Int))
        unfold swpP
        rw [HY.out]
        exact h3
  · have hji : ¬ j = i := fun e => hij e.symm
    have hxy : ¬ x = y := fun e => hij (fits_inj HF.out hi hj (by rw [HX.out, HY.out]; exact e))
    have hxy2 : ¬ x.toNat = y.toNat := by omega
    have hyx2 : ¬ y.toNat = x.toNat := by omega
    go_enter Try.func87, Try.ntmps87
    go_wp2_with fail
    go_cut [] (fun wx => Hid (HRep wx b va (.slice (some ⟨gi, 0, none⟩) I.length ci) (.slice (some ⟨gp, 0, none⟩) P.length cp) A (swp I i j) P) ∧ Hid (Touch (foot b va (.slice (some ⟨gi, 0, none⟩) I.length ci) (.slice (some ⟨gp, 0, none⟩) P.length cp)) w wx))
    case first =>
      go_region
      all_goals
        go_wp2_with fail
        go_meet
        case rel =>
          refine ⟨?_, (((Touch.refl _ _).setCell (Or.inr (Or.inr (Or.inl rfl))) _).setCell (Or.inr (Or.inr (Or.inl rfl))) _).drew⟩
          have h1 := hrep_drew (hrep_setI (hrep_setI H.out rfl i y) (by simp) j x)
          unfold swp
          rw [HX.out, HY.out]
          exact h1
    case rest =>
      obtain ⟨h2, ht2⟩ := hcut
      clear hc1 hc2 hci hcj hfi hfj
      obtain ⟨-, hc1, hc2, -, -⟩ := hrep_cells h2.out
      have hsl : I.length = (swp I i j).length := (swp_length I i j).symm
      have hci := rw_val h2.out.ri hsl (k := i) (by rw [swp_length]; exact hi)
      have hcj := rw_val h2.out.ri hsl (k := j) (by rw [swp_length]; exact hj)
      rw [at'_swp hi hj, if_pos rfl, HY.out] at hci
      rw [at'_swp hi hj, if_neg hji, if_pos rfl, HX.out] at hcj
      have hpy := rw_val h2.out.rp rfl (k := y.toNat) (by omega)
      have hpx := rw_val h2.out.rp rfl (k := x.toNat) (by omega)
      have hfy := rw_free h2.out.rp rfl y.toNat
      have hfx := rw_free h2.out.rp rfl x.toNat
      have H2 := hid h2.out
      have T2 := hid ht2.out
      clear h2 ht2 hsl
      go_wp2_with fail
      go_region
      all_goals
        go_wp2_with fail
        go_end0
        refine ⟨rfl, ?_, T2.out.trans ((((Touch.refl _ _).setCell (Or.inr (Or.inr (Or.inr rfl))) _).setCell (Or.inr (Or.inr (Or.inr rfl))) _).drew)⟩
        have h3 := hrep_drew (hrep_setP (hrep_setP H2.out rfl y.toNat (i : Int)) (by simp) x.toNat (j : Int))
        unfold swpP
        rw [HX.out, HY.out]
        exact h3

end Go.Proofs.Ytfofabbnbmieoaa.Ord

/- The contracts of the queue's up and down. -/
namespace Go.Proofs.Ytfofabbnbmieoaa.Ord
open Go.RowKit

/-- What a sift leaves: a heap of the same variables. -/
def Sifted (w : World) (b : Nat) (va vi vp : Value) (A : List Int) (n m : Nat) (IN : Int → Prop) : Prop :=
  ∃ I P, HRep w b va vi vp A I P ∧ HeapOrd A I ∧ Fits I P ∧ I.length = n ∧ P.length = m ∧ ∀ v, inI I v ↔ IN v

theorem swpP_length (I P : List Int) (i j : Nat) : (swpP I P i j).length = P.length := by simp [swpP]

theorem quiet_drew {P : Program} {f : FuncId} {args : Array Value} {w : World} {n : Nat} {v : Value}
    (h : Calls P f args (w.drewN n) fun e w' => e = .returned v ∧ ∃ m, w' = (w.drewN n).drewN m) : Calls P f args (w.drewN n) fun e w'' => e = .returned v ∧ ∃ m, w'' = w.drewN m :=
  h.mono fun _ _ ⟨he, m, hm⟩ => ⟨he, n + m, by rw [hm]; exact World.drewN_drewN ..⟩

theorem quiet_drew2 {P : Program} {f : FuncId} {args : Array Value} {w : World} {k n : Nat} {v : Value}
    (h : Calls P f args (w.drewN (k + n)) fun e w' => e = .returned v ∧ ∃ m, w' = (w.drewN (k + n)).drewN m) : Calls P f args (w.drewN (k + n)) fun e w'' => e = .returned v ∧ ∃ m, w'' = w.drewN (k + m) :=
  h.mono fun _ _ ⟨he, m, hm⟩ => ⟨he, n + m, by rw [hm, World.drewN_drewN, Nat.add_assoc]⟩

set_option maxRecDepth 100000 in
set_option maxHeartbeats 4000000 in
theorem q_up (b : Nat) (va vi vp : Value) (A I P : List Int) (i : Nat) (w : World) (h : HRep w b va vi vp A I P) (hf : Fits I P) (hu : UpInv A I i) (hi : i < I.length) (hA : A.length = P.length) (hl : P.length ≤ 4294967296) (hIl : I.length ≤ 4294967296) :
    Calls Try.prog 86 #[.pointer (some ⟨b, 1, none⟩), .int .i64 i] w fun e w' => e = .returned (.tuple #[]) ∧ Sifted w' b va vi vp A I.length P.length (inI I) ∧ Touch (foot b va vi vp) w w' := by
  obtain ⟨IN, hIN⟩ : ∃ IN, IN = inI I := ⟨_, rfl⟩
  obtain ⟨n, hn⟩ : ∃ n, n = I.length := ⟨_, rfl⟩
  obtain ⟨m, hm⟩ : ∃ m, m = P.length := ⟨_, rfl⟩
  obtain ⟨gi, ci, hvi⟩ := rw_form h.ri (by omega)
  rw [← hn] at hvi
  have HV := hid hvi
  have H0 : Hid (HRep w b va vi vp A I P ∧ Fits I P ∧ UpInv A I i ∧ I.length = n ∧ P.length = m ∧ ∀ v, inI I v ↔ IN v) := ⟨h, hf, hu, hn.symm, hm.symm, fun v => by rw [hIN]⟩
  rw [← hIN, ← hn, ← hm]
  rw [← hm] at hA hl
  rw [← hn] at hi hIl
  have HAL := hid hA
  clear h hf hu hn hm hIN hvi hA
  go_enter Try.func86, Try.ntmps86
  go_wp2_with fail
  go_loopw [1] (fun s1 wr => ∃ (i : Nat) (I P : List Int), s1 = .int .i64 i ∧ i < n ∧ Hid (HRep wr b va vi vp A I P ∧ Fits I P ∧ UpInv A I i ∧ I.length = n ∧ P.length = m ∧ ∀ v, inI I v ↔ IN v) ∧ Touch (foot b va vi vp) w wr) (fun s1 _ => (intOf s1).toNat)
  case atStart => exact ⟨i, I, P, rfl, hi, H0.out, Touch.refl _ _⟩
  case round =>
    clear H0
    obtain ⟨i, I, P, rfl, hi, hr, ht⟩ := hrel
    obtain ⟨h, hf, hu, hIn, hPm, hin⟩ := hr.out
    obtain ⟨-, hc1, hc2, hc3, hc4⟩ := hrep_cells h
    by_cases h0 : 0 < i
    · obtain ⟨p, hp⟩ : ∃ p, p = (i - 1) / 2 := ⟨_, rfl⟩
      have hpi : p < i := by omega
      have hpn : p < n := by omega
      have hvi := HV.out
      rw [hvi] at h hc1
      have hci := rw_val h.ri hIn.symm (k := i) (by omega)
      have hcp := rw_val h.ri hIn.symm (k := p) (by omega)
      obtain ⟨x, hx⟩ : ∃ x, at' I i = x := ⟨_, rfl⟩
      obtain ⟨y, hy⟩ : ∃ y, at' I p = y := ⟨_, rfl⟩
      have bx := hf.2.1 i (by omega)
      have bp := hf.2.1 p (by omega)
      rw [hx] at hci bx
      rw [hy] at hcp bp
      have hxA : 0 ≤ x ∧ x < A.length := by have := HAL.out; omega
      have hyA : 0 ≤ y ∧ y < A.length := by have := HAL.out; omega
      have e1 : IntKind.i64.wrap ((i : Int) - 1) = (i : Int) - 1 := IntWalk.i64_in _ (by omega)
      have e2 : ((i : Int) - 1).tdiv 2 = (p : Int) := by rw [Int.tdiv_eq_ediv_of_nonneg (by omega)]; omega
      have e3 : IntKind.i64.wrap (p : Int) = (p : Int) := IntWalk.i64_in _ (by omega)
      have e4 : ((i : Int) - 1) / 2 = (p : Int) := by omega
      have b1 : (i : Int) < n := by omega
      have b2 : (p : Int) < n := by omega
      have hd : decide (0 < i) = true := by simp [h0]
      have HX := hid hx
      have HY := hid hy
      have HP := hid hp
      have H := hid h
      have HF := hid hf
      have HU := hid hu
      have HIn := hid hIn
      have HPm := hid hPm
      have HIN := hid hin
      have hcr : ∃ r, bef A x y = r := ⟨_, rfl⟩
      obtain ⟨r, hr2⟩ := hcr
      have HB := hid fun (w : World) (hw : HRep w b va (.slice (some ⟨gi, 0, none⟩) n ci) vp A I P) => heap_before b va _ vp A I P x y r w hr2 hw hxA hyA (by have := HAL.out; omega)
      have HR2 := hid hr2
      clear hx hy hp h hf hu hIn hPm hin hr hr2 hvi bx bp hxA hyA
      cases r with
      | true =>
        go_wp2_with fail
        go_quiet ((go_at_call 67; first | exact quiet_drew2 (HB.out _ (hrep_drewN H.out _)) | exact quiet_drew (HB.out _ (hrep_drewN H.out _))))
        clear e1 e2 e3
        go_wp2_with fail
        refine (q_swap b va _ vp A I P i p _ (hrep_drewN H.out _) HF.out (by have := HIn.out; omega) (by have := HIn.out; omega) (by have := HPm.out; omega)).mono ?_
        rintro e w2 ⟨rfl, h2, ht2⟩
        have HH2 := hid h2
        have HT2 := hid ht2
        clear h2 ht2
        go_wp2_with fail
        go_roundw
        case rel =>
          refine ⟨p, swp I i p, swpP I P i p, (by first | rfl | rw [e4]), hpn, ⟨by rw [HV.out]; exact HH2.out, fits_swp HF.out (by have := HIn.out; omega) (by have := HIn.out; omega), ?_, by rw [swp_length]; exact HIn.out, by rw [swpP_length]; exact HPm.out, fun v => by rw [inI_swp (by have := HIn.out; omega) (by have := HIn.out; omega)]; exact HIN.out v⟩, (ht.drewN _).trans (by rw [HV.out]; exact HT2.out)⟩
          have hus := up_step HU.out h0 (by have := HIn.out; omega) (by rw [← HP.out, HX.out, HY.out]; exact HR2.out)
          rw [← HP.out] at hus
          exact hus
        case measure => simp [intOf]; omega
      | false =>
        go_wp2_with fail
        go_quiet ((go_at_call 67; first | exact quiet_drew2 (HB.out _ (hrep_drewN H.out _)) | exact quiet_drew (HB.out _ (hrep_drewN H.out _))))
        clear e1 e2 e3
        go_wp2_with fail
        go_end0
        exact ⟨rfl, ⟨I, P, hrep_drewN (by rw [HV.out]; exact H.out) _, up_done HU.out (Or.inr (by rw [← HP.out, HX.out, HY.out]; exact HR2.out)), HF.out, HIn.out, HPm.out, HIN.out⟩, ht.drewN _⟩
    · have hi0 : i = 0 := by omega
      have hd : decide (0 < i) = false := by simp; omega
      have HS2 := hid fun k => (⟨I, P, hrep_drewN h k, up_done hu (Or.inl hi0), hf, hIn, hPm, hin⟩ : Sifted (wr.drewN k) b va vi vp A n m IN)
      clear h hf hu hIn hPm hin hr hi0
      go_wp2_with fail
      go_quiet (fail)
      go_wp2_with fail
      go_end0
      exact ⟨rfl, HS2.out _, ht.drewN _⟩

end Go.Proofs.Ytfofabbnbmieoaa.Ord

/- The contract of the queue's down. -/
namespace Go.Proofs.Ytfofabbnbmieoaa.Ord
open Go.RowKit

set_option maxRecDepth 100000 in
set_option maxHeartbeats 4000000 in
theorem q_down (b : Nat) (va vi vp : Value) (A I P : List Int) (i : Nat) (w : World) (h : HRep w b va vi vp A I P) (hf : Fits I P) (hu : DownInv A I i) (hi : i < I.length) (hA : A.length = P.length) (hl : P.length ≤ 4294967296) (hIl : I.length ≤ 4294967296) :
    Calls Try.prog 88 #[.pointer (some ⟨b, 1, none⟩), .int .i64 i] w fun e w' => e = .returned (.tuple #[]) ∧ Sifted w' b va vi vp A I.length P.length (inI I) ∧ Touch (foot b va vi vp) w w' := by
  obtain ⟨IN, hIN⟩ : ∃ IN, IN = inI I := ⟨_, rfl⟩
  obtain ⟨n, hn⟩ : ∃ n, n = I.length := ⟨_, rfl⟩
  obtain ⟨m, hm⟩ : ∃ m, m = P.length := ⟨_, rfl⟩
  obtain ⟨gi, ci, hvi⟩ := rw_form h.ri (by omega)
  rw [← hn] at hvi
  have HV := hid hvi
  have H0 : Hid (HRep w b va vi vp A I P ∧ Fits I P ∧ DownInv A I i ∧ I.length = n ∧ P.length = m ∧ ∀ v, inI I v ↔ IN v) := ⟨h, hf, hu, hn.symm, hm.symm, fun v => by rw [hIN]⟩
  rw [← hIN, ← hn, ← hm]
  rw [← hm] at hA hl
  rw [← hn] at hi hIl
  have HAL := hid hA
  clear h hf hu hn hm hIN hvi hA
  go_enter Try.func88, Try.ntmps88
  go_wp2_with fail
  go_loopw [1] (fun s1 wr => ∃ (i : Nat) (I P : List Int), s1 = .int .i64 i ∧ i < n ∧ Hid (HRep wr b va vi vp A I P ∧ Fits I P ∧ DownInv A I i ∧ I.length = n ∧ P.length = m ∧ ∀ v, inI I v ↔ IN v) ∧ Touch (foot b va vi vp) w wr) (fun s1 _ => n - (intOf s1).toNat)
  case atStart => exact ⟨i, I, P, rfl, hi, H0.out, Touch.refl _ _⟩
  case round =>
    clear H0
    obtain ⟨i, I, P, rfl, hi, hr, ht⟩ := hrel
    obtain ⟨h, hf, hu, hIn, hPm, hin⟩ := hr.out
    obtain ⟨-, hc1, hc2, hc3, hc4⟩ := hrep_cells h
    have hvi := HV.out
    rw [hvi] at h hc1
    obtain ⟨c1, hc1e⟩ : ∃ c1, c1 = 2 * i + 1 + 0 := ⟨_, rfl⟩
    obtain ⟨c2, hc2e⟩ : ∃ c2, c2 = 2 * i + 1 + 1 := ⟨_, rfl⟩
    have e5 : 2 * (i : Int) + 1 = (c1 : Int) := by omega
    have e6 : 2 * (i : Int) + 2 = (c2 : Int) := by omega
    have hcell := fun (k : Nat) (hk : k < n) => rw_val h.ri hIn.symm (k := k) (by omega)
    have hbd := fun (k : Nat) (hk : k < n) => hf.2.1 k (by omega)
    have hB := fun (k j : Nat) (r : Bool) (hk : k < n) (hj : j < n) (hr2 : bef A (at' I k) (at' I j) = r) (w : World) (hw : HRep w b va (.slice (some ⟨gi, 0, none⟩) n ci) vp A I P) =>
      heap_before b va _ vp A I P (at' I k) (at' I j) r w hr2 hw (by have := hbd k hk; have := HAL.out; omega) (by have := hbd j hj; have := HAL.out; omega) (by have := HAL.out; omega)
    have i0 : ∀ w, (Instr.index 141 (.agg #[.int .i64 (c1 : Int), .int .i64 (c2 : Int)]) (.int .i64 0)).run Try.prog w = .ok (.int .i64 (c1 : Int)) w := fun _ => by kernel_rfl
    have i1 : ∀ w, (Instr.index 141 (.agg #[.int .i64 (c1 : Int), .int .i64 (c2 : Int)]) (.int .i64 1)).run Try.prog w = .ok (.int .i64 (c2 : Int)) w := fun _ => by kernel_rfl
    have HB := hid hB
    have HCELL := hid hcell
    have H := hid h
    have HF := hid hf
    have HU := hid hu
    have HIn := hid hIn
    have HPm := hid hPm
    have HIN := hid hin
    have HC1 := hid hc1e
    have HC2 := hid hc2e
    have hc1b : c1 ≤ 8589934592 := by omega
    have hc2b : c2 ≤ 8589934592 := by omega
    clear hB hcell hbd h hf hu hIn hPm hin hr hvi hc1e hc2e
    go_wp2_with fail
    obtain ⟨wo, rfl⟩ : ∃ wo : World, wo = wr := ⟨_, rfl⟩
    go_loopw [4, 15] (fun s4 s15 wr => ∃ (j bb nd : Nat), j ≤ 2 ∧ s15 = .int .i64 j ∧ s4 = .int .i64 bb ∧ bb < n ∧ Hid (BestSo A I i j bb) ∧ wr = wo.drewN nd) (fun _ s15 _ => 2 - (intOf s15).toNat)
    case atStart => exact ⟨0, i, 0, by omega, rfl, rfl, hi, best_start A I i, rfl⟩
    case round =>
      obtain ⟨j, bb, nd, hj, rfl, rfl, hbn, hbest, rfl⟩ := hrel
      by_cases hj2 : j < 2
      · have hjc : j = 0 ∨ j = 1 := by omega
        rcases hjc with hj0 | hj0
        · obtain rfl : j = 0 := by omega
          by_cases hcl : c1 < n
          · have hd : decide (c1 < n) = true := by simp [hcl]
            have b1 : (c1 : Int) < n := by omega
            have b2 : (bb : Int) < n := by omega
            have hck := HCELL.out c1 hcl
            have hcb := HCELL.out bb hbn
            cases hb : bef A (at' I c1) (at' I bb) with
            | true =>
              have HBF := hid (HB.out c1 bb true hcl hbn hb)
              have HBB := hid hb
              clear hb
              go_wp2_with fail
              go_quiet ((go_at_call 67; first | exact quiet_drew2 (HBF.out _ (hrep_drewN H.out _)) | exact quiet_drew (HBF.out _ (hrep_drewN H.out _))))
              go_wp2_with fail
              go_roundw
              case rel => exact ⟨0 + 1, c1, _, by omega, rfl, rfl, hcl, best_take hbest.out (by omega) HC1.out (by rw [HIn.out]; exact hcl) HBB.out, (by first | rfl | exact World.drewN_drewN ..)⟩
              case measure => simp [intOf]
            | false =>
              have HBF := hid (HB.out c1 bb false hcl hbn hb)
              have HBB := hid hb
              clear hb
              go_wp2_with fail
              go_quiet ((go_at_call 67; first | exact quiet_drew2 (HBF.out _ (hrep_drewN H.out _)) | exact quiet_drew (HBF.out _ (hrep_drewN H.out _))))
              go_wp2_with fail
              go_roundw
              case rel => exact ⟨0 + 1, bb, _, by omega, rfl, rfl, hbn, best_leave hbest.out (by omega) HC1.out (fun _ => HBB.out), (by first | rfl | exact World.drewN_drewN ..)⟩
              case measure => simp [intOf]
          · have hd : decide (c1 < n) = false := by simp; omega
            go_wp2_with fail
            go_quiet (fail)
            go_wp2_with fail
            go_roundw
            case rel => exact ⟨0 + 1, bb, _, by omega, rfl, rfl, hbn, best_leave hbest.out (by omega) HC1.out (fun h => by rw [HIn.out] at h; exact absurd h hcl), (by first | rfl | exact World.drewN_drewN ..)⟩
            case measure => simp [intOf]
        · obtain rfl : j = 1 := by omega
          by_cases hcl : c2 < n
          · have hd : decide (c2 < n) = true := by simp [hcl]
            have b1 : (c2 : Int) < n := by omega
            have b2 : (bb : Int) < n := by omega
            have hck := HCELL.out c2 hcl
            have hcb := HCELL.out bb hbn
            cases hb : bef A (at' I c2) (at' I bb) with
            | true =>
              have HBF := hid (HB.out c2 bb true hcl hbn hb)
              have HBB := hid hb
              clear hb
              go_wp2_with fail
              go_quiet ((go_at_call 67; first | exact quiet_drew2 (HBF.out _ (hrep_drewN H.out _)) | exact quiet_drew (HBF.out _ (hrep_drewN H.out _))))
              go_wp2_with fail
              go_roundw
              case rel => exact ⟨1 + 1, c2, _, by omega, rfl, rfl, hcl, best_take hbest.out (by omega) HC2.out (by rw [HIn.out]; exact hcl) HBB.out, (by first | rfl | exact World.drewN_drewN ..)⟩
              case measure => simp [intOf]
            | false =>
              have HBF := hid (HB.out c2 bb false hcl hbn hb)
              have HBB := hid hb
              clear hb
              go_wp2_with fail
              go_quiet ((go_at_call 67; first | exact quiet_drew2 (HBF.out _ (hrep_drewN H.out _)) | exact quiet_drew (HBF.out _ (hrep_drewN H.out _))))
              go_wp2_with fail
              go_roundw
              case rel => exact ⟨1 + 1, bb, _, by omega, rfl, rfl, hbn, best_leave hbest.out (by omega) HC2.out (fun _ => HBB.out), (by first | rfl | exact World.drewN_drewN ..)⟩
              case measure => simp [intOf]
          · have hd : decide (c2 < n) = false := by simp; omega
            go_wp2_with fail
            go_quiet (fail)
            go_wp2_with fail
            go_roundw
            case rel => exact ⟨1 + 1, bb, _, by omega, rfl, rfl, hbn, best_leave hbest.out (by omega) HC2.out (fun h => by rw [HIn.out] at h; exact absurd h hcl), (by first | rfl | exact World.drewN_drewN ..)⟩
            case measure => simp [intOf]
      · obtain rfl : j = 2 := by omega
        have hdone := best_done HU.out hbest.out
        by_cases hbi : bb = i
        · have hq : ((bb : Int) == (i : Int)) = true := by rw [hbi]; simp
          have HO := hid (hdone.1 hbi)
          clear hdone hbi
          go_wp2_with fail
          refine bodyPost_ret (v := .tuple #[]) (by simp [results, Try.results88, go_sem]) rfl ?_
          exact ⟨rfl, ⟨I, P, hrep_drewN (by rw [HV.out]; exact H.out) _, HO.out, HF.out, HIn.out, HPm.out, HIN.out⟩, ht.drewN _⟩
        · have hq : ((bb : Int) == (i : Int)) = false := by rw [beq_eq_false_iff_ne]; omega
          obtain ⟨hlt, hbl, hdn⟩ := hdone.2 hbi
          have HDN := hid hdn
          clear hdone hbi hdn
          go_wp2_with fail
          refine (q_swap b va _ vp A I P i bb _ (hrep_drewN H.out _) HF.out (by have := HIn.out; omega) (by have := HIn.out; omega) (by have := HPm.out; omega)).mono ?_
          rintro e w2 ⟨rfl, h2, ht2⟩
          have HH2 := hid h2
          have HT2 := hid ht2
          clear h2 ht2
          go_wp2_with fail
          go_roundw
          case rel =>
            exact ⟨bb, swp I i bb, swpP I P i bb, rfl, hbn, ⟨by rw [HV.out]; exact HH2.out, fits_swp HF.out (by have := HIn.out; omega) (by have := HIn.out; omega), HDN.out, by rw [swp_length]; exact HIn.out, by rw [swpP_length]; exact HPm.out, fun v => by rw [inI_swp (by have := HIn.out; omega) (by have := HIn.out; omega)]; exact HIN.out v⟩, (ht.drewN _).trans (by rw [HV.out]; exact HT2.out)⟩
          case measure => simp [intOf]; omega

end Go.Proofs.Ytfofabbnbmieoaa.Ord
