/- Plain definitions: what weepholelaw02.Fit makes. -/
import Derived.Test.YtfgaglgaofceiaaPCnf
namespace Go.Proofs.Ytfgaglgaofceiaa
open Go.RowKit

/-- The number of variables. -/
def fitV (n : Int) : Int := 1 + n % 12

/-- A clause. -/
def fitC (V : Int) (c : List Int) : List Int := (c.map (fun x => x.tmod (V + 1))).filter (fun x => x != 0)

/-- The clauses. -/
def fitF (n : Int) (l : List (List Int)) : List (List Int) := l.map (fitC (fitV n))

/-- Whether they are few enough. -/
def fitB (l : List (List Int)) : Bool := decide (l.length ≤ 30) && !(l.any (fun c => decide (20 < c.length)))

theorem fitC_step_zero {V x : Int} {c : List Int} {k : Nat} (hx : c[k]? = some x) (h : x.tmod (V + 1) = 0) : fitC V (c.take (k + 1)) = fitC V (c.take k) := by
  simp [fitC, List.take_add_one, hx, h]

theorem fitC_step {V x : Int} {c : List Int} {k : Nat} (hx : c[k]? = some x) (h : x.tmod (V + 1) ≠ 0) : fitC V (c.take (k + 1)) = fitC V (c.take k) ++ [x.tmod (V + 1)] := by
  simp [fitC, List.take_add_one, hx, h]

theorem fitC_length (V : Int) (c : List Int) : (fitC V c).length ≤ c.length := by
  have := List.length_filter_le (fun x : Int => x != 0) (c.map (fun x => x.tmod (V + 1)))
  simpa [fitC] using this

theorem fitF_step {V : Int} {l : List (List Int)} {c : List Int} {k : Nat} (hc : l[k]? = some c) : (l.take (k + 1)).map (fitC V) = (l.take k).map (fitC V) ++ [fitC V c] := by
  simp [List.take_add_one, hc]

theorem fitV_range (n : Int) : 1 ≤ fitV n ∧ fitV n ≤ 12 := by unfold fitV; omega

theorem mem_fitC {V x : Int} {c : List Int} (hV : 1 ≤ V) (h : x ∈ fitC V c) : x ≠ 0 ∧ -V ≤ x ∧ x ≤ V := by
  simp only [fitC, List.mem_filter, List.mem_map, bne_iff_ne, ne_eq] at h
  obtain ⟨⟨y, _, rfl⟩, h0⟩ := h
  refine ⟨h0, ?_⟩
  have h1 := Int.natAbs_tmod y (V + 1)
  have h2 : y.natAbs % (V + 1).natAbs < (V + 1).natAbs := Nat.mod_lt _ (by omega)
  rw [← h1] at h2
  omega

theorem fitB_false_at {l : List (List Int)} {k : Nat} {c : List Int} (hc : l[k]? = some c) (h : (20 : Int) < c.length) : fitB l = false := by
  have : l.any (fun c => decide (20 < c.length)) = true := any_of_get hc (by simp; omega)
  simp [fitB, this]
theorem fitB_false_long {l : List (List Int)} (h : (30 : Int) < l.length) : fitB l = false := by
  have : ¬ l.length ≤ 30 := by omega
  simp [fitB, this]
theorem fitB_true {l : List (List Int)} {k : Nat} (h : (l.length : Int) ≤ 30) (hk : ¬ k < l.length) (hr : (l.take k).any (fun c => decide (20 < c.length)) = false) : fitB l = true := by
  rw [List.take_of_length_le (by omega)] at hr
  have : l.length ≤ 30 := by omega
  simp only [fitB, hr, this]; rfl

end Go.Proofs.Ytfgaglgaofceiaa
