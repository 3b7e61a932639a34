/- Plain facts about lit.Holds and lit.Check. -/
import Derived.Test.YtfgaglgaofceiaaPLit
namespace Go.Proofs.Ytfgaglgaofceiaa
open Go.RowKit

theorem holdsB_append (m : List Bool) (c d : List Int) : holdsB m (c ++ d) = (holdsB m c || holdsB m d) := by simp [holdsB]

theorem litCheck_append {n : Int} {c d : List Int} (h : c.length + d.length ≤ 4096) : (litCheck n (c ++ d) == 0) = ((litCheck n c == 0) && (litCheck n d == 0)) := by
  unfold litCheck
  by_cases hn : n < 0 ∨ 1048576 < n
  · simp [hn]
  · have e1 : ¬ 4096 < (c ++ d).length := by simp; omega
    have e2 : ¬ 4096 < c.length := by omega
    have e3 : ¬ 4096 < d.length := by omega
    simp only [if_neg hn, if_neg e1, if_neg e2, if_neg e3, List.any_append]
    cases c.any (badLit n) <;> cases d.any (badLit n) <;> rfl

theorem litHolds_neg (m : List Bool) (y : Int) : (litHolds m y && litHolds m (-y)) = false := by
  by_cases h : y = 0
  · simp [litHolds_zero h]
  · simp only [litHolds, Int.natAbs_neg]
    rcases m[y.natAbs - 1]? with _ | b
    · simp
    · cases b <;> simp <;> omega

theorem litHolds_or (m : List Bool) (y : Int) : (litHolds m y || litHolds m (-y)) = decide (1 ≤ y.natAbs ∧ y.natAbs ≤ m.length) := by
  by_cases h : y = 0
  · simp [litHolds_zero, h]
  · simp only [litHolds, Int.natAbs_neg]
    by_cases hl : y.natAbs ≤ m.length
    · have hx : m[y.natAbs - 1]? = some m[y.natAbs - 1] := by simp
      rw [hx]
      generalize m[y.natAbs - 1] = b
      rw [decide_eq_true (⟨by omega, hl⟩ : 1 ≤ y.natAbs ∧ y.natAbs ≤ m.length)]
      have h1 : 0 < y.natAbs := by omega
      rcases Int.lt_or_gt_of_ne h with hy | hy
      · have e1 : ¬ 0 < y := by omega
        cases b <;> simp [h1, e1] <;> omega
      · have e2 : ¬ 0 < -y := by omega
        cases b <;> simp [h1, hy] <;> omega
    · have hx : m[y.natAbs - 1]? = none := by simp; omega
      rw [hx]
      simp [hl]

theorem tmod200 (x : Int) : -200 ≤ x.tmod 200 ∧ x.tmod 200 ≤ 200 := by
  have := Int.natAbs_tmod x 200
  have h2 : x.natAbs % 200 < 200 := Nat.mod_lt _ (by decide)
  have h3 : (x.tmod 200).natAbs < 200 := by rw [this]; exact h2
  omega

end Go.Proofs.Ytfgaglgaofceiaa
