/- Plain definitions and lemmas about literals and clauses: no program in sight. -/
import Derived.Test.YtfgaglgaofceiaaBase
namespace Go.Proofs.Ytfgaglgaofceiaa
open Go.RowKit

theorem take_any_succ {α : Type} {p : α → Bool} {xs : List α} {k : Nat} {x : α} (h : xs[k]? = some x) (ha : (xs.take k).any p = false) (hp : p x = false) :
    (xs.take (k + 1)).any p = false := by
  rw [List.take_add_one, h]
  simp only [List.any_append, ha, Bool.false_or]
  simp [hp]

theorem any_of_get {α : Type} {p : α → Bool} {xs : List α} {k : Nat} {x : α} (h : xs[k]? = some x) (hp : p x = true) : xs.any p = true :=
  List.any_eq_true.2 ⟨x, List.mem_of_getElem? h, hp⟩

theorem take_all_false {α : Type} {p : α → Bool} {xs : List α} {k : Nat} (hk : ¬ k < xs.length) (ha : (xs.take k).any p = false) : xs.any p = false := by
  rwa [List.take_of_length_le (by omega)] at ha

/-- lit.Less. -/
def lessB (a b : Int) : Bool := decide (a.natAbs < b.natAbs) || (a.natAbs == b.natAbs && decide (b < a))

/-- A number is no literal of n variables. -/
def badLit (n a : Int) : Bool := a == 0 || decide (n < a.natAbs)

/-- lit.Check: the error of a clause. -/
def litCheck (n : Int) (c : List Int) : Int :=
  if n < 0 ∨ 1048576 < n then 3 else if 4096 < c.length then 5 else if c.any (badLit n) then 3 else 0

theorem litCheck_range {n : Int} {c : List Int} (h : n < 0 ∨ 1048576 < n) : litCheck n c = 3 := by simp [litCheck, h]
theorem litCheck_long {n : Int} {c : List Int} (h : 0 ≤ n ∧ n ≤ 1048576) (hl : (4096 : Int) < c.length) : litCheck n c = 5 := by
  unfold litCheck; rw [if_neg (by omega), if_pos (by omega)]
theorem litCheck_bad {n : Int} {c : List Int} (h : 0 ≤ n ∧ n ≤ 1048576) (hl : (c.length : Int) ≤ 4096) (hb : c.any (badLit n) = true) : litCheck n c = 3 := by
  unfold litCheck; rw [if_neg (by omega), if_neg (by omega), if_pos hb]
theorem litCheck_ok {n : Int} {c : List Int} (h : 0 ≤ n ∧ n ≤ 1048576) (hl : (c.length : Int) ≤ 4096) (hb : c.any (badLit n) = false) : litCheck n c = 0 := by
  unfold litCheck; rw [if_neg (by omega), if_neg (by omega), if_neg (by simp [hb])]

/-- The literal a holds in the model m. -/
def litHolds (m : List Bool) (a : Int) : Bool := decide (0 < a.natAbs) && m[a.natAbs - 1]? == some (decide (0 < a))

theorem litHolds_zero {m : List Bool} {a : Int} (h : a = 0) : litHolds m a = false := by simp [litHolds, h]
theorem litHolds_out {m : List Bool} {a : Int} (h : m.length < a.natAbs) : litHolds m a = false := by
  have : m[a.natAbs - 1]? = none := by simp; omega
  simp [litHolds, this]
theorem litHolds_in {m : List Bool} {a : Int} {x : Bool} (h : 0 < a.natAbs) (hx : m[a.natAbs - 1]? = some x) : litHolds m a = (x == decide (0 < a)) := by
  have ha : a ≠ 0 := by omega
  simp [litHolds, hx, ha]

/-- lit.Holds. -/
def holdsB (m : List Bool) (c : List Int) : Bool := c.any (litHolds m)

/-- lit.sorted's merge: two ascending lists into one, equal elements once. -/
def mrg : List Int → List Int → List Int
  | [], bs => bs
  | a :: as, [] => a :: as
  | a :: as, b :: bs =>
    if lessB a b then a :: mrg as (b :: bs) else if lessB b a then b :: mrg (a :: as) bs else mrg as (b :: bs)
termination_by as bs => as.length + bs.length

/-- lit.sorted, with so many levels of recursion. -/
def msort : Nat → List Int → List Int
  | 0, xs => xs
  | n + 1, xs => if xs.length < 2 then xs else mrg (msort n (xs.take (xs.length / 2))) (msort n (xs.drop (xs.length / 2)))

theorem mrg_nil_left (bs : List Int) : mrg [] bs = bs := by rw [mrg.eq_def]
theorem mrg_nil_right (as : List Int) : mrg as [] = as := by rw [mrg.eq_def]; cases as <;> rfl
theorem mrg_cons (a b : Int) (as bs : List Int) : mrg (a :: as) (b :: bs) =
    if lessB a b then a :: mrg as (b :: bs) else if lessB b a then b :: mrg (a :: as) bs else mrg as (b :: bs) := by rw [mrg.eq_def]

theorem mem_mrg {x : Int} : ∀ (as bs : List Int), x ∈ mrg as bs → x ∈ as ∨ x ∈ bs := by
  intro as bs
  induction as, bs using mrg.induct with
  | case1 bs => rw [mrg_nil_left]; exact Or.inr
  | case2 a as => rw [mrg_nil_right]; exact Or.inl
  | case3 a as b bs h ih =>
    rw [mrg_cons, if_pos h]
    intro hx
    rcases List.mem_cons.1 hx with h | h
    · simp [h]
    · rcases ih h with h | h <;> simp_all
  | case4 a as b bs h h2 ih =>
    rw [mrg_cons, if_neg h, if_pos h2]
    intro hx
    rcases List.mem_cons.1 hx with h | h
    · simp [h]
    · rcases ih h with h | h <;> simp_all
  | case5 a as b bs h h2 ih =>
    rw [mrg_cons, if_neg h, if_neg h2]
    intro hx
    rcases ih hx with h | h <;> simp_all

theorem mem_msort {x : Int} : ∀ (n : Nat) (xs : List Int), x ∈ msort n xs → x ∈ xs := by
  intro n
  induction n with
  | zero => intro xs h; exact h
  | succ n ih =>
    intro xs h
    rw [msort] at h
    split at h
    · exact h
    · rcases mem_mrg _ _ h with h | h
      · exact List.mem_of_mem_take (ih _ h)
      · exact List.mem_of_mem_drop (ih _ h)

theorem mrg_length : ∀ (as bs : List Int), (mrg as bs).length ≤ as.length + bs.length := by
  intro as bs
  induction as, bs using mrg.induct with
  | case1 bs => rw [mrg_nil_left]; simp
  | case2 a as => rw [mrg_nil_right]; simp
  | case3 a as b bs h ih => rw [mrg_cons, if_pos h]; simp at *; omega
  | case4 a as b bs h h2 ih => rw [mrg_cons, if_neg h, if_pos h2]; simp at *; omega
  | case5 a as b bs h h2 ih => rw [mrg_cons, if_neg h, if_neg h2]; simp at *; omega

theorem msort_length : ∀ (n : Nat) (xs : List Int), (msort n xs).length ≤ xs.length := by
  intro n
  induction n with
  | zero => intro xs; exact Nat.le_refl _
  | succ n ih =>
    intro xs
    rw [msort]
    split
    · exact Nat.le_refl _
    · have h1 := mrg_length (msort n (xs.take (xs.length / 2))) (msort n (xs.drop (xs.length / 2)))
      have h2 := ih (xs.take (xs.length / 2))
      have h3 := ih (xs.drop (xs.length / 2))
      simp at h2 h3
      omega

end Go.Proofs.Ytfgaglgaofceiaa
