/- Plain facts for the law LitNormal: the clause in another order. -/
import Derived.Test.YtaekcejenagbgaaPSort
namespace Go.Proofs.Ytaekcejenagbgaa
open Go.RowKit

theorem mem_normV_iff {x : Int} {xs : List Int} (h : adjB (normL xs) = false) : x ∈ normV xs ↔ x ∈ xs ∧ x ≠ 0 := by
  rw [normV_false h, mem_normL_iff]

theorem asc_normV (xs : List Int) : Asc (normV xs) := by
  unfold normV
  split
  · exact List.Pairwise.nil
  · exact asc_normL xs

/-- Neighbours of Norm's literals: in order, and no literal beside its negative. -/
theorem normV_next {xs : List Int} {i : Nat} {u v : Int} (hu : (normV xs)[i]? = some u) (hv : (normV xs)[i + 1]? = some v) : lessB u v = true ∧ u.natAbs ≠ v.natAbs := by
  have h1 := asc_get (asc_normV xs) (show i < i + 1 by omega) hu hv
  refine ⟨h1, fun e => ?_⟩
  cases hr : adjB (normL xs) with
  | true => rw [normV_true hr] at hu; simp at hu
  | false =>
    rw [normV_false hr] at hu hv
    rw [adjB_of hv hu (by simp; omega)] at hr; cases hr

theorem normV_adj (xs : List Int) : adjB (normV xs) = false := by
  cases hr : adjB (normL xs) with
  | true => rw [normV_true hr]; rfl
  | false => rw [normV_false hr]; exact hr

theorem normL_normV (xs : List Int) : normL (normV xs) = normV xs := by
  refine asc_ext (asc_normL _) (asc_normV _) fun x => ?_
  rw [mem_normL_iff]
  refine ⟨fun h => h.1, fun h => ⟨h, ?_⟩⟩
  cases hr : adjB (normL xs) with
  | true => rw [normV_true hr] at h; simp at h
  | false => rw [normV_false hr] at h; exact (mem_normL_iff.1 h).2

theorem normV_normV (xs : List Int) : normV (normV xs) = normV xs := by
  have h := normV_adj xs
  rw [← normL_normV xs] at h
  rw [normV_false h, normL_normV]

theorem adj_normV (xs : List Int) : adjB (normL (normV xs)) = false := by rw [normL_normV]; exact normV_adj xs

/-- What a round adds. -/
def otherAt (c : List Int) (t i : Nat) : List Int :=
  c.getD ((c.length - 1 - i + t) % c.length) 0 :: if i % 3 = 1 then [c.getD i 0] else []

/-- The clause in another order. -/
def otherL (c : List Int) (t k : Nat) : List Int := (List.range k).flatMap (otherAt c t)

theorem otherL_succ (c : List Int) (t k : Nat) : otherL c t (k + 1) = otherL c t k ++ otherAt c t k := by
  simp [otherL, List.range_succ]

theorem otherL_length (c : List Int) (t : Nat) : ∀ k, (otherL c t k).length ≤ 2 * k
  | 0 => by simp [otherL]
  | k + 1 => by
    have := otherL_length c t k
    rw [otherL_succ, List.length_append]
    have h2 : (otherAt c t k).length ≤ 2 := by unfold otherAt; split <;> simp
    omega

theorem mem_otherAt {c : List Int} {t i : Nat} {x : Int} (hi : i < c.length) (h : x ∈ otherAt c t i) : x ∈ c := by
  have hm : (c.length - 1 - i + t) % c.length < c.length := Nat.mod_lt _ (by omega)
  unfold otherAt at h
  rcases List.mem_cons.1 h with h | h
  · subst h
    rw [List.getD_eq_getElem?_getD, List.getElem?_eq_getElem hm]
    simp
  · split at h
    · simp at h; subst h
      rw [List.getElem?_eq_getElem hi]; simp
    · simp at h

theorem mem_otherL_le {c : List Int} {t k : Nat} {x : Int} (hk : k ≤ c.length) (h : x ∈ otherL c t k) : x ∈ c := by
  simp only [otherL, List.mem_flatMap, List.mem_range] at h
  obtain ⟨i, hi, hx⟩ := h
  exact mem_otherAt (by omega) hx

theorem mem_otherL {c : List Int} {t : Nat} {x : Int} : x ∈ otherL c t c.length ↔ x ∈ c := by
  refine ⟨mem_otherL_le (Nat.le_refl _), fun h => ?_⟩
  obtain ⟨j, hj, rfl⟩ := List.getElem_of_mem h
  simp only [otherL, List.mem_flatMap, List.mem_range]
  have hn : 0 < c.length := by omega
  refine ⟨(c.length - 1 - j + t) % c.length, Nat.mod_lt _ hn, ?_⟩
  have key : (c.length - 1 - (c.length - 1 - j + t) % c.length + t) % c.length = j := by
    obtain ⟨q, hq⟩ : ∃ q, c.length - 1 - j + t = c.length * q + (c.length - 1 - j + t) % c.length := ⟨(c.length - 1 - j + t) / c.length, (Nat.div_add_mod _ _).symm⟩
    have hlt : (c.length - 1 - j + t) % c.length < c.length := Nat.mod_lt _ hn
    generalize (c.length - 1 - j + t) % c.length = r at *
    have e : c.length - 1 - r + t = j + c.length * q := by omega
    rw [e, Nat.add_mul_mod_self_left, Nat.mod_eq_of_lt hj]
  unfold otherAt
  rw [key]
  simp [hj]

theorem normL_other (c : List Int) (t : Nat) : normL (otherL c t c.length) = normL c := normL_congr fun _ _ => mem_otherL

theorem normV_other (c : List Int) (t : Nat) : normV (otherL c t c.length) = normV c := by unfold normV; rw [normL_other]

theorem any_eq_of_mem {l : List Int} {x : Int} (h : x ∈ l) : l.any (fun y => y == x) = true := List.any_eq_true.2 ⟨x, h, by simp⟩

end Go.Proofs.Ytaekcejenagbgaa
