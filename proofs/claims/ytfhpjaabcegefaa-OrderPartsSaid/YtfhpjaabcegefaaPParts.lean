/- Plain facts for OrderParts. -/
import Derived.Test.YtfhpjaabcegefaaLawT
namespace Go.Proofs.Ytfhpjaabcegefaa.Ord

/-- The activities once the variables from k + 1 on are bumped. -/
def pA (xs : List Int) (k : Nat) : List Int := 0 :: (List.replicate k 0 ++ xs.drop k)
/-- What is in then. -/
def pI (n k : Nat) : List Bool := List.replicate k false ++ List.replicate (n - k) true

theorem pA_zero (xs : List Int) : pA xs 0 = 0 :: xs := by simp [pA]
theorem pA_full (xs : List Int) : pA xs xs.length = List.replicate (xs.length + 1) 0 := by simp [pA, List.replicate_succ]
theorem pI_zero (n : Nat) : pI n 0 = List.replicate n true := by simp [pI]
theorem pI_full (n : Nat) : pI n n = List.replicate n false := by simp [pI]
theorem pI_length {n k : Nat} (_h : k ≤ n) : (pI n k).length = n := by simp [pI]; omega

theorem pA_actv {xs : List Int} {k : Nat} (y : Int) (_h : k < xs.length) : actv ((pA xs (k + 1)).set (k + 1) y) ((k : Int) + 1) = y := by
  have e : ((k : Int) + 1).toNat = k + 1 := by omega
  unfold actv
  rw [e, List.getD_eq_getElem?_getD, List.getElem?_set]
  have : k + 1 < (pA xs (k + 1)).length := by simp [pA]; omega
  simp [this]
theorem pA_actv0 {xs : List Int} {k : Nat} : actv (pA xs (k + 1)) ((k : Int) + 1) = 0 := by
  have e : ((k : Int) + 1).toNat = k + 1 := by omega
  unfold actv pA
  rw [e, List.getD_eq_getElem?_getD, List.getElem?_cons_succ, List.getElem?_append_left (by simp), List.getElem?_replicate]
  split <;> rfl
theorem pA_set {xs : List Int} {k : Nat} {x : Int} (h : xs[k]? = some x) : (pA xs (k + 1)).set (k + 1) x = pA xs k := by
  have hk : k < xs.length := (List.getElem?_eq_some_iff.1 h).1
  have hx := (List.getElem?_eq_some_iff.1 h).2
  unfold pA
  rw [List.set_cons_succ, List.drop_eq_getElem_cons hk, hx, List.replicate_succ', List.append_assoc]
  congr 1
  rw [List.set_append_right _ _ (by simp)]
  simp
theorem pI_set {n k : Nat} (h : k < n) : (pI n (k + 1)).set k true = pI n k := by
  unfold pI
  rw [List.replicate_succ', List.append_assoc, List.set_append_right _ _ (by simp), show n - k = (n - (k + 1)) + 1 by omega, List.replicate_succ]
  simp

theorem parts_one {xs : List Int} {k n : Nat} {y : Int} (h : k < xs.length) (hn : n = xs.length) (hy : 0 ≤ y ∧ y ≤ 65535) :
    bumpE (pA xs (k + 1)) n ((k : Int) + 1) y = 0 ∧ bumpA (pA xs (k + 1)) n ((k : Int) + 1) y = (pA xs (k + 1)).set (k + 1) y := by
  have e0 : bumpE (pA xs (k + 1)) n ((k : Int) + 1) y = 0 := by
    unfold bumpE
    rw [pA_actv0, if_pos (by omega)]
  refine ⟨e0, ?_⟩
  unfold bumpA
  rw [e0, if_pos rfl, pA_actv0, show ((k : Int) + 1).toNat = k + 1 by omega, Int.zero_add]

theorem parts_two {xs : List Int} {k n : Nat} {x y d : Int} (h : xs[k]? = some x) (hn : n = xs.length) (hd : d + y = x) (hy : 0 ≤ y ∧ y ≤ 65535) (hx : x ≤ 65535) :
    bumpE ((pA xs (k + 1)).set (k + 1) d) n ((k : Int) + 1) y = 0 ∧ bumpA ((pA xs (k + 1)).set (k + 1) d) n ((k : Int) + 1) y = pA xs k := by
  have hk : k < xs.length := (List.getElem?_eq_some_iff.1 h).1
  have e0 : bumpE ((pA xs (k + 1)).set (k + 1) d) n ((k : Int) + 1) y = 0 := by
    unfold bumpE
    rw [pA_actv d hk, if_pos ⟨by omega, by omega, hy.1, by omega, by omega⟩]
  refine ⟨e0, ?_⟩
  unfold bumpA
  rw [e0, if_pos rfl, pA_actv d hk, show ((k : Int) + 1).toNat = k + 1 by omega, List.set_set, hd]
  exact pA_set h

theorem parts_push {n k : Nat} (h : k < n) : pushE n ((k : Int) + 1) = 0 ∧ pushIn (pI n (k + 1)) ((k : Int) + 1) = pI n k := by
  refine ⟨by unfold pushE; rw [if_pos (by omega)], ?_⟩
  unfold pushIn
  rw [pI_length (by omega), if_pos (by omega), show ((k : Int) + 1 - 1).toNat = k by omega]
  exact pI_set h

end Go.Proofs.Ytfhpjaabcegefaa.Ord
