/- Plain facts for GatePartial: what is known of each literal. -/
import Derived.Test.YtacmfiikdbekbaaQGateW

namespace Go.Proofs.Ytacmfiikdbekbaa.Ord

/-- What is marked as known is decided. -/
def KI (G : List (List Int)) (A : List Int) (L : List Int) (kn : List Bool) : Prop := kn.length = L.length ∧ ∀ j, kn[j]? = some true → Dec G A (L.getD j 0)

theorem KI.set {G : List (List Int)} {A L : List Int} {kn : List Bool} (h : KI G A L kn) {j : Nat} {v : Bool} (hv : v = true → Dec G A (L.getD j 0)) : KI G A L (kn.set j v) := by
  refine ⟨by rw [List.length_set]; exact h.1, fun i hi => ?_⟩
  rw [List.getElem?_set] at hi
  by_cases e : j = i
  · subst e
    rw [if_pos rfl] at hi
    split at hi
    · injection hi with hi
      exact hv hi
    · cases hi
  · rw [if_neg e] at hi
    exact h.2 i hi

theorem KI.more {G : List (List Int)} {A A' L : List Int} {kn : List Bool} (h : KI G A L kn) (hA : ∀ a ∈ A, a ∈ A') : KI G A' L kn :=
  ⟨h.1, fun j hj => (h.2 j hj).elim (fun q => .inl (der_mono (sub_of_subset fun _ k => k) hA q)) (fun q => .inr (der_mono (sub_of_subset fun _ k => k) hA q))⟩

theorem KI.none (G : List (List Int)) (A L : List Int) : KI G A L (List.replicate L.length false) := by
  refine ⟨by simp, fun j hj => ?_⟩
  have := List.eq_of_mem_replicate (List.mem_of_getElem? hj)
  cases this

/-- What Is answers of a literal that is decided. -/
theorem dec_is {n : Nat} {G : List (List Int)} {A0 A K k : List Int} {x : Int} {v : Bool} (hC : Circ n G A0 K) (hk : kOk k) (hs : ∀ a, LitOk n a → kT k a → a ∈ K) (hd : ∀ a, Der G A a → kT k a) (hx : Vl K x v) (hdec : Dec G A x) : decide (k.getD x.natAbs 0 = 0) = !true ∧ decide (kT k x) = v := by
  have hxo := hC.dk.1 hx.1
  have hno : LitOk n (-x) := by unfold LitOk at *; omega
  refine ⟨decide_eq_false fun h => ?_, ?_⟩
  · obtain ⟨h1, h2⟩ := (is_known hk hxo.1).1 h
    rcases hdec with q | q
    · exact h1 (hd _ q)
    · exact h2 (hd _ q)
  · have hv := hx.2
    unfold tv at hv
    rw [← hv]
    refine decide_eq_decide.2 ⟨hs x hxo, fun hxK => ?_⟩
    rcases hdec with q | q
    · exact hd _ q
    · exact absurd (hs _ hno (hd _ q)) (hC.cons x hxK)

/-- The literal of an input that is assumed. -/
theorem asV_get {k i : Nat} {V : List Bool} {a : Int} (hV : V.length = k) (h : (asV (inL k) V)[i]? = some a) : i < k ∧ (a = (i : Int) + 2 ∨ a = -((i : Int) + 2)) := by
  have hi : i < (asV (inL k) V).length := (List.getElem?_eq_some_iff.1 h).1
  have hik : i < k := by simp [asV, inL_length, hV] at hi; exact hi
  refine ⟨hik, ?_⟩
  have e1 : (inL k)[i]? = some ((i : Int) + 2) := by simp [inL, hik]
  have e2 : V[i]? = some V[i] := List.getElem?_eq_getElem (by omega)
  simp only [asV, List.getElem?_zipWith, e1, e2] at h
  injection h with h
  rw [← h]
  split
  · exact .inl rfl
  · exact .inr rfl

end Go.Proofs.Ytacmfiikdbekbaa.Ord
