/- Plain facts about the chain of clauses -v or v + 1. -/
import Derived.Test.YtfgaglgaofceiaaPRef
namespace Go.Proofs.Ytfgaglgaofceiaa.Ord

def chF (m : Nat) : List (List Int) := (List.range m).map fun i : Nat => [-((i : Int) + 1), (i : Int) + 2]
def posL (k : Nat) : List Int := (List.range k).map fun i : Nat => (i : Int) + 1
def negL (k : Nat) : List Int := (List.range k).map fun i : Nat => -((i : Int) + 1)

theorem chF_length (m : Nat) : (chF m).length = m := by simp [chF]
theorem chF_succ (m : Nat) : chF (m + 1) = chF m ++ [[-((m : Int) + 1), (m : Int) + 2]] := by simp [chF, List.range_succ]
theorem posL_succ (m : Nat) : posL (m + 1) = posL m ++ [(m : Int) + 1] := by simp [posL, List.range_succ]
theorem negL_succ (m : Nat) : negL (m + 1) = negL m ++ [-((m : Int) + 1)] := by simp [negL, List.range_succ]
theorem posL_length (m : Nat) : (posL m).length = m := by simp [posL]
theorem negL_length (m : Nat) : (negL m).length = m := by simp [negL]

theorem mem_chF {m : Nat} {c : List Int} : c ∈ chF m ↔ ∃ i : Nat, i < m ∧ c = [-((i : Int) + 1), (i : Int) + 2] := by
  simp only [chF, List.mem_map, List.mem_range]
  exact ⟨fun ⟨i, h1, h2⟩ => ⟨i, h1, h2.symm⟩, fun ⟨i, h1, h2⟩ => ⟨i, h1, h2.symm⟩⟩
theorem mem_posL {k : Nat} {a : Int} : a ∈ posL k ↔ 1 ≤ a ∧ a ≤ k := by
  simp only [posL, List.mem_map, List.mem_range]
  exact ⟨fun ⟨i, h1, h2⟩ => by omega, fun h => ⟨(a - 1).toNat, by omega, by omega⟩⟩
theorem mem_negL {k : Nat} {a : Int} : a ∈ negL k ↔ a ≤ -1 ∧ -(k : Int) ≤ a := by
  simp only [negL, List.mem_map, List.mem_range]
  exact ⟨fun ⟨i, h1, h2⟩ => by omega, fun h => ⟨(-a - 1).toNat, by omega, by omega⟩⟩

theorem chain_up (m : Nat) {A : List Int} (hA : (1 : Int) ∈ A) : ∀ i : Nat, i ≤ m → Der (chF m) A ((i : Int) + 1) := by
  intro i
  induction i with
  | zero => intro _; exact .asm (by simpa using hA)
  | succ i ih =>
    intro hi
    refine .unit (c := [-((i : Int) + 1), (i : Int) + 2]) (mem_chF.2 ⟨i, by omega, rfl⟩) (by simp; omega) fun x hx hne => ?_
    simp at hx
    rcases hx with rfl | rfl
    · have := ih (by omega)
      rwa [Int.neg_neg]
    · exact absurd (by simp; omega) hne

theorem chain_down (m : Nat) {A : List Int} (hA : -((m : Int) + 1) ∈ A) : ∀ j i : Nat, i + j = m → Der (chF m) A (-((i : Int) + 1)) := by
  intro j
  induction j with
  | zero => intro i hi; exact .asm (by rw [show (i : Int) = m by omega]; exact hA)
  | succ j ih =>
    intro i hi
    refine .unit (c := [-((i : Int) + 1), (i : Int) + 2]) (mem_chF.2 ⟨i, by omega, rfl⟩) (by simp) fun x hx hne => ?_
    simp at hx
    rcases hx with rfl | rfl
    · exact absurd rfl hne
    · have := ih (i + 1) (by omega)
      rwa [show -(((i + 1 : Nat) : Int) + 1) = -((i : Int) + 2) by omega] at this

theorem chain_closed (m : Nat) : Closed (chF m) [1] (posL (m + 1)) := by
  refine ⟨fun a ha => ?_, fun a ha => ?_, fun a ha hn => ?_, fun c hc l hl hm => ?_, fun c hc => ?_⟩
  · rw [mem_posL] at ha
    have := chain_up m (A := [1]) (by simp) (a - 1).toNat (by omega)
    rwa [show (((a - 1).toNat : Nat) : Int) + 1 = a by omega] at this
  · simp at ha; subst ha; rw [mem_posL]; omega
  · rw [mem_posL] at ha hn; omega
  · obtain ⟨i, hi, rfl⟩ := mem_chF.1 hc
    simp at hl
    rcases hl with rfl | rfl
    · have := hm ((i : Int) + 2) (by simp) (by omega)
      rw [mem_posL] at this; omega
    · rw [mem_posL]; omega
  · obtain ⟨i, hi, rfl⟩ := mem_chF.1 hc
    exact ⟨(i : Int) + 2, by simp, by rw [mem_posL]; omega⟩

theorem chain_closed_back (m : Nat) : Closed (chF m) [-((m : Int) + 1)] (negL (m + 1)) := by
  refine ⟨fun a ha => ?_, fun a ha => ?_, fun a ha hn => ?_, fun c hc l hl hm => ?_, fun c hc => ?_⟩
  · rw [mem_negL] at ha
    have := chain_down m (A := [-((m : Int) + 1)]) (by simp) (m - (-a - 1).toNat) (-a - 1).toNat (by omega)
    rwa [show -((((-a - 1).toNat : Nat) : Int) + 1) = a by omega] at this
  · simp at ha; subst ha; rw [mem_negL]; omega
  · rw [mem_negL] at ha hn; omega
  · obtain ⟨i, hi, rfl⟩ := mem_chF.1 hc
    simp at hl
    rcases hl with rfl | rfl
    · rw [mem_negL]; omega
    · have := hm (-((i : Int) + 1)) (by simp) (by omega)
      rw [mem_negL] at this; omega
  · obtain ⟨i, hi, rfl⟩ := mem_chF.1 hc
    exact ⟨-((i : Int) + 1), by simp, by rw [mem_negL]; omega⟩

theorem chain_bad (m : Nat) : Bad (chF m) [1, -((m : Int) + 1)] :=
  .inl ⟨(m : Int) + 1, chain_up m (by simp) m (Nat.le_refl _), .asm (by simp)⟩

theorem byVar_pos (k m : Nat) (h : m ≤ k) : byVar m (fun a => decide (a ∈ posL k)) = posL m := by
  induction m with
  | zero => rfl
  | succ m ih =>
    have h1 : ((m : Int) + 1) ∈ posL k := by rw [mem_posL]; omega
    have h2 : -((m : Int) + 1) ∉ posL k := by rw [mem_posL]; omega
    rw [byVar_succ, ih (by omega), posL_succ]
    simp [h1, h2]

theorem byVar_neg (k m : Nat) (h : m ≤ k) : byVar m (fun a => decide (a ∈ negL k)) = negL m := by
  induction m with
  | zero => rfl
  | succ m ih =>
    have h1 : ((m : Int) + 1) ∉ negL k := by rw [mem_negL]; omega
    have h2 : -((m : Int) + 1) ∈ negL k := by rw [mem_negL]; omega
    rw [byVar_succ, ih (by omega), negL_succ]
    simp [h1, h2]

theorem chain_check (m : Nat) (h : m ≤ 100000) : cnfCheck ((m + 1 : Nat) : Int) (chF m) = 0 := by
  rw [cnfCheck_find (by omega) (by rw [chF_length]; omega)]
  rw [List.find?_eq_none.2 ?_]
  intro c hc
  obtain ⟨i, hi, rfl⟩ := mem_chF.1 hc
  rw [litCheck_ok (by omega) (by simp)]
  · simp
  · simp [badLit]
    omega

end Go.Proofs.Ytfgaglgaofceiaa.Ord
