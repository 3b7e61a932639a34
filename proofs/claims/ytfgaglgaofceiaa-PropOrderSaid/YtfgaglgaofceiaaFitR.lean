/- The contracts of Fit and Model once more, by cases and with their shapes; what Fit makes is valid. -/
import Derived.Test.YtfgaglgaofceiaaFit
import Derived.Test.YtfgaglgaofceiaaCnfD
namespace Go.Proofs.Ytfgaglgaofceiaa
open Go.RowKit

theorem law02_FitT (n : Int) (v1 : Value) (l : List (List Int)) (w : World) (hfit : fitB l = true) (hn0 : 0 ≤ n) (hn1 : n ≤ 255) (h1 : ArgR .i8 w v1 l) :
    Calls Try.prog 29 #[.int .u8 n, v1] w fun e w' =>
      ∃ a c, e = .returned (.tuple #[.agg #[.int .i64 (fitV n), .slice a (fitF n l).length c], .bool true]) ∧ OwnRw w' w.heap.size (.slice a (fitF n l).length c) (fitF n l) ∧ Rws w' a (fitF n l) ∧ Below w.heap.size w w' := by
  refine (law02_Fit n v1 l w hn0 hn1 h1).mono ?_
  rintro e w' ⟨h | ⟨_, v, rfl, ho⟩, hb⟩
  · rw [hfit] at h; cases h.1
  · obtain ⟨a, c, rfl, _, _, hr⟩ := ho.shape
    exact ⟨a, c, rfl, ho, hr, hb⟩

theorem law02_FitF (n : Int) (v1 : Value) (l : List (List Int)) (w : World) (hfit : fitB l = false) (hn0 : 0 ≤ n) (hn1 : n ≤ 255) (h1 : ArgR .i8 w v1 l) :
    Calls Try.prog 29 #[.int .u8 n, v1] w fun e w' =>
      e = .returned (.tuple #[.agg #[.int .i64 0, .slice none 0 0], .bool false]) ∧ Below w.heap.size w w' := by
  refine (law02_Fit n v1 l w hn0 hn1 h1).mono ?_
  rintro e w' ⟨⟨_, rfl⟩ | ⟨h, _⟩, hb⟩
  · exact ⟨rfl, hb⟩
  · rw [hfit] at h; cases h

theorem law02_ModelR (x : Int) (n : Nat) (b : Int) (w : World) (hx : x = n) (hn : n ≤ 64) (h0 : 0 ≤ b) (h1 : b ≤ 65535) :
    Calls Try.prog 39 #[.int .i64 x, .int .u16 b] w fun e w' => ∃ a c, e = .returned (.slice a (modelL n b).length c) ∧ w'.ownsRow w.heap.size 4 1 (.slice a (modelL n b).length c) (modelL n b).length (bools (modelL n b)) ∧ SlV w' a (bools (modelL n b)) ∧ Below w.heap.size w w' := by
  subst hx
  refine (law02_Model n b w hn h0 h1).mono ?_
  rintro e w' ⟨v, rfl, ho, hb⟩
  obtain ⟨a, c, rfl, _, _, hs⟩ := own_sl ho
  have hl : (modelL n b).length = n := by simp [modelL]
  rw [bools_length] at *
  exact ⟨a, c, rfl, hl.symm ▸ ho, hs, hb⟩

theorem fitF_length (n : Int) (l : List (List Int)) : (fitF n l).length = l.length := by simp [fitF]

theorem fitB_bounds {l : List (List Int)} (h : fitB l = true) : l.length ≤ 30 ∧ ∀ c ∈ l, c.length ≤ 20 := by
  simp only [fitB, Bool.and_eq_true, decide_eq_true_eq, Bool.not_eq_true', List.any_eq_false] at h
  exact ⟨h.1, fun c hc => by simpa using h.2 c hc⟩

theorem mem_fitF {n : Int} {l : List (List Int)} (h : fitB l = true) {d : List Int} (hd : d ∈ fitF n l) : d.length ≤ 20 ∧ ∀ x ∈ d, x ≠ 0 ∧ -fitV n ≤ x ∧ x ≤ fitV n := by
  simp only [fitF, List.mem_map] at hd
  obtain ⟨c, hc, rfl⟩ := hd
  exact ⟨Nat.le_trans (fitC_length _ _) ((fitB_bounds h).2 c hc), fun x hx => mem_fitC (fitV_range n).1 hx⟩

theorem fok_fit {n : Int} {l : List (List Int)} (h : fitB l = true) : FOk (fitF n l) := fun d hd => by
  have h1 := mem_fitF h hd
  have h2 := fitV_range n
  exact ⟨fun x hx => by have := h1.2 x hx; unfold I64; omega, by omega⟩

theorem litCheck_fit {n : Int} {l : List (List Int)} (h : fitB l = true) {d : List Int} (hd : d ∈ fitF n l) : litCheck (fitV n) d = 0 := by
  have h1 := mem_fitF h hd
  have h2 := fitV_range n
  refine litCheck_ok (by omega) (by omega) ?_
  rw [List.any_eq_false]
  intro x hx
  have := h1.2 x hx
  simp [badLit]; omega

theorem cnfCheck_fit {n : Int} {l : List (List Int)} (h : fitB l = true) : cnfCheck (fitV n) (fitF n l) = 0 := by
  have h2 := fitV_range n
  have h3 := (fitB_bounds h).1
  have h4 := fitF_length n l
  rw [cnfCheck_find (by omega) (by omega)]
  have : (fitF n l).find? (fun c => litCheck (fitV n) c != 0) = none := by
    rw [List.find?_eq_none]
    intro d hd
    simp [litCheck_fit h hd]
  rw [this]

end Go.Proofs.Ytfgaglgaofceiaa
