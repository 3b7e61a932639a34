/- Plain: what Units answers is closed. -/
import Derived.Test.YtfgaglgaofceiaaPGrows
import Derived.Test.YtfgaglgaofceiaaPSort
namespace Go.Proofs.Ytfgaglgaofceiaa

/-- The literals of a clause that are open, each once: one step. -/
def seenS (u : List Int) (s : List Int) (c : Int) : List Int := if -c ∈ u ∨ c ∈ s then s else s ++ [c]

/-- The literals of a clause that are open, each once. -/
def seenC (u : List Int) (c : List Int) : List Int := c.foldl (seenS u) []

theorem seenS_mem {u s : List Int} {c m : Int} : m ∈ seenS u s c ↔ m ∈ s ∨ (m = c ∧ -c ∉ u) := by
  unfold seenS
  split
  · rename_i h
    constructor
    · exact Or.inl
    · rintro (h1 | ⟨rfl, h2⟩)
      · exact h1
      · rcases h with h | h
        · exact (h2 h).elim
        · exact h
  · rename_i h
    simp only [not_or] at h
    simp only [List.mem_append, List.mem_singleton]
    constructor
    · rintro (h1 | rfl)
      · exact .inl h1
      · exact .inr ⟨rfl, h.1⟩
    · rintro (h1 | ⟨rfl, -⟩)
      · exact .inl h1
      · exact .inr rfl

theorem seen_foldl_mem (u : List Int) (c : List Int) : ∀ (s : List Int) (m : Int), m ∈ c.foldl (seenS u) s ↔ m ∈ s ∨ (m ∈ c ∧ -m ∉ u) := by
  induction c with
  | nil => simp
  | cons x c ih =>
    intro s m
    rw [List.foldl_cons, ih, seenS_mem]
    simp only [List.mem_cons]
    constructor
    · rintro ((h | ⟨rfl, h⟩) | ⟨h, h2⟩)
      · exact .inl h
      · exact .inr ⟨.inl rfl, h⟩
      · exact .inr ⟨.inr h, h2⟩
    · rintro (h | ⟨rfl | h, h2⟩)
      · exact .inl (.inl h)
      · exact .inl (.inr ⟨rfl, h2⟩)
      · exact .inr ⟨h, h2⟩

theorem seenC_mem {u c : List Int} {m : Int} : m ∈ seenC u c ↔ m ∈ c ∧ -m ∉ u := by
  unfold seenC
  rw [seen_foldl_mem]
  simp

theorem seenS_length (u s : List Int) (c : Int) : (seenS u s c).length ≤ s.length + 1 := by
  unfold seenS
  split <;> simp

theorem seenC_take_length (u c : List Int) (k : Nat) : (seenC u (c.take k)).length ≤ k := by
  unfold seenC
  suffices h : ∀ (l s : List Int), (l.foldl (seenS u) s).length ≤ s.length + l.length by
    have := h (c.take k) []
    simp at this
    omega
  intro l
  induction l with
  | nil => simp
  | cons x l ih =>
    intro s
    rw [List.foldl_cons]
    have := ih (seenS u s x)
    have := seenS_length u s x
    simp only [List.length_cons]
    omega

theorem seenC_step {u c : List Int} {k : Nat} {x : Int} (hx : c[k]? = some x) : seenC u (c.take (k + 1)) = seenS u (seenC u (c.take k)) x := by
  unfold seenC
  rw [List.take_add_one, hx]
  simp

/-- No clause is false, and none has just one open literal that is not known. -/
theorem up_clause {n : Nat} {C : List (List Int)} {A : List Int} (hC : ClsOk n C) (hA : ∀ a ∈ A, LitOk n a) (hb : ¬ Bad C A) {c : List Int} (hc : c ∈ C) (hh : ∀ l ∈ c, l ∉ upL n C A) : 2 ≤ (seenC (upL n C A) c).length := by
  have hm := fun a => @mem_upL n C A hC hA hb a
  rcases Nat.lt_or_ge (seenC (upL n C A) c).length 2 with h | h
  · exfalso
    match hs : seenC (upL n C A) c, h with
    | [], _ =>
      refine hb (.inr ⟨c, hc, fun l hl => ?_⟩)
      rw [← hm]
      have := mt (fun h2 => (seenC_mem (u := upL n C A) (c := c)).2 ⟨hl, h2⟩) (by rw [hs]; simp : l ∉ seenC (upL n C A) c)
      exact Classical.not_not.1 this
    | [l], _ =>
      have hl := (seenC_mem (u := upL n C A) (c := c) (m := l)).1 (by rw [hs]; simp)
      refine hh l hl.1 ((hm l).2 (.unit hc hl.1 fun m hmc hne => ?_))
      rw [← hm]
      have := mt (fun h2 => (seenC_mem (u := upL n C A) (c := c)).2 ⟨hmc, h2⟩) (by rw [hs]; simpa using hne : m ∉ seenC (upL n C A) c)
      exact Classical.not_not.1 this
  · exact h

theorem up_cons {n : Nat} {C : List (List Int)} {A : List Int} (hC : ClsOk n C) (hA : ∀ a ∈ A, LitOk n a) (hb : ¬ Bad C A) : ∀ a ∈ upL n C A, -a ∉ upL n C A := by
  intro a h1 h2
  exact hb (.inl ⟨a, (mem_upL hC hA hb).1 h1, (mem_upL hC hA hb).1 h2⟩)

theorem up_asm {n : Nat} {C : List (List Int)} {A : List Int} (hC : ClsOk n C) (hA : ∀ a ∈ A, LitOk n a) (hb : ¬ Bad C A) : ∀ a ∈ A, a ∈ upL n C A := fun _ ha => (mem_upL hC hA hb).2 (.asm ha)

theorem byVar_abs (n : Nat) (p : Int → Bool) (hp : ∀ a, p a = true → p (-a) = false) : (byVar n p).Pairwise fun a b => a.natAbs < b.natAbs := by
  induction n with
  | zero => exact List.Pairwise.nil
  | succ n ih =>
    rw [byVar_succ]
    refine List.pairwise_append.2 ⟨ih, ?_, fun a ha c hc => ?_⟩
    · cases h1 : p ((n : Int) + 1) with
      | true => rw [hp _ h1]; simp
      | false => cases h2 : p (-((n : Int) + 1)) <;> simp
    · have h1 := (mem_byVar.1 ha).1
      unfold LitOk at h1
      have hcs : c.natAbs = n + 1 := by
        rcases List.mem_append.1 hc with hc | hc
        · split at hc
          · simp at hc; omega
          · cases hc
        · split at hc
          · simp at hc; omega
          · cases hc
      omega

theorem up_abs {n : Nat} {C : List (List Int)} {A : List Int} (hb : ¬ Bad C A) {i : Nat} {x y : Int} (hx : (upL n C A)[i]? = some x) (hy : (upL n C A)[i + 1]? = some y) : x.natAbs < y.natAbs := by
  have hp : (upL n C A).Pairwise fun a b => a.natAbs < b.natAbs := by
    unfold upL
    rw [if_neg hb]
    refine byVar_abs n _ fun a ha => ?_
    simp only [decide_eq_true_eq, decide_eq_false_iff_not] at *
    exact fun h => hb (.inl ⟨a, ha, h⟩)
  obtain ⟨h1, rfl⟩ := List.getElem?_eq_some_iff.1 hx
  obtain ⟨h2, rfl⟩ := List.getElem?_eq_some_iff.1 hy
  exact List.pairwise_iff_getElem.1 hp i (i + 1) h1 h2 (by omega)

end Go.Proofs.Ytfgaglgaofceiaa
