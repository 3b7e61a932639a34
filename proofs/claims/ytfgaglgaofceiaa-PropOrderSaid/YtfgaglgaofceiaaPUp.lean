/- What follows by unit propagation. Plain. -/
import Derived.Test.YtfgaglgaofceiaaBase
namespace Go.Proofs.Ytfgaglgaofceiaa

/-- What follows from clauses and assumptions by unit propagation. -/
inductive Der (C : List (List Int)) (A : List Int) : Int → Prop
  | asm {a : Int} : a ∈ A → Der C A a
  | unit {c : List Int} {l : Int} : c ∈ C → l ∈ c → (∀ m ∈ c, m ≠ l → Der C A (-m)) → Der C A l

/-- Unit propagation fails. -/
def Bad (C : List (List Int)) (A : List Int) : Prop := (∃ a, Der C A a ∧ Der C A (-a)) ∨ ∃ c ∈ C, ∀ l ∈ c, Der C A (-l)

/-- Each clause of the one has a clause of the other with the same literals. -/
def Sub (C C' : List (List Int)) : Prop := ∀ c ∈ C, ∃ c' ∈ C', ∀ l, l ∈ c ↔ l ∈ c'

theorem sub_of_subset {C C' : List (List Int)} (h : ∀ c ∈ C, c ∈ C') : Sub C C' := fun c hc => ⟨c, h c hc, fun _ => Iff.rfl⟩

theorem der_mono {C C' : List (List Int)} {A A' : List Int} (hC : Sub C C') (hA : ∀ a ∈ A, a ∈ A') {a : Int} (h : Der C A a) : Der C' A' a := by
  induction h with
  | asm ha => exact .asm (hA _ ha)
  | unit hc hl hm ih =>
    obtain ⟨c', hc', hs⟩ := hC _ hc
    exact .unit hc' ((hs _).1 hl) fun m hm hne => ih m ((hs m).2 hm) hne

theorem bad_mono {C C' : List (List Int)} {A A' : List Int} (hC : Sub C C') (hA : ∀ a ∈ A, a ∈ A') (h : Bad C A) : Bad C' A' := by
  rcases h with ⟨a, h1, h2⟩ | ⟨c, hc, h⟩
  · exact .inl ⟨a, der_mono hC hA h1, der_mono hC hA h2⟩
  · obtain ⟨c', hc', hs⟩ := hC c hc
    exact .inr ⟨c', hc', fun l hl => der_mono hC hA (h l ((hs l).2 hl))⟩

/-- The literals of a formula of n variables. -/
def LitOk (n : Nat) (a : Int) : Prop := a ≠ 0 ∧ a ≤ n ∧ -(n : Int) ≤ a
def ClsOk (n : Nat) (C : List (List Int)) : Prop := ∀ c ∈ C, ∀ a ∈ c, LitOk n a

theorem der_ok {n : Nat} {C : List (List Int)} {A : List Int} (hC : ClsOk n C) (hA : ∀ a ∈ A, LitOk n a) {a : Int} (h : Der C A a) : LitOk n a := by
  cases h with
  | asm ha => exact hA a ha
  | unit hc hl _ => exact hC _ hc _ hl

/-- The clause always holds. -/
def Taut (c : List Int) : Prop := ∃ x ∈ c, -x ∈ c

/-- N has C's clauses but for those that always hold. -/
theorem bad_norm {C N : List (List Int)} {A : List Int} {n : Nat} (hC : ClsOk n C) (h : ∀ c ∈ C, Taut c ∨ ∃ c' ∈ N, ∀ l, l ∈ c ↔ l ∈ c') (hb : ¬ Bad N A) :
    (∀ {a}, Der C A a → Der N A a) ∧ ¬ Bad C A := by
  have hcons : ∀ x, Der N A x → Der N A (-x) → False := fun x h1 h2 => hb (.inl ⟨x, h1, h2⟩)
  have hd : ∀ {a}, Der C A a → Der N A a := fun {a} ha => by
    induction ha with
    | asm ha => exact .asm ha
    | @unit c l hc hl hm ih =>
      rcases h c hc with ⟨x, hx, hnx⟩ | ⟨c', hc', hs⟩
      · have hx0 := (hC c hc x hx).1
        by_cases h1 : l = x
        · have h2 : -x ≠ l := by omega
          have := ih (-x) hnx h2
          rw [Int.neg_neg] at this
          rw [h1]; exact this
        · by_cases h2 : l = -x
          · have := ih x hx (by omega)
            rw [h2]; exact this
          · have g1 := ih x hx (Ne.symm h1)
            have g2 := ih (-x) hnx (Ne.symm h2)
            exact (hcons (-x) g1 (by rw [Int.neg_neg] at g2 ⊢; exact g2)).elim
      · exact .unit hc' ((hs l).1 hl) fun m hm hne => ih m ((hs m).2 hm) hne
  refine ⟨hd, fun hbad => ?_⟩
  rcases hbad with ⟨a, h1, h2⟩ | ⟨c, hc, hf⟩
  · exact hcons a (hd h1) (hd h2)
  · rcases h c hc with ⟨x, hx, hnx⟩ | ⟨c', hc', hs⟩
    · have g1 := hd (hf x hx)
      have g2 := hd (hf (-x) hnx)
      rw [Int.neg_neg] at g2
      exact hcons x g2 g1
    · exact hb (.inr ⟨c', hc', fun l hl => hd (hf l ((hs l).2 hl))⟩)

/-- K is what follows, and nothing fails. -/
structure Closed (C : List (List Int)) (A K : List Int) : Prop where
  sound : ∀ a ∈ K, Der C A a
  asm : ∀ a ∈ A, a ∈ K
  cons : ∀ a ∈ K, -a ∉ K
  unit : ∀ c ∈ C, ∀ l ∈ c, (∀ m ∈ c, m ≠ l → -m ∈ K) → l ∈ K
  clause : ∀ c ∈ C, ∃ l ∈ c, -l ∉ K

theorem Closed.der {C : List (List Int)} {A K : List Int} (h : Closed C A K) {a : Int} : Der C A a ↔ a ∈ K := by
  refine ⟨fun hd => ?_, h.sound a⟩
  induction hd with
  | asm ha => exact h.asm _ ha
  | unit hc hl hm ih => exact h.unit _ hc _ hl ih

theorem Closed.good {C : List (List Int)} {A K : List Int} (h : Closed C A K) : ¬ Bad C A := by
  rintro (⟨a, h1, h2⟩ | ⟨c, hc, hf⟩)
  · exact h.cons a (h.der.1 h1) (h.der.1 h2)
  · obtain ⟨l, hl, hn⟩ := h.clause c hc
    exact hn (h.der.1 (hf l hl))

/-- All literals of a list, by variables. -/
def byVar (n : Nat) (p : Int → Bool) : List Int := (List.range n).flatMap fun (i : Nat) => (if p ((i : Int) + 1) then [(i : Int) + 1] else []) ++ (if p (-((i : Int) + 1)) then [-((i : Int) + 1)] else [])

theorem byVar_succ (n : Nat) (p : Int → Bool) : byVar (n + 1) p = byVar n p ++ ((if p ((n : Int) + 1) then [(n : Int) + 1] else []) ++ (if p (-((n : Int) + 1)) then [-((n : Int) + 1)] else [])) := by
  simp [byVar, List.range_succ]

theorem mem_byVar {n : Nat} {p : Int → Bool} {a : Int} : a ∈ byVar n p ↔ LitOk n a ∧ p a = true := by
  simp only [byVar, List.mem_flatMap, List.mem_range, List.mem_append]
  constructor
  · rintro ⟨i, hi, h | h⟩
    · split at h
      · rename_i hp; simp at h; subst h; exact ⟨⟨by omega, by omega, by omega⟩, hp⟩
      · cases h
    · split at h
      · rename_i hp; simp at h; subst h; exact ⟨⟨by omega, by omega, by omega⟩, hp⟩
      · cases h
  · rintro ⟨⟨h0, h1, h2⟩, hp⟩
    rcases Int.lt_or_gt_of_ne h0 with h | h
    · refine ⟨(-a - 1).toNat, by omega, .inr ?_⟩
      have e : -((((-a - 1).toNat : Nat) : Int) + 1) = a := by omega
      rw [e, hp]; simp
    · refine ⟨(a - 1).toNat, by omega, .inl ?_⟩
      have e : (((a - 1).toNat : Nat) : Int) + 1 = a := by omega
      rw [e, hp]; simp

theorem byVar_congr {n : Nat} {p q : Int → Bool} (h : ∀ a, LitOk n a → p a = q a) : byVar n p = byVar n q := by
  induction n with
  | zero => rfl
  | succ n ih =>
    rw [byVar_succ, byVar_succ, ih fun a ha => h a ⟨ha.1, by have := ha.2.1; omega, by have := ha.2.2; omega⟩, h ((n : Int) + 1) ⟨by omega, by omega, by omega⟩, h (-((n : Int) + 1)) ⟨by omega, by omega, by omega⟩]

open Classical in
/-- What Units returns. -/
noncomputable def upL (n : Nat) (C : List (List Int)) (A : List Int) : List Int := if Bad C A then [] else byVar n fun a => decide (Der C A a)

open Classical in
/-- Whether Units fails. -/
noncomputable def upF (C : List (List Int)) (A : List Int) : Bool := decide (Bad C A)

theorem upF_true {C : List (List Int)} {A : List Int} : upF C A = true ↔ Bad C A := by simp [upF]
theorem upF_false {C : List (List Int)} {A : List Int} : upF C A = false ↔ ¬ Bad C A := by simp [upF]

theorem Closed.up {C : List (List Int)} {A K : List Int} (h : Closed C A K) (n : Nat) : upL n C A = byVar n (fun a => decide (a ∈ K)) ∧ upF C A = false := by
  refine ⟨?_, upF_false.2 h.good⟩
  unfold upL
  rw [if_neg h.good]
  exact byVar_congr fun a _ => by simp [h.der]

theorem bad_up {C : List (List Int)} {A : List Int} (h : Bad C A) (n : Nat) : upL n C A = [] ∧ upF C A = true := by
  refine ⟨?_, upF_true.2 h⟩
  unfold upL
  rw [if_pos h]

theorem mem_upL {n : Nat} {C : List (List Int)} {A : List Int} (hC : ClsOk n C) (hA : ∀ a ∈ A, LitOk n a) (hb : ¬ Bad C A) {a : Int} : a ∈ upL n C A ↔ Der C A a := by
  unfold upL
  rw [if_neg hb, mem_byVar]
  simp only [decide_eq_true_eq]
  exact ⟨fun h => h.2, fun h => ⟨der_ok hC hA h, h⟩⟩

/-- Two formulas with the same results. -/
theorem up_congr {n : Nat} {C C' : List (List Int)} {A A' : List Int} (hb : Bad C A ↔ Bad C' A') (hd : ¬ Bad C A → ∀ a, Der C A a ↔ Der C' A' a) : upL n C A = upL n C' A' ∧ upF C A = upF C' A' := by
  by_cases h : Bad C A
  · rw [(bad_up h n).1, (bad_up h n).2, (bad_up (hb.1 h) n).1, (bad_up (hb.1 h) n).2]; exact ⟨rfl, rfl⟩
  · have h' : ¬ Bad C' A' := fun e => h (hb.2 e)
    refine ⟨?_, by rw [upF_false.2 h, upF_false.2 h']⟩
    unfold upL
    rw [if_neg h, if_neg h']
    exact byVar_congr fun a _ => by simp [hd h a]

/-- The order of clauses and literals, and how often they are there, makes no difference. -/
theorem up_same {n : Nat} {C C' : List (List Int)} {A A' : List Int} (h1 : Sub C C') (h2 : Sub C' C) (h3 : ∀ a, a ∈ A ↔ a ∈ A') : upL n C A = upL n C' A' ∧ upF C A = upF C' A' :=
  up_congr ⟨bad_mono h1 fun a ha => (h3 a).1 ha, bad_mono h2 fun a ha => (h3 a).2 ha⟩ fun _ _ => ⟨der_mono h1 fun a ha => (h3 a).1 ha, der_mono h2 fun a ha => (h3 a).2 ha⟩

/-- Clauses that always hold make no difference. -/
theorem up_norm {C N : List (List Int)} {A : List Int} {n : Nat} (hC : ClsOk n C) (h1 : ∀ c ∈ C, Taut c ∨ ∃ c' ∈ N, ∀ l, l ∈ c ↔ l ∈ c') (h2 : Sub N C) : upL n N A = upL n C A ∧ upF N A = upF C A := by
  by_cases h : Bad N A
  · exact up_congr ⟨fun _ => bad_mono h2 (fun _ h => h) h, fun _ => h⟩ fun hn => (hn h).elim
  · obtain ⟨g1, g2⟩ := bad_norm hC h1 h
    exact up_congr ⟨fun e => (h e).elim, fun e => (g2 e).elim⟩ fun _ _ => ⟨fun h => der_mono h2 (fun _ h => h) h, g1⟩

/-! ### Certificates, for closed formulas -/

/-- Each literal of the list is an assumption or follows from those behind it. -/
def derOk (C : List (List Int)) (A : List Int) : List Int → Bool
  | [] => true
  | l :: K => (decide (l ∈ A) || C.any fun c => decide (l ∈ c) && c.all fun m => decide (m = l) || decide (-m ∈ K)) && derOk C A K

theorem derOk_sound {C : List (List Int)} {A : List Int} : ∀ {K : List Int}, derOk C A K = true → ∀ a ∈ K, Der C A a
  | [], _, a, ha => by cases ha
  | l :: K, h, a, ha => by
    simp only [derOk, Bool.and_eq_true, Bool.or_eq_true, decide_eq_true_eq, List.any_eq_true, List.all_eq_true] at h
    have ih := derOk_sound h.2
    rcases List.mem_cons.1 ha with rfl | ha
    · rcases h.1 with h1 | ⟨c, hc, hl, hm⟩
      · exact .asm h1
      · exact .unit hc hl fun m hmc hne => (hm m hmc).elim (fun e => (hne e).elim) (fun e => ih _ e)
    · exact ih a ha

def closedOk (C : List (List Int)) (A K : List Int) : Bool :=
  derOk C A K && (A.all fun a => decide (a ∈ K)) && (K.all fun a => decide (-a ∉ K)) && C.all fun c => (c.any fun l => decide (-l ∉ K)) && c.all fun l => !(c.all fun m => decide (m = l) || decide (-m ∈ K)) || decide (l ∈ K)

theorem closedOk_sound {C : List (List Int)} {A K : List Int} (h : closedOk C A K = true) : Closed C A K := by
  simp only [closedOk, Bool.and_eq_true, List.all_eq_true, decide_eq_true_eq, List.any_eq_true, Bool.or_eq_true, Bool.not_eq_true'] at h
  obtain ⟨⟨⟨h1, h2⟩, h3⟩, h4⟩ := h
  refine ⟨derOk_sound h1, h2, h3, fun c hc l hl hm => ?_, fun c hc => (h4 c hc).1⟩
  rcases (h4 c hc).2 l hl with h5 | h5
  · rw [List.all_eq_false] at h5
    obtain ⟨m, hmc, h6⟩ := h5
    simp only [Bool.or_eq_true, decide_eq_true_eq, not_or] at h6
    exact (h6.2 (hm m hmc h6.1)).elim
  · exact h5

def badOk (C : List (List Int)) (A K : List Int) : Bool :=
  derOk C A K && ((K.any fun a => decide (-a ∈ K)) || C.any fun c => c.all fun l => decide (-l ∈ K))

theorem badOk_sound {C : List (List Int)} {A K : List Int} (h : badOk C A K = true) : Bad C A := by
  simp only [badOk, Bool.and_eq_true, Bool.or_eq_true, List.any_eq_true, List.all_eq_true, decide_eq_true_eq] at h
  have hd := derOk_sound h.1
  rcases h.2 with ⟨a, ha, hna⟩ | ⟨c, hc, hl⟩
  · exact .inl ⟨a, hd a ha, hd _ hna⟩
  · exact .inr ⟨c, hc, fun l hlc => hd _ (hl l hlc)⟩

end Go.Proofs.Ytfgaglgaofceiaa
