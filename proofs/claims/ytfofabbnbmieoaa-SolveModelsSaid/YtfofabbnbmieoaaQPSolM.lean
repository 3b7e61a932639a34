/- Plain facts for SolveModels: all models, one after the other. -/
import Derived.Test.YtfofabbnbmieoaaQSMis
import Derived.Test.YtfofabbnbmieoaaQ11
import Derived.Test.YtfofabbnbmieoaaQ19

namespace Go.Proofs.Ytfofabbnbmieoaa.Ord

/-- The literal of the variable i + 1 that holds in m. -/
def toM (m : List Bool) (i : Nat) : Int := if (m[i]?).getD false then (i : Int) + 1 else -((i : Int) + 1)

/-- The clause that excludes m; the clauses that fix it. -/
def notM (n : Nat) (m : List Bool) : List Int := (List.range n).map fun i => -toM m i
def fixM (n : Nat) (m : List Bool) : List (List Int) := (List.range n).map fun i => [toM m i]

section
variable {n : Nat} {m m' : List Bool} {F : List (List Int)} {ms : List (List Bool)}

theorem toM_ok {i : Nat} (hi : i < n) : LitOk n (toM m i) ∧ LitOk n (-toM m i) := by
  unfold toM LitOk
  split <;> omega

theorem toM_holds {i : Nat} (hm : m.length = n) (hm' : m'.length = n) (hi : i < n) : litHolds m' (toM m i) = (m'[i]? == m[i]?) := by
  obtain ⟨a, ha⟩ : ∃ a, m[i]? = some a := ⟨m[i]'(by omega), List.getElem?_eq_getElem (by omega)⟩
  obtain ⟨b, hb⟩ : ∃ b, m'[i]? = some b := ⟨m'[i]'(by omega), List.getElem?_eq_getElem (by omega)⟩
  have e : (toM m i).natAbs = i + 1 := by unfold toM; split <;> omega
  rw [litHolds_in (x := b) (by omega) (by rw [e]; exact hb), ha, hb]
  unfold toM
  rw [ha]
  cases a
  · have : ¬ (0 < (if (some false).getD false = true then (i : Int) + 1 else -((i : Int) + 1))) := by simp; omega
    rw [decide_eq_false this]
    cases b <;> rfl
  · have : 0 < (if (some true).getD false = true then (i : Int) + 1 else -((i : Int) + 1)) := by show 0 < (i : Int) + 1; omega
    rw [decide_eq_true this]
    cases b <;> rfl

theorem not_holds (hm : m.length = n) (hm' : m'.length = n) : holdsB m' (notM n m) = true ↔ m' ≠ m := by
  unfold holdsB notM
  rw [List.any_map, List.any_eq_true]
  constructor
  · rintro ⟨i, hi, h⟩ rfl
    have hi := List.mem_range.1 hi
    have h1 := toM_holds hm hm hi
    have h : litHolds m' (-toM m' i) = true := h
    have h2 : litHolds m' (toM m' i) = true := by rw [h1]; simp
    exact lit_both h2 h
  · intro hne
    obtain ⟨i, hi⟩ : ∃ i, m'[i]? ≠ m[i]? := Classical.byContradiction fun q => hne (List.ext_getElem? fun i => Classical.byContradiction fun q2 => q ⟨i, q2⟩)
    have hin : i < n := Nat.lt_of_not_le fun q => hi (by rw [List.getElem?_eq_none (by omega), List.getElem?_eq_none (by omega)])
    refine ⟨i, List.mem_range.2 hin, ?_⟩
    show litHolds m' (-toM m i) = true
    refine lit_total hm' (toM_ok hin).1 ?_
    rw [toM_holds hm hm' hin]
    simpa using hi

theorem fix_holds (hm : m.length = n) : ∀ c ∈ fixM n m, holdsB m c = true := fun c hc => by
  obtain ⟨i, hi, rfl⟩ := List.mem_map.1 hc
  have := toM_holds hm hm (List.mem_range.1 hi)
  simp only [holdsB, List.any_cons, List.any_nil, Bool.or_false, this]
  simp

/-- Models found so far. -/
structure MI (n : Nat) (F : List (List Int)) (ms : List (List Bool)) : Prop where
  nod : ms.Nodup
  ok : ∀ m ∈ ms, m.length = n ∧ ∀ c ∈ F, holdsB m c = true

def nots (n : Nat) (ms : List (List Bool)) : List (List Int) := ms.map (notM n)

theorem MI.next (h : MI n F ms) (hm : m.length = n) (hh : ∀ c ∈ F ++ nots n ms, holdsB m c = true) : MI n F (ms ++ [m]) := by
  refine ⟨List.nodup_append.2 ⟨h.nod, by simp, fun x hx y hy => ?_⟩, fun x hx => ?_⟩
  · have e : y = m := by simpa using hy
    rintro rfl
    have h1 := hh (notM n x) (List.mem_append_right _ (List.mem_map.2 ⟨x, hx, rfl⟩))
    exact (not_holds (h.ok x hx).1 hm).1 h1 e.symm
  · rcases List.mem_append.1 hx with q | q
    · exact h.ok x q
    · rw [List.mem_singleton.1 q]
      exact ⟨hm, fun c hc => hh c (List.mem_append_left _ hc)⟩

/-- A number for a model. -/
def codeM : List Bool → Nat
  | [] => 0
  | b :: t => 2 * codeM t + (if b then 1 else 0)

theorem codeM_lt : ∀ m : List Bool, codeM m < 2 ^ m.length
  | [] => by simp [codeM]
  | b :: t => by
    have := codeM_lt t
    simp only [codeM, List.length_cons, Nat.pow_succ]
    split <;> omega

theorem codeM_bit : ∀ (m : List Bool) (i : Nat), (codeM m).testBit i = (m[i]?).getD false
  | [], i => by simp [codeM]
  | b :: t, 0 => by
    simp only [codeM, Nat.testBit_zero, List.getElem?_cons_zero, Option.getD_some]
    cases b
    · simp
    · simp
  | b :: t, i + 1 => by
    rw [Nat.testBit_succ, List.getElem?_cons_succ, ← codeM_bit t i]
    congr 1
    simp only [codeM]
    split <;> omega

theorem modelL_code (hm : m.length = n) : modelL n (codeM m : Int) = m := by
  unfold modelL
  refine List.ext_getElem (by simp [hm]) fun i h1 h2 => ?_
  rw [List.getElem_map, List.getElem_range]
  unfold bitB
  rw [Int.toNat_natCast, codeM_bit, List.getElem?_eq_getElem h2]
  rfl

theorem modelL_inj {a b : Nat} (ha : a < 2 ^ n) (hb : b < 2 ^ n) (h : modelL n (a : Int) = modelL n (b : Int)) : a = b := by
  refine Nat.eq_of_testBit_eq fun i => ?_
  by_cases hi : i < n
  · have h1 := congrArg (fun l => l[i]?) h
    unfold modelL at h1
    simp only [List.getElem?_map, List.getElem?_range hi, Option.map_some, Option.some.injEq] at h1
    exact h1
  · have hp : 2 ^ n ≤ 2 ^ i := Nat.pow_le_pow_right (by decide) (by omega)
    rw [Nat.testBit_lt_two_pow (by omega), Nat.testBit_lt_two_pow (by omega)]

theorem sub_len {α : Type} [DecidableEq α] : ∀ {xs ys : List α}, xs.Nodup → (∀ a ∈ xs, a ∈ ys) → xs.length ≤ ys.length
  | [], _, _, _ => Nat.zero_le _
  | x :: xs, ys, hn, hs => by
    rw [List.nodup_cons] at hn
    have hx := hs x (by simp)
    have h1 := sub_len (xs := xs) (ys := ys.erase x) hn.2 fun a ha => (List.mem_erase_of_ne fun e => hn.1 (by rw [← e]; exact ha)).2 (hs a (List.mem_cons_of_mem _ ha))
    have h2 := List.length_erase_of_mem hx
    have h3 := List.length_pos_iff.2 (List.ne_nil_of_mem hx)
    simp only [List.length_cons]
    omega

/-- The models, by their numbers, below k. -/
def cntM (n : Nat) (F : List (List Int)) (k : Nat) : Nat := ((List.range k).filter fun (b : Nat) => F.all fun c => holdsB (modelL n b) c).length

theorem cntM_succ (n : Nat) (F : List (List Int)) (k : Nat) : cntM n F (k + 1) = cntM n F k + (if (F.all fun c => holdsB (modelL n k) c) then 1 else 0) := by
  unfold cntM
  rw [List.range_succ, List.filter_append, List.length_append]
  congr 1
  rw [List.filter_cons]
  split <;> simp_all

theorem MI.len (h : MI n F ms) : ms.length ≤ 2 ^ n := by
  have h1 : (ms.map codeM).Nodup := by
    refine List.Pairwise.map _ (R := fun a b => a ∈ ms ∧ b ∈ ms ∧ a ≠ b) (fun a b hab e => hab.2.2 ?_) ?_
    · rw [← modelL_code (h.ok a hab.1).1, ← modelL_code (h.ok b hab.2.1).1, e]
    · exact List.Pairwise.and_mem.1 (h.nod) |>.imp fun ⟨a1, a2, a3⟩ => ⟨a1, a2, a3⟩
  have h2 := sub_len (ys := List.range (2 ^ n)) h1 fun a ha => by
    obtain ⟨m, hm, rfl⟩ := List.mem_map.1 ha
    have := codeM_lt m
    rw [(h.ok m hm).1] at this
    exact List.mem_range.2 this
  simpa using h2

theorem MI.all (h : MI n F ms) (hno : ¬ HasM n (F ++ nots n ms)) : ms.length = cntM n F (2 ^ n) := by
  let L := ((List.range (2 ^ n)).filter fun (b : Nat) => F.all fun c => holdsB (modelL n b) c)
  have hL : (L.map fun (b : Nat) => modelL n (b : Int)).Nodup := by
    refine List.Pairwise.map _ (R := fun a b => a ∈ L ∧ b ∈ L ∧ a ≠ b) (fun a b hab e => hab.2.2 ?_) ?_
    · exact modelL_inj (List.mem_range.1 (List.mem_filter.1 hab.1).1) (List.mem_range.1 (List.mem_filter.1 hab.2.1).1) e
    · exact List.Pairwise.and_mem.1 (List.nodup_range.filter _) |>.imp fun ⟨a1, a2, a3⟩ => ⟨a1, a2, a3⟩
  have h1 : ms.length ≤ (L.map fun (b : Nat) => modelL n (b : Int)).length := sub_len h.nod fun m hm => by
    have hl := (h.ok m hm).1
    have hc := codeM_lt m
    rw [hl] at hc
    refine List.mem_map.2 ⟨codeM m, List.mem_filter.2 ⟨List.mem_range.2 hc, ?_⟩, modelL_code hl⟩
    rw [List.all_eq_true]
    intro c hcF
    rw [modelL_code hl]
    exact (h.ok m hm).2 c hcF
  have h2 : (L.map fun (b : Nat) => modelL n (b : Int)).length ≤ ms.length := sub_len hL fun m hm => by
    obtain ⟨b, hb, rfl⟩ := List.mem_map.1 hm
    have hF := (List.mem_filter.1 hb).2
    rw [List.all_eq_true] at hF
    refine Classical.byContradiction fun q => hno ⟨modelL n b, by simp [modelL], fun c hc => ?_⟩
    rcases List.mem_append.1 hc with r | r
    · exact hF c r
    · obtain ⟨m', hm', rfl⟩ := List.mem_map.1 r
      refine (not_holds (h.ok m' hm').1 (by simp [modelL])).2 fun e => q ?_
      rw [e]; exact hm'
  rw [List.length_map] at h1 h2
  unfold cntM
  exact Nat.le_antisymm h1 h2

theorem notM_ok : ∀ x ∈ notM n m, LitOk n x := fun x hx => by
  obtain ⟨i, hi, rfl⟩ := List.mem_map.1 hx
  exact (toM_ok (List.mem_range.1 hi)).2

theorem fixM_ok : ClsOk n (fixM n m) := fun c hc x hx => by
  obtain ⟨i, hi, rfl⟩ := List.mem_map.1 hc
  rw [List.mem_singleton.1 hx]
  exact (toM_ok (List.mem_range.1 hi)).1

end

end Go.Proofs.Ytfofabbnbmieoaa.Ord
