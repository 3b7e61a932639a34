/- Plain: what is known, assumed again. -/
import Derived.Test.YtfgaglgaofceiaaPUp
import Derived.Test.YtfgaglgaofceiaaPFit
namespace Go.Proofs.Ytfgaglgaofceiaa

theorem der_cut {C : List (List Int)} {A A' : List Int} (h : ∀ a ∈ A', Der C A a) {a : Int} (hd : Der C A' a) : Der C A a := by
  induction hd with
  | asm ha => exact h _ ha
  | unit hc hl _ ih => exact .unit hc hl ih

theorem bad_cut {C : List (List Int)} {A A' : List Int} (h : ∀ a ∈ A', Der C A a) (hb : Bad C A') : Bad C A := by
  rcases hb with ⟨a, h1, h2⟩ | ⟨c, hc, hl⟩
  · exact .inl ⟨a, der_cut h h1, der_cut h h2⟩
  · exact .inr ⟨c, hc, fun l hlc => der_cut h (hl l hlc)⟩

theorem up_again {n : Nat} {C : List (List Int)} {A : List Int} (hC : ClsOk n C) (hA : ∀ a ∈ A, LitOk n a) (hb : ¬ Bad C A) : upL n C (upL n C A) = upL n C A ∧ upF C (upL n C A) = false := by
  have hm := fun a => @mem_upL n C A hC hA hb a
  have h1 : ∀ a ∈ upL n C A, Der C A a := fun a ha => (hm a).1 ha
  obtain ⟨e1, e2⟩ := up_congr (n := n) (C := C) (C' := C) (A := upL n C A) (A' := A) ⟨bad_cut h1, fun h => (hb h).elim⟩ fun _ a => ⟨der_cut h1, fun h => .asm ((hm a).2 h)⟩
  exact ⟨e1, e2.trans (upF_false.2 hb)⟩

theorem upL_ok {n : Nat} {C : List (List Int)} {A : List Int} : ∀ a ∈ upL n C A, LitOk n a := by
  intro a ha
  unfold upL at ha
  split at ha
  · cases ha
  · exact (mem_byVar.1 ha).1

theorem sub_take (F : List (List Int)) (k : Nat) : Sub (F.take k) F := fun c hc => ⟨c, List.mem_of_mem_take hc, fun _ => Iff.rfl⟩

theorem upF_mono {F : List (List Int)} {A : List Int} (d k : Nat) (h : upF (F.take d) (A.take k) = true) : upF F A = true :=
  upF_true.2 (bad_mono (sub_take F d) (fun _ h => List.mem_of_mem_take h) (upF_true.1 h))

theorem upL_mono {n : Nat} {F : List (List Int)} {A : List Int} (hF : ClsOk n F) (hA : ∀ a ∈ A, LitOk n a) (d k : Nat) (h : upF F A = false) : ∀ a ∈ upL n (F.take d) (A.take k), a ∈ upL n F A := by
  intro a ha
  have hb := upF_false.1 h
  have hb2 : ¬ Bad (F.take d) (A.take k) := fun hh => hb (bad_mono (sub_take F d) (fun _ h => List.mem_of_mem_take h) hh)
  have hd := (mem_upL (fun c hc => hF c (List.mem_of_mem_take hc)) (fun a ha => hA a (List.mem_of_mem_take ha)) hb2).1 ha
  exact (mem_upL hF hA hb).2 (der_mono (sub_take F d) (fun _ h => List.mem_of_mem_take h) hd)

theorem byVar_length (n : Nat) (p : Int → Bool) : (byVar n p).length ≤ 2 * n := by
  induction n with
  | zero => simp [byVar]
  | succ n ih =>
    rw [byVar_succ, List.length_append, List.length_append]
    have h1 : (if p ((n : Int) + 1) then [(n : Int) + 1] else []).length ≤ 1 := by split <;> simp
    have h2 : (if p (-((n : Int) + 1)) then [-((n : Int) + 1)] else []).length ≤ 1 := by split <;> simp
    omega

theorem upL_length (n : Nat) (C : List (List Int)) (A : List Int) : (upL n C A).length ≤ 2 * n := by
  unfold upL
  split
  · simp
  · exact byVar_length n _

theorem clsok_fit {n : Nat} (x : Int) (hn : (n : Int) = fitV x) (l : List (List Int)) : ClsOk n (fitF x l) := by
  intro c hc a ha
  simp only [fitF, List.mem_map] at hc
  obtain ⟨c', _, rfl⟩ := hc
  have hr := fitV_range x
  obtain ⟨h1, h2, h3⟩ := mem_fitC (by omega) ha
  exact ⟨h1, by omega, by omega⟩

end Go.Proofs.Ytfgaglgaofceiaa
