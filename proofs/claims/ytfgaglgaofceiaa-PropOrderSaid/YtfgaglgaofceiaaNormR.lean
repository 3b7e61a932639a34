/- The contracts of lit.Norm and the reference's Norm once more, with their results under names; weepholelaw01.has. -/
import Derived.Test.YtfgaglgaofceiaaRefN
namespace Go.Proofs.Ytfgaglgaofceiaa
open Go.RowKit

theorem lit_NormR (a : Option Addr) (xs ys : List Int) (r : Bool) (m cap : Nat) (w : World) (hr : adjB (normL xs) = r) (hy : normV xs = ys) (hm : m = xs.length) (hcap : m ≤ cap) (hc0 : a = none → cap = 0) (hs : SlV w a (ints xs)) (hx : ∀ x ∈ xs, I64 x) (hl : xs.length ≤ 4294967296) :
    Calls Try.prog 14 #[.slice a m cap] w fun e w' =>
      ∃ a' c', e = .returned (.tuple #[.slice a' ys.length c', .bool r]) ∧ OwnT 3 w' w.heap.size (.slice a' ys.length c') ys ∧ Below w.heap.size w w' := by
  refine (lit_Norm a xs m cap w hm hcap hc0 hs hx hl).mono ?_
  rintro e w' ⟨v, rfl, ho, hb⟩
  rw [hy] at ho
  obtain ⟨a', c', rfl, ho'⟩ := ownT_shape ho
  exact ⟨a', c', by rw [hr], ho', hb⟩

theorem normV_length (xs : List Int) : (normV xs).length ≤ xs.length := by
  unfold normV
  split
  · simp
  · exact normL_length xs

theorem mem_normV {x : Int} {xs : List Int} (h : x ∈ normV xs) : x ∈ xs := by
  unfold normV at h
  split at h
  · simp at h
  · exact mem_normL h

theorem eqI_self (xs : List Int) : eqI xs xs = true := by simp [eqI]

end Go.Proofs.Ytfgaglgaofceiaa
