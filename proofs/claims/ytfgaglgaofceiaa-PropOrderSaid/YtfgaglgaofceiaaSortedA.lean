/- The contract of lit.sorted at the order lit.Less, for at most one element; small lemmas. -/
import Derived.Test.YtfgaglgaofceiaaLit
import Derived.Test.YtfgaglgaofceiaaKit
import Derived.Test.YtfgaglgaofceiaaOwn
namespace Go.Proofs.Ytfgaglgaofceiaa
open Go.RowKit

theorem SlV.drop {w : World} {b off : Nat} {vs : List Value} (h : SlV w (some ⟨b, off, none⟩) vs) (k : Nat) : SlV w (some ⟨b, off + k, none⟩) (vs.drop k) := by
  intro j v hj
  rw [List.getElem?_drop] at hj
  obtain ⟨b', off', he, hc⟩ := h (k + j) v hj
  simp at he
  obtain ⟨rfl, rfl⟩ := he
  exact ⟨b, off + k, rfl, by rw [Nat.add_assoc]; exact hc⟩

theorem SlV.take {w : World} {a : Option Addr} {vs : List Value} (h : SlV w a vs) (k : Nat) : SlV w a (vs.take k) := by
  intro j v hj
  rw [List.getElem?_take] at hj
  split at hj
  · exact h j v hj
  · cases hj

theorem ints_take (xs : List Int) (k : Nat) : ints (xs.take k) = (ints xs).take k := by simp [ints]
theorem ints_drop (xs : List Int) (k : Nat) : ints (xs.drop k) = (ints xs).drop k := by simp [ints]

theorem lit_Less' (a b : Int) (r : Bool) (w : World) (hr : lessB a b = r) (ha : I64 a) (hb : I64 b) :
    Calls Try.prog 18 #[.int .i64 a, .int .i64 b] w fun e w' => e = .returned (.bool r) ∧ w = w' := hr ▸ lit_Less a b w ha hb

set_option maxHeartbeats 400000 in
theorem lit_sorted_short (a : Option Addr) (xs : List Int) (m cap : Nat) (w : World) (hm : m = xs.length) (hcap : a = none → cap = 0) (hs : SlV w a (ints xs)) (h2 : xs.length < 2) :
    Calls Try.prog 40 #[.slice a m cap, .func (.func 18) #[] #[]] w fun e w' =>
      ∃ v, e = .returned v ∧ w'.ownsRow w.heap.size 3 1 v xs.length (ints xs) ∧ Below w.heap.size w w' := by
  subst hm
  obtain ⟨i0, hi, hz0, hz1, hz2⟩ := info_parts info_int
  have hd : decide ((xs.length : Int) < 2) = true := by simp; omega
  have HC := hid hcap
  clear hcap
  go_enter Try.func40, Try.ntmps40
  go_wp2_with (at_builtin; refine wpList_append_sl _ rfl _ _ 22 rfl w.heap.size 3 i0 (.int .i64 0) 8 Try.underlying22 hi hz0 hz1 hz2 rfl (.slice none 0 0) 0 [] rfl (World.ownsRow_nil _ _ _ _) a xs.length cap (ints xs) rfl hs (by simp) HC.out ints_one (by unfold maxLen; omega) (by omega) (Nat.le_refl _) ?_; intro v8 w8 ho8 hg8)
  have hb8 : Below w.heap.size w w8 := (Below.refl _ _).grown hg8 (Nat.le_refl _) (fun q hq => by simp [Value.ownBlock] at hq)
  go_ret
  exact ⟨_, rfl, by simpa using ho8, hb8⟩

end Go.Proofs.Ytfgaglgaofceiaa
