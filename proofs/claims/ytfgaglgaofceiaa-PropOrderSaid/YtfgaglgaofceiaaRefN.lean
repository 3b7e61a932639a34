/- The contract of the reference's Norm. -/
import Derived.Test.YtfgaglgaofceiaaLitR
import Derived.Test.YtfgaglgaofceiaaPRefN
import Derived.Deep.CutBlock
namespace Go.Proofs.Ytfgaglgaofceiaa
open Go.RowKit

/-- The form of a row of the call's own that is not empty. -/
theorem own_form {w : World} {B e n : Nat} {v : Value} {xs : List Value} (h : w.ownsRow B e 1 v n xs) (hn : 0 < n) : ∃ g c, v = .slice (some ⟨g, 0, none⟩) n c := by
  rcases h.2 with ⟨_, h0⟩ | ⟨g, cap, cur, h1, _⟩
  · omega
  · exact ⟨g, cap, h1⟩

theorem ints_get {xs : List Int} {k : Nat} {x : Int} (h : xs[k]? = some x) : (ints xs)[k]? = some (.int .i64 x) := by simp [ints, h]

theorem ints_set (xs : List Int) (k : Nat) (x : Int) : (ints xs).set k (.int .i64 x) = ints (xs.set k x) := by simp [ints, List.map_set]

theorem hsto_len {w : World} {B g c j s : Nat} {l : List Int} {z x : Int} (h : (w.setCell ⟨g, s, none⟩ (.int .i64 x)).ownsRow B 3 1 (.slice (some ⟨g, 0, none⟩) (l.length + 1) c) (l.length + 1) ((ints (shiftN l s z)).set s (.int .i64 x))) (hs : s ≤ l.length) (hj : s = j) :
    (w.setCell ⟨g, s, none⟩ (.int .i64 x)).ownsRow B 3 1 (.slice (some ⟨g, 0, none⟩) (l.length + 1) c) (l.take j ++ x :: l.drop j).length (ints (l.take j ++ x :: l.drop j)) := by
  subst hj
  rw [ints_set, shiftN_end (z := z) hs] at h
  have e := shiftN_length (x := x) hs
  unfold shiftN at e h
  rw [e]; exact h

end Go.Proofs.Ytfgaglgaofceiaa
