/- The contract of weepholelaw01.known. -/
import Derived.Test.YtfgaglgaofceiaaLitR
namespace Go.Proofs.Ytfgaglgaofceiaa
open Go.RowKit

set_option maxHeartbeats 1000000 in
theorem law01_known (w : World) :
    Calls Try.prog 19 #[] w fun e w' => e = .returned (.bool true) ∧ Below w.heap.size w w' := by
  go_enter Try.func19, Try.ntmps19
  go_wp2_with fail
  refine (lit_NormF _ [3, -1, 3, 2] [-1, 2, 3] _ _ _ adj_3132 norm_3132 rfl (by decide) (by nofun) (slv_new _ _ _ _) (by simp [I64]) (by decide)).mono ?_
  rintro e w1 ⟨a1, c1, rfl, ho1, hb1⟩
  have hs1 := OwnT.slv ho1
  have hB1 : Below w.heap.size w w1 := (below_al (Below.refl _ _) (Nat.le_refl _) _).trans (hb1.mono (by simp))
  clear ho1 hb1
  go_wp2_with fail
  refine (kit_EqualIntsR _ _ [-1, 2, 3] [-1, 2, 3] _ _ _ _ true _ (by decide) rfl rfl (hs1.below (below_al (Below.refl _ _) (Nat.le_refl _) _)) (slv_new _ _ _ _) (by decide)).mono ?_
  rintro e w2 ⟨rfl, n2, rfl⟩
  go_wp2_with fail
  refine (lit_HoldsR _ [false, true] _ _ _ [-1] _ _ true _ (by decide) rfl rfl (slv_at (e := 4) (m := (0, 0)) (by simp [heap_al, Array.getElem_push, bools])) (by simp [I64]) (slv_at (e := 3) (m := (0, 0)) (by simp [heap_al, Array.getElem_push, ints])) (by decide) (by decide)).mono ?_
  rintro e w3 ⟨rfl, rfl⟩
  go_wp2_with fail
  refine (lit_CheckR 3 _ [1, -3] _ _ 0 _ (by decide) rfl (by simp [I64]) (slv_at (e := 3) (m := (0, 0)) (by simp [heap_al, Array.getElem_push, ints])) (by decide)).mono ?_
  rintro e w4 ⟨rfl, rfl⟩
  go_wp2_with fail
  go_ret
  refine ⟨rfl, ?_⟩
  have hz := hB1.size
  repeat (refine below_al ?_ (by simp; omega) _)
  refine below_dr ?_ _
  exact below_al hB1 hz _

end Go.Proofs.Ytfgaglgaofceiaa
