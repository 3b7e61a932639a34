/- The contracts of law04.units and fails where they answer true, and what Units answers by a certificate. -/
import Derived.Test.YtfgaglgaofceiaaPropV
import Derived.Test.YtfgaglgaofceiaaPropL
namespace Go.Proofs.Ytfgaglgaofceiaa.Ord
open Go.RowKit

theorem unitsV_closed {n : Nat} {F : List (List Int)} {A U : List Int} (K : List Int) (h0 : cnfCheck n F = 0) (ha : A.any (badLit n) = false) (hc : Closed F A K) (hU : byVar n (fun a => decide (a ∈ K)) = U) : unitsV n F A = (U, false, 0) := by
  obtain ⟨e3, e4⟩ := hc.up n
  rw [unitsV_ok h0 ha, e3, e4, hU]

theorem unitsV_fails {n : Nat} {F : List (List Int)} {A : List Int} (h0 : cnfCheck n F = 0) (ha : A.any (badLit n) = false) (hc : Bad F A) : unitsV n F A = ([], true, 0) := by
  obtain ⟨e3, e4⟩ := bad_up hc n
  rw [unitsV_ok h0 ha, e3, e4]

set_option maxHeartbeats 1000000 in
theorem law04_unitsT (n : Int) (acl : Option Addr) (F : List (List Int)) (mf cf : Nat) (awa : Option Addr) (W : List Int) (mw cw : Nat) (aas : Option Addr) (A : List Int) (ma cas : Nat) (w : World) (hU : unitsV n F A = (W, false, 0)) (hmf : mf = F.length) (hmw : mw = W.length) (hma : ma = A.length) (hf : FOk F) (hr : Rws w acl F) (hs : SlV w aas (ints A)) (hws : SlV w awa (ints W))
    (hFl : F.length ≤ 9223372036854775807) (hAl : A.length ≤ 4294967296) :
    Calls Try.prog 34 #[.agg #[.int .i64 n, .slice acl mf cf], .slice awa mw cw, .slice aas ma cas] w fun e w' => e = .returned (.bool true) ∧ Below w.heap.size w w' := by
  subst hmf hmw hma
  have hbox := box_below w (fbox n acl F.length cf)
  have HU := hid (prop_UnitsN n acl F F.length cf aas A A.length cas W false 0 (w.alloc (fbox n acl F.length cf)) hU rfl rfl hf (hr.below hbox) (hs.below hbox) hFl hAl)
  have HW := hid (hws.below hbox)
  have HBOX := hid hbox
  have hul : W.length ≤ 2097152 := by have := unitsV_length n F A; rw [hU] at this; exact this
  clear hf hr hs hws hbox hU
  go_enter Try.func34, Try.ntmps34
  go_wp2_with fail
  refine HU.out.mono ?_
  rintro e w2 ⟨hb2, ar, cr, rfl, hsl⟩
  have HB2 := hid hb2
  have HSL := hid hsl
  have HW2 := hid (HW.out.below hb2)
  clear hb2 hsl
  go_wp2_with (go_at_call 17; refine (kit_EqualIntsB ar awa W W _ _ _ _ true _ (by simp [eqI]) rfl rfl HSL.out HW2.out (by omega)).mono ?_; rintro e w3 ⟨rfl, hb3⟩; have HB3 := hid hb3; clear hb3)
  go_ret
  exact ⟨rfl, (HBOX.out.trans (HB2.out.mono HBOX.out.size)).trans (HB3.out.mono (by have := HBOX.out.size; have := HB2.out.size; omega))⟩

set_option maxHeartbeats 1000000 in
theorem law04_failsT (n : Int) (acl : Option Addr) (F : List (List Int)) (mf cf : Nat) (aas : Option Addr) (A : List Int) (ma cas : Nat) (w : World) (hU : unitsV n F A = ([], true, 0)) (hmf : mf = F.length) (hma : ma = A.length) (hf : FOk F) (hr : Rws w acl F) (hs : SlV w aas (ints A))
    (hFl : F.length ≤ 9223372036854775807) (hAl : A.length ≤ 4294967296) :
    Calls Try.prog 36 #[.agg #[.int .i64 n, .slice acl mf cf], .slice aas ma cas] w fun e w' => e = .returned (.bool true) ∧ Below w.heap.size w w' := by
  subst hmf hma
  have hbox := box_below w (fbox n acl F.length cf)
  have HU := hid (prop_UnitsN n acl F F.length cf aas A A.length cas [] true 0 (w.alloc (fbox n acl F.length cf)) hU rfl rfl hf (hr.below hbox) (hs.below hbox) hFl hAl)
  have HBOX := hid hbox
  clear hf hr hs hbox hU
  go_enter Try.func36, Try.ntmps36
  go_wp2_with fail
  refine HU.out.mono ?_
  rintro e w2 ⟨hb2, ar, cr, rfl, hsl⟩
  have HB2 := hid hb2
  clear hb2 hsl
  go_wp2_with fail
  go_ret
  exact ⟨rfl, HBOX.out.trans (HB2.out.mono HBOX.out.size)⟩

end Go.Proofs.Ytfgaglgaofceiaa.Ord
