/- The law's own functions. -/
import Derived.Test.YtfgaglgaofceiaaPropU
import Derived.Test.YtfgaglgaofceiaaCnfC
import Derived.Test.YtfgaglgaofceiaaLitB
namespace Go.Proofs.Ytfgaglgaofceiaa.Ord
open Go.RowKit

set_option maxHeartbeats 1000000 in
theorem law04_three (w : World) :
    Calls Try.prog 35 #[] w fun e w' => ∃ a c, e = .returned (.agg #[.int .i64 3, .slice a 3 c]) ∧ Rws w' a threeF ∧ Below w.heap.size w w' := by
  suffices h : Calls Try.prog 35 #[] w fun e w' => e = .returned (.agg #[.int .i64 3, .slice (some ⟨w.heap.size + 4, 0, none⟩) 3 3]) ∧ Below w.heap.size w w' ∧ w'.heap.size = w.heap.size + 5 ∧
      w'.heap[w.heap.size + 1]? = some (.cells #[.int .i64 1, .int .i64 2] 3) ∧ w'.heap[w.heap.size + 2]? = some (.cells #[.int .i64 (-1), .int .i64 3] 3) ∧ w'.heap[w.heap.size + 3]? = some (.cells #[.int .i64 (-2), .int .i64 (-3)] 3) ∧
      w'.heap[w.heap.size + 4]? = some (.cells #[.slice (some ⟨w.heap.size + 1, 0, none⟩) 2 2, .slice (some ⟨w.heap.size + 2, 0, none⟩) 2 2, .slice (some ⟨w.heap.size + 3, 0, none⟩) 2 2] 22) by
    refine h.mono ?_
    rintro e w' ⟨rfl, hb, hs, h1, h2, h3, h4⟩
    refine ⟨_, _, rfl, ?_, hb⟩
    intro j c hj
    have hcell := slv_at (vs := [.slice (some ⟨w.heap.size + 1, 0, none⟩) 2 2, .slice (some ⟨w.heap.size + 2, 0, none⟩) 2 2, .slice (some ⟨w.heap.size + 3, 0, none⟩) 2 2]) h4
    match j, hj with
    | 0, hj => simp [threeF] at hj; subst hj; obtain ⟨b, off, e1, e2⟩ := hcell 0 _ rfl; exact ⟨b, off, _, e1, e2, sli_of_block h1 rfl⟩
    | 1, hj => simp [threeF] at hj; subst hj; obtain ⟨b, off, e1, e2⟩ := hcell 1 _ rfl; exact ⟨b, off, _, e1, e2, sli_of_block h2 rfl⟩
    | 2, hj => simp [threeF] at hj; subst hj; obtain ⟨b, off, e1, e2⟩ := hcell 2 _ rfl; exact ⟨b, off, _, e1, e2, sli_of_block h3 rfl⟩
    | j + 3, hj => simp [threeF] at hj
  go_enter Try.func35, Try.ntmps35
  go_wp2_with fail
  refine bodyPost_ret (v := .agg #[.int .i64 3, .slice (some ⟨w.heap.size + 4, 0, none⟩) 3 3]) (by simp [results, Try.results35, go_sem]) rfl ⟨rfl, ?_, ?_, ?_, ?_, ?_, ?_⟩
  · exact below_al (below_al (below_al (below_al (box_below _ _) (by simp only [size_al]; omega) _) (by simp only [size_al]; omega) _) (by simp only [size_al]; omega) _) (by simp only [size_al]; omega) _
  · simp only [size_al]
  all_goals simp [heap_al, Array.getElem_push]

/-- Whether a number is in a list. -/
def hasB (xs : List Int) (x : Int) : Bool := decide (x ∈ xs)

set_option maxHeartbeats 1000000 in
theorem law04_has (a : Option Addr) (xs : List Int) (n c : Nat) (x : Int) (r : Bool) (w : World) (hr : hasB xs x = r) (hn : n = xs.length) (hs : SlV w a (ints xs)) (hl : xs.length ≤ 4294967296) :
    Calls Try.prog 38 #[.slice a n c, .int .i64 x] w fun e w' => e = .returned (.bool r) ∧ Below w.heap.size w w' := by
  subst hn
  have HS := hid hs
  have HR := hid hr
  clear hs hr
  go_enter Try.func38, Try.ntmps38
  go_wp2_with fail
  go_loopw [5] (fun s5 wr => ∃ k : Nat, s5 = .int .i64 k ∧ k ≤ xs.length ∧ Hid (x ∉ xs.take k) ∧ Hid (Below w.heap.size w wr)) (fun s5 _ => (xs.length - (intOf s5)).toNat)
  case atStart => exact ⟨0, rfl, Nat.zero_le _, hid (by simp), hid (Below.refl _ _)⟩
  case round =>
    obtain ⟨k, rfl, hk, HK, HB⟩ := hrel
    by_cases hlt : k < xs.length
    · obtain ⟨bo, oo, y, rfl, hcy, hyk⟩ := (HS.out.below HB.out).int hlt
      have hwk : IntKind.i64.wrap ((k : Int) + 1) = (k : Int) + 1 := IntWalk.i64_in _ (by omega)
      have htk : xs.take (k + 1) = xs.take k ++ [y] := by rw [List.take_add_one, hyk]; rfl
      by_cases he : y = x
      · have hrt : r = true := by rw [← HR.out]; simp [hasB, ← he, List.mem_of_getElem? hyk]
        subst hrt
        subst he
        clear hyk htk
        go_wp2_with fail
        go_ret
        exact ⟨rfl, HB.out⟩
      · have d1 : (y == x) = false := by simp [he]
        have HK9 : Hid (x ∉ xs.take (k + 1)) := hid (by rw [htk]; simp only [List.mem_append, List.mem_singleton]; rintro (h | h); exact HK.out h; exact he h.symm)
        clear hyk htk
        go_wp2_with fail
        go_roundw
        case rel => exact ⟨k + 1, by simp, hlt, HK9, HB⟩
        case measure => simp [intOf]; omega
    · have hrf : r = false := by
        have h1 := HK.out
        rw [List.take_of_length_le (by omega)] at h1
        rw [← HR.out]; simp [hasB, h1]
      subst hrf
      go_wp2_with fail
      go_ret
      exact ⟨rfl, HB.out⟩

/-- What units answers. -/
noncomputable def unitsB (n : Nat) (F : List (List Int)) (want A : List Int) : Bool := eqI (upL n F A) want && !upF F A

set_option maxHeartbeats 1000000 in
theorem law04_units (n : Nat) (acl : Option Addr) (F : List (List Int)) (mf cf : Nat) (awa : Option Addr) (W : List Int) (mw cw : Nat) (aas : Option Addr) (A : List Int) (ma cas : Nat) (r : Bool) (w : World) (hr0 : unitsB n F W A = r) (hn : n ≤ 1048576) (hmf : mf = F.length) (hmw : mw = W.length) (hma : ma = A.length) (hf : FOk F) (hr : Rws w acl F) (hs : SlV w aas (ints A)) (hws : SlV w awa (ints W))
    (hFl : F.length ≤ 1048576) (hAl : A.length ≤ 4294967296) (hcl : ∀ c ∈ F, c.length ≤ 1048576) (hchk : cnfCheck n F = 0) (hF : ClsOk n F) (hA : ∀ a ∈ A, LitOk n a) (hup : (upL n F A).length ≤ 4294967296) :
    Calls Try.prog 34 #[.agg #[.int .i64 n, .slice acl mf cf], .slice awa mw cw, .slice aas ma cas] w fun e w' => e = .returned (.bool r) ∧ Below w.heap.size w w' := by
  subst hmf hmw hma
  have hbox := box_below w (fbox n acl F.length cf)
  have HU := hid (prop_Units n acl F F.length cf aas A A.length cas (w.alloc (fbox n acl F.length cf)) hn rfl rfl hf (hr.below hbox) (hs.below hbox) hFl hAl hcl hchk hF hA)
  have HW := hid (hws.below hbox)
  have HBOX := hid hbox
  obtain ⟨U, hU⟩ : ∃ U, upL n F A = U := ⟨_, rfl⟩
  obtain ⟨b, hb⟩ : ∃ b, upF F A = b := ⟨_, rfl⟩
  have hr1 : (eqI U W && !b) = r := by rw [← hr0, ← hU, ← hb]; rfl
  rw [hU] at hup
  have HUE := hid (And.intro hU hb)
  clear hf hr hs hws hcl hchk hF hA hbox hU hb hr0
  go_enter Try.func34, Try.ntmps34
  go_wp2_with fail
  refine HU.out.mono ?_
  rintro e w2 ⟨hb2, ar, cr, rfl, hsl⟩
  rw [HUE.out.1] at hsl ⊢
  rw [HUE.out.2]
  have HB2 := hid hb2
  have HSL := hid hsl
  have HW2 := hid (HW.out.below hb2)
  clear hb2 hsl
  obtain ⟨q, hq⟩ : ∃ q, eqI U W = q := ⟨_, rfl⟩
  rw [hq] at hr1
  cases b <;> cases q <;> (simp at hr1; subst hr1; go_wp2_with (go_at_call 17; refine (kit_EqualIntsB ar awa U W _ _ _ _ _ _ hq rfl rfl HSL.out HW2.out (by omega)).mono ?_; rintro e w3 ⟨rfl, hb3⟩; have HB3 := hid hb3; clear hb3); go_ret; exact ⟨rfl, (HBOX.out.trans (HB2.out.mono HBOX.out.size)).trans (HB3.out.mono (Nat.le_trans HBOX.out.size HB2.out.size))⟩)

theorem clsok_three : ClsOk 3 threeF := by
  intro c hc a ha
  simp [threeF] at hc
  rcases hc with rfl | rfl | rfl <;> (simp at ha; rcases ha with rfl | rfl <;> simp [LitOk])

theorem len_three : ∀ c ∈ threeF, c.length ≤ 1048576 := by
  intro c hc
  simp [threeF] at hc
  rcases hc with rfl | rfl | rfl <;> simp

theorem chk_three : cnfCheck ((3 : Nat) : Int) threeF = 0 := by decide

theorem up_three : upL 3 threeF [1] = [1, -2, 3] ∧ upF threeF [1] = false := by
  have h : Closed threeF [1] [-2, 3, 1] := closedOk_sound (by decide)
  obtain ⟨h1, h2⟩ := h.up 3
  exact ⟨h1.trans (by decide), h2⟩

theorem units_three : unitsB 3 threeF [1, -2, 3] [1] = true := by
  unfold unitsB
  rw [up_three.1, up_three.2]
  decide

set_option maxHeartbeats 1000000 in
theorem law04_known (w : World) :
    Calls Try.prog 30 #[] w fun e w' => e = .returned (.bool true) ∧ Below w.heap.size w w' := by
  go_enter Try.func30, Try.ntmps30
  go_wp2_with fail
  refine (law04_three w).mono ?_
  rintro e w1 ⟨a, c, rfl, hr, hb⟩
  have hsz := hb.size
  have HB := hid hb
  have h1 : ∀ o1 o2 : Obj, Below w1.heap.size w1 ((w1.alloc o1).alloc o2) := fun o1 o2 => ((Below.refl _ _).alloc (Nat.le_refl _) _).alloc (by simp) _
  have HR := hid fun o1 o2 => hr.below (h1 o1 o2)
  have H1 := hid h1
  clear hr hb h1
  go_wp2_with fail
  refine (law04_units 3 a threeF 3 c (some ⟨w1.heap.size, 0, none⟩) [1, -2, 3] 3 3 (some ⟨w1.heap.size + 1, 0, none⟩) [1] 1 1 true _ units_three (by omega) rfl rfl rfl fok_three (HR.out _ _) ?s1 ?s2 (by decide) (by decide) len_three chk_three clsok_three (by simp [LitOk]) (by rw [up_three.1]; decide)).mono ?_
  case s1 => exact slv_at (vs := ints [1]) (by rw [← size_al w1 _]; exact heap_alloc_new _ _)
  case s2 => exact slv_at (vs := ints [1, -2, 3]) ((Below.heap_alloc _ _ _ (by simp)).trans (heap_alloc_new _ _))
  rintro e w2 ⟨rfl, hb2⟩
  have HB2 := hid ((H1.out _ _).trans (hb2.mono (H1.out _ _).size))
  clear hb2
  go_wp2_with fail
  go_ret
  exact ⟨rfl, HB.out.trans (HB2.out.mono hsz)⟩

end Go.Proofs.Ytfgaglgaofceiaa.Ord
