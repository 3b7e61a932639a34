/- The contract of prop.Units for any formula and any numbers. -/
import Derived.Test.YtfgaglgaofceiaaPropU
import Derived.Test.YtfgaglgaofceiaaRef04
import Derived.Test.YtfgaglgaofceiaaPGrows
namespace Go.Proofs.Ytfgaglgaofceiaa.Ord
open Go.RowKit Go.Conc

attribute [local go_sem ↓] Go.wp_at_zero Go.wp_at_succ

set_option maxRecDepth 100000 in
set_option maxHeartbeats 4000000 in
theorem prop_UnitsE (n : Int) (e1 : Int) (acl : Option Addr) (F : List (List Int)) (mf cf : Nat) (aas : Option Addr) (A : List Int) (ma cas : Nat) (w : World) (he : cnfCheck n F = e1) (h0 : e1 ≠ 0) (hmf : mf = F.length) (hf : FOk F) (hr : Rws w acl F) (hFl : F.length ≤ 9223372036854775807) :
    Calls Try.prog 31 #[.agg #[.int .i64 n, .slice acl mf cf], .slice aas ma cas] w (refUnitsR n F A w) := by
  subst hmf
  have HE := hid he
  have HZ := hid h0
  have hz' : (e1 != 0) = true := by simpa using h0
  have HF := hid hf
  have HR := hid (hr.below (box_below w (fbox n acl F.length cf)))
  have hb2 : Below w.heap.size w ((w.alloc (fbox n acl F.length cf)).alloc (fbox n acl F.length cf)) := below_al (box_below _ _) (by simp only [size_al]; omega) _
  have HB2 := hid hb2
  clear he h0 hf hr hb2
  go_enter Try.func31, Try.ntmps31
  go_wp2_with fail
  refine (cnf_CheckR n acl F _ cf e1 _ HE.out rfl HF.out HR.out hFl).mono ?_
  rintro e wx ⟨rfl, rfl⟩
  go_wp2_with fail
  go_ret3
  exact refUnitsR_err HE.out HZ.out HB2.out

set_option maxRecDepth 100000 in
set_option maxHeartbeats 4000000 in
theorem prop_UnitsA (n : Nat) (acl : Option Addr) (F : List (List Int)) (mf cf : Nat) (aas : Option Addr) (A : List Int) (ma cas : Nat) (w : World) (he : cnfCheck n F = 0) (hn : n ≤ 1048576) (hmf : mf = F.length) (hma : ma = A.length) (hf : FOk F) (hr : Rws w acl F) (hs : SlV w aas (ints A)) (hFl : F.length ≤ 9223372036854775807) (hAl : A.length ≤ 4294967296)
    (hb : A.any (badLit n) = true) :
    Calls Try.prog 31 #[.agg #[.int .i64 n, .slice acl mf cf], .slice aas ma cas] w (refUnitsR n F A w) := by
  subst hmf
  subst hma
  have HE := hid he
  have HF := hid hf
  have HR := hid (hr.below (box_below w (fbox n acl F.length cf)))
  have HS := hid hs
  have HBD := hid hb
  have hb2 : Below w.heap.size w ((w.alloc (fbox n acl F.length cf)).alloc (fbox n acl F.length cf)) := below_al (box_below _ _) (by simp only [size_al]; omega) _
  have HB2 := hid hb2
  clear he hf hr hs hb hb2
  go_enter Try.func31, Try.ntmps31
  go_wp2_with fail
  refine (cnf_CheckR n acl F _ cf 0 _ HE.out rfl HF.out HR.out hFl).mono ?_
  rintro e wx ⟨rfl, rfl⟩
  have HS2 := hid (HS.out.below HB2.out)
  have hc20 := (box_cells n acl F.length cf w (fbox n acl F.length cf)).1
  generalize hw1 : (w.alloc _).alloc _ = w1 at HS2 hc20 ⊢
  rw [hw1] at HB2
  clear hw1
  go_wp2_with fail
  go_loop [31] (fun s31 => ∃ k : Nat, s31 = .int .i64 k ∧ k ≤ A.length ∧ Hid ((A.take k).any (badLit n) = false)) (fun s31 => (A.length - (intOf s31)).toNat)
  case atStart => exact ⟨0, rfl, Nat.zero_le _, by simp [Hid]⟩
  case round =>
    obtain ⟨k, rfl, hk, hany⟩ := hrel
    by_cases hlt : k < A.length
    · obtain ⟨bo, oo, x, rfl, hcx, hxk⟩ := HS2.out.int hlt
      have HX := hid hxk
      clear hxk
      have hwn : IntKind.i64.wrap (-(n : Int)) = -(n : Int) := IntWalk.i64_in _ (by omega)
      by_cases hb : badLit n x = true
      · have HBX := hid hb
        rcases lit_bad_of hb with h0 | h0 | h0
        · have d0 : (x == 0) = true := by rw [h0]; rfl
          clear h0 hb
          go_wp2_with fail
          go_ret3
          exact refUnitsR_arg HE.out HX.out HBX.out HB2.out
        · have d0 : (x == 0) = false := by rw [beq_eq_false_iff_ne]; omega
          have d1 : decide ((n : Int) < x) = true := decide_eq_true h0
          clear h0 hb
          go_wp2_with fail
          go_ret3
          exact refUnitsR_arg HE.out HX.out HBX.out HB2.out
        · have d0 : (x == 0) = false := by rw [beq_eq_false_iff_ne]; omega
          have d1 : decide ((n : Int) < x) = false := decide_eq_false (by omega)
          have d2 : decide (x < -(n : Int)) = true := decide_eq_true h0
          clear h0 hb
          go_wp2_with fail
          go_ret3
          exact refUnitsR_arg HE.out HX.out HBX.out HB2.out
      · have hb' : badLit n x = false := by simpa using hb
        have hx := lit_ok_of hb'
        unfold LitOk at hx
        have d0 : (x == 0) = false := by rw [beq_eq_false_iff_ne]; exact hx.1
        have d1 : decide ((n : Int) < x) = false := decide_eq_false (by omega)
        have d2 : decide (x < -(n : Int)) = false := decide_eq_false (by omega)
        have HN := hid (take_any_succ HX.out hany.out hb')
        have hwk : IntKind.i64.wrap ((k : Int) + 1) = (k : Int) + 1 := IntWalk.i64_in _ (by omega)
        clear hb hb' hx
        go_wp2_with fail
        go_round
        case rel => exact ⟨k + 1, by simp, hlt, HN⟩
        case measure => simp [intOf]; omega
    · exfalso
      have h1 := take_all_false hlt hany.out
      rw [HBD.out] at h1
      cases h1

/-- prop.Units, whatever it is given. -/
theorem prop_UnitsV (n : Int) (acl : Option Addr) (F : List (List Int)) (mf cf : Nat) (aas : Option Addr) (A : List Int) (ma cas : Nat) (w : World) (hmf : mf = F.length) (hma : ma = A.length) (hf : FOk F) (hr : Rws w acl F) (hs : SlV w aas (ints A)) (hFl : F.length ≤ 9223372036854775807) (hAl : A.length ≤ 4294967296) :
    Calls Try.prog 31 #[.agg #[.int .i64 n, .slice acl mf cf], .slice aas ma cas] w (refUnitsR n F A w) := by
  by_cases h0 : cnfCheck n F = 0
  · obtain ⟨v1, v2, v3, v4, v5⟩ := cnf_valid h0
    obtain ⟨n, rfl⟩ := Int.eq_ofNat_of_zero_le v1
    by_cases hb : A.any (badLit n) = true
    · exact prop_UnitsA n acl F mf cf aas A ma cas w h0 (by omega) hmf hma hf hr hs hFl hAl hb
    · have hb' : A.any (badLit n) = false := by simpa using hb
      refine (prop_Units n acl F mf cf aas A ma cas w (by omega) hmf hma hf hr hs v3 hAl (fun c hc => Nat.le_trans (v4 c hc) (by omega)) h0 v5 (asm_ok_of hb')).mono ?_
      rintro e w' ⟨h1, ar, cr, h2, h3⟩
      refine ⟨h1, ar, cr, ?_, ?_⟩
      · rw [unitsV_ok h0 hb']; exact h2
      · rw [unitsV_ok h0 hb']; exact h3
  · exact prop_UnitsE n _ acl F mf cf aas A ma cas w rfl h0 hmf hf hr hFl

theorem unitsV_length (n : Int) (F : List (List Int)) (A : List Int) : (unitsV n F A).1.length ≤ 2097152 := by
  unfold unitsV
  split
  · rename_i h
    have h1 := cnf_valid h
    split
    · show (upL n.toNat F A).length ≤ 2097152
      have := upL_length n.toNat F A
      omega
    · simp
  · simp

theorem box_cellsI (n : Int) (acl : Option Addr) (m cf : Nat) (w : World) (o : Obj) : ((w.alloc (fbox n acl m cf)).alloc o).cell? ⟨w.heap.size, 0, none⟩ = some (.int .i64 n) ∧ ((w.alloc (fbox n acl m cf)).alloc o).cell? ⟨w.heap.size, 1, none⟩ = some (.slice acl m cf) := by
  have hb : ((w.alloc (fbox n acl m cf)).alloc o).heap[w.heap.size]? = some (fbox n acl m cf) := (Below.heap_alloc _ _ _ (by simp)).trans (heap_alloc_new _ _)
  unfold fbox at hb ⊢
  constructor <;> simp [World.cell?, hb]

theorem prop_UnitsN (n : Int) (acl : Option Addr) (F : List (List Int)) (mf cf : Nat) (aas : Option Addr) (A : List Int) (ma cas : Nat) (U : List Int) (b : Bool) (g : Int) (w : World) (hU : unitsV n F A = (U, b, g)) (hmf : mf = F.length) (hma : ma = A.length) (hf : FOk F) (hr : Rws w acl F) (hs : SlV w aas (ints A)) (hFl : F.length ≤ 9223372036854775807) (hAl : A.length ≤ 4294967296) :
    Calls Try.prog 31 #[.agg #[.int .i64 n, .slice acl mf cf], .slice aas ma cas] w fun e w' => Below w.heap.size w w' ∧ ∃ ar cr, e = .returned (.tuple #[.slice ar U.length cr, .bool b, .int .i64 g]) ∧ SlV w' ar (ints U) := by
  have := prop_UnitsV n acl F mf cf aas A ma cas w hmf hma hf hr hs hFl hAl
  unfold refUnitsR at this
  rwa [hU] at this

theorem ref_UnitsN (n : Int) (acl : Option Addr) (F : List (List Int)) (mf cf : Nat) (aas : Option Addr) (A : List Int) (ma cas : Nat) (U : List Int) (b : Bool) (g : Int) (w : World) (hU : unitsV n F A = (U, b, g)) (hmf : mf = F.length) (hma : ma = A.length) (hf : FOk F) (hr : Rws w acl F) (hs : SlV w aas (ints A)) (hA : ∀ a ∈ A, I64 a) (hFl : F.length ≤ 9223372036854775807) (hAl : A.length ≤ 4294967296) :
    Calls Try.prog 33 #[.agg #[.int .i64 n, .slice acl mf cf], .slice aas ma cas] w fun e w' => Below w.heap.size w w' ∧ ∃ ar cr, e = .returned (.tuple #[.slice ar U.length cr, .bool b, .int .i64 g]) ∧ SlV w' ar (ints U) := by
  have := ref_Units n acl F mf cf aas A ma cas w hmf hma hf hr hs hA hFl hAl
  unfold refUnitsR at this
  rwa [hU] at this

end Go.Proofs.Ytfgaglgaofceiaa.Ord
