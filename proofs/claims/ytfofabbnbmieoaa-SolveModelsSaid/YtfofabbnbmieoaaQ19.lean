/- The contract of prop.Units for any formula and any numbers. -/
import Derived.Test.YtfofabbnbmieoaaQPropU
import Derived.Test.YtfofabbnbmieoaaQRef04
import Derived.Test.YtfofabbnbmieoaaQ9
import Derived.Test.YtfofabbnbmieoaaQ12
import Derived.Test.YtfofabbnbmieoaaQ2
import Derived.Test.YtfofabbnbmieoaaQ3
import Derived.Test.YtfofabbnbmieoaaQ14
import Derived.Test.YtfofabbnbmieoaaQSolY
import Derived.Test.YtfofabbnbmieoaaQ11
import Derived.Test.YtfofabbnbmieoaaQ1

namespace Go.Proofs.Ytfofabbnbmieoaa.Ord
open Go.RowKit Go.Conc

attribute [local go_sem ↓] Go.wp_at_zero Go.wp_at_succ

set_option maxRecDepth 100000 in
set_option maxHeartbeats 4000000 in
theorem prop_UnitsE (n : Int) (e1 : Int) (acl : Option Addr) (F : List (List Int)) (mf cf : Nat) (aas : Option Addr) (A : List Int) (ma cas : Nat) (w : World) (he : cnfCheck n F = e1) (h0 : e1 ≠ 0) (hmf : mf = F.length) (hf : FOk F) (hr : Rws w acl F) (hFl : F.length ≤ 9223372036854775807) :
    Calls Try.prog 47 #[.agg #[.int .i64 n, .slice acl mf cf], .slice aas ma cas] w (refUnitsR n F A w) := by
  subst hmf
  have HE := hid he
  have HZ := hid h0
  have hz' : (e1 != 0) = true := by simpa using h0
  have HF := hid hf
  have HR := hid (hr.below (box_below w (fbox n acl F.length cf)))
  have hb2 : Below w.heap.size w ((w.alloc (fbox n acl F.length cf)).alloc (fbox n acl F.length cf)) := below_al (box_below _ _) (by simp only [size_al]; omega) _
  have HB2 := hid hb2
  clear he h0 hf hr hb2
  go_enter Try.func47, Try.ntmps47
  go_wp2_with fail
  refine (cnf_CheckR n acl F _ cf e1 _ HE.out rfl HF.out HR.out hFl).mono ?_
  rintro e wx ⟨rfl, rfl⟩
  go_wp2_with fail
  go_ret3
  exact refUnitsR_err HE.out HZ.out HB2.out

set_option maxRecDepth 100000 in
set_option maxHeartbeats 4000000 in
theorem prop_UnitsA (n : Nat) (acl : Option Addr) (F : List (List Int)) (mf cf : Nat) (aas : Option Addr) (A : List Int) (ma cas : Nat) (w : World) (he : cnfCheck n F = 0) (hn : n ≤ 1048576) (hmf : mf = F.length) (hma : ma = A.length) (hf : FOk F) (hr : Rws w acl F) (hs : SlV w aas (ints A)) (hFl : F.length ≤ 9223372036854775807) (hAl : A.length ≤ 4294967296)
    (hb : A.any (badLit n) = true) :
    Calls Try.prog 47 #[.agg #[.int .i64 n, .slice acl mf cf], .slice aas ma cas] w (refUnitsR n F A w) := by
  subst hmf
  subst hma
  have HE := hid he
  have HF := hid hf
  have HR := hid (hr.below (box_below w (fbox n acl F.length cf)))
  have HS := hid hs
  have HBD := hid hb
  have hb2 : Below w.heap.size w ((w.alloc (fbox n acl F.length cf)).alloc (fbox n acl F.length cf)) := below_al (box_below _ _) (by simp only [size_al]; omega) _
  have HB2 := hid hb2
  clear he hf hr hs hb hb2
  go_enter Try.func47, Try.ntmps47
  go_wp2_with fail
  refine (cnf_CheckR n acl F _ cf 0 _ HE.out rfl HF.out HR.out hFl).mono ?_
  rintro e wx ⟨rfl, rfl⟩
  have HS2 := hid (HS.out.below HB2.out)
  have hc20 := (box_cells n acl F.length cf w (fbox n acl F.length cf)).1
  generalize hw1 : (w.alloc _).alloc _ = w1 at HS2 hc20 ⊢
  rw [hw1] at HB2
  clear hw1
  go_wp2_with fail
  go_loop [31] (fun s31 => ∃ k : Nat, s31 = .int .i64 k ∧ k ≤ A.length ∧ Hid ((A.take k).any (badLit n) = false)) (fun s31 => (A.length - (intOf s31)).toNat)
  case atStart => exact ⟨0, rfl, Nat.zero_le _, by simp [Hid]⟩
  case round =>
    obtain ⟨k, rfl, hk, hany⟩ := hrel
    by_cases hlt : k < A.length
    · obtain ⟨bo, oo, x, rfl, hcx, hxk⟩ := HS2.out.int hlt
      have HX := hid hxk
      clear hxk
      have hwn : IntKind.i64.wrap (-(n : Int)) = -(n : Int) := IntWalk.i64_in _ (by omega)
      by_cases hb : badLit n x = true
      · have HBX := hid hb
        rcases lit_bad_of hb with h0 | h0 | h0
        · have d0 : (x == 0) = true := by rw [h0]; rfl
          clear h0 hb
          go_wp2_with fail
          go_ret3
          exact refUnitsR_arg HE.out HX.out HBX.out HB2.out
        · have d0 : (x == 0) = false := by rw [beq_eq_false_iff_ne]; omega
          have d1 : decide ((n : Int) < x) = true := decide_eq_true h0
          clear h0 hb
          go_wp2_with fail
          go_ret3
          exact refUnitsR_arg HE.out HX.out HBX.out HB2.out
        · have d0 : (x == 0) = false := by rw [beq_eq_false_iff_ne]; omega
          have d1 : decide ((n : Int) < x) = false := decide_eq_false (by omega)
          have d2 : decide (x < -(n : Int)) = true := decide_eq_true h0
          clear h0 hb
          go_wp2_with fail
          go_ret3
          exact refUnitsR_arg HE.out HX.out HBX.out HB2.out
      · have hb' : badLit n x = false := by simpa using hb
        have hx := lit_ok_of hb'
        unfold LitOk at hx
        have d0 : (x == 0) = false := by rw [beq_eq_false_iff_ne]; exact hx.1
        have d1 : decide ((n : Int) < x) = false := decide_eq_false (by omega)
        have d2 : decide (x < -(n : Int)) = false := decide_eq_false (by omega)
        have HN := hid (take_any_succ HX.out hany.out hb')
        have hwk : IntKind.i64.wrap ((k : Int) + 1) = (k : Int) + 1 := IntWalk.i64_in _ (by omega)
        clear hb hb' hx
        go_wp2_with fail
        go_round
        case rel => exact ⟨k + 1, by simp, hlt, HN⟩
        case measure => simp [intOf]; omega
    · exfalso
      have h1 := take_all_false hlt hany.out
      rw [HBD.out] at h1
      cases h1

/-- prop.Units, whatever it is given. -/
theorem prop_UnitsV (n : Int) (acl : Option Addr) (F : List (List Int)) (mf cf : Nat) (aas : Option Addr) (A : List Int) (ma cas : Nat) (w : World) (hmf : mf = F.length) (hma : ma = A.length) (hf : FOk F) (hr : Rws w acl F) (hs : SlV w aas (ints A)) (hFl : F.length ≤ 9223372036854775807) (hAl : A.length ≤ 4294967296) :
    Calls Try.prog 47 #[.agg #[.int .i64 n, .slice acl mf cf], .slice aas ma cas] w (refUnitsR n F A w) := by
  by_cases h0 : cnfCheck n F = 0
  · obtain ⟨v1, v2, v3, v4, v5⟩ := cnf_valid h0
    obtain ⟨n, rfl⟩ := Int.eq_ofNat_of_zero_le v1
    by_cases hb : A.any (badLit n) = true
    · exact prop_UnitsA n acl F mf cf aas A ma cas w h0 (by omega) hmf hma hf hr hs hFl hAl hb
    · have hb' : A.any (badLit n) = false := by simpa using hb
      refine (prop_Units n acl F mf cf aas A ma cas w (by omega) hmf hma hf hr hs v3 hAl (fun c hc => Nat.le_trans (v4 c hc) (by omega)) h0 v5 (asm_ok_of hb')).mono ?_
      rintro e w' ⟨h1, ar, cr, h2, h3⟩
      refine ⟨h1, ar, cr, ?_, ?_⟩
      · rw [unitsV_ok h0 hb']; exact h2
      · rw [unitsV_ok h0 hb']; exact h3
  · exact prop_UnitsE n _ acl F mf cf aas A ma cas w rfl h0 hmf hf hr hFl

theorem box_cellsI (n : Int) (acl : Option Addr) (m cf : Nat) (w : World) (o : Obj) : ((w.alloc (fbox n acl m cf)).alloc o).cell? ⟨w.heap.size, 0, none⟩ = some (.int .i64 n) ∧ ((w.alloc (fbox n acl m cf)).alloc o).cell? ⟨w.heap.size, 1, none⟩ = some (.slice acl m cf) := by
  have hb : ((w.alloc (fbox n acl m cf)).alloc o).heap[w.heap.size]? = some (fbox n acl m cf) := (Below.heap_alloc _ _ _ (by simp)).trans (heap_alloc_new _ _)
  unfold fbox at hb ⊢
  constructor <;> simp [World.cell?, hb]

theorem prop_UnitsN (n : Int) (acl : Option Addr) (F : List (List Int)) (mf cf : Nat) (aas : Option Addr) (A : List Int) (ma cas : Nat) (U : List Int) (b : Bool) (g : Int) (w : World) (hU : unitsV n F A = (U, b, g)) (hmf : mf = F.length) (hma : ma = A.length) (hf : FOk F) (hr : Rws w acl F) (hs : SlV w aas (ints A)) (hFl : F.length ≤ 9223372036854775807) (hAl : A.length ≤ 4294967296) :
    Calls Try.prog 47 #[.agg #[.int .i64 n, .slice acl mf cf], .slice aas ma cas] w fun e w' => Below w.heap.size w w' ∧ ∃ ar cr, e = .returned (.tuple #[.slice ar U.length cr, .bool b, .int .i64 g]) ∧ SlV w' ar (ints U) := by
  have := prop_UnitsV n acl F mf cf aas A ma cas w hmf hma hf hr hs hFl hAl
  unfold refUnitsR at this
  rwa [hU] at this

end Go.Proofs.Ytfofabbnbmieoaa.Ord

/- The contract of rup.Check. -/
namespace Go.Proofs.Ytfofabbnbmieoaa.Ord
open Go.RowKit Go.Conc

attribute [local go_sem ↓] Go.wp_at_zero Go.wp_at_succ
attribute [local go_sem ↓ high] app_mark

/-- What Check leaves. -/
def rupR (n : Int) (F P : List (List Int)) (w : World) (e : Ending) (w' : World) : Prop :=
  e = .returned (.tuple #[.int .i64 (rupV n F P).1, .int .i64 (rupV n F P).2]) ∧ Below w.heap.size w w'

theorem rupV_err {n e : Int} {F P : List (List Int)} (h : rupErr n F P = e) (h0 : e ≠ 0) : rupV n F P = (0, e) := by
  unfold rupV
  rw [h, if_neg h0]

theorem rupErr_cnf {n e : Int} {F : List (List Int)} (h : cnfCheck n F = e) (h0 : e ≠ 0) (P : List (List Int)) : rupErr n F P = e := by
  unfold rupErr
  rw [h, if_neg h0]

theorem rupErr_at {n e : Int} {F P : List (List Int)} (h : cnfCheck n F = 0) {k : Nat} {c : List Int} (hb : ∀ d ∈ P.take k, litCheck n d = 0) (hc : P[k]? = some c) (he : litCheck n c = e) (h0 : e ≠ 0) : rupErr n F P = e := by
  obtain ⟨hk, hkc⟩ := List.getElem?_eq_some_iff.1 hc
  have hf : P.find? (fun c => litCheck n c != 0) = some c := by
    have e1 : P = P.take k ++ c :: P.drop (k + 1) := by rw [← hkc, ← List.drop_eq_getElem_cons hk, List.take_append_drop]
    rw [e1, List.find?_append, List.find?_eq_none.2 (fun d hd => by simp [hb d hd]), List.find?_cons_of_pos (by rw [he]; simpa using h0)]
    rfl
  unfold rupErr
  rw [if_pos h, hf]
  exact he

theorem rupErr_ok {n : Int} {F P : List (List Int)} (h : cnfCheck n F = 0) (hb : ∀ d ∈ P, litCheck n d = 0) : rupErr n F P = 0 := by
  unfold rupErr
  rw [if_pos h, List.find?_eq_none.2 (fun d hd => by simp [hb d hd])]

theorem rupV_at {n : Int} {F P : List (List Int)} (h : rupErr n F P = 0) {k : Nat} {c : List Int} (ha : ∀ (i : Nat) (c : List Int), i < k → P[i]? = some c → upF (F ++ P.take i) (negs c) = true) (hc : P[k]? = some c) (hn : upF (F ++ P.take k) (negs c) = false) : rupV n F P = ((k : Int), 0) := by
  have e := rupGo_at ha hc hn
  have hk := (List.getElem?_eq_some_iff.1 hc).1
  unfold rupV
  rw [if_pos h, e, if_pos hk]

theorem rupV_all {n : Int} {F P : List (List Int)} (h : rupErr n F P = 0) (ha : ∀ (i : Nat) (c : List Int), i < P.length → P[i]? = some c → upF (F ++ P.take i) (negs c) = true) : rupV n F P = (if P.getLast? = some [] then -1 else (P.length : Int), 0) := by
  have e1 := rupGo_ge ha (Nat.le_refl _)
  have e2 := rupGo_le F P
  unfold rupV
  rw [if_pos h, if_neg (by omega)]

theorem lits_of_check {n : Nat} {c : List Int} (h : litCheck n c = 0) : (∀ x ∈ c, LitOk n x) ∧ c.length ≤ 4096 := by
  unfold litCheck at h
  split at h
  · cases h
  · split at h
    · cases h
    · split at h
      · cases h
      · rename_i h1 h2 h3
        refine ⟨fun x hx => ?_, by omega⟩
        have h4 : badLit n x = false := by
          by_cases q : badLit n x = true
          · exact absurd (List.any_eq_true.2 ⟨x, hx, q⟩) h3
          · simpa using q
        unfold badLit at h4
        simp only [Bool.or_eq_false_iff, beq_eq_false_iff_ne, decide_eq_false_iff_not] at h4
        unfold LitOk
        omega

set_option maxRecDepth 100000 in
set_option maxHeartbeats 8000000 in
theorem rup_Check (n : Int) (acl : Option Addr) (F : List (List Int)) (mf cf : Nat) (apl : Option Addr) (P : List (List Int)) (mp cp : Nat) (w : World) (hmf : mf = F.length) (hmp : mp = P.length) (hf : FOk F) (hr : Rws w acl F) (hp : FOk P) (hrp : Rws w apl P) (hFl : F.length ≤ 9223372036854775807) (hPl : P.length ≤ 2199022206975) :
    Calls Try.prog 60 #[.agg #[.int .i64 n, .slice acl mf cf], .slice apl mp cp] w (rupR n F P w) := by
  subst hmf hmp
  have hmfn : ∀ (fn : Fn) (first cap : Array Value) (w : World), (Instr.makeFunc fn first cap).run Try.prog w = .ok (.func fn first cap) w := fun _ _ _ _ => rfl
  obtain ⟨Q, hQ⟩ : ∃ Q : Ending → World → Prop, rupR n F P w = Q := ⟨_, rfl⟩
  rw [hQ]
  have HQ := hid hQ
  clear hQ
  obtain ⟨e1, he1⟩ : ∃ e, cnfCheck n F = e := ⟨_, rfl⟩
  have HR := hid hr
  have HF := hid (And.intro hf hp)
  have HRP := hid hrp
  by_cases h0 : e1 = 0
  · subst h0
    obtain ⟨v1, v2, v3, v4, v5⟩ := cnf_valid he1
    obtain ⟨n, rfl⟩ := Int.eq_ofNat_of_zero_le v1
    have hok : ClsOk n F := v5
    have HV := hid (And.intro he1 (And.intro hok v4))
    have HBB : Hid (Below w.heap.size w ((w.alloc (fbox n acl F.length cf)).alloc (fbox n acl F.length cf))) := hid (below_al (box_below _ _) (by simp only [size_al]; omega) _)
    have HB := hid (hr.below (box_below w (fbox n acl F.length cf)))
    obtain ⟨k0, k1⟩ := box_cellsI n acl F.length cf w (fbox n acl F.length cf)
    have hn20 : n ≤ 1048576 := by omega
    clear he1 v1 v2 v4 v5 hok hr hf hp hrp
    go_enter Try.func60, Try.ntmps60
    go_wp2_with fail
    refine (cnf_CheckR n acl F _ cf 0 _ HV.out.1 rfl HF.out.1 HB.out hFl).mono ?_
    rintro e wx ⟨rfl, hwx⟩
    obtain ⟨wB, hwB⟩ : ∃ x, ((w.alloc (fbox n acl F.length cf)).alloc (fbox n acl F.length cf)) = x := ⟨_, rfl⟩
    have hwx2 : wx = wB := by rw [← hwx, ← hwB]
    subst hwx2
    rw [hwB] at HBB k0 k1
    clear hwx hwB HB
    obtain ⟨N, hN⟩ : ∃ N, P.length = N := ⟨_, rfl⟩
    rw [hN] at hPl ⊢
    have HN := hid hN
    clear hN
    go_wp2_with fail
    go_loop [24] (fun s24 => ∃ k : Nat, s24 = .int .i64 k ∧ k ≤ N ∧ Hid (∀ d ∈ P.take k, litCheck n d = 0)) (fun s24 => (N - (intOf s24)).toNat)
    case atStart => exact ⟨0, rfl, by omega, hid (by simp)⟩
    case round =>
      obtain ⟨k, rfl, hkN, HJ⟩ := hrel
      by_cases hlt : k < N
      · have hlt2 : (k : Int) < N := by omega
        obtain ⟨b, off, c, ac, cc, hap, hcell, hcs, hck, hc64, hcl, hcc, hc0⟩ := (HRP.out.below HBB.out).row HF.out.2 (k := k) (by rw [HN.out]; exact hlt)
        subst hap
        obtain ⟨e2, he2⟩ : ∃ e, litCheck n c = e := ⟨_, rfl⟩
        have hwk : IntKind.i64.wrap ((k : Int) + 1) = (k : Int) + 1 := IntWalk.i64_in _ (by omega)
        have HCALL := hid (lit_CheckR n ac c c.length cc e2 wx he2 rfl hc64 hcs hcl)
        have HCK := hid (And.intro hck he2)
        clear hcs hck hc64 hcl hcc hc0 he2
        by_cases hz : e2 = 0
        · subst hz
          go_wp2_with fail
          refine HCALL.out.mono ?_
          rintro e w2 ⟨rfl, rfl⟩
          go_wp2_with fail
          go_round
          case rel => exact ⟨k + 1, by simp, by omega, hid fun d hd => by
            rw [List.take_add_one, HCK.out.1] at hd
            rcases List.mem_append.1 hd with q | q
            · exact HJ.out d q
            · have : d = c := by simpa using q
              rw [this]; exact HCK.out.2⟩
          case measure => simp [intOf]; omega
        · have hz' : (e2 != 0) = true := by simpa using hz
          have HE : Hid (Q (.returned (.tuple #[.int .i64 0, .int .i64 e2])) wx) := hid (by
            rw [← HQ.out]
            unfold rupR
            rw [rupV_err (rupErr_at HV.out.1 HJ.out HCK.out.1 HCK.out.2 hz) hz]
            exact ⟨rfl, HBB.out⟩)
          clear hz
          go_wp2_with fail
          refine HCALL.out.mono ?_
          rintro e w2 ⟨rfl, rfl⟩
          go_wp2_with fail
          exact HE.out
      · have hke : k = N := by omega
        subst hke
        have hlt2 : ¬ (k : Int) < k := by omega
        have HPOK : Hid (∀ d ∈ P, litCheck n d = 0) := hid fun d hd => HJ.out d (by rw [List.take_of_length_le (by rw [HN.out]; exact Nat.le_refl _)]; exact hd)
        clear HJ hlt hkN
        have hm1 := fun w : World => run_makeMap_plain (P := Try.prog) w 99
        have hm2 := fun w : World => run_makeMap_plain (P := Try.prog) w 100
        have hk1 : ∀ o1 o2 o3 o4 : Obj, ((((wx.alloc o1).alloc o2).alloc o3).alloc o4).cell? ⟨w.heap.size, 1, none⟩ = some (.slice acl F.length cf) := fun o1 o2 o3 o4 => below_keeps (box_below _ o4) _ _ (below_keeps (box_below _ o3) _ _ (below_keeps (box_below _ o2) _ _ (below_keeps (box_below _ o1) _ _ k1)))
        obtain ⟨M, hM⟩ : ∃ M, F.length = M := ⟨_, rfl⟩
        rw [hM] at hk1 v3 hFl ⊢
        have HM := hid hM
        clear hM
        go_wp2_with fail
        clear hm1 hm2 hk1
        generalize hwS : (((wx.alloc _).alloc _).alloc _).alloc _ = wS
        obtain ⟨hE, hC0⟩ := ck_start w wx wS n HBB.out hwS
        generalize wx.heap.size + 1 + 1 + 1 = b1 at hE hwS ⊢
        generalize wx.heap.size + 1 + 1 = bx at hE hC0 hwS ⊢
        generalize wx.heap.size + 1 = bk at hE hC0 hwS
        generalize wx.heap.size = bw at hE hC0 hwS
        have HE := hid hE
        have HC0 : Hid (CK w wS bx bw bk n (F.take 0) wS false) := hid (by rw [List.take_zero]; exact hC0)
        clear hE hC0 hwS k0 k1
        go_loopw [12, 45] (fun s12 s45 wr => ∃ (k : Nat) (b : Bool), s45 = .int .i64 k ∧ k ≤ M ∧ s12 = .bool b ∧ Hid (CK w wS bx bw bk n (F.take k) wr b)) (fun _ s45 _ => (M - (intOf s45)).toNat)
        case atStart => exact ⟨0, false, rfl, by omega, rfl, HC0⟩
        case round =>
          obtain ⟨j, b, rfl, hjM, rfl, HK⟩ := hrel
          by_cases hlt : j < M
          · have hlt2 : (j : Int) < M := by omega
            have hBr := HE.out.below HK.out.t
            obtain ⟨bf, off, c, ac, cc, hap, hcell, hcs, hck, hc64, hcl, hcc, hc0⟩ := HR.out.row HF.out.1 (k := j) (by rw [HM.out]; exact hlt)
            subst hap
            have hcell2 := below_keeps hBr _ _ hcell
            have hwk : IntKind.i64.wrap ((j : Int) + 1) = (j : Int) + 1 := IntWalk.i64_in _ (by omega)
            have hcm := List.mem_of_getElem? hck
            have htk : F.take (j + 1) = F.take j ++ [c] := by rw [List.take_add_one, hck]; rfl
            have HCC := hid (And.intro hcs (And.intro hcc (And.intro hc0 (And.intro (HV.out.2.1 c hcm) (And.intro (HV.out.2.2 c hcm) htk)))))
            clear hBr hcell hcs hck hc64 hcl hcc hc0 hcm htk
            cases b with
            | true =>
              go_wp2_with fail
              go_roundw
              case rel => exact ⟨j + 1, true, by simp, by omega, rfl, hid (by rw [HCC.out.2.2.2.2.2]; exact (HK.out.more c).al _)⟩
              case measure => simp [intOf]; omega
            | false =>
              have HCALL := hid (ck_add1 (b2 := wr.heap.size) HE.out (HK.out.al (.cells #[.slice ac c.length cc] 22)) hn20 (by rw [List.length_take]; omega) HCC.out.2.1 HCC.out.2.2.1 HCC.out.2.2.2.1 (by have := HCC.out.2.2.2.2.1; omega) HCC.out.1 (heap_alloc_new _ _))
              go_wp2_with fail
              refine HCALL.out.mono ?_
              rintro e w5 ⟨b', rfl, hck⟩
              have HCK := hid hck
              clear hck hcell2
              go_wp2_with fail
              go_roundw
              case rel => exact ⟨j + 1, b', by simp, by omega, rfl, hid (by rw [HCC.out.2.2.2.2.2]; exact HCK.out)⟩
              case measure => simp [intOf]; omega
          · have hje : j = M := by omega
            subst hje
            have hlt2 : ¬ (j : Int) < j := by omega
            have HC1 : Hid (CK w wS bx bw bk n (F ++ P.take 0) wr b) := hid (by
              have := HK.out
              rw [List.take_of_length_le (by rw [HM.out]; exact Nat.le_refl _)] at this
              rw [List.take_zero, List.append_nil]
              exact this)
            have HA0 : Hid (∀ (i : Nat) (c : List Int), i < 0 → P[i]? = some c → upF (F ++ P.take i) (negs c) = true) := hid fun i c hi => by omega
            clear HK hlt hjM
            go_wp2_with fail
            go_loopw [12, 57] (fun s12 s57 wr => ∃ (j : Nat) (b : Bool), s57 = .int .i64 j ∧ j ≤ k ∧ s12 = .bool b ∧ Hid (CK w wS bx bw bk n (F ++ P.take j) wr b) ∧ Hid (∀ (i : Nat) (c : List Int), i < j → P[i]? = some c → upF (F ++ P.take i) (negs c) = true)) (fun _ s57 _ => (k - (intOf s57)).toNat)
            case atStart => exact ⟨0, b, rfl, by omega, rfl, HC1, HA0⟩
            case round =>
              obtain ⟨i, b, rfl, hik, rfl, HK, HA⟩ := hrel
              by_cases hlt : i < k
              · have hlt2 : (i : Int) < k := by omega
                have hBr := HE.out.below HK.out.t
                obtain ⟨bf, off, c, ac, cc, hap, hcell, hcs, hck, hc64, hcl, hcc, hc0⟩ := HRP.out.row HF.out.2 (k := i) (by rw [HN.out]; exact hlt)
                subst hap
                have hcell2 := below_keeps hBr _ _ hcell
                have hwk : IntKind.i64.wrap ((i : Int) + 1) = (i : Int) + 1 := IntWalk.i64_in _ (by omega)
                have hcm := List.mem_of_getElem? hck
                have htk : P.take (i + 1) = P.take i ++ [c] := by rw [List.take_add_one, hck]; rfl
                have hlk := lits_of_check (HPOK.out c hcm)
                have HCC := hid (And.intro hcs (And.intro hcc (And.intro hc0 (And.intro hlk.1 (And.intro hlk.2 htk)))))
                have HP2 := hid hck
                have HFO : Hid (ClsOk n (F ++ P.take i)) := hid fun d hd => by
                  rcases List.mem_append.1 hd with q | q
                  · exact HV.out.2.1 d q
                  · exact (lits_of_check (HPOK.out d (List.mem_of_mem_take q))).1
                have hGl : (F ++ P.take i).length ≤ 2199023255550 := by rw [List.length_append, List.length_take, HM.out]; omega
                clear hBr hcell hcs hck hc64 hcl hcc hc0 hcm htk hlk
                cases b with
                | true =>
                  have HA2 : Hid (∀ (t : Nat) (d : List Int), t < i + 1 → P[t]? = some d → upF (F ++ P.take t) (negs d) = true) := hid fun t d ht hd => by
                    by_cases q : t < i
                    · exact HA.out t d q hd
                    · have : t = i := by omega
                      subst this
                      exact HK.out.imp d
                  clear hGl
                  go_wp2_with fail
                  go_roundw
                  case rel => exact ⟨i + 1, true, by simp, by omega, rfl, hid (by rw [HCC.out.2.2.2.2.2, ← List.append_assoc]; exact (HK.out.more c).al _), HA2⟩
                  case measure => simp [intOf]; omega
                | false =>
                  have HIMP := hid (ck_implies (cc := cc) (mc := c.length) HE.out HK.out (.slice ac c.length cc) 22 hn20 (by omega) rfl HCC.out.2.2.2.1 (by have := HCC.out.2.2.2.2.1; omega) HFO.out HCC.out.1)
                  have HGL := hid hGl
                  clear hGl
                  go_wp2_with fail
                  refine HIMP.out.mono ?_
                  rintro e w5 ⟨rfl, hck, hb5⟩
                  have HCK := hid hck
                  cases hup : upF (F ++ P.take i) (negs c) with
                  | true =>
                    have HA2 : Hid (∀ (t : Nat) (d : List Int), t < i + 1 → P[t]? = some d → upF (F ++ P.take t) (negs d) = true) := hid fun t d ht hd => by
                      by_cases q : t < i
                      · exact HA.out t d q hd
                      · have : t = i := by omega
                        subst this
                        have := HP2.out.symm.trans hd
                        injection this with this
                        rw [← this]
                        exact hup
                    have HCALL := hid (ck_add2 (b2 := wr.heap.size) HE.out HCK.out hn20 HGL.out HCC.out.2.1 HCC.out.2.2.1 HCC.out.2.2.2.1 (by have := HCC.out.2.2.2.2.1; omega) HCC.out.1 hb5)
                    clear hck hb5 hup hcell2
                    go_wp2_with fail
                    refine HCALL.out.mono ?_
                    rintro e w6 ⟨b', rfl, hck⟩
                    have HCK2 := hid hck
                    clear hck
                    go_wp2_with fail
                    go_roundw
                    case rel => exact ⟨i + 1, b', by simp, by omega, rfl, hid (by rw [HCC.out.2.2.2.2.2, ← List.append_assoc]; exact HCK2.out), HA2⟩
                    case measure => simp [intOf]; omega
                  | false =>
                    have HF2 : Hid (Q (.returned (.tuple #[.int .i64 i, .int .i64 0])) w5) := hid (by
                      rw [← HQ.out]
                      unfold rupR
                      rw [rupV_at (rupErr_ok HV.out.1 HPOK.out) HA.out HP2.out hup]
                      exact ⟨rfl, HE.out.below HCK.out.t⟩)
                    clear hck hb5 hup hcell2
                    go_wp2_with fail
                    exact HF2.out
              · have hie : i = k := by omega
                subst hie
                have hlt2 : ¬ (i : Int) < i := by omega
                have hall := rupV_all (n := n) (F := F) (P := P) (rupErr_ok HV.out.1 HPOK.out) fun t d ht hd => HA.out t d (by rw [← HN.out]; exact ht) hd
                have HF2 : Hid (∀ r : Int, r = (if P.getLast? = some [] then -1 else (i : Int)) → Q (.returned (.tuple #[.int .i64 r, .int .i64 0])) wr) := hid fun r hr => by
                  rw [← HQ.out]
                  unfold rupR
                  rw [hall, HN.out, hr]
                  exact ⟨rfl, HE.out.below HK.out.t⟩
                clear hall hlt hik
                by_cases hi0 : i = 0
                · have hz : ¬ (0 : Int) < i := by omega
                  have HL : Hid ((i : Int) = (if P.getLast? = some [] then -1 else (i : Int))) := hid (by
                    have : P = [] := List.eq_nil_of_length_eq_zero (by rw [HN.out]; exact hi0)
                    rw [this]; rfl)
                  clear hi0
                  go_wp2_with fail
                  exact HF2.out _ HL.out
                · have hz : (0 : Int) < i := by omega
                  have hBr := HE.out.below HK.out.t
                  obtain ⟨bf, off, c, ac, cc, hap, hcell, hcs, hck, hc64, hcl, hcc, hc0⟩ := HRP.out.row HF.out.2 (k := i - 1) (by rw [HN.out]; omega)
                  subst hap
                  have hcell2 := below_keeps hBr _ _ hcell
                  have hwi : IntKind.i64.wrap ((i : Int) - 1) = (i : Int) - 1 := IntWalk.i64_in _ (by omega)
                  have HLST : Hid (P.getLast? = some c) := hid (by rw [List.getLast?_eq_getElem?, HN.out]; exact hck)
                  have hge : (0 : Int) ≤ (i : Int) - 1 := by omega
                  have hlt3 : (i : Int) - 1 < i := by omega
                  have htn : ((i : Int) - 1).toNat = i - 1 := by omega
                  by_cases hcz : c.length = 0
                  · have hd : ((c.length : Int) == 0) = true := by simp [hcz]
                    have HL : Hid ((-1 : Int) = (if P.getLast? = some [] then -1 else (i : Int))) := hid (by
                      rw [HLST.out, List.eq_nil_of_length_eq_zero hcz, if_pos rfl])
                    clear hcz hi0 hcell hcs hck hc64 hcl hcc hc0
                    go_wp2_with fail
                    exact HF2.out _ HL.out
                  · have hd : ((c.length : Int) == 0) = false := by simp; intro h; exact hcz (by simp [h])
                    have HL : Hid ((i : Int) = (if P.getLast? = some [] then -1 else (i : Int))) := hid (by
                      rw [HLST.out, if_neg (by intro h; injection h with h; exact hcz (by simp [h]))])
                    clear hcz hi0 hcell hcs hck hc64 hcl hcc hc0
                    go_wp2_with fail
                    exact HF2.out _ HL.out
  · have HE : Hid (Q (.returned (.tuple #[.int .i64 0, .int .i64 e1])) ((w.alloc (fbox n acl F.length cf)).alloc (fbox n acl F.length cf))) := hid (by
      rw [← HQ.out]
      unfold rupR
      rw [rupV_err (rupErr_cnf he1 h0 P) h0]
      exact ⟨rfl, below_al (box_below _ _) (by simp only [size_al]; omega) _⟩)
    have hz' : (e1 != 0) = true := by simpa using h0
    have HB := hid (hr.below (box_below w (fbox n acl F.length cf)))
    have HC := hid he1
    clear he1 h0 hr hf hp hrp
    go_enter Try.func60, Try.ntmps60
    go_wp2_with fail
    refine (cnf_CheckR n acl F _ cf e1 _ HC.out rfl HF.out.1 HB.out hFl).mono ?_
    rintro e wx ⟨rfl, rfl⟩
    go_wp2_with fail
    exact HE.out

end Go.Proofs.Ytfofabbnbmieoaa.Ord

/- The contracts of rup.Implied and of the reference's Implied. -/
namespace Go.Proofs.Ytfofabbnbmieoaa.Ord
open Go.RowKit Go.Conc

attribute [local go_sem ↓] Go.wp_at_zero Go.wp_at_succ
attribute [local go_sem ↓ high] app_mark

end Go.Proofs.Ytfofabbnbmieoaa.Ord

/- The contract of the reference's Implied. -/
namespace Go.Proofs.Ytfofabbnbmieoaa.Ord
open Go.RowKit Go.Conc

attribute [local go_sem ↓] Go.wp_at_zero Go.wp_at_succ
attribute [local go_sem ↓ high] app_mark

end Go.Proofs.Ytfofabbnbmieoaa.Ord

/- Rows of the call's own, of clauses that lie elsewhere. -/
namespace Go.Proofs.Ytfofabbnbmieoaa.Ord
open Go.RowKit Go.Conc

/-- A row that the call made behind the world w0: each of its rows was there then. -/
structure OwnRs (w0 w : World) (v : Value) (f : List (List Int)) : Prop where
  bel : Below w0.heap.size w0 w
  row : ∃ us, w.ownsRow w0.heap.size 22 1 v f.length us ∧ ∀ (j : Nat) (c : List Int), f[j]? = some c → ∃ u, us[j]? = some u ∧ SlI w0 u c

theorem OwnRs.nil (w0 w : World) (h : Below w0.heap.size w0 w) : OwnRs w0 w (.slice none 0 0) [] := ⟨h, [], World.ownsRow_nil _ _ _ _, by simp⟩

theorem SlI.far {w0 w : World} {u : Value} {c : List Int} (h : SlI w0 u c) (hb : Below w0.heap.size w0 w) : SlI w u c := h.below hb

theorem OwnRs.shape {w0 w : World} {v : Value} {f : List (List Int)} (h : OwnRs w0 w v f) : ∃ a c, v = .slice a f.length c ∧ f.length ≤ c ∧ (a = none → c = 0) ∧ Rws w a f := by
  obtain ⟨us, h1, h2⟩ := h.row
  obtain ⟨a, c, rfl⟩ := own_lenV' h1
  obtain ⟨-, q2, q3⟩ := own_cap h1
  have hsl := own_slv h1
  refine ⟨a, c, rfl, q2, fun e => (q3 e).1, fun j d hd => ?_⟩
  obtain ⟨u, hu, hs⟩ := h2 j d hd
  obtain ⟨b, off, e, hc⟩ := hsl j u hu
  exact ⟨b, off, u, e, hc, hs.below h.bel⟩

theorem OwnRs.grow {w0 w w' : World} {v : Value} {f : List (List Int)} (h : OwnRs w0 w v f) (hb : Below w.heap.size w w') : OwnRs w0 w' v f := by
  obtain ⟨us, h1, h2⟩ := h.row
  exact ⟨h.bel.trans (hb.mono h.bel.size), us, own_below h1 hb, h2⟩

/-- Such a row behind an append of one row. -/
theorem OwnRs.push {w0 w wx w6 : World} {v v6 u : Value} {f : List (List Int)} {c : List Int} (h : OwnRs w0 w v f) (hx : Below w.heap.size w wx) (hu : SlI w0 u c) {us : List Value} (h1 : w.ownsRow w0.heap.size 22 1 v f.length us) (h2 : ∀ (j : Nat) (c : List Int), f[j]? = some c → ∃ u, us[j]? = some u ∧ SlI w0 u c) (ho : w6.ownsRow w0.heap.size 22 1 v6 (f.length + 1) (us ++ [u])) (hg : wx.grownBy w6 v.ownBlock) : OwnRs w0 w6 v6 (f ++ [c]) := by
  refine ⟨below_app h.bel h.bel.size hx h1 hg, us ++ [u], by rw [List.length_append]; exact ho, fun j d hd => ?_⟩
  have hul : us.length = f.length := by have := h1.1; simpa using this
  by_cases q : j < f.length
  · rw [List.getElem?_append_left q] at hd
    obtain ⟨x, e1, e2⟩ := h2 j d hd
    exact ⟨x, by rw [List.getElem?_append_left (by omega)]; exact e1, e2⟩
  · rw [List.getElem?_append_right (by omega)] at hd
    have hl := (List.getElem?_eq_some_iff.1 hd).1
    simp at hl
    have hj : j = f.length := by omega
    subst hj
    simp at hd
    subst hd
    exact ⟨u, by rw [List.getElem?_append_right (by omega)]; simp [hul], hu⟩

/-- The same in a world where the block of the call's own was set. -/
theorem OwnRs.set {w0 w : World} {v : Value} {f : List (List Int)} (h : OwnRs w0 w v f) {b o : Nat} {cs : Array Value} {t : TypeId} {m : Nat × Nat} (hb : w.heap[b]? = some (.cells cs t m)) (ht : t ≠ 22) (hB : w0.heap.size ≤ b) (u : Value) : OwnRs w0 (w.setCell ⟨b, o, none⟩ u) v f := by
  obtain ⟨us, h1, h2⟩ := h.row
  exact ⟨h.bel.setCell hB u, us, own_setO h1 hb ht _ _, h2⟩

end Go.Proofs.Ytfofabbnbmieoaa.Ord

/- Plain facts for the law CnfNormal: Norm's clauses in place of a formula's. -/
namespace Go.Proofs.Ytfofabbnbmieoaa
open Go.RowKit

end Go.Proofs.Ytfofabbnbmieoaa

/- The contract of the reference's Check of proofs. -/
namespace Go.Proofs.Ytfofabbnbmieoaa.Ord
open Go.RowKit Go.Conc

attribute [local go_sem ↓] Go.wp_at_zero Go.wp_at_succ
attribute [local go_sem ↓ high] app_mark

end Go.Proofs.Ytfofabbnbmieoaa.Ord

/- The law's own functions. -/
namespace Go.Proofs.Ytfofabbnbmieoaa.Ord
open Go.RowKit

end Go.Proofs.Ytfofabbnbmieoaa.Ord

/- The functions of the laws of layer 5. -/
namespace Go.Proofs.Ytfofabbnbmieoaa.Ord
open Go.RowKit

theorem rup_CheckN (n : Int) (acl : Option Addr) (F : List (List Int)) (mf cf : Nat) (apl : Option Addr) (P : List (List Int)) (mp cp : Nat) (i g : Int) (w : World) (hv : rupV n F P = (i, g)) (hmf : mf = F.length) (hmp : mp = P.length) (hf : FOk F) (hr : Rws w acl F) (hp : FOk P) (hrp : Rws w apl P) (hFl : F.length ≤ 9223372036854775807) (hPl : P.length ≤ 2199022206975) :
    Calls Try.prog 60 #[.agg #[.int .i64 n, .slice acl mf cf], .slice apl mp cp] w fun e w' => e = .returned (.tuple #[.int .i64 i, .int .i64 g]) ∧ Below w.heap.size w w' := by
  have := rup_Check n acl F mf cf apl P mp cp w hmf hmp hf hr hp hrp hFl hPl
  unfold rupR at this
  rwa [hv] at this

end Go.Proofs.Ytfofabbnbmieoaa.Ord

/- The contracts of law07's right and answer; Solve's with its results under names. -/
namespace Go.Proofs.Ytfofabbnbmieoaa.Ord
open Go.RowKit

theorem solve_SolveN (n : Nat) (acl : Option Addr) (F : List (List Int)) (mf cf : Nat) (b : Int) (w : World) (hmf : mf = F.length) (hf : FOk F) (hr : Rws w acl F) (hc : cnfCheck n F = 0) (hn : n ≤ 25) (hb0 : 0 ≤ b) (hb1 : b ≤ 1099511627776) :
    Calls Try.prog 33 #[.agg #[.int .i64 n, .slice acl mf cf], .int .i64 b] w fun e w' => ∃ (ans : Int) (M : List Bool) (P : List (List Int)) (am ap : Option Addr) (ml pl cm cp : Nat), e = .returned (.tuple #[.agg #[.int .u8 ans, .slice am ml cm, .slice ap pl cp], .int .i64 0]) ∧ ml = M.length ∧ pl = P.length ∧ SolOk n F ans M P ∧ (b = 0 ∨ F = [] → ans ≠ 0) ∧ SlV w' am (bools M) ∧ Rws w' ap P ∧ Below w.heap.size w w' :=
  (solve_Solve n acl F mf cf b w hmf hf hr hc hn hb0 hb1).mono fun _ _ ⟨ans, M, P, am, ap, cm, cp, h1, h2, h3, h4, h5, _, _, h6⟩ => ⟨ans, M, P, am, ap, M.length, P.length, cm, cp, h1, rfl, rfl, h2, h3, h4, h5, h6⟩

/-- With no budget. -/
theorem solve_Solve0 (n : Nat) (acl : Option Addr) (F : List (List Int)) (mf cf : Nat) (A : Int) (w : World) (hA : ansV n F = A) (hmf : mf = F.length) (hf : FOk F) (hr : Rws w acl F) (hc : cnfCheck n F = 0) (hn : n ≤ 25) :
    Calls Try.prog 33 #[.agg #[.int .i64 n, .slice acl mf cf], .int .i64 0] w fun e w' => ∃ (M : List Bool) (P : List (List Int)) (am ap : Option Addr) (ml pl cm cp : Nat), e = .returned (.tuple #[.agg #[.int .u8 A, .slice am ml cm, .slice ap pl cp], .int .i64 0]) ∧ ml = M.length ∧ pl = P.length ∧ SolOk n F A M P ∧ SlV w' am (bools M) ∧ Rws w' ap P ∧ Below w.heap.size w w' :=
  (solve_SolveN n acl F mf cf 0 w hmf hf hr hc hn (by decide) (by decide)).mono fun _ _ ⟨ans, M, P, am, ap, ml, pl, cm, cp, h1, h2, h3, h4, h5, h6⟩ => by
    have e := h4.ans (h5 (Or.inl rfl))
    rw [hA] at e
    subst e
    exact ⟨M, P, am, ap, ml, pl, cm, cp, h1, h2, h3, h4, h6⟩

theorem first_ok {n : Nat} {F : List (List Int)} {M : List Bool} (hc : cnfCheck n F = 0) (hm : M.length = n) (h : firstIdx M F = -1) : cnfFirst n F M = (-1, 0) := by
  rw [cnfFirst_idx hc (by simp [hm]), h]

theorem rup_ok {n : Nat} {F P : List (List Int)} (hc : cnfCheck n F = 0) (hn : n ≤ 25) (hi : rupI F P = -1) (hP : ClsOk n P) (hl : ∀ c ∈ P, c.length ≤ n) : rupV n F P = (-1, 0) := by
  have he : rupErr n F P = 0 := by
    unfold rupErr
    rw [if_pos hc]
    have : P.find? (fun c => litCheck n c != 0) = none := List.find?_eq_none.2 fun c hcP => by
      have h1 : litCheck n c = 0 := by
        unfold litCheck
        rw [if_neg (by omega), if_neg (by have := hl c hcP; omega), if_neg]
        intro ha
        obtain ⟨x, hx, hb⟩ := List.any_eq_true.1 ha
        have h2 := hP c hcP x hx
        unfold LitOk at h2
        unfold badLit at hb
        simp only [Bool.or_eq_true, beq_iff_eq, decide_eq_true_eq] at hb
        omega
      simp [h1]
    rw [this]
  unfold rupV
  rw [if_pos he]
  unfold rupI at hi
  rw [hi]

theorem fok_cls {n : Nat} {P : List (List Int)} (hn : n ≤ 25) (hP : ClsOk n P) (hl : ∀ c ∈ P, c.length ≤ n) : FOk P := fun c hc => ⟨fun x hx => by have := hP c hc x hx; unfold LitOk at this; unfold I64; omega, by have := hl c hc; omega⟩

/-- The cells of two boxes. -/
theorem boxes2 (w : World) (n ans : Int) (acl am ap : Option Addr) (mf cf ml cm pl cp : Nat) {w2 : World} (hw2 : (w.alloc (.cells #[.int .i64 n, .slice acl mf cf] 34 (0, 0))).alloc (.cells #[.int .u8 ans, .slice am ml cm, .slice ap pl cp] 51 (0, 0)) = w2) :
    Below w.heap.size w w2 ∧ w2.heap.size = w.heap.size + 2 ∧ w2.heap[w.heap.size]? = some (.cells #[.int .i64 n, .slice acl mf cf] 34 (0, 0)) ∧ w2.heap[w.heap.size + 1]? = some (.cells #[.int .u8 ans, .slice am ml cm, .slice ap pl cp] 51 (0, 0)) := by
  subst hw2
  refine ⟨below_al (box_below w _) (by simp only [size_al]; omega) _, by simp only [size_al], ?_, ?_⟩
  · rw [heap_alloc_old _ _ (by simp only [size_al]; omega)]; exact heap_alloc_new w _
  · have := heap_alloc_new (w.alloc (.cells #[.int .i64 n, .slice acl mf cf] 34 (0, 0))) (.cells #[.int .u8 ans, .slice am ml cm, .slice ap pl cp] 51 (0, 0))
    rw [size_al] at this
    exact this

set_option maxRecDepth 100000 in
set_option maxHeartbeats 4000000 in
/-- A result that says nothing. -/
theorem law07_right0 (n : Int) (acl : Option Addr) (mf cf : Nat) (am ap : Option Addr) (cm cp : Nat) (w : World) :
    Calls Try.prog 35 #[.agg #[.int .i64 n, .slice acl mf cf], .agg #[.int .u8 0, .slice am 0 cm, .slice ap 0 cp]] w fun e w' => e = .returned (.bool true) ∧ Below w.heap.size w w' := by
  obtain ⟨w2, hw2⟩ : ∃ t, (w.alloc (.cells #[.int .i64 n, .slice acl mf cf] 34 (0, 0))).alloc (.cells #[.int .u8 0, .slice am 0 cm, .slice ap 0 cp] 51 (0, 0)) = t := ⟨_, rfl⟩
  obtain ⟨hb2, hs2, z0, z1⟩ := boxes2 w n 0 acl am ap mf cf 0 cm 0 cp hw2
  have c0 := fun i => cell_of_row w2 (w.heap.size + 1) i _ _ _ z1
  have HB := hid hb2
  clear hb2 hs2 z0 z1
  go_enter Try.func35, Try.ntmps35
  go_wp2_with fail
  go_ret
  exact ⟨rfl, HB.out⟩

set_option maxRecDepth 100000 in
set_option maxHeartbeats 4000000 in
theorem law07_right (n : Nat) (acl : Option Addr) (F : List (List Int)) (mf cf : Nat) (ans : Int) (M : List Bool) (P : List (List Int)) (am ap : Option Addr) (ml pl cm cp : Nat) (w : World) (hmf : mf = F.length) (hml : ml = M.length) (hpl : pl = P.length) (hf : FOk F) (hr : Rws w acl F) (h0 : cnfCheck n F = 0) (hn : n ≤ 25) (hok : SolOk n F ans M P) (hM : SlV w am (bools M)) (hP : Rws w ap P) :
    Calls Try.prog 35 #[.agg #[.int .i64 n, .slice acl mf cf], .agg #[.int .u8 ans, .slice am ml cm, .slice ap pl cp]] w fun e w' => e = .returned (.bool true) ∧ Below w.heap.size w w' := by
  have hFl := (cnf_valid h0).2.2.1
  obtain ⟨w2, hw2⟩ : ∃ t, (w.alloc (.cells #[.int .i64 n, .slice acl mf cf] 34 (0, 0))).alloc (.cells #[.int .u8 ans, .slice am ml cm, .slice ap pl cp] 51 (0, 0)) = t := ⟨_, rfl⟩
  obtain ⟨hb2, hs2, z0, z1⟩ := boxes2 w n ans acl am ap mf cf ml cm pl cp hw2
  have HB := hid (And.intro hb2 hs2)
  cases hok with
  | sat hm1 hm2 =>
    have hpl0 : pl = 0 := hpl
    subst hpl0
    clear hpl
    have HC := hid (cnf_First n acl F mf cf am M ml cm w2 hmf hml hf (hr.below hb2) (hM.below hb2) (by omega) (by have := hm1; omega))
    have HC : Hid (Calls Try.prog 22 #[.agg #[.int .i64 n, .slice acl mf cf], .slice am ml cm] w2 fun x w' => x = .returned (.tuple #[.int .i64 (-1), .int .i64 0]) ∧ Below w2.heap.size w2 w') := hid (by
      have h := HC.out
      rw [first_ok h0 hm1 hm2] at h
      exact h)
    have c0 := fun i => cell_of_row w2 w.heap.size i _ _ _ z0
    have c1 := fun i => cell_of_row w2 (w.heap.size + 1) i _ _ _ z1
    have Z1 := hid z1
    clear hb2 hs2 z0 z1 hf hr hM hP h0 hm1 hm2 hml hmf
    go_enter Try.func35, Try.ntmps35
    go_wp2_with fail
    refine HC.out.mono ?_
    rintro e w3 ⟨rfl, hb3⟩
    have k1 := fun i => cell_of_row w3 (w.heap.size + 1) i _ _ _ ((hb3.block _ (by have := HB.out.2; omega)).trans Z1.out)
    have HB3 := hid (HB.out.1.trans (hb3.mono (by have := HB.out.2; omega)))
    clear hb3 c0 c1
    go_wp2_with fail
    go_ret
    exact ⟨rfl, HB3.out⟩
  | unsat h1 h2 h3 h4 =>
    have hml0 : ml = 0 := hml
    subst hml0
    clear hml
    have hn3 : 3 ^ n ≤ 847288609443 := Nat.le_trans (Nat.pow_le_pow_right (by decide) hn) (by decide)
    have HC := hid (rup_CheckN n acl F mf cf ap P pl cp (-1) 0 w2 (rup_ok h0 hn h1 h2 h3) hmf hpl hf (hr.below hb2) (fok_cls hn h2 h3) (hP.below hb2) (by omega) (by omega))
    have c0 := fun i => cell_of_row w2 w.heap.size i _ _ _ z0
    have c1 := fun i => cell_of_row w2 (w.heap.size + 1) i _ _ _ z1
    have Z1 := hid z1
    clear hb2 hs2 z0 z1 hf hr hM hP h0 h1 h2 h3 h4 hpl hmf hn3
    go_enter Try.func35, Try.ntmps35
    go_wp2_with fail
    refine HC.out.mono ?_
    rintro e w3 ⟨rfl, hb3⟩
    have k1 := fun i => cell_of_row w3 (w.heap.size + 1) i _ _ _ ((hb3.block _ (by have := HB.out.2; omega)).trans Z1.out)
    have HB3 := hid (HB.out.1.trans (hb3.mono (by have := HB.out.2; omega)))
    clear hb3 c0 c1
    go_wp2_with fail
    go_ret
    exact ⟨rfl, HB3.out⟩
  | unk =>
    have hml0 : ml = 0 := hml
    have hpl0 : pl = 0 := hpl
    subst hml0 hpl0
    exact law07_right0 n acl mf cf am ap cm cp w

end Go.Proofs.Ytfofabbnbmieoaa.Ord

/- The contracts of law07's answer and known. -/
namespace Go.Proofs.Ytfofabbnbmieoaa.Ord
open Go.RowKit

/-- One box more. -/
theorem box1 (w : World) (ob : Obj) {w2 : World} (h : w.alloc ob = w2) : Below w.heap.size w w2 ∧ w2.heap.size = w.heap.size + 1 ∧ w2.heap[w.heap.size]? = some ob := by
  subst h
  exact ⟨box_below _ _, by simp only [size_al], heap_alloc_new _ _⟩

set_option maxRecDepth 100000 in
set_option maxHeartbeats 4000000 in
theorem law07_answer (n : Nat) (acl : Option Addr) (F : List (List Int)) (mf cf : Nat) (A : Int) (w : World) (hA : ansV n F = A) (hmf : mf = F.length) (hf : FOk F) (hr : Rws w acl F) (h0 : cnfCheck n F = 0) (hn : n ≤ 25) :
    Calls Try.prog 32 #[.agg #[.int .i64 n, .slice acl mf cf]] w fun e w' => e = .returned (.int .u8 A) ∧ Below w.heap.size w w' := by
  obtain ⟨w1, hw1⟩ : ∃ t, w.alloc (.cells #[.int .i64 n, .slice acl mf cf] 34 (0, 0)) = t := ⟨_, rfl⟩
  obtain ⟨hb1, hs1, z1⟩ := box1 w _ hw1
  have c1 := fun i => cell_of_row w1 w.heap.size i _ _ _ z1
  have HS := hid (solve_Solve0 n acl F mf cf A w1 hA hmf hf (hr.below hb1) h0 hn)
  have HF := hid (And.intro hmf (And.intro hf (And.intro (hr.below hb1) (And.intro h0 (And.intro hn hA)))))
  have H1 := hid (And.intro hb1 (And.intro hs1 z1))
  clear hb1 hs1 z1 hA hmf hf hr h0 hn
  go_enter Try.func32, Try.ntmps32
  go_wp2_with fail
  refine HS.out.mono ?_
  rintro e w2 ⟨M, P, am, ap, ml, pl, cm, cp, rfl, hml, hpl, hok, hM, hP, hb2⟩
  obtain ⟨w3, hw3⟩ : ∃ t, w2.alloc (.cells #[.int .u8 A, .slice am ml cm, .slice ap pl cp] 51 (0, 0)) = t := ⟨_, rfl⟩
  obtain ⟨hb3, hs3, z3⟩ := box1 w2 _ hw3
  have hb23 := hb2.trans (hb3.mono hb2.size)
  have y1 := (hb23.block w.heap.size (by have := H1.out.2.1; omega)).trans H1.out.2.2
  have d1 := fun i => cell_of_row w3 w.heap.size i _ _ _ y1
  have d3 := fun i => cell_of_row w3 w2.heap.size i _ _ _ z3
  have HR := hid (law07_right n acl F mf cf A M P am ap ml pl cm cp w3 HF.out.1 hml hpl HF.out.2.1 (HF.out.2.2.1.below hb23) HF.out.2.2.2.1 HF.out.2.2.2.2.1 hok (hM.below hb3) (hP.below hb3))
  have H3 := hid (And.intro (H1.out.1.trans (hb23.mono (by have := H1.out.2.1; omega))) (And.intro hs3 (And.intro z3 (Nat.le_trans H1.out.1.size hb23.size))))
  clear hml hpl hok hM hP hb2 hb3 hs3 z3 hb23 y1 c1 HS
  go_wp2_with fail
  refine HR.out.mono ?_
  rintro e w4 ⟨rfl, hb4⟩
  have y3 := (hb4.block w2.heap.size (by have := H3.out.2.1; omega)).trans H3.out.2.2.1
  have d4 := fun i => cell_of_row w4 w2.heap.size i _ _ _ y3
  have HB := hid (H3.out.1.trans (hb4.mono H3.out.2.2.2))
  clear hb4 y3 d1 d3 HR
  go_wp2_with fail
  go_ret
  exact ⟨rfl, HB.out⟩

def F3 : List (List Int) := [[1, 2], [-1, 3], [-2, -3]]
def F4 : List (List Int) := [[1, 2], [1, -2], [-1, 2], [-1, -2]]

theorem ans_F3 : ansV 3 F3 = 1 := ansV_sat ⟨[true, false, true], rfl, by decide⟩
theorem ans_F4 : ansV 2 F4 = 2 := ansV_un (by
  rintro ⟨m, hm, hh⟩
  match m, hm with
  | [a, b], _ =>
    cases a <;> cases b <;> revert hh <;> decide)

theorem chk_F3 : cnfCheck 3 F3 = 0 := by decide
theorem chk_F4 : cnfCheck 2 F4 = 0 := by decide

/-- Blocks laid one after the other. -/
def allocs (w : World) (os : List Obj) : World := os.foldl World.alloc w

theorem allocs_spec : ∀ (os : List Obj) (w : World), Below w.heap.size w (allocs w os) ∧ (allocs w os).heap.size = w.heap.size + os.length ∧ ∀ (i : Nat) (o : Obj), os[i]? = some o → (allocs w os).heap[w.heap.size + i]? = some o
  | [], w => ⟨Below.refl _ _, rfl, fun i o h => by simp at h⟩
  | o :: os, w => by
    obtain ⟨h1, h2, h3⟩ := allocs_spec os (w.alloc o)
    obtain ⟨b1, b2, b3⟩ := box1 w o rfl
    have e : allocs w (o :: os) = allocs (w.alloc o) os := rfl
    rw [e]
    refine ⟨b1.trans (h1.mono b1.size), by rw [h2, b2, List.length_cons]; omega, fun i x hx => ?_⟩
    cases i with
    | zero =>
      rw [List.getElem?_cons_zero] at hx
      rw [← hx, Nat.add_zero, h1.block _ (by omega)]
      exact b3
    | succ i =>
      rw [List.getElem?_cons_succ] at hx
      have := h3 i x hx
      rw [b2] at this
      rw [show w.heap.size + (i + 1) = w.heap.size + 1 + i by omega]
      exact this

theorem rws_blocks {w : World} {b : Nat} {vs : List Value} {f : List (List Int)} (hb : w.heap[b]? = some (.cells vs.toArray 22 (0, 0))) (h : ∀ (j : Nat) (c : List Int), f[j]? = some c → ∃ g, vs[j]? = some (.slice (some ⟨g, 0, none⟩) c.length c.length) ∧ w.heap[g]? = some (.cells (ints c).toArray 3 (0, 0))) : Rws w (some ⟨b, 0, none⟩) f := fun j c hj => by
  obtain ⟨g, h1, h2⟩ := h j c hj
  exact ⟨b, 0, _, rfl, by rw [Nat.zero_add, fit_cell hb j]; exact h1, sli_of_block h2 rfl⟩

/-- The blocks of known's formulas. -/
def knownO (s : Nat) : List Obj := [.cells (ints [1, 2]).toArray 3 (0, 0), .cells (ints [-1, 3]).toArray 3 (0, 0), .cells (ints [-2, -3]).toArray 3 (0, 0), .cells #[.slice (some ⟨s, 0, none⟩) 2 2, .slice (some ⟨s + 1, 0, none⟩) 2 2, .slice (some ⟨s + 2, 0, none⟩) 2 2] 22 (0, 0), .cells #[.int .i64 3, .slice (some ⟨s + 3, 0, none⟩) 3 3] 34 (0, 0),
  .cells (ints [1, 2]).toArray 3 (0, 0), .cells (ints [1, -2]).toArray 3 (0, 0), .cells (ints [-1, 2]).toArray 3 (0, 0), .cells (ints [-1, -2]).toArray 3 (0, 0), .cells #[.slice (some ⟨s + 5, 0, none⟩) 2 2, .slice (some ⟨s + 6, 0, none⟩) 2 2, .slice (some ⟨s + 7, 0, none⟩) 2 2, .slice (some ⟨s + 8, 0, none⟩) 2 2] 22 (0, 0), .cells #[.int .i64 2, .slice (some ⟨s + 9, 0, none⟩) 4 4] 34 (0, 0)]

theorem fok_F3 : FOk F3 := fun c hc => by
  simp only [F3, List.mem_cons, List.not_mem_nil, or_false] at hc
  rcases hc with rfl | rfl | rfl <;> exact ⟨by simp [I64], by simp⟩
theorem fok_F4 : FOk F4 := fun c hc => by
  simp only [F4, List.mem_cons, List.not_mem_nil, or_false] at hc
  rcases hc with rfl | rfl | rfl | rfl <;> exact ⟨by simp [I64], by simp⟩

set_option maxRecDepth 100000 in
set_option maxHeartbeats 4000000 in
theorem law07_known (w : World) : Calls Try.prog 30 #[] w fun e w' => e = .returned (.bool true) ∧ Below w.heap.size w w' := by
  obtain ⟨w1, hw1⟩ : ∃ t, allocs w (knownO w.heap.size) = t := ⟨_, rfl⟩
  obtain ⟨hb1, hs1, hg1⟩ := allocs_spec (knownO w.heap.size) w
  rw [hw1] at hb1 hs1 hg1
  have hs1 : w1.heap.size = w.heap.size + 11 := hs1
  have hr3 : Rws w1 (some ⟨w.heap.size + 3, 0, none⟩) F3 := rws_blocks (hg1 3 _ rfl) fun j c hj => by
    match j, hj with
    | 0, hj => injection hj with hj; subst hj; exact ⟨_, rfl, hg1 0 _ rfl⟩
    | 1, hj => injection hj with hj; subst hj; exact ⟨_, rfl, hg1 1 _ rfl⟩
    | 2, hj => injection hj with hj; subst hj; exact ⟨_, rfl, hg1 2 _ rfl⟩
    | j + 3, hj => cases hj
  have hr4 : Rws w1 (some ⟨w.heap.size + 9, 0, none⟩) F4 := rws_blocks (hg1 9 _ rfl) fun j c hj => by
    match j, hj with
    | 0, hj => injection hj with hj; subst hj; exact ⟨_, rfl, hg1 5 _ rfl⟩
    | 1, hj => injection hj with hj; subst hj; exact ⟨_, rfl, hg1 6 _ rfl⟩
    | 2, hj => injection hj with hj; subst hj; exact ⟨_, rfl, hg1 7 _ rfl⟩
    | 3, hj => injection hj with hj; subst hj; exact ⟨_, rfl, hg1 8 _ rfl⟩
    | j + 4, hj => cases hj
  have z3 := hg1 4 _ rfl
  have z4 := hg1 10 _ rfl
  have HS3 := hid (solve_Solve0 3 (some ⟨w.heap.size + 3, 0, none⟩) F3 3 3 1 w1 ans_F3 rfl fok_F3 hr3 chk_F3 (by decide))
  have H1 := hid (And.intro hb1 (And.intro hs1 (And.intro hr3 (And.intro hr4 (And.intro z3 z4)))))
  have HW1 := hid hw1
  have hpos : w.heap.size + 4 < w1.heap.size ∧ w.heap.size + 10 < w1.heap.size := by omega
  have HP := hid hpos
  clear hb1 hg1 hr3 hr4 z3 z4 hw1 hpos
  go_enter Try.func30, Try.ntmps30
  go_wp2_with fail
  change Calls Try.prog _ _ (allocs w (knownO w.heap.size)) _
  rw [HW1.out]
  refine HS3.out.mono ?_
  rintro e w2 ⟨M3, P3, am3, ap3, ml3, pl3, cm3, cp3, rfl, hml3, hpl3, hok3, hM3, hP3, hb2⟩
  obtain ⟨w3, hw3⟩ : ∃ t, w2.alloc (.cells #[.int .u8 1, .slice am3 ml3 cm3, .slice ap3 pl3 cp3] 51 (0, 0)) = t := ⟨_, rfl⟩
  obtain ⟨hb3, hs3, z3⟩ := box1 w2 _ hw3
  have hb13 := hb2.trans (hb3.mono hb2.size)
  have HS4 := hid (solve_Solve0 2 (some ⟨w.heap.size + 9, 0, none⟩) F4 4 4 2 w3 ans_F4 rfl fok_F4 (H1.out.2.2.2.1.below hb13) chk_F4 (by decide))
  have c4 := fun i => cell_of_row w3 (w.heap.size + 10) i _ _ _ ((hb13.block _ HP.out.2).trans H1.out.2.2.2.2.2)
  have c4a := fun i => cell_of_row w2 (w.heap.size + 10) i _ _ _ ((hb2.block _ HP.out.2).trans H1.out.2.2.2.2.2)
  have HA := hid (And.intro hml3 (And.intro hpl3 (And.intro hok3 (And.intro (hM3.below hb3) (And.intro (hP3.below hb3) (And.intro hb13 (And.intro hs3 z3)))))))
  clear hml3 hpl3 hok3 hM3 hP3 hb2 hb3 hb13 hs3 z3 HS3
  go_wp2_with fail
  refine HS4.out.mono ?_
  rintro e w4 ⟨M4, P4, am4, ap4, ml4, pl4, cm4, cp4, rfl, hml4, hpl4, hok4, hM4, hP4, hb4⟩
  obtain ⟨w5, hw5⟩ : ∃ t, w4.alloc (.cells #[.int .u8 2, .slice am4 ml4 cm4, .slice ap4 pl4 cp4] 51 (0, 0)) = t := ⟨_, rfl⟩
  obtain ⟨hb5, hs5, z5⟩ := box1 w4 _ hw5
  have hb35 := hb4.trans (hb5.mono hb4.size)
  have hb15 := HA.out.2.2.2.2.2.1.trans (hb35.mono HA.out.2.2.2.2.2.1.size)
  have y3 := (hb15.block _ HP.out.1).trans H1.out.2.2.2.2.1
  have y4 := (hb15.block _ HP.out.2).trans H1.out.2.2.2.2.2
  have yr := (hb35.block w2.heap.size (by have := HA.out.2.2.2.2.2.2.1; omega)).trans HA.out.2.2.2.2.2.2.2
  have HR3 := hid (law07_right 3 (some ⟨w.heap.size + 3, 0, none⟩) F3 3 3 1 M3 P3 am3 ap3 ml3 pl3 cm3 cp3 w5 rfl HA.out.1 HA.out.2.1 fok_F3 (H1.out.2.2.1.below hb15) chk_F3 (by decide) HA.out.2.2.1 (HA.out.2.2.2.1.below hb35) (HA.out.2.2.2.2.1.below hb35))
  have HR4 := hid (fun w6 (hb : Below w5.heap.size w5 w6) => law07_right 2 (some ⟨w.heap.size + 9, 0, none⟩) F4 4 4 2 M4 P4 am4 ap4 ml4 pl4 cm4 cp4 w6 rfl hml4 hpl4 fok_F4 ((H1.out.2.2.2.1.below hb15).below hb) chk_F4 (by decide) hok4 ((hM4.below hb5).below hb) ((hP4.below hb5).below hb))
  have d3 := fun i => cell_of_row w5 (w.heap.size + 4) i _ _ _ y3
  have d4 := fun i => cell_of_row w5 (w.heap.size + 10) i _ _ _ y4
  have dr := fun i => cell_of_row w5 w2.heap.size i _ _ _ yr
  have ds := fun i => cell_of_row w5 w4.heap.size i _ _ _ z5
  have HB := hid (And.intro (H1.out.1.trans (hb15.mono (by have := H1.out.2.1; omega))) (And.intro y4 (And.intro z5 (And.intro hs5 (show w.heap.size + 10 < w5.heap.size from Nat.lt_of_lt_of_le HP.out.2 hb15.size)))))
  clear hml4 hpl4 hok4 hM4 hP4 hb4 hb5 hb35 hb15 hs5 y3 y4 yr z5 c4 c4a HS4
  go_wp2_with fail
  refine HR3.out.mono ?_
  rintro e w6 ⟨rfl, hb6⟩
  have k4 := fun i => cell_of_row w6 (w.heap.size + 10) i _ _ _ ((hb6.block _ HB.out.2.2.2.2).trans HB.out.2.1)
  have ks := fun i => cell_of_row w6 w4.heap.size i _ _ _ ((hb6.block _ (by have := HB.out.2.2.2.1; omega)).trans HB.out.2.2.1)
  have HR5 := hid (HR4.out w6 hb6)
  have HB6 := hid (HB.out.1.trans (hb6.mono (by have := HB.out.1.size; omega)))
  clear hb6 d3 d4 dr ds HR3 HR4
  go_wp2_with fail
  refine HR5.out.mono ?_
  rintro e w7 ⟨rfl, hb7⟩
  have HB7 := hid (HB6.out.trans (hb7.mono HB6.out.size))
  clear hb7 k4 ks HR5
  go_wp2_with fail
  go_ret
  exact ⟨rfl, HB7.out⟩

end Go.Proofs.Ytfofabbnbmieoaa.Ord

/- Rows of rows, the inner ones slices into blocks of the call's own. -/
namespace Go.Proofs.Ytfofabbnbmieoaa
open Go.RowKit

/-- The slice value 'v' is a row of the call's own (from B on) of the lists 'f', each a slice of ints in a block of the call's own. -/
def OwnRt (w : World) (B : Nat) (v : Value) (f : List (List Int)) : Prop :=
  ∃ vs, w.ownsRow B 22 1 v f.length vs ∧ ∀ (j : Nat) (c : List Int), f[j]? = some c → ∃ u, vs[j]? = some u ∧ OwnT 3 w B u c

theorem ownT_kept {e e' : TypeId} {w w' : World} {B B' n' s' : Nat} {v v' : Value} {xs : List Int} {xs' : List Value} (h : OwnT e w B v xs) (h' : w.ownsRow B' e' s' v' n' xs') (hne : e ≠ e') (hg : w.grownBy w' v'.ownBlock) : OwnT e w' B v xs := by
  obtain ⟨a, c, h1, h2, h3, h4⟩ := h
  refine ⟨a, c, h1, h2, h3, fun ad had => ?_⟩
  obtain ⟨g, off, cur, e1, e2, e3, e4⟩ := h4 ad had
  refine ⟨g, off, cur, e1, e2, ?_, e4⟩
  rw [hg.block g (Array.getElem?_eq_some_iff.1 e3).1 ?_]
  · exact e3
  · intro he
    rcases h'.2 with ⟨rfl, _⟩ | ⟨g', cap', cur', rfl, _, hg', _⟩
    · simp [Value.ownBlock] at he
    · simp only [Value.ownBlock, Option.some.injEq] at he
      rw [← he, e3] at hg'
      simp at hg'
      exact hne hg'.2

theorem ownT_setBelow {e : TypeId} {w : World} {B : Nat} {v : Value} {xs : List Int} (h : OwnT e w B v xs) {a : Addr} (ha : a.block < B) (u : Value) : OwnT e (w.setCell a u) B v xs := by
  obtain ⟨ad, c, h1, h2, h3, h4⟩ := h
  refine ⟨ad, c, h1, h2, h3, fun x hx => ?_⟩
  obtain ⟨g, off, cur, e1, e2, e3, e4⟩ := h4 x hx
  exact ⟨g, off, cur, e1, e2, by rw [heap_setCell_other w a g u (by omega)]; exact e3, e4⟩

theorem OwnRt.nil (w : World) (B : Nat) : OwnRt w B (.slice none 0 0) [] := ⟨[], World.ownsRow_nil _ _ _ _, by simp⟩

theorem OwnRt.below {w w' : World} {B : Nat} {v : Value} {f : List (List Int)} (h : OwnRt w B v f) (hb : Below w.heap.size w w') : OwnRt w' B v f :=
  let ⟨vs, h1, h2⟩ := h; ⟨vs, own_below h1 hb, fun j c hj => let ⟨u, e1, e2⟩ := h2 j c hj; ⟨u, e1, e2.below hb⟩⟩

theorem OwnRt.setBelow {w : World} {B : Nat} {v : Value} {f : List (List Int)} (h : OwnRt w B v f) {a : Addr} (ha : a.block < B) (u : Value) : OwnRt (w.setCell a u) B v f :=
  let ⟨vs, h1, h2⟩ := h; ⟨vs, ownsRow_setCell_below h1 ha u, fun j c hj => let ⟨x, e1, e2⟩ := h2 j c hj; ⟨x, e1, ownT_setBelow e2 ha u⟩⟩

/-- A row appended. -/
theorem OwnRt.push {w w' : World} {B : Nat} {v v' x : Value} {f : List (List Int)} {c : List Int} {vs : List Value} (h1 : w.ownsRow B 22 1 v f.length vs)
    (h2 : ∀ (j : Nat) (c : List Int), f[j]? = some c → ∃ u, vs[j]? = some u ∧ OwnT 3 w B u c) (hx : OwnT 3 w B x c)
    (h' : w'.ownsRow B 22 1 v' (f.length + 1) (vs ++ [x])) (hg : w.grownBy w' v.ownBlock) : OwnRt w' B v' (f ++ [c]) := by
  have hl : vs.length = f.length := by have := h1.1; omega
  refine ⟨vs ++ [x], by simpa using h', fun j d hj => ?_⟩
  rcases Nat.lt_or_ge j f.length with hlt | hge
  · rw [List.getElem?_append_left hlt] at hj
    obtain ⟨u, e1, e2⟩ := h2 j d hj
    exact ⟨u, by rw [List.getElem?_append_left (by omega)]; exact e1, ownT_kept e2 h1 (by decide) hg⟩
  · rw [List.getElem?_append_right hge] at hj
    have hj0 : j - f.length = 0 := by
      rcases Nat.eq_zero_or_pos (j - f.length) with h0 | h0
      · exact h0
      · rw [List.getElem?_eq_none (by simp; omega)] at hj; cases hj
    rw [hj0] at hj
    simp at hj
    subst hj
    exact ⟨x, by rw [List.getElem?_append_right (by omega), hl, hj0]; rfl, ownT_kept hx h1 (by decide) hg⟩

theorem OwnRt.shape {w : World} {B : Nat} {v : Value} {f : List (List Int)} (h : OwnRt w B v f) : ∃ a c, v = .slice a f.length c ∧ f.length ≤ c ∧ (a = none → c = 0) ∧ Rws w a f := by
  obtain ⟨vs, h1, h2⟩ := h
  obtain ⟨a, c, e1, e2, e3, e4⟩ := own_sl h1
  have hl : vs.length = f.length := by have := h1.1; omega
  rw [hl] at e1 e2
  refine ⟨a, c, e1, e2, e3, fun j d hj => ?_⟩
  obtain ⟨u, g1, g2⟩ := h2 j d hj
  obtain ⟨b, off, k1, k2⟩ := e4 j u g1
  exact ⟨b, off, u, k1, k2, g2.sli⟩

end Go.Proofs.Ytfofabbnbmieoaa

/- Formulas that a law builds: a box, its rows, a clause more. -/
namespace Go.Proofs.Ytfofabbnbmieoaa.Ord
open Go.RowKit

theorem ownT_setX {w : World} {B : Nat} {v : Value} {xs : List Int} {b k : Nat} {cs : Array Value} {t : TypeId} {m : Nat × Nat} (h : OwnT 3 w B v xs) (hb : w.heap[b]? = some (.cells cs t m)) (ht : t ≠ 3) (u : Value) : OwnT 3 (w.setCell ⟨b, k, none⟩ u) B v xs := by
  obtain ⟨ad, c, h1, h2, h3, h4⟩ := h
  refine ⟨ad, c, h1, h2, h3, fun x hx => ?_⟩
  obtain ⟨g, off, cur, e1, e2, e3, e4⟩ := h4 x hx
  refine ⟨g, off, cur, e1, e2, ?_, e4⟩
  rw [heap_setCell_other w ⟨b, k, none⟩ g u ?_]
  · exact e3
  · intro e
    have e : g = b := by first | exact e | exact e.symm
    rw [e, hb] at e3
    injection e3 with e3
    injection e3 with _ e3 _
    exact ht e3

/-- A formula that is built at block b: n variables and clauses G, all from B on. -/
def FB (w : World) (B b : Nat) (n : Int) (G : List (List Int)) : Prop :=
  ∃ v vs, w.heap[b]? = some (.cells #[.int .i64 n, v] 34 (0, 0)) ∧ B ≤ b ∧ w.ownsRow B 22 1 v G.length vs ∧ ∀ (j : Nat) (c : List Int), G[j]? = some c → ∃ u, vs[j]? = some u ∧ OwnT 3 w 0 u c

section
variable {w w' : World} {B b : Nat} {n : Int} {G : List (List Int)}

theorem FB.below (h : FB w B b n G) (hb : Below w.heap.size w w') : FB w' B b n G := by
  obtain ⟨v, vs, h1, h2, h3, h4⟩ := h
  exact ⟨v, vs, (hb.block b (Array.getElem?_eq_some_iff.1 h1).1).trans h1, h2, own_below h3 hb, fun j c hj => let ⟨u, e1, e2⟩ := h4 j c hj; ⟨u, e1, e2.below hb⟩⟩

theorem FB.rows (h : FB w B b n G) : ∃ a c, w.heap[b]? = some (.cells #[.int .i64 n, .slice a G.length c] 34 (0, 0)) ∧ Rws w a G := by
  obtain ⟨v, vs, h1, h2, h3, h4⟩ := h
  obtain ⟨a, c, e1, e2, e3, e4⟩ := own_sl h3
  have hl : vs.length = G.length := by have := h3.1; omega
  rw [hl] at e1
  subst e1
  refine ⟨a, c, h1, fun j d hj => ?_⟩
  obtain ⟨u, g1, g2⟩ := h4 j d hj
  obtain ⟨bb, off, k1, k2⟩ := e4 j u g1
  exact ⟨bb, off, u, k1, k2, g2.sli⟩

/-- A clause more. -/
theorem FB.push (h : FB w B b n G) (hB : B ≤ w.heap.size) {x : Value} {c : List Int} (hx : OwnT 3 w 0 x c) (hx1 : x.oneCell' = true) (hl : G.length ≤ 1048576) :
    ∃ a cap a12 c12 w12, w.cell? ⟨b, 1, none⟩ = some (.slice a G.length cap) ∧ (appM #[32, 32] 32 #[.slice a G.length cap, .slice (some ⟨w.heap.size, 0, none⟩) 1 1]).run Try.prog (w.alloc (.cells #[x] 22 (0, 0))) = .ok (.slice a12 (G.length + 1) c12) w12 ∧ w12.cell? ⟨b, 1, none⟩ = some (.slice a G.length cap) ∧ w12.frozen? ⟨b, 1, none⟩ = false ∧
      FB (w12.setCell ⟨b, 1, none⟩ (.slice a12 (G.length + 1) c12)) B b n (G ++ [c]) ∧ Below B w (w12.setCell ⟨b, 1, none⟩ (.slice a12 (G.length + 1) c12)) := by
  obtain ⟨i1, hi1, hy0, hy1, hy2⟩ := info_parts info_ints
  obtain ⟨v, vs, h1, h2, h3, h4⟩ := h
  obtain ⟨a, cap, hv⟩ := own_lenV' h3
  subst hv
  obtain ⟨hb1, hs1, z1⟩ := box1 w (.cells #[x] 22 (0, 0)) rfl
  obtain ⟨a12, c12, w12, hr12, ho12, hg12, -⟩ := appM_one (P := Try.prog) (w.alloc (.cells #[x] 22 (0, 0))) B 32 32 22 i1 (.slice none 0 0) 24 Try.underlying32 hi1 hy0 hy1 hy2 rfl (.slice a G.length cap) G.length vs (h3.alloc _) w.heap.size x z1 hx1 (by unfold maxLen; omega) (by omega) (by omega)
  have q1 : w12.heap[b]? = some (.cells #[.int .i64 n, .slice a G.length cap] 34 (0, 0)) := blk_app hb1 h3 hg12 h1 (by decide)
  have hT : ∀ {u : Value} {d : List Int}, OwnT 3 w 0 u d → OwnT 3 w12 0 u d := fun hu => ownT_kept (hu.below hb1) (h3.alloc _) (by decide) hg12
  have hbel : Below B w w12 := (hb1.mono hB).grown hg12 (by omega) fun q hq => (h3.lt q hq).1
  refine ⟨a, cap, a12, c12, w12, by rw [cell_of_row _ _ _ _ _ _ h1]; rfl, hr12, by rw [cell_of_row _ _ _ _ _ _ q1]; rfl, frozen_of_row _ _ _ _ _ q1, ⟨_, vs ++ [x], setCell_block (o := 1) (xs := [.int .i64 n, .slice a G.length cap]) _ q1, h2, ?_, fun j d hj => ?_⟩, hbel.setCell (p := ⟨b, 1, none⟩) h2 _⟩
  · rw [List.length_append]
    exact own_setO ho12 q1 (by decide) _ _
  · have hl2 : vs.length = G.length := by have := h3.1; omega
    rcases Nat.lt_or_ge j G.length with q | q
    · rw [List.getElem?_append_left q] at hj
      obtain ⟨u, e1, e2⟩ := h4 j d hj
      exact ⟨u, by rw [List.getElem?_append_left (by omega)]; exact e1, ownT_setX (hT e2) q1 (by decide) _⟩
    · rw [List.getElem?_append_right q] at hj
      have h5 := (List.getElem?_eq_some_iff.1 hj).1
      simp at h5
      have h6 : j = G.length := by omega
      subst h6
      simp at hj
      subst hj
      exact ⟨x, by rw [List.getElem?_append_right (by omega), hl2]; simp, ownT_setX (hT hx) q1 (by decide) _⟩

/-- A number more in a row of the law's own. -/
theorem row_push {v : Value} {xs : List Int} (h : w.ownsRow B 3 1 v xs.length (ints xs)) (hB : B ≤ w.heap.size) (x : Int) (hl : xs.length ≤ 1048576) :
    ∃ a' c' w', (appM #[22, 22] 22 #[v, .slice (some ⟨w.heap.size, 0, none⟩) 1 1]).run Try.prog (w.alloc (.cells #[.int .i64 x] 3 (0, 0))) = .ok (.slice a' (xs.length + 1) c') w' ∧ w'.ownsRow B 3 1 (.slice a' (xs.length + 1) c') (xs ++ [x]).length (ints (xs ++ [x])) ∧ Below B w w' := by
  obtain ⟨i0, hi0, hz0, hz1, hz2⟩ := info_parts info_int
  obtain ⟨hb1, hs1, z1⟩ := box1 w (.cells #[.int .i64 x] 3 (0, 0)) rfl
  obtain ⟨a', c', w', h1, h2, h3, -⟩ := appM_one (P := Try.prog) (w.alloc (.cells #[.int .i64 x] 3 (0, 0))) B 22 22 3 i0 (.int .i64 0) 8 Try.underlying22 hi0 hz0 hz1 hz2 rfl v xs.length (ints xs) (h.alloc _) w.heap.size (.int .i64 x) z1 rfl (by unfold maxLen; omega) (by omega) (by omega)
  refine ⟨a', c', w', h1, ?_, (hb1.mono hB).grown h3 (by omega) fun q hq => (h.lt q hq).1⟩
  have e : ints xs ++ [.int .i64 x] = ints (xs ++ [x]) := by simp [ints]
  rw [e] at h2
  rw [List.length_append]
  exact h2

end

end Go.Proofs.Ytfofabbnbmieoaa.Ord

/- The contract of weepholelaw02.Fit. -/
namespace Go.Proofs.Ytfofabbnbmieoaa
open Go.RowKit

set_option maxHeartbeats 4000000 in
theorem law02_Fit (n : Int) (v1 : Value) (l : List (List Int)) (w : World) (hn0 : 0 ≤ n) (hn1 : n ≤ 255) (h1 : ArgR .i8 w v1 l) :
    Calls Try.prog 29 #[.int .u8 n, v1] w fun e w' =>
      ((fitB l = false ∧ e = .returned (.tuple #[.agg #[.int .i64 0, .slice none 0 0], .bool false])) ∨
       (fitB l = true ∧ ∃ v, e = .returned (.tuple #[.agg #[.int .i64 (fitV n), v], .bool true]) ∧ OwnRw w' w.heap.size v (fitF n l))) ∧ Below w.heap.size w w' := by
  obtain ⟨a, c, rfl, hle, hmx, hnn, hrows⟩ := h1
  have HRW := hid hrows
  obtain ⟨i0, hi, hz0, hz1, hz2⟩ := info_parts info_int
  obtain ⟨i1, hj, hy0, hy1, hy2⟩ := info_parts info_ints
  have hV := fitV_range n
  obtain ⟨V, hVe⟩ : ∃ V, V = fitV n := ⟨_, rfl⟩
  have hVe2 : 1 + n % 12 = V := by rw [hVe]; rfl
  rw [← hVe] at hV
  have HVE := hid hVe
  clear hrows hnn hVe
  go_enter Try.func29, Try.ntmps29
  have hb2 : Below w.heap.size w ((w.alloc (.cells #[.int .i64 0, .slice none 0 0] 34)).alloc (.cells #[.int .i64 V, .slice none 0 0] 34)) := below_al (box_below _ _) (by simp only [size_al]; omega) _
  have HB2 := hid hb2
  clear hb2
  by_cases hlen : (30 : Int) < l.length
  · go_wp2_with fail
    exact bodyPost_ret (v := .tuple #[.agg #[.int .i64 0, .slice none 0 0], .bool false]) (by simp [results, Try.results29, go_sem]) rfl ⟨Or.inl ⟨fitB_false_long hlen, rfl⟩, HB2.out⟩
  · have hl30 : (l.length : Int) ≤ 30 := by omega
    go_wp2_with fail
    go_loopw [7] (fun i wr => ∃ (k : Nat) (v : Value), k ≤ l.length ∧ i = .int .i64 k ∧ Hid (wr.heap[w.heap.size]? = some (.cells #[.int .i64 0, .slice none 0 0] 34)) ∧ Hid (wr.heap[w.heap.size + 1]? = some (.cells #[.int .i64 V, v] 34)) ∧
        Hid (OwnRw wr (w.heap.size + 2) v ((l.take k).map (fitC V))) ∧ Below w.heap.size w wr ∧ w.heap.size + 2 ≤ wr.heap.size ∧ Hid ((l.take k).any (fun c => decide (20 < c.length)) = false)) (fun i _ => l.length - (intOf i).toNat)
    case atStart => exact ⟨0, .slice none 0 0, Nat.zero_le _, rfl, by simp [Hid, heap_al, Array.getElem?_push], by simp [Hid, heap_al, Array.getElem_push], ⟨[], World.ownsRow_nil _ _ _ _, by simp⟩, HB2.out, by simp only [size_al]; omega, rfl⟩
    case round =>
      obtain ⟨k, v, hk, rfl, hB0, hB1, hown, hb, hsz, hany⟩ := hrel
      have hq0 : wr.cell? ⟨w.heap.size, 0, none⟩ = some (.int .i64 0) := fit_cell (vs := [.int .i64 0, .slice none 0 0]) hB0.out 0
      have hq1 : wr.cell? ⟨w.heap.size, 1, none⟩ = some (.slice none 0 0) := fit_cell (vs := [.int .i64 0, .slice none 0 0]) hB0.out 1
      have hf0 : wr.frozen? ⟨w.heap.size, 0, none⟩ = false := frozen_of_row _ _ _ _ _ hB0.out
      have hf1 : wr.frozen? ⟨w.heap.size, 1, none⟩ = false := frozen_of_row _ _ _ _ _ hB0.out
      have hp0 : wr.cell? ⟨w.heap.size + 1, 0, none⟩ = some (.int .i64 V) := fit_cell (vs := [.int .i64 V, v]) hB1.out 0
      have hp1 : wr.cell? ⟨w.heap.size + 1, 1, none⟩ = some v := fit_cell (vs := [.int .i64 V, v]) hB1.out 1
      by_cases hlt : k < l.length
      · obtain ⟨cl, hcl⟩ : ∃ cl, l[k]? = some cl := ⟨l[k], by simp [hlt]⟩
        obtain ⟨b, off, u, rfl, hc0, a', c', rfl, hle', hmx', hnn', hsl, hwf⟩ := HRW.out k cl hcl
        have hcell := below_keeps hb _ _ hc0
        have HCL := hid hcl
        have HSL := hid hsl
        have HWF := hid hwf
        have HC0 := hid hc0
        clear hcl hsl hwf hc0 hnn'
        by_cases h20 : (20 : Int) < cl.length
        · go_wp2_with fail
          exact bodyPost_ret (v := .tuple #[.agg #[.int .i64 0, .slice none 0 0], .bool false]) (by simp [results, Try.results29, go_sem, hq0, hq1]) rfl ⟨Or.inl ⟨fitB_false_at HCL.out h20, rfl⟩, (hb.setCell (by simp) _).setCell (by simp) _⟩
        · clear hq0 hq1 hf0 hf1
          obtain ⟨wo, rfl⟩ : ∃ wo : World, wo = wr := ⟨_, rfl⟩
          go_wp2_with fail
          go_loopw [8, 9] (fun v8 i w2 => ∃ j : Nat, j ≤ cl.length ∧ i = .int .i64 j ∧ Hid (w2.ownsRow wo.heap.size 3 1 v8 (fitC V (cl.take j)).length (ints (fitC V (cl.take j)))) ∧ Below wo.heap.size wo w2) (fun _ i _ => cl.length - (intOf i).toNat)
          case atStart => exact ⟨0, Nat.zero_le _, rfl, World.ownsRow_nil _ _ _ _, Below.refl _ _⟩
          case round =>
            obtain ⟨j, hj1, rfl, ho8, hb8⟩ := hrel
            have hcell2 := below_keeps hb8 _ _ hcell
            have hB1' : wr.heap[w.heap.size + 1]? = some (.cells #[.int .i64 V, v] 34) := (hb8.block _ (by omega)).trans hB1.out
            have HB1 := hid hB1'
            have hp0' : wr.cell? ⟨w.heap.size + 1, 0, none⟩ = some (.int .i64 V) := fit_cell (vs := [.int .i64 V, v]) hB1' 0
            have hp1' : wr.cell? ⟨w.heap.size + 1, 1, none⟩ = some v := fit_cell (vs := [.int .i64 V, v]) hB1' 1
            have hg1' : wr.frozen? ⟨w.heap.size + 1, 1, none⟩ = false := frozen_of_row _ _ _ _ _ hB1'
            have hz8 := hb8.size
            clear hB1' hcell hp0 hp1
            by_cases hjl : j < cl.length
            · obtain ⟨b2, off2, x, rfl, hcx, hx⟩ := (HSL.out.below (hb.trans (hb8.mono (by omega)))).intK hjl
              have hxb := bounds_i8 (HWF.out x (List.mem_of_getElem? hx))
              have HX := hid hx
              obtain ⟨t, ht⟩ : ∃ t, x.tmod (V + 1) = t := ⟨_, rfl⟩
              have htb : -13 ≤ t ∧ t ≤ 13 := by
                have g1 := Int.natAbs_tmod x (V + 1)
                have g2 : x.natAbs % (V + 1).natAbs < (V + 1).natAbs := Nat.mod_lt _ (by omega)
                rw [← g1, ht] at g2
                omega
              have HT := hid ht
              have e1 : (k : Int) < l.length := by omega
              have e2 : (j : Int) < cl.length := by omega
              have e3 : IntKind.i64.wrap x = x := IntWalk.i64_in x (by omega)
              have e4 : IntKind.i64.wrap (V + 1) = V + 1 := IntWalk.i64_in _ (by omega)
              have e5 : IntKind.i64.wrap t = t := IntWalk.i64_in _ (by omega)
              have e6 : ¬ V + 1 = 0 := by omega
              clear hx
              by_cases h0 : t = 0
              · have H0 := hid h0
                have hne : (t != 0) = false := by simp [h0]
                clear h0
                go_wp2_with fail
                go_quiet (fail)
                clear e1 e2 e3 e4 e5 e6
                go_wp2_with fail
                go_roundw
                case rel => exact ⟨j + 1, by omega, by go_num, by rw [fitC_step_zero HX.out (by rw [HT.out]; exact H0.out)]; exact ho8.out, below_dr hb8 _⟩
                case measure => simp [intOf]; omega
              · have H0 := hid h0
                have hne : (t != 0) = true := by simp [h0]
                have hfl := fitC_length V (cl.take j)
                have hfl2 : (fitC V (cl.take j)).length ≤ j := Nat.le_trans hfl (by simp; omega)
                clear h0 hfl
                go_wp2_with fail
                go_quiet (fail)
                clear e1 e2 e3 e4 e5 e6
                go_wp2_with (at_builtin; refine wpList_append_sl _ rfl _ _ 22 rfl wo.heap.size 3 i0 (.int .i64 0) 8 Try.underlying22 hi hz0 hz1 hz2 rfl u8 (fitC V (cl.take j)).length (ints (fitC V (cl.take j))) rfl (World.ownsRow.alloc (w := wr.drewN nq) ho8.out _) _ 1 _ [.int .i64 t] rfl (slv_new_dr _ _ _ _ _) rfl (by nofun) one_int (by unfold maxLen; omega) (by omega) (by simp only [size_al, heap_dr]; omega) ?_; intro v9 w9 ho9 hg9; have HO9 := hid ho9; have HG9 := hid hg9; clear ho9 hg9)
                have hb9 : Below wo.heap.size wo w9 := (below_al (below_dr hb8 nq) (by simp only [heap_dr]; omega) _).grown HG9.out (by simp only [size_al, heap_dr]; omega) (fun q hq => (ho8.out.lt q hq).1)
                have HF : Hid (w9.ownsRow wo.heap.size 3 1 v9 (fitC V (cl.take (j + 1))).length (ints (fitC V (cl.take (j + 1))))) := by
                  rw [fitC_step HX.out (by rw [HT.out]; exact H0.out), HT.out, ints_append, List.length_append]
                  exact HO9.out
                go_wp2_with fail
                go_roundw
                case rel => exact ⟨j + 1, by omega, by go_num, HF, hb9⟩
                case measure => simp [intOf]; omega
            · have hjc : j = cl.length := by omega
              have HO8 : Hid (wr.ownsRow wo.heap.size 3 1 u8 (fitC V cl).length (ints (fitC V cl))) := by
                have := ho8.out
                rw [hjc, List.take_length] at this
                exact this
              clear ho8
              obtain ⟨vs, hv1, hv2⟩ := hown.out.below hb8
              have HV2 := hid hv2
              have hkl : ((l.take k).map (fitC V)).length = k := by simp; omega
              rw [hkl] at hv1
              have HV1 := hid hv1
              obtain ⟨a8, c8, rfl, -⟩ := own_sli HO8.out
              have HONE : Hid (∀ u ∈ [Value.slice a8 (fitC V cl).length c8], u.oneCell' = true) := by
                intro u hu
                simp at hu
                subst hu
                rfl
              go_wp2_with (at_builtin; refine wpList_append_sl _ rfl _ _ 32 rfl (w.heap.size + 2) 22 i1 (.slice none 0 0) 24 Try.underlying32 hj hy0 hy1 hy2 rfl v k vs rfl (HV1.out.alloc _) _ 1 _ [.slice a8 (fitC V cl).length c8] rfl (slv_new _ [.slice a8 (fitC V cl).length c8] _ _) rfl (by nofun) HONE.out (by unfold maxLen; omega) (by omega) (by simp only [size_al]; omega) ?_; intro v9 w9 ho9 hg9; obtain ⟨a9, c9, rfl, -⟩ := own_sl ho9; have HG9 := hid hg9; have HO9 := hid ho9; have hq9 : w9.heap[w.heap.size + 1]? = some (.cells #[.int .i64 V, v] 34) := (hg9.block _ (by simp only [size_al]; omega) (own_not HV1.out (by omega))).trans ((Below.heap_alloc _ _ _ (by omega)).trans HB1.out); have HQ9 := hid hq9; have hr1 : w9.cell? ⟨w.heap.size + 1, 1, none⟩ = some v := fit_cell (vs := [.int .i64 V, v]) hq9 1; have hr2 : w9.frozen? ⟨w.heap.size + 1, 1, none⟩ = false := frozen_of_row _ _ _ _ _ hq9; clear ho9 hg9 hq9)
              have hX := HG9.out.size
              simp only [size_al] at hX
              have hO9 : w9.ownsRow (w.heap.size + 2) 22 1 (.slice a9 (vs.length + 1) c9) (k + 1) (vs ++ [.slice a8 (fitC V cl).length c8]) := by
                have h := HO9.out
                rw [List.length_append] at h
                exact h
              have hpush : OwnRw w9 (w.heap.size + 2) (.slice a9 (vs.length + 1) c9) ((l.take (k + 1)).map (fitC V)) := by
                rw [fitF_step HCL.out]
                exact OwnRw.push (by rw [hkl]; exact HV1.out.alloc _) (fun j d hd => let ⟨u, e1, e2⟩ := HV2.out j d hd; ⟨u, e1, e2.alloc _⟩) ((own_base HO8.out hsz).alloc _) (by rw [hkl]; exact hO9) HG9.out
              have hb9 : Below w.heap.size w w9 := (below_al (hb.trans (hb8.mono (by omega))) (by omega) _).grown HG9.out (by simp only [size_al]; omega) (fun q hq => by have := (HV1.out.lt q hq).1; omega)
              have hB09 : w9.heap[w.heap.size]? = some (.cells #[.int .i64 0, .slice none 0 0] 34) := (HG9.out.block _ (by simp only [size_al]; omega) (own_not HV1.out (by omega))).trans ((Below.heap_alloc _ _ _ (by omega)).trans ((hb8.block _ (by omega)).trans hB0.out))
              have HP := hid hpush
              have HB09 := hid hB09
              clear hpush hB09 hO9
              go_roundw
              case rel =>
                refine ⟨k + 1, .slice a9 (vs.length + 1) c9, by omega, by go_num, ?_, ?_, HP.out.setBelow (by simp) _, hb9.setCell (by simp) _, by simp [World.setCell]; omega, take_any_succ HCL.out hany (by simp; omega)⟩
                · exact (Below.heap_setCell _ _ _ _ (by simp)).trans HB09.out
                · exact heap_setCell_same w9 (w.heap.size + 1) 1 #[.int .i64 V, v] 34 _ HQ9.out
              case measure => simp [intOf]; omega
      · obtain ⟨av, cv, rfl⟩ : ∃ av cv, v = .slice av l.length cv := by
          obtain ⟨vs, ho, -⟩ := hown.out
          obtain ⟨av, cv, h1, -⟩ := own_sl ho
          have h2 : vs.length = l.length := by have := ho.1; simp at this; omega
          exact ⟨av, cv, by rw [h1, h2]⟩
        have hkl : k = l.length := by omega
        subst hkl
        go_wp2_with fail
        refine bodyPost_ret (v := .tuple #[.agg #[.int .i64 V, .slice av l.length cv], .bool true]) (by simp [results, Try.results29, go_sem, hq0, hq1]) rfl ⟨Or.inr ⟨fitB_true hl30 hlt hany, _, by rw [HVE.out], ?_⟩, ?_⟩
        · have h1 := hown.out
          rw [List.take_length] at h1
          rw [fitF, ← HVE.out]
          exact ((h1.setBelow (by simp) _).setBelow (by simp) _).base (by omega)
        · exact (hb.setCell (by simp) _).setCell (by simp) _

end Go.Proofs.Ytfofabbnbmieoaa

/- weepholelaw04.assumed. -/
namespace Go.Proofs.Ytfofabbnbmieoaa.Ord
open Go.RowKit

end Go.Proofs.Ytfofabbnbmieoaa.Ord

/- The contract of weepholelaw02.Model. -/
namespace Go.Proofs.Ytfofabbnbmieoaa
open Go.RowKit

end Go.Proofs.Ytfofabbnbmieoaa

/- The contracts of Fit and Model once more, by cases and with their shapes; what Fit makes is valid. -/
namespace Go.Proofs.Ytfofabbnbmieoaa
open Go.RowKit

theorem law02_FitT (n : Int) (v1 : Value) (l : List (List Int)) (w : World) (hfit : fitB l = true) (hn0 : 0 ≤ n) (hn1 : n ≤ 255) (h1 : ArgR .i8 w v1 l) :
    Calls Try.prog 29 #[.int .u8 n, v1] w fun e w' =>
      ∃ a c, e = .returned (.tuple #[.agg #[.int .i64 (fitV n), .slice a (fitF n l).length c], .bool true]) ∧ OwnRw w' w.heap.size (.slice a (fitF n l).length c) (fitF n l) ∧ Rws w' a (fitF n l) ∧ Below w.heap.size w w' := by
  refine (law02_Fit n v1 l w hn0 hn1 h1).mono ?_
  rintro e w' ⟨h | ⟨_, v, rfl, ho⟩, hb⟩
  · rw [hfit] at h; cases h.1
  · obtain ⟨a, c, rfl, _, _, hr⟩ := ho.shape
    exact ⟨a, c, rfl, ho, hr, hb⟩

theorem law02_FitF (n : Int) (v1 : Value) (l : List (List Int)) (w : World) (hfit : fitB l = false) (hn0 : 0 ≤ n) (hn1 : n ≤ 255) (h1 : ArgR .i8 w v1 l) :
    Calls Try.prog 29 #[.int .u8 n, v1] w fun e w' =>
      e = .returned (.tuple #[.agg #[.int .i64 0, .slice none 0 0], .bool false]) ∧ Below w.heap.size w w' := by
  refine (law02_Fit n v1 l w hn0 hn1 h1).mono ?_
  rintro e w' ⟨⟨_, rfl⟩ | ⟨h, _⟩, hb⟩
  · exact ⟨rfl, hb⟩
  · rw [hfit] at h; cases h

theorem fitF_length (n : Int) (l : List (List Int)) : (fitF n l).length = l.length := by simp [fitF]

theorem fitB_bounds {l : List (List Int)} (h : fitB l = true) : l.length ≤ 30 ∧ ∀ c ∈ l, c.length ≤ 20 := by
  simp only [fitB, Bool.and_eq_true, decide_eq_true_eq, Bool.not_eq_true', List.any_eq_false] at h
  exact ⟨h.1, fun c hc => by simpa using h.2 c hc⟩

theorem mem_fitF {n : Int} {l : List (List Int)} (h : fitB l = true) {d : List Int} (hd : d ∈ fitF n l) : d.length ≤ 20 ∧ ∀ x ∈ d, x ≠ 0 ∧ -fitV n ≤ x ∧ x ≤ fitV n := by
  simp only [fitF, List.mem_map] at hd
  obtain ⟨c, hc, rfl⟩ := hd
  exact ⟨Nat.le_trans (fitC_length _ _) ((fitB_bounds h).2 c hc), fun x hx => mem_fitC (fitV_range n).1 hx⟩

theorem fok_fit {n : Int} {l : List (List Int)} (h : fitB l = true) : FOk (fitF n l) := fun d hd => by
  have h1 := mem_fitF h hd
  have h2 := fitV_range n
  exact ⟨fun x hx => by have := h1.2 x hx; unfold I64; omega, by omega⟩

theorem litCheck_fit {n : Int} {l : List (List Int)} (h : fitB l = true) {d : List Int} (hd : d ∈ fitF n l) : litCheck (fitV n) d = 0 := by
  have h1 := mem_fitF h hd
  have h2 := fitV_range n
  refine litCheck_ok (by omega) (by omega) ?_
  rw [List.any_eq_false]
  intro x hx
  have := h1.2 x hx
  simp [badLit]; omega

theorem cnfCheck_fit {n : Int} {l : List (List Int)} (h : fitB l = true) : cnfCheck (fitV n) (fitF n l) = 0 := by
  have h2 := fitV_range n
  have h3 := (fitB_bounds h).1
  have h4 := fitF_length n l
  rw [cnfCheck_find (by omega) (by omega)]
  have : (fitF n l).find? (fun c => litCheck (fitV n) c != 0) = none := by
    rw [List.find?_eq_none]
    intro d hd
    simp [litCheck_fit h hd]
  rw [this]

end Go.Proofs.Ytfofabbnbmieoaa

/- The walk of PropGrows. -/
namespace Go.Proofs.Ytfofabbnbmieoaa.Ord
open Go.RowKit

end Go.Proofs.Ytfofabbnbmieoaa.Ord

/- The contracts of the kit package's CopyLists and CopyFormula. -/
namespace Go.Proofs.Ytfofabbnbmieoaa
open Go.RowKit

theorem Rws.drewN {w : World} {a : Option Addr} {f : List (List Int)} (h : Rws w a f) (n : Nat) : Rws (w.drewN n) a f := h

theorem OwnRw.nil (w : World) (B : Nat) : OwnRw w B (.slice none 0 0) [] := ⟨[], World.ownsRow_nil _ _ _ _, by simp⟩

theorem take_snoc_rw {f : List (List Int)} {k : Nat} {c : List Int} (hc : f[k]? = some c) : f.take (k + 1) = f.take k ++ [c] := by
  simp [List.take_add_one, hc]

set_option maxHeartbeats 1000000 in
theorem kit_CopyLists (a : Option Addr) (f : List (List Int)) (m c : Nat) (w : World) (hm : m = f.length) (hf : FOk f) (hr : Rws w a f) (hl : f.length ≤ 65536) (hc : ∀ c ∈ f, c.length ≤ 65536) :
    Calls Try.prog 46 #[.slice a m c] w fun e w' => ∃ v, e = .returned v ∧ OwnRw w' w.heap.size v f ∧ Below w.heap.size w w' := by
  subst hm
  have HF := hid hf
  have HR := hid hr
  have HC := hid hc
  obtain ⟨i1, hj, hy0, hy1, hy2⟩ := info_parts info_ints
  clear hf hr hc
  go_enter Try.func46, Try.ntmps46
  go_wp2_with fail
  go_loopw [3, 4] (fun v i wr => ∃ k : Nat, k ≤ f.length ∧ i = .int .i64 k ∧ Hid (OwnRw wr w.heap.size v (f.take k)) ∧ Below w.heap.size w wr) (fun _ i _ => f.length - (intOf i).toNat)
  case atStart => exact ⟨0, Nat.zero_le _, rfl, OwnRw.nil _ _, Below.refl _ _⟩
  case round =>
    obtain ⟨k, hk, rfl, ho, hb⟩ := hrel
    by_cases hlt : k < f.length
    · obtain ⟨b, off, cl, a1, cc1, rfl, hcell, hsl, hcl, -, -, -, -⟩ := (HR.out.below hb).row HF.out hlt
      have HS := hid hsl
      have HCL := hid hcl
      have hcl2 : cl.length ≤ 65536 := HC.out cl (List.mem_of_getElem? hcl)
      have hbz := hb.size
      clear hsl hcl
      go_wp2_with fail
      refine (kit_CopyInts a1 cl cc1 wr HS.out (by omega)).mono ?_
      rintro e w2 ⟨v2, rfl, ho2, hb2⟩
      obtain ⟨vs, hv1, hv2⟩ := ho.out.below hb2
      have hkl : (f.take k).length = k := by simp; omega
      rw [hkl] at hv1
      have HV1 := hid hv1
      have HV2 := hid hv2
      have HO2 := hid ho2
      have hz2 := hb2.size
      obtain ⟨a2, c2, rfl, -⟩ := own_sli ho2
      have HONE : Hid (∀ u ∈ [Value.slice a2 cl.length c2], u.oneCell' = true) := by
        intro u hu
        simp at hu
        subst hu
        rfl
      have HB2 := hid hb2
      clear ho hv1 hv2 ho2 hb2
      go_wp2_with (at_builtin; refine wpList_append_sl _ rfl _ _ 32 rfl w.heap.size 22 i1 (.slice none 0 0) 24 Try.underlying32 hj hy0 hy1 hy2 rfl _ k vs rfl (HV1.out.alloc _) _ 1 _ [.slice a2 cl.length c2] rfl (slv_new _ [.slice a2 cl.length c2] _ _) rfl (by nofun) HONE.out (by unfold maxLen; omega) (by omega) (by simp only [size_al]; omega) ?_; intro v9 w9 ho9 hg9; have HG9 := hid hg9; have HO9 := hid ho9; clear ho9 hg9)
      have hb9 : Below w.heap.size w w9 := (below_al (hb.trans (HB2.out.mono hbz)) (by omega) _).grown HG9.out (by simp only [size_al]; omega) (fun q hq => (HV1.out.lt q hq).1)
      have hpush : OwnRw w9 w.heap.size v9 (f.take (k + 1)) := by
        rw [take_snoc_rw HCL.out]
        exact OwnRw.push (by rw [hkl]; exact HV1.out.alloc _) (fun j d hd => let ⟨u, e1, e2⟩ := HV2.out j d hd; ⟨u, e1, e2.alloc _⟩) ((own_base HO2.out hbz).alloc _) (by rw [hkl]; exact HO9.out) HG9.out
      have HP := hid hpush
      clear hpush
      go_roundw
      case rel => exact ⟨k + 1, by omega, by go_num, HP.out, hb9⟩
      case measure => simp [intOf]; omega
    · have hkl : k = f.length := by omega
      have HO : Hid (OwnRw wr w.heap.size u3 f) := by
        have := ho.out
        rw [hkl, List.take_length] at this
        exact this
      clear hkl
      go_wp2_with fail
      go_ret
      exact ⟨_, rfl, HO.out, hb⟩

theorem blk_1 (w : World) (o o2 : Obj) : ((w.alloc o).alloc o2).heap[w.heap.size]? = some o := by
  rw [heap_al, heap_al, Array.getElem?_push, if_neg (by simp), Array.getElem?_push, if_pos rfl]

theorem blk_2 (w : World) (o o2 : Obj) : ((w.alloc o).alloc o2).heap[w.heap.size + 1]? = some o2 := by
  rw [heap_al, Array.getElem?_push, if_pos (by simp)]

set_option maxHeartbeats 1000000 in
theorem kit_CopyFormula (n : Int) (a : Option Addr) (f : List (List Int)) (m c : Nat) (w : World) (hm : m = f.length) (hf : FOk f) (hr : Rws w a f) (hl : f.length ≤ 65536) (hc : ∀ c ∈ f, c.length ≤ 65536) :
    Calls Try.prog 28 #[.agg #[.int .i64 n, .slice a m c]] w fun e w' =>
      ∃ a' c', e = .returned (.agg #[.int .i64 n, .slice a' f.length c']) ∧ f.length ≤ c' ∧ OwnRw w' w.heap.size (.slice a' f.length c') f ∧ Rws w' a' f ∧ Below w.heap.size w w' := by
  subst hm
  have HF := hid hf
  have HC := hid hc
  have hb2 : Below w.heap.size w ((w.alloc (fbox n a f.length c)).alloc (.cells #[.int .i64 0, .slice none 0 0] 34)) := below_al (box_below _ _) (by simp only [size_al]; omega) _
  have HB2 := hid hb2
  have HR := hid (hr.below hb2)
  clear hf hr hc hb2
  go_enter Try.func28, Try.ntmps28
  go_wp2_with fail
  refine (kit_CopyLists a f _ c _ rfl HF.out HR.out hl HC.out).mono ?_
  rintro e w3 ⟨v3, rfl, ho3, hb3⟩
  obtain ⟨a3, c3, rfl, h3c, -, hr3⟩ := ho3.shape
  have hB0 : w3.heap[w.heap.size]? = some (.cells #[.int .i64 n, .slice a f.length c] 34) := (hb3.block _ (by simp only [size_al]; omega)).trans (blk_1 _ _ _)
  have hB1 : w3.heap[w.heap.size + 1]? = some (.cells #[.int .i64 0, .slice none 0 0] 34) := (hb3.block _ (by simp only [size_al]; omega)).trans (blk_2 _ _ _)
  have hq0 : w3.cell? ⟨w.heap.size, 0, none⟩ = some (.int .i64 n) := fit_cell (vs := [.int .i64 n, .slice a f.length c]) hB0 0
  have hq1 : w3.cell? ⟨w.heap.size, 1, none⟩ = some (.slice a f.length c) := fit_cell (vs := [.int .i64 n, .slice a f.length c]) hB0 1
  have hp0 : w3.cell? ⟨w.heap.size + 1, 0, none⟩ = some (.int .i64 0) := fit_cell (vs := [.int .i64 0, .slice none 0 0]) hB1 0
  have hp1 : w3.cell? ⟨w.heap.size + 1, 1, none⟩ = some (.slice none 0 0) := fit_cell (vs := [.int .i64 0, .slice none 0 0]) hB1 1
  have hf0 : w3.frozen? ⟨w.heap.size, 1, none⟩ = false := frozen_of_row _ _ _ _ _ hB0
  have hf1 : w3.frozen? ⟨w.heap.size + 1, 0, none⟩ = false := frozen_of_row _ _ _ _ _ hB1
  have hf2 : w3.frozen? ⟨w.heap.size + 1, 1, none⟩ = false := frozen_of_row _ _ _ _ _ hB1
  have HO3 := hid ho3
  have HR3 := hid hr3
  have HB3 := hid (HB2.out.trans (hb3.mono (by simp only [size_al]; omega)))
  clear ho3 hr3 hb3 hB0 hB1
  go_wp2_with fail
  refine bodyPost_ret (v := .agg #[.int .i64 n, .slice a3 f.length c3]) (by simp [results, Try.results28, go_sem, hp0, hp1]) rfl ?_
  have hO : OwnRw (((w3.setCell ⟨w.heap.size, 1, none⟩ (.slice a3 f.length c3)).setCell ⟨w.heap.size + 1, 0, none⟩ (.int .i64 n)).setCell ⟨w.heap.size + 1, 1, none⟩ (.slice a3 f.length c3)) w.heap.size (.slice a3 f.length c3) f :=
    (((HO3.out.setBelow (by simp only [size_al]; omega) _).setBelow (by simp only [size_al]; omega) _).setBelow (by simp only [size_al]; omega) _).base (by simp only [size_al]; omega)
  refine ⟨a3, c3, rfl, h3c, hO, ?_, ((HB3.out.setCell (by simp) _).setCell (by simp) _).setCell (by simp) _⟩
  obtain ⟨a', c', e1, -, -, e4⟩ := hO.shape
  injection e1 with e1
  subst e1
  exact e4

end Go.Proofs.Ytfofabbnbmieoaa

/- What SolveImplied needs of the formulas that Fit makes. -/
namespace Go.Proofs.Ytfofabbnbmieoaa.Ord
open Go.RowKit

/-- Rows that anything may hold beside. -/
def RwS (w : World) (a : Option Addr) (f : List (List Int)) : Prop :=
  ∀ (j : Nat) (c : List Int), f[j]? = some c → ∃ b off v, a = some ⟨b, off, none⟩ ∧ w.cell? ⟨b, off + j, none⟩ = some v ∧ OwnT 3 w 0 v c

theorem RwS.rws {w : World} {a : Option Addr} {f : List (List Int)} (h : RwS w a f) : Rws w a f := fun j c hj => let ⟨b, off, v, h1, h2, h3⟩ := h j c hj; ⟨b, off, v, h1, h2, h3.sli⟩

theorem RwS.below {w w' : World} {a : Option Addr} {f : List (List Int)} (h : RwS w a f) (hb : Below w.heap.size w w') : RwS w' a f := fun j c hj => let ⟨b, off, v, h1, h2, h3⟩ := h j c hj; ⟨b, off, v, h1, below_keeps hb _ _ h2, h3.below hb⟩

theorem ownRw_rwS {w : World} {B : Nat} {a : Option Addr} {n c : Nat} {f : List (List Int)} (h : OwnRw w B (.slice a n c) f) : RwS w a f := fun j d hj => by
  obtain ⟨vs, h1, h2⟩ := h
  obtain ⟨a', c', e1, e2, e3, e4⟩ := own_sl h1
  injection e1 with e1 _ _
  subst e1
  obtain ⟨u, g1, g2⟩ := h2 j d hj
  obtain ⟨b, off, k1, k2⟩ := e4 j u g1
  exact ⟨b, off, u, k1, k2, (ownT_of_own g2).base (Nat.zero_le _)⟩

theorem law02_FitS (n : Int) (v1 : Value) (l : List (List Int)) (w : World) (hfit : fitB l = true) (hn0 : 0 ≤ n) (hn1 : n ≤ 255) (h1 : ArgR .i8 w v1 l) :
    Calls Try.prog 29 #[.int .u8 n, v1] w fun e w' =>
      ∃ a c, e = .returned (.tuple #[.agg #[.int .i64 (fitV n), .slice a (fitF n l).length c], .bool true]) ∧ RwS w' a (fitF n l) ∧ Below w.heap.size w w' := by
  refine (law02_FitT n v1 l w hfit hn0 hn1 h1).mono ?_
  rintro e w' ⟨a, c, rfl, ho, hr, hb⟩
  exact ⟨_, _, rfl, ownRw_rwS ho, hb⟩

theorem argI_belowS {k : IntKind} {w w' : World} {v : Value} {xs : List Int} (h : ArgI k w v xs) (hb : Below w.heap.size w w') : ArgI k w' v xs := by
  obtain ⟨a, c, h1, h2, h3, h4, h5, h6⟩ := h
  exact ⟨a, c, h1, h2, h3, h4, h5.below hb, h6⟩

theorem argR_belowS {k : IntKind} {w w' : World} {v : Value} {xs : List (List Int)} (h : ArgR k w v xs) (hb : Below w.heap.size w w') : ArgR k w' v xs := by
  obtain ⟨a, c, h1, h2, h3, h4, h5⟩ := h
  refine ⟨a, c, h1, h2, h3, h4, fun j ys hj => ?_⟩
  obtain ⟨b, off, u, e1, e2, e3⟩ := h5 j ys hj
  exact ⟨b, off, u, e1, below_keeps hb _ _ e2, argI_belowS e3 hb⟩

/-- A copy of a formula in a box. -/
theorem fb_copy {w : World} {B : Nat} {a : Option Addr} {m c n : Nat} {f : List (List Int)} (ho : OwnRw w B (.slice a m c) f) {b : Nat} (hB : B ≤ b) (hb : w.heap[b]? = some (.cells #[.int .i64 n, .slice a m c] 34 (0, 0))) : FB w B b n f := by
  obtain ⟨vs, h1, h2⟩ := ho
  exact ⟨_, vs, hb, hB, h1, fun j c hj => let ⟨u, g1, g2⟩ := h2 j c hj; ⟨u, g1, (ownT_of_own g2).base (Nat.zero_le _)⟩⟩

end Go.Proofs.Ytfofabbnbmieoaa.Ord

/- The contract of rup.Implied. -/
namespace Go.Proofs.Ytfofabbnbmieoaa.Ord
open Go.RowKit Go.Conc

attribute [local go_sem ↓] Go.wp_at_zero Go.wp_at_succ
attribute [local go_sem ↓ high] app_mark

/-- What Implied answers. -/
noncomputable def impVS (n : Int) (F : List (List Int)) (c : List Int) : Bool × Int := if cnfCheck n F = 0 then (if litCheck n c = 0 then (upF F (negs c), 0) else (false, litCheck n c)) else (false, cnfCheck n F)

theorem impV_errS {n e : Int} {F : List (List Int)} (h : cnfCheck n F = e) (h0 : e ≠ 0) (c : List Int) : impVS n F c = (false, e) := by
  unfold impVS
  rw [h, if_neg h0]

theorem impV_litS {n e : Int} {F : List (List Int)} {c : List Int} (h : cnfCheck n F = 0) (h1 : litCheck n c = e) (h0 : e ≠ 0) : impVS n F c = (false, e) := by
  unfold impVS
  rw [if_pos h, h1, if_neg h0]

theorem impV_okS {n : Int} {F : List (List Int)} {c : List Int} (h : cnfCheck n F = 0) (h1 : litCheck n c = 0) : impVS n F c = (upF F (negs c), 0) := by
  unfold impVS
  rw [if_pos h, if_pos h1]

theorem negs_badS {n : Nat} {c : List Int} (h : ∀ x ∈ c, LitOk n x) : (negs c).any (badLit n) = false := by
  rw [List.any_eq_false]
  intro x hx
  have := h (-x) (mem_negs.1 hx)
  unfold LitOk at this
  unfold badLit
  simp
  omega

theorem negs_takeS (c : List Int) {k : Nat} {a : Int} (h : c[k]? = some a) : ints (negs (c.take (k + 1))) = ints (negs (c.take k)) ++ [.int .i64 (-a)] := by
  rw [List.take_add_one, h]
  simp [negs, ints]

/-- What Implied leaves. -/
def impliedRS (n : Int) (F : List (List Int)) (c : List Int) (w : World) (e : Ending) (w' : World) : Prop :=
  e = .returned (.tuple #[.bool (impVS n F c).1, .int .i64 (impVS n F c).2]) ∧ Below w.heap.size w w'

set_option maxRecDepth 100000 in
set_option maxHeartbeats 8000000 in
theorem rup_ImpliedS (n : Int) (acl : Option Addr) (F : List (List Int)) (mf cf : Nat) (ac : Option Addr) (c : List Int) (mc cc : Nat) (w : World) (hmf : mf = F.length) (hmc : mc = c.length) (hf : FOk F) (hr : Rws w acl F) (hx : ∀ x ∈ c, I64 x) (hs : SlV w ac (ints c)) (hFl : F.length ≤ 9223372036854775807) (hcl : c.length ≤ 9223372036854775807) :
    Calls Try.prog 31 #[.agg #[.int .i64 n, .slice acl mf cf], .slice ac mc cc] w (impliedRS n F c w) := by
  subst hmf hmc
  obtain ⟨i0, hi0, hz0, hz1, hz2⟩ := info_parts info_int
  obtain ⟨Q, hQ⟩ : ∃ Q : Ending → World → Prop, impliedRS n F c w = Q := ⟨_, rfl⟩
  rw [hQ]
  have HQ := hid hQ
  clear hQ
  obtain ⟨e1, he1⟩ : ∃ e, cnfCheck n F = e := ⟨_, rfl⟩
  have HF := hid (And.intro hf (And.intro hx hFl))
  have HB := hid (hr.below (box_below w (fbox n acl F.length cf)))
  have HBB : Hid (Below w.heap.size w ((w.alloc (fbox n acl F.length cf)).alloc (fbox n acl F.length cf))) := hid (below_al (box_below _ _) (by simp only [size_al]; omega) _)
  have HRS := hid (And.intro hr hs)
  by_cases h0 : e1 = 0
  · subst h0
    obtain ⟨v1, v2, v3, v4, v5⟩ := cnf_valid he1
    obtain ⟨n, rfl⟩ := Int.eq_ofNat_of_zero_le v1
    obtain ⟨k0, k1⟩ := box_cellsI n acl F.length cf w (fbox n acl F.length cf)
    have hn20 : n ≤ 1048576 := by omega
    obtain ⟨e2, he2⟩ : ∃ e, litCheck n c = e := ⟨_, rfl⟩
    have HCALL := hid (lit_CheckR n ac c c.length cc e2 _ he2 rfl hx (hs.below HBB.out) hcl)
    have HC := hid (And.intro he1 he2)
    by_cases hz : e2 = 0
    · subst hz
      obtain ⟨hlo, hl4⟩ := lits_of_check he2
      have HL := hid (And.intro hlo hl4)
      clear he1 he2 v1 v2 v3 v4 v5 hr hf hx hs hcl hlo
      obtain ⟨N, hN⟩ : ∃ N, c.length = N := ⟨_, rfl⟩
      rw [hN] at HCALL hl4 ⊢
      have HN := hid hN
      clear hN
      go_enter Try.func31, Try.ntmps31
      go_wp2_with fail
      refine (cnf_CheckR n acl F _ cf 0 _ HC.out.1 rfl HF.out.1 HB.out hFl).mono ?_
      rintro e wx ⟨rfl, rfl⟩
      go_wp2_with fail
      refine HCALL.out.mono ?_
      rintro e wx ⟨rfl, hwx⟩
      subst hwx
      generalize hwB : (w.alloc (fbox n acl F.length cf)).alloc (fbox n acl F.length cf) = wB at HBB k0 k1 ⊢
      clear hwB
      go_wp2_with (at_make; refine wpList_make_own _ rfl _ _ 22 rfl wB.heap.size 3 i0 (.int .i64 0) 1 Try.underlying22 hi0 hz0 hz1 _ _ _ N rfl rfl (by first | rfl | omega) (by rw [hz2]; omega) (by unfold maxLen; omega) (Nat.le_refl _) ?_; intro w6 ho6 hg6; have HO6 := hid ho6; have HB6 : Hid (Below wB.heap.size wB w6) := hid ((Below.refl _ _).grown hg6 (Nat.le_refl _) (fun q hq => (by cases hq))); clear ho6 hg6)
      go_loopw [8, 31] (fun s8 s31 wr => ∃ k : Nat, s31 = .int .i64 k ∧ k ≤ N ∧ Hid (wr.ownsRow wB.heap.size 3 1 s8 k (ints (negs (c.take k))) ∧ Below wB.heap.size wB wr)) (fun _ s31 _ => (N - (intOf s31)).toNat)
      case atStart => exact ⟨0, rfl, by omega, hid ⟨HO6.out, HB6.out⟩⟩
      case round =>
        clear HO6 HB6
        obtain ⟨k, rfl, hkN, HJ⟩ := hrel
        obtain ⟨a8, c8, hs8⟩ := own_lenV' HJ.out.1
        subst hs8
        by_cases hlt : k < N
        · have hlt2 : (k : Int) < N := by omega
          obtain ⟨a, ha⟩ : ∃ a, c[k]? = some a := ⟨_, List.getElem?_eq_getElem (by rw [HN.out]; exact hlt)⟩
          obtain ⟨b, off, hac, hca⟩ := (HRS.out.2.below (HBB.out.trans (HJ.out.2.mono HBB.out.size))) k (.int .i64 a) (ints_get ha)
          subst hac
          have hao := HL.out.1 a (List.mem_of_getElem? ha)
          have hwa : IntKind.i64.wrap (-a) = -a := IntWalk.i64_in _ (by unfold LitOk at hao; omega)
          have hwk : IntKind.i64.wrap ((k : Int) + 1) = (k : Int) + 1 := IntWalk.i64_in _ (by omega)
          have hB6 := HJ.out.2.size
          obtain ⟨a6, c6, w6, hr6, ho6, hg6, ha6⟩ := appM_one (P := Try.prog) (wr.alloc (.cells #[.int .i64 (-a)] 3 (0, 0))) wB.heap.size 22 22 3 i0 (.int .i64 0) 8 Try.underlying22 hi0 hz0 hz1 hz2 rfl (.slice a8 k c8) k (ints (negs (c.take k))) (HJ.out.1.alloc _) wr.heap.size (.int .i64 (-a)) (heap_alloc_new _ _) rfl (by unfold maxLen; omega) (by omega) (by simp only [size_al]; omega)
          have HJ2 : Hid (w6.ownsRow wB.heap.size 3 1 (.slice a6 (k + 1) c6) (k + 1) (ints (negs (c.take (k + 1)))) ∧ Below wB.heap.size wB w6) := hid ⟨by rw [negs_takeS c ha]; exact ho6, below_app HJ.out.2 hB6 (box_below _ _) HJ.out.1 hg6⟩
          clear ho6 hg6 ha6 ha hao hB6
          go_wp2_with fail
          go_roundw
          case rel => exact ⟨k + 1, by simp, by omega, HJ2⟩
          case measure => simp [intOf]; omega
        · have hke : k = N := by omega
          subst hke
          have hlt2 : ¬ (k : Int) < k := by omega
          have hbel := HBB.out.trans (HJ.out.2.mono HBB.out.size)
          have k0' := below_keeps HJ.out.2 _ _ k0
          have k1' := below_keeps HJ.out.2 _ _ k1
          have hall : c.take k = c := List.take_of_length_le (by rw [HN.out]; exact Nat.le_refl _)
          have ho := HJ.out.1
          rw [hall] at ho
          have hsl := own_slv ho
          have hnl : k = (negs c).length := by rw [← HN.out]; simp [negs]
          have HU := hid (prop_UnitsN n acl F F.length cf a8 (negs c) k c8 _ _ _ wr (unitsV_ok HC.out.1 (negs_badS HL.out.1)) rfl hnl HF.out.1 (HRS.out.1.below hbel) hsl hFl (by rw [← hnl]; omega))
          have HFN : Hid (∀ w', Below wr.heap.size wr w' → Q (.returned (.tuple #[.bool (upF F (negs c)), .int .i64 0])) w') := hid fun w' hw => by
            rw [← HQ.out]
            unfold impliedRS
            rw [impV_okS HC.out.1 HC.out.2]
            exact ⟨rfl, hbel.trans (hw.mono hbel.size)⟩
          clear hbel hall ho hsl hnl hlt hkN k0 k1
          go_wp2_with fail
          refine HU.out.mono ?_
          rintro e w7 ⟨hb7, ar, cr, rfl, -⟩
          have HB7 := hid hb7
          clear hb7 k0' k1'
          go_wp2_with fail
          exact HFN.out _ HB7.out
    · have HE : Hid (Q (.returned (.tuple #[.bool false, .int .i64 e2])) ((w.alloc (fbox n acl F.length cf)).alloc (fbox n acl F.length cf))) := hid (by
        rw [← HQ.out]
        unfold impliedRS
        rw [impV_litS he1 he2 hz]
        exact ⟨rfl, HBB.out⟩)
      have hz' : (e2 != 0) = true := by simpa using hz
      clear he1 he2 hz v1 v2 v3 v4 v5 hr hf hx hs hcl
      go_enter Try.func31, Try.ntmps31
      go_wp2_with fail
      refine (cnf_CheckR n acl F _ cf 0 _ HC.out.1 rfl HF.out.1 HB.out hFl).mono ?_
      rintro e wx ⟨rfl, rfl⟩
      go_wp2_with fail
      refine HCALL.out.mono ?_
      rintro e wx ⟨rfl, hwx⟩
      subst hwx
      go_wp2_with fail
      exact HE.out
  · have HE : Hid (Q (.returned (.tuple #[.bool false, .int .i64 e1])) ((w.alloc (fbox n acl F.length cf)).alloc (fbox n acl F.length cf))) := hid (by
      rw [← HQ.out]
      unfold impliedRS
      rw [impV_errS he1 h0]
      exact ⟨rfl, HBB.out⟩)
    have hz' : (e1 != 0) = true := by simpa using h0
    have HC := hid he1
    clear he1 h0 hr hf hx hs
    go_enter Try.func31, Try.ntmps31
    go_wp2_with fail
    refine (cnf_CheckR n acl F _ cf e1 _ HC.out rfl HF.out.1 HB.out hFl).mono ?_
    rintro e wx ⟨rfl, rfl⟩
    go_wp2_with fail
    exact HE.out

end Go.Proofs.Ytfofabbnbmieoaa.Ord

/- Two formulas that a law builds beside each other. -/
namespace Go.Proofs.Ytfofabbnbmieoaa.Ord
open Go.RowKit

/-- Two formulas that are built at the blocks b and b', in rows of their own. -/
def FB2 (w : World) (B b b' : Nat) (n : Int) (G H : List (List Int)) : Prop :=
  ∃ v vs v' vs', (w.heap[b]? = some (.cells #[.int .i64 n, v] 34 (0, 0)) ∧ B ≤ b ∧ w.ownsRow B 22 1 v G.length vs ∧ ∀ (j : Nat) (c : List Int), G[j]? = some c → ∃ u, vs[j]? = some u ∧ OwnT 3 w 0 u c) ∧
    (w.heap[b']? = some (.cells #[.int .i64 n, v'] 34 (0, 0)) ∧ B ≤ b' ∧ w.ownsRow B 22 1 v' H.length vs' ∧ ∀ (j : Nat) (c : List Int), H[j]? = some c → ∃ u, vs'[j]? = some u ∧ OwnT 3 w 0 u c) ∧
    b ≠ b' ∧ ∀ q, v'.ownBlock = some q → some q ≠ v.ownBlock

section
variable {w w' : World} {B b b' : Nat} {n : Int} {G H : List (List Int)}

theorem FB2.symm (h : FB2 w B b b' n G H) : FB2 w B b' b n H G := by
  obtain ⟨v, vs, v', vs', h1, h2, h3, h4⟩ := h
  exact ⟨v', vs', v, vs, h2, h1, Ne.symm h3, fun q hq e => h4 q e.symm hq.symm⟩

theorem FB2.fst (h : FB2 w B b b' n G H) : FB w B b n G := by
  obtain ⟨v, vs, v', vs', h1, h2, h3, h4⟩ := h
  exact ⟨v, vs, h1⟩

theorem FB2.below (h : FB2 w B b b' n G H) (hb : Below w.heap.size w w') : FB2 w' B b b' n G H := by
  obtain ⟨v, vs, v', vs', ⟨h1, h2, h3, h4⟩, ⟨g1, g2, g3, g4⟩, h5, h6⟩ := h
  exact ⟨v, vs, v', vs', ⟨(hb.block b (Array.getElem?_eq_some_iff.1 h1).1).trans h1, h2, own_below h3 hb, fun j c hj => let ⟨u, e1, e2⟩ := h4 j c hj; ⟨u, e1, e2.below hb⟩⟩, ⟨(hb.block b' (Array.getElem?_eq_some_iff.1 g1).1).trans g1, g2, own_below g3 hb, fun j c hj => let ⟨u, e1, e2⟩ := g4 j c hj; ⟨u, e1, e2.below hb⟩⟩, h5, h6⟩

/-- A clause more in the first. -/
theorem FB2.push (h : FB2 w B b b' n G H) (hB : B ≤ w.heap.size) {x : Value} {c : List Int} (hx : OwnT 3 w 0 x c) (hx1 : x.oneCell' = true) (hl : G.length ≤ 1048576) :
    ∃ a cap a12 c12 w12, w.cell? ⟨b, 1, none⟩ = some (.slice a G.length cap) ∧ (appM #[32, 32] 32 #[.slice a G.length cap, .slice (some ⟨w.heap.size, 0, none⟩) 1 1]).run Try.prog (w.alloc (.cells #[x] 22 (0, 0))) = .ok (.slice a12 (G.length + 1) c12) w12 ∧ w12.cell? ⟨b, 1, none⟩ = some (.slice a G.length cap) ∧ w12.frozen? ⟨b, 1, none⟩ = false ∧
      FB2 (w12.setCell ⟨b, 1, none⟩ (.slice a12 (G.length + 1) c12)) B b b' n (G ++ [c]) H ∧ Below B w (w12.setCell ⟨b, 1, none⟩ (.slice a12 (G.length + 1) c12)) ∧ Below B w w12 := by
  obtain ⟨i1, hi1, hy0, hy1, hy2⟩ := info_parts info_ints
  obtain ⟨v, vs, v', vs', ⟨h1, h2, h3, h4⟩, ⟨g1, g2, g3, g4⟩, h5, h6⟩ := h
  obtain ⟨a, cap, hv⟩ := own_lenV' h3
  subst hv
  obtain ⟨hb1, hs1, z1⟩ := box1 w (.cells #[x] 22 (0, 0)) rfl
  obtain ⟨a12, c12, w12, hr12, ho12, hg12, r4⟩ := appM_one (P := Try.prog) (w.alloc (.cells #[x] 22 (0, 0))) B 32 32 22 i1 (.slice none 0 0) 24 Try.underlying32 hi1 hy0 hy1 hy2 rfl (.slice a G.length cap) G.length vs (h3.alloc _) w.heap.size x z1 hx1 (by unfold maxLen; omega) (by omega) (by omega)
  have q1 : w12.heap[b]? = some (.cells #[.int .i64 n, .slice a G.length cap] 34 (0, 0)) := blk_app hb1 h3 hg12 h1 (by decide)
  have q2 : w12.heap[b']? = some (.cells #[.int .i64 n, v'] 34 (0, 0)) := blk_app hb1 h3 hg12 g1 (by decide)
  have q3 : w12.ownsRow B 22 1 v' H.length vs' := own_frame0 (own_below g3 hb1) fun g hg' => hg12.block g ((own_below g3 hb1).lt g hg').2 (h6 g hg')
  have hT : ∀ {u : Value} {d : List Int}, OwnT 3 w 0 u d → OwnT 3 w12 0 u d := fun hu => ownT_kept (hu.below hb1) (h3.alloc _) (by decide) hg12
  have hbel : Below B w w12 := (hb1.mono hB).grown hg12 (by omega) fun q hq => (h3.lt q hq).1
  refine ⟨a, cap, a12, c12, w12, by rw [cell_of_row _ _ _ _ _ _ h1]; rfl, hr12, by rw [cell_of_row _ _ _ _ _ _ q1]; rfl, frozen_of_row _ _ _ _ _ q1, ⟨_, vs ++ [x], v', vs', ⟨setCell_block (o := 1) (xs := [.int .i64 n, .slice a G.length cap]) _ q1, h2, ?_, fun j d hj => ?_⟩, ⟨(heap_setCell_other w12 ⟨b, 1, none⟩ b' _ (fun e => h5 e.symm)).trans q2, g2, own_setO q3 q1 (by decide) _ _, fun j d hj => let ⟨u, e1, e2⟩ := g4 j d hj; ⟨u, e1, ownT_setX (hT e2) q1 (by decide) _⟩⟩, h5, fun q hq => ?_⟩, hbel.setCell (p := ⟨b, 1, none⟩) h2 _, hbel⟩
  · rw [List.length_append]
    exact own_setO ho12 q1 (by decide) _ _
  · have hl2 : vs.length = G.length := by have := h3.1; omega
    rcases Nat.lt_or_ge j G.length with q | q
    · rw [List.getElem?_append_left q] at hj
      obtain ⟨u, e1, e2⟩ := h4 j d hj
      exact ⟨u, by rw [List.getElem?_append_left (by omega)]; exact e1, ownT_setX (hT e2) q1 (by decide) _⟩
    · rw [List.getElem?_append_right q] at hj
      have h5 := (List.getElem?_eq_some_iff.1 hj).1
      simp at h5
      have h6 : j = G.length := by omega
      subst h6
      simp at hj
      subst hj
      exact ⟨x, by rw [List.getElem?_append_right (by omega), hl2]; simp, ownT_setX (hT hx) q1 (by decide) _⟩
  · rcases r4 with r4 | r4
    · rw [r4]; exact h6 q hq
    · rw [r4]
      intro e
      injection e with e
      have := (g3.lt q hq).2
      simp only [size_al] at e
      omega

end

end Go.Proofs.Ytfofabbnbmieoaa.Ord

/- Regions that draw their order: two operations in either order. -/
namespace Go.Proofs.Ytfofabbnbmieoaa.Ord
open Go Go.RowKit

section
variable {P : Program} {ops : Array Oper} {Q : Exit → Act → World → Prop} {md : Region.Mode} {S : World → Prop}

/-- Two operations in either order. -/
theorem wpR.two {Z : List Nat} (i j : Nat) {x y : Oper} {r r' : List Oper} {k : Nat} {l : Array Bool} {a : Act} {w : World} (Good : Value → Value → World → Prop) (hi' : ops.toList.drop i = x :: r) (hj' : ops.toList.drop j = y :: r') (hr : (Region.ready md ops l == [i, j]) = true) (hri : (Region.ready md ops (l.setIfInBounds i true) == [j]) = true) (hrj : (Region.ready md ops (l.setIfInBounds j true) == [i]) = true) (hap : apB ops i j = true) (hx : Region.noSelect ops = true) (hwx : Region.wanted x (yielded ops a.tmps) = true) (hwy : Region.wanted y (yielded ops a.tmps) = true)
    (h1 : ∃ v w1 u w2, (execOp a.eval x).run P w = .ok (.value v) w1 ∧ (execOp a.eval y).run P w1 = .ok (.value u) w2 ∧ Good v u w2 ∧ (S w → S w1) ∧ (S w1 → S w2))
    (h2 : ∃ u w1 v w2, (execOp a.eval y).run P w = .ok (.value u) w1 ∧ (execOp a.eval x).run P w1 = .ok (.value v) w2 ∧ Good v u w2 ∧ (S w → S w1) ∧ (S w1 → S w2))
    (H : ∀ v u w', Good v u w' → wpR P md ops Q S Z k ((l.setIfInBounds i true).setIfInBounds j true) ((a.put x.dst v).put y.dst u) w') : wpR P md ops Q S Z (k + 1 + 1) l a w := by
  have hi := at_drop hi'
  have hj := at_drop hj'
  rw [beq_iff_eq] at hr hri hrj
  have hap' := hap
  unfold apB at hap'
  rw [hi, hj] at hap'
  dsimp only at hap'
  rw [Bool.and_eq_true] at hap'
  obtain ⟨p1, p2, p3⟩ := Oper.apart_spec hap'.1
  have nx : ∀ cs b, x.op ≠ .select cs b := fun cs b => Region.noSelect_spec hx i x cs b hi
  have ny : ∀ cs b, y.op ≠ .select cs b := fun cs b => Region.noSelect_spec hx j y cs b hj
  refine ⟨fun e => (by rw [hr] at e; cases e), fun t ht => ?_⟩
  rw [hr] at ht
  rcases List.mem_cons.1 ht with rfl | ht
  · obtain ⟨v, w1, u, w2, q1, q2, q3, q4, q5⟩ := h1
    unfold wpOp
    simp only [hi]
    rw [if_pos hwx]
    refine .inl ?_
    unfold Oper.wp
    rw [q1]
    refine ⟨fun _ => q4, fun e => (by rw [hri] at e; cases e), fun t ht => ?_⟩
    rw [hri] at ht
    have e := List.mem_singleton.1 ht
    subst e
    unfold wpOp
    simp only [hj]
    rw [wanted_put y a x.dst v p1, if_pos hwy]
    refine .inl ?_
    unfold Oper.wp
    rw [execOp_put y ny a x.dst v p1, q2]
    exact ⟨fun _ => q5, H v u w2 q3⟩
  · have e := List.mem_singleton.1 ht
    subst e
    obtain ⟨u, w1, v, w2, q1, q2, q3, q4, q5⟩ := h2
    unfold wpOp
    simp only [hj]
    rw [if_pos hwy]
    refine .inl ?_
    unfold Oper.wp
    rw [q1]
    refine ⟨fun _ => q4, fun e => (by rw [hrj] at e; cases e), fun s hs => ?_⟩
    rw [hrj] at hs
    have e := List.mem_singleton.1 hs
    subst e
    unfold wpOp
    simp only [hi]
    rw [wanted_put x a y.dst u p3, if_pos hwx]
    refine .inl ?_
    unfold Oper.wp
    rw [execOp_put x nx a y.dst u p3, q2]
    refine ⟨fun _ => q5, ?_⟩
    rw [set_true_comm, ← Act.put_comm a v u p2]
    exact H v u w2 q3

end

end Go.Proofs.Ytfofabbnbmieoaa.Ord

/- Regions that draw their order: the ways one by one. -/
namespace Go.Proofs.Ytfofabbnbmieoaa.Ord
open Go Go.RowKit

section
variable {P : Program} {ops : Array Oper} {Q : Exit → Act → World → Prop} {md : Region.Mode} {S : World → Prop}

/-- Number i comes up and gives a value. -/
theorem wpO.one {K : Act → World → Prop} (i : Nat) {x : Oper} {r : List Oper} {v : Value} {a : Act} {w w' : World} (hi : ops.toList.drop i = x :: r) (hw : Region.wanted x (yielded ops a.tmps) = true) (hrun : (execOp a.eval x).run P w = .ok (.value v) w') (h : K (a.put x.dst v) w') : wpOp P ops Q i K a w := by
  unfold wpOp
  simp only [at_drop hi]
  rw [if_pos hw]
  refine .inl ?_
  unfold Oper.wp
  rw [hrun]
  exact h

/-- Number i comes up and is a call. -/
theorem wpO.enter {K : Act → World → Prop} (i : Nat) {x : Oper} {r : List Oper} {f : FuncId} {args : Array Value} {a : Act} {w : World} (hi : ops.toList.drop i = x :: r) (hw : Region.wanted x (yielded ops a.tmps) = true) (hrun : (execOp a.eval x).run P w = .ok (.enter f args) w)
    (h : Calls P f args w fun e w' => ∃ v, e = .returned v ∧ K (a.put x.dst v) w') : wpOp P ops Q i K a w := by
  unfold wpOp
  simp only [at_drop hi]
  rw [if_pos hw]
  refine .inl ?_
  unfold Oper.wp
  rw [hrun]
  exact h.mono fun e w' ⟨v, he, h1⟩ => by subst he; exact h1

theorem wpR.fork1 {Z : List Nat} (i : Nat) {k : Nat} {l : Array Bool} {a : Act} {w : World} (hr : Region.ready md ops l = [i]) (h1 : wpOp P ops Q i (fun b u => (i ∉ Z → S w → S u) ∧ wpR P md ops Q S Z k (l.setIfInBounds i true) b u) a w) : wpR P md ops Q S Z (k + 1) l a w :=
  ⟨fun e => (by rw [e] at hr; cases hr), fun t ht => by rw [hr] at ht; rw [List.mem_singleton.1 ht]; exact h1⟩

theorem wpR.fork2 {Z : List Nat} (i j : Nat) {k : Nat} {l : Array Bool} {a : Act} {w : World} (hr : Region.ready md ops l = [i, j]) (h1 : wpOp P ops Q i (fun b u => (i ∉ Z → S w → S u) ∧ wpR P md ops Q S Z k (l.setIfInBounds i true) b u) a w) (h2 : wpOp P ops Q j (fun b u => (j ∉ Z → S w → S u) ∧ wpR P md ops Q S Z k (l.setIfInBounds j true) b u) a w) : wpR P md ops Q S Z (k + 1) l a w :=
  ⟨fun e => (by rw [e] at hr; cases hr), fun t ht => by
    rw [hr] at ht
    rcases List.mem_cons.1 ht with rfl | ht
    · exact h1
    · rw [List.mem_singleton.1 ht]; exact h2⟩

theorem wpR.fork3 {Z : List Nat} (i j q : Nat) {k : Nat} {l : Array Bool} {a : Act} {w : World} (hr : Region.ready md ops l = [i, j, q]) (h1 : wpOp P ops Q i (fun b u => (i ∉ Z → S w → S u) ∧ wpR P md ops Q S Z k (l.setIfInBounds i true) b u) a w) (h2 : wpOp P ops Q j (fun b u => (j ∉ Z → S w → S u) ∧ wpR P md ops Q S Z k (l.setIfInBounds j true) b u) a w) (h3 : wpOp P ops Q q (fun b u => (q ∉ Z → S w → S u) ∧ wpR P md ops Q S Z k (l.setIfInBounds q true) b u) a w) : wpR P md ops Q S Z (k + 1) l a w :=
  ⟨fun e => (by rw [e] at hr; cases hr), fun t ht => by
    rw [hr] at ht
    rcases List.mem_cons.1 ht with rfl | ht
    · exact h1
    · rcases List.mem_cons.1 ht with rfl | ht
      · exact h2
      · rw [List.mem_singleton.1 ht]; exact h3⟩

end

end Go.Proofs.Ytfofabbnbmieoaa.Ord
