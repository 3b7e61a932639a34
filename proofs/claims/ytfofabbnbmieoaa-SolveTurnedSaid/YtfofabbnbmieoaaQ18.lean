/- The contract of prop.Units for any formula and any numbers. -/
import Derived.Test.YtfofabbnbmieoaaQPropU
import Derived.Test.YtfofabbnbmieoaaQRef04
import Derived.Test.YtfofabbnbmieoaaQ8
import Derived.Test.YtfofabbnbmieoaaQ11
import Derived.Test.YtfofabbnbmieoaaQ1
import Derived.Test.YtfofabbnbmieoaaQ3
import Derived.Test.YtfofabbnbmieoaaQ13
import Derived.Test.YtfofabbnbmieoaaQSolY
import Derived.Test.YtfofabbnbmieoaaQ10

namespace Go.Proofs.Ytfofabbnbmieoaa.Ord
open Go.RowKit Go.Conc

attribute [local go_sem ↓] Go.wp_at_zero Go.wp_at_succ

theorem box_cellsI (n : Int) (acl : Option Addr) (m cf : Nat) (w : World) (o : Obj) : ((w.alloc (fbox n acl m cf)).alloc o).cell? ⟨w.heap.size, 0, none⟩ = some (.int .i64 n) ∧ ((w.alloc (fbox n acl m cf)).alloc o).cell? ⟨w.heap.size, 1, none⟩ = some (.slice acl m cf) := by
  have hb : ((w.alloc (fbox n acl m cf)).alloc o).heap[w.heap.size]? = some (fbox n acl m cf) := (Below.heap_alloc _ _ _ (by simp)).trans (heap_alloc_new _ _)
  unfold fbox at hb ⊢
  constructor <;> simp [World.cell?, hb]

theorem ref_UnitsN (n : Int) (acl : Option Addr) (F : List (List Int)) (mf cf : Nat) (aas : Option Addr) (A : List Int) (ma cas : Nat) (U : List Int) (b : Bool) (g : Int) (w : World) (hU : unitsV n F A = (U, b, g)) (hmf : mf = F.length) (hma : ma = A.length) (hf : FOk F) (hr : Rws w acl F) (hs : SlV w aas (ints A)) (hA : ∀ a ∈ A, I64 a) (hFl : F.length ≤ 9223372036854775807) (hAl : A.length ≤ 4294967296) :
    Calls Try.prog 59 #[.agg #[.int .i64 n, .slice acl mf cf], .slice aas ma cas] w fun e w' => Below w.heap.size w w' ∧ ∃ ar cr, e = .returned (.tuple #[.slice ar U.length cr, .bool b, .int .i64 g]) ∧ SlV w' ar (ints U) := by
  have := ref_Units n acl F mf cf aas A ma cas w hmf hma hf hr hs hA hFl hAl
  unfold refUnitsR at this
  rwa [hU] at this

end Go.Proofs.Ytfofabbnbmieoaa.Ord

/- The contract of rup.Check. -/
namespace Go.Proofs.Ytfofabbnbmieoaa.Ord
open Go.RowKit Go.Conc

attribute [local go_sem ↓] Go.wp_at_zero Go.wp_at_succ
attribute [local go_sem ↓ high] app_mark

/-- What Check leaves. -/
def rupR (n : Int) (F P : List (List Int)) (w : World) (e : Ending) (w' : World) : Prop :=
  e = .returned (.tuple #[.int .i64 (rupV n F P).1, .int .i64 (rupV n F P).2]) ∧ Below w.heap.size w w'

theorem rupV_err {n e : Int} {F P : List (List Int)} (h : rupErr n F P = e) (h0 : e ≠ 0) : rupV n F P = (0, e) := by
  unfold rupV
  rw [h, if_neg h0]

theorem rupErr_cnf {n e : Int} {F : List (List Int)} (h : cnfCheck n F = e) (h0 : e ≠ 0) (P : List (List Int)) : rupErr n F P = e := by
  unfold rupErr
  rw [h, if_neg h0]

theorem rupErr_at {n e : Int} {F P : List (List Int)} (h : cnfCheck n F = 0) {k : Nat} {c : List Int} (hb : ∀ d ∈ P.take k, litCheck n d = 0) (hc : P[k]? = some c) (he : litCheck n c = e) (h0 : e ≠ 0) : rupErr n F P = e := by
  obtain ⟨hk, hkc⟩ := List.getElem?_eq_some_iff.1 hc
  have hf : P.find? (fun c => litCheck n c != 0) = some c := by
    have e1 : P = P.take k ++ c :: P.drop (k + 1) := by rw [← hkc, ← List.drop_eq_getElem_cons hk, List.take_append_drop]
    rw [e1, List.find?_append, List.find?_eq_none.2 (fun d hd => by simp [hb d hd]), List.find?_cons_of_pos (by rw [he]; simpa using h0)]
    rfl
  unfold rupErr
  rw [if_pos h, hf]
  exact he

theorem rupErr_ok {n : Int} {F P : List (List Int)} (h : cnfCheck n F = 0) (hb : ∀ d ∈ P, litCheck n d = 0) : rupErr n F P = 0 := by
  unfold rupErr
  rw [if_pos h, List.find?_eq_none.2 (fun d hd => by simp [hb d hd])]

theorem rupV_at {n : Int} {F P : List (List Int)} (h : rupErr n F P = 0) {k : Nat} {c : List Int} (ha : ∀ (i : Nat) (c : List Int), i < k → P[i]? = some c → upF (F ++ P.take i) (negs c) = true) (hc : P[k]? = some c) (hn : upF (F ++ P.take k) (negs c) = false) : rupV n F P = ((k : Int), 0) := by
  have e := rupGo_at ha hc hn
  have hk := (List.getElem?_eq_some_iff.1 hc).1
  unfold rupV
  rw [if_pos h, e, if_pos hk]

theorem rupV_all {n : Int} {F P : List (List Int)} (h : rupErr n F P = 0) (ha : ∀ (i : Nat) (c : List Int), i < P.length → P[i]? = some c → upF (F ++ P.take i) (negs c) = true) : rupV n F P = (if P.getLast? = some [] then -1 else (P.length : Int), 0) := by
  have e1 := rupGo_ge ha (Nat.le_refl _)
  have e2 := rupGo_le F P
  unfold rupV
  rw [if_pos h, if_neg (by omega)]

theorem lits_of_check {n : Nat} {c : List Int} (h : litCheck n c = 0) : (∀ x ∈ c, LitOk n x) ∧ c.length ≤ 4096 := by
  unfold litCheck at h
  split at h
  · cases h
  · split at h
    · cases h
    · split at h
      · cases h
      · rename_i h1 h2 h3
        refine ⟨fun x hx => ?_, by omega⟩
        have h4 : badLit n x = false := by
          by_cases q : badLit n x = true
          · exact absurd (List.any_eq_true.2 ⟨x, hx, q⟩) h3
          · simpa using q
        unfold badLit at h4
        simp only [Bool.or_eq_false_iff, beq_eq_false_iff_ne, decide_eq_false_iff_not] at h4
        unfold LitOk
        omega

set_option maxRecDepth 100000 in
set_option maxHeartbeats 8000000 in
theorem rup_Check (n : Int) (acl : Option Addr) (F : List (List Int)) (mf cf : Nat) (apl : Option Addr) (P : List (List Int)) (mp cp : Nat) (w : World) (hmf : mf = F.length) (hmp : mp = P.length) (hf : FOk F) (hr : Rws w acl F) (hp : FOk P) (hrp : Rws w apl P) (hFl : F.length ≤ 9223372036854775807) (hPl : P.length ≤ 2199022206975) :
    Calls Try.prog 60 #[.agg #[.int .i64 n, .slice acl mf cf], .slice apl mp cp] w (rupR n F P w) := by
  subst hmf hmp
  have hmfn : ∀ (fn : Fn) (first cap : Array Value) (w : World), (Instr.makeFunc fn first cap).run Try.prog w = .ok (.func fn first cap) w := fun _ _ _ _ => rfl
  obtain ⟨Q, hQ⟩ : ∃ Q : Ending → World → Prop, rupR n F P w = Q := ⟨_, rfl⟩
  rw [hQ]
  have HQ := hid hQ
  clear hQ
  obtain ⟨e1, he1⟩ : ∃ e, cnfCheck n F = e := ⟨_, rfl⟩
  have HR := hid hr
  have HF := hid (And.intro hf hp)
  have HRP := hid hrp
  by_cases h0 : e1 = 0
  · subst h0
    obtain ⟨v1, v2, v3, v4, v5⟩ := cnf_valid he1
    obtain ⟨n, rfl⟩ := Int.eq_ofNat_of_zero_le v1
    have hok : ClsOk n F := v5
    have HV := hid (And.intro he1 (And.intro hok v4))
    have HBB : Hid (Below w.heap.size w ((w.alloc (fbox n acl F.length cf)).alloc (fbox n acl F.length cf))) := hid (below_al (box_below _ _) (by simp only [size_al]; omega) _)
    have HB := hid (hr.below (box_below w (fbox n acl F.length cf)))
    obtain ⟨k0, k1⟩ := box_cellsI n acl F.length cf w (fbox n acl F.length cf)
    have hn20 : n ≤ 1048576 := by omega
    clear he1 v1 v2 v4 v5 hok hr hf hp hrp
    go_enter Try.func60, Try.ntmps60
    go_wp2_with fail
    refine (cnf_CheckR n acl F _ cf 0 _ HV.out.1 rfl HF.out.1 HB.out hFl).mono ?_
    rintro e wx ⟨rfl, hwx⟩
    obtain ⟨wB, hwB⟩ : ∃ x, ((w.alloc (fbox n acl F.length cf)).alloc (fbox n acl F.length cf)) = x := ⟨_, rfl⟩
    have hwx2 : wx = wB := by rw [← hwx, ← hwB]
    subst hwx2
    rw [hwB] at HBB k0 k1
    clear hwx hwB HB
    obtain ⟨N, hN⟩ : ∃ N, P.length = N := ⟨_, rfl⟩
    rw [hN] at hPl ⊢
    have HN := hid hN
    clear hN
    go_wp2_with fail
    go_loop [24] (fun s24 => ∃ k : Nat, s24 = .int .i64 k ∧ k ≤ N ∧ Hid (∀ d ∈ P.take k, litCheck n d = 0)) (fun s24 => (N - (intOf s24)).toNat)
    case atStart => exact ⟨0, rfl, by omega, hid (by simp)⟩
    case round =>
      obtain ⟨k, rfl, hkN, HJ⟩ := hrel
      by_cases hlt : k < N
      · have hlt2 : (k : Int) < N := by omega
        obtain ⟨b, off, c, ac, cc, hap, hcell, hcs, hck, hc64, hcl, hcc, hc0⟩ := (HRP.out.below HBB.out).row HF.out.2 (k := k) (by rw [HN.out]; exact hlt)
        subst hap
        obtain ⟨e2, he2⟩ : ∃ e, litCheck n c = e := ⟨_, rfl⟩
        have hwk : IntKind.i64.wrap ((k : Int) + 1) = (k : Int) + 1 := IntWalk.i64_in _ (by omega)
        have HCALL := hid (lit_CheckR n ac c c.length cc e2 wx he2 rfl hc64 hcs hcl)
        have HCK := hid (And.intro hck he2)
        clear hcs hck hc64 hcl hcc hc0 he2
        by_cases hz : e2 = 0
        · subst hz
          go_wp2_with fail
          refine HCALL.out.mono ?_
          rintro e w2 ⟨rfl, rfl⟩
          go_wp2_with fail
          go_round
          case rel => exact ⟨k + 1, by simp, by omega, hid fun d hd => by
            rw [List.take_add_one, HCK.out.1] at hd
            rcases List.mem_append.1 hd with q | q
            · exact HJ.out d q
            · have : d = c := by simpa using q
              rw [this]; exact HCK.out.2⟩
          case measure => simp [intOf]; omega
        · have hz' : (e2 != 0) = true := by simpa using hz
          have HE : Hid (Q (.returned (.tuple #[.int .i64 0, .int .i64 e2])) wx) := hid (by
            rw [← HQ.out]
            unfold rupR
            rw [rupV_err (rupErr_at HV.out.1 HJ.out HCK.out.1 HCK.out.2 hz) hz]
            exact ⟨rfl, HBB.out⟩)
          clear hz
          go_wp2_with fail
          refine HCALL.out.mono ?_
          rintro e w2 ⟨rfl, rfl⟩
          go_wp2_with fail
          exact HE.out
      · have hke : k = N := by omega
        subst hke
        have hlt2 : ¬ (k : Int) < k := by omega
        have HPOK : Hid (∀ d ∈ P, litCheck n d = 0) := hid fun d hd => HJ.out d (by rw [List.take_of_length_le (by rw [HN.out]; exact Nat.le_refl _)]; exact hd)
        clear HJ hlt hkN
        have hm1 := fun w : World => run_makeMap_plain (P := Try.prog) w 99
        have hm2 := fun w : World => run_makeMap_plain (P := Try.prog) w 100
        have hk1 : ∀ o1 o2 o3 o4 : Obj, ((((wx.alloc o1).alloc o2).alloc o3).alloc o4).cell? ⟨w.heap.size, 1, none⟩ = some (.slice acl F.length cf) := fun o1 o2 o3 o4 => below_keeps (box_below _ o4) _ _ (below_keeps (box_below _ o3) _ _ (below_keeps (box_below _ o2) _ _ (below_keeps (box_below _ o1) _ _ k1)))
        obtain ⟨M, hM⟩ : ∃ M, F.length = M := ⟨_, rfl⟩
        rw [hM] at hk1 v3 hFl ⊢
        have HM := hid hM
        clear hM
        go_wp2_with fail
        clear hm1 hm2 hk1
        generalize hwS : (((wx.alloc _).alloc _).alloc _).alloc _ = wS
        obtain ⟨hE, hC0⟩ := ck_start w wx wS n HBB.out hwS
        generalize wx.heap.size + 1 + 1 + 1 = b1 at hE hwS ⊢
        generalize wx.heap.size + 1 + 1 = bx at hE hC0 hwS ⊢
        generalize wx.heap.size + 1 = bk at hE hC0 hwS
        generalize wx.heap.size = bw at hE hC0 hwS
        have HE := hid hE
        have HC0 : Hid (CK w wS bx bw bk n (F.take 0) wS false) := hid (by rw [List.take_zero]; exact hC0)
        clear hE hC0 hwS k0 k1
        go_loopw [12, 45] (fun s12 s45 wr => ∃ (k : Nat) (b : Bool), s45 = .int .i64 k ∧ k ≤ M ∧ s12 = .bool b ∧ Hid (CK w wS bx bw bk n (F.take k) wr b)) (fun _ s45 _ => (M - (intOf s45)).toNat)
        case atStart => exact ⟨0, false, rfl, by omega, rfl, HC0⟩
        case round =>
          obtain ⟨j, b, rfl, hjM, rfl, HK⟩ := hrel
          by_cases hlt : j < M
          · have hlt2 : (j : Int) < M := by omega
            have hBr := HE.out.below HK.out.t
            obtain ⟨bf, off, c, ac, cc, hap, hcell, hcs, hck, hc64, hcl, hcc, hc0⟩ := HR.out.row HF.out.1 (k := j) (by rw [HM.out]; exact hlt)
            subst hap
            have hcell2 := below_keeps hBr _ _ hcell
            have hwk : IntKind.i64.wrap ((j : Int) + 1) = (j : Int) + 1 := IntWalk.i64_in _ (by omega)
            have hcm := List.mem_of_getElem? hck
            have htk : F.take (j + 1) = F.take j ++ [c] := by rw [List.take_add_one, hck]; rfl
            have HCC := hid (And.intro hcs (And.intro hcc (And.intro hc0 (And.intro (HV.out.2.1 c hcm) (And.intro (HV.out.2.2 c hcm) htk)))))
            clear hBr hcell hcs hck hc64 hcl hcc hc0 hcm htk
            cases b with
            | true =>
              go_wp2_with fail
              go_roundw
              case rel => exact ⟨j + 1, true, by simp, by omega, rfl, hid (by rw [HCC.out.2.2.2.2.2]; exact (HK.out.more c).al _)⟩
              case measure => simp [intOf]; omega
            | false =>
              have HCALL := hid (ck_add1 (b2 := wr.heap.size) HE.out (HK.out.al (.cells #[.slice ac c.length cc] 22)) hn20 (by rw [List.length_take]; omega) HCC.out.2.1 HCC.out.2.2.1 HCC.out.2.2.2.1 (by have := HCC.out.2.2.2.2.1; omega) HCC.out.1 (heap_alloc_new _ _))
              go_wp2_with fail
              refine HCALL.out.mono ?_
              rintro e w5 ⟨b', rfl, hck⟩
              have HCK := hid hck
              clear hck hcell2
              go_wp2_with fail
              go_roundw
              case rel => exact ⟨j + 1, b', by simp, by omega, rfl, hid (by rw [HCC.out.2.2.2.2.2]; exact HCK.out)⟩
              case measure => simp [intOf]; omega
          · have hje : j = M := by omega
            subst hje
            have hlt2 : ¬ (j : Int) < j := by omega
            have HC1 : Hid (CK w wS bx bw bk n (F ++ P.take 0) wr b) := hid (by
              have := HK.out
              rw [List.take_of_length_le (by rw [HM.out]; exact Nat.le_refl _)] at this
              rw [List.take_zero, List.append_nil]
              exact this)
            have HA0 : Hid (∀ (i : Nat) (c : List Int), i < 0 → P[i]? = some c → upF (F ++ P.take i) (negs c) = true) := hid fun i c hi => by omega
            clear HK hlt hjM
            go_wp2_with fail
            go_loopw [12, 57] (fun s12 s57 wr => ∃ (j : Nat) (b : Bool), s57 = .int .i64 j ∧ j ≤ k ∧ s12 = .bool b ∧ Hid (CK w wS bx bw bk n (F ++ P.take j) wr b) ∧ Hid (∀ (i : Nat) (c : List Int), i < j → P[i]? = some c → upF (F ++ P.take i) (negs c) = true)) (fun _ s57 _ => (k - (intOf s57)).toNat)
            case atStart => exact ⟨0, b, rfl, by omega, rfl, HC1, HA0⟩
            case round =>
              obtain ⟨i, b, rfl, hik, rfl, HK, HA⟩ := hrel
              by_cases hlt : i < k
              · have hlt2 : (i : Int) < k := by omega
                have hBr := HE.out.below HK.out.t
                obtain ⟨bf, off, c, ac, cc, hap, hcell, hcs, hck, hc64, hcl, hcc, hc0⟩ := HRP.out.row HF.out.2 (k := i) (by rw [HN.out]; exact hlt)
                subst hap
                have hcell2 := below_keeps hBr _ _ hcell
                have hwk : IntKind.i64.wrap ((i : Int) + 1) = (i : Int) + 1 := IntWalk.i64_in _ (by omega)
                have hcm := List.mem_of_getElem? hck
                have htk : P.take (i + 1) = P.take i ++ [c] := by rw [List.take_add_one, hck]; rfl
                have hlk := lits_of_check (HPOK.out c hcm)
                have HCC := hid (And.intro hcs (And.intro hcc (And.intro hc0 (And.intro hlk.1 (And.intro hlk.2 htk)))))
                have HP2 := hid hck
                have HFO : Hid (ClsOk n (F ++ P.take i)) := hid fun d hd => by
                  rcases List.mem_append.1 hd with q | q
                  · exact HV.out.2.1 d q
                  · exact (lits_of_check (HPOK.out d (List.mem_of_mem_take q))).1
                have hGl : (F ++ P.take i).length ≤ 2199023255550 := by rw [List.length_append, List.length_take, HM.out]; omega
                clear hBr hcell hcs hck hc64 hcl hcc hc0 hcm htk hlk
                cases b with
                | true =>
                  have HA2 : Hid (∀ (t : Nat) (d : List Int), t < i + 1 → P[t]? = some d → upF (F ++ P.take t) (negs d) = true) := hid fun t d ht hd => by
                    by_cases q : t < i
                    · exact HA.out t d q hd
                    · have : t = i := by omega
                      subst this
                      exact HK.out.imp d
                  clear hGl
                  go_wp2_with fail
                  go_roundw
                  case rel => exact ⟨i + 1, true, by simp, by omega, rfl, hid (by rw [HCC.out.2.2.2.2.2, ← List.append_assoc]; exact (HK.out.more c).al _), HA2⟩
                  case measure => simp [intOf]; omega
                | false =>
                  have HIMP := hid (ck_implies (cc := cc) (mc := c.length) HE.out HK.out (.slice ac c.length cc) 22 hn20 (by omega) rfl HCC.out.2.2.2.1 (by have := HCC.out.2.2.2.2.1; omega) HFO.out HCC.out.1)
                  have HGL := hid hGl
                  clear hGl
                  go_wp2_with fail
                  refine HIMP.out.mono ?_
                  rintro e w5 ⟨rfl, hck, hb5⟩
                  have HCK := hid hck
                  cases hup : upF (F ++ P.take i) (negs c) with
                  | true =>
                    have HA2 : Hid (∀ (t : Nat) (d : List Int), t < i + 1 → P[t]? = some d → upF (F ++ P.take t) (negs d) = true) := hid fun t d ht hd => by
                      by_cases q : t < i
                      · exact HA.out t d q hd
                      · have : t = i := by omega
                        subst this
                        have := HP2.out.symm.trans hd
                        injection this with this
                        rw [← this]
                        exact hup
                    have HCALL := hid (ck_add2 (b2 := wr.heap.size) HE.out HCK.out hn20 HGL.out HCC.out.2.1 HCC.out.2.2.1 HCC.out.2.2.2.1 (by have := HCC.out.2.2.2.2.1; omega) HCC.out.1 hb5)
                    clear hck hb5 hup hcell2
                    go_wp2_with fail
                    refine HCALL.out.mono ?_
                    rintro e w6 ⟨b', rfl, hck⟩
                    have HCK2 := hid hck
                    clear hck
                    go_wp2_with fail
                    go_roundw
                    case rel => exact ⟨i + 1, b', by simp, by omega, rfl, hid (by rw [HCC.out.2.2.2.2.2, ← List.append_assoc]; exact HCK2.out), HA2⟩
                    case measure => simp [intOf]; omega
                  | false =>
                    have HF2 : Hid (Q (.returned (.tuple #[.int .i64 i, .int .i64 0])) w5) := hid (by
                      rw [← HQ.out]
                      unfold rupR
                      rw [rupV_at (rupErr_ok HV.out.1 HPOK.out) HA.out HP2.out hup]
                      exact ⟨rfl, HE.out.below HCK.out.t⟩)
                    clear hck hb5 hup hcell2
                    go_wp2_with fail
                    exact HF2.out
              · have hie : i = k := by omega
                subst hie
                have hlt2 : ¬ (i : Int) < i := by omega
                have hall := rupV_all (n := n) (F := F) (P := P) (rupErr_ok HV.out.1 HPOK.out) fun t d ht hd => HA.out t d (by rw [← HN.out]; exact ht) hd
                have HF2 : Hid (∀ r : Int, r = (if P.getLast? = some [] then -1 else (i : Int)) → Q (.returned (.tuple #[.int .i64 r, .int .i64 0])) wr) := hid fun r hr => by
                  rw [← HQ.out]
                  unfold rupR
                  rw [hall, HN.out, hr]
                  exact ⟨rfl, HE.out.below HK.out.t⟩
                clear hall hlt hik
                by_cases hi0 : i = 0
                · have hz : ¬ (0 : Int) < i := by omega
                  have HL : Hid ((i : Int) = (if P.getLast? = some [] then -1 else (i : Int))) := hid (by
                    have : P = [] := List.eq_nil_of_length_eq_zero (by rw [HN.out]; exact hi0)
                    rw [this]; rfl)
                  clear hi0
                  go_wp2_with fail
                  exact HF2.out _ HL.out
                · have hz : (0 : Int) < i := by omega
                  have hBr := HE.out.below HK.out.t
                  obtain ⟨bf, off, c, ac, cc, hap, hcell, hcs, hck, hc64, hcl, hcc, hc0⟩ := HRP.out.row HF.out.2 (k := i - 1) (by rw [HN.out]; omega)
                  subst hap
                  have hcell2 := below_keeps hBr _ _ hcell
                  have hwi : IntKind.i64.wrap ((i : Int) - 1) = (i : Int) - 1 := IntWalk.i64_in _ (by omega)
                  have HLST : Hid (P.getLast? = some c) := hid (by rw [List.getLast?_eq_getElem?, HN.out]; exact hck)
                  have hge : (0 : Int) ≤ (i : Int) - 1 := by omega
                  have hlt3 : (i : Int) - 1 < i := by omega
                  have htn : ((i : Int) - 1).toNat = i - 1 := by omega
                  by_cases hcz : c.length = 0
                  · have hd : ((c.length : Int) == 0) = true := by simp [hcz]
                    have HL : Hid ((-1 : Int) = (if P.getLast? = some [] then -1 else (i : Int))) := hid (by
                      rw [HLST.out, List.eq_nil_of_length_eq_zero hcz, if_pos rfl])
                    clear hcz hi0 hcell hcs hck hc64 hcl hcc hc0
                    go_wp2_with fail
                    exact HF2.out _ HL.out
                  · have hd : ((c.length : Int) == 0) = false := by simp; intro h; exact hcz (by simp [h])
                    have HL : Hid ((i : Int) = (if P.getLast? = some [] then -1 else (i : Int))) := hid (by
                      rw [HLST.out, if_neg (by intro h; injection h with h; exact hcz (by simp [h]))])
                    clear hcz hi0 hcell hcs hck hc64 hcl hcc hc0
                    go_wp2_with fail
                    exact HF2.out _ HL.out
  · have HE : Hid (Q (.returned (.tuple #[.int .i64 0, .int .i64 e1])) ((w.alloc (fbox n acl F.length cf)).alloc (fbox n acl F.length cf))) := hid (by
      rw [← HQ.out]
      unfold rupR
      rw [rupV_err (rupErr_cnf he1 h0 P) h0]
      exact ⟨rfl, below_al (box_below _ _) (by simp only [size_al]; omega) _⟩)
    have hz' : (e1 != 0) = true := by simpa using h0
    have HB := hid (hr.below (box_below w (fbox n acl F.length cf)))
    have HC := hid he1
    clear he1 h0 hr hf hp hrp
    go_enter Try.func60, Try.ntmps60
    go_wp2_with fail
    refine (cnf_CheckR n acl F _ cf e1 _ HC.out rfl HF.out.1 HB.out hFl).mono ?_
    rintro e wx ⟨rfl, rfl⟩
    go_wp2_with fail
    exact HE.out

end Go.Proofs.Ytfofabbnbmieoaa.Ord

/- The contracts of rup.Implied and of the reference's Implied. -/
namespace Go.Proofs.Ytfofabbnbmieoaa.Ord
open Go.RowKit Go.Conc

attribute [local go_sem ↓] Go.wp_at_zero Go.wp_at_succ
attribute [local go_sem ↓ high] app_mark

end Go.Proofs.Ytfofabbnbmieoaa.Ord

/- The contract of the reference's Implied. -/
namespace Go.Proofs.Ytfofabbnbmieoaa.Ord
open Go.RowKit Go.Conc

attribute [local go_sem ↓] Go.wp_at_zero Go.wp_at_succ
attribute [local go_sem ↓ high] app_mark

end Go.Proofs.Ytfofabbnbmieoaa.Ord

/- Rows of the call's own, of clauses that lie elsewhere. -/
namespace Go.Proofs.Ytfofabbnbmieoaa.Ord
open Go.RowKit Go.Conc

/-- A row that the call made behind the world w0: each of its rows was there then. -/
structure OwnRs (w0 w : World) (v : Value) (f : List (List Int)) : Prop where
  bel : Below w0.heap.size w0 w
  row : ∃ us, w.ownsRow w0.heap.size 22 1 v f.length us ∧ ∀ (j : Nat) (c : List Int), f[j]? = some c → ∃ u, us[j]? = some u ∧ SlI w0 u c

theorem OwnRs.nil (w0 w : World) (h : Below w0.heap.size w0 w) : OwnRs w0 w (.slice none 0 0) [] := ⟨h, [], World.ownsRow_nil _ _ _ _, by simp⟩

theorem SlI.far {w0 w : World} {u : Value} {c : List Int} (h : SlI w0 u c) (hb : Below w0.heap.size w0 w) : SlI w u c := h.below hb

theorem OwnRs.shape {w0 w : World} {v : Value} {f : List (List Int)} (h : OwnRs w0 w v f) : ∃ a c, v = .slice a f.length c ∧ f.length ≤ c ∧ (a = none → c = 0) ∧ Rws w a f := by
  obtain ⟨us, h1, h2⟩ := h.row
  obtain ⟨a, c, rfl⟩ := own_lenV' h1
  obtain ⟨-, q2, q3⟩ := own_cap h1
  have hsl := own_slv h1
  refine ⟨a, c, rfl, q2, fun e => (q3 e).1, fun j d hd => ?_⟩
  obtain ⟨u, hu, hs⟩ := h2 j d hd
  obtain ⟨b, off, e, hc⟩ := hsl j u hu
  exact ⟨b, off, u, e, hc, hs.below h.bel⟩

theorem OwnRs.grow {w0 w w' : World} {v : Value} {f : List (List Int)} (h : OwnRs w0 w v f) (hb : Below w.heap.size w w') : OwnRs w0 w' v f := by
  obtain ⟨us, h1, h2⟩ := h.row
  exact ⟨h.bel.trans (hb.mono h.bel.size), us, own_below h1 hb, h2⟩

/-- Such a row behind an append of one row. -/
theorem OwnRs.push {w0 w wx w6 : World} {v v6 u : Value} {f : List (List Int)} {c : List Int} (h : OwnRs w0 w v f) (hx : Below w.heap.size w wx) (hu : SlI w0 u c) {us : List Value} (h1 : w.ownsRow w0.heap.size 22 1 v f.length us) (h2 : ∀ (j : Nat) (c : List Int), f[j]? = some c → ∃ u, us[j]? = some u ∧ SlI w0 u c) (ho : w6.ownsRow w0.heap.size 22 1 v6 (f.length + 1) (us ++ [u])) (hg : wx.grownBy w6 v.ownBlock) : OwnRs w0 w6 v6 (f ++ [c]) := by
  refine ⟨below_app h.bel h.bel.size hx h1 hg, us ++ [u], by rw [List.length_append]; exact ho, fun j d hd => ?_⟩
  have hul : us.length = f.length := by have := h1.1; simpa using this
  by_cases q : j < f.length
  · rw [List.getElem?_append_left q] at hd
    obtain ⟨x, e1, e2⟩ := h2 j d hd
    exact ⟨x, by rw [List.getElem?_append_left (by omega)]; exact e1, e2⟩
  · rw [List.getElem?_append_right (by omega)] at hd
    have hl := (List.getElem?_eq_some_iff.1 hd).1
    simp at hl
    have hj : j = f.length := by omega
    subst hj
    simp at hd
    subst hd
    exact ⟨u, by rw [List.getElem?_append_right (by omega)]; simp [hul], hu⟩

/-- The same in a world where the block of the call's own was set. -/
theorem OwnRs.set {w0 w : World} {v : Value} {f : List (List Int)} (h : OwnRs w0 w v f) {b o : Nat} {cs : Array Value} {t : TypeId} {m : Nat × Nat} (hb : w.heap[b]? = some (.cells cs t m)) (ht : t ≠ 22) (hB : w0.heap.size ≤ b) (u : Value) : OwnRs w0 (w.setCell ⟨b, o, none⟩ u) v f := by
  obtain ⟨us, h1, h2⟩ := h.row
  exact ⟨h.bel.setCell hB u, us, own_setO h1 hb ht _ _, h2⟩

end Go.Proofs.Ytfofabbnbmieoaa.Ord

/- Plain facts for the law CnfNormal: Norm's clauses in place of a formula's. -/
namespace Go.Proofs.Ytfofabbnbmieoaa
open Go.RowKit

end Go.Proofs.Ytfofabbnbmieoaa

/- The contract of the reference's Check of proofs. -/
namespace Go.Proofs.Ytfofabbnbmieoaa.Ord
open Go.RowKit Go.Conc

attribute [local go_sem ↓] Go.wp_at_zero Go.wp_at_succ
attribute [local go_sem ↓ high] app_mark

end Go.Proofs.Ytfofabbnbmieoaa.Ord

/- The law's own functions. -/
namespace Go.Proofs.Ytfofabbnbmieoaa.Ord
open Go.RowKit

end Go.Proofs.Ytfofabbnbmieoaa.Ord

/- The functions of the laws of layer 5. -/
namespace Go.Proofs.Ytfofabbnbmieoaa.Ord
open Go.RowKit

theorem rup_CheckN (n : Int) (acl : Option Addr) (F : List (List Int)) (mf cf : Nat) (apl : Option Addr) (P : List (List Int)) (mp cp : Nat) (i g : Int) (w : World) (hv : rupV n F P = (i, g)) (hmf : mf = F.length) (hmp : mp = P.length) (hf : FOk F) (hr : Rws w acl F) (hp : FOk P) (hrp : Rws w apl P) (hFl : F.length ≤ 9223372036854775807) (hPl : P.length ≤ 2199022206975) :
    Calls Try.prog 60 #[.agg #[.int .i64 n, .slice acl mf cf], .slice apl mp cp] w fun e w' => e = .returned (.tuple #[.int .i64 i, .int .i64 g]) ∧ Below w.heap.size w w' := by
  have := rup_Check n acl F mf cf apl P mp cp w hmf hmp hf hr hp hrp hFl hPl
  unfold rupR at this
  rwa [hv] at this

end Go.Proofs.Ytfofabbnbmieoaa.Ord

/- The contracts of law07's right and answer; Solve's with its results under names. -/
namespace Go.Proofs.Ytfofabbnbmieoaa.Ord
open Go.RowKit

theorem solve_SolveN (n : Nat) (acl : Option Addr) (F : List (List Int)) (mf cf : Nat) (b : Int) (w : World) (hmf : mf = F.length) (hf : FOk F) (hr : Rws w acl F) (hc : cnfCheck n F = 0) (hn : n ≤ 25) (hb0 : 0 ≤ b) (hb1 : b ≤ 1099511627776) :
    Calls Try.prog 33 #[.agg #[.int .i64 n, .slice acl mf cf], .int .i64 b] w fun e w' => ∃ (ans : Int) (M : List Bool) (P : List (List Int)) (am ap : Option Addr) (ml pl cm cp : Nat), e = .returned (.tuple #[.agg #[.int .u8 ans, .slice am ml cm, .slice ap pl cp], .int .i64 0]) ∧ ml = M.length ∧ pl = P.length ∧ SolOk n F ans M P ∧ (b = 0 ∨ F = [] → ans ≠ 0) ∧ SlV w' am (bools M) ∧ Rws w' ap P ∧ Below w.heap.size w w' :=
  (solve_Solve n acl F mf cf b w hmf hf hr hc hn hb0 hb1).mono fun _ _ ⟨ans, M, P, am, ap, cm, cp, h1, h2, h3, h4, h5, _, _, h6⟩ => ⟨ans, M, P, am, ap, M.length, P.length, cm, cp, h1, rfl, rfl, h2, h3, h4, h5, h6⟩

/-- With no budget. -/
theorem solve_Solve0 (n : Nat) (acl : Option Addr) (F : List (List Int)) (mf cf : Nat) (A : Int) (w : World) (hA : ansV n F = A) (hmf : mf = F.length) (hf : FOk F) (hr : Rws w acl F) (hc : cnfCheck n F = 0) (hn : n ≤ 25) :
    Calls Try.prog 33 #[.agg #[.int .i64 n, .slice acl mf cf], .int .i64 0] w fun e w' => ∃ (M : List Bool) (P : List (List Int)) (am ap : Option Addr) (ml pl cm cp : Nat), e = .returned (.tuple #[.agg #[.int .u8 A, .slice am ml cm, .slice ap pl cp], .int .i64 0]) ∧ ml = M.length ∧ pl = P.length ∧ SolOk n F A M P ∧ SlV w' am (bools M) ∧ Rws w' ap P ∧ Below w.heap.size w w' :=
  (solve_SolveN n acl F mf cf 0 w hmf hf hr hc hn (by decide) (by decide)).mono fun _ _ ⟨ans, M, P, am, ap, ml, pl, cm, cp, h1, h2, h3, h4, h5, h6⟩ => by
    have e := h4.ans (h5 (Or.inl rfl))
    rw [hA] at e
    subst e
    exact ⟨M, P, am, ap, ml, pl, cm, cp, h1, h2, h3, h4, h6⟩

theorem first_ok {n : Nat} {F : List (List Int)} {M : List Bool} (hc : cnfCheck n F = 0) (hm : M.length = n) (h : firstIdx M F = -1) : cnfFirst n F M = (-1, 0) := by
  rw [cnfFirst_idx hc (by simp [hm]), h]

theorem rup_ok {n : Nat} {F P : List (List Int)} (hc : cnfCheck n F = 0) (hn : n ≤ 25) (hi : rupI F P = -1) (hP : ClsOk n P) (hl : ∀ c ∈ P, c.length ≤ n) : rupV n F P = (-1, 0) := by
  have he : rupErr n F P = 0 := by
    unfold rupErr
    rw [if_pos hc]
    have : P.find? (fun c => litCheck n c != 0) = none := List.find?_eq_none.2 fun c hcP => by
      have h1 : litCheck n c = 0 := by
        unfold litCheck
        rw [if_neg (by omega), if_neg (by have := hl c hcP; omega), if_neg]
        intro ha
        obtain ⟨x, hx, hb⟩ := List.any_eq_true.1 ha
        have h2 := hP c hcP x hx
        unfold LitOk at h2
        unfold badLit at hb
        simp only [Bool.or_eq_true, beq_iff_eq, decide_eq_true_eq] at hb
        omega
      simp [h1]
    rw [this]
  unfold rupV
  rw [if_pos he]
  unfold rupI at hi
  rw [hi]

theorem fok_cls {n : Nat} {P : List (List Int)} (hn : n ≤ 25) (hP : ClsOk n P) (hl : ∀ c ∈ P, c.length ≤ n) : FOk P := fun c hc => ⟨fun x hx => by have := hP c hc x hx; unfold LitOk at this; unfold I64; omega, by have := hl c hc; omega⟩

/-- The cells of two boxes. -/
theorem boxes2 (w : World) (n ans : Int) (acl am ap : Option Addr) (mf cf ml cm pl cp : Nat) {w2 : World} (hw2 : (w.alloc (.cells #[.int .i64 n, .slice acl mf cf] 34 (0, 0))).alloc (.cells #[.int .u8 ans, .slice am ml cm, .slice ap pl cp] 51 (0, 0)) = w2) :
    Below w.heap.size w w2 ∧ w2.heap.size = w.heap.size + 2 ∧ w2.heap[w.heap.size]? = some (.cells #[.int .i64 n, .slice acl mf cf] 34 (0, 0)) ∧ w2.heap[w.heap.size + 1]? = some (.cells #[.int .u8 ans, .slice am ml cm, .slice ap pl cp] 51 (0, 0)) := by
  subst hw2
  refine ⟨below_al (box_below w _) (by simp only [size_al]; omega) _, by simp only [size_al], ?_, ?_⟩
  · rw [heap_alloc_old _ _ (by simp only [size_al]; omega)]; exact heap_alloc_new w _
  · have := heap_alloc_new (w.alloc (.cells #[.int .i64 n, .slice acl mf cf] 34 (0, 0))) (.cells #[.int .u8 ans, .slice am ml cm, .slice ap pl cp] 51 (0, 0))
    rw [size_al] at this
    exact this

set_option maxRecDepth 100000 in
set_option maxHeartbeats 4000000 in
/-- A result that says nothing. -/
theorem law07_right0 (n : Int) (acl : Option Addr) (mf cf : Nat) (am ap : Option Addr) (cm cp : Nat) (w : World) :
    Calls Try.prog 35 #[.agg #[.int .i64 n, .slice acl mf cf], .agg #[.int .u8 0, .slice am 0 cm, .slice ap 0 cp]] w fun e w' => e = .returned (.bool true) ∧ Below w.heap.size w w' := by
  obtain ⟨w2, hw2⟩ : ∃ t, (w.alloc (.cells #[.int .i64 n, .slice acl mf cf] 34 (0, 0))).alloc (.cells #[.int .u8 0, .slice am 0 cm, .slice ap 0 cp] 51 (0, 0)) = t := ⟨_, rfl⟩
  obtain ⟨hb2, hs2, z0, z1⟩ := boxes2 w n 0 acl am ap mf cf 0 cm 0 cp hw2
  have c0 := fun i => cell_of_row w2 (w.heap.size + 1) i _ _ _ z1
  have HB := hid hb2
  clear hb2 hs2 z0 z1
  go_enter Try.func35, Try.ntmps35
  go_wp2_with fail
  go_ret
  exact ⟨rfl, HB.out⟩

set_option maxRecDepth 100000 in
set_option maxHeartbeats 4000000 in
theorem law07_right (n : Nat) (acl : Option Addr) (F : List (List Int)) (mf cf : Nat) (ans : Int) (M : List Bool) (P : List (List Int)) (am ap : Option Addr) (ml pl cm cp : Nat) (w : World) (hmf : mf = F.length) (hml : ml = M.length) (hpl : pl = P.length) (hf : FOk F) (hr : Rws w acl F) (h0 : cnfCheck n F = 0) (hn : n ≤ 25) (hok : SolOk n F ans M P) (hM : SlV w am (bools M)) (hP : Rws w ap P) :
    Calls Try.prog 35 #[.agg #[.int .i64 n, .slice acl mf cf], .agg #[.int .u8 ans, .slice am ml cm, .slice ap pl cp]] w fun e w' => e = .returned (.bool true) ∧ Below w.heap.size w w' := by
  have hFl := (cnf_valid h0).2.2.1
  obtain ⟨w2, hw2⟩ : ∃ t, (w.alloc (.cells #[.int .i64 n, .slice acl mf cf] 34 (0, 0))).alloc (.cells #[.int .u8 ans, .slice am ml cm, .slice ap pl cp] 51 (0, 0)) = t := ⟨_, rfl⟩
  obtain ⟨hb2, hs2, z0, z1⟩ := boxes2 w n ans acl am ap mf cf ml cm pl cp hw2
  have HB := hid (And.intro hb2 hs2)
  cases hok with
  | sat hm1 hm2 =>
    have hpl0 : pl = 0 := hpl
    subst hpl0
    clear hpl
    have HC := hid (cnf_First n acl F mf cf am M ml cm w2 hmf hml hf (hr.below hb2) (hM.below hb2) (by omega) (by have := hm1; omega))
    have HC : Hid (Calls Try.prog 22 #[.agg #[.int .i64 n, .slice acl mf cf], .slice am ml cm] w2 fun x w' => x = .returned (.tuple #[.int .i64 (-1), .int .i64 0]) ∧ Below w2.heap.size w2 w') := hid (by
      have h := HC.out
      rw [first_ok h0 hm1 hm2] at h
      exact h)
    have c0 := fun i => cell_of_row w2 w.heap.size i _ _ _ z0
    have c1 := fun i => cell_of_row w2 (w.heap.size + 1) i _ _ _ z1
    have Z1 := hid z1
    clear hb2 hs2 z0 z1 hf hr hM hP h0 hm1 hm2 hml hmf
    go_enter Try.func35, Try.ntmps35
    go_wp2_with fail
    refine HC.out.mono ?_
    rintro e w3 ⟨rfl, hb3⟩
    have k1 := fun i => cell_of_row w3 (w.heap.size + 1) i _ _ _ ((hb3.block _ (by have := HB.out.2; omega)).trans Z1.out)
    have HB3 := hid (HB.out.1.trans (hb3.mono (by have := HB.out.2; omega)))
    clear hb3 c0 c1
    go_wp2_with fail
    go_ret
    exact ⟨rfl, HB3.out⟩
  | unsat h1 h2 h3 h4 =>
    have hml0 : ml = 0 := hml
    subst hml0
    clear hml
    have hn3 : 3 ^ n ≤ 847288609443 := Nat.le_trans (Nat.pow_le_pow_right (by decide) hn) (by decide)
    have HC := hid (rup_CheckN n acl F mf cf ap P pl cp (-1) 0 w2 (rup_ok h0 hn h1 h2 h3) hmf hpl hf (hr.below hb2) (fok_cls hn h2 h3) (hP.below hb2) (by omega) (by omega))
    have c0 := fun i => cell_of_row w2 w.heap.size i _ _ _ z0
    have c1 := fun i => cell_of_row w2 (w.heap.size + 1) i _ _ _ z1
    have Z1 := hid z1
    clear hb2 hs2 z0 z1 hf hr hM hP h0 h1 h2 h3 h4 hpl hmf hn3
    go_enter Try.func35, Try.ntmps35
    go_wp2_with fail
    refine HC.out.mono ?_
    rintro e w3 ⟨rfl, hb3⟩
    have k1 := fun i => cell_of_row w3 (w.heap.size + 1) i _ _ _ ((hb3.block _ (by have := HB.out.2; omega)).trans Z1.out)
    have HB3 := hid (HB.out.1.trans (hb3.mono (by have := HB.out.2; omega)))
    clear hb3 c0 c1
    go_wp2_with fail
    go_ret
    exact ⟨rfl, HB3.out⟩
  | unk =>
    have hml0 : ml = 0 := hml
    have hpl0 : pl = 0 := hpl
    subst hml0 hpl0
    exact law07_right0 n acl mf cf am ap cm cp w

end Go.Proofs.Ytfofabbnbmieoaa.Ord

/- The contracts of law07's answer and known. -/
namespace Go.Proofs.Ytfofabbnbmieoaa.Ord
open Go.RowKit

/-- One box more. -/
theorem box1 (w : World) (ob : Obj) {w2 : World} (h : w.alloc ob = w2) : Below w.heap.size w w2 ∧ w2.heap.size = w.heap.size + 1 ∧ w2.heap[w.heap.size]? = some ob := by
  subst h
  exact ⟨box_below _ _, by simp only [size_al], heap_alloc_new _ _⟩

set_option maxRecDepth 100000 in
set_option maxHeartbeats 4000000 in
theorem law07_answer (n : Nat) (acl : Option Addr) (F : List (List Int)) (mf cf : Nat) (A : Int) (w : World) (hA : ansV n F = A) (hmf : mf = F.length) (hf : FOk F) (hr : Rws w acl F) (h0 : cnfCheck n F = 0) (hn : n ≤ 25) :
    Calls Try.prog 32 #[.agg #[.int .i64 n, .slice acl mf cf]] w fun e w' => e = .returned (.int .u8 A) ∧ Below w.heap.size w w' := by
  obtain ⟨w1, hw1⟩ : ∃ t, w.alloc (.cells #[.int .i64 n, .slice acl mf cf] 34 (0, 0)) = t := ⟨_, rfl⟩
  obtain ⟨hb1, hs1, z1⟩ := box1 w _ hw1
  have c1 := fun i => cell_of_row w1 w.heap.size i _ _ _ z1
  have HS := hid (solve_Solve0 n acl F mf cf A w1 hA hmf hf (hr.below hb1) h0 hn)
  have HF := hid (And.intro hmf (And.intro hf (And.intro (hr.below hb1) (And.intro h0 (And.intro hn hA)))))
  have H1 := hid (And.intro hb1 (And.intro hs1 z1))
  clear hb1 hs1 z1 hA hmf hf hr h0 hn
  go_enter Try.func32, Try.ntmps32
  go_wp2_with fail
  refine HS.out.mono ?_
  rintro e w2 ⟨M, P, am, ap, ml, pl, cm, cp, rfl, hml, hpl, hok, hM, hP, hb2⟩
  obtain ⟨w3, hw3⟩ : ∃ t, w2.alloc (.cells #[.int .u8 A, .slice am ml cm, .slice ap pl cp] 51 (0, 0)) = t := ⟨_, rfl⟩
  obtain ⟨hb3, hs3, z3⟩ := box1 w2 _ hw3
  have hb23 := hb2.trans (hb3.mono hb2.size)
  have y1 := (hb23.block w.heap.size (by have := H1.out.2.1; omega)).trans H1.out.2.2
  have d1 := fun i => cell_of_row w3 w.heap.size i _ _ _ y1
  have d3 := fun i => cell_of_row w3 w2.heap.size i _ _ _ z3
  have HR := hid (law07_right n acl F mf cf A M P am ap ml pl cm cp w3 HF.out.1 hml hpl HF.out.2.1 (HF.out.2.2.1.below hb23) HF.out.2.2.2.1 HF.out.2.2.2.2.1 hok (hM.below hb3) (hP.below hb3))
  have H3 := hid (And.intro (H1.out.1.trans (hb23.mono (by have := H1.out.2.1; omega))) (And.intro hs3 (And.intro z3 (Nat.le_trans H1.out.1.size hb23.size))))
  clear hml hpl hok hM hP hb2 hb3 hs3 z3 hb23 y1 c1 HS
  go_wp2_with fail
  refine HR.out.mono ?_
  rintro e w4 ⟨rfl, hb4⟩
  have y3 := (hb4.block w2.heap.size (by have := H3.out.2.1; omega)).trans H3.out.2.2.1
  have d4 := fun i => cell_of_row w4 w2.heap.size i _ _ _ y3
  have HB := hid (H3.out.1.trans (hb4.mono H3.out.2.2.2))
  clear hb4 y3 d1 d3 HR
  go_wp2_with fail
  go_ret
  exact ⟨rfl, HB.out⟩

def F3 : List (List Int) := [[1, 2], [-1, 3], [-2, -3]]
def F4 : List (List Int) := [[1, 2], [1, -2], [-1, 2], [-1, -2]]

theorem ans_F3 : ansV 3 F3 = 1 := ansV_sat ⟨[true, false, true], rfl, by decide⟩
theorem ans_F4 : ansV 2 F4 = 2 := ansV_un (by
  rintro ⟨m, hm, hh⟩
  match m, hm with
  | [a, b], _ =>
    cases a <;> cases b <;> revert hh <;> decide)

theorem chk_F3 : cnfCheck 3 F3 = 0 := by decide
theorem chk_F4 : cnfCheck 2 F4 = 0 := by decide

/-- Blocks laid one after the other. -/
def allocs (w : World) (os : List Obj) : World := os.foldl World.alloc w

theorem allocs_spec : ∀ (os : List Obj) (w : World), Below w.heap.size w (allocs w os) ∧ (allocs w os).heap.size = w.heap.size + os.length ∧ ∀ (i : Nat) (o : Obj), os[i]? = some o → (allocs w os).heap[w.heap.size + i]? = some o
  | [], w => ⟨Below.refl _ _, rfl, fun i o h => by simp at h⟩
  | o :: os, w => by
    obtain ⟨h1, h2, h3⟩ := allocs_spec os (w.alloc o)
    obtain ⟨b1, b2, b3⟩ := box1 w o rfl
    have e : allocs w (o :: os) = allocs (w.alloc o) os := rfl
    rw [e]
    refine ⟨b1.trans (h1.mono b1.size), by rw [h2, b2, List.length_cons]; omega, fun i x hx => ?_⟩
    cases i with
    | zero =>
      rw [List.getElem?_cons_zero] at hx
      rw [← hx, Nat.add_zero, h1.block _ (by omega)]
      exact b3
    | succ i =>
      rw [List.getElem?_cons_succ] at hx
      have := h3 i x hx
      rw [b2] at this
      rw [show w.heap.size + (i + 1) = w.heap.size + 1 + i by omega]
      exact this

theorem rws_blocks {w : World} {b : Nat} {vs : List Value} {f : List (List Int)} (hb : w.heap[b]? = some (.cells vs.toArray 22 (0, 0))) (h : ∀ (j : Nat) (c : List Int), f[j]? = some c → ∃ g, vs[j]? = some (.slice (some ⟨g, 0, none⟩) c.length c.length) ∧ w.heap[g]? = some (.cells (ints c).toArray 3 (0, 0))) : Rws w (some ⟨b, 0, none⟩) f := fun j c hj => by
  obtain ⟨g, h1, h2⟩ := h j c hj
  exact ⟨b, 0, _, rfl, by rw [Nat.zero_add, fit_cell hb j]; exact h1, sli_of_block h2 rfl⟩

/-- The blocks of known's formulas. -/
def knownO (s : Nat) : List Obj := [.cells (ints [1, 2]).toArray 3 (0, 0), .cells (ints [-1, 3]).toArray 3 (0, 0), .cells (ints [-2, -3]).toArray 3 (0, 0), .cells #[.slice (some ⟨s, 0, none⟩) 2 2, .slice (some ⟨s + 1, 0, none⟩) 2 2, .slice (some ⟨s + 2, 0, none⟩) 2 2] 22 (0, 0), .cells #[.int .i64 3, .slice (some ⟨s + 3, 0, none⟩) 3 3] 34 (0, 0),
  .cells (ints [1, 2]).toArray 3 (0, 0), .cells (ints [1, -2]).toArray 3 (0, 0), .cells (ints [-1, 2]).toArray 3 (0, 0), .cells (ints [-1, -2]).toArray 3 (0, 0), .cells #[.slice (some ⟨s + 5, 0, none⟩) 2 2, .slice (some ⟨s + 6, 0, none⟩) 2 2, .slice (some ⟨s + 7, 0, none⟩) 2 2, .slice (some ⟨s + 8, 0, none⟩) 2 2] 22 (0, 0), .cells #[.int .i64 2, .slice (some ⟨s + 9, 0, none⟩) 4 4] 34 (0, 0)]

theorem fok_F3 : FOk F3 := fun c hc => by
  simp only [F3, List.mem_cons, List.not_mem_nil, or_false] at hc
  rcases hc with rfl | rfl | rfl <;> exact ⟨by simp [I64], by simp⟩
theorem fok_F4 : FOk F4 := fun c hc => by
  simp only [F4, List.mem_cons, List.not_mem_nil, or_false] at hc
  rcases hc with rfl | rfl | rfl | rfl <;> exact ⟨by simp [I64], by simp⟩

set_option maxRecDepth 100000 in
set_option maxHeartbeats 4000000 in
theorem law07_known (w : World) : Calls Try.prog 30 #[] w fun e w' => e = .returned (.bool true) ∧ Below w.heap.size w w' := by
  obtain ⟨w1, hw1⟩ : ∃ t, allocs w (knownO w.heap.size) = t := ⟨_, rfl⟩
  obtain ⟨hb1, hs1, hg1⟩ := allocs_spec (knownO w.heap.size) w
  rw [hw1] at hb1 hs1 hg1
  have hs1 : w1.heap.size = w.heap.size + 11 := hs1
  have hr3 : Rws w1 (some ⟨w.heap.size + 3, 0, none⟩) F3 := rws_blocks (hg1 3 _ rfl) fun j c hj => by
    match j, hj with
    | 0, hj => injection hj with hj; subst hj; exact ⟨_, rfl, hg1 0 _ rfl⟩
    | 1, hj => injection hj with hj; subst hj; exact ⟨_, rfl, hg1 1 _ rfl⟩
    | 2, hj => injection hj with hj; subst hj; exact ⟨_, rfl, hg1 2 _ rfl⟩
    | j + 3, hj => cases hj
  have hr4 : Rws w1 (some ⟨w.heap.size + 9, 0, none⟩) F4 := rws_blocks (hg1 9 _ rfl) fun j c hj => by
    match j, hj with
    | 0, hj => injection hj with hj; subst hj; exact ⟨_, rfl, hg1 5 _ rfl⟩
    | 1, hj => injection hj with hj; subst hj; exact ⟨_, rfl, hg1 6 _ rfl⟩
    | 2, hj => injection hj with hj; subst hj; exact ⟨_, rfl, hg1 7 _ rfl⟩
    | 3, hj => injection hj with hj; subst hj; exact ⟨_, rfl, hg1 8 _ rfl⟩
    | j + 4, hj => cases hj
  have z3 := hg1 4 _ rfl
  have z4 := hg1 10 _ rfl
  have HS3 := hid (solve_Solve0 3 (some ⟨w.heap.size + 3, 0, none⟩) F3 3 3 1 w1 ans_F3 rfl fok_F3 hr3 chk_F3 (by decide))
  have H1 := hid (And.intro hb1 (And.intro hs1 (And.intro hr3 (And.intro hr4 (And.intro z3 z4)))))
  have HW1 := hid hw1
  have hpos : w.heap.size + 4 < w1.heap.size ∧ w.heap.size + 10 < w1.heap.size := by omega
  have HP := hid hpos
  clear hb1 hg1 hr3 hr4 z3 z4 hw1 hpos
  go_enter Try.func30, Try.ntmps30
  go_wp2_with fail
  change Calls Try.prog _ _ (allocs w (knownO w.heap.size)) _
  rw [HW1.out]
  refine HS3.out.mono ?_
  rintro e w2 ⟨M3, P3, am3, ap3, ml3, pl3, cm3, cp3, rfl, hml3, hpl3, hok3, hM3, hP3, hb2⟩
  obtain ⟨w3, hw3⟩ : ∃ t, w2.alloc (.cells #[.int .u8 1, .slice am3 ml3 cm3, .slice ap3 pl3 cp3] 51 (0, 0)) = t := ⟨_, rfl⟩
  obtain ⟨hb3, hs3, z3⟩ := box1 w2 _ hw3
  have hb13 := hb2.trans (hb3.mono hb2.size)
  have HS4 := hid (solve_Solve0 2 (some ⟨w.heap.size + 9, 0, none⟩) F4 4 4 2 w3 ans_F4 rfl fok_F4 (H1.out.2.2.2.1.below hb13) chk_F4 (by decide))
  have c4 := fun i => cell_of_row w3 (w.heap.size + 10) i _ _ _ ((hb13.block _ HP.out.2).trans H1.out.2.2.2.2.2)
  have c4a := fun i => cell_of_row w2 (w.heap.size + 10) i _ _ _ ((hb2.block _ HP.out.2).trans H1.out.2.2.2.2.2)
  have HA := hid (And.intro hml3 (And.intro hpl3 (And.intro hok3 (And.intro (hM3.below hb3) (And.intro (hP3.below hb3) (And.intro hb13 (And.intro hs3 z3)))))))
  clear hml3 hpl3 hok3 hM3 hP3 hb2 hb3 hb13 hs3 z3 HS3
  go_wp2_with fail
  refine HS4.out.mono ?_
  rintro e w4 ⟨M4, P4, am4, ap4, ml4, pl4, cm4, cp4, rfl, hml4, hpl4, hok4, hM4, hP4, hb4⟩
  obtain ⟨w5, hw5⟩ : ∃ t, w4.alloc (.cells #[.int .u8 2, .slice am4 ml4 cm4, .slice ap4 pl4 cp4] 51 (0, 0)) = t := ⟨_, rfl⟩
  obtain ⟨hb5, hs5, z5⟩ := box1 w4 _ hw5
  have hb35 := hb4.trans (hb5.mono hb4.size)
  have hb15 := HA.out.2.2.2.2.2.1.trans (hb35.mono HA.out.2.2.2.2.2.1.size)
  have y3 := (hb15.block _ HP.out.1).trans H1.out.2.2.2.2.1
  have y4 := (hb15.block _ HP.out.2).trans H1.out.2.2.2.2.2
  have yr := (hb35.block w2.heap.size (by have := HA.out.2.2.2.2.2.2.1; omega)).trans HA.out.2.2.2.2.2.2.2
  have HR3 := hid (law07_right 3 (some ⟨w.heap.size + 3, 0, none⟩) F3 3 3 1 M3 P3 am3 ap3 ml3 pl3 cm3 cp3 w5 rfl HA.out.1 HA.out.2.1 fok_F3 (H1.out.2.2.1.below hb15) chk_F3 (by decide) HA.out.2.2.1 (HA.out.2.2.2.1.below hb35) (HA.out.2.2.2.2.1.below hb35))
  have HR4 := hid (fun w6 (hb : Below w5.heap.size w5 w6) => law07_right 2 (some ⟨w.heap.size + 9, 0, none⟩) F4 4 4 2 M4 P4 am4 ap4 ml4 pl4 cm4 cp4 w6 rfl hml4 hpl4 fok_F4 ((H1.out.2.2.2.1.below hb15).below hb) chk_F4 (by decide) hok4 ((hM4.below hb5).below hb) ((hP4.below hb5).below hb))
  have d3 := fun i => cell_of_row w5 (w.heap.size + 4) i _ _ _ y3
  have d4 := fun i => cell_of_row w5 (w.heap.size + 10) i _ _ _ y4
  have dr := fun i => cell_of_row w5 w2.heap.size i _ _ _ yr
  have ds := fun i => cell_of_row w5 w4.heap.size i _ _ _ z5
  have HB := hid (And.intro (H1.out.1.trans (hb15.mono (by have := H1.out.2.1; omega))) (And.intro y4 (And.intro z5 (And.intro hs5 (show w.heap.size + 10 < w5.heap.size from Nat.lt_of_lt_of_le HP.out.2 hb15.size)))))
  clear hml4 hpl4 hok4 hM4 hP4 hb4 hb5 hb35 hb15 hs5 y3 y4 yr z5 c4 c4a HS4
  go_wp2_with fail
  refine HR3.out.mono ?_
  rintro e w6 ⟨rfl, hb6⟩
  have k4 := fun i => cell_of_row w6 (w.heap.size + 10) i _ _ _ ((hb6.block _ HB.out.2.2.2.2).trans HB.out.2.1)
  have ks := fun i => cell_of_row w6 w4.heap.size i _ _ _ ((hb6.block _ (by have := HB.out.2.2.2.1; omega)).trans HB.out.2.2.1)
  have HR5 := hid (HR4.out w6 hb6)
  have HB6 := hid (HB.out.1.trans (hb6.mono (by have := HB.out.1.size; omega)))
  clear hb6 d3 d4 dr ds HR3 HR4
  go_wp2_with fail
  refine HR5.out.mono ?_
  rintro e w7 ⟨rfl, hb7⟩
  have HB7 := hid (HB6.out.trans (hb7.mono HB6.out.size))
  clear hb7 k4 ks HR5
  go_wp2_with fail
  go_ret
  exact ⟨rfl, HB7.out⟩

end Go.Proofs.Ytfofabbnbmieoaa.Ord

/- Plain: what Units answers is closed. -/
namespace Go.Proofs.Ytfofabbnbmieoaa

theorem byVar_abs (n : Nat) (p : Int → Bool) (hp : ∀ a, p a = true → p (-a) = false) : (byVar n p).Pairwise fun a b => a.natAbs < b.natAbs := by
  induction n with
  | zero => exact List.Pairwise.nil
  | succ n ih =>
    rw [byVar_succ]
    refine List.pairwise_append.2 ⟨ih, ?_, fun a ha c hc => ?_⟩
    · cases h1 : p ((n : Int) + 1) with
      | true => rw [hp _ h1]; simp
      | false => cases h2 : p (-((n : Int) + 1)) <;> simp
    · have h1 := (mem_byVar.1 ha).1
      unfold LitOk at h1
      have hcs : c.natAbs = n + 1 := by
        rcases List.mem_append.1 hc with hc | hc
        · split at hc
          · simp at hc; omega
          · cases hc
        · split at hc
          · simp at hc; omega
          · cases hc
      omega

end Go.Proofs.Ytfofabbnbmieoaa

/- Plain facts about the reference's way to find out whether a formula has a model. -/
namespace Go.Proofs.Ytfofabbnbmieoaa.Ord

/-- The formula has a model in which the assumptions hold. -/
def HasA (n : Nat) (F : List (List Int)) (A : List Int) : Prop := ∃ m : List Bool, m.length = n ∧ (∀ c ∈ F, holdsB m c = true) ∧ ∀ a ∈ A, litHolds m a = true

open Classical in
/-- What Has answers. -/
noncomputable def hasAB (n : Nat) (F : List (List Int)) (A : List Int) : Bool := decide (HasA n F A)

theorem hasAB_true {n : Nat} {F : List (List Int)} {A : List Int} : hasAB n F A = true ↔ HasA n F A := by simp [hasAB]
theorem hasAB_false {n : Nat} {F : List (List Int)} {A : List Int} : hasAB n F A = false ↔ ¬ HasA n F A := by simp [hasAB]

/-- What is known where nothing fails. -/
structure UpK (n : Nat) (F : List (List Int)) (A U : List Int) : Prop where
  mem : ∀ a, a ∈ U ↔ Der F A a
  cons : ∀ a ∈ U, -a ∉ U
  kok : ∀ a ∈ U, LitOk n a
  asc : U.Pairwise fun x y => x.natAbs < y.natAbs
  good : ¬ Bad F A

theorem up_k {n : Nat} {F : List (List Int)} {A : List Int} (hF : ClsOk n F) (hA : ∀ a ∈ A, LitOk n a) (hb : upF F A = false) : UpK n F A (upL n F A) := by
  have hgood := upF_false.1 hb
  have hm : ∀ a, a ∈ upL n F A ↔ Der F A a := fun a => mem_upL hF hA hgood
  refine ⟨hm, fun a ha hn => hgood (.inl ⟨a, (hm a).1 ha, (hm _).1 hn⟩), fun a ha => der_ok hF hA ((hm a).1 ha), ?_, hgood⟩
  unfold upL
  rw [if_neg hgood]
  refine byVar_abs n _ (fun a ha => ?_)
  simp only [decide_eq_true_eq, decide_eq_false_iff_not] at ha ⊢
  exact fun hn => hgood (.inl ⟨a, ha, hn⟩)

section
variable {n : Nat} {F : List (List Int)} {A U : List Int} {i : Nat}

theorem UpK.nod (h : UpK n F A U) : U.Nodup := h.asc.imp fun {x y} hxy e => by subst e; omega

theorem UpK.len (h : UpK n F A U) : U.length ≤ n := lits_le h.nod h.cons h.kok

/-- The places that were gone through. -/
def Pfx (U : List Int) (i : Nat) : Prop := ∀ (t : Nat) (x : Int), t < i → U[t]? = some x → x.natAbs = t + 1

theorem UpK.free (h : UpK n F A U) (hp : Pfx U i) (hi : ∀ x, U[i]? = some x → x.natAbs ≠ i + 1) : ∀ x ∈ U, x.natAbs ≠ i + 1 := fun x hx e => by
  obtain ⟨j, hj⟩ := List.mem_iff_getElem?.1 hx
  have hjl := (List.getElem?_eq_some_iff.1 hj).1
  have hord : ∀ (s t : Nat) (y z : Int), s < t → U[s]? = some y → U[t]? = some z → y.natAbs < z.natAbs := fun s t y z hst hy hz => by
    obtain ⟨h1, e1⟩ := List.getElem?_eq_some_iff.1 hy
    obtain ⟨h2, e2⟩ := List.getElem?_eq_some_iff.1 hz
    rw [← e1, ← e2]
    exact List.pairwise_iff_getElem.1 h.asc s t h1 h2 hst
  rcases Nat.lt_trichotomy j i with q | q | q
  · have := hp j x q hj; omega
  · subst q; exact hi x hj e
  · obtain ⟨y, hy⟩ : ∃ y, U[i]? = some y := ⟨_, List.getElem?_eq_getElem (by omega)⟩
    have h1 := hord i j y x q hy hj
    have h2 : i ≤ y.natAbs := by
      rcases Nat.eq_zero_or_pos i with z | z
      · omega
      · obtain ⟨u, hu⟩ : ∃ u, U[i - 1]? = some u := ⟨_, List.getElem?_eq_getElem (by omega)⟩
        have h3 := hp (i - 1) u (by omega) hu
        have h4 := hord (i - 1) i u y (by omega) hu hy
        omega
    have h5 := (h.kok y (List.mem_of_getElem? hy)).1
    have h6 : y.natAbs ≠ i + 1 := hi y hy
    have h7 : i = 0 ∨ i < y.natAbs := by
      rcases Nat.eq_zero_or_pos i with z | z
      · exact .inl z
      · obtain ⟨u, hu⟩ : ∃ u, U[i - 1]? = some u := ⟨_, List.getElem?_eq_getElem (by omega)⟩
        have h3 := hp (i - 1) u (by omega) hu
        have h4 := hord (i - 1) i u y (by omega) hu hy
        omega
    omega

theorem has_fails (h : upF F A = true) : ¬ HasA n F A := fun ⟨_, _, h1, h2⟩ => bad_no_model h1 h2 (upF_true.1 h)

open Classical in
theorem up_places (hF : ClsOk n F) (hA : ∀ a ∈ A, LitOk n a) (hb : upF F A = false) (hl : (upL n F A).length = n) : ∀ (j : Nat) (a : Int), (upL n F A)[j]? = some a → a.natAbs = j + 1 := by
  have hk := up_k hF hA hb
  have e : upL n F A = byVar n fun a => decide (Der F A a) := by
    unfold upL
    rw [if_neg hk.good]
  have hfull := (byVar_full (fun a => decide (Der F A a)) (fun a ha => by
    simp only [decide_eq_true_eq, decide_eq_false_iff_not] at ha ⊢
    exact fun hn => hk.good (.inl ⟨a, ha, hn⟩)) n).2
  rw [e] at hl ⊢
  exact hfull hl

theorem nodup_sub_len : ∀ {xs ys : List Int}, xs.Nodup → (∀ a ∈ xs, a ∈ ys) → xs.length ≤ ys.length
  | [], _, _, _ => Nat.zero_le _
  | x :: xs, ys, hn, hs => by
    rw [List.nodup_cons] at hn
    have hx := hs x (by simp)
    have h1 := nodup_sub_len (xs := xs) (ys := ys.erase x) hn.2 fun a ha => (List.mem_erase_of_ne fun e => hn.1 (by rw [← e]; exact ha)).2 (hs a (List.mem_cons_of_mem _ ha))
    have h2 := List.length_erase_of_mem hx
    have h3 := List.length_pos_iff.2 (List.ne_nil_of_mem hx)
    simp only [List.length_cons]
    omega

theorem has_full (hF : ClsOk n F) (hA : ∀ a ∈ A, LitOk n a) (hb : upF F A = false) (hl : (upL n F A).length = n) : HasA n F A := by
  have hk := up_k hF hA hb
  have h1 := up_model hF rfl hb hl
  refine ⟨(upL n F A).map fun x => decide (0 < x), by simpa using hl, firstIdx_all h1, fun a ha => ?_⟩
  have haU := (hk.mem a).2 (.asm ha)
  have hat := up_places hF hA hb hl
  obtain ⟨j, hj⟩ := List.mem_iff_getElem?.1 haU
  have h2 := hat j a hj
  unfold litHolds
  rw [h2]
  simp [hj]

/-- A variable that is not known is tried both ways. -/
theorem has_split {v : Nat} (hF : ClsOk n F) (hA : ∀ a ∈ A, LitOk n a) (hb : upF F A = false) (hv1 : 1 ≤ v) (hvn : v ≤ n) : HasA n F A ↔ HasA n F (upL n F A ++ [(v : Int)]) ∨ HasA n F (upL n F A ++ [-(v : Int)]) := by
  have hk := up_k hF hA hb
  constructor
  · rintro ⟨m, hm, h1, h2⟩
    have h3 : ∀ a ∈ upL n F A, litHolds m a = true := fun a ha => der_holds h1 h2 ((hk.mem a).1 ha)
    have happ : ∀ z : Int, litHolds m z = true → HasA n F (upL n F A ++ [z]) := fun z hz => ⟨m, hm, h1, fun a ha => by
      rcases List.mem_append.1 ha with q | q
      · exact h3 a q
      · rw [List.mem_singleton.1 q]; exact hz⟩
    cases hq : litHolds m (v : Int) with
    | true => exact .inl (happ _ hq)
    | false => exact .inr (happ _ (lit_total hm (by unfold LitOk; omega) hq))
  · have hback : ∀ z : Int, HasA n F (upL n F A ++ [z]) → HasA n F A := fun z ⟨m, hm, h1, h2⟩ => ⟨m, hm, h1, fun a ha => h2 a (List.mem_append_left _ ((hk.mem a).2 (.asm ha)))⟩
    rintro (h | h)
    · exact hback _ h
    · exact hback _ h

/-- How far the search is from its end. -/
noncomputable def hasM (n : Nat) (F : List (List Int)) (A : List Int) : Nat := if upF F A = true then 0 else n + 1 - (upL n F A).length

/-- With a variable more the search is nearer to its end. -/
theorem hasM_lt {v : Nat} {z : Int} (hF : ClsOk n F) (hA : ∀ a ∈ A, LitOk n a) (hb : upF F A = false) (hz : z.natAbs = v) (hzn : LitOk n z) (hfree : ∀ x ∈ upL n F A, x.natAbs ≠ v) : hasM n F (upL n F A ++ [z]) < hasM n F A := by
  have hk := up_k hF hA hb
  have hl := hk.len
  have e1 : hasM n F A = n + 1 - (upL n F A).length := by unfold hasM; rw [hb]; rfl
  rw [e1]
  unfold hasM
  split
  · omega
  · rename_i hb2
    have hb2 : upF F (upL n F A ++ [z]) = false := by simpa using hb2
    have hA2 : ∀ a ∈ upL n F A ++ [z], LitOk n a := fun a ha => by
      rcases List.mem_append.1 ha with q | q
      · exact hk.kok a q
      · rw [List.mem_singleton.1 q]; exact hzn
    have hk2 := up_k hF hA2 hb2
    have hsub : ∀ a ∈ upL n F A ++ [z], a ∈ upL n F (upL n F A ++ [z]) := fun a ha => (hk2.mem a).2 (.asm ha)
    have hnd : (upL n F A ++ [z]).Nodup := List.nodup_append.2 ⟨hk.nod, by simp, fun x hx y hy => by
      have : y = z := by simpa using hy
      rintro rfl
      exact hfree x hx (this ▸ hz)⟩
    have h3 := nodup_sub_len hnd hsub
    simp only [List.length_append, List.length_singleton] at h3
    omega

end

end Go.Proofs.Ytfofabbnbmieoaa.Ord

/- Regions that draw their order: two operations in either order. -/
namespace Go.Proofs.Ytfofabbnbmieoaa.Ord
open Go Go.RowKit

section
variable {P : Program} {ops : Array Oper} {Q : Exit → Act → World → Prop} {md : Region.Mode} {S : World → Prop}

/-- Two operations in either order. -/
theorem wpR.two {Z : List Nat} (i j : Nat) {x y : Oper} {r r' : List Oper} {k : Nat} {l : Array Bool} {a : Act} {w : World} (Good : Value → Value → World → Prop) (hi' : ops.toList.drop i = x :: r) (hj' : ops.toList.drop j = y :: r') (hr : (Region.ready md ops l == [i, j]) = true) (hri : (Region.ready md ops (l.setIfInBounds i true) == [j]) = true) (hrj : (Region.ready md ops (l.setIfInBounds j true) == [i]) = true) (hap : apB ops i j = true) (hx : Region.noSelect ops = true) (hwx : Region.wanted x (yielded ops a.tmps) = true) (hwy : Region.wanted y (yielded ops a.tmps) = true)
    (h1 : ∃ v w1 u w2, (execOp a.eval x).run P w = .ok (.value v) w1 ∧ (execOp a.eval y).run P w1 = .ok (.value u) w2 ∧ Good v u w2 ∧ (S w → S w1) ∧ (S w1 → S w2))
    (h2 : ∃ u w1 v w2, (execOp a.eval y).run P w = .ok (.value u) w1 ∧ (execOp a.eval x).run P w1 = .ok (.value v) w2 ∧ Good v u w2 ∧ (S w → S w1) ∧ (S w1 → S w2))
    (H : ∀ v u w', Good v u w' → wpR P md ops Q S Z k ((l.setIfInBounds i true).setIfInBounds j true) ((a.put x.dst v).put y.dst u) w') : wpR P md ops Q S Z (k + 1 + 1) l a w := by
  have hi := at_drop hi'
  have hj := at_drop hj'
  rw [beq_iff_eq] at hr hri hrj
  have hap' := hap
  unfold apB at hap'
  rw [hi, hj] at hap'
  dsimp only at hap'
  rw [Bool.and_eq_true] at hap'
  obtain ⟨p1, p2, p3⟩ := Oper.apart_spec hap'.1
  have nx : ∀ cs b, x.op ≠ .select cs b := fun cs b => Region.noSelect_spec hx i x cs b hi
  have ny : ∀ cs b, y.op ≠ .select cs b := fun cs b => Region.noSelect_spec hx j y cs b hj
  refine ⟨fun e => (by rw [hr] at e; cases e), fun t ht => ?_⟩
  rw [hr] at ht
  rcases List.mem_cons.1 ht with rfl | ht
  · obtain ⟨v, w1, u, w2, q1, q2, q3, q4, q5⟩ := h1
    unfold wpOp
    simp only [hi]
    rw [if_pos hwx]
    refine .inl ?_
    unfold Oper.wp
    rw [q1]
    refine ⟨fun _ => q4, fun e => (by rw [hri] at e; cases e), fun t ht => ?_⟩
    rw [hri] at ht
    have e := List.mem_singleton.1 ht
    subst e
    unfold wpOp
    simp only [hj]
    rw [wanted_put y a x.dst v p1, if_pos hwy]
    refine .inl ?_
    unfold Oper.wp
    rw [execOp_put y ny a x.dst v p1, q2]
    exact ⟨fun _ => q5, H v u w2 q3⟩
  · have e := List.mem_singleton.1 ht
    subst e
    obtain ⟨u, w1, v, w2, q1, q2, q3, q4, q5⟩ := h2
    unfold wpOp
    simp only [hj]
    rw [if_pos hwy]
    refine .inl ?_
    unfold Oper.wp
    rw [q1]
    refine ⟨fun _ => q4, fun e => (by rw [hrj] at e; cases e), fun s hs => ?_⟩
    rw [hrj] at hs
    have e := List.mem_singleton.1 hs
    subst e
    unfold wpOp
    simp only [hi]
    rw [wanted_put x a y.dst u p3, if_pos hwx]
    refine .inl ?_
    unfold Oper.wp
    rw [execOp_put x nx a y.dst u p3, q2]
    refine ⟨fun _ => q5, ?_⟩
    rw [set_true_comm, ← Act.put_comm a v u p2]
    exact H v u w2 q3

end

end Go.Proofs.Ytfofabbnbmieoaa.Ord
