/- The walk of PropGrows. -/
import Derived.Test.YtfgaglgaofceiaaPropA
import Derived.Test.YtfgaglgaofceiaaPGrows
import Derived.Test.YtfgaglgaofceiaaFitR
namespace Go.Proofs.Ytfgaglgaofceiaa.Ord
open Go.RowKit

theorem fok_takeG {f : List (List Int)} (h : FOk f) (k : Nat) : FOk (f.take k) := fun c hc => h c (List.mem_of_mem_take hc)

theorem rws_takeG {w : World} {a : Option Addr} {f : List (List Int)} (h : Rws w a f) (k : Nat) : Rws w a (f.take k) := by
  intro j c hj
  rw [List.getElem?_take] at hj
  split at hj
  · exact h j c hj
  · cases hj

theorem slv_takeG {w : World} {a : Option Addr} {xs : List Int} (h : SlV w a (ints xs)) (k : Nat) : SlV w a (ints (xs.take k)) := by
  intro j c hj
  rw [show ints (xs.take k) = (ints xs).take k by simp [ints, List.map_take]] at hj
  rw [List.getElem?_take] at hj
  split at hj
  · exact h j c hj
  · cases hj

theorem check_takeG {n : Int} {f : List (List Int)} (h : cnfCheck n f = 0) (k : Nat) : cnfCheck n (f.take k) = 0 := by
  unfold cnfCheck at *
  split at h
  · simp at h
  split at h
  · simp at h
  rename_i h1 h2
  rw [if_neg h1, if_neg (by simp; omega)]
  cases hf : (f.take k).find? (fun c => litCheck n c != 0) with
  | none => rfl
  | some c =>
    exfalso
    have hc := List.find?_some hf
    have hm := List.mem_of_find?_eq_some hf
    cases hf2 : f.find? (fun c => litCheck n c != 0) with
    | none => exact absurd hc (by simpa using List.find?_eq_none.1 hf2 c (List.mem_of_mem_take hm))
    | some d =>
      rw [hf2] at h
      have := List.find?_some hf2
      simp at this
      exact this h

theorem law02_FitG (n : Int) (v1 : Value) (l : List (List Int)) (w : World) (hfit : fitB l = true) (hn0 : 0 ≤ n) (hn1 : n ≤ 255) (h1 : ArgR .i8 w v1 l) :
    Calls Try.prog 29 #[.int .u8 n, v1] w fun e w' =>
      ∃ a c, e = .returned (.tuple #[.agg #[.int .i64 (fitV n), .slice a (fitF n l).length c], .bool true]) ∧ (fitF n l).length ≤ c ∧ Rws w' a (fitF n l) ∧ Below w.heap.size w w' := by
  refine (law02_FitT n v1 l w hfit hn0 hn1 h1).mono ?_
  rintro e w' ⟨a, c, rfl, ho, hr, hb⟩
  obtain ⟨a', c', e1, e2, _, _⟩ := ho.shape
  injection e1 with e3 e4 e5
  subst e3 e5
  exact ⟨_, _, rfl, e2, hr, hb⟩

theorem slice_headG {P : Program} {t e : TypeId} {a : Option Addr} {n c : Nat} {k : Int} (ht : P.underlying t = some (.slice e)) (hsz : ∀ wx, (sizeOf e).run P wx = .ok 1 wx) (h0 : 0 ≤ k) (h1 : k ≤ c) :
    ∀ wx, (Instr.slice t (.slice a n c) none (some (.int .i64 k)) none).run P wx = .ok (.slice a k.toNat c) wx := by
  intro wx
  have he : P.elem t = e := by simp [Program.elem, ht]
  rw [run_slice_h (P := P) wx t a n c (by rw [he]; exact ht) .i64 k h0 h1, he, hsz]
  cases a <;> simp [sliced, Result.andThen, Addr.add]

theorem argI_below {k : IntKind} {w w' : World} {v : Value} {xs : List Int} (h : ArgI k w v xs) (hb : Below w.heap.size w w') : ArgI k w' v xs := by
  obtain ⟨a, c, h1, h2, h3, h4, h5, h6⟩ := h
  exact ⟨a, c, h1, h2, h3, h4, h5.below hb, h6⟩

/-- Units, of a formula and a list of assumptions that are known to be right. -/
structure UOk (n : Nat) (F : List (List Int)) (A : List Int) : Prop where
  n1 : n ≤ 1048576
  f : FOk F
  fl : F.length ≤ 1048576
  al : A.length ≤ 4294967296
  cl : ∀ c ∈ F, c.length ≤ 1048576
  chk : cnfCheck n F = 0
  cok : ClsOk n F
  aok : ∀ a ∈ A, LitOk n a

theorem prop_UnitsG (n : Nat) (acl : Option Addr) (F : List (List Int)) (mf cf : Nat) (aas : Option Addr) (A : List Int) (ma cas : Nat) (U : List Int) (b : Bool) (w : World) (hU : upL n F A = U) (hb : upF F A = b) (h : UOk n F A) (hmf : mf = F.length) (hma : ma = A.length) (hr : Rws w acl F) (hs : SlV w aas (ints A)) :
    Calls Try.prog 31 #[.agg #[.int .i64 n, .slice acl mf cf], .slice aas ma cas] w fun e w' => Below w.heap.size w w' ∧ ∃ ar cr, e = .returned (.tuple #[.slice ar U.length cr, .bool b, .int .i64 0]) ∧ SlV w' ar (ints U) := by
  have := prop_Units n acl F mf cf aas A ma cas w h.n1 hmf hma h.f hr hs h.fl h.al h.cl h.chk h.cok h.aok
  unfold unitsR at this
  rwa [hU, hb] at this

set_option maxRecDepth 100000 in
set_option maxHeartbeats 4000000 in
theorem walk_PropGrows (x0 : Int) (v1 : Value) (x1 : List (List Int)) (v2 : Value) (x2 : List Int) (x3 x4 : Int) (w : World) (w0 : (Lit.int .u8 x0).wf = true) (w1 : ArgR .i8 w v1 x1) (w2 : ArgI .i8 w v2 x2) (w3 : (Lit.int .u8 x3).wf = true) (w4 : (Lit.int .u8 x4).wf = true) :
    Calls Try.prog 11 #[.int .u8 x0, v1, v2, .int .u8 x3, .int .u8 x4] w fun e w' => e = .returned (.bool true) ∧ Below w.heap.size w w' := by
  have hb0 := bounds_u8 w0
  have hb3' := bounds_u8 w3
  have hb4' := bounds_u8 w4
  have HA := hid w1
  have HL := hid w2
  clear w0 w1 w2 w3 w4
  cases hfit : fitB x1 with
  | false =>
    have HFI := hid hfit
    clear hfit
    go_enter Try.func11, Try.ntmps11
    go_wp2_with fail
    refine (law02_FitF x0 v1 x1 w HFI.out hb0.1 hb0.2 HA.out).mono ?_
    rintro e w3 ⟨rfl, hb3⟩
    have HB3 := hid hb3
    clear hb3
    go_wp2_with (go_at_call 30; refine (law04_known _).mono ?_; rintro e w' ⟨rfl, hb⟩)
    go_ret
    exact ⟨rfl, (below_al HB3.out HB3.out.size _).trans (hb.mono (by have := HB3.out.size; simp only [size_al]; omega))⟩
  | true =>
    have hV := fitV_range x0
    obtain ⟨n, hn⟩ : ∃ n : Nat, fitV x0 = (n : Int) := ⟨(fitV x0).toNat, by omega⟩
    have hn1 : 1 ≤ n ∧ n ≤ 12 := by omega
    obtain ⟨F, hF⟩ : ∃ F, fitF x0 x1 = F := ⟨_, rfl⟩
    have hfl : F.length ≤ 30 := by rw [← hF, fitF_length]; exact (fitB_bounds hfit).1
    obtain ⟨A, hA⟩ : ∃ A, asmL n x2 = A := ⟨_, rfl⟩
    have hal : A.length ≤ 12 := hA ▸ asmL_length _ _
    have hcl : ∀ c ∈ F, c.length ≤ 1048576 := fun c hc => by
      rw [← hF] at hc
      simp only [fitF, List.mem_map] at hc
      obtain ⟨c', hc', rfl⟩ := hc
      have := fitC_length (fitV x0) c'
      have := (fitB_bounds hfit).2 c' hc'
      omega
    have hcok : ClsOk n F := hF ▸ clsok_fit x0 hn.symm x1
    have haok : ∀ a ∈ A, LitOk n a := hA ▸ asmL_ok hn1.1 x2
    have hok : UOk n F A := ⟨by omega, hF ▸ fok_fit hfit, by omega, by omega, hcl, by rw [← hn, ← hF]; exact cnfCheck_fit hfit, hcok, haok⟩
    obtain ⟨d, hd⟩ : ∃ d, d = x4.toNat % (F.length + 1) := ⟨_, rfl⟩
    have hdl : d ≤ F.length := by have := Nat.mod_lt x4.toNat (show 0 < F.length + 1 by omega); omega
    have hrem4 : x4.tmod ((F.length : Int) + 1) = (d : Int) := by
      rw [hd, Int.tmod_eq_emod_of_nonneg hb4'.1, Int.natCast_emod, Int.toNat_of_nonneg hb4'.1]; simp
    obtain ⟨k, hk⟩ : ∃ k, k = x3.toNat % (A.length + 1) := ⟨_, rfl⟩
    have hkl : k ≤ A.length := by have := Nat.mod_lt x3.toNat (show 0 < A.length + 1 by omega); omega
    have hrem3 : x3.tmod ((A.length : Int) + 1) = (k : Int) := by
      rw [hk, Int.tmod_eq_emod_of_nonneg hb3'.1, Int.natCast_emod, Int.toNat_of_nonneg hb3'.1]; simp
    have hok2 : UOk n (F.take d) (A.take k) := ⟨by omega, fok_takeG hok.f d, by simp; omega, by simp; omega, fun c hc => hcl c (List.mem_of_mem_take hc), check_takeG hok.chk d, fun c hc => hcok c (List.mem_of_mem_take hc), fun a ha => haok a (List.mem_of_mem_take ha)⟩
    obtain ⟨U, hU⟩ : ∃ U, upL n (F.take d) (A.take k) = U := ⟨_, rfl⟩
    obtain ⟨bu, hbu⟩ : ∃ b, upF (F.take d) (A.take k) = b := ⟨_, rfl⟩
    obtain ⟨V, hVV⟩ : ∃ V, upL n F A = V := ⟨_, rfl⟩
    obtain ⟨bv, hbv⟩ : ∃ b, upF F A = b := ⟨_, rfl⟩
    have hul : U.length ≤ 24 := by have := upL_length n (F.take d) (A.take k); rw [hU] at this; omega
    have hvl : V.length ≤ 24 := by have := upL_length n F A; rw [hVV] at this; omega
    have htd : (F.take d).length = d := by simp; omega
    have htk : (A.take k).length = k := by simp; omega
    have HTD := hid htd
    have HTK := hid htk
    have HN := hid hn
    have HF := hid hF
    have HAE := hid hA
    have HOK := hid hok
    have HOK2 := hid hok2
    have HU := hid (And.intro hU hbu)
    have HV := hid (And.intro hVV hbv)
    have HFI := hid hfit
    have hm1 : bu = true → bv = true := fun h => hbv ▸ upF_mono d k (hbu.trans h)
    have hm2 : bv = false → (∀ a ∈ U, a ∈ V) ∧ UOk n F V ∧ upL n F V = V ∧ upF F V = false := fun h => by
      have h9 := hbv.trans h
      have h8 := up_again hcok haok (upF_false.1 h9)
      rw [hVV] at h8
      refine ⟨?_, ⟨hok.n1, hok.f, hok.fl, by omega, hok.cl, hok.chk, hok.cok, hVV ▸ upL_ok⟩, h8.1, h8.2⟩
      rw [← hU, ← hVV]
      exact upL_mono hcok haok d k h9
    have HM1 := hid hm1
    have HM2 := hid hm2
    clear hm1 hm2 hfit hF hA hcl hcok haok hok hok2 hU hbu hVV hbv htd htk hd hk hn hV
    go_enter Try.func11, Try.ntmps11
    go_wp2_with fail
    refine (law02_FitG x0 v1 x1 w HFI.out hb0.1 hb0.2 HA.out).mono ?_
    rw [HN.out, HF.out]
    rintro e w3 ⟨a, c, rfl, hfc, hr3, hb3⟩
    have HB3 := hid hb3
    have HR3 := hid (hr3.below (box_below w3 (fbox n a F.length c)))
    have hz3 := hb3.size
    have HL3 := hid (argI_below HL.out (hb3.trans ((box_below w3 (fbox n a F.length c)).mono hz3)))
    have HSH := hid (slice_headG (P := Try.prog) (t := 32) (e := 22) (a := a) (n := F.length) (c := c) (k := d) Try.underlying32 (fun wx => by kernel_rfl) (by omega) (by omega))
    clear hb3 hr3
    go_wp2_with fail
    refine (law04_assumed n a F.length c v2 x2 _ (by omega) HL3.out).mono ?_
    rw [HAE.out]
    rintro e w4 ⟨va, rfl, hsl4, hb4⟩
    obtain ⟨a4, c4, rfl, hc4, -, hs4⟩ := hsl4
    have HB4 := hid ((below_al HB3.out hz3 _).trans (hb4.mono (by simp only [size_al]; omega)))
    have HR4 := hid (HR3.out.below hb4)
    have hq0 := hb4.cell (p := ⟨w3.heap.size, 0, none⟩) (by simp only [size_al]; omega)
    have hq1 := hb4.cell (p := ⟨w3.heap.size, 1, none⟩) (by simp only [size_al]; omega)
    have hp0 : w4.cell? ⟨w3.heap.size, 0, none⟩ = some (.int .i64 n) := by rw [hq0]; exact fit_cell (vs := [.int .i64 n, .slice a F.length c]) (heap_alloc_new w3 _) 0
    have hp1 : w4.cell? ⟨w3.heap.size, 1, none⟩ = some (.slice a F.length c) := by rw [hq1]; exact fit_cell (vs := [.int .i64 n, .slice a F.length c]) (heap_alloc_new w3 _) 1
    have HS4 := hid hs4
    have hz4 := hb4.size
    simp only [size_al] at hz4
    have hrun := HSH.out
    have hrun2 := slice_headG (P := Try.prog) (t := 22) (e := 3) (a := a4) (n := A.length) (c := c4) (k := k) Try.underlying22 (fun wx => by kernel_rfl) (by omega) (by omega)
    have ew3 : IntKind.i64.wrap x3 = x3 := IntWalk.i64_in _ (by omega)
    have ew4 : IntKind.i64.wrap x4 = x4 := IntWalk.i64_in _ (by omega)
    have ek : IntKind.i64.wrap (k : Int) = (k : Int) := IntWalk.i64_in _ (by omega)
    have ed : IntKind.i64.wrap (d : Int) = (d : Int) := IntWalk.i64_in _ (by omega)
    have ea : IntKind.i64.wrap ((A.length : Int) + 1) = (A.length : Int) + 1 := IntWalk.i64_in _ (by omega)
    have ef : IntKind.i64.wrap ((F.length : Int) + 1) = (F.length : Int) + 1 := IntWalk.i64_in _ (by omega)
    have za : ¬ (A.length : Int) + 1 = 0 := by omega
    have zf : ¬ (F.length : Int) + 1 = 0 := by omega
    clear hb4 hs4 hq0 hq1
    have hp0a := fun o => below_keeps (box_below w4 o) _ _ hp0
    have hp1a := fun o => below_keeps (box_below w4 o) _ _ hp1
    go_wp2_with fail
    go_region
    go_wp2_with fail
    have hb5 : Below w4.heap.size w4 (w4.alloc (.cells #[.int .i64 n, .slice a d c] 34)).drew := (box_below w4 _).drew
    generalize (w4.alloc (.cells #[.int .i64 n, .slice a d c] 34)).drew = w5 at hb5 ⊢
    have HB5 := hid (HB4.out.trans (hb5.mono HB4.out.size))
    have HR5 := hid (HR4.out.below hb5)
    have HS5 := hid (HS4.out.below hb5)
    have hp50 := below_keeps hb5 _ _ hp0
    have hp51 := below_keeps hb5 _ _ hp1
    clear hb5 hp0 hp1 hp0a hp1a hrun hrun2 ew3 ew4 ek ed ea ef za zf hrem3 hrem4
    refine (prop_UnitsG n a (F.take d) d c a4 (A.take k) k c4 U bu w5 HU.out.1 HU.out.2 HOK2.out HTD.out.symm HTK.out.symm (rws_takeG HR5.out d) (slv_takeG HS5.out k)).mono ?_
    rintro e w6 ⟨hb6, au, cu, rfl, hsu⟩
    have HB6 := hid (HB5.out.trans (hb6.mono HB5.out.size))
    have HR6 := hid (HR5.out.below hb6)
    have HS6 := hid (HS5.out.below hb6)
    have HU6 := hid hsu
    have hp60 := below_keeps hb6 _ _ hp50
    have hp61 := below_keeps hb6 _ _ hp51
    clear hb6 hsu hp50 hp51
    go_wp2_with fail
    refine (prop_UnitsG n a F F.length c a4 A A.length c4 V bv w6 HV.out.1 HV.out.2 HOK.out rfl rfl HR6.out HS6.out).mono ?_
    rintro e w7 ⟨hb7, av, cv, rfl, hsv⟩
    have HB7 := hid (HB6.out.trans (hb7.mono HB6.out.size))
    have HR7 := hid (HR6.out.below hb7)
    have HU7 := hid (HU6.out.below hb7)
    have HV7 := hid hsv
    have hp70 := below_keeps hb7 _ _ hp60
    have hp71 := below_keeps hb7 _ _ hp61
    clear hb7 hsv hp60 hp61
    cases bv with
    | true =>
      cases bu with
      | true =>
        go_wp2_with (go_at_call 30; refine (law04_known _).mono ?_; rintro e w' ⟨rfl, hb⟩)
        go_ret
        exact ⟨rfl, HB7.out.trans (hb.mono HB7.out.size)⟩
      | false =>
        go_wp2_with (go_at_call 30; refine (law04_known _).mono ?_; rintro e w' ⟨rfl, hb⟩)
        go_ret
        exact ⟨rfl, HB7.out.trans (hb.mono HB7.out.size)⟩
    | false =>
      cases bu with
      | true => exact absurd (HM1.out rfl) (by decide)
      | false =>
        go_wp2_with fail
        go_loopw [22] (fun s22 wr => ∃ j : Nat, s22 = .int .i64 j ∧ j ≤ U.length ∧ Hid (Below w7.heap.size w7 wr)) (fun s22 _ => (U.length - (intOf s22)).toNat)
        case atStart => exact ⟨0, rfl, Nat.zero_le _, hid (Below.refl _ _)⟩
        case round =>
          obtain ⟨j, rfl, hj, HBR⟩ := hrel
          by_cases hlt : j < U.length
          · obtain ⟨bo, oo, y, rfl, hcy, hyj⟩ := (HU7.out.below HBR.out).int hlt
            have hwj : IntKind.i64.wrap ((j : Int) + 1) = (j : Int) + 1 := IntWalk.i64_in _ (by omega)
            have HH := hid (show hasB V y = true by simp [hasB, (HM2.out trivial).1 y (List.mem_of_getElem? hyj)])
            clear hyj
            go_wp2_with fail
            refine (law04_has av V V.length cv y true _ HH.out rfl (HV7.out.below HBR.out) (by omega)).mono ?_
            rintro e w8 ⟨rfl, hb8⟩
            have HB8 := hid (HBR.out.trans (hb8.mono HBR.out.size))
            clear hb8
            go_wp2_with fail
            go_roundw
            case rel => exact ⟨j + 1, by simp, hlt, HB8⟩
            case measure => simp [intOf]; omega
          · have hp80 := below_keeps HBR.out _ _ hp70
            have hp81 := below_keeps HBR.out _ _ hp71
            have HM3 := hid (HM2.out trivial).2
            go_wp2_with fail
            refine (prop_UnitsG n a F F.length c av V V.length cv V false _ HM3.out.2.1 HM3.out.2.2 HM3.out.1 rfl rfl (HR7.out.below HBR.out) (HV7.out.below HBR.out)).mono ?_
            rintro e w9 ⟨hb9, ax, cx, rfl, hsx⟩
            have HB9 := hid (HBR.out.trans (hb9.mono HBR.out.size))
            have HX9 := hid hsx
            clear hb9 hsx hp80 hp81
            go_wp2_with fail
            refine (kit_EqualIntsB av ax V V V.length cv V.length cx true _ (by simp [eqI]) rfl rfl (HV7.out.below HB9.out) HX9.out (by omega)).mono ?_
            rintro e w10 ⟨rfl, hb10⟩
            have HB10 := hid ((HB7.out.trans (HB9.out.mono HB7.out.size)).trans (hb10.mono (by have := HB9.out.size; have := HB7.out.size; omega)))
            clear hb10
            go_wp2_with (go_at_call 30; refine (law04_known _).mono ?_; rintro e w' ⟨rfl, hb⟩)
            go_ret
            exact ⟨rfl, HB10.out.trans (hb.mono HB10.out.size)⟩

end Go.Proofs.Ytfgaglgaofceiaa.Ord
