/- The walk of RupEmpty. -/
import Derived.Test.YtfmahgobogelkaaQ13
import Derived.Test.YtfmahgobogelkaaQ12

namespace Go.Proofs.Ytfmahgobogelkaa.Ord
open Go.RowKit

attribute [local go_sem ↓] Go.wp_at_zero Go.wp_at_succ
attribute [local go_sem ↓ high] app_mark

theorem rupI_nil (F : List (List Int)) : rupI F [[]] = if upF F [] = true then -1 else 0 := by
  unfold rupI rupGo
  have hn : negs [] = [] := rfl
  rw [hn]
  by_cases h : upF F [] = true
  · rw [if_pos h]
    simp [rupGo, h]
  · rw [if_neg h]
    simp [h]

theorem fok_nil1 : FOk [[]] := by intro d hd; simp at hd; subst hd; simp

theorem rws_nil1 (w : World) : Rws (w.alloc (.cells #[.slice none 0 0] 22)) (some ⟨w.heap.size, 0, none⟩) [[]] := by
  intro j c hc
  have hl := (List.getElem?_eq_some_iff.1 hc).1
  simp at hl
  subst hl
  simp at hc
  subst hc
  exact ⟨w.heap.size, 0, _, rfl, fit_cell (vs := [.slice none 0 0]) (heap_alloc_new w _) 0, none, 0, rfl, Nat.le_refl _, fun _ => rfl, fun j v hv => by simp [ints] at hv⟩

theorem vals_appD {w : World} {us vs : List Value} {f g : List (List Int)} (hul : us.length = f.length) (h1 : ∀ (j : Nat) (c : List Int), f[j]? = some c → ∃ u, us[j]? = some u ∧ SlI w u c) (h2 : ∀ (j : Nat) (c : List Int), g[j]? = some c → ∃ u, vs[j]? = some u ∧ SlI w u c) : ∀ (j : Nat) (c : List Int), (f ++ g)[j]? = some c → ∃ u, (us ++ vs)[j]? = some u ∧ SlI w u c := fun j d hd => by
  by_cases q : j < f.length
  · rw [List.getElem?_append_left q] at hd
    obtain ⟨x, e1, e2⟩ := h1 j d hd
    exact ⟨x, by rw [List.getElem?_append_left (by omega)]; exact e1, e2⟩
  · rw [List.getElem?_append_right (by omega)] at hd
    obtain ⟨x, e1, e2⟩ := h2 _ d hd
    exact ⟨x, by rw [List.getElem?_append_right (by omega), hul]; exact e1, e2⟩

theorem vals_oneD {w : World} {us : List Value} {f : List (List Int)} (hul : us.length = f.length) (h1 : ∀ (j : Nat) (c : List Int), f[j]? = some c → ∃ u, us[j]? = some u ∧ SlI w u c) : ∀ u ∈ us, u.oneCell' = true := fun u hu => by
  obtain ⟨j, hj⟩ := List.mem_iff_getElem?.1 hu
  have hl := (List.getElem?_eq_some_iff.1 hj).1
  obtain ⟨x, e1, a, c, e2, -⟩ := h1 j _ (List.getElem?_eq_getElem (by omega : j < f.length))
  rw [hj] at e1
  injection e1 with e1
  subst e1
  subst e2
  rfl

theorem tail_runG {P : Program} {t e : TypeId} {b off n c k1 : Nat} {kk : Int} (hk : kk = k1) (ht : P.underlying t = some (.slice e)) (hsz : ∀ wx, (sizeOf e).run P wx = .ok 1 wx) (h1 : k1 ≤ n) (hc : n ≤ c) :
    ∃ A, (∀ wx, (Instr.slice t (.slice (some ⟨b, off, none⟩) n c) (some (.int .i64 kk)) none none).run P wx = .ok (.slice (some A) (n - k1) (c - k1)) wx) ∧ ∀ (w : World) (vs : List Value), SlV w (some ⟨b, off, none⟩) vs → vs.length ≤ n → SlV w (some A) (vs.drop k1) := by
  subst hk
  have he : P.elem t = e := by simp [Program.elem, ht]
  by_cases hc1 : c = k1
  · have : n = k1 := by omega
    subst this
    refine ⟨⟨b, off, none⟩, fun wx => ?_, fun w vs _ hl => by rw [List.drop_eq_nil_of_le hl]; exact SlV.nil _ _⟩
    rw [run_slice_l (P := P) wx t _ n c (by rw [he]; exact ht) .i64 n (by omega) (by omega), he, hsz]
    simp [sliced, Result.andThen, hc1]
  · refine ⟨⟨b, off + k1, none⟩, fun wx => ?_, fun w vs hs _ => hs.drop k1⟩
    rw [run_slice_l (P := P) wx t _ n c (by rw [he]; exact ht) .i64 k1 (by omega) (by omega), he, hsz]
    simp [sliced, Result.andThen, hc1, Addr.add]

set_option maxRecDepth 100000 in
set_option maxHeartbeats 8000000 in
theorem walk_RupEmpty (x0 : Int) (v1 : Value) (x1 : List (List Int)) (x2 : Int) (w : World) (w0 : (Lit.int .u8 x0).wf = true) (w1 : ArgR .i8 w v1 x1) (w2 : (Lit.int .u8 x2).wf = true) :
    Calls Try.prog 14 #[.int .u8 x0, v1, .int .u8 x2] w fun e w' => e = .returned (.bool true) ∧ Below w.heap.size w w' := by
  have hb0 := bounds_u8 w0
  have HA := hid w1
  have hb2' := bounds_u8 w2
  obtain ⟨i0, hi0, hz0, hz1, hz2⟩ := info_parts info_int
  obtain ⟨i1, hi1, hy0, hy1, hy2⟩ := info_parts info_ints
  clear w0 w1 w2
  obtain ⟨Q, hQ⟩ : ∃ Q : Ending → World → Prop, (fun e w' => e = .returned (.bool true) ∧ Below w.heap.size w w') = Q := ⟨_, rfl⟩
  rw [hQ]
  have HQ : Hid (∀ w', Below w.heap.size w w' → Q (.returned (.bool true)) w') := hid fun w' hw => by rw [← hQ]; exact ⟨rfl, hw⟩
  clear hQ
  cases hfit : fitB x1 with
  | false =>
    have HFI := hid hfit
    clear hfit
    go_enter Try.func14, Try.ntmps14
    go_wp2_with fail
    refine (law02_FitF x0 v1 x1 w HFI.out hb0.1 hb0.2 HA.out).mono ?_
    rintro e w3 ⟨rfl, hb3⟩
    have HB3 := hid hb3
    clear hb3
    go_wp2_with (go_at_call 39; refine (law05_known _).mono ?_; rintro e w' ⟨rfl, hb⟩)
    exact HQ.out _ ((below_al HB3.out HB3.out.size _).trans (hb.mono (by have := HB3.out.size; simp only [size_al]; omega)))
  | true =>
    have hV := fitV_range x0
    obtain ⟨n, hn⟩ : ∃ n : Nat, fitV x0 = (n : Int) := ⟨(fitV x0).toNat, by omega⟩
    have hn1 : 1 ≤ n ∧ n ≤ 12 := by omega
    obtain ⟨F, hF⟩ : ∃ F, fitF x0 x1 = F := ⟨_, rfl⟩
    have hfl : F.length ≤ 30 := by rw [← hF, fitF_length]; exact (fitB_bounds hfit).1
    have HFO := hid (show FOk F from hF ▸ fok_fit hfit)
    have HFK : Hid (ClsOk n F) := hid (hF ▸ clsok_fit x0 hn.symm x1)
    have HCHK : Hid (cnfCheck n F = 0) := hid (by rw [← hn, ← hF]; exact cnfCheck_fit hfit)
    have HFC : Hid (∀ c ∈ F, c.length ≤ 20) := hid fun c hc => by
      rw [← hF] at hc
      simp only [fitF, List.mem_map] at hc
      obtain ⟨c', hc', rfl⟩ := hc
      exact Nat.le_trans (fitC_length (fitV x0) c') ((fitB_bounds hfit).2 c' hc')
    have HN := hid hn
    have HF := hid hF
    have HFI := hid hfit
    clear hfit hF hn hV
    go_enter Try.func14, Try.ntmps14
    go_wp2_with fail
    refine (law02_FitH x0 v1 x1 w HFI.out hb0.1 hb0.2 HA.out).mono ?_
    rw [HN.out, HF.out]
    rintro e w3 ⟨a, c, rfl, hfc, hcn, hr3, hb3⟩
    have HCN := hid hcn
    have hz3 := hb3.size
    have hb4 : Below w.heap.size w (w3.alloc (fbox n a F.length c)) := below_al hb3 hz3 _
    have HR4 := hid (hr3.below (box_below w3 (fbox n a F.length c)))
    have HB4 := hid hb4
    have hp0 : (w3.alloc (fbox n a F.length c)).cell? ⟨w3.heap.size, 0, none⟩ = some (.int .i64 n) := fit_cell (vs := [.int .i64 n, .slice a F.length c]) (heap_alloc_new w3 _) 0
    have hp1 : (w3.alloc (fbox n a F.length c)).cell? ⟨w3.heap.size, 1, none⟩ = some (.slice a F.length c) := fit_cell (vs := [.int .i64 n, .slice a F.length c]) (heap_alloc_new w3 _) 1
    have hb7l : w3.heap.size < (w3.alloc (fbox n a F.length c)).heap.size := by simp only [size_al]; omega
    clear hb3 hr3 hb4 hcn hz3
    go_wp2_with fail
    have hfb : (World.alloc w3 (.cells #[.int .i64 n, .slice a F.length c] 34)) = w3.alloc (fbox n a F.length c) := rfl
    rw [hfb]
    clear hfb
    generalize w3.alloc (fbox n a F.length c) = w4 at HR4 HB4 hp0 hp1 hb7l ⊢
    generalize w3.heap.size = b7 at hp0 hp1 hb7l ⊢
    have HP := hid (And.intro hp0 hp1)
    have hb7 : w.heap.size ≤ b7 ∨ True := .inr trivial
    clear hb7
    obtain ⟨M, hM⟩ : ∃ M, F.length = M := ⟨_, rfl⟩
    rw [hM] at hfl hfc hp1 HP
    try rw [hM]
    have HM := hid hM
    clear hM
    obtain ⟨bu, hbu⟩ : ∃ b, upF F [] = b := ⟨_, rfl⟩
    obtain ⟨U, hU⟩ : ∃ U, upL n F [] = U := ⟨_, rfl⟩
    have hun : unitsV n F [] = (U, bu, 0) := by rw [unitsV_ok HCHK.out (by rfl), hbu, hU]
    have himp : impV n F [] = (bu, 0) := by rw [impV_ok HCHK.out (check_lits (by omega) (by simp) (by simp))]; rw [show negs [] = [] from rfl, hbu]
    obtain ⟨r, hr⟩ : ∃ r : Int, (if bu = true then -1 else 0) = r := ⟨_, rfl⟩
    have hrv : rupV n F [[]] = (r, 0) := by
      unfold rupV
      rw [if_pos (rupErr_ok HCHK.out (by intro d hd; simp at hd; subst hd; exact check_lits (by omega) (by simp) (by simp)))]
      have := rupI_nil F
      unfold rupI at this
      rw [this, hbu, hr]
    have HRR := hid hr
    have HIMP := hid himp
    have HRV := hid hrv
    have HBU := hid hbu
    clear hU hbu himp hrv
    go_wp2_with fail
    refine (prop_UnitsN n a F M c none [] 0 0 U bu 0 _ hun HM.out.symm rfl HFO.out HR4.out (fun j v hv => by simp [ints] at hv) (by rw [HM.out]; omega) (by decide)).mono ?_
    rintro e w5 ⟨hb5, ar, cr, rfl, -⟩
    have HB5 := hid (HB4.out.trans (hb5.mono HB4.out.size))
    have HR5 := hid (HR4.out.below hb5)
    have q0 := below_keeps hb5 _ _ HP.out.1
    have q1 := below_keeps hb5 _ _ HP.out.2
    clear hb5 hun hp0 hp1
    go_wp2_with fail
    refine (rup_ImpliedN n a F M c none [] 0 0 bu 0 _ HIMP.out HM.out.symm rfl HFO.out HR5.out (by simp) (fun j v hv => by simp [ints] at hv) (by rw [HM.out]; omega) (by decide)).mono ?_
    rintro e w6 ⟨rfl, hb6⟩
    have HB6 := hid (HB5.out.trans (hb6.mono HB5.out.size))
    have HR6 := hid (HR5.out.below hb6)
    have p0 := below_keeps hb6 _ _ q0
    have p1 := below_keeps hb6 _ _ q1
    clear hb6 q0 q1
    have e1 : ((r == -1) == bu) = true := by rw [← hr]; cases bu <;> simp
    clear hr
    go_wp2_with fail
    refine (rup_CheckN n a F M c (some ⟨w6.heap.size, 0, none⟩) [[]] 1 1 r 0 _ HRV.out HM.out.symm rfl HFO.out (HR6.out.below (box_below _ _)) fok_nil1 (rws_nil1 w6) (by rw [HM.out]; omega) (by decide)).mono ?_
    rintro e w7 ⟨rfl, hb7'⟩
    have hb7x : Below w6.heap.size w6 w7 := (box_below _ _).trans (hb7'.mono (by simp only [size_al]; omega))
    have HB7 := hid (HB6.out.trans (hb7x.mono HB6.out.size))
    have HR7 := hid (HR6.out.below hb7x)
    have q0 := below_keeps hb7x _ _ p0
    have q1 := below_keeps hb7x _ _ p1
    clear hb7x hb7' p0 p1
    by_cases hM0 : M = 0
    · subst hM0
      go_wp2_with (go_at_call 39; refine (law05_known _).mono ?_; rintro e w' ⟨rfl, hb⟩)
      exact HQ.out _ (HB7.out.trans (hb.mono HB7.out.size))
    obtain ⟨bf, off, d0, ad0, cd0, haf, -⟩ := HR7.out.row HFO.out (k := 0) (by rw [HM.out]; omega)
    subst haf
    obtain ⟨us, hul, hus, huv⟩ := rws_vals HR7.out
    have HUS := hid (And.intro hul (And.intro hus huv))
    have HONE := hid (vals_oneD hul huv)
    obtain ⟨k, hk⟩ : ∃ k, k = x2.toNat % M := ⟨_, rfl⟩
    have hkM : k < M := by have := Nat.mod_lt x2.toNat (show 0 < M by omega); omega
    have hrem : x2.tmod (M : Int) = (k : Int) := by
      rw [hk, Int.tmod_eq_emod_of_nonneg hb2'.1, Int.natCast_emod, Int.toNat_of_nonneg hb2'.1]
    have ew : IntKind.i64.wrap x2 = x2 := IntWalk.i64_in _ (by omega)
    have ek : IntKind.i64.wrap (k : Int) = (k : Int) := IntWalk.i64_in _ (by omega)
    have zf : ¬ (M : Int) = 0 := by omega
    have zb : ((M : Int) == 0) = false := by simp; omega
    clear hk hul hus huv
    have hrun := slice_headG (P := Try.prog) (t := 32) (e := 22) (a := some ⟨bf, off, none⟩) (n := M) (c := c) (k := k) Try.underlying32 (fun wx => by kernel_rfl) (by omega) (by omega)
    rw [show ((k : Int)).toNat = k by omega] at hrun
    obtain ⟨A, hrunT, hAs⟩ := tail_runG (P := Try.prog) (t := 32) (e := 22) (b := bf) (off := off) (n := M) (c := c) (kk := (k : Int) + 1) (k1 := k + 1) (by omega) Try.underlying32 (fun wx => by kernel_rfl) (by omega) (by omega)
    have HRT := hid hrunT
    have HAS := hid hAs
    have e2 : IntKind.i64.wrap ((k : Int) + 1) = (k : Int) + 1 := IntWalk.i64_in _ (by omega)
    have HE2 := hid e2
    clear hrunT hAs
    have hp0a := fun o => below_keeps (box_below w7 o) _ _ q0
    have hp1a := fun o => below_keeps (box_below w7 o) _ _ q1
    go_wp2_with fail
    have hfb : (World.alloc w7 (.cells #[.int .i64 n, .slice none 0 0] 34)) = w7.alloc (fbox n none 0 0) := rfl
    rw [hfb]
    clear hfb hp0a hp1a
    have HB78 := hid (box_below w7 (fbox n none 0 0))
    have hx8 : (w7.alloc (fbox n none 0 0)).heap[w7.heap.size]? = some (fbox n none 0 0) := heap_alloc_new _ _
    have hsz8 : (w7.alloc (fbox n none 0 0)).heap.size = w7.heap.size + 1 := size_al _ _
    generalize w7.alloc (fbox n none 0 0) = w8 at HB78 hx8 hsz8 ⊢
    have hb17 : w7.heap.size ≤ w7.heap.size := Nat.le_refl _
    obtain ⟨b17, hb17e⟩ : ∃ b, w7.heap.size = b := ⟨_, rfl⟩
    have HBE := hid hb17e
    have HQ7 := hid (And.intro q0 q1)
    have q0 := below_keeps HB78.out _ _ q0
    have q1 := below_keeps HB78.out _ _ q1
    rw [hb17e] at hx8 ⊢
    have HX8 := hid hx8
    have r0 : w8.cell? ⟨b17, 0, none⟩ = some (.int .i64 n) := fit_cell (vs := [.int .i64 n, .slice none 0 0]) hx8 0
    have r1 : w8.cell? ⟨b17, 1, none⟩ = some (.slice none 0 0) := fit_cell (vs := [.int .i64 n, .slice none 0 0]) hx8 1
    clear hx8 hb17e
    go_cut [17] (fun s17 wz => s17 = .pointer (some ⟨b17, 0, none⟩) ∧ ∃ a9 c9, Hid (wz.heap[b17]? = some (fbox n a9 k c9) ∧ OwnRs w7 wz (.slice a9 k c9) (F.take k)))
    case first =>
      go_region_law (refine step_append_sl rfl _ _ 32 rfl w7.heap.size 22 i1 (.slice none 0 0) 24 Try.underlying32 hi1 hy0 hy1 hy2 rfl (.slice none 0 0) 0 [] (by rfl) (by exact World.ownsRow_nil _ _ _ _) (some ⟨bf, off, none⟩) k c (us.take k) (by rfl) (by first | exact (HUS.out.2.1.take k).below HB78.out | exact (HUS.out.2.1.take k).below HB78.out.drew) (by rw [List.length_take, HUS.out.1, HM.out]; omega) (by nofun) (fun u hu => HONE.out u (List.mem_of_mem_take hu)) (by unfold maxLen; omega) (by omega) (by first | (rw [hsz8]; omega) | (show w7.heap.size ≤ w8.heap.size; omega)) ?_; intro v12 w12 h12 hg12; rw [Nat.zero_add, List.nil_append] at h12; obtain ⟨a12, c12, rfl⟩ := own_lenV' h12; have H12 := hid h12; have HG12 := hid hg12; have hx12 : w12.heap[b17]? = some (.cells #[.int .i64 n, .slice none 0 0] 34) := (hg12.block _ (by show b17 < w8.heap.size; rw [hsz8, HBE.out]; omega) (by nofun)).trans HX8.out; have HX12 := hid hx12; have hs0 : w12.cell? ⟨b17, 1, none⟩ = some (.slice none 0 0) := fit_cell (vs := [.int .i64 n, .slice none 0 0]) hx12 1; have hf12 : w12.frozen? ⟨b17, 1, none⟩ = false := frozen_of_row _ _ _ _ _ hx12; clear h12 hg12 hx12)
      all_goals
        have hb7c : Below w7.heap.size w7 w12 := (by first | exact HB78.out.grown HG12.out HB78.out.size (by nofun) | exact HB78.out.drew.grown HG12.out HB78.out.size (by nofun))
        have hmk : OwnRs w7 (w12.setCell ⟨b17, 1, none⟩ (.slice a12 k c12)) (.slice a12 k c12) (F.take k) := OwnRs.set (OwnRs.mk hb7c ⟨us.take k, by rw [List.length_take, HM.out, Nat.min_eq_left (by omega)]; exact H12.out, fun j d hd => by
          have hj := (List.getElem?_eq_some_iff.1 hd).1
          rw [List.length_take] at hj
          rw [List.getElem?_take_of_lt (by omega)] at hd ⊢
          exact HUS.out.2.2 j d hd⟩) HX12.out (by decide) (by rw [HBE.out]; exact Nat.le_refl _) _
        have HS2 : Hid ((w12.setCell ⟨b17, 1, none⟩ (.slice a12 k c12)).heap[b17]? = some (fbox n a12 k c12) ∧ OwnRs w7 (w12.setCell ⟨b17, 1, none⟩ (.slice a12 k c12)) (.slice a12 k c12) (F.take k)) := hid ⟨setCell_block (o := 1) (xs := [.int .i64 n, .slice none 0 0]) (.slice a12 k c12) HX12.out, hmk⟩
        clear hb7c hmk
        go_wp2_with fail
        go_meet
        case rel => exact ⟨rfl, a12, c12, HS2⟩
    case rest =>
      obtain ⟨rfl, a9, c9, HS⟩ := hcut
      have q0 := below_keeps HS.out.2.bel _ _ HQ7.out.1
      have q1 := below_keeps HS.out.2.bel _ _ HQ7.out.2
      have r0 : wc.cell? ⟨b17, 0, none⟩ = some (.int .i64 n) := fit_cell (vs := [.int .i64 n, .slice a9 k c9]) HS.out.1 0
      have r1 : wc.cell? ⟨b17, 1, none⟩ = some (.slice a9 k c9) := fit_cell (vs := [.int .i64 n, .slice a9 k c9]) HS.out.1 1
      have hftk : (F.take k).length = k := by rw [List.length_take, HM.out]; omega
      obtain ⟨us9, hrow9, hvs9⟩ := HS.out.2.row
      rw [hftk] at hrow9
      have HROW9 := hid hrow9
      have HVS9 := hid hvs9
      have HFTK := hid hftk
      have hul9 : us9.length = k := by have := hrow9.1; simpa using this
      have HUL9 := hid hul9
      have hbgl : b17 < wc.heap.size := (Array.getElem?_eq_some_iff.1 HS.out.1).1
      have hwcs : w7.heap.size ≤ wc.heap.size := HS.out.2.bel.size
      have hrunT := HRT.out
      have hk1 : k + (M - (k + 1)) = M - 1 := by omega
      clear hrow9 hvs9 hftk hul9
      go_wp2_with fail
      go_cut [17] (fun s17 wz => s17 = .pointer (some ⟨b17, 0, none⟩) ∧ ∃ a9 c9, Hid (wz.heap[b17]? = some (fbox n a9 (M - 1) c9) ∧ OwnRs w7 wz (.slice a9 (M - 1) c9) (F.take k ++ F.drop (k + 1))))
      case first =>
        go_region_law (refine step_append_sl rfl _ _ 32 rfl w7.heap.size 22 i1 (.slice none 0 0) 24 Try.underlying32 hi1 hy0 hy1 hy2 rfl (.slice a9 k c9) k us9 (by rfl) (by exact HROW9.out) (some A) (M - (k + 1)) (c - (k + 1)) (us.drop (k + 1)) (by rfl) (by first | exact HAS.out _ _ (HUS.out.2.1.below HS.out.2.bel) (by rw [HUS.out.1, HM.out]; exact Nat.le_refl _) | exact HAS.out _ _ (HUS.out.2.1.below HS.out.2.bel.drew) (by rw [HUS.out.1, HM.out]; exact Nat.le_refl _)) (by rw [List.length_drop, HUS.out.1, HM.out]) (by nofun) (fun u hu => HONE.out u (List.mem_of_mem_drop hu)) (by unfold maxLen; omega) (by omega) (by exact hwcs) ?_; intro v12 w12 h12 hg12; rw [hk1] at h12; obtain ⟨a12, c12, rfl⟩ := own_lenV' h12; have H12 := hid h12; have HG12 := hid hg12; have hx12 : w12.heap[b17]? = some (.cells #[.int .i64 n, .slice a9 k c9] 34) := (hg12.block _ (by exact hbgl) (fun e => by obtain ⟨cu, hc⟩ := own_cells HROW9.out e.symm; rw [HS.out.1] at hc; unfold fbox at hc; simp at hc)).trans HS.out.1; have HX12 := hid hx12; have hs0 : w12.cell? ⟨b17, 1, none⟩ = some (.slice a9 k c9) := fit_cell (vs := [.int .i64 n, .slice a9 k c9]) hx12 1; have hf12 : w12.frozen? ⟨b17, 1, none⟩ = false := frozen_of_row _ _ _ _ _ hx12; clear h12 hg12 hx12)
        all_goals
          have hb7c : Below w7.heap.size w7 w12 := (by first | exact HS.out.2.bel.grown HG12.out HS.out.2.bel.size (fun q hq => (HROW9.out.lt q hq).1) | exact HS.out.2.bel.drew.grown HG12.out HS.out.2.bel.size (fun q hq => (HROW9.out.lt q hq).1))
          have hmk : OwnRs w7 (w12.setCell ⟨b17, 1, none⟩ (.slice a12 (M - 1) c12)) (.slice a12 (M - 1) c12) (F.take k ++ F.drop (k + 1)) := OwnRs.set (OwnRs.mk hb7c ⟨us9 ++ us.drop (k + 1), by rw [List.length_append, HFTK.out, List.length_drop, HM.out, hk1]; exact H12.out, vals_appD (by rw [HUL9.out, HFTK.out]) HVS9.out (fun j d hd => by
            rw [List.getElem?_drop] at hd ⊢
            exact HUS.out.2.2 _ d hd)⟩) HX12.out (by decide) (by rw [HBE.out]; exact Nat.le_refl _) _
          have HS2 : Hid ((w12.setCell ⟨b17, 1, none⟩ (.slice a12 (M - 1) c12)).heap[b17]? = some (fbox n a12 (M - 1) c12) ∧ OwnRs w7 (w12.setCell ⟨b17, 1, none⟩ (.slice a12 (M - 1) c12)) (.slice a12 (M - 1) c12) (F.take k ++ F.drop (k + 1))) := hid ⟨setCell_block (o := 1) (xs := [.int .i64 n, .slice a9 k c9]) (.slice a12 (M - 1) c12) HX12.out, hmk⟩
          clear hb7c hmk
          go_wp2_with fail
          go_meet
          case rel => exact ⟨rfl, a12, c12, HS2⟩
      case rest =>
        clear q0 q1 r0 r1
        obtain ⟨rfl, a9, c9, HSX⟩ := hcut
        obtain ⟨R, hR⟩ : ∃ R, F.take k ++ F.drop (k + 1) = R := ⟨_, rfl⟩
        have hRs : ∀ d ∈ R, d ∈ F := by intro d hd; rw [← hR] at hd; exact (List.mem_append.1 hd).elim List.mem_of_mem_take List.mem_of_mem_drop
        have hRl : R.length = M - 1 := by rw [← hR, List.length_append, List.length_take, List.length_drop, HM.out]; omega
        have HRO : Hid (FOk R) := hid fun d hd => HFO.out d (hRs d hd)
        have HRL := hid hRl
        have HRC : Hid (cnfCheck n R = 0) := hid (by
          obtain ⟨h1, h2, h3, h4⟩ := cnfCheck_iff.1 HCHK.out
          exact cnfCheck_iff.2 ⟨h1, h2, by rw [hRl]; omega, fun c hc => h4 c (hRs c hc)⟩)
        rw [hR] at HSX
        clear hR hRs hRl
        obtain ⟨bf', off', d, ad, cd, hap, hcell, hcs, hck, hc64, hcl, hcc, hc0⟩ := HR7.out.row HFO.out (k := k) (by rw [HM.out]; exact hkM)
        injection hap with hap
        injection hap with hap1 hap2
        subst hap1 hap2
        have hdF := List.mem_of_getElem? hck
        have hdl := HFC.out d hdF
        obtain ⟨b2, hb2e⟩ : ∃ b, upF R (negs d) = b := ⟨_, rfl⟩
        obtain ⟨U2, hU2⟩ : ∃ U, upL n R (negs d) = U := ⟨_, rfl⟩
        have hun : unitsV n R (negs d) = (U2, b2, 0) := by rw [unitsV_ok HRC.out (negs_bad (HFK.out d hdF)), hb2e, hU2]
        have himp : impV n R d = (b2, 0) := by rw [impV_ok HRC.out (check_lits (by omega) (HFK.out d hdF) (by omega)), hb2e]
        have HUN := hid hun
        have HIMP2 := hid himp
        have HD64 := hid hc64
        have HDS := hid hcs
        have HDC := hid hcell
        have HDK := hid (HFK.out d hdF)
        obtain ⟨dl, hdle⟩ : ∃ m, d.length = m := ⟨_, rfl⟩
        rw [hdle] at hdl HDC
        have HDLE := hid hdle
        clear hcell hcs hck hc64 hcl hcc hc0 hdF hb2e hU2 hun himp hdle hrunT hk1 hbgl hwcs hrun e1 e2
        rename World => wq
        have hdlr := hdl
        go_wp2_with fail
        go_loopw [18, 19] (fun s18 s19 wr => ∃ (i : Nat) (v18 : Value), s19 = .int .i64 i ∧ v18 = s18 ∧ i ≤ dl ∧ Hid (wr.ownsRow wq.heap.size 3 1 v18 i (ints (negs (d.take i)))) ∧ Hid (Below wq.heap.size wq wr)) (fun _ s19 _ => (dl - (intOf s19)).toNat)
        case atStart => exact ⟨0, _, rfl, rfl, by omega, hid (World.ownsRow_nil _ _ _ _), hid (Below.refl _ _)⟩
        case round =>
          obtain ⟨i, v18, rfl, rfl, hid2, HO, HB⟩ := hrel
          have HW := hid (HSX.out.2.bel.trans (HB.out.mono HSX.out.2.bel.size))
          have q0 := below_keeps HW.out _ _ HQ7.out.1
          have q1 := below_keeps HW.out _ _ HQ7.out.2
          have q2 := below_keeps HW.out _ _ HDC.out
          have hszr : wq.heap.size ≤ wr.heap.size := HB.out.size
          by_cases hlt : i < dl
          · have hlt2 : (i : Int) < dl := by omega
            obtain ⟨bd, offd, x, hae, hcx, hx⟩ := (HDS.out.below HW.out).int (show i < d.length by rw [HDLE.out]; exact hlt)
            have hxk := HDK.out x (List.mem_of_getElem? hx)
            have HX := hid hx
            unfold LitOk at hxk
            have ex : IntKind.i64.wrap (-x) = -x := IntWalk.i64_in _ (by omega)
            have ei : IntKind.i64.wrap ((i : Int) + 1) = (i : Int) + 1 := IntWalk.i64_in _ (by omega)
            obtain ⟨a18, c18, hv18⟩ := own_lenV' HO.out
            subst hv18
            obtain ⟨a6, c6, w6x, hr6, ho6, hg6, ha6⟩ := appM_one (P := Try.prog) (wr.alloc (.cells #[.int .i64 (-x)] 3 (0, 0))) wq.heap.size 22 22 3 i0 (.int .i64 0) 8 Try.underlying22 hi0 hz0 hz1 hz2 rfl (.slice a18 i c18) i (ints (negs (d.take i))) (HO.out.alloc _) wr.heap.size (.int .i64 (-x)) (heap_alloc_new _ _) rfl (by unfold maxLen; omega) (by omega) (by simp only [size_al]; omega)
            have HO6 : Hid (w6x.ownsRow wq.heap.size 3 1 (.slice a6 (i + 1) c6) (i + 1) (ints (negs (d.take (i + 1))))) := hid (by rw [negs_take d hx]; exact ho6)
            have HB6x := hid (below_app HB.out hszr (box_below _ _) HO.out hg6)
            clear hx ho6 hg6 ha6
            go_wp2_with fail
            go_roundw
            case rel => exact ⟨i + 1, _, by simp, rfl, by omega, HO6, HB6x⟩
            case measure => simp [intOf]; omega
          · have hie : i = dl := by omega
            subst hie
            have hlt2 : ¬ (i : Int) < i := by omega
            have hOF : wr.ownsRow wq.heap.size 3 1 v18 i (ints (negs d)) := by have := HO.out; rwa [List.take_of_length_le (by rw [HDLE.out]; exact Nat.le_refl _)] at this
            obtain ⟨a18, c18, hv18⟩ := own_lenV' hOF
            subst hv18
            have HSL := hid (own_slv hOF)
            have HRW := hid HSX.out.2
            have hblk : wr.heap[b17]? = some (fbox n a9 (M - 1) c9) := (HB.out.block b17 (Array.getElem?_eq_some_iff.1 HSX.out.1).1).trans HSX.out.1
            have r0 : wr.cell? ⟨b17, 0, none⟩ = some (.int .i64 n) := fit_cell (vs := [.int .i64 n, .slice a9 (M - 1) c9]) hblk 0
            have r1 : wr.cell? ⟨b17, 1, none⟩ = some (.slice a9 (M - 1) c9) := fit_cell (vs := [.int .i64 n, .slice a9 (M - 1) c9]) hblk 1
            have HRR : Hid (Rws wr a9 R) := hid (by
              obtain ⟨a', c', e, -, -, hr⟩ := (HRW.out.grow HB.out).shape
              injection e with e1 e2 e3
              subst e1
              exact hr)
            clear hOF hblk HO hlt hid2
            go_wp2_with fail
            refine (prop_UnitsN n a9 R (M - 1) c9 a18 (negs d) i c18 U2 b2 0 _ HUN.out HRL.out.symm (by unfold negs; rw [List.length_map, HDLE.out]) HRO.out HRR.out HSL.out (by rw [HRL.out]; omega) (by unfold negs; rw [List.length_map, HDLE.out]; omega)).mono ?_
            rintro e wu ⟨hbu', aru, cru, rfl, -⟩
            have HBU' := hid hbu'
            have HWU := hid (HW.out.trans (hbu'.mono HW.out.size))
            have q0 := below_keeps hbu' _ _ q0
            have q1 := below_keeps hbu' _ _ q1
            have q2 := below_keeps hbu' _ _ q2
            have r0 := below_keeps hbu' _ _ r0
            have r1 := below_keeps hbu' _ _ r1
            have HRU := hid (HRR.out.below hbu')
            have HDSU := hid (HDS.out.below HWU.out)
            have HCALL : Hid (∀ wz, Below wu.heap.size wu wz → Calls Try.prog 43 #[.agg #[.int .i64 n, .slice a9 (M - 1) c9], .slice ad i cd] wz fun e w' => e = .returned (.tuple #[.bool b2, .int .i64 0]) ∧ Below wz.heap.size wz w') := hid fun wz hz => rup_ImpliedN n a9 R (M - 1) c9 ad d i cd b2 0 wz HIMP2.out HRL.out.symm HDLE.out.symm HRO.out (HRU.out.below hz) HD64.out (HDSU.out.below hz) (by rw [HRL.out]; omega) (by rw [HDLE.out]; omega)
            clear hbu'
            go_wp2_with fail
            go_region_held3 (fun y => y.cell? ⟨b17, 0, none⟩ = some (.int .i64 n) ∧ y.cell? ⟨b17, 1, none⟩ = some (.slice a9 (M - 1) c9) ∧ y.cell? ⟨b7, 1, none⟩ = some (.slice (some ⟨bf, off, none⟩) M c) ∧ y.cell? ⟨bf, off + k, none⟩ = some (.slice ad i cd)) (first | exact ⟨‹_›, ‹_›, ‹_›, ‹_›⟩ | go_keep)
              ((go_at_call 43; refine (HCALL.out _ (by first | exact Below.refl _ _ | exact (Below.refl _ _).drew)).mono ?_; rintro e wz ⟨rfl, hbz⟩; have hbz : Below wu.heap.size wu wz := (by first | exact hbz | exact (Below.refl wu.heap.size wu).drew.trans hbz); have HBZ := hid hbz; have z0 := below_keeps hbz _ _ q1; have z1 := below_keeps hbz _ _ q2; have z2 := below_keeps hbz _ _ r0; have z3 := below_keeps hbz _ _ r1; clear hbz))
            all_goals
              have hz7 := HWU.out.trans (HBZ.out.mono HWU.out.size)
              have HWE := hid (HB7.out.trans (hz7.mono HB7.out.size))
              clear hz7
              go_wp2_with (go_at_call 39; refine (law05_known _).mono ?_; rintro e w' ⟨rfl, hb⟩)
              exact HQ.out _ (HWE.out.trans (hb.mono HWE.out.size))

end Go.Proofs.Ytfmahgobogelkaa.Ord
