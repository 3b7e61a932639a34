/- The walk of the law CnfMore. -/
import Derived.Test.YtaekcejenagbgaaWCnfB
namespace Go.Proofs.Ytaekcejenagbgaa
open Go.RowKit

theorem fok_take {f : List (List Int)} (h : FOk f) (k : Nat) : FOk (f.take k) := fun c hc => h c (List.mem_of_mem_take hc)

theorem Rws.take {w : World} {a : Option Addr} {f : List (List Int)} (h : Rws w a f) (k : Nat) : Rws w a (f.take k) := by
  intro j c hj
  rw [List.getElem?_take] at hj
  split at hj
  · exact h j c hj
  · cases hj

theorem cnfCheck_take {n : Int} {f : List (List Int)} (h : cnfCheck n f = 0) (k : Nat) : cnfCheck n (f.take k) = 0 := by
  unfold cnfCheck at h ⊢
  split at h
  · cases h
  · rename_i h1
    rw [if_neg h1]
    split at h
    · cases h
    · rename_i h2
      rw [if_neg (by simp only [List.length_take]; omega)]
      cases hf : f.find? (fun c => litCheck n c != 0) with
      | some c =>
        rw [hf] at h
        have := List.find?_some hf
        simp only at h
        simp [h] at this
      | none =>
        have : (f.take k).find? (fun c => litCheck n c != 0) = none := by
          rw [List.find?_eq_none] at hf ⊢
          exact fun x hx => hf x (List.mem_of_mem_take hx)
        rw [this]

/-- The first clause that fails, of the first k ones. -/
theorem firstIdx_take (m : List Bool) (f : List (List Int)) (k : Nat) :
    (firstIdx m (f.take k) = -1 ∧ (firstIdx m f = -1 ∨ (k : Int) ≤ firstIdx m f)) ∨ (firstIdx m (f.take k) ≠ -1 ∧ firstIdx m (f.take k) = firstIdx m f) := by
  unfold firstIdx
  cases h : (f.take k).findIdx? (fun c => !holdsB m c) with
  | none =>
    refine Or.inl ⟨rfl, ?_⟩
    cases hg : f.findIdx? (fun c => !holdsB m c) with
    | none => exact Or.inl rfl
    | some i =>
      refine Or.inr ?_
      rw [List.findIdx?_eq_some_iff_getElem] at hg
      obtain ⟨h1, h2, h3⟩ := hg
      rw [List.findIdx?_eq_none_iff] at h
      show (k : Int) ≤ (i : Int)
      by_cases hki : k ≤ i
      · omega
      · have := h f[i] (List.mem_take_iff_getElem.2 ⟨i, by omega, rfl⟩)
        rw [this] at h2; cases h2
  | some i =>
    rw [List.findIdx?_eq_some_iff_getElem] at h
    obtain ⟨h1, h2, h3⟩ := h
    simp only [List.length_take] at h1
    have : f.findIdx? (fun c => !holdsB m c) = some i := by
      rw [List.findIdx?_eq_some_iff_getElem]
      refine ⟨by omega, by simpa using h2, fun j hj => ?_⟩
      have := h3 j hj
      simpa using this
    rw [this]
    refine Or.inr ⟨?_, rfl⟩
    show (i : Int) ≠ -1
    omega

theorem law02_FitC (n : Int) (v1 : Value) (l : List (List Int)) (w : World) (hfit : fitB l = true) (hn0 : 0 ≤ n) (hn1 : n ≤ 255) (h1 : ArgR .i8 w v1 l) :
    Calls Try.prog 26 #[.int .u8 n, v1] w fun e w' =>
      ∃ a c, e = .returned (.tuple #[.agg #[.int .i64 (fitV n), .slice a (fitF n l).length c], .bool true]) ∧ (fitF n l).length ≤ c ∧ OwnRw w' w.heap.size (.slice a (fitF n l).length c) (fitF n l) ∧ Rws w' a (fitF n l) ∧ Below w.heap.size w w' := by
  refine (law02_FitT n v1 l w hfit hn0 hn1 h1).mono ?_
  rintro e w' ⟨a, c, rfl, ho, hr, hb⟩
  obtain ⟨a', c', e1, e2, _, _⟩ := ho.shape
  injection e1 with e3 e4 e5
  subst e3 e5
  exact ⟨_, _, rfl, e2, ho, hr, hb⟩

theorem slice_head {P : Program} {t e : TypeId} {a : Option Addr} {n c : Nat} {k : Int} (ht : P.underlying t = some (.slice e)) (hsz : ∀ wx, (sizeOf e).run P wx = .ok 1 wx) (h0 : 0 ≤ k) (h1 : k ≤ c) :
    ∀ wx, (Instr.slice t (.slice a n c) none (some (.int .i64 k)) none).run P wx = .ok (.slice a k.toNat c) wx := by
  intro wx
  have he : P.elem t = e := by simp [Program.elem, ht]
  rw [run_slice_h (P := P) wx t a n c (by rw [he]; exact ht) .i64 k h0 h1, he, hsz]
  cases a <;> simp [sliced, Result.andThen, Addr.add]

set_option maxHeartbeats 4000000 in
theorem walk_CnfMore (x0 : Int) (v1 : Value) (x1 : List (List Int)) (x2 x3 : Int) (w : World) (w0 : (Lit.int .u8 x0).wf = true) (w1 : ArgR .i8 w v1 x1) (w2 : (Lit.int .u16 x2).wf = true) (w3 : (Lit.int .u8 x3).wf = true) :
    Calls Try.prog 6 #[.int .u8 x0, v1, .int .u16 x2, .int .u8 x3] w fun e w' => e = .returned (.bool true) ∧ Below w.heap.size w w' := by
  have hb0 := bounds_u8 w0
  have hb2 := bounds_u16 w2
  have hb3' := bounds_u8 w3
  have HA := hid w1
  clear w0 w1 w2 w3
  cases hfit : fitB x1 with
  | false =>
    have HFI := hid hfit
    clear hfit
    go_enter Try.func6, Try.ntmps6
    go_wp2_with fail
    refine (law02_FitF x0 v1 x1 w HFI.out hb0.1 hb0.2 HA.out).mono ?_
    rintro e w3 ⟨rfl, hb3⟩
    have HB3 := hid hb3
    clear hb3
    go_wp2_with (go_at_call 21; refine (law02_known _).mono ?_; rintro e w' ⟨rfl, hb⟩)
    go_ret
    exact ⟨rfl, (below_al HB3.out HB3.out.size _).trans (hb.mono (by have := HB3.out.size; simp only [size_al]; omega))⟩
  | true =>
    have HFI := hid hfit
    have hlf := fitB_bounds hfit
    obtain ⟨f, hf⟩ : ∃ f, f = fitF x0 x1 := ⟨_, rfl⟩
    have hfl : f.length ≤ 30 := by rw [hf, fitF_length]; exact hlf.1
    have HFE := hid hf
    have HFOK : Hid (FOk f) := hf ▸ fok_fit hfit
    have HCK : Hid (cnfCheck (fitV x0) f = 0) := hf ▸ cnfCheck_fit hfit
    obtain ⟨V, hV⟩ : ∃ V, fitV x0 = V := ⟨_, rfl⟩
    have hVr : 1 ≤ V ∧ V ≤ 12 := hV ▸ fitV_range x0
    rw [hV] at HCK
    have HVE := hid hV
    obtain ⟨m, hm⟩ : ∃ m, m = modelL V.toNat x2 := ⟨_, rfl⟩
    have hml : (m.length : Int) = V := by rw [hm]; simp [modelL]; omega
    have HM := hid hm
    have hmb : m.length ≤ 12 := by omega
    have HML : Hid (cnfFirst V f m = (firstIdx m f, 0)) := cnfFirst_idx HCK.out (by rw [hml]; simp)
    obtain ⟨k, hk⟩ : ∃ k, k = x3.toNat % (f.length + 1) := ⟨_, rfl⟩
    have hkl : k ≤ f.length := by have := Nat.mod_lt x3.toNat (show 0 < f.length + 1 by omega); omega
    have hrem : x3.tmod ((f.length : Int) + 1) = (k : Int) := by
      rw [hk, Int.tmod_eq_emod_of_nonneg hb3'.1, Int.natCast_emod, Int.toNat_of_nonneg hb3'.1]; simp
    have HMK : Hid (cnfFirst V (f.take k) m = (firstIdx m (f.take k), 0)) := cnfFirst_idx (cnfCheck_take HCK.out k) (by rw [hml]; simp)
    have htk : (f.take k).length = k := by simp; omega
    have hcs := firstIdx_take m f k
    obtain ⟨at0, hat⟩ : ∃ at0, firstIdx m f = at0 := ⟨_, rfl⟩
    obtain ⟨at1, hat1⟩ : ∃ at1, firstIdx m (f.take k) = at1 := ⟨_, rfl⟩
    have hatr := firstIdx_range m f
    rw [hat] at HML hatr hcs
    rw [hat1] at HMK hcs
    have HCS := hid hcs
    have HTK := hid htk
    clear hfit hlf hf hV hm hml hat hat1 hcs htk hk
    go_enter Try.func6, Try.ntmps6
    go_wp2_with fail
    refine (law02_FitC x0 v1 x1 w HFI.out hb0.1 hb0.2 HA.out).mono ?_
    rw [HVE.out, ← HFE.out]
    rintro e w3 ⟨a, c, rfl, hfc, -, hr3, hb3⟩
    have HB3 := hid hb3
    have HR3 := hid hr3
    have hz3 := hb3.size
    have HSH := hid (slice_head (P := Try.prog) (t := 22) (e := 40) (a := a) (n := f.length) (c := c) (k := k) Try.underlying22 (fun wx => by kernel_rfl) (by omega) (by omega))
    clear hb3 hr3
    go_wp2_with fail
    refine (law02_ModelR V V.toNat x2 _ (by omega) (by omega) hb2.1 hb2.2).mono ?_
    rw [← HM.out]
    rintro e w4 ⟨a4, c4, rfl, -, hs4, hb4⟩
    have HB4 := hid ((below_al HB3.out hz3 _).trans (hb4.mono (by simp only [size_al]; omega)))
    have HR4 := hid ((HR3.out.below (box_below _ _)).below hb4)
    have hq0 := hb4.cell (p := ⟨w3.heap.size, 0, none⟩) (by simp only [size_al]; omega)
    have hq1 := hb4.cell (p := ⟨w3.heap.size, 1, none⟩) (by simp only [size_al]; omega)
    have hp0 : w4.cell? ⟨w3.heap.size, 0, none⟩ = some (.int .i64 V) := by rw [hq0]; exact fit_cell (vs := [.int .i64 V, .slice a f.length c]) (heap_alloc_new w3 _) 0
    have hp1 : w4.cell? ⟨w3.heap.size, 1, none⟩ = some (.slice a f.length c) := by rw [hq1]; exact fit_cell (vs := [.int .i64 V, .slice a f.length c]) (heap_alloc_new w3 _) 1
    have HS4 := hid hs4
    have hz4 := hb4.size
    simp only [size_al] at hz4
    have hrun := HSH.out
    clear hb4 hs4 hq0 hq1
    go_wp2_with fail
    go_region_with (go_at_call 24; refine (cnf_FirstR V _ (f.take k) _ _ _ m _ _ at1 0 _ HMK.out (by rw [HTK.out]) rfl (fok_take HFOK.out k) ?_ ?_ (by rw [HTK.out]; omega) (by omega)).mono ?_; exact HR4.out.take k; exact HS4.out; rintro e w5 ⟨rfl, hb5⟩)
    all_goals
      have hb5' : Below w4.heap.size w4 w5 := ((Below.refl _ w4).drew).trans hb5
      have HB5 := hid (HB4.out.trans (hb5'.mono (by omega)))
      have HR5 := hid (HR4.out.below hb5')
      have HS5 := hid (HS4.out.below hb5')
      have hr0 : w5.cell? ⟨w3.heap.size, 0, none⟩ = some (.int .i64 V) := by rw [hb5'.cell (p := ⟨w3.heap.size, 0, none⟩) (by show w3.heap.size < _; omega)]; exact hp0
      have hr1 : w5.cell? ⟨w3.heap.size, 1, none⟩ = some (.slice a f.length c) := by rw [hb5'.cell (p := ⟨w3.heap.size, 1, none⟩) (by show w3.heap.size < _; omega)]; exact hp1
      have hz5 := hb5'.size
      clear hb5 hb5'
      go_wp2_with fail
      refine (cnf_FirstR V _ f _ _ _ m _ _ at0 0 _ HML.out rfl rfl HFOK.out HR5.out HS5.out (by omega) (by omega)).mono ?_
      rintro e w6 ⟨rfl, hb6⟩
      have HB6 := hid (HB5.out.trans (hb6.mono (by have := HB5.out.size; omega)))
      clear hb6
      have hcs := HCS.out
      rcases hcs with ⟨h1, h2⟩ | ⟨h1, h2⟩
      · have hA1 : (at1 == -1) = true := beq_iff_eq.2 h1
        clear h1
        rcases h2 with h2 | h2
        · have hA2 : (at0 == -1) = true := beq_iff_eq.2 h2
          clear h2
          go_wp2_with (go_at_call 21; refine (law02_known _).mono ?_; rintro e w' ⟨rfl, hb⟩)
          go_ret
          exact ⟨rfl, HB6.out.trans (hb.mono HB6.out.size)⟩
        · have hA2 : (at0 == -1) = false := beq_eq_false_iff_ne.2 (by omega)
          have hA3 : decide ((k : Int) ≤ at0) = true := decide_eq_true h2
          clear h2
          go_wp2_with (go_at_call 21; refine (law02_known _).mono ?_; rintro e w' ⟨rfl, hb⟩)
          go_ret
          exact ⟨rfl, HB6.out.trans (hb.mono HB6.out.size)⟩
      · have hA1 : (at1 == -1) = false := beq_eq_false_iff_ne.2 h1
        have hA2 : (at1 == at0) = true := beq_iff_eq.2 h2
        have hA4 : (at1 != -1) = true := by rw [bne, hA1]; rfl
        clear h1 h2
        go_wp2_with (go_at_call 21; refine (law02_known _).mono ?_; rintro e w' ⟨rfl, hb⟩)
        go_ret
        exact ⟨rfl, HB6.out.trans (hb.mono HB6.out.size)⟩

end Go.Proofs.Ytaekcejenagbgaa
