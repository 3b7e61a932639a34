/- The walk of the law CnfUnused. -/
import Derived.Test.YtaekcejenagbgaaWCnfD
import Derived.Test.YtaekcejenagbgaaCopyL
namespace Go.Proofs.Ytaekcejenagbgaa
open Go.RowKit

theorem litHolds_more {m : List Bool} {b : Bool} {x : Int} (h : x.natAbs ≤ m.length) : litHolds (m ++ [b]) x = litHolds m x := by
  unfold litHolds
  by_cases h0 : 0 < x.natAbs
  · rw [List.getElem?_append_left (by omega)]
  · simp [h0]

theorem holdsB_more {m : List Bool} {b : Bool} {c : List Int} (h : ∀ x ∈ c, x.natAbs ≤ m.length) : holdsB (m ++ [b]) c = holdsB m c := by
  rw [Bool.eq_iff_iff]
  simp only [holdsB, List.any_eq_true]
  constructor
  · rintro ⟨x, hx, hh⟩; exact ⟨x, hx, by rw [← litHolds_more (h x hx)]; exact hh⟩
  · rintro ⟨x, hx, hh⟩; exact ⟨x, hx, by rw [litHolds_more (h x hx)]; exact hh⟩

theorem findIdx_congr {α : Type} {p q : α → Bool} : ∀ {l : List α}, (∀ x ∈ l, p x = q x) → l.findIdx? p = l.findIdx? q
  | [], _ => rfl
  | a :: l, h => by
    rw [List.findIdx?_cons, List.findIdx?_cons, h a (by simp), findIdx_congr fun x hx => h x (by simp [hx])]

theorem firstIdx_more {m : List Bool} {b : Bool} {f : List (List Int)} (h : ∀ c ∈ f, ∀ x ∈ c, x.natAbs ≤ m.length) : firstIdx (m ++ [b]) f = firstIdx m f := by
  unfold firstIdx
  rw [findIdx_congr (q := fun c => !holdsB m c) fun c hc => by rw [holdsB_more (h c hc)]]

theorem litCheck_more {n : Int} {c : List Int} (hn : 0 ≤ n) (hn1 : n + 1 ≤ 1048576) (h : litCheck n c = 0) : litCheck (n + 1) c = 0 := by
  unfold litCheck at *
  rw [if_neg (by omega)] at h ⊢
  split at h
  · cases h
  · rename_i h1
    rw [if_neg h1]
    split at h
    · cases h
    · rename_i h2
      rw [if_neg]
      simp only [List.any_eq_true, not_exists, not_and, Bool.not_eq_true] at h2 ⊢
      intro x hx
      have := h2 x hx
      simp only [badLit, Bool.or_eq_false_iff, beq_eq_false_iff_ne, decide_eq_false_iff_not] at this ⊢
      exact ⟨this.1, by omega⟩

theorem cnfCheck_more {n : Int} {f : List (List Int)} (hn : 0 ≤ n) (hn1 : n + 1 ≤ 1048576) (h : cnfCheck n f = 0) : cnfCheck (n + 1) f = 0 := by
  unfold cnfCheck at *
  rw [if_neg (by omega)] at h ⊢
  split at h
  · cases h
  · rename_i h1
    rw [if_neg h1]
    cases hf : f.find? (fun c => litCheck n c != 0) with
    | some c =>
      rw [hf] at h
      have := List.find?_some hf
      simp only at h
      simp [h] at this
    | none =>
      have : f.find? (fun c => litCheck (n + 1) c != 0) = none := by
        rw [List.find?_eq_none] at hf ⊢
        intro x hx
        have := hf x hx
        simp only [bne_iff_ne, ne_eq, Decidable.not_not] at this
        simp [litCheck_more hn hn1 this]
      rw [this]

theorem one_bool {b : Bool} : ∀ u ∈ [Value.bool b], u.oneCell' = true := by
  intro u hu; simp at hu; subst hu; rfl

theorem bools_append (xs ys : List Bool) : bools (xs ++ ys) = bools xs ++ bools ys := by simp [bools]

theorem heap_drew (w : World) : w.drew.heap = w.heap := rfl
theorem slv_drew {w : World} {a : Option Addr} {vs : List Value} (h : SlV w a vs) : SlV w.drew a vs := h

theorem OwnRw.kept {w w' : World} {B B' e' s' n' : Nat} {v v' : Value} {xs' : List Value} {f : List (List Int)} (h : OwnRw w B v f) (h' : w.ownsRow B' e' s' v' n' xs') (he1 : 40 ≠ e') (he2 : 3 ≠ e') (hg : w.grownBy w' v'.ownBlock) : OwnRw w' B v f :=
  let ⟨vs, h1, h2⟩ := h
  ⟨vs, h1.kept hg (own_apart h1 h' he1), fun j c hj => let ⟨u, e1, e2⟩ := h2 j c hj; ⟨u, e1, e2.kept hg (own_apart e2 h' he2)⟩⟩

/-- What the append of one more value to the model leaves as it was: the copied formula, its box, all that was before. -/
theorem unused_append {w6 w8 : World} {B : Nat} {V : Int} {a4 a6 : Option Addr} {n4 c4 n6 c6 : Nat} {m : List Bool} {x : Bool} {v8 : Value} {f : List (List Int)} {n : Nat} {vs8 : List Value} {k : Nat}
    (hown : w6.ownsRow B 4 1 (.slice a4 n4 c4) n (bools m)) (hrw : OwnRw w6 k (.slice a6 n6 c6) f)
    (_ho8 : w8.ownsRow B 4 1 v8 (n + 1) vs8)
    (hg8 : ((w6.alloc (.cells #[.int .i64 V, .slice a6 n6 c6] 24)).alloc (.cells #[.bool x] 4)).drew.grownBy w8 (Value.slice a4 n4 c4).ownBlock) (hB : B ≤ w6.heap.size) :
    Rws w8 a6 f ∧ w8.cell? ⟨w6.heap.size, 0, none⟩ = some (.int .i64 V) ∧ w8.cell? ⟨w6.heap.size, 1, none⟩ = some (.slice a6 n6 c6) ∧ Below B w6 w8 ∧ w6.heap.size + 2 ≤ w8.heap.size := by
  have hb2 : Below B w6 ((w6.alloc (.cells #[.int .i64 V, .slice a6 n6 c6] 24)).alloc (.cells #[.bool x] 4)) := below_al (below_al (Below.refl _ _) hB _) (by simp only [size_al]; omega) _
  have hsz := hg8.size
  simp only [heap_drew, size_al] at hsz
  have hblk : w8.heap[w6.heap.size]? = some (.cells #[.int .i64 V, .slice a6 n6 c6] 24) := by
    rw [hg8.block w6.heap.size (by simp only [heap_drew, size_al]; omega) (by intro he; have := (hown.lt _ he.symm).2; omega)]
    exact blk_1 _ _ _
  refine ⟨?_, fit_cell (vs := [.int .i64 V, .slice a6 n6 c6]) hblk 0, fit_cell (vs := [.int .i64 V, .slice a6 n6 c6]) hblk 1, hb2.drew.grown hg8 (by simp only [heap_drew, size_al]; omega) (fun q hq => (hown.lt q hq).1), by omega⟩
  have h2 : OwnRw ((w6.alloc (.cells #[.int .i64 V, .slice a6 n6 c6] 24)).alloc (.cells #[.bool x] 4)).drew k (.slice a6 n6 c6) f :=
    show OwnRw ((w6.alloc (.cells #[.int .i64 V, .slice a6 n6 c6] 24)).alloc (.cells #[.bool x] 4)) k (.slice a6 n6 c6) f from (hrw.below (box_below _ _)).below (box_below _ _)
  obtain ⟨a', c', e1, -, -, e4⟩ := (h2.kept ((hown.alloc _).alloc _).drew (by decide) (by decide) hg8).shape
  injection e1 with e1
  subst e1
  exact e4

set_option maxHeartbeats 4000000 in
theorem walk_CnfUnused (x0 : Int) (v1 : Value) (x1 : List (List Int)) (x2 : Int) (x3 : Bool) (w : World) (w0 : (Lit.int .u8 x0).wf = true) (w1 : ArgR .i8 w v1 x1) (w2 : (Lit.int .u16 x2).wf = true) :
    Calls Try.prog 7 #[.int .u8 x0, v1, .int .u16 x2, .bool x3] w fun e w' => e = .returned (.bool true) ∧ Below w.heap.size w w' := by
  have hb0 := bounds_u8 w0
  have hb2 := bounds_u16 w2
  have HA := hid w1
  clear w0 w1 w2
  cases hfit : fitB x1 with
  | false =>
    have HFI := hid hfit
    clear hfit
    go_enter Try.func7, Try.ntmps7
    go_wp2_with fail
    refine (law02_FitF x0 v1 x1 w HFI.out hb0.1 hb0.2 HA.out).mono ?_
    rintro e w3 ⟨rfl, hb3⟩
    have HB3 := hid hb3
    clear hb3
    go_wp2_with (go_at_call 21; refine (law02_known _).mono ?_; rintro e w' ⟨rfl, hb⟩)
    go_ret
    exact ⟨rfl, (below_al HB3.out HB3.out.size _).trans (hb.mono (by have := HB3.out.size; simp only [size_al]; omega))⟩
  | true =>
    have HFI := hid hfit
    have hlf := fitB_bounds hfit
    obtain ⟨f, hf⟩ : ∃ f, f = fitF x0 x1 := ⟨_, rfl⟩
    have hfl : f.length ≤ 30 := by rw [hf, fitF_length]; exact hlf.1
    have HFE := hid hf
    have HFOK : Hid (FOk f) := hf ▸ fok_fit hfit
    have HCK : Hid (cnfCheck (fitV x0) f = 0) := hf ▸ cnfCheck_fit hfit
    obtain ⟨V, hV⟩ : ∃ V, fitV x0 = V := ⟨_, rfl⟩
    have hVr : 1 ≤ V ∧ V ≤ 12 := hV ▸ fitV_range x0
    have HFC : Hid (∀ c ∈ f, c.length ≤ 65536) := fun c hc => by have := (mem_fitF hfit (hf ▸ hc)).1; omega
    obtain ⟨m, hm⟩ : ∃ m, m = modelL V.toNat x2 := ⟨_, rfl⟩
    have hml : (m.length : Int) = V := by rw [hm]; simp [modelL]; omega
    have hin : ∀ c ∈ f, ∀ x ∈ c, x.natAbs ≤ m.length := fun c hc x hx => by
      have := (mem_fitF hfit (hf ▸ hc)).2 x hx
      rw [hV] at this
      omega
    rw [hV] at HCK
    have HVE := hid hV
    have HM := hid hm
    have hmb : m.length ≤ 12 := by omega
    have HML : Hid (cnfFirst V f m = (firstIdx m f, 0)) := cnfFirst_idx HCK.out (by rw [hml]; simp)
    have HCK2 : Hid (cnfCheck (V + 1) f = 0) := cnfCheck_more (by omega) (by omega) HCK.out
    have HML2 : Hid (cnfFirst (V + 1) f (m ++ [x3]) = (firstIdx m f, 0)) := by
      have h := cnfFirst_idx (m := m ++ [x3]) HCK2.out (by rw [List.length_append]; simp; omega)
      rw [firstIdx_more hin] at h
      exact h
    obtain ⟨at0, hat⟩ : ∃ at0, firstIdx m f = at0 := ⟨_, rfl⟩
    rw [hat] at HML HML2
    clear hfit hlf hf hV hm hml hat hin
    go_enter Try.func7, Try.ntmps7
    go_wp2_with fail
    refine (law02_FitC x0 v1 x1 w HFI.out hb0.1 hb0.2 HA.out).mono ?_
    rw [HVE.out, ← HFE.out]
    rintro e w3 ⟨a, c, rfl, hfc, -, hr3, hb3⟩
    have HB3 := hid hb3
    have HR3 := hid hr3
    have hz3 := hb3.size
    have hz36 : w.heap.size ≤ w3.heap.size + 1 := by omega
    clear hb3 hr3
    go_wp2_with fail
    refine (law02_ModelR V V.toNat x2 _ (by omega) (by omega) hb2.1 hb2.2).mono ?_
    rw [← HM.out]
    rintro e w4 ⟨a4, c4, rfl, ho4, hs4, hb4⟩
    have HB4 := hid ((below_al HB3.out hz3 _).trans (hb4.mono (by simp only [size_al]; omega)))
    have HR4 := hid ((HR3.out.below (box_below _ _)).below hb4)
    have hq0 := hb4.cell (p := ⟨w3.heap.size, 0, none⟩) (by simp only [size_al]; omega)
    have hq1 := hb4.cell (p := ⟨w3.heap.size, 1, none⟩) (by simp only [size_al]; omega)
    have hp0 : w4.cell? ⟨w3.heap.size, 0, none⟩ = some (.int .i64 V) := by rw [hq0]; exact fit_cell (vs := [.int .i64 V, .slice a f.length c]) (heap_alloc_new w3 _) 0
    have hp1 : w4.cell? ⟨w3.heap.size, 1, none⟩ = some (.slice a f.length c) := by rw [hq1]; exact fit_cell (vs := [.int .i64 V, .slice a f.length c]) (heap_alloc_new w3 _) 1
    have HS4 := hid hs4
    have HO4 := hid ho4
    have hz4 := hb4.size
    simp only [size_al] at hz4
    clear hb4 hs4 ho4 hq0 hq1
    go_wp2_with fail
    refine (cnf_FirstR V _ f _ _ _ m _ _ at0 0 _ HML.out rfl rfl HFOK.out HR4.out HS4.out (by omega) (by omega)).mono ?_
    rintro e w5 ⟨rfl, hb5⟩
    have HB5 := hid (HB4.out.trans (hb5.mono (by omega)))
    have HR5 := hid (HR4.out.below hb5)
    have HO5 := hid (own_below HO4.out hb5)
    have hr0 : w5.cell? ⟨w3.heap.size, 0, none⟩ = some (.int .i64 V) := by rw [hb5.cell (p := ⟨w3.heap.size, 0, none⟩) (by show w3.heap.size < _; omega)]; exact hp0
    have hz5 := hb5.size
    have hr1 : w5.cell? ⟨w3.heap.size, 1, none⟩ = some (.slice a f.length c) := by rw [hb5.cell (p := ⟨w3.heap.size, 1, none⟩) (by show w3.heap.size < _; omega)]; exact hp1
    clear hb5 hp0 hp1
    go_wp2_with fail
    refine (kit_CopyFormula V a f _ c w5 rfl HFOK.out HR5.out (by omega) HFC.out).mono ?_
    rintro e w6 ⟨a6, c6, rfl, h6c, hw6, hr6, hb6⟩
    have HW6 := hid hw6
    have HB6 := hid (HB5.out.trans (hb6.mono HB5.out.size))
    have HR6 := hid hr6
    have HO6 := hid (own_below HO5.out hb6)
    have hz6 := HB6.out.size
    have hz6' : w3.heap.size + 1 ≤ w6.heap.size := by have := hb6.size; omega
    clear hb6 hr6 hw6
    go_wp2_with fail
    obtain ⟨ib, hbi, hbz0, hbz1, hbz2⟩ := info_parts info_bool
    have hown : w6.ownsRow (w3.heap.size + 1) 4 1 (.slice a4 m.length c4) m.length (bools m) := by simpa only [size_al] using HO6.out
    have HOWN := hid hown
    have HLO : Hid (m.length + 1 ≤ maxLen) := by unfold maxLen Hid; omega
    have hb1 : (m.length + 1) * 1 ≤ 140737488355328 := by omega
    go_region_law (first
      | (refine step_append_sl rfl _ _ 29 rfl (w3.heap.size + 1) 4 ib (.bool false) 1 Try.underlying29 hbi hbz0 hbz1 hbz2 rfl (.slice a4 m.length c4) m.length (bools m) rfl ?_ _ 1 _ [.bool x3] rfl ?_ rfl nofun one_bool HLO.out hb1 ?_ ?_; exact ((hown.alloc _).alloc _).drew; exact slv_drew (slv_at (e := 4) (m := (0, 0)) (blk_2 _ _ _)); (simp only [heap_drew, size_al]; omega); intro v8 w8 ho8 hg8; have hu8 := unused_append HOWN.out HW6.out ho8 hg8 hz6'; obtain ⟨hR8, hc80, hc81, hb8, hz8⟩ := hu8; have HR8 := hid hR8; have HB8 := hid (HB6.out.trans (hb8.mono hz36)); have ho8' : w8.ownsRow (w3.heap.size + 1) 4 1 v8 (m.length + 1) (bools (m ++ [x3])) := (by rw [bools_append]; exact ho8); obtain ⟨a8, c8, rfl, -, -, hs8⟩ := own_sl ho8'; rw [bools_length] at *; have HS8 := hid hs8; clear hR8 hb8 ho8 ho8' hg8 hs8)
      | (go_simp; go_at_call 24; refine (cnf_FirstR (V + 1) _ f _ _ _ (m ++ [x3]) _ _ at0 0 _ HML2.out rfl (by simp) HFOK.out HR8.out HS8.out (by omega) (by simp; omega)).mono ?_; rintro e w9 ⟨rfl, hb9⟩; have HB9 := hid (HB8.out.trans (hb9.mono HB8.out.size)); have HR9 := hid (HR8.out.below hb9); have hd0 := (hb9.cell (p := ⟨w6.heap.size, 0, none⟩) (by show w6.heap.size < _; omega)).trans hc80; have hd1 := (hb9.cell (p := ⟨w6.heap.size, 1, none⟩) (by show w6.heap.size < _; omega)).trans hc81; clear hb9 hc80 hc81))
    all_goals
      go_wp2_with (go_at_call 22; refine (cnf_CheckR (V + 1) _ f _ _ 0 _ HCK2.out rfl HFOK.out HR9.out (by omega)).mono ?_; rintro e w10 ⟨rfl, rfl⟩)
      refine (law02_known _).mono ?_
      rintro e w11 ⟨rfl, hb⟩
      go_wp2_with fail
      go_ret
      exact ⟨rfl, (below_al HB9.out HB9.out.size _).trans (hb.mono (by have := HB9.out.size; simp only [size_al]; omega))⟩

end Go.Proofs.Ytaekcejenagbgaa
