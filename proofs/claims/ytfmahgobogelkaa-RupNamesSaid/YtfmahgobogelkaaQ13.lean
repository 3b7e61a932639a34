/- The walk of PropGrows. -/
import Derived.Test.YtfmahgobogelkaaQ12
import Derived.Test.YtfmahgobogelkaaQ2
import Derived.Test.YtfmahgobogelkaaQ5
import Derived.Test.YtfmahgobogelkaaQ1

namespace Go.Proofs.Ytfmahgobogelkaa.Ord
open Go.RowKit

theorem fok_takeG {f : List (List Int)} (h : FOk f) (k : Nat) : FOk (f.take k) := fun c hc => h c (List.mem_of_mem_take hc)

theorem rws_takeG {w : World} {a : Option Addr} {f : List (List Int)} (h : Rws w a f) (k : Nat) : Rws w a (f.take k) := by
  intro j c hj
  rw [List.getElem?_take] at hj
  split at hj
  · exact h j c hj
  · cases hj

theorem slv_takeG {w : World} {a : Option Addr} {xs : List Int} (h : SlV w a (ints xs)) (k : Nat) : SlV w a (ints (xs.take k)) := by
  intro j c hj
  rw [show ints (xs.take k) = (ints xs).take k by simp [ints, List.map_take]] at hj
  rw [List.getElem?_take] at hj
  split at hj
  · exact h j c hj
  · cases hj

theorem check_takeG {n : Int} {f : List (List Int)} (h : cnfCheck n f = 0) (k : Nat) : cnfCheck n (f.take k) = 0 := by
  unfold cnfCheck at *
  split at h
  · simp at h
  split at h
  · simp at h
  rename_i h1 h2
  rw [if_neg h1, if_neg (by simp; omega)]
  cases hf : (f.take k).find? (fun c => litCheck n c != 0) with
  | none => rfl
  | some c =>
    exfalso
    have hc := List.find?_some hf
    have hm := List.mem_of_find?_eq_some hf
    cases hf2 : f.find? (fun c => litCheck n c != 0) with
    | none => exact absurd hc (by simpa using List.find?_eq_none.1 hf2 c (List.mem_of_mem_take hm))
    | some d =>
      rw [hf2] at h
      have := List.find?_some hf2
      simp at this
      exact this h

theorem law02_FitG (n : Int) (v1 : Value) (l : List (List Int)) (w : World) (hfit : fitB l = true) (hn0 : 0 ≤ n) (hn1 : n ≤ 255) (h1 : ArgR .i8 w v1 l) :
    Calls Try.prog 38 #[.int .u8 n, v1] w fun e w' =>
      ∃ a c, e = .returned (.tuple #[.agg #[.int .i64 (fitV n), .slice a (fitF n l).length c], .bool true]) ∧ (fitF n l).length ≤ c ∧ Rws w' a (fitF n l) ∧ Below w.heap.size w w' := by
  refine (law02_FitT n v1 l w hfit hn0 hn1 h1).mono ?_
  rintro e w' ⟨a, c, rfl, ho, hr, hb⟩
  obtain ⟨a', c', e1, e2, _, _⟩ := ho.shape
  injection e1 with e3 e4 e5
  subst e3 e5
  exact ⟨_, _, rfl, e2, hr, hb⟩

theorem slice_headG {P : Program} {t e : TypeId} {a : Option Addr} {n c : Nat} {k : Int} (ht : P.underlying t = some (.slice e)) (hsz : ∀ wx, (sizeOf e).run P wx = .ok 1 wx) (h0 : 0 ≤ k) (h1 : k ≤ c) :
    ∀ wx, (Instr.slice t (.slice a n c) none (some (.int .i64 k)) none).run P wx = .ok (.slice a k.toNat c) wx := by
  intro wx
  have he : P.elem t = e := by simp [Program.elem, ht]
  rw [run_slice_h (P := P) wx t a n c (by rw [he]; exact ht) .i64 k h0 h1, he, hsz]
  cases a <;> simp [sliced, Result.andThen, Addr.add]

theorem argI_below {k : IntKind} {w w' : World} {v : Value} {xs : List Int} (h : ArgI k w v xs) (hb : Below w.heap.size w w') : ArgI k w' v xs := by
  obtain ⟨a, c, h1, h2, h3, h4, h5, h6⟩ := h
  exact ⟨a, c, h1, h2, h3, h4, h5.below hb, h6⟩

/-- Units, of a formula and a list of assumptions that are known to be right. -/
structure UOk (n : Nat) (F : List (List Int)) (A : List Int) : Prop where
  n1 : n ≤ 1048576
  f : FOk F
  fl : F.length ≤ 1048576
  al : A.length ≤ 4294967296
  cl : ∀ c ∈ F, c.length ≤ 1048576
  chk : cnfCheck n F = 0
  cok : ClsOk n F
  aok : ∀ a ∈ A, LitOk n a

theorem prop_UnitsG (n : Nat) (acl : Option Addr) (F : List (List Int)) (mf cf : Nat) (aas : Option Addr) (A : List Int) (ma cas : Nat) (U : List Int) (b : Bool) (w : World) (hU : upL n F A = U) (hb : upF F A = b) (h : UOk n F A) (hmf : mf = F.length) (hma : ma = A.length) (hr : Rws w acl F) (hs : SlV w aas (ints A)) :
    Calls Try.prog 50 #[.agg #[.int .i64 n, .slice acl mf cf], .slice aas ma cas] w fun e w' => Below w.heap.size w w' ∧ ∃ ar cr, e = .returned (.tuple #[.slice ar U.length cr, .bool b, .int .i64 0]) ∧ SlV w' ar (ints U) := by
  have := prop_Units n acl F mf cf aas A ma cas w h.n1 hmf hma h.f hr hs h.fl h.al h.cl h.chk h.cok h.aok
  unfold unitsR at this
  rwa [hU, hb] at this

end Go.Proofs.Ytfmahgobogelkaa.Ord

/- The walks of the laws CnfChecks and CnfFirsts. -/
namespace Go.Proofs.Ytfmahgobogelkaa
open Go.RowKit

theorem rows_of_arg {w : World} {v : Value} {f : List (List Int)} (h : ArgR .i64 w v f) :
    ∃ a c, v = .slice a f.length c ∧ f.length ≤ 9223372036854775807 ∧ Rws w a f ∧ FOk f := by
  obtain ⟨a, c, rfl, h1, h2, _, h4⟩ := h
  unfold maxLen at h2
  refine ⟨a, c, rfl, by omega, fun j xs hj => ?_, fun xs hxs => ?_⟩
  · obtain ⟨b, off, u, e1, e2, a', c', e3, e4, e5, e6, e7, _⟩ := h4 j xs hj
    exact ⟨b, off, u, e1, e2, a', c', e3, e4, e6, e7⟩
  · obtain ⟨j, hj, rfl⟩ := List.getElem_of_mem hxs
    obtain ⟨b, off, u, e1, e2, a', c', e3, e4, e5, e6, e7, e8⟩ := h4 j _ (List.getElem?_eq_getElem hj)
    unfold maxLen at e5
    exact ⟨fun x hx => i64_of_wf (e8 x hx), by omega⟩

theorem law02_SmallR (n : Int) (a : Option Addr) (f : List (List Int)) (m c : Nat) (r : Bool) (w : World) (hr0 : smallB f = r) (hm : m = f.length) (hf : FOk f) (hr : Rws w a f) (hl : f.length ≤ 9223372036854775807) :
    Calls Try.prog 34 #[.agg #[.int .i64 n, .slice a m c]] w fun e w' => e = .returned (.bool r) ∧ w.alloc (fbox n a m c) = w' := hr0 ▸ law02_Small n a f m c w hm hf hr hl

end Go.Proofs.Ytfmahgobogelkaa

/- The walks of RupImplies and RupOdd. -/
namespace Go.Proofs.Ytfmahgobogelkaa.Ord
open Go.RowKit

theorem law02_FitH (n : Int) (v1 : Value) (l : List (List Int)) (w : World) (hfit : fitB l = true) (hn0 : 0 ≤ n) (hn1 : n ≤ 255) (h1 : ArgR .i8 w v1 l) :
    Calls Try.prog 38 #[.int .u8 n, v1] w fun e w' =>
      ∃ a c, e = .returned (.tuple #[.agg #[.int .i64 (fitV n), .slice a (fitF n l).length c], .bool true]) ∧ (fitF n l).length ≤ c ∧ (a = none → c = 0) ∧ Rws w' a (fitF n l) ∧ Below w.heap.size w w' := by
  refine (law02_FitT n v1 l w hfit hn0 hn1 h1).mono ?_
  rintro e w' ⟨a, c, rfl, ho, hr, hb⟩
  obtain ⟨a', c', e1, e2, e6, _⟩ := ho.shape
  injection e1 with e3 e4 e5
  subst e3 e5
  exact ⟨_, _, rfl, e2, e6, hr, hb⟩

set_option maxRecDepth 100000 in
set_option maxHeartbeats 4000000 in
theorem walk_RupImplies (x0 : Int) (v1 : Value) (x1 : List (List Int)) (v2 : Value) (x2 : List Int) (w : World) (w0 : (Lit.int .u8 x0).wf = true) (w1 : ArgR .i8 w v1 x1) (w2 : ArgI .i64 w v2 x2) :
    Calls Try.prog 8 #[.int .u8 x0, v1, v2] w fun e w' => e = .returned (.bool true) ∧ Below w.heap.size w w' := by
  have hb0 := bounds_u8 w0
  have HA := hid w1
  obtain ⟨a2, c2, rfl, hle2, hmx2, -, hs2, hwf2⟩ := w2
  have hs2' : SlV w a2 (ints x2) := hs2
  have HS := hid hs2'
  have H64 : Hid (∀ x ∈ x2, I64 x) := hid (fun x hx => by have := hwf2 x hx; exact bounds_i64 this)
  clear w0 w1 hs2 hs2' hwf2
  cases hfit : fitB x1 with
  | false =>
    have HFI := hid hfit
    clear hfit
    go_enter Try.func8, Try.ntmps8
    go_wp2_with fail
    refine (law02_FitF x0 v1 x1 w HFI.out hb0.1 hb0.2 HA.out).mono ?_
    rintro e w3 ⟨rfl, hb3⟩
    have HB3 := hid hb3
    clear hb3
    go_wp2_with (go_at_call 39; refine (law05_known _).mono ?_; rintro e w' ⟨rfl, hb⟩)
    go_ret
    exact ⟨rfl, (below_al HB3.out HB3.out.size _).trans (hb.mono (by have := HB3.out.size; simp only [size_al]; omega))⟩
  | true =>
    have hV := fitV_range x0
    obtain ⟨n, hn⟩ : ∃ n : Nat, fitV x0 = (n : Int) := ⟨(fitV x0).toNat, by omega⟩
    have hn1 : 1 ≤ n ∧ n ≤ 12 := by omega
    obtain ⟨F, hF⟩ : ∃ F, fitF x0 x1 = F := ⟨_, rfl⟩
    have hfl : F.length ≤ 30 := by rw [← hF, fitF_length]; exact (fitB_bounds hfit).1
    have HFO := hid (show FOk F from hF ▸ fok_fit hfit)
    have HN := hid hn
    have HF := hid hF
    have HFI := hid hfit
    obtain ⟨b, g, hU⟩ : ∃ b g, impV n F x2 = (b, g) := ⟨_, _, rfl⟩
    have HU := hid hU
    have hz0 : w.heap.size ≤ w.heap.size := Nat.le_refl _
    clear hfit hF hU hn hV
    by_cases h20 : (20 : Int) < x2.length
    · go_enter Try.func8, Try.ntmps8
      go_wp2_with fail
      refine (law02_FitG x0 v1 x1 w HFI.out hb0.1 hb0.2 HA.out).mono ?_
      rw [HN.out, HF.out]
      rintro e w3 ⟨a, c, rfl, hfc, hr3, hb3⟩
      have HB3 := hid hb3
      clear hb3 hr3
      go_wp2_with (go_at_call 39; refine (law05_known _).mono ?_; rintro e w' ⟨rfl, hb⟩)
      go_ret
      exact ⟨rfl, (below_al HB3.out HB3.out.size _).trans (hb.mono (by have := HB3.out.size; simp only [size_al]; omega))⟩
    · have d1 : decide ((20 : Int) < x2.length) = false := decide_eq_false h20
      go_enter Try.func8, Try.ntmps8
      go_wp2_with fail
      refine (law02_FitG x0 v1 x1 w HFI.out hb0.1 hb0.2 HA.out).mono ?_
      rw [HN.out, HF.out]
      rintro e w3 ⟨a, c, rfl, hfc, hr3, hb3⟩
      have hz3 := hb3.size
      have hb4 : Below w.heap.size w (w3.alloc (fbox n a F.length c)) := below_al hb3 hz3 _
      have HR4 := hid (hr3.below (box_below w3 (fbox n a F.length c)))
      have HS4 := hid (HS.out.below hb4)
      have HB4 := hid hb4
      have hp0 : (w3.alloc (fbox n a F.length c)).cell? ⟨w3.heap.size, 0, none⟩ = some (.int .i64 n) := fit_cell (vs := [.int .i64 n, .slice a F.length c]) (heap_alloc_new w3 _) 0
      have hp1 : (w3.alloc (fbox n a F.length c)).cell? ⟨w3.heap.size, 1, none⟩ = some (.slice a F.length c) := fit_cell (vs := [.int .i64 n, .slice a F.length c]) (heap_alloc_new w3 _) 1
      clear hb3 hr3 hb4
      go_wp2_with fail
      have hfb : (World.alloc w3 (.cells #[.int .i64 n, .slice a F.length c] 34)) = w3.alloc (fbox n a F.length c) := rfl
      rw [hfb]
      clear hfb
      generalize w3.alloc (fbox n a F.length c) = w4 at HR4 HS4 HB4 hp0 hp1 ⊢
      have TK := True.intro
      go_region_with (first
        | (go_at_call 47; refine (kit_CopyInts a2 x2 c2 _ (by exact HS4.out) (by omega)).mono ?_; rintro e w5 ⟨v5, rfl, ho5, hb5⟩; obtain ⟨a5, c5, rfl, -, -, hs5⟩ := own_sli ho5; have hb5' := (Below.refl w4.heap.size w4).drew.trans hb5; have hp50 := below_keeps hb5' _ _ hp0; have hp51 := below_keeps hb5' _ _ hp1; have HB5 := hid (HB4.out.trans (hb5'.mono HB4.out.size)); have HS5 := hid hs5; have HR5 := hid (HR4.out.below hb5'); have HX5 := hid (HS4.out.below hb5'); clear ho5 hb5 hb5' hs5)
        | (go_at_call 43; refine (rup_ImpliedN n a F F.length c a5 x2 x2.length c5 b g _ HU.out rfl rfl HFO.out (by exact HR5.out) H64.out (by exact HS5.out) (by omega) (by omega)).mono ?_; rintro e w6 ⟨rfl, hb6⟩; have hp60 := below_keeps hb6 _ _ hp50; have hp61 := below_keeps hb6 _ _ hp51; have HB6 := hid (HB5.out.trans (hb6.mono HB5.out.size)); have HR6 := hid (HR5.out.below hb6); have HX6 := hid (HX5.out.below hb6); clear hb6))
      all_goals
        go_wp2_with fail
        refine (ref05_ImpliedN n a F F.length c a2 x2 x2.length c2 b g w6 HU.out rfl rfl HFO.out HR6.out H64.out HX6.out (by omega) (by omega)).mono ?_
        rintro e w7 ⟨rfl, hb7⟩
        have HB7 := hid (HB6.out.trans (hb7.mono HB6.out.size))
        clear hb7 hp60 hp61
        go_wp2_with (go_at_call 39; refine (law05_known _).mono ?_; rintro e w' ⟨rfl, hb⟩)
        go_ret
        exact ⟨rfl, HB7.out.trans (hb.mono HB7.out.size)⟩

theorem rows_of_argC {w : World} {v : Value} {f : List (List Int)} (h : ArgR .i64 w v f) :
    ∃ a c, v = .slice a f.length c ∧ f.length ≤ 9223372036854775807 ∧ (a = none → c = 0) ∧ Rws w a f ∧ FOk f := by
  obtain ⟨a, c, rfl, hl, hr, hf⟩ := rows_of_arg h
  obtain ⟨a', c', e, h1, h2, h3, h4⟩ := h
  injection e with e1 e2 e3
  subst e1 e3
  exact ⟨_, _, rfl, hl, h3, hr, hf⟩

theorem one_row {w : World} {b : Nat} {a : Option Addr} {c : Nat} {xs : List Int} (h : w.heap[b]? = some (.cells #[.slice a xs.length c] 22 (0, 0))) (h1 : xs.length ≤ c) (h2 : a = none → c = 0) (hs : SlV w a (ints xs)) : Rws w (some ⟨b, 0, none⟩) [xs] := by
  intro j d hj
  match j, hj with
  | 0, hj =>
    simp at hj
    subst hj
    exact ⟨b, 0, _, rfl, fit_cell (vs := [.slice a xs.length c]) h 0, a, c, rfl, h1, h2, hs⟩
  | j + 1, hj => simp at hj

set_option maxRecDepth 100000 in
set_option maxHeartbeats 4000000 in
theorem walk_RupOdd (n0 : Int) (vc0 : Value) (x0 : List (List Int)) (v1 : Value) (x1 : List Int) (w : World) (_wn0 : (Lit.int .i64 n0).wf = true) (w0 : ArgR .i64 w vc0 x0) (w1 : ArgI .i64 w v1 x1) :
    Calls Try.prog 9 #[.agg #[.int .i64 n0, vc0], v1] w fun e w' => e = .returned (.bool true) ∧ Below w.heap.size w w' := by
  obtain ⟨a, c, rfl, hl, hcf, hr, hf⟩ := rows_of_argC w0
  obtain ⟨a1, c1, rfl, hle1, hmx1, hc10, hs1, hwf1⟩ := w1
  have hs1' : SlV w a1 (ints x1) := hs1
  have HF := hid hf
  have HCF := hid (And.intro hcf (And.intro hle1 hc10))
  have hb1 : Below w.heap.size w (w.alloc (fbox n0 a x0.length c)) := box_below _ _
  have hb2 : Below w.heap.size w ((w.alloc (fbox n0 a x0.length c)).alloc (fbox n0 a x0.length c)) := below_al hb1 (by simp only [size_al]; omega) _
  have HR1 := hid (hr.below hb1)
  have HR2 := hid (hr.below hb2)
  have HS2 := hid (hs1'.below hb2)
  have HB2 := hid hb2
  have H64 : Hid (∀ x ∈ x1, I64 x) := hid (fun x hx => by have := hwf1 x hx; exact bounds_i64 this)
  have hl2 : x0.length ≤ 9223372036854775807 := hl
  clear w0 hr hf hb1 hb2 hs1 hs1' hwf1 hcf hle1 hc10
  cases hs : smallB x0 with
  | false =>
    have HS := hid hs
    clear hs
    go_enter Try.func9, Try.ntmps9
    go_wp2_with fail
    refine (law02_SmallR n0 _ x0 _ _ _ _ HS.out rfl HF.out HR1.out hl).mono ?_
    rintro e wx ⟨rfl, rfl⟩
    go_wp2_with (go_at_call 39; refine (law05_known _).mono ?_; rintro e w' ⟨rfl, hb⟩)
    go_ret
    exact ⟨rfl, HB2.out.trans (hb.mono (by simp only [size_al]; omega))⟩
  | true =>
    have hsl := (smallB_le hs).1
    have HS := hid hs
    obtain ⟨b, g, hU⟩ : ∃ b g, impV n0 x0 x1 = (b, g) := ⟨_, _, rfl⟩
    obtain ⟨i, g2, hU2⟩ : ∃ b g, rupV n0 x0 [x1] = (b, g) := ⟨_, _, rfl⟩
    have HU := hid (And.intro hU hU2)
    clear hs hU hU2
    have hc20 := (box_cellsI n0 a x0.length c w (fbox n0 a x0.length c)).1
    have hc21 := (box_cellsI n0 a x0.length c w (fbox n0 a x0.length c)).2
    by_cases h20 : (20 : Int) < x1.length
    · go_enter Try.func9, Try.ntmps9
      go_wp2_with fail
      refine (law02_SmallR n0 _ x0 _ _ _ _ HS.out rfl HF.out HR1.out hl).mono ?_
      rintro e wx ⟨rfl, rfl⟩
      go_wp2_with (go_at_call 39; refine (law05_known _).mono ?_; rintro e w' ⟨rfl, hb⟩)
      go_ret
      exact ⟨rfl, HB2.out.trans (hb.mono (by simp only [size_al]; omega))⟩
    · have d1 : decide ((20 : Int) < x1.length) = false := decide_eq_false h20
      by_cases h500 : (500 : Int) < n0
      · have d2 : decide ((500 : Int) < n0) = true := decide_eq_true h500
        go_enter Try.func9, Try.ntmps9
        go_wp2_with fail
        refine (law02_SmallR n0 _ x0 _ _ _ _ HS.out rfl HF.out HR1.out hl).mono ?_
        rintro e wx ⟨rfl, rfl⟩
        go_wp2_with (go_at_call 39; refine (law05_known _).mono ?_; rintro e w' ⟨rfl, hb⟩)
        go_ret
        exact ⟨rfl, HB2.out.trans (hb.mono (by simp only [size_al]; omega))⟩
      · have d2 : decide ((500 : Int) < n0) = false := decide_eq_false h500
        have HFP : Hid (FOk [x1]) := hid fun d hd => by
          have : d = x1 := by simpa using hd
          rw [this]
          exact ⟨H64.out, by omega⟩
        go_enter Try.func9, Try.ntmps9
        go_wp2_with fail
        refine (law02_SmallR n0 _ x0 _ _ _ _ HS.out rfl HF.out HR1.out hl).mono ?_
        rintro e wx ⟨rfl, rfl⟩
        generalize hw2 : (w.alloc _).alloc _ = w2
        rw [hw2] at HR2 HS2 HB2 hc20 hc21
        clear hw2
        go_wp2_with fail
        refine (rup_ImpliedN n0 a x0 x0.length c a1 x1 x1.length c1 b g w2 HU.out.1 rfl rfl HF.out HR2.out H64.out HS2.out hl2 (by omega)).mono ?_
        rintro e w6 ⟨rfl, hb6⟩
        have HB6 := hid (HB2.out.trans (hb6.mono HB2.out.size))
        have HR6 := hid (HR2.out.below hb6)
        have HS6 := hid (HS2.out.below hb6)
        have hp60 := below_keeps hb6 _ _ hc20
        have hp61 := below_keeps hb6 _ _ hc21
        clear hb6 hc20 hc21
        go_wp2_with fail
        refine (ref05_ImpliedN n0 a x0 x0.length c a1 x1 x1.length c1 b g w6 HU.out.1 rfl rfl HF.out HR6.out H64.out HS6.out hl2 (by omega)).mono ?_
        rintro e w7 ⟨rfl, hb7⟩
        have hb8 : Below w7.heap.size w7 (w7.alloc (.cells #[.slice a1 x1.length c1] 22)) := box_below _ _
        have HB8 := hid ((HB6.out.trans (hb7.mono HB6.out.size)).trans (hb8.mono (Nat.le_trans HB6.out.size hb7.size)))
        have HR8 := hid ((HR6.out.below hb7).below hb8)
        have HS8 := hid ((HS6.out.below hb7).below hb8)
        have HP8 := hid (one_row (heap_alloc_new w7 (.cells #[.slice a1 x1.length c1] 22)) HCF.out.2.1 HCF.out.2.2 HS8.out)
        have hp70 := below_keeps hb7 _ _ hp60
        have hp71 := below_keeps hb7 _ _ hp61
        have hp80 := below_keeps hb8 _ _ hp70
        have hp81 := below_keeps hb8 _ _ hp71
        clear hb7 hp60 hp61 hb8
        go_wp2_with fail
        refine (rup_CheckN n0 a x0 x0.length c (some ⟨w7.heap.size, 0, none⟩) [x1] 1 1 i g2 _ HU.out.2 rfl rfl HF.out HR8.out HFP.out HP8.out hl2 (by simp)).mono ?_
        rintro e w9 ⟨rfl, hb9⟩
        have hb10 : Below w9.heap.size w9 (w9.alloc (.cells #[.slice a1 x1.length c1] 22)) := box_below _ _
        have HB10 := hid ((HB8.out.trans (hb9.mono HB8.out.size)).trans (hb10.mono (Nat.le_trans HB8.out.size hb9.size)))
        have HR10 := hid ((HR8.out.below hb9).below hb10)
        have HS10 := hid ((HS8.out.below hb9).below hb10)
        have HP10 := hid (one_row (heap_alloc_new w9 (.cells #[.slice a1 x1.length c1] 22)) HCF.out.2.1 HCF.out.2.2 HS10.out)
        have hp90 := below_keeps hb9 _ _ hp80
        have hp91 := below_keeps hb9 _ _ hp81
        clear hb9 hp70 hp71 hp80 hp81 hb10
        go_wp2_with fail
        refine (ref05_CheckN n0 a x0 x0.length c (some ⟨w9.heap.size, 0, none⟩) [x1] 1 1 i g2 _ HU.out.2 rfl rfl HCF.out.1 HF.out HR10.out HFP.out HP10.out (by simp; omega)).mono ?_
        rintro e w11 ⟨rfl, hb11⟩
        have HB11 := hid (HB10.out.trans (hb11.mono HB10.out.size))
        clear hb11 hp90 hp91
        go_wp2_with (go_at_call 39; refine (law05_known _).mono ?_; rintro e w' ⟨rfl, hb⟩)
        go_ret
        exact ⟨rfl, HB11.out.trans (hb.mono HB11.out.size)⟩

end Go.Proofs.Ytfmahgobogelkaa.Ord

/- The walk of RupOwn. -/
namespace Go.Proofs.Ytfmahgobogelkaa.Ord
open Go.RowKit

attribute [local go_sem ↓] Go.wp_at_zero Go.wp_at_succ
attribute [local go_sem ↓ high] app_mark

theorem check_lits {n : Nat} {c : List Int} (hn : n ≤ 1048576) (h : ∀ x ∈ c, LitOk n x) (hl : c.length ≤ 4096) : litCheck n c = 0 :=
  litCheck_ok (by omega) (by omega) (by
    rw [List.any_eq_false]
    intro x hx
    have := h x hx
    unfold LitOk at this
    unfold badLit
    simp
    omega)

/-- A clause that has all literals of one of the formula's is implied. -/
theorem imp_own {F : List (List Int)} {d c : List Int} (hd : d ∈ F) (hs : ∀ x ∈ d, x ∈ c) : upF F (negs c) = true :=
  upF_true.2 (.inr ⟨d, hd, fun l hl => .asm (mem_negs.2 (by rw [Int.neg_neg]; exact hs l hl))⟩)

theorem imp_taut {F : List (List Int)} {c : List Int} {x : Int} (h1 : x ∈ c) (h2 : -x ∈ c) : upF F (negs c) = true :=
  upF_true.2 (.inl ⟨x, .asm (mem_negs.2 h2), .asm (mem_negs.2 (by rw [Int.neg_neg]; exact h1))⟩)

set_option maxRecDepth 100000 in
set_option maxHeartbeats 8000000 in
theorem walk_RupOwn (x0 : Int) (v1 : Value) (x1 : List (List Int)) (v2 : Value) (x2 : List Int) (w : World) (w0 : (Lit.int .u8 x0).wf = true) (w1 : ArgR .i8 w v1 x1) (w2 : ArgI .i8 w v2 x2) :
    Calls Try.prog 11 #[.int .u8 x0, v1, v2] w fun e w' => e = .returned (.bool true) ∧ Below w.heap.size w w' := by
  have hb0 := bounds_u8 w0
  have HA := hid w1
  obtain ⟨i0, hi0, hz0, hz1, hz2⟩ := info_parts info_int
  obtain ⟨a2, c2, rfl, hle2, hmx2, -, hs2, hwf2⟩ := w2
  have HS := hid hs2
  have HW := hid hwf2
  clear w0 w1 hs2 hwf2 hmx2 hle2
  obtain ⟨Q, hQ⟩ : ∃ Q : Ending → World → Prop, (fun e w' => e = .returned (.bool true) ∧ Below w.heap.size w w') = Q := ⟨_, rfl⟩
  rw [hQ]
  have HQ : Hid (∀ w', Below w.heap.size w w' → Q (.returned (.bool true)) w') := hid fun w' hw => by rw [← hQ]; exact ⟨rfl, hw⟩
  clear hQ
  cases hfit : fitB x1 with
  | false =>
    have HFI := hid hfit
    clear hfit
    go_enter Try.func11, Try.ntmps11
    go_wp2_with fail
    refine (law02_FitF x0 v1 x1 w HFI.out hb0.1 hb0.2 HA.out).mono ?_
    rintro e w3 ⟨rfl, hb3⟩
    have HB3 := hid hb3
    clear hb3
    go_wp2_with (go_at_call 39; refine (law05_known _).mono ?_; rintro e w' ⟨rfl, hb⟩)
    exact HQ.out _ ((below_al HB3.out HB3.out.size _).trans (hb.mono (by have := HB3.out.size; simp only [size_al]; omega)))
  | true =>
    have hV := fitV_range x0
    obtain ⟨n, hn⟩ : ∃ n : Nat, fitV x0 = (n : Int) := ⟨(fitV x0).toNat, by omega⟩
    have hn1 : 1 ≤ n ∧ n ≤ 12 := by omega
    obtain ⟨F, hF⟩ : ∃ F, fitF x0 x1 = F := ⟨_, rfl⟩
    have hfl : F.length ≤ 30 := by rw [← hF, fitF_length]; exact (fitB_bounds hfit).1
    have HFO := hid (show FOk F from hF ▸ fok_fit hfit)
    have HFK : Hid (ClsOk n F) := hid (hF ▸ clsok_fit x0 hn.symm x1)
    have HCHK : Hid (cnfCheck n F = 0) := hid (by rw [← hn, ← hF]; exact cnfCheck_fit hfit)
    have HFC : Hid (∀ c ∈ F, c.length ≤ 20) := hid fun c hc => by
      rw [← hF] at hc
      simp only [fitF, List.mem_map] at hc
      obtain ⟨c', hc', rfl⟩ := hc
      exact Nat.le_trans (fitC_length (fitV x0) c') ((fitB_bounds hfit).2 c' hc')
    have HN := hid hn
    have HF := hid hF
    have HFI := hid hfit
    clear hfit hF hn hV
    by_cases h20 : (20 : Int) < x2.length
    · have hz0 : w.heap.size ≤ w.heap.size := Nat.le_refl _
      go_enter Try.func11, Try.ntmps11
      go_wp2_with fail
      refine (law02_FitG x0 v1 x1 w HFI.out hb0.1 hb0.2 HA.out).mono ?_
      rw [HN.out, HF.out]
      rintro e w3 ⟨a, c, rfl, hfc, hr3, hb3⟩
      have HB3 := hid hb3
      clear hb3 hr3
      go_wp2_with (go_at_call 39; refine (law05_known _).mono ?_; rintro e w' ⟨rfl, hb⟩)
      exact HQ.out _ ((below_al HB3.out HB3.out.size _).trans (hb.mono (by have := HB3.out.size; simp only [size_al]; omega)))
    · have d1 : decide ((20 : Int) < x2.length) = false := decide_eq_false h20
      obtain ⟨N, hNN⟩ : ∃ N, x2.length = N := ⟨_, rfl⟩
      rw [hNN] at d1 h20 ⊢
      have HNN := hid hNN
      clear hNN
      have hN20 : N ≤ 20 := by omega
      go_enter Try.func11, Try.ntmps11
      go_wp2_with fail
      refine (law02_FitH x0 v1 x1 w HFI.out hb0.1 hb0.2 HA.out).mono ?_
      rw [HN.out, HF.out]
      rintro e w3 ⟨a, c, rfl, hfc, hcn, hr3, hb3⟩
      have HCN := hid hcn
      have hz3 := hb3.size
      have hb4 : Below w.heap.size w (w3.alloc (fbox n a F.length c)) := below_al hb3 hz3 _
      have HR4 := hid (hr3.below (box_below w3 (fbox n a F.length c)))
      have HB4 := hid hb4
      have hp0 : (w3.alloc (fbox n a F.length c)).cell? ⟨w3.heap.size, 0, none⟩ = some (.int .i64 n) := fit_cell (vs := [.int .i64 n, .slice a F.length c]) (heap_alloc_new w3 _) 0
      have hp1 : (w3.alloc (fbox n a F.length c)).cell? ⟨w3.heap.size, 1, none⟩ = some (.slice a F.length c) := fit_cell (vs := [.int .i64 n, .slice a F.length c]) (heap_alloc_new w3 _) 1
      have hb7l : w3.heap.size < (w3.alloc (fbox n a F.length c)).heap.size := by simp only [size_al]; omega
      clear hb3 hr3 hb4 hcn hz3
      go_wp2_with fail
      have hfb : (World.alloc w3 (.cells #[.int .i64 n, .slice a F.length c] 34)) = w3.alloc (fbox n a F.length c) := rfl
      rw [hfb]
      clear hfb
      generalize w3.alloc (fbox n a F.length c) = w4 at HR4 HB4 hp0 hp1 hb7l ⊢
      generalize w3.heap.size = b7 at hp0 hp1 hb7l ⊢
      have HP := hid (And.intro hp0 hp1)
      have hb7 : w.heap.size ≤ b7 ∨ True := .inr trivial
      clear hb7
      obtain ⟨M, hM⟩ : ∃ M, F.length = M := ⟨_, rfl⟩
      rw [hM] at hfl hfc hp1 HP
      try rw [hM]
      have HM := hid hM
      clear hM
      clear d1
      go_loopw [9, 10] (fun s9 s10 wr => ∃ (k : Nat) (v9 : Value), s10 = .int .i64 k ∧ v9 = s9 ∧ k ≤ N ∧ Hid (wr.ownsRow w4.heap.size 3 1 v9 (fitC n (x2.take k)).length (ints (fitC n (x2.take k)))) ∧ Hid (Below w4.heap.size w4 wr)) (fun _ s10 _ => (N - (intOf s10)).toNat)
      case atStart => exact ⟨0, _, rfl, rfl, by omega, hid (World.ownsRow_nil _ _ _ _), hid (Below.refl _ _)⟩
      case round =>
        obtain ⟨k, v9, rfl, rfl, hkN, HO, HB⟩ := hrel
        have hszb : w4.heap.size ≤ wr.heap.size := HB.out.size
        have p0 := below_keeps HB.out _ _ HP.out.1
        have p1 := below_keeps HB.out _ _ HP.out.2
        by_cases hlt : k < N
        · have hlt2 : (k : Int) < N := by omega
          obtain ⟨b2, off2, x, rfl, hcx, hx⟩ := ((HS.out.below HB4.out).below HB.out).intK (show k < x2.length by rw [HNN.out]; exact hlt)
          have hxb := bounds_i8 (HW.out x (List.mem_of_getElem? hx))
          have HX := hid hx
          obtain ⟨t, ht⟩ : ∃ t, x.tmod ((n : Int) + 1) = t := ⟨_, rfl⟩
          have htb : -13 ≤ t ∧ t ≤ 13 := by
            have g1 := Int.natAbs_tmod x ((n : Int) + 1)
            have g2 : x.natAbs % ((n : Int) + 1).natAbs < ((n : Int) + 1).natAbs := Nat.mod_lt _ (by omega)
            rw [← g1, ht] at g2
            omega
          have HT := hid ht
          have e3 : IntKind.i64.wrap x = x := IntWalk.i64_in x (by omega)
          have e4 : IntKind.i64.wrap ((n : Int) + 1) = (n : Int) + 1 := IntWalk.i64_in _ (by omega)
          have e5 : IntKind.i64.wrap t = t := IntWalk.i64_in _ (by omega)
          have e7 : IntKind.i64.wrap ((k : Int) + 1) = (k : Int) + 1 := IntWalk.i64_in _ (by omega)
          have e6 : ¬ (n : Int) + 1 = 0 := by omega
          clear hx
          by_cases h0 : t = 0
          · have H0 := hid h0
            have hne : (t != 0) = false := by simp [h0]
            clear h0
            go_wp2_with fail
            go_quiet (fail)
            go_wp2_with fail
            go_roundw
            case rel => exact ⟨k + 1, _, by simp, rfl, by omega, by rw [fitC_step_zero HX.out (by rw [HT.out]; exact H0.out)]; exact HO, hid (below_dr HB.out _)⟩
            case measure => simp [intOf]; omega
          · have H0 := hid h0
            have hne : (t != 0) = true := by simp [h0]
            obtain ⟨FL, hFL⟩ : ∃ m, (fitC n (x2.take k)).length = m := ⟨_, rfl⟩
            have hfl2 : FL ≤ 20 := by have := fitC_length (n : Int) (x2.take k); rw [List.length_take, HNN.out] at this; omega
            obtain ⟨a8, c8, hs8⟩ := own_lenV' HO.out
            rw [hFL] at hs8
            subst hs8
            have HO2 := HO.out
            rw [hFL] at HO2
            have HFL := hid hFL
            have HO3 := hid HO2
            clear h0 hFL HO2
            go_wp2_with fail
            go_quiet (fail)
            have hbd : Below w4.heap.size w4 (wr.drewN nq) := below_dr HB.out nq
            have hod : (wr.drewN nq).ownsRow w4.heap.size 3 1 (.slice a8 FL c8) FL (ints (fitC n (x2.take k))) := HO3.out
            have hsz2 : w4.heap.size ≤ (wr.drewN nq).heap.size := hszb
            clear e3 e4 e5 e6 hcx p0 p1 ht
            generalize wr.drewN nq = wd at hbd hod hsz2 ⊢
            obtain ⟨a6, c6, w6, hr6, ho6, hg6, ha6⟩ := appM_one (P := Try.prog) (wd.alloc (.cells #[.int .i64 t] 3 (0, 0))) w4.heap.size 22 22 3 i0 (.int .i64 0) 8 Try.underlying22 hi0 hz0 hz1 hz2 rfl (.slice a8 FL c8) FL (ints (fitC n (x2.take k))) (hod.alloc _) wd.heap.size (.int .i64 t) (heap_alloc_new _ _) rfl (by unfold maxLen; omega) (by omega) (by simp only [size_al]; omega)
            have HO4 : Hid (w6.ownsRow w4.heap.size 3 1 (.slice a6 (FL + 1) c6) (fitC n (x2.take (k + 1))).length (ints (fitC n (x2.take (k + 1))))) := hid (by
              rw [fitC_step HX.out (by rw [HT.out]; exact H0.out), HT.out, ints_append, List.length_append, HFL.out]
              exact ho6)
            have HB6 := hid (below_app hbd hbd.size (box_below _ _) hod hg6)
            clear ho6 hg6 ha6 hbd hod hsz2 hszb htb hxb
            go_wp2_with fail
            go_roundw
            case rel => exact ⟨k + 1, _, by simp, rfl, by omega, HO4, HB6⟩
            case measure => simp [intOf]; omega
        · have hke : k = N := by omega
          subst hke
          have hlt2 : ¬ (k : Int) < k := by omega
          obtain ⟨D, hD⟩ : ∃ D, fitC n x2 = D := ⟨_, rfl⟩
          have HOD : Hid (wr.ownsRow w4.heap.size 3 1 v9 D.length (ints D)) := hid (by
            have := HO.out
            rw [List.take_of_length_le (by rw [HNN.out]; exact Nat.le_refl _), hD] at this
            exact this)
          have HDK : Hid (∀ x ∈ D, LitOk n x) := hid fun x hx => by
            rw [← hD] at hx
            obtain ⟨h1, h2, h3⟩ := mem_fitC (V := n) (by omega) hx
            exact ⟨h1, h3, h2⟩
          have hDl : D.length ≤ 20 := by rw [← hD]; have := fitC_length (n : Int) x2; rw [HNN.out] at this; omega
          obtain ⟨aD, cD, hvD⟩ := own_lenV' HOD.out
          subst hvD
          obtain ⟨DL, hDL⟩ : ∃ m, D.length = m := ⟨_, rfl⟩
          have HDL := hid hDL
          rw [hDL] at hDl HOD
          rw [hDL]
          have HWB := hid (HB4.out.trans (HB.out.mono HB4.out.size))
          have hzw : w.heap.size ≤ wr.heap.size := HWB.out.size
          clear hD hDL HO hlt hkN hszb
          go_wp2_with fail
          clear p0 p1
          have HPR : Hid (wr.cell? ⟨b7, 0, none⟩ = some (.int .i64 n) ∧ wr.cell? ⟨b7, 1, none⟩ = some (.slice a M c)) := hid ⟨below_keeps HB.out _ _ HP.out.1, below_keeps HB.out _ _ HP.out.2⟩
          have HRR := hid (HR4.out.below HB.out)
          have HSD : Hid (SlV wr aD (ints D)) := hid (own_slv HOD.out)
          clear HB HOD
          rename World => wh
          go_loopw [12] (fun s12 wz => ∃ j : Nat, s12 = .int .i64 j ∧ j ≤ M ∧ Hid (Below wh.heap.size wh wz)) (fun s12 _ => (M - (intOf s12)).toNat)
          case atStart => exact ⟨0, rfl, by omega, hid (Below.refl _ _)⟩
          case round =>
            obtain ⟨j, rfl, hjM, HZ⟩ := hrel
            have p0 := below_keeps HZ.out _ _ HPR.out.1
            have p1 := below_keeps HZ.out _ _ HPR.out.2
            by_cases hlt : j < M
            · have hlt2 : (j : Int) < M := by omega
              obtain ⟨bf, off, d, ad, cd, hap, hcell, hcs, hck, hc64, hcl, hcc, hc0⟩ := (HRR.out.below HZ.out).row HFO.out (k := j) (by rw [HM.out]; exact hlt)
              subst hap
              have hdF := List.mem_of_getElem? hck
              have hdl := HFC.out d hdF
              have hwj : IntKind.i64.wrap ((j : Int) + 1) = (j : Int) + 1 := IntWalk.i64_in _ (by omega)
              have himp := impV_ok HCHK.out (check_lits (by omega) (HFK.out d hdF) (by omega))
              rw [imp_own hdF fun _ hx => hx] at himp
              have himp2 := impV_ok (F := F) (c := D ++ d) HCHK.out (check_lits (by omega) (fun x hx => (List.mem_append.1 hx).elim (HDK.out x) (HFK.out d hdF x)) (by rw [List.length_append, HDL.out]; omega))
              rw [imp_own hdF fun _ hx => List.mem_append_right _ hx] at himp2
              have h64 : ∀ x ∈ D ++ d, I64 x := fun x hx => by
                have : LitOk n x := (List.mem_append.1 hx).elim (HDK.out x) (HFK.out d hdF x)
                unfold LitOk at this
                unfold I64
                omega
              have HCALL1 : Hid (∀ wz, Below wr.heap.size wr wz → Calls Try.prog 43 #[.agg #[.int .i64 n, .slice (some ⟨bf, off, none⟩) M c], .slice ad d.length cd] wz fun e w' => e = .returned (.tuple #[.bool true, .int .i64 0]) ∧ Below wz.heap.size wz w') := hid fun wz hz => rup_ImpliedN n _ F M c ad d d.length cd true 0 wz himp HM.out.symm rfl HFO.out ((HRR.out.below HZ.out).below hz) hc64 (hcs.below hz) (by rw [HM.out]; omega) (by omega)
              have HDD := hid (And.intro hcs (And.intro hcc (And.intro hc0 (And.intro himp2 h64))))
              clear hcs hck hc64 hcl hcc hc0 himp himp2 h64 hdF
              obtain ⟨dl, hdle⟩ : ∃ m, d.length = m := ⟨_, rfl⟩
              rw [hdle] at hcell hdl HCALL1
              have HDLE := hid hdle
              clear hdle
              have TK := True.intro
              go_wp2_with fail
              go_cut [13, 14] (fun s13 s14 wz => s13 = .bool true ∧ s14 = .int .i64 0 ∧ Hid (Below wr.heap.size wr wz))
              case first =>
                go_region_held3 (fun y => y.cell? ⟨b7, 0, none⟩ = some (.int .i64 n) ∧ y.cell? ⟨b7, 1, none⟩ = some (.slice (some ⟨bf, off, none⟩) M c) ∧ y.cell? ⟨bf, off + j, none⟩ = some (.slice ad dl cd)) (first | exact ⟨‹_›, ‹_›, ‹_›⟩ | go_keep)
                  ((go_at_call 43; refine (HCALL1.out _ (by first | exact Below.refl _ _ | exact (Below.refl _ _).drew)).mono ?_; rintro e wz ⟨rfl, hbz⟩; have HBZ := hid hbz; have z0 := below_keeps hbz _ _ p0; have z1 := below_keeps hbz _ _ p1; have z2 := below_keeps hbz _ _ hcell; clear hbz))
                all_goals
                  go_wp2_with fail
                  go_meet
                  case rel => exact ⟨rfl, rfl, hid (by first | exact HBZ.out | exact HBZ.out.drew | exact ((Below.refl wr.heap.size wr).drew.trans HBZ.out) | exact ((Below.refl wr.heap.size wr).drew.trans HBZ.out).drew)⟩
              case rest =>
                obtain ⟨rfl, rfl, HBC⟩ := hcut
                have q0 := below_keeps HBC.out _ _ p0
                have q1 := below_keeps HBC.out _ _ p1
                have q2 := below_keeps HBC.out _ _ hcell
                have HZC := hid (HZ.out.trans (HBC.out.mono HZ.out.size))
                have HRC := hid (HRR.out.below HZC.out)
                have HDC := hid ((HDD.out.1).below HBC.out)
                have HSC := hid (HSD.out.below HZC.out)
                have HCOPY : Hid (∀ wz, Below wc.heap.size wc wz → Calls Try.prog 47 #[.slice aD DL cD] wz fun e w' => ∃ a5 c5, e = .returned (.slice a5 DL c5) ∧ w'.ownsRow wc.heap.size 3 1 (.slice a5 DL c5) DL (ints D) ∧ Below wz.heap.size wz w') := hid fun wz hz => by
                  have := kit_CopyInts aD D cD wz (HSC.out.below hz) (by rw [HDL.out]; omega)
                  rw [HDL.out] at this
                  refine this.mono ?_
                  rintro e w' ⟨v, rfl, ho, hb⟩
                  obtain ⟨a5, c5, rfl⟩ := own_lenV' ho
                  exact ⟨a5, c5, rfl, own_base ho hz.size, hb⟩
                have HIMP2 : Hid (∀ wz a6 c6, Below wc.heap.size wc wz → SlV wz a6 (ints (D ++ d)) → Calls Try.prog 43 #[.agg #[.int .i64 n, .slice (some ⟨bf, off, none⟩) M c], .slice a6 (DL + dl) c6] wz fun e w' => e = .returned (.tuple #[.bool true, .int .i64 0]) ∧ Below wz.heap.size wz w') := hid fun wz a6 c6 hz hsl => rup_ImpliedN n _ F M c a6 (D ++ d) (DL + dl) c6 true 0 wz HDD.out.2.2.2.1 HM.out.symm (by rw [List.length_append, HDL.out, HDLE.out]) HFO.out (HRC.out.below hz) HDD.out.2.2.2.2 hsl (by rw [HM.out]; omega) (by rw [List.length_append, HDL.out, HDLE.out]; omega)
                clear p0 p1 hcell HCALL1
                go_wp2_with fail
                go_cut [15, 16] (fun s15 s16 wz => s15 = .bool true ∧ s16 = .int .i64 0 ∧ Hid (Below wc.heap.size wc wz))
                case first =>
                  go_region_held3 (fun y => y.cell? ⟨b7, 0, none⟩ = some (.int .i64 n) ∧ y.cell? ⟨b7, 1, none⟩ = some (.slice (some ⟨bf, off, none⟩) M c) ∧ y.cell? ⟨bf, off + j, none⟩ = some (.slice ad dl cd)) (first | exact ⟨‹_›, ‹_›, ‹_›⟩ | go_keep)
                    (first
                      | (go_at_call 47; refine (HCOPY.out _ (by first | exact Below.refl _ _ | exact (Below.refl _ _).drew)).mono ?_; rintro e w5 ⟨a5, c5, rfl, ho5, hb5⟩; have hb5 : Below wc.heap.size wc w5 := (by first | exact hb5 | exact (Below.refl wc.heap.size wc).drew.trans hb5); have HO5 := hid ho5; have HB5 := hid hb5; have z0 := below_keeps hb5 _ _ q0; have z1 := below_keeps hb5 _ _ q1; have z2 := below_keeps hb5 _ _ q2; clear ho5 hb5)
                      | (refine step_append_sl rfl _ _ 22 rfl wc.heap.size 3 i0 (.int .i64 0) 8 Try.underlying22 hi0 hz0 hz1 hz2 rfl (.slice a5 DL c5) DL (ints D) (by rfl) (by exact HO5.out) ad dl cd (ints d) (by rfl) (by exact HDC.out.below HB5.out) (by rw [← HDLE.out]; simp) HDD.out.2.2.1 ints_one (by unfold maxLen; omega) (by omega) (by exact HB5.out.size) ?_; intro v8 w8 ho8 hg8; obtain ⟨a8, c8, rfl⟩ := own_lenV' ho8; have hb8 : Below wc.heap.size wc w8 := (by first | exact HB5.out.grown hg8 HB5.out.size (fun q hq => (HO5.out.lt q hq).1) | exact HB5.out.drew.grown hg8 HB5.out.size (fun q hq => (HO5.out.lt q hq).1)); have HB8 := hid hb8; have HS8 : Hid (SlV w8 a8 (ints (D ++ d))) := hid (by rw [ints_append]; exact own_slv ho8); have y0 := below_keeps hb8 _ _ q0; have y1 := below_keeps hb8 _ _ q1; have y2 := below_keeps hb8 _ _ q2; clear ho8 hg8 hb8)
                      | (go_at_call 43; refine (HIMP2.out _ _ _ (by first | exact HB8.out | exact HB8.out.drew) (by exact HS8.out)).mono ?_; rintro e w9 ⟨rfl, hb9⟩; have hb9 : Below wc.heap.size wc w9 := (by first | exact HB8.out.trans (hb9.mono HB8.out.size) | exact HB8.out.drew.trans (hb9.mono HB8.out.size)); have HB9 := hid hb9; have x0' := below_keeps hb9 _ _ q0; have x1' := below_keeps hb9 _ _ q1; have x2' := below_keeps hb9 _ _ q2; clear hb9))
                  all_goals
                    go_wp2_with fail
                    go_meet
                    case rel => exact ⟨rfl, rfl, hid (by first | exact HB9.out | exact HB9.out.drew)⟩
                case rest =>
                  obtain ⟨rfl, rfl, HBE⟩ := hcut
                  have HZE := hid (HZC.out.trans (HBE.out.mono HZC.out.size))
                  clear q0 q1 q2 HBE
                  go_wp2_with fail
                  go_roundw
                  case rel => exact ⟨j + 1, by simp, by omega, HZE⟩
                  case measure => simp [intOf]; omega
            · have hje : j = M := by omega
              subst hje
              have hlt2 : ¬ (j : Int) < j := by omega
              have HSC := hid (HSD.out.below HZ.out)
              have HRC := hid (HRR.out.below HZ.out)
              have himp := impV_ok (F := F) (c := D ++ [1, -1]) HCHK.out (check_lits (by omega) (fun x hx => (List.mem_append.1 hx).elim (HDK.out x) (fun h => by simp at h; unfold LitOk; omega)) (by rw [List.length_append, HDL.out]; simp; omega))
              rw [imp_taut (x := 1) (by simp) (by simp)] at himp
              have HWZ := hid (HWB.out.trans (HZ.out.mono HWB.out.size))
              have HCOPY : Hid (∀ wz, Below wr.heap.size wr wz → Calls Try.prog 47 #[.slice aD DL cD] wz fun e w' => ∃ a5 c5, e = .returned (.slice a5 DL c5) ∧ w'.ownsRow wr.heap.size 3 1 (.slice a5 DL c5) DL (ints D) ∧ Below wz.heap.size wz w') := hid fun wz hz => by
                have := kit_CopyInts aD D cD wz (HSC.out.below hz) (by rw [HDL.out]; omega)
                rw [HDL.out] at this
                refine this.mono ?_
                rintro e w' ⟨v, rfl, ho, hb⟩
                obtain ⟨a5, c5, rfl⟩ := own_lenV' ho
                exact ⟨a5, c5, rfl, own_base ho hz.size, hb⟩
              have HIMP2 : Hid (∀ wz a6 c6, Below wr.heap.size wr wz → SlV wz a6 (ints (D ++ [1, -1])) → Calls Try.prog 43 #[.agg #[.int .i64 n, .slice a j c], .slice a6 (DL + 2) c6] wz fun e w' => e = .returned (.tuple #[.bool true, .int .i64 0]) ∧ Below wz.heap.size wz w') := hid fun wz a6 c6 hz hsl => rup_ImpliedN n _ F j c a6 (D ++ [1, -1]) (DL + 2) c6 true 0 wz himp HM.out.symm (by rw [List.length_append, HDL.out]; rfl) HFO.out (HRC.out.below hz) (fun x hx => by
                rcases List.mem_append.1 hx with q | q
                · have := HDK.out x q
                  unfold LitOk at this
                  unfold I64
                  omega
                · simp at q
                  unfold I64
                  omega) hsl (by rw [HM.out]; omega) (by rw [List.length_append, HDL.out]; simp; omega)
              clear himp hlt hjM
              go_wp2_with fail
              have HTWO : Hid (∀ u ∈ [Value.int .i64 1, Value.int .i64 (-1)], u.oneCell' = true) := hid (by intro u hu; simp at hu; rcases hu with rfl | rfl <;> rfl)
              go_region_held3 (fun y => y.cell? ⟨b7, 0, none⟩ = some (.int .i64 n) ∧ y.cell? ⟨b7, 1, none⟩ = some (.slice a j c)) (first | exact ⟨‹_›, ‹_›⟩ | go_keep)
                (first
                  | (go_at_call 47; refine (HCOPY.out _ (by first | exact Below.refl _ _ | exact (Below.refl _ _).drew | exact box_below _ _ | exact (box_below _ _).drew)).mono ?_; rintro e w5 ⟨a5, c5, rfl, ho5, hb5⟩; have HRAW := hid hb5; have hb5 : Below wr.heap.size wr w5 := (by first | exact hb5 | exact (Below.refl wr.heap.size wr).drew.trans hb5 | exact (box_below wr _).trans (hb5.mono (by simp only [size_al]; exact Nat.le_succ _)) | exact (box_below wr _).drew.trans (hb5.mono (by first | exact Nat.le_succ _ | (simp only [size_al]; exact Nat.le_succ _) | (show wr.heap.size ≤ (wr.alloc _).heap.size; simp only [size_al]; exact Nat.le_succ _)))); have HO5 := hid ho5; have HB5 := hid hb5; have z0 := below_keeps hb5 _ _ p0; have z1 := below_keeps hb5 _ _ p1; clear ho5 hb5)
                  | (refine step_append_sl rfl _ _ 22 rfl wr.heap.size 3 i0 (.int .i64 0) 8 Try.underlying22 hi0 hz0 hz1 hz2 rfl (.slice a5 DL c5) DL (ints D) (by rfl) (by first | exact HO5.out.alloc _ | exact HO5.out) _ 2 _ [.int .i64 1, .int .i64 (-1)] (by rfl) (by first | exact slv_at (vs := [.int .i64 1, .int .i64 (-1)]) (e := 3) (m := (0, 0)) (heap_alloc_new _ _) | exact (slv_at (vs := [.int .i64 1, .int .i64 (-1)]) (e := 3) (m := (0, 0)) (heap_alloc_new wr _)).below HRAW.out | exact (slv_at (vs := [.int .i64 1, .int .i64 (-1)]) (e := 3) (m := (0, 0)) (heap_alloc_new wr _)).below ((Below.refl _ _).drew.trans HRAW.out)) rfl (by nofun) HTWO.out (by unfold maxLen; omega) (by omega) (by have := HB5.out.size; first | (simp only [size_al]; first | omega | (show wr.heap.size ≤ w5.heap.size + 1; omega)) | exact HB5.out.size) ?_; intro v8 w8 ho8 hg8; obtain ⟨a8, c8, rfl⟩ := own_lenV' ho8; have hb8 : Below wr.heap.size wr w8 := (by first | exact HB5.out.grown hg8 HB5.out.size (fun q hq => (HO5.out.lt q hq).1) | exact HB5.out.drew.grown hg8 HB5.out.size (fun q hq => (HO5.out.lt q hq).1) | exact (below_al HB5.out HB5.out.size _).grown hg8 (by simp only [size_al]; exact Nat.le_succ_of_le HB5.out.size) (fun q hq => (HO5.out.lt q hq).1) | exact (below_al HB5.out.drew HB5.out.size _).grown hg8 (by simp only [size_al]; exact Nat.le_succ_of_le HB5.out.size) (fun q hq => (HO5.out.lt q hq).1)); have HB8 := hid hb8; have HS8 : Hid (SlV w8 a8 (ints (D ++ [1, -1]))) := hid (by rw [ints_append]; exact own_slv ho8); have y0 := below_keeps hb8 _ _ p0; have y1 := below_keeps hb8 _ _ p1; clear ho8 hg8 hb8)
                  | (go_at_call 43; refine (HIMP2.out _ _ _ (by first | exact HB8.out | exact HB8.out.drew) (by exact HS8.out)).mono ?_; rintro e w9 ⟨rfl, hb9⟩; have hb9 : Below wr.heap.size wr w9 := (by first | exact HB8.out.trans (hb9.mono HB8.out.size) | exact HB8.out.drew.trans (hb9.mono HB8.out.size)); have HB9 := hid hb9; have x0' := below_keeps hb9 _ _ p0; have x1' := below_keeps hb9 _ _ p1; clear hb9))
              all_goals
                go_wp2_with (go_at_call 39; refine (law05_known _).mono ?_; rintro e w' ⟨rfl, hb⟩)
                exact HQ.out _ ((HWZ.out.trans (HB9.out.mono HWZ.out.size)).trans (hb.mono (by have := HB9.out.size; have := HWZ.out.size; first | omega | (show w.heap.size ≤ w9.heap.size; omega))))

end Go.Proofs.Ytfmahgobogelkaa.Ord

/- Plain facts on soundness: what follows holds in every model. -/
namespace Go.Proofs.Ytfmahgobogelkaa.Ord

theorem lit_both {m : List Bool} {x : Int} (h1 : litHolds m x = true) (h2 : litHolds m (-x) = true) : False := by
  unfold litHolds at h1 h2
  simp only [Bool.and_eq_true, decide_eq_true_eq, beq_iff_eq, Int.natAbs_neg] at h1 h2
  have := h1.2.symm.trans h2.2
  simp only [Option.some.injEq, decide_eq_decide] at this
  omega

theorem der_holds {m : List Bool} {C : List (List Int)} {A : List Int} (hC : ∀ c ∈ C, holdsB m c = true) (hA : ∀ a ∈ A, litHolds m a = true) {a : Int} (h : Der C A a) : litHolds m a = true := by
  induction h with
  | asm ha => exact hA _ ha
  | @unit c l hc hl hm ih =>
    obtain ⟨x, hx, hh⟩ := List.any_eq_true.1 (hC c hc)
    by_cases hxl : x = l
    · rw [← hxl]; exact hh
    · exact (lit_both hh (ih x hx hxl)).elim

theorem bad_no_model {m : List Bool} {C : List (List Int)} {A : List Int} (hC : ∀ c ∈ C, holdsB m c = true) (hA : ∀ a ∈ A, litHolds m a = true) (h : Bad C A) : False := by
  rcases h with ⟨a, h1, h2⟩ | ⟨c, hc, h⟩
  · exact lit_both (der_holds hC hA h1) (der_holds hC hA h2)
  · obtain ⟨x, hx, hh⟩ := List.any_eq_true.1 (hC c hc)
    exact lit_both hh (der_holds hC hA (h x hx))

theorem firstIdx_all {m : List Bool} {f : List (List Int)} (h : firstIdx m f = -1) : ∀ c ∈ f, holdsB m c = true := by
  intro c hc
  unfold firstIdx at h
  cases hf : f.findIdx? (fun c => !holdsB m c) with
  | some i => rw [hf] at h; simp at h
  | none =>
    have := List.findIdx?_eq_none_iff.1 hf c hc
    simpa using this

theorem firstIdx_of_all {m : List Bool} {f : List (List Int)} (h : ∀ c ∈ f, holdsB m c = true) : firstIdx m f = -1 := by
  unfold firstIdx
  rw [List.findIdx?_eq_none_iff.2 (fun c hc => by simp [h c hc])]

theorem byVar_full (p : Int → Bool) (hp : ∀ a, p a = true → p (-a) = false) : ∀ m : Nat, (byVar m p).length ≤ m ∧ ((byVar m p).length = m → ∀ (i : Nat) (x : Int), (byVar m p)[i]? = some x → x.natAbs = i + 1) := by
  intro m
  induction m with
  | zero => exact ⟨by simp [byVar], fun _ i x h => by simp [byVar] at h⟩
  | succ m ih =>
    obtain ⟨h1, h2⟩ := ih
    have h3 := hp ((m : Int) + 1)
    rw [byVar_succ]
    cases hq : p ((m : Int) + 1) with
    | true =>
      have h4 := h3 hq
      rw [h4]
      simp only [if_true, Bool.false_eq_true, if_false, List.append_nil, List.length_append, List.length_singleton]
      refine ⟨by omega, fun hl i x hx => ?_⟩
      rcases Nat.lt_or_ge i (byVar m p).length with hlt | hge
      · rw [List.getElem?_append_left hlt] at hx
        exact h2 (by omega) i x hx
      · rw [List.getElem?_append_right hge] at hx
        have hi : i - (byVar m p).length = 0 := by
          rcases Nat.eq_zero_or_pos (i - (byVar m p).length) with h0 | h0
          · exact h0
          · rw [List.getElem?_eq_none (by simp; omega)] at hx; cases hx
        rw [hi] at hx
        simp at hx
        omega
    | false =>
      cases hr : p (-((m : Int) + 1)) with
      | false =>
        simp only [Bool.false_eq_true, if_false, List.append_nil]
        exact ⟨by omega, fun hl => by omega⟩
      | true =>
        simp only [if_true, Bool.false_eq_true, if_false, List.nil_append, List.length_append, List.length_singleton]
        refine ⟨by omega, fun hl i x hx => ?_⟩
        rcases Nat.lt_or_ge i (byVar m p).length with hlt | hge
        · rw [List.getElem?_append_left hlt] at hx
          exact h2 (by omega) i x hx
        · rw [List.getElem?_append_right hge] at hx
          have hi : i - (byVar m p).length = 0 := by
            rcases Nat.eq_zero_or_pos (i - (byVar m p).length) with h0 | h0
            · exact h0
            · rw [List.getElem?_eq_none (by simp; omega)] at hx; cases hx
          rw [hi] at hx
          simp at hx
          omega

/-- Where every variable is decided, what was returned is a model. -/
theorem up_model {n : Nat} {C : List (List Int)} {A U : List Int} (hC : ClsOk n C) (hU : upL n C A = U) (hb : upF C A = false) (hl : U.length = n) : firstIdx (U.map fun x => decide (0 < x)) C = -1 := by
  have hgood := upF_false.1 hb
  have hcons : ∀ x, Der C A x → Der C A (-x) → False := fun x h1 h2 => hgood (.inl ⟨x, h1, h2⟩)
  have hUb : U = byVar n (fun a => decide (a ∈ U)) := by
    have h1 : ∀ a, LitOk n a → (a ∈ U ↔ Der C A a) := fun a ha => by
      rw [← hU]
      unfold upL
      rw [if_neg hgood, mem_byVar]
      simp [ha]
    have h2 : upL n C A = byVar n (fun a => decide (a ∈ U)) := by
      unfold upL
      rw [if_neg hgood]
      exact byVar_congr fun a ha => by simp [h1 a ha]
    rw [← hU] at h2 ⊢
    exact h2
  have hmem : ∀ a, a ∈ U → Der C A a := fun a ha => by
    rw [← hU] at ha
    unfold upL at ha
    rw [if_neg hgood, mem_byVar] at ha
    simpa using ha.2
  have hin : ∀ a, LitOk n a → Der C A a → a ∈ U := fun a hk ha => by
    rw [← hU]
    unfold upL
    rw [if_neg hgood, mem_byVar]
    exact ⟨hk, by simpa using ha⟩
  have hfull := (byVar_full (fun a => decide (a ∈ U)) (fun a ha => by
    simp only [decide_eq_true_eq, decide_eq_false_iff_not] at *
    exact fun hn => hcons a (hmem a ha) (hmem _ hn)) n).2
  rw [← hUb] at hfull
  have hfull := hfull hl
  have hat : ∀ x ∈ U, litHolds (U.map fun x => decide (0 < x)) x = true := fun x hx => by
    obtain ⟨i, hi⟩ := List.mem_iff_getElem?.1 hx
    have h1 := hfull i x hi
    unfold litHolds
    rw [h1]
    simp [hi]
  have htot : ∀ a, LitOk n a → a ∈ U ∨ -a ∈ U := fun a ha => by
    unfold LitOk at ha
    have hlt : a.natAbs - 1 < U.length := by omega
    obtain ⟨x, hx⟩ : ∃ x, U[a.natAbs - 1]? = some x := ⟨_, List.getElem?_eq_getElem hlt⟩
    have h1 := hfull _ x hx
    have h2 := List.mem_of_getElem? hx
    rcases show x = a ∨ x = -a by omega with h | h
    · exact .inl (h ▸ h2)
    · exact .inr (h ▸ h2)
  refine firstIdx_of_all fun c hc => ?_
  refine List.any_eq_true.2 ?_
  by_cases h : ∃ x ∈ c, x ∈ U
  · obtain ⟨x, h1, h2⟩ := h
    exact ⟨x, h1, hat x h2⟩
  · exfalso
    refine hgood (.inr ⟨c, hc, fun l hl => ?_⟩)
    rcases htot l (hC c hc l hl) with h1 | h1
    · exact absurd ⟨l, hl, h1⟩ h
    · exact hmem _ h1

end Go.Proofs.Ytfmahgobogelkaa.Ord

/- Plain facts on the soundness of proofs, and on what more clauses change. -/
namespace Go.Proofs.Ytfmahgobogelkaa.Ord

theorem lit_total {n : Nat} {m : List Bool} (hm : m.length = n) {x : Int} (hx : LitOk n x) (h : litHolds m x = false) : litHolds m (-x) = true := by
  unfold LitOk at hx
  unfold litHolds at h ⊢
  rw [Int.natAbs_neg]
  have h0 : decide (0 < x.natAbs) = true := by simp; omega
  rw [h0, Bool.true_and] at h ⊢
  have hl : x.natAbs - 1 < m.length := by omega
  rw [List.getElem?_eq_getElem hl] at h ⊢
  simp only [beq_eq_false_iff_ne, ne_eq, Option.some.injEq, beq_iff_eq] at h ⊢
  cases hmv : m[x.natAbs - 1] with
  | true =>
    rw [hmv] at h
    have : ¬ (0 < x) := fun q => h (by simp [q])
    simp; omega
  | false =>
    rw [hmv] at h
    have : 0 < x := by
      by_cases q : 0 < x
      · exact q
      · exact absurd (by simp [q]) h
    simp; omega

theorem imp_holds {n : Nat} {m : List Bool} {F : List (List Int)} {c : List Int} (hm : m.length = n) (hF : ∀ d ∈ F, holdsB m d = true) (hc : ∀ x ∈ c, LitOk n x) (h : upF F (negs c) = true) : holdsB m c = true := by
  cases hh : holdsB m c with
  | true => rfl
  | false =>
    refine (bad_no_model hF (fun a ha => ?_) (upF_true.1 h)).elim
    have hac := mem_negs.1 ha
    have := List.any_eq_false.1 hh (-a) hac
    have h2 := lit_total hm (hc (-a) hac) (by simpa using this)
    rwa [Int.neg_neg] at h2

theorem rupGo_holds {n : Nat} {m : List Bool} {F P : List (List Int)} (hm : m.length = n) (hF : ∀ d ∈ F, holdsB m d = true) (hP : ClsOk n P) : ∀ (k : Nat), k ≤ rupGo F P → ∀ d ∈ P.take k, holdsB m d = true
  | 0, _, d, hd => by simp at hd
  | k + 1, hk, d, hd => by
    have ih := rupGo_holds hm hF hP k (by omega)
    have hkl : k < P.length := by have := rupGo_le F P; omega
    rw [List.take_add_one, List.getElem?_eq_getElem hkl] at hd
    rcases List.mem_append.1 hd with q | q
    · exact ih d q
    · have e : d = P[k] := by simpa using q
      rw [e]
      exact imp_holds hm (fun x hx => (List.mem_append.1 hx).elim (hF x) (ih x)) (fun x hx => hP _ (List.getElem_mem _) x hx) (rupGo_true k _ (by omega) (List.getElem?_eq_getElem hkl))

/-- The first of what Check answers. -/
noncomputable def rupI (F P : List (List Int)) : Int := if rupGo F P < P.length then (rupGo F P : Int) else if P.getLast? = some [] then -1 else (P.length : Int)

theorem rupI_range (F P : List (List Int)) : -1 ≤ rupI F P ∧ rupI F P ≤ P.length := by
  have := rupGo_le F P
  unfold rupI
  split
  · omega
  · split <;> omega

/-- Where there is a model, no proof is whole. -/
theorem rupI_model {n : Nat} {m : List Bool} {F P : List (List Int)} (hm : m.length = n) (hF : ∀ d ∈ F, holdsB m d = true) (hP : ClsOk n P) : rupI F P ≠ -1 ∧ ∀ (i : Nat) (c : List Int), (i : Int) < rupI F P → P[i]? = some c → holdsB m c = true := by
  have hle := rupGo_le F P
  have hall := rupGo_holds hm hF hP (rupGo F P) (Nat.le_refl _)
  constructor
  · unfold rupI
    split
    · omega
    · split
      · rename_i h1 h2
        exfalso
        have h3 : rupGo F P = P.length := by omega
        rw [h3, List.take_of_length_le (Nat.le_refl _)] at hall
        have := hall [] (List.mem_of_getLast? h2)
        simp [holdsB] at this
      · omega
  · intro i c hi hc
    have hil := (List.getElem?_eq_some_iff.1 hc).1
    have h1 : i < rupGo F P := by
      unfold rupI at hi
      split at hi
      · omega
      · split at hi <;> omega
    exact hall c (List.mem_of_getElem? (i := i) (by rw [List.getElem?_take_of_lt h1]; exact hc))

theorem up_more {F G : List (List Int)} {A : List Int} (h : ∀ c ∈ F, c ∈ G) (hu : upF F A = true) : upF G A = true :=
  upF_true.2 (bad_mono (sub_of_subset h) (fun _ ha => ha) (upF_true.1 hu))

theorem rupGo_more {F G : List (List Int)} (h : ∀ c ∈ F, c ∈ G) (P : List (List Int)) : rupGo F P ≤ rupGo G P :=
  rupGo_ge (fun i c hi hc => up_more (fun d hd => (List.mem_append.1 hd).elim (fun q => List.mem_append_left _ (h d q)) (fun q => List.mem_append_right _ q)) (rupGo_true i c hi hc)) (rupGo_le F P)

/-- More clauses: a proof is one. -/
theorem rupI_more {F G : List (List Int)} (h : ∀ c ∈ F, c ∈ G) {P : List (List Int)} (hp : rupI F P = -1) : rupI G P = -1 := by
  have h1 := rupGo_more h P
  have h2 := rupGo_le G P
  unfold rupI at hp ⊢
  split at hp
  · omega
  · rename_i h3
    rw [if_neg (by omega)]
    exact hp

/-- Implied clauses ahead of a proof. -/
theorem rupI_ahead {F B P : List (List Int)} (hB : ∀ c ∈ B, upF F (negs c) = true) (hp : rupI F P = -1) : rupI F (B ++ P) = -1 := by
  have h0 : ¬ rupGo F P < P.length ∧ P.getLast? = some [] := by
    unfold rupI at hp
    split at hp
    · omega
    · rename_i h1
      split at hp
      · rename_i h2
        exact ⟨h1, h2⟩
      · omega
  have hle := rupGo_le F P
  have hge : (B ++ P).length ≤ rupGo F (B ++ P) := rupGo_ge (fun i c hi hc => by
    by_cases q : i < B.length
    · rw [List.getElem?_append_left q] at hc
      exact up_more (fun d hd => List.mem_append_left _ hd) (hB c (List.mem_of_getElem? hc))
    · rw [List.getElem?_append_right (by omega)] at hc
      have hil := (List.getElem?_eq_some_iff.1 hc).1
      have h3 := rupGo_true (F := F) (i - B.length) c (by omega) hc
      refine up_more (fun d hd => ?_) h3
      rcases List.mem_append.1 hd with p | p
      · exact List.mem_append_left _ p
      · refine List.mem_append_right _ ?_
        rw [List.take_append]
        refine List.mem_append_right _ ?_
        exact p) (Nat.le_refl _)
  unfold rupI
  rw [if_neg (by omega)]
  have hne : P ≠ [] := fun e => by rw [e] at h0; simp at h0
  rw [if_pos]
  rw [List.getLast?_append, h0.2]
  rfl

/-- Where all clauses are implied. -/
theorem rupI_rest {F P : List (List Int)} (h : rupI F P = -1 ∨ rupI F P = P.length) : (∀ (i : Nat) (c : List Int), P[i]? = some c → upF (F ++ P.take i) (negs c) = true) ∧ (rupI F P = -1 ↔ P.getLast? = some []) := by
  have hle := rupGo_le F P
  have h1 : ¬ rupGo F P < P.length := fun q => by
    unfold rupI at h
    rw [if_pos q] at h
    omega
  refine ⟨fun i c hc => rupGo_true i c (by have := (List.getElem?_eq_some_iff.1 hc).1; omega) hc, ?_⟩
  unfold rupI
  rw [if_neg h1]
  constructor
  · intro q
    split at q
    · assumption
    · omega
  · intro q
    rw [if_pos q]

/-- The clauses up to the one that is not implied. -/
theorem rupI_prefix {F P : List (List Int)} {k : Nat} (h : rupI F P = k) (hk : k < P.length) : rupI F (P.take (k + 1)) = k ∧ (∀ (i : Nat) (c : List Int), i < k → P[i]? = some c → upF (F ++ P.take i) (negs c) = true) ∧ ∀ c, P[k]? = some c → upF (F ++ P.take k) (negs c) = false := by
  have h1 : rupGo F P = k := by
    unfold rupI at h
    split at h
    · omega
    · split at h <;> omega
  have hf := rupGo_false (F := F) (P := P) (c := P[k]) (by rw [h1]; exact List.getElem?_eq_getElem hk)
  rw [h1] at hf
  have ht : ∀ (i : Nat) (c : List Int), i < k → P[i]? = some c → upF (F ++ P.take i) (negs c) = true := fun i c hi hc => rupGo_true i c (by omega) hc
  refine ⟨?_, ht, fun c hc => by
    rw [List.getElem?_eq_getElem hk] at hc
    injection hc with hc
    rw [← hc]
    exact hf⟩
  have h2 : rupGo F (P.take (k + 1)) = k := rupGo_at (c := P[k]) (fun i c hi hc => by
    rw [List.getElem?_take_of_lt (by omega)] at hc
    have := ht i c hi hc
    rw [List.take_take, Nat.min_eq_left (by omega)]
    exact this) (by rw [List.getElem?_take_of_lt (by omega)]; exact List.getElem?_eq_getElem hk) (by rw [List.take_take, Nat.min_eq_left (by omega)]; exact hf)
  unfold rupI
  rw [h2, if_pos (by rw [List.length_take]; omega)]

end Go.Proofs.Ytfmahgobogelkaa.Ord

/- Rows of rows, the inner ones slices into blocks of the call's own. -/
namespace Go.Proofs.Ytfmahgobogelkaa
open Go.RowKit

/-- The slice value 'v' is a row of the call's own (from B on) of the lists 'f', each a slice of ints in a block of the call's own. -/
def OwnRt (w : World) (B : Nat) (v : Value) (f : List (List Int)) : Prop :=
  ∃ vs, w.ownsRow B 22 1 v f.length vs ∧ ∀ (j : Nat) (c : List Int), f[j]? = some c → ∃ u, vs[j]? = some u ∧ OwnT 3 w B u c

theorem ownT_kept {e e' : TypeId} {w w' : World} {B B' n' s' : Nat} {v v' : Value} {xs : List Int} {xs' : List Value} (h : OwnT e w B v xs) (h' : w.ownsRow B' e' s' v' n' xs') (hne : e ≠ e') (hg : w.grownBy w' v'.ownBlock) : OwnT e w' B v xs := by
  obtain ⟨a, c, h1, h2, h3, h4⟩ := h
  refine ⟨a, c, h1, h2, h3, fun ad had => ?_⟩
  obtain ⟨g, off, cur, e1, e2, e3, e4⟩ := h4 ad had
  refine ⟨g, off, cur, e1, e2, ?_, e4⟩
  rw [hg.block g (Array.getElem?_eq_some_iff.1 e3).1 ?_]
  · exact e3
  · intro he
    rcases h'.2 with ⟨rfl, _⟩ | ⟨g', cap', cur', rfl, _, hg', _⟩
    · simp [Value.ownBlock] at he
    · simp only [Value.ownBlock, Option.some.injEq] at he
      rw [← he, e3] at hg'
      simp at hg'
      exact hne hg'.2

theorem ownT_setBelow {e : TypeId} {w : World} {B : Nat} {v : Value} {xs : List Int} (h : OwnT e w B v xs) {a : Addr} (ha : a.block < B) (u : Value) : OwnT e (w.setCell a u) B v xs := by
  obtain ⟨ad, c, h1, h2, h3, h4⟩ := h
  refine ⟨ad, c, h1, h2, h3, fun x hx => ?_⟩
  obtain ⟨g, off, cur, e1, e2, e3, e4⟩ := h4 x hx
  exact ⟨g, off, cur, e1, e2, by rw [heap_setCell_other w a g u (by omega)]; exact e3, e4⟩

theorem OwnRt.nil (w : World) (B : Nat) : OwnRt w B (.slice none 0 0) [] := ⟨[], World.ownsRow_nil _ _ _ _, by simp⟩

theorem OwnRt.below {w w' : World} {B : Nat} {v : Value} {f : List (List Int)} (h : OwnRt w B v f) (hb : Below w.heap.size w w') : OwnRt w' B v f :=
  let ⟨vs, h1, h2⟩ := h; ⟨vs, own_below h1 hb, fun j c hj => let ⟨u, e1, e2⟩ := h2 j c hj; ⟨u, e1, e2.below hb⟩⟩

theorem OwnRt.setBelow {w : World} {B : Nat} {v : Value} {f : List (List Int)} (h : OwnRt w B v f) {a : Addr} (ha : a.block < B) (u : Value) : OwnRt (w.setCell a u) B v f :=
  let ⟨vs, h1, h2⟩ := h; ⟨vs, ownsRow_setCell_below h1 ha u, fun j c hj => let ⟨x, e1, e2⟩ := h2 j c hj; ⟨x, e1, ownT_setBelow e2 ha u⟩⟩

/-- A row appended. -/
theorem OwnRt.push {w w' : World} {B : Nat} {v v' x : Value} {f : List (List Int)} {c : List Int} {vs : List Value} (h1 : w.ownsRow B 22 1 v f.length vs)
    (h2 : ∀ (j : Nat) (c : List Int), f[j]? = some c → ∃ u, vs[j]? = some u ∧ OwnT 3 w B u c) (hx : OwnT 3 w B x c)
    (h' : w'.ownsRow B 22 1 v' (f.length + 1) (vs ++ [x])) (hg : w.grownBy w' v.ownBlock) : OwnRt w' B v' (f ++ [c]) := by
  have hl : vs.length = f.length := by have := h1.1; omega
  refine ⟨vs ++ [x], by simpa using h', fun j d hj => ?_⟩
  rcases Nat.lt_or_ge j f.length with hlt | hge
  · rw [List.getElem?_append_left hlt] at hj
    obtain ⟨u, e1, e2⟩ := h2 j d hj
    exact ⟨u, by rw [List.getElem?_append_left (by omega)]; exact e1, ownT_kept e2 h1 (by decide) hg⟩
  · rw [List.getElem?_append_right hge] at hj
    have hj0 : j - f.length = 0 := by
      rcases Nat.eq_zero_or_pos (j - f.length) with h0 | h0
      · exact h0
      · rw [List.getElem?_eq_none (by simp; omega)] at hj; cases hj
    rw [hj0] at hj
    simp at hj
    subst hj
    exact ⟨x, by rw [List.getElem?_append_right (by omega), hl, hj0]; rfl, ownT_kept hx h1 (by decide) hg⟩

theorem OwnRt.shape {w : World} {B : Nat} {v : Value} {f : List (List Int)} (h : OwnRt w B v f) : ∃ a c, v = .slice a f.length c ∧ f.length ≤ c ∧ (a = none → c = 0) ∧ Rws w a f := by
  obtain ⟨vs, h1, h2⟩ := h
  obtain ⟨a, c, e1, e2, e3, e4⟩ := own_sl h1
  have hl : vs.length = f.length := by have := h1.1; omega
  rw [hl] at e1 e2
  refine ⟨a, c, e1, e2, e3, fun j d hj => ?_⟩
  obtain ⟨u, g1, g2⟩ := h2 j d hj
  obtain ⟨b, off, k1, k2⟩ := e4 j u g1
  exact ⟨b, off, u, k1, k2, g2.sli⟩

end Go.Proofs.Ytfmahgobogelkaa

/- weepholelaw05.clauses. -/
namespace Go.Proofs.Ytfmahgobogelkaa.Ord
open Go.RowKit

theorem argR_below {k : IntKind} {w w' : World} {v : Value} {xs : List (List Int)} (h : ArgR k w v xs) (hb : Below w.heap.size w w') : ArgR k w' v xs := by
  obtain ⟨a, c, h1, h2, h3, h4, h5⟩ := h
  refine ⟨a, c, h1, h2, h3, h4, fun j ys hj => ?_⟩
  obtain ⟨b, off, u, e1, e2, e3⟩ := h5 j ys hj
  exact ⟨b, off, u, e1, below_keeps hb _ _ e2, argI_below e3 hb⟩

/-- A row of rows of ints. -/
def RwT (w : World) (a : Option Addr) (f : List (List Int)) : Prop :=
  ∀ (j : Nat) (c : List Int), f[j]? = some c → ∃ b off v, a = some ⟨b, off, none⟩ ∧ w.cell? ⟨b, off + j, none⟩ = some v ∧ OwnT 3 w 0 v c

theorem RwT.rws {w : World} {a : Option Addr} {f : List (List Int)} (h : RwT w a f) : Rws w a f := fun j c hj => let ⟨b, off, v, h1, h2, h3⟩ := h j c hj; ⟨b, off, v, h1, h2, h3.sli⟩

theorem RwT.below {w w' : World} {a : Option Addr} {f : List (List Int)} (h : RwT w a f) (hb : Below w.heap.size w w') : RwT w' a f := fun j c hj => let ⟨b, off, v, h1, h2, h3⟩ := h j c hj; ⟨b, off, v, h1, below_keeps hb _ _ h2, h3.below hb⟩

theorem ownRw_rwT {w : World} {B : Nat} {a : Option Addr} {n c : Nat} {f : List (List Int)} (h : OwnRw w B (.slice a n c) f) : RwT w a f := fun j d hj => by
  obtain ⟨vs, h1, h2⟩ := h
  obtain ⟨a', c', e1, e2, e3, e4⟩ := own_sl h1
  injection e1 with e1 _ _
  subst e1
  obtain ⟨u, g1, g2⟩ := h2 j d hj
  obtain ⟨b, off, k1, k2⟩ := e4 j u g1
  exact ⟨b, off, u, k1, k2, (ownT_of_own g2).base (Nat.zero_le _)⟩

theorem ownT_setOther {w : World} {B : Nat} {v : Value} {xs : List Int} {b k : Nat} {cs : Array Value} {t : TypeId} {m : Nat × Nat} (h : OwnT 3 w B v xs) (hb : w.heap[b]? = some (.cells cs t m)) (ht : t ≠ 3) (u : Value) : OwnT 3 (w.setCell ⟨b, k, none⟩ u) B v xs := by
  obtain ⟨ad, c, h1, h2, h3, h4⟩ := h
  refine ⟨ad, c, h1, h2, h3, fun x hx => ?_⟩
  obtain ⟨g, off, cur, e1, e2, e3, e4⟩ := h4 x hx
  refine ⟨g, off, cur, e1, e2, ?_, e4⟩
  rw [heap_setCell_other w ⟨b, k, none⟩ g u ?_]
  · exact e3
  · intro e
    have e : g = b := by first | exact e | exact e.symm
    rw [e, hb] at e3
    injection e3 with e3
    injection e3 with _ e3 _
    exact ht e3

/-- A row of the call's own (from B on), of rows of ints. -/
def OwnR0 (w : World) (B : Nat) (v : Value) (f : List (List Int)) : Prop :=
  ∃ vs, w.ownsRow B 22 1 v f.length vs ∧ ∀ (j : Nat) (c : List Int), f[j]? = some c → ∃ u, vs[j]? = some u ∧ OwnT 3 w 0 u c

theorem OwnR0.nil (w : World) (B : Nat) : OwnR0 w B (.slice none 0 0) [] := ⟨[], World.ownsRow_nil _ _ _ _, by simp⟩

theorem OwnR0.below {w w' : World} {B : Nat} {v : Value} {f : List (List Int)} (h : OwnR0 w B v f) (hb : Below w.heap.size w w') : OwnR0 w' B v f :=
  let ⟨vs, h1, h2⟩ := h; ⟨vs, own_below h1 hb, fun j c hj => let ⟨u, e1, e2⟩ := h2 j c hj; ⟨u, e1, e2.below hb⟩⟩

theorem OwnR0.push {w w' : World} {B : Nat} {v v' x : Value} {f : List (List Int)} {c : List Int} {vs : List Value} (h1 : w.ownsRow B 22 1 v f.length vs)
    (h2 : ∀ (j : Nat) (c : List Int), f[j]? = some c → ∃ u, vs[j]? = some u ∧ OwnT 3 w 0 u c) (hx : OwnT 3 w 0 x c)
    (h' : w'.ownsRow B 22 1 v' (f.length + 1) (vs ++ [x])) (hg : w.grownBy w' v.ownBlock) : OwnR0 w' B v' (f ++ [c]) := by
  have hl : vs.length = f.length := by have := h1.1; omega
  refine ⟨vs ++ [x], by simpa using h', fun j d hj => ?_⟩
  rcases Nat.lt_or_ge j f.length with hlt | hge
  · rw [List.getElem?_append_left hlt] at hj
    obtain ⟨u, e1, e2⟩ := h2 j d hj
    exact ⟨u, by rw [List.getElem?_append_left (by omega)]; exact e1, ownT_kept e2 h1 (by decide) hg⟩
  · rw [List.getElem?_append_right hge] at hj
    have hj0 : j - f.length = 0 := by
      rcases Nat.eq_zero_or_pos (j - f.length) with h0 | h0
      · exact h0
      · rw [List.getElem?_eq_none (by simp; omega)] at hj; cases hj
    rw [hj0] at hj
    simp at hj
    subst hj
    exact ⟨x, by rw [List.getElem?_append_right (by omega), hl, hj0]; rfl, ownT_kept hx h1 (by decide) hg⟩

theorem OwnR0.shape {w : World} {B : Nat} {v : Value} {f : List (List Int)} (h : OwnR0 w B v f) : ∃ a c, v = .slice a f.length c ∧ f.length ≤ c ∧ (a = none → c = 0) ∧ Rws w a f := by
  obtain ⟨vs, h1, h2⟩ := h
  obtain ⟨a, c, e1, e2, e3, e4⟩ := own_sl h1
  have hl : vs.length = f.length := by have := h1.1; omega
  rw [hl] at e1 e2
  refine ⟨a, c, e1, e2, e3, fun j d hj => ?_⟩
  obtain ⟨u, g1, g2⟩ := h2 j d hj
  obtain ⟨b, off, k1, k2⟩ := e4 j u g1
  exact ⟨b, off, u, k1, k2, g2.sli⟩

theorem OwnR0.setBox {w : World} {B : Nat} {v : Value} {f : List (List Int)} {b k : Nat} {cs : Array Value} {t : TypeId} {m : Nat × Nat} (h : OwnR0 w B v f) (hb : w.heap[b]? = some (.cells cs t m)) (ht : t ≠ 3) (ht2 : t ≠ 22) (u : Value) : OwnR0 (w.setCell ⟨b, k, none⟩ u) B v f :=
  let ⟨vs, h1, h2⟩ := h; ⟨vs, own_setO h1 hb ht2 _ _, fun j c hj => let ⟨x, e1, e2⟩ := h2 j c hj; ⟨x, e1, ownT_setOther e2 hb ht u⟩⟩

theorem ownR0_of {w : World} {B : Nat} {v : Value} {f : List (List Int)} (h : OwnRw w B v f) : OwnR0 w B v f :=
  let ⟨vs, h1, h2⟩ := h; ⟨vs, h1, fun j c hj => let ⟨u, e1, e2⟩ := h2 j c hj; ⟨u, e1, (ownT_of_own e2).base (Nat.zero_le _)⟩⟩

theorem law02_FitI (n : Int) (v1 : Value) (l : List (List Int)) (w : World) (hfit : fitB l = true) (hn0 : 0 ≤ n) (hn1 : n ≤ 255) (h1 : ArgR .i8 w v1 l) :
    Calls Try.prog 38 #[.int .u8 n, v1] w fun e w' =>
      ∃ a c, e = .returned (.tuple #[.agg #[.int .i64 (fitV n), .slice a (fitF n l).length c], .bool true]) ∧ (fitF n l).length ≤ c ∧ (a = none → c = 0) ∧ RwT w' a (fitF n l) ∧ Below w.heap.size w w' := by
  refine (law02_FitT n v1 l w hfit hn0 hn1 h1).mono ?_
  rintro e w' ⟨a, c, rfl, ho, hr, hb⟩
  have hT := ownRw_rwT ho
  obtain ⟨a', c', e1, e2, e6, _⟩ := ho.shape
  injection e1 with e3 e4 e5
  subst e3 e5
  exact ⟨_, _, rfl, e2, e6, hT, hb⟩

/-- The clauses of n variables that are made of these. -/
def clsL (n : Nat) (l : List (List Int)) : List (List Int) := l.map (fitC n)

theorem clsL_fit {n : Nat} (hn : 1 ≤ n ∧ n ≤ 12) (l : List (List Int)) : fitV ((n : Int) - 1) = n ∧ fitF ((n : Int) - 1) l = clsL n l := by
  have h : fitV ((n : Int) - 1) = n := by unfold fitV; omega
  exact ⟨h, by unfold fitF clsL; rw [h]⟩

/-- What is known of them. -/
structure PrOk (n : Nat) (P : List (List Int)) : Prop where
  len : P.length ≤ 30
  ok : ClsOk n P
  cl : ∀ c ∈ P, c.length ≤ 20
  fok : FOk P

theorem clsL_ok {n : Nat} (hn : 1 ≤ n ∧ n ≤ 12) {l : List (List Int)} (h : fitB l = true) : PrOk n (clsL n l) := by
  obtain ⟨h1, h2⟩ := clsL_fit hn l
  rw [← h2]
  refine ⟨by rw [fitF_length]; exact (fitB_bounds h).1, clsok_fit _ h1.symm l, fun c hc => ?_, fok_fit h⟩
  simp only [fitF, List.mem_map] at hc
  obtain ⟨c', hc', rfl⟩ := hc
  exact Nat.le_trans (fitC_length _ c') ((fitB_bounds h).2 c' hc')

theorem PrOk.lits {n : Nat} {P : List (List Int)} (h : PrOk n P) (hn : n ≤ 12) {c : List Int} (hc : c ∈ P) : litCheck n c = 0 := check_lits (by omega) (h.ok c hc) (by have := h.cl c hc; omega)

theorem rupV_fine {n : Nat} {F P : List (List Int)} (h : cnfCheck n F = 0) (hP : PrOk n P) (hn : n ≤ 12) : rupV n F P = (rupI F P, 0) := by
  unfold rupV
  rw [if_pos (rupErr_ok h fun d hd => hP.lits hn hd)]
  rfl

set_option maxRecDepth 100000 in
set_option maxHeartbeats 2000000 in
theorem law05_clausesF (n : Nat) (a : Option Addr) (m c : Nat) (v1 : Value) (l : List (List Int)) (w : World) (hn : 1 ≤ n ∧ n ≤ 12) (hfit : fitB l = false) (h1 : ArgR .i8 w v1 l) :
    Calls Try.prog 40 #[.agg #[.int .i64 n, .slice a m c], v1] w fun e w' => ∃ v, e = .returned (.tuple #[v, .bool false]) ∧ Below w.heap.size w w' := by
  have e1 : IntKind.i64.wrap ((n : Int) - 1) = (n : Int) - 1 := IntWalk.i64_in _ (by omega)
  have e2 : IntKind.u8.wrap ((n : Int) - 1) = (n : Int) - 1 := IntWalk.u8_in _ (by omega)
  have hb1 : Below w.heap.size w (w.alloc (fbox n a m c)) := box_below _ _
  have HC := hid (law02_FitF ((n : Int) - 1) v1 l (w.alloc (fbox n a m c)) hfit (by omega) (by omega) (argR_below h1 hb1))
  have HB := hid hb1
  clear h1 hb1
  go_enter Try.func40, Try.ntmps40
  go_wp2_with fail
  refine HC.out.mono ?_
  rintro e w3 ⟨rfl, hb3⟩
  have HB3 := hid (HB.out.trans (hb3.mono HB.out.size))
  clear hb3
  go_wp2_with fail
  go_ret2
  exact ⟨_, rfl, below_al HB3.out HB3.out.size _⟩

set_option maxRecDepth 100000 in
set_option maxHeartbeats 2000000 in
theorem law05_clausesT (n : Nat) (a : Option Addr) (m c : Nat) (v1 : Value) (l : List (List Int)) (w : World) (hn : 1 ≤ n ∧ n ≤ 12) (hfit : fitB l = true) (h1 : ArgR .i8 w v1 l) :
    Calls Try.prog 40 #[.agg #[.int .i64 n, .slice a m c], v1] w fun e w' => ∃ a' c', e = .returned (.tuple #[.slice a' (clsL n l).length c', .bool true]) ∧ (clsL n l).length ≤ c' ∧ (a' = none → c' = 0) ∧ RwT w' a' (clsL n l) ∧ Below w.heap.size w w' := by
  have e1 : IntKind.i64.wrap ((n : Int) - 1) = (n : Int) - 1 := IntWalk.i64_in _ (by omega)
  have e2 : IntKind.u8.wrap ((n : Int) - 1) = (n : Int) - 1 := IntWalk.u8_in _ (by omega)
  have hb1 : Below w.heap.size w (w.alloc (fbox n a m c)) := box_below _ _
  have HC := hid (law02_FitI ((n : Int) - 1) v1 l (w.alloc (fbox n a m c)) hfit (by omega) (by omega) (argR_below h1 hb1))
  have HB := hid hb1
  have HE := hid (clsL_fit hn l)
  rw [HE.out.1, HE.out.2] at HC
  clear h1 hb1
  obtain ⟨L, hL⟩ : ∃ L, clsL n l = L := ⟨_, rfl⟩
  rw [hL] at HC ⊢
  clear hL HE
  go_enter Try.func40, Try.ntmps40
  go_wp2_with fail
  refine HC.out.mono ?_
  rintro e w3 ⟨a', c', rfl, h1, h2, h3, hb3⟩
  have HB3 := hid (HB.out.trans (hb3.mono HB.out.size))
  have HR := hid (And.intro h1 (And.intro h2 (h3.below (box_below w3 (fbox n a' L.length c')))))
  clear hb3 h1 h2 h3
  go_wp2_with fail
  go_ret2
  exact ⟨_, _, rfl, HR.out.1, HR.out.2.1, HR.out.2.2, below_al HB3.out HB3.out.size _⟩

end Go.Proofs.Ytfmahgobogelkaa.Ord

/- The contracts of the kit package's CopyLists and CopyFormula. -/
namespace Go.Proofs.Ytfmahgobogelkaa
open Go.RowKit

theorem Rws.drewN {w : World} {a : Option Addr} {f : List (List Int)} (h : Rws w a f) (n : Nat) : Rws (w.drewN n) a f := h

theorem OwnRw.nil (w : World) (B : Nat) : OwnRw w B (.slice none 0 0) [] := ⟨[], World.ownsRow_nil _ _ _ _, by simp⟩

theorem take_snoc_rw {f : List (List Int)} {k : Nat} {c : List Int} (hc : f[k]? = some c) : f.take (k + 1) = f.take k ++ [c] := by
  simp [List.take_add_one, hc]

set_option maxHeartbeats 1000000 in
theorem kit_CopyLists (a : Option Addr) (f : List (List Int)) (m c : Nat) (w : World) (hm : m = f.length) (hf : FOk f) (hr : Rws w a f) (hl : f.length ≤ 65536) (hc : ∀ c ∈ f, c.length ≤ 65536) :
    Calls Try.prog 44 #[.slice a m c] w fun e w' => ∃ v, e = .returned v ∧ OwnRw w' w.heap.size v f ∧ Below w.heap.size w w' := by
  subst hm
  have HF := hid hf
  have HR := hid hr
  have HC := hid hc
  obtain ⟨i1, hj, hy0, hy1, hy2⟩ := info_parts info_ints
  clear hf hr hc
  go_enter Try.func44, Try.ntmps44
  go_wp2_with fail
  go_loopw [3, 4] (fun v i wr => ∃ k : Nat, k ≤ f.length ∧ i = .int .i64 k ∧ Hid (OwnRw wr w.heap.size v (f.take k)) ∧ Below w.heap.size w wr) (fun _ i _ => f.length - (intOf i).toNat)
  case atStart => exact ⟨0, Nat.zero_le _, rfl, OwnRw.nil _ _, Below.refl _ _⟩
  case round =>
    obtain ⟨k, hk, rfl, ho, hb⟩ := hrel
    by_cases hlt : k < f.length
    · obtain ⟨b, off, cl, a1, cc1, rfl, hcell, hsl, hcl, -, -, -, -⟩ := (HR.out.below hb).row HF.out hlt
      have HS := hid hsl
      have HCL := hid hcl
      have hcl2 : cl.length ≤ 65536 := HC.out cl (List.mem_of_getElem? hcl)
      have hbz := hb.size
      clear hsl hcl
      go_wp2_with fail
      refine (kit_CopyInts a1 cl cc1 wr HS.out (by omega)).mono ?_
      rintro e w2 ⟨v2, rfl, ho2, hb2⟩
      obtain ⟨vs, hv1, hv2⟩ := ho.out.below hb2
      have hkl : (f.take k).length = k := by simp; omega
      rw [hkl] at hv1
      have HV1 := hid hv1
      have HV2 := hid hv2
      have HO2 := hid ho2
      have hz2 := hb2.size
      obtain ⟨a2, c2, rfl, -⟩ := own_sli ho2
      have HONE : Hid (∀ u ∈ [Value.slice a2 cl.length c2], u.oneCell' = true) := by
        intro u hu
        simp at hu
        subst hu
        rfl
      have HB2 := hid hb2
      clear ho hv1 hv2 ho2 hb2
      go_wp2_with (at_builtin; refine wpList_append_sl _ rfl _ _ 32 rfl w.heap.size 22 i1 (.slice none 0 0) 24 Try.underlying32 hj hy0 hy1 hy2 rfl _ k vs rfl (HV1.out.alloc _) _ 1 _ [.slice a2 cl.length c2] rfl (slv_new _ [.slice a2 cl.length c2] _ _) rfl (by nofun) HONE.out (by unfold maxLen; omega) (by omega) (by simp only [size_al]; omega) ?_; intro v9 w9 ho9 hg9; have HG9 := hid hg9; have HO9 := hid ho9; clear ho9 hg9)
      have hb9 : Below w.heap.size w w9 := (below_al (hb.trans (HB2.out.mono hbz)) (by omega) _).grown HG9.out (by simp only [size_al]; omega) (fun q hq => (HV1.out.lt q hq).1)
      have hpush : OwnRw w9 w.heap.size v9 (f.take (k + 1)) := by
        rw [take_snoc_rw HCL.out]
        exact OwnRw.push (by rw [hkl]; exact HV1.out.alloc _) (fun j d hd => let ⟨u, e1, e2⟩ := HV2.out j d hd; ⟨u, e1, e2.alloc _⟩) ((own_base HO2.out hbz).alloc _) (by rw [hkl]; exact HO9.out) HG9.out
      have HP := hid hpush
      clear hpush
      go_roundw
      case rel => exact ⟨k + 1, by omega, by go_num, HP.out, hb9⟩
      case measure => simp [intOf]; omega
    · have hkl : k = f.length := by omega
      have HO : Hid (OwnRw wr w.heap.size u3 f) := by
        have := ho.out
        rw [hkl, List.take_length] at this
        exact this
      clear hkl
      go_wp2_with fail
      go_ret
      exact ⟨_, rfl, HO.out, hb⟩

theorem blk_1 (w : World) (o o2 : Obj) : ((w.alloc o).alloc o2).heap[w.heap.size]? = some o := by
  rw [heap_al, heap_al, Array.getElem?_push, if_neg (by simp), Array.getElem?_push, if_pos rfl]

theorem blk_2 (w : World) (o o2 : Obj) : ((w.alloc o).alloc o2).heap[w.heap.size + 1]? = some o2 := by
  rw [heap_al, Array.getElem?_push, if_pos (by simp)]

set_option maxHeartbeats 1000000 in
theorem kit_CopyFormula (n : Int) (a : Option Addr) (f : List (List Int)) (m c : Nat) (w : World) (hm : m = f.length) (hf : FOk f) (hr : Rws w a f) (hl : f.length ≤ 65536) (hc : ∀ c ∈ f, c.length ≤ 65536) :
    Calls Try.prog 37 #[.agg #[.int .i64 n, .slice a m c]] w fun e w' =>
      ∃ a' c', e = .returned (.agg #[.int .i64 n, .slice a' f.length c']) ∧ f.length ≤ c' ∧ OwnRw w' w.heap.size (.slice a' f.length c') f ∧ Rws w' a' f ∧ Below w.heap.size w w' := by
  subst hm
  have HF := hid hf
  have HC := hid hc
  have hb2 : Below w.heap.size w ((w.alloc (fbox n a f.length c)).alloc (.cells #[.int .i64 0, .slice none 0 0] 34)) := below_al (box_below _ _) (by simp only [size_al]; omega) _
  have HB2 := hid hb2
  have HR := hid (hr.below hb2)
  clear hf hr hc hb2
  go_enter Try.func37, Try.ntmps37
  go_wp2_with fail
  refine (kit_CopyLists a f _ c _ rfl HF.out HR.out hl HC.out).mono ?_
  rintro e w3 ⟨v3, rfl, ho3, hb3⟩
  obtain ⟨a3, c3, rfl, h3c, -, hr3⟩ := ho3.shape
  have hB0 : w3.heap[w.heap.size]? = some (.cells #[.int .i64 n, .slice a f.length c] 34) := (hb3.block _ (by simp only [size_al]; omega)).trans (blk_1 _ _ _)
  have hB1 : w3.heap[w.heap.size + 1]? = some (.cells #[.int .i64 0, .slice none 0 0] 34) := (hb3.block _ (by simp only [size_al]; omega)).trans (blk_2 _ _ _)
  have hq0 : w3.cell? ⟨w.heap.size, 0, none⟩ = some (.int .i64 n) := fit_cell (vs := [.int .i64 n, .slice a f.length c]) hB0 0
  have hq1 : w3.cell? ⟨w.heap.size, 1, none⟩ = some (.slice a f.length c) := fit_cell (vs := [.int .i64 n, .slice a f.length c]) hB0 1
  have hp0 : w3.cell? ⟨w.heap.size + 1, 0, none⟩ = some (.int .i64 0) := fit_cell (vs := [.int .i64 0, .slice none 0 0]) hB1 0
  have hp1 : w3.cell? ⟨w.heap.size + 1, 1, none⟩ = some (.slice none 0 0) := fit_cell (vs := [.int .i64 0, .slice none 0 0]) hB1 1
  have hf0 : w3.frozen? ⟨w.heap.size, 1, none⟩ = false := frozen_of_row _ _ _ _ _ hB0
  have hf1 : w3.frozen? ⟨w.heap.size + 1, 0, none⟩ = false := frozen_of_row _ _ _ _ _ hB1
  have hf2 : w3.frozen? ⟨w.heap.size + 1, 1, none⟩ = false := frozen_of_row _ _ _ _ _ hB1
  have HO3 := hid ho3
  have HR3 := hid hr3
  have HB3 := hid (HB2.out.trans (hb3.mono (by simp only [size_al]; omega)))
  clear ho3 hr3 hb3 hB0 hB1
  go_wp2_with fail
  refine bodyPost_ret (v := .agg #[.int .i64 n, .slice a3 f.length c3]) (by simp [results, Try.results37, go_sem, hp0, hp1]) rfl ?_
  have hO : OwnRw (((w3.setCell ⟨w.heap.size, 1, none⟩ (.slice a3 f.length c3)).setCell ⟨w.heap.size + 1, 0, none⟩ (.int .i64 n)).setCell ⟨w.heap.size + 1, 1, none⟩ (.slice a3 f.length c3)) w.heap.size (.slice a3 f.length c3) f :=
    (((HO3.out.setBelow (by simp only [size_al]; omega) _).setBelow (by simp only [size_al]; omega) _).setBelow (by simp only [size_al]; omega) _).base (by simp only [size_al]; omega)
  refine ⟨a3, c3, rfl, h3c, hO, ?_, ((HB3.out.setCell (by simp) _).setCell (by simp) _).setCell (by simp) _⟩
  obtain ⟨a', c', e1, -, -, e4⟩ := hO.shape
  injection e1 with e1
  subst e1
  exact e4

end Go.Proofs.Ytfmahgobogelkaa

/- The contracts of the equalities of lists of lists and of formulas: slices.Equal, slices.EqualFunc, cnf.Equal, the kit's EqualLists and EqualFormula. -/
namespace Go.Proofs.Ytfmahgobogelkaa
open Go.RowKit

/-- Equality of two lists of lists, as a Bool. -/
def eqR (f g : List (List Int)) : Bool := decide (f = g)

theorem eqR_len {f g : List (List Int)} (h : ¬ f.length = g.length) : eqR f g = false := by
  simp [eqR]; intro e; exact h (by rw [e])
theorem eqR_at {f g : List (List Int)} {k : Nat} {c d : List Int} (hx : f[k]? = some c) (hy : g[k]? = some d) (h : eqI c d = false) : eqR f g = false := by
  simp only [eqR, eqI, decide_eq_false_iff_not] at *; intro e; rw [e, hy] at hx; injection hx with hx; exact h hx.symm
theorem eqR_all {f g : List (List Int)} {k : Nat} (hk : ¬ k < f.length) (hl : f.length = g.length) (h : f.take k = g.take k) : eqR f g = true := by
  rw [List.take_of_length_le (by omega), List.take_of_length_le (by omega)] at h
  simp [eqR, h]
theorem eqI_true {c d : List Int} (h : eqI c d = true) : c = d := by simpa [eqI] using h

/-- A contract of a callee that draws, met in a region whose order is open. -/
theorem quiet_drew {P : Program} {f : FuncId} {args : Array Value} {w : World} {n : Nat} {v : Value}
    (h : Calls P f args (w.drewN n) fun e w' => e = .returned v ∧ ∃ m, w' = (w.drewN n).drewN m) : Calls P f args (w.drewN n) fun e w'' => e = .returned v ∧ ∃ m, w'' = w.drewN m :=
  h.mono fun _ _ ⟨he, m, hm⟩ => ⟨he, n + m, by rw [hm]; exact World.drewN_drewN ..⟩

/-- The same behind an earlier region's draws. -/
theorem quiet_drew2 {P : Program} {f : FuncId} {args : Array Value} {w : World} {k n : Nat} {v : Value}
    (h : Calls P f args (w.drewN (k + n)) fun e w' => e = .returned v ∧ ∃ m, w' = (w.drewN (k + n)).drewN m) : Calls P f args (w.drewN (k + n)) fun e w'' => e = .returned v ∧ ∃ m, w'' = w.drewN (k + m) :=
  h.mono fun _ _ ⟨he, m, hm⟩ => ⟨he, n + m, by rw [hm, World.drewN_drewN, Nat.add_assoc]⟩

set_option maxHeartbeats 400000 in
theorem slices_Equal (a b : Option Addr) (xs ys : List Int) (la ca lb cb : Nat) (r : Bool) (w : World) (hr : eqI xs ys = r) (hla : la = xs.length) (hlb : lb = ys.length) (hs : SlV w a (ints xs)) (ht : SlV w b (ints ys)) (hl : xs.length ≤ 9223372036854775807) :
    Calls Try.prog 63 #[.slice a la ca, .slice b lb cb] w fun e w' => e = .returned (.bool r) ∧ ∃ n, w' = w.drewN n := by
  subst hla; subst hlb
  have HR := hid hr
  clear hr
  by_cases hlen : xs.length = ys.length
  · have hb1 : ((xs.length : Int) != ys.length) = false := by simp [hlen]
    have HL := hid hlen
    clear hlen
    go_enter Try.func63, Try.ntmps63
    go_wp2_with fail
    go_loopw [13] (fun i wr => ∃ k n : Nat, k ≤ xs.length ∧ wr = w.drewN n ∧ i = .int .i64 k ∧ Hid (xs.take k = ys.take k)) (fun i _ => xs.length - (intOf i).toNat)
    case atStart => exact ⟨0, 0, Nat.zero_le _, rfl, rfl, by simp [Hid]⟩
    case round =>
      obtain ⟨k, nd, hk, rfl, rfl, hrel⟩ := hrel
      by_cases hlt : k < xs.length
      · obtain ⟨b1, o1, x, rfl, hc, hx⟩ := hs.int hlt
        obtain ⟨b2, o2, y, rfl, hd, hy⟩ := ht.int (k := k) (by have := HL.out; omega)
        have HX := hid hx
        have HY := hid hy
        have hi1 : (k : Int) < xs.length := by omega
        have hi2 : (k : Int) < ys.length := by have := HL.out; omega
        clear hx hy hs ht
        go_wp2_with fail
        go_quiet (fail)
        go_wp2_with fail
        · have hne : (x != y) = true := by assumption
          go_ret
          exact ⟨by rw [← HR.out, eqI_at HX.out HY.out (by simpa using hne)]; rfl, _, by first | rfl | exact World.drewN_drewN ..⟩
        · have he : (x != y) = false := by assumption
          have he' : x = y := by simpa using he
          go_roundw
          case rel => exact ⟨k + 1, _, by omega, (by first | rfl | exact World.drewN_drewN ..), by go_num, take_eq_succ hrel HX.out (he' ▸ HY.out)⟩
          case measure => simp [intOf]; omega
      · go_wp2_with fail
        go_ret
        exact ⟨by rw [← HR.out, eqI_all hlt HL.out hrel]; rfl, _, by first | rfl | exact World.drewN_drewN ..⟩
  · have hb1 : ((xs.length : Int) != ys.length) = true := by simp; omega
    have HL := hid hlen
    clear hlen
    go_enter Try.func63, Try.ntmps63
    go_wp2_with fail
    go_ret
    exact ⟨by rw [← HR.out, eqI_len HL.out]; rfl, 0, rfl⟩

set_option maxHeartbeats 400000 in
theorem cnf_Equal1 (a b : Option Addr) (xs ys : List Int) (la ca lb cb : Nat) (r : Bool) (w : World) (hr : eqI xs ys = r) (hla : la = xs.length) (hlb : lb = ys.length) (hs : SlV w a (ints xs)) (ht : SlV w b (ints ys)) (hl : xs.length ≤ 9223372036854775807) :
    Calls Try.prog 62 #[.slice a la ca, .slice b lb cb] w fun e w' => e = .returned (.bool r) ∧ ∃ n, w' = w.drewN n := by
  subst hla; subst hlb
  have HC := hid (slices_Equal a b xs ys _ ca _ cb r w hr rfl rfl hs ht hl)
  clear hr hs ht
  go_enter Try.func62, Try.ntmps62
  go_wp2_with fail
  refine HC.out.mono ?_
  rintro e w' ⟨rfl, n, rfl⟩
  go_wp2_with fail
  go_ret
  exact ⟨rfl, n, rfl⟩

set_option maxHeartbeats 1000000 in
theorem slices_EqualFunc (a b : Option Addr) (f g : List (List Int)) (la ca lb cb : Nat) (r : Bool) (w : World) (hr : eqR f g = r) (hla : la = f.length) (hlb : lb = g.length) (hf : FOk f) (hg : FOk g) (hs : Rws w a f) (ht : Rws w b g) (hl : f.length ≤ 9223372036854775807) :
    Calls Try.prog 61 #[.slice a la ca, .slice b lb cb, .func (.func 62) #[] #[]] w fun e w' => e = .returned (.bool r) ∧ ∃ n, w' = w.drewN n := by
  subst hla; subst hlb
  have HR := hid hr
  have HF := hid hf
  have HG := hid hg
  have HS := hid hs
  have HT := hid ht
  clear hr hf hg hs ht
  by_cases hlen : f.length = g.length
  · have hb1 : ((f.length : Int) != g.length) = false := by simp [hlen]
    have HL := hid hlen
    clear hlen
    go_enter Try.func61, Try.ntmps61
    go_wp2_with fail
    go_loopw [17] (fun i wr => ∃ k n : Nat, k ≤ f.length ∧ wr = w.drewN n ∧ i = .int .i64 k ∧ Hid (f.take k = g.take k)) (fun i _ => f.length - (intOf i).toNat)
    case atStart => exact ⟨0, 0, Nat.zero_le _, rfl, rfl, by simp [Hid]⟩
    case round =>
      obtain ⟨k, nd, hk, rfl, rfl, hrel⟩ := hrel
      by_cases hlt : k < f.length
      · obtain ⟨b1, o1, c1, a1, cc1, rfl, hcell, hsl, hc1, hx1, hl1, -, -⟩ := HS.out.row HF.out hlt
        obtain ⟨b2, o2, c2, a2, cc2, rfl, hcell2, hsl2, hc2, hx2, hl2, -, -⟩ := HT.out.row HG.out (k := k) (by have := HL.out; omega)
        have HC1 := hid hc1
        have HC2 := hid hc2
        have HS1 := hid hsl
        have HS2 := hid hsl2
        have hi1 : (k : Int) < f.length := by omega
        have hi2 : (k : Int) < g.length := by have := HL.out; omega
        clear hc1 hc2 hsl hsl2 hx1 hx2
        cases he : eqI c1 c2 with
        | true =>
          have HE := hid he
          clear he
          go_wp2_with fail
          refine (cnf_Equal1 a1 a2 c1 c2 _ cc1 _ cc2 true _ HE.out rfl rfl (HS1.out.drewN nd) (HS2.out.drewN nd) hl1).mono ?_
          rintro e w' ⟨rfl, n2, rfl⟩
          go_wp2_with fail
          go_roundw
          case rel => exact ⟨k + 1, _, by omega, (by first | rfl | exact World.drewN_drewN ..), by go_num, take_eq_succ hrel HC1.out ((eqI_true HE.out) ▸ HC2.out)⟩
          case measure => simp [intOf]; omega
        | false =>
          have HE := hid he
          clear he
          go_wp2_with fail
          refine (cnf_Equal1 a1 a2 c1 c2 _ cc1 _ cc2 false _ HE.out rfl rfl (HS1.out.drewN nd) (HS2.out.drewN nd) hl1).mono ?_
          rintro e w' ⟨rfl, n2, rfl⟩
          go_wp2_with fail
          go_ret
          exact ⟨by rw [← HR.out, eqR_at HC1.out HC2.out HE.out]; rfl, _, by first | rfl | exact World.drewN_drewN ..⟩
      · go_wp2_with fail
        go_ret
        exact ⟨by rw [← HR.out, eqR_all hlt HL.out hrel]; rfl, _, by first | rfl | exact World.drewN_drewN ..⟩
  · have hb1 : ((f.length : Int) != g.length) = true := by simp; omega
    have HL := hid hlen
    clear hlen
    go_enter Try.func61, Try.ntmps61
    go_wp2_with fail
    go_ret
    exact ⟨by rw [← HR.out, eqR_len HL.out]; rfl, 0, rfl⟩

set_option maxHeartbeats 1000000 in
theorem kit_EqualLists (a b : Option Addr) (f g : List (List Int)) (la ca lb cb : Nat) (r : Bool) (w : World) (hr : eqR f g = r) (hla : la = f.length) (hlb : lb = g.length) (hf : FOk f) (hg : FOk g) (hs : Rws w a f) (ht : Rws w b g) (hl : f.length ≤ 9223372036854775807) :
    Calls Try.prog 46 #[.slice a la ca, .slice b lb cb] w fun e w' => e = .returned (.bool r) ∧ ∃ n, w' = w.drewN n := by
  subst hla; subst hlb
  have HR := hid hr
  have HF := hid hf
  have HG := hid hg
  have HS := hid hs
  have HT := hid ht
  clear hr hf hg hs ht
  by_cases hlen : f.length = g.length
  · have hb1 : ((f.length : Int) != g.length) = false := by simp [hlen]
    have HL := hid hlen
    clear hlen
    go_enter Try.func46, Try.ntmps46
    go_wp2_with fail
    go_loopw [5] (fun i wr => ∃ k n : Nat, k ≤ f.length ∧ wr = w.drewN n ∧ i = .int .i64 k ∧ Hid (f.take k = g.take k)) (fun i _ => f.length - (intOf i).toNat)
    case atStart => exact ⟨0, 0, Nat.zero_le _, rfl, rfl, by simp [Hid]⟩
    case round =>
      obtain ⟨k, nd, hk, rfl, rfl, hrel⟩ := hrel
      by_cases hlt : k < f.length
      · obtain ⟨b1, o1, c1, a1, cc1, rfl, hcell, hsl, hc1, hx1, hl1, -, -⟩ := HS.out.row HF.out hlt
        obtain ⟨b2, o2, c2, a2, cc2, rfl, hcell2, hsl2, hc2, hx2, hl2, -, -⟩ := HT.out.row HG.out (k := k) (by have := HL.out; omega)
        have HC1 := hid hc1
        have HC2 := hid hc2
        have HS1 := hid hsl
        have HS2 := hid hsl2
        have hi1 : (k : Int) < f.length := by omega
        have hi2 : (k : Int) < g.length := by have := HL.out; omega
        clear hc1 hc2 hsl hsl2 hx1 hx2
        cases he : eqI c1 c2 with
        | true =>
          have HE := hid he
          clear he
          go_wp2_with fail
          go_quiet ((go_at_call 26; first | exact quiet_drew2 (kit_EqualIntsR a1 a2 c1 c2 _ cc1 _ cc2 true _ HE.out rfl rfl (HS1.out.drewN _) (HS2.out.drewN _) hl1) | exact quiet_drew (kit_EqualIntsR a1 a2 c1 c2 _ cc1 _ cc2 true _ HE.out rfl rfl (HS1.out.drewN _) (HS2.out.drewN _) hl1)))
          go_wp2_with fail
          go_roundw
          case rel => exact ⟨k + 1, _, by omega, (by first | rfl | exact World.drewN_drewN ..), by go_num, take_eq_succ hrel HC1.out ((eqI_true HE.out) ▸ HC2.out)⟩
          case measure => simp [intOf]; omega
        | false =>
          have HE := hid he
          clear he
          go_wp2_with fail
          go_quiet ((go_at_call 26; first | exact quiet_drew2 (kit_EqualIntsR a1 a2 c1 c2 _ cc1 _ cc2 false _ HE.out rfl rfl (HS1.out.drewN _) (HS2.out.drewN _) hl1) | exact quiet_drew (kit_EqualIntsR a1 a2 c1 c2 _ cc1 _ cc2 false _ HE.out rfl rfl (HS1.out.drewN _) (HS2.out.drewN _) hl1)))
          go_wp2_with fail
          go_ret
          exact ⟨by rw [← HR.out, eqR_at HC1.out HC2.out HE.out]; rfl, _, by first | rfl | exact World.drewN_drewN ..⟩
      · go_wp2_with fail
        go_ret
        exact ⟨by rw [← HR.out, eqR_all hlt HL.out hrel]; rfl, _, by first | rfl | exact World.drewN_drewN ..⟩
  · have hb1 : ((f.length : Int) != g.length) = true := by simp; omega
    have HL := hid hlen
    clear hlen
    go_enter Try.func46, Try.ntmps46
    go_wp2_with fail
    go_ret
    exact ⟨by rw [← HR.out, eqR_len HL.out]; rfl, 0, rfl⟩

/-- The two boxes of two structs. -/
theorem below_2 (w : World) (o o2 : Obj) : Below w.heap.size w ((w.alloc o).alloc o2) := below_al (box_below _ _) (by simp only [size_al]; omega) _

set_option maxHeartbeats 1000000 in
theorem cnf_Equal (n : Int) (a : Option Addr) (f : List (List Int)) (la ca : Nat) (k : Int) (b : Option Addr) (g : List (List Int)) (lb cb : Nat) (r : Bool) (w : World) (hr : ((n == k) && eqR f g) = r) (hla : la = f.length) (hlb : lb = g.length) (hf : FOk f) (hg : FOk g) (hs : Rws w a f) (ht : Rws w b g) (hl : f.length ≤ 9223372036854775807) :
    Calls Try.prog 32 #[.agg #[.int .i64 n, .slice a la ca], .agg #[.int .i64 k, .slice b lb cb]] w fun e w' => e = .returned (.bool r) ∧ Below w.heap.size w w' := by
  subst hla; subst hlb
  have HF := hid hf
  have HG := hid hg
  have HB := hid (below_2 w (fbox n a f.length ca) (fbox k b g.length cb))
  have HS := hid (hs.below HB.out)
  have HT := hid (ht.below HB.out)
  clear hf hg hs ht
  cases hn : (n == k) with
  | false =>
    rw [hn] at hr
    have HR : Hid (r = false) := hr.symm
    clear hr
    go_enter Try.func32, Try.ntmps32
    go_wp2_with fail
    go_ret
    exact ⟨by rw [HR.out]; rfl, HB.out⟩
  | true =>
    rw [hn] at hr
    have hr' : eqR f g = r := by simpa using hr
    have HR := hid hr'
    clear hr hr'
    go_enter Try.func32, Try.ntmps32
    go_wp2_with fail
    refine (slices_EqualFunc a b f g _ ca _ cb r _ HR.out rfl rfl HF.out HG.out HS.out HT.out hl).mono ?_
    rintro e w' ⟨rfl, n2, rfl⟩
    go_wp2_with fail
    go_ret
    exact ⟨rfl, below_dr HB.out _⟩

set_option maxHeartbeats 1000000 in
theorem kit_EqualFormula (n : Int) (a : Option Addr) (f : List (List Int)) (la ca : Nat) (k : Int) (b : Option Addr) (g : List (List Int)) (lb cb : Nat) (r : Bool) (w : World) (hr : ((n == k) && eqR f g) = r) (hla : la = f.length) (hlb : lb = g.length) (hf : FOk f) (hg : FOk g) (hs : Rws w a f) (ht : Rws w b g) (hl : f.length ≤ 9223372036854775807) :
    Calls Try.prog 36 #[.agg #[.int .i64 n, .slice a la ca], .agg #[.int .i64 k, .slice b lb cb]] w fun e w' => e = .returned (.bool r) ∧ Below w.heap.size w w' := by
  subst hla; subst hlb
  have HF := hid hf
  have HG := hid hg
  have HB := hid (below_2 w (fbox n a f.length ca) (fbox k b g.length cb))
  have HS := hid (hs.below HB.out)
  have HT := hid (ht.below HB.out)
  clear hf hg hs ht
  cases hn : (n == k) with
  | false =>
    rw [hn] at hr
    have HR : Hid (r = false) := hr.symm
    clear hr
    go_enter Try.func36, Try.ntmps36
    go_wp2_with fail
    go_ret
    exact ⟨by rw [HR.out]; rfl, HB.out⟩
  | true =>
    rw [hn] at hr
    have hr' : eqR f g = r := by simpa using hr
    have HR := hid hr'
    clear hr hr'
    go_enter Try.func36, Try.ntmps36
    go_wp2_with fail
    refine (kit_EqualLists a b f g _ ca _ cb r _ HR.out rfl rfl HF.out HG.out HS.out HT.out hl).mono ?_
    rintro e w' ⟨rfl, n2, rfl⟩
    go_wp2_with fail
    go_ret
    exact ⟨rfl, below_dr HB.out _⟩

end Go.Proofs.Ytfmahgobogelkaa
