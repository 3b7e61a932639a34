/- The walk of PropOrder. -/
import Derived.Test.YtfgaglgaofceiaaWGrows
import Derived.Test.YtfgaglgaofceiaaPPOrder
import Derived.Test.YtfgaglgaofceiaaOwnRt
namespace Go.Proofs.Ytfgaglgaofceiaa.Ord
open Go.RowKit Go.Conc

attribute [local go_sem ↓] Go.wp_at_zero Go.wp_at_succ

/-- A row of rows, from B1 on, whose inner rows are ints in blocks from B0 on. -/
def Rt2 (w : World) (B0 B1 : Nat) (v : Value) (f : List (List Int)) : Prop :=
  ∃ vs, w.ownsRow B1 22 1 v f.length vs ∧ ∀ (j : Nat) (c : List Int), f[j]? = some c → ∃ u, vs[j]? = some u ∧ OwnT 3 w B0 u c

theorem Rt2.nil (w : World) (B0 B1 : Nat) : Rt2 w B0 B1 (.slice none 0 0) [] := ⟨[], World.ownsRow_nil _ _ _ _, by simp⟩

theorem Rt2.below {w w' : World} {B0 B1 : Nat} {v : Value} {f : List (List Int)} (h : Rt2 w B0 B1 v f) (hb : Below w.heap.size w w') : Rt2 w' B0 B1 v f :=
  let ⟨vs, h1, h2⟩ := h; ⟨vs, own_below h1 hb, fun j c hj => let ⟨u, e1, e2⟩ := h2 j c hj; ⟨u, e1, e2.below hb⟩⟩

theorem ownT_setOther {w : World} {B : Nat} {v : Value} {xs : List Int} {b k : Nat} {cs : Array Value} {t : TypeId} {m : Nat × Nat} (h : OwnT 3 w B v xs) (hb : w.heap[b]? = some (.cells cs t m)) (ht : t ≠ 3) (u : Value) : OwnT 3 (w.setCell ⟨b, k, none⟩ u) B v xs := by
  obtain ⟨ad, c, h1, h2, h3, h4⟩ := h
  refine ⟨ad, c, h1, h2, h3, fun x hx => ?_⟩
  obtain ⟨g, off, cur, e1, e2, e3, e4⟩ := h4 x hx
  refine ⟨g, off, cur, e1, e2, ?_, e4⟩
  rw [heap_setCell_other w ⟨b, k, none⟩ g u ?_]
  · exact e3
  · intro e
    have e : g = b := by first | exact e | exact e.symm
    rw [e, hb] at e3
    injection e3 with e3
    injection e3 with _ e3 _
    exact ht e3

theorem Rt2.setBox {w : World} {B0 B1 : Nat} {v : Value} {f : List (List Int)} {b k : Nat} {cs : Array Value} {t : TypeId} {m : Nat × Nat} (h : Rt2 w B0 B1 v f) (hb : w.heap[b]? = some (.cells cs t m)) (ht : t ≠ 3) (hB : b < B1) (u : Value) : Rt2 (w.setCell ⟨b, k, none⟩ u) B0 B1 v f :=
  let ⟨vs, h1, h2⟩ := h; ⟨vs, ownsRow_setCell_below h1 hB u, fun j c hj => let ⟨x, e1, e2⟩ := h2 j c hj; ⟨x, e1, ownT_setOther e2 hb ht u⟩⟩

/-- A row appended. -/
theorem Rt2.push {w w' : World} {B0 B1 : Nat} {v v' x : Value} {f : List (List Int)} {c : List Int} {vs : List Value} (h1 : w.ownsRow B1 22 1 v f.length vs)
    (h2 : ∀ (j : Nat) (c : List Int), f[j]? = some c → ∃ u, vs[j]? = some u ∧ OwnT 3 w B0 u c) (hx : OwnT 3 w B0 x c)
    (h' : w'.ownsRow B1 22 1 v' (f.length + 1) (vs ++ [x])) (hg : w.grownBy w' v.ownBlock) : Rt2 w' B0 B1 v' (f ++ [c]) := by
  have hl : vs.length = f.length := by have := h1.1; omega
  refine ⟨vs ++ [x], by simpa using h', fun j d hj => ?_⟩
  rcases Nat.lt_or_ge j f.length with hlt | hge
  · rw [List.getElem?_append_left hlt] at hj
    obtain ⟨u, e1, e2⟩ := h2 j d hj
    exact ⟨u, by rw [List.getElem?_append_left (by omega)]; exact e1, ownT_kept e2 h1 (by decide) hg⟩
  · rw [List.getElem?_append_right hge] at hj
    have hj0 : j - f.length = 0 := by
      rcases Nat.eq_zero_or_pos (j - f.length) with h0 | h0
      · exact h0
      · rw [List.getElem?_eq_none (by simp; omega)] at hj; cases hj
    rw [hj0] at hj
    simp at hj
    subst hj
    exact ⟨x, by rw [List.getElem?_append_right (by omega), hl, hj0]; rfl, ownT_kept hx h1 (by decide) hg⟩

theorem Rt2.shape {w : World} {B0 B1 : Nat} {v : Value} {f : List (List Int)} (h : Rt2 w B0 B1 v f) : ∃ a c, v = .slice a f.length c ∧ Rws w a f := by
  obtain ⟨vs, h1, h2⟩ := h
  obtain ⟨a, c, e1, e2, e3, e4⟩ := own_sl h1
  have hl : vs.length = f.length := by have := h1.1; omega
  rw [hl] at e1
  refine ⟨a, c, e1, fun j d hj => ?_⟩
  obtain ⟨u, g1, g2⟩ := h2 j d hj
  obtain ⟨b, off, k1, k2⟩ := e4 j u g1
  exact ⟨b, off, u, k1, k2, g2.sli⟩

/-- A row of rows of the call's own, opened at a place. -/
theorem rw_row {w : World} {B : Nat} {a : Option Addr} {n c : Nat} {f : List (List Int)} (h : OwnRw w B (.slice a n c) f) {j : Nat} {d : List Int} (hj : f[j]? = some d) :
    ∃ b off ad cd, a = some ⟨b, off, none⟩ ∧ w.cell? ⟨b, off + j, none⟩ = some (.slice ad d.length cd) ∧ OwnT 3 w B (.slice ad d.length cd) d := by
  obtain ⟨vs, h1, h2⟩ := h
  obtain ⟨a', c', e1, e2, e3, e4⟩ := own_sl h1
  injection e1 with e1 _ _
  subst e1
  obtain ⟨u, g1, g2⟩ := h2 j d hj
  obtain ⟨b, off, k1, k2⟩ := e4 j u g1
  have hT := ownT_of_own g2
  obtain ⟨ad, cd, rfl, -⟩ := hT
  exact ⟨b, off, ad, cd, k1, k2, ownT_of_own g2⟩

theorem gi_ok {n : Nat} {F G : List (List Int)} {A T : List Int} (hok : UOk n F A) (hfl : F.length ≤ 30) (hal : A.length ≤ 12) (h : GI F 0 G) (ht : TI A 0 T) : UOk n G T := by
  have hcok : ClsOk n G := fun d hd a ha => by
    obtain ⟨c, hc, hs⟩ := h.sub1 d hd
    exact hok.cok c hc a ((hs a).1 ha)
  have hcnt := h.cnt
  have htc := ht.2
  have hn := hok.n1
  refine ⟨hok.n1, fun d hd => ⟨fun x hx => ?_, by have := h.len d hd; omega⟩, by omega, by omega, fun d hd => by have := h.len d hd; omega, check_of hok.n1 (by omega) fun d hd => ⟨by have := h.len d hd; omega, hcok d hd⟩, hcok, fun a ha => ?_⟩
  · have := hcok d hd x hx
    unfold LitOk at this
    unfold I64
    omega
  · exact hok.aok a (by have := (ht.1 a).1 ha; simpa using this)

set_option maxRecDepth 100000 in
set_option maxHeartbeats 8000000 in
theorem walk_PropOrder (x0 : Int) (v1 : Value) (x1 : List (List Int)) (v2 : Value) (x2 : List Int) (w : World) (w0 : (Lit.int .u8 x0).wf = true) (w1 : ArgR .i8 w v1 x1) (w2 : ArgI .i8 w v2 x2) :
    Calls Try.prog 12 #[.int .u8 x0, v1, v2] w fun e w' => e = .returned (.bool true) ∧ Below w.heap.size w w' := by
  obtain ⟨i0, hi0, hz0, hz1, hz2⟩ := info_parts info_intU
  obtain ⟨i1, hi1, hy0, hy1, hy2⟩ := info_parts info_intsU
  have hb0 := bounds_u8 w0
  have HA := hid w1
  have HL := hid w2
  clear w0 w1 w2
  cases hfit : fitB x1 with
  | false =>
    have HFI := hid hfit
    clear hfit
    go_enter Try.func12, Try.ntmps12
    go_wp2_with fail
    refine (law02_FitF x0 v1 x1 w HFI.out hb0.1 hb0.2 HA.out).mono ?_
    rintro e w3 ⟨rfl, hb3⟩
    have HB3 := hid hb3
    clear hb3
    go_wp2_with (go_at_call 30; refine (law04_known _).mono ?_; rintro e w' ⟨rfl, hb⟩)
    go_ret
    exact ⟨rfl, (below_al HB3.out HB3.out.size _).trans (hb.mono (by have := HB3.out.size; simp only [size_al]; omega))⟩
  | true =>
    have hV := fitV_range x0
    obtain ⟨n, hn⟩ : ∃ n : Nat, fitV x0 = (n : Int) := ⟨(fitV x0).toNat, by omega⟩
    have hn1 : 1 ≤ n ∧ n ≤ 12 := by omega
    obtain ⟨F, hF⟩ : ∃ F, fitF x0 x1 = F := ⟨_, rfl⟩
    have hfl : F.length ≤ 30 := by rw [← hF, fitF_length]; exact (fitB_bounds hfit).1
    obtain ⟨A, hA⟩ : ∃ A, asmL n x2 = A := ⟨_, rfl⟩
    have hal : A.length ≤ 12 := hA ▸ asmL_length _ _
    have hcl20 : ∀ c ∈ F, c.length ≤ 20 := fun c hc => by
      rw [← hF] at hc
      simp only [fitF, List.mem_map] at hc
      obtain ⟨c', hc', rfl⟩ := hc
      have := fitC_length (fitV x0) c'
      have := (fitB_bounds hfit).2 c' hc'
      omega
    have hcok : ClsOk n F := hF ▸ clsok_fit x0 hn.symm x1
    have haok : ∀ a ∈ A, LitOk n a := hA ▸ asmL_ok hn1.1 x2
    have hok : UOk n F A := ⟨by omega, hF ▸ fok_fit hfit, by omega, by omega, fun c hc => Nat.le_trans (hcl20 c hc) (by omega), by rw [← hn, ← hF]; exact cnfCheck_fit hfit, hcok, haok⟩
    obtain ⟨V, hVV⟩ : ∃ V, upL n F A = V := ⟨_, rfl⟩
    obtain ⟨bv, hbv⟩ : ∃ b, upF F A = b := ⟨_, rfl⟩
    have hvl : V.length ≤ 24 := by have := upL_length n F A; rw [hVV] at this; omega
    have HN := hid hn
    have HF := hid hF
    have HAE := hid hA
    have HOK := hid hok
    have HV := hid (And.intro hVV hbv)
    have HFI := hid hfit
    have HC20 := hid hcl20
    clear hfit hF hA hcl20 hcok haok hok hVV hbv hn hV
    go_enter Try.func12, Try.ntmps12
    go_wp2_with fail
    refine (law02_FitT x0 v1 x1 w HFI.out hb0.1 hb0.2 HA.out).mono ?_
    rw [HN.out, HF.out]
    rintro e w3 ⟨a, c, rfl, how3, hr3, hb3⟩
    have HB3 := hid hb3
    have HR3 := hid (hr3.below (box_below w3 (fbox n a F.length c)))
    have HOW3 := hid (how3.below (box_below w3 (fbox n a F.length c)))
    have hz3 := hb3.size
    have HL3 := hid (argI_below HL.out (hb3.trans ((box_below w3 (fbox n a F.length c)).mono hz3)))
    clear hb3 hr3 how3
    go_wp2_with fail
    refine (law04_assumed n a F.length c v2 x2 _ (by omega) HL3.out).mono ?_
    rw [HAE.out]
    rintro e w4 ⟨va, rfl, hsl4, hb4⟩
    obtain ⟨a4, c4, rfl, hc4, -, hs4⟩ := hsl4
    have HB4 := hid ((below_al HB3.out hz3 _).trans (hb4.mono (by simp only [size_al]; omega)))
    have HR4 := hid (HR3.out.below hb4)
    have HOW4 := hid (HOW3.out.below hb4)
    have hq0 := hb4.cell (p := ⟨w3.heap.size, 0, none⟩) (by simp only [size_al]; omega)
    have hq1 := hb4.cell (p := ⟨w3.heap.size, 1, none⟩) (by simp only [size_al]; omega)
    have hp0 : w4.cell? ⟨w3.heap.size, 0, none⟩ = some (.int .i64 n) := by rw [hq0]; exact fit_cell (vs := [.int .i64 n, .slice a F.length c]) (heap_alloc_new w3 _) 0
    have hp1 : w4.cell? ⟨w3.heap.size, 1, none⟩ = some (.slice a F.length c) := by rw [hq1]; exact fit_cell (vs := [.int .i64 n, .slice a F.length c]) (heap_alloc_new w3 _) 1
    have HS4 := hid hs4
    clear hb4 hs4 hq0 hq1
    go_wp2_with fail
    refine (prop_UnitsG n a F F.length c a4 A A.length c4 V bv w4 HV.out.1 HV.out.2 HOK.out rfl rfl HR4.out HS4.out).mono ?_
    rintro e w5 ⟨hb5, av, cv, rfl, hsv⟩
    have HB5 := hid (HB4.out.trans (hb5.mono HB4.out.size))
    have HR5 := hid (HR4.out.below hb5)
    have HOW5 := hid (HOW4.out.below hb5)
    have HS5 := hid (HS4.out.below hb5)
    have HV5 := hid hsv
    have hp50 := below_keeps hb5 _ _ hp0
    have hp51 := below_keeps hb5 _ _ hp1
    have HP5 := hid (And.intro hp50 hp51)
    clear hb5 hsv hp0 hp1
    have hwf : IntKind.i64.wrap ((F.length : Int) - 1) = (F.length : Int) - 1 := IntWalk.i64_in _ (by omega)
    have hp51a := fun o => below_keeps (box_below w5 o) _ _ hp51
    go_wp2_with fail
    clear hwf hp50 hp51 hp51a
    have HB50 : Hid (Below w5.heap.size w5 (w5.alloc (.cells #[.int .i64 n, .slice none 0 0] 34))) := hid (box_below _ _)
    have hbx0 : (w5.alloc (.cells #[.int .i64 n, .slice none 0 0] 34)).heap[w5.heap.size]? = some (.cells #[.int .i64 n, .slice none 0 0] 34) := heap_alloc_new _ _
    have hsz0 : w5.heap.size + 1 ≤ (w5.alloc (.cells #[.int .i64 n, .slice none 0 0] 34)).heap.size := by simp only [size_al]; omega
    generalize (w5.alloc (.cells #[.int .i64 n, .slice none 0 0] 34)) = wf at HB50 hbx0 hsz0 ⊢
    obtain ⟨bg, hbg⟩ : ∃ bg, w5.heap.size = bg := ⟨_, rfl⟩
    have hwB : w.heap.size ≤ bg := by have := HB5.out.size; omega
    rw [hbg] at hbx0 hsz0
    have HBG := hid hbg
    have hgl : (⟨w5.heap.size, 0, none⟩ : Addr) = ⟨bg, 0, none⟩ := by rw [hbg]
    rw [hbg]
    have HX0 := hid hbx0
    clear hbg hbx0 hgl
    go_loopw [14] (fun s14 wr => ∃ (i : Nat) (y : Int) (v : Value) (G : List (List Int)), s14 = .int .i64 y ∧ Hid (y = (i : Int) - 1) ∧ i ≤ F.length ∧ Hid (wr.heap[bg]? = some (.cells #[.int .i64 n, v] 34)) ∧ Hid (Rt2 wr w.heap.size (bg + 1) v G) ∧ Hid (Below w5.heap.size w5 wr) ∧ bg + 1 ≤ wr.heap.size ∧ Hid (GI F i G)) (fun s14 _ => (intOf s14 + 1).toNat)
    case atStart => exact ⟨F.length, _, _, [], rfl, hid rfl, Nat.le_refl _, HX0, hid (Rt2.nil _ _ _), HB50, hsz0, gi_start F⟩
    case round =>
      clear HX0 HB50 hsz0
      obtain ⟨i, y, v, G, rfl, HY, hiF, HX, HO, HB, hsz, HG⟩ := hrel
      have hq0 : wr.cell? ⟨bg, 0, none⟩ = some (.int .i64 n) := fit_cell (vs := [.int .i64 n, v]) HX.out 0
      have hq1 : wr.cell? ⟨bg, 1, none⟩ = some v := fit_cell (vs := [.int .i64 n, v]) HX.out 1
      have hp1 := below_keeps HB.out _ _ HP5.out.2
      by_cases hipos : 0 < i
      · obtain ⟨i', hi'⟩ : ∃ i', i = i' + 1 := ⟨i - 1, by omega⟩
        subst hi'
        have hyi : y = (i' : Int) := by have := HY.out; omega
        subst hyi
        have hil : i' < F.length := by omega
        obtain ⟨cl, hcl⟩ : ∃ cl, F[i']? = some cl := ⟨_, List.getElem?_eq_getElem hil⟩
        obtain ⟨bo, oo, ac, cc, rfl, hcell5, hT5⟩ := rw_row HOW5.out hcl
        have hcell := below_keeps HB.out _ _ hcell5
        have hT := hT5.below HB.out
        have HCELL5 := hid hcell5
        clear hcell5 hT5
        have hc20 := HC20.out cl (List.mem_of_getElem? hcl)
        have HCI := hid hcl
        have HT := hid hT
        have hsc := hT.sli
        obtain ⟨ac', cc', e9, -, -, hsc⟩ := hsc
        injection e9 with e9 e10 e11
        subst e9 e11
        have HSC := hid hsc
        have HGL := hid HG.out.cnt
        have HNC := hid (show ac = none → cc = 0 by obtain ⟨q1, q2, q3, q4, q5, -⟩ := hT; injection q3 with q3 _ q6; subst q3 q6; exact q5)
        clear e10 hcl hT hsc
        have d1 : decide ((0 : Int) ≤ (i' : Int)) = true := decide_eq_true (by omega)
        have hil2 : (i' : Int) < F.length := by omega
        have hwl : IntKind.i64.wrap ((cl.length : Int) - 1) = (cl.length : Int) - 1 := IntWalk.i64_in _ (by omega)
        obtain ⟨wo, rfl⟩ : ∃ wo : World, wo = wr := ⟨_, rfl⟩
        go_wp2_with fail
        have HO0 : Hid (wo.ownsRow wo.heap.size 3 1 (.slice none 0 0) 0 (ints [])) := hid (World.ownsRow_nil _ _ _ _)
        have HPC := hid (And.intro hp1 (And.intro hcell (And.intro hq0 hq1)))
        clear hwl hp1 hcell hq0 hq1
        go_loopw [15, 16] (fun s15 s16 wq => ∃ (k : Nat) (y2 : Int), s16 = .int .i64 y2 ∧ Hid (y2 = (k : Int) - 1) ∧ k ≤ cl.length ∧ Hid (wq.ownsRow wo.heap.size 3 1 s15 (cl.length - k) (ints (cl.drop k).reverse)) ∧ Hid (Below wo.heap.size wo wq) ∧ wo.heap.size ≤ wq.heap.size) (fun _ s16 _ => (intOf s16 + 1).toNat)
        case atStart => exact ⟨cl.length, _, rfl, hid rfl, Nat.le_refl _, hid (by rw [Nat.sub_self, List.drop_length]; exact HO0.out), hid (Below.refl _ _), Nat.le_refl _⟩
        case round =>
          clear HO0
          obtain ⟨k, y2, rfl, HY2, hk, HQ, HBQ, hszq⟩ := hrel
          have hp1 := below_keeps HBQ.out _ _ HPC.out.1
          have hcell := below_keeps HBQ.out _ _ HPC.out.2.1
          by_cases hk0 : 0 < k
          · obtain ⟨k', hk'⟩ : ∃ k', k = k' + 1 := ⟨k - 1, by omega⟩
            subst hk'
            have hyk : y2 = (k' : Int) := by have := HY2.out; omega
            subst hyk
            obtain ⟨bx, ox, x, rfl, hcx, hxk⟩ := (HSC.out.below HBQ.out).int (show k' < cl.length by omega)
            have hkl2 : (k' : Int) < cl.length := by omega
            have hkl3 : k' < cl.length := by omega
            have hwk : IntKind.i64.wrap ((k' : Int) - 1) = (k' : Int) - 1 := IntWalk.i64_in _ (by omega)
            have HREV : Hid (ints (cl.drop k').reverse = ints (cl.drop (k' + 1)).reverse ++ [.int .i64 x]) := hid (by rw [drop_rev hxk]; simp [ints])
            have HLE : Hid (cl.length - k' = cl.length - (k' + 1) + 1) := hid (by omega)
            have HLB : Hid (cl.length - (k' + 1) + 1 ≤ maxLen ∧ (cl.length - (k' + 1) + 1) * 8 ≤ 140737488355328) := hid (by unfold maxLen; omega)
            have d2 : decide ((0 : Int) ≤ (k' : Int)) = true := decide_eq_true (by omega)
            obtain ⟨ln, hln⟩ : ∃ ln, cl.length - (k' + 1) = ln := ⟨_, rfl⟩
            rw [hln] at HLB HLE HQ
            clear hxk hln
            go_wp2_with (at_builtin; refine wpList_append_own _ rfl _ _ 22 rfl wo.heap.size 3 i0 (.int .i64 0) 1 8 Try.underlying22 hi0 hz0 hz1 hz2 rfl (by decide) _ _ _ rfl (HQ.out.alloc _) ⟨wr.heap.size, 0, none⟩ 1 1 [.int .i64 x] rfl rfl ?c1 one_int (by exact HLB.out.1) (by exact HLB.out.2) (by simp only [size_al]; exact Nat.le_succ_of_le hszq) ?_)
            case c1 => exact new_oneP (heap_alloc_new _ _)
            intro v9 w9 ho9 hg9 _
            have HQ9 : Hid (w9.ownsRow wo.heap.size 3 1 v9 (cl.length - k') (ints (cl.drop k').reverse)) := hid (by rw [HREV.out, HLE.out]; exact ho9)
            have HB9 : Hid (Below wo.heap.size wo w9) := hid (HBQ.out.trans (((Below.refl _ wr).alloc HBQ.out.size _).grown hg9 (by have := HBQ.out.size; simp only [size_al]; omega) fun q hq => (HQ.out.lt q hq).1))
            have hsz9 : wo.heap.size ≤ w9.heap.size := HB9.out.size
            clear ho9 hg9
            go_wp2_with fail
            go_roundw
            case rel => exact ⟨k', _, rfl, hid rfl, by omega, HQ9, HB9, hsz9⟩
            case measure => simp [intOf]
          · have hk00 : k = 0 := by omega
            have hy2 : y2 = -1 := by have := HY2.out; omega
            subst hk00 hy2
            have HQ2 : Hid (wr.ownsRow wo.heap.size 3 1 u15 cl.length (ints cl.reverse)) := hid (by have := HQ.out; simpa using this)
            clear HQ HY2 hk0
            have hX2 : wr.heap[bg]? = some (.cells #[.int .i64 n, v] 34) := (HBQ.out.block _ (by omega)).trans HX.out
            have HX2 := hid hX2
            have HSC2 := hid (HSC.out.below HBQ.out)
            have HONE : Hid (∀ u ∈ ints cl, u.oneCell' = true) := hid (fun u hu => by simp [ints] at hu; obtain ⟨x, -, rfl⟩ := hu; rfl)
            have HLB : Hid (cl.length + cl.length ≤ maxLen ∧ (cl.length + cl.length) * 8 ≤ 140737488355328) := hid (by unfold maxLen; omega)
            clear hX2
            go_wp2_with (first
              | (at_builtin
                 refine wpList_append_sl _ rfl _ _ 22 rfl wo.heap.size 3 i0 (.int .i64 0) 8 Try.underlying22 hi0 hz0 hz1 hz2 rfl u15 cl.length (ints cl.reverse) rfl HQ2.out ac cl.length cc (ints cl) rfl HSC2.out (by simp) HNC.out HONE.out (by exact HLB.out.1) (by exact HLB.out.2) hszq ?_
                 intro v9 w9 ho9 hg9
                 obtain ⟨a9, c9, rfl⟩ := own_lenV' ho9
                 have HO9 := hid ho9
                 have HG9 := hid hg9
                 have hx9 : w9.heap[bg]? = some (.cells #[.int .i64 n, v] 34) := (hg9.block _ (by omega) (own_not HQ2.out (by omega))).trans HX2.out
                 have HX9 := hid hx9
                 have hr1 : w9.cell? ⟨bg, 1, none⟩ = some v := fit_cell (vs := [.int .i64 n, v]) hx9 1
                 clear ho9 hg9 hx9
                 have hb9 : Below wo.heap.size wo w9 := HBQ.out.grown HG9.out HBQ.out.size (fun q hq => (HQ2.out.lt q hq).1)
                 have hC2 : OwnT 3 w9 w.heap.size (.slice a9 (cl.length + cl.length) c9) (cl.reverse ++ cl) := (ownT_of_own (by have := HO9.out; rwa [← ints_append] at this)).base (by have := HB5.out.size; have := HB.out.size; omega)
                 have HC2 := hid hC2
                 have hRt := HO.out.below hb9
                 obtain ⟨vs, ho, hvs⟩ := hRt
                 have HOV := hid ho
                 have HVS := hid hvs
                 have HT9 := hid (HT.out.below hb9)
                 have hsz9 : bg + 1 ≤ w9.heap.size := Nat.le_trans hsz hb9.size
                 have HB9 : Hid (Below w5.heap.size w5 w9) := hid (HB.out.trans (hb9.mono HB.out.size))
                 have HON2 : Hid (∀ u ∈ [Value.slice a9 (cl.length + cl.length) c9], u.oneCell' = true) := by
                   intro u hu
                   simp at hu
                   subst hu
                   rfl
                 obtain ⟨gl, hgl⟩ : ∃ gl, G.length = gl := ⟨_, rfl⟩
                 have HGE := hid hgl
                 have hgb : gl ≤ 60 := by have := HGL.out; omega
                 rw [hgl] at HOV
                 have HLB2 : Hid (gl + 1 ≤ maxLen ∧ (gl + 1) * 24 ≤ 140737488355328 ∧ (gl + 1 + 1) ≤ maxLen ∧ (gl + 1 + 1) * 24 ≤ 140737488355328) := hid (by unfold maxLen; omega)
                 clear hgl hb9 hC2 ho hvs)
              | (at_builtin; refine wpList_append_own _ rfl _ _ 32 rfl (bg + 1) 22 i1 (.slice none 0 0) 1 24 Try.underlying32 hi1 hy0 hy1 hy2 rfl (by decide) _ _ _ rfl (HOV.out.alloc _) ⟨w9.heap.size, 0, none⟩ 1 1 [.slice a9 (cl.length + cl.length) c9] rfl rfl (by exact new_oneP (heap_alloc_new _ _)) HON2.out (by exact HLB2.out.1) (by exact HLB2.out.2.1) (by simp only [size_al]; exact Nat.le_succ_of_le hsz9) ?_))
            intro v10 w10 ho10 hg10 _
            obtain ⟨a10, c10, rfl⟩ := own_lenV' ho10
            have hx10 : w10.heap[bg]? = some (.cells #[.int .i64 n, v] 34) := (hg10.block _ (by simp only [size_al]; omega) (own_not HOV.out (by omega))).trans ((Below.heap_alloc _ _ _ (by omega)).trans HX9.out)
            have hr10 : w10.cell? ⟨bg, 1, none⟩ = some v := fit_cell (vs := [.int .i64 n, v]) hx10 1
            have hr11 : w10.frozen? ⟨bg, 1, none⟩ = false := frozen_of_row _ _ _ _ _ hx10
            have hP10 : Rt2 w10 w.heap.size (bg + 1) (.slice a10 (gl + 1) c10) (G ++ [cl.reverse ++ cl]) :=
              Rt2.push (by rw [HGE.out]; exact HOV.out.alloc _) (fun j d hd => let ⟨u, e1, e2⟩ := HVS.out j d hd; ⟨u, e1, e2.below (box_below _ _)⟩) (HC2.out.below (box_below _ _)) (by rw [HGE.out]; exact ho10) hg10
            have hT10 : OwnT 3 w10 w.heap.size (.slice ac cl.length cc) cl := ownT_kept (HT9.out.below (box_below w9 _)) (HOV.out.alloc _) (by decide) hg10
            have hB10 : Below w5.heap.size w5 w10 := (below_al HB9.out HB9.out.size _).grown hg10 (by have := HB9.out.size; simp only [size_al]; omega) (fun q hq => by have := (HOV.out.lt q hq).1; have := HBG.out; omega)
            have hsz10 : bg + 1 ≤ w10.heap.size := Nat.le_trans (by simp only [size_al]; omega) hg10.size
            have HX11 : Hid ((w10.setCell ⟨bg, 1, none⟩ (.slice a10 (gl + 1) c10)).heap[bg]? = some (.cells #[.int .i64 n, .slice a10 (gl + 1) c10] 34)) := hid (heap_setCell_same w10 bg 1 #[.int .i64 n, v] 34 _ hx10)
            have HO11 : Hid (Rt2 (w10.setCell ⟨bg, 1, none⟩ (.slice a10 (gl + 1) c10)) w.heap.size (bg + 1) (.slice a10 (gl + 1) c10) (G ++ [cl.reverse ++ cl])) := hid (hP10.setBox hx10 (by decide) (by omega) _)
            have HT11 : Hid (OwnT 3 (w10.setCell ⟨bg, 1, none⟩ (.slice a10 (gl + 1) c10)) w.heap.size (.slice ac cl.length cc) cl) := hid (ownT_setOther hT10 hx10 (by decide) _)
            have HB11 : Hid (Below w5.heap.size w5 (w10.setCell ⟨bg, 1, none⟩ (.slice a10 (gl + 1) c10))) := hid (hB10.setCell (by rw [HBG.out]; exact Nat.le_refl _) _)
            have hsz11 : bg + 1 ≤ (w10.setCell ⟨bg, 1, none⟩ (.slice a10 (gl + 1) c10)).heap.size := by simpa [World.setCell] using hsz10
            clear ho10 hg10 hx10 hP10 hT10 hB10 hsz10 hr1 hcell hp1
            obtain ⟨r, hr⟩ : ∃ r : Int, (i' : Int).tmod 2 = r := ⟨_, rfl⟩
            have hrb : 0 ≤ r ∧ r < 2 := by
              rw [← hr, Int.tmod_eq_emod_of_nonneg (by omega)]
              omega
            have hwr : IntKind.i64.wrap r = r := IntWalk.i64_in _ (by omega)
            have hwi : IntKind.i64.wrap ((i' : Int) - 1) = (i' : Int) - 1 := IntWalk.i64_in _ (by omega)
            by_cases hr0 : r = 0
            · have d3 : (r == 0) = true := by rw [beq_iff_eq]; exact hr0
              clear hrb hr0
              go_wp2_with fail
              clear hr hwr d3 hr10 hr11
              generalize w10.setCell ⟨bg, 1, none⟩ (.slice a10 (gl + 1) c10) = w11 at HX11 HO11 HT11 HB11 hsz11 ⊢
              have hs0 : w11.cell? ⟨bg, 1, none⟩ = some (.slice a10 (gl + 1) c10) := fit_cell (vs := [.int .i64 n, .slice a10 (gl + 1) c10]) HX11.out 1
              have hs1 := below_keeps HB11.out _ _ HP5.out.2
              have hs2 := below_keeps HB11.out _ _ HCELL5.out
              have hs0a := fun o => below_keeps (box_below w11 o) _ _ hs0
              have hs1a := fun o => below_keeps (box_below w11 o) _ _ hs1
              have hs2a := fun o => below_keeps (box_below w11 o) _ _ hs2
              obtain ⟨vs11, ho11, hvs11⟩ := HO11.out
              have hgl1 : (G ++ [cl.reverse ++ cl]).length = gl + 1 := by rw [List.length_append, HGE.out]; rfl
              rw [hgl1] at ho11
              have HOV11 := hid ho11
              have HVS11 := hid hvs11
              have HGL1 := hid hgl1
              have hbgl : bg < w11.heap.size := by omega
              clear ho11 hvs11 hgl1
              go_region_law (refine step_append_at1 rfl _ _ 32 rfl (bg + 1) 22 i1 (.slice none 0 0) 24 Try.underlying32 hi1 hy0 hy1 hy2 rfl (.slice a10 (gl + 1) c10) (gl + 1) vs11 (by rfl) (by exact HOV11.out.alloc _) _ (.slice ac cl.length cc) (by rfl) (by exact heap_alloc_new _ _) rfl (by exact HLB2.out.2.2.1) (by exact HLB2.out.2.2.2) (by simp; omega) ?_; intro v12 w12 h12 hg12 ha12; obtain ⟨a12, c12, rfl⟩ := own_lenV' h12; have H12 := hid h12; have HG12 := hid hg12; have hx12 : w12.heap[bg]? = some (.cells #[.int .i64 n, .slice a10 (gl + 1) c10] 34) := (hg12.block _ (by simp; omega) (own_not HOV11.out (by omega))).trans ((Below.heap_alloc _ _ _ (by exact hbgl)).trans HX11.out); have HX12 := hid hx12; have hs0 : w12.cell? ⟨bg, 1, none⟩ = some (.slice a10 (gl + 1) c10) := fit_cell (vs := [.int .i64 n, .slice a10 (gl + 1) c10]) hx12 1; have hf12 : w12.frozen? ⟨bg, 1, none⟩ = false := frozen_of_row _ _ _ _ _ hx12; clear h12 hg12 ha12 hx12)
              all_goals
                have hb11 := fun o : Obj => (Below.refl w11.heap.size w11).drew.alloc (Nat.le_refl _) o
                have hP12 : Rt2 w12 w.heap.size (bg + 1) (.slice a12 (gl + 1 + 1) c12) ((G ++ [cl.reverse ++ cl]) ++ [cl]) :=
                  Rt2.push (by rw [HGL1.out]; exact HOV11.out.alloc _) (fun j d hd => let ⟨u, e1, e2⟩ := HVS11.out j d hd; ⟨u, e1, e2.below (hb11 _)⟩) (HT11.out.below (hb11 _)) (by rw [HGL1.out]; exact H12.out) HG12.out
                have hB12 : Below w5.heap.size w5 w12 := (below_al (HB11.out.drew) HB11.out.size _).grown HG12.out (by have := HB11.out.size; simp; omega) (fun q hq => by have := (HOV11.out.lt q hq).1; have := HBG.out; omega)
                have hsz12 : bg + 1 ≤ w12.heap.size := Nat.le_trans hsz11 (Nat.le_trans (by simp) HG12.out.size)
                have HX13 : Hid ((w12.setCell ⟨bg, 1, none⟩ (.slice a12 (gl + 1 + 1) c12)).heap[bg]? = some (.cells #[.int .i64 n, .slice a12 (gl + 1 + 1) c12] 34)) := hid (heap_setCell_same w12 bg 1 #[.int .i64 n, .slice a10 (gl + 1) c10] 34 _ HX12.out)
                have HO13 : Hid (Rt2 (w12.setCell ⟨bg, 1, none⟩ (.slice a12 (gl + 1 + 1) c12)) w.heap.size (bg + 1) (.slice a12 (gl + 1 + 1) c12) ((G ++ [cl.reverse ++ cl]) ++ [cl])) := hid (hP12.setBox HX12.out (by decide) (by omega) _)
                have HB13 : Hid (Below w5.heap.size w5 (w12.setCell ⟨bg, 1, none⟩ (.slice a12 (gl + 1 + 1) c12))) := hid (hB12.setCell (by rw [HBG.out]; exact Nat.le_refl _) _)
                have hsz13 : bg + 1 ≤ (w12.setCell ⟨bg, 1, none⟩ (.slice a12 (gl + 1 + 1) c12)).heap.size := by simpa [World.setCell] using hsz12
                clear hP12 hB12 hsz12 hb11 hs0 hs1 hs2 hs0a hs1a hs2a hf12
                go_wp2_with fail
                go_roundw
                case rel => exact ⟨i', _, .slice a12 (gl + 1 + 1) c12, _, rfl, hid rfl, by omega, HX13, HO13, HB13, hsz13, gi_two HG.out HCI.out hc20⟩
                case measure => simp [intOf]
            · have d3 : (r == 0) = false := by rw [beq_eq_false_iff_ne]; exact hr0
              clear hrb hr0
              go_wp2_with fail
              go_roundw
              case rel => exact ⟨i', _, .slice a10 (gl + 1) c10, G ++ [cl.reverse ++ cl], rfl, hid rfl, by omega, HX11, HO11, HB11, hsz11, gi_one HG.out HCI.out hc20⟩
              case measure => simp [intOf]
      · have hi00 : i = 0 := by omega
        have hy0' : y = -1 := by have := HY.out; omega
        subst hi00 hy0'
        have d1 : decide ((0 : Int) ≤ -1) = false := by decide
        have hwa : IntKind.i64.wrap ((A.length : Int) - 1) = (A.length : Int) - 1 := IntWalk.i64_in _ (by omega)
        obtain ⟨vs, ho, hvs⟩ := HO.out
        obtain ⟨ag, cg, rfl, hrw⟩ := (show Rt2 wr w.heap.size (bg + 1) v G from HO.out).shape
        have HRW := hid hrw
        have hgc := HG.out.cnt
        have HQQ := hid (And.intro hq0 hq1)
        have HSQ := hid (HS5.out.below HB.out)
        clear ho hvs hrw hp1 HO HX HY hipos hq0 hq1
        go_wp2_with fail
        clear hwa d1
        have HO0 : Hid (wr.ownsRow wr.heap.size 3 1 (.slice none 0 0) 0 (ints [])) := hid (World.ownsRow_nil _ _ _ _)
        obtain ⟨wo, rfl⟩ : ∃ wo : World, wo = wr := ⟨_, rfl⟩
        go_loopw [17, 18] (fun s17 s18 wq => ∃ (k : Nat) (y2 : Int) (T : List Int), s18 = .int .i64 y2 ∧ Hid (y2 = (k : Int) - 1) ∧ k ≤ A.length ∧ Hid (TI A k T) ∧ Hid (wq.ownsRow wo.heap.size 3 1 s17 T.length (ints T)) ∧ Hid (Below wo.heap.size wo wq) ∧ wo.heap.size ≤ wq.heap.size) (fun _ s18 _ => (intOf s18 + 1).toNat)
        case atStart => exact ⟨A.length, _, [], rfl, hid rfl, Nat.le_refl _, ti_start A, HO0, hid (Below.refl _ _), Nat.le_refl _⟩
        case round =>
          clear HO0
          obtain ⟨k, y2, T, rfl, HY2, hk, HTI, HT, HBQ, hszq⟩ := hrel
          by_cases hk0 : 0 < k
          · obtain ⟨k', hk'⟩ : ∃ k', k = k' + 1 := ⟨k - 1, by omega⟩
            subst hk'
            have hyk : y2 = (k' : Int) := by have := HY2.out; omega
            subst hyk
            obtain ⟨bx, ox, x, rfl, hcx, hxk⟩ := (HSQ.out.below HBQ.out).int (show k' < A.length by omega)
            have hcxa := fun o => below_keeps (box_below wr o) _ _ hcx
            have hkl2 : (k' : Int) < A.length := by omega
            have hkl3 : k' < A.length := by omega
            have hwk : IntKind.i64.wrap ((k' : Int) - 1) = (k' : Int) - 1 := IntWalk.i64_in _ (by omega)
            have d2 : decide ((0 : Int) ≤ (k' : Int)) = true := decide_eq_true (by omega)
            have HTN := hid (ti_step HTI.out hxk)
            have htl := HTI.out.2
            have HLB : Hid (T.length + 2 ≤ maxLen ∧ (T.length + 2) * 8 ≤ 140737488355328) := hid (by unfold maxLen; omega)
            have HTWO : Hid (∀ u ∈ [Value.int .i64 x, .int .i64 x], u.oneCell' = true) := hid (by intro u hu; simp at hu; subst hu; rfl)
            clear hxk htl
            go_wp2_with fail
            go_region_law (refine step_append_sl rfl _ _ 22 rfl wo.heap.size 3 i0 (.int .i64 0) 8 Try.underlying22 hi0 hz0 hz1 hz2 rfl u17 T.length (ints T) (by rfl) (by exact HT.out.alloc _) _ 2 _ [.int .i64 x, .int .i64 x] (by rfl) (by exact slv_at (vs := [.int .i64 x, .int .i64 x]) (e := 3) (m := (0, 0)) (heap_alloc_new _ _)) rfl (by nofun) HTWO.out (by exact HLB.out.1) (by exact HLB.out.2) (by simp; omega) ?_; intro v9 w9 ho9 hg9; have HO9 := hid ho9; have HG9 := hid hg9; clear ho9 hg9)
            all_goals
              have HN9 : Hid (w9.ownsRow wo.heap.size 3 1 v9 (T ++ [x, x]).length (ints (T ++ [x, x]))) := hid (by rw [List.length_append, ints_append]; exact HO9.out)
              have HB9 : Hid (Below wo.heap.size wo w9) := hid ((below_al (HBQ.out.drew) HBQ.out.size _).grown HG9.out (by have := HBQ.out.size; simp; omega) (fun q hq => (HT.out.lt q hq).1))
              have hsz9 : wo.heap.size ≤ w9.heap.size := HB9.out.size
              clear hcx hcxa
              go_wp2_with fail
              go_roundw
              case rel => exact ⟨k', _, _, rfl, hid rfl, by omega, HTN, HN9, HB9, hsz9⟩
              case measure => simp [intOf]
          · have hk00 : k = 0 := by omega
            have hy2' : y2 = -1 := by have := HY2.out; omega
            subst hk00 hy2'
            have d2 : decide ((0 : Int) ≤ -1) = false := by decide
            obtain ⟨at', ct, rfl⟩ := own_lenV' HT.out
            obtain ⟨at2, ct2, e7, -, -, hst⟩ := own_sli HT.out
            injection e7 with e7 e8 e9
            subst e7 e9
            have HST := hid hst
            have hq0 := below_keeps HBQ.out _ _ HQQ.out.1
            have hq1 := below_keeps HBQ.out _ _ HQQ.out.2
            have HRQ := hid (HRW.out.below HBQ.out)
            have HVQ := hid (HV5.out.below (HB.out.trans (HBQ.out.mono HB.out.size)))
            have HBN := hid (HB5.out.trans ((HB.out.trans (HBQ.out.mono HB.out.size)).mono HB5.out.size))
            have HOK2 := hid (gi_ok HOK.out hfl hal HG.out HTI.out)
            have HUP := hid (gi_up (n := n) HG.out (fun a => by have := HTI.out.1 a; simpa using this))
            clear e8 hst hk0
            go_wp2_with fail
            refine (prop_UnitsG n ag G G.length cg at' T T.length ct V bv wr (HUP.out.1.trans HV.out.1) (HUP.out.2.trans HV.out.2) HOK2.out rfl rfl HRQ.out HST.out).mono ?_
            rintro e w8 ⟨hb8, ax, cx, rfl, hsx⟩
            have HB8 := hid (HBN.out.trans (hb8.mono HBN.out.size))
            have HV8 := hid (HVQ.out.below hb8)
            have HX8 := hid hsx
            clear hb8 hsx hq0 hq1 d2
            go_wp2_with fail
            refine (kit_EqualIntsB av ax V V V.length cv V.length cx true _ (by simp [eqI]) rfl rfl HV8.out HX8.out (by omega)).mono ?_
            rintro e w9 ⟨rfl, hb9⟩
            have HB9 := hid (HB8.out.trans (hb9.mono HB8.out.size))
            clear hb9
            go_wp2_with (go_at_call 30; refine (law04_known _).mono ?_; rintro e w' ⟨rfl, hb⟩)
            go_ret
            exact ⟨rfl, HB9.out.trans (hb.mono HB9.out.size)⟩

end Go.Proofs.Ytfgaglgaofceiaa.Ord
