/- The contracts of the reference's unit and Units of layer 4. -/
import Derived.WideMake
import Derived.Deep.OwnRows
import Derived.Deep.DrawnRows
import Derived.Test.YtfofabbnbmieoaaQ8
import Derived.Test.YtfofabbnbmieoaaQ0
import Derived.Test.YtfofabbnbmieoaaQ1

namespace Go.Proofs.Ytfofabbnbmieoaa.Ord
open Go.RowKit Go.Conc

attribute [local go_sem ↓] Go.wp_at_zero Go.wp_at_succ

theorem look_kes {w : World} {bk : Nat} {K : List Int} (h : IM w bk (kes K)) (a : Int) :
    (Instr.lookup 100 (.map (some bk)) (.int .i64 a) false).run Try.prog w = .ok (.bool (decide (a ∈ K))) w := by
  rw [im_lookup (P := Try.prog) Try.underlying100 Try.underlying3 (info_zero_bool w) h a, kes_get]

/-- What the reference's unit leaves. -/
def refUnitR (K c : List Int) (w : World) (e : Ending) (w' : World) : Prop := w' = w ∧ ∃ (l : Int) (b : Bool), e = .returned (.tuple #[.int .i64 l, .bool b]) ∧ UR K c l b

set_option maxRecDepth 100000 in
set_option maxHeartbeats 4000000 in
theorem ref_unit (bk : Nat) (K : List Int) (ac : Option Addr) (c : List Int) (lc cc : Nat) (w : World) (hlc : lc = c.length) (hk : IM w bk (kes K)) (hs : SlV w ac (ints c)) (hc : ∀ x ∈ c, -1048576 ≤ x ∧ x ≤ 1048576 ∧ x ≠ 0) (hl : c.length ≤ 1048576) :
    Calls Try.prog 75 #[.map (some bk), .slice ac lc cc] w (refUnitR K c w) := by
  subst hlc
  have HK := hid hk
  have HS := hid hs
  have HC := hid hc
  clear hk hs hc
  go_enter Try.func75, Try.ntmps75
  go_wp2_with fail
  go_loop [6, 7] (fun s6 s7 => ∃ (k : Nat) (l : Int), s7 = .int .i64 k ∧ s6 = .int .i64 l ∧ k ≤ c.length ∧ Hid (UI K (c.take k) l)) (fun _ s7 => (c.length - (intOf s7)).toNat)
  case atStart => exact ⟨0, 0, rfl, rfl, Nat.zero_le _, ui_nil K⟩
  case round =>
    obtain ⟨k, l, rfl, rfl, hk, hu⟩ := hrel
    by_cases hlt : k < c.length
    · obtain ⟨bo, oo, x, rfl, hcx, hxk⟩ := HS.out.int hlt
      have hxb := HC.out x (List.mem_of_getElem? hxk)
      have hw1 : IntKind.i64.wrap (-x) = -x := IntWalk.i64_in _ (by omega)
      have hwk : IntKind.i64.wrap ((k : Int) + 1) = (k : Int) + 1 := IntWalk.i64_in _ (by omega)
      have hl1 := look_kes HK.out (-x)
      have hl2 := look_kes HK.out x
      have HX := hid hxk
      have hx0 := hxb.2.2
      clear hxk hxb
      by_cases hn : -x ∈ K
      · rw [decide_eq_true hn] at hl1
        have HN := hid (ui_skip hu.out HX.out hn)
        clear hn hl2
        go_wp2_with fail
        go_round
        case rel => exact ⟨k + 1, l, by simp, rfl, hlt, HN⟩
        case measure => simp [intOf]; omega
      · rw [decide_eq_false hn] at hl1
        by_cases hxl : x = l
        · have HN : Hid (UI K (c.take (k + 1)) l) := hid (by subst hxl; exact ui_same hu.out HX.out hx0)
          have d1 : (x == l) = true := by rw [beq_iff_eq]; exact hxl
          clear hn hl2 hxl
          go_wp2_with fail
          go_round
          case rel => exact ⟨k + 1, l, by simp, rfl, hlt, HN⟩
          case measure => simp [intOf]; omega
        · have d1 : (x == l) = false := by rw [beq_eq_false_iff_ne]; exact hxl
          by_cases hxK : x ∈ K
          · rw [decide_eq_true hxK] at hl2
            have HN := hid (ui_two hu.out HX.out hn hxl (.inl hxK))
            clear hn hxl hxK
            go_wp2_with fail
            go_ret2
            exact ⟨rfl, 0, true, rfl, .inr (.inl ⟨rfl, rfl, HN.out⟩)⟩
          · rw [decide_eq_false hxK] at hl2
            by_cases hl0 : l = 0
            · have HN := hid (ui_set hu.out HX.out hn hxK hx0 hl0)
              subst hl0
              clear hn hxl hxK
              go_wp2_with fail
              go_round
              case rel => exact ⟨k + 1, x, by simp, rfl, hlt, HN⟩
              case measure => simp [intOf]; omega
            · have HN := hid (ui_two hu.out HX.out hn hxl (.inr hl0))
              have d2 : (l != 0) = true := by simpa using hl0
              clear hn hxl hxK hl0
              go_wp2_with fail
              go_ret2
              exact ⟨rfl, 0, true, rfl, .inr (.inl ⟨rfl, rfl, HN.out⟩)⟩
    · have HN := hid (ui_end hu.out (by omega))
      go_wp2_with fail
      go_ret2
      exact ⟨rfl, l, !decide (l = 0), by simp [go_sem, bne]; rfl, HN.out⟩

theorem kes_set {K : List Int} {a : Int} (h : -a ∉ K) : aput (kes K) a (.bool true) = kes (setK K a) := by
  by_cases h2 : a ∈ K
  · rw [setK_pos h h2]
    have hg : (kes K).any (fun p => p.1 == a) = true := List.any_eq_true.2 ⟨(a, Value.bool true), List.mem_map.2 ⟨a, h2, rfl⟩, by simp⟩
    unfold aput
    rw [hg, if_pos rfl]
    refine (List.map_congr_left fun p hp => ?_).trans (List.map_id _)
    obtain ⟨k, -, rfl⟩ := List.mem_map.1 hp
    simp only [id]
    split
    · rename_i e; rw [← e]
    · rfl
  · rw [setK_new h h2, kes_put h2]

theorem box_cellsR (n : Nat) (acl : Option Addr) (m cf : Nat) (w : World) (o : Obj) : ((w.alloc (fbox n acl m cf)).alloc o).cell? ⟨w.heap.size, 0, none⟩ = some (.int .i64 n) ∧ ((w.alloc (fbox n acl m cf)).alloc o).cell? ⟨w.heap.size, 1, none⟩ = some (.slice acl m cf) := by
  have hb : ((w.alloc (fbox n acl m cf)).alloc o).heap[w.heap.size]? = some (fbox n acl m cf) := (Below.heap_alloc _ _ _ (by simp)).trans (heap_alloc_new _ _)
  unfold fbox at hb ⊢
  constructor <;> simp [World.cell?, hb]

theorem new_oneR {w : World} {g : Nat} {u : Value} {e : TypeId} (h : w.heap[g]? = some (.cells #[u] e (0, 0))) : ∀ (j : Nat) (x : Value), [u][j]? = some x → w.cell? ((⟨g, 0, none⟩ : Addr).add j) = some x := by
  intro j x hj
  cases j with
  | succ j => simp at hj
  | zero =>
    simp at hj
    subst hj
    simp [World.cell?, Addr.add, h]

theorem im_append {w8 w9 : World} {b : Nat} {es : List (Int × Value)} {o : Obj} {B e s n : Nat} {v : Value} {xs : List Value} (hi : IM w8 b es) (ho : w8.ownsRow B e s v n xs) (hb : b < B) (hg : (w8.alloc o).grownBy w9 v.ownBlock) : IM w9 b es := by
  refine hi.frame ((hg.block b (by rw [size_al]; have := hi.lt; omega) ?_).trans (Below.heap_alloc _ _ _ hi.lt))
  intro e
  have := (ho.lt b e.symm).1
  omega

/-- What the reference's Units leaves. -/
def refUnitsR (n : Int) (F : List (List Int)) (A : List Int) (w : World) (e : Ending) (w' : World) : Prop :=
  Below w.heap.size w w' ∧ ∃ ar cr, e = .returned (.tuple #[.slice ar (unitsV n F A).1.length cr, .bool (unitsV n F A).2.1, .int .i64 (unitsV n F A).2.2]) ∧ SlV w' ar (ints (unitsV n F A).1)

theorem refUnitsR_bad {n : Nat} {F : List (List Int)} {A : List Int} {w w' : World} (h0 : cnfCheck n F = 0) (ha : A.any (badLit n) = false) (h : Bad F A) (hb : Below w.heap.size w w') : refUnitsR n F A w (.returned (.tuple #[.slice none 0 0, .bool true, .int .i64 0])) w' := by
  obtain ⟨e3, e4⟩ := bad_up h n
  refine ⟨hb, none, 0, ?_, ?_⟩
  · rw [unitsV_ok h0 ha, e3, e4]; rfl
  · rw [unitsV_ok h0 ha, e3]; exact SlV.nil _ _

theorem refUnitsR_arg {n : Int} {F : List (List Int)} {A : List Int} {w w' : World} {k : Nat} {x : Int} (h0 : cnfCheck n F = 0) (hx : A[k]? = some x) (hbx : badLit n x = true) (hb : Below w.heap.size w w') : refUnitsR n F A w (.returned (.tuple #[.slice none 0 0, .bool false, .int .i64 3])) w' := by
  refine ⟨hb, none, 0, ?_, ?_⟩
  · rw [unitsV_arg h0 hx hbx]; rfl
  · rw [unitsV_arg h0 hx hbx]; exact SlV.nil _ _

theorem refUnitsR_err {n e : Int} {F : List (List Int)} {A : List Int} {w w' : World} (h0 : cnfCheck n F = e) (he : e ≠ 0) (hb : Below w.heap.size w w') : refUnitsR n F A w (.returned (.tuple #[.slice none 0 0, .bool false, .int .i64 e])) w' := by
  refine ⟨hb, none, 0, ?_, ?_⟩
  · rw [unitsV_err h0 he]; rfl
  · rw [unitsV_err h0 he]; exact SlV.nil _ _

theorem refUnitsR_ok {n : Nat} {F : List (List Int)} {A K : List Int} {w w' : World} {a : Option Addr} {m c : Nat} (h0 : cnfCheck n F = 0) (ha : A.any (badLit n) = false) (h : Closed F A K) (hm : m = (byVar n fun a => decide (a ∈ K)).length) (hs : SlV w' a (ints (byVar n fun a => decide (a ∈ K)))) (hb : Below w.heap.size w w') : refUnitsR n F A w (.returned (.tuple #[.slice a m c, .bool false, .int .i64 0])) w' := by
  obtain ⟨e3, e4⟩ := h.up n
  refine ⟨hb, a, c, ?_, ?_⟩
  · rw [unitsV_ok h0 ha, e3, e4, hm]
  · rw [unitsV_ok h0 ha, e3]; exact hs

set_option maxRecDepth 100000 in
set_option maxHeartbeats 16000000 in
theorem ref_Units (n : Int) (acl : Option Addr) (F : List (List Int)) (mf cf : Nat) (aas : Option Addr) (A : List Int) (ma cas : Nat) (w : World) (hmf : mf = F.length) (hma : ma = A.length) (hf : FOk F) (hr : Rws w acl F) (hs : SlV w aas (ints A)) (hA : ∀ a ∈ A, I64 a)
    (hFl : F.length ≤ 9223372036854775807) (hAl : A.length ≤ 4294967296) :
    Calls Try.prog 59 #[.agg #[.int .i64 n, .slice acl mf cf], .slice aas ma cas] w (refUnitsR n F A w) := by
  obtain ⟨i0, hi0, hz0, hz1, hz2⟩ := info_parts info_int
  subst hmf
  subst hma
  have HF := hid hf
  have HR := hid (hr.below (box_below w (fbox n acl F.length cf)))
  have hb2 : Below w.heap.size w ((w.alloc (fbox n acl F.length cf)).alloc (fbox n acl F.length cf)) := below_al (box_below _ _) (by simp only [size_al]; omega) _
  have HR2 := hid (hr.below hb2)
  have HS2 := hid (hs.below hb2)
  have HB2 := hid hb2
  have HAA := hid hA
  obtain ⟨e1, he1⟩ : ∃ e1, cnfCheck n F = e1 := ⟨_, rfl⟩
  have HE := hid he1
  clear hf hr hs hb2 he1 hA
  by_cases hz : e1 = 0
  · subst hz
    obtain ⟨v1, v2, v3, v4, v5⟩ := cnf_valid HE.out
    obtain ⟨n, rfl⟩ := Int.eq_ofNat_of_zero_le v1
    have HV4 := hid v4
    have HV5 := hid (show ClsOk n F from v5)
    have hn : n ≤ 1048576 := by omega
    clear v1 v2 v4 v5
    go_enter Try.func59, Try.ntmps59
    have hm2 := fun w : World => run_makeMap_plain (P := Try.prog) w 100
    go_wp2_with (go_at_call 61; refine (ref02_CheckR n _ F _ _ _ _ HE.out rfl HF.out HR.out hFl).mono ?_; rintro e w' ⟨rfl, nd, rfl⟩)
    generalize hw0 : World.drewN _ nd = w0
    have hB0 : Below w.heap.size w w0 := by rw [← hw0]; exact below_dr HB2.out nd
    have hsz0 : w0.heap.size = w.heap.size + 1 + 1 := by rw [← hw0]; show ((w.alloc _).alloc _).heap.size = _; simp only [size_al]
    have hc20 : w0.cell? ⟨w.heap.size, 0, none⟩ = some (.int .i64 n) := by rw [← hw0]; exact (box_cellsR n acl F.length cf w (fbox n acl F.length cf)).1
    have hc21 : w0.cell? ⟨w.heap.size, 1, none⟩ = some (.slice acl F.length cf) := by rw [← hw0]; exact (box_cellsR n acl F.length cf w (fbox n acl F.length cf)).2
    have HR0 := hid (HR2.out.below (show Below ((w.alloc (fbox n acl F.length cf)).alloc (fbox n acl F.length cf)).heap.size _ w0 by rw [← hw0]; exact below_dr (Below.refl _ _) _))
    have HS0 := hid (HS2.out.below (show Below ((w.alloc (fbox n acl F.length cf)).alloc (fbox n acl F.length cf)).heap.size _ w0 by rw [← hw0]; exact below_dr (Below.refl _ _) _))
    have HBB := hid hB0
    clear hw0 hB0 HR HR2 HS2 HB2 hm2
    have HC20 := hid hc20
    have HC21 := hid hc21
    generalize hw1 : w0.alloc _ = w1
    have hB1 : Below w0.heap.size w0 w1 := by rw [← hw1]; exact box_below _ _
    have hI1 : IM w1 w0.heap.size (kes []) := by rw [← hw1]; exact im_made w0
    have hc20' := below_keeps hB1 _ _ hc20
    have hc21' := below_keeps hB1 _ _ hc21
    have HS1 := hid (HS0.out.below hB1)
    have hsz1 : w.heap.size ≤ w0.heap.size := by omega
    have hF0 : ∀ wx, Below w0.heap.size w0 wx → Below w.heap.size w wx := fun wx h => HBB.out.trans (h.mono (by omega))
    have HFIN := hid hF0
    rw [hsz0] at hI1
    generalize hbk : w.heap.size + 1 + 1 = bk at hI1 ⊢
    have HBK : Hid (w0.heap.size = bk) := hid (hsz0.trans hbk)
    have HI1 := hid hI1
    have HB1 := hid hB1
    clear hw1 hbk hB1 hI1 hc20 hc21 HBB hsz0 hF0 hsz1
    have hwn : IntKind.i64.wrap (-(n : Int)) = -(n : Int) := IntWalk.i64_in _ (by omega)
    go_loopw [9] (fun s9 wr => ∃ k nd : Nat, s9 = .int .i64 k ∧ k ≤ A.length ∧ wr = w1.drewN nd ∧ Hid ((A.take k).any (badLit n) = false)) (fun s9 _ => (A.length - (intOf s9)).toNat)
    case atStart => exact ⟨0, 0, rfl, Nat.zero_le _, rfl, by simp [Hid]⟩
    case round =>
      obtain ⟨k, nd, rfl, hk, rfl, hany⟩ := hrel
      by_cases hlt : k < A.length
      · obtain ⟨bo, oo, x, rfl, hcx, hxk⟩ := HS1.out.int hlt
        have hwk : IntKind.i64.wrap ((k : Int) + 1) = (k : Int) + 1 := IntWalk.i64_in _ (by omega)
        have HX := hid hxk
        clear hxk
        by_cases hb : badLit n x = true
        · have HBX := hid hb
          rcases lit_bad_of hb with h0 | h0 | h0
          · have d0 : (x == 0) = true := by rw [h0]; rfl
            clear h0 hb
            go_wp2_with fail
            go_quiet (fail)
            go_wp2_with fail
            go_ret3
            exact refUnitsR_arg HE.out HX.out HBX.out (HFIN.out _ (below_dr (below_dr HB1.out _) _))
          · have d0 : (x == 0) = false := by rw [beq_eq_false_iff_ne]; omega
            have d1 : decide ((n : Int) < x) = true := decide_eq_true h0
            clear h0 hb
            go_wp2_with fail
            go_quiet (fail)
            go_wp2_with fail
            go_ret3
            exact refUnitsR_arg HE.out HX.out HBX.out (HFIN.out _ (below_dr (below_dr HB1.out _) _))
          · have d0 : (x == 0) = false := by rw [beq_eq_false_iff_ne]; omega
            have d1 : decide ((n : Int) < x) = false := decide_eq_false (by omega)
            have d2 : decide (x < -(n : Int)) = true := decide_eq_true h0
            clear h0 hb
            go_wp2_with fail
            go_quiet (fail)
            go_wp2_with fail
            go_ret3
            exact refUnitsR_arg HE.out HX.out HBX.out (HFIN.out _ (below_dr (below_dr HB1.out _) _))
        · have hb' : badLit n x = false := by simpa using hb
          have hx := lit_ok_of hb'
          unfold LitOk at hx
          have d0 : (x == 0) = false := by rw [beq_eq_false_iff_ne]; exact hx.1
          have d1 : decide ((n : Int) < x) = false := decide_eq_false (by omega)
          have d2 : decide (x < -(n : Int)) = false := decide_eq_false (by omega)
          have HN := hid (take_any_succ HX.out hany.out hb')
          clear hb hb' hx
          go_wp2_with fail
          go_quiet (fail)
          go_wp2_with fail
          go_roundw
          case rel => exact ⟨k + 1, _, by simp, hlt, (by first | rfl | exact World.drewN_drewN ..), HN⟩
          case measure => simp [intOf]; omega
      · have hAny := hid (take_all_false hlt hany.out)
        have HLA := hid (asm_ok_of hAny.out)
        go_wp2_with fail
        generalize hw2 : w1.drewN nd = w2
        have hI2 : IM w2 bk (kes []) := by rw [← hw2]; exact HI1.out.frame rfl
        have hB2 : Below w0.heap.size w0 w2 := by rw [← hw2]; exact below_dr HB1.out _
        have HI2 := hid hI2
        have HB2 := hid hB2
        clear hw2 hI2 hB2 HI1 hany hwn HS1 hc20' hc21'
        go_loopw [10] (fun s10 wr => ∃ (k : Nat) (K : List Int), s10 = .int .i64 k ∧ k ≤ A.length ∧ Hid (IM wr bk (kes K)) ∧ Hid (Below w0.heap.size w0 wr) ∧ Hid (PA n A K k)) (fun s10 _ => (A.length - (intOf s10)).toNat)
        case atStart => exact ⟨0, [], rfl, Nat.zero_le _, HI2, HB2, pa_start n A⟩
        case round =>
          clear HI2 HB2
          obtain ⟨k, K, rfl, hk, HI, HB, HP⟩ := hrel
          by_cases hlt : k < A.length
          · obtain ⟨bo, oo, x, rfl, hcx, hxk⟩ := (HS0.out.below HB.out).int hlt
            have hwk : IntKind.i64.wrap ((k : Int) + 1) = (k : Int) + 1 := IntWalk.i64_in _ (by omega)
            have hx := HLA.out x (List.mem_of_getElem? hxk)
            unfold LitOk at hx
            have hwx : IntKind.i64.wrap (-x) = -x := IntWalk.i64_in _ (by omega)
            have hl1 := look_kes HI.out (-x)
            have HX := hid hxk
            have hx0 := hx.1
            clear hxk hx
            by_cases hn : -x ∈ K
            · rw [decide_eq_true hn] at hl1
              have HBAD := hid (pa_bad HP.out HX.out hn F)
              have HBW := hid (HFIN.out _ HB.out)
              clear hn
              go_wp2_with fail
              go_ret3
              exact refUnitsR_bad HE.out hAny.out HBAD.out HBW.out
            · rw [decide_eq_false hn] at hl1
              obtain ⟨w3, hrun3, hI3, ht3, hz3⟩ := im_update (P := Try.prog) Try.underlying100 Try.underlying3 HI.out x (.bool true)
              rw [kes_set hn] at hI3
              have HI3 := hid hI3
              have HP3 := hid (pa_step HP.out HX.out hx0 hn)
              have HB3 : Hid (Below w0.heap.size w0 w3) := hid (HB.out.trans (ht3.below HB.out.size (fun k hk => by rw [hk, HBK.out]; exact Nat.le_refl _)))
              clear hn hI3 ht3 hz3
              go_wp2_with fail
              go_roundw
              case rel => exact ⟨k + 1, setK K x, by simp, hlt, HI3, HB3, HP3⟩
              case measure => simp [intOf]; omega
          · have HPR : Hid (PRO n F A K (-1)) := hid (pro_start (pr_start (by have := HP.out; rwa [show k = A.length by omega] at this) HLA.out))
            go_wp2_with fail
            have HI0 := HI
            have HB0 := HB
            clear HI HB HP HS0
            go_loopw [11] (fun s11 wr => ∃ (b : Int) (K : List Int), s11 = .int .i64 b ∧ b ≤ n ∧ Hid (IM wr bk (kes K)) ∧ Hid (Below w0.heap.size w0 wr) ∧ Hid (PRO n F A K b)) (fun s11 _ => ((n : Int) + 1 - intOf s11).toNat)
            case atStart => exact ⟨-1, K, rfl, by omega, HI0, HB0, HPR⟩
            case round =>
              clear HI0 HB0 HPR
              obtain ⟨b, K, rfl, hbn, HI, HB, HP⟩ := hrel
              have hlen := im_len (P := Try.prog) Try.underlying100 HI.out
              have hkl : (kes K).length = K.length := by simp [kes]
              rw [hkl] at hlen
              have hKn : K.length ≤ n := pr_len HP.out.1
              clear hkl
              by_cases hbK : b < K.length
              · have d1 : decide (b < (K.length : Int)) = true := decide_eq_true hbK
                have HPI := hid (pri_start HP.out.1)
                obtain ⟨b2, hb2⟩ : ∃ b2, K.length = b2 := ⟨_, rfl⟩
                rw [hb2] at hlen d1 hKn HPI hbK
                clear hb2 HP
                go_wp2_with fail
                clear d1 hlen
                go_loopw [12] (fun s12 wq => ∃ (i : Nat) (K : List Int), s12 = .int .i64 i ∧ i ≤ F.length ∧ Hid (IM wq bk (kes K)) ∧ Hid (Below w0.heap.size w0 wq) ∧ Hid (PRI n F A K b2 i)) (fun s12 _ => (F.length - (intOf s12)).toNat)
                case atStart => exact ⟨0, K, rfl, Nat.zero_le _, HI, HB, HPI⟩
                case round =>
                  clear HI HB HPI
                  obtain ⟨i, K, rfl, hi, HI, HB, HP⟩ := hrel
                  have hc21' := below_keeps HB.out _ _ HC21.out
                  by_cases hil : i < F.length
                  · obtain ⟨bo, oo, c, ac, cc, rfl, hcell, hsc, hc, hci, -, hcc, hcn⟩ := (HR0.out.below HB.out).row HF.out hil
                    have hwi : IntKind.i64.wrap ((i : Int) + 1) = (i : Int) + 1 := IntWalk.i64_in _ (by omega)
                    have HC := hid hc
                    have HSC := hid hsc
                    have hcl := HV4.out c (List.mem_of_getElem? hc)
                    have hco := HV5.out c (List.mem_of_getElem? hc)
                    have HCO := hid hco
                    clear hc hsc hci hcc hcn hco
                    go_wp2_with fail
                    refine (ref_unit bk K ac c _ cc _ rfl HI.out HSC.out (fun x hx => by have := HCO.out x hx; unfold LitOk at this; omega) (by omega)).mono ?_
                    rintro e w5 ⟨rfl, l, t, rfl, hur⟩
                    rcases hur with ⟨rfl, rfl, hall⟩ | ⟨rfl, rfl, hok⟩ | ⟨rfl, hl0, hl1, hl2, hl3, hl4⟩
                    · have HBAD := hid (pr_bad HP.out.1 (List.mem_of_getElem? HC.out) hall)
                      have HBW := hid (HFIN.out _ HB.out)
                      clear hall
                      go_wp2_with fail
                      go_ret3
                      exact refUnitsR_bad HE.out hAny.out HBAD.out HBW.out
                    · have HN := hid (pri_ok HP.out HC.out hok)
                      clear hok
                      go_wp2_with fail
                      go_roundw
                      case rel => exact ⟨i + 1, K, by simp, hil, HI, HB, HN⟩
                      case measure => simp [intOf]; omega
                    · have HN := hid (pri_add HP.out HV5.out HC.out hl1 hl2 hl3 hl4)
                      have d2 : (l != 0) = true := by simpa using hl0
                      obtain ⟨w6, hrun6, hI6, ht6, hz6⟩ := im_update (P := Try.prog) Try.underlying100 Try.underlying3 HI.out l (.bool true)
                      rw [kes_put hl3] at hI6
                      have HI6 := hid hI6
                      have HB6 : Hid (Below w0.heap.size w0 w6) := hid (HB.out.trans (ht6.below HB.out.size (fun k hk => by rw [hk, HBK.out]; exact Nat.le_refl _)))
                      clear hl0 hl1 hl2 hl3 hl4 hI6 ht6 hz6
                      go_wp2_with fail
                      go_roundw
                      case rel => exact ⟨i + 1, K ++ [l], by simp, hil, HI6, HB6, HN⟩
                      case measure => simp [intOf]; omega
                  · have HN := hid (pro_next HP.out (by omega))
                    go_wp2_with fail
                    go_roundw
                    case rel => exact ⟨b2, K, rfl, by omega, HI, HB, HN⟩
                    case measure => simp [intOf]; omega
              · have d1 : decide (b < (K.length : Int)) = false := decide_eq_false hbK
                have HCL := hid (pro_closed HP.out hbK)
                clear HP hbK
                go_wp2_with fail
                clear d1 hlen
                have hbk := HI.out.lt
                have HO0 : Hid (wr.ownsRow wr.heap.size 3 1 (.slice none 0 0) 0 (ints [])) := hid (World.ownsRow_nil _ _ _ _)
                have HCONS := hid (fun a (ha : a ∈ K) => HCL.out.cons a ha)
                have hwB : w0.heap.size ≤ wr.heap.size := HB.out.size
                generalize hB : wr.heap.size = B at hbk HO0 hwB
                have HIx := HI
                have HBx := HB
                have HSZ : Hid (B ≤ wr.heap.size) := hid (by omega)
                clear hB HI HB
                go_loopw [15, 16] (fun s15 s16 wq => ∃ (v : Nat) (y : Int) (xs : List Int), s16 = .int .i64 y ∧ Hid (y = (v : Int) + 1) ∧ v ≤ n ∧ xs.length ≤ 2 * v ∧ Hid (byVar v (fun a => decide (a ∈ K)) = xs) ∧ Hid (wq.ownsRow B 3 1 s15 xs.length (ints xs)) ∧ Hid (IM wq bk (kes K)) ∧ Hid (Below w0.heap.size w0 wq) ∧ B ≤ wq.heap.size) (fun _ s16 _ => ((n : Int) + 1 - intOf s16).toNat)
                case atStart => exact ⟨0, 1, [], rfl, hid rfl, Nat.zero_le _, Nat.le_refl _, rfl, HO0, HIx, HBx, HSZ.out⟩
                case round =>
                  clear HIx HBx HO0 HSZ
                  obtain ⟨v, y, xs, rfl, HY, hv, hxl, HX, HO, HI, HB, hsz⟩ := hrel
                  obtain ⟨a3, c3, rfl⟩ := own_lenV' HO.out
                  have hc20' := below_keeps HB.out _ _ HC20.out
                  by_cases hvn : v < n
                  · have d1 : decide (y ≤ n) = true := decide_eq_true (by have := HY.out; omega)
                    have HL2 := hid (show xs.length ≤ 2 * (v + 1) ∧ xs.length + 1 ≤ 2 * (v + 1) ∧ xs.length + 1 ≤ maxLen ∧ 0 < xs.length + 1 by unfold maxLen; omega)
                    have HL3 := hid (show xs.length ≤ 2097152 by omega)
                    have HME := hid (show ((n : Int) + 1 - (y + 1)).toNat < ((n : Int) + 1 - y).toNat by have := HY.out; omega)
                    have HWS := hid (show w0.heap.size ≤ wr.heap.size from HB.out.size)
                    have hwv : IntKind.i64.wrap (y + 1) = y + 1 := IntWalk.i64_in _ (by have := HY.out; omega)
                    have HY2 : Hid (y + 1 = ((v + 1 : Nat) : Int) + 1) := hid (by have := HY.out; omega)
                    have hwm : IntKind.i64.wrap (-y) = -y := IntWalk.i64_in _ (by have := HY.out; omega)
                    have hl1 := look_kes HI.out y
                    have hl2 := look_kes HI.out (-y)
                    by_cases h1 : y ∈ K
                    · have h2 := HCONS.out _ h1
                      have HN : Hid (byVar (v + 1) (fun a => decide (a ∈ K)) = xs ++ [y]) := hid (by rw [byVar_succ, HX.out, ← HY.out]; simp [h1, h2])
                      rw [decide_eq_true h1] at hl1
                      have H2 := hid h2
                      clear hl2 h1 h2
                      go_wp2_with (at_builtin; refine wpList_append_own _ rfl _ _ 22 rfl B 3 i0 (.int .i64 0) 1 8 Try.underlying22 hi0 hz0 hz1 hz2 rfl (by decide) _ _ _ rfl (HO.out.alloc _) ⟨wr.heap.size, 0, none⟩ 1 1 [.int .i64 y] rfl rfl ?c1 one_int (by exact HL2.out.2.2.1) (by clear hwv hwm; have := HL3.out; omega) (by simp only [size_al]; exact Nat.le_succ_of_le hsz) ?_)
                      case c1 => exact new_oneR (heap_alloc_new _ _)
                      intro v9 w9 ho9 hg9 _
                      have hI9 := im_append HI.out HO.out hbk hg9
                      have HO9 : Hid (w9.ownsRow B 3 1 v9 (xs ++ [y]).length (ints (xs ++ [y]))) := hid (by rw [List.length_append, ints_append]; exact ho9)
                      have HB9 : Hid (Below w0.heap.size w0 w9) := hid (HB.out.trans (((Below.refl _ wr).alloc HB.out.size _).grown hg9 (by simp only [size_al]; exact Nat.le_succ_of_le HWS.out) fun k hk => Nat.le_trans hwB (HO.out.lt k hk).1))
                      have hsz9 : B ≤ w9.heap.size := Nat.le_trans hsz (Nat.le_trans (by simp) hg9.size)
                      have hl2 := look_kes hI9 (-y)
                      rw [decide_eq_false H2.out] at hl2
                      have HI9 := hid hI9
                      clear ho9 hg9 hI9 hl1 hc20'
                      go_wp2_with fail
                      go_roundw
                      case rel => exact ⟨v + 1, y + 1, xs ++ [y], rfl, HY2, hvn, by rw [List.length_append]; exact HL2.out.2.1, HN, HO9, HI9, HB9, hsz9⟩
                      case measure => exact HME.out
                    · rw [decide_eq_false h1] at hl1
                      by_cases h2 : -y ∈ K
                      · have HN : Hid (byVar (v + 1) (fun a => decide (a ∈ K)) = xs ++ [-y]) := hid (by rw [byVar_succ, HX.out, ← HY.out]; simp [h1, h2])
                        rw [decide_eq_true h2] at hl2
                        clear h1 h2
                        go_wp2_with (at_builtin; refine wpList_append_own _ rfl _ _ 22 rfl B 3 i0 (.int .i64 0) 1 8 Try.underlying22 hi0 hz0 hz1 hz2 rfl (by decide) _ _ _ rfl (HO.out.alloc _) ⟨wr.heap.size, 0, none⟩ 1 1 [.int .i64 (-y)] rfl rfl ?c1 one_int (by exact HL2.out.2.2.1) (by clear hwv hwm; have := HL3.out; omega) (by simp only [size_al]; exact Nat.le_succ_of_le hsz) ?_)
                        case c1 => exact new_oneR (heap_alloc_new _ _)
                        intro v9 w9 ho9 hg9 _
                        have HI9 := hid (im_append HI.out HO.out hbk hg9)
                        have HO9 : Hid (w9.ownsRow B 3 1 v9 (xs ++ [-y]).length (ints (xs ++ [-y]))) := hid (by rw [List.length_append, ints_append]; exact ho9)
                        have HB9 : Hid (Below w0.heap.size w0 w9) := hid (HB.out.trans (((Below.refl _ wr).alloc HB.out.size _).grown hg9 (by simp only [size_al]; exact Nat.le_succ_of_le HWS.out) fun k hk => Nat.le_trans hwB (HO.out.lt k hk).1))
                        have hsz9 : B ≤ w9.heap.size := Nat.le_trans hsz (Nat.le_trans (by simp) hg9.size)
                        clear ho9 hg9 hl1 hl2 hc20'
                        go_wp2_with fail
                        go_roundw
                        case rel => exact ⟨v + 1, y + 1, xs ++ [-y], rfl, HY2, hvn, by rw [List.length_append]; exact HL2.out.2.1, HN, HO9, HI9, HB9, hsz9⟩
                        case measure => exact HME.out
                      · have HN : Hid (byVar (v + 1) (fun a => decide (a ∈ K)) = xs) := hid (by rw [byVar_succ, HX.out, ← HY.out]; simp [h1, h2])
                        rw [decide_eq_false h2] at hl2
                        clear h1 h2
                        go_wp2_with fail
                        go_roundw
                        case rel => exact ⟨v + 1, y + 1, xs, rfl, HY2, hvn, HL2.out.1, HN, HO, HI, HB, hsz⟩
                        case measure => exact HME.out
                  · have d1 : decide (y ≤ n) = false := decide_eq_false (by have := HY.out; omega)
                    have hvn' : v = n := by omega
                    have HX' := HX.out
                    rw [hvn'] at HX'
                    have HXN := hid HX'
                    clear HX HX' hvn'
                    have hsl := own_sl HO.out
                    go_wp2_with fail
                    go_ret3
                    refine refUnitsR_ok HE.out hAny.out HCL.out (by rw [HXN.out]) ?_ (HFIN.out _ HB.out)
                    rw [HXN.out]
                    obtain ⟨a', c', e1, -, -, hsl⟩ := hsl
                    injection e1 with e1 e2 e3
                    subst e1
                    exact hsl
  · have hz' : (e1 != 0) = true := by simpa using hz
    have HZ := hid hz
    clear hz
    go_enter Try.func59, Try.ntmps59
    go_wp2_with (go_at_call 61; refine (ref02_CheckR n _ F _ _ _ _ HE.out rfl HF.out HR.out hFl).mono ?_; rintro e w' ⟨rfl, nd, rfl⟩)
    go_ret3
    exact refUnitsR_err HE.out HZ.out (below_dr HB2.out _)

end Go.Proofs.Ytfofabbnbmieoaa.Ord
