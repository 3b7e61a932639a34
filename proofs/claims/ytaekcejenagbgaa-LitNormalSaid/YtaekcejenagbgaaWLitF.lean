/- The walk of the law LitNormal. -/
import Derived.Test.YtaekcejenagbgaaNormR
import Derived.Test.YtaekcejenagbgaaKnown01
import Derived.Test.YtaekcejenagbgaaPNormal
import Derived.Test.YtaekcejenagbgaaWLitB
namespace Go.Proofs.Ytaekcejenagbgaa
open Go.RowKit

set_option maxRecDepth 100000 in
set_option maxHeartbeats 4000000 in
theorem walk_LitNormal (v0 : Value) (x0 : List Int) (x1 : Int) (w : World) (w0 : ArgI .i64 w v0 x0) (w1 : (Lit.int .u8 x1).wf = true) :
    Calls Try.prog 12 #[v0, .int .u8 x1] w fun e w' => e = .returned (.bool true) ∧ Below w.heap.size w w' := by
  obtain ⟨a0, c0, rfl, hle0, hm0, hn0, hs0, hw0⟩ := w0
  have hx0 := hid (i64s_of_wf hw0)
  have HS0 : Hid (SlV w a0 (ints x0)) := hs0
  have hb1 := bounds_u8 w1
  have HN0 := hid hn0
  have HK := hid fun w => law01_known w
  clear hw0 hs0 hn0 hm0 w1
  obtain ⟨i0, hi, hz0, hz1, hz2⟩ := info_parts info_int
  by_cases hl : x0.length ≤ 60
  · obtain ⟨r, hr⟩ : ∃ r, adjB (normL x0) = r := ⟨_, rfl⟩
    obtain ⟨ys, hys⟩ : ∃ ys, normV x0 = ys := ⟨_, rfl⟩
    have hyl : ys.length ≤ 60 := by rw [← hys]; exact Nat.le_trans (normV_length _) hl
    have hy64 : ∀ y ∈ ys, I64 y := fun y hy => hx0.out y (mem_normV (hys ▸ hy))
    have HR := hid hr
    have HY := hid hys
    have HY64 := hid hy64
    clear hr hys hy64
    go_enter Try.func12, Try.ntmps12
    go_wp2_with fail
    refine (lit_NormR a0 x0 ys r _ c0 w HR.out HY.out rfl hle0 HN0.out HS0.out hx0.out (by omega)).mono ?_
    rintro e w3 ⟨a3, c3, rfl, ho3, hb3⟩
    have HO3 := hid ho3
    have HS3 := hid (OwnT.slv ho3)
    have HB3 := hid hb3
    have HS0' := hid (HS0.out.below hb3)
    clear ho3 hb3
    go_wp2_with fail
    go_loopw [7] (fun i wr => ∃ j nd : Nat, j ≤ ys.length ∧ wr = w3.drewN nd ∧ i = .int .i64 j) (fun i _ => ys.length - (intOf i).toNat)
    case atStart => exact ⟨0, 0, Nat.zero_le _, rfl, rfl⟩
    case round =>
      obtain ⟨j, nd, hj, rfl, rfl⟩ := hrel
      by_cases hlt : j + 1 < ys.length
      · obtain ⟨b, off, u, rfl, hc, hu⟩ := HS3.out.int (k := j) (by omega)
        obtain ⟨b', off', v, hbb, hd, hv⟩ := HS3.out.int hlt
        simp at hbb
        obtain ⟨rfl, rfl⟩ := hbb
        have hnx := normV_next (HY.out.symm ▸ hu) (HY.out.symm ▸ hv)
        have hu64 : I64 u := HY64.out u (List.mem_of_getElem? hu)
        have hv64 : I64 v := HY64.out v (List.mem_of_getElem? hv)
        obtain ⟨t, ht⟩ : ∃ t, IntKind.i64.wrap (-v) = t := ⟨_, rfl⟩
        have hut : (u == t) = false := by
          rw [beq_eq_false_iff_ne, ← ht]
          intro e
          unfold I64 at hv64
          by_cases hmin : v = -9223372036854775808
          · subst hmin
            have : u = -9223372036854775808 := by rw [e]; decide
            rw [this] at hnx
            simp at hnx
          · rw [IntWalk.i64_in _ (by omega)] at e
            omega
        have HNX := hid hnx.1
        have e1 : IntKind.i64.wrap ((j : Int) + 1) = (j : Int) + 1 := by rw [IntWalk.i64_in _ (by omega)]
        have e2 : 0 ≤ (j : Int) + 1 := by omega
        have e3 : ((j : Int) + 1).toNat = j + 1 := by omega
        have e4 : (j : Int) + 1 < ys.length := by omega
        have e5 : (j : Int) < ys.length := by omega
        clear hu hv hnx
        go_wp2_with fail
        go_quiet ((go_at_call 37; first | exact quiet_same2 (lit_Less' _ _ _ _ HNX.out (by assumption) (by assumption)) | exact quiet_same (lit_Less' _ _ _ _ HNX.out (by assumption) (by assumption))))
        clear e1 e2 e3 ht
        go_wp2_with fail
        go_roundw
        case rel => exact ⟨j + 1, _, by omega, (by first | rfl | exact World.drewN_drewN ..), by go_num⟩
        case measure => simp [intOf]; omega
      · skip
        have HB3' := hid (below_dr HB3.out nd)
        have HSA := hid (HS0'.out.drewN nd)
        have HSB := hid (HS3.out.drewN nd)
        have HOB : Hid (OwnT 3 (w3.drewN nd) w.heap.size (.slice a3 ys.length c3) ys) := HO3.out
        cases r with
        | false =>
          go_wp2_with fail
          clear hj hlt
          go_loop [8] (fun i => ∃ j : Nat, j ≤ x0.length ∧ i = .int .i64 j) (fun i => x0.length - (intOf i).toNat)
          case atStart => exact ⟨0, Nat.zero_le _, rfl⟩
          case round =>
            obtain ⟨j, hj, rfl⟩ := hrel
            by_cases hlt : j < x0.length
            · obtain ⟨b, off, x, rfl, hc, hx⟩ := HSA.out.int hlt
              have HX := hid hx
              clear hx
              cases hz : (x != 0) with
              | false =>
                go_wp2_with fail
                go_round
                case rel => exact ⟨j + 1, by omega, by go_num⟩
                case measure => simp [intOf]; omega
              | true =>
                have HM : Hid (x ∈ ys) := by
                  rw [← HY.out]; exact (mem_normV_iff HR.out).2 ⟨List.mem_of_getElem? HX.out, by simpa using hz⟩
                go_wp2_with (go_at_call 40; refine (law01_has a3 ys _ c3 x true _ (any_eq_of_mem HM.out) rfl HSB.out (by omega)).mono ?_; rintro e w' ⟨rfl, rfl⟩)
                go_round
                case rel => exact ⟨j + 1, by omega, by go_num⟩
                case measure => simp [intOf]; omega
            · go_wp2_with fail
              clear hj hlt
              go_loop [9] (fun i => ∃ j : Nat, j ≤ ys.length ∧ i = .int .i64 j) (fun i => ys.length - (intOf i).toNat)
              case atStart => exact ⟨0, Nat.zero_le _, rfl⟩
              case round =>
                obtain ⟨j, hj, rfl⟩ := hrel
                by_cases hlt : j < ys.length
                · obtain ⟨b, off, y, rfl, hc, hy⟩ := HSB.out.int hlt
                  have hmy : y ∈ x0 ∧ y ≠ 0 := (mem_normV_iff HR.out).1 (HY.out.symm ▸ List.mem_of_getElem? hy)
                  have hz : (y == 0) = false := by simpa using hmy.2
                  have HM := hid hmy.1
                  clear hy hmy
                  go_wp2_with (go_at_call 40; refine (law01_has a0 x0 _ c0 y true _ (any_eq_of_mem HM.out) rfl HSA.out (by omega)).mono ?_; rintro e w' ⟨rfl, rfl⟩)
                  go_round
                  case rel => exact ⟨j + 1, by omega, by go_num⟩
                  case measure => simp [intOf]; omega
                · go_wp2_with fail
                  clear hj hlt
                  go_loopw [10, 11] (fun v10 i wr => ∃ k : Nat, k ≤ x0.length ∧ i = .int .i64 k ∧ Hid (wr.ownsRow w3.heap.size 3 1 v10 (otherL x0 x1.toNat k).length (ints (otherL x0 x1.toNat k))) ∧ Below w3.heap.size (w3.drewN nd) wr) (fun _ i _ => x0.length - (intOf i).toNat)
                  case atStart => exact ⟨0, Nat.zero_le _, rfl, World.ownsRow_nil _ _ _ _, Below.refl _ _⟩
                  case round =>
                    obtain ⟨k, hk, rfl, ho, hb⟩ := hrel
                    have hbz := hb.size
                    simp only [heap_dr] at hbz
                    by_cases hlt : k < x0.length
                    · obtain ⟨at0, hat⟩ : ∃ at0, at0 = (x0.length - 1 - k + x1.toNat) % x0.length := ⟨_, rfl⟩
                      have hal : at0 < x0.length := hat ▸ Nat.mod_lt _ (by omega)
                      have hae : ((x0.length : Int) - 1 - k + x1) % x0.length = (at0 : Int) := by
                        rw [hat, Int.natCast_emod]; congr 1; omega
                      obtain ⟨b, off, x, rfl, hc0, hx⟩ := HSA.out.int hal
                      obtain ⟨b', off', y, hbb, hd0, hy⟩ := HSA.out.int hlt
                      simp at hbb
                      obtain ⟨rfl, rfl⟩ := hbb
                      have hc := below_keeps hb _ _ hc0
                      have hd := below_keeps hb _ _ hd0
                      have HD0 := hid hd0
                      clear hc0 hd0
                      have hgx : x0.getD ((x0.length - 1 - k + x1.toNat) % x0.length) 0 = x := by rw [← hat, List.getD_eq_getElem?_getD, hx]; rfl
                      have hgy : x0.getD k 0 = y := by rw [List.getD_eq_getElem?_getD, hy]; rfl
                      have hlen := otherL_length x0 x1.toNat k
                      have HSUC := hid (otherL_succ x0 x1.toNat k)
                      have HGX := hid hgx
                      have HGY := hid hgy
                      obtain ⟨lo, hlo⟩ : ∃ lo, lo = otherL x0 x1.toNat k := ⟨_, rfl⟩
                      rw [← hlo] at ho hlen
                      have HLO := hid hlo
                      have HOx := ho
                      clear hat hx hy hgx hgy hlo ho
                      by_cases h3 : k % 3 = 1
                      · have h3' : ((k : Int) % 3 == 1) = true := by rw [beq_iff_eq]; omega
                        have HE : Hid (otherL x0 x1.toNat (k + 1) = (lo ++ [x]) ++ [y]) := by
                          rw [HSUC.out, otherAt, HGX.out, HGY.out, if_pos h3, HLO.out]; simp [Hid]
                        clear h3
                        go_wp2_with (first
                          | (at_builtin; refine wpList_append_sl _ rfl (.tmp 116) (.tmp 121) 40 rfl w3.heap.size 3 i0 (.int .i64 0) 8 Try.underlying40 hi hz0 hz1 hz2 rfl _ _ _ rfl (HOx.out.alloc _) _ 1 _ [.int .i64 x] rfl (slv_new _ [.int .i64 x] _ _) rfl (by nofun) one_int (by unfold maxLen; omega) (by omega) (by simp only [size_al]; omega) ?_; intro v9 w9 ho9 hg9; have hb9 : Below w3.heap.size (w3.drewN nd) w9 := (below_al hb (by omega) _).grown hg9 (by simp only [size_al]; omega) (fun q hq => (HOx.out.lt q hq).1); have HO9 : Hid (w9.ownsRow w3.heap.size 3 1 v9 (lo ++ [x]).length (ints (lo ++ [x]))) := (by rw [ints_append, List.length_append]; exact ho9); have hz9 := hb9.size; simp only [heap_dr] at hz9; have hd9 := below_keeps hb9 _ _ HD0.out; have hl9 : (lo ++ [x]).length = lo.length + 1 := (by simp); have HL9 := hid hl9; clear ho9 hg9 hl9)
                          | (at_builtin; refine wpList_append_sl _ rfl (.tmp 126) (.tmp 131) 40 rfl w3.heap.size 3 i0 (.int .i64 0) 8 Try.underlying40 hi hz0 hz1 hz2 rfl _ _ _ rfl (HO9.out.alloc _) _ 1 _ [.int .i64 y] rfl (slv_new _ [.int .i64 y] _ _) rfl (by nofun) one_int (by unfold maxLen; have := HL9.out; omega) (by have := HL9.out; omega) (by simp only [size_al]; omega) ?_; intro v10 w10 ho10 hg10; have hb10 : Below w3.heap.size (w3.drewN nd) w10 := (below_al hb9 (by omega) _).grown hg10 (by simp only [size_al]; omega) (fun q hq => (HO9.out.lt q hq).1); have HO10 := hid ho10; clear ho10 hg10))
                        go_roundw
                        case rel => exact ⟨k + 1, by omega, by go_num, by rw [HE.out, ints_append, List.length_append]; exact HO10.out, hb10⟩
                        case measure => simp [intOf]; omega
                      · have h3' : ((k : Int) % 3 == 1) = false := by rw [beq_eq_false_iff_ne]; omega
                        have HE : Hid (otherL x0 x1.toNat (k + 1) = lo ++ [x]) := by
                          rw [HSUC.out, otherAt, HGX.out, if_neg h3, HLO.out]; rfl
                        clear h3
                        go_wp2_with (at_builtin; refine wpList_append_sl _ rfl _ _ 40 rfl w3.heap.size 3 i0 (.int .i64 0) 8 Try.underlying40 hi hz0 hz1 hz2 rfl _ _ _ rfl (HOx.out.alloc _) _ 1 _ [.int .i64 x] rfl (slv_new _ [.int .i64 x] _ _) rfl (by nofun) one_int (by unfold maxLen; omega) (by omega) (by simp only [size_al]; omega) ?_; intro v9 w9 ho9 hg9; have hb9 : Below w3.heap.size (w3.drewN nd) w9 := (below_al hb (by omega) _).grown hg9 (by simp only [size_al]; omega) (fun q hq => (HOx.out.lt q hq).1); have HO9 := hid ho9; have hz9 := hb9.size; simp only [heap_dr] at hz9; clear ho9 hg9)
                        go_wp2_with fail
                        go_roundw
                        case rel => exact ⟨k + 1, by omega, by go_num, by rw [HE.out, ints_append, List.length_append]; exact HO9.out, hb9⟩
                        case measure => simp [intOf]; omega
                    · have hkl : k = x0.length := by omega
                      obtain ⟨oth, hoth⟩ : ∃ oth, oth = otherL x0 x1.toNat x0.length := ⟨_, rfl⟩
                      rw [hkl, ← hoth] at ho
                      have hol : oth.length ≤ 120 := by rw [hoth]; exact Nat.le_trans (otherL_length _ _ _) (by omega)
                      have ho64 : Hid (∀ y ∈ oth, I64 y) := fun y hy => hx0.out y (mem_otherL_le (Nat.le_refl _) (hoth ▸ hy))
                      have HRO : Hid (adjB (normL oth) = false) := by rw [hoth, normL_other]; exact HR
                      have HVO : Hid (normV oth = ys) := by rw [hoth, normV_other]; exact HY
                      obtain ⟨a10, c10, rfl, hc10, hn10, hs10⟩ := own_sli ho.out
                      have HS10 := hid hs10
                      have HN10 := hid hn10
                      have HRY : Hid (adjB (normL ys) = false) := by rw [← HY.out]; exact adj_normV x0
                      have HVY : Hid (normV ys = ys) := by rw [← HY.out]; exact normV_normV x0
                      have hcap3 : ys.length ≤ c3 ∧ (a3 = none → c3 = 0) := by
                        obtain ⟨a', c', h1, h2, h3, -⟩ := HO3.out
                        injection h1 with e1 e2 e3
                        subst e1; subst e3
                        exact ⟨h2, h3⟩
                      have hcap3' := hcap3.1
                      have HC3 := hid hcap3.2
                      have HS3w := hid (HSB.out.below hb)
                      have HBw := hid (HB3'.out.trans (hb.mono HB3.out.size))
                      clear hkl hoth ho hs10 hn10 hcap3 hb
                      go_wp2_with fail
                      refine (lit_NormR a10 oth ys false _ c10 wr HRO.out HVO.out rfl hc10 HN10.out HS10.out ho64.out (by omega)).mono ?_
                      rintro e w11 ⟨a11, c11, rfl, ho11, hb11⟩
                      have HS11 := hid (OwnT.slv ho11)
                      have HS3x := hid (HS3w.out.below hb11)
                      have HBx := hid (HBw.out.trans (hb11.mono HBw.out.size))
                      clear ho11 hb11
                      go_wp2_with fail
                      refine (lit_NormR a3 ys ys false _ c3 w11 HRY.out HVY.out rfl hcap3' HC3.out HS3x.out HY64.out (by omega)).mono ?_
                      rintro e w12 ⟨a12, c12, rfl, ho12, hb12⟩
                      have HS12 := hid (OwnT.slv ho12)
                      have HS11' := hid (HS11.out.below hb12)
                      have HS3y := hid (HS3x.out.below hb12)
                      have HBy := hid (HBx.out.trans (hb12.mono HBx.out.size))
                      clear ho12 hb12
                      go_wp2_with fail
                      refine (kit_EqualIntsR a3 a11 ys ys _ c3 _ c11 true _ (eqI_self _) rfl rfl HS3y.out HS11'.out (by omega)).mono ?_
                      rintro e w6 ⟨rfl, n6, rfl⟩
                      go_wp2_with fail
                      refine (kit_EqualIntsR a3 a12 ys ys _ c3 _ c12 true _ (eqI_self _) rfl rfl (HS3y.out.drewN _) (HS12.out.drewN _) (by omega)).mono ?_
                      rintro e w6 ⟨rfl, n7, rfl⟩
                      go_wp2_with (go_at_call 30; refine (HK.out _).mono ?_; rintro e w' ⟨rfl, hb⟩)
                      go_ret
                      exact ⟨rfl, (by first | exact below_dr HBy.out _ | exact below_dr (below_dr HBy.out _) _ : Below w.heap.size w _).trans (hb.mono HBy.out.size)⟩
        | true =>
          go_wp2_with fail
          clear hj hlt
          go_loopw [10, 11] (fun v10 i wr => ∃ k : Nat, k ≤ x0.length ∧ i = .int .i64 k ∧ Hid (wr.ownsRow w3.heap.size 3 1 v10 (otherL x0 x1.toNat k).length (ints (otherL x0 x1.toNat k))) ∧ Below w3.heap.size (w3.drewN nd) wr) (fun _ i _ => x0.length - (intOf i).toNat)
          case atStart => exact ⟨0, Nat.zero_le _, rfl, World.ownsRow_nil _ _ _ _, Below.refl _ _⟩
          case round =>
            obtain ⟨k, hk, rfl, ho, hb⟩ := hrel
            have hbz := hb.size
            simp only [heap_dr] at hbz
            by_cases hlt : k < x0.length
            · obtain ⟨at0, hat⟩ : ∃ at0, at0 = (x0.length - 1 - k + x1.toNat) % x0.length := ⟨_, rfl⟩
              have hal : at0 < x0.length := hat ▸ Nat.mod_lt _ (by omega)
              have hae : ((x0.length : Int) - 1 - k + x1) % x0.length = (at0 : Int) := by
                rw [hat, Int.natCast_emod]; congr 1; omega
              obtain ⟨b, off, x, rfl, hc0, hx⟩ := HSA.out.int hal
              obtain ⟨b', off', y, hbb, hd0, hy⟩ := HSA.out.int hlt
              simp at hbb
              obtain ⟨rfl, rfl⟩ := hbb
              have hc := below_keeps hb _ _ hc0
              have hd := below_keeps hb _ _ hd0
              have HD0 := hid hd0
              clear hc0 hd0
              have hgx : x0.getD ((x0.length - 1 - k + x1.toNat) % x0.length) 0 = x := by rw [← hat, List.getD_eq_getElem?_getD, hx]; rfl
              have hgy : x0.getD k 0 = y := by rw [List.getD_eq_getElem?_getD, hy]; rfl
              have hlen := otherL_length x0 x1.toNat k
              have HSUC := hid (otherL_succ x0 x1.toNat k)
              have HGX := hid hgx
              have HGY := hid hgy
              obtain ⟨lo, hlo⟩ : ∃ lo, lo = otherL x0 x1.toNat k := ⟨_, rfl⟩
              rw [← hlo] at ho hlen
              have HLO := hid hlo
              have HOx := ho
              clear hat hx hy hgx hgy hlo ho
              by_cases h3 : k % 3 = 1
              · have h3' : ((k : Int) % 3 == 1) = true := by rw [beq_iff_eq]; omega
                have HE : Hid (otherL x0 x1.toNat (k + 1) = (lo ++ [x]) ++ [y]) := by
                  rw [HSUC.out, otherAt, HGX.out, HGY.out, if_pos h3, HLO.out]; simp [Hid]
                clear h3
                go_wp2_with (first
                  | (at_builtin; refine wpList_append_sl _ rfl (.tmp 116) (.tmp 121) 40 rfl w3.heap.size 3 i0 (.int .i64 0) 8 Try.underlying40 hi hz0 hz1 hz2 rfl _ _ _ rfl (HOx.out.alloc _) _ 1 _ [.int .i64 x] rfl (slv_new _ [.int .i64 x] _ _) rfl (by nofun) one_int (by unfold maxLen; omega) (by omega) (by simp only [size_al]; omega) ?_; intro v9 w9 ho9 hg9; have hb9 : Below w3.heap.size (w3.drewN nd) w9 := (below_al hb (by omega) _).grown hg9 (by simp only [size_al]; omega) (fun q hq => (HOx.out.lt q hq).1); have HO9 : Hid (w9.ownsRow w3.heap.size 3 1 v9 (lo ++ [x]).length (ints (lo ++ [x]))) := (by rw [ints_append, List.length_append]; exact ho9); have hz9 := hb9.size; simp only [heap_dr] at hz9; have hd9 := below_keeps hb9 _ _ HD0.out; have hl9 : (lo ++ [x]).length = lo.length + 1 := (by simp); have HL9 := hid hl9; clear ho9 hg9 hl9)
                  | (at_builtin; refine wpList_append_sl _ rfl (.tmp 126) (.tmp 131) 40 rfl w3.heap.size 3 i0 (.int .i64 0) 8 Try.underlying40 hi hz0 hz1 hz2 rfl _ _ _ rfl (HO9.out.alloc _) _ 1 _ [.int .i64 y] rfl (slv_new _ [.int .i64 y] _ _) rfl (by nofun) one_int (by unfold maxLen; have := HL9.out; omega) (by have := HL9.out; omega) (by simp only [size_al]; omega) ?_; intro v10 w10 ho10 hg10; have hb10 : Below w3.heap.size (w3.drewN nd) w10 := (below_al hb9 (by omega) _).grown hg10 (by simp only [size_al]; omega) (fun q hq => (HO9.out.lt q hq).1); have HO10 := hid ho10; clear ho10 hg10))
                go_roundw
                case rel => exact ⟨k + 1, by omega, by go_num, by rw [HE.out, ints_append, List.length_append]; exact HO10.out, hb10⟩
                case measure => simp [intOf]; omega
              · have h3' : ((k : Int) % 3 == 1) = false := by rw [beq_eq_false_iff_ne]; omega
                have HE : Hid (otherL x0 x1.toNat (k + 1) = lo ++ [x]) := by
                  rw [HSUC.out, otherAt, HGX.out, if_neg h3, HLO.out]; rfl
                clear h3
                go_wp2_with (at_builtin; refine wpList_append_sl _ rfl _ _ 40 rfl w3.heap.size 3 i0 (.int .i64 0) 8 Try.underlying40 hi hz0 hz1 hz2 rfl _ _ _ rfl (HOx.out.alloc _) _ 1 _ [.int .i64 x] rfl (slv_new _ [.int .i64 x] _ _) rfl (by nofun) one_int (by unfold maxLen; omega) (by omega) (by simp only [size_al]; omega) ?_; intro v9 w9 ho9 hg9; have hb9 : Below w3.heap.size (w3.drewN nd) w9 := (below_al hb (by omega) _).grown hg9 (by simp only [size_al]; omega) (fun q hq => (HOx.out.lt q hq).1); have HO9 := hid ho9; have hz9 := hb9.size; simp only [heap_dr] at hz9; clear ho9 hg9)
                go_wp2_with fail
                go_roundw
                case rel => exact ⟨k + 1, by omega, by go_num, by rw [HE.out, ints_append, List.length_append]; exact HO9.out, hb9⟩
                case measure => simp [intOf]; omega
            · have hkl : k = x0.length := by omega
              obtain ⟨oth, hoth⟩ : ∃ oth, oth = otherL x0 x1.toNat x0.length := ⟨_, rfl⟩
              rw [hkl, ← hoth] at ho
              have hol : oth.length ≤ 120 := by rw [hoth]; exact Nat.le_trans (otherL_length _ _ _) (by omega)
              have ho64 : Hid (∀ y ∈ oth, I64 y) := fun y hy => hx0.out y (mem_otherL_le (Nat.le_refl _) (hoth ▸ hy))
              have HRO : Hid (adjB (normL oth) = true) := by rw [hoth, normL_other]; exact HR
              have HVO : Hid (normV oth = ys) := by rw [hoth, normV_other]; exact HY
              obtain ⟨a10, c10, rfl, hc10, hn10, hs10⟩ := own_sli ho.out
              have HS10 := hid hs10
              have HN10 := hid hn10
              have HRY : Hid (adjB (normL ys) = false) := by rw [← HY.out]; exact adj_normV x0
              have HVY : Hid (normV ys = ys) := by rw [← HY.out]; exact normV_normV x0
              have hcap3 : ys.length ≤ c3 ∧ (a3 = none → c3 = 0) := by
                obtain ⟨a', c', h1, h2, h3, -⟩ := HO3.out
                injection h1 with e1 e2 e3
                subst e1; subst e3
                exact ⟨h2, h3⟩
              have hcap3' := hcap3.1
              have HC3 := hid hcap3.2
              have HS3w := hid (HSB.out.below hb)
              have HBw := hid (HB3'.out.trans (hb.mono HB3.out.size))
              clear hkl hoth ho hs10 hn10 hcap3 hb
              go_wp2_with fail
              refine (lit_NormR a10 oth ys true _ c10 wr HRO.out HVO.out rfl hc10 HN10.out HS10.out ho64.out (by omega)).mono ?_
              rintro e w11 ⟨a11, c11, rfl, ho11, hb11⟩
              have HS11 := hid (OwnT.slv ho11)
              have HS3x := hid (HS3w.out.below hb11)
              have HBx := hid (HBw.out.trans (hb11.mono HBw.out.size))
              clear ho11 hb11
              go_wp2_with fail
              refine (lit_NormR a3 ys ys false _ c3 w11 HRY.out HVY.out rfl hcap3' HC3.out HS3x.out HY64.out (by omega)).mono ?_
              rintro e w12 ⟨a12, c12, rfl, ho12, hb12⟩
              have HS12 := hid (OwnT.slv ho12)
              have HS11' := hid (HS11.out.below hb12)
              have HS3y := hid (HS3x.out.below hb12)
              have HBy := hid (HBx.out.trans (hb12.mono HBx.out.size))
              clear ho12 hb12
              go_wp2_with fail
              refine (kit_EqualIntsR a3 a11 ys ys _ c3 _ c11 true _ (eqI_self _) rfl rfl HS3y.out HS11'.out (by omega)).mono ?_
              rintro e w6 ⟨rfl, n6, rfl⟩
              go_wp2_with fail
              refine (kit_EqualIntsR a3 a12 ys ys _ c3 _ c12 true _ (eqI_self _) rfl rfl (HS3y.out.drewN _) (HS12.out.drewN _) (by omega)).mono ?_
              rintro e w6 ⟨rfl, n7, rfl⟩
              go_wp2_with (go_at_call 30; refine (HK.out _).mono ?_; rintro e w' ⟨rfl, hb⟩)
              go_ret
              exact ⟨rfl, (by first | exact below_dr HBy.out _ | exact below_dr (below_dr HBy.out _) _ : Below w.heap.size w _).trans (hb.mono HBy.out.size)⟩
  · go_enter Try.func12, Try.ntmps12
    go_wp2_with (go_at_call 30; refine (HK.out _).mono ?_; rintro e w' ⟨rfl, hb⟩)
    go_ret
    exact ⟨rfl, hb⟩

end Go.Proofs.Ytaekcejenagbgaa
