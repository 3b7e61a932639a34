/- The contracts of ref07's Has and Error. -/
import Derived.Test.YtfofabbnbmieoaaQ18
import Derived.Test.YtfofabbnbmieoaaQ1

namespace Go.Proofs.Ytfofabbnbmieoaa.Ord
open Go.RowKit Go.Conc

attribute [local go_sem ↓] Go.wp_at_zero Go.wp_at_succ
attribute [local go_sem ↓ high] app_mark

theorem badLit_of {n : Nat} {x : Int} (h : LitOk n x) : badLit n x = false := by
  unfold LitOk at h
  unfold badLit
  simp only [Bool.or_eq_false_iff, beq_eq_false_iff_ne, decide_eq_false_iff_not]
  omega

theorem ints_one (xs : List Int) : ∀ u ∈ ints xs, u.oneCell' = true := fun u hu => by
  unfold ints at hu
  obtain ⟨x, -, rfl⟩ := List.mem_map.1 hu
  rfl

theorem append_none0 {P : Program} {w : World} (t ty e : TypeId) (i : TypeInfo) (ht : P.underlying t = some (.slice e)) (hi : P.info? e = some i) (cu : Nat) : (appM #[t, t] ty #[.slice none 0 0, .slice none 0 cu]).run P w = .ok (.slice none 0 0) w := by
  unfold appM
  simp [Builtin.append_, run_underlying ht, sizeOf, typeInfo, hi, Builtin.lenOf, Builtin.firstCells]

/-- A copy of a row of ints. -/
theorem copy_app {B : Nat} {wy : World} {au : Option Addr} {U : List Int} {UL cu : Nat} (hs : SlV wy au (ints U)) (hUL : UL = U.length) (hl : UL ≤ 1048576) (hB : B ≤ wy.heap.size) : ∃ a2 c2 w10, (appM #[22, 22] 22 #[.slice none 0 0, .slice au UL cu]).run Try.prog wy = .ok (.slice a2 UL c2) w10 ∧ w10.ownsRow B 3 1 (.slice a2 UL c2) UL (ints U) ∧ Below wy.heap.size wy w10 := by
  obtain ⟨i0, hi0, hz0, hz1, hz2⟩ := info_parts info_int
  cases au with
  | none =>
    have hU : U = [] := by
      cases U with
      | nil => rfl
      | cons x t => obtain ⟨b, o, e, -⟩ := hs 0 (.int .i64 x) rfl; cases e
    subst hU
    subst hUL
    exact ⟨none, 0, wy, append_none0 _ _ 3 i0 Try.underlying22 hi0 cu, World.ownsRow_nil _ _ _ _, Below.refl _ _⟩
  | some ad =>
    subst hUL
    obtain ⟨a2, c2, w10, h1, h2, h3, -⟩ := appM_sl (P := Try.prog) wy B 22 22 3 i0 (.int .i64 0) 8 Try.underlying22 hi0 hz0 hz1 hz2 rfl (.slice none 0 0) 0 [] (World.ownsRow_nil _ _ _ _) (some ad) U.length cu (ints U) hs (by simp [ints]) nofun (ints_one U) (by unfold maxLen; omega) (by omega) hB
    simp only [Nat.zero_add, List.nil_append] at h1 h2
    exact ⟨a2, c2, w10, h1, h2, (Below.refl wy.heap.size wy).grown h3 (Nat.le_refl _) (fun q hq => by cases hq)⟩

set_option maxRecDepth 100000 in
set_option maxHeartbeats 8000000 in
theorem ref_Has (n : Nat) (acl : Option Addr) (F : List (List Int)) (mf cf : Nat) (hmf : mf = F.length) (hf : FOk F) (h0 : cnfCheck n F = 0) : ∀ (k : Nat) (aas : Option Addr) (A : List Int) (ma cas : Nat) (w : World), hasM n F A = k → ma = A.length → Rws w acl F → SlV w aas (ints A) → (∀ a ∈ A, LitOk n a) → A.length ≤ 2097152 →
    Calls Try.prog 34 #[.agg #[.int .i64 n, .slice acl mf cf], .slice aas ma cas] w fun e w' => e = .returned (.bool (hasAB n F A)) ∧ Below w.heap.size w w' := fun k => by
  subst hmf
  have h0' := h0
  obtain ⟨-, hn1, hFl, -, hCl⟩ := cnf_valid h0
  have hCl : ClsOk n F := hCl
  have HF := hid (And.intro hf (And.intro h0 (And.intro hn1 (And.intro hFl hCl))))
  clear hf h0 h0' hn1 hFl hCl
  induction k using Nat.strongRecOn with
  | ind k ih =>
    intro aas A ma cas w hk hma hr hs hA hAl
    subst hma
    have hbad : A.any (badLit n) = false := by
      rw [List.any_eq_false]
      intro x hx
      rw [badLit_of (hA x hx)]
      exact Bool.false_ne_true
    have hUV := unitsV_ok HF.out.2.1 hbad
    obtain ⟨U, hU⟩ : ∃ U, upL n F A = U := ⟨_, rfl⟩
    obtain ⟨fl, hfl⟩ : ∃ b, upF F A = b := ⟨_, rfl⟩
    rw [hU, hfl] at hUV
    obtain ⟨FL, hFL⟩ : ∃ t, F.length = t := ⟨_, rfl⟩
    have hbx : Below w.heap.size w (w.alloc (fbox n acl FL cf)) := box_below _ _
    have HRU := hid (ref_UnitsN n acl F FL cf aas A A.length cas U fl 0 (w.alloc (fbox n acl FL cf)) hUV hFL.symm rfl HF.out.1 (hr.below hbx) (hs.below hbx) (fun a ha => by have := hA a ha; unfold LitOk at this; unfold I64; have := HF.out.2.2.1; omega) (by have := HF.out.2.2.2.1; omega) (by omega))
    have HIH := hid ih
    have HA := hid (And.intro hk (And.intro hr (And.intro hA (And.intro hU hfl))))
    have HFL := hid hFL
    obtain ⟨w1, hw1⟩ : ∃ t, w.alloc (.cells #[.int .i64 n, .slice acl FL cf] 34 (0, 0)) = t := ⟨_, rfl⟩
    have hw1' : w.alloc (fbox n acl FL cf) = w1 := hw1
    have z0 : w1.heap[w.heap.size]? = some (fbox n acl FL cf) := by rw [← hw1']; exact heap_alloc_new _ _
    rw [hw1'] at HRU hbx
    have c0 : w1.cell? ⟨w.heap.size, 0, none⟩ = some (.int .i64 n) := fit_cell (vs := [.int .i64 n, .slice acl FL cf]) z0 0
    have c1 : w1.cell? ⟨w.heap.size, 1, none⟩ = some (.slice acl FL cf) := fit_cell (vs := [.int .i64 n, .slice acl FL cf]) z0 1
    have hs1 : w.heap.size < w1.heap.size := by rw [← hw1']; simp only [size_al]; omega
    have HB1 := hid (And.intro hbx (And.intro z0 hs1))
    rw [hFL]
    clear hk hr hs hA hAl hbad hUV hU hfl hbx z0 hs1 ih hw1' hFL
    go_enter Try.func34, Try.ntmps34
    go_wp2_with fail
    refine HRU.out.mono ?_
    rintro e w2 ⟨hb2, au, cu, rfl, hsU⟩
    have hb02 := HB1.out.1.trans (hb2.mono (Nat.le_of_lt HB1.out.2.2))
    have y0 : w2.heap[w.heap.size]? = some (fbox n acl FL cf) := (hb2.block _ HB1.out.2.2).trans HB1.out.2.1
    have d0 : w2.cell? ⟨w.heap.size, 0, none⟩ = some (.int .i64 n) := fit_cell (vs := [.int .i64 n, .slice acl FL cf]) y0 0
    have d1 : w2.cell? ⟨w.heap.size, 1, none⟩ = some (.slice acl FL cf) := fit_cell (vs := [.int .i64 n, .slice acl FL cf]) y0 1
    have HB2 := hid (And.intro hb02 (And.intro y0 (And.intro hsU (by have := hb2.size; have := HB1.out.2.2; omega : w.heap.size < w2.heap.size))))
    clear hb2 hb02 y0 hsU c0 c1 hw1 HRU
    cases fl with
    | true =>
      have hno : hasAB n F A = false := hasAB_false.2 (has_fails HA.out.2.2.2.2)
      have HNO := hid hno
      clear hno
      go_wp2_with fail
      go_ret
      exact ⟨by rw [HNO.out]; rfl, HB2.out.1⟩
    | false =>
      have hup := up_k HF.out.2.2.2.2 HA.out.2.2.1 HA.out.2.2.2.2
      rw [HA.out.2.2.2.1] at hup
      have hlen := hup.len
      obtain ⟨UL, hUL⟩ : ∃ t, U.length = t := ⟨_, rfl⟩
      rw [hUL] at hlen ⊢
      have HUP := hid (And.intro hup hUL)
      have hn1 := HF.out.2.2.1
      clear hup hUL
      by_cases hfull : UL = n
      · have hyes : hasAB n F A = true := hasAB_true.2 (has_full HF.out.2.2.2.2 HA.out.2.2.1 HA.out.2.2.2.2 (by rw [HA.out.2.2.2.1, HUP.out.2]; exact hfull))
        have HYES := hid hyes
        have he : ((UL : Int) == n) = true := beq_iff_eq.2 (by omega)
        clear hyes hfull
        go_wp2_with fail
        go_ret
        exact ⟨by rw [HYES.out]; rfl, HB2.out.1⟩
      · have he : ((UL : Int) == n) = false := beq_false_of_ne (by omega)
        have hlt : UL < n := by omega
        clear hfull
        go_wp2_with fail
        go_loopw [8, 9] (fun s8 s9 wr => ∃ i : Nat, s8 = .int .i64 ((i : Int) + 1) ∧ s9 = .int .i64 i ∧ i ≤ UL ∧ Hid (Pfx U i) ∧ ∃ q, wr = w2.drewN q) (fun _ s9 _ => (UL - intOf s9).toNat)
        case atStart => exact ⟨0, rfl, rfl, Nat.zero_le _, hid (fun t x ht => by omega), 0, rfl⟩
        case round =>
          clear d0 d1
          obtain ⟨i, rfl, rfl, hiU, HPX, q, rfl⟩ := hrel
          have hi0 : (0 : Int) ≤ i := by omega
          have hwv : IntKind.i64.wrap ((i : Int) + 1) = (i : Int) + 1 := IntWalk.i64_in _ (by omega)
          have hwv2 : IntKind.i64.wrap ((i : Int) + 1 + 1) = (i : Int) + 1 + 1 := IntWalk.i64_in _ (by omega)
          by_cases hlt2 : i < UL
          · have hlti : (i : Int) < UL := by omega
            obtain ⟨x, hx⟩ : ∃ x, U[i]? = some x := ⟨_, List.getElem?_eq_getElem (by have := HUP.out.2; omega)⟩
            have hxo := HUP.out.1.kok x (List.mem_of_getElem? hx)
            obtain ⟨bu, ou, rfl, hcx⟩ := HB2.out.2.2.1 i (.int .i64 x) (by unfold ints; rw [List.getElem?_map, hx]; rfl)
            have hcx : (w2.drewN q).cell? ⟨bu, ou + i, none⟩ = some (.int .i64 x) := hcx
            have hwx : IntKind.i64.wrap (-x) = -x := IntWalk.i64_in _ (by unfold LitOk at hxo; omega)
            by_cases hx1 : x.natAbs = i + 1
            · have hmx : max x (-x) = (i : Int) + 1 := by omega
              have hmx2 : (max x (-x) == (i : Int) + 1) = true := beq_iff_eq.2 hmx
              have HPN : Hid (Pfx U (i + 1)) := hid fun t z ht hz => by
                rcases Nat.lt_or_ge t i with h1 | h1
                · exact HPX.out t z h1 hz
                · have e : t = i := by omega
                  subst e
                  rw [hx] at hz
                  injection hz with hz
                  rw [← hz]; exact hx1
              clear hx hxo hx1 hmx
              go_wp2_with fail
              go_quiet (fail)
              go_wp2_with fail
              go_roundw
              case rel => exact ⟨i + 1, by simp, by simp, by omega, HPN, _, rfl⟩
              case measure => simp [intOf]; omega
            · have hmx : ¬ max x (-x) = (i : Int) + 1 := by omega
              have hmx2 : (max x (-x) == (i : Int) + 1) = false := beq_false_of_ne hmx
              have HFR : Hid (∀ y ∈ U, y.natAbs ≠ i + 1) := hid (HUP.out.1.free HPX.out fun z hz => by
                rw [hx] at hz
                injection hz with hz
                rw [← hz]; exact hx1)
              clear hx hxo hx1 hmx
              go_wp2_with fail
              go_quiet (fail)
              go_wp2_with fail
              have hbz : Below w2.heap.size w2 ((w2.drewN q).drewN nq) := below_dr (below_dr (Below.refl _ _) q) nq
              generalize (w2.drewN q).drewN nq = wz at hbz ⊢
              have hin : i + 1 ≤ n := by omega
              have hzs := hbz.size
              have s0 : ∀ {wx : World}, Below w2.heap.size w2 wx → wx.cell? ⟨w.heap.size, 0, none⟩ = some (.int .i64 n) ∧ wx.cell? ⟨w.heap.size, 1, none⟩ = some (.slice acl FL cf) := fun {wx} h => by
                have y := (h.block _ HB2.out.2.2.2).trans HB2.out.2.1
                exact ⟨fit_cell (vs := [.int .i64 n, .slice acl FL cf]) y 0, fit_cell (vs := [.int .i64 n, .slice acl FL cf]) y 1⟩
              have HS0 := hid fun (wx : World) (h : Below w2.heap.size w2 wx) => s0 h
              have hIH : ∀ (z : Int) (az : Option Addr) (cz : Nat) (wx : World), z.natAbs = i + 1 → Below w2.heap.size w2 wx → SlV wx az (ints (U ++ [z])) → Calls Try.prog 34 #[.agg #[.int .i64 n, .slice acl FL cf], .slice az (UL + 1) cz] wx fun e w' => e = .returned (.bool (hasAB n F (U ++ [z]))) ∧ Below wx.heap.size wx w' := fun z az cz wx hz hb hs => by
                have hzo : LitOk n z := by unfold LitOk; omega
                have hlt9 := hasM_lt (v := i + 1) HF.out.2.2.2.2 HA.out.2.2.1 HA.out.2.2.2.2 hz hzo (by rw [HA.out.2.2.2.1]; exact HFR.out)
                rw [HA.out.2.2.2.1, HA.out.1] at hlt9
                have h9 := HIH.out _ hlt9 az (U ++ [z]) (UL + 1) cz wx rfl (by simp [HUP.out.2]) (HA.out.2.1.below (HB2.out.1.trans (hb.mono (by have := HB2.out.2.2.2; omega)))) hs (fun a ha => by
                  rcases List.mem_append.1 ha with q | q
                  · exact HUP.out.1.kok a q
                  · rw [List.mem_singleton.1 q]; exact hzo) (by simp [HUP.out.2]; omega)
                rw [HFL.out] at h9
                exact h9
              have HI := hid hIH
              have hsp : hasAB n F A = (hasAB n F (U ++ [((i + 1 : Nat) : Int)]) || hasAB n F (U ++ [-((i + 1 : Nat) : Int)])) := by
                have h1 := has_split (v := i + 1) HF.out.2.2.2.2 HA.out.2.2.1 HA.out.2.2.2.2 (by omega) hin
                rw [HA.out.2.2.2.1] at h1
                rw [Bool.eq_iff_iff, Bool.or_eq_true, hasAB_true, hasAB_true, hasAB_true]
                exact h1
              have HSP := hid hsp
              have hsz : SlV wz (some ⟨bu, ou, none⟩) (ints U) := HB2.out.2.2.1.below hbz
              obtain ⟨i0, hi0, hz0, hz1, hz2⟩ := info_parts info_int
              have two : ∀ (wy : World) (z : Int), Below wz.heap.size wz wy → (∃ a2 c2 w10, (appM #[22, 22] 22 #[.slice none 0 0, .slice (some ⟨bu, ou, none⟩) UL cu]).run Try.prog wy = .ok (.slice a2 UL c2) w10 ∧ w10.ownsRow wz.heap.size 3 1 (.slice a2 UL c2) UL (ints U) ∧ Below wz.heap.size wz w10 ∧ Below wy.heap.size wy w10) := fun wy z hby => by
                obtain ⟨a2, c2, w10, h1, h2, h3⟩ := copy_app (cu := cu) (hsz.below hby) HUP.out.2.symm (by omega) hby.size
                exact ⟨a2, c2, w10, h1, h2, hby.trans (h3.mono hby.size), h3⟩
              have HTW := hid two
              have app : ∀ (wy : World) (a2 : Option Addr) (c2 g : Nat) (z : Int), Below wz.heap.size wz wy → wy.ownsRow wz.heap.size 3 1 (.slice a2 UL c2) UL (ints U) → wy.heap[g]? = some (.cells #[.int .i64 z] 3 (0, 0)) → ∃ a12 c12 w12, (appM #[22, 22] 22 #[.slice a2 UL c2, .slice (some ⟨g, 0, none⟩) 1 1]).run Try.prog wy = .ok (.slice a12 (UL + 1) c12) w12 ∧ SlV w12 a12 (ints (U ++ [z])) ∧ Below wz.heap.size wz w12 := fun wy a2 c2 g z hby ho hg => by
                obtain ⟨a12, c12, w12, h1, h2, h3, -⟩ := appM_one (P := Try.prog) wy wz.heap.size 22 22 3 i0 (.int .i64 0) 8 Try.underlying22 hi0 hz0 hz1 hz2 rfl (.slice a2 UL c2) UL (ints U) ho g (.int .i64 z) hg rfl (by unfold maxLen; omega) (by omega) hby.size
                refine ⟨a12, c12, w12, h1, ?_, hby.grown h3 hby.size fun q hq => (ho.lt q hq).1⟩
                have h4 := own_slv h2
                have e : ints U ++ [.int .i64 z] = ints (U ++ [z]) := by simp [ints]
                rw [e] at h4
                exact h4
              have HAP := hid app
              have e1 : (i : Int) + 1 = ((i + 1 : Nat) : Int) := by omega
              rw [e1]
              obtain ⟨vi, hvi⟩ : ∃ t, i + 1 = t := ⟨_, rfl⟩
              rw [hvi] at HI HSP ⊢
              have hvn : IntKind.i64.wrap (-(vi : Int)) = -(vi : Int) := IntWalk.i64_in _ (by omega)
              have HVI := hid (show ∀ z : Int, z.natAbs = vi → z.natAbs = vi from fun _ h => h)
              clear hsp hIH two app s0 hsz hin hi0 hz0 hz1 hz2 e1 hvi hmx2 hwv hwv2
              obtain ⟨b0, b1⟩ := HS0.out wz hbz
              refine wp_region_R (fun yw => yw.cell? ⟨w.heap.size, 0, none⟩ = some (.int .i64 n) ∧ yw.cell? ⟨w.heap.size, 1, none⟩ = some (.slice acl FL cf)) [] (by kernel_rfl) ?_
              have hHeld : (fun yw : World => yw.cell? ⟨w.heap.size, 0, none⟩ = some (.int .i64 n) ∧ yw.cell? ⟨w.heap.size, 1, none⟩ = some (.slice acl FL cf)) wz.drew := ⟨b0, b1⟩
              refine wpR.take 0 rfl (by kernel_rfl) (fun _ _ _ h => h) (by rfl) (v := ?_) ?_ (by assumption) ?_
              rotate_left 1
              · (intro wx hSw; (try dsimp only at hSw); go_simp; try with_reducible rfl)
              try simp only [Act.put, List.setIfInBounds_toArray, List.set_cons_zero, List.set_cons_succ]
              refine wpR.pure 1 rfl (by kernel_rfl) (fun _ _ _ h => h) (by rfl) (v := ?_) ?_ ?_
              rotate_left 1
              · (intro wx _; go_simp; try with_reducible rfl)
              try simp only [Act.put, List.setIfInBounds_toArray, List.set_cons_zero, List.set_cons_succ]
              refine wpR.pure 3 rfl (by kernel_rfl) (fun _ _ _ h => h) (by rfl) (v := ?_) ?_ ?_
              rotate_left 1
              · (intro wx _; go_simp; try with_reducible rfl)
              try simp only [Act.put, List.setIfInBounds_toArray, List.set_cons_zero, List.set_cons_succ]
              obtain ⟨aA, cA, wA, hA1, hA2, hA3, hA4⟩ := HTW.out wz.drew vi (Below.refl wz.heap.size wz).drew
              obtain ⟨aB, cB, wB, hB1, hB2, hB3, hB4⟩ := HTW.out (wz.alloc (.cells #[.int .i64 (vi : Int)] 3 (0, 0))).drew vi (box_below wz _).drew
              have HXA := hid (And.intro hA2 (And.intro hA3 hA4))
              have HXB := hid (And.intro hB2 (And.intro hB3 hB4))
              clear hA2 hA3 hA4 hB2 hB3 hB4
              refine wpR.two 2 4 (fun v u w' => ∃ a2 c2 g, v = .slice a2 UL c2 ∧ u = .slice (some ⟨g, 0, none⟩) 1 1 ∧ w'.ownsRow wz.heap.size 3 1 (.slice a2 UL c2) UL (ints U) ∧ w'.heap[g]? = some (.cells #[.int .i64 (vi : Int)] 3 (0, 0)) ∧ Below wz.heap.size wz w') rfl rfl (by kernel_rfl) (by kernel_rfl) (by kernel_rfl) (by kernel_rfl) (by kernel_rfl) (by rfl) (by rfl) ?ordA ?ordB ?cont
              case ordA =>
                refine ⟨.slice aA UL cA, wA, .slice (some ⟨wA.heap.size, 0, none⟩) 1 1, wA.alloc (.cells #[.int .i64 (vi : Int)] 3 (0, 0)), ?_, ?_, ⟨aA, cA, wA.heap.size, rfl, rfl, HXA.out.1.alloc _, heap_alloc_new _ _, below_al HXA.out.2.1 HXA.out.2.1.size _⟩, fun _ => HS0.out _ (hbz.trans (HXA.out.2.1.mono hzs)), fun _ => HS0.out _ (hbz.trans ((below_al HXA.out.2.1 HXA.out.2.1.size _).mono hzs))⟩
                · go_simp
                · go_simp
              case ordB =>
                refine ⟨.slice (some ⟨wz.heap.size, 0, none⟩) 1 1, (wz.alloc (.cells #[.int .i64 (vi : Int)] 3 (0, 0))).drew, .slice aB UL cB, wB, ?_, ?_, ⟨aB, cB, wz.heap.size, rfl, rfl, HXB.out.1, (HXB.out.2.2.block _ (by show wz.heap.size < (wz.alloc _).heap.size; simp only [size_al]; omega)).trans (heap_alloc_new wz _), HXB.out.2.1⟩, fun _ => HS0.out _ (hbz.trans ((box_below wz _).drew.mono hzs)), fun _ => HS0.out _ (hbz.trans (HXB.out.2.1.mono hzs))⟩
                · go_simp
                  try rfl
                · go_simp
              case cont =>
                rintro v u wc ⟨a2, c2, g, rfl, rfl, hoc, hgc, hbc⟩
                simp only [Act.put, List.setIfInBounds_toArray, List.set_cons_zero, List.set_cons_succ]
                obtain ⟨a12, c12, w12, hr12, hs12, hb12⟩ := HAP.out wc a2 c2 g (vi : Int) hbc hoc hgc
                have HX2 := hid (And.intro hs12 hb12)
                have hHeld1 := HS0.out _ (hbz.trans (hb12.mono hzs))
                clear hoc hgc hs12 hb12 hA1 hB1
                refine wpR.one 5 rfl (by kernel_rfl) (by rfl) (v := ?_) (w' := ?_) ?_ ?_ ?_
                rotate_left 2
                · (go_simp; first | done | with_reducible rfl | (refine ⟨?_, ?_⟩ <;> with_reducible rfl))
                · (intro _; exact hHeld1)
                try simp only [Act.put, List.setIfInBounds_toArray, List.set_cons_zero, List.set_cons_succ]
                refine wpR.enter 6 rfl (by kernel_rfl) (by rfl) (f := ?_) (args := ?_) ?_ ?_
                rotate_left 2
                · (go_simp; first | done | with_reducible rfl | (refine ⟨?_, ?_⟩ <;> with_reducible rfl))
                refine (HI.out (vi : Int) a12 c12 w12 (by omega) (hbz.trans (HX2.out.2.mono hzs)) HX2.out.1).mono ?_
                rintro e w13 ⟨rfl, hb13⟩
                have HB13 := hid hb13
                have hbz13 : Below w2.heap.size w2 w13 := (hbz.trans (HX2.out.2.mono hzs)).trans (hb13.mono (Nat.le_trans hzs HX2.out.2.size))
                refine ⟨_, rfl, fun _ => HS0.out _ hbz13, ?_⟩
                try simp only [Act.put, List.setIfInBounds_toArray, List.set_cons_zero, List.set_cons_succ]
                obtain ⟨r1, hr1⟩ : ∃ t, hasAB n F (U ++ [(vi : Int)]) = t := ⟨_, rfl⟩
                rw [hr1]
                have HR1 := hid hr1
                clear hr12 hbc hb13 hHeld1 hr1 hHeld
                have hHeld := HS0.out _ hbz13
                cases r1 with
                | true =>
                  refine wpR.pure 7 rfl (by kernel_rfl) (fun _ _ _ h => h) (by rfl) (v := ?_) ?_ ?_
                  rotate_left 1
                  · (intro wx _; go_simp; try with_reducible rfl)
                  try simp only [Act.put, List.setIfInBounds_toArray, List.set_cons_zero, List.set_cons_succ]
                  refine wpR.pass 8 rfl (by kernel_rfl) (fun _ _ _ h => h) (by rfl) (by assumption) ?_
                  try simp only [Act.put, List.setIfInBounds_toArray, List.set_cons_zero, List.set_cons_succ]
                  refine wpR.pass 9 rfl (by kernel_rfl) (fun _ _ _ h => h) (by rfl) (by assumption) ?_
                  try simp only [Act.put, List.setIfInBounds_toArray, List.set_cons_zero, List.set_cons_succ]
                  refine wpR.pass 10 rfl (by kernel_rfl) (fun _ _ _ h => h) (by rfl) (by assumption) ?_
                  try simp only [Act.put, List.setIfInBounds_toArray, List.set_cons_zero, List.set_cons_succ]
                  refine wpR.pass 11 rfl (by kernel_rfl) (fun _ _ _ h => h) (by rfl) (by assumption) ?_
                  try simp only [Act.put, List.setIfInBounds_toArray, List.set_cons_zero, List.set_cons_succ]
                  refine wpR.pass 12 rfl (by kernel_rfl) (fun _ _ _ h => h) (by rfl) (by assumption) ?_
                  try simp only [Act.put, List.setIfInBounds_toArray, List.set_cons_zero, List.set_cons_succ]
                  refine wpR.pass 13 rfl (by kernel_rfl) (fun _ _ _ h => h) (by rfl) (by assumption) ?_
                  try simp only [Act.put, List.setIfInBounds_toArray, List.set_cons_zero, List.set_cons_succ]
                  refine wpR.pass 14 rfl (by kernel_rfl) (fun _ _ _ h => h) (by rfl) (by assumption) ?_
                  try simp only [Act.put, List.setIfInBounds_toArray, List.set_cons_zero, List.set_cons_succ]
                  refine wpR.pass 15 rfl (by kernel_rfl) (fun _ _ _ h => h) (by rfl) (by assumption) ?_
                  try simp only [Act.put, List.setIfInBounds_toArray, List.set_cons_zero, List.set_cons_succ]
                  refine wpR.pure 16 rfl (by kernel_rfl) (fun _ _ _ h => h) (by rfl) (v := ?_) ?_ ?_
                  rotate_left 1
                  · (intro wx _; go_simp; try with_reducible rfl)
                  try simp only [Act.put, List.setIfInBounds_toArray, List.set_cons_zero, List.set_cons_succ]
                  refine wpR.pure 17 rfl (by kernel_rfl) (fun _ _ _ h => h) (by rfl) (v := ?_) ?_ ?_
                  rotate_left 1
                  · (intro wx _; go_simp; try with_reducible rfl)
                  try simp only [Act.put, List.setIfInBounds_toArray, List.set_cons_zero, List.set_cons_succ]
                  refine wpR.done (by kernel_rfl) ?_
                  go_wp2_with fail
                  go_ret
                  exact ⟨by rw [HSP.out, HR1.out]; rfl, HB2.out.1.trans (hbz13.mono (by have := HB2.out.2.2.2; omega))⟩
                | false =>
                  refine wpR.pure 7 rfl (by kernel_rfl) (fun _ _ _ h => h) (by rfl) (v := ?_) ?_ ?_
                  rotate_left 1
                  · (intro wx _; go_simp; try with_reducible rfl)
                  try simp only [Act.put, List.setIfInBounds_toArray, List.set_cons_zero, List.set_cons_succ]
                  refine wpR.take 8 rfl (by kernel_rfl) (fun _ _ _ h => h) (by rfl) (v := ?_) ?_ (by assumption) ?_
                  rotate_left 1
                  · (intro wx hSw; (try dsimp only at hSw); go_simp; try with_reducible rfl)
                  try simp only [Act.put, List.setIfInBounds_toArray, List.set_cons_zero, List.set_cons_succ]
                  refine wpR.pure 9 rfl (by kernel_rfl) (fun _ _ _ h => h) (by rfl) (v := ?_) ?_ ?_
                  rotate_left 1
                  · (intro wx _; go_simp; try with_reducible rfl)
                  try simp only [Act.put, List.setIfInBounds_toArray, List.set_cons_zero, List.set_cons_succ]
                  refine wpR.pure 11 rfl (by kernel_rfl) (fun _ _ _ h => h) (by rfl) (v := ?_) ?_ ?_
                  rotate_left 1
                  · (intro wx _; go_simp; try with_reducible rfl)
                  try simp only [Act.put, List.setIfInBounds_toArray, List.set_cons_zero, List.set_cons_succ]
                  refine wpR.pure 12 rfl (by kernel_rfl) (fun _ _ _ h => h) (by rfl) (v := ?_) ?_ ?_
                  rotate_left 1
                  · (intro wx _; go_simp; try with_reducible rfl)
                  try simp only [Act.put, List.setIfInBounds_toArray, List.set_cons_zero, List.set_cons_succ]
                  have hz13 := hbz13.size
                  have hbc13 : Below wz.heap.size wz w13 := HX2.out.2.trans (HB13.out.mono HX2.out.2.size)
                  obtain ⟨aA', cA', wA', hA1', hA2', hA3', hA4'⟩ := HTW.out w13 vi hbc13
                  obtain ⟨aB', cB', wB', hB1', hB2', hB3', hB4'⟩ := HTW.out (w13.alloc (.cells #[.int .i64 (-(vi : Int))] 3 (0, 0))) vi (below_al hbc13 hbc13.size _)
                  have HXA' := hid (And.intro hA2' (And.intro hA3' hA4'))
                  have HXB' := hid (And.intro hB2' (And.intro hB3' hB4'))
                  clear hA2' hA3' hA4' hB2' hB3' hB4'
                  refine wpR.two 10 13 (fun v u w' => ∃ a2 c2 g, v = .slice a2 UL c2 ∧ u = .slice (some ⟨g, 0, none⟩) 1 1 ∧ w'.ownsRow wz.heap.size 3 1 (.slice a2 UL c2) UL (ints U) ∧ w'.heap[g]? = some (.cells #[.int .i64 (-(vi : Int))] 3 (0, 0)) ∧ Below wz.heap.size wz w') rfl rfl (by kernel_rfl) (by kernel_rfl) (by kernel_rfl) (by kernel_rfl) (by kernel_rfl) (by rfl) (by rfl) ?ordA2 ?ordB2 ?cont2
                  case ordA2 =>
                    refine ⟨.slice aA' UL cA', wA', .slice (some ⟨wA'.heap.size, 0, none⟩) 1 1, wA'.alloc (.cells #[.int .i64 (-(vi : Int))] 3 (0, 0)), ?_, ?_, ⟨aA', cA', wA'.heap.size, rfl, rfl, HXA'.out.1.alloc _, heap_alloc_new _ _, below_al HXA'.out.2.1 HXA'.out.2.1.size _⟩, fun _ => HS0.out _ (hbz.trans (HXA'.out.2.1.mono hzs)), fun _ => HS0.out _ (hbz.trans ((below_al HXA'.out.2.1 HXA'.out.2.1.size _).mono hzs))⟩
                    · go_simp
                    · go_simp
                  case ordB2 =>
                    refine ⟨.slice (some ⟨w13.heap.size, 0, none⟩) 1 1, (w13.alloc (.cells #[.int .i64 (-(vi : Int))] 3 (0, 0))), .slice aB' UL cB', wB', ?_, ?_, ⟨aB', cB', w13.heap.size, rfl, rfl, HXB'.out.1, (HXB'.out.2.2.block _ (by simp only [size_al]; omega)).trans (heap_alloc_new w13 _), HXB'.out.2.1⟩, fun _ => HS0.out _ (hbz.trans ((below_al hbc13 hbc13.size _).mono hzs)), fun _ => HS0.out _ (hbz.trans (HXB'.out.2.1.mono hzs))⟩
                    · go_simp
                    · go_simp
                  case cont2 =>
                    rintro v u wd ⟨a3, c3, g3, rfl, rfl, hoc, hgc, hbc⟩
                    simp only [Act.put, List.setIfInBounds_toArray, List.set_cons_zero, List.set_cons_succ]
                    obtain ⟨a13, c13, w14, hr12, hs12, hb12⟩ := HAP.out wd a3 c3 g3 (-(vi : Int)) hbc hoc hgc
                    have HX3 := hid (And.intro hs12 hb12)
                    have hHeld2 := HS0.out _ (hbz.trans (hb12.mono hzs))
                    clear hoc hgc hs12 hb12 hA1' hB1'
                    refine wpR.one 14 rfl (by kernel_rfl) (by rfl) (v := ?_) (w' := ?_) ?_ ?_ ?_
                    rotate_left 2
                    · (go_simp; first | done | with_reducible rfl | (refine ⟨?_, ?_⟩ <;> with_reducible rfl))
                    · (intro _; exact hHeld2)
                    try simp only [Act.put, List.setIfInBounds_toArray, List.set_cons_zero, List.set_cons_succ]
                    refine wpR.enter 15 rfl (by kernel_rfl) (by rfl) (f := ?_) (args := ?_) ?_ ?_
                    rotate_left 2
                    · (go_simp; first | done | with_reducible rfl | (refine ⟨?_, ?_⟩ <;> with_reducible rfl))
                    refine (HI.out (-(vi : Int)) a13 c13 w14 (by omega) (hbz.trans (HX3.out.2.mono hzs)) HX3.out.1).mono ?_
                    rintro e w15 ⟨rfl, hb15⟩
                    have hbz15 : Below w2.heap.size w2 w15 := (hbz.trans (HX3.out.2.mono hzs)).trans (hb15.mono (Nat.le_trans hzs HX3.out.2.size))
                    refine ⟨_, rfl, fun _ => HS0.out _ hbz15, ?_⟩
                    try simp only [Act.put, List.setIfInBounds_toArray, List.set_cons_zero, List.set_cons_succ]
                    obtain ⟨r2, hr2⟩ : ∃ t, hasAB n F (U ++ [-(vi : Int)]) = t := ⟨_, rfl⟩
                    rw [hr2]
                    have HR2 := hid hr2
                    clear hr12 hbc hb15 hr2
                    refine wpR.pure 16 rfl (by kernel_rfl) (fun _ _ _ h => h) (by rfl) (v := ?_) ?_ ?_
                    rotate_left 1
                    · (intro wx _; go_simp; try with_reducible rfl)
                    try simp only [Act.put, List.setIfInBounds_toArray, List.set_cons_zero, List.set_cons_succ]
                    refine wpR.pure 17 rfl (by kernel_rfl) (fun _ _ _ h => h) (by rfl) (v := ?_) ?_ ?_
                    rotate_left 1
                    · (intro wx _; go_simp; try with_reducible rfl)
                    try simp only [Act.put, List.setIfInBounds_toArray, List.set_cons_zero, List.set_cons_succ]
                    refine wpR.done (by kernel_rfl) ?_
                    go_wp2_with fail
                    go_ret
                    exact ⟨by rw [HSP.out, HR1.out, HR2.out]; simp, HB2.out.1.trans (hbz15.mono (by have := HB2.out.2.2.2; omega))⟩
          · have hiU2 : i = UL := by omega
            have hlti : decide ((i : Int) < (UL : Int)) = false := decide_eq_false (by omega)
            have HFR : Hid (∀ y ∈ U, y.natAbs ≠ i + 1) := hid (HUP.out.1.free HPX.out fun z hz => by
              have := (List.getElem?_eq_some_iff.1 hz).1
              have := HUP.out.2
              omega)
            have hlt3 : decide (i < UL) = false := decide_eq_false hlt2
            clear hiU2
            go_wp2_with fail
            refine wp_region_R (fun _ => True) [] (by kernel_rfl) ?_
            have hT : (fun _ : World => True) (w2.drewN q).drew := trivial
            refine wpR.pure 0 rfl (by kernel_rfl) (fun _ _ _ h => h) (by rfl) (v := ?_) ?_ ?_
            rotate_left 1
            · (intro wx _; go_simp; try with_reducible rfl)
            try simp only [Act.put, List.setIfInBounds_toArray, List.set_cons_zero, List.set_cons_succ]
            refine wpR.pure 1 rfl (by kernel_rfl) (fun _ _ _ h => h) (by rfl) (v := ?_) ?_ ?_
            rotate_left 1
            · (intro wx _; go_simp; try with_reducible rfl)
            try simp only [Act.put, List.setIfInBounds_toArray, List.set_cons_zero, List.set_cons_succ]
            refine wpR.pure 2 rfl (by kernel_rfl) (fun _ _ _ h => h) (by rfl) (v := ?_) ?_ ?_
            rotate_left 1
            · (intro wx _; go_simp; try with_reducible rfl)
            try simp only [Act.put, List.setIfInBounds_toArray, List.set_cons_zero, List.set_cons_succ]
            refine wpR.pure 3 rfl (by kernel_rfl) (fun _ _ _ h => h) (by rfl) (v := ?_) ?_ ?_
            rotate_left 1
            · (intro wx _; go_simp; try with_reducible rfl)
            try simp only [Act.put, List.setIfInBounds_toArray, List.set_cons_zero, List.set_cons_succ]
            refine wpR.pure 4 rfl (by kernel_rfl) (fun _ _ _ h => h) (by rfl) (v := ?_) ?_ ?_
            rotate_left 1
            · (intro wx _; go_simp; try with_reducible rfl)
            try simp only [Act.put, List.setIfInBounds_toArray, List.set_cons_zero, List.set_cons_succ]
            refine wpR.pass 5 rfl (by kernel_rfl) (fun _ _ _ h => h) (by rfl) (by assumption) ?_
            try simp only [Act.put, List.setIfInBounds_toArray, List.set_cons_zero, List.set_cons_succ]
            refine wpR.pass 6 rfl (by kernel_rfl) (fun _ _ _ h => h) (by rfl) (by assumption) ?_
            try simp only [Act.put, List.setIfInBounds_toArray, List.set_cons_zero, List.set_cons_succ]
            refine wpR.pass 7 rfl (by kernel_rfl) (fun _ _ _ h => h) (by rfl) (by assumption) ?_
            try simp only [Act.put, List.setIfInBounds_toArray, List.set_cons_zero, List.set_cons_succ]
            refine wpR.pass 8 rfl (by kernel_rfl) (fun _ _ _ h => h) (by rfl) (by assumption) ?_
            try simp only [Act.put, List.setIfInBounds_toArray, List.set_cons_zero, List.set_cons_succ]
            refine wpR.pass 9 rfl (by kernel_rfl) (fun _ _ _ h => h) (by rfl) (by assumption) ?_
            try simp only [Act.put, List.setIfInBounds_toArray, List.set_cons_zero, List.set_cons_succ]
            refine wpR.pass 10 rfl (by kernel_rfl) (fun _ _ _ h => h) (by rfl) (by assumption) ?_
            try simp only [Act.put, List.setIfInBounds_toArray, List.set_cons_zero, List.set_cons_succ]
            refine wpR.pass 11 rfl (by kernel_rfl) (fun _ _ _ h => h) (by rfl) (by assumption) ?_
            try simp only [Act.put, List.setIfInBounds_toArray, List.set_cons_zero, List.set_cons_succ]
            refine wpR.pass 12 rfl (by kernel_rfl) (fun _ _ _ h => h) (by rfl) (by assumption) ?_
            try simp only [Act.put, List.setIfInBounds_toArray, List.set_cons_zero, List.set_cons_succ]
            refine wpR.pass 13 rfl (by kernel_rfl) (fun _ _ _ h => h) (by rfl) (by assumption) ?_
            try simp only [Act.put, List.setIfInBounds_toArray, List.set_cons_zero, List.set_cons_succ]
            refine wpR.pass 14 rfl (by kernel_rfl) (fun _ _ _ h => h) (by rfl) (by assumption) ?_
            try simp only [Act.put, List.setIfInBounds_toArray, List.set_cons_zero, List.set_cons_succ]
            refine wpR.pass 15 rfl (by kernel_rfl) (fun _ _ _ h => h) (by rfl) (by assumption) ?_
            try simp only [Act.put, List.setIfInBounds_toArray, List.set_cons_zero, List.set_cons_succ]
            refine wpR.pass 16 rfl (by kernel_rfl) (fun _ _ _ h => h) (by rfl) (by assumption) ?_
            try simp only [Act.put, List.setIfInBounds_toArray, List.set_cons_zero, List.set_cons_succ]
            refine wpR.pure 17 rfl (by kernel_rfl) (fun _ _ _ h => h) (by rfl) (v := ?_) ?_ ?_
            rotate_left 1
            · (intro wx _; go_simp; try with_reducible rfl)
            try simp only [Act.put, List.setIfInBounds_toArray, List.set_cons_zero, List.set_cons_succ]
            refine wpR.done (by kernel_rfl) ?_
            clear hT
            have hbz : Below w2.heap.size w2 (w2.drewN q).drew := (below_dr (Below.refl _ _) q).drew
            generalize (w2.drewN q).drew = wz at hbz ⊢
            go_wp2_with fail
            have hin : i + 1 ≤ n := by omega
            have hzs := hbz.size
            have s0 : ∀ {wx : World}, Below w2.heap.size w2 wx → wx.cell? ⟨w.heap.size, 0, none⟩ = some (.int .i64 n) ∧ wx.cell? ⟨w.heap.size, 1, none⟩ = some (.slice acl FL cf) := fun {wx} h => by
              have y := (h.block _ HB2.out.2.2.2).trans HB2.out.2.1
              exact ⟨fit_cell (vs := [.int .i64 n, .slice acl FL cf]) y 0, fit_cell (vs := [.int .i64 n, .slice acl FL cf]) y 1⟩
            have HS0 := hid fun (wx : World) (h : Below w2.heap.size w2 wx) => s0 h
            have hIH : ∀ (z : Int) (az : Option Addr) (cz : Nat) (wx : World), z.natAbs = i + 1 → Below w2.heap.size w2 wx → SlV wx az (ints (U ++ [z])) → Calls Try.prog 34 #[.agg #[.int .i64 n, .slice acl FL cf], .slice az (UL + 1) cz] wx fun e w' => e = .returned (.bool (hasAB n F (U ++ [z]))) ∧ Below wx.heap.size wx w' := fun z az cz wx hz hb hs => by
              have hzo : LitOk n z := by unfold LitOk; omega
              have hlt9 := hasM_lt (v := i + 1) HF.out.2.2.2.2 HA.out.2.2.1 HA.out.2.2.2.2 hz hzo (by rw [HA.out.2.2.2.1]; exact HFR.out)
              rw [HA.out.2.2.2.1, HA.out.1] at hlt9
              have h9 := HIH.out _ hlt9 az (U ++ [z]) (UL + 1) cz wx rfl (by simp [HUP.out.2]) (HA.out.2.1.below (HB2.out.1.trans (hb.mono (by have := HB2.out.2.2.2; omega)))) hs (fun a ha => by
                rcases List.mem_append.1 ha with q | q
                · exact HUP.out.1.kok a q
                · rw [List.mem_singleton.1 q]; exact hzo) (by simp [HUP.out.2]; omega)
              rw [HFL.out] at h9
              exact h9
            have HI := hid hIH
            have hsp : hasAB n F A = (hasAB n F (U ++ [((i + 1 : Nat) : Int)]) || hasAB n F (U ++ [-((i + 1 : Nat) : Int)])) := by
              have h1 := has_split (v := i + 1) HF.out.2.2.2.2 HA.out.2.2.1 HA.out.2.2.2.2 (by omega) hin
              rw [HA.out.2.2.2.1] at h1
              rw [Bool.eq_iff_iff, Bool.or_eq_true, hasAB_true, hasAB_true, hasAB_true]
              exact h1
            have HSP := hid hsp
            have hsz : SlV wz au (ints U) := HB2.out.2.2.1.below hbz
            obtain ⟨i0, hi0, hz0, hz1, hz2⟩ := info_parts info_int
            have two : ∀ (wy : World) (z : Int), Below wz.heap.size wz wy → (∃ a2 c2 w10, (appM #[22, 22] 22 #[.slice none 0 0, .slice au UL cu]).run Try.prog wy = .ok (.slice a2 UL c2) w10 ∧ w10.ownsRow wz.heap.size 3 1 (.slice a2 UL c2) UL (ints U) ∧ Below wz.heap.size wz w10 ∧ Below wy.heap.size wy w10) := fun wy z hby => by
              obtain ⟨a2, c2, w10, h1, h2, h3⟩ := copy_app (cu := cu) (hsz.below hby) HUP.out.2.symm (by omega) hby.size
              exact ⟨a2, c2, w10, h1, h2, hby.trans (h3.mono hby.size), h3⟩
            have HTW := hid two
            have app : ∀ (wy : World) (a2 : Option Addr) (c2 g : Nat) (z : Int), Below wz.heap.size wz wy → wy.ownsRow wz.heap.size 3 1 (.slice a2 UL c2) UL (ints U) → wy.heap[g]? = some (.cells #[.int .i64 z] 3 (0, 0)) → ∃ a12 c12 w12, (appM #[22, 22] 22 #[.slice a2 UL c2, .slice (some ⟨g, 0, none⟩) 1 1]).run Try.prog wy = .ok (.slice a12 (UL + 1) c12) w12 ∧ SlV w12 a12 (ints (U ++ [z])) ∧ Below wz.heap.size wz w12 := fun wy a2 c2 g z hby ho hg => by
              obtain ⟨a12, c12, w12, h1, h2, h3, -⟩ := appM_one (P := Try.prog) wy wz.heap.size 22 22 3 i0 (.int .i64 0) 8 Try.underlying22 hi0 hz0 hz1 hz2 rfl (.slice a2 UL c2) UL (ints U) ho g (.int .i64 z) hg rfl (by unfold maxLen; omega) (by omega) hby.size
              refine ⟨a12, c12, w12, h1, ?_, hby.grown h3 hby.size fun q hq => (ho.lt q hq).1⟩
              have h4 := own_slv h2
              have e : ints U ++ [.int .i64 z] = ints (U ++ [z]) := by simp [ints]
              rw [e] at h4
              exact h4
            have HAP := hid app
            have e1 : (i : Int) + 1 = ((i + 1 : Nat) : Int) := by omega
            rw [e1]
            obtain ⟨vi, hvi⟩ : ∃ t, i + 1 = t := ⟨_, rfl⟩
            rw [hvi] at HI HSP ⊢
            have hvn : IntKind.i64.wrap (-(vi : Int)) = -(vi : Int) := IntWalk.i64_in _ (by omega)
            have HVI := hid (show ∀ z : Int, z.natAbs = vi → z.natAbs = vi from fun _ h => h)
            clear hsp hIH two app s0 hsz hin hi0 hz0 hz1 hz2 e1 hvi hwv hwv2
            obtain ⟨b0, b1⟩ := HS0.out wz hbz
            refine wp_region_R (fun yw => yw.cell? ⟨w.heap.size, 0, none⟩ = some (.int .i64 n) ∧ yw.cell? ⟨w.heap.size, 1, none⟩ = some (.slice acl FL cf)) [] (by kernel_rfl) ?_
            have hHeld : (fun yw : World => yw.cell? ⟨w.heap.size, 0, none⟩ = some (.int .i64 n) ∧ yw.cell? ⟨w.heap.size, 1, none⟩ = some (.slice acl FL cf)) wz.drew := ⟨b0, b1⟩
            refine wpR.take 0 rfl (by kernel_rfl) (fun _ _ _ h => h) (by rfl) (v := ?_) ?_ (by assumption) ?_
            rotate_left 1
            · (intro wx hSw; (try dsimp only at hSw); go_simp; try with_reducible rfl)
            try simp only [Act.put, List.setIfInBounds_toArray, List.set_cons_zero, List.set_cons_succ]
            refine wpR.pure 1 rfl (by kernel_rfl) (fun _ _ _ h => h) (by rfl) (v := ?_) ?_ ?_
            rotate_left 1
            · (intro wx _; go_simp; try with_reducible rfl)
            try simp only [Act.put, List.setIfInBounds_toArray, List.set_cons_zero, List.set_cons_succ]
            refine wpR.pure 3 rfl (by kernel_rfl) (fun _ _ _ h => h) (by rfl) (v := ?_) ?_ ?_
            rotate_left 1
            · (intro wx _; go_simp; try with_reducible rfl)
            try simp only [Act.put, List.setIfInBounds_toArray, List.set_cons_zero, List.set_cons_succ]
            obtain ⟨aA, cA, wA, hA1, hA2, hA3, hA4⟩ := HTW.out wz.drew vi (Below.refl wz.heap.size wz).drew
            obtain ⟨aB, cB, wB, hB1, hB2, hB3, hB4⟩ := HTW.out (wz.alloc (.cells #[.int .i64 (vi : Int)] 3 (0, 0))).drew vi (box_below wz _).drew
            have HXA := hid (And.intro hA2 (And.intro hA3 hA4))
            have HXB := hid (And.intro hB2 (And.intro hB3 hB4))
            clear hA2 hA3 hA4 hB2 hB3 hB4
            refine wpR.two 2 4 (fun v u w' => ∃ a2 c2 g, v = .slice a2 UL c2 ∧ u = .slice (some ⟨g, 0, none⟩) 1 1 ∧ w'.ownsRow wz.heap.size 3 1 (.slice a2 UL c2) UL (ints U) ∧ w'.heap[g]? = some (.cells #[.int .i64 (vi : Int)] 3 (0, 0)) ∧ Below wz.heap.size wz w') rfl rfl (by kernel_rfl) (by kernel_rfl) (by kernel_rfl) (by kernel_rfl) (by kernel_rfl) (by rfl) (by rfl) ?ordA ?ordB ?cont
            case ordA =>
              refine ⟨.slice aA UL cA, wA, .slice (some ⟨wA.heap.size, 0, none⟩) 1 1, wA.alloc (.cells #[.int .i64 (vi : Int)] 3 (0, 0)), ?_, ?_, ⟨aA, cA, wA.heap.size, rfl, rfl, HXA.out.1.alloc _, heap_alloc_new _ _, below_al HXA.out.2.1 HXA.out.2.1.size _⟩, fun _ => HS0.out _ (hbz.trans (HXA.out.2.1.mono hzs)), fun _ => HS0.out _ (hbz.trans ((below_al HXA.out.2.1 HXA.out.2.1.size _).mono hzs))⟩
              · go_simp
              · go_simp
            case ordB =>
              refine ⟨.slice (some ⟨wz.heap.size, 0, none⟩) 1 1, (wz.alloc (.cells #[.int .i64 (vi : Int)] 3 (0, 0))).drew, .slice aB UL cB, wB, ?_, ?_, ⟨aB, cB, wz.heap.size, rfl, rfl, HXB.out.1, (HXB.out.2.2.block _ (by show wz.heap.size < (wz.alloc _).heap.size; simp only [size_al]; omega)).trans (heap_alloc_new wz _), HXB.out.2.1⟩, fun _ => HS0.out _ (hbz.trans ((box_below wz _).drew.mono hzs)), fun _ => HS0.out _ (hbz.trans (HXB.out.2.1.mono hzs))⟩
              · go_simp
                try rfl
              · go_simp
            case cont =>
              rintro v u wc ⟨a2, c2, g, rfl, rfl, hoc, hgc, hbc⟩
              simp only [Act.put, List.setIfInBounds_toArray, List.set_cons_zero, List.set_cons_succ]
              obtain ⟨a12, c12, w12, hr12, hs12, hb12⟩ := HAP.out wc a2 c2 g (vi : Int) hbc hoc hgc
              have HX2 := hid (And.intro hs12 hb12)
              have hHeld1 := HS0.out _ (hbz.trans (hb12.mono hzs))
              clear hoc hgc hs12 hb12 hA1 hB1
              refine wpR.one 5 rfl (by kernel_rfl) (by rfl) (v := ?_) (w' := ?_) ?_ ?_ ?_
              rotate_left 2
              · (go_simp; first | done | with_reducible rfl | (refine ⟨?_, ?_⟩ <;> with_reducible rfl))
              · (intro _; exact hHeld1)
              try simp only [Act.put, List.setIfInBounds_toArray, List.set_cons_zero, List.set_cons_succ]
              refine wpR.enter 6 rfl (by kernel_rfl) (by rfl) (f := ?_) (args := ?_) ?_ ?_
              rotate_left 2
              · (go_simp; first | done | with_reducible rfl | (refine ⟨?_, ?_⟩ <;> with_reducible rfl))
              refine (HI.out (vi : Int) a12 c12 w12 (by omega) (hbz.trans (HX2.out.2.mono hzs)) HX2.out.1).mono ?_
              rintro e w13 ⟨rfl, hb13⟩
              have HB13 := hid hb13
              have hbz13 : Below w2.heap.size w2 w13 := (hbz.trans (HX2.out.2.mono hzs)).trans (hb13.mono (Nat.le_trans hzs HX2.out.2.size))
              refine ⟨_, rfl, fun _ => HS0.out _ hbz13, ?_⟩
              try simp only [Act.put, List.setIfInBounds_toArray, List.set_cons_zero, List.set_cons_succ]
              obtain ⟨r1, hr1⟩ : ∃ t, hasAB n F (U ++ [(vi : Int)]) = t := ⟨_, rfl⟩
              rw [hr1]
              have HR1 := hid hr1
              clear hr12 hbc hb13 hHeld1 hr1 hHeld
              have hHeld := HS0.out _ hbz13
              cases r1 with
              | true =>
                refine wpR.pure 7 rfl (by kernel_rfl) (fun _ _ _ h => h) (by rfl) (v := ?_) ?_ ?_
                rotate_left 1
                · (intro wx _; go_simp; try with_reducible rfl)
                try simp only [Act.put, List.setIfInBounds_toArray, List.set_cons_zero, List.set_cons_succ]
                refine wpR.pass 8 rfl (by kernel_rfl) (fun _ _ _ h => h) (by rfl) (by assumption) ?_
                try simp only [Act.put, List.setIfInBounds_toArray, List.set_cons_zero, List.set_cons_succ]
                refine wpR.pass 9 rfl (by kernel_rfl) (fun _ _ _ h => h) (by rfl) (by assumption) ?_
                try simp only [Act.put, List.setIfInBounds_toArray, List.set_cons_zero, List.set_cons_succ]
                refine wpR.pass 10 rfl (by kernel_rfl) (fun _ _ _ h => h) (by rfl) (by assumption) ?_
                try simp only [Act.put, List.setIfInBounds_toArray, List.set_cons_zero, List.set_cons_succ]
                refine wpR.pass 11 rfl (by kernel_rfl) (fun _ _ _ h => h) (by rfl) (by assumption) ?_
                try simp only [Act.put, List.setIfInBounds_toArray, List.set_cons_zero, List.set_cons_succ]
                refine wpR.pass 12 rfl (by kernel_rfl) (fun _ _ _ h => h) (by rfl) (by assumption) ?_
                try simp only [Act.put, List.setIfInBounds_toArray, List.set_cons_zero, List.set_cons_succ]
                refine wpR.pass 13 rfl (by kernel_rfl) (fun _ _ _ h => h) (by rfl) (by assumption) ?_
                try simp only [Act.put, List.setIfInBounds_toArray, List.set_cons_zero, List.set_cons_succ]
                refine wpR.pass 14 rfl (by kernel_rfl) (fun _ _ _ h => h) (by rfl) (by assumption) ?_
                try simp only [Act.put, List.setIfInBounds_toArray, List.set_cons_zero, List.set_cons_succ]
                refine wpR.pass 15 rfl (by kernel_rfl) (fun _ _ _ h => h) (by rfl) (by assumption) ?_
                try simp only [Act.put, List.setIfInBounds_toArray, List.set_cons_zero, List.set_cons_succ]
                refine wpR.pure 16 rfl (by kernel_rfl) (fun _ _ _ h => h) (by rfl) (v := ?_) ?_ ?_
                rotate_left 1
                · (intro wx _; go_simp; try with_reducible rfl)
                try simp only [Act.put, List.setIfInBounds_toArray, List.set_cons_zero, List.set_cons_succ]
                refine wpR.pure 17 rfl (by kernel_rfl) (fun _ _ _ h => h) (by rfl) (v := ?_) ?_ ?_
                rotate_left 1
                · (intro wx _; go_simp; try with_reducible rfl)
                try simp only [Act.put, List.setIfInBounds_toArray, List.set_cons_zero, List.set_cons_succ]
                refine wpR.done (by kernel_rfl) ?_
                go_wp2_with fail
                go_ret
                exact ⟨by rw [HSP.out, HR1.out]; rfl, HB2.out.1.trans (hbz13.mono (by have := HB2.out.2.2.2; omega))⟩
              | false =>
                refine wpR.pure 7 rfl (by kernel_rfl) (fun _ _ _ h => h) (by rfl) (v := ?_) ?_ ?_
                rotate_left 1
                · (intro wx _; go_simp; try with_reducible rfl)
                try simp only [Act.put, List.setIfInBounds_toArray, List.set_cons_zero, List.set_cons_succ]
                refine wpR.take 8 rfl (by kernel_rfl) (fun _ _ _ h => h) (by rfl) (v := ?_) ?_ (by assumption) ?_
                rotate_left 1
                · (intro wx hSw; (try dsimp only at hSw); go_simp; try with_reducible rfl)
                try simp only [Act.put, List.setIfInBounds_toArray, List.set_cons_zero, List.set_cons_succ]
                refine wpR.pure 9 rfl (by kernel_rfl) (fun _ _ _ h => h) (by rfl) (v := ?_) ?_ ?_
                rotate_left 1
                · (intro wx _; go_simp; try with_reducible rfl)
                try simp only [Act.put, List.setIfInBounds_toArray, List.set_cons_zero, List.set_cons_succ]
                refine wpR.pure 11 rfl (by kernel_rfl) (fun _ _ _ h => h) (by rfl) (v := ?_) ?_ ?_
                rotate_left 1
                · (intro wx _; go_simp; try with_reducible rfl)
                try simp only [Act.put, List.setIfInBounds_toArray, List.set_cons_zero, List.set_cons_succ]
                refine wpR.pure 12 rfl (by kernel_rfl) (fun _ _ _ h => h) (by rfl) (v := ?_) ?_ ?_
                rotate_left 1
                · (intro wx _; go_simp; try with_reducible rfl)
                try simp only [Act.put, List.setIfInBounds_toArray, List.set_cons_zero, List.set_cons_succ]
                have hz13 := hbz13.size
                have hbc13 : Below wz.heap.size wz w13 := HX2.out.2.trans (HB13.out.mono HX2.out.2.size)
                obtain ⟨aA', cA', wA', hA1', hA2', hA3', hA4'⟩ := HTW.out w13 vi hbc13
                obtain ⟨aB', cB', wB', hB1', hB2', hB3', hB4'⟩ := HTW.out (w13.alloc (.cells #[.int .i64 (-(vi : Int))] 3 (0, 0))) vi (below_al hbc13 hbc13.size _)
                have HXA' := hid (And.intro hA2' (And.intro hA3' hA4'))
                have HXB' := hid (And.intro hB2' (And.intro hB3' hB4'))
                clear hA2' hA3' hA4' hB2' hB3' hB4'
                refine wpR.two 10 13 (fun v u w' => ∃ a2 c2 g, v = .slice a2 UL c2 ∧ u = .slice (some ⟨g, 0, none⟩) 1 1 ∧ w'.ownsRow wz.heap.size 3 1 (.slice a2 UL c2) UL (ints U) ∧ w'.heap[g]? = some (.cells #[.int .i64 (-(vi : Int))] 3 (0, 0)) ∧ Below wz.heap.size wz w') rfl rfl (by kernel_rfl) (by kernel_rfl) (by kernel_rfl) (by kernel_rfl) (by kernel_rfl) (by rfl) (by rfl) ?ordA2 ?ordB2 ?cont2
                case ordA2 =>
                  refine ⟨.slice aA' UL cA', wA', .slice (some ⟨wA'.heap.size, 0, none⟩) 1 1, wA'.alloc (.cells #[.int .i64 (-(vi : Int))] 3 (0, 0)), ?_, ?_, ⟨aA', cA', wA'.heap.size, rfl, rfl, HXA'.out.1.alloc _, heap_alloc_new _ _, below_al HXA'.out.2.1 HXA'.out.2.1.size _⟩, fun _ => HS0.out _ (hbz.trans (HXA'.out.2.1.mono hzs)), fun _ => HS0.out _ (hbz.trans ((below_al HXA'.out.2.1 HXA'.out.2.1.size _).mono hzs))⟩
                  · go_simp
                  · go_simp
                case ordB2 =>
                  refine ⟨.slice (some ⟨w13.heap.size, 0, none⟩) 1 1, (w13.alloc (.cells #[.int .i64 (-(vi : Int))] 3 (0, 0))), .slice aB' UL cB', wB', ?_, ?_, ⟨aB', cB', w13.heap.size, rfl, rfl, HXB'.out.1, (HXB'.out.2.2.block _ (by simp only [size_al]; omega)).trans (heap_alloc_new w13 _), HXB'.out.2.1⟩, fun _ => HS0.out _ (hbz.trans ((below_al hbc13 hbc13.size _).mono hzs)), fun _ => HS0.out _ (hbz.trans (HXB'.out.2.1.mono hzs))⟩
                  · go_simp
                  · go_simp
                case cont2 =>
                  rintro v u wd ⟨a3, c3, g3, rfl, rfl, hoc, hgc, hbc⟩
                  simp only [Act.put, List.setIfInBounds_toArray, List.set_cons_zero, List.set_cons_succ]
                  obtain ⟨a13, c13, w14, hr12, hs12, hb12⟩ := HAP.out wd a3 c3 g3 (-(vi : Int)) hbc hoc hgc
                  have HX3 := hid (And.intro hs12 hb12)
                  have hHeld2 := HS0.out _ (hbz.trans (hb12.mono hzs))
                  clear hoc hgc hs12 hb12 hA1' hB1'
                  refine wpR.one 14 rfl (by kernel_rfl) (by rfl) (v := ?_) (w' := ?_) ?_ ?_ ?_
                  rotate_left 2
                  · (go_simp; first | done | with_reducible rfl | (refine ⟨?_, ?_⟩ <;> with_reducible rfl))
                  · (intro _; exact hHeld2)
                  try simp only [Act.put, List.setIfInBounds_toArray, List.set_cons_zero, List.set_cons_succ]
                  refine wpR.enter 15 rfl (by kernel_rfl) (by rfl) (f := ?_) (args := ?_) ?_ ?_
                  rotate_left 2
                  · (go_simp; first | done | with_reducible rfl | (refine ⟨?_, ?_⟩ <;> with_reducible rfl))
                  refine (HI.out (-(vi : Int)) a13 c13 w14 (by omega) (hbz.trans (HX3.out.2.mono hzs)) HX3.out.1).mono ?_
                  rintro e w15 ⟨rfl, hb15⟩
                  have hbz15 : Below w2.heap.size w2 w15 := (hbz.trans (HX3.out.2.mono hzs)).trans (hb15.mono (Nat.le_trans hzs HX3.out.2.size))
                  refine ⟨_, rfl, fun _ => HS0.out _ hbz15, ?_⟩
                  try simp only [Act.put, List.setIfInBounds_toArray, List.set_cons_zero, List.set_cons_succ]
                  obtain ⟨r2, hr2⟩ : ∃ t, hasAB n F (U ++ [-(vi : Int)]) = t := ⟨_, rfl⟩
                  rw [hr2]
                  have HR2 := hid hr2
                  clear hr12 hbc hb15 hr2
                  refine wpR.pure 16 rfl (by kernel_rfl) (fun _ _ _ h => h) (by rfl) (v := ?_) ?_ ?_
                  rotate_left 1
                  · (intro wx _; go_simp; try with_reducible rfl)
                  try simp only [Act.put, List.setIfInBounds_toArray, List.set_cons_zero, List.set_cons_succ]
                  refine wpR.pure 17 rfl (by kernel_rfl) (fun _ _ _ h => h) (by rfl) (v := ?_) ?_ ?_
                  rotate_left 1
                  · (intro wx _; go_simp; try with_reducible rfl)
                  try simp only [Act.put, List.setIfInBounds_toArray, List.set_cons_zero, List.set_cons_succ]
                  refine wpR.done (by kernel_rfl) ?_
                  go_wp2_with fail
                  go_ret
                  exact ⟨by rw [HSP.out, HR1.out, HR2.out]; simp, HB2.out.1.trans (hbz15.mono (by have := HB2.out.2.2.2; omega))⟩

end Go.Proofs.Ytfofabbnbmieoaa.Ord
