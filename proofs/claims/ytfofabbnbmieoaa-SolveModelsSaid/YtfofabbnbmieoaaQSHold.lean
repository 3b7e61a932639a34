/- weepholelaw07.holds. -/
import Derived.Test.YtfofabbnbmieoaaQSMis
import Derived.Test.YtfofabbnbmieoaaQ19

namespace Go.Proofs.Ytfofabbnbmieoaa.Ord
open Go.RowKit

attribute [local go_sem ↓] Go.wp_at_zero Go.wp_at_succ
attribute [local go_sem ↓ high] app_mark

set_option maxRecDepth 100000 in
set_option maxHeartbeats 4000000 in
theorem law07_holds (n : Nat) (acl : Option Addr) (F : List (List Int)) (mf cf : Nat) (am : Option Addr) (M : List Bool) (ml cm : Nat) (r : Bool) (w : World) (hr : (F.all fun c => holdsB M c) = r) (hmf : mf = F.length) (hml : ml = M.length) (hM : M.length = n) (hn : n ≤ 25) (hF : ClsOk n F) (hf : FOk F) (hrw : Rws w acl F) (hm : SlV w am (bools M)) (hFl : mf ≤ 1048576) :
    Calls Try.prog 37 #[.agg #[.int .i64 n, .slice acl mf cf], .slice am ml cm] w fun e w' => e = .returned (.bool r) ∧ Below w.heap.size w w' := by
  obtain ⟨w1, hw1⟩ : ∃ t, w.alloc (.cells #[.int .i64 n, .slice acl mf cf] 34 (0, 0)) = t := ⟨_, rfl⟩
  obtain ⟨hb1, hs1, z1⟩ := box1 w _ hw1
  have c1 := fun i => cell_of_row w1 w.heap.size i _ _ _ z1
  have HB := hid hb1
  have HR := hid (hrw.below hb1)
  have HM := hid (hm.below hb1)
  have HF := hid (And.intro hF (And.intro hf (And.intro hmf (And.intro hml (And.intro hM (And.intro hn hr))))))
  clear hb1 hs1 z1 hrw hm hF hf hmf hml hM hn hr
  go_enter Try.func37, Try.ntmps37
  go_wp2_with fail
  go_loopw [5] (fun s5 wl => ∃ i : Nat, s5 = .int .i64 i ∧ i ≤ mf ∧ wl = w1 ∧ Hid (∀ c ∈ F.take i, holdsB M c = true)) (fun s5 _ => (mf - intOf s5).toNat)
  case atStart => exact ⟨0, rfl, Nat.zero_le _, rfl, hid (by simp)⟩
  case round =>
    obtain ⟨i, rfl, him, rfl, HS⟩ := hrel
    have hi0 : (0 : Int) ≤ i := by omega
    have hwi : IntKind.i64.wrap ((i : Int) + 1) = (i : Int) + 1 := IntWalk.i64_in _ (by omega)
    by_cases hlt : i < mf
    · have hlti : (i : Int) < mf := by omega
      obtain ⟨b, off, c, a', c', ha, hcell, hsl, hFi, hx64, hcl, hcc, hc0⟩ := HR.out.row HF.out.2.1 (k := i) (by have := HF.out.2.2.1; omega)
      subst ha
      obtain ⟨CL, hCL⟩ : ∃ t, c.length = t := ⟨_, rfl⟩
      rw [hCL] at hcell hcl
      have HC := hid (And.intro hFi (And.intro hsl (And.intro hCL hcl)))
      clear hsl hFi hx64 hcl hcc hc0 hCL
      go_wp2_with fail
      go_loopw [6, 7] (fun s6 s7 wm => ∃ (k : Nat) (y : Bool), s6 = .bool y ∧ s7 = .int .i64 k ∧ k ≤ CL ∧ wm = wr ∧ Hid ((c.take k).any (litHolds M) = y)) (fun _ s7 _ => (CL - intOf s7).toNat)
      case atStart => exact ⟨0, false, rfl, rfl, Nat.zero_le _, rfl, hid rfl⟩
      case round =>
        obtain ⟨k, y, rfl, rfl, hkC, rfl, HY⟩ := hrel
        have hk0 : (0 : Int) ≤ k := by omega
        by_cases hlt2 : k < CL
        · have hlt2i : (k : Int) < CL := by omega
          have hwk : IntKind.i64.wrap ((k : Int) + 1) = (k : Int) + 1 := IntWalk.i64_in _ (by have := HC.out.2.2.2; omega)
          obtain ⟨x, hx⟩ : ∃ x, c[k]? = some x := ⟨_, List.getElem?_eq_getElem (by have := HC.out.2.2.1; omega)⟩
          have hxo : LitOk n x := HF.out.1 c (List.mem_of_getElem? HC.out.1) x (List.mem_of_getElem? hx)
          have hxr := abs_range hxo
          obtain ⟨b1, o1, ha1, hcx⟩ := HC.out.2.1 k (.int .i64 x) (by unfold ints; rw [List.getElem?_map, hx]; rfl)
          subst ha1
          have htk : (c.take (k + 1)).any (litHolds M) = (y || litHolds M x) := by rw [List.take_add_one, hx, List.any_append, HY.out]; simp
          have HTK := hid htk
          cases y with
          | true =>
            clear htk hx hxo hxr
            go_wp2_with fail
            go_roundw
            case rel => exact ⟨k + 1, true, by simp, by simp, by omega, by simp, hid (by rw [HTK.out]; rfl)⟩
            case measure => simp [intOf]; omega
          | false =>
            have hn25 : n ≤ 25 := HF.out.2.2.2.2.2.1
            obtain ⟨vn, hvn⟩ : ∃ t : Nat, x.natAbs = t := ⟨_, rfl⟩
            have hmx : max x (-x) = (vn : Int) := by omega
            have hwx : IntKind.i64.wrap (-x) = -x := IntWalk.i64_in _ (by omega)
            obtain ⟨V1, hV1⟩ : ∃ t : Nat, vn - 1 = t := ⟨_, rfl⟩
            have hv1 : IntKind.i64.wrap ((vn : Int) - 1) = (V1 : Int) := (IntWalk.i64_in _ (by omega)).trans (by omega)
            have hMn : M.length = n := HF.out.2.2.2.2.1
            have hmlM : ml = M.length := HF.out.2.2.2.1
            have hVl : V1 < ml := by omega
            have hVli : (V1 : Int) < ml := by omega
            have hV0 : (0 : Int) ≤ V1 := by omega
            obtain ⟨mb, hmb⟩ : ∃ mb, M[V1]? = some mb := ⟨_, List.getElem?_eq_getElem (by omega)⟩
            obtain ⟨b2, o2, ha2, hcm⟩ := HM.out V1 (.bool mb) (by unfold bools; rw [List.getElem?_map, hmb]; rfl)
            subst ha2
            have hlit : litHolds M x = (mb == decide (0 < x)) := litHolds_in (x := mb) (by omega) (by rw [hvn, hV1]; exact hmb)
            have HL := hid hlit
            clear htk hx hxo hxr hvn hV1 hMn hmlM hmb hlit hn25
            go_wp2_with fail
            go_roundw
            case rel => exact ⟨k + 1, (mb == decide (0 < x)), by simp, by simp, by omega, by simp, hid (by rw [HTK.out, HL.out]; rfl)⟩
            case measure => simp [intOf]; omega
        · have hke : k = CL := by omega
          subst hke
          have hlt2i : ¬ (k : Int) < k := by omega
          have hall : c.take k = c := List.take_of_length_le (by have := HC.out.2.2.1; omega)
          have HH : Hid (holdsB M c = y) := hid (by have := HY.out; rw [hall] at this; exact this)
          clear hall
          cases y with
          | true =>
            go_wp2_with fail
            go_roundw
            case rel => exact ⟨i + 1, by simp, by omega, by simp, hid fun d hd => by
              rw [List.take_add_one, HC.out.1] at hd
              rcases List.mem_append.1 hd with q | q
              · exact HS.out d q
              · have : d = c := by simpa using q
                rw [this]; exact HH.out⟩
            case measure => simp [intOf]; omega
          | false =>
            have HRF : Hid (r = false) := hid (by
              rw [← HF.out.2.2.2.2.2.2]
              cases hq : (F.all fun c => holdsB M c) with
              | false => rfl
              | true =>
                have := List.all_eq_true.1 hq c (List.mem_of_getElem? HC.out.1)
                rw [HH.out] at this
                exact this.symm)
            go_wp2_with fail
            go_ret
            exact ⟨by rw [HRF.out]; rfl, HB.out⟩
    · have hie : i = mf := by omega
      subst hie
      have hlti : ¬ (i : Int) < i := by omega
      have HRT : Hid (r = true) := hid (by
        rw [← HF.out.2.2.2.2.2.2, List.all_eq_true]
        intro c hc
        have h := HS.out
        rw [List.take_of_length_le (by have := HF.out.2.2.1; omega)] at h
        exact h c hc)
      go_wp2_with fail
      go_ret
      exact ⟨by rw [HRT.out]; rfl, HB.out⟩

end Go.Proofs.Ytfofabbnbmieoaa.Ord
