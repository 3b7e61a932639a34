/- The contracts of cnf.First and the reference's Check and First of layer 2. -/
import Derived.Test.YtfgaglgaofceiaaCnfA
namespace Go.Proofs.Ytfgaglgaofceiaa
open Go.RowKit

theorem cnfFirst_err {n e : Int} {f : List (List Int)} {m : List Bool} (h : cnfCheck n f = e) (h0 : (e != 0) = true) : cnfFirst n f m = (0, e) := by
  have : e ≠ 0 := by simpa using h0
  unfold cnfFirst; rw [if_pos (by rw [h]; exact this), h]
theorem cnfFirst_arg {n : Int} {f : List (List Int)} {m : List Bool} (h : cnfCheck n f = 0) (h0 : ((m.length : Int) != n) = true) : cnfFirst n f m = (0, 2) := by
  unfold cnfFirst; rw [if_neg (by simp [h]), if_pos (by simpa using h0)]
theorem cnfFirst_idx {n : Int} {f : List (List Int)} {m : List Bool} (h : cnfCheck n f = 0) (h0 : ((m.length : Int) != n) = false) : cnfFirst n f m = (firstIdx m f, 0) := by
  unfold cnfFirst; rw [if_neg (by simp [h]), if_neg (by simpa using h0)]

theorem cnf_CheckR (n : Int) (a : Option Addr) (f : List (List Int)) (m c : Nat) (e : Int) (w : World) (he : cnfCheck n f = e) (hm : m = f.length) (hf : FOk f) (hr : Rws w a f) (hl : f.length ≤ 9223372036854775807) :
    Calls Try.prog 21 #[.agg #[.int .i64 n, .slice a m c]] w fun x w' => x = .returned (.int .i64 e) ∧ w.alloc (fbox n a m c) = w' := he ▸ cnf_Check n a f m c w hm hf hr hl

set_option maxHeartbeats 1000000 in
theorem cnf_First (n : Int) (a : Option Addr) (f : List (List Int)) (lf c : Nat) (am : Option Addr) (m : List Bool) (lm cm : Nat) (w : World) (hlf : lf = f.length) (hlm : lm = m.length) (hf : FOk f) (hr : Rws w a f) (hm : SlV w am (bools m))
    (hl : f.length ≤ 9223372036854775807) (hl2 : m.length ≤ 9223372036854775807) :
    Calls Try.prog 22 #[.agg #[.int .i64 n, .slice a lf c], .slice am lm cm] w fun x w' =>
      x = .returned (.tuple #[.int .i64 (cnfFirst n f m).1, .int .i64 (cnfFirst n f m).2]) ∧ Below w.heap.size w w' := by
  subst hlf
  subst hlm
  have HF := hid hf
  obtain ⟨e1, he1⟩ : ∃ e1, cnfCheck n f = e1 := ⟨_, rfl⟩
  have HE := hid he1
  have HR1 := hid (hr.below (box_below w (fbox n a f.length c)))
  have hb2 : Below w.heap.size w ((w.alloc (fbox n a f.length c)).alloc (fbox n a f.length c)) := below_al (box_below _ _) (by simp only [size_al]; omega) _
  have HR2 := hid (hr.below hb2)
  have HM2 := hid (hm.below hb2)
  have HB2 := hid hb2
  clear hf hr hm he1 hb2
  by_cases hz : e1 = 0
  · have hz' : (e1 != 0) = false := by simp [hz]
    have HZ : Hid (cnfCheck n f = 0) := by rw [HE.out, hz]; rfl
    clear hz
    cases hlen : ((m.length : Int) != n) with
    | true =>
      have HG := hid (cnfFirst_arg HZ.out hlen)
      go_enter Try.func22, Try.ntmps22
      go_wp2_with (go_at_call 21; refine (cnf_CheckR n _ f _ _ _ _ HE.out rfl HF.out HR1.out hl).mono ?_; rintro e w' ⟨rfl, rfl⟩)
      go_ret2
      exact ⟨by rw [HG.out]; rfl, HB2.out⟩
    | false =>
      have HG := hid (cnfFirst_idx HZ.out hlen)
      go_enter Try.func22, Try.ntmps22
      go_wp2_with (go_at_call 21; refine (cnf_CheckR n _ f _ _ _ _ HE.out rfl HF.out HR1.out hl).mono ?_; rintro e w' ⟨rfl, rfl⟩)
      go_loop [22] (fun i => ∃ k : Nat, k ≤ f.length ∧ i = .int .i64 k ∧ Hid ((f.take k).any (fun c => !holdsB m c) = false)) (fun i => f.length - (intOf i).toNat)
      case atStart => exact ⟨0, Nat.zero_le _, rfl, rfl⟩
      case round =>
        obtain ⟨k, hk, rfl, hrel⟩ := hrel
        by_cases hlt : k < f.length
        · obtain ⟨b, off, c1, a1, cc1, rfl, hcell, hsl, hc1, hx1, hl1, -, -⟩ := HR2.out.row HF.out hlt
          have HC := hid hc1
          have HS := hid hsl
          have HX := hid hx1
          obtain ⟨r1, hr1⟩ : ∃ r1, holdsB m c1 = r1 := ⟨_, rfl⟩
          have HH := hid hr1
          clear hc1 hsl hx1 hr1
          cases r1 with
          | true =>
            go_wp2_with (go_at_call 16; refine (lit_HoldsR _ m _ _ _ c1 _ _ _ _ HH.out rfl rfl HM2.out HX.out HS.out hl1 hl2).mono ?_; rintro e w' ⟨rfl, rfl⟩)
            go_round
            case rel => exact ⟨k + 1, by omega, by go_num, take_any_succ HC.out hrel (by simp [HH.out])⟩
            case measure => simp [intOf]; omega
          | false =>
            have HI := hid (firstIdx_at HC.out hrel HH.out)
            go_wp2_with (go_at_call 16; refine (lit_HoldsR _ m _ _ _ c1 _ _ _ _ HH.out rfl rfl HM2.out HX.out HS.out hl1 hl2).mono ?_; rintro e w' ⟨rfl, rfl⟩)
            go_ret2
            exact ⟨by rw [HG.out, HI.out]; rfl, HB2.out⟩
        · have HI := hid (firstIdx_none hlt hrel)
          go_wp2_with fail
          go_ret2
          exact ⟨by rw [HG.out, HI.out]; rfl, HB2.out⟩
  · have hz' : (e1 != 0) = true := by simp [hz]
    have HG := hid (cnfFirst_err (m := m) HE.out hz')
    clear hz
    go_enter Try.func22, Try.ntmps22
    go_wp2_with (go_at_call 21; refine (cnf_CheckR n _ f _ _ _ _ HE.out rfl HF.out HR1.out hl).mono ?_; rintro e w' ⟨rfl, rfl⟩)
    go_ret2
    exact ⟨by rw [HG.out]; rfl, HB2.out⟩

set_option maxHeartbeats 1000000 in
theorem ref02_Check (n : Int) (a : Option Addr) (f : List (List Int)) (m c : Nat) (w : World) (hm : m = f.length) (hf : FOk f) (hr : Rws w a f) (hl : f.length ≤ 9223372036854775807) :
    Calls Try.prog 51 #[.agg #[.int .i64 n, .slice a m c]] w fun e w' => e = .returned (.int .i64 (cnfCheck n f)) ∧ ∃ k, w' = (w.alloc (fbox n a m c)).drewN k := by
  subst hm
  have HF := hid hf
  have HR := hid (hr.below (box_below w (fbox n a f.length c)))
  clear hf hr
  by_cases h0 : n < 0
  · go_enter Try.func51, Try.ntmps51
    go_wp2_with fail
    go_ret
    exact ⟨by rw [cnfCheck_range (Or.inl h0)]; rfl, 0, rfl⟩
  · by_cases h1 : 1048576 < n
    · go_enter Try.func51, Try.ntmps51
      go_wp2_with fail
      go_ret
      exact ⟨by rw [cnfCheck_range (Or.inr h1)]; rfl, 0, rfl⟩
    · have hn : 0 ≤ n ∧ n ≤ 1048576 := by omega
      have HN := hid hn
      by_cases h2 : (1048576 : Int) < f.length
      · go_enter Try.func51, Try.ntmps51
        go_wp2_with fail
        go_ret
        exact ⟨by rw [cnfCheck_long HN.out h2]; rfl, 0, rfl⟩
      · have hl2 : (f.length : Int) ≤ 1048576 := by omega
        go_enter Try.func51, Try.ntmps51
        go_wp2_with fail
        obtain ⟨wb, hwb⟩ : ∃ wb, wb = w.alloc (fbox n a f.length c) := ⟨_, rfl⟩
        go_loopw [3] (fun i wr => ∃ k nd : Nat, k ≤ f.length ∧ wr = (w.alloc (fbox n a f.length c)).drewN nd ∧ i = .int .i64 k ∧ Hid ((f.take k).any (fun c => litCheck n c != 0) = false)) (fun i _ => f.length - (intOf i).toNat)
        case atStart => exact ⟨0, 0, Nat.zero_le _, rfl, rfl, rfl⟩
        case round =>
          obtain ⟨k, nd, hk, rfl, rfl, hrel⟩ := hrel
          by_cases hlt : k < f.length
          · obtain ⟨b, off, c1, a1, cc1, rfl, hcell, hsl, hc1, hx1, hl1, -, -⟩ := HR.out.row HF.out hlt
            have HC := hid hc1
            have HS := hid hsl
            have HX := hid hx1
            obtain ⟨e1, he1⟩ : ∃ e1, litCheck n c1 = e1 := ⟨_, rfl⟩
            have HE := hid he1
            have hi1 : (k : Int) < f.length := by omega
            clear hc1 hsl hx1 he1
            by_cases hz : e1 = 0
            · have hz' : (e1 != 0) = false := by simp [hz]
              have HZ := hid hz
              clear hz
              go_wp2_with fail
              go_quiet ((go_at_call 56; first | exact quiet_same2 (ref01_CheckR n _ c1 _ _ _ _ HE.out rfl HX.out HS.out hl1) | exact quiet_same (ref01_CheckR n _ c1 _ _ _ _ HE.out rfl HX.out HS.out hl1)))
              go_wp2_with fail
              go_roundw
              case rel => exact ⟨k + 1, _, by omega, (by first | rfl | exact World.drewN_drewN ..), by go_num, take_any_succ HC.out hrel (by simp [HE.out, HZ.out])⟩
              case measure => simp [intOf]; omega
            · have hz' : (e1 != 0) = true := by simp [hz]
              have HB := hid (cnfCheck_bad HN.out hl2 HC.out hrel HE.out hz')
              clear hz
              go_wp2_with fail
              go_quiet ((go_at_call 56; first | exact quiet_same2 (ref01_CheckR n _ c1 _ _ _ _ HE.out rfl HX.out HS.out hl1) | exact quiet_same (ref01_CheckR n _ c1 _ _ _ _ HE.out rfl HX.out HS.out hl1)))
              go_wp2_with fail
              go_ret
              exact ⟨by rw [HB.out]; rfl, _, by first | rfl | exact World.drewN_drewN ..⟩
          · go_wp2_with fail
            go_ret
            exact ⟨by rw [cnfCheck_ok HN.out hl2 hlt hrel]; rfl, _, by first | rfl | exact World.drewN_drewN ..⟩

end Go.Proofs.Ytfgaglgaofceiaa
