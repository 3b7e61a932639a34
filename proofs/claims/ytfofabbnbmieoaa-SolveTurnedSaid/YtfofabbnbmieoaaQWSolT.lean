/- The walk of SolveTurned. -/
import Derived.Test.YtfofabbnbmieoaaQSForm
import Derived.Test.YtfofabbnbmieoaaQ10
import Derived.Test.YtfofabbnbmieoaaQ20
import Derived.Test.YtfofabbnbmieoaaQ18

namespace Go.Proofs.Ytfofabbnbmieoaa.Ord
open Go.RowKit

attribute [local go_sem ↓] Go.wp_at_zero Go.wp_at_succ
attribute [local go_sem ↓ high] app_mark

/-- A clause renamed. -/
def turnC (n s : Nat) (nt : Nat → Bool) (c : List Int) : List Int := c.reverse.map (turnL n s nt)

theorem turnF_at {n s : Nat} {nt : Nat → Bool} {F : List (List Int)} {i j : Nat} {c : List Int} (h : F[i]? = some c) (hij : i + j + 1 = F.length) : (turnF n s nt F).take (j + 1) = (turnF n s nt F).take j ++ [turnC n s nt c] := by
  rw [List.take_add_one]
  unfold turnF
  rw [List.getElem?_map, List.getElem?_reverse (by omega), show F.length - 1 - j = i by omega, h]
  rfl

theorem turnC_at {n s : Nat} {nt : Nat → Bool} {c : List Int} {i j : Nat} {x : Int} (h : c[i]? = some x) (hij : i + j + 1 = c.length) : (turnC n s nt c).take (j + 1) = (turnC n s nt c).take j ++ [turnL n s nt x] := by
  rw [List.take_add_one]
  unfold turnC
  rw [List.getElem?_map, List.getElem?_reverse (by omega), show c.length - 1 - j = i by omega, h]
  rfl

theorem turnC_len (n s : Nat) (nt : Nat → Bool) (c : List Int) : (turnC n s nt c).length = c.length := by simp [turnC]
theorem turnF_len (n s : Nat) (nt : Nat → Bool) (F : List (List Int)) : (turnF n s nt F).length = F.length := by simp [turnF]

theorem turnF_ok {n s : Nat} {nt : Nat → Bool} (hn : 1 ≤ n) {F : List (List Int)} : ClsOk n (turnF n s nt F) := fun c hc x hx => by
  obtain ⟨d, -, rfl⟩ := List.mem_map.1 hc
  obtain ⟨y, -, rfl⟩ := List.mem_map.1 hx
  exact turn_ok hn y

theorem chkT_of {n : Nat} {F : List (List Int)} (hn : n ≤ 1048576) (hF : ClsOk n F) (hl : ∀ c ∈ F, c.length ≤ 4096) (hFl : F.length ≤ 1048576) : cnfCheck n F = 0 := by
  have hlit : ∀ c ∈ F, litCheck n c = 0 := fun c hc => by
    unfold litCheck
    rw [if_neg (by omega), if_neg (by have := hl c hc; omega), if_neg]
    intro ha
    obtain ⟨x, hx, hb⟩ := List.any_eq_true.1 ha
    have h2 := hF c hc x hx
    unfold LitOk at h2
    unfold badLit at hb
    simp only [Bool.or_eq_true, beq_iff_eq, decide_eq_true_eq] at hb
    omega
  unfold cnfCheck
  rw [if_neg (by omega), if_neg (by omega)]
  have : F.find? (fun c => litCheck n c != 0) = none := List.find?_eq_none.2 fun c hc => by simp [hlit c hc]
  rw [this]

set_option maxRecDepth 100000 in
set_option maxHeartbeats 8000000 in
theorem walk_SolveTurned (x0 : Int) (v1 : Value) (x1 : List (List Int)) (x2 x3 : Int) (w : World) (w0 : (Lit.int .u8 x0).wf = true) (w1 : ArgR .i8 w v1 x1) (w2 : (Lit.int .u8 x2).wf = true) (w3 : (Lit.int .u16 x3).wf = true) :
    Calls Try.prog 11 #[.int .u8 x0, v1, .int .u8 x2, .int .u16 x3] w fun e w' => e = .returned (.bool true) ∧ Below w.heap.size w w' := by
  have hb0 := bounds_u8 w0
  have hb2 := bounds_u8 w2
  have hb3 := bounds_u16 w3
  have HA := hid w1
  clear w0 w1 w2 w3
  cases hfit : fitB x1 with
  | false =>
    have HFI := hid hfit
    clear hfit
    go_enter Try.func11, Try.ntmps11
    go_wp2_with fail
    refine (law02_FitF x0 v1 x1 w HFI.out hb0.1 hb0.2 HA.out).mono ?_
    rintro e w3 ⟨rfl, hb3⟩
    have HB3 := hid hb3
    clear hb3
    go_wp2_with (go_at_call 30; refine (law07_known _).mono ?_; rintro e w' ⟨rfl, hb⟩)
    go_ret
    exact ⟨rfl, (below_al HB3.out HB3.out.size _).trans (hb.mono (by have := HB3.out.size; simp only [size_al]; omega))⟩
  | true =>
    have hV := fitV_range x0
    obtain ⟨n, hn⟩ : ∃ n : Nat, fitV x0 = (n : Int) := ⟨(fitV x0).toNat, by omega⟩
    have hn1 : 1 ≤ n ∧ n ≤ 12 := by omega
    obtain ⟨F, hF⟩ : ∃ F, fitF x0 x1 = F := ⟨_, rfl⟩
    have hchk : cnfCheck n F = 0 := by rw [← hF, ← hn]; exact cnfCheck_fit hfit
    have hFl30 : F.length ≤ 30 := by rw [← hF, fitF_length]; exact (fitB_bounds hfit).1
    have hcl20 : ∀ c ∈ F, c.length ≤ 20 := fun c hc => by rw [← hF] at hc; exact (mem_fitF hfit hc).1
    have HFO := hid (And.intro (show FOk F from hF ▸ fok_fit hfit) (And.intro hchk (And.intro hn1 (And.intro hFl30 hcl20))))
    have HN := hid hn
    have HF := hid hF
    have HFI := hid hfit
    obtain ⟨s, hs⟩ : ∃ s : Nat, x2 = s := ⟨x2.toNat, by omega⟩
    subst hs
    have hsw : IntKind.i64.wrap (s : Int) = (s : Int) := IntWalk.i64_in _ (by omega)
    have hs255 : s ≤ 255 := by omega
    have hn0 : ((n : Int) == 0) = false := beq_false_of_ne (by omega)
    clear hfit hF hn hV hchk hn1 hFl30 hcl20 hb2
    go_enter Try.func11, Try.ntmps11
    go_wp2_with fail
    refine (law02_FitG x0 v1 x1 w HFI.out hb0.1 hb0.2 HA.out).mono ?_
    rw [HN.out, HF.out]
    rintro e w3 ⟨a, c, rfl, hfc, hr3, hb3⟩
    obtain ⟨FL, hFL⟩ : ∃ t, F.length = t := ⟨_, rfl⟩
    rw [hFL] at hfc ⊢
    obtain ⟨w4, hw4⟩ : ∃ t, w3.alloc (.cells #[.int .i64 n, .slice a FL c] 34 (0, 0)) = t := ⟨_, rfl⟩
    obtain ⟨hb4, hs4, z4⟩ := box1 w3 _ hw4
    have d4 := fun i => cell_of_row w4 w3.heap.size i _ _ _ z4
    obtain ⟨hb5, hs5, z5⟩ := box1 w4 (.cells #[.int .i64 n, .slice none 0 0] 34 (0, 0)) rfl
    have hfb : FB (w4.alloc (.cells #[.int .i64 n, .slice none 0 0] 34 (0, 0))) w4.heap.size w4.heap.size n [] := ⟨_, [], z5, Nat.le_refl _, World.ownsRow_nil _ _ _ _, fun j c hj => by simp at hj⟩
    have d5 := fun i => cell_of_row (w4.alloc (.cells #[.int .i64 n, .slice none 0 0] 34 (0, 0))) w3.heap.size i _ _ _ ((hb5.block _ (by omega)).trans z4)
    have H4 := hid (And.intro (hb3.trans (hb4.mono hb3.size)) (And.intro hs4 (And.intro z4 (And.intro (hr3.below hb4) hFL))))
    have H5 := hid (And.intro hfb hb5)
    have hFLl : FL ≤ 30 := by rw [← hFL]; exact HFO.out.2.2.2.1
    have hwFL : IntKind.i64.wrap ((FL : Int) - 1) = (FL : Int) - 1 := IntWalk.i64_in _ (by omega)
    have HZ3 := hid hb3.size
    clear hb3 hr3 hb4 hs4 z4 hFL hfc hb5 hs5 z5 hfb
    go_wp2_with fail
    generalize w4.alloc (.cells #[.int .i64 n, .slice none 0 0] 34 (0, 0)) = w5 at H5 d5 ⊢
    obtain ⟨nt, hnt⟩ : ∃ nt : Nat → Bool, (fun v => bitB x3 (v - 1)) = nt := ⟨_, rfl⟩
    have HNT := hid hnt
    obtain ⟨y0, hy0⟩ : ∃ y : Int, (FL : Int) - 1 = y := ⟨_, rfl⟩
    rw [hy0] at hwFL ⊢
    have HY0 := hid hy0
    have HFLl := hid hFLl
    clear hnt hy0 hwFL d4 hFLl
    go_loopw [12] (fun s12 wl => ∃ (j : Nat) (y : Int), s12 = .int .i64 y ∧ j ≤ FL ∧ Hid (y + j + 1 = FL ∧ FB wl w4.heap.size w4.heap.size n ((turnF n s nt F).take j) ∧ Below w4.heap.size w4 wl)) (fun s12 _ => (intOf s12 + 1).toNat)
    case atStart => exact ⟨0, y0, rfl, Nat.zero_le _, hid ⟨by have := HY0.out; omega, H5.out.1, H5.out.2⟩⟩
    case round =>
      clear H5 d5 HY0
      obtain ⟨j, y, rfl, hjF, HS⟩ := hrel
      have hbnd : y ≤ 30 := by have := HS.out.1; have := HFLl.out; omega
      have hwy : IntKind.i64.wrap (y - 1) = y - 1 := IntWalk.i64_in _ (by have := HS.out.1; omega)
      have yF := (HS.out.2.2.block w3.heap.size (by have := H4.out.2.1; omega)).trans H4.out.2.2.1
      have dF := fun i => cell_of_row wr w3.heap.size i _ _ _ yF
      by_cases hy : 0 ≤ y
      · obtain ⟨i, hi⟩ : ∃ i : Nat, y = i := ⟨y.toNat, by omega⟩
        subst hi
        have hij : i + j + 1 = FL := by have := HS.out.1; omega
        have hiF : i < F.length := by have := H4.out.2.2.2.2; omega
        have hrw : Rws wr a F := H4.out.2.2.2.1.below (HS.out.2.2)
        obtain ⟨b, off, c0, a', c', ha, hcell, hsl, hFi, hx64, hcl, hcc, hc0⟩ := hrw.row HFO.out.1 hiF
        subst ha
        obtain ⟨CL, hCL⟩ : ∃ t, c0.length = t := ⟨_, rfl⟩
        rw [hCL] at hcell
        have hCLl : CL ≤ 20 := by rw [← hCL]; exact HFO.out.2.2.2.2 c0 (List.mem_of_getElem? hFi)
        have hwCL : IntKind.i64.wrap ((CL : Int) - 1) = (CL : Int) - 1 := IntWalk.i64_in _ (by omega)
        have hiFL : (i : Int) < FL := by omega
        have hiFLn : i < FL := by omega
        have hi0 : (0 : Int) ≤ i := by omega
        obtain ⟨z0, hz0⟩ : ∃ z : Int, (CL : Int) - 1 = z := ⟨_, rfl⟩
        have HI := hid (And.intro hij (And.intro hFi (And.intro hsl (And.intro hCL (And.intro hCLl hz0)))))
        clear hij hiF hrw hsl hFi hx64 hcl hcc hc0 hCL hCLl hz0 yF
        go_wp2_with fail
        obtain ⟨w7, rfl⟩ : ∃ t, t = wr := ⟨_, rfl⟩
        have HC7 := hid hcell
        clear hcell dF
        go_loopw [13, 14] (fun s13 s14 wq => ∃ (m : Nat) (z : Int), s14 = .int .i64 z ∧ m ≤ CL ∧ Hid (z + m + 1 = CL ∧ wq.ownsRow w7.heap.size 3 1 s13 ((turnC n s nt c0).take m).length (ints ((turnC n s nt c0).take m)) ∧ Below w7.heap.size w7 wq)) (fun _ s14 _ => (intOf s14 + 1).toNat)
        case atStart => exact ⟨0, (CL : Int) - 1, rfl, Nat.zero_le _, hid ⟨by have := HI.out.2.2.2.2.2; omega, World.ownsRow_nil _ _ _ _, Below.refl _ _⟩⟩
        case round =>
          obtain ⟨m, z, rfl, hmC, HQ⟩ := hrel
          have hzb : z ≤ 20 ∧ -1 ≤ z := by have := HQ.out.1; have := HI.out.2.2.2.2.1; omega
          have hwz : IntKind.i64.wrap (z - 1) = z - 1 := IntWalk.i64_in _ (by omega)
          by_cases hz : 0 ≤ z
          · obtain ⟨k, hk⟩ : ∃ k : Nat, z = k := ⟨z.toNat, by omega⟩
            subst hk
            have hkC : k < CL := by have := HQ.out.1; omega
            have hkCi : (k : Int) < CL := by omega
            have hk0 : (0 : Int) ≤ k := by omega
            have hi0 : (0 : Int) ≤ i := by omega
            obtain ⟨x, hx⟩ : ∃ x, c0[k]? = some x := ⟨_, List.getElem?_eq_getElem (by have := HI.out.2.2.2.1; omega)⟩
            have hcF := List.mem_of_getElem? HI.out.2.1
            have hxo := (cnf_valid HFO.out.2.1).2.2.2.2 c0 hcF x (List.mem_of_getElem? hx)
            have hxo : LitOk n x := hxo
            have hxr := abs_range hxo
            obtain ⟨b1, o1, ha', hcx⟩ := HI.out.2.2.1 k (.int .i64 x) (by unfold ints; rw [List.getElem?_map, hx]; rfl)
            subst ha'
            have hcx := below_keeps HQ.out.2.2 _ _ hcx
            have hcell := below_keeps HQ.out.2.2 _ _ HC7.out
            have yF := (HQ.out.2.2.block w3.heap.size (by have := HS.out.2.2.size; have := H4.out.2.1; omega)).trans ((HS.out.2.2.block w3.heap.size (by have := H4.out.2.1; omega)).trans H4.out.2.2.1)
            have dF := fun i => cell_of_row wr w3.heap.size i _ _ _ yF
            obtain ⟨vn, hvn⟩ : ∃ t : Nat, x.natAbs = t := ⟨_, rfl⟩
            have hv12 : vn ≤ 12 := by have := HFO.out.2.2.1; omega
            have hmx : max x (-x) = (vn : Int) := by omega
            have hwx : IntKind.i64.wrap (-x) = -x := IntWalk.i64_in _ (by omega)
            have hadd : IntKind.i64.wrap ((vn : Int) + (s : Int)) = ((vn + s : Nat) : Int) := (IntWalk.i64_in _ (by omega)).trans (by omega)
            obtain ⟨A, hA⟩ : ∃ t : Nat, vn + s = t := ⟨_, rfl⟩
            rw [hA] at hadd
            have hrm : (A : Int).tmod (n : Int) = ((A % n : Nat) : Int) := by
              rw [Int.tmod_eq_emod_of_nonneg (by omega)]
              simp
            obtain ⟨R, hR⟩ : ∃ t : Nat, A % n = t := ⟨_, rfl⟩
            have hRn : R < n := by rw [← hR]; exact Nat.mod_lt _ (by have := HFO.out.2.2.1; omega)
            rw [hR] at hrm
            have hRw : IntKind.i64.wrap (R : Int) = (R : Int) := IntWalk.i64_in _ (by have := HFO.out.2.2.1; omega)
            have hsh : IntKind.i64.wrap (1 + (R : Int)) = ((1 + R : Nat) : Int) := (IntWalk.i64_in _ (by have := HFO.out.2.2.1; omega)).trans (by omega)
            obtain ⟨SH, hSH⟩ : ∃ t : Nat, 1 + R = t := ⟨_, rfl⟩
            rw [hSH] at hsh
            have hSHe : sh n s x.natAbs = SH := by unfold sh; rw [hvn, hA, hR, hSH]
            have hshn : IntKind.i64.wrap (-(SH : Int)) = -(SH : Int) := IntWalk.i64_in _ (by have := HFO.out.2.2.1; omega)
            obtain ⟨V1, hV1⟩ : ∃ t : Nat, vn - 1 = t := ⟨_, rfl⟩
            have hv1 : IntKind.i64.wrap ((vn : Int) - 1) = (V1 : Int) := (IntWalk.i64_in _ (by omega)).trans (by omega)
            have hv1u : IntKind.u64.wrap (V1 : Int) = (V1 : Int) := by
              unfold IntKind.wrap
              simp [IntKind.signed, IntKind.bits]
              omega
            have hbit := model_bit x3 V1 hb3.1 hb3.2
            have hntv : nt x.natAbs = bitB x3 V1 := by
              rw [← HNT.out, hvn]
              show bitB x3 (vn - 1) = _
              rw [hV1]
            obtain ⟨nb, hnb⟩ : ∃ t, bitB x3 V1 = t := ⟨_, rfl⟩
            rw [hnb] at hbit hntv
            have hn0n : ¬ n = 0 := by have := HFO.out.2.2.1; omega
            have hn0i : ¬ (n : Int) = 0 := by omega
            have hmxw : IntKind.i64.wrap (vn : Int) = (vn : Int) := IntWalk.i64_in _ (by omega)
            obtain ⟨T, hT⟩ : ∃ t, turnL n s nt x = t := ⟨_, rfl⟩
            have hTe : T = if (!decide (x < 0) == nb) then -(SH : Int) else (SH : Int) := by
              rw [← hT]
              unfold turnL
              rw [hSHe, hntv]
              cases decide (x < 0) <;> cases nb <;> rfl
            have hHS := HS.out.2.2.size
            have HP := hid (fun nq : Nat => row_push (w := wr.drewN nq) (own_below HQ.out.2.1 (below_dr (Below.refl _ _) nq)) (Nat.le_trans HQ.out.2.2.size (Nat.le_refl _)) T (by simp [turnC_len]; have := HI.out.2.2.2.1; have := HI.out.2.2.2.2.1; omega))
            have hml : ((turnC n s nt c0).take m).length = m := by
              rw [List.length_take, turnC_len, HI.out.2.2.2.1]
              omega
            have hnext : (turnC n s nt c0).take m ++ [T] = (turnC n s nt c0).take (m + 1) := by
              rw [turnC_at hx (by have := HQ.out.1; have := HI.out.2.2.2.1; omega), hT]
            rw [hml, hnext] at HP
            have HKC := hid (And.intro hkC hml)
            clear hx hcF hxr hvn hv12 hA hR hRn hSH hSHe hV1 hntv hnb yF HC7 hxo hT hnext hml
            go_wp2_with fail
            cases hxn : (!decide (x < 0) == nb) with
            | true =>
              rw [hxn, if_pos rfl] at hTe
              subst hTe
              go_quiet (fail)
              obtain ⟨a', c'', w9, hr9, ho9, hb9⟩ := HP.out nq
              have hr9 : (appM #[22, 22] 22 #[u13, .slice (some ⟨wr.heap.size, 0, none⟩) 1 1]).run Try.prog ((wr.drewN nq).alloc (.cells #[.int .i64 (-(SH : Int))] 3 (0, 0))) = .ok (.slice a' (m + 1) c'') w9 := hr9
              have HO9 := hid (And.intro ho9 ((below_dr HQ.out.2.2 nq).trans hb9))
              clear ho9 hb9
              go_wp2_with fail
              go_roundw
              case rel => exact ⟨m + 1, (k : Int) - 1, by simp, by have := HKC.out.1; have := HQ.out.1; omega, hid ⟨by have := HQ.out.1; omega, HO9.out.1, HO9.out.2⟩⟩
              case measure => simp [intOf]
            | false =>
              rw [hxn, if_neg Bool.false_ne_true] at hTe
              subst hTe
              go_quiet (fail)
              obtain ⟨a', c'', w9, hr9, ho9, hb9⟩ := HP.out nq
              have hr9 : (appM #[22, 22] 22 #[u13, .slice (some ⟨wr.heap.size, 0, none⟩) 1 1]).run Try.prog ((wr.drewN nq).alloc (.cells #[.int .i64 (SH : Int)] 3 (0, 0))) = .ok (.slice a' (m + 1) c'') w9 := hr9
              have HO9 := hid (And.intro ho9 ((below_dr HQ.out.2.2 nq).trans hb9))
              clear ho9 hb9
              go_wp2_with fail
              go_roundw
              case rel => exact ⟨m + 1, (k : Int) - 1, by simp, by have := HKC.out.1; have := HQ.out.1; omega, hid ⟨by have := HQ.out.1; omega, HO9.out.1, HO9.out.2⟩⟩
              case measure => simp [intOf]
          · have hmCL : m = CL := by have := HQ.out.1; omega
            subst hmCL
            have hfull : (turnC n s nt c0).take m = turnC n s nt c0 := List.take_of_length_le (by rw [turnC_len, HI.out.2.2.2.1]; exact Nat.le_refl _)
            have hQ2 := HQ.out.2.1
            rw [hfull] at hQ2
            obtain ⟨ac, cc, hsv⟩ := own_lenV' hQ2
            rw [turnC_len, HI.out.2.2.2.1] at hsv
            subst hsv
            have hx : OwnT 3 wr 0 (.slice ac m cc) (turnC n s nt c0) := (ownT_of_own hQ2).base (Nat.zero_le _)
            have hfb := HS.out.2.1.below HQ.out.2.2
            have hGl : ((turnF n s nt F).take j).length = j := by
              rw [List.length_take, turnF_len, H4.out.2.2.2.2]
              omega
            obtain ⟨a0, cap, a12, c12, w12, hc1, hr12, hc2, hf2, hF12, hB12⟩ := hfb.push (Nat.le_trans HS.out.2.2.size HQ.out.2.2.size) hx rfl (by rw [hGl]; have := HFLl.out; omega)
            rw [hGl] at hc1 hr12 hc2 hF12 hB12
            have e12 : (turnF n s nt F).take j ++ [turnC n s nt c0] = (turnF n s nt F).take (j + 1) := (turnF_at HI.out.2.1 (by have := HI.out.1; have := H4.out.2.2.2.2; omega)).symm
            rw [e12] at hF12
            have HF12 := hid (And.intro hF12 (HS.out.2.2.trans ((HQ.out.2.2.mono HS.out.2.2.size).trans hB12)))
            have hc1a := fun o => below_keeps (box_below wr o) _ _ hc1
            clear hF12 hB12 hGl hfb hx hfull hQ2 HQ HC7 e12
            go_wp2_with fail
            go_roundw
            case rel => exact ⟨j + 1, (i : Int) - 1, by simp, by have := HI.out.1; omega, hid ⟨by have := HI.out.1; omega, HF12.out.1, HF12.out.2⟩⟩
            case measure => simp [intOf]
      · have hje : j = FL := by have := HS.out.1; omega
        subst hje
        have hS2 := HS.out.2.1
        have hfull : (turnF n s nt F).take j = turnF n s nt F := List.take_of_length_le (by rw [turnF_len, H4.out.2.2.2.2]; exact Nat.le_refl _)
        rw [hfull] at hS2
        obtain ⟨a2, c2, z2, hr2⟩ := hS2.rows
        rw [turnF_len, H4.out.2.2.2.2] at z2
        have hcls : ClsOk n F := (cnf_valid HFO.out.2.1).2.2.2.2
        have hGok : ClsOk n (turnF n s nt F) := turnF_ok HFO.out.2.2.1.1
        have hGl : ∀ c ∈ turnF n s nt F, c.length ≤ 20 := fun c hc => by
          obtain ⟨d, hd, rfl⟩ := List.mem_map.1 hc
          rw [List.length_map, List.length_reverse]
          exact HFO.out.2.2.2.2 d (List.mem_reverse.1 hd)
        have hGi : ansV n F = ansV n (turnF n s nt F) := ansV_eq (turn_iff HFO.out.2.2.1.1 hcls)
        have hGn : (turnF n s nt F).length = j := by rw [turnF_len, H4.out.2.2.2.2]
        obtain ⟨G, hG⟩ : ∃ t, turnF n s nt F = t := ⟨_, rfl⟩
        rw [hG] at hr2 hGok hGl hGi hGn
        obtain ⟨A, hA⟩ : ∃ A : Int, ansV n F = A := ⟨_, rfl⟩
        have hA12 : A = 1 ∨ A = 2 := by
          rw [← hA]
          unfold ansV
          split
          · exact Or.inl rfl
          · exact Or.inr rfl
        have hAn : ¬ A = 0 := by omega
        have hAg : (A == A) = true := beq_self_eq_true A
        have hA0 : (A == 0) = false := beq_false_of_ne hAn
        have hA0b : (A != 0) = true := bne_iff_ne.2 hAn
        have HG := hid (And.intro (hGi.symm.trans hA) (And.intro hGn.symm (And.intro (show FOk G from fun c hc => ⟨fun x hx => by
          have h1 := hGok c hc x hx
          have h2 := HFO.out.2.2.1
          unfold LitOk at h1
          unfold I64
          omega, by have := hGl c hc; omega⟩) (And.intro hr2 (chkT_of (n := n) (by have := HFO.out.2.2.1; omega) hGok (fun c hc => Nat.le_trans (hGl c hc) (by omega)) (by have := HFLl.out; omega))))))
        have HA2 := hid hA
        have HZ2 := hid z2
        have s0 : ∀ {wx : World}, Below wr.heap.size wr wx → (wx.cell? ⟨w3.heap.size, 0, none⟩ = some (.int .i64 n) ∧ wx.cell? ⟨w3.heap.size, 1, none⟩ = some (.slice a j c)) ∧ wx.cell? ⟨w4.heap.size, 0, none⟩ = some (.int .i64 n) ∧ wx.cell? ⟨w4.heap.size, 1, none⟩ = some (.slice a2 j c2) := fun {wx} h => by
          have y := (h.block w3.heap.size (by have := HS.out.2.2.size; have := H4.out.2.1; omega)).trans yF
          have x := (h.block w4.heap.size (Array.getElem?_eq_some_iff.1 HZ2.out).1).trans HZ2.out
          exact ⟨⟨fit_cell (vs := [.int .i64 n, .slice a j c]) y 0, fit_cell (vs := [.int .i64 n, .slice a j c]) y 1⟩, fit_cell (vs := [.int .i64 n, .slice a2 j c2]) x 0, fit_cell (vs := [.int .i64 n, .slice a2 j c2]) x 1⟩
        have HS0 := hid (fun (wx : World) h => s0 (wx := wx) h)
        have HB := hid (H4.out.1.trans (HS.out.2.2.mono H4.out.1.size))
        clear hS2 hfull z2 hr2 hcls hGok hGl hGi hGn hG hA s0 hA12 yF
        go_wp2_with fail
        refine wp_region_R (fun yw => (yw.cell? ⟨w3.heap.size, 0, none⟩ = some (.int .i64 n) ∧ yw.cell? ⟨w3.heap.size, 1, none⟩ = some (.slice a j c)) ∧ yw.cell? ⟨w4.heap.size, 0, none⟩ = some (.int .i64 n) ∧ yw.cell? ⟨w4.heap.size, 1, none⟩ = some (.slice a2 j c2)) [] (by kernel_rfl) ?_
        have hHeld := HS0.out wr.drew (Below.refl _ _).drew
        refine wpR.take 0 rfl (by kernel_rfl) (fun _ _ _ h => h) (by rfl) (v := ?_) ?_ (by assumption) ?_
        rotate_left 1
        · (intro wx hSw; (try dsimp only at hSw); go_simp; try with_reducible rfl)
        try simp only [Act.put, List.setIfInBounds_toArray, List.set_cons_zero, List.set_cons_succ]
        refine wpR.take 2 rfl (by kernel_rfl) (fun _ _ _ h => h) (by rfl) (v := ?_) ?_ (by assumption) ?_
        rotate_left 1
        · (intro wx hSw; (try dsimp only at hSw); go_simp; try with_reducible rfl)
        try simp only [Act.put, List.setIfInBounds_toArray, List.set_cons_zero, List.set_cons_succ]
        refine wpR.enter 1 rfl (by kernel_rfl) (by rfl) (f := ?_) (args := ?_) ?_ ?_
        rotate_left 2
        · (go_simp; first | done | with_reducible rfl | (refine ⟨?_, ?_⟩ <;> with_reducible rfl))
        refine (law07_answer n a F j c A wr.drew HA2.out H4.out.2.2.2.2.symm HFO.out.1 (H4.out.2.2.2.1.below (HS.out.2.2.drew)) HFO.out.2.1 (by have := HFO.out.2.2.1; omega)).mono ?_
        rintro e wA ⟨rfl, hbA⟩
        have hbA' : Below wr.heap.size wr wA := (Below.refl wr.heap.size wr).drew.trans hbA
        refine ⟨_, rfl, fun _ => HS0.out _ hbA', ?_⟩
        try simp only [Act.put, List.setIfInBounds_toArray, List.set_cons_zero, List.set_cons_succ]
        refine wpR.enter 3 rfl (by kernel_rfl) (by rfl) (f := ?_) (args := ?_) ?_ ?_
        rotate_left 2
        · (go_simp; first | done | with_reducible rfl | (refine ⟨?_, ?_⟩ <;> with_reducible rfl))
        refine (law07_answer n a2 G j c2 A wA HG.out.1 HG.out.2.1 HG.out.2.2.1 (HG.out.2.2.2.1.below hbA') HG.out.2.2.2.2 (by have := HFO.out.2.2.1; omega)).mono ?_
        rintro e wB ⟨rfl, hbB⟩
        have hbB' : Below wr.heap.size wr wB := hbA'.trans (hbB.mono hbA'.size)
        have HBB := hid hbB'
        refine ⟨_, rfl, fun _ => HS0.out _ hbB', ?_⟩
        try simp only [Act.put, List.setIfInBounds_toArray, List.set_cons_zero, List.set_cons_succ]
        clear hbA hbA' hbB hbB' hHeld
        refine wpR.pure 4 rfl (by kernel_rfl) (fun _ _ _ h => h) (by rfl) (v := ?_) ?_ ?_
        rotate_left 1
        · (intro wx _; go_simp; try with_reducible rfl)
        try simp only [Act.put, List.setIfInBounds_toArray, List.set_cons_zero, List.set_cons_succ]
        refine wpR.pure 5 rfl (by kernel_rfl) (fun _ _ _ h => h) (by rfl) (v := ?_) ?_ ?_
        rotate_left 1
        · (intro wx _; go_simp; try with_reducible rfl)
        try simp only [Act.put, List.setIfInBounds_toArray, List.set_cons_zero, List.set_cons_succ]
        refine wpR.done (by kernel_rfl) ?_
        go_wp2_with (go_at_call 30; refine (law07_known _).mono ?_; rintro e w' ⟨rfl, hb⟩)
        go_ret
        have hz := HB.out.size
        exact ⟨rfl, HB.out.trans ((HBB.out.mono hz).trans (hb.mono (Nat.le_trans hz HBB.out.size)))⟩

end Go.Proofs.Ytfofabbnbmieoaa.Ord
