/- The contract of lit.Norm. -/
import Derived.Test.YtfgaglgaofceiaaSorted
import Derived.Test.YtfgaglgaofceiaaPNorm
namespace Go.Proofs.Ytfgaglgaofceiaa
open Go.RowKit

theorem sizeOf_int (wx : World) : (sizeOf 3).run Try.prog wx = .ok 1 wx := by kernel_rfl

set_option maxHeartbeats 1000000 in
theorem lit_Norm (a : Option Addr) (xs : List Int) (m cap : Nat) (w : World) (hm : m = xs.length) (hcap : m ≤ cap) (hc0 : a = none → cap = 0) (hs : SlV w a (ints xs)) (hx : ∀ x ∈ xs, I64 x) (hl : xs.length ≤ 4294967296) :
    Calls Try.prog 14 #[.slice a m cap] w fun e w' =>
      ∃ v, e = .returned (.tuple #[v, .bool (adjB (normL xs))]) ∧ OwnT 3 w' w.heap.size v (normV xs) ∧ Below w.heap.size w w' := by
  subst hm
  have hc := fun w => lit_sorted xs.length a xs xs.length cap w (Nat.le_refl _) rfl hcap hc0
  have HC := hid hc
  have HX := hid hx
  have HS := hid hs
  clear hc hc0 hx hs
  obtain ⟨L0, hL0⟩ : ∃ L0, L0 = msort xs.length xs := ⟨_, rfl⟩
  obtain ⟨L, hL⟩ : ∃ L, L = normL xs := ⟨_, rfl⟩
  have HL0 := hid hL0
  have HL := hid hL
  have hlen : L.length ≤ 4294967296 := by rw [hL]; exact Nat.le_trans (normL_length xs) hl
  have hxL : ∀ x ∈ L, I64 x := fun x h => HX.out x (mem_normL (hL ▸ h))
  have HXL := hid hxL
  rw [← hL]
  obtain ⟨B, hB⟩ : ∃ B, B = w.heap.size := ⟨_, rfl⟩
  rw [← hB]
  have HB := hid hB
  clear hL0 hL hxL hB
  rcases hcase : L0 with _ | ⟨z, t⟩
  · have HLn : Hid (L = []) := by rw [HL.out]; exact normL_nil (by rw [← HL0.out, hcase])
    have HCase := hid hcase
    clear hcase
    go_enter Try.func14, Try.ntmps14
    go_wp2_with (go_at_call 40; refine (HC.out _ HS.out HX.out hl).mono ?_; rintro e w1 ⟨v1, rfl, ho1, hb1⟩; rw [← HL0.out, HCase.out] at ho1; rw [← HB.out] at ho1 hb1; obtain ⟨a1, c1, rfl, ho2⟩ := ownT_shape (HLn.out ▸ ownT_of_own ho1 : OwnT 3 w1 B v1 L); have hl0 : decide (0 < L.length) = false := by rw [HLn.out]; rfl)
    clear hl0
    go_loopw [5] (fun i wr => ∃ j nd : Nat, j ≤ L.length ∧ wr = w1.drewN nd ∧ i = .int .i64 ((j : Int) + 1) ∧ Hid ((List.range (j + 1)).any (adjAt L) = false)) (fun i _ => L.length + 1 - (intOf i).toNat)
    case atStart => exact ⟨0, 0, Nat.zero_le _, rfl, rfl, rfl⟩
    case round =>
      obtain ⟨j, nd, hj, rfl, rfl, hrel⟩ := hrel
      by_cases hlt : j + 1 < L.length
      · obtain ⟨b, off, x, rfl, hc, hx⟩ := (OwnT.slv ho2).int hlt
        obtain ⟨b', off', y, hbb, hd, hy⟩ := (OwnT.slv ho2).int (k := j) (by omega)
        simp at hbb
        obtain ⟨rfl, rfl⟩ := hbb
        have hx64 : I64 x := HXL.out x (List.mem_of_getElem? hx)
        have hy64 : I64 y := HXL.out y (List.mem_of_getElem? hy)
        have HX1 := hid hx
        have HY1 := hid hy
        have HO2 := hid ho2
        have e1 : IntKind.i64.wrap ((j : Int) + 1 - 1) = (j : Int) := by rw [IntWalk.i64_in _ (by omega)]; omega
        have e1' : IntKind.i64.wrap (j : Int) = (j : Int) := IntWalk.i64_in (j : Int) (by omega)
        have e2 : 0 ≤ (j : Int) + 1 := by omega
        have e3 : ((j : Int) + 1).toNat = j + 1 := by omega
        have e4 : (j : Int) + 1 < L.length := by omega
        have e5 : (j : Int) < L.length := by omega
        clear hx hy ho2
        go_wp2_with fail
        go_quiet ((go_at_call 41; first | exact quiet_same2 (lit_size _ _ (by assumption)) | exact quiet_same (lit_size _ _ (by assumption))))
        clear e1 e1' e2 e3
        go_wp2_with fail
        · have hne : ((x.natAbs : Int) == y.natAbs) = true := by assumption
          go_ret2
          have hadj := adjB_of HX1.out HY1.out hne
          rw [hadj, normV_true (HL.out ▸ hadj)]
          exact ⟨_, rfl, ⟨none, 0, rfl, Nat.le_refl _, fun _ => rfl, nofun⟩, by first | exact below_dr hb1 _ | exact below_dr (below_dr hb1 _) _⟩
        · have hne : ((x.natAbs : Int) == y.natAbs) = false := by assumption
          go_roundw
          case rel => exact ⟨j + 1, _, by omega, (by first | rfl | exact World.drewN_drewN ..), by go_num, adj_step HX1.out HY1.out hne hrel⟩
          case measure => simp [intOf]; omega
      · have hadj := adjB_not hlt hrel
        have HADJ := hid hadj
        clear hadj
        go_wp2_with fail
        go_ret2
        rw [HADJ.out, normV_false (HL.out ▸ HADJ.out), ← HL.out]
        exact ⟨_, rfl, ho2, by first | exact below_dr hb1 _ | exact below_dr (below_dr hb1 _) _⟩
  · by_cases hz : z = 0
    · have HLn : Hid (L = t) := by rw [HL.out]; exact normL_zero (by rw [← HL0.out, hcase, hz])
      have HCase : Hid (L0 = 0 :: L) := by rw [HLn.out, hcase, hz]; rfl
      clear hcase hz
      go_enter Try.func14, Try.ntmps14
      go_wp2_with (go_at_call 40; refine (HC.out _ HS.out HX.out hl).mono ?_; rintro e w1 ⟨v1, rfl, ho1, hb1⟩; rw [← HL0.out, HCase.out] at ho1; rw [← HB.out] at ho1 hb1; obtain ⟨a0, c0, rfl, ho0⟩ := ownT_shape (ownT_of_own ho1); obtain ⟨A1, hrun1, ho2⟩ := ownT_tail Try.underlying22 sizeOf_int ho0; obtain ⟨b0, o0, rfl, hcell0⟩ := (OwnT.slv ho0).head; simp only [List.length_cons] at hrun1; clear ho1 ho0)
      generalize hA1 : (some A1) = a1 at ho2
      generalize hC1 : c0 - 1 = c1 at ho2
      clear hA1 hC1
      go_loopw [5] (fun i wr => ∃ j nd : Nat, j ≤ L.length ∧ wr = w1.drewN nd ∧ i = .int .i64 ((j : Int) + 1) ∧ Hid ((List.range (j + 1)).any (adjAt L) = false)) (fun i _ => L.length + 1 - (intOf i).toNat)
      case atStart => exact ⟨0, 0, Nat.zero_le _, rfl, rfl, rfl⟩
      case round =>
        obtain ⟨j, nd, hj, rfl, rfl, hrel⟩ := hrel
        by_cases hlt : j + 1 < L.length
        · obtain ⟨b, off, x, rfl, hc, hx⟩ := (OwnT.slv ho2).int hlt
          obtain ⟨b', off', y, hbb, hd, hy⟩ := (OwnT.slv ho2).int (k := j) (by omega)
          simp at hbb
          obtain ⟨rfl, rfl⟩ := hbb
          have hx64 : I64 x := HXL.out x (List.mem_of_getElem? hx)
          have hy64 : I64 y := HXL.out y (List.mem_of_getElem? hy)
          have HX1 := hid hx
          have HY1 := hid hy
          have HO2 := hid ho2
          have e1 : IntKind.i64.wrap ((j : Int) + 1 - 1) = (j : Int) := by rw [IntWalk.i64_in _ (by omega)]; omega
          have e1' : IntKind.i64.wrap (j : Int) = (j : Int) := IntWalk.i64_in (j : Int) (by omega)
          have e2 : 0 ≤ (j : Int) + 1 := by omega
          have e3 : ((j : Int) + 1).toNat = j + 1 := by omega
          have e4 : (j : Int) + 1 < L.length := by omega
          have e5 : (j : Int) < L.length := by omega
          clear hx hy ho2
          go_wp2_with fail
          go_quiet ((go_at_call 41; first | exact quiet_same2 (lit_size _ _ (by assumption)) | exact quiet_same (lit_size _ _ (by assumption))))
          clear e1 e1' e2 e3
          go_wp2_with fail
          · have hne : ((x.natAbs : Int) == y.natAbs) = true := by assumption
            go_ret2
            have hadj := adjB_of HX1.out HY1.out hne
            rw [hadj, normV_true (HL.out ▸ hadj)]
            exact ⟨_, rfl, ⟨none, 0, rfl, Nat.le_refl _, fun _ => rfl, nofun⟩, by first | exact below_dr hb1 _ | exact below_dr (below_dr hb1 _) _⟩
          · have hne : ((x.natAbs : Int) == y.natAbs) = false := by assumption
            go_roundw
            case rel => exact ⟨j + 1, _, by omega, (by first | rfl | exact World.drewN_drewN ..), by go_num, adj_step HX1.out HY1.out hne hrel⟩
            case measure => simp [intOf]; omega
        · have hadj := adjB_not hlt hrel
          have HADJ := hid hadj
          clear hadj
          go_wp2_with fail
          go_ret2
          rw [HADJ.out, normV_false (HL.out ▸ HADJ.out), ← HL.out]
          exact ⟨_, rfl, ho2, by first | exact below_dr hb1 _ | exact below_dr (below_dr hb1 _) _⟩
    · have HLn : Hid (L = z :: t) := by rw [HL.out]; exact normL_cons (by rw [← HL0.out, hcase]) hz
      have HCase : Hid (L0 = L) := by rw [HLn.out, hcase]; rfl
      have hz' : (z == 0) = false := by simp [hz]
      have hl1 : 0 < L.length := by rw [HLn.out]; simp
      clear hcase hz
      go_enter Try.func14, Try.ntmps14
      go_wp2_with (go_at_call 40; refine (HC.out _ HS.out HX.out hl).mono ?_; rintro e w1 ⟨v1, rfl, ho1, hb1⟩; rw [← HL0.out, HCase.out] at ho1; rw [← HB.out] at ho1 hb1; obtain ⟨a1, c1, rfl, ho2⟩ := ownT_shape (ownT_of_own ho1); obtain ⟨b0, o0, rfl, hcell0⟩ := (show SlV w1 a1 (ints (z :: t)) from HLn.out ▸ OwnT.slv ho2).head; clear ho1; have hl0 : decide (0 < L.length) = true := (by rw [HLn.out]; simp))
      clear hl0 hl1 hcell0
      generalize hA1 : (some (⟨b0, o0, none⟩ : Addr)) = a1 at ho2
      clear hA1
      go_loopw [5] (fun i wr => ∃ j nd : Nat, j ≤ L.length ∧ wr = w1.drewN nd ∧ i = .int .i64 ((j : Int) + 1) ∧ Hid ((List.range (j + 1)).any (adjAt L) = false)) (fun i _ => L.length + 1 - (intOf i).toNat)
      case atStart => exact ⟨0, 0, Nat.zero_le _, rfl, rfl, rfl⟩
      case round =>
        obtain ⟨j, nd, hj, rfl, rfl, hrel⟩ := hrel
        by_cases hlt : j + 1 < L.length
        · obtain ⟨b, off, x, rfl, hc, hx⟩ := (OwnT.slv ho2).int hlt
          obtain ⟨b', off', y, hbb, hd, hy⟩ := (OwnT.slv ho2).int (k := j) (by omega)
          simp at hbb
          obtain ⟨rfl, rfl⟩ := hbb
          have hx64 : I64 x := HXL.out x (List.mem_of_getElem? hx)
          have hy64 : I64 y := HXL.out y (List.mem_of_getElem? hy)
          have HX1 := hid hx
          have HY1 := hid hy
          have HO2 := hid ho2
          have e1 : IntKind.i64.wrap ((j : Int) + 1 - 1) = (j : Int) := by rw [IntWalk.i64_in _ (by omega)]; omega
          have e1' : IntKind.i64.wrap (j : Int) = (j : Int) := IntWalk.i64_in (j : Int) (by omega)
          have e2 : 0 ≤ (j : Int) + 1 := by omega
          have e3 : ((j : Int) + 1).toNat = j + 1 := by omega
          have e4 : (j : Int) + 1 < L.length := by omega
          have e5 : (j : Int) < L.length := by omega
          clear hx hy ho2
          go_wp2_with fail
          go_quiet ((go_at_call 41; first | exact quiet_same2 (lit_size _ _ (by assumption)) | exact quiet_same (lit_size _ _ (by assumption))))
          clear e1 e1' e2 e3
          go_wp2_with fail
          · have hne : ((x.natAbs : Int) == y.natAbs) = true := by assumption
            go_ret2
            have hadj := adjB_of HX1.out HY1.out hne
            rw [hadj, normV_true (HL.out ▸ hadj)]
            exact ⟨_, rfl, ⟨none, 0, rfl, Nat.le_refl _, fun _ => rfl, nofun⟩, by first | exact below_dr hb1 _ | exact below_dr (below_dr hb1 _) _⟩
          · have hne : ((x.natAbs : Int) == y.natAbs) = false := by assumption
            go_roundw
            case rel => exact ⟨j + 1, _, by omega, (by first | rfl | exact World.drewN_drewN ..), by go_num, adj_step HX1.out HY1.out hne hrel⟩
            case measure => simp [intOf]; omega
        · have hadj := adjB_not hlt hrel
          have HADJ := hid hadj
          clear hadj
          go_wp2_with fail
          go_ret2
          rw [HADJ.out, normV_false (HL.out ▸ HADJ.out), ← HL.out]
          exact ⟨_, rfl, ho2, by first | exact below_dr hb1 _ | exact below_dr (below_dr hb1 _) _⟩

end Go.Proofs.Ytfgaglgaofceiaa
