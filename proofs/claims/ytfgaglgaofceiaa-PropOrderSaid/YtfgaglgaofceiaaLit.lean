/- The contracts of package lit's small functions: size, Less, Check, Holds. -/
import Derived.Test.YtfgaglgaofceiaaProg
import Derived.Test.YtfgaglgaofceiaaPLit
namespace Go.Proofs.Ytfgaglgaofceiaa
open Go.RowKit

set_option maxHeartbeats 400000 in
theorem lit_size (a : Int) (w : World) (h : I64 a) :
    Calls Try.prog 41 #[.int .i64 a] w fun e w' => e = .returned (.int .u64 (a.natAbs : Int)) ∧ w = w' := by
  obtain ⟨h1, h2⟩ := h
  by_cases h : a < 0
  · go_enter Try.func41, Try.ntmps41
    go_wp2
    go_ret
    refine ⟨?_, rfl⟩
    simp [IntKind.wrap, IntKind.signed, IntKind.bits]
    omega
  · go_enter Try.func41, Try.ntmps41
    go_wp2
    go_ret
    refine ⟨?_, rfl⟩
    simp
    omega

set_option maxHeartbeats 400000 in
theorem lit_Less (a b : Int) (w : World) (ha : I64 a) (hb : I64 b) :
    Calls Try.prog 18 #[.int .i64 a, .int .i64 b] w fun e w' => e = .returned (.bool (lessB a b)) ∧ w = w' := by
  go_enter Try.func18, Try.ntmps18
  go_wp2_with (go_at_call 41; refine (lit_size _ _ (by assumption)).mono ?_; rintro e w' ⟨rfl, rfl⟩)
  · go_ret
    refine ⟨?_, rfl⟩
    have h : ((a.natAbs : Int) != b.natAbs) = true := by assumption
    simp at h
    simp [lessB]
    omega
  · go_ret
    refine ⟨?_, rfl⟩
    have h : ((a.natAbs : Int) != b.natAbs) = false := by assumption
    have h' : a.natAbs = b.natAbs := by simp at h; omega
    simp [lessB, h']

set_option maxHeartbeats 400000 in
theorem lit_Check (n : Int) (a : Option Addr) (xs : List Int) (cap : Nat) (w : World) (hx : ∀ x ∈ xs, I64 x) (hs : SlV w a (ints xs))
    (hl : xs.length ≤ 9223372036854775807) :
    Calls Try.prog 15 #[.int .i64 n, .slice a xs.length cap] w fun e w' => e = .returned (.int .i64 (litCheck n xs)) ∧ w = w' := by
  have H := hid hx
  clear hx
  go_enter Try.func15, Try.ntmps15
  go_wp2_with fail
  all_goals try (go_ret; exact ⟨by first | rw [litCheck_long (by omega) (by omega)]; rfl | rw [litCheck_range (by omega)]; rfl, rfl⟩)
  have h1 : 0 ≤ n ∧ n ≤ 1048576 := by assumption
  have h2 : (xs.length : Int) ≤ 4096 := by assumption
  go_loop [18] (fun i => ∃ k : Nat, k ≤ xs.length ∧ i = .int .i64 k ∧ Hid ((xs.take k).any (badLit n) = false)) (fun i => xs.length - (intOf i).toNat)
  case atStart => exact ⟨0, Nat.zero_le _, rfl, rfl⟩
  case round =>
    obtain ⟨k, hk, rfl, hrel⟩ := hrel
    by_cases hlt : k < xs.length
    · obtain ⟨b, off, x, rfl, hc, hx⟩ := hs.int hlt
      have hx64 : I64 x := H.out x (List.mem_of_getElem? hx)
      have HX := hid hx
      clear hx hs
      by_cases hz : x = 0
      · have hz' : (x == 0) = true := by simp [hz]
        have HZ := hid hz
        clear hz
        go_wp2_with (go_at_call 41; refine (lit_size _ _ (by assumption)).mono ?_; rintro e w' ⟨rfl, rfl⟩)
        go_ret
        exact ⟨by rw [litCheck_bad h1 h2 (any_of_get HX.out (by simp [badLit, HZ.out]))]; rfl, rfl⟩
      · have hz' : (x == 0) = false := by simp [hz]
        have HZ := hid hz
        clear hz
        go_wp2_with (go_at_call 41; refine (lit_size _ _ (by assumption)).mono ?_; rintro e w' ⟨rfl, rfl⟩)
        · have hlt : n < x.natAbs := by assumption
          go_ret
          exact ⟨by rw [litCheck_bad h1 h2 (any_of_get HX.out (by simp [badLit, hlt]))]; rfl, rfl⟩
        · go_round
          case rel => exact ⟨k + 1, by omega, by go_num, take_any_succ HX.out hrel (by simp [badLit, HZ.out]; omega)⟩
          case measure => simp [intOf]; omega
    · go_wp2_with fail
      go_ret
      exact ⟨by rw [litCheck_ok h1 h2 (take_all_false hlt hrel)]; rfl, rfl⟩

set_option maxHeartbeats 400000 in
theorem lit_Holds (am : Option Addr) (m : List Bool) (capm : Nat) (a : Option Addr) (xs : List Int) (cap : Nat) (w : World) (hm : SlV w am (bools m)) (hx : ∀ x ∈ xs, I64 x)
    (hs : SlV w a (ints xs)) (hl : xs.length ≤ 9223372036854775807) (hlm : m.length ≤ 9223372036854775807) :
    Calls Try.prog 16 #[.slice am m.length capm, .slice a xs.length cap] w fun e w' => e = .returned (.bool (holdsB m xs)) ∧ w = w' := by
  have H := hid hx
  clear hx
  go_enter Try.func16, Try.ntmps16
  go_wp2_with fail
  go_loop [10] (fun i => ∃ k : Nat, k ≤ xs.length ∧ i = .int .i64 k ∧ Hid ((xs.take k).any (litHolds m) = false)) (fun i => xs.length - (intOf i).toNat)
  case atStart => exact ⟨0, Nat.zero_le _, rfl, rfl⟩
  case round =>
    obtain ⟨k, hk, rfl, hrel⟩ := hrel
    by_cases hlt : k < xs.length
    · obtain ⟨b, off, x, rfl, hc, hx⟩ := hs.int hlt
      have hx64 : I64 x := H.out x (List.mem_of_getElem? hx)
      have HX := hid hx
      clear hx hs
      by_cases hz : x = 0
      · have HZ := hid hz
        have h0 : ¬ (0 : Int) < x.natAbs := by omega
        clear hz
        go_wp2_with (go_at_call 41; refine (lit_size _ _ (by assumption)).mono ?_; rintro e w' ⟨rfl, rfl⟩)
        go_round
        case rel => exact ⟨k + 1, by omega, by go_num, take_any_succ HX.out hrel (litHolds_zero HZ.out)⟩
        case measure => simp [intOf]; omega
      · have h0 : (0 : Int) < x.natAbs := by omega
        by_cases hle : x.natAbs ≤ m.length
        · obtain ⟨b', off', y, rfl, hc', hy⟩ := hm.bool (show x.natAbs - 1 < m.length by omega)
          have HY := hid hy
          have h0' : 0 < x.natAbs := by omega
          clear hy hm hz
          go_wp2_with (go_at_call 41; refine (lit_size _ _ (by assumption)).mono ?_; rintro e w' ⟨rfl, rfl⟩)
          · have hb : (y == decide (0 < x)) = true := by assumption
            go_ret
            exact ⟨by rw [holdsB, any_of_get HX.out (by rw [litHolds_in h0' HY.out]; exact hb)]; rfl, rfl⟩
          · have hb : (y == decide (0 < x)) = false := by assumption
            go_round
            case rel => exact ⟨k + 1, by omega, by go_num, take_any_succ HX.out hrel (by rw [litHolds_in h0' HY.out]; exact hb)⟩
            case measure => simp [intOf]; omega
        · have h1 : ¬ (x.natAbs : Int) ≤ m.length := by omega
          go_wp2_with (go_at_call 41; refine (lit_size _ _ (by assumption)).mono ?_; rintro e w' ⟨rfl, rfl⟩)
          go_round
          case rel => exact ⟨k + 1, by omega, by go_num, take_any_succ HX.out hrel (litHolds_out (by omega))⟩
          case measure => simp [intOf]; omega
    · go_wp2_with fail
      go_ret
      exact ⟨by rw [holdsB, take_all_false hlt hrel]; rfl, rfl⟩

end Go.Proofs.Ytfgaglgaofceiaa
