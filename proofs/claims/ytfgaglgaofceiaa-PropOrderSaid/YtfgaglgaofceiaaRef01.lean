/- The contracts of the reference's functions of layer 1: size, Less, Check, Holds. -/
import Derived.Test.YtfgaglgaofceiaaProg
import Derived.Test.YtfgaglgaofceiaaPLit
namespace Go.Proofs.Ytfgaglgaofceiaa
open Go.RowKit

set_option maxHeartbeats 400000 in
theorem ref01_size (a : Int) (w : World) (h : I64 a) :
    Calls Try.prog 67 #[.int .i64 a] w fun e w' => e = .returned (.int .u64 (a.natAbs : Int)) ∧ w = w' := by
  obtain ⟨h1, h2⟩ := h
  by_cases h : a < 0
  · go_enter Try.func67, Try.ntmps67
    go_wp2
    go_ret
    refine ⟨?_, rfl⟩
    simp [IntKind.wrap, IntKind.signed, IntKind.bits]
    omega
  · go_enter Try.func67, Try.ntmps67
    go_wp2
    go_ret
    refine ⟨?_, rfl⟩
    simp
    omega

set_option maxHeartbeats 400000 in
theorem ref01_Check (n : Int) (a : Option Addr) (xs : List Int) (cap : Nat) (w : World) (hx : ∀ x ∈ xs, I64 x) (hs : SlV w a (ints xs))
    (hl : xs.length ≤ 9223372036854775807) :
    Calls Try.prog 56 #[.int .i64 n, .slice a xs.length cap] w fun e w' => e = .returned (.int .i64 (litCheck n xs)) ∧ w = w' := by
  have H := hid hx
  clear hx
  go_enter Try.func56, Try.ntmps56
  go_wp2_with fail
  all_goals try (go_ret; exact ⟨by first | rw [litCheck_long (by omega) (by omega)]; rfl | rw [litCheck_range (by omega)]; rfl, rfl⟩)
  have h1 : 0 ≤ n ∧ n ≤ 1048576 := by assumption
  have h2 : (xs.length : Int) ≤ 4096 := by assumption
  go_loop [5] (fun i => ∃ k : Nat, k ≤ xs.length ∧ i = .int .i64 k ∧ Hid ((xs.take k).any (badLit n) = false)) (fun i => xs.length - (intOf i).toNat)
  case atStart => exact ⟨0, Nat.zero_le _, rfl, rfl⟩
  case round =>
    obtain ⟨k, hk, rfl, hrel⟩ := hrel
    by_cases hlt : k < xs.length
    · obtain ⟨b, off, x, rfl, hc, hx⟩ := hs.int hlt
      have hx64 : I64 x := H.out x (List.mem_of_getElem? hx)
      have HX := hid hx
      clear hx hs
      by_cases hz : x = 0
      · have hz' : (x == 0) = true := by simp [hz]
        have HZ := hid hz
        clear hz
        go_wp2_with (go_at_call 67; refine (ref01_size _ _ (by assumption)).mono ?_; rintro e w' ⟨rfl, rfl⟩)
        go_ret
        exact ⟨by rw [litCheck_bad h1 h2 (any_of_get HX.out (by simp [badLit, HZ.out]))]; rfl, rfl⟩
      · have hz' : (x == 0) = false := by simp [hz]
        have HZ := hid hz
        clear hz
        go_wp2_with (go_at_call 67; refine (ref01_size _ _ (by assumption)).mono ?_; rintro e w' ⟨rfl, rfl⟩)
        · have hlt : n < x.natAbs := by assumption
          go_ret
          exact ⟨by rw [litCheck_bad h1 h2 (any_of_get HX.out (by simp [badLit, hlt]))]; rfl, rfl⟩
        · go_round
          case rel => exact ⟨k + 1, by omega, by go_num, take_any_succ HX.out hrel (by simp [badLit, HZ.out]; omega)⟩
          case measure => simp [intOf]; omega
    · go_wp2_with fail
      go_ret
      exact ⟨by rw [litCheck_ok h1 h2 (take_all_false hlt hrel)]; rfl, rfl⟩

end Go.Proofs.Ytfgaglgaofceiaa
