/- The contracts of the reference's functions of layer 1: size, Less, Check, Holds. -/
import Derived.Test.YtaekcejenagbgaaProg
import Derived.Test.YtaekcejenagbgaaPLit
namespace Go.Proofs.Ytaekcejenagbgaa
open Go.RowKit

set_option maxHeartbeats 400000 in
theorem ref01_size (a : Int) (w : World) (h : I64 a) :
    Calls Try.prog 47 #[.int .i64 a] w fun e w' => e = .returned (.int .u64 (a.natAbs : Int)) ∧ w = w' := by
  obtain ⟨h1, h2⟩ := h
  by_cases h : a < 0
  · go_enter Try.func47, Try.ntmps47
    go_wp2
    go_ret
    refine ⟨?_, rfl⟩
    simp [IntKind.wrap, IntKind.signed, IntKind.bits]
    omega
  · go_enter Try.func47, Try.ntmps47
    go_wp2
    go_ret
    refine ⟨?_, rfl⟩
    simp
    omega

set_option maxHeartbeats 400000 in
theorem ref01_Less (a b : Int) (w : World) (ha : I64 a) (hb : I64 b) :
    Calls Try.prog 38 #[.int .i64 a, .int .i64 b] w fun e w' => e = .returned (.bool (lessB a b)) ∧ w = w' := by
  go_enter Try.func38, Try.ntmps38
  go_wp2_with (go_at_call 47; refine (ref01_size _ _ (by assumption)).mono ?_; rintro e w' ⟨rfl, rfl⟩)
  · have h1 : b.natAbs ≤ a.natAbs := by assumption
    have h2 : (a.natAbs : Int) = b.natAbs := by assumption
    have h3 : a.natAbs = b.natAbs := by omega
    go_ret
    exact ⟨by simp [lessB, h3], rfl⟩
  · have h1 : b.natAbs ≤ a.natAbs := by assumption
    have h2 : ¬ (a.natAbs : Int) = b.natAbs := by assumption
    have h3 : ¬ a.natAbs = b.natAbs := by omega
    go_ret
    exact ⟨by simp [lessB, h3], rfl⟩
  · have h1 : ¬ b.natAbs ≤ a.natAbs := by assumption
    have h3 : a.natAbs < b.natAbs := by omega
    go_ret
    exact ⟨by simp [lessB, h3], rfl⟩

set_option maxHeartbeats 400000 in
theorem ref01_Check (n : Int) (a : Option Addr) (xs : List Int) (cap : Nat) (w : World) (hx : ∀ x ∈ xs, I64 x) (hs : SlV w a (ints xs))
    (hl : xs.length ≤ 9223372036854775807) :
    Calls Try.prog 33 #[.int .i64 n, .slice a xs.length cap] w fun e w' => e = .returned (.int .i64 (litCheck n xs)) ∧ w = w' := by
  have H := hid hx
  clear hx
  go_enter Try.func33, Try.ntmps33
  go_wp2_with fail
  all_goals try (go_ret; exact ⟨by first | rw [litCheck_long (by omega) (by omega)]; rfl | rw [litCheck_range (by omega)]; rfl, rfl⟩)
  have h1 : 0 ≤ n ∧ n ≤ 1048576 := by assumption
  have h2 : (xs.length : Int) ≤ 4096 := by assumption
  go_loop [5] (fun i => ∃ k : Nat, k ≤ xs.length ∧ i = .int .i64 k ∧ Hid ((xs.take k).any (badLit n) = false)) (fun i => xs.length - (intOf i).toNat)
  case atStart => exact ⟨0, Nat.zero_le _, rfl, rfl⟩
  case round =>
    obtain ⟨k, hk, rfl, hrel⟩ := hrel
    by_cases hlt : k < xs.length
    · obtain ⟨b, off, x, rfl, hc, hx⟩ := hs.int hlt
      have hx64 : I64 x := H.out x (List.mem_of_getElem? hx)
      have HX := hid hx
      clear hx hs
      by_cases hz : x = 0
      · have hz' : (x == 0) = true := by simp [hz]
        have HZ := hid hz
        clear hz
        go_wp2_with (go_at_call 47; refine (ref01_size _ _ (by assumption)).mono ?_; rintro e w' ⟨rfl, rfl⟩)
        go_ret
        exact ⟨by rw [litCheck_bad h1 h2 (any_of_get HX.out (by simp [badLit, HZ.out]))]; rfl, rfl⟩
      · have hz' : (x == 0) = false := by simp [hz]
        have HZ := hid hz
        clear hz
        go_wp2_with (go_at_call 47; refine (ref01_size _ _ (by assumption)).mono ?_; rintro e w' ⟨rfl, rfl⟩)
        · have hlt : n < x.natAbs := by assumption
          go_ret
          exact ⟨by rw [litCheck_bad h1 h2 (any_of_get HX.out (by simp [badLit, hlt]))]; rfl, rfl⟩
        · go_round
          case rel => exact ⟨k + 1, by omega, by go_num, take_any_succ HX.out hrel (by simp [badLit, HZ.out]; omega)⟩
          case measure => simp [intOf]; omega
    · go_wp2_with fail
      go_ret
      exact ⟨by rw [litCheck_ok h1 h2 (take_all_false hlt hrel)]; rfl, rfl⟩

set_option maxHeartbeats 400000 in
theorem ref01_Holds (am : Option Addr) (m : List Bool) (capm : Nat) (a : Option Addr) (xs : List Int) (cap : Nat) (w : World) (hm : SlV w am (bools m)) (hx : ∀ x ∈ xs, I64 x)
    (hs : SlV w a (ints xs)) (hl : xs.length ≤ 9223372036854775807) (hlm : m.length ≤ 9223372036854775807) :
    Calls Try.prog 39 #[.slice am m.length capm, .slice a xs.length cap] w fun e w' => e = .returned (.bool (holdsB m xs)) ∧ ∃ n, w' = w.drewN n := by
  have H := hid hx
  clear hx
  go_enter Try.func39, Try.ntmps39
  go_wp2_with fail
  go_loopw [5] (fun i wr => ∃ k n : Nat, k ≤ xs.length ∧ wr = w.drewN n ∧ i = .int .i64 k ∧ Hid ((xs.take k).any (litHolds m) = false)) (fun i _ => xs.length - (intOf i).toNat)
  case atStart => exact ⟨0, 0, Nat.zero_le _, rfl, rfl, rfl⟩
  case round =>
    obtain ⟨k, nd, hk, rfl, rfl, hrel⟩ := hrel
    by_cases hlt : k < xs.length
    · obtain ⟨b, off, x, rfl, hc, hx⟩ := hs.int hlt
      have hx64 : I64 x := H.out x (List.mem_of_getElem? hx)
      have HX := hid hx
      clear hx hs
      by_cases hz : x = 0
      · have HZ := hid hz
        have h0 : decide (x = 0) = true := by simp [hz]
        clear hz
        go_wp2_with (go_at_call 47; refine (ref01_size _ _ (by assumption)).mono ?_; rintro e w' ⟨rfl, rfl⟩)
        go_quiet (fail)
        go_wp2_with fail
        go_roundw
        case rel => exact ⟨k + 1, _, by omega, (by first | rfl | exact World.drewN_drewN ..), by go_num, take_any_succ HX.out hrel (litHolds_zero HZ.out)⟩
        case measure => simp [intOf]; omega
      · have h0 : (0 : Int) < x.natAbs := by omega
        by_cases hle : x.natAbs ≤ m.length
        · obtain ⟨b', off', y, rfl, hc', hy⟩ := hm.bool (show x.natAbs - 1 < m.length by omega)
          have HY := hid hy
          have h0' : 0 < x.natAbs := by omega
          have hd0 : decide ((0 : Int) < x.natAbs) = true := by simp [hz]
          have hd1 : decide ((x.natAbs : Int) ≤ m.length) = true := by simp; omega
          have e1 : IntKind.u64.wrap ((x.natAbs : Int) - 1) = (x.natAbs : Int) - 1 := IntWalk.u64_in _ (by unfold I64 at hx64; omega)
          have e2 : 0 ≤ (x.natAbs : Int) - 1 := by omega
          have e3 : ((x.natAbs : Int) - 1).toNat = x.natAbs - 1 := by omega
          have e4 : (x.natAbs : Int) - 1 < m.length := by omega
          have e5 : (k : Int) < xs.length := by omega
          clear hy hm
          go_wp2_with (go_at_call 47; refine (ref01_size _ _ (by assumption)).mono ?_; rintro e w' ⟨rfl, rfl⟩)
          go_quiet (fail)
          go_wp2_with fail
          · have hb : (y == decide (0 < x)) = true := by assumption
            go_ret
            exact ⟨by rw [holdsB, any_of_get HX.out (by rw [litHolds_in h0' HY.out]; exact hb)]; rfl, _, by first | rfl | exact World.drewN_drewN ..⟩
          · have hb : (y == decide (0 < x)) = false := by assumption
            go_roundw
            case rel => exact ⟨k + 1, _, by omega, (by first | rfl | exact World.drewN_drewN ..), by go_num, take_any_succ HX.out hrel (by rw [litHolds_in h0' HY.out]; exact hb)⟩
            case measure => simp [intOf]; omega
        · have h1 : decide ((x.natAbs : Int) ≤ m.length) = false := by simp; omega
          go_wp2_with (go_at_call 47; refine (ref01_size _ _ (by assumption)).mono ?_; rintro e w' ⟨rfl, rfl⟩)
          go_quiet (fail)
          go_wp2_with fail
          go_roundw
          case rel => exact ⟨k + 1, _, by omega, (by first | rfl | exact World.drewN_drewN ..), by go_num, take_any_succ HX.out hrel (litHolds_out (by omega))⟩
          case measure => simp [intOf]; omega
    · go_wp2_with fail
      go_ret
      exact ⟨by rw [holdsB, take_all_false hlt hrel]; rfl, _, by first | rfl | exact World.drewN_drewN ..⟩

end Go.Proofs.Ytaekcejenagbgaa
