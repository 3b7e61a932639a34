/- The contracts of lit.Norm and the reference's Norm once more, with their results under names; weepholelaw01.has. -/
import Derived.Test.YtaekcejenagbgaaRefN
namespace Go.Proofs.Ytaekcejenagbgaa
open Go.RowKit

theorem lit_NormR (a : Option Addr) (xs ys : List Int) (r : Bool) (m cap : Nat) (w : World) (hr : adjB (normL xs) = r) (hy : normV xs = ys) (hm : m = xs.length) (hcap : m ≤ cap) (hc0 : a = none → cap = 0) (hs : SlV w a (ints xs)) (hx : ∀ x ∈ xs, I64 x) (hl : xs.length ≤ 4294967296) :
    Calls Try.prog 34 #[.slice a m cap] w fun e w' =>
      ∃ a' c', e = .returned (.tuple #[.slice a' ys.length c', .bool r]) ∧ OwnT 3 w' w.heap.size (.slice a' ys.length c') ys ∧ Below w.heap.size w w' := by
  refine (lit_Norm a xs m cap w hm hcap hc0 hs hx hl).mono ?_
  rintro e w' ⟨v, rfl, ho, hb⟩
  rw [hy] at ho
  obtain ⟨a', c', rfl, ho'⟩ := ownT_shape ho
  exact ⟨a', c', by rw [hr], ho', hb⟩

theorem ref01_NormR (a : Option Addr) (xs ys : List Int) (r : Bool) (m cap : Nat) (w : World) (hr : adjB (normL xs) = r) (hy : normV xs = ys) (hm : m = xs.length) (hs : SlV w a (ints xs)) (hx : ∀ x ∈ xs, I64 x) (hl : xs.length ≤ 65536) :
    Calls Try.prog 35 #[.slice a m cap] w fun e w' =>
      ∃ a' c', e = .returned (.tuple #[.slice a' ys.length c', .bool r]) ∧ SlV w' a' (ints ys) ∧ Below w.heap.size w w' := by
  refine (ref01_Norm a xs m cap w hm hs hx hl).mono ?_
  rintro e w' ⟨v, rfl, ho, hb⟩
  rw [hy] at ho
  obtain ⟨a', c', rfl, _, _, ho'⟩ := ho
  exact ⟨a', c', by rw [hr], ho', hb⟩

theorem normV_length (xs : List Int) : (normV xs).length ≤ xs.length := by
  unfold normV
  split
  · simp
  · exact normL_length xs

theorem mem_normV {x : Int} {xs : List Int} (h : x ∈ normV xs) : x ∈ xs := by
  unfold normV at h
  split at h
  · simp at h
  · exact mem_normL h

theorem eqI_self (xs : List Int) : eqI xs xs = true := by simp [eqI]

set_option maxHeartbeats 400000 in
theorem law01_has (a : Option Addr) (xs : List Int) (m cap : Nat) (x : Int) (r : Bool) (w : World) (hr : xs.any (fun y => y == x) = r) (hm : m = xs.length) (hs : SlV w a (ints xs)) (hl : xs.length ≤ 9223372036854775807) :
    Calls Try.prog 40 #[.slice a m cap, .int .i64 x] w fun e w' => e = .returned (.bool r) ∧ w = w' := by
  subst hm
  have HR := hid hr
  clear hr
  go_enter Try.func40, Try.ntmps40
  go_wp2_with fail
  go_loop [5] (fun i => ∃ k : Nat, k ≤ xs.length ∧ i = .int .i64 k ∧ Hid ((xs.take k).any (fun y => y == x) = false)) (fun i => xs.length - (intOf i).toNat)
  case atStart => exact ⟨0, Nat.zero_le _, rfl, rfl⟩
  case round =>
    obtain ⟨k, hk, rfl, hrel⟩ := hrel
    by_cases hlt : k < xs.length
    · obtain ⟨b, off, y, rfl, hc, hy⟩ := hs.int hlt
      have HY := hid hy
      clear hy hs
      cases hz : (y == x) with
      | true =>
        have HZ := hid hz
        go_wp2_with fail
        go_ret
        exact ⟨by rw [← HR.out, any_of_get HY.out (by simpa using HZ.out)]; rfl, rfl⟩
      | false =>
        have HZ := hid hz
        go_wp2_with fail
        go_round
        case rel => exact ⟨k + 1, by omega, by go_num, take_any_succ HY.out hrel (by simpa using HZ.out)⟩
        case measure => simp [intOf]; omega
    · go_wp2_with fail
      go_ret
      exact ⟨by rw [← HR.out, take_all_false hlt hrel]; rfl, rfl⟩

end Go.Proofs.Ytaekcejenagbgaa
