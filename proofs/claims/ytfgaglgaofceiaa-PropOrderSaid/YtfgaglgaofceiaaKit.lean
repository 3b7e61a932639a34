/- The contracts of the kit package's functions on lists of ints: CopyInts, EqualInts. -/
import Derived.Test.YtfgaglgaofceiaaProg
import Derived.Test.YtfgaglgaofceiaaBase
namespace Go.Proofs.Ytfgaglgaofceiaa
open Go.RowKit

theorem info_int : (Try.prog.info? 3).map (fun i => (i.zero, i.size, i.bytes)) = some (some (.int .i64 0), 1, 8) := by kernel_rfl

theorem one_new {w : World} {a : Addr} {x : Value} (h : w.cell? a = some x) : ∀ j u, ([x] : List Value)[j]? = some u → w.cell? (a.add j) = some u := by
  intro j u hj
  match j, hj with
  | 0, hj => simp at hj; subst hj; simpa [Addr.add] using h

set_option maxHeartbeats 400000 in
theorem kit_CopyInts (a : Option Addr) (xs : List Int) (cap : Nat) (w : World) (hs : SlV w a (ints xs)) (hl : xs.length ≤ 4294967296) :
    Calls Try.prog 32 #[.slice a xs.length cap] w fun e w' =>
      ∃ v, e = .returned v ∧ w'.ownsRow w.heap.size 3 1 v xs.length (ints xs) ∧ Below w.heap.size w w' := by
  obtain ⟨i0, hi, hz0, hz1, hz2⟩ := info_parts info_int
  obtain ⟨B, hB⟩ : ∃ B, B = w.heap.size := ⟨_, rfl⟩
  rw [← hB]
  have HB := hid hB
  clear hB
  go_enter Try.func32, Try.ntmps32
  go_wp2_with fail
  go_loopw [3, 4] (fun v i wr => ∃ k : Nat, k ≤ xs.length ∧ i = .int .i64 k ∧ Hid (wr.ownsRow B 3 1 v k (ints (xs.take k))) ∧ Below B w wr)
    (fun _ i _ => xs.length - (intOf i).toNat)
  case atStart => exact ⟨0, Nat.zero_le _, rfl, World.ownsRow_nil _ _ _ _, Below.refl _ _⟩
  case round =>
    obtain ⟨k, hk, rfl, hown, hb⟩ := hrel
    by_cases hlt : k < xs.length
    · obtain ⟨b, off, x, rfl, hc, hx⟩ := (hs.below (HB.out ▸ hb)).int hlt
      have HX := hid hx
      have hbs := hb.size
      clear hx hs
      go_wp2_with (at_builtin; refine wpList_append_own _ rfl _ _ 22 rfl B 3 i0 (.int .i64 0) 1 8 Try.underlying22 hi hz0 hz1 hz2 rfl (by decide) _ _ _ rfl (hown.out.alloc _) ⟨wr.heap.size, 0, none⟩ 1 1 [.int .i64 x] rfl rfl ?c1 ?c2 ?c3 ?c4 ?c5 ?_)
      case c1 => exact one_new (by simp)
      case c2 => intro u hu; simp at hu; subst hu; rfl
      case c3 => unfold maxLen; omega
      case c4 => omega
      case c5 => simp; have := HB.out; omega
      intro v' w1 hown' hgrow _
      rw [ints_take_succ HX.out] at hown'
      have HO := hid hown'
      have hb1 : Below B w w1 := (hb.alloc (by have := HB.out; omega) _).grown hgrow (by simp; have := HB.out; omega) (fun q hq => (hown.out.lt q hq).1)
      clear hown' hgrow hown hb
      go_wp2_with fail
      go_roundw
      case rel => exact ⟨k + 1, by omega, by go_num, HO, hb1⟩
      case measure => simp [intOf]; omega
    · have hkl : k = xs.length := by omega
      subst hkl
      rw [List.take_length] at hown
      go_wp2_with fail
      go_ret
      exact ⟨_, rfl, hown, hb⟩

set_option maxHeartbeats 400000 in
theorem kit_EqualInts (a b : Option Addr) (xs ys : List Int) (ca cb : Nat) (w : World) (hs : SlV w a (ints xs)) (ht : SlV w b (ints ys)) (hl : xs.length ≤ 9223372036854775807) :
    Calls Try.prog 17 #[.slice a xs.length ca, .slice b ys.length cb] w fun e w' => e = .returned (.bool (eqI xs ys)) ∧ ∃ n, w' = w.drewN n := by
  by_cases hlen : xs.length = ys.length
  · have hb1 : ((xs.length : Int) != ys.length) = false := by simp [hlen]
    have HL := hid hlen
    clear hlen
    go_enter Try.func17, Try.ntmps17
    go_wp2_with fail
    go_loopw [5] (fun i wr => ∃ k n : Nat, k ≤ xs.length ∧ wr = w.drewN n ∧ i = .int .i64 k ∧ Hid (xs.take k = ys.take k)) (fun i _ => xs.length - (intOf i).toNat)
    case atStart => exact ⟨0, 0, Nat.zero_le _, rfl, rfl, by simp [Hid]⟩
    case round =>
      obtain ⟨k, nd, hk, rfl, rfl, hrel⟩ := hrel
      by_cases hlt : k < xs.length
      · obtain ⟨b1, o1, x, rfl, hc, hx⟩ := hs.int hlt
        obtain ⟨b2, o2, y, rfl, hd, hy⟩ := ht.int (k := k) (by have := HL.out; omega)
        have HX := hid hx
        have HY := hid hy
        have hi1 : (k : Int) < xs.length := by omega
        have hi2 : (k : Int) < ys.length := by have := HL.out; omega
        clear hx hy hs ht
        go_wp2_with fail
        go_quiet (fail)
        go_wp2_with fail
        · have hne : (x != y) = true := by assumption
          go_ret
          exact ⟨by rw [eqI_at HX.out HY.out (by simpa using hne)]; rfl, _, by first | rfl | exact World.drewN_drewN ..⟩
        · have he : (x != y) = false := by assumption
          have he' : x = y := by simpa using he
          go_roundw
          case rel => exact ⟨k + 1, _, by omega, (by first | rfl | exact World.drewN_drewN ..), by go_num, take_eq_succ hrel HX.out (he' ▸ HY.out)⟩
          case measure => simp [intOf]; omega
      · go_wp2_with fail
        go_ret
        exact ⟨by rw [eqI_all hlt HL.out hrel]; rfl, _, by first | rfl | exact World.drewN_drewN ..⟩
  · have hb1 : ((xs.length : Int) != ys.length) = true := by simp; omega
    have HL := hid hlen
    clear hlen
    go_enter Try.func17, Try.ntmps17
    go_wp2_with fail
    go_ret
    exact ⟨by rw [eqI_len HL.out]; rfl, 0, rfl⟩

end Go.Proofs.Ytfgaglgaofceiaa
