/- The contracts of package lit's small functions: size, Less, Check, Holds. -/
import Derived.Test.YtfofabbnbmieoaaProg
import Derived.ProofKit
import Derived.OpenShut
import Derived.ChangeOld
import Derived.Lib.SmallJoins
import Derived.Deep.Slices
import Derived.Deep.Matrix
import Derived.Test.YtfofabbnbmieoaaQ0

namespace Go.Proofs.Ytfofabbnbmieoaa
open Go.RowKit

set_option maxHeartbeats 400000 in
theorem lit_size (a : Int) (w : World) (h : I64 a) :
    Calls Try.prog 41 #[.int .i64 a] w fun e w' => e = .returned (.int .u64 (a.natAbs : Int)) ∧ w = w' := by
  obtain ⟨h1, h2⟩ := h
  by_cases h : a < 0
  · go_enter Try.func41, Try.ntmps41
    go_wp2
    go_ret
    refine ⟨?_, rfl⟩
    simp [IntKind.wrap, IntKind.signed, IntKind.bits]
    omega
  · go_enter Try.func41, Try.ntmps41
    go_wp2
    go_ret
    refine ⟨?_, rfl⟩
    simp
    omega

set_option maxHeartbeats 400000 in
theorem lit_Less (a b : Int) (w : World) (ha : I64 a) (hb : I64 b) :
    Calls Try.prog 18 #[.int .i64 a, .int .i64 b] w fun e w' => e = .returned (.bool (lessB a b)) ∧ w = w' := by
  go_enter Try.func18, Try.ntmps18
  go_wp2_with (go_at_call 41; refine (lit_size _ _ (by assumption)).mono ?_; rintro e w' ⟨rfl, rfl⟩)
  · go_ret
    refine ⟨?_, rfl⟩
    have h : ((a.natAbs : Int) != b.natAbs) = true := by assumption
    simp at h
    simp [lessB]
    omega
  · go_ret
    refine ⟨?_, rfl⟩
    have h : ((a.natAbs : Int) != b.natAbs) = false := by assumption
    have h' : a.natAbs = b.natAbs := by simp at h; omega
    simp [lessB, h']

set_option maxHeartbeats 400000 in
theorem lit_Check (n : Int) (a : Option Addr) (xs : List Int) (cap : Nat) (w : World) (hx : ∀ x ∈ xs, I64 x) (hs : SlV w a (ints xs))
    (hl : xs.length ≤ 9223372036854775807) :
    Calls Try.prog 15 #[.int .i64 n, .slice a xs.length cap] w fun e w' => e = .returned (.int .i64 (litCheck n xs)) ∧ w = w' := by
  have H := hid hx
  clear hx
  go_enter Try.func15, Try.ntmps15
  go_wp2_with fail
  all_goals try (go_ret; exact ⟨by first | rw [litCheck_long (by omega) (by omega)]; rfl | rw [litCheck_range (by omega)]; rfl, rfl⟩)
  have h1 : 0 ≤ n ∧ n ≤ 1048576 := by assumption
  have h2 : (xs.length : Int) ≤ 4096 := by assumption
  go_loop [18] (fun i => ∃ k : Nat, k ≤ xs.length ∧ i = .int .i64 k ∧ Hid ((xs.take k).any (badLit n) = false)) (fun i => xs.length - (intOf i).toNat)
  case atStart => exact ⟨0, Nat.zero_le _, rfl, rfl⟩
  case round =>
    obtain ⟨k, hk, rfl, hrel⟩ := hrel
    by_cases hlt : k < xs.length
    · obtain ⟨b, off, x, rfl, hc, hx⟩ := hs.int hlt
      have hx64 : I64 x := H.out x (List.mem_of_getElem? hx)
      have HX := hid hx
      clear hx hs
      by_cases hz : x = 0
      · have hz' : (x == 0) = true := by simp [hz]
        have HZ := hid hz
        clear hz
        go_wp2_with (go_at_call 41; refine (lit_size _ _ (by assumption)).mono ?_; rintro e w' ⟨rfl, rfl⟩)
        go_ret
        exact ⟨by rw [litCheck_bad h1 h2 (any_of_get HX.out (by simp [badLit, HZ.out]))]; rfl, rfl⟩
      · have hz' : (x == 0) = false := by simp [hz]
        have HZ := hid hz
        clear hz
        go_wp2_with (go_at_call 41; refine (lit_size _ _ (by assumption)).mono ?_; rintro e w' ⟨rfl, rfl⟩)
        · have hlt : n < x.natAbs := by assumption
          go_ret
          exact ⟨by rw [litCheck_bad h1 h2 (any_of_get HX.out (by simp [badLit, hlt]))]; rfl, rfl⟩
        · go_round
          case rel => exact ⟨k + 1, by omega, by go_num, take_any_succ HX.out hrel (by simp [badLit, HZ.out]; omega)⟩
          case measure => simp [intOf]; omega
    · go_wp2_with fail
      go_ret
      exact ⟨by rw [litCheck_ok h1 h2 (take_all_false hlt hrel)]; rfl, rfl⟩

set_option maxHeartbeats 400000 in
theorem lit_Holds (am : Option Addr) (m : List Bool) (capm : Nat) (a : Option Addr) (xs : List Int) (cap : Nat) (w : World) (hm : SlV w am (bools m)) (hx : ∀ x ∈ xs, I64 x)
    (hs : SlV w a (ints xs)) (hl : xs.length ≤ 9223372036854775807) (hlm : m.length ≤ 9223372036854775807) :
    Calls Try.prog 16 #[.slice am m.length capm, .slice a xs.length cap] w fun e w' => e = .returned (.bool (holdsB m xs)) ∧ w = w' := by
  have H := hid hx
  clear hx
  go_enter Try.func16, Try.ntmps16
  go_wp2_with fail
  go_loop [10] (fun i => ∃ k : Nat, k ≤ xs.length ∧ i = .int .i64 k ∧ Hid ((xs.take k).any (litHolds m) = false)) (fun i => xs.length - (intOf i).toNat)
  case atStart => exact ⟨0, Nat.zero_le _, rfl, rfl⟩
  case round =>
    obtain ⟨k, hk, rfl, hrel⟩ := hrel
    by_cases hlt : k < xs.length
    · obtain ⟨b, off, x, rfl, hc, hx⟩ := hs.int hlt
      have hx64 : I64 x := H.out x (List.mem_of_getElem? hx)
      have HX := hid hx
      clear hx hs
      by_cases hz : x = 0
      · have HZ := hid hz
        have h0 : ¬ (0 : Int) < x.natAbs := by omega
        clear hz
        go_wp2_with (go_at_call 41; refine (lit_size _ _ (by assumption)).mono ?_; rintro e w' ⟨rfl, rfl⟩)
        go_round
        case rel => exact ⟨k + 1, by omega, by go_num, take_any_succ HX.out hrel (litHolds_zero HZ.out)⟩
        case measure => simp [intOf]; omega
      · have h0 : (0 : Int) < x.natAbs := by omega
        by_cases hle : x.natAbs ≤ m.length
        · obtain ⟨b', off', y, rfl, hc', hy⟩ := hm.bool (show x.natAbs - 1 < m.length by omega)
          have HY := hid hy
          have h0' : 0 < x.natAbs := by omega
          clear hy hm hz
          go_wp2_with (go_at_call 41; refine (lit_size _ _ (by assumption)).mono ?_; rintro e w' ⟨rfl, rfl⟩)
          · have hb : (y == decide (0 < x)) = true := by assumption
            go_ret
            exact ⟨by rw [holdsB, any_of_get HX.out (by rw [litHolds_in h0' HY.out]; exact hb)]; rfl, rfl⟩
          · have hb : (y == decide (0 < x)) = false := by assumption
            go_round
            case rel => exact ⟨k + 1, by omega, by go_num, take_any_succ HX.out hrel (by rw [litHolds_in h0' HY.out]; exact hb)⟩
            case measure => simp [intOf]; omega
        · have h1 : ¬ (x.natAbs : Int) ≤ m.length := by omega
          go_wp2_with (go_at_call 41; refine (lit_size _ _ (by assumption)).mono ?_; rintro e w' ⟨rfl, rfl⟩)
          go_round
          case rel => exact ⟨k + 1, by omega, by go_num, take_any_succ HX.out hrel (litHolds_out (by omega))⟩
          case measure => simp [intOf]; omega
    · go_wp2_with fail
      go_ret
      exact ⟨by rw [holdsB, take_all_false hlt hrel]; rfl, rfl⟩

end Go.Proofs.Ytfofabbnbmieoaa

/- The contracts of the kit package's functions on lists of ints: CopyInts, EqualInts. -/
namespace Go.Proofs.Ytfofabbnbmieoaa
open Go.RowKit

theorem info_int : (Try.prog.info? 3).map (fun i => (i.zero, i.size, i.bytes)) = some (some (.int .i64 0), 1, 8) := by kernel_rfl

theorem one_new {w : World} {a : Addr} {x : Value} (h : w.cell? a = some x) : ∀ j u, ([x] : List Value)[j]? = some u → w.cell? (a.add j) = some u := by
  intro j u hj
  match j, hj with
  | 0, hj => simp at hj; subst hj; simpa [Addr.add] using h

set_option maxHeartbeats 400000 in
theorem kit_CopyInts (a : Option Addr) (xs : List Int) (cap : Nat) (w : World) (hs : SlV w a (ints xs)) (hl : xs.length ≤ 4294967296) :
    Calls Try.prog 62 #[.slice a xs.length cap] w fun e w' =>
      ∃ v, e = .returned v ∧ w'.ownsRow w.heap.size 3 1 v xs.length (ints xs) ∧ Below w.heap.size w w' := by
  obtain ⟨i0, hi, hz0, hz1, hz2⟩ := info_parts info_int
  obtain ⟨B, hB⟩ : ∃ B, B = w.heap.size := ⟨_, rfl⟩
  rw [← hB]
  have HB := hid hB
  clear hB
  go_enter Try.func62, Try.ntmps62
  go_wp2_with fail
  go_loopw [3, 4] (fun v i wr => ∃ k : Nat, k ≤ xs.length ∧ i = .int .i64 k ∧ Hid (wr.ownsRow B 3 1 v k (ints (xs.take k))) ∧ Below B w wr)
    (fun _ i _ => xs.length - (intOf i).toNat)
  case atStart => exact ⟨0, Nat.zero_le _, rfl, World.ownsRow_nil _ _ _ _, Below.refl _ _⟩
  case round =>
    obtain ⟨k, hk, rfl, hown, hb⟩ := hrel
    by_cases hlt : k < xs.length
    · obtain ⟨b, off, x, rfl, hc, hx⟩ := (hs.below (HB.out ▸ hb)).int hlt
      have HX := hid hx
      have hbs := hb.size
      clear hx hs
      go_wp2_with (at_builtin; refine wpList_append_own _ rfl _ _ 22 rfl B 3 i0 (.int .i64 0) 1 8 Try.underlying22 hi hz0 hz1 hz2 rfl (by decide) _ _ _ rfl (hown.out.alloc _) ⟨wr.heap.size, 0, none⟩ 1 1 [.int .i64 x] rfl rfl ?c1 ?c2 ?c3 ?c4 ?c5 ?_)
      case c1 => exact one_new (by simp)
      case c2 => intro u hu; simp at hu; subst hu; rfl
      case c3 => unfold maxLen; omega
      case c4 => omega
      case c5 => simp; have := HB.out; omega
      intro v' w1 hown' hgrow _
      rw [ints_take_succ HX.out] at hown'
      have HO := hid hown'
      have hb1 : Below B w w1 := (hb.alloc (by have := HB.out; omega) _).grown hgrow (by simp; have := HB.out; omega) (fun q hq => (hown.out.lt q hq).1)
      clear hown' hgrow hown hb
      go_wp2_with fail
      go_roundw
      case rel => exact ⟨k + 1, by omega, by go_num, HO, hb1⟩
      case measure => simp [intOf]; omega
    · have hkl : k = xs.length := by omega
      subst hkl
      rw [List.take_length] at hown
      go_wp2_with fail
      go_ret
      exact ⟨_, rfl, hown, hb⟩

set_option maxHeartbeats 400000 in
theorem kit_EqualInts (a b : Option Addr) (xs ys : List Int) (ca cb : Nat) (w : World) (hs : SlV w a (ints xs)) (ht : SlV w b (ints ys)) (hl : xs.length ≤ 9223372036854775807) :
    Calls Try.prog 17 #[.slice a xs.length ca, .slice b ys.length cb] w fun e w' => e = .returned (.bool (eqI xs ys)) ∧ ∃ n, w' = w.drewN n := by
  by_cases hlen : xs.length = ys.length
  · have hb1 : ((xs.length : Int) != ys.length) = false := by simp [hlen]
    have HL := hid hlen
    clear hlen
    go_enter Try.func17, Try.ntmps17
    go_wp2_with fail
    go_loopw [5] (fun i wr => ∃ k n : Nat, k ≤ xs.length ∧ wr = w.drewN n ∧ i = .int .i64 k ∧ Hid (xs.take k = ys.take k)) (fun i _ => xs.length - (intOf i).toNat)
    case atStart => exact ⟨0, 0, Nat.zero_le _, rfl, rfl, by simp [Hid]⟩
    case round =>
      obtain ⟨k, nd, hk, rfl, rfl, hrel⟩ := hrel
      by_cases hlt : k < xs.length
      · obtain ⟨b1, o1, x, rfl, hc, hx⟩ := hs.int hlt
        obtain ⟨b2, o2, y, rfl, hd, hy⟩ := ht.int (k := k) (by have := HL.out; omega)
        have HX := hid hx
        have HY := hid hy
        have hi1 : (k : Int) < xs.length := by omega
        have hi2 : (k : Int) < ys.length := by have := HL.out; omega
        clear hx hy hs ht
        go_wp2_with fail
        go_quiet (fail)
        go_wp2_with fail
        · have hne : (x != y) = true := by assumption
          go_ret
          exact ⟨by rw [eqI_at HX.out HY.out (by simpa using hne)]; rfl, _, by first | rfl | exact World.drewN_drewN ..⟩
        · have he : (x != y) = false := by assumption
          have he' : x = y := by simpa using he
          go_roundw
          case rel => exact ⟨k + 1, _, by omega, (by first | rfl | exact World.drewN_drewN ..), by go_num, take_eq_succ hrel HX.out (he' ▸ HY.out)⟩
          case measure => simp [intOf]; omega
      · go_wp2_with fail
        go_ret
        exact ⟨by rw [eqI_all hlt HL.out hrel]; rfl, _, by first | rfl | exact World.drewN_drewN ..⟩
  · have hb1 : ((xs.length : Int) != ys.length) = true := by simp; omega
    have HL := hid hlen
    clear hlen
    go_enter Try.func17, Try.ntmps17
    go_wp2_with fail
    go_ret
    exact ⟨by rw [eqI_len HL.out]; rfl, 0, rfl⟩

end Go.Proofs.Ytfofabbnbmieoaa

/- The contract of lit.sorted at the order lit.Less, for at most one element; small lemmas. -/
namespace Go.Proofs.Ytfofabbnbmieoaa
open Go.RowKit

theorem SlV.drop {w : World} {b off : Nat} {vs : List Value} (h : SlV w (some ⟨b, off, none⟩) vs) (k : Nat) : SlV w (some ⟨b, off + k, none⟩) (vs.drop k) := by
  intro j v hj
  rw [List.getElem?_drop] at hj
  obtain ⟨b', off', he, hc⟩ := h (k + j) v hj
  simp at he
  obtain ⟨rfl, rfl⟩ := he
  exact ⟨b, off + k, rfl, by rw [Nat.add_assoc]; exact hc⟩

theorem SlV.take {w : World} {a : Option Addr} {vs : List Value} (h : SlV w a vs) (k : Nat) : SlV w a (vs.take k) := by
  intro j v hj
  rw [List.getElem?_take] at hj
  split at hj
  · exact h j v hj
  · cases hj

theorem ints_take (xs : List Int) (k : Nat) : ints (xs.take k) = (ints xs).take k := by simp [ints]
theorem ints_drop (xs : List Int) (k : Nat) : ints (xs.drop k) = (ints xs).drop k := by simp [ints]

theorem lit_Less' (a b : Int) (r : Bool) (w : World) (hr : lessB a b = r) (ha : I64 a) (hb : I64 b) :
    Calls Try.prog 18 #[.int .i64 a, .int .i64 b] w fun e w' => e = .returned (.bool r) ∧ w = w' := hr ▸ lit_Less a b w ha hb

set_option maxHeartbeats 400000 in
theorem lit_sorted_short (a : Option Addr) (xs : List Int) (m cap : Nat) (w : World) (hm : m = xs.length) (hcap : a = none → cap = 0) (hs : SlV w a (ints xs)) (h2 : xs.length < 2) :
    Calls Try.prog 40 #[.slice a m cap, .func (.func 18) #[] #[]] w fun e w' =>
      ∃ v, e = .returned v ∧ w'.ownsRow w.heap.size 3 1 v xs.length (ints xs) ∧ Below w.heap.size w w' := by
  subst hm
  obtain ⟨i0, hi, hz0, hz1, hz2⟩ := info_parts info_int
  have hd : decide ((xs.length : Int) < 2) = true := by simp; omega
  have HC := hid hcap
  clear hcap
  go_enter Try.func40, Try.ntmps40
  go_wp2_with (at_builtin; refine wpList_append_sl _ rfl _ _ 22 rfl w.heap.size 3 i0 (.int .i64 0) 8 Try.underlying22 hi hz0 hz1 hz2 rfl (.slice none 0 0) 0 [] rfl (World.ownsRow_nil _ _ _ _) a xs.length cap (ints xs) rfl hs (by simp) HC.out ints_one (by unfold maxLen; omega) (by omega) (Nat.le_refl _) ?_; intro v8 w8 ho8 hg8)
  have hb8 : Below w.heap.size w w8 := (Below.refl _ _).grown hg8 (Nat.le_refl _) (fun q hq => by simp [Value.ownBlock] at hq)
  go_ret
  exact ⟨_, rfl, by simpa using ho8, hb8⟩

end Go.Proofs.Ytfofabbnbmieoaa

/- The contract of lit.sorted at the order lit.Less. -/
namespace Go.Proofs.Ytfofabbnbmieoaa
open Go.RowKit

set_option maxHeartbeats 4000000 in
theorem lit_sorted (n : Nat) : ∀ (a : Option Addr) (xs : List Int) (m cap : Nat) (w : World), xs.length ≤ n → m = xs.length → m ≤ cap → (a = none → cap = 0) → SlV w a (ints xs) → (∀ x ∈ xs, I64 x) → xs.length ≤ 4294967296 →
    Calls Try.prog 40 #[.slice a m cap, .func (.func 18) #[] #[]] w fun e w' =>
      ∃ v, e = .returned v ∧ w'.ownsRow w.heap.size 3 1 v (msort n xs).length (ints (msort n xs)) ∧ Below w.heap.size w w' := by
  induction n with
  | zero =>
    intro a xs m cap w hn hm hcap hc0 hs hx hl
    have hx0 : xs = [] := List.eq_nil_of_length_eq_zero (by omega)
    exact lit_sorted_short a xs m cap w hm hc0 hs (by rw [hx0]; decide)
  | succ n ih =>
    intro a xs m cap w hn hm hcap hc0 hs hx hl
    by_cases h2 : xs.length < 2
    · have := lit_sorted_short a xs m cap w hm hc0 hs h2
      rw [msort, if_pos h2]
      exact this
    clear hc0
    subst hm
    obtain ⟨B, hB⟩ : ∃ B, B = w.heap.size := ⟨_, rfl⟩
    rw [← hB]
    have HB := hid hB
    have H := hid hx
    have IH := hid ih
    clear hB hx ih
    · obtain ⟨b0, off0, x0, rfl, -, -⟩ := hs.int (show 0 < xs.length by omega)
      have hd : decide ((xs.length : Int) < 2) = false := by simp; omega
      obtain ⟨hf, hh⟩ : ∃ hf : Nat, xs.length / 2 = hf := ⟨_, rfl⟩
      have hh1 : (xs.length : Int) / 2 = hf := by omega
      have hh2 : 2 * hf ≤ xs.length := by omega
      have hh3 : xs.length ≤ 2 * hf + 1 := by omega
      have hh4 : 1 ≤ hf := by omega
      have hh5 : hf < cap := by omega
      have HH := hid hh
      clear hh h2
      have hsA : SlV w (some ⟨b0, off0, none⟩) (ints (xs.take hf)) := by rw [ints_take]; exact hs.take hf
      have hsB : SlV w (some ⟨b0, off0 + hf, none⟩) (ints (xs.drop hf)) := by rw [ints_drop]; exact hs.drop hf
      go_enter Try.func40, Try.ntmps40
      go_wp2_with fail
      have HH1 := hid hh1
      clear hh1
      go_cut [6, 7] (fun s6 s7 wx => Hid (SlI wx s6 (msort n (xs.take hf))) ∧ Hid (SlI wx s7 (msort n (xs.drop hf))) ∧ Below B w wx)
      case first =>
        go_region_with (first
          | (go_at_call_of 40 (Value.slice (some ⟨b0, off0, none⟩) hf hf); refine (IH.out _ (xs.take hf) _ _ _ (by simp; omega) (by simp; omega) (Nat.le_refl _) (by nofun) ?_ (fun x hx => H.out x (List.mem_of_mem_take hx)) (by simp; omega)).mono ?_; exact hsA; rintro e w1 ⟨v1, rfl, ho1, hb1⟩)
          | (go_at_call 40; refine (IH.out _ (xs.drop hf) _ _ _ (by simp; omega) (by simp) (by omega) (by nofun) ?_ (fun x hx => H.out x (List.mem_of_mem_drop hx)) (by simp; omega)).mono ?_; exact SlV.below (w := w.drew) hsB hb1; rintro e w2 ⟨v2, rfl, ho2, hb2⟩))
        all_goals
          have R1 : SlI w2 v1 (msort n (xs.take hf)) := (own_sli ho1).below hb2
          have R2 : SlI w2 v2 (msort n (xs.drop hf)) := own_sli ho2
          have R3 : Below B w w2 := by rw [HB.out]; exact (((Below.refl _ w).drew).trans hb1).trans (hb2.mono hb1.size)
          clear ho1 ho2 hb1 hb2
          go_wp2_with fail
          go_meet
          case rel => exact ⟨R1, R2, R3⟩
      case rest =>
        obtain ⟨RA, RB, hb0⟩ := hcut
        obtain ⟨A, hA⟩ : ∃ A, A = msort n (xs.take hf) := ⟨_, rfl⟩
        obtain ⟨C, hC⟩ : ∃ C, C = msort n (xs.drop hf) := ⟨_, rfl⟩
        rw [← hA] at RA
        rw [← hC] at RB
        have HA := hid hA
        have HC := hid hC
        have hlA : A.length ≤ hf := by rw [hA]; have := msort_length n (xs.take hf); simp at this; omega
        have hlC : C.length ≤ xs.length - hf := by rw [hC]; have := msort_length n (xs.drop hf); simpa using this
        have hxA : ∀ x ∈ A, I64 x := fun x hx => H.out x (List.mem_of_mem_take (mem_msort n _ (hA ▸ hx)))
        have hxC : ∀ x ∈ C, I64 x := fun x hx => H.out x (List.mem_of_mem_drop (mem_msort n _ (hC ▸ hx)))
        clear hA hC
        have HXA := hid hxA
        have HXC := hid hxC
        clear hxA hxC hd hs hsA hsB
        obtain ⟨a1, c1, rfl, hle1, hn1, hs1⟩ := RA
        obtain ⟨a2, c2, rfl, hle2, hn2, hs2⟩ := RB
        obtain ⟨i0, hi, hz0, hz1, hz2⟩ := info_parts info_int
        have HN1 := hid hn1
        have HN2 := hid hn2
        clear hn1 hn2
        have hbs := hb0.size
        go_wp2_with (at_make; refine wpList_make_own _ rfl _ _ 22 rfl wc.heap.size 3 i0 (.int .i64 0) 1 Try.underlying22 hi hz0 hz1 _ _ _ (A.length + C.length) rfl rfl (by omega) (by rw [hz2]; omega) (by unfold maxLen; omega) (Nat.le_refl _) ?_; intro w3 hown3 hgrow3)
        have hb3 : Below wc.heap.size wc w3 := (Below.refl _ _).grown hgrow3 (Nat.le_refl _) (by simp)
        have HO3 := hid hown3
        clear hown3 hgrow3
        go_wp2_with fail
        go_loopw [6, 7, 8] (fun s6 s7 s8 wr => ∃ l1 l2 lo : List Int, Hid (SlI wc s6 l1) ∧ Hid (SlI wc s7 l2) ∧ Hid (wr.ownsRow wc.heap.size 3 1 s8 lo.length (ints lo)) ∧ Below wc.heap.size wc wr ∧ Hid (lo ++ mrg l1 l2 = mrg A C) ∧
            Hid (∀ x ∈ l1, I64 x) ∧ Hid (∀ x ∈ l2, I64 x) ∧ l1.length + l2.length + lo.length ≤ 4294967296) (fun s6 s7 _ _ => lenOfV s6 + lenOfV s7)
        case atStart => exact ⟨A, C, [], ⟨a1, c1, rfl, hle1, HN1.out, hs1⟩, ⟨a2, c2, rfl, hle2, HN2.out, hs2⟩, HO3.out, hb3, rfl, HXA, HXC, by simp; omega⟩
        case round =>
          obtain ⟨l1, l2, lo, RA, RB, RO, hbr, HM, HXa, HXb, htot⟩ := hrel
          obtain ⟨a1, c1, rfl, hle1, hn1, hs1⟩ := RA
          obtain ⟨a2, c2, rfl, hle2, hn2, hs2⟩ := RB
          have HN1 := hid hn1
          have HN2 := hid hn2
          clear hn1 hn2 HO3 hb3
          have hbz := hbr.size
          by_cases hex : l1 = [] ∨ l2 = []
          · have hmrg : mrg l1 l2 = l1 ++ l2 := by rcases hex with h | h <;> subst h <;> simp [mrg_nil_left, mrg_nil_right]
            have HMR := hid hmrg
            clear hmrg
            have hsr1 := hs1.below hbr
            have hsr2 := hs2.below hbr
            have hd : decide (0 < l1.length) = false ∨ (decide (0 < l1.length) = true ∧ decide (0 < l2.length) = false) := by
              rcases hex with h | h
              · subst h; simp
              · subst h
                cases l1 with
                | nil => simp
                | cons x l => right; exact ⟨by simp, by simp⟩
            clear hex
            rcases hd with hd1 | ⟨hd1, hd2⟩
            all_goals
              go_wp2_with (first
                | (at_builtin; refine wpList_append_sl _ rfl (.tmp 78) (.tmp 79) 22 rfl wc.heap.size 3 i0 (.int .i64 0) 8 Try.underlying22 hi hz0 hz1 hz2 rfl _ lo.length (ints lo) rfl RO.out _ l1.length _ (ints l1) rfl hsr1 (by simp) HN1.out ints_one (by unfold maxLen; omega) (by omega) hbz ?_; intro v8 w8 ho8 hg8; have hb8 : Below wc.heap.size wc w8 := hbr.grown hg8 hbz (fun q hq => (RO.out.lt q hq).1); have HO8 := hid ho8; have hbz8 := hb8.size; have hsr3 := hs2.below hb8; clear ho8 hg8)
                | (at_builtin; refine wpList_append_sl _ rfl (.tmp 80) (.tmp 81) 22 rfl wc.heap.size 3 i0 (.int .i64 0) 8 Try.underlying22 hi hz0 hz1 hz2 rfl _ _ _ rfl HO8.out _ l2.length _ (ints l2) rfl hsr3 (by simp) HN2.out ints_one (by unfold maxLen; omega) (by omega) hbz8 ?_; intro v9 w9 ho9 hg9; have hb9 : Below wc.heap.size wc w9 := hb8.grown hg9 hbz8 (fun q hq => (HO8.out.lt q hq).1); have HO9 := hid ho9; clear ho9 hg9))
              have hms : msort (n + 1) xs = lo ++ l1 ++ l2 := by
                rw [msort, if_neg (by omega), HH.out, ← HA.out, ← HC.out, ← HM.out, HMR.out, List.append_assoc]
              have HMS := hid hms
              clear hms
              go_ret
              refine ⟨_, rfl, ?_, ?_⟩
              · rw [HMS.out, ints_append, ints_append, List.length_append, List.length_append]
                exact own_base HO9.out (by have := HB.out; omega)
              · exact hb0.trans (hb9.mono (by have := HB.out; omega))
          · obtain ⟨x, l1', rfl⟩ : ∃ x l, l1 = x :: l := by
              cases l1 with
              | nil => exact (hex (Or.inl rfl)).elim
              | cons x l => exact ⟨x, l, rfl⟩
            obtain ⟨y, l2', rfl⟩ : ∃ x l, l2 = x :: l := by
              cases l2 with
              | nil => exact (hex (Or.inr rfl)).elim
              | cons x l => exact ⟨x, l, rfl⟩
            clear hex
            have hx64 : I64 x := HXa.out x (by simp)
            have hy64 : I64 y := HXb.out y (by simp)
            obtain ⟨b1, o1, rfl, hcx⟩ := (hs1.below hbr).head
            obtain ⟨b2, o2, rfl, hcy⟩ := (hs2.below hbr).head
            obtain ⟨A1, hrun1, hst1⟩ := tail_run (P := Try.prog) (t := 22) (e := 3) Try.underlying22 (fun wx => by simp [sizeOf, typeInfo, hi, hz1]) (n := l1'.length + 1) hs1 (by simp) hle1
            rw [List.length_map] at hrun1
            obtain ⟨A2, hrun2, hst2⟩ := tail_run (P := Try.prog) (t := 22) (e := 3) Try.underlying22 (fun wx => by simp [sizeOf, typeInfo, hi, hz1]) (n := l2'.length + 1) hs2 (by simp) hle2
            rw [List.length_map] at hrun2
            have hown := RO.out
            have hlo : lo.length + 1 ≤ maxLen := by unfold maxLen; simp at htot; omega
            have HLO := hid hlo
            clear hlo
            cases hxy : lessB x y with
            | true =>
              have HXY := hid hxy
              clear hxy
              go_wp2_with fail
              go_quiet ((go_at_call 18; exact quiet_same (lit_Less' _ _ _ _ HXY.out (by assumption) (by assumption))))
              go_wp2_with fail
              have hb1 : (lo.length + 1) * 8 ≤ 140737488355328 := by simp at htot; omega
              go_region_law (refine step_append_sl rfl _ _ 22 rfl wc.heap.size 3 i0 (.int .i64 0) 8 Try.underlying22 hi hz0 hz1 hz2 rfl u8 lo.length (ints lo) rfl ?_ _ 1 _ [.int .i64 x] rfl ?_ rfl nofun one_int HLO.out hb1 ?_ ?_; exact hown.alloc _; exact slv_new_dr _ _ _ _ _; (first | (simp; omega) | omega); intro v8 w8 ho8 hg8)
              all_goals
                have HO8 := hid ho8
                have hb8 : Below wc.heap.size wc w8 := ((below_dr hbr _).alloc (by simp; omega) _).grown hg8 (by simp; omega) (fun q hq => (hown.lt q hq).1)
                clear ho8 hg8
                go_simp
                go_wp2_with fail
                go_roundw
                case rel =>
                  refine ⟨l1', y :: l2', lo ++ [x], ⟨_, _, rfl, by simp at hle1; omega, nofun, hst1⟩, ⟨_, _, rfl, hle2, nofun, hs2⟩, ?_, hb8, ?_, fun z hz => HXa.out z (by simp [hz]), HXb, by simp at htot ⊢; omega⟩
                  · simp only [List.length_append, List.length_singleton, ints_append]; exact HO8.out
                  · have := HM.out
                    rw [mrg_cons, if_pos HXY.out] at this
                    simpa [Hid] using this
                case measure => simp [lenOfV]
            | false =>
              have HXY := hid hxy
              clear hxy
              cases hyx : lessB y x with
              | true =>
                have HYX := hid hyx
                clear hyx
                go_wp2_with fail
                go_quiet ((go_at_call 18; exact quiet_same (lit_Less' _ _ _ _ HXY.out (by assumption) (by assumption))))
                go_wp2_with fail
                go_quiet ((go_at_call 18; first | exact quiet_same2 (lit_Less' _ _ _ _ HYX.out (by assumption) (by assumption)) | exact quiet_same (lit_Less' _ _ _ _ HYX.out (by assumption) (by assumption))))
                go_wp2_with fail
                have hb1 : (lo.length + 1) * 8 ≤ 140737488355328 := by simp at htot; omega
                go_region_law (refine step_append_sl rfl _ _ 22 rfl wc.heap.size 3 i0 (.int .i64 0) 8 Try.underlying22 hi hz0 hz1 hz2 rfl u8 lo.length (ints lo) rfl ?_ _ 1 _ [.int .i64 y] rfl ?_ rfl nofun one_int HLO.out hb1 ?_ ?_; exact hown.alloc _; exact slv_new_dr _ _ _ _ _; (first | (simp; omega) | omega); intro v8 w8 ho8 hg8)
                all_goals
                  have HO8 := hid ho8
                  have hb8 : Below wc.heap.size wc w8 := ((below_dr hbr _).alloc (by simp; omega) _).grown hg8 (by simp; omega) (fun q hq => (hown.lt q hq).1)
                  clear ho8 hg8
                  go_simp
                  go_wp2_with fail
                  go_roundw
                  case rel =>
                    refine ⟨x :: l1', l2', lo ++ [y], ⟨_, _, rfl, hle1, nofun, hs1⟩, ⟨_, _, rfl, by simp at hle2; omega, nofun, hst2⟩, ?_, hb8, ?_, HXa, fun z hz => HXb.out z (by simp [hz]), by simp at htot ⊢; omega⟩
                    · simp only [List.length_append, List.length_singleton, ints_append]; exact HO8.out
                    · have := HM.out
                      rw [mrg_cons, if_neg (by simp [HXY.out]), if_pos HYX.out] at this
                      simpa [Hid] using this
                  case measure => simp [lenOfV]
              | false =>
                have HYX := hid hyx
                clear hyx
                go_wp2_with fail
                go_quiet ((go_at_call 18; exact quiet_same (lit_Less' _ _ _ _ HXY.out (by assumption) (by assumption))))
                go_wp2_with fail
                go_quiet ((go_at_call 18; first | exact quiet_same2 (lit_Less' _ _ _ _ HYX.out (by assumption) (by assumption)) | exact quiet_same (lit_Less' _ _ _ _ HYX.out (by assumption) (by assumption))))
                go_wp2_with fail
                go_roundw
                case rel =>
                  refine ⟨l1', y :: l2', lo, ⟨_, _, rfl, by simp at hle1; omega, nofun, hst1⟩, ⟨_, _, rfl, hle2, nofun, hs2⟩, RO, ?_, ?_, fun z hz => HXa.out z (by simp [hz]), HXb, by simp at htot ⊢; omega⟩
                  · first | exact below_dr hbr _ | exact below_dr (below_dr hbr _) _
                  · have := HM.out
                    rw [mrg_cons, if_neg (by simp [HXY.out]), if_neg (by simp [HYX.out])] at this
                    exact this
                case measure => simp [lenOfV]

end Go.Proofs.Ytfofabbnbmieoaa

/- Plain facts about lit.Norm's literals, used by its walk. -/
namespace Go.Proofs.Ytfofabbnbmieoaa
open Go.RowKit

/-- What lit.Norm has after the sort: without a leading 0. -/
def normL (xs : List Int) : List Int := if (msort xs.length xs).head? = some 0 then (msort xs.length xs).tail else msort xs.length xs

/-- The elements i-1 and i are a literal and its negative. -/
def adjAt (l : List Int) (i : Nat) : Bool := decide (1 ≤ i) && ((l.getD i 0).natAbs == (l.getD (i - 1) 0).natAbs)

/-- Two neighbours are a literal and its negative. -/
def adjB (l : List Int) : Bool := (List.range l.length).any (adjAt l)

/-- lit.Norm's literals. -/
def normV (xs : List Int) : List Int := if adjB (normL xs) then [] else normL xs

theorem range_any_succ {p : Nat → Bool} {k : Nat} (h : (List.range k).any p = false) (hp : p k = false) : (List.range (k + 1)).any p = false := by
  rw [List.range_succ, List.any_append, h]; simp [hp]

theorem range_any_of {p : Nat → Bool} {k n : Nat} (hk : k < n) (hp : p k = true) : (List.range n).any p = true :=
  List.any_eq_true.2 ⟨k, List.mem_range.2 hk, hp⟩

theorem mem_normL {x : Int} {xs : List Int} (h : x ∈ normL xs) : x ∈ xs := by
  unfold normL at h
  split at h
  · exact mem_msort xs.length xs (List.mem_of_mem_tail h)
  · exact mem_msort xs.length xs h

theorem normL_length (xs : List Int) : (normL xs).length ≤ xs.length := by
  have := msort_length xs.length xs
  unfold normL
  split
  · simp; omega
  · exact this

theorem normL_nil {xs : List Int} (h : msort xs.length xs = []) : normL xs = [] := by unfold normL; rw [h]; simp
theorem normL_zero {xs t : List Int} (h : msort xs.length xs = 0 :: t) : normL xs = t := by unfold normL; rw [h]; simp
theorem normL_cons {xs t : List Int} {x : Int} (h : msort xs.length xs = x :: t) (hx : x ≠ 0) : normL xs = x :: t := by
  unfold normL; rw [h]; simp [hx]

theorem adjAt_succ {l : List Int} {j : Nat} {x y : Int} (hx : l[j + 1]? = some x) (hy : l[j]? = some y) : adjAt l (j + 1) = (x.natAbs == y.natAbs) := by
  simp [adjAt, hx, hy]

theorem adjB_of {l : List Int} {j : Nat} {x y : Int} (hx : l[j + 1]? = some x) (hy : l[j]? = some y) (h : ((x.natAbs : Int) == y.natAbs) = true) : adjB l = true := by
  refine range_any_of (k := j + 1) (List.getElem?_eq_some_iff.1 hx).1 ?_
  rw [adjAt_succ hx hy]
  simp at h ⊢; omega

theorem adjB_not {l : List Int} {j : Nat} (hj : ¬ j + 1 < l.length) (h : (List.range (j + 1)).any (adjAt l) = false) : adjB l = false := by
  rw [adjB, List.any_eq_false] at *
  intro i hi
  exact h i (by simp at hi ⊢; omega)

theorem adj_step {l : List Int} {j : Nat} {x y : Int} (hx : l[j + 1]? = some x) (hy : l[j]? = some y) (h : ((x.natAbs : Int) == y.natAbs) = false) (hr : (List.range (j + 1)).any (adjAt l) = false) :
    (List.range (j + 1 + 1)).any (adjAt l) = false := by
  refine range_any_succ hr ?_
  rw [adjAt_succ hx hy]
  simp at h ⊢; omega

theorem normV_true {xs : List Int} (h : adjB (normL xs) = true) : normV xs = [] := by simp [normV, h]
theorem normV_false {xs : List Int} (h : adjB (normL xs) = false) : normV xs = normL xs := by simp [normV, h]

theorem ownT_shape {e : TypeId} {w : World} {B : Nat} {v : Value} {xs : List Int} (h : OwnT e w B v xs) : ∃ a c, v = .slice a xs.length c ∧ OwnT e w B (.slice a xs.length c) xs := by
  have h' := h
  obtain ⟨a, c, h1, -⟩ := h
  exact ⟨a, c, h1, h1 ▸ h'⟩

theorem OwnT.slv {e : TypeId} {w : World} {B n c : Nat} {a : Option Addr} {xs : List Int} (h : OwnT e w B (.slice a n c) xs) : SlV w a (ints xs) := by
  obtain ⟨a', c', h1, -, -, h4⟩ := h.sli
  simp only [Value.slice.injEq] at h1
  obtain ⟨rfl, -, -⟩ := h1
  exact h4

end Go.Proofs.Ytfofabbnbmieoaa

/- The contract of lit.Norm. -/
namespace Go.Proofs.Ytfofabbnbmieoaa
open Go.RowKit

theorem sizeOf_int (wx : World) : (sizeOf 3).run Try.prog wx = .ok 1 wx := by kernel_rfl

set_option maxHeartbeats 1000000 in
theorem lit_Norm (a : Option Addr) (xs : List Int) (m cap : Nat) (w : World) (hm : m = xs.length) (hcap : m ≤ cap) (hc0 : a = none → cap = 0) (hs : SlV w a (ints xs)) (hx : ∀ x ∈ xs, I64 x) (hl : xs.length ≤ 4294967296) :
    Calls Try.prog 14 #[.slice a m cap] w fun e w' =>
      ∃ v, e = .returned (.tuple #[v, .bool (adjB (normL xs))]) ∧ OwnT 3 w' w.heap.size v (normV xs) ∧ Below w.heap.size w w' := by
  subst hm
  have hc := fun w => lit_sorted xs.length a xs xs.length cap w (Nat.le_refl _) rfl hcap hc0
  have HC := hid hc
  have HX := hid hx
  have HS := hid hs
  clear hc hc0 hx hs
  obtain ⟨L0, hL0⟩ : ∃ L0, L0 = msort xs.length xs := ⟨_, rfl⟩
  obtain ⟨L, hL⟩ : ∃ L, L = normL xs := ⟨_, rfl⟩
  have HL0 := hid hL0
  have HL := hid hL
  have hlen : L.length ≤ 4294967296 := by rw [hL]; exact Nat.le_trans (normL_length xs) hl
  have hxL : ∀ x ∈ L, I64 x := fun x h => HX.out x (mem_normL (hL ▸ h))
  have HXL := hid hxL
  rw [← hL]
  obtain ⟨B, hB⟩ : ∃ B, B = w.heap.size := ⟨_, rfl⟩
  rw [← hB]
  have HB := hid hB
  clear hL0 hL hxL hB
  rcases hcase : L0 with _ | ⟨z, t⟩
  · have HLn : Hid (L = []) := by rw [HL.out]; exact normL_nil (by rw [← HL0.out, hcase])
    have HCase := hid hcase
    clear hcase
    go_enter Try.func14, Try.ntmps14
    go_wp2_with (go_at_call 40; refine (HC.out _ HS.out HX.out hl).mono ?_; rintro e w1 ⟨v1, rfl, ho1, hb1⟩; rw [← HL0.out, HCase.out] at ho1; rw [← HB.out] at ho1 hb1; obtain ⟨a1, c1, rfl, ho2⟩ := ownT_shape (HLn.out ▸ ownT_of_own ho1 : OwnT 3 w1 B v1 L); have hl0 : decide (0 < L.length) = false := by rw [HLn.out]; rfl)
    clear hl0
    go_loopw [5] (fun i wr => ∃ j nd : Nat, j ≤ L.length ∧ wr = w1.drewN nd ∧ i = .int .i64 ((j : Int) + 1) ∧ Hid ((List.range (j + 1)).any (adjAt L) = false)) (fun i _ => L.length + 1 - (intOf i).toNat)
    case atStart => exact ⟨0, 0, Nat.zero_le _, rfl, rfl, rfl⟩
    case round =>
      obtain ⟨j, nd, hj, rfl, rfl, hrel⟩ := hrel
      by_cases hlt : j + 1 < L.length
      · obtain ⟨b, off, x, rfl, hc, hx⟩ := (OwnT.slv ho2).int hlt
        obtain ⟨b', off', y, hbb, hd, hy⟩ := (OwnT.slv ho2).int (k := j) (by omega)
        simp at hbb
        obtain ⟨rfl, rfl⟩ := hbb
        have hx64 : I64 x := HXL.out x (List.mem_of_getElem? hx)
        have hy64 : I64 y := HXL.out y (List.mem_of_getElem? hy)
        have HX1 := hid hx
        have HY1 := hid hy
        have HO2 := hid ho2
        have e1 : IntKind.i64.wrap ((j : Int) + 1 - 1) = (j : Int) := by rw [IntWalk.i64_in _ (by omega)]; omega
        have e1' : IntKind.i64.wrap (j : Int) = (j : Int) := IntWalk.i64_in (j : Int) (by omega)
        have e2 : 0 ≤ (j : Int) + 1 := by omega
        have e3 : ((j : Int) + 1).toNat = j + 1 := by omega
        have e4 : (j : Int) + 1 < L.length := by omega
        have e5 : (j : Int) < L.length := by omega
        clear hx hy ho2
        go_wp2_with fail
        go_quiet ((go_at_call 41; first | exact quiet_same2 (lit_size _ _ (by assumption)) | exact quiet_same (lit_size _ _ (by assumption))))
        clear e1 e1' e2 e3
        go_wp2_with fail
        · have hne : ((x.natAbs : Int) == y.natAbs) = true := by assumption
          go_ret2
          have hadj := adjB_of HX1.out HY1.out hne
          rw [hadj, normV_true (HL.out ▸ hadj)]
          exact ⟨_, rfl, ⟨none, 0, rfl, Nat.le_refl _, fun _ => rfl, nofun⟩, by first | exact below_dr hb1 _ | exact below_dr (below_dr hb1 _) _⟩
        · have hne : ((x.natAbs : Int) == y.natAbs) = false := by assumption
          go_roundw
          case rel => exact ⟨j + 1, _, by omega, (by first | rfl | exact World.drewN_drewN ..), by go_num, adj_step HX1.out HY1.out hne hrel⟩
          case measure => simp [intOf]; omega
      · have hadj := adjB_not hlt hrel
        have HADJ := hid hadj
        clear hadj
        go_wp2_with fail
        go_ret2
        rw [HADJ.out, normV_false (HL.out ▸ HADJ.out), ← HL.out]
        exact ⟨_, rfl, ho2, by first | exact below_dr hb1 _ | exact below_dr (below_dr hb1 _) _⟩
  · by_cases hz : z = 0
    · have HLn : Hid (L = t) := by rw [HL.out]; exact normL_zero (by rw [← HL0.out, hcase, hz])
      have HCase : Hid (L0 = 0 :: L) := by rw [HLn.out, hcase, hz]; rfl
      clear hcase hz
      go_enter Try.func14, Try.ntmps14
      go_wp2_with (go_at_call 40; refine (HC.out _ HS.out HX.out hl).mono ?_; rintro e w1 ⟨v1, rfl, ho1, hb1⟩; rw [← HL0.out, HCase.out] at ho1; rw [← HB.out] at ho1 hb1; obtain ⟨a0, c0, rfl, ho0⟩ := ownT_shape (ownT_of_own ho1); obtain ⟨A1, hrun1, ho2⟩ := ownT_tail Try.underlying22 sizeOf_int ho0; obtain ⟨b0, o0, rfl, hcell0⟩ := (OwnT.slv ho0).head; simp only [List.length_cons] at hrun1; clear ho1 ho0)
      generalize hA1 : (some A1) = a1 at ho2
      generalize hC1 : c0 - 1 = c1 at ho2
      clear hA1 hC1
      go_loopw [5] (fun i wr => ∃ j nd : Nat, j ≤ L.length ∧ wr = w1.drewN nd ∧ i = .int .i64 ((j : Int) + 1) ∧ Hid ((List.range (j + 1)).any (adjAt L) = false)) (fun i _ => L.length + 1 - (intOf i).toNat)
      case atStart => exact ⟨0, 0, Nat.zero_le _, rfl, rfl, rfl⟩
      case round =>
        obtain ⟨j, nd, hj, rfl, rfl, hrel⟩ := hrel
        by_cases hlt : j + 1 < L.length
        · obtain ⟨b, off, x, rfl, hc, hx⟩ := (OwnT.slv ho2).int hlt
          obtain ⟨b', off', y, hbb, hd, hy⟩ := (OwnT.slv ho2).int (k := j) (by omega)
          simp at hbb
          obtain ⟨rfl, rfl⟩ := hbb
          have hx64 : I64 x := HXL.out x (List.mem_of_getElem? hx)
          have hy64 : I64 y := HXL.out y (List.mem_of_getElem? hy)
          have HX1 := hid hx
          have HY1 := hid hy
          have HO2 := hid ho2
          have e1 : IntKind.i64.wrap ((j : Int) + 1 - 1) = (j : Int) := by rw [IntWalk.i64_in _ (by omega)]; omega
          have e1' : IntKind.i64.wrap (j : Int) = (j : Int) := IntWalk.i64_in (j : Int) (by omega)
          have e2 : 0 ≤ (j : Int) + 1 := by omega
          have e3 : ((j : Int) + 1).toNat = j + 1 := by omega
          have e4 : (j : Int) + 1 < L.length := by omega
          have e5 : (j : Int) < L.length := by omega
          clear hx hy ho2
          go_wp2_with fail
          go_quiet ((go_at_call 41; first | exact quiet_same2 (lit_size _ _ (by assumption)) | exact quiet_same (lit_size _ _ (by assumption))))
          clear e1 e1' e2 e3
          go_wp2_with fail
          · have hne : ((x.natAbs : Int) == y.natAbs) = true := by assumption
            go_ret2
            have hadj := adjB_of HX1.out HY1.out hne
            rw [hadj, normV_true (HL.out ▸ hadj)]
            exact ⟨_, rfl, ⟨none, 0, rfl, Nat.le_refl _, fun _ => rfl, nofun⟩, by first | exact below_dr hb1 _ | exact below_dr (below_dr hb1 _) _⟩
          · have hne : ((x.natAbs : Int) == y.natAbs) = false := by assumption
            go_roundw
            case rel => exact ⟨j + 1, _, by omega, (by first | rfl | exact World.drewN_drewN ..), by go_num, adj_step HX1.out HY1.out hne hrel⟩
            case measure => simp [intOf]; omega
        · have hadj := adjB_not hlt hrel
          have HADJ := hid hadj
          clear hadj
          go_wp2_with fail
          go_ret2
          rw [HADJ.out, normV_false (HL.out ▸ HADJ.out), ← HL.out]
          exact ⟨_, rfl, ho2, by first | exact below_dr hb1 _ | exact below_dr (below_dr hb1 _) _⟩
    · have HLn : Hid (L = z :: t) := by rw [HL.out]; exact normL_cons (by rw [← HL0.out, hcase]) hz
      have HCase : Hid (L0 = L) := by rw [HLn.out, hcase]; rfl
      have hz' : (z == 0) = false := by simp [hz]
      have hl1 : 0 < L.length := by rw [HLn.out]; simp
      clear hcase hz
      go_enter Try.func14, Try.ntmps14
      go_wp2_with (go_at_call 40; refine (HC.out _ HS.out HX.out hl).mono ?_; rintro e w1 ⟨v1, rfl, ho1, hb1⟩; rw [← HL0.out, HCase.out] at ho1; rw [← HB.out] at ho1 hb1; obtain ⟨a1, c1, rfl, ho2⟩ := ownT_shape (ownT_of_own ho1); obtain ⟨b0, o0, rfl, hcell0⟩ := (show SlV w1 a1 (ints (z :: t)) from HLn.out ▸ OwnT.slv ho2).head; clear ho1; have hl0 : decide (0 < L.length) = true := (by rw [HLn.out]; simp))
      clear hl0 hl1 hcell0
      generalize hA1 : (some (⟨b0, o0, none⟩ : Addr)) = a1 at ho2
      clear hA1
      go_loopw [5] (fun i wr => ∃ j nd : Nat, j ≤ L.length ∧ wr = w1.drewN nd ∧ i = .int .i64 ((j : Int) + 1) ∧ Hid ((List.range (j + 1)).any (adjAt L) = false)) (fun i _ => L.length + 1 - (intOf i).toNat)
      case atStart => exact ⟨0, 0, Nat.zero_le _, rfl, rfl, rfl⟩
      case round =>
        obtain ⟨j, nd, hj, rfl, rfl, hrel⟩ := hrel
        by_cases hlt : j + 1 < L.length
        · obtain ⟨b, off, x, rfl, hc, hx⟩ := (OwnT.slv ho2).int hlt
          obtain ⟨b', off', y, hbb, hd, hy⟩ := (OwnT.slv ho2).int (k := j) (by omega)
          simp at hbb
          obtain ⟨rfl, rfl⟩ := hbb
          have hx64 : I64 x := HXL.out x (List.mem_of_getElem? hx)
          have hy64 : I64 y := HXL.out y (List.mem_of_getElem? hy)
          have HX1 := hid hx
          have HY1 := hid hy
          have HO2 := hid ho2
          have e1 : IntKind.i64.wrap ((j : Int) + 1 - 1) = (j : Int) := by rw [IntWalk.i64_in _ (by omega)]; omega
          have e1' : IntKind.i64.wrap (j : Int) = (j : Int) := IntWalk.i64_in (j : Int) (by omega)
          have e2 : 0 ≤ (j : Int) + 1 := by omega
          have e3 : ((j : Int) + 1).toNat = j + 1 := by omega
          have e4 : (j : Int) + 1 < L.length := by omega
          have e5 : (j : Int) < L.length := by omega
          clear hx hy ho2
          go_wp2_with fail
          go_quiet ((go_at_call 41; first | exact quiet_same2 (lit_size _ _ (by assumption)) | exact quiet_same (lit_size _ _ (by assumption))))
          clear e1 e1' e2 e3
          go_wp2_with fail
          · have hne : ((x.natAbs : Int) == y.natAbs) = true := by assumption
            go_ret2
            have hadj := adjB_of HX1.out HY1.out hne
            rw [hadj, normV_true (HL.out ▸ hadj)]
            exact ⟨_, rfl, ⟨none, 0, rfl, Nat.le_refl _, fun _ => rfl, nofun⟩, by first | exact below_dr hb1 _ | exact below_dr (below_dr hb1 _) _⟩
          · have hne : ((x.natAbs : Int) == y.natAbs) = false := by assumption
            go_roundw
            case rel => exact ⟨j + 1, _, by omega, (by first | rfl | exact World.drewN_drewN ..), by go_num, adj_step HX1.out HY1.out hne hrel⟩
            case measure => simp [intOf]; omega
        · have hadj := adjB_not hlt hrel
          have HADJ := hid hadj
          clear hadj
          go_wp2_with fail
          go_ret2
          rw [HADJ.out, normV_false (HL.out ▸ HADJ.out), ← HL.out]
          exact ⟨_, rfl, ho2, by first | exact below_dr hb1 _ | exact below_dr (below_dr hb1 _) _⟩

end Go.Proofs.Ytfofabbnbmieoaa

/- The contracts of the reference's functions of layer 1: size, Less, Check, Holds. -/
namespace Go.Proofs.Ytfofabbnbmieoaa
open Go.RowKit

set_option maxHeartbeats 400000 in
theorem ref01_size (a : Int) (w : World) (h : I64 a) :
    Calls Try.prog 93 #[.int .i64 a] w fun e w' => e = .returned (.int .u64 (a.natAbs : Int)) ∧ w = w' := by
  obtain ⟨h1, h2⟩ := h
  by_cases h : a < 0
  · go_enter Try.func93, Try.ntmps93
    go_wp2
    go_ret
    refine ⟨?_, rfl⟩
    simp [IntKind.wrap, IntKind.signed, IntKind.bits]
    omega
  · go_enter Try.func93, Try.ntmps93
    go_wp2
    go_ret
    refine ⟨?_, rfl⟩
    simp
    omega

set_option maxHeartbeats 400000 in
theorem ref01_Check (n : Int) (a : Option Addr) (xs : List Int) (cap : Nat) (w : World) (hx : ∀ x ∈ xs, I64 x) (hs : SlV w a (ints xs))
    (hl : xs.length ≤ 9223372036854775807) :
    Calls Try.prog 81 #[.int .i64 n, .slice a xs.length cap] w fun e w' => e = .returned (.int .i64 (litCheck n xs)) ∧ w = w' := by
  have H := hid hx
  clear hx
  go_enter Try.func81, Try.ntmps81
  go_wp2_with fail
  all_goals try (go_ret; exact ⟨by first | rw [litCheck_long (by omega) (by omega)]; rfl | rw [litCheck_range (by omega)]; rfl, rfl⟩)
  have h1 : 0 ≤ n ∧ n ≤ 1048576 := by assumption
  have h2 : (xs.length : Int) ≤ 4096 := by assumption
  go_loop [5] (fun i => ∃ k : Nat, k ≤ xs.length ∧ i = .int .i64 k ∧ Hid ((xs.take k).any (badLit n) = false)) (fun i => xs.length - (intOf i).toNat)
  case atStart => exact ⟨0, Nat.zero_le _, rfl, rfl⟩
  case round =>
    obtain ⟨k, hk, rfl, hrel⟩ := hrel
    by_cases hlt : k < xs.length
    · obtain ⟨b, off, x, rfl, hc, hx⟩ := hs.int hlt
      have hx64 : I64 x := H.out x (List.mem_of_getElem? hx)
      have HX := hid hx
      clear hx hs
      by_cases hz : x = 0
      · have hz' : (x == 0) = true := by simp [hz]
        have HZ := hid hz
        clear hz
        go_wp2_with (go_at_call 93; refine (ref01_size _ _ (by assumption)).mono ?_; rintro e w' ⟨rfl, rfl⟩)
        go_ret
        exact ⟨by rw [litCheck_bad h1 h2 (any_of_get HX.out (by simp [badLit, HZ.out]))]; rfl, rfl⟩
      · have hz' : (x == 0) = false := by simp [hz]
        have HZ := hid hz
        clear hz
        go_wp2_with (go_at_call 93; refine (ref01_size _ _ (by assumption)).mono ?_; rintro e w' ⟨rfl, rfl⟩)
        · have hlt : n < x.natAbs := by assumption
          go_ret
          exact ⟨by rw [litCheck_bad h1 h2 (any_of_get HX.out (by simp [badLit, hlt]))]; rfl, rfl⟩
        · go_round
          case rel => exact ⟨k + 1, by omega, by go_num, take_any_succ HX.out hrel (by simp [badLit, HZ.out]; omega)⟩
          case measure => simp [intOf]; omega
    · go_wp2_with fail
      go_ret
      exact ⟨by rw [litCheck_ok h1 h2 (take_all_false hlt hrel)]; rfl, rfl⟩

end Go.Proofs.Ytfofabbnbmieoaa

/- Closed facts about lit.Norm's literals. -/
namespace Go.Proofs.Ytfofabbnbmieoaa
open Go.RowKit

theorem slv_new (w : World) (vs : List Value) (e : TypeId) (m : Nat × Nat) : SlV (w.alloc (.cells vs.toArray e m)) (some ⟨w.heap.size, 0, none⟩) vs := by
  intro j v hj
  refine ⟨w.heap.size, 0, rfl, ?_⟩
  have h : (w.alloc (.cells vs.toArray e m)).heap[w.heap.size]? = some (.cells vs.toArray e m) := heap_alloc_new w _
  rw [cell_of_row _ _ _ _ _ _ h]
  simpa using hj

end Go.Proofs.Ytfofabbnbmieoaa

/- Plain facts about the order of literals. -/
namespace Go.Proofs.Ytfofabbnbmieoaa
open Go.RowKit

theorem lessB_iff (a b : Int) : lessB a b = true ↔ a.natAbs < b.natAbs ∨ (a.natAbs = b.natAbs ∧ b < a) := by
  simp [lessB]

theorem lessB_irrefl (a : Int) : lessB a a = false := by
  rw [Bool.eq_false_iff, Ne, lessB_iff]; omega

theorem lessB_trans {a b c : Int} (h : lessB a b = true) (h' : lessB b c = true) : lessB a c = true := by
  rw [lessB_iff] at *; omega

theorem lessB_tri {a b : Int} (h : lessB a b = false) (h' : lessB b a = false) : a = b := by
  rw [Bool.eq_false_iff, Ne, lessB_iff] at *
  omega

end Go.Proofs.Ytfofabbnbmieoaa

/- What an argument that came in is told of to the walk: ints, bools, slices of these, slices of slices of ints; out of the row's own reading. -/
namespace Go.Proofs.Ytfofabbnbmieoaa
open Go.ChangeShapes Go.WideShapes Go.ChangeAt Go.RowKit

/-- The value reads as a slice of ints of the kind k; each fits its kind. -/
def ArgI (k : IntKind) (w : World) (v : Value) (xs : List Int) : Prop :=
  ∃ a c, v = .slice a xs.length c ∧ xs.length ≤ c ∧ c ≤ maxLen ∧ (a = none → c = 0) ∧ SlV w a (xs.map (Value.int k)) ∧ ∀ x ∈ xs, (Lit.int k x).wf = true

/-- The value reads as a slice of bools. -/
def ArgB (w : World) (v : Value) (xs : List Bool) : Prop :=
  ∃ a c, v = .slice a xs.length c ∧ xs.length ≤ c ∧ c ≤ maxLen ∧ (a = none → c = 0) ∧ SlV w a (bools xs)

/-- The value reads as a slice of slices of ints of the kind k. -/
def ArgR (k : IntKind) (w : World) (v : Value) (xss : List (List Int)) : Prop :=
  ∃ a c, v = .slice a xss.length c ∧ xss.length ≤ c ∧ c ≤ maxLen ∧ (a = none → c = 0) ∧
    ∀ j xs, xss[j]? = some xs → ∃ b off u, a = some ⟨b, off, none⟩ ∧ w.cell? ⟨b, off + j, none⟩ = some u ∧ ArgI k w u xs

theorem slV_of_row {w : World} {a : Addr} {vs : List Value} (h : ∀ i v, vs[i]? = some v → w.cell? (a.add i) = some v) : SlV w (some a) vs := by
  intro j v hj
  have h0 : ∃ u, vs[0]? = some u := by
    cases vs with
    | nil => simp at hj
    | cons u us => exact ⟨u, rfl⟩
  obtain ⟨u, hu⟩ := h0
  have hs := World.cell?_spot (h 0 u hu)
  obtain ⟨b, off, spot⟩ := a
  simp [Addr.add] at hs
  subst hs
  refine ⟨b, off, rfl, ?_⟩
  have := h j v hj
  unfold Addr.add at this
  split at this
  · rename_i h0; subst h0; simpa using this
  · exact this

section
variable {P : Program} {W : World} {H : Type} {enc : TypeId × Value → H}

theorem trod_ints {t e : TypeId} {k : IntKind} {fuel : Nat} {held : Bool} {v : Value} {x : DataW H × List MemPlace} (ht : P.underlying t = some (.slice e)) (he : P.underlying e = some (.int k)) (hc : P.cellsOf e = 1)
    (h : DataW.trod enc P W 0 (fun _ => true) held fuel t [v] = some x) : ∃ xs, ArgI k W v xs := by
  rcases open_ints ht he hc h with ⟨hcs, _⟩ | ⟨a, l, c, zs, hcs, _, hl, hm, hz, _, hcell, hwz⟩
  · simp at hcs
    subst hcs
    exact ⟨[], none, 0, rfl, Nat.le_refl _, by simp [maxLen], fun _ => rfl, SlV.nil _ _, by simp⟩
  · simp at hcs
    subst hcs
    simp only [if_true] at hz
    have hlen : (zs.take l).length = l := by simp; omega
    refine ⟨zs.take l, some a, c, by rw [hlen], by omega, hm, nofun, slV_of_row fun i v hv => ?_, fun n hn => hwz n (List.mem_of_mem_take hn)⟩
    simp only [List.getElem?_map, Option.map_eq_some_iff] at hv
    obtain ⟨x, hx, rfl⟩ := hv
    rw [List.getElem?_take] at hx
    split at hx
    · rename_i hi
      have := hcell i (by omega)
      rw [this]
      simp [List.getD_eq_getElem?_getD, hx]
    · cases hx

theorem arg_ints {r : Reach} {b0 : Nat} {t e : TypeId} {k : IntKind} {held : Bool} {v : Value} {d : DataW H} {p : List MemPlace} (ht : P.underlying t = some (.slice e)) (he : P.underlying e = some (.int k)) (hc : P.cellsOf e = 1)
    (hv : Value.okWide P W r b0 t v) (h : DataW.Trod enc P W 0 (fun _ => true) held t v d p) : ∃ xs, ArgI k W v xs := by
  obtain ⟨a, l, c, rfl⟩ := okWide_slice ht hv
  obtain ⟨fuel, hf⟩ := h
  exact trod_ints ht he hc (by simpa [Value.cells] using hf)

theorem arg_int {r : Reach} {b0 : Nat} {t : TypeId} {k : IntKind} {held : Bool} {v : Value} {d : DataW H} {p : List MemPlace} (ht : P.underlying t = some (.int k))
    (hv : Value.okWide P W r b0 t v) (h : DataW.Trod enc P W 0 (fun _ => true) held t v d p) : ∃ x, v = .int k x ∧ (Lit.int k x).wf = true := by
  obtain ⟨n, h1, _, _, h4⟩ := open_int ht hv h
  exact ⟨n, h1, h4⟩

theorem arg_bool {r : Reach} {b0 : Nat} {t : TypeId} {held : Bool} {v : Value} {d : DataW H} {p : List MemPlace} (ht : P.underlying t = some .bool)
    (hv : Value.okWide P W r b0 t v) (h : DataW.Trod enc P W 0 (fun _ => true) held t v d p) : ∃ x, v = .bool x := by
  obtain ⟨n, h1, _, _⟩ := open_bool ht hv h
  exact ⟨n, h1⟩

theorem arg_bools {r : Reach} {b0 : Nat} {t e : TypeId} {held : Bool} {v : Value} {d : DataW H} {p : List MemPlace} (ht : P.underlying t = some (.slice e)) (he : P.underlying e = some .bool) (hc : P.cellsOf e = 1)
    (hv : Value.okWide P W r b0 t v) (h : DataW.Trod enc P W 0 (fun _ => true) held t v d p) : ∃ xs, ArgB W v xs := by
  obtain ⟨a, l, c, rfl⟩ := okWide_slice ht hv
  obtain ⟨fuel, hf⟩ := h
  rcases Go.Deep.open_slice1 ht hc hf with ⟨hcs, _⟩ | ⟨a', l', c', m, n, V, D, Pl, hcs, _, hl, hm, hmm, _, hx⟩
  · simp [Value.cells] at hcs
    obtain ⟨rfl, rfl, rfl⟩ := hcs
    exact ⟨[], none, 0, rfl, Nat.le_refl _, by simp [maxLen], fun _ => rfl, SlV.nil _ _⟩
  · simp [Value.cells] at hcs
    obtain ⟨rfl, rfl, rfl⟩ := hcs
    simp only [if_true] at hmm
    have hb : ∀ i, i < m → ∃ b, V i = .bool b := fun i hi => by
      obtain ⟨b, hb, _⟩ := DataW.trod_bool he (hx i hi).2
      exact ⟨b, by simpa using hb⟩
    refine ⟨(List.range l).map (fun i => match V i with | .bool b => b | _ => false), some a', c, by simp, by simpa using hl, hm, nofun, slV_of_row fun i v hv => ?_⟩
    simp only [bools, List.map_map, List.getElem?_map, Option.map_eq_some_iff] at hv
    obtain ⟨j, hj, rfl⟩ := hv
    obtain ⟨hlt, he'⟩ := List.getElem?_eq_some_iff.1 hj
    simp at hlt he'
    subst he'
    obtain ⟨b, hb'⟩ := hb i (by omega)
    rw [(hx i (by omega)).1]
    simp [hb']

theorem trod_rows {t e q : TypeId} {k : IntKind} {fuel : Nat} {held : Bool} {v : Value} {x : DataW H × List MemPlace} (ht : P.underlying t = some (.slice e)) (he : P.underlying e = some (.slice q)) (hq : P.underlying q = some (.int k)) (ce : P.cellsOf e = 1) (cq : P.cellsOf q = 1)
    (h : DataW.trod enc P W 0 (fun _ => true) held fuel t [v] = some x) : ∃ xss, ArgR k W v xss := by
  rcases Go.Deep.open_slice1 ht ce h with ⟨hcs, _⟩ | ⟨a, l, c, m, n, V, D, Pl, hcs, _, hl, hm, hmm, _, hx⟩
  · simp at hcs
    subst hcs
    exact ⟨[], none, 0, rfl, Nat.le_refl _, by simp [maxLen], fun _ => rfl, by simp⟩
  · simp at hcs
    subst hcs
    simp only [if_true] at hmm
    have hr : ∀ i, ∃ xs, i < l → ArgI k W (V i) xs := fun i => by
      by_cases hi : i < l
      · obtain ⟨xs, hxs⟩ := trod_ints he hq cq (hx i (by omega)).2
        exact ⟨xs, fun _ => hxs⟩
      · exact ⟨[], fun h => (hi h).elim⟩
    let X := fun i => Classical.choose (hr i)
    have hX : ∀ i, i < l → ArgI k W (V i) (X i) := fun i => Classical.choose_spec (hr i)
    have hrow : SlV W (some a) ((List.range l).map V) := slV_of_row fun i v hv => by
      simp only [List.getElem?_map, Option.map_eq_some_iff] at hv
      obtain ⟨j, hj, rfl⟩ := hv
      obtain ⟨hlt, he'⟩ := List.getElem?_eq_some_iff.1 hj
      simp at hlt he'
      subst he'
      exact (hx i (by omega)).1
    refine ⟨(List.range l).map X, some a, c, by simp, by simpa using hl, hm, nofun, fun j xs hj => ?_⟩
    simp only [List.getElem?_map, Option.map_eq_some_iff] at hj
    obtain ⟨i, hi, rfl⟩ := hj
    obtain ⟨hlt, he'⟩ := List.getElem?_eq_some_iff.1 hi
    simp at hlt he'
    subst he'
    obtain ⟨b, off, h1, h2⟩ := hrow j (V j) (by simp [List.getElem?_range hlt])
    exact ⟨b, off, V j, h1, h2, hX j hlt⟩

theorem arg_rows {r : Reach} {b0 : Nat} {t e q : TypeId} {k : IntKind} {held : Bool} {v : Value} {d : DataW H} {p : List MemPlace} (ht : P.underlying t = some (.slice e)) (he : P.underlying e = some (.slice q)) (hq : P.underlying q = some (.int k)) (ce : P.cellsOf e = 1) (cq : P.cellsOf q = 1)
    (hv : Value.okWide P W r b0 t v) (h : DataW.Trod enc P W 0 (fun _ => true) held t v d p) : ∃ xss, ArgR k W v xss := by
  obtain ⟨a, l, c, rfl⟩ := okWide_slice ht hv
  obtain ⟨fuel, hf⟩ := h
  exact trod_rows ht he hq ce cq (by simpa [Value.cells] using hf)

/-- A struct of an int and a slice of slices of ints (api.Formula), by value. -/
theorem arg_formula {r : Reach} {b0 : Nat} {t e q u : TypeId} {f0 f1 : Field} {held : Bool} {v : Value} {d : DataW H} {p : List MemPlace} (hs : P.underlying t = some (.struct #[f0, f1])) (hone : Go.Deep.oneCellFields P #[f0, f1] = true) (hC : P.cellsOf t = 2)
    (h0 : P.underlying f0.type = some (.int .i64)) (h1 : f1.type = u) (ht : P.underlying u = some (.slice e)) (he : P.underlying e = some (.slice q)) (hq : P.underlying q = some (.int .i64)) (ce : P.cellsOf e = 1) (cq : P.cellsOf q = 1)
    (hv : Value.okWide P W r b0 t v) (h : DataW.Trod enc P W 0 (fun _ => true) held t v d p) : ∃ n vc xss, v = .agg #[.int .i64 n, vc] ∧ (Lit.int .i64 n).wf = true ∧ ArgR .i64 W vc xss := by
  obtain ⟨v0, v1, y0, y1, n, rfl, _, _, hy0, hy1⟩ := Go.Joins.open_agg2 hs hone hC hv h
  obtain ⟨m, hm, _, hw⟩ := DataW.trod_int h0 hy0
  simp at hm
  subst hm
  subst h1
  obtain ⟨xss, hx⟩ := trod_rows ht he hq ce cq hy1
  exact ⟨m, v1, xss, rfl, hw, hx⟩

end
end Go.Proofs.Ytfofabbnbmieoaa

/- The contracts of package lit, the reference and the kit once more, with the result under a name of its own. -/
namespace Go.Proofs.Ytfofabbnbmieoaa
open Go.RowKit

theorem i64_of_wf {x : Int} (h : (Lit.int .i64 x).wf = true) : I64 x := bounds_i64 h

theorem lit_CheckR (n : Int) (a : Option Addr) (xs : List Int) (m cap : Nat) (r : Int) (w : World) (hr : litCheck n xs = r) (hm : m = xs.length) (hx : ∀ x ∈ xs, I64 x) (hs : SlV w a (ints xs)) (hl : xs.length ≤ 9223372036854775807) :
    Calls Try.prog 15 #[.int .i64 n, .slice a m cap] w fun e w' => e = .returned (.int .i64 r) ∧ w = w' := by
  subst hm; subst hr; exact lit_Check n a xs cap w hx hs hl

theorem lit_HoldsR (am : Option Addr) (m : List Bool) (lm capm : Nat) (a : Option Addr) (xs : List Int) (lx cap : Nat) (r : Bool) (w : World) (hr : holdsB m xs = r) (hlm : lm = m.length) (hlx : lx = xs.length) (hm : SlV w am (bools m)) (hx : ∀ x ∈ xs, I64 x)
    (hs : SlV w a (ints xs)) (hl : xs.length ≤ 9223372036854775807) (hl2 : m.length ≤ 9223372036854775807) :
    Calls Try.prog 16 #[.slice am lm capm, .slice a lx cap] w fun e w' => e = .returned (.bool r) ∧ w = w' := by
  subst hlm; subst hlx; subst hr; exact lit_Holds am m capm a xs cap w hm hx hs hl hl2

theorem ref01_CheckR (n : Int) (a : Option Addr) (xs : List Int) (m cap : Nat) (r : Int) (w : World) (hr : litCheck n xs = r) (hm : m = xs.length) (hx : ∀ x ∈ xs, I64 x) (hs : SlV w a (ints xs)) (hl : xs.length ≤ 9223372036854775807) :
    Calls Try.prog 81 #[.int .i64 n, .slice a m cap] w fun e w' => e = .returned (.int .i64 r) ∧ w = w' := by
  subst hm; subst hr; exact ref01_Check n a xs cap w hx hs hl

/-- lit.Norm, where no literal stands beside its negative. -/
theorem lit_NormF (a : Option Addr) (xs ys : List Int) (m cap : Nat) (w : World) (hn : adjB (normL xs) = false) (hy : normL xs = ys) (hm : m = xs.length) (hcap : m ≤ cap) (hc0 : a = none → cap = 0) (hs : SlV w a (ints xs)) (hx : ∀ x ∈ xs, I64 x) (hl : xs.length ≤ 4294967296) :
    Calls Try.prog 14 #[.slice a m cap] w fun e w' =>
      ∃ a' c', e = .returned (.tuple #[.slice a' ys.length c', .bool false]) ∧ OwnT 3 w' w.heap.size (.slice a' ys.length c') ys ∧ Below w.heap.size w w' := by
  refine (lit_Norm a xs m cap w hm hcap hc0 hs hx hl).mono ?_
  rintro e w' ⟨v, rfl, ho, hb⟩
  rw [normV_false hn, hy] at ho
  obtain ⟨a', c', rfl, ho'⟩ := ownT_shape ho
  exact ⟨a', c', by rw [hn], ho', hb⟩

/-- lit.Norm, where a literal stands beside its negative. -/
theorem lit_NormT (a : Option Addr) (xs : List Int) (m cap : Nat) (w : World) (hn : adjB (normL xs) = true) (hm : m = xs.length) (hcap : m ≤ cap) (hc0 : a = none → cap = 0) (hs : SlV w a (ints xs)) (hx : ∀ x ∈ xs, I64 x) (hl : xs.length ≤ 4294967296) :
    Calls Try.prog 14 #[.slice a m cap] w fun e w' =>
      ∃ a' c', e = .returned (.tuple #[.slice a' 0 c', .bool true]) ∧ Below w.heap.size w w' := by
  refine (lit_Norm a xs m cap w hm hcap hc0 hs hx hl).mono ?_
  rintro e w' ⟨v, rfl, ho, hb⟩
  rw [normV_true hn] at ho
  obtain ⟨a', c', rfl, ho'⟩ := ownT_shape ho
  exact ⟨a', c', by rw [hn]; rfl, hb⟩

theorem slv_at {w : World} {b : Nat} {vs : List Value} {e : TypeId} {m : Nat × Nat} (h : w.heap[b]? = some (.cells vs.toArray e m)) : SlV w (some ⟨b, 0, none⟩) vs := by
  intro j v hj
  refine ⟨b, 0, rfl, ?_⟩
  rw [cell_of_row _ _ _ _ _ _ h]
  simpa using hj

theorem below_al {B : Nat} {a w : World} (h : Below B a w) (hB : B ≤ w.heap.size) (o : Obj) : Below B a (w.alloc o) := h.alloc hB o

theorem heap_al (w : World) (o : Obj) : (w.alloc o).heap = w.heap.push o := rfl
theorem heap_dr (w : World) (n : Nat) : (w.drewN n).heap = w.heap := rfl

theorem size_al (w : World) (o : Obj) : (w.alloc o).heap.size = w.heap.size + 1 := by simp

end Go.Proofs.Ytfofabbnbmieoaa

/- Plain facts about lit.Holds and lit.Check. -/
namespace Go.Proofs.Ytfofabbnbmieoaa
open Go.RowKit

end Go.Proofs.Ytfofabbnbmieoaa

/- Plain definitions about formulas: what cnf.Check and cnf.First return. -/
namespace Go.Proofs.Ytfofabbnbmieoaa
open Go.RowKit

/-- weepholelaw02.Small. -/
def smallB (f : List (List Int)) : Bool := !((f.take 60).any (fun c => decide (40 < c.length))) && decide (f.length ≤ 60)

/-- cnf.Check. -/
def cnfCheck (n : Int) (f : List (List Int)) : Int :=
  if n < 0 ∨ 1048576 < n then 3 else if 1048576 < f.length then 5 else match f.find? (fun c => litCheck n c != 0) with | some c => litCheck n c | none => 0

/-- The index of the first clause that does not hold. -/
def firstIdx (m : List Bool) (f : List (List Int)) : Int := match f.findIdx? (fun c => !holdsB m c) with | some i => i | none => -1

/-- cnf.First: the index and the error. -/
def cnfFirst (n : Int) (f : List (List Int)) (m : List Bool) : Int × Int :=
  if cnfCheck n f ≠ 0 then (0, cnfCheck n f) else if (m.length : Int) ≠ n then (0, 2) else (firstIdx m f, 0)

theorem cnfCheck_range {n : Int} {f : List (List Int)} (h : n < 0 ∨ 1048576 < n) : cnfCheck n f = 3 := by simp [cnfCheck, h]
theorem cnfCheck_long {n : Int} {f : List (List Int)} (h : 0 ≤ n ∧ n ≤ 1048576) (hl : (1048576 : Int) < f.length) : cnfCheck n f = 5 := by
  unfold cnfCheck; rw [if_neg (by omega), if_pos (by omega)]
theorem cnfCheck_find {n : Int} {f : List (List Int)} (h : 0 ≤ n ∧ n ≤ 1048576) (hl : (f.length : Int) ≤ 1048576) : cnfCheck n f = match f.find? (fun c => litCheck n c != 0) with | some c => litCheck n c | none => 0 := by
  unfold cnfCheck; rw [if_neg (by omega), if_neg (by omega)]

/-- No clause before k has an error. -/
theorem find_none_take {α : Type} {p : α → Bool} {f : List α} {k : Nat} (hk : ¬ k < f.length) (h : (f.take k).any p = false) : f.find? p = none := by
  rw [List.take_of_length_le (by omega)] at h
  rw [List.find?_eq_none]
  intro x hx
  rw [List.any_eq_false] at h
  exact h x hx

theorem find_some_take {α : Type} {p : α → Bool} {f : List α} {k : Nat} {c : α} (hc : f[k]? = some c) (h : (f.take k).any p = false) (hp : p c = true) : f.find? p = some c := by
  obtain ⟨hk, rfl⟩ := List.getElem?_eq_some_iff.1 hc
  rw [List.find?_eq_some_iff_getElem]
  refine ⟨hp, k, hk, rfl, fun j hj => ?_⟩
  rw [List.any_eq_false] at h
  have := h f[j] (List.mem_take_iff_getElem.2 ⟨j, by omega, rfl⟩)
  simpa using this

theorem findIdx_none_take {α : Type} {p : α → Bool} {f : List α} {k : Nat} (hk : ¬ k < f.length) (h : (f.take k).any p = false) : f.findIdx? p = none := by
  rw [List.take_of_length_le (by omega)] at h
  rw [List.findIdx?_eq_none_iff]
  intro x hx
  rw [List.any_eq_false] at h
  simpa using h x hx

theorem findIdx_some_take {α : Type} {p : α → Bool} {f : List α} {k : Nat} {c : α} (hc : f[k]? = some c) (h : (f.take k).any p = false) (hp : p c = true) : f.findIdx? p = some k := by
  obtain ⟨hk, rfl⟩ := List.getElem?_eq_some_iff.1 hc
  rw [List.findIdx?_eq_some_iff_getElem]
  refine ⟨hk, hp, fun j hj => ?_⟩
  rw [List.any_eq_false] at h
  have := h f[j] (List.mem_take_iff_getElem.2 ⟨j, by omega, rfl⟩)
  simpa using this

theorem cnfCheck_bad {n e : Int} {f : List (List Int)} {k : Nat} {c : List Int} (h : 0 ≤ n ∧ n ≤ 1048576) (hl : (f.length : Int) ≤ 1048576) (hc : f[k]? = some c) (hr : (f.take k).any (fun c => litCheck n c != 0) = false)
    (he : litCheck n c = e) (h0 : (e != 0) = true) : cnfCheck n f = e := by
  rw [cnfCheck_find h hl, find_some_take hc hr (by rw [he]; exact h0)]; exact he

theorem cnfCheck_ok {n : Int} {f : List (List Int)} {k : Nat} (h : 0 ≤ n ∧ n ≤ 1048576) (hl : (f.length : Int) ≤ 1048576) (hk : ¬ k < f.length) (hr : (f.take k).any (fun c => litCheck n c != 0) = false) : cnfCheck n f = 0 := by
  rw [cnfCheck_find h hl, find_none_take hk hr]

theorem firstIdx_at {m : List Bool} {f : List (List Int)} {k : Nat} {c : List Int} (hc : f[k]? = some c) (hr : (f.take k).any (fun c => !holdsB m c) = false) (hh : holdsB m c = false) : firstIdx m f = k := by
  unfold firstIdx; rw [findIdx_some_take hc hr (by simp [hh])]

theorem firstIdx_none {m : List Bool} {f : List (List Int)} {k : Nat} (hk : ¬ k < f.length) (hr : (f.take k).any (fun c => !holdsB m c) = false) : firstIdx m f = -1 := by
  unfold firstIdx; rw [findIdx_none_take hk hr]

theorem smallB_at {f : List (List Int)} {k : Nat} {c : List Int} (hk : k < 60) (hc : f[k]? = some c) (h : (40 : Int) < c.length) : smallB f = false := by
  unfold smallB
  have : (f.take 60).any (fun c => decide (40 < c.length)) = true := List.any_eq_true.2 ⟨c, List.mem_of_getElem? (i := k) (by rw [List.getElem?_take, if_pos hk]; exact hc), by simp; omega⟩
  simp [this]

theorem smallB_end {f : List (List Int)} {k : Nat} (hk : ¬ k < f.length ∨ k = 60) (hr : (f.take k).any (fun c => decide (40 < c.length)) = false) : smallB f = decide (f.length ≤ 60) := by
  unfold smallB
  rcases hk with h | rfl
  · by_cases hl : f.length ≤ 60
    · rw [List.take_of_length_le (by omega)] at hr
      rw [List.take_of_length_le hl, hr]; simp [hl]
    · simp [hl]
  · rw [hr]; simp

theorem smallB_le {f : List (List Int)} (h : smallB f = true) : f.length ≤ 60 ∧ ∀ c ∈ f, c.length ≤ 40 := by
  unfold smallB at h
  simp only [Bool.and_eq_true, Bool.not_eq_true', decide_eq_true_eq] at h
  obtain ⟨h1, h2⟩ := h
  refine ⟨h2, fun c hc => ?_⟩
  rw [List.take_of_length_le h2, List.any_eq_false] at h1
  have := h1 c hc
  simpa using this

end Go.Proofs.Ytfofabbnbmieoaa

/- The contracts of weepholelaw02.Small, cnf.Check and the reference's Check of layer 2. -/
namespace Go.Proofs.Ytfofabbnbmieoaa
open Go.RowKit

/-- The slice with the address 'a' reads as the lists 'f'. -/
def Rws (w : World) (a : Option Addr) (f : List (List Int)) : Prop :=
  ∀ j c, f[j]? = some c → ∃ b off v, a = some ⟨b, off, none⟩ ∧ w.cell? ⟨b, off + j, none⟩ = some v ∧ SlI w v c

theorem Rws.below {w w' : World} {a : Option Addr} {f : List (List Int)} (h : Rws w a f) (hb : Below w.heap.size w w') : Rws w' a f :=
  fun j c hj => let ⟨b, off, v, h1, h2, h3⟩ := h j c hj; ⟨b, off, v, h1, below_keeps hb _ _ h2, h3.below hb⟩

/-- Every clause is of ints, and none is too long for an int. -/
def FOk (f : List (List Int)) : Prop := ∀ c ∈ f, (∀ x ∈ c, I64 x) ∧ c.length ≤ 9223372036854775807

theorem Rws.row {w : World} {a : Option Addr} {f : List (List Int)} (h : Rws w a f) (hf : FOk f) {k : Nat} (hk : k < f.length) :
    ∃ b off c a' c', a = some ⟨b, off, none⟩ ∧ w.cell? ⟨b, off + k, none⟩ = some (.slice a' c.length c') ∧ SlV w a' (ints c) ∧ f[k]? = some c ∧ (∀ x ∈ c, I64 x) ∧ c.length ≤ 9223372036854775807 ∧ c.length ≤ c' ∧ (a' = none → c' = 0) := by
  obtain ⟨b, off, v, h1, h2, a', c', rfl, h3, h4, h5⟩ := h k f[k] (by simp [hk])
  have := hf f[k] (by simp)
  exact ⟨b, off, f[k], a', c', h1, h2, h5, by simp [hk], this.1, this.2, h3, h4⟩

/-- The struct's box. -/
abbrev fbox (n : Int) (a : Option Addr) (m c : Nat) : Obj := .cells #[.int .i64 n, .slice a m c] 34

theorem box_below (w : World) (o : Obj) : Below w.heap.size w (w.alloc o) := below_al (Below.refl _ _) (Nat.le_refl _) _

set_option maxHeartbeats 1000000 in
theorem law02_Small (n : Int) (a : Option Addr) (f : List (List Int)) (m c : Nat) (w : World) (hm : m = f.length) (hf : FOk f) (hr : Rws w a f) (hl : f.length ≤ 9223372036854775807) :
    Calls Try.prog 25 #[.agg #[.int .i64 n, .slice a m c]] w fun e w' => e = .returned (.bool (smallB f)) ∧ w.alloc (fbox n a m c) = w' := by
  subst hm
  have HF := hid hf
  have HR := hid (hr.below (box_below w (fbox n a f.length c)))
  clear hf hr
  go_enter Try.func25, Try.ntmps25
  go_wp2_with fail
  go_loop [3] (fun i => ∃ k : Nat, k ≤ f.length ∧ k ≤ 60 ∧ i = .int .i64 k ∧ Hid ((f.take k).any (fun c => decide (40 < c.length)) = false)) (fun i => 60 - (intOf i).toNat)
  case atStart => exact ⟨0, Nat.zero_le _, by decide, rfl, rfl⟩
  case round =>
    obtain ⟨k, hk, hk6, rfl, hrel⟩ := hrel
    by_cases hlt : k < f.length
    · by_cases h60 : k < 60
      · obtain ⟨b, off, c1, a1, cc1, rfl, hcell, -, hc1, -, -, -, -⟩ := HR.out.row HF.out hlt
        have HC := hid hc1
        have hd : decide (k < f.length) = true := by simp [hlt]
        clear hc1
        go_wp2_with fail
        · have hgt : (40 : Int) < c1.length := by assumption
          go_ret
          exact ⟨by rw [smallB_at h60 HC.out hgt]; rfl, rfl⟩
        · have hle : (c1.length : Int) ≤ 40 := by assumption
          go_round
          case rel => exact ⟨k + 1, by omega, by omega, by go_num, take_any_succ HC.out hrel (by simp; omega)⟩
          case measure => simp [intOf]; omega
      · have hd : decide (k < f.length) = true := by simp [hlt]
        have hk60 : k = 60 := by omega
        subst hk60
        have HS := hid (smallB_end (Or.inr rfl) hrel)
        go_wp2_with fail
        go_ret
        exact ⟨by rw [HS.out]; simp; omega, rfl⟩
    · have hd : decide (k < f.length) = false := by simp; omega
      have HS := hid (smallB_end (Or.inl hlt) hrel)
      go_wp2_with fail
      go_ret
      exact ⟨by rw [HS.out]; simp; omega, rfl⟩

set_option maxHeartbeats 1000000 in
theorem cnf_Check (n : Int) (a : Option Addr) (f : List (List Int)) (m c : Nat) (w : World) (hm : m = f.length) (hf : FOk f) (hr : Rws w a f) (hl : f.length ≤ 9223372036854775807) :
    Calls Try.prog 21 #[.agg #[.int .i64 n, .slice a m c]] w fun e w' => e = .returned (.int .i64 (cnfCheck n f)) ∧ w.alloc (fbox n a m c) = w' := by
  subst hm
  have HF := hid hf
  have HR := hid (hr.below (box_below w (fbox n a f.length c)))
  clear hf hr
  go_enter Try.func21, Try.ntmps21
  go_wp2_with fail
  refine wp_scope_jumps 0 (fun a' w' => w' = w.alloc (fbox n a f.length c) ∧ ∃ u0 u1 u2 u3 u4 u5 u6 u7 u8 u9 u10 u11 u12 u13 u14 u15 u16 u17 u18 u19 u20 u21 u22 u23 u24 u25 u26 u27 u28 u29 u30 u31 : Value, a' = ⟨#[u0, u1, u2, u3, u4, u5, u6, u7, u8, u9, u10, u11, u12, u13, u14, u15, u16, u17, u18, u19, u20, u21, u22, u23, u24, u25, u26, u27, u28, u29, u30, u31], []⟩ ∧ u2 = .int .i64 (cnfCheck n f)) (fun _ _ => 0) (by rfl) ?_ ?_
  · by_cases h0 : n < 0
    · go_wp2_with fail
      simp only [Exit.jump]
      go_ret
      exact ⟨by rw [cnfCheck_range (Or.inl h0)]; rfl, rfl⟩
    · by_cases h1 : 1048576 < n
      · go_wp2_with fail
        simp only [Exit.jump]
        go_ret
        exact ⟨by rw [cnfCheck_range (Or.inr h1)]; rfl, rfl⟩
      · have hn : 0 ≤ n ∧ n ≤ 1048576 := by omega
        have HN := hid hn
        by_cases h2 : (1048576 : Int) < f.length
        · go_wp2_with fail
          simp only [Exit.jump]
          go_ret
          exact ⟨by rw [cnfCheck_long HN.out h2]; rfl, rfl⟩
        · have hl2 : (f.length : Int) ≤ 1048576 := by omega
          go_wp2_with fail
          go_loop [20] (fun i => ∃ k : Nat, k ≤ f.length ∧ i = .int .i64 k ∧ Hid ((f.take k).any (fun c => litCheck n c != 0) = false)) (fun i => f.length - (intOf i).toNat)
          case atStart => exact ⟨0, Nat.zero_le _, rfl, rfl⟩
          case round =>
            obtain ⟨k, hk, rfl, hrel⟩ := hrel
            by_cases hlt : k < f.length
            · obtain ⟨b, off, c1, a1, cc1, rfl, hcell, hsl, hc1, hx1, hl1, -, -⟩ := HR.out.row HF.out hlt
              have HC := hid hc1
              have HS := hid hsl
              have HX := hid hx1
              obtain ⟨e1, he1⟩ : ∃ e1, litCheck n c1 = e1 := ⟨_, rfl⟩
              have HE := hid he1
              clear hc1 hsl hx1 he1
              by_cases hz : e1 = 0
              · have hz' : (e1 != 0) = false := by simp [hz]
                have HZ := hid hz
                clear hz
                go_wp2_with (go_at_call 15; refine (lit_CheckR n _ c1 _ _ _ _ HE.out rfl HX.out HS.out hl1).mono ?_; rintro e w' ⟨rfl, rfl⟩)
                go_round
                case rel => exact ⟨k + 1, by omega, by go_num, take_any_succ HC.out hrel (by simp [HE.out, HZ.out])⟩
                case measure => simp [intOf]; omega
              · have hz' : (e1 != 0) = true := by simp [hz]
                have HB := hid (cnfCheck_bad HN.out hl2 HC.out hrel HE.out hz')
                clear hz
                go_wp2_with (go_at_call 15; refine (lit_CheckR n _ c1 _ _ _ _ HE.out rfl HX.out HS.out hl1).mono ?_; rintro e w' ⟨rfl, rfl⟩)
                go_step3
                simp only [Exit.then, Exit.inBlock]
                refine ⟨rfl, ?_⟩
                refine ⟨rfl, ?_⟩
                repeat (apply Exists.intro)
                exact ⟨rfl, by rw [HB.out]⟩
            · go_wp2_with fail
              simp only [Exit.jump]
              go_ret
              exact ⟨by rw [cnfCheck_ok HN.out hl2 hlt hrel]; rfl, rfl⟩
  · rintro a' w' ⟨rfl, u0, u1, u2, u3, u4, u5, u6, u7, u8, u9, u10, u11, u12, u13, u14, u15, u16, u17, u18, u19, u20, u21, u22, u23, u24, u25, u26, u27, u28, u29, u30, u31, rfl, rfl⟩
    go_wp2_with fail
    simp only [Exit.jump]
    go_ret
    exact ⟨rfl, rfl⟩

end Go.Proofs.Ytfofabbnbmieoaa

/- The contracts of cnf.First and the reference's Check and First of layer 2. -/
namespace Go.Proofs.Ytfofabbnbmieoaa
open Go.RowKit

theorem cnfFirst_err {n e : Int} {f : List (List Int)} {m : List Bool} (h : cnfCheck n f = e) (h0 : (e != 0) = true) : cnfFirst n f m = (0, e) := by
  have : e ≠ 0 := by simpa using h0
  unfold cnfFirst; rw [if_pos (by rw [h]; exact this), h]
theorem cnfFirst_arg {n : Int} {f : List (List Int)} {m : List Bool} (h : cnfCheck n f = 0) (h0 : ((m.length : Int) != n) = true) : cnfFirst n f m = (0, 2) := by
  unfold cnfFirst; rw [if_neg (by simp [h]), if_pos (by simpa using h0)]
theorem cnfFirst_idx {n : Int} {f : List (List Int)} {m : List Bool} (h : cnfCheck n f = 0) (h0 : ((m.length : Int) != n) = false) : cnfFirst n f m = (firstIdx m f, 0) := by
  unfold cnfFirst; rw [if_neg (by simp [h]), if_neg (by simpa using h0)]

theorem cnf_CheckR (n : Int) (a : Option Addr) (f : List (List Int)) (m c : Nat) (e : Int) (w : World) (he : cnfCheck n f = e) (hm : m = f.length) (hf : FOk f) (hr : Rws w a f) (hl : f.length ≤ 9223372036854775807) :
    Calls Try.prog 21 #[.agg #[.int .i64 n, .slice a m c]] w fun x w' => x = .returned (.int .i64 e) ∧ w.alloc (fbox n a m c) = w' := he ▸ cnf_Check n a f m c w hm hf hr hl

set_option maxHeartbeats 1000000 in
theorem cnf_First (n : Int) (a : Option Addr) (f : List (List Int)) (lf c : Nat) (am : Option Addr) (m : List Bool) (lm cm : Nat) (w : World) (hlf : lf = f.length) (hlm : lm = m.length) (hf : FOk f) (hr : Rws w a f) (hm : SlV w am (bools m))
    (hl : f.length ≤ 9223372036854775807) (hl2 : m.length ≤ 9223372036854775807) :
    Calls Try.prog 22 #[.agg #[.int .i64 n, .slice a lf c], .slice am lm cm] w fun x w' =>
      x = .returned (.tuple #[.int .i64 (cnfFirst n f m).1, .int .i64 (cnfFirst n f m).2]) ∧ Below w.heap.size w w' := by
  subst hlf
  subst hlm
  have HF := hid hf
  obtain ⟨e1, he1⟩ : ∃ e1, cnfCheck n f = e1 := ⟨_, rfl⟩
  have HE := hid he1
  have HR1 := hid (hr.below (box_below w (fbox n a f.length c)))
  have hb2 : Below w.heap.size w ((w.alloc (fbox n a f.length c)).alloc (fbox n a f.length c)) := below_al (box_below _ _) (by simp only [size_al]; omega) _
  have HR2 := hid (hr.below hb2)
  have HM2 := hid (hm.below hb2)
  have HB2 := hid hb2
  clear hf hr hm he1 hb2
  by_cases hz : e1 = 0
  · have hz' : (e1 != 0) = false := by simp [hz]
    have HZ : Hid (cnfCheck n f = 0) := by rw [HE.out, hz]; rfl
    clear hz
    cases hlen : ((m.length : Int) != n) with
    | true =>
      have HG := hid (cnfFirst_arg HZ.out hlen)
      go_enter Try.func22, Try.ntmps22
      go_wp2_with (go_at_call 21; refine (cnf_CheckR n _ f _ _ _ _ HE.out rfl HF.out HR1.out hl).mono ?_; rintro e w' ⟨rfl, rfl⟩)
      go_ret2
      exact ⟨by rw [HG.out]; rfl, HB2.out⟩
    | false =>
      have HG := hid (cnfFirst_idx HZ.out hlen)
      go_enter Try.func22, Try.ntmps22
      go_wp2_with (go_at_call 21; refine (cnf_CheckR n _ f _ _ _ _ HE.out rfl HF.out HR1.out hl).mono ?_; rintro e w' ⟨rfl, rfl⟩)
      go_loop [22] (fun i => ∃ k : Nat, k ≤ f.length ∧ i = .int .i64 k ∧ Hid ((f.take k).any (fun c => !holdsB m c) = false)) (fun i => f.length - (intOf i).toNat)
      case atStart => exact ⟨0, Nat.zero_le _, rfl, rfl⟩
      case round =>
        obtain ⟨k, hk, rfl, hrel⟩ := hrel
        by_cases hlt : k < f.length
        · obtain ⟨b, off, c1, a1, cc1, rfl, hcell, hsl, hc1, hx1, hl1, -, -⟩ := HR2.out.row HF.out hlt
          have HC := hid hc1
          have HS := hid hsl
          have HX := hid hx1
          obtain ⟨r1, hr1⟩ : ∃ r1, holdsB m c1 = r1 := ⟨_, rfl⟩
          have HH := hid hr1
          clear hc1 hsl hx1 hr1
          cases r1 with
          | true =>
            go_wp2_with (go_at_call 16; refine (lit_HoldsR _ m _ _ _ c1 _ _ _ _ HH.out rfl rfl HM2.out HX.out HS.out hl1 hl2).mono ?_; rintro e w' ⟨rfl, rfl⟩)
            go_round
            case rel => exact ⟨k + 1, by omega, by go_num, take_any_succ HC.out hrel (by simp [HH.out])⟩
            case measure => simp [intOf]; omega
          | false =>
            have HI := hid (firstIdx_at HC.out hrel HH.out)
            go_wp2_with (go_at_call 16; refine (lit_HoldsR _ m _ _ _ c1 _ _ _ _ HH.out rfl rfl HM2.out HX.out HS.out hl1 hl2).mono ?_; rintro e w' ⟨rfl, rfl⟩)
            go_ret2
            exact ⟨by rw [HG.out, HI.out]; rfl, HB2.out⟩
        · have HI := hid (firstIdx_none hlt hrel)
          go_wp2_with fail
          go_ret2
          exact ⟨by rw [HG.out, HI.out]; rfl, HB2.out⟩
  · have hz' : (e1 != 0) = true := by simp [hz]
    have HG := hid (cnfFirst_err (m := m) HE.out hz')
    clear hz
    go_enter Try.func22, Try.ntmps22
    go_wp2_with (go_at_call 21; refine (cnf_CheckR n _ f _ _ _ _ HE.out rfl HF.out HR1.out hl).mono ?_; rintro e w' ⟨rfl, rfl⟩)
    go_ret2
    exact ⟨by rw [HG.out]; rfl, HB2.out⟩

set_option maxHeartbeats 1000000 in
theorem ref02_Check (n : Int) (a : Option Addr) (f : List (List Int)) (m c : Nat) (w : World) (hm : m = f.length) (hf : FOk f) (hr : Rws w a f) (hl : f.length ≤ 9223372036854775807) :
    Calls Try.prog 61 #[.agg #[.int .i64 n, .slice a m c]] w fun e w' => e = .returned (.int .i64 (cnfCheck n f)) ∧ ∃ k, w' = (w.alloc (fbox n a m c)).drewN k := by
  subst hm
  have HF := hid hf
  have HR := hid (hr.below (box_below w (fbox n a f.length c)))
  clear hf hr
  by_cases h0 : n < 0
  · go_enter Try.func61, Try.ntmps61
    go_wp2_with fail
    go_ret
    exact ⟨by rw [cnfCheck_range (Or.inl h0)]; rfl, 0, rfl⟩
  · by_cases h1 : 1048576 < n
    · go_enter Try.func61, Try.ntmps61
      go_wp2_with fail
      go_ret
      exact ⟨by rw [cnfCheck_range (Or.inr h1)]; rfl, 0, rfl⟩
    · have hn : 0 ≤ n ∧ n ≤ 1048576 := by omega
      have HN := hid hn
      by_cases h2 : (1048576 : Int) < f.length
      · go_enter Try.func61, Try.ntmps61
        go_wp2_with fail
        go_ret
        exact ⟨by rw [cnfCheck_long HN.out h2]; rfl, 0, rfl⟩
      · have hl2 : (f.length : Int) ≤ 1048576 := by omega
        go_enter Try.func61, Try.ntmps61
        go_wp2_with fail
        obtain ⟨wb, hwb⟩ : ∃ wb, wb = w.alloc (fbox n a f.length c) := ⟨_, rfl⟩
        go_loopw [3] (fun i wr => ∃ k nd : Nat, k ≤ f.length ∧ wr = (w.alloc (fbox n a f.length c)).drewN nd ∧ i = .int .i64 k ∧ Hid ((f.take k).any (fun c => litCheck n c != 0) = false)) (fun i _ => f.length - (intOf i).toNat)
        case atStart => exact ⟨0, 0, Nat.zero_le _, rfl, rfl, rfl⟩
        case round =>
          obtain ⟨k, nd, hk, rfl, rfl, hrel⟩ := hrel
          by_cases hlt : k < f.length
          · obtain ⟨b, off, c1, a1, cc1, rfl, hcell, hsl, hc1, hx1, hl1, -, -⟩ := HR.out.row HF.out hlt
            have HC := hid hc1
            have HS := hid hsl
            have HX := hid hx1
            obtain ⟨e1, he1⟩ : ∃ e1, litCheck n c1 = e1 := ⟨_, rfl⟩
            have HE := hid he1
            have hi1 : (k : Int) < f.length := by omega
            clear hc1 hsl hx1 he1
            by_cases hz : e1 = 0
            · have hz' : (e1 != 0) = false := by simp [hz]
              have HZ := hid hz
              clear hz
              go_wp2_with fail
              go_quiet ((go_at_call 81; first | exact quiet_same2 (ref01_CheckR n _ c1 _ _ _ _ HE.out rfl HX.out HS.out hl1) | exact quiet_same (ref01_CheckR n _ c1 _ _ _ _ HE.out rfl HX.out HS.out hl1)))
              go_wp2_with fail
              go_roundw
              case rel => exact ⟨k + 1, _, by omega, (by first | rfl | exact World.drewN_drewN ..), by go_num, take_any_succ HC.out hrel (by simp [HE.out, HZ.out])⟩
              case measure => simp [intOf]; omega
            · have hz' : (e1 != 0) = true := by simp [hz]
              have HB := hid (cnfCheck_bad HN.out hl2 HC.out hrel HE.out hz')
              clear hz
              go_wp2_with fail
              go_quiet ((go_at_call 81; first | exact quiet_same2 (ref01_CheckR n _ c1 _ _ _ _ HE.out rfl HX.out HS.out hl1) | exact quiet_same (ref01_CheckR n _ c1 _ _ _ _ HE.out rfl HX.out HS.out hl1)))
              go_wp2_with fail
              go_ret
              exact ⟨by rw [HB.out]; rfl, _, by first | rfl | exact World.drewN_drewN ..⟩
          · go_wp2_with fail
            go_ret
            exact ⟨by rw [cnfCheck_ok HN.out hl2 hlt hrel]; rfl, _, by first | rfl | exact World.drewN_drewN ..⟩

end Go.Proofs.Ytfofabbnbmieoaa

/- The contracts of the reference's First of layer 2, and of weepholelaw02.three and known. -/
namespace Go.Proofs.Ytfofabbnbmieoaa
open Go.RowKit

theorem ref02_CheckR (n : Int) (a : Option Addr) (f : List (List Int)) (m c : Nat) (e : Int) (w : World) (he : cnfCheck n f = e) (hm : m = f.length) (hf : FOk f) (hr : Rws w a f) (hl : f.length ≤ 9223372036854775807) :
    Calls Try.prog 61 #[.agg #[.int .i64 n, .slice a m c]] w fun x w' => x = .returned (.int .i64 e) ∧ ∃ k, w' = (w.alloc (fbox n a m c)).drewN k := he ▸ ref02_Check n a f m c w hm hf hr hl

theorem sli_of_block {w : World} {b n : Nat} {e : TypeId} {xs : List Int} {m : Nat × Nat} (h : w.heap[b]? = some (.cells (ints xs).toArray e m)) (hn : n = xs.length) : SlI w (.slice (some ⟨b, 0, none⟩) n n) xs :=
  ⟨some ⟨b, 0, none⟩, n, by rw [hn], by omega, nofun, slv_at h⟩

end Go.Proofs.Ytfofabbnbmieoaa

/- Rows of rows of the call's own. -/
namespace Go.Proofs.Ytfofabbnbmieoaa
open Go.RowKit

theorem info_ints : (Try.prog.info? 22).map (fun i => (i.zero, i.size, i.bytes)) = some (some (.slice none 0 0), 1, 24) := by kernel_rfl

/-- The slice value 'v' is a row of the call's own (from B on) of the lists 'f', each a row of the call's own. -/
def OwnRw (w : World) (B : Nat) (v : Value) (f : List (List Int)) : Prop :=
  ∃ vs, w.ownsRow B 22 1 v f.length vs ∧ ∀ (j : Nat) (c : List Int), f[j]? = some c → ∃ u, vs[j]? = some u ∧ w.ownsRow B 3 1 u c.length (ints c)

theorem fit_cell {w : World} {b : Nat} {e : TypeId} {vs : List Value} {m : Nat × Nat} (h : w.heap[b]? = some (.cells vs.toArray e m)) (j : Nat) : w.cell? ⟨b, j, none⟩ = vs[j]? := by
  rw [cell_of_row _ _ _ _ _ _ h]; simp

theorem own_below {w w' : World} {B e s n : Nat} {v : Value} {xs : List Value} (h : w.ownsRow B e s v n xs) (hb : Below w.heap.size w w') : w'.ownsRow B e s v n xs := by
  refine ⟨h.1, ?_⟩
  rcases h.2 with h0 | ⟨g, cap, cur, e1, e2, e3, e4⟩
  · exact .inl h0
  · exact .inr ⟨g, cap, cur, e1, e2, by rw [hb.block g (Array.getElem?_eq_some_iff.1 e3).1]; exact e3, e4⟩

theorem own_apart {w : World} {B B' e e' s s' n n' : Nat} {v v' : Value} {xs xs' : List Value} (h : w.ownsRow B e s v n xs) (h' : w.ownsRow B' e' s' v' n' xs') (hne : e ≠ e') : v.ownBlock = none ∨ v.ownBlock ≠ v'.ownBlock := by
  rcases h.2 with ⟨rfl, _⟩ | ⟨g, cap, cur, rfl, _, hg, _⟩
  · exact .inl rfl
  · rcases h'.2 with ⟨rfl, _⟩ | ⟨g', cap', cur', rfl, _, hg', _⟩
    · exact .inr (by simp [Value.ownBlock])
    · refine .inr fun he => ?_
      simp only [Value.ownBlock, Option.some.injEq] at he
      rw [he, hg'] at hg
      simp at hg
      exact hne hg.2.symm

/-- One element of a slice of ints of the kind k. -/
theorem SlV.intK {w : World} {a : Option Addr} {xs : List Int} {k : IntKind} (h : SlV w a (xs.map (Value.int k))) {j : Nat} (hj : j < xs.length) :
    ∃ b off x, a = some ⟨b, off, none⟩ ∧ w.cell? ⟨b, off + j, none⟩ = some (.int k x) ∧ xs[j]? = some x := by
  obtain ⟨b, off, ha, hc⟩ := h j (.int k xs[j]) (by simp [hj])
  exact ⟨b, off, xs[j], ha, hc, by simp [hj]⟩

theorem own_not {w : World} {B e s n k : Nat} {v : Value} {xs : List Value} (h : w.ownsRow B e s v n xs) (hk : k < B) : some k ≠ v.ownBlock := by
  intro he
  have := h.lt k he.symm
  omega

theorem OwnRw.below {w w' : World} {B : Nat} {v : Value} {f : List (List Int)} (h : OwnRw w B v f) (hb : Below w.heap.size w w') : OwnRw w' B v f :=
  let ⟨vs, h1, h2⟩ := h; ⟨vs, own_below h1 hb, fun j c hj => let ⟨u, e1, e2⟩ := h2 j c hj; ⟨u, e1, own_below e2 hb⟩⟩

theorem OwnRw.base {w : World} {B B' : Nat} {v : Value} {f : List (List Int)} (h : OwnRw w B v f) (hB : B' ≤ B) : OwnRw w B' v f :=
  let ⟨vs, h1, h2⟩ := h; ⟨vs, own_base h1 hB, fun j c hj => let ⟨u, e1, e2⟩ := h2 j c hj; ⟨u, e1, own_base e2 hB⟩⟩

theorem OwnRw.setBelow {w : World} {B : Nat} {v : Value} {f : List (List Int)} (h : OwnRw w B v f) {a : Addr} (ha : a.block < B) (u : Value) : OwnRw (w.setCell a u) B v f :=
  let ⟨vs, h1, h2⟩ := h; ⟨vs, ownsRow_setCell_below h1 ha u, fun j c hj => let ⟨x, e1, e2⟩ := h2 j c hj; ⟨x, e1, ownsRow_setCell_below e2 ha u⟩⟩

/-- A row appended. -/
theorem OwnRw.push {w w' : World} {B : Nat} {v v' x : Value} {f : List (List Int)} {c : List Int} {vs : List Value} (h1 : w.ownsRow B 22 1 v f.length vs)
    (h2 : ∀ (j : Nat) (c : List Int), f[j]? = some c → ∃ u, vs[j]? = some u ∧ w.ownsRow B 3 1 u c.length (ints c)) (hx : w.ownsRow B 3 1 x c.length (ints c))
    (h' : w'.ownsRow B 22 1 v' (f.length + 1) (vs ++ [x])) (hg : w.grownBy w' v.ownBlock) : OwnRw w' B v' (f ++ [c]) := by
  have hl : vs.length = f.length := by have := h1.1; omega
  refine ⟨vs ++ [x], by simpa using h', fun j d hj => ?_⟩
  rcases Nat.lt_or_ge j f.length with hlt | hge
  · rw [List.getElem?_append_left hlt] at hj
    obtain ⟨u, e1, e2⟩ := h2 j d hj
    exact ⟨u, by rw [List.getElem?_append_left (by omega)]; exact e1, e2.kept hg (own_apart e2 h1 (by decide))⟩
  · rw [List.getElem?_append_right hge] at hj
    have hj0 : j - f.length = 0 := by
      rcases Nat.eq_zero_or_pos (j - f.length) with h0 | h0
      · exact h0
      · rw [List.getElem?_eq_none (by simp; omega)] at hj; cases hj
    rw [hj0] at hj
    simp at hj
    subst hj
    exact ⟨x, by rw [List.getElem?_append_right (by omega), hl, hj0]; rfl, hx.kept hg (own_apart hx h1 (by decide))⟩

theorem OwnRw.shape {w : World} {B : Nat} {v : Value} {f : List (List Int)} (h : OwnRw w B v f) : ∃ a c, v = .slice a f.length c ∧ f.length ≤ c ∧ (a = none → c = 0) ∧ Rws w a f := by
  obtain ⟨vs, h1, h2⟩ := h
  obtain ⟨a, c, e1, e2, e3, e4⟩ := own_sl h1
  have hl : vs.length = f.length := by have := h1.1; omega
  rw [hl] at e1 e2
  refine ⟨a, c, e1, e2, e3, fun j d hj => ?_⟩
  obtain ⟨u, g1, g2⟩ := h2 j d hj
  obtain ⟨b, off, k1, k2⟩ := e4 j u g1
  exact ⟨b, off, u, k1, k2, own_sli g2⟩

end Go.Proofs.Ytfofabbnbmieoaa

/- append kept shut while the walk goes, so that an equation laid ahead of the walk tells what it gives: also inside regions whose order is open. -/
namespace Go.Proofs.Ytfofabbnbmieoaa.Ord
open Go.RowKit

/-- append, kept shut. -/
def appM (ats : Array TypeId) (ty : TypeId) (args : Array Value) : Sem Value := Builtin.append_ ats ty args

theorem app_mark (ats : Array TypeId) (ty : TypeId) (cs : Array Bool) (args : Array Value) : builtin .append ats ty cs args = (do pure (.value (← appM ats ty args))) := rfl

/-- One element that was laid into a block of its own. -/
theorem appM_one {P : Program} (w : World) (base : Nat) (t ty e : TypeId) (i : TypeInfo) (z : Value) (bytes : Nat) (ht : P.underlying t = some (.slice e)) (hi : P.info? e = some i) (hz : i.zero = some z)
    (hsize : i.size = 1) (hby : i.bytes = bytes) (hzs : z.cells.size = 1)
    (v : Value) (n : Nat) (xs : List Value) (hown : w.ownsRow base e 1 v n xs)
    (g : Nat) (u : Value) (hc : w.heap[g]? = some (.cells #[u] e (0, 0))) (h1 : u.oneCell' = true)
    (h63 : n + 1 ≤ maxLen) (hbytes : (n + 1) * bytes ≤ 140737488355328) (hbase : base ≤ w.heap.size) :
    ∃ a' c' w', (appM #[t, t] ty #[v, .slice (some ⟨g, 0, none⟩) 1 1]).run P w = .ok (.slice a' (n + 1) c') w' ∧ w'.ownsRow base e 1 (.slice a' (n + 1) c') (n + 1) (xs ++ [u]) ∧ w.grownBy w' v.ownBlock ∧ ((Value.slice a' (n + 1) c').ownBlock = v.ownBlock ∨ (Value.slice a' (n + 1) c').ownBlock = some w.heap.size) := by
  have hnews : ∀ j y, [u][j]? = some y → w.cell? ((⟨g, 0, none⟩ : Addr).add j) = some y := by
    intro j y hj
    match j, hj with
    | 0, hj =>
      simp at hj
      subst hj
      simp [World.cell?, Addr.add, hc]
  obtain ⟨v', w', hr, h2, h3, -, h4⟩ := run_append_own_at (P := P) w base t ty e i z 1 bytes ht hi hz hsize hby hzs (by decide) v n xs hown ⟨g, 0, none⟩ 1 1 [u] rfl hnews (fun x hx => by simp at hx; subst hx; exact h1) h63 hbytes hbase
  obtain ⟨a', c', rfl⟩ := own_lenV' h2
  exact ⟨a', c', w', hr, h2, h3, h4⟩

/-- A block of another type is not the row's. -/
theorem own_ty {w : World} {B e s n g : Nat} {v : Value} {xs : List Value} {cs : Array Value} {t : TypeId} {m : Nat × Nat} (ho : w.ownsRow B e s v n xs) (hg : w.heap[g]? = some (.cells cs t m)) (ht : t ≠ e) : some g ≠ v.ownBlock := by
  intro h
  rcases ho.2 with ⟨rfl, _⟩ | ⟨g', cap, cur, rfl, _, hg', _⟩
  · cases h
  · injection h with h
    have h : g = g' := h
    rw [← h, hg] at hg'
    injection hg' with hg'
    injection hg' with _ hg' _
    exact ht hg'

theorem own_setO {w : World} {B e s n b : Nat} {v : Value} {xs : List Value} {cs : Array Value} {t : TypeId} {m : Nat × Nat} (ho : w.ownsRow B e s v n xs) (hb : w.heap[b]? = some (.cells cs t m)) (ht : t ≠ e) (j : Nat) (u : Value) : (w.setCell ⟨b, j, none⟩ u).ownsRow B e s v n xs :=
  own_frame0 ho fun g hg => heap_setCell_other w ⟨b, j, none⟩ g u (by
    show g ≠ b
    rintro rfl
    exact own_ty ho hb ht hg.symm)

/-! ### What an append leaves: w1 is the world in which it runs, behind w by new blocks and draws. -/

theorem blk_app {w w1 w6 : World} {B e s n g : Nat} {v : Value} {xs : List Value} {cs : Array Value} {t : TypeId} {m : Nat × Nat} (h1 : Below w.heap.size w w1) (ho : w.ownsRow B e s v n xs) (hg : w1.grownBy w6 v.ownBlock) (hb : w.heap[g]? = some (.cells cs t m)) (ht : t ≠ e) : w6.heap[g]? = some (.cells cs t m) :=
  have hl := (Array.getElem?_eq_some_iff.1 hb).1
  (hg.block g (Nat.lt_of_lt_of_le hl h1.size) (own_ty ho hb ht)).trans ((h1.block g hl).trans hb)

theorem below_app {w0 w w1 w6 : World} {B e s n : Nat} {v : Value} {xs : List Value} (hB : Below B w0 w) (hw : B ≤ w.heap.size) (h1 : Below w.heap.size w w1) (ho : w.ownsRow B e s v n xs) (hg : w1.grownBy w6 v.ownBlock) : Below B w0 w6 :=
  (hB.trans (h1.mono hw)).grown hg (Nat.le_trans hw h1.size) (fun q hq => (ho.lt q hq).1)

end Go.Proofs.Ytfofabbnbmieoaa.Ord

/- append kept shut, whatever the source; a slice of the call's own cut short; its size in memory. -/
namespace Go.Proofs.Ytfofabbnbmieoaa.Ord
open Go.RowKit

theorem appM_sl {P : Program} (w : World) (base : Nat) (t ty e : TypeId) (i : TypeInfo) (z : Value) (bytes : Nat) (ht : P.underlying t = some (.slice e)) (hi : P.info? e = some i) (hz : i.zero = some z)
    (hsize : i.size = 1) (hby : i.bytes = bytes) (hzs : z.cells.size = 1)
    (v : Value) (n : Nat) (xs : List Value) (hown : w.ownsRow base e 1 v n xs)
    (a : Option Addr) (m c : Nat) (news : List Value) (hs : SlV w a news) (hm : m = news.length) (hc : a = none → c = 0) (h1 : ∀ u ∈ news, u.oneCell' = true)
    (h63 : n + m ≤ maxLen) (hbytes : (n + m) * bytes ≤ 140737488355328) (hbase : base ≤ w.heap.size) :
    ∃ a' c' w', (appM #[t, t] ty #[v, .slice a m c]).run P w = .ok (.slice a' (n + m) c') w' ∧ w'.ownsRow base e 1 (.slice a' (n + m) c') (n + m) (xs ++ news) ∧ w.grownBy w' v.ownBlock ∧ ((Value.slice a' (n + m) c').ownBlock = v.ownBlock ∨ (Value.slice a' (n + m) c').ownBlock = some w.heap.size) := by
  cases a with
  | some ad =>
    obtain ⟨v', w', hr, h2, h3, -, h4⟩ := run_append_own_at (P := P) w base t ty e i z 1 bytes ht hi hz hsize hby hzs (by decide) v n xs hown ad m c news (by omega) hs.cells h1 h63 hbytes hbase
    obtain ⟨a', c', rfl⟩ := own_lenV' h2
    exact ⟨a', c', w', hr, h2, h3, h4⟩
  | none =>
    have hn : news = [] := by
      cases news with
      | nil => rfl
      | cons u us => obtain ⟨b, off, he, -⟩ := hs 0 u rfl; cases he
    subst hn
    have hm0 : m = 0 := hm
    subst hm0
    rw [hc rfl]
    obtain ⟨a', c', rfl⟩ := own_lenV' hown
    exact ⟨a', c', w, run_append_owned_none (P := P) (w := w) base t ty e i 1 ht hi _ n xs hown, by simpa using hown, ⟨rfl, rfl, rfl, Nat.le_refl _, fun _ _ _ => rfl⟩, .inl rfl⟩

theorem own_take {w : World} {B e n k : Nat} {a : Option Addr} {c : Nat} {xs : List Value} (h : w.ownsRow B e 1 (.slice a n c) n xs) (hk : k ≤ n) (hn : a = none → k = 0 ∧ c = 0) : w.ownsRow B e 1 (.slice a k c) k (xs.take k) := by
  have hl := h.1
  refine ⟨by simp; omega, ?_⟩
  rcases h.2 with ⟨h0, _⟩ | ⟨g', cap, cur, e1, e2, e3, e4, e5, e6, e7⟩
  · injection h0 with h0 _ _
    subst h0
    obtain ⟨rfl, rfl⟩ := hn rfl
    exact .inl ⟨rfl, rfl⟩
  · injection e1 with a1 a2 a3
    refine .inr ⟨g', cap, cur, by rw [a1, a3], e2, e3, by omega, e5, e6, ?_⟩
    rw [← e7, List.take_take]
    congr 1
    omega

theorem slice_toG {P : Program} {t e : TypeId} {a : Option Addr} {n c : Nat} {k : Int} {m : Nat} (hkm : k = m) (ht : P.underlying t = some (.slice e)) (hsz : ∀ wx, (sizeOf e).run P wx = .ok 1 wx) (h1 : m ≤ c) :
    ∀ wx, (Instr.slice t (.slice a n c) none (some (.int .i64 k)) none).run P wx = .ok (.slice a m c) wx := by
  subst hkm
  intro wx
  have he : P.elem t = e := by simp [Program.elem, ht]
  rw [run_slice_h (P := P) wx t a n c (by rw [he]; exact ht) .i64 m (by omega) (by omega), he, hsz]
  cases a <;> simp [sliced, Result.andThen, Addr.add]

theorem own_cap {w : World} {B e n m c : Nat} {a : Option Addr} {xs : List Value} (h : w.ownsRow B e 1 (.slice a m c) n xs) : n = m ∧ m ≤ c ∧ (a = none → c = 0 ∧ m = 0) := by
  rcases h.2 with ⟨h0, h1⟩ | ⟨g', cap, cur, e1, e2, e3, e4, -⟩
  · injection h0 with h2 h3 h4
    subst h2 h3 h4 h1
    exact ⟨rfl, Nat.le_refl _, fun _ => ⟨rfl, rfl⟩⟩
  · injection e1 with a1 a2 a3
    subst a1 a2 a3
    exact ⟨rfl, e4, nofun⟩

theorem made_list (z : Value) (n : Nat) : madeCells #[z] n = (List.replicate n z).toArray := by
  have h : (madeCells #[z] n).toList = List.replicate n z := by
    simp only [madeCells, Array.toList_map, Array.toList_range]
    apply List.ext_getElem?
    intro i
    by_cases hi : i < n
    · simp [hi, Nat.mod_one]
    · simp [hi]
  rw [← h]

end Go.Proofs.Ytfofabbnbmieoaa.Ord

/- How rup's base lies in memory. -/
namespace Go.Proofs.Ytfofabbnbmieoaa.Ord
open Go.RowKit Go.Conc

/-- What a block of ints of the call's own is for. -/
inductive RT where
  | cls (i : Nat)
  | trl
  | wth (a : Int)
  | kep
  | clr
  | oth

def nnts (l : List Nat) : List Value := l.map fun (t : Nat) => Value.int .i64 (t : Int)

theorem nnts_length (l : List Nat) : (nnts l).length = l.length := by simp [nnts]

/-- A list of numbers in blocks of the kind t: a row of the call's own, or an empty one without room. -/
def WT (t : RT) (tag : Nat → RT) (B : Nat) (w : World) (v : Value) (ns : List Nat) : Prop :=
  ∃ ad cap, v = .slice ad ns.length cap ∧ (ad = none → cap = 0) ∧ ((cap = 0 ∧ ns = []) ∨ (w.ownsRow B 3 1 v ns.length (nnts ns) ∧ ∀ g, v.ownBlock = some g → tag g = t))

/-- A watch list. -/
abbrev WV (tag : Nat → RT) (B : Nat) (w : World) (a : Int) (v : Value) (ns : List Nat) : Prop := WT (.wth a) tag B w v ns

/-- The clauses, each in a block of its own. -/
def CR (tag : Nat → RT) (B : Nat) (w : World) (C : List (List Int)) (us : List Value) : Prop :=
  ∀ (i : Nat) (c : List Int), C[i]? = some c → ∃ g o cap cur, us[i]? = some (.slice (some ⟨g, o, none⟩) c.length cap) ∧ tag g = .cls i ∧ B ≤ g ∧ w.heap[g]? = some (.cells cur 3 (0, 0)) ∧ ∀ (j : Nat) (x : Int), c[j]? = some x → cur[o + j]? = some (.int .i64 x)

structure RM (tag : Nat → RT) (B : Nat) (w0 w : World) (bx bw bk : Nat) (vc vt : Value) (dn : Nat) (C : List (List Int)) (us : List Value) (es : List (Int × Value)) (Wt : Int → List Nat) (K : List Int) : Prop where
  bel : Below B w0 w
  le : B ≤ w.heap.size
  bxB : B ≤ bx
  bwB : B ≤ bw
  bkB : B ≤ bk
  ne : bw ≠ bk
  blk : w.heap[bx]? = some (.cells #[vc, .map (some bw), .map (some bk), vt, .int .i64 dn] 120)
  clr : w.ownsRow B 22 1 vc C.length us
  clt : ∀ g, vc.ownBlock = some g → tag g = .clr
  cls : CR tag B w C us
  tr : w.ownsRow B 3 1 vt K.length (ints K)
  trt : ∀ g, vt.ownBlock = some g → tag g = .trl
  wi : IM w bw es
  wr : ∀ a, WV tag B w a ((aget es a).getD nilS) (Wt a)
  kn : IM w bk (kes K)

section
variable {tag : Nat → RT} {B : Nat} {w0 w : World} {bx bw bk : Nat} {vc vt : Value} {dn : Nat} {C : List (List Int)} {us : List Value} {es : List (Int × Value)} {Wt : Int → List Nat} {K : List Int}

theorem RM.cells (h : RM tag B w0 w bx bw bk vc vt dn C us es Wt K) :
    w.cell? ⟨bx, 0, none⟩ = some vc ∧ w.cell? ⟨bx, 1, none⟩ = some (.map (some bw)) ∧ w.cell? ⟨bx, 2, none⟩ = some (.map (some bk)) ∧ w.cell? ⟨bx, 3, none⟩ = some vt ∧ w.cell? ⟨bx, 4, none⟩ = some (.int .i64 dn) :=
  ⟨fit_cell (vs := [vc, .map (some bw), .map (some bk), vt, .int .i64 dn]) h.blk 0, fit_cell (vs := [vc, .map (some bw), .map (some bk), vt, .int .i64 dn]) h.blk 1, fit_cell (vs := [vc, .map (some bw), .map (some bk), vt, .int .i64 dn]) h.blk 2, fit_cell (vs := [vc, .map (some bw), .map (some bk), vt, .int .i64 dn]) h.blk 3, fit_cell (vs := [vc, .map (some bw), .map (some bk), vt, .int .i64 dn]) h.blk 4⟩

/-- Such a list where other blocks change. -/
theorem WT.frame {t : RT} {tag' : Nat → RT} {w' : World} {v : Value} {ns : List Nat} (h : WT t tag B w v ns) (hk : ∀ g (cur : Array Value), w.heap[g]? = some (.cells cur 3 (0, 0)) → tag g = t → w'.heap[g]? = w.heap[g]? ∧ tag' g = tag g) : WT t tag' B w' v ns := by
  obtain ⟨ad, cap, h1, h2, h3⟩ := h
  refine ⟨ad, cap, h1, h2, h3.imp_right fun ⟨ho, ht⟩ => ⟨own_frame0 ho fun g hg => ?_, fun g hg => ?_⟩⟩
  · obtain ⟨cur, hc⟩ := own_cells ho hg
    exact (hk g cur hc (ht g hg)).1
  · obtain ⟨cur, hc⟩ := own_cells ho hg
    exact ((hk g cur hc (ht g hg)).2).trans (ht g hg)

theorem WT.slv {t : RT} {v : Value} {ns : List Nat} (h : WT t tag B w v ns) : ∃ ad cap, v = .slice ad ns.length cap ∧ SlV w ad (nnts ns) := by
  obtain ⟨ad, cap, h1, h2, h3⟩ := h
  refine ⟨ad, cap, h1, ?_⟩
  rcases h3 with ⟨-, h4⟩ | ⟨h4, -⟩
  · rw [h4]; exact SlV.nil _ _
  · rw [h1] at h4; exact own_slv h4

theorem CR.frame {tag' : Nat → RT} {w' : World} (h : CR tag B w C us) (hk : ∀ g i, g < w.heap.size → tag g = .cls i → w'.heap[g]? = w.heap[g]? ∧ tag' g = tag g) : CR tag' B w' C us := by
  intro i c hc
  obtain ⟨g, o, cap, cur, e1, e2, e3, e4, e5⟩ := h i c hc
  have hl := (Array.getElem?_eq_some_iff.1 e4).1
  obtain ⟨q1, q2⟩ := hk g i hl e2
  exact ⟨g, o, cap, cur, e1, q2.trans e2, e3, q1.trans e4, e5⟩

/-- Blocks of other kinds. -/
theorem RM.apart (h : RM tag B w0 w bx bw bk vc vt dn C us es Wt K) : bx ≠ bw ∧ bx ≠ bk ∧ vc.ownBlock ≠ some bx ∧ vc.ownBlock ≠ some bw ∧ vc.ownBlock ≠ some bk ∧ vt.ownBlock ≠ some bx ∧ vt.ownBlock ≠ some bw ∧ vt.ownBlock ≠ some bk ∧ (∀ g, vc.ownBlock = some g → vt.ownBlock ≠ some g) := by
  obtain ⟨arrk, ck, hkm, -⟩ := h.kn
  obtain ⟨arrw, cw, hwm, -⟩ := h.wi
  have hb := h.blk
  have c1 : ∀ {v : Value} {e m : Nat} {xs : List Value} {g : Nat}, w.ownsRow B e 1 v m xs → v.ownBlock = some g → ∃ cur, w.heap[g]? = some (.cells cur e (0, 0)) := fun ho hg => own_cells ho hg
  refine ⟨fun e => ?_, fun e => ?_, fun e => ?_, fun e => ?_, fun e => ?_, fun e => ?_, fun e => ?_, fun e => ?_, fun g h1 h2 => ?_⟩
  · rw [e, hwm] at hb; cases hb
  · rw [e, hkm] at hb; cases hb
  · obtain ⟨cur, hc⟩ := c1 h.clr e; rw [hb] at hc; simp at hc
  · obtain ⟨cur, hc⟩ := c1 h.clr e; rw [hwm] at hc; cases hc
  · obtain ⟨cur, hc⟩ := c1 h.clr e; rw [hkm] at hc; cases hc
  · obtain ⟨cur, hc⟩ := c1 h.tr e; rw [hb] at hc; simp at hc
  · obtain ⟨cur, hc⟩ := c1 h.tr e; rw [hwm] at hc; cases hc
  · obtain ⟨cur, hc⟩ := c1 h.tr e; rw [hkm] at hc; cases hc
  · obtain ⟨cur, hc⟩ := c1 h.clr h1
    obtain ⟨cur2, hc2⟩ := c1 h.tr h2
    rw [hc] at hc2
    simp at hc2

/-- A block of ints is none of the three. -/
theorem RM.intb (h : RM tag B w0 w bx bw bk vc vt dn C us es Wt K) {g : Nat} {cur : Array Value} (hg : w.heap[g]? = some (.cells cur 3 (0, 0))) : g ≠ bx ∧ g ≠ bw ∧ g ≠ bk ∧ vc.ownBlock ≠ some g := by
  obtain ⟨arrk, ck, hkm, -⟩ := h.kn
  obtain ⟨arrw, cw, hwm, -⟩ := h.wi
  refine ⟨fun e => ?_, fun e => ?_, fun e => ?_, fun e => ?_⟩
  · rw [e, h.blk] at hg; simp at hg
  · rw [e, hwm] at hg; cases hg
  · rw [e, hkm] at hg; cases hg
  · obtain ⟨c2, hc2⟩ := own_cells h.clr e; rw [hg] at hc2; simp at hc2

/-- All that was there is as it was. -/
theorem RM.grow (h : RM tag B w0 w bx bw bk vc vt dn C us es Wt K) {w' : World} (hb : Below w.heap.size w w') {tag' : Nat → RT} (ht : ∀ g, g < w.heap.size → tag' g = tag g) : RM tag' B w0 w' bx bw bk vc vt dn C us es Wt K := by
  have hf : ∀ k, k < w.heap.size → w'.heap[k]? = w.heap[k]? := fun k hk => hb.block k hk
  exact ⟨h.bel.trans (hb.mono h.le), Nat.le_trans h.le hb.size, h.bxB, h.bwB, h.bkB, h.ne, (hf bx (Array.getElem?_eq_some_iff.1 h.blk).1).trans h.blk, own_below h.clr hb, fun g hg => (ht g (h.clr.lt g hg).2).trans (h.clt g hg), h.cls.frame fun g i hg _ => ⟨hf g hg, ht g hg⟩, own_below h.tr hb, fun g hg => (ht g (h.tr.lt g hg).2).trans (h.trt g hg), h.wi.frame (hf bw h.wi.lt), fun a => (h.wr a).frame (fun g cur hg _ => have hl := (Array.getElem?_eq_some_iff.1 hg).1; ⟨hf g hl, ht g hl⟩), h.kn.frame (hf bk h.kn.lt)⟩

/-- What is known, and the trail, change: of what was there only they are touched, and the base's trail and number. -/
theorem RM.known (h : RM tag B w0 w bx bw bk vc vt dn C us es Wt K) {w' : World} {tag' : Nat → RT} {vt' : Value} {dn' : Nat} {K' : List Int} (ht : Touch (fun k => k = bx ∨ k = bk ∨ vt.ownBlock = some k) w w') (htag : ∀ g, g < w.heap.size → tag' g = tag g) (hb : w'.heap[bx]? = some (.cells #[vc, .map (some bw), .map (some bk), vt', .int .i64 dn'] 120)) (htr : w'.ownsRow B 3 1 vt' K'.length (ints K')) (htt : ∀ g, vt'.ownBlock = some g → tag' g = .trl) (hkn : IM w' bk (kes K')) : RM tag' B w0 w' bx bw bk vc vt' dn' C us es Wt K' := by
  obtain ⟨a1, a2, a3, a4, a5, a6, a7, a8, a9⟩ := h.apart
  have hlow : ∀ k, (k = bx ∨ k = bk ∨ vt.ownBlock = some k) → B ≤ k := by
    rintro k (e | e | e)
    · rw [e]; exact h.bxB
    · rw [e]; exact h.bkB
    · exact (h.tr.lt k e).1
  have hk : ∀ g (cur : Array Value), w.heap[g]? = some (.cells cur 3 (0, 0)) → tag g ≠ .trl → w'.heap[g]? = w.heap[g]? := fun g cur hg hn => by
    obtain ⟨q1, q2, q3, q4⟩ := h.intb hg
    refine ht.block g (Array.getElem?_eq_some_iff.1 hg).1 ?_
    rintro (e | e | e)
    · exact q1 e
    · exact q3 e
    · exact hn (h.trt g e)
  refine ⟨h.bel.trans (ht.below h.le hlow), Nat.le_trans h.le ht.size, h.bxB, h.bwB, h.bkB, h.ne, hb, own_frame0 h.clr fun g hg => ht.block g (h.clr.lt g hg).2 ?_, fun g hg => (htag g (h.clr.lt g hg).2).trans (h.clt g hg), fun i c hc => ?_, htr, htt, h.wi.frame (ht.block bw h.wi.lt ?_), fun a => ?_, hkn⟩
  · rintro (e | e | e)
    · exact a3 (e ▸ hg)
    · exact a5 (e ▸ hg)
    · exact a9 g hg e
  · obtain ⟨g, o, cap, cur, e1, e2, e3, e4, e5⟩ := h.cls i c hc
    exact ⟨g, o, cap, cur, e1, (htag g (Array.getElem?_eq_some_iff.1 e4).1).trans e2, e3, (hk g cur e4 (by rw [e2]; nofun)).trans e4, e5⟩
  · rintro (e | e | e)
    · exact a1 e.symm
    · exact h.ne e
    · exact a7 e
  · exact (h.wr a).frame fun g cur hg hw => ⟨hk g cur hg (by rw [hw]; nofun), htag g (Array.getElem?_eq_some_iff.1 hg).1⟩

/-- Blocks of others change. -/
theorem RM.oth (h : RM tag B w0 w bx bw bk vc vt dn C us es Wt K) {w' : World} {tag' : Nat → RT} (hT : Touch (fun k => B ≤ k ∧ k ≠ bx ∧ k ≠ bw ∧ k ≠ bk ∧ (tag k = .oth ∨ tag k = .kep)) w w') (ht : ∀ g, g < w.heap.size → tag' g = tag g) : RM tag' B w0 w' bx bw bk vc vt dn C us es Wt K := by
  have hk : ∀ k, k < w.heap.size → (k = bx ∨ k = bw ∨ k = bk ∨ (tag k ≠ .oth ∧ tag k ≠ .kep)) → w'.heap[k]? = w.heap[k]? := fun k hk hh => hT.block k hk fun ⟨_, q1, q2, q3, q4⟩ => by
    rcases hh with e | e | e | e
    · exact q1 e
    · exact q2 e
    · exact q3 e
    · exact q4.elim e.1 e.2
  refine ⟨h.bel.trans (hT.below h.le fun k hk => hk.1), Nat.le_trans h.le hT.size, h.bxB, h.bwB, h.bkB, h.ne, (hk bx (Array.getElem?_eq_some_iff.1 h.blk).1 (.inl rfl)).trans h.blk, own_frame0 h.clr fun g hg => hk g (h.clr.lt g hg).2 (.inr (.inr (.inr (by rw [h.clt g hg]; exact ⟨nofun, nofun⟩)))), fun g hg => (ht g (h.clr.lt g hg).2).trans (h.clt g hg), h.cls.frame fun g i hg hi => ⟨hk g hg (.inr (.inr (.inr (by rw [hi]; exact ⟨nofun, nofun⟩)))), ht g hg⟩, own_frame0 h.tr fun g hg => hk g (h.tr.lt g hg).2 (.inr (.inr (.inr (by rw [h.trt g hg]; exact ⟨nofun, nofun⟩)))), fun g hg => (ht g (h.tr.lt g hg).2).trans (h.trt g hg), h.wi.frame (hk bw h.wi.lt (.inr (.inl rfl))), fun a => (h.wr a).frame fun g cur hg hw => ⟨hk g (Array.getElem?_eq_some_iff.1 hg).1 (.inr (.inr (.inr (by rw [hw]; exact ⟨nofun, nofun⟩)))), ht g (Array.getElem?_eq_some_iff.1 hg).1⟩, h.kn.frame (hk bk h.kn.lt (.inr (.inr (.inl rfl))))⟩

end

end Go.Proofs.Ytfofabbnbmieoaa.Ord
