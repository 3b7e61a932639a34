/- The walk of OrderBack. -/
import Derived.Test.YtfhpjaabcegefaaPBack
import Derived.Test.YtfhpjaabcegefaaWOdd
namespace Go.Proofs.Ytfhpjaabcegefaa.Ord
open Go.RowKit

theorem own_touch2 {w w' : World} {B e s n : Nat} {v : Value} {xs : List Value} {S : Nat → Prop} (h : w.ownsRow B e s v n xs) (ht : Touch S w w') (hS : ∀ g, v.ownBlock = some g → ¬ S g) : w'.ownsRow B e s v n xs := by
  refine ⟨h.1, ?_⟩
  rcases h.2 with h0 | ⟨g, cap, cur, e1, e2, e3, e4⟩
  · exact .inl h0
  · have hl := (h.lt g (by rw [e1]; rfl)).2
    exact .inr ⟨g, cap, cur, e1, e2, by rw [ht.block g hl (hS g (by rw [e1]; rfl))]; exact e3, e4⟩

theorem own_form3 {w : World} {B e n : Nat} {v : Value} {xs : List Value} (h : w.ownsRow B e 1 v n xs) (hn : 0 < n) : ∃ g c, v = .slice (some ⟨g, 0, none⟩) n c := by
  rcases h.2 with ⟨_, h0⟩ | ⟨g, cap, cur, h1, _⟩
  · omega
  · exact ⟨g, cap, h1⟩

/-- A cell of a row of ints of the call's own. -/
theorem own_intcell {w : World} {B n c g k : Nat} {xs : List Int} {x : Int} (h : w.ownsRow B 3 1 (.slice (some ⟨g, 0, none⟩) n c) n (ints xs)) (hx : xs[k]? = some x) (hk : k < n) : w.cell? ⟨g, k, none⟩ = some (.int .i64 x) := by
  rw [h.cellAt k (by omega)]; exact ints_get hx

/-- The second loop's heap. -/
def Hp2 (B : Nat) (w0 w : World) (b : Nat) (S1 : Nat → Prop) (B2 : Nat) (A : List Int) (J : List Bool) : Prop := ∃ S, HB B w0 w b S A J ∧ ∀ k, S k → S1 k ∨ B2 ≤ k

theorem law06_sameN (a b : Option Addr) (xs ys : List Int) (n m : Nat) (ca cb : Nat) (w : World) (hn : n = xs.length) (hm : m = ys.length) (hs : SlV w a (ints xs)) (ht : SlV w b (ints ys)) (hl : xs.length ≤ 9223372036854775807) :
    Calls Try.prog 23 #[.slice a n ca, .slice b m cb] w fun e w' => e = .returned (.bool (eqI xs ys)) ∧ ∃ n, w' = w.drewN n := by
  subst hn hm
  exact law06_same a b xs ys ca cb w hs ht hl

theorem rowVN {w : World} {B n m c : Nat} {a : Option Addr} {xs : List Int} (h : w.ownsRow B 3 1 (.slice a n c) m (ints xs)) (hm : m = xs.length) : SlV w a (ints xs) := by
  subst hm
  exact rowV h

theorem hp2_Push (b B : Nat) (S1 : Nat → Prop) (B2 : Nat) (A : List Int) (In In' : List Bool) (v e : Int) (w0 w : World) (he : pushE In.length v = e) (hI : pushIn In v = In') (h : Hp2 B w0 w b S1 B2 A In) (hz : B2 ≤ w.heap.size) :
    Calls Try.prog 24 #[.pointer (some ⟨b, 0, none⟩), .int .i64 v] w fun x w' => x = .returned (.int .i64 e) ∧ Hp2 B w0 w' b S1 B2 A In' ∧ Touch (fun k => S1 k ∨ B2 ≤ k) w w' := by
  obtain ⟨S, h1, h2⟩ := h
  refine (hb_Push b B S A In In' v e w0 w he hI h1).mono fun x w' hh => ⟨hh.1, ?_⟩
  obtain ⟨S', h3, h4, h5⟩ := hh.2
  refine ⟨⟨S', h3, fun k hk => ?_⟩, h4.mono fun k _ hk => h2 k hk⟩
  rcases h5 k hk with h6 | h6
  · exact h2 k h6
  · exact Or.inr (by omega)

theorem hp2_Has (b B : Nat) (S1 : Nat → Prop) (B2 : Nat) (A : List Int) (In : List Bool) (v : Int) (r : Bool) (w0 w : World) (hr : (decide (1 ≤ v) && (In[(v - 1).toNat]? == some true)) = r) (h : Hp2 B w0 w b S1 B2 A In) :
    Calls Try.prog 25 #[.pointer (some ⟨b, 0, none⟩), .int .i64 v] w fun e w' => e = .returned (.bool r) ∧ w = w' := by
  obtain ⟨S, h1, h2⟩ := h
  exact heap_Has b S A In v r w hr h1.heap

theorem take_get {α : Type} {xs : List α} {i j : Nat} {x : α} (h : xs[i]? = some x) (hi : i < j) : (xs.take j)[i]? = some x := by rw [List.getElem?_take, if_pos hi, h]

set_option maxRecDepth 100000 in
set_option maxHeartbeats 4000000 in
theorem walk_OrderBack (v0 : Value) (x0 : List Int) (nk : Int) (tu : Bool) (w : World) (w0 : ArgI .u16 w v0 x0) (g1 : (Lit.int .u8 nk).wf = true) :
    Calls Try.prog 8 #[v0, .int .u8 nk, .bool tu] w fun e w' => e = .returned (.bool true) ∧ Below w.heap.size w w' := by
  obtain ⟨a0, c0, rfl, hle0, hm0, hn0, hs0, hw0⟩ := w0
  obtain ⟨i0, hi0, hz0, hz1, hz2⟩ := info_parts info_int
  have HX := hid (u16s hw0)
  have HS := hid hs0
  have hb1 := bounds_u8 g1
  clear hs0 hw0 hle0 hm0 hn0 g1
  by_cases hl : x0.length ≤ 100
  · have hd0 : decide ((100 : Int) < x0.length) = false := by simp; omega
    obtain ⟨k, hk⟩ : ∃ k : Nat, nk.tmod ((x0.length : Int) + 1) = (k : Int) := ⟨_, (Int.toNat_of_nonneg (Int.tmod_nonneg _ (by omega))).symm⟩
    have hkl : k ≤ x0.length := by
      have := Int.tmod_lt_of_pos nk (b := (x0.length : Int) + 1) (by omega)
      omega
    have hkm : nk % ((x0.length : Int) + 1) = (k : Int) := by rw [← hk, Int.tmod_eq_emod_of_nonneg (by omega)]
    clear hk
    have HKM := hid hkm
    clear hkm
    go_enter Try.func8, Try.ntmps8
    go_wp2_with fail
    refine (law06_made a0 c0 w.heap.size x0 w _ HS.out HX.out (by omega) (Below.refl _ _) (Nat.le_refl _)).mono ?_
    rintro e w1 ⟨b1, S1, rfl, h1, h2, h3⟩
    have H1 := hid h1
    have H2 := hid h2
    have D1 := hid fun k hk => (h1.at' k hk).2
    clear h1 h2 h3
    go_wp2_with fail
    refine (law06_made a0 c0 w.heap.size x0 w _ (HS.out.below H2.out) HX.out (by omega) H2.out H1.out.le).mono ?_
    rintro e w2 ⟨b2, S2, rfl, h4, h5, h6⟩
    have D2 := hid fun k hk => And.intro (h6 k hk) (h4.at' k hk).2
    have hA2 := hb_touch H1.out (T := fun k => w1.heap.size ≤ k) (touch_of_below h5) (fun k hk => by have := D1.out k hk; omega) (fun k hk => by have := H1.out.le; omega)
    have HA2 := hid hA2
    have HQ2 := hid h4
    have z2 := h5.size
    clear h4 h5 h6 hA2
    go_wp2_with fail
    refine (law06_all b2 w.heap.size S2 _ _ w _ HQ2.out (by simp; omega)).mono ?_
    rintro e w7 ⟨v7, rfl, ho7, h7, hT7⟩
    obtain ⟨want, hwant⟩ : ∃ want, want = popAll (0 :: x0) (List.replicate x0.length true) := ⟨_, rfl⟩
    have hW := wants_of (0 :: x0) x0.length
    rw [← hwant] at ho7 hW
    have hwl : want.length = x0.length := hW.len
    rw [hwl] at ho7
    obtain ⟨a7, c7, rfl⟩ := own_lenV ho7
    have HO7 := hid ho7
    have HW := hid hW
    have HWL := hid hwl
    have D7 := hid fun g hg => (ho7.lt g hg).2
    have HWANT := hid hwant
    have HA7 := hid (hb_touch HA2.out hT7 (fun k hk hk2 => by have := D1.out k hk; have := D2.out k hk2; omega) (fun k hk => (HQ2.out.at' k hk).1))
    have z7 := hT7.size
    clear h7 hT7 ho7 hW hwl hwant HQ2 HA2
    have hwk : IntKind.i64.wrap ((x0.length : Int) + 1) = (x0.length : Int) + 1 := IntWalk.i64_in _ (by omega)
    have hwn : IntKind.i64.wrap nk = nk := IntWalk.i64_in _ (by omega)
    go_wp2_with fail
    rw [HKM.out]
    clear HKM hwk hwn
    have hO11 : w7.ownsRow w7.heap.size 3 1 (.slice none 0 0) 0 (ints (want.take 0)) := World.ownsRow_nil _ _ _ _
    have HJ0 : HB w.heap.size w w7 b1 S1 (0 :: x0) (offL x0.length (want.take 0)) := by rw [List.take_zero, offL_nil]; exact HA7.out
    clear HA7
    go_loopw [11, 12] (fun s11 s12 wr => ∃ j : Nat, s12 = .int .i64 j ∧ j ≤ k ∧ Hid (wr.ownsRow w7.heap.size 3 1 s11 j (ints (want.take j))) ∧ Hid (wr.ownsRow w2.heap.size 3 1 (.slice a7 x0.length c7) x0.length (ints want)) ∧ Hid (HB w.heap.size w wr b1 S1 (0 :: x0) (offL x0.length (want.take j))) ∧ w7.heap.size ≤ wr.heap.size) (fun _ s12 _ => (k - (intOf s12)).toNat)
    case atStart => exact ⟨0, rfl, Nat.zero_le _, hO11, HO7, HJ0, Nat.le_refl _⟩
    case round =>
      clear hO11 HJ0 HO7
      obtain ⟨j, rfl, hj, ho, ho7, hh, zr⟩ := hrel
      by_cases hlt : j < k
      · obtain ⟨x, hx⟩ : ∃ x, want[j]? = some x := ⟨want[j]'(by have := HWL.out; omega), by rw [List.getElem?_eq_getElem]⟩
        have hP := HW.out.pop hx
        obtain ⟨gw, cw, hgw⟩ := own_form3 ho7.out (by omega)
        injection hgw with hgw1 hgw2 hgw3
        subst hgw1
        subst hgw3
        have hcw := own_intcell ho7.out hx (by omega)
        have hgw7 := (ho7.out.lt gw rfl)
        have hgw8 := D7.out gw rfl
        have HP := hid hP
        have HXX := hid hx
        clear hP hx
        go_wp2_with fail
        refine (hb_Pop b1 w.heap.size S1 _ _ (offL x0.length (want.take (j + 1))) x 0 w _ HP.out.v HP.out.e HP.out.i hh.out).mono ?_
        rintro e w9 ⟨rfl, h9, hT9⟩
        have hw1 : IntKind.i64.wrap ((x0.length : Int) - j) = (x0.length : Int) - j := IntWalk.i64_in _ (by omega)
        have hw2 : IntKind.i64.wrap ((x0.length : Int) - j - 1) = (x0.length : Int) - j - 1 := IntWalk.i64_in _ (by omega)
        have H9 := hid h9
        have z9 := hT9.size
        have HO := hid (own_touch ho.out hT9 fun i hi => by have := D1.out i hi; omega)
        have ho7' := own_touch ho7.out hT9 fun i hi => by have := D1.out i hi; omega
        have hcw9 := own_intcell ho7' HXX.out (by omega)
        have HO7 := hid ho7'
        have q1 : (j : Int) < x0.length := by omega
        have hmz : (((offL x0.length (want.take (j + 1))).countP id : Nat) : Int) = (x0.length : Int) - j - 1 := HP.out.len
        have HMZ := hid hmz
        clear h9 hT9 hmz ho7' hcw
        go_wp2_with fail
        refine (heap_Has b1 S1 (0 :: x0) (offL x0.length (want.take (j + 1))) x false _ HP.out.has H9.out.heap).mono ?_
        rintro e w10 ⟨rfl, rfl⟩
        go_wp2_with fail
        refine (heap_Len b1 S1 (0 :: x0) (offL x0.length (want.take (j + 1))) _ _ HMZ.out H9.out.heap).mono ?_
        rintro e w10 ⟨rfl, rfl⟩
        obtain ⟨a3, c3, rfl⟩ := own_lenV HO.out
        go_wp2_with (at_builtin; refine wpList_append_own _ rfl _ _ 40 rfl w7.heap.size 3 i0 (.int .i64 0) 1 8 Try.underlying40 hi0 hz0 hz1 hz2 rfl (by decide) _ _ _ rfl (HO.out.alloc _) ⟨w9.heap.size, 0, none⟩ 1 1 [.int .i64 x] rfl rfl ?c1 one_int (by unfold maxLen; omega) (by omega) (by simp; omega) ?_)
        case c1 => exact new_one (heap_alloc_new _ _)
        intro v4 w10 ho4 hg4 _
        have hT10 : Touch (fun i => w7.heap.size ≤ i) w9 w10 := ((Touch.refl _ w9).alloc _).grown hg4 (fun i hi => Or.inl ((HO.out.lt i hi).1))
        have ho4' : w10.ownsRow w7.heap.size 3 1 v4 (j + 1) (ints (want.take (j + 1))) := by rw [← ints_take_succ HXX.out]; exact ho4
        have HO4 := hid ho4'
        have HO7b := hid (own_touch2 HO7.out hT10 fun i hi => by injection hi with hi; simp only at hi; omega)
        have HH4 := hid (hb_touch H9.out hT10 (fun i hi hi2 => by have := D1.out i hi; omega) (fun i hi => by have := H1.out.le; omega))
        have z10 := hT10.size
        clear ho4 ho4' hg4 hT10
        go_wp2_with fail
        go_roundw
        case rel => exact ⟨j + 1, by simp, hlt, HO4, HO7b, HH4, by omega⟩
        case measure => simp [intOf]; omega
      · obtain rfl : j = k := by omega
        have hD11 := fun g hg => (ho.out.lt g hg)
        obtain ⟨a3, c3, rfl⟩ := own_lenV ho.out
        have HO := hid ho
        have D11 := hid hD11
        have HO7 := ho7
        have HJ0 : Hp2 w.heap.size w wr b1 S1 wr.heap.size (0 :: x0) (offL x0.length (remL want j tu 0)) := ⟨S1, by rw [remL_zero]; exact hh.out, fun i hi => Or.inl hi⟩
        obtain ⟨z1, hz1⟩ : ∃ z1, wr.heap.size = z1 := ⟨_, rfl⟩
        rw [hz1] at D11 HJ0 zr
        clear ho ho7 hh hD11
        go_wp2_with fail
        go_loopw [15] (fun s15 wr => ∃ i : Nat, s15 = .int .i64 i ∧ i ≤ j ∧ Hid (wr.ownsRow w7.heap.size 3 1 (.slice a3 j c3) j (ints (want.take j))) ∧ Hid (wr.ownsRow w2.heap.size 3 1 (.slice a7 x0.length c7) x0.length (ints want)) ∧ Hid (Hp2 w.heap.size w wr b1 S1 z1 (0 :: x0) (offL x0.length (remL want j tu i))) ∧ z1 ≤ wr.heap.size) (fun s15 _ => (j - (intOf s15)).toNat)
        case atStart => exact ⟨0, rfl, Nat.zero_le _, HO.out, HO7, HJ0, by omega⟩
        case round =>
          clear HO HO7 HJ0 hz1
          obtain ⟨i, rfl, hi, ho, ho7, hh, zr⟩ := hrel
          by_cases hlt : i < j
          · have hjl : i < want.length ∧ j - 1 - i < want.length := by have := HWL.out; omega
            obtain ⟨x, hx⟩ : ∃ x, want[i]? = some x := ⟨want[i], List.getElem?_eq_getElem hjl.1⟩
            obtain ⟨y, hy⟩ : ∃ y, want[j - 1 - i]? = some y := ⟨want[j - 1 - i], List.getElem?_eq_getElem hjl.2⟩
            obtain ⟨gw, cw, hgw⟩ := own_form3 ho.out (by omega)
            injection hgw with hgw1 hgw2 hgw3
            subst hgw1
            subst hgw3
            have hcx := own_intcell ho.out (take_get hx hlt) hlt
            have hcy := own_intcell ho.out (take_get hy (by omega)) (by omega : j - 1 - i < j)
            have hw1 : IntKind.i64.wrap ((j : Int) - 1) = (j : Int) - 1 := IntWalk.i64_in _ (by omega)
            have hw2 : IntKind.i64.wrap ((j : Int) - 1 - i) = ((j - 1 - i : Nat) : Int) := by rw [IntWalk.i64_in _ (by omega)]; omega
            have q1 : ((j - 1 - i : Nat) : Int) < j := by omega
            have DG := D11.out gw rfl
            have DW := D7.out
            cases tu with
            | true =>
              have hP := HW.out.push (t := true) (by omega) hlt (by simpa using hy)
              have HP := hid hP
              clear hP hx hy hjl
              go_wp2_with fail
              refine (hp2_Push b1 w.heap.size S1 z1 _ _ (offL x0.length (remL want j true (i + 1))) y 0 w _ (by rw [offL_length]; exact HP.out.e) HP.out.i hh.out (by omega)).mono ?_
              rintro e w11 ⟨rfl, h11, hT11⟩
              have H11 := hid h11
              have T11 := hid hT11
              have z11 := hT11.size
              clear h11 hT11
              go_wp2_with fail
              refine (hp2_Push b1 w.heap.size S1 z1 _ _ (offL x0.length (remL want j true (i + 1))) y 0 w _ (by rw [offL_length]; exact HP.out.e) HP.out.i2 H11.out (by omega)).mono ?_
              rintro e w12 ⟨rfl, h12, hT12⟩
              have H12 := hid h12
              have z12 := hT12.size
              have T12 := hid (T11.out.trans hT12)
              clear h12 hT12
              go_wp2_with fail
              refine (hp2_Has b1 w.heap.size S1 z1 _ _ y true w _ HP.out.has H12.out).mono ?_
              rintro e w13 ⟨rfl, rfl⟩
              go_wp2_with fail
              go_roundw
              case rel =>
                exact ⟨i + 1, by simp, hlt, own_touch2 ho.out T12.out fun g hg => (by injection hg with hg; simp only at hg; intro hc; rcases hc with hc | hc; (have := D1.out g hc; omega); omega),
                  own_touch2 ho7.out T12.out fun g hg => (by have h1 := DW g hg; have h2 := (ho7.out.lt g hg).1; intro hc; rcases hc with hc | hc; (have := D1.out g hc; omega); omega), H12, by omega⟩
              case measure => simp [intOf]; omega
            | false =>
              have hP := HW.out.push (t := false) (by omega) hlt (by simpa using hx)
              have HP := hid hP
              clear hP hx hy hjl
              go_wp2_with fail
              refine (hp2_Push b1 w.heap.size S1 z1 _ _ (offL x0.length (remL want j false (i + 1))) x 0 w _ (by rw [offL_length]; exact HP.out.e) HP.out.i hh.out (by omega)).mono ?_
              rintro e w11 ⟨rfl, h11, hT11⟩
              have H11 := hid h11
              have T11 := hid hT11
              have z11 := hT11.size
              clear h11 hT11
              go_wp2_with fail
              refine (hp2_Push b1 w.heap.size S1 z1 _ _ (offL x0.length (remL want j false (i + 1))) x 0 w _ (by rw [offL_length]; exact HP.out.e) HP.out.i2 H11.out (by omega)).mono ?_
              rintro e w12 ⟨rfl, h12, hT12⟩
              have H12 := hid h12
              have z12 := hT12.size
              have T12 := hid (T11.out.trans hT12)
              clear h12 hT12
              go_wp2_with fail
              refine (hp2_Has b1 w.heap.size S1 z1 _ _ x true w _ HP.out.has H12.out).mono ?_
              rintro e w13 ⟨rfl, rfl⟩
              go_wp2_with fail
              go_roundw
              case rel =>
                exact ⟨i + 1, by simp, hlt, own_touch2 ho.out T12.out fun g hg => (by injection hg with hg; simp only at hg; intro hc; rcases hc with hc | hc; (have := D1.out g hc; omega); omega),
                  own_touch2 ho7.out T12.out fun g hg => (by have h1 := DW g hg; have h2 := (ho7.out.lt g hg).1; intro hc; rcases hc with hc | hc; (have := D1.out g hc; omega); omega), H12, by omega⟩
              case measure => simp [intOf]; omega
          · obtain rfl : i = j := by omega
            rw [remL_done, offL_nil] at hh
            obtain ⟨S9, hS9, hS9b⟩ := hh.out
            have H9 := hid hS9
            have S9b := hid hS9b
            have hl2 : (((List.replicate x0.length true).countP id : Nat) : Int) = (x0.length : Int) := by rw [List.countP_replicate]; simp
            have HL2 := hid hl2
            clear hh hS9 hS9b hl2
            go_wp2_with fail
            refine (heap_Len b1 S9 _ _ _ _ HL2.out H9.out.heap).mono ?_
            rintro e w14 ⟨rfl, rfl⟩
            go_wp2_with fail
            refine (law06_all b1 w.heap.size S9 _ _ w _ H9.out (by simp; omega)).mono ?_
            rintro e w15 ⟨v15, rfl, ho15, h15, hT15⟩
            rw [← HWANT.out, HWL.out] at ho15
            obtain ⟨a15, c15, rfl⟩ := own_lenV ho15
            have HO15 := hid ho15
            have H15 := hid h15
            have HO7c := hid (own_touch2 ho7.out hT15 fun g hg => by
              have h1 := D7.out g hg
              have h2 := (ho7.out.lt g hg).1
              intro hc
              rcases S9b.out g hc with hc | hc
              · have := D1.out g hc; omega
              · omega)
            clear ho15 h15 hT15
            go_wp2_with fail
            refine (law06_sameN a15 a7 want want _ _ c15 c7 _ HWL.out.symm HWL.out.symm (rowVN HO15.out HWL.out.symm) (rowVN HO7c.out HWL.out.symm) (by have := HWL.out; omega)).mono ?_
            rintro e w16 ⟨rfl, n16, rfl⟩
            have heq : eqI want want = true := by simp [eqI]
            rw [heq]
            clear heq
            go_wp2_with fail
            refine (law06_known _).mono ?_
            rintro e w17 ⟨rfl, hb17⟩
            have HB17 := hid hb17
            clear hb17
            go_wp2_with fail
            go_ret
            exact ⟨rfl, (below_dr H15.out.bel n16).trans (HB17.out.mono H15.out.le)⟩
  · have hd0 : decide ((100 : Int) < x0.length) = true := by simp; omega
    go_enter Try.func8, Try.ntmps8
    go_wp2_with (go_at_call 11; refine (law06_known _).mono ?_; rintro e w' ⟨rfl, hb⟩)
    go_ret
    exact ⟨rfl, hb⟩

end Go.Proofs.Ytfhpjaabcegefaa.Ord
