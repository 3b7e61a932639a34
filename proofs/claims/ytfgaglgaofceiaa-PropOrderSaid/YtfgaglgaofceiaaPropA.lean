/- weepholelaw04.assumed. -/
import Derived.Test.YtfgaglgaofceiaaPropL
import Derived.Test.YtfgaglgaofceiaaFit
namespace Go.Proofs.Ytfgaglgaofceiaa.Ord
open Go.RowKit

/-- What assumed returns. -/
def asmL (V : Int) (xs : List Int) : List Int := fitC V (xs.take 12)

theorem asmL_length (V : Int) (xs : List Int) : (asmL V xs).length ≤ 12 := Nat.le_trans (fitC_length _ _) (by simp; omega)

theorem asmL_ok {n : Nat} (hn : 1 ≤ n) (xs : List Int) : ∀ a ∈ asmL n xs, LitOk n a := fun a ha => by
  obtain ⟨h1, h2, h3⟩ := mem_fitC (V := n) (by omega) ha
  exact ⟨h1, h3, h2⟩

set_option maxRecDepth 100000 in
set_option maxHeartbeats 2000000 in
theorem law04_assumed (V : Int) (ac : Option Addr) (m c : Nat) (v1 : Value) (xs : List Int) (w : World) (hV : 1 ≤ V ∧ V ≤ 12) (h1 : ArgI .i8 w v1 xs) :
    Calls Try.prog 37 #[.agg #[.int .i64 V, .slice ac m c], v1] w fun e w' =>
      ∃ v, e = .returned v ∧ SlI w' v (asmL V xs) ∧ Below w.heap.size w w' := by
  obtain ⟨a0, c0, rfl, hle, hmx, hnn, hs, hw⟩ := h1
  obtain ⟨i0, hi, hz0, hz1, hz2⟩ := info_parts info_intU
  have hbox := box_below w (fbox V ac m c)
  have hbc : (w.alloc (fbox V ac m c)).cell? ⟨w.heap.size, 0, none⟩ = some (.int .i64 V) := fit_cell (vs := [.int .i64 V, .slice ac m c]) (heap_alloc_new _ _) 0
  have HS := hid (hs.below hbox)
  have HW := hid hw
  have HBOX := hid hbox
  have HBC := hid hbc
  clear hs hw hbox hbc hnn hmx hle
  go_enter Try.func37, Try.ntmps37
  go_wp2_with fail
  generalize hwb : w.alloc _ = wb at HS HBOX HBC ⊢
  have hwbs : wb.heap.size = w.heap.size + 1 := by rw [← hwb]; simp
  have HWBS := hid hwbs
  clear hwb hwbs
  go_loopw [5, 6] (fun s5 s6 wr => ∃ k : Nat, s6 = .int .i64 k ∧ k ≤ xs.length ∧ k ≤ 12 ∧ Hid (wr.ownsRow wb.heap.size 3 1 s5 (fitC V (xs.take k)).length (ints (fitC V (xs.take k)))) ∧ Below wb.heap.size wb wr) (fun _ s6 _ => (xs.length - (intOf s6)).toNat)
  case atStart => exact ⟨0, rfl, Nat.zero_le _, Nat.zero_le _, hid (World.ownsRow_nil _ _ _ _), Below.refl _ _⟩
  case round =>
    obtain ⟨k, rfl, hk, hk12, HO, hb⟩ := hrel
    have hszr : w.heap.size ≤ wr.heap.size := by have := hb.size; have := HWBS.out; omega
    have hszb : wb.heap.size ≤ wr.heap.size := hb.size
    by_cases hlt : k < xs.length
    · by_cases h12 : k < 12
      · have hp0 : wr.cell? ⟨w.heap.size, 0, none⟩ = some (.int .i64 V) := below_keeps hb _ _ HBC.out
        obtain ⟨b2, off2, x, rfl, hcx, hx⟩ := (HS.out.below hb).intK hlt
        have hxb := bounds_i8 (HW.out x (List.mem_of_getElem? hx))
        have HX := hid hx
        obtain ⟨t, ht⟩ : ∃ t, x.tmod (V + 1) = t := ⟨_, rfl⟩
        have htb : -13 ≤ t ∧ t ≤ 13 := by
          have g1 := Int.natAbs_tmod x (V + 1)
          have g2 : x.natAbs % (V + 1).natAbs < (V + 1).natAbs := Nat.mod_lt _ (by omega)
          rw [← g1, ht] at g2
          omega
        have HT := hid ht
        have e1 : (k : Int) < xs.length := by omega
        have e2 : (k : Int) < 12 := by omega
        have e3 : IntKind.i64.wrap x = x := IntWalk.i64_in x (by omega)
        have e4 : IntKind.i64.wrap (V + 1) = V + 1 := IntWalk.i64_in _ (by omega)
        have e5 : IntKind.i64.wrap t = t := IntWalk.i64_in _ (by omega)
        have e7 : IntKind.i64.wrap ((k : Int) + 1) = (k : Int) + 1 := IntWalk.i64_in _ (by omega)
        have e6 : ¬ V + 1 = 0 := by omega
        clear hx
        by_cases h0 : t = 0
        · have H0 := hid h0
          have hne : (t != 0) = false := by simp [h0]
          clear h0
          go_wp2_with fail
          go_quiet (fail)
          go_wp2_with fail
          go_roundw
          case rel => exact ⟨k + 1, by go_num, by omega, by omega, by rw [fitC_step_zero HX.out (by rw [HT.out]; exact H0.out)]; exact HO, below_dr hb _⟩
          case measure => simp [intOf]; omega
        · have H0 := hid h0
          have hne : (t != 0) = true := by simp [h0]
          have hfl2 : (fitC V (xs.take k)).length ≤ k := Nat.le_trans (fitC_length _ _) (by simp; omega)
          clear h0
          go_wp2_with fail
          go_quiet (fail)
          go_wp2_with (at_builtin; refine wpList_append_own _ rfl _ _ 22 rfl wb.heap.size 3 i0 (.int .i64 0) 1 8 Try.underlying22 hi hz0 hz1 hz2 rfl (by decide) _ _ _ rfl (World.ownsRow.alloc (w := wr.drewN nq) HO.out _) ⟨(wr.drewN nq).heap.size, 0, none⟩ 1 1 [.int .i64 t] rfl rfl ?c1 one_int (by unfold maxLen; omega) (by omega) (by simp only [size_al, heap_dr]; omega) ?_)
          case c1 => exact new_oneP (heap_alloc_new _ _)
          intro v9 w9 ho9 hg9 _
          have hb9 : Below wb.heap.size wb w9 := (below_al (below_dr hb nq) (by simp only [heap_dr]; exact hb.size) _).grown hg9 (by simp only [size_al, heap_dr]; have := hb.size; omega) (fun q hq => by
            exact (HO.out.lt q hq).1)
          have HF : Hid (w9.ownsRow wb.heap.size 3 1 v9 (fitC V (xs.take (k + 1))).length (ints (fitC V (xs.take (k + 1))))) := by
            rw [fitC_step HX.out (by rw [HT.out]; exact H0.out), HT.out, ints_append, List.length_append]
            exact hid ho9
          have HB9 := hid hb9
          clear ho9 hg9 hb9
          go_wp2_with fail
          go_roundw
          case rel => exact ⟨k + 1, by go_num, by omega, by omega, HF, HB9.out⟩
          case measure => simp [intOf]; omega
      · have e2 : ¬ (k : Int) < 12 := by omega
        have e1 : (k : Int) < xs.length := by omega
        have he : fitC V (xs.take k) = asmL V xs := by unfold asmL; congr 2; omega
        rw [he] at HO
        have HB := hid hb
        clear hb he
        go_wp2_with fail
        go_ret
        exact ⟨_, rfl, own_sli HO.out, HBOX.out.trans (HB.out.mono (by have := HWBS.out; omega))⟩
    · have e1 : ¬ (k : Int) < xs.length := by omega
      have he : fitC V (xs.take k) = asmL V xs := by
        unfold asmL
        rw [List.take_of_length_le (by omega), List.take_of_length_le (by omega)]
      rw [he] at HO
      have HB := hid hb
      clear hb he
      go_wp2_with fail
      go_ret
      exact ⟨_, rfl, own_sli HO.out, HBOX.out.trans (HB.out.mono (by have := HWBS.out; omega))⟩

end Go.Proofs.Ytfgaglgaofceiaa.Ord
