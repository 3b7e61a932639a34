/- The contracts of weepholelaw06.made, all and same. -/
import Derived.Test.YtfhpjaabcegefaaLawK
import Derived.Test.YtfhpjaabcegefaaOpen
namespace Go.Proofs.Ytfhpjaabcegefaa.Ord
open Go.RowKit

theorem slv_intK {w : World} {a : Option Addr} {xs : List Int} {k : IntKind} (h : SlV w a (xs.map (Value.int k))) {j : Nat} (hj : j < xs.length) :
    ∃ b off x, a = some ⟨b, off, none⟩ ∧ w.cell? ⟨b, off + j, none⟩ = some (.int k x) ∧ xs[j]? = some x := by
  obtain ⟨b, off, ha, hc⟩ := h j (.int k xs[j]) (by simp [hj])
  exact ⟨b, off, xs[j], ha, hc, by simp [hj]⟩

/-- The activities as made's loop has them. -/
def mA (xs : List Int) (k : Nat) : List Int := 0 :: (xs.take k ++ List.replicate (xs.length - k) 0)

theorem mA_zero (xs : List Int) : mA xs 0 = List.replicate (xs.length + 1) 0 := by simp [mA, List.replicate_succ]
theorem mA_done (xs : List Int) : mA xs xs.length = 0 :: xs := by simp [mA]
theorem mA_get (xs : List Int) (k : Nat) (h : k < xs.length) : actv (mA xs k) ((k : Int) + 1) = 0 := by
  have e : ((k : Int) + 1).toNat = k + 1 := by omega
  unfold actv mA
  rw [e, List.getD_eq_getElem?_getD, List.getElem?_cons_succ, List.getElem?_append_right (by simp; omega), List.getElem?_replicate]
  split <;> rfl
theorem mA_step (xs : List Int) (k : Nat) (x : Int) (h : xs[k]? = some x) : (mA xs k).set (k + 1) x = mA xs (k + 1) := by
  have hk : k < xs.length := (List.getElem?_eq_some_iff.1 h).1
  have hx := (List.getElem?_eq_some_iff.1 h).2
  unfold mA
  rw [List.set_cons_succ]
  congr 1
  refine List.ext_getElem (by simp; omega) fun i h1 h2 => ?_
  rw [List.getElem_set]
  by_cases he : k = i
  · subst he
    rw [if_pos rfl, List.getElem_append_left (by simp; omega)]
    simp [hx]
  · rw [if_neg he]
    by_cases hi : i < k
    · rw [List.getElem_append_left (by simp; omega), List.getElem_append_left (by simp; omega)]
      simp
    · rw [List.getElem_append_right (by simp; omega), List.getElem_append_right (by simp; omega)]
      simp
theorem mA_bump (xs : List Int) (k : Nat) (x : Int) (h : xs[k]? = some x) (hx : 0 ≤ x ∧ x ≤ 65535) :
    bumpE (mA xs k) xs.length ((k : Int) + 1) x = 0 ∧ bumpA (mA xs k) xs.length ((k : Int) + 1) x = mA xs (k + 1) := by
  have hk : k < xs.length := (List.getElem?_eq_some_iff.1 h).1
  have e0 : bumpE (mA xs k) xs.length ((k : Int) + 1) x = 0 := by
    unfold bumpE
    rw [mA_get xs k hk, if_pos (by omega)]
  refine ⟨e0, ?_⟩
  unfold bumpA
  rw [e0, if_pos rfl, mA_get xs k hk, show ((k : Int) + 1).toNat = k + 1 by omega, Int.zero_add]
  exact mA_step xs k x h

set_option maxHeartbeats 2000000 in
theorem law06_made (a : Option Addr) (c B : Nat) (xs : List Int) (w0 w : World) (hs : SlV w a (xs.map (Value.int .u16))) (hx : ∀ x ∈ xs, 0 ≤ x ∧ x ≤ 65535) (hn : xs.length ≤ 1000) (hb : Below B w0 w) (hB : B ≤ w.heap.size) :
    Calls Try.prog 20 #[.slice a xs.length c] w fun e w' => ∃ b S, e = .returned (.pointer (some ⟨b, 0, none⟩)) ∧ HB B w0 w' b S (0 :: xs) (List.replicate xs.length true) ∧ Below w.heap.size w w' ∧ ∀ k, S k → w.heap.size ≤ k := by
  have HS := hid hs
  have HX := hid hx
  clear hs hx
  go_enter Try.func20, Try.ntmps20
  go_wp2_with fail
  refine (hb_New xs.length B (mA xs 0) (List.replicate xs.length true) w0 _ (mA_zero xs).symm rfl (by omega) hb hB _ rfl).mono ?_
  rintro e w1 ⟨b, S, rfl, h1, h2, h3, h4⟩
  have H1 := hid h1
  have H2 := hid h2
  have H4 := hid h4
  clear h1 h2 h4
  go_wp2_with fail
  go_loopw [5] (fun s5 wr => ∃ k : Nat, s5 = .int .i64 k ∧ k ≤ xs.length ∧ Hid (HB B w0 wr b S (mA xs k) (List.replicate xs.length true)) ∧ Hid (Below w.heap.size w wr)) (fun s5 _ => (xs.length - (intOf s5)).toNat)
  case atStart => exact ⟨0, rfl, Nat.zero_le _, H1, H2⟩
  case round =>
    obtain ⟨k, rfl, hk, hh, hbw⟩ := hrel
    by_cases hlt : k < xs.length
    · obtain ⟨ba, oa, x, rfl, hcx, hxk⟩ := slv_intK (HS.out.below hbw.out) hlt
      have hxb := HX.out x (List.mem_of_getElem? hxk)
      obtain ⟨g1, g2⟩ := mA_bump xs k x hxk hxb
      have G1 := hid g1
      have G2 := hid g2
      have hwk : IntKind.i64.wrap ((k : Int) + 1) = (k : Int) + 1 := IntWalk.i64_in _ (by omega)
      have hwx : IntKind.i64.wrap x = x := IntWalk.i64_in _ (by omega)
      clear g1 g2 hxk
      go_wp2_with fail
      refine (hb_Bump b B S (mA xs k) (mA xs (k + 1)) (List.replicate xs.length true) _ x 0 w0 _ (by rw [List.length_replicate]; exact G1.out) (by rw [List.length_replicate]; exact G2.out) hh.out).mono ?_
      rintro e w3 ⟨rfl, h5, h6⟩
      have H5 := hid h5
      have H6 : Hid (Below w.heap.size wr w3) := h6.below hbw.out.size H4.out
      clear h5 h6
      go_wp2_with fail
      go_roundw
      case rel => exact ⟨k + 1, by simp, hlt, H5, hbw.out.trans H6.out⟩
      case measure => simp [intOf]; omega
    · have hke : k = xs.length := by omega
      subst hke
      rw [mA_done] at hh
      go_wp2_with fail
      go_ret
      exact ⟨b, S, rfl, hh.out, hbw.out, H4.out⟩

end Go.Proofs.Ytfhpjaabcegefaa.Ord
