/- The contracts of weepholelaw06.all and same. -/
import Derived.Test.YtfhpjaabcegefaaLawM
import Derived.Test.YtfhpjaabcegefaaPAll
namespace Go.Proofs.Ytfhpjaabcegefaa.Ord
open Go.RowKit

theorem own_touch {w w' : World} {B e s n : Nat} {v : Value} {xs : List Value} {S : Nat → Prop} (h : w.ownsRow B e s v n xs) (ht : Touch S w w') (hS : ∀ k, S k → k < B) : w'.ownsRow B e s v n xs := by
  refine ⟨h.1, ?_⟩
  rcases h.2 with h0 | ⟨g, cap, cur, e1, e2, e3, e4⟩
  · exact .inl h0
  · have hl := (h.lt g (by rw [e1]; rfl)).2
    exact .inr ⟨g, cap, cur, e1, e2, by rw [ht.block g hl (fun hh => by have := hS g hh; omega)]; exact e3, e4⟩

theorem own_lenV {w : World} {B e s n : Nat} {v : Value} {xs : List Value} (h : w.ownsRow B e s v n xs) : ∃ a c, v = .slice a n c := by
  rcases h.2 with ⟨rfl, rfl⟩ | ⟨g, cap, cur, rfl, _⟩
  · exact ⟨_, _, rfl⟩
  · exact ⟨_, _, rfl⟩

theorem hb_touch {B b : Nat} {S T : Nat → Prop} {A : List Int} {In : List Bool} {w0 w w' : World} (h : HB B w0 w b S A In) (ht : Touch T w w') (hd : ∀ k, S k → ¬ T k) (hT : ∀ k, T k → B ≤ k) : HB B w0 w' b S A In :=
  ⟨heap_touch h.heap ht hd, h.bel.trans (ht.below h.le hT), Nat.le_trans h.le ht.size, fun k hk => ⟨(h.at' k hk).1, Nat.lt_of_lt_of_le (h.at' k hk).2 ht.size⟩⟩

set_option maxHeartbeats 2000000 in
theorem law06_all (b B : Nat) (S : Nat → Prop) (A : List Int) (In : List Bool) (w0 w : World) (h : HB B w0 w b S A In) (hn : In.length ≤ 1000) :
    Calls Try.prog 21 #[.pointer (some ⟨b, 0, none⟩)] w fun e w' => ∃ v, e = .returned v ∧ w'.ownsRow w.heap.size 3 1 v (popAll A In).length (ints (popAll A In)) ∧ HB B w0 w' b S A (List.replicate In.length false) ∧ Touch S w w' := by
  obtain ⟨i0, hi0, hz0, hz1, hz2⟩ := info_parts info_int
  obtain ⟨B2, hB2⟩ : ∃ B2, B2 = w.heap.size := ⟨_, rfl⟩
  have H0 := hid h
  have HB2 := hid hB2
  rw [← hB2]
  have hcl : In.countP id ≤ In.length := List.countP_le_length
  clear h hB2
  go_enter Try.func21, Try.ntmps21
  go_wp2_with fail
  go_loopw [3] (fun s3 wr => ∃ (pre : List Int) (J : List Bool), Hid (wr.ownsRow B2 3 1 s3 pre.length (ints pre)) ∧ Hid (HB B w0 wr b S A J ∧ pre ++ popAll A J = popAll A In ∧ J.length = In.length ∧ pre.length + J.countP id = In.countP id) ∧ Hid (Touch S w wr)) (fun s3 _ => In.length - lenOfV s3)
  case atStart => exact ⟨[], In, World.ownsRow_nil _ _ _ _, ⟨H0.out, rfl, rfl, by simp⟩, Touch.refl _ _⟩
  case round =>
    obtain ⟨pre, J, ho, hh, ht⟩ := hrel
    obtain ⟨h1, h2, h3, h4⟩ := hh.out
    obtain ⟨a3, c3, rfl⟩ := own_lenV ho.out
    have hsz := ht.out.size
    have hpl : pre.length ≤ 1000 := by omega
    by_cases hz : popV A J = 0
    · have he : popE A J = 6 := by unfold popE; rw [if_pos hz]
      have hI : popIn A J = J := by unfold popIn; rw [if_pos hz]
      rw [popAll_nil hz, List.append_nil] at h2
      have hJ := popV_zero hz
      rw [h3] at hJ
      have H1 := hid h1
      have H2 := hid h2
      have HJ := hid hJ
      have HE := hid he
      have HI := hid hI
      have HZ := hid hz
      clear h1 h2 h3 h4 hJ he hI hz hh
      go_wp2_with fail
      refine (hb_Pop b B S A J J 0 6 w0 _ HZ.out HE.out HI.out H1.out).mono ?_
      rintro e w2 ⟨rfl, h5, h6⟩
      have H5 := hid h5
      have H6 := hid h6
      clear h5 h6
      go_wp2_with fail
      go_ret
      refine ⟨_, rfl, ?_, by rw [← HJ.out]; exact H5.out, ht.out.trans H6.out⟩
      rw [← H2.out]
      exact own_touch ho.out H6.out fun k hk => by rw [HB2.out]; exact (H0.out.at' k hk).2
    · have he : popE A J = 0 := by unfold popE; rw [if_neg hz]
      rw [popAll_cons hz] at h2
      have hc := popIn_count hz
      obtain ⟨v, hv⟩ : ∃ v, popV A J = v := ⟨_, rfl⟩
      rw [hv] at h2
      have H1 := hid h1
      have H2 := hid h2
      have H3 := hid h3
      have H4 := hid (And.intro h4 hc)
      have HE := hid he
      have HV := hid hv
      clear h1 h2 h3 h4 he hv hz hh hc
      go_wp2_with fail
      refine (hb_Pop b B S A J (popIn A J) v 0 w0 _ HV.out HE.out rfl H1.out).mono ?_
      rintro e w2 ⟨rfl, h5, h6⟩
      have H5 := hid h5
      have H6 := hid h6
      have ho2 := own_touch ho.out h6 fun k hk => by rw [HB2.out]; exact (H0.out.at' k hk).2
      have HO2 := hid ho2
      have hsz2 := h6.size
      have hB2b : B2 ≤ w2.heap.size := by have := HB2.out; omega
      clear h5 h6 ho2 ho
      go_wp2_with (at_builtin; refine wpList_append_own _ rfl _ _ 40 rfl B2 3 i0 (.int .i64 0) 1 8 Try.underlying40 hi0 hz0 hz1 hz2 rfl (by decide) _ _ _ rfl (HO2.out.alloc _) ⟨w2.heap.size, 0, none⟩ 1 1 [.int .i64 v] rfl rfl ?c1 one_int (by unfold maxLen; omega) (by omega) (by simp; omega) ?_)
      case c1 => exact new_one (heap_alloc_new _ _)
      intro v9 w9 ho9 hg9 _
      have ho9' : w9.ownsRow B2 3 1 v9 (pre ++ [v]).length (ints (pre ++ [v])) := by rw [List.length_append, ints_append]; exact ho9
      have HO9 := hid ho9'
      have hT9 : Touch (fun k => B2 ≤ k) w2 w9 := ((Touch.refl _ w2).alloc _).grown hg9 (fun k hk => Or.inl ((HO2.out.lt k hk).1))
      have HT9 := hid hT9
      clear ho9 ho9' hg9 hT9
      go_wp2_with fail
      go_roundw
      case rel => exact ⟨pre ++ [v], popIn A J, HO9, ⟨hb_touch H5.out HT9.out (fun k hk hk2 => by have h7 := (H0.out.at' k hk).2; have h8 := HB2.out; omega) (fun k hk => by have h7 := H0.out.le; have h8 := HB2.out; omega), by rw [← H2.out]; simp, (popIn_length A J).trans H3.out, by have h7 := H4.out; rw [List.length_append]; simp only [List.length_singleton]; omega⟩, (ht.out.trans H6.out).trans' HT9.out fun k hk hk2 => by have h8 := HB2.out; omega⟩
      case measure =>
        obtain ⟨a9, c9, rfl⟩ := own_lenV HO9.out
        have h7 := H4.out
        simp only [lenOfV, List.length_append, List.length_singleton]
        omega

set_option maxHeartbeats 400000 in
theorem law06_same (a b : Option Addr) (xs ys : List Int) (ca cb : Nat) (w : World) (hs : SlV w a (ints xs)) (ht : SlV w b (ints ys)) (hl : xs.length ≤ 9223372036854775807) :
    Calls Try.prog 23 #[.slice a xs.length ca, .slice b ys.length cb] w fun e w' => e = .returned (.bool (eqI xs ys)) ∧ ∃ n, w' = w.drewN n := by
  by_cases hlen : xs.length = ys.length
  · have hb1 : ((xs.length : Int) != ys.length) = false := by simp [hlen]
    have HL := hid hlen
    clear hlen
    go_enter Try.func23, Try.ntmps23
    go_wp2_with fail
    go_loopw [5] (fun i wr => ∃ k n : Nat, k ≤ xs.length ∧ wr = w.drewN n ∧ i = .int .i64 k ∧ Hid (xs.take k = ys.take k)) (fun i _ => xs.length - (intOf i).toNat)
    case atStart => exact ⟨0, 0, Nat.zero_le _, rfl, rfl, by simp [Hid]⟩
    case round =>
      obtain ⟨k, nd, hk, rfl, rfl, hrel⟩ := hrel
      by_cases hlt : k < xs.length
      · obtain ⟨b1, o1, x, rfl, hc, hx⟩ := hs.int hlt
        obtain ⟨b2, o2, y, rfl, hd, hy⟩ := ht.int (k := k) (by have := HL.out; omega)
        have HX := hid hx
        have HY := hid hy
        have hi1 : (k : Int) < xs.length := by omega
        have hi2 : (k : Int) < ys.length := by have := HL.out; omega
        clear hx hy hs ht
        go_wp2_with fail
        go_quiet (fail)
        go_wp2_with fail
        · have hne : (x != y) = true := by assumption
          go_ret
          exact ⟨by rw [eqI_at HX.out HY.out (by simpa using hne)]; rfl, _, by first | rfl | exact World.drewN_drewN ..⟩
        · have he : (x != y) = false := by assumption
          have he' : x = y := by simpa using he
          go_roundw
          case rel => exact ⟨k + 1, _, by omega, (by first | rfl | exact World.drewN_drewN ..), by go_num, take_eq_succ hrel HX.out (he' ▸ HY.out)⟩
          case measure => simp [intOf]; omega
      · go_wp2_with fail
        go_ret
        exact ⟨by rw [eqI_all hlt HL.out hrel]; rfl, _, by first | rfl | exact World.drewN_drewN ..⟩
  · have hb1 : ((xs.length : Int) != ys.length) = true := by simp; omega
    have HL := hid hlen
    clear hlen
    go_enter Try.func23, Try.ntmps23
    go_wp2_with fail
    go_ret
    exact ⟨by rw [eqI_len HL.out]; rfl, 0, rfl⟩

end Go.Proofs.Ytfhpjaabcegefaa.Ord
