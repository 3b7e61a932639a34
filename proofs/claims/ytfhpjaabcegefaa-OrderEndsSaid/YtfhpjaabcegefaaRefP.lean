/- The contracts of Pop, New and Copy of weepholeref06's heaps. -/
import Derived.Test.YtfhpjaabcegefaaRefH
import Derived.Test.YtfhpjaabcegefaaHeapC
namespace Go.Proofs.Ytfhpjaabcegefaa.Ord
open Go.RowKit

/-- What the loop of Pop knows of its best place. -/
theorem popTo_range (A : List Int) (In : List Bool) (k : Nat) : -1 ≤ popTo A In k ∧ popTo A In k < k := by
  rcases popTo_spec A In k with ⟨h, _⟩ | ⟨h1, h2, _⟩
  · rw [h]; omega
  · exact ⟨by omega, h2⟩

set_option maxRecDepth 100000 in
set_option maxHeartbeats 4000000 in
theorem ref_Pop (b : Nat) (S : Nat → Prop) (A : List Int) (In : List Bool) (v e : Int) (w : World) (hv : popV A In = v) (he : popE A In = e) (h : RHeap w b S A In) :
    Calls Try.prog 17 #[.pointer (some ⟨b, 0, none⟩)] w fun x w' => x = .returned (.tuple #[.int .i64 v, .int .i64 e]) ∧ RHeap w' b S A (popIn A In) ∧ Touch S w w' := by
  obtain ⟨va, vi, h1, h2, h3, h4⟩ := h
  obtain ⟨hc0, hc1⟩ := rrep_cells h1
  have htl : A.tail.length = In.length := by rw [List.length_tail, h1.len]; omega
  have hsa := rw_shape h1.ra
  rw [htl] at hsa
  obtain ⟨aa, ca, rfl, -, -, hsa⟩ := hsa
  obtain ⟨ai, ci, rfl, -, -, hsi⟩ := rwb_shape h1.ri
  have HSA := hid hsa
  have HSI := hid hsi
  have H1 := hid h1
  have H2 := hid h2
  have H4 := hid h4
  have HV := hid hv
  have HE := hid he
  have HTL := hid htl
  clear h1 h2 h4 hv he hsa hsi htl
  go_enter Try.func17, Try.ntmps17
  go_wp2_with fail
  go_loopw [4, 5] (fun s4 s5 wr => ∃ (k n : Nat) (z : Int), s5 = .int .i64 k ∧ k ≤ In.length ∧ s4 = .int .i64 z ∧ Hid (z = popTo A In k) ∧ wr = w.drewN n) (fun _ s5 _ => (In.length - (intOf s5)).toNat)
  case atStart => exact ⟨0, 0, -1, rfl, Nat.zero_le _, rfl, rfl, rfl⟩
  case round =>
    obtain ⟨k, nd, z, rfl, hk, rfl, hz, rfl⟩ := hrel
    have hzr := popTo_range A In k
    rw [← hz.out] at hzr
    by_cases hlt : k < In.length
    · obtain ⟨bo, oo, x, rfl, hcx, hxk⟩ := HSI.out.bool hlt
      obtain ⟨ba, oa, y, rfl, hcy, hyk⟩ := HSA.out.int (k := k) (by have := HTL.out; omega)
      have hy := tail_get H1.out.len hlt
      rw [hyk] at hy
      injection hy with hy
      have hst := popTo_succ A In k
      have hwk : IntKind.i64.wrap ((k : Int) + 1) = (k : Int) + 1 := IntWalk.i64_in _ (by omega)
      have q1 : (k : Int) < In.length := by omega
      have hxg : In.getD k false = x := by rw [List.getD_eq_getElem?_getD, hxk]; rfl
      cases x with
      | false =>
        have hz2 : z = popTo A In (k + 1) := by rw [hst]; unfold popStep; rw [if_neg (by rintro ⟨h, _⟩; rw [hxg] at h; cases h)]; exact hz.out
        have HZ2 := hid hz2
        clear hz2 hst hxg hxk hyk hy
        go_wp2_with fail
        go_quiet (fail)
        go_wp2_with fail
        go_roundw
        case rel => exact ⟨k + 1, _, z, by simp, hlt, rfl, HZ2, by first | rfl | exact World.drewN_drewN ..⟩
        case measure => simp [intOf]; omega
      | true =>
        by_cases hz0 : z < 0
        · have d1 : decide (z < 0) = true := decide_eq_true hz0
          have hz2 : (k : Int) = popTo A In (k + 1) := by rw [hst]; unfold popStep; rw [if_pos ⟨hxg, Or.inl (by rw [← hz.out]; exact hz0)⟩]
          have HZ2 := hid hz2
          clear hz2 hst hxg hxk hyk hy
          go_wp2_with fail
          go_quiet (fail)
          go_wp2_with fail
          go_roundw
          case rel => exact ⟨k + 1, _, _, by simp, hlt, rfl, HZ2, by first | rfl | exact World.drewN_drewN ..⟩
          case measure => simp [intOf]; omega
        · have d1 : decide (z < 0) = false := decide_eq_false hz0
          obtain ⟨j, rfl⟩ := Int.eq_ofNat_of_zero_le (show 0 ≤ z by omega)
          have hj : j < In.length := by omega
          obtain ⟨b2, o2, u, hbe, hcu, huk⟩ := HSA.out.int (k := j) (by have := HTL.out; omega)
          injection hbe with hbe
          injection hbe with hbe1 hbe2
          subst hbe1
          subst hbe2
          have hu := tail_get H1.out.len hj
          rw [huk] at hu
          injection hu with hu
          have q2 : (j : Int) < In.length := by omega
          by_cases hc : u < y
          · have d2 : decide (u < y) = true := decide_eq_true hc
            have hz2 : (k : Int) = popTo A In (k + 1) := by rw [hst]; unfold popStep; rw [if_pos ⟨hxg, Or.inr (by rw [← hz.out, ← hu, ← hy]; exact hc)⟩]
            have HZ2 := hid hz2
            clear hz2 hst hxg hxk hyk hy hu huk
            go_wp2_with fail
            go_quiet (fail)
            go_wp2_with fail
            go_roundw
            case rel => exact ⟨k + 1, _, _, by simp, hlt, rfl, HZ2, by first | rfl | exact World.drewN_drewN ..⟩
            case measure => simp [intOf]; omega
          · have d2 : decide (u < y) = false := decide_eq_false hc
            have hz2 : (j : Int) = popTo A In (k + 1) := by rw [hst]; unfold popStep; rw [if_neg (by rintro ⟨_, h | h⟩; (rw [← hz.out] at h; omega); (rw [← hz.out, ← hu, ← hy] at h; exact hc h))]; exact hz.out
            have HZ2 := hid hz2
            clear hz2 hst hxg hxk hyk hy hu huk
            go_wp2_with fail
            go_quiet (fail)
            go_wp2_with fail
            go_roundw
            case rel => exact ⟨k + 1, _, _, by simp, hlt, rfl, HZ2, by first | rfl | exact World.drewN_drewN ..⟩
            case measure => simp [intOf]; omega
    · obtain rfl : k = In.length := by omega
      have hv1 : z + 1 = v := by rw [← HV.out, hz.out]; rfl
      by_cases hz0 : z < 0
      · have d1 : decide (z < 0) = true := decide_eq_true hz0
        have hpz : popV A In = 0 := by rw [HV.out]; omega
        have hp1 : v = 0 := by rw [← HV.out]; exact hpz
        have hp2 : e = 6 := by rw [← HE.out]; unfold popE; rw [if_pos hpz]
        have hp3 : popIn A In = In := by unfold popIn; rw [if_pos hpz]
        have HP3 := hid hp3
        have HP := hid (And.intro hp1 hp2)
        clear hp1 hp2 hp3 hpz hv1
        go_wp2_with fail
        go_ret2
        rw [HP3.out]
        exact ⟨by rw [HP.out.1, HP.out.2]; rfl, rheap_drewN ⟨_, _, H1.out, H2.out, h3, H4.out⟩ nd, (Touch.refl S w).drewN nd⟩
      · have d1 : decide (z < 0) = false := decide_eq_false hz0
        obtain ⟨j, rfl⟩ := Int.eq_ofNat_of_zero_le (show 0 ≤ z by omega)
        have hj : j < In.length := by omega
        have hpz : popV A In ≠ 0 := by rw [HV.out]; omega
        have hp2 : e = 0 := by rw [← HE.out]; unfold popE; rw [if_neg hpz]
        have hp3 : popIn A In = In.set j false := by unfold popIn; rw [if_neg hpz, HV.out, show (v - 1).toNat = j by omega]
        have HP3 := hid hp3
        have h1 := H1.out
        obtain ⟨gi, cg, hgi⟩ := rwb_form h1.ri (by omega)
        injection hgi with hg1 hg2 hg3
        subst hg1
        have hcx := rwb_get h1.ri (List.getElem?_eq_getElem hj)
        have hfx := rwb_free h1.ri j
        have HF : Hid (RHeap (w.setCell ⟨gi, j, none⟩ (.bool false)) b S A (In.set j false)) := hid ⟨_, _, rrep_setI h1 j false, H2.out, by rw [List.length_set]; exact h3, H4.out⟩
        have hSi : S gi := H2.out gi (Or.inr (Or.inr rfl))
        have q2 : (j : Int) < In.length := by omega
        have hwk : IntKind.i64.wrap ((j : Int) + 1) = (j : Int) + 1 := IntWalk.i64_in _ (by omega)
        have HP := hid (And.intro hv1 hp2)
        clear hp2 hp3 hpz hv1 h1
        go_wp2_with fail
        go_ret2
        rw [HP3.out]
        exact ⟨by rw [← HP.out.1, HP.out.2]; rfl, rheap_drewN HF.out nd, ((Touch.refl S w).setCell hSi _).drewN nd⟩


theorem info_boolR : (Try.prog.info? 4).map (fun i => (i.zero, i.size, i.bytes)) = some (some (.bool false), 1, 1) := by kernel_rfl

theorem madeBools (n : Nat) : (madeCells (Value.bool false).cells (n * 1)).toList = bools (List.replicate n false) := by
  simp only [madeCells, Value.cells, Nat.mul_one, Array.toList_map, Array.toList_range, bools]
  refine List.ext_getElem? fun i => ?_
  by_cases hi : i < n
  · simp [hi, Nat.mod_one]
  · simp [hi]

theorem rwb_made {w : World} {g n : Nat} (h : w.heap[g]? = some (.cells (madeCells #[.bool false] n) 4 (0, 0))) (hn : n ≤ 1048577) : RwB w (.slice (some ⟨g, 0, none⟩) n n) (List.replicate n false) := by
  have e := madeBools n
  simp only [Value.cells, Nat.mul_one] at e
  unfold RwB
  rw [List.length_replicate]
  have hs : (madeCells #[Value.bool false] n).size = n := by
    have := congrArg List.length e
    simp [bools] at this
    exact this
  refine ⟨by simp [bools], Or.inr ⟨g, n, _, rfl, Nat.zero_le _, h, Nat.le_refl _, by unfold maxLen; omega, by rw [hs, Nat.mul_one], ?_⟩⟩
  rw [← e, Nat.mul_one]
  exact List.take_of_length_le (by simp [hs])

theorem rmade {w w5 : World} {n ga gi : Nat} (hn : n ≤ 1048576) (hne : ga ≠ gi) (hlt : w.heap.size ≤ ga ∧ w.heap.size ≤ gi ∧ ga < w.heap.size + 2 ∧ gi < w.heap.size + 2)
    (h0 : ∀ k, k < w.heap.size → w5.heap[k]? = w.heap[k]?) (hz : w5.heap.size = w.heap.size + 3) (hos : w5.os = w.os) (htp : w5.tape = w.tape) (hou : w5.output = w.output)
    (h1 : w5.heap[ga]? = some (.cells (madeCells #[.int .i64 0] n) 3)) (h2 : w5.heap[gi]? = some (.cells (madeCells #[.bool false] n) 4))
    (h3 : w5.heap[w.heap.size + 1 + 1]? = some (.cells #[.slice (some ⟨ga, 0, none⟩) n n, .slice (some ⟨gi, 0, none⟩) n n] 62)) :
    RRep w5 (w.heap.size + 1 + 1) (.slice (some ⟨ga, 0, none⟩) n n) (.slice (some ⟨gi, 0, none⟩) n n) (List.replicate (n + 1) 0) (List.replicate n false) ∧ Below w.heap.size w w5 ∧ (w.heap.size ≤ ga ∧ w.heap.size ≤ gi ∧ ga < w5.heap.size ∧ gi < w5.heap.size ∧ w.heap.size + 1 + 1 < w5.heap.size) := by
  refine ⟨⟨h3, by rw [List.tail_replicate]; exact rw_made h1 (by omega), rwb_made h2 (by omega), fun k h4 h5 => hne (by simp only [Value.ownBlock, Option.some.injEq] at h4 h5; omega), ?_, ?_, by simp⟩, ⟨hos, htp, hou, by omega, h0⟩, by omega⟩
  · simp only [Value.ownBlock, ne_eq, Option.some.injEq]; omega
  · simp only [Value.ownBlock, ne_eq, Option.some.injEq]; omega

/-- Which are in as the loop of New has them. -/
def mkB (n k : Nat) : List Bool := (List.range n).map fun (i : Nat) => decide (i < k)
theorem mkB_length (n k : Nat) : (mkB n k).length = n := by simp [mkB]
theorem mkB_zero (n : Nat) : mkB n 0 = List.replicate n false := by
  refine List.ext_getElem (by simp [mkB]) fun i h1 h2 => by simp [mkB]
theorem mkB_done (n : Nat) : mkB n n = List.replicate n true := by
  refine List.ext_getElem (by simp [mkB]) fun i h1 h2 => ?_
  rw [mkB_length] at h1
  simp [mkB, h1]
theorem mkB_step (n k : Nat) : (mkB n k).set k true = mkB n (k + 1) := by
  refine List.ext_getElem (by simp [mkB]) fun i h1 h2 => ?_
  rw [List.getElem_set]
  simp only [mkB, List.getElem_map, List.getElem_range]
  by_cases he : k = i
  · subst he; simp
  · rw [if_neg he]; by_cases hi : i < k
    · have : i < k + 1 := by omega
      simp [hi, this]
    · have : ¬ i < k + 1 := by omega
      simp [hi, this]

set_option maxRecDepth 100000 in
set_option maxHeartbeats 4000000 in
theorem ref_NewF (n : Int) (w : World) (h : newE n = 3) :
    Calls Try.prog 13 #[.int .i64 n] w fun e w' => e = .returned (.tuple #[.pointer none, .int .i64 3]) ∧ w = w' := by
  have hn : n < 0 ∨ 1048576 < n := by
    unfold newE at h
    split at h
    · cases h
    · omega
  clear h
  rcases hn with hn | hn
  all_goals
    go_enter Try.func13, Try.ntmps13
    go_wp2_with fail
    go_ret2
    exact ⟨rfl, rfl⟩

set_option maxRecDepth 100000 in
set_option maxHeartbeats 4000000 in
theorem ref_New (n : Nat) (w : World) (hn : n ≤ 1048576) :
    Calls Try.prog 13 #[.int .i64 n] w fun e w' => ∃ b S, e = .returned (.tuple #[.pointer (some ⟨b, 0, none⟩), .int .i64 0]) ∧ RHeap w' b S (List.replicate (n + 1) 0) (List.replicate n true) ∧ Below w.heap.size w w' ∧ ∀ k, S k → w.heap.size ≤ k ∧ k < w'.heap.size := by
  have hnb : (n : Int) ≤ 1048576 := by omega
  have hnc : (0 : Int) ≤ (n : Int) := by omega
  have hm1 : ∀ w : World, (Instr.makeSlice 40 (.int .i64 (n : Int)) (.int .i64 (n : Int))).run Try.prog w = .ok (.slice (some ⟨w.heap.size, 0, none⟩) n n) (w.alloc (.cells (madeCells #[.int .i64 0] n) 3)) := fun w => run_make_row' _ _ _ 8 Try.underlying40 info_int rfl .i64 .i64 n (by omega) (by omega) w
  have hm2 : ∀ w : World, (Instr.makeSlice 42 (.int .i64 (n : Int)) (.int .i64 (n : Int))).run Try.prog w = .ok (.slice (some ⟨w.heap.size, 0, none⟩) n n) (w.alloc (.cells (madeCells #[.bool false] n) 4)) := fun w => run_make_row' _ _ _ 1 Try.underlying42 info_boolR rfl .i64 .i64 n (by omega) (by omega) w
  go_enter Try.func13, Try.ntmps13
  go_wp2_with fail
  go_cut [4] (fun s4 wx => ∃ ga gi : Nat, s4 = .pointer (some ⟨w.heap.size + 1 + 1, 0, none⟩) ∧ Hid (RRep wx (w.heap.size + 1 + 1) (.slice (some ⟨ga, 0, none⟩) n n) (.slice (some ⟨gi, 0, none⟩) n n) (List.replicate (n + 1) 0) (List.replicate n false) ∧ Below w.heap.size w wx ∧ (w.heap.size ≤ ga ∧ w.heap.size ≤ gi ∧ ga < wx.heap.size ∧ gi < wx.heap.size ∧ w.heap.size + 1 + 1 < wx.heap.size)))
  case first =>
    go_region
    all_goals
      go_wp2_with fail
      go_meet
      case rel =>
        obtain ⟨m1, m2, m3, m4, m5⟩ := made3 w _ _ _ _ rfl
        first
        | exact ⟨w.heap.size, w.heap.size + 1, rfl, rmade hn (by omega) (by omega) m1 m2 rfl rfl rfl m3 m4 m5⟩
        | exact ⟨w.heap.size + 1, w.heap.size, rfl, rmade hn (by omega) (by omega) m1 m2 rfl rfl rfl m4 m3 m5⟩
  case rest =>
    obtain ⟨ga, gi, rfl, H⟩ := hcut
    obtain ⟨h5, hb5, k1, k2, k3, k4, k5⟩ := H.out
    have H5 := hid h5
    have HB5 := hid hb5
    clear h5 hb5 H
    go_wp2_with fail
    go_loopw [5] (fun s5 wr => ∃ k : Nat, s5 = .int .i64 k ∧ k ≤ n ∧ Hid (RRep wr (w.heap.size + 1 + 1) (.slice (some ⟨ga, 0, none⟩) n n) (.slice (some ⟨gi, 0, none⟩) n n) (List.replicate (n + 1) 0) (mkB n k)) ∧ Hid (Below w.heap.size w wr ∧ ga < wr.heap.size ∧ gi < wr.heap.size ∧ w.heap.size + 1 + 1 < wr.heap.size)) (fun s5 _ => (n - (intOf s5)).toNat)
    case atStart => exact ⟨0, rfl, Nat.zero_le _, by rw [mkB_zero]; exact H5, ⟨HB5.out, k3, k4, k5⟩⟩
    case round =>
      clear H5 HB5 k3 k4 k5
      obtain ⟨k, rfl, hk, hh, hbw⟩ := hrel
      by_cases hkn : k < n
      · have q1 : (k : Int) < n := by omega
        have hwk : IntKind.i64.wrap ((k : Int) + 1) = (k : Int) + 1 := IntWalk.i64_in _ (by omega)
        have hl : k < (mkB n k).length := by rw [mkB_length]; exact hkn
        obtain ⟨-, hc1⟩ := rrep_cells hh.out
        have hci := rwb_get hh.out.ri (List.getElem?_eq_getElem hl)
        have hfi := rwb_free hh.out.ri k
        have hs := rrep_setI hh.out k true
        rw [mkB_step] at hs
        have HS := hid hs
        clear hs
        go_wp2_with fail
        go_roundw
        case rel => exact ⟨k + 1, by simp, hkn, HS, ⟨hbw.out.1.setCell (p := ⟨gi, k, none⟩) k2 _, by rw [setCell_size]; exact hbw.out.2⟩⟩
        case measure => simp [intOf]; omega
      · obtain rfl : k = n := by omega
        rw [mkB_done] at hh
        go_wp2_with fail
        go_ret2
        obtain ⟨hb8, hs1, hs2, hs3⟩ := hbw.out
        refine ⟨w.heap.size + 1 + 1, rfoot (w.heap.size + 1 + 1) (.slice (some ⟨ga, 0, none⟩) k k) (.slice (some ⟨gi, 0, none⟩) k k), rfl, ⟨_, _, hh.out, fun j hj => hj, by simp; omega, fun a ha => ?_⟩, hb8, ?_⟩
        · rw [List.mem_replicate] at ha
          obtain ⟨-, rfl⟩ := ha
          omega
        · rintro j (rfl | hj | hj)
          · omega
          all_goals
            simp only [Value.ownBlock, Option.some.injEq] at hj
            omega

end Go.Proofs.Ytfhpjaabcegefaa.Ord
