/- The contract of New of a heap. -/
import Derived.Test.YtfhpjaabcegefaaHeapS
import Derived.Deep.OwnRows
namespace Go.Proofs.Ytfhpjaabcegefaa.Ord
open Go.RowKit

theorem madeInts (n : Nat) : (madeCells (Value.int .i64 0).cells (n * 1)).toList = ints (List.replicate n 0) := by
  simp only [madeCells, Value.cells, Nat.mul_one, Array.toList_map, Array.toList_range, ints]
  refine List.ext_getElem? fun i => ?_
  by_cases hi : i < n
  · simp [hi, Nat.mod_one]
  · simp [hi]

/-- The items as the loop has them. -/
def mkI (n k : Nat) : List Int := (List.range n).map fun (i : Nat) => if i < k then (i : Int) + 1 else 0
/-- The places as the loop has them. -/
def mkP (n k : Nat) : List Int := -1 :: (List.range n).map fun (i : Nat) => if i < k then (i : Int) else 0

theorem mkI_length (n k : Nat) : (mkI n k).length = n := by simp [mkI]
theorem mkP_length (n k : Nat) : (mkP n k).length = n + 1 := by simp [mkP]
theorem mkI_zero (n : Nat) : mkI n 0 = List.replicate n 0 := by
  refine List.ext_getElem (by simp [mkI]) fun i h1 h2 => by simp [mkI]
theorem mkP_zero (n : Nat) : (List.replicate (n + 1) (0 : Int)).set 0 (-1) = mkP n 0 := by
  rw [List.replicate_succ, List.set_cons_zero]
  unfold mkP
  congr 1
  refine List.ext_getElem (by simp) fun i h1 h2 => by simp
theorem mkI_done (n : Nat) : mkI n n = newI n := by
  refine List.ext_getElem (by simp [mkI, newI]) fun i h1 h2 => ?_
  rw [mkI_length] at h1
  simp [mkI, newI, h1]
theorem mkP_done (n : Nat) : mkP n n = newP n := by
  unfold mkP newP
  congr 1
  refine List.ext_getElem (by simp) fun i h1 h2 => ?_
  have : i < n := by simpa using h1
  simp [this]
theorem mkI_step (n k : Nat) : (mkI n k).set k ((k : Int) + 1) = mkI n (k + 1) := by
  refine List.ext_getElem (by simp [mkI]) fun i h1 h2 => ?_
  rw [List.getElem_set]
  by_cases he : k = i
  · subst he; simp [mkI]
  · rw [if_neg he]
    by_cases h : i < k
    · have h' : i < k + 1 := by omega
      simp [mkI, h, h']
    · have h' : ¬ i < k + 1 := by omega
      simp [mkI, h, h']
theorem mkP_step (n k : Nat) : (mkP n k).set (k + 1) (k : Int) = mkP n (k + 1) := by
  unfold mkP
  rw [List.set_cons_succ]
  congr 1
  refine List.ext_getElem (by simp) fun i h1 h2 => ?_
  rw [List.getElem_set]
  by_cases he : k = i
  · subst he; simp
  · rw [if_neg he]
    by_cases h : i < k
    · have h' : i < k + 1 := by omega
      simp [h, h']
    · have h' : ¬ i < k + 1 := by omega
      simp [h, h']

theorem rw_made {w : World} {g n : Nat} (h : w.heap[g]? = some (.cells (madeCells #[.int .i64 0] n) 3 (0, 0))) (hn : n ≤ 1048577) : Rw w (.slice (some ⟨g, 0, none⟩) n n) (List.replicate n 0) := by
  have e := madeInts n
  simp only [Value.cells, Nat.mul_one] at e
  unfold Rw
  rw [List.length_replicate]
  have hs : (madeCells #[Value.int .i64 0] n).size = n := by
    have := congrArg List.length e
    simp [ints] at this
    exact this
  refine ⟨by simp [ints], Or.inr ⟨g, n, _, rfl, Nat.zero_le _, h, Nat.le_refl _, by unfold maxLen; omega, by rw [hs, Nat.mul_one], ?_⟩⟩
  rw [← e, Nat.mul_one]
  exact List.take_of_length_le (by simp [hs])

theorem made3 (w3 : World) (a b c : Obj) (w5 : World) (h : w5 = (((w3.alloc a).alloc b).alloc c).drew) :
    (∀ k, k < w3.heap.size → w5.heap[k]? = w3.heap[k]?) ∧ w5.heap.size = w3.heap.size + 3 ∧ w5.heap[w3.heap.size]? = some a ∧ w5.heap[w3.heap.size + 1]? = some b ∧ w5.heap[w3.heap.size + 1 + 1]? = some c := by
  subst h
  have e1 : (((w3.alloc a).alloc b).alloc c).drew.heap = ((w3.heap.push a).push b).push c := rfl
  rw [e1]
  refine ⟨fun k hk => ?_, by simp, ?_, ?_, ?_⟩
  · simp [Array.getElem?_push]
    have : k ≠ w3.heap.size + 1 + 1 := by omega
    have : k ≠ w3.heap.size + 1 := by omega
    have : k ≠ w3.heap.size := by omega
    simp [*]
  · simp [Array.getElem?_push]; omega
  · rw [Array.getElem?_push, if_neg (by simp), Array.getElem?_push, if_pos (by simp)]
  · rw [Array.getElem?_push, if_pos (by simp)]

theorem made_rep {w w3 w5 : World} {n gi gp : Nat} (hO : w3.ownsRow w.heap.size 3 1 (.slice (some ⟨w.heap.size, 0, none⟩) (n + 1) (n + 1)) (n + 1) (madeCells (Value.int .i64 0).cells ((n + 1) * 1)).toList) (hn : n ≤ 1048576) (hG : w.grownBy w3 none)
    (hgp : gp ≠ gi) (hgi1 : w3.heap.size < gi) (hgp1 : w3.heap.size < gp) (hlt : gi < w3.heap.size + 3 ∧ gp < w3.heap.size + 3)
    (h0 : ∀ k, k < w3.heap.size → w5.heap[k]? = w3.heap[k]?) (hz : w5.heap.size = w3.heap.size + 3) (hos : w5.os = w3.os) (htp : w5.tape = w3.tape) (hou : w5.output = w3.output)
    (h1 : w5.heap[w3.heap.size]? = some (.cells #[.slice (some ⟨w.heap.size, 0, none⟩) (n + 1) (n + 1), .slice (some ⟨gi, 0, none⟩) n n, .slice (some ⟨gp, 0, none⟩) (n + 1) (n + 1), .pointer (some ⟨w3.heap.size, 0, none⟩), fnv] 59))
    (h2 : w5.heap[gi]? = some (.cells (madeCells #[.int .i64 0] n) 3)) (h3 : w5.heap[gp]? = some (.cells (madeCells #[.int .i64 0] (n + 1)) 3)) :
    HRep w5 w3.heap.size (.slice (some ⟨w.heap.size, 0, none⟩) (n + 1) (n + 1)) (.slice (some ⟨gi, 0, none⟩) n n) (.slice (some ⟨gp, 0, none⟩) (n + 1) (n + 1)) (List.replicate (n + 1) 0) (List.replicate n 0) (List.replicate (n + 1) 0) ∧
      Below w.heap.size w w5 ∧ (w.heap.size ≤ w3.heap.size ∧ w3.heap.size < gi ∧ w3.heap.size < gp ∧ gi < w5.heap.size ∧ gp < w5.heap.size) := by
  have hlt3 : w.heap.size < w3.heap.size := (hO.lt _ rfl).2
  have hOr : Rw w3 (.slice (some ⟨w.heap.size, 0, none⟩) (n + 1) (n + 1)) (List.replicate (n + 1) 0) := by
    rw [madeInts] at hO
    unfold Rw
    rw [List.length_replicate]
    exact ⟨hO.1, hO.2.imp_right fun ⟨g, cap, cur, e1, _, e3⟩ => ⟨g, cap, cur, e1, Nat.zero_le _, e3⟩⟩
  refine ⟨⟨h1, rw_frame hOr fun k hk => ?_, rw_made h2 (by omega), rw_made h3 (by omega), ?_, ?_, ?_⟩, ?_, hG.size, hgi1, hgp1, by omega, by omega⟩
  · simp only [Value.ownBlock, Option.some.injEq] at hk
    exact h0 k (by omega)
  · simp [Value.ownBlock]; omega
  · simp [Value.ownBlock]; omega
  · simp [Value.ownBlock]; omega
  · refine ⟨hos.trans hG.os, htp.trans hG.tape, hou.trans hG.output, by have := hG.size; omega, fun k hk => (h0 k (by have := hG.size; omega)).trans (hG.block k hk (by simp))⟩

/-- What New returns. -/
def newE (n : Int) : Int := if 0 ≤ n ∧ n ≤ 1048576 then 0 else 3

set_option maxRecDepth 100000 in
set_option maxHeartbeats 4000000 in
theorem order_NewF (n : Int) (w : World) (h : newE n = 3) :
    Calls Try.prog 12 #[.int .i64 n] w fun e w' => e = .returned (.tuple #[.pointer none, .int .i64 3]) ∧ w = w' := by
  have hn : n < 0 ∨ 1048576 < n := by
    unfold newE at h
    split at h
    · cases h
    · omega
  clear h
  rcases hn with hn | hn
  all_goals
    go_enter Try.func12, Try.ntmps12
    go_wp2_with fail
    go_ret2
    exact ⟨rfl, rfl⟩

set_option maxRecDepth 100000 in
set_option maxHeartbeats 4000000 in
theorem order_New (n : Nat) (w : World) (hn : n ≤ 1048576) :
    Calls Try.prog 12 #[.int .i64 n] w fun e w' => ∃ b S, e = .returned (.tuple #[.pointer (some ⟨b, 0, none⟩), .int .i64 0]) ∧ Heap w' b S (List.replicate (n + 1) 0) (List.replicate n true) ∧ Below w.heap.size w w' ∧ ∀ k, S k → w.heap.size ≤ k ∧ k < w'.heap.size := by
  obtain ⟨i0, hi0, hz0, hz1, hz2⟩ := info_parts info_int
  have e1 : (n : Int) + 1 = ((n + 1 : Nat) : Int) := by omega
  have hnb : (n : Int) ≤ 1048576 := by omega
  have hnc : (0 : Int) ≤ (n : Int) := by omega
  have hwr : IntKind.i64.wrap ((n : Int) + 1) = (n : Int) + 1 := by simp [IntKind.wrap, IntKind.signed, IntKind.bits]; omega
  have hm1 : ∀ w : World, (Instr.makeSlice 40 (.int .i64 (n : Int)) (.int .i64 (n : Int))).run Try.prog w = .ok (.slice (some ⟨w.heap.size, 0, none⟩) n n) (w.alloc (.cells (madeCells #[.int .i64 0] n) 3)) := fun w => run_make_row' _ _ _ 8 Try.underlying40 info_int rfl .i64 .i64 n (by omega) (by omega) w
  have hm2 : ∀ w : World, (Instr.makeSlice 40 (.int .i64 ((n : Int) + 1)) (.int .i64 ((n : Int) + 1))).run Try.prog w = .ok (.slice (some ⟨w.heap.size, 0, none⟩) (n + 1 : Nat) (n + 1 : Nat)) (w.alloc (.cells (madeCells #[.int .i64 0] (n + 1)) 3)) := fun w => by rw [e1]; exact run_make_row' _ _ _ 8 Try.underlying40 info_int rfl .i64 .i64 (n + 1) (by omega) (by omega) w
  have hst := fun (a : Addr) (w : World) => run_store Try.prog w a (.func (.func 29) #[] #[]) .plain rfl
  have E1 := hid e1
  clear e1
  go_enter Try.func12, Try.ntmps12
  go_wp2_with (at_make; refine wpList_make_full _ rfl _ _ 40 rfl w.heap.size 3 i0 (.int .i64 0) 1 Try.underlying40 hi0 hz0 hz1 _ _ _ _ (n + 1) rfl rfl (by first | rfl | exact E1 | omega) (by first | rfl | exact E1 | omega) (by rw [hz2]; omega) (by unfold maxLen; omega) (Nat.le_refl _) ?_; intro w3 hown3 hgrow3; have HO3 := hid hown3; have HG3 := hid hgrow3; clear hown3 hgrow3)
  go_cut [] (fun wx => ∃ gi gp : Nat, Hid (HRep wx w3.heap.size (.slice (some ⟨w.heap.size, 0, none⟩) (n + 1) (n + 1)) (.slice (some ⟨gi, 0, none⟩) n n) (.slice (some ⟨gp, 0, none⟩) (n + 1) (n + 1)) (List.replicate (n + 1) 0) (List.replicate n 0) (List.replicate (n + 1) 0) ∧
      Below w.heap.size w wx ∧ (w.heap.size ≤ w3.heap.size ∧ w3.heap.size < gi ∧ w3.heap.size < gp ∧ gi < wx.heap.size ∧ gp < wx.heap.size)))
  case first =>
    go_region
    all_goals
      go_wp2_with fail
      go_meet
      case rel =>
        obtain ⟨m1, m2, m3, m4, m5⟩ := made3 w3 _ _ _ _ rfl
        first
        | exact ⟨w3.heap.size + 1 + 1, w3.heap.size + 1, made_rep HO3.out hn HG3.out (by omega) (by omega) (by omega) (by omega) m1 m2 rfl rfl rfl m3 m5 m4⟩
        | exact ⟨w3.heap.size + 1, w3.heap.size + 1 + 1, made_rep HO3.out hn HG3.out (by omega) (by omega) (by omega) (by omega) m1 m2 rfl rfl rfl m3 m4 m5⟩
  case rest =>
    obtain ⟨gi, gp, H⟩ := hcut
    obtain ⟨h5, hb5, hsz⟩ := H.out
    obtain ⟨k1, k2, k3, k4, k5⟩ := hsz
    obtain ⟨-, hc1, hc2, -, -⟩ := hrep_cells h5
    have hp0 := rw_val h5.rp (n := n + 1) (by simp) (k := 0) (by simp)
    have hf0 := rw_free h5.rp (n := n + 1) (by simp) 0
    have n1 : ¬ gp = w3.heap.size := by omega
    have hp6 := hrep_setP h5 (n := n + 1) (by simp) 0 (-1)
    rw [mkP_zero] at hp6
    have H6 := hid hp6
    have HB5 := hid hb5
    clear h5 hb5 H hp6
    go_wp2_with fail
    go_loopw [34] (fun s34 wr => ∃ k : Nat, s34 = .int .i64 k ∧ k ≤ n ∧ Hid (HRep wr w3.heap.size (.slice (some ⟨w.heap.size, 0, none⟩) (n + 1) (n + 1)) (.slice (some ⟨gi, 0, none⟩) n n) (.slice (some ⟨gp, 0, none⟩) (n + 1) (n + 1)) (List.replicate (n + 1) 0) (mkI n k) (mkP n k)) ∧ Hid (Below w.heap.size w wr ∧ gi < wr.heap.size ∧ gp < wr.heap.size)) (fun s34 _ => (n - (intOf s34)).toNat)
    case atStart => exact ⟨0, rfl, by omega, by rw [mkI_zero]; exact H6, ⟨HB5.out.setCell (p := ⟨gp, 0, none⟩) (by show w.heap.size ≤ gp; omega) _, by rw [setCell_size]; exact k4, by rw [setCell_size]; exact k5⟩⟩
    case round =>
      clear H6 HB5 hc1 hc2 hp0 hf0 k4 k5
      obtain ⟨k, rfl, hk, hh, hbw⟩ := hrel
      by_cases hkn : k < n
      · have hd : decide ((k : Int) < n) = true := by simp; omega
        have q1 : (0 : Int) ≤ k := by omega
        have q2 : (k : Int) < n := by omega
        have q3 : (k : Int) + 1 < n + 1 := by omega
        have hwk : IntKind.i64.wrap ((k : Int) + 1) = (k : Int) + 1 := IntWalk.i64_in _ (by omega)
        obtain ⟨-, hc1, hc2, -, -⟩ := hrep_cells hh.out
        have hci := rw_val hh.out.ri (n := n) (mkI_length n k).symm (k := k) (by rw [mkI_length]; exact hkn)
        have hcp := rw_val hh.out.rp (n := n + 1) (mkP_length n k).symm (k := k + 1) (by rw [mkP_length]; omega)
        have hfi := rw_free hh.out.ri (n := n) (mkI_length n k).symm k
        have hfp := rw_free hh.out.rp (n := n + 1) (mkP_length n k).symm (k + 1)
        have n2 : ¬ gi = gp := fun e => hh.out.ip (by rw [e]; rfl)
        have n3 : ¬ gp = gi := fun e => n2 e.symm
        have n4 : ¬ gi = w3.heap.size := by omega
        go_wp2_with fail
        go_region
        all_goals
          go_wp2_with fail
          go_roundw
          case rel =>
            have hr2 := hrep_drew (hrep_setP (hrep_setI hh.out (n := n) (mkI_length n k).symm k ((k : Int) + 1)) (n := n + 1) (mkP_length n k).symm (k + 1) (k : Int))
            rw [mkI_step, mkP_step] at hr2
            refine ⟨k + 1, by simp, hkn, ?_, ?_⟩
            · exact hr2
            · exact ⟨((hbw.out.1.setCell (p := ⟨gi, k, none⟩) (by show w.heap.size ≤ gi; omega) _).setCell (p := ⟨gp, k + 1, none⟩) (by show w.heap.size ≤ gp; omega) _).drew, by rw [heap_drew, setCell_size, setCell_size]; exact hbw.out.2⟩
          case measure => simp [intOf]; omega
      · have hd : decide ((k : Int) < n) = false := by simp; omega
        have hkn2 : k = n := by omega
        subst hkn2
        go_wp2_with fail
        refine bodyPost_ret (v := .tuple #[.pointer (some ⟨w3.heap.size, 0, none⟩), .int .i64 0]) (by simp [results, Try.results12, go_sem]) rfl ?_
        have hr3 := hh.out
        rw [mkI_done, mkP_done] at hr3
        obtain ⟨hb8, hs1, hs2⟩ := hbw.out
        refine ⟨w3.heap.size, foot w3.heap.size (.slice (some ⟨w.heap.size, 0, none⟩) (k + 1) (k + 1)) (.slice (some ⟨gi, 0, none⟩) k k) (.slice (some ⟨gp, 0, none⟩) (k + 1) (k + 1)), rfl, ⟨_, _, _, _, _, hr3, new_ord k (k + 1), new_fits k, by rw [newP_length, List.length_replicate], by simp, rel_new k, fun j hj => hj, by simp; omega, fun a ha => ?_⟩, hb8, ?_⟩
        · rw [List.mem_replicate] at ha
          obtain ⟨-, rfl⟩ := ha
          omega
        · rintro j (rfl | hj | hj | hj)
          · omega
          all_goals
            simp only [Value.ownBlock, Option.some.injEq] at hj
            omega

end Go.Proofs.Ytfhpjaabcegefaa.Ord
