/- The walk of the law LitNames. -/
import Derived.Test.YtaekcejenagbgaaLitB
import Derived.Test.YtaekcejenagbgaaPMeans
namespace Go.Proofs.Ytaekcejenagbgaa
open Go.RowKit

theorem norm_n1 : normL [1, 2, -1] = [1, -1, 2] := by simp [normL, msort, mrg_cons, mrg_nil_left, mrg_nil_right, lessB]
theorem adj_n1 : adjB (normL [1, 2, -1]) = true := by rw [norm_n1]; decide
theorem val_n1 : normV [1, 2, -1] = [] := normV_true adj_n1
theorem norm_n2 : normL [] = [] := by simp [normL, msort]
theorem adj_n2 : adjB (normL []) = false := by rw [norm_n2]; decide
theorem val_n2 : normV [] = [] := by rw [normV_false adj_n2, norm_n2]
theorem norm_n3 : normL [0, 0] = [] := by simp [normL, msort, mrg_cons, mrg_nil_left, lessB]
theorem adj_n3 : adjB (normL [0, 0]) = false := by rw [norm_n3]; decide
theorem val_n3 : normV [0, 0] = [] := by rw [normV_false adj_n3, norm_n3]
theorem norm_n4 : normL [-9223372036854775808, 5, -9223372036854775808] = [5, -9223372036854775808] := by simp [normL, msort, mrg_cons, mrg_nil_left, lessB]
theorem adj_n4 : adjB (normL [-9223372036854775808, 5, -9223372036854775808]) = false := by rw [norm_n4]; decide
theorem val_n4 : normV [-9223372036854775808, 5, -9223372036854775808] = [5, -9223372036854775808] := by rw [normV_false adj_n4, norm_n4]

/-- So many ones, then zeros, n + 1 in all. -/
def longG (n k : Nat) : List Int := List.replicate k 1 ++ List.replicate (n + 1 - k) 0

theorem longG_length {n k : Nat} (h : k ≤ n + 1) : (longG n k).length = n + 1 := by simp [longG]; omega
theorem longG_set {n k : Nat} (h : k < n + 1) : (longG n k).set k 1 = longG n (k + 1) := by
  unfold longG
  rw [List.set_append_right _ _ (by simp)]
  have e1 : n + 1 - k = (n + 1 - (k + 1)) + 1 := by omega
  rw [e1, List.replicate_succ, List.length_replicate, Nat.sub_self, List.set_cons_zero, List.replicate_succ', List.append_assoc]
  rfl
theorem longG_last (n : Nat) : longG n (n + 1) = List.replicate n 1 ++ [1] := by
  unfold longG
  rw [Nat.sub_self, List.replicate_zero, List.append_nil]
  exact List.replicate_succ' (n := n)
theorem longG_end (n : Nat) : (longG n (n + 1)).set n 0 = List.replicate n 1 ++ [0] := by
  rw [longG_last, List.set_append_right _ _ (by simp)]
  simp
theorem longG_get (n : Nat) : (longG n (n + 1))[n]? = some 1 := by
  rw [longG_last, List.getElem?_append_right (by simp)]; simp
theorem longG_made (n : Nat) : (madeCells (Value.int .i64 0).cells ((n + 1) * 1)).toList = ints (longG n 0) := by
  simp only [madeCells, Value.cells, Nat.mul_one, Array.toList_map, Array.toList_range, ints, longG]
  refine List.ext_getElem? fun i => ?_
  by_cases hi : i < n + 1
  · simp [hi, Nat.mod_one]
  · simp [hi]

/-- The clause with a 0 at its end. -/
def lastG (n : Nat) : List Int := List.replicate n 1 ++ [0]
theorem lastG_length (n : Nat) : (lastG n).length = n + 1 := by simp [lastG]
theorem lastG_64 (n : Nat) : ∀ x ∈ lastG n, I64 x := fun x hx => by
  simp only [lastG, List.mem_append, List.mem_replicate, List.mem_singleton] at hx
  rcases hx with ⟨_, rfl⟩ | rfl <;> simp [I64]
theorem lastG_take (n : Nat) : (lastG n).take n = List.replicate n 1 := by simp [lastG]
theorem lastG_drop (n : Nat) : (lastG (n + 1)).drop 1 = lastG n := by simp [lastG, List.replicate_succ]
theorem check_ones (n : Nat) (h : n ≤ 4096) : litCheck 1 (List.replicate n 1) = 0 := by
  refine litCheck_ok (by omega) (by rw [List.length_replicate]; omega) ?_
  rw [List.any_eq_false]
  intro x hx
  rw [List.eq_of_mem_replicate hx]; decide
theorem check_last (n : Nat) (h : n + 1 ≤ 4096) : litCheck 1 (lastG n) = 3 := by
  refine litCheck_bad (by omega) (by rw [lastG_length]; omega) ?_
  unfold lastG
  rw [List.any_append]; simp [badLit]

/-- The long clause. -/
def longE : List Int := lastG 4096
def longL (k : Nat) : List Int := longG 4096 k
theorem longL_length {k : Nat} (h : k ≤ 4097) : (longL k).length = 4097 := longG_length h
theorem longL_set {k : Nat} (h : k < 4097) : (longL k).set k 1 = longL (k + 1) := longG_set h
theorem longL_end : (longL 4097).set 4096 0 = longE := longG_end 4096
theorem longL_get : (longL 4097)[4096]? = some 1 := longG_get 4096
theorem longL_made : (madeCells (Value.int .i64 0).cells (4097 * 1)).toList = ints (longL 0) := longG_made 4096
theorem longE_length : longE.length = 4097 := lastG_length 4096
theorem longE_64 : ∀ x ∈ longE, I64 x := lastG_64 4096
theorem check_l1 : litCheck 1 longE = 5 := litCheck_long (by omega) (by rw [longE_length]; decide)
theorem check_l2 : litCheck 1 (longE.take 4096) = 0 := (congrArg (litCheck 1) (lastG_take 4096)).trans (check_ones 4096 (Nat.le_refl _))
theorem check_l3 : litCheck 1 (longE.drop 1) = 3 := (congrArg (litCheck 1) (lastG_drop 4095)).trans (check_last 4095 (Nat.le_refl _))

set_option maxRecDepth 100000 in
set_option maxHeartbeats 8000000 in
theorem walk_LitNames (w : World) :
    Calls Try.prog 11 #[] w fun e w' => e = .returned (.bool true) ∧ Below w.heap.size w w' := by
  obtain ⟨i0, hi, hz0, hz1, hz2⟩ := info_parts info_int
  go_enter Try.func11, Try.ntmps11
  have HB0 : Hid (Below w.heap.size w w) := Below.refl _ _
  have hz0' : w.heap.size ≤ w.heap.size := Nat.le_refl _
  go_wp2_with fail
  refine (lit_NormB _ [1, 2, -1] [] true _ _ _ adj_n1 val_n1 rfl (by decide) (by nofun) (slv_new _ _ _ _) (by simp [I64]) (by decide)).mono ?_
  rintro e w1 ⟨a1, c1, rfl, hs1, hb⟩
  have HB1 : Hid (Below w.heap.size w w1) := below_new HB0.out HB0.out.size (by simpa only [size_al] using hb)
  clear hb
  have HS1 := hid hs1
  clear hs1
  go_wp2_with fail
  refine (lit_NormB _ [] [] false _ _ _ adj_n2 val_n2 rfl (by decide) (fun _ => rfl) (SlV.nil _ _) (by simp [I64]) (by decide)).mono ?_
  rintro e w2 ⟨a2, c2, rfl, hs2, hb⟩
  have HB2 : Hid (Below w.heap.size w w2) := HB1.out.trans (hb.mono HB1.out.size)
  clear hb
  have HS2 := hid hs2
  clear hs2
  go_wp2_with fail
  refine (lit_NormB _ [0, 0] [] false _ _ _ adj_n3 val_n3 rfl (by decide) (by nofun) (slv_new _ _ _ _) (by simp [I64]) (by decide)).mono ?_
  rintro e w3 ⟨a3, c3, rfl, hs3, hb⟩
  have HB3 : Hid (Below w.heap.size w w3) := below_new HB2.out HB2.out.size (by simpa only [size_al] using hb)
  clear hb
  have HS3 := hid hs3
  clear hs3
  go_wp2_with fail
  refine (lit_CheckB (3) _ [] _ _ 0 _ (by decide) rfl (by simp [I64]) (SlV.nil _ _) (by decide)).mono ?_
  rintro e w4 ⟨rfl, hb⟩
  have HB4 : Hid (Below w.heap.size w w4) := HB3.out.trans (hb.mono HB3.out.size)
  clear hb
  go_wp2_with fail
  refine (lit_CheckB (3) _ [4] _ _ 3 _ (by decide) rfl (by simp [I64]) (slv_new _ _ _ _) (by decide)).mono ?_
  rintro e w5 ⟨rfl, hb⟩
  have HB5 : Hid (Below w.heap.size w w5) := below_new HB4.out HB4.out.size (by simpa only [size_al] using hb)
  clear hb
  go_wp2_with fail
  refine (lit_CheckB (3) _ [0] _ _ 3 _ (by decide) rfl (by simp [I64]) (slv_new _ _ _ _) (by decide)).mono ?_
  rintro e w6 ⟨rfl, hb⟩
  have HB6 : Hid (Below w.heap.size w w6) := below_new HB5.out HB5.out.size (by simpa only [size_al] using hb)
  clear hb
  go_wp2_with fail
  refine (lit_CheckB (-1) _ [] _ _ 3 _ (by decide) rfl (by simp [I64]) (SlV.nil _ _) (by decide)).mono ?_
  rintro e w7 ⟨rfl, hb⟩
  have HB7 : Hid (Below w.heap.size w w7) := HB6.out.trans (hb.mono HB6.out.size)
  clear hb
  go_wp2_with fail
  refine (lit_CheckB (0) _ [1] _ _ 3 _ (by decide) rfl (by simp [I64]) (slv_new _ _ _ _) (by decide)).mono ?_
  rintro e w8 ⟨rfl, hb⟩
  have HB8 : Hid (Below w.heap.size w w8) := below_new HB7.out HB7.out.size (by simpa only [size_al] using hb)
  clear hb
  go_wp2_with fail
  refine (lit_CheckB (1048577) _ [] _ _ 3 _ (by decide) rfl (by simp [I64]) (SlV.nil _ _) (by decide)).mono ?_
  rintro e w9 ⟨rfl, hb⟩
  have HB9 : Hid (Below w.heap.size w w9) := HB8.out.trans (hb.mono HB8.out.size)
  clear hb
  go_wp2_with fail
  refine (lit_CheckB (1048576) _ [-1048576] _ _ 0 _ (by decide) rfl (by simp [I64]) (slv_new _ _ _ _) (by decide)).mono ?_
  rintro e w10 ⟨rfl, hb⟩
  have HB10 : Hid (Below w.heap.size w w10) := below_new HB9.out HB9.out.size (by simpa only [size_al] using hb)
  clear hb
  go_wp2_with (at_make; refine wpList_make_full _ rfl _ _ 40 rfl w.heap.size 3 i0 (.int .i64 0) 1 Try.underlying40 hi hz0 hz1 _ _ _ _ 4097 rfl rfl rfl rfl (by rw [hz2]; omega) (by unfold maxLen; omega) HB10.out.size ?_; intro wl hownl hgrowl; have hbl : Below w.heap.size w wl := HB10.out.grown hgrowl HB10.out.size (by simp); have HOL := hid hownl; clear hownl hgrowl)
  obtain ⟨B, hB⟩ : ∃ B, B = w10.heap.size := ⟨_, rfl⟩
  have HBE := hid hB
  have hBw : w.heap.size ≤ B := hB ▸ HB10.out.size
  rw [← hB] at HOL
  rw [← hB]
  clear hB
  go_loopw [8] (fun i wr => ∃ k : Nat, k ≤ 4097 ∧ i = .int .i64 k ∧ Hid (wr.ownsRow w.heap.size 3 1 (.slice (some ⟨B, 0, none⟩) 4097 4097) 4097 (ints (longL k))) ∧ Below w.heap.size w wr) (fun i _ => 4097 - (intOf i).toNat)
  case atStart => exact ⟨0, by omega, rfl, by rw [← longL_made]; exact HOL.out, hbl⟩
  case round =>
  obtain ⟨k, hk, rfl, ho, hb⟩ := hrel
  by_cases hlt : k < 4097
  · obtain ⟨y, hy⟩ : ∃ y, (longL k)[k]? = some y := ⟨(longL k)[k]'(by rw [longL_length hk]; exact hlt), by simp⟩
    have hc : wr.cell? ⟨B, k, none⟩ = some (.int .i64 y) := by
      rw [ho.out.cellAt k (by omega)]; exact ints_get hy
    have hfz : wr.frozen? ⟨B, k, none⟩ = false := ho.out.frozenAt k
    have HN := hid (ho.out.stored k (.int .i64 1)).1
    have HG := hid (ho.out.stored k (.int .i64 1)).2
    clear hy
    go_wp2_with fail
    go_roundw
    case rel => exact ⟨k + 1, by omega, by go_num, by rw [← longL_set hlt, ← ints_set]; exact HN.out, hb.grown HG.out hb.size (fun q hq => by injection hq with hq; omega)⟩
    case measure => simp [intOf]; omega
  have hk' : k = 4097 := by omega
  subst hk'
  have hc : wr.cell? ⟨B, 4096, none⟩ = some (.int .i64 1) := by
    rw [ho.out.cellAt 4096 (by omega)]; exact ints_get longL_get
  have hfz : wr.frozen? ⟨B, 4096, none⟩ = false := ho.out.frozenAt 4096
  have HO : Hid ((wr.setCell ⟨B, 4096, none⟩ (.int .i64 0)).ownsRow w.heap.size 3 1 (.slice (some ⟨B, 0, none⟩) 4097 4097) 4097 (ints longE)) := by
    have h := (ho.out.stored 4096 (.int .i64 0)).1
    rw [ints_set, longL_end] at h
    exact h
  have hsl : SlV (wr.setCell ⟨B, 4096, none⟩ (.int .i64 0)) (some ⟨B, 0, none⟩) (ints longE) := by
    obtain ⟨a', c', e1, -, -, e4⟩ := own_sl HO.out
    injection e1 with e1
    subst e1
    exact e4
  have HSL := hid hsl
  have HBL : Hid (Below w.heap.size w (wr.setCell ⟨B, 4096, none⟩ (.int .i64 0))) := hb.grown (ho.out.stored 4096 (.int .i64 0)).2 hb.size (fun q hq => by injection hq with hq; omega)
  have HSH := hid (slice_headB (P := Try.prog) (t := 40) (e := 3) (a := some ⟨B, 0, none⟩) (n := 4097) (c := 4097) (k := 4096) Try.underlying40 sizeOf_int (by omega) (by omega))
  have HTL : Hid (∀ wx, (Instr.slice 40 (.slice (some ⟨B, 0, none⟩) 4097 4097) (some (.int .i64 1)) none none).run Try.prog wx = .ok (.slice (some ⟨B, 1, none⟩) 4096 4096) wx) := by
    intro wx
    have he : Try.prog.elem 40 = 3 := by simp [Program.elem, Try.underlying40]
    rw [run_slice_l (P := Try.prog) wx 40 _ 4097 4097 (by rw [he]; exact Try.underlying40) .i64 1 (by omega) (by omega), he, sizeOf_int]
    simp [sliced, Result.andThen, Addr.add]
  have hsl2 : SlV (wr.setCell ⟨B, 4096, none⟩ (.int .i64 0)) (some ⟨B, 0, none⟩) (ints (longE.take 4096)) := by rw [ints_take]; exact HSL.out.take 4096
  have hsl3 : SlV (wr.setCell ⟨B, 4096, none⟩ (.int .i64 0)) (some ⟨B, 0 + 1, none⟩) (ints (longE.drop 1)) := by rw [ints_drop]; exact HSL.out.drop 1
  have HSL2 := hid hsl2
  have HSL3 := hid hsl3
  have hrun1 := HSH.out
  have hrun2 := HTL.out
  clear hsl hsl2 hsl3 ho hb
  go_wp2_with fail
  refine (lit_CheckB 1 _ longE _ _ 5 _ check_l1 longE_length.symm longE_64 HSL.out (by rw [longE_length]; decide)).mono ?_
  rintro e wm ⟨rfl, hb⟩
  have HBm := hid (HBL.out.trans (hb.mono HBL.out.size))
  have HSL2' := hid (HSL2.out.below hb)
  have HSL3' := hid (HSL3.out.below hb)
  clear hb
  go_wp2_with fail
  refine (lit_CheckB 1 _ (longE.take 4096) _ _ 0 _ check_l2 (by rw [List.length_take, longE_length]; rfl) (fun x hx => longE_64 x (List.mem_of_mem_take hx)) HSL2'.out (by rw [List.length_take, longE_length]; decide)).mono ?_
  rintro e wn ⟨rfl, hb⟩
  have HBn := hid (HBm.out.trans (hb.mono HBm.out.size))
  have HSL3'' := hid (HSL3'.out.below hb)
  clear hb
  go_wp2_with fail
  refine (lit_CheckB 1 _ (longE.drop 1) _ _ 3 _ check_l3 (by rw [List.length_drop, longE_length]) (fun x hx => longE_64 x (List.mem_of_mem_drop hx)) HSL3''.out (by rw [List.length_drop, longE_length]; decide)).mono ?_
  rintro e wo ⟨rfl, hb⟩
  have HBo := hid (HBn.out.trans (hb.mono HBn.out.size))
  clear hb hrun1 hrun2
  go_wp2_with fail
  refine (lit_HoldsB _ [false, true] _ _ _ [1, 2] _ _ true _ (by decide) rfl rfl (slv_at (e := 4) (m := (0, 0)) (blk2a _ _ _)) (by simp [I64]) (slv_at (e := 3) (m := (0, 0)) (blk2b _ _ _)) (by decide) (by decide)).mono ?_
  rintro e wp ⟨rfl, hb⟩
  have HBp : Hid (Below w.heap.size w wp) := below_new2 HBo.out HBo.out.size (by simpa only [size_al] using hb)
  have HMp : Hid (SlV wp (some ⟨wo.heap.size, 0, none⟩) (bools [false, true])) := SlV.below (slv_at (e := 4) (m := (0, 0)) (blk2a _ _ _)) hb
  clear hb
  go_wp2_with fail
  refine (lit_HoldsB _ [false, true] _ _ _ [1, -2] _ _ false _ (by decide) rfl rfl (HMp.out.below (box_belowB _ _)) (by simp [I64]) (slv_new _ _ _ _) (by decide) (by decide)).mono ?_
  rintro e wq ⟨rfl, hb⟩
  have HBq : Hid (Below w.heap.size w wq) := below_new HBp.out HBp.out.size (by simpa only [size_al] using hb)
  have HMq := hid (SlV.below (HMp.out.below (box_belowB _ _)) hb)
  clear hb
  go_wp2_with fail
  refine (lit_HoldsB _ [false, true] _ _ _ [3, -3] _ _ false _ (by decide) rfl rfl (HMq.out.below (box_belowB _ _)) (by simp [I64]) (slv_new _ _ _ _) (by decide) (by decide)).mono ?_
  rintro e wr ⟨rfl, hb⟩
  have HBr : Hid (Below w.heap.size w wr) := below_new HBq.out HBq.out.size (by simpa only [size_al] using hb)
  have HMr := hid (SlV.below (HMq.out.below (box_belowB _ _)) hb)
  clear hb
  go_wp2_with fail
  refine (lit_HoldsB _ [false, true] _ _ _ [] _ _ false _ (by decide) rfl rfl HMr.out (by simp [I64]) (SlV.nil _ _) (by decide) (by decide)).mono ?_
  rintro e ws ⟨rfl, hb⟩
  have HBs : Hid (Below w.heap.size w ws) := HBr.out.trans (hb.mono HBr.out.size)
  have HMs := hid (SlV.below HMr.out hb)
  clear hb
  go_wp2_with fail
  refine (lit_HoldsB _ [false, true] _ _ _ [0, -9223372036854775808] _ _ false _ (by decide) rfl rfl (HMs.out.below (box_belowB _ _)) (by simp [I64]) (slv_new _ _ _ _) (by decide) (by decide)).mono ?_
  rintro e wt ⟨rfl, hb⟩
  have HBt : Hid (Below w.heap.size w wt) := below_new HBs.out HBs.out.size (by simpa only [size_al] using hb)
  have HMt := hid (SlV.below (HMs.out.below (box_belowB _ _)) hb)
  clear hb
  go_wp2_with fail
  refine (lit_NormB _ [-9223372036854775808, 5, -9223372036854775808] [5, -9223372036854775808] false _ _ _ adj_n4 val_n4 rfl (by decide) (by nofun) (slv_new _ _ _ _) (by simp [I64]) (by decide)).mono ?_
  rintro e wu ⟨au, cu, rfl, hsu, hb⟩
  have HBu : Hid (Below w.heap.size w wu) := below_new HBt.out HBt.out.size (by simpa only [size_al] using hb)
  have HSu := hid hsu
  clear hb hsu
  go_wp2_with fail
  refine (kit_EqualIntsB _ _ [5, -9223372036854775808] [5, -9223372036854775808] _ _ _ _ true _ (by decide) rfl rfl (HSu.out.below (box_belowB _ _)) (slv_new _ _ _ _) (by decide)).mono ?_
  rintro e wv ⟨rfl, hb⟩
  have HBv : Hid (Below w.heap.size w wv) := below_new HBu.out HBu.out.size (by simpa only [size_al] using hb)
  clear hb
  go_wp2_with fail
  refine (lit_LessB 1 (-1) true _ (by decide) (by simp [I64]) (by simp [I64])).mono ?_
  rintro e wy0 ⟨rfl, hb⟩
  have HBy0 := hid (HBv.out.trans (hb.mono HBv.out.size))
  clear hb
  go_wp2_with fail
  refine (lit_LessB (-1) 2 true _ (by decide) (by simp [I64]) (by simp [I64])).mono ?_
  rintro e wy1 ⟨rfl, hb⟩
  have HBy1 := hid (HBy0.out.trans (hb.mono HBy0.out.size))
  clear hb
  go_wp2_with fail
  refine (lit_LessB 2 2 false _ (by decide) (by simp [I64]) (by simp [I64])).mono ?_
  rintro e wy2 ⟨rfl, hb⟩
  have HBy2 := hid (HBy1.out.trans (hb.mono HBy1.out.size))
  clear hb
  go_wp2_with fail
  refine (lit_LessB (-2) 2 false _ (by decide) (by simp [I64]) (by simp [I64])).mono ?_
  rintro e wy3 ⟨rfl, hb⟩
  have HBy3 := hid (HBy2.out.trans (hb.mono HBy2.out.size))
  clear hb
  go_wp2_with fail
  refine (lit_LessB 9223372036854775807 (-9223372036854775808) true _ (by decide) (by simp [I64]) (by simp [I64])).mono ?_
  rintro e wy4 ⟨rfl, hb⟩
  have HBy4 := hid (HBy3.out.trans (hb.mono HBy3.out.size))
  clear hb
  go_wp2_with fail
  refine (lit_LessB 0 1 true _ (by decide) (by simp [I64]) (by simp [I64])).mono ?_
  rintro e wy5 ⟨rfl, hb⟩
  have HBy5 := hid (HBy4.out.trans (hb.mono HBy4.out.size))
  clear hb
  go_wp2_with fail
  refine (law01_known _).mono ?_
  rintro e wz ⟨rfl, hb⟩
  go_wp2_with fail
  go_ret
  exact ⟨rfl, HBy5.out.trans (hb.mono HBy5.out.size)⟩

end Go.Proofs.Ytaekcejenagbgaa
