/- The walk of GatePartial. -/
import Derived.Test.YtacmfiikdbekbaaQPGPart
import Derived.Test.YtacmfiikdbekbaaQWGValues

namespace Go.Proofs.Ytacmfiikdbekbaa.Ord
open Go.RowKit Go.Conc

attribute [local go_sem ↓] Go.wp_at_zero Go.wp_at_succ
attribute [local go_sem ↓ high] app_mark

theorem slice_toN {P : Program} {t e : TypeId} {a : Option Addr} {n c s : Nat} {k : Int} {m : Nat} (hkm : k = m) (ht : P.underlying t = some (.slice e)) (hsz : ∀ wx, (sizeOf e).run P wx = .ok s wx) (h1 : m ≤ c) :
    ∀ wx, (Instr.slice t (.slice a n c) none (some (.int .i64 k)) none).run P wx = .ok (.slice a m c) wx := by
  subst hkm
  intro wx
  have he : P.elem t = e := by simp [Program.elem, ht]
  rw [run_slice_h (P := P) wx t a n c (by rw [he]; exact ht) .i64 m (by omega) (by omega), he, hsz]
  cases a <;> simp [sliced, Result.andThen, Addr.add]

theorem ints_getG {xs : List Int} {k : Nat} {x : Int} (h : xs[k]? = some x) : (ints xs)[k]? = some (.int .i64 x) := by simp [ints, h]

theorem gate_size (wx : World) : (sizeOf 56).run Try.prog wx = .ok 4 wx := by kernel_rfl

theorem SlG.take {w : World} {a : Option Addr} {gs : List (Int × Int × Int × Int)} (h : SlG w a gs) (m : Nat) : SlG w a (gs.take m) := fun j q hq => by
  refine h j q ?_
  rw [List.getElem?_take] at hq
  split at hq
  · exact hq
  · cases hq

set_option maxRecDepth 100000 in
set_option maxHeartbeats 16000000 in
theorem walk_GatePartial (x0 : Int) (v1 : Value) (x1 : List Bool) (v2 : Value) (x2 : List Bool) (v3 : Value) (x3 : List (Int × Int × Int × Int)) (w : World) (_w0 : (Lit.int .i64 x0).wf = true) (w1 : ArgB w v1 x1) (w2 : ArgB w v2 x2) (w3 : ArgG w v3 x3) :
    Calls Try.prog 7 #[.int .i64 x0, v1, v2, v3] w fun e w' => e = .returned (.bool true) ∧ Below w.heap.size w w' := by
  obtain ⟨i0, hi0, hz0, hz1, hz2⟩ := info_parts info_intG
  obtain ⟨i1, hi1, hy0, hy1, hy2⟩ := info_parts info_boolG
  obtain ⟨av, cv, rfl, hle1, hm1, hn1, hs1⟩ := w1
  obtain ⟨as2, cs2, rfl, hle2, hm2, hn2, hs2⟩ := w2
  obtain ⟨ag, cg, rfl, hle3, hm3, hn3, hs3⟩ := w3
  obtain ⟨k, hk, hk2⟩ : ∃ k : Nat, x0 % 13 = (k : Int) ∧ k ≤ 12 := ⟨(x0 % 13).toNat, by omega, by omega⟩
  have hxl : x1.length ≤ 9223372036854775807 := by unfold maxLen at hm1; omega
  obtain ⟨gs, hgs⟩ : ∃ gs, x3.take 60 = gs := ⟨_, rfl⟩
  obtain ⟨N, hN⟩ : ∃ N, gs.length = N := ⟨_, rfl⟩
  have hNm : N = min 60 x3.length := by rw [← hN, ← hgs, List.length_take]
  have hN60 : N ≤ 60 := by omega
  have HGS := hid hgs
  have HN := hid hN
  have hmin : ∀ (ts : Array TypeId) (t : TypeId) (wx : World), (Builtin.min_ ts t #[.int .i64 (x3.length : Int), .int .i64 60]).run Try.prog wx = .ok (.int .i64 (N : Int)) wx := fun ts t wx => by
    rw [run_min_int2]
    have : (if (60 : Int) < (x3.length : Int) then (60 : Int) else (x3.length : Int)) = (N : Int) := by split <;> omega
    rw [this]
  have hsl := slice_toN (P := Try.prog) (t := 43) (e := 56) (a := ag) (n := x3.length) (c := cg) (k := (N : Int)) (m := N) rfl Try.underlying43 gate_size (by omega)
  have HS1 := hid hs1
  have HS2 := hid hs2
  have HS3 := hid (show SlG w ag gs by rw [← hgs]; exact hs3.take 60)
  have HXL := hid hxl
  clear hs1 hs2 hs3 hle1 hm1 hn1 hle2 hm2 hn2 hle3 hm3 hn3 _w0 hxl hN hNm hgs
  go_enter Try.func7, Try.ntmps7
  go_wp2_with fail
  refine (kit_Mod w x0 13 (by omega) (by omega)).mono ?_
  rw [hk]
  rintro e w1 ⟨rfl, rfl⟩
  clear hk
  go_wp2_with fail
  refine (law15_Begin w k av x1 x1.length cv rfl hk2 HS1.out HXL.out).mono ?_
  rintro e w2 ⟨b, vI, vV, rfl, hg, hI, hV, hb⟩
  obtain ⟨aI, cI, rfl⟩ := own_lenV' hI
  obtain ⟨aV, cV, rfl⟩ := own_lenV' hV
  obtain ⟨V, hVe⟩ : ∃ V, valL x1 k = V := ⟨_, rfl⟩
  have hVl : V.length = k := by rw [← hVe]; exact valL_length _ _
  rw [hVe] at hV
  clear hVe
  have HVL := hid hVl
  clear hVl
  have hsz := hb.size
  have HG := hid (hg.below (box_below w2 (.cells #[.pointer (some ⟨b, 0, none⟩), .slice aI k cI, .slice aV k cV] 46)))
  have HI := hid (hI.alloc (.cells #[.pointer (some ⟨b, 0, none⟩), .slice aI k cI, .slice aV k cV] 46))
  have HV := hid (hV.alloc (.cells #[.pointer (some ⟨b, 0, none⟩), .slice aI k cI, .slice aV k cV] 46))
  have HB := hid (hb.trans ((box_below w2 (.cells #[.pointer (some ⟨b, 0, none⟩), .slice aI k cI, .slice aV k cV] 46)).mono hsz))
  have HC := hid (heap_alloc_new w2 (.cells #[.pointer (some ⟨b, 0, none⟩), .slice aI k cI, .slice aV k cV] 46))
  clear hg hI hV hb hsz
  go_wp2_with fail
  generalize (w2.alloc (.cells #[.pointer (some ⟨b, 0, none⟩), .slice aI k cI, .slice aV k cV] 46)) = w3 at HG HI HV HB HC ⊢
  generalize w2.heap.size = bc at HC ⊢
  have hc0 : w3.cell? ⟨bc, 0, none⟩ = some (.pointer (some ⟨b, 0, none⟩)) := fit_cell (vs := [.pointer (some ⟨b, 0, none⟩), .slice aI k cI, .slice aV k cV]) HC.out 0
  have hc1 : w3.cell? ⟨bc, 1, none⟩ = some (.slice aI k cI) := fit_cell (vs := [.pointer (some ⟨b, 0, none⟩), .slice aI k cI, .slice aV k cV]) HC.out 1
  have hc2 : w3.cell? ⟨bc, 2, none⟩ = some (.slice aV k cV) := fit_cell (vs := [.pointer (some ⟨b, 0, none⟩), .slice aI k cI, .slice aV k cV]) HC.out 2
  go_wp2_with fail
  clear hmin hsl
  refine (law15_Build w w3 b k V aI aV ag cI cV N cg gs HVL.out hk2 HB.out HG.out HI.out HV.out HN.out.symm HS3.out).mono ?_
  rintro e w4 ⟨X', n, m, nL, nW, G, K, L, W, aL, aW, cL, cW, rfl, hnL, hnW, hm, hgs, hL, hW, hk4, hbd⟩
  rw [HN.out, Nat.min_eq_left (by omega)] at hbd
  have hlen := hbd.len
  have hwlen := hbd.wlen
  have hnL2 : nL = 1 + k + N := by omega
  have hnW2 : nW = 1 + k + N := by omega
  subst hnW2
  have HNL := hid hnL2
  have hc4 := (hk4.kept bc _ _ _ HC.out (by decide) (by decide)).trans HC.out
  have HC4 := hid hc4
  have HB4 := hid (HB.out.trans hk4.below)
  have HI4 := hid (own_slv (own_gk HI.out hk4 (by decide) (by decide)))
  have HV4 := hid (own_slv (own_gk HV.out hk4 (by decide) (by decide)))
  have HL4 := hid (own_slv hL)
  have HW4 := hid (own_slv hW)
  have HGC := hid hgs
  have HBD := hid hbd
  have HLEN := hid (And.intro hlen hwlen)
  have hnLb : nL ≤ 73 := by omega
  have hnL1 : 0 < nL := by omega
  clear hc0 hc1 hc2 hnL hgs hL hW hk4 hbd HC HI HV HG HB hc4 hlen hwlen hnL2
  have hc0 : w4.cell? ⟨bc, 0, none⟩ = some (.pointer (some ⟨b, 0, none⟩)) := fit_cell (vs := [.pointer (some ⟨b, 0, none⟩), .slice aI k cI, .slice aV k cV]) HC4.out 0
  have hc1 : w4.cell? ⟨bc, 1, none⟩ = some (.slice aI k cI) := fit_cell (vs := [.pointer (some ⟨b, 0, none⟩), .slice aI k cI, .slice aV k cV]) HC4.out 1
  have hc2 : w4.cell? ⟨bc, 2, none⟩ = some (.slice aV k cV) := fit_cell (vs := [.pointer (some ⟨b, 0, none⟩), .slice aI k cI, .slice aV k cV]) HC4.out 2
  have hmk : ∀ w : World, (Instr.makeSlice 27 (.int .i64 (nL : Int)) (.int .i64 (nL : Int))).run Try.prog w = .ok (.slice (some ⟨w.heap.size, 0, none⟩) nL nL) (w.alloc (.cells (bools (List.replicate nL false)).toArray 4 (0, 0))) := fun w => by
    rw [run_make_row' 27 4 (.bool false) 1 Try.underlying27 info_boolG rfl .i64 .i64 nL (by omega) (by omega) w, made_list]
    simp [bools]
  have hkb0 : (w4.alloc (.cells (bools (List.replicate nL false)).toArray 4 (0, 0))).heap[w4.heap.size]? = some (.cells (bools (List.replicate nL false)).toArray 4 (0, 0)) := heap_alloc_new _ _
  have hk1 : (w4.alloc (.cells (bools (List.replicate nL false)).toArray 4 (0, 0))).cell? ⟨w4.heap.size, 0, none⟩ = some (.bool false) := (fit_cell hkb0 0).trans (by simp [bools, hnL1])
  have hk2f : (w4.alloc (.cells (bools (List.replicate nL false)).toArray 4 (0, 0))).frozen? ⟨w4.heap.size, 0, none⟩ = false := frozen_of_row _ _ _ _ _ hkb0
  have hnL1' : (0 : Int) < (nL : Int) := by omega
  have HKB0 := hid hkb0
  clear hkb0
  have hd0 := fun o => below_keeps (box_below w4 o) _ _ hc0
  have hd1 := fun o => below_keeps (box_below w4 o) _ _ hc1
  have hd2 := fun o => below_keeps (box_below w4 o) _ _ hc2
  go_wp2_with fail
  clear hmk hk1 hk2f hd0 hd1 hd2 hc0 hc1 hc2 hnL1' HKB0
  have hkb : (w4.alloc (.cells ((bools (List.replicate nL false)).set 0 (.bool true)).toArray 4 (0, 0))).heap[w4.heap.size]? = some (.cells ((bools (List.replicate nL false)).set 0 (.bool true)).toArray 4 (0, 0)) := heap_alloc_new _ _
  have hb5 := box_below w4 (.cells ((bools (List.replicate nL false)).set 0 (.bool true)).toArray 4 (0, 0))
  have hse : (bools (List.replicate nL false)).set 0 (.bool true) = bools ((List.replicate nL false).set 0 true) := by simp [bools, List.map_set]
  have hsz4 : w4.heap.size < (w4.alloc (.cells ((bools (List.replicate nL false)).set 0 (.bool true)).toArray 4 (0, 0))).heap.size := by simp only [size_al]; omega
  rw [hse] at hkb hb5 hsz4 ⊢
  have HKB := hid hkb
  have HB45 := hid hb5
  have hwb4 : w.heap.size ≤ w4.heap.size := HB4.out.size
  have hI5 := HI4.out.below hb5
  have hV5 := HV4.out.below hb5
  have HI5 := hid hI5
  have HV5 := hid hV5
  clear hkb hb5 hse HI4 HV4 hI5 hV5
  generalize (w4.alloc (.cells (bools ((List.replicate nL false).set 0 true)).toArray 4 (0, 0))) = w5 at HKB HB45 HI5 HV5 hsz4 ⊢
  obtain ⟨bk, hbk⟩ : ∃ bk, w4.heap.size = bk := ⟨_, rfl⟩
  rw [hbk] at HKB hsz4 ⊢
  have HBK := hid hbk
  clear hbk
  refine (law15_Assume w5 b k aI aV k k cI cV (inL k) V rfl rfl (inL_length k) HVL.out (by omega) HI5.out HV5.out (inL_boundW (by omega))).mono ?_
  rintro e wa ⟨vS, rfl, hoS, hba⟩
  obtain ⟨aS, cS, rfl⟩ := own_lenV' hoS
  have HKB1 := hid ((hba.block bk hsz4).trans HKB.out)
  have HBA := hid (HB45.out.trans (hba.mono HB45.out.size))
  have hsza : bk < wa.heap.size := Nat.lt_of_lt_of_le hsz4 hba.size
  have HSV : Hid (∀ wr, Touch (fun j => j = bk) wa wr → SlV wr aS (ints (asV (inL k) V))) := hid (fun wr ht => own_slv (own_frame0 hoS fun g hg => ht.block g (hoS.lt g hg).2 (by have := (hoS.lt g hg).1; omega)))
  have HW4T : Hid (∀ wr, Touch (fun j => j = bk) wa wr → Below w4.heap.size w4 wr) := hid (fun wr ht => HBA.out.trans (ht.below (by rw [HBK.out]; omega) (fun j hj => by rw [HBK.out]; omega)))
  clear hoS hba HI5 HV5 HB45 HKB
  go_wp2_with fail
  have HKI0 : Hid (KI G [] L ((List.replicate nL false).set 0 true)) := hid (by
    have h := KI.none G [] L
    rw [HLEN.out.1, ← HNL.out] at h
    refine h.set fun _ => ?_
    have h1 := HBD.out.first
    rw [List.getD_eq_getElem?_getD, h1]
    exact dec_one HGC.out.unit)
  have HT0 : Hid (Touch (fun j => j = bk) wa wa) := hid (Touch.refl _ _)
  have hAl : (asV (inL k) V).length = k := by simp [asV, inL_length, HVL.out]
  have HAL := hid hAl
  have HY0 : Hid (0 = ([] : List Int).length) := hid rfl
  have HA0 : Hid (wa.ownsRow wa.heap.size 3 1 (.slice none 0 0) 0 (ints [])) := hid (World.ownsRow_nil _ _ _ _)
  have HAK0 : Hid (∀ a ∈ ([] : List Int), a ∈ asV (inL k) V) := hid (by simp)
  clear hAl
  go_loopw [13, 58] (fun s13 s58 wr => ∃ (i y : Nat) (A : List Int) (kn : List Bool) (aA : Option Addr) (cA : Nat), s13 = .slice aA y cA ∧ s58 = .int .i64 i ∧ i ≤ k ∧ y ≤ i ∧ Hid (y = A.length) ∧ Hid (Touch (fun j => j = bk) wa wr) ∧ Hid (wr.heap[bk]? = some (.cells (bools kn).toArray 4 (0, 0))) ∧ Hid (wr.ownsRow wa.heap.size 3 1 (.slice aA y cA) y (ints A)) ∧ Hid (∀ a ∈ A, a ∈ asV (inL k) V) ∧ Hid (KI G A L kn)) (fun _ s58 _ => (k - (intOf s58)).toNat)
  case atStart => exact ⟨0, 0, [], _, none, 0, rfl, rfl, Nat.zero_le _, Nat.le_refl _, HY0, HT0, HKB1, HA0, HAK0, HKI0⟩
  case round =>
    clear HY0 HT0 HKB1 HA0 HAK0 HKI0
    obtain ⟨i, y, A, kn, aA, cA, rfl, rfl, hi, hyi, HY, HT, HKB, HA, HAK, HKI⟩ := hrel
    by_cases hlt : i < k
    · have hlt2 : (i : Int) < k := by omega
      have hwi : IntKind.i64.wrap ((i : Int) + 1) = (i : Int) + 1 := IntWalk.i64_in _ (by omega)
      obtain ⟨b1, o1, x, rfl, hcx, hxi⟩ := (HSV.out wr HT.out).int (k := i) (by rw [HAL.out]; exact hlt)
      have HXI := hid hxi
      clear hxi
      by_cases h2 : i < x2.length
      · have h2' : (i : Int) < x2.length := by omega
        obtain ⟨b2, o2, u, rfl, hcu, hui⟩ := ((HS2.out.below HB4.out).below (HW4T.out wr HT.out)).bool h2
        clear hui
        cases u with
        | false =>
          go_wp2_with fail
          go_roundw
          case rel => exact ⟨i + 1, y, A, kn, aA, cA, rfl, by simp, hlt, by omega, HY, HT, HKB, HA, HAK, HKI⟩
          case measure => simp [intOf]; omega
        | true =>
          obtain ⟨a6, c6, w6, hr6, ho6, hg6, ha6⟩ := appM_one (P := Try.prog) (wr.alloc (.cells #[.int .i64 x] 3 (0, 0))) wa.heap.size 22 22 3 i0 (.int .i64 0) 8 Try.underlying22 hi0 hz0 hz1 hz2 rfl (.slice aA y cA) y (ints A) (HA.out.alloc _) wr.heap.size (.int .i64 x) (heap_alloc_new _ _) rfl (by unfold maxLen; omega) (by omega) (by simp only [size_al]; have := HT.out.size; omega)
          have hT6 : Touch (fun j => j = bk) wa w6 := (HT.out.alloc _).grown hg6 (fun j hj => .inr (HA.out.lt j hj).1)
          have hk6 : w6.heap[bk]? = some (.cells (bools kn).toArray 4 (0, 0)) := blk_app (box_below wr (.cells #[.int .i64 x] 3 (0, 0))) HA.out hg6 HKB.out (by decide)
          have hil : i + 1 < kn.length := by rw [HKI.out.1, HLEN.out.1]; omega
          have hinl : (i : Int) + 1 < (nL : Int) := by have := HNL.out; omega
          have hinl' : i + 1 < nL := by have := HNL.out; omega
          obtain ⟨ob, hob⟩ : ∃ ob, kn[i + 1]? = some ob := ⟨_, List.getElem?_eq_getElem hil⟩
          have hq6 : w6.cell? ⟨bk, i + 1, none⟩ = some (.bool ob) := (fit_cell hk6 (i + 1)).trans (by simp [bools, hob])
          have hf6 : w6.frozen? ⟨bk, i + 1, none⟩ = false := frozen_of_row _ _ _ _ _ hk6
          have hxA := asV_get HVL.out HXI.out
          have HT7 : Hid (Touch (fun j => j = bk) wa (w6.setCell ⟨bk, i + 1, none⟩ (.bool true))) := hid (hT6.setCell rfl _)
          have HK7 : Hid ((w6.setCell ⟨bk, i + 1, none⟩ (.bool true)).heap[bk]? = some (.cells (bools (kn.set (i + 1) true)).toArray 4 (0, 0))) := hid (by have := setCell_blockG (o := i + 1) (.bool true) hk6; rw [this]; simp [bools, List.map_set])
          have HA7 : Hid ((w6.setCell ⟨bk, i + 1, none⟩ (.bool true)).ownsRow wa.heap.size 3 1 (.slice a6 (y + 1) c6) (y + 1) (ints (A ++ [x]))) := hid (own_setO (by rw [ints_append]; exact ho6) hk6 (by decide) _ _)
          have HAK7 : Hid (∀ a ∈ A ++ [x], a ∈ asV (inL k) V) := hid (fun a ha => (List.mem_append.1 ha).elim (HAK.out a) (fun h => by rw [List.mem_singleton.1 h]; exact List.mem_of_getElem? HXI.out))
          have HKI7 : Hid (KI G (A ++ [x]) L (kn.set (i + 1) true)) := hid ((HKI.out.more (fun a ha => List.mem_append_left _ ha)).set fun _ => by
            have h1 := HBD.out.inp i hlt
            rw [List.getD_eq_getElem?_getD, h1]
            rcases hxA.2 with e | e
            · exact .inl (.asm (by simp [e]))
            · exact .inr (.asm (by simp [e])))
          have HY7 : Hid (y + 1 = (A ++ [x]).length) := hid (by have := HY.out; simp; omega)
          clear ho6 hg6 ha6 hT6 hk6 hil hob hxA
          go_wp2_with fail
          go_roundw
          case rel => exact ⟨i + 1, y + 1, A ++ [x], kn.set (i + 1) true, a6, c6, rfl, by simp, hlt, by omega, HY7, HT7, HK7, HA7, HAK7, HKI7⟩
          case measure => simp [intOf]; omega
      · go_wp2_with fail
        go_roundw
        case rel => exact ⟨i + 1, y, A, kn, aA, cA, rfl, by simp, hlt, by omega, HY, HT, HKB, HA, HAK, HKI⟩
        case measure => simp [intOf]; omega
    · have hi3 : i = k := by omega
      subst hi3
      obtain ⟨fi, hfi⟩ : ∃ fi, fi = 1 + i := ⟨_, rfl⟩
      have hwf : IntKind.i64.wrap (1 + (i : Int)) = (fi : Int) := by rw [IntWalk.i64_in _ (by omega)]; omega
      have hc1 : wr.cell? ⟨bc, 1, none⟩ = some (.slice aI i cI) := below_keeps (HW4T.out wr HT.out) _ _ (fit_cell (vs := [.pointer (some ⟨b, 0, none⟩), .slice aI i cI, .slice aV i cV]) HC4.out 1)
      have HFI := hid hfi
      have hfn : fi ≤ nL := by have := HNL.out; omega
      clear hfi hlt
      go_wp2_with fail
      clear hwf hc1
      go_loopw [18] (fun s18 wq => ∃ (j : Nat) (kn : List Bool), s18 = .int .i64 j ∧ fi ≤ j ∧ j ≤ nL ∧ Hid (Touch (fun j => j = bk) wa wq) ∧ Hid (wq.heap[bk]? = some (.cells (bools kn).toArray 4 (0, 0))) ∧ Hid (wq.ownsRow wa.heap.size 3 1 (.slice aA y cA) y (ints A)) ∧ Hid (KI G A L kn)) (fun s18 _ => (nL - (intOf s18)).toNat)
      case atStart => exact ⟨fi, kn, rfl, Nat.le_refl _, hfn, HT, HKB, HA, HKI⟩
      case round =>
        clear HT HKB HA HKI
        obtain ⟨j, kn, rfl, hfj, hj, HT, HKB, HA, HKI⟩ := hrel
        by_cases hlt : j < nL
        · have hlt2 : (j : Int) < nL := by omega
          have hwj : IntKind.i64.wrap ((j : Int) + 1) = (j : Int) + 1 := IntWalk.i64_in _ (by omega)
          obtain ⟨t, ht⟩ : ∃ t, j = 1 + i + t := ⟨j - fi, by have := HFI.out; omega⟩
          have hwt : IntKind.i64.wrap ((j : Int) - (fi : Int)) = (t : Int) := by have := HFI.out; rw [IntWalk.i64_in _ (by omega)]; omega
          have htN : t < N := by have := HNL.out; omega
          have htN2 : (t : Int) < N := by omega
          obtain ⟨⟨wh, g0, g1, g2⟩, hgt⟩ : ∃ g, gs[t]? = some g := ⟨_, List.getElem?_eq_getElem (by rw [HN.out]; exact htN)⟩
          have HGT := hid hgt
          have HTN := hid htN
          obtain ⟨bg, og, hag, hq0, hq1, hq2, hq3, wf0, -, -, -⟩ := ((HS3.out.below HB4.out).below (HW4T.out wr HT.out)) t _ hgt
          simp only at hq0 hq1 hq2 hq3 wf0
          have hwh := bounds_u8 wf0
          obtain ⟨q, hq⟩ : ∃ q : Nat, wh % 4 = (q : Int) := ⟨(wh % 4).toNat, by omega⟩
          have hrem : wh.tmod 4 = (q : Int) := by rw [Int.tmod_eq_emod_of_nonneg hwh.1]; exact hq
          obtain ⟨mn, hmn⟩ : ∃ mn : Nat, (gArgs (wh, g0, g1, g2)).length = mn := ⟨_, rfl⟩
          have hcase : (((q : Int) == 3) = true ∧ mn = 3) ∨ (((q : Int) == 3) = false ∧ mn = 2) := by
            unfold gArgs at hmn
            by_cases h3 : wh % 4 = 3
            · left
              have : ((q : Int) == 3) = true := by rw [beq_iff_eq]; omega
              refine ⟨this, ?_⟩
              rw [if_pos h3] at hmn
              simpa using hmn.symm
            · right
              have : ((q : Int) == 3) = false := by rw [beq_eq_false_iff_ne]; omega
              refine ⟨this, ?_⟩
              rw [if_neg h3] at hmn
              simpa using hmn.symm
          have HT2 := hid ht
          have HMN := hid hmn
          subst hag
          have hil : j < kn.length := by rw [HKI.out.1, HLEN.out.1]; have := HNL.out; omega
          obtain ⟨ob, hob⟩ : ∃ ob, kn[j]? = some ob := ⟨_, List.getElem?_eq_getElem hil⟩
          have hkc : wr.cell? ⟨bk, j, none⟩ = some (.bool ob) := (fit_cell HKB.out j).trans (by simp [bools, hob])
          have hkf : wr.frozen? ⟨bk, j, none⟩ = false := frozen_of_row _ _ _ _ _ HKB.out
          have hkca := fun o => below_keeps (box_below wr o) _ _ hkc
          have hkfa : ∀ o, (wr.alloc o).frozen? ⟨bk, j, none⟩ = false := fun o => frozen_of_row _ _ _ _ _ ((Below.heap_alloc _ o _ (Array.getElem?_eq_some_iff.1 HKB.out).1).trans HKB.out)
          clear hgt wf0 hwh hq ht hmn hil hob
          have hbkl : bk < wr.heap.size := (Array.getElem?_eq_some_iff.1 HKB.out).1
          have hbox : ((wr.alloc (.cells #[.int .u8 wh, .int .i64 g0, .int .i64 g1, .int .i64 g2] 56 (0, 0))).setCell ⟨bk, j, none⟩ (.bool true)).heap[wr.heap.size]? = some (.cells ([.int .u8 wh, .int .i64 g0, .int .i64 g1, .int .i64 g2] : List Value).toArray 56 (0, 0)) := (heap_setCell_other _ ⟨bk, j, none⟩ wr.heap.size _ (by show wr.heap.size ≠ bk; omega)).trans (heap_alloc_new _ _)
          have hx1 : ((wr.alloc (.cells #[.int .u8 wh, .int .i64 g0, .int .i64 g1, .int .i64 g2] 56 (0, 0))).setCell ⟨bk, j, none⟩ (.bool true)).cell? ⟨wr.heap.size, 1, none⟩ = some (.int .i64 g0) := fit_cell hbox 1
          have hx2 : ((wr.alloc (.cells #[.int .u8 wh, .int .i64 g0, .int .i64 g1, .int .i64 g2] 56 (0, 0))).setCell ⟨bk, j, none⟩ (.bool true)).cell? ⟨wr.heap.size, 2, none⟩ = some (.int .i64 g1) := fit_cell hbox 2
          have hx3 : ((wr.alloc (.cells #[.int .u8 wh, .int .i64 g0, .int .i64 g1, .int .i64 g2] 56 (0, 0))).setCell ⟨bk, j, none⟩ (.bool true)).cell? ⟨wr.heap.size, 3, none⟩ = some (.int .i64 g2) := fit_cell hbox 3
          have hkbS : ((wr.alloc (.cells #[.int .u8 wh, .int .i64 g0, .int .i64 g1, .int .i64 g2] 56 (0, 0))).setCell ⟨bk, j, none⟩ (.bool true)).heap[bk]? = some (.cells (bools (kn.set j true)).toArray 4 (0, 0)) := by
            have h1 := (Below.heap_alloc wr (.cells #[.int .u8 wh, .int .i64 g0, .int .i64 g1, .int .i64 g2] 56 (0, 0)) bk hbkl).trans HKB.out
            have h2 := setCell_blockG (o := j) (.bool true) h1
            rw [h2]; simp [bools, List.map_set]
          have hkbS : (wr.setCell ⟨bk, j, none⟩ (.bool true)).heap[bk]? = some (.cells (bools (kn.set j true)).toArray 4 (0, 0)) := by
            have h2 := setCell_blockG (o := j) (.bool true) HKB.out
            rw [h2]; simp [bools, List.map_set]
          have HTS : Hid (Touch (fun j => j = bk) wa (((wr.setCell ⟨bk, j, none⟩ (.bool true)).alloc (.cells #[.int .u8 wh, .int .i64 g0, .int .i64 g1, .int .i64 g2] 56 (0, 0))).alloc (.cells #[.int .i64 g0, .int .i64 g1, .int .i64 g2] 3 (0, 0)))) := hid (((HT.out.setCell rfl _).alloc _).alloc _)
          have HAS : Hid ((((wr.setCell ⟨bk, j, none⟩ (.bool true)).alloc (.cells #[.int .u8 wh, .int .i64 g0, .int .i64 g1, .int .i64 g2] 56 (0, 0))).alloc (.cells #[.int .i64 g0, .int .i64 g1, .int .i64 g2] 3 (0, 0))).ownsRow wa.heap.size 3 1 (.slice aA y cA) y (ints A)) := hid (((own_setO HA.out HKB.out (by decide) _ _).alloc _).alloc _)
          have HKS : Hid ((((wr.setCell ⟨bk, j, none⟩ (.bool true)).alloc (.cells #[.int .u8 wh, .int .i64 g0, .int .i64 g1, .int .i64 g2] 56 (0, 0))).alloc (.cells #[.int .i64 g0, .int .i64 g1, .int .i64 g2] 3 (0, 0))).heap[bk]? = some (.cells (bools (kn.set j true)).toArray 4 (0, 0))) := hid (by
            rw [Below.heap_alloc _ _ _ (by rw [size_al, setCell_size]; omega), Below.heap_alloc _ _ _ (by rw [setCell_size]; omega)]
            exact hkbS)
          have HAR : Hid ((((wr.setCell ⟨bk, j, none⟩ (.bool true)).alloc (.cells #[.int .u8 wh, .int .i64 g0, .int .i64 g1, .int .i64 g2] 56 (0, 0))).alloc (.cells #[.int .i64 g0, .int .i64 g1, .int .i64 g2] 3 (0, 0))).heap[wr.heap.size + 1]? = some (.cells (ints [g0, g1, g2]).toArray 3 (0, 0))) := hid (by
            have h := heap_alloc_new ((wr.setCell ⟨bk, j, none⟩ (.bool true)).alloc (.cells #[.int .u8 wh, .int .i64 g0, .int .i64 g1, .int .i64 g2] 56 (0, 0))) (.cells #[.int .i64 g0, .int .i64 g1, .int .i64 g2] 3 (0, 0))
            rw [size_al, setCell_size] at h
            exact h)
          have HBR : Hid (bk < wr.heap.size) := hid hbkl
          have hjk : j < kn.length := by rw [HKI.out.1, HLEN.out.1]; have := HNL.out; omega
          have HJK := hid hjk
          clear hbox hkbS
          rcases hcase with ⟨hb3, hmn3⟩ | ⟨hb3, hmn3⟩
          · have hsl3 := fun (a : Option Addr) => slice_toN (P := Try.prog) (t := 22) (e := 3) (a := a) (n := 3) (c := 3) (k := 3) (m := mn) (by omega) Try.underlying22 slice_int_size (by omega)
            have HM3 : Hid (mn ≤ 3) := hid (by omega)
            clear hmn3
            go_wp2_with fail
            clear hsl3 hx1 hx2 hx3 hkc hkf hkca hkfa hq0 hq1 hq2 hq3 hb3 hrem hwt
            generalize (((wr.setCell ⟨bk, j, none⟩ (.bool true)).alloc (.cells #[.int .u8 wh, .int .i64 g0, .int .i64 g1, .int .i64 g2] 56 (0, 0))).alloc (.cells #[.int .i64 g0, .int .i64 g1, .int .i64 g2] 3 (0, 0))) = wT at HTS HAS HKS HAR ⊢
            have hbk2 : wr.heap.size + 1 ≠ bk := by have := HBR.out; omega
            generalize wr.heap.size + 1 = ba at HAR hbk2 ⊢
            clear HT HA HKB
            have HBT0 : Hid (∃ bit, wT.heap[bk]? = some (.cells (bools (kn.set j bit)).toArray 4 (0, 0)) ∧ (bit = true → ∀ z ∈ (gArgs (wh, g0, g1, g2)).take 0, Dec G A (L.getD (gIdx z j) 0))) := hid ⟨true, HKS.out, fun _ z hz => by simp at hz⟩
            go_loopw [116] (fun s116 wq => ∃ (r : Nat) (bit : Bool), s116 = .int .i64 r ∧ r ≤ mn ∧ Hid (Touch (fun j => j = bk) wa wq) ∧ Hid (wq.ownsRow wa.heap.size 3 1 (.slice aA y cA) y (ints A)) ∧ Hid (wq.heap[ba]? = some (.cells (ints [g0, g1, g2]).toArray 3 (0, 0))) ∧ Hid (wq.heap[bk]? = some (.cells (bools (kn.set j bit)).toArray 4 (0, 0))) ∧ Hid (bit = true → ∀ z ∈ (gArgs (wh, g0, g1, g2)).take r, Dec G A (L.getD (gIdx z j) 0))) (fun s116 _ => (mn - (intOf s116)).toNat)
            case atStart => exact ⟨0, true, rfl, Nat.zero_le _, HTS, HAS, HAR, HKS, hid (fun _ z hz => by simp at hz)⟩
            case round =>
              clear HTS HAS HAR HKS HBT0
              obtain ⟨r, bit, rfl, hr, HT, HA, HAR, HKB, HBIT⟩ := hrel
              by_cases hrl : r < mn
              · have hrl2 : (r : Int) < mn := by omega
                have hwr : IntKind.i64.wrap ((r : Int) + 1) = (r : Int) + 1 := IntWalk.i64_in _ (by have := HM3.out; omega)
                have hg3 : [g0, g1, g2].take mn = gArgs (wh, g0, g1, g2) := by
                  have := HMN.out
                  unfold gArgs at this ⊢
                  split at this <;> simp at this <;> subst this <;> (rename_i h3; simp [h3])
                obtain ⟨z, hz⟩ : ∃ z, (gArgs (wh, g0, g1, g2))[r]? = some z := ⟨_, List.getElem?_eq_getElem (by rw [HMN.out]; exact hrl)⟩
                have hz3 : [g0, g1, g2][r]? = some z := by rw [← hg3, List.getElem?_take] at hz; simpa [hrl] using hz
                have hcz : wr.cell? ⟨ba, r, none⟩ = some (.int .i64 z) := (fit_cell HAR.out r).trans (ints_getG hz3)
                have hkc : wr.cell? ⟨bk, j, none⟩ = some (.bool bit) := (fit_cell HKB.out j).trans (by simp [bools, HJK.out])
                have hkf : wr.frozen? ⟨bk, j, none⟩ = false := frozen_of_row _ _ _ _ _ HKB.out
                have HZ := hid hz
                clear hz hz3 hg3
                cases bit with
                | false =>
                  have HT7 : Hid (Touch (fun j => j = bk) wa (wr.setCell ⟨bk, j, none⟩ (.bool false))) := hid (HT.out.setCell rfl _)
                  have HA7 : Hid ((wr.setCell ⟨bk, j, none⟩ (.bool false)).ownsRow wa.heap.size 3 1 (.slice aA y cA) y (ints A)) := hid (own_setO HA.out HKB.out (by decide) _ _)
                  have HAR7 : Hid ((wr.setCell ⟨bk, j, none⟩ (.bool false)).heap[ba]? = some (.cells (ints [g0, g1, g2]).toArray 3 (0, 0))) := hid ((heap_setCell_other _ ⟨bk, j, none⟩ ba _ hbk2).trans HAR.out)
                  have HK7 : Hid ((wr.setCell ⟨bk, j, none⟩ (.bool false)).heap[bk]? = some (.cells (bools (kn.set j false)).toArray 4 (0, 0))) := hid (by have h2 := setCell_blockG (o := j) (.bool false) HKB.out; rw [h2]; simp [bools, List.map_set])
                  go_wp2_with fail
                  go_roundw
                  case rel => exact ⟨r + 1, false, by simp, hrl, HT7, HA7, HAR7, HK7, hid nofun⟩
                  case measure => simp [intOf]; omega
                | true =>
                  obtain ⟨r2, hr2⟩ : ∃ r2 : Nat, z % (2 * (j : Int)) = (r2 : Int) := ⟨(z % (2 * (j : Int))).toNat, by have := Int.emod_nonneg z (show (2 * (j : Int)) ≠ 0 by have := HFI.out; omega); omega⟩
                  have hr2l : r2 < 2 * j := by have := Int.emod_lt_of_pos z (show (0 : Int) < 2 * (j : Int) by have := HFI.out; omega); omega
                  obtain ⟨p, hp⟩ : ∃ p, r2 / 2 = p := ⟨_, rfl⟩
                  have hpj : p < j := by omega
                  have hpI : gIdx z j = p := by unfold gIdx; rw [hr2, Int.toNat_natCast]; exact hp
                  have hquo : (r2 : Int).tdiv 2 = (p : Int) := by rw [Int.tdiv_eq_ediv_of_nonneg (by omega)]; omega
                  have hwp : IntKind.i64.wrap (p : Int) = (p : Int) := IntWalk.i64_in _ (by omega)
                  have hw2j : IntKind.i64.wrap (2 * (j : Int)) = 2 * (j : Int) := IntWalk.i64_in _ (by omega)
                  have hpn : (p : Int) < nL := by omega
                  have hpn' : p < nL := by omega
                  have hpk : p < kn.length := by have := HJK.out; omega
                  obtain ⟨bt, hbt⟩ : ∃ bt, kn[p]? = some bt := ⟨_, List.getElem?_eq_getElem hpk⟩
                  have hkp : wr.cell? ⟨bk, p, none⟩ = some (.bool bt) := (fit_cell HKB.out p).trans (by
                    have : (kn.set j true)[p]? = some bt := by rw [List.getElem?_set, if_neg (by omega)]; exact hbt
                    simp only [bools, List.getElem?_map, this]
                    rfl)
                  have hmod := kit_Mod wr z (2 * (j : Int)) (by have := HFI.out; omega) (by omega)
                  rw [hr2] at hmod
                  have HMOD := hid hmod
                  have HT7 : Hid (Touch (fun j => j = bk) wa (wr.setCell ⟨bk, j, none⟩ (.bool bt))) := hid (HT.out.setCell rfl _)
                  have HA7 : Hid ((wr.setCell ⟨bk, j, none⟩ (.bool bt)).ownsRow wa.heap.size 3 1 (.slice aA y cA) y (ints A)) := hid (own_setO HA.out HKB.out (by decide) _ _)
                  have HAR7 : Hid ((wr.setCell ⟨bk, j, none⟩ (.bool bt)).heap[ba]? = some (.cells (ints [g0, g1, g2]).toArray 3 (0, 0))) := hid ((heap_setCell_other _ ⟨bk, j, none⟩ ba _ hbk2).trans HAR.out)
                  have HK7 : Hid ((wr.setCell ⟨bk, j, none⟩ (.bool bt)).heap[bk]? = some (.cells (bools (kn.set j bt)).toArray 4 (0, 0))) := hid (by have h2 := setCell_blockG (o := j) (.bool bt) HKB.out; rw [h2]; simp [bools, List.map_set])
                  have HBIT7 : Hid (bt = true → ∀ z ∈ (gArgs (wh, g0, g1, g2)).take (r + 1), Dec G A (L.getD (gIdx z j) 0)) := hid (fun hb z' hz' => by
                    rw [List.take_add_one, HZ.out] at hz'
                    rcases List.mem_append.1 hz' with h1 | h1
                    · exact HBIT.out rfl z' h1
                    · have h1 : z' = z := by simpa using h1
                      rw [h1, hpI]
                      exact HKI.out.2 p (by rw [hbt, hb]))
                  clear hr2 hr2l hp hpj hpI hpk hbt hmod
                  go_wp2_with fail
                  refine HMOD.out.mono ?_
                  rintro e w8 ⟨rfl, rfl⟩
                  clear HMOD
                  go_wp2_with fail
                  go_roundw
                  case rel => exact ⟨r + 1, bt, by simp, hrl, HT7, HA7, HAR7, HK7, HBIT7⟩
                  case measure => simp [intOf]; omega
              · have hrm : r = mn := by omega
                have HKI9 : Hid (KI G A L (kn.set j bit)) := hid (HKI.out.set fun hb => by
                  have h1 := HBIT.out hb
                  rw [hrm, List.take_of_length_le (by rw [HMN.out]; exact Nat.le_refl _)] at h1
                  have h2 := HBD.out.dec t HTN.out _ HGT.out A G (fun _ h => h) (fun y hy => by rw [← HT2.out]; exact h1 y hy)
                  rwa [← HT2.out] at h2)
                have hfj1 : fi ≤ j + 1 := by omega
                clear hrm
                go_wp2_with fail
                go_roundw
                case rel => exact ⟨j + 1, kn.set j bit, by simp, hfj1, hlt, HT, HKB, HA, HKI9⟩
                case measure => simp [intOf]; omega
          · have hsl3 := fun (a : Option Addr) => slice_toN (P := Try.prog) (t := 22) (e := 3) (a := a) (n := 3) (c := 3) (k := 2) (m := mn) (by omega) Try.underlying22 slice_int_size (by omega)
            have HM3 : Hid (mn ≤ 3) := hid (by omega)
            clear hmn3
            go_wp2_with fail
            clear hsl3 hx1 hx2 hx3 hkc hkf hkca hkfa hq0 hq1 hq2 hq3 hb3 hrem hwt
            generalize (((wr.setCell ⟨bk, j, none⟩ (.bool true)).alloc (.cells #[.int .u8 wh, .int .i64 g0, .int .i64 g1, .int .i64 g2] 56 (0, 0))).alloc (.cells #[.int .i64 g0, .int .i64 g1, .int .i64 g2] 3 (0, 0))) = wT at HTS HAS HKS HAR ⊢
            have hbk2 : wr.heap.size + 1 ≠ bk := by have := HBR.out; omega
            generalize wr.heap.size + 1 = ba at HAR hbk2 ⊢
            clear HT HA HKB
            have HBT0 : Hid (∃ bit, wT.heap[bk]? = some (.cells (bools (kn.set j bit)).toArray 4 (0, 0)) ∧ (bit = true → ∀ z ∈ (gArgs (wh, g0, g1, g2)).take 0, Dec G A (L.getD (gIdx z j) 0))) := hid ⟨true, HKS.out, fun _ z hz => by simp at hz⟩
            go_loopw [116] (fun s116 wq => ∃ (r : Nat) (bit : Bool), s116 = .int .i64 r ∧ r ≤ mn ∧ Hid (Touch (fun j => j = bk) wa wq) ∧ Hid (wq.ownsRow wa.heap.size 3 1 (.slice aA y cA) y (ints A)) ∧ Hid (wq.heap[ba]? = some (.cells (ints [g0, g1, g2]).toArray 3 (0, 0))) ∧ Hid (wq.heap[bk]? = some (.cells (bools (kn.set j bit)).toArray 4 (0, 0))) ∧ Hid (bit = true → ∀ z ∈ (gArgs (wh, g0, g1, g2)).take r, Dec G A (L.getD (gIdx z j) 0))) (fun s116 _ => (mn - (intOf s116)).toNat)
            case atStart => exact ⟨0, true, rfl, Nat.zero_le _, HTS, HAS, HAR, HKS, hid (fun _ z hz => by simp at hz)⟩
            case round =>
              clear HTS HAS HAR HKS HBT0
              obtain ⟨r, bit, rfl, hr, HT, HA, HAR, HKB, HBIT⟩ := hrel
              by_cases hrl : r < mn
              · have hrl2 : (r : Int) < mn := by omega
                have hwr : IntKind.i64.wrap ((r : Int) + 1) = (r : Int) + 1 := IntWalk.i64_in _ (by have := HM3.out; omega)
                have hg3 : [g0, g1, g2].take mn = gArgs (wh, g0, g1, g2) := by
                  have := HMN.out
                  unfold gArgs at this ⊢
                  split at this <;> simp at this <;> subst this <;> (rename_i h3; simp [h3])
                obtain ⟨z, hz⟩ : ∃ z, (gArgs (wh, g0, g1, g2))[r]? = some z := ⟨_, List.getElem?_eq_getElem (by rw [HMN.out]; exact hrl)⟩
                have hz3 : [g0, g1, g2][r]? = some z := by rw [← hg3, List.getElem?_take] at hz; simpa [hrl] using hz
                have hcz : wr.cell? ⟨ba, r, none⟩ = some (.int .i64 z) := (fit_cell HAR.out r).trans (ints_getG hz3)
                have hkc : wr.cell? ⟨bk, j, none⟩ = some (.bool bit) := (fit_cell HKB.out j).trans (by simp [bools, HJK.out])
                have hkf : wr.frozen? ⟨bk, j, none⟩ = false := frozen_of_row _ _ _ _ _ HKB.out
                have HZ := hid hz
                clear hz hz3 hg3
                cases bit with
                | false =>
                  have HT7 : Hid (Touch (fun j => j = bk) wa (wr.setCell ⟨bk, j, none⟩ (.bool false))) := hid (HT.out.setCell rfl _)
                  have HA7 : Hid ((wr.setCell ⟨bk, j, none⟩ (.bool false)).ownsRow wa.heap.size 3 1 (.slice aA y cA) y (ints A)) := hid (own_setO HA.out HKB.out (by decide) _ _)
                  have HAR7 : Hid ((wr.setCell ⟨bk, j, none⟩ (.bool false)).heap[ba]? = some (.cells (ints [g0, g1, g2]).toArray 3 (0, 0))) := hid ((heap_setCell_other _ ⟨bk, j, none⟩ ba _ hbk2).trans HAR.out)
                  have HK7 : Hid ((wr.setCell ⟨bk, j, none⟩ (.bool false)).heap[bk]? = some (.cells (bools (kn.set j false)).toArray 4 (0, 0))) := hid (by have h2 := setCell_blockG (o := j) (.bool false) HKB.out; rw [h2]; simp [bools, List.map_set])
                  go_wp2_with fail
                  go_roundw
                  case rel => exact ⟨r + 1, false, by simp, hrl, HT7, HA7, HAR7, HK7, hid nofun⟩
                  case measure => simp [intOf]; omega
                | true =>
                  obtain ⟨r2, hr2⟩ : ∃ r2 : Nat, z % (2 * (j : Int)) = (r2 : Int) := ⟨(z % (2 * (j : Int))).toNat, by have := Int.emod_nonneg z (show (2 * (j : Int)) ≠ 0 by have := HFI.out; omega); omega⟩
                  have hr2l : r2 < 2 * j := by have := Int.emod_lt_of_pos z (show (0 : Int) < 2 * (j : Int) by have := HFI.out; omega); omega
                  obtain ⟨p, hp⟩ : ∃ p, r2 / 2 = p := ⟨_, rfl⟩
                  have hpj : p < j := by omega
                  have hpI : gIdx z j = p := by unfold gIdx; rw [hr2, Int.toNat_natCast]; exact hp
                  have hquo : (r2 : Int).tdiv 2 = (p : Int) := by rw [Int.tdiv_eq_ediv_of_nonneg (by omega)]; omega
                  have hwp : IntKind.i64.wrap (p : Int) = (p : Int) := IntWalk.i64_in _ (by omega)
                  have hw2j : IntKind.i64.wrap (2 * (j : Int)) = 2 * (j : Int) := IntWalk.i64_in _ (by omega)
                  have hpn : (p : Int) < nL := by omega
                  have hpn' : p < nL := by omega
                  have hpk : p < kn.length := by have := HJK.out; omega
                  obtain ⟨bt, hbt⟩ : ∃ bt, kn[p]? = some bt := ⟨_, List.getElem?_eq_getElem hpk⟩
                  have hkp : wr.cell? ⟨bk, p, none⟩ = some (.bool bt) := (fit_cell HKB.out p).trans (by
                    have : (kn.set j true)[p]? = some bt := by rw [List.getElem?_set, if_neg (by omega)]; exact hbt
                    simp only [bools, List.getElem?_map, this]
                    rfl)
                  have hmod := kit_Mod wr z (2 * (j : Int)) (by have := HFI.out; omega) (by omega)
                  rw [hr2] at hmod
                  have HMOD := hid hmod
                  have HT7 : Hid (Touch (fun j => j = bk) wa (wr.setCell ⟨bk, j, none⟩ (.bool bt))) := hid (HT.out.setCell rfl _)
                  have HA7 : Hid ((wr.setCell ⟨bk, j, none⟩ (.bool bt)).ownsRow wa.heap.size 3 1 (.slice aA y cA) y (ints A)) := hid (own_setO HA.out HKB.out (by decide) _ _)
                  have HAR7 : Hid ((wr.setCell ⟨bk, j, none⟩ (.bool bt)).heap[ba]? = some (.cells (ints [g0, g1, g2]).toArray 3 (0, 0))) := hid ((heap_setCell_other _ ⟨bk, j, none⟩ ba _ hbk2).trans HAR.out)
                  have HK7 : Hid ((wr.setCell ⟨bk, j, none⟩ (.bool bt)).heap[bk]? = some (.cells (bools (kn.set j bt)).toArray 4 (0, 0))) := hid (by have h2 := setCell_blockG (o := j) (.bool bt) HKB.out; rw [h2]; simp [bools, List.map_set])
                  have HBIT7 : Hid (bt = true → ∀ z ∈ (gArgs (wh, g0, g1, g2)).take (r + 1), Dec G A (L.getD (gIdx z j) 0)) := hid (fun hb z' hz' => by
                    rw [List.take_add_one, HZ.out] at hz'
                    rcases List.mem_append.1 hz' with h1 | h1
                    · exact HBIT.out rfl z' h1
                    · have h1 : z' = z := by simpa using h1
                      rw [h1, hpI]
                      exact HKI.out.2 p (by rw [hbt, hb]))
                  clear hr2 hr2l hp hpj hpI hpk hbt hmod
                  go_wp2_with fail
                  refine HMOD.out.mono ?_
                  rintro e w8 ⟨rfl, rfl⟩
                  clear HMOD
                  go_wp2_with fail
                  go_roundw
                  case rel => exact ⟨r + 1, bt, by simp, hrl, HT7, HA7, HAR7, HK7, HBIT7⟩
                  case measure => simp [intOf]; omega
              · have hrm : r = mn := by omega
                have HKI9 : Hid (KI G A L (kn.set j bit)) := hid (HKI.out.set fun hb => by
                  have h1 := HBIT.out hb
                  rw [hrm, List.take_of_length_le (by rw [HMN.out]; exact Nat.le_refl _)] at h1
                  have h2 := HBD.out.dec t HTN.out _ HGT.out A G (fun _ h => h) (fun y hy => by rw [← HT2.out]; exact h1 y hy)
                  rwa [← HT2.out] at h2)
                have hfj1 : fi ≤ j + 1 := by omega
                clear hrm
                go_wp2_with fail
                go_roundw
                case rel => exact ⟨j + 1, kn.set j bit, by simp, hfj1, hlt, HT, HKB, HA, HKI9⟩
                case measure => simp [intOf]; omega
        · have hj2 : j = nL := by omega
          subst hj2
          have hbw := HW4T.out wr HT.out
          have hc0 : wr.cell? ⟨bc, 0, none⟩ = some (.pointer (some ⟨b, 0, none⟩)) := below_keeps hbw _ _ (fit_cell (vs := [.pointer (some ⟨b, 0, none⟩), .slice aI i cI, .slice aV i cV]) HC4.out 0)
          have HGR := hid (HGC.out.below hbw)
          have HBW := hid (HB4.out.trans (hbw.mono hwb4))
          have HLR := hid (HL4.out.below hbw)
          have HWR := hid (HW4.out.below hbw)
          have hnm := HGR.out.nm
          have hgm := HGR.out.gm
          have hfl := flat_le HGR.out.cl
          have HFL : Hid (G.flatten.length ≤ 10000000) := hid (by omega)
          have hn2 : n ≤ 1000 := by omega
          have hG2 : G.length ≤ 2000 := by omega
          have hyA : y ≤ 12 := by omega
          clear hbw hnm hgm hfl hlt hfj hj
          go_wp2_with fail
          refine (gate_Formula wr w.heap.size b n G HGR.out.gb (by omega) (fun c hc => by have := HGR.out.cl c hc; omega)).mono ?_
          rintro e wf ⟨af, cf, rfl, hrf, hbf⟩
          have HRF := hid hrf
          have HBF := hid hbf
          have HAF := hid (own_below HA.out hbf)
          clear hrf hbf hc0
          go_wp2_with fail
          refine (ref15_Decide wf n af G G.length cf aA A y cA K rfl HY.out (fun e => ((own_cap HAF.out).2.2 e).1) HRF.out (own_slv HAF.out) HGR.out.circ.kok (fun a ha => HGR.out.circ.asm a (HAK.out a ha)) (by omega) (by omega) HGR.out.cl (by rw [← HY.out]; omega) HFL.out).mono ?_
          rintro e wd ⟨hbd, ak, mk, ck, kk, rfl, hmk, hkl, hko, hks, hsn, hdr⟩
          have hbrd := HBF.out.trans (hbd.mono HBF.out.size)
          have HBD2 := hid (HBW.out.trans (hbrd.mono HBW.out.size))
          have HKD := hid ((hbrd.block bk (Array.getElem?_eq_some_iff.1 HKB.out).1).trans HKB.out)
          have HLD := hid (HLR.out.below hbrd)
          have HWD := hid (HWR.out.below hbrd)
          have HIS : Hid (∀ (nd : Nat) (a : Int) (q v : Bool), LitOk n a → decide (kk.getD a.natAbs 0 = 0) = !q → decide (kT kk a) = v → Calls Try.prog 34 #[.slice ak mk ck, .int .i64 a] (wd.drewN nd) fun e w' => e = .returned (.tuple #[.bool q, .bool v]) ∧ ∃ nd', w' = (wd.drewN nd).drewN nd') := hid (fun nd a q v ha hq hv => ref15_Is (wd.drewN nd) n ak mk ck kk a q v hmk hkl hko ha (by omega) (hks.drewN nd) hq hv)
          have HLK : Hid (∀ (t : Nat) (x : Int) (u : Bool), L[t]? = some x → W[t]? = some u → LitOk n x ∧ (kn[t]? = some true → decide (kk.getD x.natAbs 0 = 0) = !true ∧ decide (kT kk x) = u)) := hid (fun t x u hx hu => by
            have hvl := HBD.out.vl t x u hx hu
            refine ⟨HGR.out.circ.dk.1 hvl.1, fun hk => dec_is HGR.out.circ hko hsn hdr hvl ?_⟩
            have h := HKI.out.2 t hk
            rwa [List.getD_eq_getElem?_getD, hx] at h)
          clear hbd hmk hkl hko hks hsn hdr hbrd HRF HBF HAF HLR HWR HT HA HKB
          go_wp2_with fail
          go_loopw [24] (fun s24 wq => ∃ (t nd : Nat), s24 = .int .i64 t ∧ t ≤ j ∧ wq = wd.drewN nd) (fun s24 _ => (j - (intOf s24)).toNat)
          case atStart => exact ⟨0, 0, rfl, Nat.zero_le _, rfl⟩
          case round =>
            obtain ⟨t, nd, rfl, ht, rfl⟩ := hrel
            by_cases htl : t < j
            · have htl2 : (t : Int) < j := by omega
              have htL : t < L.length := by rw [HLEN.out.1]; have := HNL.out; omega
              have htL2 : (t : Int) < L.length := by omega
              have hwt : IntKind.i64.wrap ((t : Int) + 1) = (t : Int) + 1 := IntWalk.i64_in _ (by omega)
              obtain ⟨b1, o1, x, rfl, hcx, hxi⟩ := (HLD.out.drewN nd).int htL
              obtain ⟨b2, o2, u, rfl, hcu, hui⟩ := (HWD.out.drewN nd).bool (k := t) (by rw [HLEN.out.2]; have := HLEN.out.1; omega)
              obtain ⟨bt, hbt⟩ : ∃ bt, kn[t]? = some bt := ⟨_, List.getElem?_eq_getElem (by rw [HKI.out.1]; exact htL)⟩
              have hck : (wd.drewN nd).cell? ⟨bk, t, none⟩ = some (.bool bt) := (fit_cell HKD.out t).trans (by simp [bools, hbt])
              have hlk := HLK.out t x u hxi hui
              cases bt with
              | true =>
                have h2 := hlk.2 hbt
                have HCALL := hid (HIS.out nd x true u hlk.1 h2.1 h2.2)
                clear hxi hui hbt hlk h2
                go_wp2_with fail
                refine HCALL.out.mono ?_
                rintro e w2 ⟨rfl, nd2, rfl⟩
                rw [show (wd.drewN nd).drewN nd2 = wd.drewN (nd + nd2) from by rw [World.drewN_drewN]]
                have hcu2 : (wd.drewN (nd + nd2)).cell? ⟨b2, o2 + t, none⟩ = some (.bool u) := hcu
                have hck2 : (wd.drewN (nd + nd2)).cell? ⟨bk, t, none⟩ = some (.bool true) := hck
                clear hcx hcu hck HCALL
                go_wp2_with fail
                go_roundw
                case rel => exact ⟨t + 1, _, by simp, htl, rfl⟩
                case measure => simp [intOf]; omega
              | false =>
                obtain ⟨q, hq⟩ : ∃ q, decide (kk.getD x.natAbs 0 = 0) = !q := ⟨!decide (kk.getD x.natAbs 0 = 0), by simp⟩
                obtain ⟨v, hv⟩ : ∃ v, decide (kT kk x) = v := ⟨_, rfl⟩
                have HCALL := hid (HIS.out nd x q v hlk.1 hq hv)
                clear hxi hui hbt hlk hq hv
                go_wp2_with fail
                refine HCALL.out.mono ?_
                rintro e w2 ⟨rfl, nd2, rfl⟩
                rw [show (wd.drewN nd).drewN nd2 = wd.drewN (nd + nd2) from by rw [World.drewN_drewN]]
                have hcu2 : (wd.drewN (nd + nd2)).cell? ⟨b2, o2 + t, none⟩ = some (.bool u) := hcu
                have hck2 : (wd.drewN (nd + nd2)).cell? ⟨bk, t, none⟩ = some (.bool false) := hck
                clear hcx hcu hck HCALL
                cases q
                all_goals
                  go_wp2_with fail
                  go_roundw
                  case rel => exact ⟨t + 1, _, by simp, htl, rfl⟩
                  case measure => simp [intOf]; omega
            · have HBE := hid (below_dr HBD2.out nd)
              go_wp2_with fail
              refine (law15_awake _).mono ?_
              rintro e w6 ⟨rfl, hb6⟩
              have HB6 := hid (HBE.out.trans (hb6.mono HBE.out.size))
              clear hb6
              go_wp2_with fail
              go_ret
              exact ⟨rfl, HB6.out⟩

end Go.Proofs.Ytacmfiikdbekbaa.Ord
