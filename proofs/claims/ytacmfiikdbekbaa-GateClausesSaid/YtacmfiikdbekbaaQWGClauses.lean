/- The walk of GateClauses. (Printed by gen_gateclauses.py.) -/
import Derived.Deep.RegionHeld3
import Derived.Test.YtacmfiikdbekbaaQKCS
import Derived.Test.YtacmfiikdbekbaaQ10
import Derived.Test.YtacmfiikdbekbaaQEqL

namespace Go.Proofs.Ytacmfiikdbekbaa.Ord2
open Go.RowKit Go.Conc Go.Proofs.Ytacmfiikdbekbaa.Ord

attribute [local go_sem ↓] Go.wp_at_zero Go.wp_at_succ
attribute [local go_sem ↓ high] app_mark

theorem litOk_le {n n' : Nat} {x : Int} (h : LitOk n x) (hn : n ≤ n') : LitOk n' x := by unfold LitOk at *; omega

theorem inL_ok {k : Nat} : ∀ x ∈ (1 : Int) :: inL k, LitOk (k + 1) x := by
  intro x hx
  rcases List.mem_cons.1 hx with rfl | hx
  · unfold LitOk; omega
  · obtain ⟨j, hj, rfl⟩ := List.mem_map.1 hx
    have := List.mem_range.1 hj
    unfold LitOk
    omega

/-- What holds of the lists of GateClauses behind i rounds. -/
structure CI (k i n : Nat) (G : List (List Int)) (L : List Int) (W : List Bool) (A : List Int) (D : List (List Int)) : Prop where
  ll : 1 ≤ L.length ∧ L.length ≤ 1 + k + i
  wl : W.length = L.length
  al : A.length = i
  dl : D.length = i
  n1 : 1 ≤ n ∧ n ≤ k + 1 + 2 * i
  gl : G.length ≤ 1 + 7 * i
  lok : ∀ x ∈ L, LitOk n x
  dlen : ∀ d ∈ D, d.length ≤ 10
  gc : ∀ c ∈ G, c.length ≤ 4096
  at' : ∀ (j : Nat) (a : Int) (d : List Int), A[j]? = some a → D[j]? = some d → ∃ t : Nat, a = (t : Int) ∧ G[t]? = some d

theorem ci_start (k : Nat) (V : List Bool) (hV : V.length = k) : CI k 0 (k + 1) [[1]] (1 :: inL k) (true :: V) [] [] :=
  ⟨by simp [inL_length]; omega, by simp [inL_length, hV], rfl, rfl, by omega, by simp, inL_ok, by simp, by simp, fun j a d h => by simp at h⟩

theorem gPut_ok {n q : Nat} {G : List (List Int)} {x y z : Int} (h1 : 1 ≤ n) (hx : LitOk n x) (hy : LitOk n y) (hz : LitOk n z) (hq : q < 4) : LitOk (gPut n G q x y z).2.1 (gPut n G q x y z).1 ∧ n ≤ (gPut n G q x y z).2.1 ∧ (gPut n G q x y z).2.1 ≤ n + 1 ∧ (gPut n G q x y z).2.2.length ≤ G.length + 6 := by
  have : q = 0 ∨ q = 1 ∨ q = 2 ∨ q = 3 := by omega
  rcases this with rfl | rfl | rfl | rfl
  · have h := gAnd_size n G x y
    have h2 := gAnd_ok (G := G) h1 hx hy
    have h3 : n ≤ (gAnd n G x y).2.1 := by unfold gAnd; repeat' split
                                           all_goals simp
    exact ⟨h2.1, h3, h2.2, by show (gAnd n G x y).2.2.length ≤ _; omega⟩
  · have hnx : LitOk n (-x) := by unfold LitOk at *; omega
    have hny : LitOk n (-y) := by unfold LitOk at *; omega
    have h := gAnd_size n G (-x) (-y)
    have h2 := gAnd_ok (G := G) h1 hnx hny
    have h3 : n ≤ (gAnd n G (-x) (-y)).2.1 := by unfold gAnd; repeat' split
                                                 all_goals simp
    refine ⟨?_, h3, h2.2, by show (gAnd n G (-x) (-y)).2.2.length ≤ _; omega⟩
    have := h2.1
    show LitOk (gAnd n G (-x) (-y)).2.1 (-(gAnd n G (-x) (-y)).1)
    unfold LitOk at *
    omega
  · have h := gXor_size n G x y
    have h3 : n ≤ (gXor n G x y).2.1 ∧ (gXor n G x y).2.1 ≤ n + 1 := by unfold gXor; repeat' split
                                                                        all_goals simp
    refine ⟨?_, h3.1, h3.2, by show (gXor n G x y).2.2.length ≤ _; omega⟩
    show LitOk (gXor n G x y).2.1 (gXor n G x y).1
    unfold gXor
    unfold LitOk at *
    split
    · simp; omega
    · split
      · simp; omega
      · split
        · rename_i h4
          rcases h4 with rfl | rfl <;> simp <;> omega
        · split
          · rename_i h4
            rcases h4 with rfl | rfl <;> simp <;> omega
          · simp; omega
  · have h := gMux_size n G x y z
    have h3 : n ≤ (gMux n G x y z).2.1 ∧ (gMux n G x y z).2.1 ≤ n + 1 := by unfold gMux; repeat' split
                                                                            all_goals simp
    refine ⟨?_, h3.1, h3.2, by show (gMux n G x y z).2.2.length ≤ _; omega⟩
    show LitOk (gMux n G x y z).2.1 (gMux n G x y z).1
    unfold gMux
    unfold LitOk at *
    split
    · simp; omega
    · split
      · simp; omega
      · simp; omega

theorem pk_ok {n : Nat} {L : List Int} {W : List Bool} {r : Nat} (hL : ∀ x ∈ L, LitOk n x) (hr : r / 2 < L.length) : LitOk n (pkP L W r).1 := by
  have e1 : L[r / 2]? = some L[r / 2] := List.getElem?_eq_getElem hr
  have h := hL _ (List.getElem_mem hr)
  unfold pkP
  rw [List.getD_eq_getElem?_getD, e1]
  simp only [Option.getD_some]
  split
  · unfold LitOk at *; omega
  · exact h

theorem CI.clause {k i n : Nat} {G : List (List Int)} {L : List Int} {W : List Bool} {A : List Int} {D : List (List Int)} {E : List Int} (h : CI k i n G L W A D) (_hE : E.length ≤ 10) (_hG : G.length ≤ 1 + 7 * i) : ∀ (j : Nat) (a : Int) (d : List Int), (A ++ [(G.length : Int)])[j]? = some a → (D ++ [E])[j]? = some d → ∃ t : Nat, a = (t : Int) ∧ (G ++ [E])[t]? = some d := by
  intro j a d ha hd
  have hal := h.al
  have hdl := h.dl
  rcases Nat.lt_or_ge j i with hj | hj
  · rw [List.getElem?_append_left (by omega)] at ha hd
    obtain ⟨t, h1, h2⟩ := h.at' j a d ha hd
    exact ⟨t, h1, by rw [List.getElem?_append_left (List.getElem?_eq_some_iff.1 h2).1]; exact h2⟩
  · have hje : j = i := by
      have := (List.getElem?_eq_some_iff.1 ha).1
      simp at this
      omega
    subst hje
    rw [List.getElem?_append_right (by omega), hal, Nat.sub_self] at ha
    rw [List.getElem?_append_right (by omega), hdl, Nat.sub_self] at hd
    simp at ha hd
    exact ⟨G.length, ha.symm, by rw [List.getElem?_append_right (Nat.le_refl _), Nat.sub_self]; simp [hd]⟩

set_option maxRecDepth 100000 in
set_option maxHeartbeats 16000000 in
theorem walk_GateClauses (x0 : Int) (v1 : Value) (x1 : List (Int × Int × Int × Int)) (v2 : Value) (x2 : List (List Int)) (w : World) (_w0 : (Lit.int .i64 x0).wf = true) (w1 : ArgG w v1 x1) (w2 : ArgR .i64 w v2 x2) :
    Calls Try.prog 10 #[.int .i64 x0, v1, v2] w fun e w' => e = .returned (.bool true) ∧ Below w.heap.size w w' := by
  obtain ⟨i0, hi0, hz0, hz1, hz2⟩ := info_parts info_intG
  obtain ⟨i1, hi1, hy0, hy1, hy2⟩ := info_parts info_boolG
  obtain ⟨i2, hi2, hv0, hv1, hv2⟩ := info_parts info_intsG
  obtain ⟨ag, cg, rfl, hle1, hm1, hn1, hs1⟩ := w1
  obtain ⟨ac, cc, rfl, hle2, hm2, hn2, hs2⟩ := w2
  obtain ⟨k, hk, hk2⟩ : ∃ k : Nat, x0 % 10 = (k : Int) ∧ k ≤ 9 := ⟨(x0 % 10).toNat, by omega, by omega⟩
  have hfd0 : ∀ (x y : Value) (wx : World), (Instr.field 34 (.agg #[x, y]) 0).run Try.prog wx = .ok x wx := fun _ _ _ => by kernel_rfl
  have hfd1 : ∀ (x y : Value) (wx : World), (Instr.field 34 (.agg #[x, y]) 1).run Try.prog wx = .ok y wx := fun _ _ _ => by kernel_rfl
  have HS1 := hid hs1
  have HS2 := hid hs2
  clear hs1 hs2 hle1 hm1 hn1 hle2 hm2 hn2 _w0
  go_enter Try.func10, Try.ntmps10
  go_wp2_with fail
  refine (kit_Mod w x0 10 (by omega) (by omega)).mono ?_
  rw [hk]
  rintro e w1 ⟨rfl, rfl⟩
  clear hk
  go_wp2_with fail
  refine (law15_Begin w k none [] 0 0 rfl (by omega) (SlV.nil _ _) (by simp)).mono ?_
  rintro e w2 ⟨b, vI, vV, rfl, hg, hI, hV, hb⟩
  have hg := gb_begin hg hI
  obtain ⟨aI, cI, rfl⟩ := own_lenV' hI
  obtain ⟨aV, cV, rfl⟩ := own_lenV' hV
  obtain ⟨V, hVe⟩ : ∃ V, valL [] k = V := ⟨_, rfl⟩
  have hVl : V.length = k := by rw [← hVe]; exact valL_length _ _
  rw [hVe] at hV
  clear hVe
  have HKV := hid hVl
  clear hVl
  have hsz := hb.size
  have HG := hid (hg.below (box_below w2 (.cells #[.pointer (some ⟨b, 0, none⟩), .slice aI k cI, .slice aV k cV] 46)))
  have HIO := hid (hI.alloc (.cells #[.pointer (some ⟨b, 0, none⟩), .slice aI k cI, .slice aV k cV] 46))
  have HVO := hid (hV.alloc (.cells #[.pointer (some ⟨b, 0, none⟩), .slice aI k cI, .slice aV k cV] 46))
  have HB := hid (hb.trans ((box_below w2 (.cells #[.pointer (some ⟨b, 0, none⟩), .slice aI k cI, .slice aV k cV] 46)).mono hsz))
  have HC := hid (heap_alloc_new w2 (.cells #[.pointer (some ⟨b, 0, none⟩), .slice aI k cI, .slice aV k cV] 46))
  clear hg hI hV hb hsz
  go_wp2_with fail
  generalize (w2.alloc (.cells #[.pointer (some ⟨b, 0, none⟩), .slice aI k cI, .slice aV k cV] 46)) = w3 at HG HIO HVO HB HC ⊢
  generalize w2.heap.size = bc at HC ⊢
  have hc0 : w3.cell? ⟨bc, 0, none⟩ = some (.pointer (some ⟨b, 0, none⟩)) := fit_cell (vs := [.pointer (some ⟨b, 0, none⟩), .slice aI k cI, .slice aV k cV]) HC.out 0
  have hc1 : w3.cell? ⟨bc, 1, none⟩ = some (.slice aI k cI) := fit_cell (vs := [.pointer (some ⟨b, 0, none⟩), .slice aI k cI, .slice aV k cV]) HC.out 1
  have hc2 : w3.cell? ⟨bc, 2, none⟩ = some (.slice aV k cV) := fit_cell (vs := [.pointer (some ⟨b, 0, none⟩), .slice aI k cI, .slice aV k cV]) HC.out 2
  have HI1 := hid (own_slv HIO.out)
  have HV1 := hid (own_slv HVO.out)
  have HCI := hid ((own_cap HIO.out).2.2)
  have HCV := hid ((own_cap HVO.out).2.2)
  clear HIO HVO
  go_wp2_with fail
  go_loopw [9] (fun s9 wr => ∃ i : Nat, s9 = .int .i64 i ∧ i ≤ k ∧ w3 = wr) (fun s9 _ => (k - (intOf s9)).toNat)
  case atStart => exact ⟨0, rfl, Nat.zero_le _, rfl⟩
  case round =>
    obtain ⟨i, rfl, hi, rfl⟩ := hrel
    by_cases hlt : i < k
    · have hlt2 : (i : Int) < k := by omega
      have hwi : IntKind.i64.wrap ((i : Int) + 1) = (i : Int) + 1 := IntWalk.i64_in _ (by omega)
      have hwi2 : IntKind.i64.wrap ((i : Int) + 2) = (i : Int) + 2 := IntWalk.i64_in _ (by omega)
      obtain ⟨b1, o1, x, rfl, hcx, hxi⟩ := HI1.out.int (k := i) (by rw [inL_length]; exact hlt)
      have hx2 : (x != (i : Int) + 2) = false := by
        have : x = (i : Int) + 2 := by simp [inL, hlt] at hxi; omega
        rw [this]; simp
      clear hxi
      go_wp2_with fail
      go_roundw
      case rel => exact ⟨i + 1, by simp, hlt, by trivial⟩
      case measure => simp [intOf]; omega
    · go_wp2_with fail
      clear hlt hi
      have HLN : Hid (1 + k ≤ maxLen ∧ (1 + k) * 8 ≤ 140737488355328 ∧ (1 + k) * 1 ≤ 140737488355328) := hid (by unfold maxLen; omega)
      have HBEL : Hid (Below w3.heap.size w3 w3) := hid (Below.refl _ _)
      have HVL : Hid (k = (bools V).length) := hid (by rw [bools_length]; exact HKV.out.symm)
      have HC2 := hid (And.intro hc0 (And.intro hc1 hc2))

      go_cut [10, 11] (fun s10 s11 wx => ∃ aL cL aW cW, s10 = .slice aL (1 + k) cL ∧ s11 = .slice aW (1 + k) cW ∧ Hid (Below w3.heap.size w3 wx) ∧ Hid (wx.ownsRow w3.heap.size 3 1 (.slice aL (1 + k) cL) (1 + k) (ints (1 :: inL k))) ∧ Hid (wx.ownsRow w3.heap.size 4 1 (.slice aW (1 + k) cW) (1 + k) (bools (true :: V))))
      case first =>
        go_region_held3 (fun x => x.cell? ⟨bc, 0, none⟩ = some (.pointer (some ⟨b, 0, none⟩)) ∧ x.cell? ⟨bc, 1, none⟩ = some (.slice aI k cI) ∧ x.cell? ⟨bc, 2, none⟩ = some (.slice aV k cV)) (first | exact ⟨‹_›, ‹_›, ‹_›⟩ | go_keep) (first
          | (go_at_call 46; refine (gate_True _ b).mono ?_; rintro e w2 ⟨rfl, rfl⟩)
          | (refine step_append_sl rfl _ _ 22 rfl w3.heap.size 3 i0 (.int .i64 0) 8 Try.underlying22 hi0 hz0 hz1 hz2 rfl _ 1 [.int .i64 1] (by rfl) (by first | exact own_box (Nat.le_refl _) | exact (own_box (Nat.le_refl _)).alloc _ | exact own_box2 (Nat.le_refl _) | exact own_box HBEL.out.size | exact HKB.out _ _ _ _ _ _ ((own_box (Nat.le_refl _)).alloc _) (by decide) | exact HKB.out _ _ _ _ _ _ (own_box2 (Nat.le_refl _)) (by decide)) aI k cI (ints (inL k)) (by rfl) (HI1.out.below (by first | exact HBEL.out | exact below_al HBEL.out HBEL.out.size _ | exact (below_al HBEL.out HBEL.out.size _).drew | exact (below_al (below_al HBEL.out HBEL.out.size _) (by simp only [size_al]; have := HBEL.out.size; omega) _) | exact (below_al (below_al HBEL.out HBEL.out.size _) (by simp only [size_al]; have := HBEL.out.size; omega) _).drew)) (by simp [inL_length]) (fun e => (HCI.out e).1) ints_one (by exact HLN.out.1) (by exact HLN.out.2.1) (by have := HBEL.out.size; first | exact this | (simp only [size_al]; omega) | (show w3.heap.size ≤ (World.alloc _ _).heap.size; simp only [size_al]; omega) | (show w3.heap.size ≤ (World.alloc (World.alloc _ _) _).heap.size; simp only [size_al]; omega)) ?_; intro v8 w8 ho8 hg8; obtain ⟨aL, cL, rfl⟩ := own_lenV' ho8; obtain ⟨hk8, hb8⟩ := app_keep (B := w3.heap.size) (e := 3) (s := 1) (n := 1) (xs := [.int .i64 1]) hg8 (by first | exact own_box (Nat.le_refl _) | exact (own_box (Nat.le_refl _)).alloc _ | exact own_box2 (Nat.le_refl _) | exact own_box HBEL.out.size | exact HKB.out _ _ _ _ _ _ ((own_box (Nat.le_refl _)).alloc _) (by decide) | exact HKB.out _ _ _ _ _ _ (own_box2 (Nat.le_refl _)) (by decide)); have HKA := hid hk8; have HL := hid ho8; clear hk8 ho8; have hb9 := hb8 w3 (by first | exact HBEL.out | exact below_al HBEL.out HBEL.out.size _ | exact (below_al HBEL.out HBEL.out.size _).drew | exact (below_al (below_al HBEL.out HBEL.out.size _) (by simp only [size_al]; have := HBEL.out.size; omega) _) | exact (below_al (below_al HBEL.out HBEL.out.size _) (by simp only [size_al]; have := HBEL.out.size; omega) _).drew) (by have := HBEL.out.size; first | exact this | (simp only [size_al]; omega) | (show w3.heap.size ≤ (World.alloc _ _).heap.size; simp only [size_al]; omega) | (show w3.heap.size ≤ (World.alloc (World.alloc _ _) _).heap.size; simp only [size_al]; omega)); clear HBEL; have HBEL := hid hb9; have hj0 := below_keeps hb9 _ _ hc0; have hj1 := below_keeps hb9 _ _ hc1; have hj2 := below_keeps hb9 _ _ hc2; clear hb8 hb9 hg8)
          | (refine step_append_sl rfl _ _ 27 rfl w3.heap.size 4 i1 (.bool false) 1 Try.underlying27 hi1 hy0 hy1 hy2 rfl _ 1 [.bool true] (by rfl) (by first | exact own_box (Nat.le_refl _) | exact (own_box (Nat.le_refl _)).alloc _ | exact own_box2 (Nat.le_refl _) | exact own_box HBEL.out.size | exact HKA.out _ _ _ _ _ _ ((own_box (Nat.le_refl _)).alloc _) (by decide) | exact HKA.out _ _ _ _ _ _ (own_box2 (Nat.le_refl _)) (by decide)) aV k cV (bools V) (by rfl) (HV1.out.below (by first | exact HBEL.out | exact below_al HBEL.out HBEL.out.size _ | exact (below_al HBEL.out HBEL.out.size _).drew | exact (below_al (below_al HBEL.out HBEL.out.size _) (by simp only [size_al]; have := HBEL.out.size; omega) _) | exact (below_al (below_al HBEL.out HBEL.out.size _) (by simp only [size_al]; have := HBEL.out.size; omega) _).drew)) HVL.out (fun e => (HCV.out e).1) bools_oneG (by exact HLN.out.1) (by exact HLN.out.2.2) (by have := HBEL.out.size; first | exact this | (simp only [size_al]; omega) | (show w3.heap.size ≤ (World.alloc _ _).heap.size; simp only [size_al]; omega) | (show w3.heap.size ≤ (World.alloc (World.alloc _ _) _).heap.size; simp only [size_al]; omega)) ?_; intro v8 w8 ho8 hg8; obtain ⟨aW, cW, rfl⟩ := own_lenV' ho8; obtain ⟨hk8, hb8⟩ := app_keep (B := w3.heap.size) (e := 4) (s := 1) (n := 1) (xs := [.bool true]) hg8 (by first | exact own_box (Nat.le_refl _) | exact (own_box (Nat.le_refl _)).alloc _ | exact own_box2 (Nat.le_refl _) | exact own_box HBEL.out.size | exact HKA.out _ _ _ _ _ _ ((own_box (Nat.le_refl _)).alloc _) (by decide) | exact HKA.out _ _ _ _ _ _ (own_box2 (Nat.le_refl _)) (by decide)); have HKB := hid hk8; have HW := hid ho8; clear hk8 ho8; have hb9 := hb8 w3 (by first | exact HBEL.out | exact below_al HBEL.out HBEL.out.size _ | exact (below_al HBEL.out HBEL.out.size _).drew | exact (below_al (below_al HBEL.out HBEL.out.size _) (by simp only [size_al]; have := HBEL.out.size; omega) _) | exact (below_al (below_al HBEL.out HBEL.out.size _) (by simp only [size_al]; have := HBEL.out.size; omega) _).drew) (by have := HBEL.out.size; first | exact this | (simp only [size_al]; omega) | (show w3.heap.size ≤ (World.alloc _ _).heap.size; simp only [size_al]; omega) | (show w3.heap.size ≤ (World.alloc (World.alloc _ _) _).heap.size; simp only [size_al]; omega)); clear HBEL; have HBEL := hid hb9; have hj0 := below_keeps hb9 _ _ hc0; have hj1 := below_keeps hb9 _ _ hc1; have hj2 := below_keeps hb9 _ _ hc2; clear hb8 hb9 hg8))
        all_goals
          have HLF : Hid (w8.ownsRow w3.heap.size 3 1 (.slice aL (1 + k) cL) (1 + k) (ints (1 :: inL k))) := hid (by first | exact HL.out | exact HKB.out _ _ _ _ _ _ HL.out (by decide) | exact HKB.out _ _ _ _ _ _ (HL.out.alloc _) (by decide))
          have HWF : Hid (w8.ownsRow w3.heap.size 4 1 (.slice aW (1 + k) cW) (1 + k) (bools (true :: V))) := hid (by first | exact HW.out | exact HKA.out _ _ _ _ _ _ HW.out (by decide) | exact HKA.out _ _ _ _ _ _ (HW.out.alloc _) (by decide))
          go_wp2_with fail
          go_meet
          case rel => exact ⟨_, _, _, _, rfl, rfl, HBEL, HLF, HWF⟩
      case rest =>
        obtain ⟨aL, cL, aW, cW, rfl, rfl, HBX, HL, HW⟩ := hcut
        obtain ⟨y, hy⟩ : ∃ y, 1 + k = y := ⟨_, rfl⟩
        rw [hy] at HL HW ⊢
        have hsz3 := HB.out.size
        have hcs : CS _ w wc b bc (k + 1) [[1]] [.pointer (some ⟨b, 0, none⟩), .slice aI k cI, .slice aV k cV] (.slice aL y cL) (.slice aW y cW) (.slice none 0 0) (.slice none 0 0) (1 :: inL k) (true :: V) [] [] :=
          ⟨HB.out.trans (HBX.out.mono hsz3), HG.out.new HBX.out, (HBX.out.block bc (Array.getElem?_eq_some_iff.1 HC.out).1).trans HC.out, by
            have h := own_base HL.out hsz3
            have e : (1 :: inL k).length = y := by rw [List.length_cons, inL_length]; omega
            rw [e]; exact h, by
            have h := own_base HW.out hsz3
            have e : (true :: V).length = y := by rw [List.length_cons, HKV.out]; omega
            rw [e]; exact h, World.ownsRow_nil _ _ _ _, ⟨[], World.ownsRow_nil _ _ _ _, fun j c hj => by simp at hj⟩, fun g hg => .inr (HL.out.lt g hg), nofun, nofun, fun g _ => nofun⟩
        have HCS0 := hid hcs
        have HCI0 := hid (ci_start k V HKV.out)
        have HY0 : Hid (y = (1 :: inL k).length) := hid (by rw [List.length_cons, inL_length]; omega)
        clear hcs hy hsz3 HG HB HC HC2 HI1 HV1 HCI HCV HLN HBEL HVL HBX HL HW hc0 hc1 hc2
        go_wp2_with fail
        go_loopw [10, 11, 12, 13, 14] (fun s10 s11 s12 s13 s14 wr => ∃ (i y n : Nat) (X : Nat → Prop) (G : List (List Int)) (L : List Int) (W : List Bool) (A : List Int) (D : List (List Int)) (aL aW aA aD : Option Addr) (cL cW cA cD : Nat), s10 = .slice aL y cL ∧ s11 = .slice aW y cW ∧ s12 = .slice aA i cA ∧ s13 = .slice aD i cD ∧ s14 = .int .i64 i ∧ i ≤ x2.length ∧ i ≤ 30 ∧ Hid (y = L.length) ∧ Hid (CI k i n G L W A D) ∧ Hid (CS X w wr b bc n G [.pointer (some ⟨b, 0, none⟩), .slice aI k cI, .slice aV k cV] (.slice aL y cL) (.slice aW y cW) (.slice aA i cA) (.slice aD i cD) L W A D)) (fun _ _ _ _ s14 _ => (30 - (intOf s14)).toNat)
        case atStart => exact ⟨0, y, k + 1, _, _, _, _, _, _, aL, aW, none, none, cL, cW, 0, 0, rfl, rfl, rfl, rfl, rfl, Nat.zero_le _, Nat.zero_le _, HY0, HCI0, HCS0⟩
        case round =>
          clear HY0 HCI0 HCS0
          obtain ⟨i, y, n, X, G, L, W, A, D, aL, aW, aA, aD, cL, cW, cA, cD, rfl, rfl, rfl, rfl, rfl, hi, hi30, HY, HCI, HCS⟩ := hrel
          by_cases hlt : i < x2.length
          · by_cases hlt3 : i < 30
            · have hlt2 : (i : Int) < x2.length := by omega
              have hlt4 : (i : Int) < 30 := by omega
              have hwi : IntKind.i64.wrap ((i : Int) + 1) = (i : Int) + 1 := IntWalk.i64_in _ (by omega)
              obtain ⟨xs, hxs⟩ : ∃ xs, x2[i]? = some xs := ⟨_, List.getElem?_eq_getElem hlt⟩
              obtain ⟨b1, o1, u1, hac, hu1, hau⟩ := HS2.out i xs hxs
              obtain ⟨ax, cx, rfl, -, -, -, hsx, -⟩ := hau
              have HU1 := hid hu1
              have HSX := hid (show SlV w ax (ints xs) from hsx)
              subst hac
              have hyb : y ≤ 41 := by have := HCI.out.ll; have := HY.out; omega
              have hyp : 1 ≤ y := by have := HCI.out.ll; have := HY.out; omega
              clear hxs hu1 hsx
              obtain ⟨wo, hwo⟩ : ∃ wo : World, wo = wr := ⟨_, rfl⟩
              rw [← hwo] at HCS ⊢
              clear hwo
              go_wp2_with fail
              have HE0 : Hid (wo.ownsRow wo.heap.size 3 1 (.slice none 0 0) 0 (ints [])) := hid (World.ownsRow_nil _ _ _ _)
              have HBE0 : Hid (Below wo.heap.size wo wo) := hid (Below.refl _ _)
              have HEK0 : Hid (([] : List Int).length = 0 ∧ ∀ x ∈ ([] : List Int), LitOk n x) := hid ⟨rfl, by simp⟩
              go_loopw [15, 16] (fun s15 s16 wq => ∃ (j : Nat) (E : List Int) (aE : Option Addr) (cE : Nat), s15 = .slice aE j cE ∧ s16 = .int .i64 j ∧ j ≤ xs.length ∧ j ≤ 10 ∧ Hid (E.length = j ∧ ∀ x ∈ E, LitOk n x) ∧ Hid (wq.ownsRow wo.heap.size 3 1 (.slice aE j cE) j (ints E)) ∧ Hid (Below wo.heap.size wo wq)) (fun _ s16 _ => (10 - (intOf s16)).toNat)
              case atStart => exact ⟨0, [], none, 0, rfl, rfl, Nat.zero_le _, Nat.zero_le _, HEK0, HE0, HBE0⟩
              case round =>
                clear HE0 HBE0 HEK0
                obtain ⟨j, E, aE, cE, rfl, rfl, hj, hj10, HEK, HE, HBE⟩ := hrel
                have hu1r : wr.cell? ⟨b1, o1 + i, none⟩ = some (.slice ax xs.length cx) := below_keeps (HCS.out.bel.trans (HBE.out.mono HCS.out.bel.size)) _ _ HU1.out
                by_cases hjl : j < xs.length
                · by_cases hj3 : j < 10
                  · have hjl2 : (j : Int) < xs.length := by omega
                    have hj4 : (j : Int) < 10 := by omega
                    have hwj : IntKind.i64.wrap ((j : Int) + 1) = (j : Int) + 1 := IntWalk.i64_in _ (by omega)
                    have hw2y : IntKind.i64.wrap (2 * (y : Int)) = 2 * (y : Int) := IntWalk.i64_in _ (by omega)
                    obtain ⟨b2, o2, z, rfl, hcz, -⟩ := (HSX.out.below (HCS.out.bel.trans (HBE.out.mono HCS.out.bel.size))).int hjl
                    obtain ⟨r, hr⟩ : ∃ r : Nat, z % (2 * (y : Int)) = (r : Int) := ⟨(z % (2 * (y : Int))).toNat, by have := Int.emod_nonneg z (show (2 * (y : Int)) ≠ 0 by omega); omega⟩
                    have hrl : r < 2 * y := by have := Int.emod_lt_of_pos z (show (0 : Int) < 2 * (y : Int) by omega); omega
                    obtain ⟨p, hp⟩ : ∃ p, r / 2 = p := ⟨_, rfl⟩
                    have hpy : p < y := by omega
                    have hpy2 : (p : Int) < y := by omega
                    have hquo : (r : Int).tdiv 2 = (p : Int) := by rw [Int.tdiv_eq_ediv_of_nonneg (by omega)]; omega
                    have hwp : IntKind.i64.wrap (p : Int) = (p : Int) := IntWalk.i64_in _ (by omega)
                    obtain ⟨b3, o3, x, haL, hcx, hxp⟩ := (own_slv (own_below HCS.out.lr HBE.out)).int (k := p) (by rw [← HY.out]; exact hpy)
                    have hxk := HCI.out.lok x (List.mem_of_getElem? hxp)
                    have hwx : IntKind.i64.wrap (-x) = -x := IntWalk.i64_in _ (by have := HCI.out.n1; unfold LitOk at hxk; omega)
                    have HXK := hid hxk
                    have hmod := kit_Mod wr z (2 * (y : Int)) (by omega) (by omega)
                    rw [hr] at hmod
                    have HMOD := hid hmod
                    have e2 : (r : Int).tmod 2 = ((r % 2 : Nat) : Int) := by rw [Int.tmod_eq_emod_of_nonneg (by omega)]; omega
                    have hpar : r % 2 = 0 ∨ r % 2 = 1 := by omega
                    have hbo := HBE.out.size
                    subst haL
                    clear hr hrl hp hxp hxk hmod
                    obtain ⟨wm, hwm⟩ : ∃ wm, wm = wr := ⟨_, rfl⟩
                    rcases hpar with hpar | hpar
                    · as_aux_lemma =>
                        have e3 : (r : Int).tmod 2 = 0 := by rw [e2, hpar]; rfl
                        obtain ⟨a6, c6, w6, hr6, ho6, hg6, -⟩ := appM_one (P := Try.prog) (wr.alloc (.cells #[.int .i64 x] 3 (0, 0))) wo.heap.size 22 22 3 i0 (.int .i64 0) 8 Try.underlying22 hi0 hz0 hz1 hz2 rfl (.slice aE j cE) j (ints E) (HE.out.alloc _) wr.heap.size (.int .i64 x) (heap_alloc_new _ _) rfl (by unfold maxLen; omega) (by omega) (by simp only [size_al]; omega)
                        have HE6 : Hid (w6.ownsRow wo.heap.size 3 1 (.slice a6 (j + 1) c6) (j + 1) (ints (E ++ [x]))) := hid (by rw [ints_append]; exact ho6)
                        have HB6 : Hid (Below wo.heap.size wo w6) := hid (below_app HBE.out hbo (box_below wr _) HE.out hg6)
                        have HK6 : Hid ((E ++ [x]).length = j + 1 ∧ ∀ z ∈ E ++ [x], LitOk n z) := hid ⟨by rw [List.length_append, HEK.out.1]; rfl, fun z hz => (List.mem_append.1 hz).elim (HEK.out.2 z) (fun h => by rw [List.mem_singleton.1 h]; exact HXK.out)⟩
                        clear ho6 hg6 e2 hpar hwm
                        go_wp2_with fail
                        refine HMOD.out.mono ?_
                        rintro e w8 ⟨rfl, rfl⟩
                        go_wp2_with fail
                        go_roundw
                        case rel => exact ⟨j + 1, E ++ [x], a6, c6, rfl, by simp, hjl, hj3, HK6, HE6, HB6⟩
                        case measure => simp [intOf]; omega
                    · as_aux_lemma =>
                        have e3 : (r : Int).tmod 2 = 1 := by rw [e2, hpar]; rfl
                        obtain ⟨a6, c6, w6, hr6, ho6, hg6, -⟩ := appM_one (P := Try.prog) (wr.alloc (.cells #[.int .i64 (-x)] 3 (0, 0))) wo.heap.size 22 22 3 i0 (.int .i64 0) 8 Try.underlying22 hi0 hz0 hz1 hz2 rfl (.slice aE j cE) j (ints E) (HE.out.alloc _) wr.heap.size (.int .i64 (-x)) (heap_alloc_new _ _) rfl (by unfold maxLen; omega) (by omega) (by simp only [size_al]; omega)
                        have HE6 : Hid (w6.ownsRow wo.heap.size 3 1 (.slice a6 (j + 1) c6) (j + 1) (ints (E ++ [-x]))) := hid (by rw [ints_append]; exact ho6)
                        have HB6 : Hid (Below wo.heap.size wo w6) := hid (below_app HBE.out hbo (box_below wr _) HE.out hg6)
                        have HK6 : Hid ((E ++ [-x]).length = j + 1 ∧ ∀ z ∈ E ++ [-x], LitOk n z) := hid ⟨by rw [List.length_append, HEK.out.1]; rfl, fun z hz => (List.mem_append.1 hz).elim (HEK.out.2 z) (fun h => by rw [List.mem_singleton.1 h]; have := HXK.out; unfold LitOk at *; omega)⟩
                        clear ho6 hg6 e2 hpar hwm
                        go_wp2_with fail
                        refine HMOD.out.mono ?_
                        rintro e w8 ⟨rfl, rfl⟩
                        go_wp2_with fail
                        go_roundw
                        case rel => exact ⟨j + 1, E ++ [-x], a6, c6, rfl, by simp, hjl, hj3, HK6, HE6, HB6⟩
                        case measure => simp [intOf]; omega
                  · as_aux_lemma =>
                      have hj5 : j = 10 := by omega
                      subst hj5
                      have hjl2 : (10 : Int) < xs.length := by omega
                      clear hjl hj3
                      have hcs1 := HCS.out.new HBE.out
                      have hcB := hcs1.cells.1
                      have HCS1 := hid hcs1
                      have hszo : w.heap.size ≤ wo.heap.size := HCS.out.bel.size
                      have hszr := HBE.out.size
                      have hcin := HCI.out.n1
                      have hcig := HCI.out.gl
                      have hal := HCI.out.al
                      have hdl := HCI.out.dl
                      clear hcs1
                      go_wp2_with fail
                      refine (gate_Formula wr w.heap.size b n G HCS1.out.gb.old (by omega) (fun c hc => by have := HCI.out.gc c hc; omega)).mono ?_
                      rintro e wf ⟨af, cf, rfl, -, hbf⟩
                      have hcs2 := HCS1.out.grow hbf
                      have hszf := hbf.size
                      obtain ⟨a6, c6, w6, hr6, ho6, hg6, ha6⟩ := appM_one (P := Try.prog) (wf.alloc (.cells #[.int .i64 (G.length : Int)] 3 (0, 0))) w.heap.size 22 22 3 i0 (.int .i64 0) 8 Try.underlying22 hi0 hz0 hz1 hz2 rfl (.slice aA i cA) i (ints A) (by have h := hcs2.ar.alloc (.cells #[.int .i64 (G.length : Int)] 3 (0, 0)); rwa [hal] at h) wf.heap.size (.int .i64 (G.length : Int)) (heap_alloc_new _ _) rfl (by unfold maxLen; omega) (by omega) (by simp only [size_al]; omega)
                      have hcs3 := hcs2.grow (box_below wf (.cells #[.int .i64 (G.length : Int)] 3 (0, 0)))
                      have hcs4 := hcs3.pushA (A' := A ++ [(G.length : Int)]) (by rw [ints_append]; exact ho6) (by simp [hal]) hg6 ha6
                      have hcs5 := hcs4.grow (box_below w6 (.cells #[.slice aE 10 cE] 22 (0, 0)))
                      obtain ⟨us, hus, hall⟩ := hcs5.dr
                      have hsz6 : (wf.alloc (.cells #[.int .i64 (G.length : Int)] 3 (0, 0))).heap.size ≤ w6.heap.size := hg6.size
                      have hszA := size_al wf (.cells #[.int .i64 (G.length : Int)] 3 (0, 0))
                      obtain ⟨a7, c7, w7, hr7, ho7, hg7, ha7⟩ := appM_one (P := Try.prog) (w6.alloc (.cells #[.slice aE 10 cE] 22 (0, 0))) w.heap.size 32 32 22 i2 (.slice none 0 0) 24 Try.underlying32 hi2 hv0 hv1 hv2 rfl (.slice aD i cD) i us (by have h := hus; rwa [hdl] at h) w6.heap.size (.slice aE 10 cE) (heap_alloc_new _ _) rfl (by unfold maxLen; omega) (by omega) (by simp only [size_al]; omega)
                      have hlAo : ∀ g, (Value.slice aA i cA).ownBlock = some g → g < wo.heap.size := fun g hg => (HCS.out.ar.lt g hg).2
                      have hdE6 : w6.ownsRow wo.heap.size 3 1 (.slice aE 10 cE) 10 (ints E) := own_frame0 (own_below (own_below HE.out hbf) (box_below wf (.cells #[.int .i64 (G.length : Int)] 3 (0, 0)))) fun g hg => hg6.block g ((own_below (own_below HE.out hbf) (box_below wf (.cells #[.int .i64 (G.length : Int)] 3 (0, 0)))).lt g hg).2 (fun e => by have h1 := hlAo g e.symm; have h2 := (HE.out.lt g hg).1; omega)
                      have hdE7 : (w6.alloc (.cells #[.slice aE 10 cE] 22 (0, 0))).ownsRow w.heap.size 3 1 (.slice aE 10 cE) E.length (ints E) := by rw [HEK.out.1]; exact own_base (hdE6.alloc _) hszo
                      have hux : ∀ g, (Value.slice aE 10 cE).ownBlock = some g → ((X g ∨ (wo.heap.size ≤ g ∧ g < wr.heap.size)) ∨ ((wf.alloc (.cells #[.int .i64 (G.length : Int)] 3 (0, 0))).heap.size ≤ g ∧ g < w6.heap.size)) ∧ (Value.slice aL y cL).ownBlock ≠ some g ∧ (Value.slice a6 (i + 1) c6).ownBlock ≠ some g := fun g hg => by
                        have h1 := HE.out.lt g hg
                        refine ⟨.inl (.inr h1), fun e => ?_, fun e => ?_⟩
                        · have := (HCS.out.lr.lt g e).2; omega
                        · rcases ha6 with q | q
                          · have := hlAo g (q ▸ e); omega
                          · rw [q] at e; injection e with e; omega
                      have hcs7 := hcs5.pushD (u := .slice aE 10 cE) (c := E) (m := i + 1) hus hall hdE7 hux ho7 (by rw [hdl]) hg7 ha7
                      have HCS7 := hid hcs7
                      have HSE := hid (own_slv (own_grownO hdE7 hus (by decide) hg7))
                      have HCE := hid ((own_cap HE.out).2.2)
                      clear ho6 hg6 ha6 hcs2 hcs3 hcs4 hcs5 hus hall ho7 hg7 ha7 hlAo hdE6 hdE7 hux hcs7 hbf hsz6 hszA hszf HCS1 hcB
                      have hcB := HCS7.out.cells.1
                      go_wp2_with fail
                      refine (gate_Clause w7 w.heap.size b n G aE E 10 cE HCS7.out.gb (by omega) HEK.out.1.symm HSE.out (fun e => (HCE.out e).1) HEK.out.2 (by rw [HEK.out.1]; omega) (by omega)).mono ?_
                      rintro e w8 ⟨rfl, hg8, hk8⟩
                      obtain ⟨X8, HCS8⟩ : ∃ X8, Hid (CS X8 w w8 b bc n (G ++ [E]) [.pointer (some ⟨b, 0, none⟩), .slice aI k cI, .slice aV k cV] (.slice aL y cL) (.slice aW y cW) (.slice a6 (i + 1) c6) (.slice a7 (i + 1) c7) L W (A ++ [(G.length : Int)]) (D ++ [E])) := ⟨_, hid (HCS7.out.gk hk8 hg8)⟩
                      have HAT8 := hid (HCI.out.clause (E := E) (by rw [HEK.out.1]; omega) hcig)
                      have HGC8 : Hid (∀ c ∈ G ++ [E], c.length ≤ 4096) := hid (fun c hc => (List.mem_append.1 hc).elim (HCI.out.gc c) (fun h => by rw [List.mem_singleton.1 h, HEK.out.1]; omega))
                      have HDL8 : Hid (∀ d ∈ D ++ [E], d.length ≤ 10) := hid (fun c hc => (List.mem_append.1 hc).elim (HCI.out.dlen c) (fun h => by rw [List.mem_singleton.1 h, HEK.out.1]; omega))
                      have HAD8 : Hid ((A ++ [(G.length : Int)]).length = i + 1 ∧ (D ++ [E]).length = i + 1) := hid ⟨by simp [hal], by simp [hdl]⟩
                      have HLW8 := hid (And.intro HCI.out.ll (And.intro HCI.out.wl HCI.out.lok))
                      clear hg8 hk8 HCS7 HSE HCE hcB HCS HBE HE HEK HCI
                      have hcB := HCS8.out.cells.1
                      have hcB1 := HCS8.out.cells.2.1
                      have hcB2 := HCS8.out.cells.2.2
                      by_cases hgl : i < x1.length
                      · as_aux_lemma =>
                          have hgl2 : (i : Int) < x1.length := by omega
                          obtain ⟨⟨wh, g0, g1, g2⟩, hgi⟩ : ∃ g, x1[i]? = some g := ⟨_, List.getElem?_eq_getElem hgl⟩
                          obtain ⟨bg, og, hag, hq0', hq1', hq2', hq3', wf0, -, -, -⟩ := HS1.out i _ hgi
                          have hq0 := below_keeps HCS8.out.bel _ _ hq0'
                          have hq1 := below_keeps HCS8.out.bel _ _ hq1'
                          have hq2 := below_keeps HCS8.out.bel _ _ hq2'
                          have hq3 := below_keeps HCS8.out.bel _ _ hq3'
                          have HQ0 := hid (And.intro hq0' (And.intro hq1' (And.intro hq2' hq3')))
                          have hwh := bounds_u8 wf0
                          simp only at hq0 hq1 hq2 hq3 hwh
                          have hlp := HLW8.out.1
                          have hlok := HLW8.out.2.2
                          have hwl := HLW8.out.2.1
                          obtain ⟨q, hq⟩ : ∃ q : Nat, wh % 4 = (q : Int) := ⟨(wh % 4).toNat, by omega⟩
                          have hq4 : q < 4 := by omega
                          have hrr : ∀ g : Int, ∃ r : Nat, g % (2 * (L.length : Int)) = (r : Int) ∧ r / 2 < L.length := fun g => by
                            have h1 := Int.emod_lt_of_pos g (show (0 : Int) < 2 * (L.length : Int) by omega)
                            have h2 := Int.emod_nonneg g (show (2 * (L.length : Int)) ≠ 0 by omega)
                            exact ⟨(g % (2 * (L.length : Int))).toNat, by omega, by omega⟩
                          obtain ⟨r0, hr0, hr0l⟩ := hrr g0
                          obtain ⟨r1, hr1, hr1l⟩ := hrr g1
                          obtain ⟨r2, hr2, hr2l⟩ := hrr g2
                          obtain ⟨l0, hl0⟩ : ∃ l, (pkP L W r0).1 = l := ⟨_, rfl⟩
                          obtain ⟨l1, hl1⟩ : ∃ l, (pkP L W r1).1 = l := ⟨_, rfl⟩
                          obtain ⟨l2, hl2⟩ : ∃ l, (pkP L W r2).1 = l := ⟨_, rfl⟩
                          have p0 := pk_ok (W := W) hlok hr0l
                          have p1 := pk_ok (W := W) hlok hr1l
                          have p2 := pk_ok (W := W) hlok hr2l
                          rw [hl0] at p0
                          rw [hl1] at p1
                          rw [hl2] at p2
                          obtain ⟨z, n', G', hz⟩ : ∃ z n' G', gPut n (G ++ [E]) q l0 l1 l2 = (z, n', G') := ⟨_, _, _, rfl⟩
                          obtain ⟨v, hv⟩ : ∃ v, vPut q (pkP L W r0).2 (pkP L W r1).2 (pkP L W r2).2 = v := ⟨_, rfl⟩
                          have hok9 := gPut_ok (G := G ++ [E]) hcin.1 p0 p1 p2 hq4
                          have hgg := gg_put n (G ++ [E]) q l0 l1 l2
                          have hgE : (G ++ [E]).length = G.length + 1 := by simp
                          rw [hz] at hok9 hgg
                          have HCALL : Hid (∀ wx, GB X8 wx w.heap.size b n (G ++ [E]) → SlV wx aL (ints L) → SlV wx aW (bools W) → Calls Try.prog 47 #[.agg #[.pointer (some ⟨b, 0, none⟩), .slice aI k cI, .slice aV k cV], .agg #[.int .u8 wh, .int .i64 g0, .int .i64 g1, .int .i64 g2], .slice aL y cL, .slice aW y cW] wx fun e w' => e = .returned (.tuple #[.int .i64 z, .bool v, .int .i64 0]) ∧ GB X8 w' w.heap.size b n' G' ∧ Gk X8 w.heap.size wx w') := hid (fun wx k1 k2 k3 => by
                            have h := law15_Put wx w.heap.size b n (G ++ [E]) (.slice aI k cI) (.slice aV k cV) wh g0 g1 g2 aL aW y y cL cW L W q l0 l1 l2 _ _ _ k1 hcin.1 (by omega) (by omega) ⟨hwh.1, by have := hwh.2; omega⟩ hq HY.out HY.out hwl (by omega) (by omega) k2 k3 hlok (fun j g hj => by
                              match j, hj with
                              | 0, hj => simp at hj; subst hj; exact ⟨r0, hr0, by simp [hl0], rfl⟩
                              | 1, hj => simp at hj; subst hj; exact ⟨r1, hr1, by simp [hl1], rfl⟩
                              | 2, hj => simp at hj; subst hj; exact ⟨r2, hr2, by simp [hl2], rfl⟩
                              | j + 3, hj => simp at hj) p0 p1 p2
                            rw [hz, hv] at h
                            exact h)
                          have HOK9 := hid hok9
                          have HGG := hid hgg
                          have HGB := hid HCS8.out.gb
                          have HSL := hid (own_slv HCS8.out.lr)
                          have HSW := hid (own_slv HCS8.out.vr)
                          have HBEL := hid HCS8.out.bel
                          have HBOX := hid HCS8.out.box
                          have hszb := HCS8.out.bel.size
                          subst hag
                          clear hrr p0 p1 p2 hz hv hl0 hl1 hl2 hr0 hr1 hr2 hr0l hr1l hr2l hq hq4 hgi wf0 hwh hlp hlok hwl hok9 hgg hq0' hq1' hq2' hq3' hgl
                          go_wp2_with fail
                          go_region_held3 (fun x => x.cell? ⟨bc, 0, none⟩ = some (.pointer (some ⟨b, 0, none⟩)) ∧ x.cell? ⟨bc, 1, none⟩ = some (.slice aI k cI) ∧ x.cell? ⟨bc, 2, none⟩ = some (.slice aV k cV) ∧ x.cell? ⟨bg, og + i * 4, none⟩ = some (.int .u8 wh) ∧ x.cell? ⟨bg, og + i * 4 + 1, none⟩ = some (.int .i64 g0) ∧ x.cell? ⟨bg, og + i * 4 + 2, none⟩ = some (.int .i64 g1) ∧ x.cell? ⟨bg, og + i * 4 + 3, none⟩ = some (.int .i64 g2)) (first | exact ⟨‹_›, ‹_›, ‹_›, ‹_›, ‹_›, ‹_›, ‹_›⟩ | go_keep) (first
                            | (go_at_call 47; refine (HCALL.out _ (by exact HGB.out) (by exact HSL.out) (by exact HSW.out)).mono ?_; rintro e w9 ⟨rfl, hg9, hk9'⟩; have hk9 : Gk X8 w.heap.size w8 w9 := (by first | exact hk9' | exact (Gk.of_below (Below.refl w8.heap.size w8).drew hszb).trans hk9'); have hbq := HBEL.out.trans hk9.below; have hc9 := (hk9.kept _ _ _ _ HBOX.out (by decide) (by decide)).trans HBOX.out; have k0 : w9.cell? ⟨bc, 0, none⟩ = some (.pointer (some ⟨b, 0, none⟩)) := fit_cell (vs := [.pointer (some ⟨b, 0, none⟩), .slice aI k cI, .slice aV k cV]) hc9 0; have k1 : w9.cell? ⟨bc, 1, none⟩ = some (.slice aI k cI) := fit_cell (vs := [.pointer (some ⟨b, 0, none⟩), .slice aI k cI, .slice aV k cV]) hc9 1; have k2 : w9.cell? ⟨bc, 2, none⟩ = some (.slice aV k cV) := fit_cell (vs := [.pointer (some ⟨b, 0, none⟩), .slice aI k cI, .slice aV k cV]) hc9 2; have j0 : w9.cell? ⟨bg, og + i * 4, none⟩ = some (.int .u8 wh) := below_keeps hbq _ _ HQ0.out.1; have j1 : w9.cell? ⟨bg, og + i * 4 + 1, none⟩ = some (.int .i64 g0) := below_keeps hbq _ _ HQ0.out.2.1; have j2 : w9.cell? ⟨bg, og + i * 4 + 2, none⟩ = some (.int .i64 g1) := below_keeps hbq _ _ HQ0.out.2.2.1; have j3 : w9.cell? ⟨bg, og + i * 4 + 3, none⟩ = some (.int .i64 g2) := below_keeps hbq _ _ HQ0.out.2.2.2; have HG9 := hid hg9; have HK9 := hid hk9; clear hg9 hk9 hk9' hc9 hbq))
                          clear hcB hcB1 hcB2 hq0 hq1 hq2 hq3
                          have hcs9 := HCS8.out.gk HK9.out HG9.out
                          have hszw9 : w.heap.size ≤ w9.heap.size := hcs9.bel.size
                          obtain ⟨aT, cT, wT, hrT, hoT, hgT, haT⟩ := appM_one (P := Try.prog) (w9.alloc (.cells #[.int .i64 z] 3 (0, 0))) w.heap.size 22 22 3 i0 (.int .i64 0) 8 Try.underlying22 hi0 hz0 hz1 hz2 rfl (.slice aL y cL) y (ints L) (by have h := hcs9.lr.alloc (.cells #[.int .i64 z] 3 (0, 0)); rwa [← HY.out] at h) w9.heap.size (.int .i64 z) (heap_alloc_new _ _) rfl (by unfold maxLen; omega) (by omega) (by simp only [size_al]; omega)
                          have hcsA := (hcs9.grow (box_below w9 (.cells #[.int .i64 z] 3 (0, 0)))).pushL (L' := L ++ [z]) (by rw [ints_append]; exact hoT) (by rw [HY.out]; simp) hgT haT
                          have hszwT : w.heap.size ≤ wT.heap.size := hcsA.bel.size
                          obtain ⟨aU, cU, wU, hrU, hoU, hgU, haU⟩ := appM_one (P := Try.prog) (wT.alloc (.cells #[.bool v] 4 (0, 0))) w.heap.size 27 27 4 i1 (.bool false) 1 Try.underlying27 hi1 hy0 hy1 hy2 rfl (.slice aW y cW) y (bools W) (by have h := hcsA.vr.alloc (.cells #[.bool v] 4 (0, 0)); rwa [HLW8.out.2.1, ← HY.out] at h) wT.heap.size (.bool v) (heap_alloc_new _ _) rfl (by unfold maxLen; omega) (by omega) (by simp only [size_al]; omega)
                          have HCSU := hid ((hcsA.grow (box_below wT (.cells #[.bool v] 4 (0, 0)))).pushW (W' := W ++ [v]) (by simpa [bools] using hoU) (by rw [HY.out]; simp [HLW8.out.2.1]) hgU)
                          have HCIU : Hid (CI k (i + 1) (n' + 1) G' (L ++ [z]) (W ++ [v]) (A ++ [(G.length : Int)]) (D ++ [E])) := hid (by
                            have h1 := HOK9.out
                            have h2 := HLW8.out
                            refine ⟨by simp; omega, by simp [h2.2.1], HAD8.out.1, HAD8.out.2, by omega, by have := h1.2.2.2; omega, fun x hx => ?_, HDL8.out, HGG.out.len HGC8.out, fun j a d ha hd => ?_⟩
                            · rcases List.mem_append.1 hx with hx | hx
                              · exact litOk_le (h2.2.2 x hx) (by have := h1.2.1; omega)
                              · rw [List.mem_singleton.1 hx]; exact litOk_le h1.1 (by simp)
                            · obtain ⟨t, e1, e2⟩ := HAT8.out j a d ha hd
                              refine ⟨t, e1, ?_⟩
                              have h3 := HGG.out.pre
                              have hlt5 := (List.getElem?_eq_some_iff.1 e2).1
                              rw [← h3, List.getElem?_take, if_pos hlt5] at e2
                              exact e2)
                          have hn9 : n' ≤ 100 := by have := HOK9.out; omega
                          have hG9 : G'.length ≤ 1000 := by have := HOK9.out; omega
                          have HYU : Hid (y + 1 = (L ++ [z]).length) := hid (by rw [List.length_append, ← HY.out]; rfl)
                          clear hcs9 hoT hgT haT hcsA hoU hgU haU HCS8 HK9 HG9 HGB HSL HSW HBEL HBOX HCALL hszb hszw9 hszwT hgE
                          have hcB := HCSU.out.cells.1
                          go_wp2_with fail
                          refine (gate_Formula wU w.heap.size b n' G' HCSU.out.gb.old (by omega) (fun c hc => by have := HCIU.out.gc c hc; omega)).mono ?_
                          rintro e wp ⟨ap, cp, rfl, -, hbp⟩
                          have HCSP := hid (HCSU.out.grow hbp)
                          clear hbp hcB HCSU
                          have hcB := HCSP.out.cells.1
                          obtain ⟨nf, hnf⟩ : ∃ nf : Int, (n' : Int) + 1 = nf := ⟨_, rfl⟩
                          have HNF := hid hnf
                          have hwnf : IntKind.i64.wrap ((n' : Int) + 1) = nf := by rw [IntWalk.i64_in _ (by omega)]; exact hnf
                          have hfr := gate_Fresh wp w.heap.size b n' G' HCSP.out.gb (by omega)
                          rw [hnf] at hfr
                          have HFR := hid hfr
                          clear hnf hfr
                          go_wp2_with fail
                          refine HFR.out.mono ?_
                          rintro e wq ⟨rfl, hgq, hkq⟩
                          have HCSQ := hid (HCSP.out.gk hkq hgq)
                          clear hgq hkq HFR HCSP hcB
                          have hcB := HCSQ.out.cells.1
                          have hfo := gate_Formula wq w.heap.size b (n' + 1) G' HCSQ.out.gb.old (by omega) (fun c hc => by have := HCIU.out.gc c hc; omega)
                          rw [show ((n' + 1 : Nat) : Int) = nf by have := HNF.out; omega] at hfo
                          have HFO := hid hfo
                          clear hfo
                          go_wp2_with fail
                          refine HFO.out.mono ?_
                          rintro e ws ⟨as', cs', rfl, -, hbs⟩
                          have HCSS := hid (HCSQ.out.grow hbs)
                          clear hbs HCSQ HFO hcB hwnf
                          go_wp2_with fail
                          go_roundw
                          case rel => exact ⟨i + 1, y + 1, n' + 1, _, G', L ++ [z], W ++ [v], A ++ [(G.length : Int)], D ++ [E], aT, aU, a6, a7, cT, cU, c6, c7, rfl, rfl, rfl, rfl, by simp, hlt, hlt3, HYU, HCIU, HCSS⟩
                          case measure => simp [intOf]; omega
                      · as_aux_lemma =>
                          clear hcB1 hcB2
                          have HCIB : Hid (CI k (i + 1) (n + 1) (G ++ [E]) L W (A ++ [(G.length : Int)]) (D ++ [E])) := hid ⟨by have := HLW8.out.1; omega, HLW8.out.2.1, HAD8.out.1, HAD8.out.2, by omega, by simp; omega, fun x hx => litOk_le (HLW8.out.2.2 x hx) (by omega), HDL8.out, HGC8.out, HAT8.out⟩
                          have hgE : (G ++ [E]).length = G.length + 1 := by simp
                          have hcB := HCS8.out.cells.1
                          go_wp2_with fail
                          refine (gate_Formula w8 w.heap.size b n (G ++ [E]) HCS8.out.gb.old (by omega) (fun c hc => by have := HCIB.out.gc c hc; omega)).mono ?_
                          rintro e wp ⟨ap, cp, rfl, -, hbp⟩
                          have HCSP := hid (HCS8.out.grow hbp)
                          clear hbp hcB HCS8
                          have hcB := HCSP.out.cells.1
                          obtain ⟨nf, hnf⟩ : ∃ nf : Int, (n : Int) + 1 = nf := ⟨_, rfl⟩
                          have HNF := hid hnf
                          have hwnf : IntKind.i64.wrap ((n : Int) + 1) = nf := by rw [IntWalk.i64_in _ (by omega)]; exact hnf
                          have hfr := gate_Fresh wp w.heap.size b n (G ++ [E]) HCSP.out.gb (by omega)
                          rw [hnf] at hfr
                          have HFR := hid hfr
                          clear hnf hfr
                          go_wp2_with fail
                          refine HFR.out.mono ?_
                          rintro e wq ⟨rfl, hgq, hkq⟩
                          have HCSQ := hid (HCSP.out.gk hkq hgq)
                          clear hgq hkq HFR HCSP hcB
                          have hcB := HCSQ.out.cells.1
                          have hfo := gate_Formula wq w.heap.size b (n + 1) (G ++ [E]) HCSQ.out.gb.old (by omega) (fun c hc => by have := HCIB.out.gc c hc; omega)
                          rw [show ((n + 1 : Nat) : Int) = nf by have := HNF.out; omega] at hfo
                          have HFO := hid hfo
                          clear hfo
                          go_wp2_with fail
                          refine HFO.out.mono ?_
                          rintro e ws ⟨as', cs', rfl, -, hbs⟩
                          have HCSS := hid (HCSQ.out.grow hbs)
                          clear hbs HCSQ HFO hcB hwnf
                          go_wp2_with fail
                          go_roundw
                          case rel => exact ⟨i + 1, y, n + 1, _, G ++ [E], L, W, A ++ [(G.length : Int)], D ++ [E], aL, aW, a6, a7, cL, cW, c6, c7, rfl, rfl, rfl, rfl, by simp, hlt, hlt3, HY, HCIB, HCSS⟩
                          case measure => simp [intOf]; omega
                · as_aux_lemma =>
                    have hcs1 := HCS.out.new HBE.out
                    have hcB := hcs1.cells.1
                    have HCS1 := hid hcs1
                    have hszo : w.heap.size ≤ wo.heap.size := HCS.out.bel.size
                    have hszr := HBE.out.size
                    have hcin := HCI.out.n1
                    have hcig := HCI.out.gl
                    have hal := HCI.out.al
                    have hdl := HCI.out.dl
                    clear hcs1
                    go_wp2_with fail
                    refine (gate_Formula wr w.heap.size b n G HCS1.out.gb.old (by omega) (fun c hc => by have := HCI.out.gc c hc; omega)).mono ?_
                    rintro e wf ⟨af, cf, rfl, -, hbf⟩
                    have hcs2 := HCS1.out.grow hbf
                    have hszf := hbf.size
                    obtain ⟨a6, c6, w6, hr6, ho6, hg6, ha6⟩ := appM_one (P := Try.prog) (wf.alloc (.cells #[.int .i64 (G.length : Int)] 3 (0, 0))) w.heap.size 22 22 3 i0 (.int .i64 0) 8 Try.underlying22 hi0 hz0 hz1 hz2 rfl (.slice aA i cA) i (ints A) (by have h := hcs2.ar.alloc (.cells #[.int .i64 (G.length : Int)] 3 (0, 0)); rwa [hal] at h) wf.heap.size (.int .i64 (G.length : Int)) (heap_alloc_new _ _) rfl (by unfold maxLen; omega) (by omega) (by simp only [size_al]; omega)
                    have hcs3 := hcs2.grow (box_below wf (.cells #[.int .i64 (G.length : Int)] 3 (0, 0)))
                    have hcs4 := hcs3.pushA (A' := A ++ [(G.length : Int)]) (by rw [ints_append]; exact ho6) (by simp [hal]) hg6 ha6
                    have hcs5 := hcs4.grow (box_below w6 (.cells #[.slice aE j cE] 22 (0, 0)))
                    obtain ⟨us, hus, hall⟩ := hcs5.dr
                    have hsz6 : (wf.alloc (.cells #[.int .i64 (G.length : Int)] 3 (0, 0))).heap.size ≤ w6.heap.size := hg6.size
                    have hszA := size_al wf (.cells #[.int .i64 (G.length : Int)] 3 (0, 0))
                    obtain ⟨a7, c7, w7, hr7, ho7, hg7, ha7⟩ := appM_one (P := Try.prog) (w6.alloc (.cells #[.slice aE j cE] 22 (0, 0))) w.heap.size 32 32 22 i2 (.slice none 0 0) 24 Try.underlying32 hi2 hv0 hv1 hv2 rfl (.slice aD i cD) i us (by have h := hus; rwa [hdl] at h) w6.heap.size (.slice aE j cE) (heap_alloc_new _ _) rfl (by unfold maxLen; omega) (by omega) (by simp only [size_al]; omega)
                    have hlAo : ∀ g, (Value.slice aA i cA).ownBlock = some g → g < wo.heap.size := fun g hg => (HCS.out.ar.lt g hg).2
                    have hdE6 : w6.ownsRow wo.heap.size 3 1 (.slice aE j cE) j (ints E) := own_frame0 (own_below (own_below HE.out hbf) (box_below wf (.cells #[.int .i64 (G.length : Int)] 3 (0, 0)))) fun g hg => hg6.block g ((own_below (own_below HE.out hbf) (box_below wf (.cells #[.int .i64 (G.length : Int)] 3 (0, 0)))).lt g hg).2 (fun e => by have h1 := hlAo g e.symm; have h2 := (HE.out.lt g hg).1; omega)
                    have hdE7 : (w6.alloc (.cells #[.slice aE j cE] 22 (0, 0))).ownsRow w.heap.size 3 1 (.slice aE j cE) E.length (ints E) := by rw [HEK.out.1]; exact own_base (hdE6.alloc _) hszo
                    have hux : ∀ g, (Value.slice aE j cE).ownBlock = some g → ((X g ∨ (wo.heap.size ≤ g ∧ g < wr.heap.size)) ∨ ((wf.alloc (.cells #[.int .i64 (G.length : Int)] 3 (0, 0))).heap.size ≤ g ∧ g < w6.heap.size)) ∧ (Value.slice aL y cL).ownBlock ≠ some g ∧ (Value.slice a6 (i + 1) c6).ownBlock ≠ some g := fun g hg => by
                      have h1 := HE.out.lt g hg
                      refine ⟨.inl (.inr h1), fun e => ?_, fun e => ?_⟩
                      · have := (HCS.out.lr.lt g e).2; omega
                      · rcases ha6 with q | q
                        · have := hlAo g (q ▸ e); omega
                        · rw [q] at e; injection e with e; omega
                    have hcs7 := hcs5.pushD (u := .slice aE j cE) (c := E) (m := i + 1) hus hall hdE7 hux ho7 (by rw [hdl]) hg7 ha7
                    have HCS7 := hid hcs7
                    have HSE := hid (own_slv (own_grownO hdE7 hus (by decide) hg7))
                    have HCE := hid ((own_cap HE.out).2.2)
                    clear ho6 hg6 ha6 hcs2 hcs3 hcs4 hcs5 hus hall ho7 hg7 ha7 hlAo hdE6 hdE7 hux hcs7 hbf hsz6 hszA hszf HCS1 hcB
                    have hcB := HCS7.out.cells.1
                    go_wp2_with fail
                    refine (gate_Clause w7 w.heap.size b n G aE E j cE HCS7.out.gb (by omega) HEK.out.1.symm HSE.out (fun e => (HCE.out e).1) HEK.out.2 (by rw [HEK.out.1]; omega) (by omega)).mono ?_
                    rintro e w8 ⟨rfl, hg8, hk8⟩
                    obtain ⟨X8, HCS8⟩ : ∃ X8, Hid (CS X8 w w8 b bc n (G ++ [E]) [.pointer (some ⟨b, 0, none⟩), .slice aI k cI, .slice aV k cV] (.slice aL y cL) (.slice aW y cW) (.slice a6 (i + 1) c6) (.slice a7 (i + 1) c7) L W (A ++ [(G.length : Int)]) (D ++ [E])) := ⟨_, hid (HCS7.out.gk hk8 hg8)⟩
                    have HAT8 := hid (HCI.out.clause (E := E) (by rw [HEK.out.1]; omega) hcig)
                    have HGC8 : Hid (∀ c ∈ G ++ [E], c.length ≤ 4096) := hid (fun c hc => (List.mem_append.1 hc).elim (HCI.out.gc c) (fun h => by rw [List.mem_singleton.1 h, HEK.out.1]; omega))
                    have HDL8 : Hid (∀ d ∈ D ++ [E], d.length ≤ 10) := hid (fun c hc => (List.mem_append.1 hc).elim (HCI.out.dlen c) (fun h => by rw [List.mem_singleton.1 h, HEK.out.1]; omega))
                    have HAD8 : Hid ((A ++ [(G.length : Int)]).length = i + 1 ∧ (D ++ [E]).length = i + 1) := hid ⟨by simp [hal], by simp [hdl]⟩
                    have HLW8 := hid (And.intro HCI.out.ll (And.intro HCI.out.wl HCI.out.lok))
                    clear hg8 hk8 HCS7 HSE HCE hcB HCS HBE HE HEK HCI
                    have hcB := HCS8.out.cells.1
                    have hcB1 := HCS8.out.cells.2.1
                    have hcB2 := HCS8.out.cells.2.2
                    by_cases hgl : i < x1.length
                    · as_aux_lemma =>
                        have hgl2 : (i : Int) < x1.length := by omega
                        obtain ⟨⟨wh, g0, g1, g2⟩, hgi⟩ : ∃ g, x1[i]? = some g := ⟨_, List.getElem?_eq_getElem hgl⟩
                        obtain ⟨bg, og, hag, hq0', hq1', hq2', hq3', wf0, -, -, -⟩ := HS1.out i _ hgi
                        have hq0 := below_keeps HCS8.out.bel _ _ hq0'
                        have hq1 := below_keeps HCS8.out.bel _ _ hq1'
                        have hq2 := below_keeps HCS8.out.bel _ _ hq2'
                        have hq3 := below_keeps HCS8.out.bel _ _ hq3'
                        have HQ0 := hid (And.intro hq0' (And.intro hq1' (And.intro hq2' hq3')))
                        have hwh := bounds_u8 wf0
                        simp only at hq0 hq1 hq2 hq3 hwh
                        have hlp := HLW8.out.1
                        have hlok := HLW8.out.2.2
                        have hwl := HLW8.out.2.1
                        obtain ⟨q, hq⟩ : ∃ q : Nat, wh % 4 = (q : Int) := ⟨(wh % 4).toNat, by omega⟩
                        have hq4 : q < 4 := by omega
                        have hrr : ∀ g : Int, ∃ r : Nat, g % (2 * (L.length : Int)) = (r : Int) ∧ r / 2 < L.length := fun g => by
                          have h1 := Int.emod_lt_of_pos g (show (0 : Int) < 2 * (L.length : Int) by omega)
                          have h2 := Int.emod_nonneg g (show (2 * (L.length : Int)) ≠ 0 by omega)
                          exact ⟨(g % (2 * (L.length : Int))).toNat, by omega, by omega⟩
                        obtain ⟨r0, hr0, hr0l⟩ := hrr g0
                        obtain ⟨r1, hr1, hr1l⟩ := hrr g1
                        obtain ⟨r2, hr2, hr2l⟩ := hrr g2
                        obtain ⟨l0, hl0⟩ : ∃ l, (pkP L W r0).1 = l := ⟨_, rfl⟩
                        obtain ⟨l1, hl1⟩ : ∃ l, (pkP L W r1).1 = l := ⟨_, rfl⟩
                        obtain ⟨l2, hl2⟩ : ∃ l, (pkP L W r2).1 = l := ⟨_, rfl⟩
                        have p0 := pk_ok (W := W) hlok hr0l
                        have p1 := pk_ok (W := W) hlok hr1l
                        have p2 := pk_ok (W := W) hlok hr2l
                        rw [hl0] at p0
                        rw [hl1] at p1
                        rw [hl2] at p2
                        obtain ⟨z, n', G', hz⟩ : ∃ z n' G', gPut n (G ++ [E]) q l0 l1 l2 = (z, n', G') := ⟨_, _, _, rfl⟩
                        obtain ⟨v, hv⟩ : ∃ v, vPut q (pkP L W r0).2 (pkP L W r1).2 (pkP L W r2).2 = v := ⟨_, rfl⟩
                        have hok9 := gPut_ok (G := G ++ [E]) hcin.1 p0 p1 p2 hq4
                        have hgg := gg_put n (G ++ [E]) q l0 l1 l2
                        have hgE : (G ++ [E]).length = G.length + 1 := by simp
                        rw [hz] at hok9 hgg
                        have HCALL : Hid (∀ wx, GB X8 wx w.heap.size b n (G ++ [E]) → SlV wx aL (ints L) → SlV wx aW (bools W) → Calls Try.prog 47 #[.agg #[.pointer (some ⟨b, 0, none⟩), .slice aI k cI, .slice aV k cV], .agg #[.int .u8 wh, .int .i64 g0, .int .i64 g1, .int .i64 g2], .slice aL y cL, .slice aW y cW] wx fun e w' => e = .returned (.tuple #[.int .i64 z, .bool v, .int .i64 0]) ∧ GB X8 w' w.heap.size b n' G' ∧ Gk X8 w.heap.size wx w') := hid (fun wx k1 k2 k3 => by
                          have h := law15_Put wx w.heap.size b n (G ++ [E]) (.slice aI k cI) (.slice aV k cV) wh g0 g1 g2 aL aW y y cL cW L W q l0 l1 l2 _ _ _ k1 hcin.1 (by omega) (by omega) ⟨hwh.1, by have := hwh.2; omega⟩ hq HY.out HY.out hwl (by omega) (by omega) k2 k3 hlok (fun j g hj => by
                            match j, hj with
                            | 0, hj => simp at hj; subst hj; exact ⟨r0, hr0, by simp [hl0], rfl⟩
                            | 1, hj => simp at hj; subst hj; exact ⟨r1, hr1, by simp [hl1], rfl⟩
                            | 2, hj => simp at hj; subst hj; exact ⟨r2, hr2, by simp [hl2], rfl⟩
                            | j + 3, hj => simp at hj) p0 p1 p2
                          rw [hz, hv] at h
                          exact h)
                        have HOK9 := hid hok9
                        have HGG := hid hgg
                        have HGB := hid HCS8.out.gb
                        have HSL := hid (own_slv HCS8.out.lr)
                        have HSW := hid (own_slv HCS8.out.vr)
                        have HBEL := hid HCS8.out.bel
                        have HBOX := hid HCS8.out.box
                        have hszb := HCS8.out.bel.size
                        subst hag
                        clear hrr p0 p1 p2 hz hv hl0 hl1 hl2 hr0 hr1 hr2 hr0l hr1l hr2l hq hq4 hgi wf0 hwh hlp hlok hwl hok9 hgg hq0' hq1' hq2' hq3' hgl
                        go_wp2_with fail
                        go_region_held3 (fun x => x.cell? ⟨bc, 0, none⟩ = some (.pointer (some ⟨b, 0, none⟩)) ∧ x.cell? ⟨bc, 1, none⟩ = some (.slice aI k cI) ∧ x.cell? ⟨bc, 2, none⟩ = some (.slice aV k cV) ∧ x.cell? ⟨bg, og + i * 4, none⟩ = some (.int .u8 wh) ∧ x.cell? ⟨bg, og + i * 4 + 1, none⟩ = some (.int .i64 g0) ∧ x.cell? ⟨bg, og + i * 4 + 2, none⟩ = some (.int .i64 g1) ∧ x.cell? ⟨bg, og + i * 4 + 3, none⟩ = some (.int .i64 g2)) (first | exact ⟨‹_›, ‹_›, ‹_›, ‹_›, ‹_›, ‹_›, ‹_›⟩ | go_keep) (first
                          | (go_at_call 47; refine (HCALL.out _ (by exact HGB.out) (by exact HSL.out) (by exact HSW.out)).mono ?_; rintro e w9 ⟨rfl, hg9, hk9'⟩; have hk9 : Gk X8 w.heap.size w8 w9 := (by first | exact hk9' | exact (Gk.of_below (Below.refl w8.heap.size w8).drew hszb).trans hk9'); have hbq := HBEL.out.trans hk9.below; have hc9 := (hk9.kept _ _ _ _ HBOX.out (by decide) (by decide)).trans HBOX.out; have k0 : w9.cell? ⟨bc, 0, none⟩ = some (.pointer (some ⟨b, 0, none⟩)) := fit_cell (vs := [.pointer (some ⟨b, 0, none⟩), .slice aI k cI, .slice aV k cV]) hc9 0; have k1 : w9.cell? ⟨bc, 1, none⟩ = some (.slice aI k cI) := fit_cell (vs := [.pointer (some ⟨b, 0, none⟩), .slice aI k cI, .slice aV k cV]) hc9 1; have k2 : w9.cell? ⟨bc, 2, none⟩ = some (.slice aV k cV) := fit_cell (vs := [.pointer (some ⟨b, 0, none⟩), .slice aI k cI, .slice aV k cV]) hc9 2; have j0 : w9.cell? ⟨bg, og + i * 4, none⟩ = some (.int .u8 wh) := below_keeps hbq _ _ HQ0.out.1; have j1 : w9.cell? ⟨bg, og + i * 4 + 1, none⟩ = some (.int .i64 g0) := below_keeps hbq _ _ HQ0.out.2.1; have j2 : w9.cell? ⟨bg, og + i * 4 + 2, none⟩ = some (.int .i64 g1) := below_keeps hbq _ _ HQ0.out.2.2.1; have j3 : w9.cell? ⟨bg, og + i * 4 + 3, none⟩ = some (.int .i64 g2) := below_keeps hbq _ _ HQ0.out.2.2.2; have HG9 := hid hg9; have HK9 := hid hk9; clear hg9 hk9 hk9' hc9 hbq))
                        clear hcB hcB1 hcB2 hq0 hq1 hq2 hq3
                        have hcs9 := HCS8.out.gk HK9.out HG9.out
                        have hszw9 : w.heap.size ≤ w9.heap.size := hcs9.bel.size
                        obtain ⟨aT, cT, wT, hrT, hoT, hgT, haT⟩ := appM_one (P := Try.prog) (w9.alloc (.cells #[.int .i64 z] 3 (0, 0))) w.heap.size 22 22 3 i0 (.int .i64 0) 8 Try.underlying22 hi0 hz0 hz1 hz2 rfl (.slice aL y cL) y (ints L) (by have h := hcs9.lr.alloc (.cells #[.int .i64 z] 3 (0, 0)); rwa [← HY.out] at h) w9.heap.size (.int .i64 z) (heap_alloc_new _ _) rfl (by unfold maxLen; omega) (by omega) (by simp only [size_al]; omega)
                        have hcsA := (hcs9.grow (box_below w9 (.cells #[.int .i64 z] 3 (0, 0)))).pushL (L' := L ++ [z]) (by rw [ints_append]; exact hoT) (by rw [HY.out]; simp) hgT haT
                        have hszwT : w.heap.size ≤ wT.heap.size := hcsA.bel.size
                        obtain ⟨aU, cU, wU, hrU, hoU, hgU, haU⟩ := appM_one (P := Try.prog) (wT.alloc (.cells #[.bool v] 4 (0, 0))) w.heap.size 27 27 4 i1 (.bool false) 1 Try.underlying27 hi1 hy0 hy1 hy2 rfl (.slice aW y cW) y (bools W) (by have h := hcsA.vr.alloc (.cells #[.bool v] 4 (0, 0)); rwa [HLW8.out.2.1, ← HY.out] at h) wT.heap.size (.bool v) (heap_alloc_new _ _) rfl (by unfold maxLen; omega) (by omega) (by simp only [size_al]; omega)
                        have HCSU := hid ((hcsA.grow (box_below wT (.cells #[.bool v] 4 (0, 0)))).pushW (W' := W ++ [v]) (by simpa [bools] using hoU) (by rw [HY.out]; simp [HLW8.out.2.1]) hgU)
                        have HCIU : Hid (CI k (i + 1) (n' + 1) G' (L ++ [z]) (W ++ [v]) (A ++ [(G.length : Int)]) (D ++ [E])) := hid (by
                          have h1 := HOK9.out
                          have h2 := HLW8.out
                          refine ⟨by simp; omega, by simp [h2.2.1], HAD8.out.1, HAD8.out.2, by omega, by have := h1.2.2.2; omega, fun x hx => ?_, HDL8.out, HGG.out.len HGC8.out, fun j a d ha hd => ?_⟩
                          · rcases List.mem_append.1 hx with hx | hx
                            · exact litOk_le (h2.2.2 x hx) (by have := h1.2.1; omega)
                            · rw [List.mem_singleton.1 hx]; exact litOk_le h1.1 (by simp)
                          · obtain ⟨t, e1, e2⟩ := HAT8.out j a d ha hd
                            refine ⟨t, e1, ?_⟩
                            have h3 := HGG.out.pre
                            have hlt5 := (List.getElem?_eq_some_iff.1 e2).1
                            rw [← h3, List.getElem?_take, if_pos hlt5] at e2
                            exact e2)
                        have hn9 : n' ≤ 100 := by have := HOK9.out; omega
                        have hG9 : G'.length ≤ 1000 := by have := HOK9.out; omega
                        have HYU : Hid (y + 1 = (L ++ [z]).length) := hid (by rw [List.length_append, ← HY.out]; rfl)
                        clear hcs9 hoT hgT haT hcsA hoU hgU haU HCS8 HK9 HG9 HGB HSL HSW HBEL HBOX HCALL hszb hszw9 hszwT hgE
                        have hcB := HCSU.out.cells.1
                        go_wp2_with fail
                        refine (gate_Formula wU w.heap.size b n' G' HCSU.out.gb.old (by omega) (fun c hc => by have := HCIU.out.gc c hc; omega)).mono ?_
                        rintro e wp ⟨ap, cp, rfl, -, hbp⟩
                        have HCSP := hid (HCSU.out.grow hbp)
                        clear hbp hcB HCSU
                        have hcB := HCSP.out.cells.1
                        obtain ⟨nf, hnf⟩ : ∃ nf : Int, (n' : Int) + 1 = nf := ⟨_, rfl⟩
                        have HNF := hid hnf
                        have hwnf : IntKind.i64.wrap ((n' : Int) + 1) = nf := by rw [IntWalk.i64_in _ (by omega)]; exact hnf
                        have hfr := gate_Fresh wp w.heap.size b n' G' HCSP.out.gb (by omega)
                        rw [hnf] at hfr
                        have HFR := hid hfr
                        clear hnf hfr
                        go_wp2_with fail
                        refine HFR.out.mono ?_
                        rintro e wq ⟨rfl, hgq, hkq⟩
                        have HCSQ := hid (HCSP.out.gk hkq hgq)
                        clear hgq hkq HFR HCSP hcB
                        have hcB := HCSQ.out.cells.1
                        have hfo := gate_Formula wq w.heap.size b (n' + 1) G' HCSQ.out.gb.old (by omega) (fun c hc => by have := HCIU.out.gc c hc; omega)
                        rw [show ((n' + 1 : Nat) : Int) = nf by have := HNF.out; omega] at hfo
                        have HFO := hid hfo
                        clear hfo
                        go_wp2_with fail
                        refine HFO.out.mono ?_
                        rintro e ws ⟨as', cs', rfl, -, hbs⟩
                        have HCSS := hid (HCSQ.out.grow hbs)
                        clear hbs HCSQ HFO hcB hwnf
                        go_wp2_with fail
                        go_roundw
                        case rel => exact ⟨i + 1, y + 1, n' + 1, _, G', L ++ [z], W ++ [v], A ++ [(G.length : Int)], D ++ [E], aT, aU, a6, a7, cT, cU, c6, c7, rfl, rfl, rfl, rfl, by simp, hlt, hlt3, HYU, HCIU, HCSS⟩
                        case measure => simp [intOf]; omega
                    · as_aux_lemma =>
                        clear hcB1 hcB2
                        have HCIB : Hid (CI k (i + 1) (n + 1) (G ++ [E]) L W (A ++ [(G.length : Int)]) (D ++ [E])) := hid ⟨by have := HLW8.out.1; omega, HLW8.out.2.1, HAD8.out.1, HAD8.out.2, by omega, by simp; omega, fun x hx => litOk_le (HLW8.out.2.2 x hx) (by omega), HDL8.out, HGC8.out, HAT8.out⟩
                        have hgE : (G ++ [E]).length = G.length + 1 := by simp
                        have hcB := HCS8.out.cells.1
                        go_wp2_with fail
                        refine (gate_Formula w8 w.heap.size b n (G ++ [E]) HCS8.out.gb.old (by omega) (fun c hc => by have := HCIB.out.gc c hc; omega)).mono ?_
                        rintro e wp ⟨ap, cp, rfl, -, hbp⟩
                        have HCSP := hid (HCS8.out.grow hbp)
                        clear hbp hcB HCS8
                        have hcB := HCSP.out.cells.1
                        obtain ⟨nf, hnf⟩ : ∃ nf : Int, (n : Int) + 1 = nf := ⟨_, rfl⟩
                        have HNF := hid hnf
                        have hwnf : IntKind.i64.wrap ((n : Int) + 1) = nf := by rw [IntWalk.i64_in _ (by omega)]; exact hnf
                        have hfr := gate_Fresh wp w.heap.size b n (G ++ [E]) HCSP.out.gb (by omega)
                        rw [hnf] at hfr
                        have HFR := hid hfr
                        clear hnf hfr
                        go_wp2_with fail
                        refine HFR.out.mono ?_
                        rintro e wq ⟨rfl, hgq, hkq⟩
                        have HCSQ := hid (HCSP.out.gk hkq hgq)
                        clear hgq hkq HFR HCSP hcB
                        have hcB := HCSQ.out.cells.1
                        have hfo := gate_Formula wq w.heap.size b (n + 1) (G ++ [E]) HCSQ.out.gb.old (by omega) (fun c hc => by have := HCIB.out.gc c hc; omega)
                        rw [show ((n + 1 : Nat) : Int) = nf by have := HNF.out; omega] at hfo
                        have HFO := hid hfo
                        clear hfo
                        go_wp2_with fail
                        refine HFO.out.mono ?_
                        rintro e ws ⟨as', cs', rfl, -, hbs⟩
                        have HCSS := hid (HCSQ.out.grow hbs)
                        clear hbs HCSQ HFO hcB hwnf
                        go_wp2_with fail
                        go_roundw
                        case rel => exact ⟨i + 1, y, n + 1, _, G ++ [E], L, W, A ++ [(G.length : Int)], D ++ [E], aL, aW, a6, a7, cL, cW, c6, c7, rfl, rfl, rfl, rfl, by simp, hlt, hlt3, HY, HCIB, HCSS⟩
                        case measure => simp [intOf]; omega
            · as_aux_lemma =>
                have hi3 : i = 30 := by omega
                subst hi3
                have hlt2 : (30 : Int) < x2.length := by omega

                have hcB := HCS.out.cells.1
                have hcin := HCI.out.n1
                have hcig := HCI.out.gl
                have hal := HCI.out.al
                have hdl := HCI.out.dl
                go_wp2_with fail
                refine (gate_Formula wr w.heap.size b n G HCS.out.gb.old (by omega) (fun c hc => by have := HCI.out.gc c hc; omega)).mono ?_
                rintro e wf ⟨af, cf, rfl, hrf, hbf⟩
                have hb5 := box_below wf (.cells #[.int .i64 n, .slice af G.length cf] 34)
                have HCSG := hid ((HCS.out.grow hbf).grow hb5)
                have HRG := hid (hrf.below hb5)
                have HFG := hid (show (wf.alloc (.cells #[.int .i64 n, .slice af G.length cf] 34)).heap[wf.heap.size]? = some (.cells #[.int .i64 n, .slice af G.length cf] 34) from heap_alloc_new _ _)
                clear hrf hbf hb5 HCS hcB
                go_wp2_with fail
                generalize (wf.alloc (.cells #[.int .i64 n, .slice af G.length cf] 34)) = wG at HCSG HRG HFG ⊢
                generalize wf.heap.size = bf at HFG ⊢
                obtain ⟨us, hus, hall⟩ := HCSG.out.dr
                have HUS := hid (own_slv hus)
                have HALL := hid hall
                have HAR := hid (own_slv HCSG.out.ar)
                have HBG := hid HCSG.out.bel
                have HAT := hid HCI.out.at'
                have HDLN := hid HCI.out.dlen
                clear hus hall
                go_loopw [25] (fun s25 wq => ∃ (t nd : Nat), s25 = .int .i64 t ∧ t ≤ 30 ∧ wq = wG.drewN nd) (fun s25 _ => (30 - (intOf s25)).toNat)
                case atStart => exact ⟨0, 0, rfl, Nat.zero_le _, rfl⟩
                case round =>
                  obtain ⟨t, nd, rfl, ht, rfl⟩ := hrel
                  by_cases htl : t < 30
                  · have htl2 : (t : Int) < (30 : Nat) := by omega
                    have hwt : IntKind.i64.wrap ((t : Int) + 1) = (t : Int) + 1 := IntWalk.i64_in _ (by omega)
                    obtain ⟨b5, o5, a, rfl, hca, haj⟩ := HAR.out.int (k := t) (by rw [hal]; exact htl)
                    obtain ⟨d, hd⟩ : ∃ d, D[t]? = some d := ⟨_, List.getElem?_eq_getElem (by rw [hdl]; exact htl)⟩
                    obtain ⟨p, hap, hgp⟩ := HAT.out t a d haj hd
                    have hpl : p < G.length := (List.getElem?_eq_some_iff.1 hgp).1
                    have hpl2 : (p : Int) < G.length := by omega
                    have hd10 := HDLN.out d (List.mem_of_getElem? hd)
                    obtain ⟨u, huj, hur, -⟩ := HALL.out t d hd
                    obtain ⟨au, cu, rfl⟩ := own_lenV' hur
                    obtain ⟨b6, o6, hb6, hcu⟩ := HUS.out t _ huj
                    obtain ⟨b7, o7, u7, hb7, hcg, hsg⟩ := HRG.out p d hgp
                    obtain ⟨a7, c7, rfl, -, -, hs7⟩ := hsg
                    have hf1 : wG.cell? ⟨bf, 1, none⟩ = some (.slice af G.length cf) := fit_cell (w := wG) (vs := [.int .i64 n, .slice af G.length cf]) HFG.out 1
                    have hdec : decide ((G.length : Int) ≤ (p : Int)) = false := decide_eq_false (by omega)
                    have HS7 := hid hs7
                    have HSU := hid (own_slv hur)
                    have HEQ := hid (show eqI d d = true by simp [eqI])
                    have hdl1 : d.length ≤ 9223372036854775807 := by omega
                    subst hap
                    subst hb6
                    subst hb7
                    clear haj hd hgp huj hur hs7 hd10
                    go_wp2_with fail
                    go_quiet ((go_at_call 14; first | exact quiet_drewG2 (kit_EqualIntsR a7 au d d _ c7 _ cu true _ HEQ.out rfl rfl (HS7.out.drewN _) (HSU.out.drewN _) hdl1) | exact quiet_drewG (kit_EqualIntsR a7 au d d _ c7 _ cu true _ HEQ.out rfl rfl (HS7.out.drewN _) (HSU.out.drewN _) hdl1)))
                    go_wp2_with fail
                    go_roundw
                    case rel => exact ⟨t + 1, _, by simp, htl, (by first | rfl | exact World.drewN_drewN ..)⟩
                    case measure => simp [intOf]; omega
                  · have HBE := hid (below_dr HBG.out nd)
                    go_wp2_with fail
                    refine (law15_awake _).mono ?_
                    rintro e w6 ⟨rfl, hb6⟩
                    have HB6 := hid (HBE.out.trans (hb6.mono HBE.out.size))
                    clear hb6
                    go_wp2_with fail
                    go_ret
                    exact ⟨rfl, HB6.out⟩
          · as_aux_lemma =>
              have hix : i = x2.length := by omega

              have hcB := HCS.out.cells.1
              have hcin := HCI.out.n1
              have hcig := HCI.out.gl
              have hal := HCI.out.al
              have hdl := HCI.out.dl
              go_wp2_with fail
              refine (gate_Formula wr w.heap.size b n G HCS.out.gb.old (by omega) (fun c hc => by have := HCI.out.gc c hc; omega)).mono ?_
              rintro e wf ⟨af, cf, rfl, hrf, hbf⟩
              have hb5 := box_below wf (.cells #[.int .i64 n, .slice af G.length cf] 34)
              have HCSG := hid ((HCS.out.grow hbf).grow hb5)
              have HRG := hid (hrf.below hb5)
              have HFG := hid (show (wf.alloc (.cells #[.int .i64 n, .slice af G.length cf] 34)).heap[wf.heap.size]? = some (.cells #[.int .i64 n, .slice af G.length cf] 34) from heap_alloc_new _ _)
              clear hrf hbf hb5 HCS hcB
              go_wp2_with fail
              generalize (wf.alloc (.cells #[.int .i64 n, .slice af G.length cf] 34)) = wG at HCSG HRG HFG ⊢
              generalize wf.heap.size = bf at HFG ⊢
              obtain ⟨us, hus, hall⟩ := HCSG.out.dr
              have HUS := hid (own_slv hus)
              have HALL := hid hall
              have HAR := hid (own_slv HCSG.out.ar)
              have HBG := hid HCSG.out.bel
              have HAT := hid HCI.out.at'
              have HDLN := hid HCI.out.dlen
              clear hus hall
              go_loopw [25] (fun s25 wq => ∃ (t nd : Nat), s25 = .int .i64 t ∧ t ≤ i ∧ wq = wG.drewN nd) (fun s25 _ => (i - (intOf s25)).toNat)
              case atStart => exact ⟨0, 0, rfl, Nat.zero_le _, rfl⟩
              case round =>
                obtain ⟨t, nd, rfl, ht, rfl⟩ := hrel
                by_cases htl : t < i
                · have htl2 : (t : Int) < i := by omega
                  have hwt : IntKind.i64.wrap ((t : Int) + 1) = (t : Int) + 1 := IntWalk.i64_in _ (by omega)
                  obtain ⟨b5, o5, a, rfl, hca, haj⟩ := HAR.out.int (k := t) (by rw [hal]; exact htl)
                  obtain ⟨d, hd⟩ : ∃ d, D[t]? = some d := ⟨_, List.getElem?_eq_getElem (by rw [hdl]; exact htl)⟩
                  obtain ⟨p, hap, hgp⟩ := HAT.out t a d haj hd
                  have hpl : p < G.length := (List.getElem?_eq_some_iff.1 hgp).1
                  have hpl2 : (p : Int) < G.length := by omega
                  have hd10 := HDLN.out d (List.mem_of_getElem? hd)
                  obtain ⟨u, huj, hur, -⟩ := HALL.out t d hd
                  obtain ⟨au, cu, rfl⟩ := own_lenV' hur
                  obtain ⟨b6, o6, hb6, hcu⟩ := HUS.out t _ huj
                  obtain ⟨b7, o7, u7, hb7, hcg, hsg⟩ := HRG.out p d hgp
                  obtain ⟨a7, c7, rfl, -, -, hs7⟩ := hsg
                  have hf1 : wG.cell? ⟨bf, 1, none⟩ = some (.slice af G.length cf) := fit_cell (w := wG) (vs := [.int .i64 n, .slice af G.length cf]) HFG.out 1
                  have hdec : decide ((G.length : Int) ≤ (p : Int)) = false := decide_eq_false (by omega)
                  have HS7 := hid hs7
                  have HSU := hid (own_slv hur)
                  have HEQ := hid (show eqI d d = true by simp [eqI])
                  have hdl1 : d.length ≤ 9223372036854775807 := by omega
                  subst hap
                  subst hb6
                  subst hb7
                  clear haj hd hgp huj hur hs7 hd10
                  go_wp2_with fail
                  go_quiet ((go_at_call 14; first | exact quiet_drewG2 (kit_EqualIntsR a7 au d d _ c7 _ cu true _ HEQ.out rfl rfl (HS7.out.drewN _) (HSU.out.drewN _) hdl1) | exact quiet_drewG (kit_EqualIntsR a7 au d d _ c7 _ cu true _ HEQ.out rfl rfl (HS7.out.drewN _) (HSU.out.drewN _) hdl1)))
                  go_wp2_with fail
                  go_roundw
                  case rel => exact ⟨t + 1, _, by simp, htl, (by first | rfl | exact World.drewN_drewN ..)⟩
                  case measure => simp [intOf]; omega
                · have HBE := hid (below_dr HBG.out nd)
                  go_wp2_with fail
                  refine (law15_awake _).mono ?_
                  rintro e w6 ⟨rfl, hb6⟩
                  have HB6 := hid (HBE.out.trans (hb6.mono HBE.out.size))
                  clear hb6
                  go_wp2_with fail
                  go_ret
                  exact ⟨rfl, HB6.out⟩


end Go.Proofs.Ytacmfiikdbekbaa.Ord2

namespace Go.Proofs.Ytacmfiikdbekbaa.Ord
theorem walk_GateClauses : type_of% @Go.Proofs.Ytacmfiikdbekbaa.Ord2.walk_GateClauses := @Go.Proofs.Ytacmfiikdbekbaa.Ord2.walk_GateClauses
end Go.Proofs.Ytacmfiikdbekbaa.Ord
