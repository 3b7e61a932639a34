/- The walk of GateValues. -/
import Derived.Test.YtacmfiikdbekbaaQGateW

namespace Go.Proofs.Ytacmfiikdbekbaa.Ord
open Go.RowKit Go.Conc

attribute [local go_sem ↓] Go.wp_at_zero Go.wp_at_succ

theorem flat_le {G : List (List Int)} {m : Nat} (h : ∀ c ∈ G, c.length ≤ m) : G.flatten.length ≤ m * G.length := by
  induction G with
  | nil => simp
  | cons c G ih =>
    have h1 := h c (by simp)
    have h2 := ih fun d hd => h d (by simp [hd])
    rw [List.flatten_cons, List.length_append, List.length_cons, Nat.mul_succ]
    omega

set_option maxRecDepth 100000 in
set_option maxHeartbeats 8000000 in
theorem walk_GateValues (x0 : Int) (v1 : Value) (x1 : List Bool) (v2 : Value) (x2 : List (Int × Int × Int × Int)) (w : World) (_w0 : (Lit.int .i64 x0).wf = true) (w1 : ArgB w v1 x1) (w2 : ArgG w v2 x2) :
    Calls Try.prog 6 #[.int .i64 x0, v1, v2] w fun e w' => e = .returned (.bool true) ∧ Below w.heap.size w w' := by
  obtain ⟨av, cv, rfl, hle1, hm1, hn1, hs1⟩ := w1
  obtain ⟨ag, cg, rfl, hle2, hm2, hn2, hs2⟩ := w2
  obtain ⟨k, hk, hk2⟩ : ∃ k : Nat, x0 % 13 = (k : Int) ∧ k ≤ 12 := ⟨(x0 % 13).toNat, by omega, by omega⟩
  have hxl : x1.length ≤ 9223372036854775807 := by unfold maxLen at hm1; omega
  have HS1 := hid hs1
  have HS2 := hid hs2
  have HXL := hid hxl
  clear hs1 hs2 hle1 hm1 hn1 hle2 hm2 hn2 _w0 hxl
  go_enter Try.func6, Try.ntmps6
  go_wp2_with fail
  refine (kit_Mod w x0 13 (by omega) (by omega)).mono ?_
  rw [hk]
  rintro e w1 ⟨rfl, rfl⟩
  clear hk
  go_wp2_with fail
  refine (law15_Begin w k av x1 x1.length cv rfl hk2 HS1.out HXL.out).mono ?_
  rintro e w2 ⟨b, vI, vV, rfl, hg, hI, hV, hb⟩
  obtain ⟨aI, cI, rfl⟩ := own_lenV' hI
  obtain ⟨aV, cV, rfl⟩ := own_lenV' hV
  obtain ⟨V, hVe⟩ : ∃ V, valL x1 k = V := ⟨_, rfl⟩
  have hVl : V.length = k := by rw [← hVe]; exact valL_length _ _
  rw [hVe] at hV
  clear hVe
  have HVL := hid hVl
  clear hVl
  have hsz := hb.size
  have HG := hid (hg.below (box_below w2 (.cells #[.pointer (some ⟨b, 0, none⟩), .slice aI k cI, .slice aV k cV] 46)))
  have HI := hid (hI.alloc (.cells #[.pointer (some ⟨b, 0, none⟩), .slice aI k cI, .slice aV k cV] 46))
  have HV := hid (hV.alloc (.cells #[.pointer (some ⟨b, 0, none⟩), .slice aI k cI, .slice aV k cV] 46))
  have HB := hid (hb.trans ((box_below w2 (.cells #[.pointer (some ⟨b, 0, none⟩), .slice aI k cI, .slice aV k cV] 46)).mono hsz))
  have HC := hid (heap_alloc_new w2 (.cells #[.pointer (some ⟨b, 0, none⟩), .slice aI k cI, .slice aV k cV] 46))
  clear hg hI hV hb hsz
  go_wp2_with fail
  generalize (w2.alloc (.cells #[.pointer (some ⟨b, 0, none⟩), .slice aI k cI, .slice aV k cV] 46)) = w3 at HG HI HV HB HC ⊢
  generalize w2.heap.size = bc at HC ⊢
  have hc0 : w3.cell? ⟨bc, 0, none⟩ = some (.pointer (some ⟨b, 0, none⟩)) := fit_cell (vs := [.pointer (some ⟨b, 0, none⟩), .slice aI k cI, .slice aV k cV]) HC.out 0
  have hc1 : w3.cell? ⟨bc, 1, none⟩ = some (.slice aI k cI) := fit_cell (vs := [.pointer (some ⟨b, 0, none⟩), .slice aI k cI, .slice aV k cV]) HC.out 1
  have hc2 : w3.cell? ⟨bc, 2, none⟩ = some (.slice aV k cV) := fit_cell (vs := [.pointer (some ⟨b, 0, none⟩), .slice aI k cI, .slice aV k cV]) HC.out 2
  go_wp2_with fail
  refine (law15_Build w w3 b k V aI aV ag cI cV x2.length cg x2 HVL.out hk2 HB.out HG.out HI.out HV.out rfl HS2.out).mono ?_
  rintro e w4 ⟨X', n, m, nL, nW, G, K, L, W, aL, aW, cL, cW, rfl, hnL, hnW, hm, hgs, hL, hW, hk4, hbd⟩
  have hc4 := (hk4.kept bc _ _ _ HC.out (by decide) (by decide)).trans HC.out
  have HB4 := hid (HB.out.trans hk4.below)
  have HI4 := hid (own_slv (own_gk HI.out hk4 (by decide) (by decide)))
  have HV4 := hid (own_slv (own_gk HV.out hk4 (by decide) (by decide)))
  have HL4 := hid (own_slv hL)
  have HW4 := hid (own_slv hW)
  have HGS := hid hgs
  have HBD := hid hbd
  have HNN := hid (And.intro hnL hnW)
  clear hc0 hc1 hc2 hnL hnW hgs hL hW hk4 hbd HC HI HV HG HB
  have hc0 : w4.cell? ⟨bc, 0, none⟩ = some (.pointer (some ⟨b, 0, none⟩)) := fit_cell (vs := [.pointer (some ⟨b, 0, none⟩), .slice aI k cI, .slice aV k cV]) hc4 0
  have hc1 : w4.cell? ⟨bc, 1, none⟩ = some (.slice aI k cI) := fit_cell (vs := [.pointer (some ⟨b, 0, none⟩), .slice aI k cI, .slice aV k cV]) hc4 1
  have hc2 : w4.cell? ⟨bc, 2, none⟩ = some (.slice aV k cV) := fit_cell (vs := [.pointer (some ⟨b, 0, none⟩), .slice aI k cI, .slice aV k cV]) hc4 2
  clear hc4
  go_wp2_with fail
  refine (law15_Decided w4 w.heap.size b m n k G K L V W aI aV aL aW cI cV cL cW nL nW HGS.out hm HVL.out hk2 HI4.out HV4.out HL4.out HW4.out HNN.out.1 HNN.out.2 (by have := HBD.out.len; have := HBD.out.wlen; omega) (by have := HBD.out.len; omega) HBD.out.vl (by have h1 := flat_le HGS.out.cl; have h2 := HGS.out.gm; omega)).mono ?_
  rintro e w5 ⟨rfl, hb5⟩
  have HB5 := hid (HB4.out.trans (hb5.mono HB4.out.size))
  clear hb5 hc0 hc1 hc2
  go_wp2_with fail
  refine (law15_awake w5).mono ?_
  rintro e w6 ⟨rfl, hb6⟩
  have HB6 := hid (HB5.out.trans (hb6.mono HB5.out.size))
  clear hb6
  go_wp2_with fail
  go_ret
  exact ⟨rfl, HB6.out⟩

end Go.Proofs.Ytacmfiikdbekbaa.Ord
