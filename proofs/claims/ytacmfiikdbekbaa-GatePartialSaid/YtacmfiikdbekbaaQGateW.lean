/- The contract of law15's Decided. -/
import Derived.Test.YtacmfiikdbekbaaQGateR
import Derived.Test.YtacmfiikdbekbaaQGateV
import Derived.Test.YtacmfiikdbekbaaQ10

namespace Go.Proofs.Ytacmfiikdbekbaa.Ord
open Go.RowKit Go.Conc

attribute [local go_sem ↓] Go.wp_at_zero Go.wp_at_succ

theorem inL_boundW {k : Nat} (hk : k ≤ 1000) : ∀ x ∈ inL k, -1048576 ≤ x ∧ x ≤ 1048576 := by
  intro x hx
  simp [inL] at hx
  omega

/-- What is known at the end, where all is decided. -/
theorem dec_total {n : Nat} {G : List (List Int)} {A K k : List Int} (hC : Circ n G A K) (hs : ∀ a, LitOk n a → kT k a → a ∈ K) (hd : ∀ a, Der G A a → kT k a) {a : Int} (ha : LitOk n a) : kT k a ↔ a ∈ K :=
  ⟨hs a ha, fun h => hd a (hC.sound a h)⟩

theorem known_q {n : Nat} {G : List (List Int)} {A K k : List Int} (hC : Circ n G A K) (hk : kOk k) (hs : ∀ a, LitOk n a → kT k a → a ∈ K) (hd : ∀ a, Der G A a → kT k a) {a : Int} (ha : LitOk n a) : decide (k.getD a.natAbs 0 = 0) = !true := by
  refine decide_eq_false fun h => ?_
  obtain ⟨h1, h2⟩ := (is_known hk ha.1).1 h
  have hn : LitOk n (-a) := by unfold LitOk at *; omega
  rcases hC.total a ha with h3 | h3
  · exact h1 ((dec_total hC hs hd ha).2 h3)
  · exact h2 ((dec_total hC hs hd hn).2 h3)

set_option maxRecDepth 100000 in
set_option maxHeartbeats 8000000 in
theorem law15_Decided {X : Nat → Prop} (w : World) (B b m n k : Nat) (G : List (List Int)) (K L : List Int) (V W : List Bool) (aI aV aL aW : Option Addr) (cI cV cL cW nL nW : Nat) (hgs : GS X w B b m n G (asV (inL k) V) K) (hm : m ≤ 200) (hk : V.length = k) (hk2 : k ≤ 12) (hI : SlV w aI (ints (inL k))) (hV : SlV w aV (bools V)) (hL : SlV w aL (ints L)) (hW : SlV w aW (bools W)) (hnL : nL = L.length) (hnW : nW = L.length) (hWL : W.length = L.length) (hl : L.length ≤ 1000)
    (hvl : ∀ (j : Nat) (x : Int) (v : Bool), L[j]? = some x → W[j]? = some v → Vl K x v) (hfl : G.flatten.length ≤ 10000000) :
    Calls Try.prog 29 #[.agg #[.pointer (some ⟨b, 0, none⟩), .slice aI k cI, .slice aV k cV], .slice aL nL cL, .slice aW nW cW] w fun e w' => e = .returned (.bool true) ∧ Below w.heap.size w w' := by
  subst hnL
  have hnm := hgs.nm
  have hgm := hgs.gm
  have HGS := hid hgs
  have HI := hid hI
  have HV := hid hV
  have HL := hid hL
  have HW := hid hW
  have HNW := hid hnW
  have HWL := hid hWL
  have HVL := hid hvl
  have HFL := hid hfl
  have HKV := hid hk
  clear hgs hI hV hL hW hWL hvl hfl hk
  have hnW2 : ((L.length : Int) != (nW : Int)) = false := by rw [HNW.out]; simp
  go_enter Try.func29, Try.ntmps29
  go_wp2_with fail
  have hB1 : Below w.heap.size w (w.alloc (.cells #[.pointer (some ⟨b, 0, none⟩), .slice aI k cI, .slice aV k cV] 46)) := box_below _ _
  have hb0 : (w.alloc (.cells #[.pointer (some ⟨b, 0, none⟩), .slice aI k cI, .slice aV k cV] 46)).heap[w.heap.size]? = some (.cells #[.pointer (some ⟨b, 0, none⟩), .slice aI k cI, .slice aV k cV] 46) := heap_alloc_new _ _
  have HB1 := hid hB1
  have HB0 := hid hb0
  clear hB1 hb0
  generalize (w.alloc (.cells #[.pointer (some ⟨b, 0, none⟩), .slice aI k cI, .slice aV k cV] 46)) = w1 at HB1 HB0 ⊢
  refine (gate_Formula w1 B b n G (HGS.out.gb.below HB1.out) (by omega) (fun c hc => by have := HGS.out.cl c hc; omega)).mono ?_
  rintro e w2 ⟨af, cf, rfl, hrf, hbf⟩
  have HRF := hid hrf
  have HB2 := hid (HB1.out.trans (hbf.mono HB1.out.size))
  have HBX2 := hid ((hbf.block _ (Array.getElem?_eq_some_iff.1 HB0.out).1).trans HB0.out)
  clear hrf hbf HB0 HB1
  go_wp2_with fail
  have hf0 : (w2.alloc (.cells #[.int .i64 n, .slice af G.length cf] 34)).heap[w2.heap.size]? = some (.cells #[.int .i64 n, .slice af G.length cf] 34) := heap_alloc_new _ _
  have hB3 := box_below w2 (.cells #[.int .i64 n, .slice af G.length cf] 34)
  have HF3 := hid hf0
  have HR3 := hid (HRF.out.below hB3)
  have HB3 := hid (HB2.out.trans (hB3.mono HB2.out.size))
  have HX3 := hid ((hB3.block _ (Array.getElem?_eq_some_iff.1 HBX2.out).1).trans HBX2.out)
  have hsz2 : w.heap.size ≤ w2.heap.size := HB2.out.size
  clear hf0 hB3 HRF HB2 HBX2
  generalize (w2.alloc (.cells #[.int .i64 n, .slice af G.length cf] 34)) = w3 at HF3 HR3 HB3 HX3 ⊢
  generalize w2.heap.size = bf at HF3 hsz2 ⊢
  have hc0 : w3.cell? ⟨w.heap.size, 0, none⟩ = some (.pointer (some ⟨b, 0, none⟩)) := fit_cell (vs := [.pointer (some ⟨b, 0, none⟩), .slice aI k cI, .slice aV k cV]) HX3.out 0
  have hc1 : w3.cell? ⟨w.heap.size, 1, none⟩ = some (.slice aI k cI) := fit_cell (vs := [.pointer (some ⟨b, 0, none⟩), .slice aI k cI, .slice aV k cV]) HX3.out 1
  have hc2 : w3.cell? ⟨w.heap.size, 2, none⟩ = some (.slice aV k cV) := fit_cell (vs := [.pointer (some ⟨b, 0, none⟩), .slice aI k cI, .slice aV k cV]) HX3.out 2
  have hf0 : w3.cell? ⟨bf, 0, none⟩ = some (.int .i64 n) := fit_cell (vs := [.int .i64 n, .slice af G.length cf]) HF3.out 0
  have hf1 : w3.cell? ⟨bf, 1, none⟩ = some (.slice af G.length cf) := fit_cell (vs := [.int .i64 n, .slice af G.length cf]) HF3.out 1
  have HCC := hid (And.intro hc0 (And.intro hc1 (And.intro hc2 (And.intro hf0 hf1))))
  have hAl : (asV (inL k) V).length = k := by simp [asV, inL_length, HKV.out]
  have HAL := hid hAl
  clear hAl
  have HI3 := hid (HI.out.below HB3.out)
  have HV3 := hid (HV.out.below HB3.out)
  go_region_held3 (fun x => x.cell? ⟨w.heap.size, 0, none⟩ = some (.pointer (some ⟨b, 0, none⟩)) ∧ x.cell? ⟨w.heap.size, 1, none⟩ = some (.slice aI k cI) ∧ x.cell? ⟨w.heap.size, 2, none⟩ = some (.slice aV k cV) ∧ x.cell? ⟨bf, 0, none⟩ = some (.int .i64 n) ∧ x.cell? ⟨bf, 1, none⟩ = some (.slice af G.length cf)) (first | exact ⟨‹_›, ‹_›, ‹_›, ‹_›, ‹_›⟩ | go_keep) (first
    | (go_at_call 31; refine (law15_Assume _ b k aI aV k k cI cV (inL k) V rfl rfl (inL_length k) HKV.out (by omega) (by exact HI3.out) (by exact HV3.out) (inL_boundW (by omega))).mono ?_; rintro e wa ⟨va, rfl, hoa, hba⟩; have hba : Below w3.heap.size w3 wa := (by first | exact hba | exact (Below.refl w3.heap.size w3).drew.trans hba); obtain ⟨aA, cA, rfl⟩ := own_lenV' hoa; have k0 := below_keeps hba _ _ HCC.out.1; have k1 := below_keeps hba _ _ HCC.out.2.1; have k2 := below_keeps hba _ _ HCC.out.2.2.1; have k3 := below_keeps hba _ _ HCC.out.2.2.2.1; have k4 := below_keeps hba _ _ HCC.out.2.2.2.2; have HOA := hid hoa; have HBA := hid hba; have HCA := hid ((own_cap hoa).2.2); clear hoa hba)
    | (go_at_call 32; refine (ref15_Decide _ n af G G.length cf aA (asV (inL k) V) k cA K rfl (by exact HAL.out.symm) (fun e => (HCA.out e).1) (by exact HR3.out.below HBA.out) (by exact own_slv HOA.out) HGS.out.circ.kok HGS.out.circ.asm (by omega) (by omega) HGS.out.cl (by rw [HAL.out]; omega) HFL.out).mono ?_; rintro e wd ⟨hbd, ak, mk, ck, kk, rfl, hmk, hkl, hko, hks, hsn, hdr⟩; have hbd : Below w3.heap.size w3 wd := HBA.out.trans (hbd.mono HBA.out.size); have k0 := below_keeps hbd _ _ HCC.out.1; have k1 := below_keeps hbd _ _ HCC.out.2.1; have k2 := below_keeps hbd _ _ HCC.out.2.2.1; have k3 := below_keeps hbd _ _ HCC.out.2.2.2.1; have k4 := below_keeps hbd _ _ HCC.out.2.2.2.2; have HBD := hid hbd; have HKK := hid (And.intro hmk (And.intro hkl (And.intro hko (And.intro hks (And.intro hsn hdr))))); clear hbd hmk hkl hko hks hsn hdr))
  obtain ⟨hmk, hkl, hko, hks, hsn, hdr⟩ := HKK.out
  have HBF := hid (HB3.out.trans (HBD.out.mono HB3.out.size))
  have hwn : IntKind.i64.wrap ((n : Int) + 1) = (mk : Int) := by rw [IntWalk.i64_in _ (by omega), hmk]; omega
  have HLD := hid (HL.out.below HBF.out)
  have HWD := hid (HW.out.below HBF.out)
  have hC := HGS.out.circ
  have HIS : Hid (∀ (nd : Nat) (a : Int) (v : Bool), LitOk n a → decide (kT kk a) = v → Calls Try.prog 34 #[.slice ak mk ck, .int .i64 a] (wd.drewN nd) fun e w' => e = .returned (.tuple #[.bool true, .bool v]) ∧ ∃ nd', w' = (wd.drewN nd).drewN nd') := hid (fun nd a v ha hv => ref15_Is (wd.drewN nd) n ak mk ck kk a true v hmk hkl hko ha (by omega) (hks.drewN nd) (known_q hC hko hsn hdr ha) hv)
  have HKT : Hid (∀ (j : Nat) (x : Int) (v : Bool), L[j]? = some x → W[j]? = some v → LitOk n x ∧ decide (kT kk x) = v) := hid (fun j x v hx hv => by
    have h := HVL.out j x v hx hv
    have hx := hC.dk.1 h.1
    refine ⟨hx, ?_⟩
    have h2 := h.2
    unfold tv at h2
    rw [← h2]
    exact decide_eq_decide.2 (dec_total hC hsn hdr hx))
  have HFC := hid (below_keeps HBD.out _ _ HCC.out.2.2.2.1)
  clear hmk hkl hko hks hsn hdr hC HKK hf0 hf1 hc0 hc1 hc2
  clear HCC HBD HB3 HX3 HF3 HR3 HI3 HV3
  have hf0 := HFC.out
  go_wp2_with fail
  clear hwn hf0
  have HY0 : Hid ((1 : Int) = ((0 : Nat) : Int) + 1) := hid (by omega)
  go_loopw [10] (fun s10 wr => ∃ (v nd : Nat) (y : Int), s10 = .int .i64 y ∧ Hid (y = (v : Int) + 1) ∧ v ≤ n ∧ wr = wd.drewN nd) (fun s10 _ => ((n : Int) + 1 - intOf s10).toNat)
  case atStart => exact ⟨0, 0, 1, rfl, HY0, Nat.zero_le _, rfl⟩
  case round =>
    obtain ⟨v, nd, y, rfl, HY, hv, rfl⟩ := hrel
    have hf0 : (wd.drewN nd).cell? ⟨bf, 0, none⟩ = some (.int .i64 n) := HFC.out
    by_cases hlt : v < n
    · have d1 : decide (y ≤ (n : Int)) = true := decide_eq_true (by have := HY.out; omega)
      have hwy : IntKind.i64.wrap (y + 1) = y + 1 := IntWalk.i64_in _ (by have := HY.out; omega)
      have HYL : Hid (LitOk n y) := hid (by have := HY.out; unfold LitOk; omega)
      have HY2 : Hid (y + 1 = ((v + 1 : Nat) : Int) + 1) := hid (by have := HY.out; omega)
      have HME := hid (show ((n : Int) + 1 - (y + 1)).toNat < ((n : Int) + 1 - y).toNat by have := HY.out; omega)
      obtain ⟨vv, hvv⟩ : ∃ vv, decide (kT kk y) = vv := ⟨_, rfl⟩
      have HVV := hid hvv
      clear hvv
      go_wp2_with fail
      refine (HIS.out nd y vv HYL.out HVV.out).mono ?_
      rintro e w2 ⟨rfl, nd2, rfl⟩
      rw [show (wd.drewN nd).drewN nd2 = wd.drewN (nd + nd2) from by rw [World.drewN_drewN]]
      clear hf0
      go_wp2_with fail
      go_roundw
      case rel => exact ⟨v + 1, _, y + 1, rfl, HY2, hlt, rfl⟩
      case measure => exact HME.out
    · have d1 : decide (y ≤ (n : Int)) = false := decide_eq_false (by have := HY.out; omega)
      go_wp2_with fail
      clear hf0 d1
      go_loopw [13] (fun s13 wr => ∃ (i nd : Nat), s13 = .int .i64 i ∧ i ≤ L.length ∧ wr = wd.drewN nd) (fun s13 _ => (L.length - (intOf s13)).toNat)
      case atStart => exact ⟨0, nd, rfl, Nat.zero_le _, rfl⟩
      case round =>
        obtain ⟨i, nd2, rfl, hi, rfl⟩ := hrel
        by_cases hlt2 : i < L.length
        · have hlt3 : (i : Int) < L.length := by omega
          have hwi : IntKind.i64.wrap ((i : Int) + 1) = (i : Int) + 1 := IntWalk.i64_in _ (by omega)
          obtain ⟨b1, o1, x, rfl, hcx, hxi⟩ := (HLD.out.drewN nd2).int hlt2
          obtain ⟨b2, o2, u, rfl, hcu, hui⟩ := (HWD.out.drewN nd2).bool (k := i) (by rw [HWL.out]; exact hlt2)
          have hlv := HKT.out i x u hxi hui
          have HLV := hid hlv
          clear hxi hui hlv
          go_wp2_with fail
          refine (HIS.out nd2 x u HLV.out.1 HLV.out.2).mono ?_
          rintro e w2 ⟨rfl, nd3, rfl⟩
          rw [show (wd.drewN nd2).drewN nd3 = wd.drewN (nd2 + nd3) from by rw [World.drewN_drewN]]
          have hcu2 : (wd.drewN (nd2 + nd3)).cell? ⟨b2, o2 + i, none⟩ = some (.bool u) := hcu
          clear hcx hcu
          go_wp2_with fail
          go_roundw
          case rel => exact ⟨i + 1, _, by simp, hlt2, rfl⟩
          case measure => simp [intOf]; omega
        · go_wp2_with fail
          go_ret
          exact ⟨rfl, below_dr HBF.out _⟩

end Go.Proofs.Ytacmfiikdbekbaa.Ord
