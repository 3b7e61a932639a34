/- The contract of law15's Build. -/
import Derived.Deep.RegionHeld3
import Derived.Test.YtacmfiikdbekbaaQPGateB
import Derived.Test.YtacmfiikdbekbaaQOpenG
import Derived.Test.YtacmfiikdbekbaaQAppN

namespace Go.Proofs.Ytacmfiikdbekbaa.Ord
open Go.RowKit Go.Conc

attribute [local go_sem ↓] Go.wp_at_zero Go.wp_at_succ
attribute [local go_sem ↓ high] app_mark

theorem bools_oneG {xs : List Bool} : ∀ u ∈ bools xs, u.oneCell' = true := by
  intro u hu
  simp [bools] at hu
  rcases hu with ⟨-, rfl⟩ | ⟨-, rfl⟩ <;> rfl

theorem own_box {w : World} {B : Nat} {u : Value} {e : TypeId} (hB : B ≤ w.heap.size) : (w.alloc (.cells #[u] e (0, 0))).ownsRow B e 1 (.slice (some ⟨w.heap.size, 0, none⟩) 1 1) 1 [u] :=
  ⟨rfl, .inr ⟨w.heap.size, 1, #[u], rfl, hB, heap_alloc_new _ _, Nat.le_refl _, by unfold maxLen; omega, rfl, rfl⟩⟩

theorem own_box2 {w : World} {o : Obj} {B : Nat} {u : Value} {e : TypeId} (hB : B ≤ w.heap.size) : ((w.alloc o).alloc (.cells #[u] e (0, 0))).ownsRow B e 1 (.slice (some ⟨w.heap.size + 1, 0, none⟩) 1 1) 1 [u] := by
  have h := own_box (w := w.alloc o) (B := B) (u := u) (e := e) (by simp only [size_al]; omega)
  rwa [size_al] at h

/-- What an append to a row leaves of others. -/
theorem app_keep {w w' : World} {B e s n : Nat} {v : Value} {xs : List Value} (hg : w.grownBy w' v.ownBlock) (ho : w.ownsRow B e s v n xs) : (∀ (B' e' s' n' : Nat) (v' : Value) (xs' : List Value), w.ownsRow B' e' s' v' n' xs' → e' ≠ e → w'.ownsRow B' e' s' v' n' xs') ∧ ∀ w0, Below B w0 w → B ≤ w.heap.size → Below B w0 w' :=
  ⟨fun _ _ _ _ _ _ h ht => own_grownO h ho ht hg, fun _ hb hB => hb.grown hg hB fun q hq => (ho.lt q hq).1⟩

theorem GS.reGB {X X2 : Nat → Prop} {w w2 : World} {B b m n : Nat} {G : List (List Int)} {A K : List Int} (h : GS X w B b m n G A K) (h2 : GB X2 w2 B b n G) : GS X2 w2 B b m n G A K :=
  ⟨h2, h.circ, h.one, h.nm, h.gm, h.cl, h.unit⟩

theorem Gk.app {B e s n : Nat} {w wr w1 w6 : World} {v : Value} {xs : List Value} (h : Gk B w wr) (hB : B ≤ w.heap.size) (h1 : Below wr.heap.size wr w1) (ho : wr.ownsRow w.heap.size e s v n xs) (hg : w1.grownBy w6 v.ownBlock) : Gk B w w6 := by
  have hs := h.below.size
  refine ⟨below_app h.below (by omega) h1 (own_base ho hB) hg, fun k cs t m hk ht1 ht2 => ?_⟩
  have hkl := (Array.getElem?_eq_some_iff.1 hk).1
  have hkr : k < wr.heap.size := by omega
  have e1 := hg.block k (by have := h1.size; omega) (fun e => by have := (ho.lt k e.symm).1; omega)
  rw [e1, h1.block k hkr, h.kept k cs t m hk ht1 ht2]

/-- What Build leaves. -/
def buildR (w : World) (B b k : Nat) (V : List Bool) (gs : List GateI) (e : Ending) (w' : World) : Prop :=
  ∃ (X' : Nat → Prop) (n m nL nW : Nat) (G : List (List Int)) (K L : List Int) (W : List Bool) (aL aW : Option Addr) (cL cW : Nat), e = .returned (.tuple #[.slice aL nL cL, .slice aW nW cW, .bool true]) ∧ nL = L.length ∧ nW = L.length ∧ m ≤ 200 ∧ GS X' w' B b m n G (asV (inL k) V) K ∧ w'.ownsRow B 3 1 (.slice aL nL cL) nL (ints L) ∧ w'.ownsRow B 4 1 (.slice aW nW cW) nW (bools W) ∧ Gk B w w' ∧ Bd G K L W k gs (min gs.length 120)

theorem SlG.below {w w' : World} {a : Option Addr} {gs : List (Int × Int × Int × Int)} (h : SlG w a gs) (hb : Below w.heap.size w w') : SlG w' a gs := fun j q hq =>
  let ⟨b, off, h1, h2, h3, h4, h5, h6⟩ := h j q hq
  ⟨b, off, h1, below_keeps hb _ _ h2, below_keeps hb _ _ h3, below_keeps hb _ _ h4, below_keeps hb _ _ h5, h6⟩

theorem bd_start {k : Nat} {V : List Bool} (hk : V.length = k) (gs : List GateI) : Bd [[1]] (inK V) (1 :: inL k) (true :: V) k gs 0 := by
  refine ⟨by simp [inL_length]; omega, by simp; omega, fun j x v hx hv => ?_, rfl, fun j hj => by simp [inL, hj], fun t ht => by omega⟩
  cases j with
  | zero =>
    simp at hx hv
    subst hx hv
    exact ⟨.inl (by simp [inK]), by simp [tv, inK]⟩
  | succ j =>
    simp only [List.getElem?_cons_succ] at hx hv
    have hjl : j < V.length := (List.getElem?_eq_some_iff.1 hv).1
    have h := pick_vl (V := V) (r := 2 * (j + 1)) (p := x) (q := v) (by omega) (by
      unfold pickV
      rw [if_neg (by omega), if_neg (by omega), show 2 * (j + 1) / 2 - 1 = j by omega]
      rw [hk]
      simp [List.getD, hx, hv])
    exact h

set_option maxRecDepth 100000 in
set_option maxHeartbeats 8000000 in
theorem law15_Build {X : Nat → Prop} (w0 w : World) (b k : Nat) (V : List Bool) (aI aV ag : Option Addr) (cI cV mg cg : Nat) (gs : List GateI) (hk : V.length = k) (hk2 : k ≤ 12) (hb0 : Below w0.heap.size w0 w) (hg : GB X w w0.heap.size b (k + 1) [[1]]) (hI : w.ownsRow w0.heap.size 3 1 (.slice aI k cI) k (ints (inL k))) (hV : w.ownsRow w0.heap.size 4 1 (.slice aV k cV) k (bools V))
    (hmg : mg = gs.length) (hs : SlG w0 ag gs) :
    Calls Try.prog 28 #[.agg #[.pointer (some ⟨b, 0, none⟩), .slice aI k cI, .slice aV k cV], .slice ag mg cg] w (buildR w w0.heap.size b k V gs) := by
  obtain ⟨i0, hi0, hz0, hz1, hz2⟩ := info_parts info_intG
  obtain ⟨i1, hi1, hy0, hy1, hy2⟩ := info_parts info_boolG
  subst hmg
  have HG := hid hg
  have HI := hid (own_slv hI)
  have HV := hid (own_slv hV)
  have HCI := hid ((own_cap hI).2.2)
  have HCV := hid ((own_cap hV).2.2)
  have HS := hid hs
  have HKV := hid hk
  have HB0 := hid hb0
  have hBw : w0.heap.size ≤ w.heap.size := hb0.size
  clear hg hI hV hs hk hb0
  go_enter Try.func28, Try.ntmps28
  go_wp2_with fail
  have hB1 : Below w.heap.size w (w.alloc (.cells #[.pointer (some ⟨b, 0, none⟩), .slice aI k cI, .slice aV k cV] 46)) := box_below _ _
  have hb0 : (w.alloc (.cells #[.pointer (some ⟨b, 0, none⟩), .slice aI k cI, .slice aV k cV] 46)).heap[w.heap.size]? = some (.cells #[.pointer (some ⟨b, 0, none⟩), .slice aI k cI, .slice aV k cV] 46) := heap_alloc_new _ _
  have HX1 := hid (HG.out.below hB1)
  have HI1 := hid (HI.out.below hB1)
  have HV1 := hid (HV.out.below hB1)
  have HBO := hid hb0
  have HB1 := hid hB1
  clear hB1 hb0
  generalize (w.alloc (.cells #[.pointer (some ⟨b, 0, none⟩), .slice aI k cI, .slice aV k cV] 46)) = w1 at HBO HX1 HI1 HV1 HB1 ⊢
  have hc0 : w1.cell? ⟨w.heap.size, 0, none⟩ = some (.pointer (some ⟨b, 0, none⟩)) := fit_cell (vs := [.pointer (some ⟨b, 0, none⟩), .slice aI k cI, .slice aV k cV]) HBO.out 0
  have hc1 : w1.cell? ⟨w.heap.size, 1, none⟩ = some (.slice aI k cI) := fit_cell (vs := [.pointer (some ⟨b, 0, none⟩), .slice aI k cI, .slice aV k cV]) HBO.out 1
  have hc2 : w1.cell? ⟨w.heap.size, 2, none⟩ = some (.slice aV k cV) := fit_cell (vs := [.pointer (some ⟨b, 0, none⟩), .slice aI k cI, .slice aV k cV]) HBO.out 2
  have HLN : Hid (1 + k ≤ maxLen ∧ (1 + k) * 8 ≤ 140737488355328 ∧ (1 + k) * 1 ≤ 140737488355328) := hid (by unfold maxLen; omega)
  have HBEL : Hid (Below w1.heap.size w1 w1) := hid (Below.refl _ _)
  have HVL : Hid (k = (bools V).length) := hid (by rw [bools_length]; exact HKV.out.symm)
  have HC2 := hid (And.intro hc0 (And.intro hc1 hc2))
  go_cut [4, 5] (fun s4 s5 wx => ∃ aL cL aW cW, s4 = .slice aL (1 + k) cL ∧ s5 = .slice aW (1 + k) cW ∧ Hid (Below w1.heap.size w1 wx) ∧ Hid (wx.ownsRow w1.heap.size 3 1 (.slice aL (1 + k) cL) (1 + k) (ints (1 :: inL k))) ∧ Hid (wx.ownsRow w1.heap.size 4 1 (.slice aW (1 + k) cW) (1 + k) (bools (true :: V))))
  case first =>
    go_region_held3 (fun x => x.cell? ⟨w.heap.size, 0, none⟩ = some (.pointer (some ⟨b, 0, none⟩)) ∧ x.cell? ⟨w.heap.size, 1, none⟩ = some (.slice aI k cI) ∧ x.cell? ⟨w.heap.size, 2, none⟩ = some (.slice aV k cV)) (first | exact ⟨‹_›, ‹_›, ‹_›⟩ | go_keep) (first
      | (go_at_call 46; refine (gate_True _ b).mono ?_; rintro e w2 ⟨rfl, rfl⟩)
      | (refine step_append_sl rfl _ _ 22 rfl w1.heap.size 3 i0 (.int .i64 0) 8 Try.underlying22 hi0 hz0 hz1 hz2 rfl _ 1 [.int .i64 1] (by rfl) (by first | exact own_box (Nat.le_refl _) | exact (own_box (Nat.le_refl _)).alloc _ | exact own_box2 (Nat.le_refl _) | exact own_box HBEL.out.size | exact HKB.out _ _ _ _ _ _ ((own_box (Nat.le_refl _)).alloc _) (by decide) | exact HKB.out _ _ _ _ _ _ (own_box2 (Nat.le_refl _)) (by decide)) aI k cI (ints (inL k)) (by rfl) (HI1.out.below (by first | exact HBEL.out | exact below_al HBEL.out HBEL.out.size _ | exact (below_al HBEL.out HBEL.out.size _).drew | exact (below_al (below_al HBEL.out HBEL.out.size _) (by simp only [size_al]; have := HBEL.out.size; omega) _) | exact (below_al (below_al HBEL.out HBEL.out.size _) (by simp only [size_al]; have := HBEL.out.size; omega) _).drew)) (by simp [inL_length]) (fun e => (HCI.out e).1) ints_one (by exact HLN.out.1) (by exact HLN.out.2.1) (by have := HBEL.out.size; first | exact this | (simp only [size_al]; omega) | (show w1.heap.size ≤ (World.alloc _ _).heap.size; simp only [size_al]; omega) | (show w1.heap.size ≤ (World.alloc (World.alloc _ _) _).heap.size; simp only [size_al]; omega)) ?_; intro v8 w8 ho8 hg8; obtain ⟨aL, cL, rfl⟩ := own_lenV' ho8; obtain ⟨hk8, hb8⟩ := app_keep (B := w1.heap.size) (e := 3) (s := 1) (n := 1) (xs := [.int .i64 1]) hg8 (by first | exact own_box (Nat.le_refl _) | exact (own_box (Nat.le_refl _)).alloc _ | exact own_box2 (Nat.le_refl _) | exact own_box HBEL.out.size | exact HKB.out _ _ _ _ _ _ ((own_box (Nat.le_refl _)).alloc _) (by decide) | exact HKB.out _ _ _ _ _ _ (own_box2 (Nat.le_refl _)) (by decide)); have HKA := hid hk8; have HL := hid ho8; clear hk8 ho8; have hb9 := hb8 w1 (by first | exact HBEL.out | exact below_al HBEL.out HBEL.out.size _ | exact (below_al HBEL.out HBEL.out.size _).drew | exact (below_al (below_al HBEL.out HBEL.out.size _) (by simp only [size_al]; have := HBEL.out.size; omega) _) | exact (below_al (below_al HBEL.out HBEL.out.size _) (by simp only [size_al]; have := HBEL.out.size; omega) _).drew) (by have := HBEL.out.size; first | exact this | (simp only [size_al]; omega) | (show w1.heap.size ≤ (World.alloc _ _).heap.size; simp only [size_al]; omega) | (show w1.heap.size ≤ (World.alloc (World.alloc _ _) _).heap.size; simp only [size_al]; omega)); clear HBEL; have HBEL := hid hb9; have hj0 := below_keeps hb9 _ _ hc0; have hj1 := below_keeps hb9 _ _ hc1; have hj2 := below_keeps hb9 _ _ hc2; clear hb8 hb9 hg8)
      | (refine step_append_sl rfl _ _ 27 rfl w1.heap.size 4 i1 (.bool false) 1 Try.underlying27 hi1 hy0 hy1 hy2 rfl _ 1 [.bool true] (by rfl) (by first | exact own_box (Nat.le_refl _) | exact (own_box (Nat.le_refl _)).alloc _ | exact own_box2 (Nat.le_refl _) | exact own_box HBEL.out.size | exact HKA.out _ _ _ _ _ _ ((own_box (Nat.le_refl _)).alloc _) (by decide) | exact HKA.out _ _ _ _ _ _ (own_box2 (Nat.le_refl _)) (by decide)) aV k cV (bools V) (by rfl) (HV1.out.below (by first | exact HBEL.out | exact below_al HBEL.out HBEL.out.size _ | exact (below_al HBEL.out HBEL.out.size _).drew | exact (below_al (below_al HBEL.out HBEL.out.size _) (by simp only [size_al]; have := HBEL.out.size; omega) _) | exact (below_al (below_al HBEL.out HBEL.out.size _) (by simp only [size_al]; have := HBEL.out.size; omega) _).drew)) HVL.out (fun e => (HCV.out e).1) bools_oneG (by exact HLN.out.1) (by exact HLN.out.2.2) (by have := HBEL.out.size; first | exact this | (simp only [size_al]; omega) | (show w1.heap.size ≤ (World.alloc _ _).heap.size; simp only [size_al]; omega) | (show w1.heap.size ≤ (World.alloc (World.alloc _ _) _).heap.size; simp only [size_al]; omega)) ?_; intro v8 w8 ho8 hg8; obtain ⟨aW, cW, rfl⟩ := own_lenV' ho8; obtain ⟨hk8, hb8⟩ := app_keep (B := w1.heap.size) (e := 4) (s := 1) (n := 1) (xs := [.bool true]) hg8 (by first | exact own_box (Nat.le_refl _) | exact (own_box (Nat.le_refl _)).alloc _ | exact own_box2 (Nat.le_refl _) | exact own_box HBEL.out.size | exact HKA.out _ _ _ _ _ _ ((own_box (Nat.le_refl _)).alloc _) (by decide) | exact HKA.out _ _ _ _ _ _ (own_box2 (Nat.le_refl _)) (by decide)); have HKB := hid hk8; have HW := hid ho8; clear hk8 ho8; have hb9 := hb8 w1 (by first | exact HBEL.out | exact below_al HBEL.out HBEL.out.size _ | exact (below_al HBEL.out HBEL.out.size _).drew | exact (below_al (below_al HBEL.out HBEL.out.size _) (by simp only [size_al]; have := HBEL.out.size; omega) _) | exact (below_al (below_al HBEL.out HBEL.out.size _) (by simp only [size_al]; have := HBEL.out.size; omega) _).drew) (by have := HBEL.out.size; first | exact this | (simp only [size_al]; omega) | (show w1.heap.size ≤ (World.alloc _ _).heap.size; simp only [size_al]; omega) | (show w1.heap.size ≤ (World.alloc (World.alloc _ _) _).heap.size; simp only [size_al]; omega)); clear HBEL; have HBEL := hid hb9; have hj0 := below_keeps hb9 _ _ hc0; have hj1 := below_keeps hb9 _ _ hc1; have hj2 := below_keeps hb9 _ _ hc2; clear hb8 hb9 hg8))
    all_goals
      have HLF : Hid (w8.ownsRow w1.heap.size 3 1 (.slice aL (1 + k) cL) (1 + k) (ints (1 :: inL k))) := hid (by first | exact HL.out | exact HKB.out _ _ _ _ _ _ HL.out (by decide) | exact HKB.out _ _ _ _ _ _ (HL.out.alloc _) (by decide))
      have HWF : Hid (w8.ownsRow w1.heap.size 4 1 (.slice aW (1 + k) cW) (1 + k) (bools (true :: V))) := hid (by first | exact HW.out | exact HKA.out _ _ _ _ _ _ HW.out (by decide) | exact HKA.out _ _ _ _ _ _ (HW.out.alloc _) (by decide))
      go_wp2_with fail
      go_meet
      case rel => exact ⟨_, _, _, _, rfl, rfl, HBEL, HLF, HWF⟩
  case rest =>
    obtain ⟨aL, cL, aW, cW, rfl, rfl, HBX, HL, HW⟩ := hcut
    obtain ⟨y, hy⟩ : ∃ y, 1 + k = y := ⟨_, rfl⟩
    rw [hy] at HL HW ⊢
    have hsz1 := HB1.out.size
    have hg0 := HX1.out.new HBX.out
    have HG0 := hid (show GS _ wc w0.heap.size b (k + 1 + 0) (k + 1) [[1]] (asV (inL k) V) (inK V) from ⟨hg0, by have := circ_in V; rwa [HKV.out] at this, by simp [inK], by omega, by simp; omega, by simp, by simp⟩)
    have HX0 : Hid (∀ g, (Value.slice aL y cL).ownBlock = some g → (fun k => X k ∨ (w1.heap.size ≤ k ∧ k < wc.heap.size)) g) := hid (fun g hg => .inr (HL.out.lt g hg))
    have HL0 : Hid (wc.ownsRow w.heap.size 3 1 (.slice aL y cL) y (ints (1 :: inL k))) := hid (own_base HL.out hsz1)
    have HW0 : Hid (wc.ownsRow w.heap.size 4 1 (.slice aW y cW) y (bools (true :: V))) := hid (own_base HW.out hsz1)
    have HK0 : Hid (Gk w0.heap.size w wc) := hid (Gk.of_below (HB1.out.trans (HBX.out.mono hsz1)) hBw)
    have HC0 : Hid (wc.heap[w.heap.size]? = some (.cells #[.pointer (some ⟨b, 0, none⟩), .slice aI k cI, .slice aV k cV] 46)) := hid ((HBX.out.block _ (Array.getElem?_eq_some_iff.1 HBO.out).1).trans HBO.out)
    have HD0 := hid (bd_start HKV.out gs)
    have HY0 : Hid (y = 1 + k + 0) := hid hy.symm
    clear hy hg0 HX1 HI1 HV1 HBO HB1 HBX HL HW hc0 hc1 hc2 hsz1
    go_wp2_with fail
    go_loopw [4, 5, 7] (fun s4 s5 s7 wr => ∃ (i y n : Nat) (X' : Nat → Prop) (G : List (List Int)) (K L : List Int) (W : List Bool) (aL aW : Option Addr) (cL cW : Nat), s4 = .slice aL y cL ∧ s5 = .slice aW y cW ∧ s7 = .int .i64 i ∧ i ≤ gs.length ∧ i ≤ 120 ∧ Hid (y = 1 + k + i) ∧ Hid (GS X' wr w0.heap.size b (k + 1 + i) n G (asV (inL k) V) K) ∧ Hid (∀ g, (Value.slice aL y cL).ownBlock = some g → X' g) ∧ Hid (wr.ownsRow w.heap.size 3 1 (.slice aL y cL) y (ints L)) ∧ Hid (wr.ownsRow w.heap.size 4 1 (.slice aW y cW) y (bools W)) ∧ Hid (Gk w0.heap.size w wr) ∧ Hid (wr.heap[w.heap.size]? = some (.cells #[.pointer (some ⟨b, 0, none⟩), .slice aI k cI, .slice aV k cV] 46)) ∧ Hid (Bd G K L W k gs i)) (fun _ _ s7 _ => (120 - (intOf s7)).toNat)
    case atStart => exact ⟨0, y, k + 1, _, [[1]], inK V, _, _, aL, aW, cL, cW, rfl, rfl, rfl, Nat.zero_le _, Nat.zero_le _, HY0, HG0, HX0, HL0, HW0, HK0, HC0, HD0⟩
    case round =>
      clear HY0 HG0 HX0 HL0 HW0 HK0 HC0 HD0
      obtain ⟨i, y, n, X', G, K, L, W, aL, aW, cL, cW, rfl, rfl, rfl, hi, hi2, HY, HGS, HXL, HL, HW, HK, HC, HD⟩ := hrel
      by_cases h1 : i < gs.length
      · by_cases h2 : i < 120
        · have d1 : (i : Int) < gs.length := by omega
          have d2 : (i : Int) < 120 := by omega
          have hwi : IntKind.i64.wrap ((i : Int) + 1) = (i : Int) + 1 := IntWalk.i64_in _ (by omega)
          obtain ⟨⟨wh, g0, g1, g2⟩, hgi⟩ : ∃ g, gs[i]? = some g := ⟨_, List.getElem?_eq_getElem h1⟩
          obtain ⟨bg, og, hag, hq0', hq1', hq2', hq3', wf0, -, -, -⟩ := HS.out i _ hgi
          have hq0 := below_keeps (HB0.out.trans HK.out.below) _ _ hq0'
          have hq1 := below_keeps (HB0.out.trans HK.out.below) _ _ hq1'
          have hq2 := below_keeps (HB0.out.trans HK.out.below) _ _ hq2'
          have hq3 := below_keeps (HB0.out.trans HK.out.below) _ _ hq3'
          have HQ0 := hid (And.intro hq0' (And.intro hq1' (And.intro hq2' hq3')))
          clear hq0' hq1' hq2' hq3'
          have hwh := bounds_u8 wf0
          simp only at hq0 hq1 hq2 hq3 hwh
          have hbk0 : wr.cell? ⟨w.heap.size, 0, none⟩ = some (.pointer (some ⟨b, 0, none⟩)) := fit_cell (vs := [.pointer (some ⟨b, 0, none⟩), .slice aI k cI, .slice aV k cV]) HC.out 0
          have hbk1 : wr.cell? ⟨w.heap.size, 1, none⟩ = some (.slice aI k cI) := fit_cell (vs := [.pointer (some ⟨b, 0, none⟩), .slice aI k cI, .slice aV k cV]) HC.out 1
          have hbk2 : wr.cell? ⟨w.heap.size, 2, none⟩ = some (.slice aV k cV) := fit_cell (vs := [.pointer (some ⟨b, 0, none⟩), .slice aI k cI, .slice aV k cV]) HC.out 2
          have hLl := HD.out.len
          have hWl := HD.out.wlen
          obtain ⟨q, hq⟩ : ∃ q : Nat, wh % 4 = (q : Int) := ⟨(wh % 4).toNat, by omega⟩
          have hq4 : q < 4 := by omega
          obtain ⟨r0, hr0⟩ : ∃ r : Nat, r = (g0 % (2 * ((1 + k + i : Nat) : Int))).toNat := ⟨_, rfl⟩
          obtain ⟨r1, hr1⟩ : ∃ r : Nat, r = (g1 % (2 * ((1 + k + i : Nat) : Int))).toNat := ⟨_, rfl⟩
          obtain ⟨r2, hr2⟩ : ∃ r : Nat, r = (g2 % (2 * ((1 + k + i : Nat) : Int))).toNat := ⟨_, rfl⟩
          have hrr : ∀ (g : Int) (r : Nat), r = (g % (2 * ((1 + k + i : Nat) : Int))).toNat → g % (2 * (L.length : Int)) = (r : Int) ∧ r / 2 < L.length ∧ r / 2 = gIdx g (1 + k + i) := fun g r h => by
            rw [hLl]
            have h1 := Int.emod_lt_of_pos g (show (0 : Int) < 2 * ((1 + k + i : Nat) : Int) by omega)
            have h2 := Int.emod_nonneg g (show (2 * ((1 + k + i : Nat) : Int)) ≠ 0 by omega)
            refine ⟨by omega, by omega, by unfold gIdx; rw [h]⟩
          obtain ⟨l0, hl0⟩ : ∃ l, (pkP L W r0).1 = l := ⟨_, rfl⟩
          obtain ⟨l1, hl1⟩ : ∃ l, (pkP L W r1).1 = l := ⟨_, rfl⟩
          obtain ⟨l2, hl2⟩ : ∃ l, (pkP L W r2).1 = l := ⟨_, rfl⟩
          obtain ⟨v0, hv0⟩ : ∃ l, (pkP L W r0).2 = l := ⟨_, rfl⟩
          obtain ⟨v1, hv1⟩ : ∃ l, (pkP L W r1).2 = l := ⟨_, rfl⟩
          obtain ⟨v2, hv2⟩ : ∃ l, (pkP L W r2).2 = l := ⟨_, rfl⟩
          obtain ⟨p0, p0'⟩ := pk_vl HGS.out.circ (by omega) HD.out.vl (hrr g0 r0 hr0).2.1
          obtain ⟨p1, p1'⟩ := pk_vl HGS.out.circ (by omega) HD.out.vl (hrr g1 r1 hr1).2.1
          obtain ⟨p2, p2'⟩ := pk_vl HGS.out.circ (by omega) HD.out.vl (hrr g2 r2 hr2).2.1
          rw [hl0] at p0 p0'
          rw [hl1] at p1 p1'
          rw [hl2] at p2 p2'
          rw [hv0] at p0
          rw [hv1] at p1
          rw [hv2] at p2
          obtain ⟨z, n', G', hz⟩ : ∃ z n' G', gPut n G q l0 l1 l2 = (z, n', G') := ⟨_, _, _, rfl⟩
          obtain ⟨v, hv⟩ : ∃ v, vPut q v0 v1 v2 = v := ⟨_, rfl⟩
          have hnm := HGS.out.nm
          have hgm := HGS.out.gm
          have hcd := HGS.out.circ
          have HCALL : Hid (∀ wx, GB X' wx w0.heap.size b n G → SlV wx aL (ints L) → SlV wx aW (bools W) → Calls Try.prog 47 #[.agg #[.pointer (some ⟨b, 0, none⟩), .slice aI k cI, .slice aV k cV], .agg #[.int .u8 wh, .int .i64 g0, .int .i64 g1, .int .i64 g2], .slice aL y cL, .slice aW y cW] wx fun e w' => e = .returned (.tuple #[.int .i64 z, .bool v, .int .i64 0]) ∧ GB X' w' w0.heap.size b n' G' ∧ Gk w0.heap.size wx w') := hid (fun wx k1 k2 k3 => by
            have h := law15_Put wx w0.heap.size b n G (.slice aI k cI) (.slice aV k cV) wh g0 g1 g2 aL aW y y cL cW L W q l0 l1 l2 v0 v1 v2 k1 HGS.out.n1 (by omega) (by omega) ⟨hwh.1, by have := hwh.2; omega⟩ hq (by rw [HY.out, hLl]) (by rw [HY.out, hLl]) (by omega) (by omega) (by omega) k2 k3 (fun x hx => by
              obtain ⟨j, hj⟩ := List.mem_iff_getElem?.1 hx
              have hjl := (List.getElem?_eq_some_iff.1 hj).1
              exact hcd.dk.1 (HD.out.vl j x _ hj (List.getElem?_eq_getElem (by omega))).1) (fun j g hj => by
              match j, hj with
              | 0, hj => simp at hj; subst hj; exact ⟨r0, (hrr g0 r0 hr0).1, by simp [hl0], by simp [hv0]⟩
              | 1, hj => simp at hj; subst hj; exact ⟨r1, (hrr g1 r1 hr1).1, by simp [hl1], by simp [hv1]⟩
              | 2, hj => simp at hj; subst hj; exact ⟨r2, (hrr g2 r2 hr2).1, by simp [hl2], by simp [hv2]⟩
              | j + 3, hj => simp at hj) (hcd.dk.1 p0.1) (hcd.dk.1 p1.1) (hcd.dk.1 p2.1)
            rw [hz, hv] at h
            exact h)
          have HPUT : Hid (∀ wx, GB X' wx w0.heap.size b n' G' → ∃ K', GS X' wx w0.heap.size b (k + 1 + (i + 1)) n' G' (asV (inL k) V) K' ∧ Bd G' K' (L ++ [z]) (W ++ [v]) k gs (i + 1)) := hid (fun wx hgx => by
            obtain ⟨K', c1, c2, c3⟩ := put_gs HGS.out hq4 p0.1 p1.1 p2.1 (by omega) (w' := wx) (by rw [hz]; exact hgx)
            have hgg := gg_put n G q l0 l1 l2
            rw [hz] at c1 c3 hgg
            rw [p0.2, p1.2, p2.2, hv] at c3
            refine ⟨K', c1, HD.out.push hgi hgg.sub c2 c3 fun A' G'' hG hA => ?_⟩
            have h := dec_put (n := n) (G := G) (G'' := G'') (A := A') (x := l0) (y := l1) (z := l2) hq4 (hG _ c1.unit) (by rw [hz]; exact hG) (p0' G'' A' ?_) (p1' G'' A' ?_) (fun h3 => p2' G'' A' ?_)
            · rw [hz] at h; exact h
            · rw [(hrr g0 r0 hr0).2.2]; exact hA g0 (by unfold gArgs; split <;> simp)
            · rw [(hrr g1 r1 hr1).2.2]; exact hA g1 (by unfold gArgs; split <;> simp)
            · rw [(hrr g2 r2 hr2).2.2]
              refine hA g2 ?_
              have hw3 : wh % 4 = 3 := by omega
              unfold gArgs
              simp [hw3])
          have HGB := hid HGS.out.gb
          have HSL := hid (own_slv HL.out)
          have HSW := hid (own_slv HW.out)
          have HLL := hid (And.intro hLl hWl)
          subst hag
          clear hrr p0 p0' p1 p1' p2 p2' hz hv hl0 hl1 hl2 hv0 hv1 hv2 hr0 hr1 hr2 hq hq4 hnm hgm hcd hgi wf0 hwh hLl hWl
          go_wp2_with fail
          go_region_held3 (fun x => x.cell? ⟨w.heap.size, 0, none⟩ = some (.pointer (some ⟨b, 0, none⟩)) ∧ x.cell? ⟨w.heap.size, 1, none⟩ = some (.slice aI k cI) ∧ x.cell? ⟨w.heap.size, 2, none⟩ = some (.slice aV k cV) ∧ x.cell? ⟨bg, og + i * 4, none⟩ = some (.int .u8 wh) ∧ x.cell? ⟨bg, og + i * 4 + 1, none⟩ = some (.int .i64 g0) ∧ x.cell? ⟨bg, og + i * 4 + 2, none⟩ = some (.int .i64 g1) ∧ x.cell? ⟨bg, og + i * 4 + 3, none⟩ = some (.int .i64 g2)) (first | exact ⟨‹_›, ‹_›, ‹_›, ‹_›, ‹_›, ‹_›, ‹_›⟩ | go_keep) (first
            | (go_at_call 47; refine (HCALL.out _ (by exact HGB.out) (by exact HSL.out) (by exact HSW.out)).mono ?_; rintro e w7 ⟨rfl, hg7, hk7'⟩; have hk7 : Gk w0.heap.size wr w7 := (by first | exact hk7' | exact (Gk.of_below (Below.refl wr.heap.size wr).drew (by have := HK.out.below.size; omega)).trans hk7'); have hbq := HB0.out.trans (HK.out.below.trans hk7.below); have hc7 := (hk7.kept _ _ _ _ HC.out (by decide) (by decide)).trans HC.out; have k0 : w7.cell? ⟨w.heap.size, 0, none⟩ = some (.pointer (some ⟨b, 0, none⟩)) := fit_cell (vs := [.pointer (some ⟨b, 0, none⟩), .slice aI k cI, .slice aV k cV]) hc7 0; have k1 : w7.cell? ⟨w.heap.size, 1, none⟩ = some (.slice aI k cI) := fit_cell (vs := [.pointer (some ⟨b, 0, none⟩), .slice aI k cI, .slice aV k cV]) hc7 1; have k2 : w7.cell? ⟨w.heap.size, 2, none⟩ = some (.slice aV k cV) := fit_cell (vs := [.pointer (some ⟨b, 0, none⟩), .slice aI k cI, .slice aV k cV]) hc7 2; have j0 : w7.cell? ⟨bg, og + i * 4, none⟩ = some (.int .u8 wh) := below_keeps hbq _ _ HQ0.out.1; have j1 : w7.cell? ⟨bg, og + i * 4 + 1, none⟩ = some (.int .i64 g0) := below_keeps hbq _ _ HQ0.out.2.1; have j2 : w7.cell? ⟨bg, og + i * 4 + 2, none⟩ = some (.int .i64 g1) := below_keeps hbq _ _ HQ0.out.2.2.1; have j3 : w7.cell? ⟨bg, og + i * 4 + 3, none⟩ = some (.int .i64 g2) := below_keeps hbq _ _ HQ0.out.2.2.2; have HG7 := hid hg7; have HK7 := hid hk7; have HC7 := hid hc7; clear hg7 hk7 hk7' hc7 hbq))
          clear hbk0 hbk1 hbk2 hq0 hq1 hq2 hq3
          obtain ⟨K', hgs7, hbd7⟩ := HPUT.out w7 HG7.out
          have hzl : z ≠ 0 := (hgs7.circ.dk.1 (hbd7.vl (1 + k + i) z v (by rw [List.getElem?_append_right (by rw [HLL.out.1]; exact Nat.le_refl _), HLL.out.1, Nat.sub_self]; rfl) (by rw [List.getElem?_append_right (by rw [HLL.out.2]; exact Nat.le_refl _), HLL.out.2, Nat.sub_self]; rfl)).1).1
          have d3 : (z == 0) = false := by rw [beq_eq_false_iff_ne]; exact hzl
          have HGS7 := hid hgs7
          have HBD7 := hid hbd7
          have hL7 : w7.ownsRow w.heap.size 3 1 (.slice aL y cL) y (ints L) := own_gk HL.out HK7.out (by decide) (by decide)
          have hW7 : w7.ownsRow w.heap.size 4 1 (.slice aW y cW) y (bools W) := own_gk HW.out HK7.out (by decide) (by decide)
          have hk7 := HK.out.trans HK7.out
          have hyb : y ≤ 200 := by have := HY.out; omega
          have hz7 : w.heap.size ≤ w7.heap.size := hk7.below.size
          obtain ⟨a8, c8, w8, hr8, ho8, hg8, ha8⟩ := appM_one (P := Try.prog) (w7.alloc (.cells #[.int .i64 z] 3 (0, 0))) w.heap.size 22 22 3 i0 (.int .i64 0) 8 Try.underlying22 hi0 hz0 hz1 hz2 rfl (.slice aL y cL) y (ints L) (hL7.alloc _) w7.heap.size (.int .i64 z) (heap_alloc_new _ _) rfl (by unfold maxLen; omega) (by omega) (by simp only [size_al]; omega)
          have hz8 : w.heap.size ≤ w8.heap.size := by have := hg8.size; simp only [size_al] at this; omega
          have hW8 : w8.ownsRow w.heap.size 4 1 (.slice aW y cW) y (bools W) := own_app (box_below w7 (.cells #[.int .i64 z] 3 (0, 0))) hL7 hg8 hW7 (by decide)
          obtain ⟨a9, c9, w9, hr9, ho9, hg9, -⟩ := appM_one (P := Try.prog) (w8.alloc (.cells #[.bool v] 4 (0, 0))) w.heap.size 27 27 4 i1 (.bool false) 1 Try.underlying27 hi1 hy0 hy1 hy2 rfl (.slice aW y cW) y (bools W) (hW8.alloc _) w8.heap.size (.bool v) (heap_alloc_new _ _) rfl (by unfold maxLen; omega) (by omega) (by simp only [size_al]; omega)
          have HL9 : Hid (w9.ownsRow w.heap.size 3 1 (.slice a8 (y + 1) c8) (y + 1) (ints (L ++ [z]))) := hid (own_app (box_below w8 (.cells #[.bool v] 4 (0, 0))) hW8 hg9 (by rw [ints_append]; exact ho8) (by decide))
          have HW9 : Hid (w9.ownsRow w.heap.size 4 1 (.slice a9 (y + 1) c9) (y + 1) (bools (W ++ [v]))) := hid (by simpa [bools] using ho9)
          have hk8 : Gk w0.heap.size w w8 := hk7.app hBw (box_below w7 (.cells #[.int .i64 z] 3 (0, 0))) hL7 hg8
          have HK9 : Hid (Gk w0.heap.size w w9) := hid (hk8.app hBw (box_below w8 (.cells #[.bool v] 4 (0, 0))) hW8 hg9)
          have hg8X := (HG7.out.new (box_below w7 (.cells #[.int .i64 z] 3 (0, 0)))).grown (hL7.alloc (.cells #[.int .i64 z] 3 (0, 0))) (fun j hj => .inl (HXL.out j hj)) hg8
          have hg9X := (hg8X.below (box_below w8 (.cells #[.bool v] 4 (0, 0)))).grownO (hW8.alloc (.cells #[.bool v] 4 (0, 0))) (by decide) (by decide) (by decide) hg9
          have HGS9 := hid (hgs7.reGB hg9X)
          have HX9 := hid (show ∀ g, (Value.slice a8 (y + 1) c8).ownBlock = some g → _ from fun g hg => (by
            rcases ha8 with e | e
            · exact .inl (.inl (HXL.out g (e ▸ hg)))
            · have h3 := (ho8.lt g hg).2
              rw [e] at hg
              injection hg with hg
              exact .inr ⟨by omega, h3⟩ : (fun k => (X' k ∨ w7.heap.size ≤ k ∧ k < (w7.alloc (.cells #[.int .i64 z] 3 (0, 0))).heap.size) ∨ (w7.alloc (.cells #[.int .i64 z] 3 (0, 0))).heap.size ≤ k ∧ k < w8.heap.size) g))
          have HC9 : Hid (w9.heap[w.heap.size]? = some (.cells #[.pointer (some ⟨b, 0, none⟩), .slice aI k cI, .slice aV k cV] 46)) := hid (blk_app (box_below w8 (.cells #[.bool v] 4 (0, 0))) hW8 hg9 (blk_app (box_below w7 (.cells #[.int .i64 z] 3 (0, 0))) hL7 hg8 HC7.out (by decide)) (by decide))
          have HY9 : Hid (y + 1 = 1 + k + (i + 1)) := hid (by have := HY.out; omega)
          clear hgs7 hbd7 hzl hL7 hW7 hk7 ho8 hg8 ha8 hW8 ho9 hg9 hk8 hg8X hg9X hz7 hz8
          go_wp2_with fail
          go_roundw
          case rel => exact ⟨i + 1, y + 1, n', _, G', K', L ++ [z], W ++ [v], a8, a9, c8, c9, rfl, rfl, by simp, h1, h2, HY9, HGS9, HX9, HL9, HW9, HK9, HC9, HBD7⟩
          case measure => simp [intOf]; omega
        · have hi3 : i = 120 := by omega
          subst hi3
          have d1 : (120 : Int) < gs.length := by omega
          have HM : Hid (min gs.length 120 = 120) := hid (by omega)
          have HE : Hid (Bd G K L W k gs (min gs.length 120) ∧ y = L.length) := hid ⟨by rw [HM.out]; exact HD.out, by rw [HY.out, HD.out.len]⟩
          clear h1 h2
          go_wp2_with fail
          go_ret3
          exact ⟨X', n, _, _, _, G, K, L, W, aL, aW, cL, cW, rfl, HE.out.2, HE.out.2, by omega, HGS.out, own_base HL.out hBw, own_base HW.out hBw, HK.out, HE.out.1⟩
      · have hi3 : i = gs.length := by omega
        have HM : Hid (min gs.length 120 = i) := hid (by omega)
        have HE : Hid (Bd G K L W k gs (min gs.length 120) ∧ y = L.length) := hid ⟨by rw [HM.out]; exact HD.out, by rw [HY.out, HD.out.len]⟩
        clear hi3
        go_wp2_with fail
        go_ret3
        exact ⟨X', n, _, _, _, G, K, L, W, aL, aW, cL, cW, rfl, HE.out.2, HE.out.2, by omega, HGS.out, own_base HL.out hBw, own_base HW.out hBw, HK.out, HE.out.1⟩

end Go.Proofs.Ytacmfiikdbekbaa.Ord
