/- The contract of prop.Units. -/
import Derived.Deep.OwnRows
import Derived.WideMake
import Derived.Deep.DrawnRows
import Derived.Test.YtfofabbnbmieoaaQPropU3
import Derived.Test.YtfofabbnbmieoaaQ7
import Derived.Test.YtfofabbnbmieoaaQ16
import Derived.Test.YtfofabbnbmieoaaQ2
import Derived.Test.YtfofabbnbmieoaaQ14

namespace Go.Proofs.Ytfofabbnbmieoaa.Ord
open Go.RowKit Go.Conc

attribute [local go_sem ↓] Go.wp_at_zero Go.wp_at_succ

/-- What Units leaves. -/
def unitsR (n : Nat) (F : List (List Int)) (A : List Int) (w : World) (e : Ending) (w' : World) : Prop :=
  Below w.heap.size w w' ∧ ∃ ar cr, e = .returned (.tuple #[.slice ar (upL n F A).length cr, .bool (upF F A), .int .i64 0]) ∧ SlV w' ar (ints (upL n F A))

theorem unitsR_bad {n : Nat} {F : List (List Int)} {A : List Int} {w w' : World} (hF : ClsOk n F) (h : Bad (normN F) A) (hb : Below w.heap.size w w') : unitsR n F A w (.returned (.tuple #[.slice none 0 0, .bool true, .int .i64 0])) w' := by
  obtain ⟨e1, e2⟩ := normN_up hF A
  obtain ⟨e3, e4⟩ := bad_up h n
  refine ⟨hb, none, 0, ?_, ?_⟩
  · rw [← e1, ← e2, e3, e4]; rfl
  · rw [← e1, e3]; exact SlV.nil _ _

theorem own_touchP {w w' : World} {B e s n : Nat} {v : Value} {xs : List Value} {S : Nat → Prop} (h : w.ownsRow B e s v n xs) (ht : Touch S w w') (hS : ∀ g, v.ownBlock = some g → ¬ S g) : w'.ownsRow B e s v n xs := by
  refine ⟨h.1, ?_⟩
  rcases h.2 with h0 | ⟨g, cap, cur, e1, e2, e3, e4⟩
  · exact .inl h0
  · have hl := (h.lt g (by rw [e1]; rfl)).2
    exact .inr ⟨g, cap, cur, e1, e2, by rw [ht.block g hl (hS g (by rw [e1]; rfl))]; exact e3, e4⟩

theorem new_oneP {w : World} {g : Nat} {u : Value} {e : TypeId} (h : w.heap[g]? = some (.cells #[u] e (0, 0))) : ∀ (j : Nat) (x : Value), [u][j]? = some x → w.cell? ((⟨g, 0, none⟩ : Addr).add j) = some x := by
  intro j x hj
  cases j with
  | succ j => simp at hj
  | zero =>
    simp at hj
    subst hj
    simp [World.cell?, Addr.add, h]

theorem own_ne_it {w : World} {B e s n : Nat} {v : Value} {xs : List Value} {r b : Nat} {es : List (Int × Value)} {left : List Int} (ho : w.ownsRow B e s v n xs) (hi : IT w r b es left) : ∀ g, v.ownBlock = some g → g ≠ r := by
  intro g hg h
  subst h
  rcases ho.2 with ⟨rfl, _⟩ | ⟨g', cap, cur, rfl, _, hb, _⟩
  · cases hg
  · injection hg with h
    have h : g' = g := h
    subst h
    obtain ⟨arr, c, seen, _, _, _, h4, _⟩ := hi
    rw [hb] at h4
    cases h4

theorem it_append {w8 w9 : World} {r b : Nat} {es : List (Int × Value)} {left : List Int} {o : Obj} {B e s n : Nat} {v : Value} {xs : List Value} (hit : IT w8 r b es left) (ho : w8.ownsRow B e s v n xs) (hg : (w8.alloc o).grownBy w9 v.ownBlock) : IT w9 r b es left := by
  obtain ⟨arr, c, seen, h1, h2, h3, h4, h5⟩ := hit
  have key : ∀ k ob, w8.heap[k]? = some ob → (∀ cs t f, ob ≠ Obj.cells cs t f) → w9.heap[k]? = w8.heap[k]? := fun k ob hk hn => by
    have hlt : k < w8.heap.size := by
      rcases Nat.lt_or_ge k w8.heap.size with h | h
      · exact h
      · rw [Array.getElem?_eq_none h] at hk; cases hk
    rw [hg.block k (by rw [size_al]; omega) ?_, Below.heap_alloc _ _ _ hlt]
    intro e
    rcases ho.2 with ⟨rfl, _⟩ | ⟨g, cap, cur, rfl, _, hb, _⟩
    · cases e
    · injection e with e
      have e : k = g := e
      subst e
      rw [hb] at hk
      injection hk with hk
      exact hn _ _ _ hk.symm
  exact ⟨arr, c, seen, (key _ _ h1 (by intros; simp)).trans h1, h2, h3, (key _ _ h4 (by intros; simp)).trans h4, h5⟩

theorem box_cells (n : Nat) (acl : Option Addr) (m cf : Nat) (w : World) (o : Obj) : ((w.alloc (fbox n acl m cf)).alloc o).cell? ⟨w.heap.size, 0, none⟩ = some (.int .i64 n) ∧ ((w.alloc (fbox n acl m cf)).alloc o).cell? ⟨w.heap.size, 1, none⟩ = some (.slice acl m cf) := by
  have hb : ((w.alloc (fbox n acl m cf)).alloc o).heap[w.heap.size]? = some (fbox n acl m cf) := (Below.heap_alloc _ _ _ (by simp)).trans (heap_alloc_new _ _)
  unfold fbox at hb ⊢
  constructor <;> simp [World.cell?, hb]

theorem units_sorted {n : Nat} {F : List (List Int)} {A K ys : List Int} (hF : ClsOk n F) {D : List (List Int)} (hC : normN F = D) (hcl : Closed D A K) (hok : ∀ a ∈ K, LitOk n a) (hnd : ys.Nodup) (hm : ∀ a, a ∈ ys ↔ a ∈ K)
    (hs : ys.Pairwise fun a b => lessB b a = false) : upL n F A = ys ∧ upF F A = false := by
  obtain ⟨e1, e2⟩ := normN_up hF A
  obtain ⟨e3, e4⟩ := hcl.up n
  rw [← e1, ← e2, hC, e4, e3]
  refine ⟨asc_ext (byVar_asc n _ fun a ha => ?_) ?_ fun a => ?_, rfl⟩
  · simp only [decide_eq_true_eq, decide_eq_false_iff_not] at *
    exact hcl.cons a ha
  · refine hs.imp₂ (fun a b h1 h2 => ?_) hnd
    cases h : lessB a b with
    | true => rfl
    | false => exact absurd (lessB_tri h h1) h2
  · rw [mem_byVar, hm]
    simp only [decide_eq_true_eq]
    exact ⟨fun h => h.2, fun h => ⟨hok a h, h⟩⟩

set_option maxRecDepth 100000 in
set_option maxHeartbeats 16000000 in
theorem prop_Units (n : Nat) (acl : Option Addr) (F : List (List Int)) (mf cf : Nat) (aas : Option Addr) (A : List Int) (ma cas : Nat) (w : World) (hn : n ≤ 1048576) (hmf : mf = F.length) (hma : ma = A.length) (hf : FOk F) (hr : Rws w acl F) (hs : SlV w aas (ints A))
    (hFl : F.length ≤ 1048576) (hAl : A.length ≤ 4294967296) (hcl : ∀ c ∈ F, c.length ≤ 1048576) (hchk : cnfCheck n F = 0) (hF : ClsOk n F) (hA : ∀ a ∈ A, LitOk n a) :
    Calls Try.prog 47 #[.agg #[.int .i64 n, .slice acl mf cf], .slice aas ma cas] w (unitsR n F A w) := by
  obtain ⟨i0, hi0, hz0, hz1, hz2⟩ := info_parts info_intU
  obtain ⟨i1, hi1, hy0, hy1, hy2⟩ := info_parts info_intsU
  subst hmf
  subst hma
  have HF := hid hf
  have hbox := box_below w (fbox n acl F.length cf)
  have HR := hid (hr.below hbox)
  have HS := hid (hs.below hbox)
  have HBOX := hid hbox
  have HCHK := hid hchk
  have HCL := hid hcl
  have HFO := hid hF
  have HA := hid hA
  clear hf hr hs hbox hchk hcl hF hA
  go_enter Try.func47, Try.ntmps47
  go_wp2_with fail
  refine (cnf_CheckR n acl F _ cf 0 _ HCHK.out rfl HF.out HR.out (by omega)).mono ?_
  rintro e wx ⟨rfl, rfl⟩
  generalize hw1 : (w.alloc _).alloc _ = w1
  have HBel1 : Hid (Below w.heap.size w w1) := by rw [← hw1]; exact ((Below.refl _ _).alloc (Nat.le_refl _) _).alloc (by simp) _
  have hc20 : w1.cell? ⟨w.heap.size, 0, none⟩ = some (.int .i64 n) := by rw [← hw1]; exact (box_cells _ _ _ _ _ _).1
  have hc21 : w1.cell? ⟨w.heap.size, 1, none⟩ = some (.slice acl F.length cf) := by rw [← hw1]; exact (box_cells _ _ _ _ _ _).2
  have hz1' : w.heap.size < w1.heap.size := by rw [← hw1]; simp; omega
  have HR1 := hid (HR.out.below (show Below (w.alloc (fbox n acl F.length cf)).heap.size _ w1 by rw [← hw1]; exact box_below _ _))
  have HS1 := hid (HS.out.below (show Below (w.alloc (fbox n acl F.length cf)).heap.size _ w1 by rw [← hw1]; exact box_below _ _))
  clear hw1 HR HS
  go_wp2_with fail
  go_loop [31] (fun s31 => ∃ k : Nat, s31 = .int .i64 k ∧ k ≤ A.length) (fun s31 => (A.length - (intOf s31)).toNat)
  case atStart => exact ⟨0, rfl, Nat.zero_le _⟩
  case round =>
    obtain ⟨k, rfl, hk⟩ := hrel
    by_cases hlt : k < A.length
    · obtain ⟨bo, oo, x, rfl, hcx, hxk⟩ := HS1.out.int hlt
      have hx := HA.out x (List.mem_of_getElem? hxk)
      unfold LitOk at hx
      have d1 : (x == 0) = false := by rw [beq_eq_false_iff_ne]; exact hx.1
      have d2 : decide ((n : Int) < x) = false := decide_eq_false (by omega)
      have d3 : decide (x < -(n : Int)) = false := decide_eq_false (by omega)
      have hwn : IntKind.i64.wrap (-(n : Int)) = -(n : Int) := IntWalk.i64_in _ (by omega)
      have hwk : IntKind.i64.wrap ((k : Int) + 1) = (k : Int) + 1 := IntWalk.i64_in _ (by omega)
      clear hxk hx
      go_wp2_with fail
      go_round
      case rel => exact ⟨k + 1, by simp, hlt⟩
      case measure => simp [intOf]; omega
    · have hwn1 : IntKind.i64.wrap ((n : Int) + 1) = (n : Int) + 1 := IntWalk.i64_in _ (by omega)
      have hm1 := fun w : World => run_makeMap_plain (P := Try.prog) w 99
      have hm2 := fun w : World => run_makeMap_plain (P := Try.prog) w 100
      have hmc : ∀ w : World, (Instr.makeChan 101 (.int .i64 ((n : Int) + 1))).run Try.prog w = .ok (.chan (some w.heap.size)) (w.alloc (.chan (n + 1) #[] false 0 0 false)) := fun w => by
        have := run_makeChan (P := Try.prog) (w := w) Try.underlying101 hi0 .i64 (n + 1) (by omega) (by rw [hz2]; omega)
        simpa using this
      go_wp2_with fail
      clear hm1 hm2 hmc hwn1
      generalize hw2 : (((w1.alloc _).alloc _).alloc _).alloc _ = w2
      have hB0 := bst_new w1 w2 (n + 1) hw2
      generalize hbx : w1.heap.size + 1 + 1 + 1 = bx at hB0 ⊢
      generalize hbk : w1.heap.size + 1 = bk at hB0
      generalize hbc : bk + 1 = bc at hB0
      generalize hbw : w1.heap.size = bw at hB0
      have HB0 := hid hB0
      have HBW := hid hbw
      have hfin : ∀ w' : World, Below w1.heap.size w1 w' → Below w.heap.size w w' := fun w' h => HBel1.out.trans (h.mono (by omega))
      have HFIN := hid hfin
      clear hfin hw2 hB0 hbx hbk hbc hbw
      go_loopw [61] (fun s61 wr => ∃ (k : Nat) (K : List Int), s61 = .int .i64 k ∧ k ≤ A.length ∧ Hid (BSt (fun _ => .cls) bw w1 wr bx nilS nilS bw bk bc (n + 1) [] (fun _ => []) [] K) ∧ Hid (PA n A K k)) (fun s61 _ => (A.length - (intOf s61)).toNat)
      case atStart => exact ⟨0, [], rfl, Nat.zero_le _, HB0, pa_start n A⟩
      case round =>
        clear HB0
        obtain ⟨k, K, rfl, hk, HB, HP⟩ := hrel
        by_cases hlt : k < A.length
        · have hbel : Below w1.heap.size w1 wr := by have := HB.out.bel; rw [← HBW.out] at this; exact this
          obtain ⟨bo, oo, x, rfl, hcx, hxk⟩ := (HS1.out.below hbel).int hlt
          have hx := HA.out x (List.mem_of_getElem? hxk)
          unfold LitOk at hx
          have hwk : IntKind.i64.wrap ((k : Int) + 1) = (k : Int) + 1 := IntWalk.i64_in _ (by omega)
          have hKl := pa_len HP.out HA.out
          have hsl : (setK K x).length < 0 + (n + 1) + 1 := by
            unfold setK
            split
            · omega
            · split
              · omega
              · simp; omega
          have HXK := hid hxk
          have hxb : -1048576 ≤ x ∧ x ≤ 1048576 := by omega
          by_cases hn : -x ∈ K
          · have HBAD := hid (pa_bad HP.out hxk hn (normN F))
            clear hbel hxk hx
            go_wp2_with fail
            refine (prop_set _ bx nilS nilS bw bk bc (n + 1) 0 [] (fun _ => []) [] _ K x false _ (by simpa using hn) hxb HB.out.fix HB.out.dyn hsl).mono ?_
            rintro e w4 ⟨rfl, h4, ht4⟩
            have hb4 := (HB.out.set h4 ht4).bel
            rw [← HBW.out] at hb4
            have HB4 := hid hb4
            clear h4 ht4 hb4
            go_wp2_with fail
            go_ret3
            exact unitsR_bad HFO.out HBAD.out (HFIN.out _ HB4.out)
          · have HPn := hid (pa_step HP.out hxk hx.1 hn)
            clear hbel hxk hx
            go_wp2_with fail
            refine (prop_set _ bx nilS nilS bw bk bc (n + 1) 0 [] (fun _ => []) [] _ K x true _ (by simpa using hn) hxb HB.out.fix HB.out.dyn hsl).mono ?_
            rintro e w4 ⟨rfl, h4, ht4⟩
            have HB4 := hid (HB.out.set h4 ht4)
            clear h4 ht4
            go_wp2_with fail
            go_roundw
            case rel => exact ⟨k + 1, setK K x, by simp, hlt, HB4, HPn⟩
            case measure => simp [intOf]; omega
        · have HPU : Hid (PU n (normN F) A K 0) := hid (pu_start (by have := HP.out; rwa [show k = A.length by omega] at this) HA.out)
          have hbel : Below w1.heap.size w1 wr := by have := HB.out.bel; rw [← HBW.out] at this; exact this
          have hc20' := below_keeps hbel _ _ hc20
          have hc21' := below_keeps hbel _ _ hc21
          have hc20F := hc20
          have hc21F := hc21
          clear hbel
          go_wp2_with fail
          clear hc20' hc21' hc20F hc21F
          have HB0 : Hid (BSt (fun _ => .cls) bw w1 wr bx nilS nilS bw bk bc (n + 1) (normN (F.take 0)) (withL (normN (F.take 0))) [] K) := HB
          clear HB
          go_loopw [73] (fun s73 wr => ∃ (k : Nat) (vc vo : Value) (es : List (Int × Value)) (tag : Nat → Tag), s73 = .int .i64 k ∧ k ≤ F.length ∧ Hid (BSt tag bw w1 wr bx vc vo bw bk bc (n + 1) (normN (F.take k)) (withL (normN (F.take k))) es K)) (fun s73 _ => (F.length - (intOf s73)).toNat)
          case atStart => exact ⟨0, nilS, nilS, [], _, rfl, Nat.zero_le _, HB0⟩
          case round =>
            clear HB0
            obtain ⟨j, vc, vo, es, tag, rfl, hj, HB⟩ := hrel
            by_cases hlj : j < F.length
            · have hbel : Below w1.heap.size w1 wr := by have := HB.out.bel; rw [← HBW.out] at this; exact this
              obtain ⟨bo, oo, c, ac, cc, rfl, hcell, hsc, hc, hci, -, hcc, hcn⟩ := (HR1.out.below hbel).row HF.out hlj
              have hclen := HCL.out c (List.mem_of_getElem? hc)
              have hwj : IntKind.i64.wrap ((j : Int) + 1) = (j : Int) + 1 := IntWalk.i64_in _ (by omega)
              have hCN := normN_length (F.take j)
              rw [List.length_take] at hCN
              obtain ⟨C, hC⟩ : ∃ C, normN (F.take j) = C := ⟨_, rfl⟩
              rw [hC] at HB hCN
              have HC := hid hC
              have HCC := hid hc
              have HSC := hid hsc
              have HCI := hid hci
              have HCN := hid hcn
              clear hbel hC hc hsc hci hcn
              cases ht : adjB (normL c) with
              | true =>
                have HSK := hid (normN_skip HCC.out ht)
                have HT := hid ht
                clear ht
                go_wp2_with fail
                refine (lit_NormR ac c _ true _ cc _ HT.out rfl rfl hcc HCN.out HSC.out HCI.out (by omega)).mono ?_
                rintro e w5 ⟨al, cl, rfl, -, hb5⟩
                have HB5 := hid (HB.out.grow hb5 (tag' := tag) (fun _ _ => rfl))
                clear hb5
                go_wp2_with fail
                go_roundw
                case rel => exact ⟨j + 1, vc, vo, es, tag, by simp, hlj, by rw [HSK.out, HC.out]; exact HB5⟩
                case measure => simp [intOf]; omega
              | false =>
                have HKP := hid (normN_keep HCC.out ht)
                have hnv : normV c = normL c := by unfold normV; rw [ht]; rfl
                have hll : (normL c).length ≤ 1048576 := Nat.le_trans (normL_length c) hclen
                obtain ⟨l, hl⟩ : ∃ l, normL c = l := ⟨_, rfl⟩
                rw [hl] at hll hnv
                have HT := hid ht
                have HNV := hid hnv
                have HL := hid hl
                clear ht hnv hl
                go_wp2_with fail
                refine (lit_NormR ac c l false _ cc _ HT.out HNV.out rfl hcc HCN.out HSC.out HCI.out (by omega)).mono ?_
                rintro e w5 ⟨al, cl, rfl, hot, hb5⟩
                have hb2 := HB.out.grow hb5 (tag' := fun g => if g < wr.heap.size then tag g else .cls) (fun g hg => by simp [hg])
                generalize htg : (fun g => if g < wr.heap.size then tag g else Tag.cls) = tag2 at hb2
                have hu : OwnTg w5 tag2 (.slice al l.length cl) l := by
                  obtain ⟨a, c, h1, h2, h3, h4⟩ := hot
                  refine ⟨a, c, h1, h2, h3, fun ad had => ?_⟩
                  obtain ⟨g, off, cur, e1, e2, e3, e4⟩ := h4 ad had
                  refine ⟨g, off, cur, e1, ?_, e3, e4⟩
                  rw [← htg]
                  show (if g < wr.heap.size then tag g else Tag.cls) = Tag.cls
                  rw [if_neg (by omega)]
                have HU := hid hu
                have HB2 := hid hb2
                obtain ⟨us, hu1, hu2⟩ := hb2.cls
                obtain ⟨av, cv, rfl⟩ := own_lenV' hu1
                obtain ⟨ao, co, rfl⟩ := own_lenV' hb2.op
                have hcb0 : w5.cell? ⟨bx, 0, none⟩ = some (.slice av C.length cv) := fit_cell (vs := [.slice av C.length cv, .slice ao C.length co, .map (some bw), .map (some bk), .chan (some bc)]) hb2.blk 0
                have hcb1 : w5.cell? ⟨bx, 1, none⟩ = some (.slice ao C.length co) := fit_cell (vs := [.slice av C.length cv, .slice ao C.length co, .map (some bw), .map (some bk), .chan (some bc)]) hb2.blk 1
                have HU1 := hid hu1
                have HU2 := hid hu2
                have hle5 := hb2.le
                have hnv5 := (HB2.out.notS).1
                have hf5 : ∀ k, w5.frozen? ⟨bx, k, none⟩ = false := fun k => frozen_of_row _ _ _ _ _ HB2.out.blk
                have hbvc : (Value.slice av C.length cv).ownBlock ≠ some bx := fun e => by obtain ⟨cur, hc⟩ := own_cells HU1.out e; rw [HB2.out.blk] at hc; simp at hc
                have hbvo : (Value.slice ao C.length co).ownBlock ≠ some bx := fun e => hnv5 (.inl e)
                have hvv : ∀ g, (Value.slice ao C.length co).ownBlock = some g → (Value.slice av C.length cv).ownBlock ≠ some g := fun g h1 h2 => by
                  obtain ⟨c1, e1⟩ := own_cells HB2.out.op h1
                  obtain ⟨c2, e2⟩ := own_cells HU1.out h2
                  rw [e1] at e2
                  simp at e2
                have HNE := hid (And.intro hbvc (And.intro hbvo hvv))
                clear hot hb5 hb2 htg hu hu1 hu2 HB hnv5 hbvc hbvo hvv
                have hf50 := hf5 0
                have hf51 := hf5 1
                clear hf5
                go_wp2_with fail
                refine then_mono (units_reg23 n bx bw bk bc av cv ao co C l es K al cl tag2 w1 w5 HB2 HU (by omega) _ _ _ _ _ _ _ _ _ _ _ _ _ _ _ _ _ _ _ _ _ _ _ _ _ _ _ _ _ _ _ _ _ _ _ _ _ _ _ _ _ _ _ _ _ _ _ _ _ _ _ _ _ _ _ _ _ _ _ _ _ _ _ _ _ _ _ _ _ _ _ _ _ _ _ _ _ _ _ _ _ _ _ _ _ _ _ _ _ _ _ _ _ _ _ _ _ _ _ _ _ _ _ _ _ _ _ _ _ _ _ _ _ _ _ _ _ _ _ _ _ _ _ _ _ _ _ _ _ _ _ _ _ _ _ _ _ _ _ _ _ _ _ _ _ _ _ _ _ _ _ _ _ _ _ _ _ _ _ _ _ _ _ _ _ _ _ _ _ _ _ _ _ _ _ _ _ _ _ _ _ ?_)
                intro s88 s89 s90 s91 s92 s93 s94 s95 s96 s97 s98 s99 s100 s101 s102 s103 s104 s105 s106 s107 s108 wx vc' vo' tag3 HB3 HU3
                have HLN : Hid (l.Nodup) := hid (by rw [← HL.out]; exact asc_nodup (asc_normL c))
                have HLI : Hid (∀ x ∈ l, I64 x) := hid (fun x hx => HCI.out x (by rw [← HL.out] at hx; exact (mem_normL_iff.1 hx).1))
                rw [← withM_zero C l] at HB3
                clear HB2 HU1 HU2 HU HNE hcb0 hcb1 hf50 hf51
                go_wp2_with fail
                go_loopw [111] (fun s111 wq => ∃ (m : Nat) (es' : List (Int × Value)) (tag4 : Nat → Tag), s111 = .int .i64 m ∧ m ≤ l.length ∧ Hid (BSt tag4 bw w1 wq bx vc' vo' bw bk bc (n + 1) (C ++ [l]) (withM C l m) es' K) ∧ Hid (OwnTg wq tag4 (.slice al l.length cl) l)) (fun s111 _ => (l.length - (intOf s111)).toNat)
                case atStart => exact ⟨0, es, tag3, rfl, Nat.zero_le _, HB3, HU3⟩
                case round =>
                  clear HB3 HU3
                  obtain ⟨m, es', tag4, rfl, hm, HB5, HU5⟩ := hrel
                  by_cases hml : m < l.length
                  · obtain ⟨a5, c5, hsl5, -, -, hrd5⟩ := HU5.out.sli
                    injection hsl5 with q1 q2 q3
                    subst q1
                    subst q3
                    obtain ⟨ba, oa, x, rfl, hcx, hxm⟩ := hrd5.int hml
                    have hwm : IntKind.i64.wrap ((m : Int) + 1) = (m : Int) + 1 := IntWalk.i64_in _ (by omega)
                    have hml2 : (m : Int) < l.length := by omega
                    have HXM := hid hxm
                    have hzS : ∀ x : World, (zeroValue 22).run Try.prog x = .ok nilS x := fun x => by kernel_rfl
                    have hlkG : ∀ x' : World, IM x' bw es' → (Instr.lookup 99 (.map (some bw)) (.int .i64 x) false).run Try.prog x' = .ok ((aget es' x).getD nilS) x' := fun x' h => im_lookup (P := Try.prog) Try.underlying99 Try.underlying3 (hzS x') h x
                    have hvr := HB5.out.wr x
                    obtain ⟨av, cv, hval⟩ := own_lenV' hvr
                    rw [hval] at hvr hlkG
                    have hlk0 := hlkG wr.drew (HB5.out.wi.frame rfl)
                    have hlk1 := fun o => hlkG (wr.alloc o) (HB5.out.wi.frame (Below.heap_alloc _ _ _ HB5.out.wi.lt))
                    have hlk2 := fun o => hlkG (wr.alloc o).drew (HB5.out.wi.frame (Below.heap_alloc _ _ _ HB5.out.wi.lt))
                    have hcb2 : wr.cell? ⟨bx, 2, none⟩ = some (.map (some bw)) := fit_cell (vs := [vc', vo', .map (some bw), .map (some bk), .chan (some bc)]) HB5.out.blk 2
                    have hcb2a := fun o => below_keeps (box_below wr o) _ _ hcb2
                    have hwl : (withM C l m x).length ≤ 1048577 := by
                      unfold withM
                      rw [List.length_append]
                      have h1 : (withL C x).length ≤ C.length := by
                        unfold withL
                        rw [List.length_map]
                        have := List.length_filter_le (fun i => decide (x ∈ C.getD i [])) (List.range C.length)
                        rw [List.length_range] at this
                        exact this
                      split
                      · simp; omega
                      · simp; omega
                    have hbv : (Value.slice av (withM C l m x).length cv).ownBlock ≠ some bx := fun e => by obtain ⟨cur, hc⟩ := own_cells hvr e; rw [HB5.out.blk] at hc; simp at hc
                    have hbv2 : (Value.slice av (withM C l m x).length cv).ownBlock ≠ some bw := fun e => by
                      obtain ⟨cur, hc⟩ := own_cells hvr e
                      obtain ⟨arr, ck, hm, -⟩ := HB5.out.wi
                      rw [hm] at hc; cases hc
                    obtain ⟨R, hR⟩ : ∃ R, withM C l m x = R := ⟨_, rfl⟩
                    rw [hR] at hvr hlk0 hlk1 hlk2 hwl hbv hbv2 hval
                    have HRR := hid hR
                    have HVAL := hid hval
                    have HVR := hid hvr
                    have HBV := hid (And.intro hbv hbv2)
                    have hle6 := HB5.out.le
                    clear hlkG hvr hval hbv hbv2 hR hzS
                    go_wp2_with fail
                    go_region_law (refine step_append_at1 rfl _ _ 22 rfl bw 3 i0 (.int .i64 0) 8 Try.underlying22 hi0 hz0 hz1 hz2 rfl (.slice av R.length cv) R.length (ints R) (by rfl) (HVR.out.alloc _) _ (.int .i64 (C.length : Int)) (by rfl) (heap_alloc_new _ _) rfl (by unfold maxLen; omega) (by omega) (by simp; omega) ?_; intro v8 w8 h8 hg8 ha8; obtain ⟨a8, c8, rfl⟩ := own_lenV' h8; have hT8 : Touch (fun k => (Value.slice av R.length cv).ownBlock = some k) wr w8 := ((Touch.refl _ wr).drew.alloc _).grown hg8 (fun k hk => .inl hk); have hA8 : (Value.slice a8 (R.length + 1) c8).ownBlock = (Value.slice av R.length cv).ownBlock ∨ ∃ g, (Value.slice a8 (R.length + 1) c8).ownBlock = some g ∧ wr.heap.size ≤ g := ha8.imp_right (fun h => ⟨_, h, by first | exact Nat.le_refl _ | exact Nat.le_succ _ | (simp)⟩); have hcb8 : w8.cell? ⟨bx, 2, none⟩ = some (.map (some bw)) := fit_cell (vs := [vc', vo', .map (some bw), .map (some bk), .chan (some bc)]) ((hT8.block bx (Array.getElem?_eq_some_iff.1 HB5.out.blk).1 HBV.out.1).trans HB5.out.blk) 2; obtain ⟨w3, hup, him, ht3, hz3⟩ := im_update (P := Try.prog) Try.underlying99 Try.underlying3 (HB5.out.wi.frame (hT8.block bw HB5.out.wi.lt HBV.out.2)) x (.slice a8 (R.length + 1) c8); have H8 := hid h8; have HT8 := hid hT8; have HA8 := hid hA8; have HIM := hid him; have HT3 := hid ht3; clear h8 hT8 hA8 ha8 hg8 him ht3 hz3)
                    all_goals
                      go_wp2_with fail
                      go_roundw
                      case rel =>
                        have hw := HB5.out.wth (a := x) (i := (C.length : Int)) (by rw [HVAL.out]; exact HT8.out) (by rw [HRR.out]; exact H8.out) (by rw [HVAL.out]; exact HA8.out) HIM.out HT3.out
                        rw [withM_step HLN.out HXM.out] at hw
                        exact ⟨m + 1, _, _, by simp, hml, hw.1, hw.2 _ _ HU5.out⟩
                      case measure => simp [intOf]; omega
                  · have HB6 : Hid (BSt tag4 bw w1 wr bx vc' vo' bw bk bc (n + 1) (normN (F.take (j + 1))) (withL (normN (F.take (j + 1)))) es' K) := by
                      have := HB5.out
                      rw [withM_done C l (by omega)] at this
                      have e : normN (F.take (j + 1)) = C ++ [l] := by rw [HKP.out, HC.out, HL.out]
                      rw [e]; exact this
                    clear HB5 HU5
                    go_wp2_with fail
                    go_roundw
                    case rel => exact ⟨j + 1, vc', vo', es', tag4, by simp, hlj, HB6⟩
                    case measure => simp [intOf]; omega
            · obtain rfl : j = F.length := by omega
              have hCN := normN_length F
              rw [List.take_length] at HB
              have hNO := hid (normN_ok HFO.out)
              have hND := hid (normN_nodup F)
              obtain ⟨C, hC⟩ : ∃ C, normN F = C := ⟨_, rfl⟩
              rw [hC] at HB HPU hCN hNO hND
              have HC := hid hC
              have HCCL : Hid (∀ c ∈ C, c.length ≤ 1048576) := hid (fun c hc => by
                rw [← HC.out] at hc
                obtain ⟨d, hd, -, rfl⟩ := normN_mem.1 hc
                exact Nat.le_trans (normL_length d) (HCL.out d hd))
              clear hC
              have hfx := HB.out.fix.now
              obtain ⟨av, cv, hvc, -⟩ := hfx.cls
              subst hvc
              obtain ⟨hcb0, -, -, -, -⟩ := hfx.cells
              clear hfx
              go_wp2_with fail
              clear hcb0
              go_loopw [136] (fun s136 wq => ∃ (i : Nat) (K' : List Int), s136 = .int .i64 i ∧ i ≤ C.length ∧ Hid (BSt tag bw w1 wq bx (.slice av C.length cv) vo bw bk bc (n + 1) C (withL C) es K') ∧ Hid (PU n C A K' i)) (fun s136 _ => (C.length - (intOf s136)).toNat)
              case atStart => exact ⟨0, K, rfl, Nat.zero_le _, HB, HPU⟩
              case round =>
                clear HB HPU
                obtain ⟨i, K', rfl, hi, HB, HPU⟩ := hrel
                by_cases hil : i < C.length
                · obtain ⟨c, hc⟩ : ∃ c, C[i]? = some c := ⟨_, List.getElem?_eq_getElem hil⟩
                  obtain ⟨a', c', hvc, hrd⟩ := HB.out.fix.now.cls
                  injection hvc with hv1 hv2 hv3
                  subst hv1
                  subst hv3
                  obtain ⟨g, o, u, rfl, hcu, hu⟩ := hrd i c hc
                  obtain ⟨au, cu, rfl, -, -, hsu⟩ := hu
                  have hil2 : (i : Int) < C.length := by omega
                  have hwi : IntKind.i64.wrap ((i : Int) + 1) = (i : Int) + 1 := IntWalk.i64_in _ (by omega)
                  have HCI := hid hc
                  clear hrd hc
                  have hcl1 := HCCL.out c (List.mem_of_getElem? HCI.out)
                  by_cases h2 : 2 ≤ c.length
                  · have HN := hid (pu_skip HPU.out HCI.out h2)
                    obtain ⟨m2, hm2⟩ : ∃ m2, c.length = m2 := ⟨_, rfl⟩
                    rw [hm2] at hcu h2
                    have d1 : ((m2 : Int) == 0) = false := by rw [beq_eq_false_iff_ne]; omega
                    have d2 : ((m2 : Int) == 1) = false := by rw [beq_eq_false_iff_ne]; omega
                    clear hsu hm2 hcl1
                    go_wp2_with fail
                    go_roundw
                    case rel => exact ⟨i + 1, K', by simp, hil, HB, HN⟩
                    case measure => simp [intOf]; omega
                  · rcases c with _ | ⟨x, _ | ⟨y, r⟩⟩
                    case nil =>
                      have HBAD := hid (pu_empty (A := A) HCI.out)
                      have hb4 := HB.out.bel
                      rw [← HBW.out] at hb4
                      have HB4 := hid hb4
                      have hcu' : _ = some (Value.slice au 0 cu) := hcu
                      clear hsu hb4 hcu
                      go_wp2_with fail
                      go_ret3
                      exact unitsR_bad HFO.out (by rw [HC.out]; exact HBAD.out) (HFIN.out _ HB4.out)
                    case cons.nil =>
                      obtain ⟨bs, os, rfl, hcx⟩ := hsu.head
                      have hcu' : _ = some (Value.slice (some ⟨bs, os, none⟩) 1 cu) := hcu
                      clear hcu
                      have hx := hNO.out _ (List.mem_of_getElem? HCI.out) x (by simp)
                      unfold LitOk at hx
                      have hxb : -1048576 ≤ x ∧ x ≤ 1048576 := by omega
                      have hKl := lits_le HPU.out.knod HPU.out.cons HPU.out.kok
                      have hsl : (setK K' x).length < 0 + (n + 1) + 1 := by
                        unfold setK
                        split
                        · omega
                        · split
                          · omega
                          · simp; omega
                      clear hsu hx
                      by_cases hn : -x ∈ K'
                      · have HBAD := hid (pu_bad HPU.out HCI.out hn)
                        go_wp2_with fail
                        refine (prop_set _ bx _ vo bw bk bc (n + 1) 0 C (withL C) es _ K' x false _ (by simpa using hn) hxb HB.out.fix HB.out.dyn hsl).mono ?_
                        rintro e w4 ⟨rfl, h4, ht4⟩
                        have hb4 := HB.out.touchB ht4
                        rw [← HBW.out] at hb4
                        have HB4 := hid hb4
                        clear h4 ht4 hb4
                        go_wp2_with fail
                        go_ret3
                        exact unitsR_bad HFO.out (by rw [HC.out]; exact HBAD.out) (HFIN.out _ HB4.out)
                      · have HN := hid (pu_set HPU.out hNO.out HCI.out hn)
                        go_wp2_with fail
                        refine (prop_set _ bx _ vo bw bk bc (n + 1) 0 C (withL C) es _ K' x true _ (by simpa using hn) hxb HB.out.fix HB.out.dyn hsl).mono ?_
                        rintro e w4 ⟨rfl, h4, ht4⟩
                        have HB4 := hid (HB.out.set h4 ht4)
                        clear h4 ht4
                        go_wp2_with fail
                        go_roundw
                        case rel => exact ⟨i + 1, setK K' x, by simp, hil, HB4, HN⟩
                        case measure => simp [intOf]; omega
                    case cons.cons => exact absurd (by simp) h2
                · have HPI := hid (pu_pi HPU.out (by omega) hNO.out hND.out)
                  go_wp2_with fail
                  refine (prop_run (wS vo bk bc) bx _ vo bw bk bc 0 n C es A _ K' _ hn (by omega) (fun c hc => Nat.le_trans (HCCL.out c hc) (by omega)) HB.out.fix HB.out.dyn HPI.out).mono ?_
                  rintro e w5 ⟨ht5, hr5⟩
                  have hb5 := HB.out.touchB ht5
                  rw [← HBW.out] at hb5
                  have HB5 := hid hb5
                  have hf5 := HB.out.fix.next ht5
                  obtain ⟨-, -, -, hcb3, -⟩ := hf5.now.cells
                  clear ht5 hb5 hf5 HPI
                  rcases hr5 with ⟨rfl, K2, hcl2, hok2, him2⟩ | ⟨rfl, hbad⟩
                  · have HCL2 := hid hcl2
                    have HOK2 := hid hok2
                    have HIM2 := hid him2
                    have hlen2 := im_len (P := Try.prog) Try.underlying100 him2
                    have hkl : (kes K2).length = K2.length := by simp [kes]
                    rw [hkl] at hlen2
                    have HN2 := hid (kes_nodup him2)
                    have hk2 : K2.length ≤ n := lits_le HN2.out hcl2.cons hok2
                    have hle5 : bw ≤ w5.heap.size := by have := HB5.out.size; rw [HBW.out] at this; exact this
                    have HB5' : Hid (Below bw w1 w5) := hid (by have := HB5.out; rw [HBW.out] at this; exact this)
                    clear hcl2 hok2 him2 hkl
                    go_wp2_with (at_make; refine wpList_make_own _ rfl _ _ 22 rfl w5.heap.size 3 i0 (.int .i64 0) 1 Try.underlying22 hi0 hz0 hz1 _ _ _ K2.length rfl rfl (by first | rfl | omega) (by rw [hz2]; omega) (by unfold maxLen; omega) (Nat.le_refl _) ?_; intro w6 ho6 hg6; have hb6 : Below w5.heap.size w5 w6 := (Below.refl _ _).grown hg6 (Nat.le_refl _) (fun q hq => (by cases hq)); have hcb36 : w6.cell? ⟨bx, 3, none⟩ = some (.map (some bk)) := below_keeps hb6 _ _ hcb3; obtain ⟨o7, hrun7, hit7⟩ := it_range (P := Try.prog) Try.underlying100 (HIM2.out.frame (hb6.block bk HIM2.out.lt)); have HIT7 := hid hit7; have HO6 := hid ho6; have HB6 := hid hb6; clear hit7 ho6 hg6 hb6)
                    clear hrun7 hcb36 hlen2 hcb3
                    have hkm : (kes K2).map (·.1) = K2 := by simp [kes, Function.comp_def]
                    rw [hkm] at HIT7
                    have HO7 : Hid ((w6.alloc o7).ownsRow w5.heap.size 3 1 (.slice (some ⟨w5.heap.size, 0, none⟩) 0 K2.length) 0 (ints [])) := hid (HO6.out.alloc o7)
                    have HB7 : Hid (Below w5.heap.size w5 (w6.alloc o7)) := hid (HB6.out.trans (box_below w6 o7 |>.mono HB6.out.size))
                    have hr6 : w5.heap.size ≤ w6.heap.size := HB6.out.size
                    generalize hr : w6.heap.size = r at HIT7 hr6 ⊢
                    generalize hw7 : w6.alloc o7 = w7 at HIT7 HO7 HB7 ⊢
                    have hoblk : r ≠ w5.heap.size → True := fun _ => trivial
                    have hrow : ∀ g, (Value.slice (some ⟨w5.heap.size, 0, none⟩) 0 K2.length).ownBlock = some g → g ≠ r := fun g hg e => by
                      have := (HO6.out.lt g hg).2
                      omega
                    have HROW := hid hrow
                    clear hr hw7 HO6 HB6 hkm hoblk hrow
                    go_loopw [22] (fun s22 wq => ∃ (pre left : List Int), Hid (wq.ownsRow w5.heap.size 3 1 s22 pre.length (ints pre)) ∧ Hid (IT wq r bk (kes K2) left) ∧ Hid (Below w5.heap.size w5 wq) ∧ Hid (∀ g, s22.ownBlock = some g → g ≠ r) ∧ Hid (pre.Nodup ∧ (∀ a, a ∈ K2 ↔ a ∈ pre ∨ a ∈ left) ∧ (∀ a ∈ left, a ∉ pre)) ∧ pre.length + left.length = K2.length) (fun s22 _ => K2.length - lenOfV s22)
                    case atStart => exact ⟨[], K2, HO7, HIT7, HB7, HROW, ⟨List.nodup_nil, by simp, by simp⟩, by simp⟩
                    case round =>
                      clear HO7 HIT7 HB7 HROW
                      obtain ⟨pre, left, HO, HIT, HBq, HRW, HPL, hpl⟩ := hrel
                      obtain ⟨a3, c3, rfl⟩ := own_lenV' HO.out
                      rcases it_next (P := Try.prog) HIT.out 0 with ⟨hl, -⟩ | ⟨k2, v2, w8, hk2l, -, hrn, hit8, ht8, -, hnd8, hen⟩
                      · have hnx := fun ty => (it_next (P := Try.prog) HIT.out ty).resolve_right (fun ⟨k2, v2, w8, hk2l, _⟩ => by rw [hl] at hk2l; cases hk2l)
                        have hnx2 := fun ty => (hnx ty).2
                        have HL0 := hid hl
                        clear hnx hl
                        have hpl0 : pre.length = K2.length := by have := HL0.out; rw [this] at hpl; simpa using hpl
                        have hmem : ∀ a, a ∈ pre ↔ a ∈ K2 := fun a => by rw [HPL.out.2.1 a, HL0.out]; simp
                        have hx64 : ∀ x ∈ pre, I64 x := fun x hx => by
                          have := HOK2.out x ((hmem x).1 hx)
                          unfold LitOk at this
                          unfold I64
                          omega
                        have HMEM := hid hmem
                        have hB5 : w5.heap.size ≤ wr.heap.size := HBq.out.size
                        have hb5w : Below bw w1 wr := HB5'.out.trans (HBq.out.mono hle5)
                        have hb5v : Below bw w1 w5 := HB5'.out
                        rw [← HBW.out] at hb5w hb5v
                        have hbel5 : Below w.heap.size w wr := HFIN.out _ hb5w
                        have HBEL5 := hid hbel5
                        have HW5 : Hid (w.heap.size ≤ w5.heap.size) := hid (HFIN.out _ hb5v).size
                        have hS := sort_SortFunc a3 pre pre.length c3 w5.heap.size 3 wr hx64 rfl (by omega) hB5 HO.out
                        have HSO := hid hS
                        clear hx64 hmem hbel5 hB5 hS hpl hpl0 hb5w hb5v
                        go_wp2_with fail
                        refine HSO.out.mono ?_
                        rintro e w9 ⟨rfl, hb9, ys, hyp, hys, hysl⟩
                        have hres : unitsR n F A w (.returned (.tuple #[.slice a3 pre.length c3, .bool false, .int .i64 0])) w9 := by
                          obtain ⟨u1, u2⟩ := units_sorted HFO.out HC.out HCL2.out HOK2.out (hyp.nodup_iff.2 HPL.out.1) (fun a => (hyp.mem_iff).trans (HMEM.out a)) hys
                          refine ⟨HBEL5.out.trans (hb9.mono HW5.out), a3, c3, ?_, ?_⟩
                          · rw [u1, u2, hyp.length_eq]
                          · rw [u1]; exact hysl
                        have HRES := hid hres
                        clear hb9 hyp hys hysl hres
                        go_wp2_with fail
                        go_ret3
                        exact HRES.out
                      · have hs8 : ∀ k : Nat, k = r → w5.heap.size ≤ k := fun k hk => by omega
                        have ho8 : w8.ownsRow w5.heap.size 3 1 (.slice a3 pre.length c3) pre.length (ints pre) := own_touchP HO.out ht8 fun g hg => HRW.out g hg
                        have hb8 : Below w5.heap.size w5 w8 := HBq.out.trans (ht8.below HBq.out.size hs8)
                        have hpl8 : pre.length < K2.length := by have := List.length_pos_of_mem hk2l; omega
                        have hple : pre.length + 1 + (left.erase k2).length = K2.length := by have := List.length_pos_of_mem hk2l; rw [List.length_erase_of_mem hk2l]; omega
                        have hpl9 : (pre ++ [k2]).Nodup ∧ (∀ a, a ∈ K2 ↔ a ∈ pre ++ [k2] ∨ a ∈ left.erase k2) ∧ (∀ a ∈ left.erase k2, a ∉ pre ++ [k2]) := by
                          obtain ⟨q1, q2, q3⟩ := HPL.out
                          refine ⟨?_, fun a => ?_, fun a ha => ?_⟩
                          · rw [List.nodup_append]
                            refine ⟨q1, by simp, fun a ha c hc => ?_⟩
                            simp only [List.mem_singleton] at hc
                            subst hc
                            rintro rfl
                            exact q3 _ hk2l ha
                          · rw [q2 a, hnd8.mem_erase_iff]
                            simp only [List.mem_append, List.mem_singleton]
                            by_cases h : a = k2
                            · subst h; simp [hk2l]
                            · simp [h]
                          · rw [hnd8.mem_erase_iff] at ha
                            simp only [List.mem_append, List.mem_singleton]
                            rintro (h | h)
                            · exact q3 _ ha.2 h
                            · exact ha.1 h
                        have HPL9 := hid hpl9
                        have HPLE := hid hple
                        have HO8 := hid ho8
                        have HIT8 := hid hit8
                        have HB8 := hid hb8
                        have hle8 : w5.heap.size ≤ w8.heap.size := hb8.size
                        clear hs8 ho8 hb8 hit8 ht8 hnd8 hk2l hpl hple hpl9 HO HIT HBq HRW HPL
                        go_wp2_with (at_builtin; refine wpList_append_own _ rfl _ _ 22 rfl w5.heap.size 3 i0 (.int .i64 0) 1 8 Try.underlying22 hi0 hz0 hz1 hz2 rfl (by decide) _ _ _ rfl (HO8.out.alloc _) ⟨w8.heap.size, 0, none⟩ 1 1 [.int .i64 k2] rfl rfl ?c1 one_int (by unfold maxLen; omega) (by omega) (by simp; omega) ?_)
                        case c1 => exact new_oneP (heap_alloc_new _ _)
                        intro v9 w9 ho9 hg9 _
                        have ho9' : w9.ownsRow w5.heap.size 3 1 v9 (pre ++ [k2]).length (ints (pre ++ [k2])) := by rw [List.length_append, ints_append]; exact ho9
                        have HO9 := hid ho9'
                        have hit9 := it_append HIT8.out HO8.out hg9
                        have HIT9 := hid hit9
                        have hrw9 := own_ne_it ho9' hit9
                        have HRW9 := hid hrw9
                        have hb9 : Below w5.heap.size w5 w9 := HB8.out.trans (((Below.refl _ w8).alloc hle8 _).grown hg9 (by simp; omega) fun k hk => (HO8.out.lt k hk).1)
                        have HB9 := hid hb9
                        clear ho9 ho9' hit9 hrw9 hb9 hg9
                        go_wp2_with fail
                        go_roundw
                        case rel => exact ⟨pre ++ [k2], left.erase k2, HO9, HIT9, HB9, HRW9, HPL9, by have h7 := HPLE.out; rw [List.length_append]; simp only [List.length_singleton]; omega⟩
                        case measure =>
                          obtain ⟨a9, c9, rfl⟩ := own_lenV' HO9.out
                          have h7 := HPLE.out
                          simp only [lenOfV, List.length_append, List.length_singleton]
                          omega
                  · have HBAD := hid hbad
                    clear hbad
                    go_wp2_with fail
                    go_ret3
                    exact unitsR_bad HFO.out (by rw [HC.out]; exact HBAD.out) (HFIN.out _ HB5.out)

end Go.Proofs.Ytfofabbnbmieoaa.Ord
