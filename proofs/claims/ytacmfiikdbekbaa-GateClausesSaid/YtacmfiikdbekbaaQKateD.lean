/- The contracts of gate's New and write. -/
import Derived.Test.YtacmfiikdbekbaaQKateC

namespace Go.Proofs.Ytacmfiikdbekbaa.Ord2
open Go.RowKit Go.Conc Go.Proofs.Ytacmfiikdbekbaa.Ord

attribute [local go_sem ↓] Go.wp_at_zero Go.wp_at_succ

theorem own_new {w : World} {B g e n : Nat} {xs : List Value} (h : w.heap[g]? = some (.cells xs.toArray e (0, 0))) (hB : B ≤ g) (hn : n = xs.length) (hm : n ≤ maxLen) : w.ownsRow B e 1 (.slice (some ⟨g, 0, none⟩) n n) n xs := by
  subst hn
  exact ⟨by omega, .inr ⟨g, _, xs.toArray, rfl, hB, h, Nat.le_refl _, hm, by simp, by simp⟩⟩

theorem ownT_newG {w : World} {b : Nat} {xs : List Int} {n : Nat} (h : w.heap[b]? = some (.cells (ints xs).toArray 3 (0, 0))) (hn : n = xs.length) {B : Nat} (hB : B ≤ b) : OwnT 3 w B (.slice (some ⟨b, 0, none⟩) n n) xs := by
  refine ⟨some ⟨b, 0, none⟩, n, by rw [hn], by omega, (fun e => by cases e), fun ad had => ?_⟩
  injection had with had
  refine ⟨b, 0, _, had.symm, hB, h, fun j x hj => ?_⟩
  simp [ints, hj]

theorem new_oneG {w : World} {g : Nat} {u : Value} {e : TypeId} (h : w.heap[g]? = some (.cells #[u] e (0, 0))) : ∀ (j : Nat) (x : Value), [u][j]? = some x → w.cell? ((⟨g, 0, none⟩ : Addr).add j) = some x := by
  intro j x hj
  cases j with
  | succ j => simp at hj
  | zero =>
    simp at hj
    subst hj
    simp [World.cell?, Addr.add, h]

set_option maxRecDepth 100000 in
set_option maxHeartbeats 1000000 in
theorem gate_New (w : World) (X : Nat → Prop) (hX : ∀ k, X k → k < w.heap.size) :
    Calls Try.prog 42 #[] w fun e w' => ∃ b, e = .returned (.pointer (some ⟨b, 0, none⟩)) ∧ GB X w' w.heap.size b 1 [[1]] ∧ Below w.heap.size w w' := by
  go_enter Try.func42, Try.ntmps42
  go_wp2_with fail
  generalize hW : World.alloc _ _ = wz
  have h0 : wz.heap[w.heap.size]? = some (.cells (ints [1]).toArray 3 (0, 0)) := by rw [← hW]; simp only [heap_al, Array.getElem?_push, Array.size_push]; rw [if_neg (by omega)]; rw [if_neg (by omega)]; rw [if_pos trivial]; rfl
  have h1 : wz.heap[w.heap.size + 1]? = some (.cells [.slice (some ⟨w.heap.size, 0, none⟩) 1 1].toArray 22 (0, 0)) := by rw [← hW]; simp only [heap_al, Array.getElem?_push, Array.size_push]; rw [if_neg (by omega)]; rw [if_pos trivial]
  have h2 : wz.heap[w.heap.size + 1 + 1]? = some (.cells #[.int .i64 (1 : Nat), .slice (some ⟨w.heap.size + 1, 0, none⟩) 1 1] 94) := by rw [← hW]; simp only [heap_al, Array.getElem?_push, Array.size_push]; rw [if_pos trivial]; try rfl
  have hB : Below w.heap.size w wz := by rw [← hW]; exact below_al (below_al (box_below _ _) (by simp only [size_al]; omega) _) (by simp only [size_al]; omega) _
  clear hW
  go_ret
  refine ⟨_, rfl, ⟨_, h2, ⟨_, own_new h1 (by omega) rfl (by unfold maxLen; omega), fun j c hj => ?_, fun g hg hx => by (have hg : some (w.heap.size + 1) = some g := hg; injection hg with hg; have := hX g hx; omega)⟩, ⟨by omega, fun hx => by have := hX _ hx; omega⟩, fun k hk => Nat.lt_of_lt_of_le (hX k hk) hB.size⟩, hB⟩
  match j, hj with
  | 0, hj => simp at hj; subst hj; exact ⟨_, rfl, ownT_newG h0 rfl (Nat.le_refl _), fun a n k e hx => by injection e with e; injection e with e; subst e; have := hX _ hx; simp at this⟩
  | j + 1, hj => simp at hj

theorem own_not_builder {w : World} {B b s n : Nat} {cs : Array Value} {v : Value} {xs : List Value} (h1 : w.heap[b]? = some (.cells cs 94 (0, 0))) (ho : w.ownsRow B 22 s v n xs) : some b ≠ v.ownBlock := by
  intro e
  rcases ho.2 with ⟨rfl, _⟩ | ⟨g', cap, cur, rfl, _, hg', _⟩
  · cases e
  · injection e with e
    have e : b = g' := e
    rw [← e, h1] at hg'
    injection hg' with hg'
    injection hg' with _ hg' _
    exact absurd hg' (by decide)

set_option maxRecDepth 100000 in
set_option maxHeartbeats 8000000 in
theorem gate_write {X : Nat → Prop} (w : World) (B b n : Nat) (G : List (List Int)) (kind : Nat) (al : Option Addr) (l : List Int) (m cp : Nat) (h : GB X w B b n G) (hn : n < 1048576) (hm : m = l.length) (hs : OwnT 3 w B (.slice al l.length cp) l) (hll : l.length ≤ 3) (hk : kind < 3) (hT : ∀ c ∈ gateT kind, ∀ p ∈ c, p.natAbs < 2 + l.length) (hG : G.length + 6 ≤ 1048576) (hlb : ∀ x ∈ l, -1048576 ≤ x ∧ x ≤ 1048576) :
    Calls Try.prog 59 #[.pointer (some ⟨b, 0, none⟩), .int .i64 kind, .slice al m cp] w fun e w' => e = .returned (.tuple #[.int .i64 ((n : Int) + 1), .int .i64 0]) ∧ GB X w' B b (n + 1) (G ++ (gateT kind).map (gRow (0 :: ((n : Int) + 1) :: l))) ∧ Gk X B w w' := by
  subst hm
  obtain ⟨i0, hi0, hz0, hz1, hz2⟩ := info_parts info_intG
  obtain ⟨i1, hi1, hy0, hy1, hy2⟩ := info_parts info_intsG
  have HGB := hid h
  have HS := hid hs
  have HT := hid hT
  have HLB := hid hlb
  clear h hs hT hlb
  go_enter Try.func59, Try.ntmps59
  go_wp2_with fail
  refine (gate_clauses w).mono ?_
  rintro e w1 ⟨a0, a1, a2, rfl, ht0, ht1, ht2, hb1⟩
  obtain ⟨T, hTe⟩ : ∃ T, gateT kind = T := ⟨_, rfl⟩
  have hTl : T.length ≤ 6 := by
    rw [← hTe]
    rcases kind with _ | _ | k <;> simp [gateT]
  have hidx : ∃ aT, (∀ wx, (Instr.index 110 (.agg #[.slice a0 3 3, .slice a1 4 4, .slice a2 6 6]) (.int .i64 kind)).run Try.prog wx = .ok (.slice aT T.length T.length) wx) ∧ TB w1 w.heap.size aT T := by
    rw [← hTe]
    rcases kind with _ | _ | _ | k
    · exact ⟨a0, fun wx => by kernel_rfl, ht0⟩
    · exact ⟨a1, fun wx => by kernel_rfl, ht1⟩
    · exact ⟨a2, fun wx => by kernel_rfl, ht2⟩
    · omega
  obtain ⟨aT, hix, htb⟩ := hidx

  have hBw : B ≤ w.heap.size := by obtain ⟨v, q1, -, q3, -⟩ := HGB.out; have := (Array.getElem?_eq_some_iff.1 q1).1; omega
  obtain ⟨v, hv0, hr0, hBb, hXb⟩ := HGB.out
  have HXB := hid hXb
  have hBb1 := hBb.1
  clear hXb
  have hvl : ∀ g, v.ownBlock = some g → g < w.heap.size := fun g hg => by obtain ⟨vs, o1, -⟩ := hr0; exact (o1.lt g hg).2
  have hbw : b < w.heap.size := (Array.getElem?_eq_some_iff.1 hv0).1
  have hx1 : w1.heap[b]? = some (.cells #[.int .i64 n, v] 94) := (hb1.block b hbw).trans hv0
  have hr1 := hr0.below hb1
  obtain ⟨av, cv, rfl, -, -, -⟩ := hr0.shape
  have hc0 : w1.cell? ⟨b, 0, none⟩ = some (.int .i64 n) := fit_cell (vs := [.int .i64 n, .slice av G.length cv]) hx1 0
  have hc1 : w1.cell? ⟨b, 1, none⟩ = some (.slice av G.length cv) := fit_cell (vs := [.int .i64 n, .slice av G.length cv]) hx1 1
  have hf0 : w1.frozen? ⟨b, 0, none⟩ = false := frozen_of_row _ _ _ _ _ hx1
  have hk1 : Gk X B w w1 := Gk.of_below hb1 hBw
  have hkS : Gk X B w1 (w1.setCell ⟨b, 0, none⟩ (.int .i64 ((n : Int) + 1))) := Gk.set hx1 hBb _
  have hxS : (w1.setCell ⟨b, 0, none⟩ (.int .i64 ((n : Int) + 1))).heap[b]? = some (.cells #[.int .i64 ((n : Int) + 1), .slice av G.length cv] 94) := heap_setCell_same w1 b 0 #[.int .i64 n, .slice av G.length cv] 94 _ hx1
  have hrS : OwnRtX X (w1.setCell ⟨b, 0, none⟩ (.int .i64 ((n : Int) + 1))) B (.slice av G.length cv) G := rtX_setBuilder hx1 hr1 hBb
  obtain ⟨gT, tvs, rfl, hgT, hgh, hgr⟩ := htb
  have hghS : (w1.setCell ⟨b, 0, none⟩ (.int .i64 ((n : Int) + 1))).heap[gT]? = some (.cells tvs.toArray 22 (0, 0)) := (heap_setCell_other w1 ⟨b, 0, none⟩ gT _ (by show gT ≠ b; omega)).trans hgh
  have hszS : (w1.setCell ⟨b, 0, none⟩ (.int .i64 ((n : Int) + 1))).heap.size = w1.heap.size := by simp [World.setCell]
  have hwsz : w.heap.size ≤ w1.heap.size := hb1.size
  have hwn : IntKind.i64.wrap ((n : Int) + 1) = (n : Int) + 1 := IntWalk.i64_in _ (by omega)
  have hwT : IntKind.i64.wrap ((G.length : Int) + T.length) = (G.length : Int) + T.length := IntWalk.i64_in _ (by omega)
  have d1 : ((n : Int) == 1048576) = false := by rw [beq_eq_false_iff_ne]; omega
  have d2 : decide ((1048576 : Int) < (G.length : Int) + T.length) = false := decide_eq_false (by omega)
  have HSI := hid (fun (wx : World) (hk : Gk X B w wx) => ownT_gk HS.out hk)
  have HKS := hid (hk1.trans hkS)
  have HXS := hid hxS
  have HRS := hid hrS
  have HGHS := hid hghS
  have HGR := hid (fun j c hj => let ⟨u, e1, e2⟩ := hgr j c hj; (⟨u, e1, ownT_gk e2 hkS⟩ : ∃ u, tvs[j]? = some u ∧ OwnT 3 (w1.setCell ⟨b, 0, none⟩ (.int .i64 ((n : Int) + 1))) w.heap.size u c))
  have HVL := hid hvl
  have HTE := hid hTe
  have hcS0 : (w1.setCell ⟨b, 0, none⟩ (.int .i64 ((n : Int) + 1))).cell? ⟨b, 0, none⟩ = some (.int .i64 ((n : Int) + 1)) := fit_cell (vs := [.int .i64 ((n : Int) + 1), .slice av G.length cv]) hxS 0
  clear ht0 ht1 ht2 hb1 hv0 hr0 hx1 hr1 hk1 hkS hxS hrS hgh hgr hghS hvl hTe
  have hAl : ∀ o, OwnT 3 ((w1.setCell ⟨b, 0, none⟩ (.int .i64 ((n : Int) + 1))).alloc o) B (.slice al l.length cp) l := fun o => HSI.out _ (HKS.out.trans (Gk.of_below (box_below _ _) (by rw [hszS]; omega)))
  have hSl : ∀ o, SlV ((w1.setCell ⟨b, 0, none⟩ (.int .i64 ((n : Int) + 1))).alloc o) al (ints l) ∧ (al = none → cp = 0) := fun o => by
    obtain ⟨q1, q2, q3, q4, q5, -⟩ := hAl o
    obtain ⟨r1, r2, r3, r4, r5, r6⟩ := (hAl o).sli
    injection q3 with q3 _ q6
    injection r3 with r3 _ r7
    subst q3 q6 r3 r7
    exact ⟨r6, q5⟩
  have HSL := hid hSl
  have HONE : Hid (∀ u ∈ ints l, u.oneCell' = true) := hid (fun u hu => by simp [ints] at hu; obtain ⟨x, -, rfl⟩ := hu; rfl)
  have HLM : Hid (2 + l.length ≤ maxLen ∧ (2 + l.length) * 8 ≤ 140737488355328) := hid (by unfold maxLen; omega)
  have HNW : Hid (∀ o, o = Obj.cells (ints [0, (n : Int) + 1]).toArray 3 (0, 0) → ((w1.setCell ⟨b, 0, none⟩ (.int .i64 ((n : Int) + 1))).alloc o).ownsRow w1.heap.size 3 1 (.slice (some ⟨w1.heap.size, 0, none⟩) 2 2) 2 (ints [0, (n : Int) + 1])) := hid (fun o ho => by
    subst ho
    exact own_new (by rw [← hszS]; exact heap_alloc_new _ _) (Nat.le_refl _) rfl (by unfold maxLen; omega))
  clear hAl hSl
  go_wp2_with (at_builtin; refine wpList_append_sl _ rfl _ _ 22 rfl w1.heap.size 3 i0 (.int .i64 0) 8 Try.underlying22 hi0 hz0 hz1 hz2 rfl (.slice (some ⟨w1.heap.size, 0, none⟩) 2 2) 2 (ints [0, (n : Int) + 1]) rfl (HNW.out _ rfl) al l.length cp (ints l) rfl (HSL.out _).1 (by simp) (HSL.out (.cells #[] 0)).2 HONE.out (by exact HLM.out.1) (by exact HLM.out.2) (by simp) ?_; intro v9 w9 ho9 hg9; have HO9 := hid ho9; have HG9 := hid hg9; clear ho9 hg9)
  obtain ⟨a9, c9, rfl⟩ := own_lenV' HO9.out
  have hb9 : Below (w1.setCell ⟨b, 0, none⟩ (.int .i64 ((n : Int) + 1))).heap.size (w1.setCell ⟨b, 0, none⟩ (.int .i64 ((n : Int) + 1))) w9 := ((Below.refl _ (w1.setCell ⟨b, 0, none⟩ (.int .i64 ((n : Int) + 1)))).alloc (Nat.le_refl _) _).grown HG9.out (by simp) (fun q hq => by injection hq with hq; have hq : w1.heap.size = q := hq; rw [← hq, hszS]; exact Nat.le_refl _)
  have HK9 : Hid (Gk X B w w9) := hid (HKS.out.trans (Gk.of_below hb9 (by rw [hszS]; omega)))
  have HX9 : Hid (w9.heap[b]? = some (.cells #[.int .i64 ((n : Int) + 1), .slice av G.length cv] 94)) := hid ((hb9.block b (by rw [hszS]; omega)).trans HXS.out)
  have HR9 : Hid (OwnRtX X w9 B (.slice av G.length cv) G) := hid (HRS.out.below hb9)
  have hgl : gT < w1.heap.size := by rw [← hszS]; exact (Array.getElem?_eq_some_iff.1 HGHS.out).1
  have HGH9 : Hid (w9.heap[gT]? = some (.cells tvs.toArray 22 (0, 0))) := hid ((hb9.block gT (by rw [hszS]; exact hgl)).trans HGHS.out)
  have HGR9 := hid (fun j c hj => let ⟨u, e1, e2⟩ := HGR.out j c hj; (⟨u, e1, e2.below hb9⟩ : ∃ u, tvs[j]? = some u ∧ OwnT 3 w9 w.heap.size u c))
  have hz9 : w1.heap.size ≤ w9.heap.size := by have := hb9.size; rw [hszS] at this; exact this
  obtain ⟨at0, hat0⟩ : ∃ at0, (0 : Int) :: ((n : Int) + 1) :: l = at0 := ⟨_, rfl⟩
  have hal : at0.length = 2 + l.length := by rw [← hat0]; simp; omega
  have HAT : Hid (OwnT 3 w9 w.heap.size (.slice a9 (2 + l.length) c9) at0) := hid (by
    have h1 := HO9.out
    rw [← ints_append, show [0, (n : Int) + 1] ++ l = at0 from hat0] at h1
    exact (ownT_of_own h1).base hwsz)
  have HAB : Hid (∀ x ∈ at0, -1048576 ≤ x ∧ x ≤ 1048576) := hid (fun x hx => by
    rw [← hat0] at hx
    simp at hx
    rcases hx with rfl | rfl | hx
    · omega
    · omega
    · exact HLB.out x hx)
  have HA0 := hid hat0
  have HAL := hid hal
  clear hb9 HO9 HG9 HGHS HGR HXS HRS HKS HSI HSL hc0 hc1 hf0 hcS0 hix hwn hwT d1 d2 hat0 hal
  go_loopw [55] (fun s55 wr => ∃ (j : Nat) (av' : Option Addr) (cv' : Nat), s55 = .int .i64 j ∧ j ≤ T.length ∧ Hid (wr.heap[b]? = some (.cells #[.int .i64 ((n : Int) + 1), .slice av' (G.length + j) cv'] 94)) ∧ Hid (OwnRtX X wr B (.slice av' (G.length + j) cv') (G ++ (T.take j).map (gRow at0))) ∧ Hid (Gk X B w9 wr) ∧ Hid (wr.heap[gT]? = some (.cells tvs.toArray 22 (0, 0))) ∧ Hid (∀ g, (Value.slice av' (G.length + j) cv').ownBlock = some g → g < w.heap.size ∨ w9.heap.size ≤ g) ∧ w9.heap.size ≤ wr.heap.size) (fun s55 _ => (T.length - (intOf s55)).toNat)
  case atStart => exact ⟨0, av, cv, rfl, Nat.zero_le _, HX9, hid (by simpa using HR9.out), hid (Gk.refl _ _ _), HGH9, hid (fun g hg => .inl (HVL.out g hg)), Nat.le_refl _⟩
  case round =>
    clear HX9 HR9 HGH9
    obtain ⟨j, av', cv', rfl, hj, HX, HR, HK, HGH, HOB, hszr⟩ := hrel
    have hc0 : wr.cell? ⟨b, 0, none⟩ = some (.int .i64 ((n : Int) + 1)) := fit_cell (vs := [.int .i64 ((n : Int) + 1), .slice av' (G.length + j) cv']) HX.out 0
    have hc1 : wr.cell? ⟨b, 1, none⟩ = some (.slice av' (G.length + j) cv') := fit_cell (vs := [.int .i64 ((n : Int) + 1), .slice av' (G.length + j) cv']) HX.out 1
    by_cases hjl : j < T.length
    · obtain ⟨row, hrow⟩ : ∃ row, T[j]? = some row := ⟨_, List.getElem?_eq_getElem hjl⟩
      obtain ⟨u, hu1, hu2⟩ := HGR9.out j row hrow
      have hu3 := ownT_gk hu2 HK.out
      obtain ⟨ar, cr, rfl, -, -, hsr⟩ := hu3.sli
      have hcr : wr.cell? ⟨gT, 0 + j, none⟩ = some (.slice ar row.length cr) := by rw [Nat.zero_add, fit_cell HGH.out j]; exact hu1
      have hcr' : wr.cell? ⟨gT, j, none⟩ = some (.slice ar row.length cr) := by rw [fit_cell HGH.out j]; exact hu1
      have HSR := hid hsr
      have HROW := hid hrow
      have HRT := hid (HT.out row (by rw [HTE.out]; exact List.mem_of_getElem? hrow))
      have hrl : row.length ≤ 3 := gateT_row kind row (by rw [HTE.out]; exact List.mem_of_getElem? hrow)
      have hwj : IntKind.i64.wrap ((j : Int) + 1) = (j : Int) + 1 := IntWalk.i64_in _ (by omega)
      have hj2 : (j : Int) < T.length := by omega
      clear hrow hu1 hu2 hu3 hsr
      obtain ⟨wo, rfl⟩ : ∃ wo : World, wo = wr := ⟨_, rfl⟩
      go_wp2_with fail
      have HO0 : Hid (wo.ownsRow wo.heap.size 3 1 (.slice none 0 0) 0 (ints (gRow at0 (row.take 0)))) := hid (World.ownsRow_nil _ _ _ _)
      have HPC := hid (And.intro hc0 hc1)
      clear hwj hc0 hc1 hcr hcr'
      go_loopw [12, 61] (fun s12 s61 wq => ∃ k : Nat, s61 = .int .i64 k ∧ k ≤ row.length ∧ Hid (wq.ownsRow wo.heap.size 3 1 s12 k (ints (gRow at0 (row.take k)))) ∧ Hid (Below wo.heap.size wo wq) ∧ wo.heap.size ≤ wq.heap.size) (fun _ s61 _ => (row.length - (intOf s61)).toNat)
      case atStart => exact ⟨0, rfl, Nat.zero_le _, HO0, hid (Below.refl _ _), Nat.le_refl _⟩
      case round =>
        clear HO0
        obtain ⟨k, rfl, hk2, HQ, HBQ, hszq⟩ := hrel
        by_cases hkl : k < row.length
        · obtain ⟨bx, ox, p, rfl, hcx, hxk⟩ := (HSR.out.below HBQ.out).int hkl
          have hpl := HRT.out p (List.mem_of_getElem? hxk)
          obtain ⟨q, hq⟩ : ∃ q, p.natAbs = q := ⟨_, rfl⟩
          have hql : q < at0.length := by rw [HAL.out]; omega
          have hat2 := (ownT_gk HAT.out (HK.out.trans (Gk.of_below HBQ.out (by have := HK9.out.below.size; omega)))).sli
          obtain ⟨a9', c9', e9, -, -, hs9⟩ := hat2
          injection e9 with e9 e10 e11
          subst e9 e11
          obtain ⟨by1, oy1, y, rfl, hcy, hyq⟩ := hs9.int hql
          have hyb := HAB.out y (List.mem_of_getElem? hyq)
          have hq1 : (q : Int) < 2 + (l.length : Int) := by omega
          have hq2 : q < 2 + l.length := by omega
          have hkl2 : (k : Int) < row.length := by omega
          have hwk : IntKind.i64.wrap ((k : Int) + 1) = (k : Int) + 1 := IntWalk.i64_in _ (by omega)
          have hwy : IntKind.i64.wrap (-y) = -y := IntWalk.i64_in _ (by omega)
          have HLK : Hid (k + 1 ≤ maxLen ∧ (k + 1) * 8 ≤ 140737488355328) := hid (by unfold maxLen; omega)
          clear e10 hs9
          by_cases hp0 : p < 0
          · have HST : Hid (ints (gRow at0 (row.take (k + 1))) = ints (gRow at0 (row.take k)) ++ [.int .i64 (-y)]) := hid (by rw [gRow_step hxk (by rw [hq]; exact hyq), if_pos hp0]; simp [ints])
            have d3 : decide (p < 0) = true := decide_eq_true hp0
            have hwp : IntKind.i64.wrap (-p) = (q : Int) := by rw [IntWalk.i64_in _ (by omega)]; omega
            clear hxk hyq hq hpl hyb hp0
            go_wp2_with (at_builtin; refine wpList_append_own _ rfl _ _ 22 rfl wo.heap.size 3 i0 (.int .i64 0) 1 8 Try.underlying22 hi0 hz0 hz1 hz2 rfl (by decide) _ _ _ rfl (HQ.out.alloc _) ⟨wr.heap.size, 0, none⟩ 1 1 [.int .i64 (-y)] rfl rfl ?c1 one_int (by exact HLK.out.1) (by exact HLK.out.2) (by simp only [size_al]; exact Nat.le_succ_of_le hszq) ?_)
            case c1 => exact new_oneG (heap_alloc_new _ _)
            intro v8 w8 ho8 hg8 _
            have HQ8 : Hid (w8.ownsRow wo.heap.size 3 1 v8 (k + 1) (ints (gRow at0 (row.take (k + 1))))) := hid (by rw [HST.out]; exact ho8)
            have HB8 : Hid (Below wo.heap.size wo w8) := hid (HBQ.out.trans (((Below.refl _ wr).alloc HBQ.out.size _).grown hg8 (by have := HBQ.out.size; simp only [size_al]; omega) fun q hq => (HQ.out.lt q hq).1))
            have hsz8 : wo.heap.size ≤ w8.heap.size := HB8.out.size
            clear ho8 hg8
            go_wp2_with fail
            go_roundw
            case rel => exact ⟨k + 1, by simp, hkl, HQ8, HB8, hsz8⟩
            case measure => simp [intOf]; omega
          · have HST : Hid (ints (gRow at0 (row.take (k + 1))) = ints (gRow at0 (row.take k)) ++ [.int .i64 y]) := hid (by rw [gRow_step hxk (by rw [hq]; exact hyq), if_neg hp0]; simp [ints])
            have hpq : p = (q : Int) := by omega
            have d3 : decide ((q : Int) < 0) = false := decide_eq_false (by omega)
            subst hpq
            clear hxk hyq hq hpl hyb hp0
            go_wp2_with (at_builtin; refine wpList_append_own _ rfl _ _ 22 rfl wo.heap.size 3 i0 (.int .i64 0) 1 8 Try.underlying22 hi0 hz0 hz1 hz2 rfl (by decide) _ _ _ rfl (HQ.out.alloc _) ⟨wr.heap.size, 0, none⟩ 1 1 [.int .i64 (y)] rfl rfl ?c1 one_int (by exact HLK.out.1) (by exact HLK.out.2) (by simp only [size_al]; exact Nat.le_succ_of_le hszq) ?_)
            case c1 => exact new_oneG (heap_alloc_new _ _)
            intro v8 w8 ho8 hg8 _
            have HQ8 : Hid (w8.ownsRow wo.heap.size 3 1 v8 (k + 1) (ints (gRow at0 (row.take (k + 1))))) := hid (by rw [HST.out]; exact ho8)
            have HB8 : Hid (Below wo.heap.size wo w8) := hid (HBQ.out.trans (((Below.refl _ wr).alloc HBQ.out.size _).grown hg8 (by have := HBQ.out.size; simp only [size_al]; omega) fun q hq => (HQ.out.lt q hq).1))
            have hsz8 : wo.heap.size ≤ w8.heap.size := HB8.out.size
            clear ho8 hg8
            go_wp2_with fail
            go_roundw
            case rel => exact ⟨k + 1, by simp, hkl, HQ8, HB8, hsz8⟩
            case measure => simp [intOf]; omega
        · have hkr : k = row.length := by omega
          have HQ2 : Hid (wr.ownsRow wo.heap.size 3 1 u12 row.length (ints (gRow at0 row))) := hid (by have := HQ.out; rwa [hkr, List.take_of_length_le (Nat.le_refl _)] at this)
          clear HQ hkr
          obtain ⟨a12, c12, rfl⟩ := own_lenV' HQ2.out
          have hbo : b < wo.heap.size := (Array.getElem?_eq_some_iff.1 HX.out).1
          have hgo : gT < wo.heap.size := by have := (Array.getElem?_eq_some_iff.1 HGH.out).1; omega
          have hX2 : wr.heap[b]? = some (.cells #[.int .i64 ((n : Int) + 1), .slice av' (G.length + j) cv'] 94) := (HBQ.out.block b hbo).trans HX.out
          have hGH2 : wr.heap[gT]? = some (.cells tvs.toArray 22 (0, 0)) := (HBQ.out.block gT hgo).trans HGH.out
          have hR2 := HR.out.below HBQ.out
          obtain ⟨vs, ho, hvs, hvx⟩ := hR2
          have hlen : (G ++ (T.take j).map (gRow at0)).length = G.length + j := by simp; omega
          rw [hlen] at ho
          obtain ⟨gl, hgle⟩ : ∃ gl, G.length + j = gl := ⟨_, rfl⟩
          have hgl2 : gl ≤ 1048576 := by omega
          have HGE := hid hgle
          rw [hgle] at HOB
          have hc0 : wr.cell? ⟨b, 0, none⟩ = some (.int .i64 ((n : Int) + 1)) := fit_cell (vs := [.int .i64 ((n : Int) + 1), .slice av' (G.length + j) cv']) hX2 0
          have hc1 : wr.cell? ⟨b, 1, none⟩ = some (.slice av' (G.length + j) cv') := fit_cell (vs := [.int .i64 ((n : Int) + 1), .slice av' (G.length + j) cv']) hX2 1
          rw [hgle] at ho hX2 hc1
          have HX2 := hid hX2
          have HGH2 := hid hGH2
          have HO2 := hid ho
          have HVS := hid hvs
          have HVX := hid (show ∀ g, (Value.slice av' gl cv').ownBlock = some g → ¬ X g by rw [← hgle]; exact hvx)
          have HLEN := hid hlen
          have HCO : Hid (OwnTX X wr B (.slice a12 row.length c12) (gRow at0 row)) := hid (ownTX_own HQ2.out (fun k hk => by have := HXB.out k hk; have := HK.out.below.size; have := HK9.out.below.size; omega) (by have := HK.out.below.size; have := HK9.out.below.size; omega))
          have HON2 : Hid (∀ u ∈ [Value.slice a12 row.length c12], u.oneCell' = true) := by
            intro u hu
            simp at hu
            subst hu
            rfl
          have HLK : Hid (gl + 1 ≤ maxLen ∧ (gl + 1) * 24 ≤ 140737488355328) := hid (by unfold maxLen; omega)
          have hBr : B ≤ wr.heap.size := by have := HK.out.below.size; have := HK9.out.below.size; omega
          have HKW : Hid (Gk X B w9 wr) := hid (HK.out.trans (Gk.of_below HBQ.out (by omega)))
          have hwj : IntKind.i64.wrap ((j : Int) + 1) = (j : Int) + 1 := IntWalk.i64_in _ (by omega)
          clear hX2 hGH2 ho hvs hvx hlen hgle
          go_wp2_with (at_builtin; refine wpList_append_own_at _ rfl _ _ 32 rfl B 22 i1 (.slice none 0 0) 1 24 Try.underlying32 hi1 hy0 hy1 hy2 rfl (by decide) _ _ _ rfl (HO2.out.alloc _) ⟨wr.heap.size, 0, none⟩ 1 1 [.slice a12 row.length c12] rfl rfl ?c2 HON2.out (by exact HLK.out.1) (by exact HLK.out.2) (by simp only [size_al]; exact Nat.le_succ_of_le hBr) ?_)
          case c2 => exact new_oneG (heap_alloc_new _ _)
          intro v8 w8 ho8 hg8 _ ha8
          obtain ⟨a8, c8, rfl⟩ := own_lenV' ho8
          have hx8 : w8.heap[b]? = some (.cells #[.int .i64 ((n : Int) + 1), .slice av' gl cv'] 94) := (hg8.block b (by have := (Array.getElem?_eq_some_iff.1 HX2.out).1; simp only [size_al]; omega) (own_not_builder HX2.out HO2.out)).trans ((Below.heap_alloc _ _ _ (Array.getElem?_eq_some_iff.1 HX2.out).1).trans HX2.out)
          have hgw9 : gT < w9.heap.size := by omega
          have hgT8 : w8.heap[gT]? = some (.cells tvs.toArray 22 (0, 0)) := (hg8.block gT (by have := (Array.getElem?_eq_some_iff.1 HGH2.out).1; simp only [size_al]; omega) (fun e => by have := HOB.out gT e.symm; omega)).trans ((Below.heap_alloc _ _ _ (Array.getElem?_eq_some_iff.1 HGH2.out).1).trans HGH2.out)
          have hP8 : OwnRtX X w8 B (.slice a8 (gl + 1) c8) ((G ++ (T.take j).map (gRow at0)) ++ [gRow at0 row]) :=
            OwnRtX.push (by rw [HLEN.out, HGE.out]; exact HO2.out.alloc _) (fun i d hd => let ⟨u, e1, e2⟩ := HVS.out i d hd; ⟨u, e1, e2.below (box_below _ _)⟩) (HCO.out.below (box_below _ _)) (by rw [HLEN.out, HGE.out]; exact ho8) hg8 (fun g hg hx => by
              rcases ha8 with e | e
              · exact HVX.out g (e.symm.trans hg) hx
              · rw [e] at hg
                injection hg with hg
                have h1 := HXB.out g hx
                have h2 := HK.out.below.size
                have h3 := HK9.out.below.size
                have h4 := HBQ.out.size
                omega)
          have hk8 : Gk X B w9 w8 := HKW.out.trans ((Gk.of_below (box_below wr _) hBr).trans (Gk.grown (HO2.out.alloc _) (by simp only [size_al]; omega) hg8 HVX.out))
          have hTK : G ++ (T.take (j + 1)).map (gRow at0) = (G ++ (T.take j).map (gRow at0)) ++ [gRow at0 row] := by rw [List.take_add_one, HROW.out]; simp
          have hob8 : ∀ g, (Value.slice a8 (gl + 1) c8).ownBlock = some g → g < w.heap.size ∨ w9.heap.size ≤ g := fun g hg => by
            rcases ha8 with e | e
            · exact HOB.out g (e.symm.trans hg)
            · rw [e] at hg
              injection hg with hg
              right; omega
          have hr1 : w8.cell? ⟨b, 1, none⟩ = some (.slice av' gl cv') := fit_cell (vs := [.int .i64 ((n : Int) + 1), .slice av' gl cv']) hx8 1
          have hr2 : w8.frozen? ⟨b, 1, none⟩ = false := frozen_of_row _ _ _ _ _ hx8
          have hgl1 : G.length + (j + 1) = gl + 1 := by have := HGE.out; omega
          have HGL1 := hid hgl1
          have HXN : Hid ((w8.setCell ⟨b, 1, none⟩ (.slice a8 (gl + 1) c8)).heap[b]? = some (.cells #[.int .i64 ((n : Int) + 1), .slice a8 (gl + 1) c8] 94)) := hid (heap_setCell_same w8 b 1 #[.int .i64 ((n : Int) + 1), .slice av' gl cv'] 94 _ hx8)
          have HRN : Hid (OwnRtX X (w8.setCell ⟨b, 1, none⟩ (.slice a8 (gl + 1) c8)) B (.slice a8 (gl + 1) c8) (G ++ (T.take (j + 1)).map (gRow at0))) := hid (by rw [hTK]; exact rtX_setBuilder hx8 hP8 hBb)
          have HKN : Hid (Gk X B w9 (w8.setCell ⟨b, 1, none⟩ (.slice a8 (gl + 1) c8))) := hid (hk8.trans (Gk.set hx8 hBb _))
          have HGN : Hid ((w8.setCell ⟨b, 1, none⟩ (.slice a8 (gl + 1) c8)).heap[gT]? = some (.cells tvs.toArray 22 (0, 0))) := hid ((heap_setCell_other w8 ⟨b, 1, none⟩ gT _ (by show gT ≠ b; omega)).trans hgT8)
          have HON := hid hob8
          have HSN : Hid (w9.heap.size ≤ (w8.setCell ⟨b, 1, none⟩ (.slice a8 (gl + 1) c8)).heap.size) := hid (by have := hg8.size; simp only [size_al] at this; simp only [World.setCell]; first | omega | (simp; omega))
          clear ho8 hg8 ha8 hx8 hgT8 hP8 hk8 hTK hob8 hgl1 hc0 hc1
          go_wp2_with fail
          go_roundw
          case rel => exact ⟨j + 1, a8, c8, by simp, hjl, (by rw [HGL1.out]; exact HXN), (by rw [HGL1.out]; exact HRN), HKN, HGN, (by rw [HGL1.out]; exact HON), HSN.out⟩
          case measure => simp [intOf]; omega
    · have hjT : j = T.length := by omega
      have HRE : Hid (OwnRtX X wr B (.slice av' (G.length + j) cv') (G ++ (gateT kind).map (gRow (0 :: ((n : Int) + 1) :: l)))) := hid (by have := HR.out; rw [hjT, List.take_of_length_le (Nat.le_refl _), ← HTE.out, ← HA0.out] at this; rw [hjT, ← HTE.out]; exact this)
      have HKE := hid (HK9.out.trans HK.out)
      clear hjT
      go_wp2_with fail
      go_ret2
      exact ⟨rfl, ⟨_, HX.out, HRE.out, hBb, fun k hk => Nat.lt_of_lt_of_le (HXB.out k hk) HKE.out.below.size⟩, HKE.out⟩

end Go.Proofs.Ytacmfiikdbekbaa.Ord2
