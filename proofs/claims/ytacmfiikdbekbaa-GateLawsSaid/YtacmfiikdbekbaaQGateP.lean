/- The walk of GateLaws. (Printed by gen_gatelaws.py.) -/
import Derived.Deep.RegionHeld3
import Derived.Test.YtacmfiikdbekbaaQ10

namespace Go.Proofs.Ytacmfiikdbekbaa.Ord
open Go.RowKit Go.Conc

attribute [local go_sem ↓] Go.wp_at_zero Go.wp_at_succ

theorem mod_nat (x m : Int) (hm : 0 < m) : ∃ r : Nat, x % m = (r : Int) ∧ (r : Int) < m :=
  ⟨(x % m).toNat, by have := Int.emod_nonneg x (show m ≠ 0 by omega); omega, by have := Int.emod_lt_of_pos x hm; have := Int.emod_nonneg x (show m ≠ 0 by omega); omega⟩

theorem inL_bound {k : Nat} (hk : k ≤ 1000) : ∀ x ∈ inL k, -1048576 ≤ x ∧ x ≤ 1048576 := by
  intro x hx
  simp [inL] at hx
  omega

set_option maxRecDepth 100000 in
set_option maxHeartbeats 8000000 in
theorem walk_GateLaws (x0 x1 x2 : Int) (w : World) (_w0 : (Lit.int .i64 x0).wf = true) (_w1 : (Lit.int .i64 x1).wf = true) (_w2 : (Lit.int .i64 x2).wf = true) :
    Calls Try.prog 8 #[.int .i64 x0, .int .i64 x1, .int .i64 x2] w fun e w' => e = .returned (.bool true) ∧ Below w.heap.size w w' := by
  clear _w0 _w1 _w2
  obtain ⟨r0, hr0, hs0⟩ := mod_nat x0 (2 * ((4 : Nat) : Int) + 2) (by omega)
  obtain ⟨r1, hr1, hs1⟩ := mod_nat x1 (2 * ((4 : Nat) : Int) + 2) (by omega)
  obtain ⟨r2, hr2, hs2⟩ := mod_nat x2 (2 * ((4 : Nat) : Int) + 2) (by omega)
  have HR := hid (And.intro hr0 (And.intro hr1 hr2))
  have HS := hid (And.intro hs0 (And.intro hs1 hs2))
  clear hr0 hr1 hr2 hs0 hs1 hs2
  go_enter Try.func8, Try.ntmps8
  go_wp2_with fail
  go_loopw [7] (fun s7 wr => ∃ i : Nat, s7 = .int .i64 i ∧ i ≤ 16 ∧ Hid (Below w.heap.size w wr)) (fun s7 _ => (16 - (intOf s7)).toNat)
  case atStart => exact ⟨0, rfl, Nat.zero_le _, hid (Below.refl _ _)⟩
  case round =>
    obtain ⟨i, rfl, hi, HB⟩ := hrel
    by_cases hlt : i < 16
    · have hlt2 : (i : Int) < 16 := by omega
      have hwi : IntKind.i64.wrap ((i : Int) + 1) = (i : Int) + 1 := IntWalk.i64_in _ (by omega)
      go_wp2_with fail
      generalize decide (0 < bits BinOp.and IntKind.i64 (i : Int) 1) = q1
      generalize decide (0 < bits BinOp.and IntKind.i64 (i : Int) 2) = q2
      generalize decide (0 < bits BinOp.and IntKind.i64 (i : Int) 4) = q3
      generalize decide (0 < bits BinOp.and IntKind.i64 (i : Int) 8) = q4
      have hbx := box_below wr (.cells #[.bool q1, .bool q2, .bool q3, .bool q4] 4 (0, 0))
      refine (law15_Begin (wr.alloc (.cells #[.bool q1, .bool q2, .bool q3, .bool q4] 4 (0, 0))) 4 (some ⟨wr.heap.size, 0, none⟩) [q1, q2, q3, q4] 4 4 rfl (by omega) (slv_at (heap_alloc_new _ _)) (by simp)).mono ?_
      rintro e w3 ⟨b, vI, vV, rfl, hg, hI, hV, hb⟩
      obtain ⟨aI, cI, rfl⟩ := own_lenV' hI
      obtain ⟨aV, cV, rfl⟩ := own_lenV' hV
      obtain ⟨V, hVe⟩ : ∃ V, valL [q1, q2, q3, q4] 4 = V := ⟨_, rfl⟩
      have hVl : V.length = 4 := by rw [← hVe]; exact valL_length _ _
      rw [hVe] at hV
      have hzr := HB.out.size
      have hb3 : Below w.heap.size w w3 := HB.out.trans ((hbx.trans (hb.mono hbx.size)).mono hzr)
      have hz : w.heap.size ≤ (wr.alloc (.cells #[.bool q1, .bool q2, .bool q3, .bool q4] 4 (0, 0))).heap.size := Nat.le_trans hzr hbx.size
      have hls := LS.start (w := w3.alloc (.cells #[.pointer (some ⟨b, 0, none⟩), .slice aI 4 cI, .slice aV 4 cV] 46)) (m := 5) hVl (by omega) ((hg.base hz).below (box_below w3 _)) (heap_alloc_new w3 _) ((own_base hI hz).alloc _) ((own_base hV hz).alloc _) hb3.size
      have HB3 := hid (hb3.trans ((box_below w3 (.cells #[.pointer (some ⟨b, 0, none⟩), .slice aI 4 cI, .slice aV 4 cV] 46)).mono hb3.size))
      have HL3 := hid hls
      have HVL := hid hVl
      clear hg hI hV hb hb3 hz hls hVl hVe hbx hzr
      go_wp2_with fail
      generalize (w3.alloc (.cells #[.pointer (some ⟨b, 0, none⟩), .slice aI 4 cI, .slice aV 4 cV] 46)) = w4 at HB3 HL3 ⊢
      generalize w3.heap.size = bc at HL3 ⊢
      have HL := HL3
      have HB := HB3
      clear HL3 HB3
      obtain ⟨p, vp, hp⟩ : ∃ p q, pickV (inL 4) V r0 = (p, q) := ⟨_, _, rfl⟩
      have Hp : Hid (Vl (inK V) p vp) := hid (pick_vl (r := r0) (by rw [HVL.out]; have := HS.out.1; omega) (by rw [HVL.out]; exact hp))
      have Hpe := hid hp
      clear hp
      have hc0 := HL.out.cells.1
      have hc1 := HL.out.cells.2.1
      have hc2 := HL.out.cells.2.2
      go_wp2_with fail
      refine (law15_Pick w4 b 4 aI aV 4 4 cI cV (inL 4) V x0 r0 p vp rfl rfl (inL_length 4) HVL.out (by omega) HL.out.rows.1 HL.out.rows.2.1 HR.out.1 Hpe.out (inL_bound (by omega))).mono ?_
      rintro e wp0 ⟨rfl, hb⟩
      have HLn := hid (HL.out.below hb)
      have HBn := hid (HB.out.trans (hb.mono HB.out.size))
      clear HL HB hb hc0 hc1 hc2 Hpe
      have HL := HLn
      have HB := HBn
      clear HLn HBn
      obtain ⟨q, vq, hq⟩ : ∃ p q, pickV (inL 4) V r1 = (p, q) := ⟨_, _, rfl⟩
      have Hq : Hid (Vl (inK V) q vq) := hid (pick_vl (r := r1) (by rw [HVL.out]; have := HS.out.2.1; omega) (by rw [HVL.out]; exact hq))
      have Hqe := hid hq
      clear hq
      have hc0 := HL.out.cells.1
      have hc1 := HL.out.cells.2.1
      have hc2 := HL.out.cells.2.2
      go_wp2_with fail
      refine (law15_Pick wp0 b 4 aI aV 4 4 cI cV (inL 4) V x1 r1 q vq rfl rfl (inL_length 4) HVL.out (by omega) HL.out.rows.1 HL.out.rows.2.1 HR.out.2.1 Hqe.out (inL_bound (by omega))).mono ?_
      rintro e wp1 ⟨rfl, hb⟩
      have HLn := hid (HL.out.below hb)
      have HBn := hid (HB.out.trans (hb.mono HB.out.size))
      clear HL HB hb hc0 hc1 hc2 Hqe
      have HL := HLn
      have HB := HBn
      clear HLn HBn
      obtain ⟨r, vr, hr⟩ : ∃ p q, pickV (inL 4) V r2 = (p, q) := ⟨_, _, rfl⟩
      have Hr : Hid (Vl (inK V) r vr) := hid (pick_vl (r := r2) (by rw [HVL.out]; have := HS.out.2.2; omega) (by rw [HVL.out]; exact hr))
      have Hre := hid hr
      clear hr
      have hc0 := HL.out.cells.1
      have hc1 := HL.out.cells.2.1
      have hc2 := HL.out.cells.2.2
      go_wp2_with fail
      refine (law15_Pick wp1 b 4 aI aV 4 4 cI cV (inL 4) V x2 r2 r vr rfl rfl (inL_length 4) HVL.out (by omega) HL.out.rows.1 HL.out.rows.2.1 HR.out.2.2 Hre.out (inL_bound (by omega))).mono ?_
      rintro e wp2 ⟨rfl, hb⟩
      have HLn := hid (HL.out.below hb)
      have HBn := hid (HB.out.trans (hb.mono HB.out.size))
      clear HL HB hb hc0 hc1 hc2 Hre
      have HL := HLn
      have HB := HBn
      clear HLn HBn
      have hc0 := HL.out.cells.1
      go_wp2_with fail
      refine (ls_And wp2 w.heap.size b bc (5) 4 _ (inK V) aI aV cI cV (inL 4) V (p) (q) vp vq HL.out Hp.out Hq.out (by omega)).mono ?_
      rintro e wg0 ⟨zand, K0, rfl, hl, hb, hx, hv⟩
      have HLn := hid hl
      have HBn := hid (HB.out.trans hb)
      have Hpn := hid (Hp.out.ext hx)
      have Hqn := hid (Hq.out.ext hx)
      have Hrn := hid (Hr.out.ext hx)
      have Hzand := hid hv
      clear HL HB hl hb hx hv hc0 Hp Hq Hr 
      have HL := HLn
      have HB := HBn
      clear HLn HBn
      have Hp := Hpn
      clear Hpn
      have Hq := Hqn
      clear Hqn
      have Hr := Hrn
      clear Hrn
      have hc0 := HL.out.cells.1
      go_wp2_with fail
      refine (ls_And wg0 w.heap.size b bc (5 + 1) 4 _ K0 aI aV cI cV (inL 4) V (q) (p) vq vp HL.out Hq.out Hp.out (by omega)).mono ?_
      rintro e wg1 ⟨zand2, K1, rfl, hl, hb, hx, hv⟩
      have HLn := hid hl
      have HBn := hid (HB.out.trans hb)
      have Hpn := hid (Hp.out.ext hx)
      have Hqn := hid (Hq.out.ext hx)
      have Hrn := hid (Hr.out.ext hx)
      have Hzandn := hid (Hzand.out.ext hx)
      have Hzand2 := hid hv
      clear HL HB hl hb hx hv hc0 Hp Hq Hr Hzand 
      have HL := HLn
      have HB := HBn
      clear HLn HBn
      have Hp := Hpn
      clear Hpn
      have Hq := Hqn
      clear Hqn
      have Hr := Hrn
      clear Hrn
      have Hzand := Hzandn
      clear Hzandn
      have hc0 := HL.out.cells.1
      have hwp := HL.out.wrap Hp.out.1 (by omega)
      have hwq := HL.out.wrap Hq.out.1 (by omega)
      go_wp2_with fail
      refine (ls_Or wg1 w.heap.size b bc (5 + 1 + 1) 4 _ K1 aI aV cI cV (inL 4) V (-p) (-q) (!vp) (!vq) HL.out (HL.out.neg Hp.out) (HL.out.neg Hq.out) (by omega)).mono ?_
      rintro e wg2 ⟨zor, K2, rfl, hl, hb, hx, hv⟩
      have HLn := hid hl
      have HBn := hid (HB.out.trans hb)
      have Hpn := hid (Hp.out.ext hx)
      have Hqn := hid (Hq.out.ext hx)
      have Hrn := hid (Hr.out.ext hx)
      have Hzandn := hid (Hzand.out.ext hx)
      have Hzand2n := hid (Hzand2.out.ext hx)
      have Hzor := hid hv
      clear HL HB hl hb hx hv hc0 Hp Hq Hr Hzand Hzand2 hwp hwq
      have HL := HLn
      have HB := HBn
      clear HLn HBn
      have Hp := Hpn
      clear Hpn
      have Hq := Hqn
      clear Hqn
      have Hr := Hrn
      clear Hrn
      have Hzand := Hzandn
      clear Hzandn
      have Hzand2 := Hzand2n
      clear Hzand2n
      have hc0 := HL.out.cells.1
      go_wp2_with fail
      refine (ls_Xor wg2 w.heap.size b bc (5 + 1 + 1 + 1) 4 _ K2 aI aV cI cV (inL 4) V (p) (q) vp vq HL.out Hp.out Hq.out (by omega)).mono ?_
      rintro e wg3 ⟨zxor, K3, rfl, hl, hb, hx, hv⟩
      have HLn := hid hl
      have HBn := hid (HB.out.trans hb)
      have Hpn := hid (Hp.out.ext hx)
      have Hqn := hid (Hq.out.ext hx)
      have Hrn := hid (Hr.out.ext hx)
      have Hzandn := hid (Hzand.out.ext hx)
      have Hzand2n := hid (Hzand2.out.ext hx)
      have Hzorn := hid (Hzor.out.ext hx)
      have Hzxor := hid hv
      clear HL HB hl hb hx hv hc0 Hp Hq Hr Hzand Hzand2 Hzor 
      have HL := HLn
      have HB := HBn
      clear HLn HBn
      have Hp := Hpn
      clear Hpn
      have Hq := Hqn
      clear Hqn
      have Hr := Hrn
      clear Hrn
      have Hzand := Hzandn
      clear Hzandn
      have Hzand2 := Hzand2n
      clear Hzand2n
      have Hzor := Hzorn
      clear Hzorn
      have hc0 := HL.out.cells.1
      go_wp2_with fail
      refine (ls_Xor wg3 w.heap.size b bc (5 + 1 + 1 + 1 + 1) 4 _ K3 aI aV cI cV (inL 4) V (q) (p) vq vp HL.out Hq.out Hp.out (by omega)).mono ?_
      rintro e wg4 ⟨zxor2, K4, rfl, hl, hb, hx, hv⟩
      have HLn := hid hl
      have HBn := hid (HB.out.trans hb)
      have Hpn := hid (Hp.out.ext hx)
      have Hqn := hid (Hq.out.ext hx)
      have Hrn := hid (Hr.out.ext hx)
      have Hzandn := hid (Hzand.out.ext hx)
      have Hzand2n := hid (Hzand2.out.ext hx)
      have Hzorn := hid (Hzor.out.ext hx)
      have Hzxorn := hid (Hzxor.out.ext hx)
      have Hzxor2 := hid hv
      clear HL HB hl hb hx hv hc0 Hp Hq Hr Hzand Hzand2 Hzor Hzxor 
      have HL := HLn
      have HB := HBn
      clear HLn HBn
      have Hp := Hpn
      clear Hpn
      have Hq := Hqn
      clear Hqn
      have Hr := Hrn
      clear Hrn
      have Hzand := Hzandn
      clear Hzandn
      have Hzand2 := Hzand2n
      clear Hzand2n
      have Hzor := Hzorn
      clear Hzorn
      have Hzxor := Hzxorn
      clear Hzxorn
      have hc0 := HL.out.cells.1
      go_wp2_with fail
      refine (ls_Or wg4 w.heap.size b bc (5 + 1 + 1 + 1 + 1 + 1) 4 _ K4 aI aV cI cV (inL 4) V (p) (q) vp vq HL.out Hp.out Hq.out (by omega)).mono ?_
      rintro e wg5 ⟨zboth, K5, rfl, hl, hb, hx, hv⟩
      have HLn := hid hl
      have HBn := hid (HB.out.trans hb)
      have Hpn := hid (Hp.out.ext hx)
      have Hqn := hid (Hq.out.ext hx)
      have Hrn := hid (Hr.out.ext hx)
      have Hzandn := hid (Hzand.out.ext hx)
      have Hzand2n := hid (Hzand2.out.ext hx)
      have Hzorn := hid (Hzor.out.ext hx)
      have Hzxorn := hid (Hzxor.out.ext hx)
      have Hzxor2n := hid (Hzxor2.out.ext hx)
      have Hzboth := hid hv
      clear HL HB hl hb hx hv hc0 Hp Hq Hr Hzand Hzand2 Hzor Hzxor Hzxor2 
      have HL := HLn
      have HB := HBn
      clear HLn HBn
      have Hp := Hpn
      clear Hpn
      have Hq := Hqn
      clear Hqn
      have Hr := Hrn
      clear Hrn
      have Hzand := Hzandn
      clear Hzandn
      have Hzand2 := Hzand2n
      clear Hzand2n
      have Hzor := Hzorn
      clear Hzorn
      have Hzxor := Hzxorn
      clear Hzxorn
      have Hzxor2 := Hzxor2n
      clear Hzxor2n
      have hc0 := HL.out.cells.1
      go_wp2_with fail
      refine (ls_And wg5 w.heap.size b bc (5 + 1 + 1 + 1 + 1 + 1 + 1) 4 _ K5 aI aV cI cV (inL 4) V (zboth) (zor) (vp || vq) ((!vp) || (!vq)) HL.out Hzboth.out Hzor.out (by omega)).mono ?_
      rintro e wg6 ⟨zone, K6, rfl, hl, hb, hx, hv⟩
      have HLn := hid hl
      have HBn := hid (HB.out.trans hb)
      have Hpn := hid (Hp.out.ext hx)
      have Hqn := hid (Hq.out.ext hx)
      have Hrn := hid (Hr.out.ext hx)
      have Hzandn := hid (Hzand.out.ext hx)
      have Hzand2n := hid (Hzand2.out.ext hx)
      have Hzorn := hid (Hzor.out.ext hx)
      have Hzxorn := hid (Hzxor.out.ext hx)
      have Hzxor2n := hid (Hzxor2.out.ext hx)
      have Hzone := hid hv
      clear HL HB hl hb hx hv hc0 Hp Hq Hr Hzand Hzand2 Hzor Hzxor Hzxor2 Hzboth 
      have HL := HLn
      have HB := HBn
      clear HLn HBn
      have Hp := Hpn
      clear Hpn
      have Hq := Hqn
      clear Hqn
      have Hr := Hrn
      clear Hrn
      have Hzand := Hzandn
      clear Hzandn
      have Hzand2 := Hzand2n
      clear Hzand2n
      have Hzor := Hzorn
      clear Hzorn
      have Hzxor := Hzxorn
      clear Hzxorn
      have Hzxor2 := Hzxor2n
      clear Hzxor2n
      have hc0 := HL.out.cells.1
      go_wp2_with fail
      refine (ls_Mux wg6 w.heap.size b bc (5 + 1 + 1 + 1 + 1 + 1 + 1 + 1) 4 _ K6 aI aV cI cV (inL 4) V (p) (q) (r) vp vq vr HL.out Hp.out Hq.out Hr.out (by omega)).mono ?_
      rintro e wg7 ⟨zmux, K7, rfl, hl, hb, hx, hv⟩
      have HLn := hid hl
      have HBn := hid (HB.out.trans hb)
      have Hpn := hid (Hp.out.ext hx)
      have Hqn := hid (Hq.out.ext hx)
      have Hrn := hid (Hr.out.ext hx)
      have Hzandn := hid (Hzand.out.ext hx)
      have Hzand2n := hid (Hzand2.out.ext hx)
      have Hzorn := hid (Hzor.out.ext hx)
      have Hzxorn := hid (Hzxor.out.ext hx)
      have Hzxor2n := hid (Hzxor2.out.ext hx)
      have Hzonen := hid (Hzone.out.ext hx)
      have Hzmux := hid hv
      clear HL HB hl hb hx hv hc0 Hp Hq Hr Hzand Hzand2 Hzor Hzxor Hzxor2 Hzone 
      have HL := HLn
      have HB := HBn
      clear HLn HBn
      have Hp := Hpn
      clear Hpn
      have Hq := Hqn
      clear Hqn
      have Hr := Hrn
      clear Hrn
      have Hzand := Hzandn
      clear Hzandn
      have Hzand2 := Hzand2n
      clear Hzand2n
      have Hzor := Hzorn
      clear Hzorn
      have Hzxor := Hzxorn
      clear Hzxorn
      have Hzxor2 := Hzxor2n
      clear Hzxor2n
      have Hzone := Hzonen
      clear Hzonen
      have hc0 := HL.out.cells.1
      go_wp2_with fail
      refine (ls_And wg7 w.heap.size b bc (5 + 1 + 1 + 1 + 1 + 1 + 1 + 1 + 1) 4 _ K7 aI aV cI cV (inL 4) V (p) (q) vp vq HL.out Hp.out Hq.out (by omega)).mono ?_
      rintro e wg8 ⟨zleft, K8, rfl, hl, hb, hx, hv⟩
      have HLn := hid hl
      have HBn := hid (HB.out.trans hb)
      have Hpn := hid (Hp.out.ext hx)
      have Hqn := hid (Hq.out.ext hx)
      have Hrn := hid (Hr.out.ext hx)
      have Hzandn := hid (Hzand.out.ext hx)
      have Hzand2n := hid (Hzand2.out.ext hx)
      have Hzorn := hid (Hzor.out.ext hx)
      have Hzxorn := hid (Hzxor.out.ext hx)
      have Hzxor2n := hid (Hzxor2.out.ext hx)
      have Hzonen := hid (Hzone.out.ext hx)
      have Hzmuxn := hid (Hzmux.out.ext hx)
      have Hzleft := hid hv
      clear HL HB hl hb hx hv hc0 Hp Hq Hr Hzand Hzand2 Hzor Hzxor Hzxor2 Hzone Hzmux 
      have HL := HLn
      have HB := HBn
      clear HLn HBn
      have Hp := Hpn
      clear Hpn
      have Hq := Hqn
      clear Hqn
      have Hr := Hrn
      clear Hrn
      have Hzand := Hzandn
      clear Hzandn
      have Hzand2 := Hzand2n
      clear Hzand2n
      have Hzor := Hzorn
      clear Hzorn
      have Hzxor := Hzxorn
      clear Hzxorn
      have Hzxor2 := Hzxor2n
      clear Hzxor2n
      have Hzone := Hzonen
      clear Hzonen
      have Hzmux := Hzmuxn
      clear Hzmuxn
      have hc0 := HL.out.cells.1
      have hwp := HL.out.wrap Hp.out.1 (by omega)
      go_wp2_with fail
      refine (ls_And wg8 w.heap.size b bc (5 + 1 + 1 + 1 + 1 + 1 + 1 + 1 + 1 + 1) 4 _ K8 aI aV cI cV (inL 4) V (-p) (r) (!vp) vr HL.out (HL.out.neg Hp.out) Hr.out (by omega)).mono ?_
      rintro e wg9 ⟨zright, K9, rfl, hl, hb, hx, hv⟩
      have HLn := hid hl
      have HBn := hid (HB.out.trans hb)
      have Hpn := hid (Hp.out.ext hx)
      have Hqn := hid (Hq.out.ext hx)
      have Hzandn := hid (Hzand.out.ext hx)
      have Hzand2n := hid (Hzand2.out.ext hx)
      have Hzorn := hid (Hzor.out.ext hx)
      have Hzxorn := hid (Hzxor.out.ext hx)
      have Hzxor2n := hid (Hzxor2.out.ext hx)
      have Hzonen := hid (Hzone.out.ext hx)
      have Hzmuxn := hid (Hzmux.out.ext hx)
      have Hzleftn := hid (Hzleft.out.ext hx)
      have Hzright := hid hv
      clear HL HB hl hb hx hv hc0 Hp Hq Hr Hzand Hzand2 Hzor Hzxor Hzxor2 Hzone Hzmux Hzleft hwp
      have HL := HLn
      have HB := HBn
      clear HLn HBn
      have Hp := Hpn
      clear Hpn
      have Hq := Hqn
      clear Hqn
      have Hzand := Hzandn
      clear Hzandn
      have Hzand2 := Hzand2n
      clear Hzand2n
      have Hzor := Hzorn
      clear Hzorn
      have Hzxor := Hzxorn
      clear Hzxorn
      have Hzxor2 := Hzxor2n
      clear Hzxor2n
      have Hzone := Hzonen
      clear Hzonen
      have Hzmux := Hzmuxn
      clear Hzmuxn
      have Hzleft := Hzleftn
      clear Hzleftn
      have hc0 := HL.out.cells.1
      go_wp2_with fail
      refine (ls_Or wg9 w.heap.size b bc (5 + 1 + 1 + 1 + 1 + 1 + 1 + 1 + 1 + 1 + 1) 4 _ K9 aI aV cI cV (inL 4) V (zleft) (zright) (vp && vq) ((!vp) && vr) HL.out Hzleft.out Hzright.out (by omega)).mono ?_
      rintro e wg10 ⟨zmux2, K10, rfl, hl, hb, hx, hv⟩
      have HLn := hid hl
      have HBn := hid (HB.out.trans hb)
      have Hpn := hid (Hp.out.ext hx)
      have Hqn := hid (Hq.out.ext hx)
      have Hzandn := hid (Hzand.out.ext hx)
      have Hzand2n := hid (Hzand2.out.ext hx)
      have Hzorn := hid (Hzor.out.ext hx)
      have Hzxorn := hid (Hzxor.out.ext hx)
      have Hzxor2n := hid (Hzxor2.out.ext hx)
      have Hzonen := hid (Hzone.out.ext hx)
      have Hzmuxn := hid (Hzmux.out.ext hx)
      have Hzmux2 := hid hv
      clear HL HB hl hb hx hv hc0 Hp Hq Hzand Hzand2 Hzor Hzxor Hzxor2 Hzone Hzmux Hzleft Hzright 
      have HL := HLn
      have HB := HBn
      clear HLn HBn
      have Hp := Hpn
      clear Hpn
      have Hq := Hqn
      clear Hqn
      have Hzand := Hzandn
      clear Hzandn
      have Hzand2 := Hzand2n
      clear Hzand2n
      have Hzor := Hzorn
      clear Hzorn
      have Hzxor := Hzxorn
      clear Hzxorn
      have Hzxor2 := Hzxor2n
      clear Hzxor2n
      have Hzone := Hzonen
      clear Hzonen
      have Hzmux := Hzmuxn
      clear Hzmuxn
      have hc0 := HL.out.cells.1
      go_wp2_with fail
      refine (ls_Xor wg10 w.heap.size b bc (5 + 1 + 1 + 1 + 1 + 1 + 1 + 1 + 1 + 1 + 1 + 1) 4 _ K10 aI aV cI cV (inL 4) V (zxor) (q) (vp != vq) vq HL.out Hzxor.out Hq.out (by omega)).mono ?_
      rintro e wg11 ⟨ztwice, K11, rfl, hl, hb, hx, hv⟩
      have HLn := hid hl
      have HBn := hid (HB.out.trans hb)
      have Hpn := hid (Hp.out.ext hx)
      have Hzandn := hid (Hzand.out.ext hx)
      have Hzand2n := hid (Hzand2.out.ext hx)
      have Hzorn := hid (Hzor.out.ext hx)
      have Hzxorn := hid (Hzxor.out.ext hx)
      have Hzxor2n := hid (Hzxor2.out.ext hx)
      have Hzonen := hid (Hzone.out.ext hx)
      have Hzmuxn := hid (Hzmux.out.ext hx)
      have Hzmux2n := hid (Hzmux2.out.ext hx)
      have Hztwice := hid hv
      clear HL HB hl hb hx hv hc0 Hp Hq Hzand Hzand2 Hzor Hzxor Hzxor2 Hzone Hzmux Hzmux2 
      have HL := HLn
      have HB := HBn
      clear HLn HBn
      have Hp := Hpn
      clear Hpn
      have Hzand := Hzandn
      clear Hzandn
      have Hzand2 := Hzand2n
      clear Hzand2n
      have Hzor := Hzorn
      clear Hzorn
      have Hzxor := Hzxorn
      clear Hzxorn
      have Hzxor2 := Hzxor2n
      clear Hzxor2n
      have Hzone := Hzonen
      clear Hzonen
      have Hzmux := Hzmuxn
      clear Hzmuxn
      have Hzmux2 := Hzmux2n
      clear Hzmux2n
      have HM : Hid (∀ j : Nat, j < 6 → ∃ y0 y1 : Int, ∃ v : Bool, ([.int .i64 (zand), .int .i64 (zand2), .int .i64 (zand), .int .i64 (-zor), .int .i64 (zxor), .int .i64 (zxor2), .int .i64 (zxor), .int .i64 (zone), .int .i64 (zmux), .int .i64 (zmux2), .int .i64 (ztwice), .int .i64 (p)] : List Value)[j * 2]? = some (.int .i64 y0) ∧ ([.int .i64 (zand), .int .i64 (zand2), .int .i64 (zand), .int .i64 (-zor), .int .i64 (zxor), .int .i64 (zxor2), .int .i64 (zxor), .int .i64 (zone), .int .i64 (zmux), .int .i64 (zmux2), .int .i64 (ztwice), .int .i64 (p)] : List Value)[j * 2 + 1]? = some (.int .i64 y1) ∧ Vl K11 y0 v ∧ Vl K11 y1 v) := hid (by
        have hzo := HL.out.neg Hzor.out
        intro j hj
        match j, hj with
        | 0, _ => exact ⟨_, _, (vp && vq), rfl, rfl, Hzand.out, by have := Hzand2.out; cases vp <;> cases vq <;> cases vr <;> exact this⟩
        | 1, _ => exact ⟨_, _, (vp && vq), rfl, rfl, Hzand.out, by have := hzo; cases vp <;> cases vq <;> cases vr <;> exact this⟩
        | 2, _ => exact ⟨_, _, (vp != vq), rfl, rfl, Hzxor.out, by have := Hzxor2.out; cases vp <;> cases vq <;> cases vr <;> exact this⟩
        | 3, _ => exact ⟨_, _, (vp != vq), rfl, rfl, Hzxor.out, by have := Hzone.out; cases vp <;> cases vq <;> cases vr <;> exact this⟩
        | 4, _ => exact ⟨_, _, (if vp then vq else vr), rfl, rfl, Hzmux.out, by have := Hzmux2.out; cases vp <;> cases vq <;> cases vr <;> exact this⟩
        | 5, _ => exact ⟨_, _, ((vp != vq) != vq), rfl, rfl, Hztwice.out, by have := Hp.out; cases vp <;> cases vq <;> cases vr <;> exact this⟩
        | j + 6, hj => omega)
      have hwo := HL.out.wrap Hzor.out.1 (by omega)
      clear Hp Hzand Hzand2 Hzor Hzxor Hzxor2 Hzone Hzmux Hzmux2 Hztwice
      obtain ⟨X, n, G, hgs, hcell, hrI, hrV, hBc⟩ := HL.out
      have HGS := hid hgs
      have HU := hid (hgs.units (by omega))
      have hck := hgs.check (by omega)
      have HCK := hid hck
      have hpt := HL.out.cells
      have hc0 := hpt.1
      have hc1 := hpt.2.1
      have hc2 := hpt.2.2
      have HLD := hid (HL.out.below (Below.refl _ _).drew)
      have HGD : Hid (GB X wg11.drew w.heap.size b n G) := hid (hgs.gb.below (Below.refl _ _).drew)
      have HBD : Hid (Below w.heap.size w wg11.drew) := hid HB.out.drew
      have hAl : (asV (inL 4) V).length = 4 := by simp [asV, inL_length, HVL.out]
      have HAL := hid hAl
      have HCI := hid hgs.circ
      have HNM := hid hgs.nm
      have HGCL : Hid (∀ c ∈ G, c.length ≤ 1048576) := hid (fun c hc => by have := hgs.cl c hc; omega)
      clear hgs hck hcell hrI hrV hBc hpt hAl
      go_wp2_with fail
      go_region_held3 (fun x => x.cell? ⟨bc, 0, none⟩ = some (.pointer (some ⟨b, 0, none⟩)) ∧ x.cell? ⟨bc, 1, none⟩ = some (.slice aI 4 cI) ∧ x.cell? ⟨bc, 2, none⟩ = some (.slice aV 4 cV)) (first | exact ⟨‹_›, ‹_›, ‹_›⟩ | go_keep) (first
        | (go_at_call 33; refine (gate_Formula _ w.heap.size b n G HGD.out HCK.out.2.2.2.1 HGCL.out).mono ?_; rintro e wf ⟨af, cf, rfl, hrf, hbf⟩; have HLF := hid (HLD.out.below hbf); have k0 := HLF.out.cells.1; have k1 := HLF.out.cells.2.1; have k2 := HLF.out.cells.2.2; have HRF := hid hrf; have HBF := hid (HBD.out.trans (hbf.mono HBD.out.size)); clear hrf hbf)
        | (go_at_call 31; refine (law15_Assume _ b 4 aI aV 4 4 cI cV (inL 4) V rfl rfl (inL_length 4) HVL.out (by omega) HLF.out.rows.1 HLF.out.rows.2.1 (inL_bound (by omega))).mono ?_; rintro e wa ⟨va, rfl, hoa, hba⟩; obtain ⟨aA, cA, rfl⟩ := own_lenV' hoa; have HLA := hid (HLF.out.below hba); have k0 := HLA.out.cells.1; have k1 := HLA.out.cells.2.1; have k2 := HLA.out.cells.2.2; have HRA := hid (HRF.out.below hba); have HSA := hid (own_slv hoa); have HBA := hid (HBF.out.trans (hba.mono HBF.out.size)); clear hoa hba)
        | (go_at_call 40; refine (prop_UnitsN n af G G.length cf aA (asV (inL 4) V) 4 cA _ false 0 _ HU.out rfl HAL.out.symm HCK.out.2.1 HRA.out HSA.out (by have := HCK.out.2.2.2.1; omega) (by rw [HAL.out]; omega)).mono ?_; rintro e wu ⟨hbu, au, cu, rfl, hsu⟩; have HLU := hid (HLA.out.below hbu); have k0 := HLU.out.cells.1; have k1 := HLU.out.cells.2.1; have k2 := HLU.out.cells.2.2; have HSU := hid hsu; have HBU := hid (HBA.out.trans (hbu.mono HBA.out.size)); clear hsu hbu))
      all_goals
        clear HB HL HLD HGD HBD HGCL
        have hUl := unG_length n K11
        go_wp2_with fail
        have hX0 : (wu.alloc (.cells ([.int .i64 (zand), .int .i64 (zand2), .int .i64 (zand), .int .i64 (-zor), .int .i64 (zxor), .int .i64 (zxor2), .int .i64 (zxor), .int .i64 (zone), .int .i64 (zmux), .int .i64 (zmux2), .int .i64 (ztwice), .int .i64 (p)] : List Value).toArray 70 (0, 0))).heap[wu.heap.size]? = some (.cells ([.int .i64 (zand), .int .i64 (zand2), .int .i64 (zand), .int .i64 (-zor), .int .i64 (zxor), .int .i64 (zxor2), .int .i64 (zxor), .int .i64 (zone), .int .i64 (zmux), .int .i64 (zmux2), .int .i64 (ztwice), .int .i64 (p)] : List Value).toArray 70 (0, 0)) := heap_alloc_new _ _
        have HX0 := hid hX0
        have HB0 : Hid (Below wu.heap.size wu (wu.alloc (.cells ([.int .i64 (zand), .int .i64 (zand2), .int .i64 (zand), .int .i64 (-zor), .int .i64 (zxor), .int .i64 (zxor2), .int .i64 (zxor), .int .i64 (zone), .int .i64 (zmux), .int .i64 (zmux2), .int .i64 (ztwice), .int .i64 (p)] : List Value).toArray 70 (0, 0)))) := hid (box_below _ _)
        clear hX0
        go_loopw [230] (fun s230 wl => ∃ j : Nat, s230 = .int .i64 j ∧ j ≤ 6 ∧ Hid (wl.heap[wu.heap.size]? = some (.cells ([.int .i64 (zand), .int .i64 (zand2), .int .i64 (zand), .int .i64 (-zor), .int .i64 (zxor), .int .i64 (zxor2), .int .i64 (zxor), .int .i64 (zone), .int .i64 (zmux), .int .i64 (zmux2), .int .i64 (ztwice), .int .i64 (p)] : List Value).toArray 70 (0, 0))) ∧ Hid (Below wu.heap.size wu wl)) (fun s230 _ => (6 - (intOf s230)).toNat)
        case atStart => exact ⟨0, rfl, Nat.zero_le _, HX0, HB0⟩
        case round =>
          clear HX0 HB0
          obtain ⟨j, rfl, hj, HX, HBL⟩ := hrel
          by_cases hj6 : j < 6
          · obtain ⟨y0, y1, v, e0, e1, hv0, hv1⟩ := HM.out j hj6
            have hj62 : (j : Int) < 6 := by omega
            have hwj : IntKind.i64.wrap ((j : Int) + 1) = (j : Int) + 1 := IntWalk.i64_in _ (by omega)
            have hcp0 := (fit_cell HX.out (j * 2)).trans e0
            have hcp1 := (fit_cell HX.out (j * 2 + 1)).trans e1
            have hxl : wu.heap.size < wr.heap.size := (Array.getElem?_eq_some_iff.1 HX.out).1
            have HY0 := hid (hasG_un HCI.out hv0)
            have HY1 := hid (hasG_un HCI.out hv1)
            have HN0 := hid (HLU.out.bound hv0.1 (by omega))
            have HN1 := hid (HLU.out.bound hv1.1 (by omega))
            clear e0 e1 hv0 hv1
            go_wp2_with fail
            have h0 : (wr.alloc (.cells #[.int .i64 y0, .int .i64 y1] 70 (0, 0))).cell? ⟨wr.heap.size, 0, none⟩ = some (.int .i64 y0) := fit_cell (vs := [.int .i64 y0, .int .i64 y1]) (heap_alloc_new wr _) 0
            have h1 : (wr.alloc (.cells #[.int .i64 y0, .int .i64 y1] 70 (0, 0))).cell? ⟨wr.heap.size, 1, none⟩ = some (.int .i64 y1) := fit_cell (vs := [.int .i64 y0, .int .i64 y1]) (heap_alloc_new wr _) 1
            have HBP : Hid (Below wu.heap.size wu (wr.alloc (.cells #[.int .i64 y0, .int .i64 y1] 70 (0, 0)))) := hid (below_al HBL.out HBL.out.size _)
            have HXP := hid ((Below.heap_alloc wr (.cells #[.int .i64 y0, .int .i64 y1] 70 (0, 0)) _ hxl).trans HX.out)
            clear hcp0 hcp1
            refine (law15_has _ au (unG n K11) _ cu y0 rfl (HSU.out.below HBP.out) (by have := HNM.out; omega) HN0.out).mono ?_
            rw [HY0.out.1, HY0.out.2]
            rintro e wh1 ⟨rfl, hb⟩
            have g0 := below_keeps hb _ _ h0
            have g1 := below_keeps hb _ _ h1
            have HBN := hid (HBP.out.trans (hb.mono HBP.out.size))
            have HXN := hid ((hb.block wu.heap.size (Array.getElem?_eq_some_iff.1 HXP.out).1).trans HXP.out)
            clear h0 h1 hb HBP HXP
            have h0 := g0
            have h1 := g1
            have HBP := HBN
            have HXP := HXN
            clear g0 g1 HBN HXN
            go_wp2_with fail
            refine (law15_has _ au (unG n K11) _ cu y1 rfl (HSU.out.below HBP.out) (by have := HNM.out; omega) HN1.out).mono ?_
            rw [HY1.out.1, HY1.out.2]
            rintro e wh2 ⟨rfl, hb⟩
            have g0 := below_keeps hb _ _ h0
            have g1 := below_keeps hb _ _ h1
            have HBN := hid (HBP.out.trans (hb.mono HBP.out.size))
            have HXN := hid ((hb.block wu.heap.size (Array.getElem?_eq_some_iff.1 HXP.out).1).trans HXP.out)
            clear h0 h1 hb HBP HXP
            have h0 := g0
            have h1 := g1
            have HBP := HBN
            have HXP := HXN
            clear g0 g1 HBN HXN
            go_wp2_with fail
            refine (law15_has _ au (unG n K11) _ cu y0 rfl (HSU.out.below HBP.out) (by have := HNM.out; omega) HN0.out).mono ?_
            rw [HY0.out.1, HY0.out.2]
            rintro e wh3 ⟨rfl, hb⟩
            have g0 := below_keeps hb _ _ h0
            have g1 := below_keeps hb _ _ h1
            have HBN := hid (HBP.out.trans (hb.mono HBP.out.size))
            have HXN := hid ((hb.block wu.heap.size (Array.getElem?_eq_some_iff.1 HXP.out).1).trans HXP.out)
            clear h0 h1 hb HBP HXP
            have h0 := g0
            have h1 := g1
            have HBP := HBN
            have HXP := HXN
            clear g0 g1 HBN HXN
            go_wp2_with fail
            refine (law15_has _ au (unG n K11) _ cu y1 rfl (HSU.out.below HBP.out) (by have := HNM.out; omega) HN1.out).mono ?_
            rw [HY1.out.1, HY1.out.2]
            rintro e wh4 ⟨rfl, hb⟩
            have g0 := below_keeps hb _ _ h0
            have g1 := below_keeps hb _ _ h1
            have HBN := hid (HBP.out.trans (hb.mono HBP.out.size))
            have HXN := hid ((hb.block wu.heap.size (Array.getElem?_eq_some_iff.1 HXP.out).1).trans HXP.out)
            clear h0 h1 hb HBP HXP
            have h0 := g0
            have h1 := g1
            have HBP := HBN
            have HXP := HXN
            clear g0 g1 HBN HXN
            cases v
            all_goals
              go_wp2_with fail
              go_roundw
              case rel => exact ⟨j + 1, by simp, hj6, HXP, HBP⟩
              case measure => simp [intOf]; omega
          · go_wp2_with fail
            go_roundw
            case rel => exact ⟨i + 1, by simp, hlt, hid (HBU.out.trans (HBL.out.mono HBU.out.size))⟩
            case measure => simp [intOf]; omega
    · go_wp2_with (go_at_call 30; refine (law15_awake _).mono ?_; rintro e w' ⟨rfl, hb⟩)
      go_ret
      exact ⟨rfl, HB.out.trans (hb.mono HB.out.size)⟩

end Go.Proofs.Ytacmfiikdbekbaa.Ord
