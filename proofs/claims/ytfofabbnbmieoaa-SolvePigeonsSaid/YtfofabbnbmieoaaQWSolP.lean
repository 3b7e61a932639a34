/- The walk of SolvePigeons. -/
import Derived.Test.YtfofabbnbmieoaaQSPig
import Derived.Test.YtfofabbnbmieoaaQ20

namespace Go.Proofs.Ytfofabbnbmieoaa.Ord
open Go.RowKit

attribute [local go_sem ↓] Go.wp_at_zero Go.wp_at_succ
attribute [local go_sem ↓ high] app_mark

/-- The clauses of the pigeons below p. -/
def pigP (H p : Nat) : List (List Int) := (List.range p).flatMap fun p => pone H p
/-- The clauses of the pigeon p for the holes below h. -/
def pigH (p h : Nat) (H : Nat) : List (List Int) := (List.range h).flatMap fun h => ppairs H p h

theorem pigP_succ (H p : Nat) : pigP H (p + 1) = pigP H p ++ (pigH p H H ++ [prow H p]) := by
  unfold pigP
  rw [List.range_succ, List.flatMap_append]
  simp [pone, pigH]

theorem pigH_succ (p h H : Nat) : pigH p (h + 1) H = pigH p h H ++ ppairs H p h := by
  unfold pigH
  rw [List.range_succ, List.flatMap_append]
  simp

theorem prow_take {H p h : Nat} (hh : h < H) : (prow H p).take (h + 1) = (prow H p).take h ++ [pvar H p h] := by
  rw [List.take_add_one]
  unfold prow
  rw [List.getElem?_map, List.getElem?_range hh]
  rfl

theorem pairs_take {H p h q : Nat} (hq : q < p) : (ppairs H p h).take (q + 1) = (ppairs H p h).take q ++ [ppair H p h q] := by
  rw [List.take_add_one]
  unfold ppairs
  rw [List.getElem?_map, List.getElem?_range hq]
  rfl

theorem pigP_len (H : Nat) : ∀ p, (pigP H p).length ≤ p * (H * p + 1)
  | 0 => by simp [pigP]
  | p + 1 => by
    have ih := pigP_len H p
    rw [pigP_succ]
    have h1 : (pigH p H H).length = H * p := by
      unfold pigH
      rw [List.length_flatMap]
      have : (List.map (fun a => (ppairs H p a).length) (List.range H)) = List.replicate H p := by
        refine List.ext_getElem (by simp) fun i h1 h2 => by simp [ppairs]
      rw [this]
      simp
    simp only [List.length_append, List.length_singleton, h1]
    have h2 : p * (H * p + 1) ≤ p * (H * (p + 1) + 1) := Nat.mul_le_mul_left _ (Nat.add_le_add_right (Nat.mul_le_mul_left _ (Nat.le_succ _)) _)
    have h3 : (p + 1) * (H * (p + 1) + 1) = p * (H * (p + 1) + 1) + (H * (p + 1) + 1) := Nat.succ_mul _ _
    have h4 : H * p ≤ H * (p + 1) := Nat.mul_le_mul_left _ (Nat.le_succ _)
    omega

theorem wr_nat {a : Nat} (h : a ≤ 1000) : IntKind.i64.wrap (a : Int) = (a : Int) := IntWalk.i64_in _ (by omega)
theorem wr_sum {a b : Nat} (ha : a ≤ 1000) (hb : b ≤ 1000) : IntKind.i64.wrap ((a : Int) + (b : Int)) = ((a + b : Nat) : Int) := (IntWalk.i64_in _ (by omega)).trans (by omega)
theorem wr_succ {a : Nat} (ha : a ≤ 3000) : IntKind.i64.wrap ((a : Int) + 1) = ((a + 1 : Nat) : Int) := (IntWalk.i64_in _ (by omega)).trans (by omega)
theorem wr_neg {a : Nat} (ha : a ≤ 3000) : IntKind.i64.wrap (-(a : Int)) = -(a : Int) := IntWalk.i64_in _ (by omega)

theorem mul25 {a b : Nat} (ha : a ≤ 5) (hb : b ≤ 5) : a * b ≤ 25 := Nat.mul_le_mul ha hb

theorem pigH_len (p h H : Nat) : (pigH p h H).length = h * p := by
  unfold pigH
  rw [List.length_flatMap]
  have : (List.map (fun a => (ppairs H p a).length) (List.range h)) = List.replicate h p := by
    refine List.ext_getElem (by simp) fun i h1 h2 => by simp [ppairs]
  rw [this, List.sum_replicate_nat]

theorem pig_small {p H : Nat} (hp : p ≤ 5) (hH : H ≤ 5) : (pigP H p).length ≤ 130 := by
  have h1 := pigP_len H p
  have h2 : p * (H * p + 1) ≤ 5 * (5 * 5 + 1) := Nat.mul_le_mul hp (Nat.add_le_add_right (Nat.mul_le_mul hH hp) _)
  omega

theorem len_q {p h H q : Nat} (hp : p ≤ 5) (hh : h ≤ 5) (hH : H ≤ 5) : (pigP H p ++ pigH p h H ++ (ppairs H p h).take q).length ≤ 1048576 := by
  have h1 := pig_small hp hH
  have h2 := pigH_len p h H
  have h3 := mul25 hh hp
  have h4 : ((ppairs H p h).take q).length ≤ p := by simp [ppairs]; omega
  simp only [List.length_append]
  omega

theorem len_p {p H : Nat} (hp : p ≤ 5) (hH : H ≤ 5) : (pigP H p ++ pigH p H H).length ≤ 1048576 := by
  have h1 := pig_small hp hH
  have h2 := pigH_len p H H
  have h3 := mul25 hH hp
  simp only [List.length_append]
  omega

theorem pvar_nat {H p h PH : Nat} (e : p * H = PH) : pvar H p h = ((PH + h + 1 : Nat) : Int) := by
  unfold pvar
  rw [← e]
  simp

theorem FB.setO {w : World} {B b k : Nat} {n : Int} {G : List (List Int)} (h : FB w B b n G) {cs : Array Value} {m : Nat × Nat} (hk : w.heap[k]? = some (.cells cs 34 m)) (hne : k ≠ b) (j : Nat) (u : Value) : FB (w.setCell ⟨k, j, none⟩ u) B b n G := by
  obtain ⟨f, vs, h1, h2, h3, h4⟩ := h
  exact ⟨f, vs, (heap_setCell_other w ⟨k, j, none⟩ b u (fun e => hne e.symm)).trans h1, h2, own_setO h3 hk (by decide) _ _, fun j c hj => let ⟨x, e1, e2⟩ := h4 j c hj; ⟨x, e1, ownT_setX e2 hk (by decide) _⟩⟩

theorem FB.rowsAt {w : World} {B b m c : Nat} {n n' : Int} {G : List (List Int)} {a : Option Addr} (h : FB w B b n G) (hb : w.heap[b]? = some (.cells #[.int .i64 n', .slice a m c] 34 (0, 0))) : Rws w a G := by
  obtain ⟨a', c', h1, h2⟩ := h.rows
  rw [hb] at h1
  injection h1 with h1
  injection h1 with h1
  have h3 := congrArg (fun x => x[1]?) h1
  simp at h3
  rw [h3.1]
  exact h2

set_option maxRecDepth 100000 in
set_option maxHeartbeats 8000000 in
theorem law07_pigeons (k H : Nat) (w : World) (hk : k ≤ 5) (hH : H ≤ 5) :
    Calls Try.prog 39 #[.int .i64 k, .int .i64 H] w fun e w' => ∃ a c, e = .returned (.agg #[.int .i64 ((k * H : Nat) : Int), .slice a (pig k H).length c]) ∧ Rws w' a (pig k H) ∧ Below w.heap.size w w' := by
  obtain ⟨N, hN⟩ : ∃ t, k * H = t := ⟨_, rfl⟩
  have hNl : N ≤ 25 := by rw [← hN]; exact Nat.mul_le_mul hk hH
  have hNw : IntKind.i64.wrap ((k : Int) * (H : Int)) = (N : Int) := by
    have : ((k : Int) * (H : Int)) = (N : Int) := by rw [← hN]; simp
    rw [this]
    exact IntWalk.i64_in _ (by omega)
  obtain ⟨w1, hw1⟩ : ∃ t, w.alloc (.cells #[.int .i64 0, .slice none 0 0] 34 (0, 0)) = t := ⟨_, rfl⟩
  obtain ⟨hb1, hs1, z1⟩ := box1 w _ hw1
  obtain ⟨hb2, hs2, z2⟩ := box1 w1 (.cells #[.int .i64 N, .slice none 0 0] 34 (0, 0)) rfl
  have hs1' : w1.heap.size = w.heap.size + 1 := hs1
  have hfb : FB (w1.alloc (.cells #[.int .i64 N, .slice none 0 0] 34 (0, 0))) w1.heap.size w1.heap.size N (pigP H 0) := ⟨_, [], z2, Nat.le_refl _, World.ownsRow_nil _ _ _ _, fun j c hj => by simp [pigP] at hj⟩
  rw [hs1'] at hfb hb2
  have H2 := hid (And.intro hfb hb2)
  have H1 := hid (And.intro hb1 (And.intro hs1 z1))
  have HN := hid (And.intro hN hNl)
  rw [hN]
  clear hfb hb2 hb1 hs1 z1 hs2 z2 hN
  go_enter Try.func39, Try.ntmps39
  go_wp2_with fail
  generalize w1.alloc (.cells #[.int .i64 N, .slice none 0 0] 34 (0, 0)) = w2 at H2 ⊢
  go_loopw [6] (fun s6 wl => ∃ p : Nat, s6 = .int .i64 p ∧ p ≤ k ∧ Hid (FB wl (w.heap.size + 1) (w.heap.size + 1) N (pigP H p) ∧ Below (w.heap.size + 1) w1 wl)) (fun s6 _ => (k - intOf s6).toNat)
  case atStart => exact ⟨0, rfl, Nat.zero_le _, H2⟩
  case round =>
    clear H2
    obtain ⟨p, rfl, hpk, HS⟩ := hrel
    have hp0 : (0 : Int) ≤ p := by omega
    have hwp : IntKind.i64.wrap ((p : Int) + 1) = (p : Int) + 1 := IntWalk.i64_in _ (by omega)
    by_cases hlt : p < k
    · have hlti : (p : Int) < k := by omega
      have HST := hid (HS.out.1.pst HS.out.2 (by rw [← hs1']; exact HS.out.2.size))
      go_wp2_with fail
      go_loopw [7, 8] (fun s7 s8 wm => ∃ h : Nat, s8 = .int .i64 h ∧ h ≤ H ∧ Hid (PSt w1 (w.heap.size + 1) (w.heap.size + 1) N wm (pigP H p ++ pigH p h H) s7 ((prow H p).take h))) (fun _ s8 _ => (H - intOf s8).toNat)
      case atStart => exact ⟨0, rfl, Nat.zero_le _, hid (by rw [show pigH p 0 H = [] from rfl, List.append_nil]; exact HST.out)⟩
      case round =>
        clear HST
        obtain ⟨h, rfl, hhH, HM⟩ := hrel
        have hh0 : (0 : Int) ≤ h := by omega
        have hwh : IntKind.i64.wrap ((h : Int) + 1) = (h : Int) + 1 := IntWalk.i64_in _ (by omega)
        obtain ⟨PH, hPH⟩ : ∃ t : Nat, p * H = t := ⟨_, rfl⟩
        have hPHl : PH ≤ 25 := by rw [← hPH]; exact mul25 (Nat.le_trans hpk hk) hH
        have hh5 : h ≤ 5 := Nat.le_trans hhH hH
        have hPHi : (p : Int) * (H : Int) = PH := by rw [← hPH]; simp
        have hxlen : ((prow H p).take h).length = h := by simp [prow]; omega
        by_cases hlt2 : h < H
        · have hlt2i : (h : Int) < H := by omega
          have hv9 := pvar_nat (h := h) hPH
          obtain ⟨S9, hS9⟩ : ∃ t : Nat, PH + h = t := ⟨_, rfl⟩
          have hS9l : S9 ≤ 1000 := by rw [← hS9]; exact Nat.le_trans (Nat.add_le_add hPHl hh5) (by decide)
          have hw9a : IntKind.i64.wrap ((PH : Int) + (h : Int)) = (S9 : Int) := by rw [← hS9]; exact wr_sum (Nat.le_trans hPHl (by decide)) (Nat.le_trans hh5 (by decide))
          rw [hS9] at hv9
          obtain ⟨V9, hV9⟩ : ∃ t : Nat, S9 + 1 = t := ⟨_, rfl⟩
          have hV9l : V9 ≤ 3000 := by rw [← hV9]; exact Nat.le_trans (Nat.add_le_add_right hS9l 1) (by decide)
          have hw9b : IntKind.i64.wrap ((S9 : Int) + 1) = (V9 : Int) := by rw [← hV9]; exact wr_succ (Nat.le_trans hS9l (by decide))
          rw [hV9] at hv9
          have hw9n := wr_neg hV9l
          have hw9p := wr_nat (a := PH) (Nat.le_trans hPHl (by decide))
          obtain ⟨a', c', w9, hr9, hP9⟩ := HM.out.num (V9 : Int) (by rw [hxlen]; exact Nat.le_trans hh5 (by decide))
          rw [hxlen] at hr9 hP9
          have e9 : (prow H p).take h ++ [(V9 : Int)] = (prow H p).take (h + 1) := by rw [prow_take hlt2, hv9]
          rw [e9] at hP9
          have HP9 := hid hP9
          have HE := hid (And.intro hxlen (And.intro e9 hv9))
          have H5 := hid (And.intro (Nat.le_trans hpk hk) (And.intro hh5 hH))
          clear hP9 hPH hxlen e9 hS9 hV9 hv9 hS9l hV9l
          go_wp2_with fail
          go_loopw [9] (fun s9 wq => ∃ q : Nat, s9 = .int .i64 q ∧ q ≤ p ∧ Hid (PSt w1 (w.heap.size + 1) (w.heap.size + 1) N wq (pigP H p ++ pigH p h H ++ (ppairs H p h).take q) (.slice a' (h + 1) c') ((prow H p).take (h + 1)))) (fun s9 _ => (p - intOf s9).toNat)
          case atStart => exact ⟨0, rfl, Nat.zero_le _, hid (by rw [List.take_zero, List.append_nil]; exact HP9.out)⟩
          case round =>
            clear HP9
            obtain ⟨q, rfl, hqp, HQ⟩ := hrel
            have hq0 : (0 : Int) ≤ q := by omega
            have hwq : IntKind.i64.wrap ((q : Int) + 1) = (q : Int) + 1 := IntWalk.i64_in _ (by omega)
            by_cases hlt3 : q < p
            · have hlt3i : (q : Int) < p := by omega
              obtain ⟨QH, hQH⟩ : ∃ t : Nat, q * H = t := ⟨_, rfl⟩
              have hQHl : QH ≤ 25 := by rw [← hQH]; exact mul25 (Nat.le_trans hqp H5.out.1) H5.out.2.2
              have hQHi : (q : Int) * (H : Int) = QH := by rw [← hQH]; simp
              have hv8 := pvar_nat (h := h) hQH
              obtain ⟨S8, hS8⟩ : ∃ t : Nat, QH + h = t := ⟨_, rfl⟩
              have hS8l : S8 ≤ 1000 := by rw [← hS8]; exact Nat.le_trans (Nat.add_le_add hQHl hh5) (by decide)
              have hw8a : IntKind.i64.wrap ((QH : Int) + (h : Int)) = (S8 : Int) := by rw [← hS8]; exact wr_sum (Nat.le_trans hQHl (by decide)) (Nat.le_trans hh5 (by decide))
              rw [hS8] at hv8
              obtain ⟨V8, hV8⟩ : ∃ t : Nat, S8 + 1 = t := ⟨_, rfl⟩
              have hV8l : V8 ≤ 3000 := by rw [← hV8]; exact Nat.le_trans (Nat.add_le_add_right hS8l 1) (by decide)
              have hw8b : IntKind.i64.wrap ((S8 : Int) + 1) = (V8 : Int) := by rw [← hV8]; exact wr_succ (Nat.le_trans hS8l (by decide))
              rw [hV8] at hv8
              have hw8n := wr_neg hV8l
              have hw8p := wr_nat (a := QH) (Nat.le_trans hQHl (by decide))
              have hGl := len_q (p := p) (h := h) (H := H) (q := q) H5.out.1 H5.out.2.1 H5.out.2.2
              obtain ⟨GL, hGL⟩ : ∃ t, (pigP H p ++ pigH p h H ++ (ppairs H p h).take q).length = t := ⟨_, rfl⟩
              obtain ⟨a0, cap, a12, c12, w12, hc1, hr12, hc2, hf2, hP12⟩ := HQ.out.row (c := ppair H p h q) hGl
              rw [hGL] at hc1 hr12 hc2 hP12
              have ePQ : ints (ppair H p h q) = [.int .i64 (-(V9 : Int)), .int .i64 (-(V8 : Int))] := by
                unfold ppair
                rw [HE.out.2.2, hv8]
                rfl
              rw [ePQ] at hr12
              have hr12 : (appM #[32, 32] 32 #[.slice a0 GL cap, .slice (some ⟨wr.heap.size + 1, 0, none⟩) 1 1]).run Try.prog ((wr.alloc (.cells #[.int .i64 (-(V9 : Int)), .int .i64 (-(V8 : Int))] 3 (0, 0))).alloc (.cells #[.slice (some ⟨wr.heap.size, 0, none⟩) 2 2] 22 (0, 0))) = .ok (.slice a12 (GL + 1) c12) w12 := hr12
              have e12 : (pigP H p ++ pigH p h H ++ (ppairs H p h).take q) ++ [ppair H p h q] = pigP H p ++ pigH p h H ++ (ppairs H p h).take (q + 1) := by
                rw [pairs_take hlt3, List.append_assoc _ _ [ppair H p h q]]
              rw [e12] at hP12
              have HP12 := hid hP12
              have hc1a := fun o => below_keeps (box_below wr o) _ _ hc1
              clear hP12 e12 ePQ hQH hGl hGL HQ hS8 hV8 hv8 hS8l hV8l
              go_wp2_with fail
              go_roundw
              case rel => exact ⟨q + 1, by simp, by omega, HP12⟩
              case measure => simp [intOf]; omega
            · have hqe : q = p := by omega
              subst hqe
              have hlt3i : ¬ (q : Int) < q := by omega
              have hfull : (ppairs H q h).take q = ppairs H q h := List.take_of_length_le (by simp [ppairs])
              have hQ2 := HQ.out
              rw [hfull, List.append_assoc, ← pigH_succ] at hQ2
              have HQ2 := hid hQ2
              clear hfull hQ2 HQ
              go_wp2_with fail
              go_roundw
              case rel => exact ⟨h + 1, by simp, by omega, HQ2⟩
              case measure => simp [intOf]; omega
        · have hhe : h = H := by omega
          subst hhe
          have hlt2i : ¬ (h : Int) < h := by omega
          have hM2 := HM.out
          have hfull : (prow h p).take h = prow h p := List.take_of_length_le (by simp [prow])
          rw [hfull] at hM2
          have hrl : (prow h p).length = h := by simp [prow]
          obtain ⟨ac, cc, hsv⟩ := own_lenV' hM2.own
          rw [hrl] at hsv
          subst hsv
          have hx : OwnT 3 wr 0 (.slice ac h cc) (prow h p) := (ownT_of_own hM2.own).base (Nat.zero_le _)
          have hfb := hM2.form
          have hGl := len_p (p := p) (H := h) (Nat.le_trans hpk hk) hH
          obtain ⟨GL, hGL⟩ : ∃ t, (pigP h p ++ pigH p h h).length = t := ⟨_, rfl⟩
          obtain ⟨a0, cap, a12, c12, w12, hc1, hr12, hc2, hf2, hF12, hB12⟩ := hfb.push hM2.le hx rfl hGl
          rw [hGL] at hc1 hr12 hc2 hF12 hB12
          rw [List.append_assoc, ← pigP_succ] at hF12
          have HF12 := hid (And.intro hF12 (hM2.bel.trans hB12))
          have hc1a := fun o => below_keeps (box_below wr o) _ _ hc1
          clear hF12 hB12 hGL hGl hfb hx hrl hfull hM2 HM hPH hxlen
          go_wp2_with fail
          go_roundw
          case rel => exact ⟨p + 1, by simp, by omega, HF12⟩
          case measure => simp [intOf]; omega
    · have hpe : p = k := by omega
      subst hpe
      have hlti : ¬ (p : Int) < p := by omega
      obtain ⟨a0, c0, hblk, hrows⟩ := HS.out.1.rows
      have hbel := HS.out.2
      have c1 := fun i => cell_of_row wr (w.heap.size + 1) i _ _ _ hblk
      have hzr := (hbel.block w.heap.size (by omega)).trans H1.out.2.2
      have cz := fun i => cell_of_row wr w.heap.size i _ _ _ hzr
      have fz : ∀ i, wr.frozen? ⟨w.heap.size, i, none⟩ = false := fun i => frozen_of_row _ _ _ _ _ hzr
      have HE := hid (And.intro HS.out.1 (And.intro hbel hzr))
      have HBK := hid hblk
      obtain ⟨GL, hGL⟩ : ∃ t, (pigP H p).length = t := ⟨_, rfl⟩
      rw [hGL] at c1
      have HGL := hid hGL
      clear hblk hrows hbel hzr hGL HS
      go_wp2_with fail
      have hb3 := setCell_block (o := 0) (xs := [.int .i64 0, .slice none 0 0]) (.int .i64 N) HE.out.2.2
      have hb4 := setCell_block (o := 1) (.slice a0 GL c0) hb3
      have hf1 := (HE.out.1.setO HE.out.2.2 (by omega) 0 (.int .i64 N)).setO hb3 (by omega) 1 (.slice a0 GL c0)
      have hbk : ((wr.setCell ⟨w.heap.size, 0, none⟩ (.int .i64 N)).setCell ⟨w.heap.size, 1, none⟩ (.slice a0 GL c0)).heap[w.heap.size + 1]? = some (.cells #[.int .i64 N, .slice a0 (pigP H p).length c0] 34 (0, 0)) := by
        rw [heap_setCell_other _ ⟨w.heap.size, 1, none⟩ (w.heap.size + 1) _ (by show w.heap.size + 1 ≠ w.heap.size; omega), heap_setCell_other _ ⟨w.heap.size, 0, none⟩ (w.heap.size + 1) _ (by show w.heap.size + 1 ≠ w.heap.size; omega)]
        exact HBK.out
      have hrw := hf1.rowsAt hbk
      have hbl : Below w.heap.size w ((wr.setCell ⟨w.heap.size, 0, none⟩ (.int .i64 N)).setCell ⟨w.heap.size, 1, none⟩ (.slice a0 GL c0)) := ((H1.out.1.trans (HE.out.2.1.mono (by omega))).setCell (p := ⟨w.heap.size, 0, none⟩) (Nat.le_refl _) _).setCell (p := ⟨w.heap.size, 1, none⟩) (Nat.le_refl _) _
      generalize (wr.setCell ⟨w.heap.size, 0, none⟩ (.int .i64 N)).setCell ⟨w.heap.size, 1, none⟩ (.slice a0 GL c0) = w9 at hb4 hrw hbl hbk hf1 ⊢
      have q0 : w9.cell? ⟨w.heap.size, 0, none⟩ = some (.int .i64 N) := fit_cell hb4 0
      have q1 : w9.cell? ⟨w.heap.size, 1, none⟩ = some (.slice a0 GL c0) := fit_cell hb4 1
      have HR := hid (And.intro hrw hbl)
      clear hb3 hb4 hf1 hbk hrw hbl cz fz c1
      refine ⟨rfl, .agg #[.int .i64 N, .slice a0 GL c0], by simp [results, Try.results39, go_sem, q0, q1], a0, ⟨c0, ?_⟩, HR.out.1, HR.out.2⟩
      rw [← HGL.out]
      rfl

theorem chk_of {n : Nat} {F : List (List Int)} (hn : n ≤ 1048576) (hF : ClsOk n F) (hl : ∀ c ∈ F, c.length ≤ 4096) (hFl : F.length ≤ 1048576) : cnfCheck n F = 0 := by
  have hlit : ∀ c ∈ F, litCheck n c = 0 := fun c hc => by
    unfold litCheck
    rw [if_neg (by omega), if_neg (by have := hl c hc; omega), if_neg]
    intro ha
    obtain ⟨x, hx, hb⟩ := List.any_eq_true.1 ha
    have h2 := hF c hc x hx
    unfold LitOk at h2
    unfold badLit at hb
    simp only [Bool.or_eq_true, beq_iff_eq, decide_eq_true_eq] at hb
    omega
  unfold cnfCheck
  rw [if_neg (by omega), if_neg (by omega)]
  have : F.find? (fun c => litCheck n c != 0) = none := List.find?_eq_none.2 fun c hc => by simp [hlit c hc]
  rw [this]

theorem pig_len {k H : Nat} (hk : k ≤ 5) (hH : H ≤ 5) : (pig k H).length ≤ 130 := pig_small hk hH

theorem pig_chk {k H : Nat} (hk : k ≤ 5) (hH : H ≤ 5) : cnfCheck ((k * H : Nat) : Int) (pig k H) = 0 :=
  chk_of (Nat.le_trans (mul25 hk hH) (by decide)) pig_ok (fun c hc => Nat.le_trans (pig_cl hc) (by omega)) (Nat.le_trans (pig_len hk hH) (by decide))

theorem pig_fok {k H : Nat} (hk : k ≤ 5) (hH : H ≤ 5) : FOk (pig k H) := fun c hc => ⟨fun x hx => by
  have h1 := pig_ok c hc x hx
  have h2 := mul25 hk hH
  unfold LitOk at h1
  unfold I64
  omega, by have := pig_cl hc; omega⟩

set_option maxRecDepth 100000 in
set_option maxHeartbeats 4000000 in
theorem walk_SolvePigeons (x0 : Int) (w : World) (w0 : (Lit.int .u8 x0).wf = true) :
    Calls Try.prog 13 #[.int .u8 x0] w fun e w' => e = .returned (.bool true) ∧ Below w.heap.size w w' := by
  have hb0 := bounds_u8 w0
  have hx0w : IntKind.i64.wrap x0 = x0 := IntWalk.i64_in _ (by omega)
  obtain ⟨B, hB⟩ : ∃ B, x0.tmod 5 = B := ⟨_, rfl⟩
  have hB0 : 0 ≤ B ∧ B ≤ 4 := by
    rw [← hB, Int.tmod_eq_emod_of_nonneg hb0.1]
    omega
  have hBw : IntKind.i64.wrap B = B := IntWalk.i64_in _ (by omega)
  obtain ⟨h, hh⟩ : ∃ h : Nat, B = h := ⟨B.toNat, by omega⟩
  subst hh
  have hh4 : h ≤ 4 := by omega
  have hkw : IntKind.i64.wrap (1 + (h : Int)) = ((h + 1 : Nat) : Int) := (IntWalk.i64_in _ (by omega)).trans (by omega)
  obtain ⟨k, hk⟩ : ∃ k, h + 1 = k := ⟨_, rfl⟩
  rw [hk] at hkw
  have hk5 : k ≤ 5 := by omega
  have hk1 : IntKind.i64.wrap ((k : Int) - 1) = (h : Int) := (IntWalk.i64_in _ (by omega)).trans (by omega)
  have HP1 := hid (law07_pigeons k h w hk5 (by omega))
  have HA1 : Hid (ansV (k * h) (pig k h) = 2) := hid (ansV_un (pig_un (by omega)))
  have HA2 : Hid (ansV (k * k) (pig k k) = 1) := hid (ansV_sat (pig_sat k))
  have HK := hid (And.intro hk5 (show h ≤ 5 by omega))
  clear w0 hb0 hB0 hh4 hk hk5
  go_enter Try.func13, Try.ntmps13
  go_wp2_with fail
  refine HP1.out.mono ?_
  rintro e w2 ⟨a, c, rfl, hr, hb2⟩
  have HAN := hid (law07_answer (k * h) a (pig k h) (pig k h).length c 2 w2 HA1.out rfl (pig_fok HK.out.1 HK.out.2) hr (pig_chk HK.out.1 HK.out.2) (mul25 HK.out.1 HK.out.2))
  have HB2 := hid hb2
  obtain ⟨n1, hn1⟩ : ∃ t, k * h = t := ⟨_, rfl⟩
  obtain ⟨l1, hl1⟩ : ∃ t, (pig k h).length = t := ⟨_, rfl⟩
  rw [hn1, hl1] at HAN
  rw [hn1, hl1]
  clear hr hb2 hn1 hl1 HP1
  go_wp2_with fail
  refine HAN.out.mono ?_
  rintro e w3 ⟨rfl, hb3⟩
  have HB3 := hid (HB2.out.trans (hb3.mono HB2.out.size))
  have HP2 := hid (law07_pigeons k k w3 HK.out.1 HK.out.1)
  clear hb3 HAN
  go_wp2_with fail
  refine HP2.out.mono ?_
  rintro e w4 ⟨a, c, rfl, hr, hb4⟩
  have HAN := hid (law07_answer (k * k) a (pig k k) (pig k k).length c 1 w4 HA2.out rfl (pig_fok HK.out.1 HK.out.1) hr (pig_chk HK.out.1 HK.out.1) (mul25 HK.out.1 HK.out.1))
  have HB4 := hid (HB3.out.trans (hb4.mono HB3.out.size))
  obtain ⟨n1, hn1⟩ : ∃ t, k * k = t := ⟨_, rfl⟩
  obtain ⟨l1, hl1⟩ : ∃ t, (pig k k).length = t := ⟨_, rfl⟩
  rw [hn1, hl1] at HAN
  rw [hn1, hl1]
  clear hr hb4 hn1 hl1 HP2
  go_wp2_with fail
  refine HAN.out.mono ?_
  rintro e w5 ⟨rfl, hb5⟩
  have HB5 := hid (HB4.out.trans (hb5.mono HB4.out.size))
  clear hb5 HAN
  go_wp2_with (go_at_call 30; refine (law07_known _).mono ?_; rintro e w' ⟨rfl, hb⟩)
  go_ret
  exact ⟨rfl, HB5.out.trans (hb.mono HB5.out.size)⟩

end Go.Proofs.Ytfofabbnbmieoaa.Ord
