/- The contract of gate's Formula. -/
import Derived.BigRegion
import Derived.Test.YtacmfiikdbekbaaQ3
import Derived.Test.YtacmfiikdbekbaaQ1
import Derived.Test.YtacmfiikdbekbaaQ2

namespace Go.Proofs.Ytacmfiikdbekbaa.Ord
open Go.RowKit Go.Conc

attribute [local go_sem ↓] Go.wp_at_zero Go.wp_at_succ

theorem ownT_setOtherG {w : World} {B : Nat} {v : Value} {xs : List Int} {b k : Nat} {cs : Array Value} {t : TypeId} {m : Nat × Nat} (h : OwnT 3 w B v xs) (hb : w.heap[b]? = some (.cells cs t m)) (ht : t ≠ 3) (u : Value) : OwnT 3 (w.setCell ⟨b, k, none⟩ u) B v xs := by
  obtain ⟨ad, c, h1, h2, h3, h4⟩ := h
  refine ⟨ad, c, h1, h2, h3, fun x hx => ?_⟩
  obtain ⟨g, off, cur, e1, e2, e3, e4⟩ := h4 x hx
  refine ⟨g, off, cur, e1, e2, ?_, e4⟩
  rw [heap_setCell_other w ⟨b, k, none⟩ g u ?_]
  · exact e3
  · intro e
    have e : g = b := by first | exact e | exact e.symm
    rw [e, hb] at e3
    injection e3 with e3
    injection e3 with _ e3 _
    exact ht e3

/-- The outer row while it is filled: 'us' stand, the rest is nil. -/
def partG (n : Nat) (us : List Value) : List Value := us ++ List.replicate (n - us.length) (.slice none 0 0)

theorem partG_set {n : Nat} {us : List Value} {u : Value} (h : us.length < n) : (partG n us).set us.length u = partG n (us ++ [u]) := by
  unfold partG
  rw [List.set_append_right _ _ (Nat.le_refl _), Nat.sub_self]
  have e : n - us.length = (n - (us ++ [u]).length) + 1 := by simp; omega
  rw [e, List.replicate_succ, List.set_cons_zero, List.append_assoc]
  rfl

theorem partG_get {n : Nat} {us : List Value} (h : us.length < n) : (partG n us)[us.length]? = some (.slice none 0 0) := by
  unfold partG
  rw [List.getElem?_append_right (Nat.le_refl _), Nat.sub_self, List.getElem?_replicate, if_pos (by omega)]

theorem partG_made (n : Nat) : madeCells #[.slice none 0 0] n = (partG n []).toArray := by
  have h : (madeCells #[.slice none 0 0] n).toList = partG n [] := by
    simp only [madeCells, Array.toList_map, Array.toList_range, partG, List.nil_append, List.length_nil, Nat.sub_zero]
    refine List.ext_getElem? fun i => ?_
    by_cases hi : i < n
    · simp [hi, Nat.mod_one]
    · simp [hi]
  rw [← h]

theorem setCell_blockG {w : World} {b o : Nat} {e : TypeId} {xs : List Value} (v : Value) (h : w.heap[b]? = some (.cells xs.toArray e (0, 0))) : (w.setCell ⟨b, o, none⟩ v).heap[b]? = some (.cells (xs.set o v).toArray e (0, 0)) := by
  have := heap_setCell_same w b o xs.toArray e v h
  rw [this]
  simp

set_option maxRecDepth 100000 in
set_option maxHeartbeats 4000000 in
theorem gate_Formula {X : Nat → Prop} (w : World) (B b n : Nat) (G : List (List Int)) (h : GB X w B b n G) (hG : G.length ≤ 1048576) (hcl : ∀ c ∈ G, c.length ≤ 1048576) :
    Calls Try.prog 33 #[.pointer (some ⟨b, 0, none⟩)] w fun e w' => ∃ a c, e = .returned (.agg #[.int .i64 n, .slice a G.length c]) ∧ Rws w' a G ∧ Below w.heap.size w w' := by
  obtain ⟨i0, hi0, hz0, hz1, hz2⟩ := info_parts info_intG
  obtain ⟨i1, hi1, hy0, hy1, hy2⟩ := info_parts info_intsG
  obtain ⟨a, c, hc0, hc1, hrw, hbl⟩ := h.cells
  have hc0a := fun o => below_keeps (box_below w o) _ _ hc0
  have hc1a := fun o => below_keeps (box_below w o) _ _ hc1
  have HRW := hid hrw
  have HCL := hid hcl
  clear h hrw hcl
  go_enter Try.func33, Try.ntmps33
  have hmk : ∀ w : World, (Instr.makeSlice 32 (.int .i64 (G.length : Int)) (.int .i64 (G.length : Int))).run Try.prog w = .ok (.slice (some ⟨w.heap.size, 0, none⟩) G.length G.length) (w.alloc (.cells (madeCells #[.slice none 0 0] G.length) 22)) := fun w => run_make_row' _ _ _ 24 Try.underlying32 info_intsG rfl .i64 .i64 G.length (by omega) (by omega) w
  have hc0b := fun o o' => below_keeps (box_below (w.alloc o) o') _ _ (hc0a o)
  have hc1b := fun o o' => below_keeps (box_below (w.alloc o) o') _ _ (hc1a o)
  have hc0c := fun o o' o'' => below_keeps (box_below ((w.alloc o).alloc o') o'') _ _ (hc0b o o')
  have hc1c := fun o o' o'' => below_keeps (box_below ((w.alloc o).alloc o') o'') _ _ (hc1b o o')
  go_wp2_with fail
  go_cut [3] (fun s3 wx => ∃ bf br, s3 = .pointer (some ⟨bf, 0, none⟩) ∧ Hid (wx.heap[bf]? = some (.cells #[.int .i64 n, .slice (some ⟨br, 0, none⟩) G.length G.length] 34)) ∧ Hid (wx.heap[br]? = some (.cells (madeCells #[.slice none 0 0] G.length) 22 (0, 0))) ∧ Hid (Below w.heap.size w wx) ∧ Hid (wx.heap[w.heap.size]? = some (.cells #[.int .i64 0, .slice none 0 0] 34)) ∧ Hid (w.heap.size < bf ∧ w.heap.size < br))
  case first =>
    go_region
    all_goals
      go_wp2_with fail
      go_meet
      case rel =>
        have hbl3 : ∀ o1 o2 o3 : Obj, Below w.heap.size w (((w.alloc o1).alloc o2).alloc o3) := fun o1 o2 o3 => below_al (below_al (box_below _ _) (by simp only [size_al]; omega) _) (by simp only [size_al]; omega) _
        have hat0 : ∀ o1 o2 o3 : Obj, (((w.alloc o1).alloc o2).alloc o3).heap[w.heap.size]? = some o1 := fun o1 o2 o3 => by simp only [heap_al, Array.getElem?_push, Array.size_push]; rw [if_neg (by omega), if_neg (by omega), if_pos trivial]
        have hat1 : ∀ o1 o2 o3 : Obj, (((w.alloc o1).alloc o2).alloc o3).heap[w.heap.size + 1]? = some o2 := fun o1 o2 o3 => by simp only [heap_al, Array.getElem?_push, Array.size_push]; rw [if_neg (by omega), if_pos trivial]
        have hat2 : ∀ o1 o2 o3 : Obj, (((w.alloc o1).alloc o2).alloc o3).heap[w.heap.size + 1 + 1]? = some o3 := fun o1 o2 o3 => by simp only [heap_al, Array.getElem?_push, Array.size_push]; rw [if_pos trivial]
        first
        | exact ⟨w.heap.size + 1, w.heap.size + 1 + 1, rfl, hat1 _ _ _, hat2 _ _ _, (hbl3 _ _ _).drew, hat0 _ _ _, ⟨by omega, by omega⟩⟩
        | exact ⟨w.heap.size + 1 + 1, w.heap.size + 1, rfl, hat2 _ _ _, hat1 _ _ _, (hbl3 _ _ _).drew, hat0 _ _ _, ⟨by omega, by omega⟩⟩
  case rest =>
    obtain ⟨bf, br, rfl, HF, HBR, HBW, HR0, HLT⟩ := hcut
    have hc0' := below_keeps HBW.out _ _ hc0
    have hc1' := below_keeps HBW.out _ _ hc1
    have hlt := HLT.out
    have HBR0 : Hid (wc.heap[br]? = some (.cells (partG G.length []).toArray 22 (0, 0))) := hid (by rw [← partG_made]; exact HBR.out)
    clear hc0 hc1 hc0a hc1a hc0b hc1b hc0c hc1c hmk HBR
    go_wp2_with fail
    clear hc0' hc1'
    go_loopw [28] (fun s28 wr => ∃ (j : Nat) (us : List Value), s28 = .int .i64 j ∧ j ≤ G.length ∧ Hid (us.length = j) ∧ Hid (wr.heap[br]? = some (.cells (partG G.length us).toArray 22 (0, 0))) ∧ Hid (wr.heap[bf]? = some (.cells #[.int .i64 n, .slice (some ⟨br, 0, none⟩) G.length G.length] 34)) ∧ Hid (wr.heap[w.heap.size]? = some (.cells #[.int .i64 0, .slice none 0 0] 34)) ∧ Hid (Below w.heap.size w wr) ∧ Hid (∀ i c, i < j → G[i]? = some c → ∃ u, us[i]? = some u ∧ OwnT 3 wr w.heap.size u c)) (fun s28 _ => (G.length - (intOf s28)).toNat)
    case atStart => exact ⟨0, [], rfl, Nat.zero_le _, rfl, HBR0, HF, HR0, HBW, hid (fun i c hi => by omega)⟩
    case round =>
      clear HBR0 HF HR0 HBW
      obtain ⟨j, us, rfl, hj, HUL, HBR, HF, HR0, HBW, HUS⟩ := hrel
      have hf0 : wr.cell? ⟨bf, 0, none⟩ = some (.int .i64 n) := fit_cell (vs := [.int .i64 n, .slice (some ⟨br, 0, none⟩) G.length G.length]) HF.out 0
      have hf1 : wr.cell? ⟨bf, 1, none⟩ = some (.slice (some ⟨br, 0, none⟩) G.length G.length) := fit_cell (vs := [.int .i64 n, .slice (some ⟨br, 0, none⟩) G.length G.length]) HF.out 1
      by_cases hjl : j < G.length
      · obtain ⟨row, hrow⟩ : ∃ row, G[j]? = some row := ⟨_, List.getElem?_eq_getElem hjl⟩
        obtain ⟨b2, off, v2, rfl, hcell, ar, cr, rfl, -, hnn, hsr⟩ := (HRW.out.below HBW.out) j row hrow
        have hrl := HCL.out row (List.mem_of_getElem? hrow)
        have HSR := hid hsr
        have HNN := hid hnn
        have HROW := hid hrow
        have HONE : Hid (∀ u ∈ ints row, u.oneCell' = true) := hid (fun u hu => by simp [ints] at hu; obtain ⟨x, -, rfl⟩ := hu; rfl)
        have HLM : Hid (0 + row.length ≤ maxLen ∧ (0 + row.length) * 8 ≤ 140737488355328) := hid (by unfold maxLen; omega)
        have hwj : IntKind.i64.wrap ((j : Int) + 1) = (j : Int) + 1 := IntWalk.i64_in _ (by omega)
        have hj2 : (j : Int) < G.length := by omega
        have hbrl : br < wr.heap.size := (Array.getElem?_eq_some_iff.1 HBR.out).1
        have hcb : wr.cell? ⟨br, j, none⟩ = some (.slice none 0 0) := by rw [fit_cell HBR.out j, ← HUL.out]; exact partG_get (by rw [HUL.out]; exact hjl)
        have hne : bf ≠ br := fun e => by
          have h1 := HF.out
          rw [e, HBR.out] at h1
          injection h1 with h1
          injection h1 with _ h1 _
          exact absurd h1 (by decide)
        have hbfl : bf < wr.heap.size := (Array.getElem?_eq_some_iff.1 HF.out).1
        have hrl0 : w.heap.size < wr.heap.size := (Array.getElem?_eq_some_iff.1 HR0.out).1
        clear hrow hnn hsr
        go_wp2_with fail
        go_region_law (refine step_append_sl rfl _ _ 22 rfl wr.heap.size 3 i0 (.int .i64 0) 8 Try.underlying22 hi0 hz0 hz1 hz2 rfl (.slice none 0 0) 0 [] (by rfl) (World.ownsRow_nil _ _ _ _) ar row.length cr (ints row) (by rfl) (by exact HSR.out) (by simp) HNN.out HONE.out (by exact HLM.out.1) (by exact HLM.out.2) (by first | exact Nat.le_refl _ | simp) ?_; intro v8 w8 ho8 hg8; obtain ⟨a8, c8, rfl⟩ := own_lenV' ho8; have hb8 : Below wr.heap.size wr w8 := (by first | exact ((Below.refl wr.heap.size wr).drew).grown hg8 (Nat.le_refl _) (fun q hq => by cases hq) | exact (Below.refl wr.heap.size wr).grown hg8 (Nat.le_refl _) (fun q hq => by cases hq)); have hf1 := below_keeps hb8 _ _ hf1; have hcb := below_keeps hb8 _ _ hcb; have hbr8 := (hb8.block br hbrl).trans HBR.out; have hfz : w8.frozen? ⟨br, j, none⟩ = false := frozen_of_row _ _ _ _ _ hbr8; have HO8 := hid ho8; have HB8 := hid hb8; have HBR8 := hid hbr8; clear ho8 hg8 hb8 hbr8)
        all_goals
          have hOT : OwnT 3 w8 w.heap.size (.slice a8 row.length c8) row := by
            have h1 := HO8.out
            simp only [Nat.zero_add, List.nil_append] at h1
            exact (ownT_of_own h1).base (Nat.le_of_lt hrl0)
          have HOT := hid hOT
          clear hOT
          go_wp2_with fail
          go_roundw
          case rel =>
            refine ⟨j + 1, us ++ [.slice a8 row.length c8], by simp, hjl, hid (by simp [HUL.out]), hid ?_, hid ((heap_setCell_other w8 ⟨br, j, none⟩ bf _ (by show bf ≠ br; exact hne)).trans ((HB8.out.block bf hbfl).trans HF.out)), hid ((heap_setCell_other w8 ⟨br, j, none⟩ w.heap.size _ (by show w.heap.size ≠ br; omega)).trans ((HB8.out.block _ hrl0).trans HR0.out)), hid ((HBW.out.trans (HB8.out.mono (Nat.le_of_lt hrl0))).setCell (by show w.heap.size ≤ br; omega) _), hid (fun i d hi hd => ?_)⟩
            · have h1 := setCell_blockG (o := j) (.slice a8 row.length c8) HBR8.out
              rw [← HUL.out, partG_set (by rw [HUL.out]; exact hjl)] at h1
              rw [← HUL.out]
              exact h1
            · rcases Nat.lt_or_ge i j with h1 | h1
              · obtain ⟨u, e1, e2⟩ := HUS.out i d h1 hd
                exact ⟨u, by rw [List.getElem?_append_left (by rw [HUL.out]; exact h1)]; exact e1, ownT_setOtherG (e2.below HB8.out) HBR8.out (by decide) _⟩
              · have h2 : i = j := by omega
                subst h2
                rw [HROW.out] at hd
                injection hd with hd
                subst hd
                exact ⟨_, by rw [List.getElem?_append_right (by rw [HUL.out]; exact Nat.le_refl _), HUL.out, Nat.sub_self]; rfl, ownT_setOtherG HOT.out HBR8.out (by decide) _⟩
          case measure => simp [intOf]; omega
      · have hr0 : wr.cell? ⟨w.heap.size, 0, none⟩ = some (.int .i64 0) := fit_cell (vs := [.int .i64 0, .slice none 0 0]) HR0.out 0
        have hr1 : wr.cell? ⟨w.heap.size, 1, none⟩ = some (.slice none 0 0) := fit_cell (vs := [.int .i64 0, .slice none 0 0]) HR0.out 1
        have hfz0 : wr.frozen? ⟨w.heap.size, 0, none⟩ = false := frozen_of_row _ _ _ _ _ HR0.out
        have hfz1 : wr.frozen? ⟨w.heap.size, 1, none⟩ = false := frozen_of_row _ _ _ _ _ HR0.out
        have hbrl : br < wr.heap.size := (Array.getElem?_eq_some_iff.1 HBR.out).1
        have hjG : j = G.length := by omega
        have HRS : Hid (Rws ((wr.setCell ⟨w.heap.size, 0, none⟩ (.int .i64 n)).setCell ⟨w.heap.size, 1, none⟩ (.slice (some ⟨br, 0, none⟩) G.length G.length)) (some ⟨br, 0, none⟩) G) := hid (fun i d hd => by
          have hi : i < G.length := (List.getElem?_eq_some_iff.1 hd).1
          obtain ⟨u, e1, e2⟩ := HUS.out i d (by omega) hd
          have hx1 := setCell_blockG (o := 0) (.int .i64 n) (xs := [.int .i64 0, .slice none 0 0]) HR0.out
          have hne1 : br ≠ w.heap.size := by have := HLT.out; omega
          have hb2 : ((wr.setCell ⟨w.heap.size, 0, none⟩ (.int .i64 n)).setCell ⟨w.heap.size, 1, none⟩ (.slice (some ⟨br, 0, none⟩) G.length G.length)).heap[br]? = some (.cells (partG G.length us).toArray 22 (0, 0)) := (heap_setCell_other _ ⟨w.heap.size, 1, none⟩ br _ (by show br ≠ w.heap.size; exact hne1)).trans ((heap_setCell_other wr ⟨w.heap.size, 0, none⟩ br _ (by show br ≠ w.heap.size; exact hne1)).trans HBR.out)
          refine ⟨br, 0, u, rfl, ?_, (ownT_setOtherG (ownT_setOtherG e2 HR0.out (by decide) _) hx1 (by decide) _).sli⟩
          rw [Nat.zero_add, fit_cell hb2 i]
          unfold partG
          rw [List.getElem?_append_left (by rw [HUL.out]; omega)]
          exact e1)
        have HBE : Hid (Below w.heap.size w ((wr.setCell ⟨w.heap.size, 0, none⟩ (.int .i64 n)).setCell ⟨w.heap.size, 1, none⟩ (.slice (some ⟨br, 0, none⟩) G.length G.length))) := hid ((HBW.out.setCell (Nat.le_refl _) _).setCell (Nat.le_refl _) _)
        have HR0H := HR0.out
        go_wp2_with fail
        exact bodyPost_ret (v := .agg #[.int .i64 n, .slice (some ⟨br, 0, none⟩) G.length G.length]) (by simp [results, Try.results33, go_sem, hr0, hr1]) rfl ⟨_, _, rfl, HRS.out, HBE.out⟩

end Go.Proofs.Ytacmfiikdbekbaa.Ord

/- append kept shut while the walk goes, so that an equation laid ahead of the walk tells what it gives: also inside regions whose order is open. -/
namespace Go.Proofs.Ytacmfiikdbekbaa.Ord
open Go.RowKit

/-- append, kept shut. -/
def appM (ats : Array TypeId) (ty : TypeId) (args : Array Value) : Sem Value := Builtin.append_ ats ty args

theorem app_mark (ats : Array TypeId) (ty : TypeId) (cs : Array Bool) (args : Array Value) : builtin .append ats ty cs args = (do pure (.value (← appM ats ty args))) := rfl

/-- One element that was laid into a block of its own. -/
theorem appM_one {P : Program} (w : World) (base : Nat) (t ty e : TypeId) (i : TypeInfo) (z : Value) (bytes : Nat) (ht : P.underlying t = some (.slice e)) (hi : P.info? e = some i) (hz : i.zero = some z)
    (hsize : i.size = 1) (hby : i.bytes = bytes) (hzs : z.cells.size = 1)
    (v : Value) (n : Nat) (xs : List Value) (hown : w.ownsRow base e 1 v n xs)
    (g : Nat) (u : Value) (hc : w.heap[g]? = some (.cells #[u] e (0, 0))) (h1 : u.oneCell' = true)
    (h63 : n + 1 ≤ maxLen) (hbytes : (n + 1) * bytes ≤ 140737488355328) (hbase : base ≤ w.heap.size) :
    ∃ a' c' w', (appM #[t, t] ty #[v, .slice (some ⟨g, 0, none⟩) 1 1]).run P w = .ok (.slice a' (n + 1) c') w' ∧ w'.ownsRow base e 1 (.slice a' (n + 1) c') (n + 1) (xs ++ [u]) ∧ w.grownBy w' v.ownBlock ∧ ((Value.slice a' (n + 1) c').ownBlock = v.ownBlock ∨ (Value.slice a' (n + 1) c').ownBlock = some w.heap.size) := by
  have hnews : ∀ j y, [u][j]? = some y → w.cell? ((⟨g, 0, none⟩ : Addr).add j) = some y := by
    intro j y hj
    match j, hj with
    | 0, hj =>
      simp at hj
      subst hj
      simp [World.cell?, Addr.add, hc]
  obtain ⟨v', w', hr, h2, h3, -, h4⟩ := run_append_own_at (P := P) w base t ty e i z 1 bytes ht hi hz hsize hby hzs (by decide) v n xs hown ⟨g, 0, none⟩ 1 1 [u] rfl hnews (fun x hx => by simp at hx; subst hx; exact h1) h63 hbytes hbase
  obtain ⟨a', c', rfl⟩ := own_lenV' h2
  exact ⟨a', c', w', hr, h2, h3, h4⟩

/-- A block of another type is not the row's. -/
theorem own_ty {w : World} {B e s n g : Nat} {v : Value} {xs : List Value} {cs : Array Value} {t : TypeId} {m : Nat × Nat} (ho : w.ownsRow B e s v n xs) (hg : w.heap[g]? = some (.cells cs t m)) (ht : t ≠ e) : some g ≠ v.ownBlock := by
  intro h
  rcases ho.2 with ⟨rfl, _⟩ | ⟨g', cap, cur, rfl, _, hg', _⟩
  · cases h
  · injection h with h
    have h : g = g' := h
    rw [← h, hg] at hg'
    injection hg' with hg'
    injection hg' with _ hg' _
    exact ht hg'

theorem own_own {w : World} {B B' e e' s s' n n' : Nat} {v v' : Value} {xs xs' : List Value} (ho : w.ownsRow B e s v n xs) (ho' : w.ownsRow B' e' s' v' n' xs') (ht : e ≠ e') (hn : v.ownBlock ≠ none) : v.ownBlock ≠ v'.ownBlock := by
  rcases ho.2 with ⟨rfl, _⟩ | ⟨g', cap, cur, rfl, _, hg', _⟩
  · exact absurd rfl hn
  · exact own_ty ho' hg' ht

theorem own_setO {w : World} {B e s n b : Nat} {v : Value} {xs : List Value} {cs : Array Value} {t : TypeId} {m : Nat × Nat} (ho : w.ownsRow B e s v n xs) (hb : w.heap[b]? = some (.cells cs t m)) (ht : t ≠ e) (j : Nat) (u : Value) : (w.setCell ⟨b, j, none⟩ u).ownsRow B e s v n xs :=
  own_frame0 ho fun g hg => heap_setCell_other w ⟨b, j, none⟩ g u (by
    show g ≠ b
    rintro rfl
    exact own_ty ho hb ht hg.symm)

theorem own_grownO {w w' : World} {B B' e e' s s' n n' : Nat} {v v' : Value} {xs xs' : List Value} (ho : w.ownsRow B e s v n xs) (ho' : w.ownsRow B' e' s' v' n' xs') (ht : e ≠ e') (hg : w.grownBy w' v'.ownBlock) : w'.ownsRow B e s v n xs :=
  own_frame0 ho fun g hg' => hg.block g (ho.lt g hg').2 (by rw [← hg']; exact own_own ho ho' ht (by rw [hg']; nofun))

/-! ### What an append leaves: w1 is the world in which it runs, behind w by new blocks and draws. -/

theorem blk_app {w w1 w6 : World} {B e s n g : Nat} {v : Value} {xs : List Value} {cs : Array Value} {t : TypeId} {m : Nat × Nat} (h1 : Below w.heap.size w w1) (ho : w.ownsRow B e s v n xs) (hg : w1.grownBy w6 v.ownBlock) (hb : w.heap[g]? = some (.cells cs t m)) (ht : t ≠ e) : w6.heap[g]? = some (.cells cs t m) :=
  have hl := (Array.getElem?_eq_some_iff.1 hb).1
  (hg.block g (Nat.lt_of_lt_of_le hl h1.size) (own_ty ho hb ht)).trans ((h1.block g hl).trans hb)

theorem below_app {w0 w w1 w6 : World} {B e s n : Nat} {v : Value} {xs : List Value} (hB : Below B w0 w) (hw : B ≤ w.heap.size) (h1 : Below w.heap.size w w1) (ho : w.ownsRow B e s v n xs) (hg : w1.grownBy w6 v.ownBlock) : Below B w0 w6 :=
  (hB.trans (h1.mono hw)).grown hg (Nat.le_trans hw h1.size) (fun q hq => (ho.lt q hq).1)

theorem own_app {w w1 w6 : World} {B B' e e' s s' n n' : Nat} {v v' : Value} {xs xs' : List Value} (h1 : Below w.heap.size w w1) (ho : w.ownsRow B e s v n xs) (hg : w1.grownBy w6 v.ownBlock) (ho' : w.ownsRow B' e' s' v' n' xs') (ht : e' ≠ e) : w6.ownsRow B' e' s' v' n' xs' :=
  own_frame0 (own_below ho' h1) fun g hg' => hg.block g ((own_below ho' h1).lt g hg').2 (by rw [← hg']; exact own_own ho' ho ht (by rw [hg']; nofun))

end Go.Proofs.Ytacmfiikdbekbaa.Ord

/- The contract of law15's Begin. -/
namespace Go.Proofs.Ytacmfiikdbekbaa.Ord
open Go.RowKit Go.Conc

attribute [local go_sem ↓] Go.wp_at_zero Go.wp_at_succ
attribute [local go_sem ↓ high] app_mark

theorem info_boolG : (Try.prog.info? 4).map (fun i => (i.zero, i.size, i.bytes)) = some (some (.bool false), 1, 1) := by kernel_rfl

/-- The inputs, and their values. -/
def inL (k : Nat) : List Int := (List.range k).map fun (i : Nat) => (i : Int) + 2
def valL (xs : List Bool) (k : Nat) : List Bool := (List.range k).map fun (i : Nat) => decide (0 < xs.length) && xs.getD (i % xs.length) false

theorem inL_succ (k : Nat) : inL (k + 1) = inL k ++ [(k : Int) + 2] := by simp [inL, List.range_succ]
theorem valL_succ (xs : List Bool) (k : Nat) : valL xs (k + 1) = valL xs k ++ [decide (0 < xs.length) && xs.getD (k % xs.length) false] := by simp [valL, List.range_succ]
theorem inL_length (k : Nat) : (inL k).length = k := by simp [inL]
theorem valL_length (xs : List Bool) (k : Nat) : (valL xs k).length = k := by simp [valL]

/-- The blocks below B, and the one of a slice. -/
def XO (B : Nat) (v : Value) : Nat → Prop := fun j => j < B ∨ v.ownBlock = some j

/-- A cell of a block of another kind is set. -/
theorem GB.setO {X : Nat → Prop} {w : World} {B b n g : Nat} {G : List (List Int)} {cs : Array Value} {t : TypeId} {m : Nat × Nat} (h : GB X w B b n G) (hg : w.heap[g]? = some (.cells cs t m)) (h1 : t ≠ 3) (h2 : t ≠ 22) (h3 : t ≠ 94) (j : Nat) (u : Value) : GB X (w.setCell ⟨g, j, none⟩ u) B b n G := by
  obtain ⟨v, k1, ⟨vs, g1, g2⟩, k3, k4⟩ := h
  refine ⟨v, ?_, ⟨vs, own_setO g1 hg h2 j u, fun i c hi => ?_⟩, k3, fun k hk => by simpa [World.setCell] using k4 k hk⟩
  · refine (heap_setCell_other w ⟨g, j, none⟩ b u ?_).trans k1
    show b ≠ g
    rintro rfl
    rw [k1] at hg
    injection hg with hg
    injection hg with _ hg _
    exact h3 hg.symm
  · obtain ⟨x, e1, e2⟩ := g2 i c hi
    exact ⟨x, e1, ownT_setOtherG e2.1 hg h1 u, e2.2⟩

set_option maxRecDepth 100000 in
set_option maxHeartbeats 4000000 in
theorem law15_Begin (w : World) (k : Nat) (av : Option Addr) (xs : List Bool) (m cv : Nat) (hm : m = xs.length) (hk : k ≤ 12) (hs : SlV w av (bools xs)) (hx : xs.length ≤ 9223372036854775807) :
    Calls Try.prog 26 #[.int .i64 k, .slice av m cv] w fun e w' => ∃ b vI vV, e = .returned (.tuple #[.agg #[.pointer (some ⟨b, 0, none⟩), vI, vV], .bool true]) ∧ GB (XO w.heap.size vI) w' w.heap.size b (k + 1) [[1]] ∧ w'.ownsRow w.heap.size 3 1 vI k (ints (inL k)) ∧ w'.ownsRow w.heap.size 4 1 vV k (bools (valL xs k)) ∧ Below w.heap.size w w' := by
  subst hm
  obtain ⟨i0, hi0, hz0, hz1, hz2⟩ := info_parts info_intG
  obtain ⟨i1, hi1, hy0, hy1, hy2⟩ := info_parts info_boolG
  have HS := hid hs
  clear hs
  go_enter Try.func26, Try.ntmps26
  go_wp2_with fail
  refine (gate_New _ (fun j => j < w.heap.size) (fun j hj => by simp only [size_al]; omega)).mono ?_
  rintro e w1 ⟨b, rfl, hg1, hb1⟩
  have HG1 := hid (hg1.base (B' := w.heap.size) (by simp only [size_al]; omega))
  have HB1 := hid ((box_below w _).trans (hb1.mono (by simp only [size_al]; omega)))
  have HR1 : Hid (w1.heap[w.heap.size]? = some (.cells #[.pointer none, .slice none 0 0, .slice none 0 0] 46)) := hid ((hb1.block _ (by simp only [size_al]; omega)).trans (heap_alloc_new _ _))
  clear hg1 hb1
  go_wp2_with fail
  have hz1b := HB1.out.size
  have hbc : (w1.alloc (.cells #[.pointer (some ⟨b, 0, none⟩), .slice none 0 0, .slice none 0 0] 46)).heap[w1.heap.size]? = some (.cells #[.pointer (some ⟨b, 0, none⟩), .slice none 0 0, .slice none 0 0] 46) := heap_alloc_new _ _
  have hr0 := (box_below w1 (.cells #[.pointer (some ⟨b, 0, none⟩), .slice none 0 0, .slice none 0 0] 46)).block w.heap.size (by have := (Array.getElem?_eq_some_iff.1 HR1.out).1; exact this)
  rw [HR1.out] at hr0
  have hg2 := HG1.out.below (box_below w1 (.cells #[.pointer (some ⟨b, 0, none⟩), .slice none 0 0, .slice none 0 0] 46))
  have hb2 := HB1.out.trans ((box_below w1 (.cells #[.pointer (some ⟨b, 0, none⟩), .slice none 0 0, .slice none 0 0] 46)).mono hz1b)
  have hrw : w.heap.size < w1.heap.size := (Array.getElem?_eq_some_iff.1 HR1.out).1
  generalize (w1.alloc (.cells #[.pointer (some ⟨b, 0, none⟩), .slice none 0 0, .slice none 0 0] 46)) = w2 at hbc hr0 hg2 hb2 ⊢
  generalize w1.heap.size = bc at hbc hrw ⊢
  have HBC := hid hbc
  have HR0 := hid hr0
  have HG2 : Hid (GB (XO w.heap.size (.slice none 0 0)) w2 w.heap.size b (0 + 1) [[1]]) := hid (hg2.sub (fun j hj => by rcases hj with hj | hj; exact hj; cases hj))
  have HB2 := hid hb2
  clear hbc hr0 hg2 hb2 HG1 HB1 HR1 hz1b
  go_loopw [7] (fun s7 wr => ∃ (i : Nat) (vI vV : Value), s7 = .int .i64 i ∧ i ≤ k ∧ Hid (GB (XO w.heap.size vI) wr w.heap.size b (i + 1) [[1]]) ∧ Hid (wr.heap[bc]? = some (.cells #[.pointer (some ⟨b, 0, none⟩), vI, vV] 46)) ∧ Hid (wr.heap[w.heap.size]? = some (.cells #[.pointer none, .slice none 0 0, .slice none 0 0] 46)) ∧ Hid (wr.ownsRow w.heap.size 3 1 vI i (ints (inL i))) ∧ Hid (wr.ownsRow w.heap.size 4 1 vV i (bools (valL xs i))) ∧ Hid (Below w.heap.size w wr)) (fun s7 _ => (k - (intOf s7)).toNat)
  case atStart => exact ⟨0, _, _, rfl, Nat.zero_le _, HG2, HBC, HR0, hid (World.ownsRow_nil _ _ _ _), hid (World.ownsRow_nil _ _ _ _), HB2⟩
  case round =>
    clear HG2 HBC HR0 HB2
    obtain ⟨i, vI, vV, rfl, hik, HG, HC, HR, HI, HV, HB⟩ := hrel
    have hc0 : wr.cell? ⟨bc, 0, none⟩ = some (.pointer (some ⟨b, 0, none⟩)) := fit_cell (vs := [.pointer (some ⟨b, 0, none⟩), vI, vV]) HC.out 0
    have hc1 : wr.cell? ⟨bc, 1, none⟩ = some vI := fit_cell (vs := [.pointer (some ⟨b, 0, none⟩), vI, vV]) HC.out 1
    have hc2 : wr.cell? ⟨bc, 2, none⟩ = some vV := fit_cell (vs := [.pointer (some ⟨b, 0, none⟩), vI, vV]) HC.out 2
    by_cases hlt : i < k
    · have hik2 : (i : Int) < k := by omega
      have hbw : w.heap.size ≤ wr.heap.size := HB.out.size
      obtain ⟨y, hy⟩ : ∃ y : Int, (((i + 1 : Nat) : Int) + 1) = y := ⟨_, rfl⟩
      have HY := hid hy
      go_wp2_with fail
      refine (gate_Fresh wr w.heap.size b (i + 1) [[1]] HG.out (by omega)).mono ?_
      rw [hy]
      rintro e w3 ⟨rfl, hg3, hk3⟩
      have HG3 := hid hg3
      have HC3 := hid ((hk3.kept bc _ _ _ HC.out (by decide) (by decide)).trans HC.out)
      have HR3 := hid ((hk3.kept _ _ _ _ HR.out (by decide) (by decide)).trans HR.out)
      have HI3 := hid (own_gk HI.out hk3 (by decide) (by decide))
      have HV3 := hid (own_gk HV.out hk3 (by decide) (by decide))
      have HB3 := hid (HB.out.trans hk3.below)
      have hc0 : w3.cell? ⟨bc, 0, none⟩ = some (.pointer (some ⟨b, 0, none⟩)) := fit_cell (vs := [.pointer (some ⟨b, 0, none⟩), vI, vV]) HC3.out 0
      have hc1 : w3.cell? ⟨bc, 1, none⟩ = some vI := fit_cell (vs := [.pointer (some ⟨b, 0, none⟩), vI, vV]) HC3.out 1
      clear hg3 hk3 HG HC HR HI HV HB hy
      have HLM : Hid (i + 1 ≤ maxLen ∧ (i + 1) * 8 ≤ 140737488355328 ∧ (i + 1) * 1 ≤ 140737488355328) := hid (by unfold maxLen; omega)
      have hbw3 : w.heap.size ≤ w3.heap.size := HB3.out.size
      clear hik2
      go_wp2_with (at_builtin; refine wpList_append_own_at _ rfl _ _ 22 rfl w.heap.size 3 i0 (.int .i64 0) 1 8 Try.underlying22 hi0 hz0 hz1 hz2 rfl (by decide) _ _ _ rfl (HI3.out.alloc _) ⟨w3.heap.size, 0, none⟩ 1 1 [.int .i64 y] rfl rfl ?c1 one_int (by exact HLM.out.1) (by exact HLM.out.2.1) (by simp only [size_al]; exact Nat.le_succ_of_le hbw3) ?_)
      case c1 => exact new_oneG (heap_alloc_new _ _)
      intro v4 w4 ho4 hg4 _ ha4
      obtain ⟨a4, c4, rfl⟩ := own_lenV' ho4
      obtain ⟨v4, hv4⟩ : ∃ v4, Value.slice a4 (i + 1) c4 = v4 := ⟨_, rfl⟩
      rw [hv4] at ho4 ha4
      have hbl3 : bc < w3.heap.size := (Array.getElem?_eq_some_iff.1 HC3.out).1
      have hrl3 : w.heap.size < w3.heap.size := (Array.getElem?_eq_some_iff.1 HR3.out).1
      have hIA := HI3.out.alloc (.cells #[.int .i64 y] 3 (0, 0))
      have hC4 : w4.heap[bc]? = some (.cells #[.pointer (some ⟨b, 0, none⟩), vI, vV] 46) := (hg4.block bc (by simp only [size_al]; omega) (own_ty hIA ((Below.heap_alloc _ _ _ hbl3).trans HC3.out) (by decide))).trans ((Below.heap_alloc _ _ _ hbl3).trans HC3.out)
      have hR4 : w4.heap[w.heap.size]? = some (.cells #[.pointer none, .slice none 0 0, .slice none 0 0] 46) := (hg4.block _ (by simp only [size_al]; omega) (own_ty hIA ((Below.heap_alloc _ _ _ hrl3).trans HR3.out) (by decide))).trans ((Below.heap_alloc _ _ _ hrl3).trans HR3.out)
      have hV4 : w4.ownsRow w.heap.size 4 1 vV i (bools (valL xs i)) := own_frame0 (HV3.out.alloc (.cells #[.int .i64 y] 3 (0, 0))) fun g hg => hg4.block g ((HV3.out.alloc (.cells #[.int .i64 y] 3 (0, 0))).lt g hg).2 (by rw [← hg]; exact own_own (HV3.out.alloc (.cells #[.int .i64 y] 3 (0, 0))) hIA (by decide) (by rw [hg]; nofun))
      have hB4 : Below w.heap.size w w4 := (below_al HB3.out hbw3 _).grown hg4 (by simp only [size_al]; omega) (fun q hq => (HI3.out.lt q hq).1)
      have hG4 : GB (XO w.heap.size v4) w4 w.heap.size b (i + 1 + 1) [[1]] := (((HG3.out.new (box_below w3 (.cells #[.int .i64 y] 3 (0, 0)))).grown hIA (fun j hj => .inl (.inr hj)) hg4)).sub (fun j hj => by
        rcases hj with hj | hj
        · exact .inl (.inl (.inl hj))
        · rcases ha4 with e | e
          · exact .inl (.inl (.inr (e.symm.trans hj)))
          · rw [e] at hj
            injection hj with hj
            refine .inr ⟨by simp only [size_al]; omega, ?_⟩
            exact (ho4.lt j (by rw [e, hj])).2)
      have hI4 : w4.ownsRow w.heap.size 3 1 v4 (i + 1) (ints (inL (i + 1))) := by rw [inL_succ, ints_append, show ints [(i : Int) + 2] = [.int .i64 y] by simp [ints]; have := HY.out; omega]; exact ho4
      have hfz1 : w4.frozen? ⟨bc, 1, none⟩ = false := frozen_of_row _ _ _ _ _ hC4
      have hd1 : w4.cell? ⟨bc, 1, none⟩ = some vI := fit_cell (vs := [.pointer (some ⟨b, 0, none⟩), vI, vV]) hC4 1
      have hC5 := setCell_blockG (o := 1) (xs := [.pointer (some ⟨b, 0, none⟩), vI, vV]) v4 hC4
      have HG5 := hid (GB.setO hG4 hC4 (by decide) (by decide) (by decide) 1 v4)
      have HC5 : Hid ((w4.setCell ⟨bc, 1, none⟩ v4).heap[bc]? = some (.cells #[.pointer (some ⟨b, 0, none⟩), v4, vV] 46)) := hid hC5
      have HR5 : Hid ((w4.setCell ⟨bc, 1, none⟩ v4).heap[w.heap.size]? = some (.cells #[.pointer none, .slice none 0 0, .slice none 0 0] 46)) := hid ((heap_setCell_other w4 ⟨bc, 1, none⟩ w.heap.size _ (by show w.heap.size ≠ bc; omega)).trans hR4)
      have HI5 := hid (own_setO hI4 hC4 (by decide) 1 v4)
      have HV5 := hid (own_setO hV4 hC4 (by decide) 1 v4)
      have HB5 : Hid (Below w.heap.size w (w4.setCell ⟨bc, 1, none⟩ v4)) := hid (hB4.setCell (by show w.heap.size ≤ bc; omega) _)
      clear hIA hC4 hR4 hV4 hB4 hG4 hI4 hC5 ho4 hg4 ha4 HG3 HC3 HR3 HI3 HV3 HB3 hbl3 hrl3
      rw [← hv4] at HG5 HC5 HR5 HI5 HV5 HB5
      clear hv4
      go_wp2_with fail
      generalize w4.setCell ⟨bc, 1, none⟩ (Value.slice a4 (i + 1) c4) = w5 at HG5 HC5 HR5 HI5 HV5 HB5 ⊢
      have hbw5 : w.heap.size ≤ w5.heap.size := HB5.out.size
      have hq1 : w5.cell? ⟨bc, 1, none⟩ = some (.slice a4 (i + 1) c4) := fit_cell (vs := [.pointer (some ⟨b, 0, none⟩), .slice a4 (i + 1) c4, vV]) HC5.out 1
      have hq2 : w5.cell? ⟨bc, 2, none⟩ = some vV := fit_cell (vs := [.pointer (some ⟨b, 0, none⟩), .slice a4 (i + 1) c4, vV]) HC5.out 2
      clear hc0 hc1 hc2 hd1 hfz1
      have hbl5 : bc < w5.heap.size := (Array.getElem?_eq_some_iff.1 HC5.out).1
      have hrl5 : w.heap.size < w5.heap.size := (Array.getElem?_eq_some_iff.1 HR5.out).1
      have hwi : IntKind.i64.wrap ((i : Int) + 1) = (i : Int) + 1 := IntWalk.i64_in _ (by omega)
      have hq2a := fun o => below_keeps (box_below w5 o) _ _ hq2
      by_cases hx0 : 0 < xs.length
      · have d1 : decide ((0 : Int) < (xs.length : Int)) = true := decide_eq_true (by omega)
        have d2 : decide (0 < xs.length) = true := decide_eq_true hx0
        obtain ⟨q, hq⟩ : ∃ q, i % xs.length = q := ⟨_, rfl⟩
        have hql : q < xs.length := by rw [← hq]; exact Nat.mod_lt _ hx0
        have hrem : (i : Int).tmod (xs.length : Int) = (q : Int) := by rw [← hq, Int.tmod_eq_emod_of_nonneg (by omega), Int.natCast_emod]
        have z0 : ¬ (xs.length : Int) = 0 := by omega
        have hql2 : (q : Int) < xs.length := by omega
        have hwq : IntKind.i64.wrap (q : Int) = (q : Int) := IntWalk.i64_in _ (by omega)
        obtain ⟨bo, oo, x, rfl, hcx, hxq⟩ := (HS.out.below HB5.out).bool hql
        have hcxa := fun o => below_keeps (box_below w5 o) _ _ hcx
        have HXQ : Hid (valL xs (i + 1) = valL xs i ++ [x]) := hid (by rw [valL_succ, d2, hq]; simp [List.getD, hxq])
        clear hq hxq
        obtain ⟨a6, c6, w6, hr6, ho6, hg6, ha6⟩ := appM_one (P := Try.prog) ((w5.alloc (.cells #[.bool x] 4 (0, 0))).drew) w.heap.size 27 27 4 i1 (.bool false) 1 Try.underlying27 hi1 hy0 hy1 hy2 rfl vV i (bools (valL xs i)) (HV5.out.alloc (.cells #[.bool x] 4 (0, 0))) w5.heap.size (.bool x) (heap_alloc_new _ _) rfl HLM.out.1 HLM.out.2.2 (by show w.heap.size ≤ (w5.alloc _).heap.size; simp only [size_al]; exact Nat.le_succ_of_le hbw5)
        have hVA := HV5.out.alloc (.cells #[.bool x] 4 (0, 0))
        have hx6 : w6.heap[bc]? = some (.cells #[.pointer (some ⟨b, 0, none⟩), .slice a4 (i + 1) c4, vV] 46) := (hg6.block _ (by show bc < (w5.alloc _).heap.size; simp only [size_al]; omega) (own_ty hVA ((Below.heap_alloc _ _ _ hbl5).trans HC5.out) (by decide))).trans ((Below.heap_alloc _ _ _ hbl5).trans HC5.out)
        have hs2 : w6.cell? ⟨bc, 2, none⟩ = some vV := fit_cell (vs := [.pointer (some ⟨b, 0, none⟩), .slice a4 (i + 1) c4, vV]) hx6 2
        have hf2 : w6.frozen? ⟨bc, 2, none⟩ = false := frozen_of_row _ _ _ _ _ hx6
        have hR6 : w6.heap[w.heap.size]? = some (.cells #[.pointer none, .slice none 0 0, .slice none 0 0] 46) := (hg6.block _ (by show w.heap.size < (w5.alloc _).heap.size; simp only [size_al]; omega) (own_ty hVA ((Below.heap_alloc _ _ _ hrl5).trans HR5.out) (by decide))).trans ((Below.heap_alloc _ _ _ hrl5).trans HR5.out)
        have hG6 : GB (XO w.heap.size (.slice a4 (i + 1) c4)) w6 w.heap.size b (i + 1 + 1) [[1]] := (HG5.out.below (box_below w5 (.cells #[.bool x] 4 (0, 0)))).grownO (w := (w5.alloc (.cells #[.bool x] 4 (0, 0))).drew) hVA (by decide) (by decide) (by decide) hg6
        have hI6 : w6.ownsRow w.heap.size 3 1 (.slice a4 (i + 1) c4) (i + 1) (ints (inL (i + 1))) := own_grownO (w := (w5.alloc (.cells #[.bool x] 4 (0, 0))).drew) (HI5.out.alloc (.cells #[.bool x] 4 (0, 0))) hVA (by decide) hg6
        have hB6 : Below w.heap.size w w6 := ((below_al HB5.out hbw5 (.cells #[.bool x] 4 (0, 0))).drew).grown hg6 (by show w.heap.size ≤ (w5.alloc _).heap.size; simp only [size_al]; omega) (fun q hq => (HV5.out.lt q hq).1)
        have hV6 : w6.ownsRow w.heap.size 4 1 (.slice a6 (i + 1) c6) (i + 1) (bools (valL xs (i + 1))) := by rw [HXQ.out]; simpa [bools] using ho6
        have HN : Hid (GB (XO w.heap.size (.slice a4 (i + 1) c4)) (w6.setCell ⟨bc, 2, none⟩ (.slice a6 (i + 1) c6)) w.heap.size b (i + 1 + 1) [[1]] ∧ (w6.setCell ⟨bc, 2, none⟩ (.slice a6 (i + 1) c6)).heap[bc]? = some (.cells #[.pointer (some ⟨b, 0, none⟩), .slice a4 (i + 1) c4, .slice a6 (i + 1) c6] 46) ∧ (w6.setCell ⟨bc, 2, none⟩ (.slice a6 (i + 1) c6)).heap[w.heap.size]? = some (.cells #[.pointer none, .slice none 0 0, .slice none 0 0] 46) ∧ (w6.setCell ⟨bc, 2, none⟩ (.slice a6 (i + 1) c6)).ownsRow w.heap.size 3 1 (.slice a4 (i + 1) c4) (i + 1) (ints (inL (i + 1))) ∧ (w6.setCell ⟨bc, 2, none⟩ (.slice a6 (i + 1) c6)).ownsRow w.heap.size 4 1 (.slice a6 (i + 1) c6) (i + 1) (bools (valL xs (i + 1))) ∧ Below w.heap.size w (w6.setCell ⟨bc, 2, none⟩ (.slice a6 (i + 1) c6))) := hid ⟨GB.setO hG6 hx6 (by decide) (by decide) (by decide) 2 _, setCell_blockG (o := 2) (xs := [.pointer (some ⟨b, 0, none⟩), .slice a4 (i + 1) c4, vV]) _ hx6, (heap_setCell_other w6 ⟨bc, 2, none⟩ w.heap.size _ (by show w.heap.size ≠ bc; omega)).trans hR6, own_setO hI6 hx6 (by decide) 2 _, own_setO hV6 hx6 (by decide) 2 _, hB6.setCell (by show w.heap.size ≤ bc; omega) _⟩
        clear ho6 hg6 ha6 hVA hx6 hR6 hG6 hI6 hB6 hV6 HG5 HC5 HR5 HI5 HV5 HB5 HXQ HLM
        go_region
        all_goals
          go_wp2_with fail
          go_roundw
          case rel => exact ⟨i + 1, _, _, by simp, hlt, HN.out.1, HN.out.2.1, HN.out.2.2.1, HN.out.2.2.2.1, HN.out.2.2.2.2.1, HN.out.2.2.2.2.2⟩
          case measure => simp [intOf]; omega
      · have d1 : decide ((0 : Int) < (xs.length : Int)) = false := decide_eq_false (by omega)
        have d2 : decide (0 < xs.length) = false := decide_eq_false hx0
        have HXQ : Hid (valL xs (i + 1) = valL xs i ++ [false]) := hid (by rw [valL_succ, d2]; simp)
        obtain ⟨a6, c6, w6, hr6, ho6, hg6, ha6⟩ := appM_one (P := Try.prog) ((w5.alloc (.cells #[.bool false] 4 (0, 0))).drew) w.heap.size 27 27 4 i1 (.bool false) 1 Try.underlying27 hi1 hy0 hy1 hy2 rfl vV i (bools (valL xs i)) (HV5.out.alloc (.cells #[.bool false] 4 (0, 0))) w5.heap.size (.bool false) (heap_alloc_new _ _) rfl HLM.out.1 HLM.out.2.2 (by show w.heap.size ≤ (w5.alloc _).heap.size; simp only [size_al]; exact Nat.le_succ_of_le hbw5)
        have hVA := HV5.out.alloc (.cells #[.bool false] 4 (0, 0))
        have hx6 : w6.heap[bc]? = some (.cells #[.pointer (some ⟨b, 0, none⟩), .slice a4 (i + 1) c4, vV] 46) := (hg6.block _ (by show bc < (w5.alloc _).heap.size; simp only [size_al]; omega) (own_ty hVA ((Below.heap_alloc _ _ _ hbl5).trans HC5.out) (by decide))).trans ((Below.heap_alloc _ _ _ hbl5).trans HC5.out)
        have hs2 : w6.cell? ⟨bc, 2, none⟩ = some vV := fit_cell (vs := [.pointer (some ⟨b, 0, none⟩), .slice a4 (i + 1) c4, vV]) hx6 2
        have hf2 : w6.frozen? ⟨bc, 2, none⟩ = false := frozen_of_row _ _ _ _ _ hx6
        have hR6 : w6.heap[w.heap.size]? = some (.cells #[.pointer none, .slice none 0 0, .slice none 0 0] 46) := (hg6.block _ (by show w.heap.size < (w5.alloc _).heap.size; simp only [size_al]; omega) (own_ty hVA ((Below.heap_alloc _ _ _ hrl5).trans HR5.out) (by decide))).trans ((Below.heap_alloc _ _ _ hrl5).trans HR5.out)
        have hG6 : GB (XO w.heap.size (.slice a4 (i + 1) c4)) w6 w.heap.size b (i + 1 + 1) [[1]] := (HG5.out.below (box_below w5 (.cells #[.bool false] 4 (0, 0)))).grownO (w := (w5.alloc (.cells #[.bool false] 4 (0, 0))).drew) hVA (by decide) (by decide) (by decide) hg6
        have hI6 : w6.ownsRow w.heap.size 3 1 (.slice a4 (i + 1) c4) (i + 1) (ints (inL (i + 1))) := own_grownO (w := (w5.alloc (.cells #[.bool false] 4 (0, 0))).drew) (HI5.out.alloc (.cells #[.bool false] 4 (0, 0))) hVA (by decide) hg6
        have hB6 : Below w.heap.size w w6 := ((below_al HB5.out hbw5 (.cells #[.bool false] 4 (0, 0))).drew).grown hg6 (by show w.heap.size ≤ (w5.alloc _).heap.size; simp only [size_al]; omega) (fun q hq => (HV5.out.lt q hq).1)
        have hV6 : w6.ownsRow w.heap.size 4 1 (.slice a6 (i + 1) c6) (i + 1) (bools (valL xs (i + 1))) := by rw [HXQ.out]; simpa [bools] using ho6
        have HN : Hid (GB (XO w.heap.size (.slice a4 (i + 1) c4)) (w6.setCell ⟨bc, 2, none⟩ (.slice a6 (i + 1) c6)) w.heap.size b (i + 1 + 1) [[1]] ∧ (w6.setCell ⟨bc, 2, none⟩ (.slice a6 (i + 1) c6)).heap[bc]? = some (.cells #[.pointer (some ⟨b, 0, none⟩), .slice a4 (i + 1) c4, .slice a6 (i + 1) c6] 46) ∧ (w6.setCell ⟨bc, 2, none⟩ (.slice a6 (i + 1) c6)).heap[w.heap.size]? = some (.cells #[.pointer none, .slice none 0 0, .slice none 0 0] 46) ∧ (w6.setCell ⟨bc, 2, none⟩ (.slice a6 (i + 1) c6)).ownsRow w.heap.size 3 1 (.slice a4 (i + 1) c4) (i + 1) (ints (inL (i + 1))) ∧ (w6.setCell ⟨bc, 2, none⟩ (.slice a6 (i + 1) c6)).ownsRow w.heap.size 4 1 (.slice a6 (i + 1) c6) (i + 1) (bools (valL xs (i + 1))) ∧ Below w.heap.size w (w6.setCell ⟨bc, 2, none⟩ (.slice a6 (i + 1) c6))) := hid ⟨GB.setO hG6 hx6 (by decide) (by decide) (by decide) 2 _, setCell_blockG (o := 2) (xs := [.pointer (some ⟨b, 0, none⟩), .slice a4 (i + 1) c4, vV]) _ hx6, (heap_setCell_other w6 ⟨bc, 2, none⟩ w.heap.size _ (by show w.heap.size ≠ bc; omega)).trans hR6, own_setO hI6 hx6 (by decide) 2 _, own_setO hV6 hx6 (by decide) 2 _, hB6.setCell (by show w.heap.size ≤ bc; omega) _⟩
        clear ho6 hg6 ha6 hVA hx6 hR6 hG6 hI6 hB6 hV6 HG5 HC5 HR5 HI5 HV5 HB5 HXQ HLM
        go_region
        all_goals
          go_wp2_with fail
          go_roundw
          case rel => exact ⟨i + 1, _, _, by simp, hlt, HN.out.1, HN.out.2.1, HN.out.2.2.1, HN.out.2.2.2.1, HN.out.2.2.2.2.1, HN.out.2.2.2.2.2⟩
          case measure => simp [intOf]; omega
    · have hk2 : i = k := by omega
      subst hk2
      obtain ⟨aI, cI, rfl⟩ := own_lenV' HI.out
      obtain ⟨aV, cV, rfl⟩ := own_lenV' HV.out
      have hr0 : wr.cell? ⟨w.heap.size, 0, none⟩ = some (.pointer none) := fit_cell (vs := [.pointer none, .slice none 0 0, .slice none 0 0]) HR.out 0
      have hr1 : wr.cell? ⟨w.heap.size, 1, none⟩ = some (.slice none 0 0) := fit_cell (vs := [.pointer none, .slice none 0 0, .slice none 0 0]) HR.out 1
      have hr2 : wr.cell? ⟨w.heap.size, 2, none⟩ = some (.slice none 0 0) := fit_cell (vs := [.pointer none, .slice none 0 0, .slice none 0 0]) HR.out 2
      have hf0 : wr.frozen? ⟨w.heap.size, 0, none⟩ = false := frozen_of_row _ _ _ _ _ HR.out
      have hf1 : wr.frozen? ⟨w.heap.size, 1, none⟩ = false := frozen_of_row _ _ _ _ _ HR.out
      have hf2 : wr.frozen? ⟨w.heap.size, 2, none⟩ = false := frozen_of_row _ _ _ _ _ HR.out
      have HN : Hid (GB (XO w.heap.size (.slice aI i cI)) (((wr.setCell ⟨w.heap.size, 0, none⟩ (.pointer (some ⟨b, 0, none⟩))).setCell ⟨w.heap.size, 1, none⟩ (.slice aI i cI)).setCell ⟨w.heap.size, 2, none⟩ (.slice aV i cV)) w.heap.size b (i + 1) [[1]] ∧ (((wr.setCell ⟨w.heap.size, 0, none⟩ (.pointer (some ⟨b, 0, none⟩))).setCell ⟨w.heap.size, 1, none⟩ (.slice aI i cI)).setCell ⟨w.heap.size, 2, none⟩ (.slice aV i cV)).ownsRow w.heap.size 3 1 (.slice aI i cI) i (ints (inL i)) ∧ (((wr.setCell ⟨w.heap.size, 0, none⟩ (.pointer (some ⟨b, 0, none⟩))).setCell ⟨w.heap.size, 1, none⟩ (.slice aI i cI)).setCell ⟨w.heap.size, 2, none⟩ (.slice aV i cV)).ownsRow w.heap.size 4 1 (.slice aV i cV) i (bools (valL xs i)) ∧ Below w.heap.size w (((wr.setCell ⟨w.heap.size, 0, none⟩ (.pointer (some ⟨b, 0, none⟩))).setCell ⟨w.heap.size, 1, none⟩ (.slice aI i cI)).setCell ⟨w.heap.size, 2, none⟩ (.slice aV i cV))) := hid (by
        have q1 := setCell_blockG (o := 0) (xs := [.pointer none, .slice none 0 0, .slice none 0 0]) (.pointer (some ⟨b, 0, none⟩)) HR.out
        have q2 := setCell_blockG (o := 1) (xs := [.pointer (some ⟨b, 0, none⟩), .slice none 0 0, .slice none 0 0]) (.slice aI i cI) q1
        exact ⟨GB.setO (GB.setO (GB.setO HG.out HR.out (by decide) (by decide) (by decide) 0 _) q1 (by decide) (by decide) (by decide) 1 _) q2 (by decide) (by decide) (by decide) 2 _, own_setO (own_setO (own_setO HI.out HR.out (by decide) 0 _) q1 (by decide) 1 _) q2 (by decide) 2 _, own_setO (own_setO (own_setO HV.out HR.out (by decide) 0 _) q1 (by decide) 1 _) q2 (by decide) 2 _, ((HB.out.setCell (Nat.le_refl _) _).setCell (Nat.le_refl _) _).setCell (Nat.le_refl _) _⟩)
      go_wp2_with fail
      exact bodyPost_ret (v := .tuple #[.agg #[.pointer (some ⟨b, 0, none⟩), .slice aI i cI, .slice aV i cV], .bool true]) (by simp [results, Try.results26, go_sem, hr0, hr1, hr2]) rfl ⟨b, _, _, rfl, HN.out.1, HN.out.2.1, HN.out.2.2.1, HN.out.2.2.2⟩

end Go.Proofs.Ytacmfiikdbekbaa.Ord

/- The contracts of law15's Pick and Assume. -/
namespace Go.Proofs.Ytacmfiikdbekbaa.Ord
open Go.RowKit Go.Conc

attribute [local go_sem ↓] Go.wp_at_zero Go.wp_at_succ
attribute [local go_sem ↓ high] app_mark

/-- What Pick gives. -/
def pickV (I : List Int) (V : List Bool) (r : Nat) : Int × Bool :=
  let p := if r < 2 then ((1 : Int), true) else (I.getD (r / 2 - 1) 0, V.getD (r / 2 - 1) false)
  if r % 2 = 1 then (-p.1, !p.2) else p

set_option maxRecDepth 100000 in
set_option maxHeartbeats 4000000 in
theorem law15_Pick (w : World) (b k : Nat) (aI aV : Option Addr) (mI mV cI cV : Nat) (I : List Int) (V : List Bool) (n : Int) (r : Nat) (p : Int) (q : Bool) (hmI : mI = k) (hmV : mV = k) (hlI : I.length = k) (hlV : V.length = k) (hk : k ≤ 1000) (hI : SlV w aI (ints I)) (hV : SlV w aV (bools V)) (hr : n % (2 * (k : Int) + 2) = (r : Int)) (hp : pickV I V r = (p, q)) (hb : ∀ x ∈ I, -1048576 ≤ x ∧ x ≤ 1048576) :
    Calls Try.prog 35 #[.agg #[.pointer (some ⟨b, 0, none⟩), .slice aI mI cI, .slice aV mV cV], .int .i64 n] w fun e w' => e = .returned (.tuple #[.int .i64 p, .bool q]) ∧ Below w.heap.size w w' := by
  subst hmI hmV
  have hr2 : r < 2 * mV + 2 := by have := Int.emod_lt_of_pos n (show (0 : Int) < 2 * (mV : Int) + 2 by omega); omega
  have HI := hid hI
  have HV := hid hV
  have HB := hid hb
  have HP := hid hp
  have HLI := hid hlI
  have HLV := hid hlV
  have hw1 : IntKind.i64.wrap (2 * (mV : Int)) = 2 * (mV : Int) := IntWalk.i64_in _ (by omega)
  have hw2 : IntKind.i64.wrap (2 * (mV : Int) + 2) = 2 * (mV : Int) + 2 := IntWalk.i64_in _ (by omega)
  clear hI hV hb hp hlI hlV
  go_enter Try.func35, Try.ntmps35
  go_wp2_with fail
  have hB1 : Below w.heap.size w (w.alloc (.cells #[.pointer (some ⟨b, 0, none⟩), .slice aI mV cI, .slice aV mV cV] 46)) := box_below _ _
  have hb0 : (w.alloc (.cells #[.pointer (some ⟨b, 0, none⟩), .slice aI mV cI, .slice aV mV cV] 46)).heap[w.heap.size]? = some (.cells #[.pointer (some ⟨b, 0, none⟩), .slice aI mV cI, .slice aV mV cV] 46) := heap_alloc_new _ _
  generalize (w.alloc (.cells #[.pointer (some ⟨b, 0, none⟩), .slice aI mV cI, .slice aV mV cV] 46)) = w1 at hB1 hb0 ⊢
  have hc0 : w1.cell? ⟨w.heap.size, 0, none⟩ = some (.pointer (some ⟨b, 0, none⟩)) := fit_cell (vs := [.pointer (some ⟨b, 0, none⟩), .slice aI mV cI, .slice aV mV cV]) hb0 0
  have hc1 : w1.cell? ⟨w.heap.size, 1, none⟩ = some (.slice aI mV cI) := fit_cell (vs := [.pointer (some ⟨b, 0, none⟩), .slice aI mV cI, .slice aV mV cV]) hb0 1
  have hc2 : w1.cell? ⟨w.heap.size, 2, none⟩ = some (.slice aV mV cV) := fit_cell (vs := [.pointer (some ⟨b, 0, none⟩), .slice aI mV cI, .slice aV mV cV]) hb0 2
  have HB1 := hid hB1
  clear hB1 hb0
  refine (kit_Mod w1 n (2 * (mV : Int) + 2) (by omega) (by omega)).mono ?_
  rw [hr]
  rintro e w2 ⟨rfl, rfl⟩
  clear hw1 hw2 hr
  go_wp2_with fail
  refine (gate_True w1 b).mono ?_
  rintro e w2 ⟨rfl, rfl⟩
  have e2 : (r : Int).tmod 2 = ((r % 2 : Nat) : Int) := by rw [Int.tmod_eq_emod_of_nonneg (by omega)]; omega
  by_cases h2 : r < 2
  · have d1 : decide ((2 : Int) ≤ (r : Int)) = false := decide_eq_false (by omega)
    have hr01 : r = 0 ∨ r = 1 := by omega
    rcases hr01 with rfl | rfl
    · have hpq : p = 1 ∧ q = true := by have := HP.out; simp [pickV] at this; exact ⟨this.1.symm, this.2⟩
      obtain ⟨rfl, rfl⟩ := hpq
      clear e2 h2 hr2
      go_wp2_with fail
      go_ret2
      exact ⟨rfl, HB1.out⟩
    · have hpq : p = -1 ∧ q = false := by have := HP.out; simp [pickV] at this; exact ⟨this.1.symm, this.2⟩
      obtain ⟨rfl, rfl⟩ := hpq
      clear e2 h2 hr2
      go_wp2_with fail
      go_ret2
      exact ⟨rfl, HB1.out⟩
  · have d1 : decide ((2 : Int) ≤ (r : Int)) = true := decide_eq_true (by omega)
    obtain ⟨j, hj⟩ : ∃ j, r / 2 - 1 = j := ⟨_, rfl⟩
    have hjk : j < mV := by omega
    have hquo : (r : Int).tdiv 2 = (j : Int) + 1 := by rw [Int.tdiv_eq_ediv_of_nonneg (by omega)]; omega
    have hw3 : IntKind.i64.wrap ((j : Int) + 1) = (j : Int) + 1 := IntWalk.i64_in _ (by omega)
    have hw4 : IntKind.i64.wrap ((j : Int) + 1 - 1) = (j : Int) := by rw [Int.add_sub_cancel]; exact IntWalk.i64_in _ (by omega)
    have hjk2 : (j : Int) < mV := by omega
    obtain ⟨b1, o1, x, rfl, hx, hxj⟩ := (HI.out.below HB1.out).int (k := j) (by rw [HLI.out]; exact hjk)
    obtain ⟨b2, o2, y, rfl, hy, hyj⟩ := (HV.out.below HB1.out).bool (k := j) (by rw [HLV.out]; exact hjk)
    have hxb := HB.out x (List.mem_of_getElem? hxj)
    have hwx : IntKind.i64.wrap (-x) = -x := IntWalk.i64_in _ (by omega)
    have hpv : pickV I V r = if r % 2 = 1 then (-x, !y) else (x, y) := by
      unfold pickV
      rw [if_neg h2, hj]
      simp [List.getD, hxj, hyj]
    by_cases hodd : r % 2 = 1
    · have e3 : (r : Int).tmod 2 = 1 := by rw [e2, hodd]; rfl
      rw [if_pos hodd, HP.out] at hpv
      injection hpv with h5 h6
      subst h5 h6
      clear hxj hyj hj hodd e2 h2 hr2 hxb
      go_wp2_with fail
      go_quiet (fail)
      go_wp2_with fail
      go_ret2
      exact ⟨rfl, below_dr HB1.out _⟩
    · have e3 : (r : Int).tmod 2 = 0 := by rw [e2]; omega
      rw [if_neg hodd, HP.out] at hpv
      injection hpv with h5 h6
      subst h5 h6
      clear hxj hyj hj hodd e2 h2 hr2 hxb
      go_wp2_with fail
      go_quiet (fail)
      go_wp2_with fail
      go_ret2
      exact ⟨rfl, below_dr HB1.out _⟩

/-- What Assume gives. -/
def asV (I : List Int) (V : List Bool) : List Int := List.zipWith (fun x v => if v then x else -x) I V

theorem asV_step {I : List Int} {V : List Bool} {i : Nat} {x : Int} {v : Bool} (hx : I[i]? = some x) (hv : V[i]? = some v) : (asV I V).take (i + 1) = (asV I V).take i ++ [if v then x else -x] := by
  rw [List.take_add_one]
  simp [asV, List.getElem?_zipWith, hx, hv]

set_option maxRecDepth 100000 in
set_option maxHeartbeats 4000000 in
theorem law15_Assume (w : World) (b k : Nat) (aI aV : Option Addr) (mI mV cI cV : Nat) (I : List Int) (V : List Bool) (hmI : mI = k) (hmV : mV = k) (hlI : I.length = k) (hlV : V.length = k) (hk : k ≤ 1000) (hI : SlV w aI (ints I)) (hV : SlV w aV (bools V)) (hb : ∀ x ∈ I, -1048576 ≤ x ∧ x ≤ 1048576) :
    Calls Try.prog 31 #[.agg #[.pointer (some ⟨b, 0, none⟩), .slice aI mI cI, .slice aV mV cV]] w fun e w' => ∃ v, e = .returned v ∧ w'.ownsRow w.heap.size 3 1 v k (ints (asV I V)) ∧ Below w.heap.size w w' := by
  subst hmI
  subst hmV
  obtain ⟨i0, hi0, hz0, hz1, hz2⟩ := info_parts info_intG
  have HI := hid hI
  have HV := hid hV
  have HB := hid hb
  have HLI := hid hlI
  have HLV := hid hlV
  clear hI hV hb hlI hlV
  go_enter Try.func31, Try.ntmps31
  go_wp2_with fail
  have hB1 : Below w.heap.size w (w.alloc (.cells #[.pointer (some ⟨b, 0, none⟩), .slice aI mV cI, .slice aV mV cV] 46)) := box_below _ _
  have hb0 : (w.alloc (.cells #[.pointer (some ⟨b, 0, none⟩), .slice aI mV cI, .slice aV mV cV] 46)).heap[w.heap.size]? = some (.cells #[.pointer (some ⟨b, 0, none⟩), .slice aI mV cI, .slice aV mV cV] 46) := heap_alloc_new _ _
  generalize (w.alloc (.cells #[.pointer (some ⟨b, 0, none⟩), .slice aI mV cI, .slice aV mV cV] 46)) = w1 at hB1 hb0 ⊢
  have HB1 := hid hB1
  have HB0 := hid hb0
  clear hB1 hb0
  go_loopw [3, 4] (fun s3 s4 wr => ∃ i : Nat, s4 = .int .i64 i ∧ i ≤ mV ∧ Hid (wr.heap[w.heap.size]? = some (.cells #[.pointer (some ⟨b, 0, none⟩), .slice aI mV cI, .slice aV mV cV] 46)) ∧ Hid (wr.ownsRow w.heap.size 3 1 s3 i (ints ((asV I V).take i))) ∧ Hid (Below w.heap.size w wr)) (fun _ s4 _ => (mV - (intOf s4)).toNat)
  case atStart => exact ⟨0, rfl, Nat.zero_le _, HB0, hid (World.ownsRow_nil _ _ _ _), HB1⟩
  case round =>
    clear HB0 HB1
    obtain ⟨i, rfl, hik, HC, HO, HBW⟩ := hrel
    have hc1 : wr.cell? ⟨w.heap.size, 1, none⟩ = some (.slice aI mV cI) := fit_cell (vs := [.pointer (some ⟨b, 0, none⟩), .slice aI mV cI, .slice aV mV cV]) HC.out 1
    have hc2 : wr.cell? ⟨w.heap.size, 2, none⟩ = some (.slice aV mV cV) := fit_cell (vs := [.pointer (some ⟨b, 0, none⟩), .slice aI mV cI, .slice aV mV cV]) HC.out 2
    by_cases hlt : i < mV
    · have hlt2 : (i : Int) < mV := by omega
      obtain ⟨b1, o1, x, rfl, hx, hxi⟩ := (HI.out.below HBW.out).int (k := i) (by rw [HLI.out]; exact hlt)
      obtain ⟨b2, o2, y, rfl, hy, hyi⟩ := (HV.out.below HBW.out).bool (k := i) (by rw [HLV.out]; exact hlt)
      have hxb := HB.out x (List.mem_of_getElem? hxi)
      have hwx : IntKind.i64.wrap (-x) = -x := IntWalk.i64_in _ (by omega)
      have hwi : IntKind.i64.wrap ((i : Int) + 1) = (i : Int) + 1 := IntWalk.i64_in _ (by omega)
      have hST := hid (asV_step hxi hyi)
      have hbw : w.heap.size ≤ wr.heap.size := HBW.out.size
      have hLM : i + 1 ≤ maxLen ∧ (i + 1) * 8 ≤ 140737488355328 := by unfold maxLen; omega
      have hrl : w.heap.size < wr.heap.size := (Array.getElem?_eq_some_iff.1 HC.out).1
      obtain ⟨z, hz⟩ : ∃ z, (if y then x else -x) = z := ⟨_, rfl⟩
      obtain ⟨a6, c6, w6, hr6, ho6, hg6, -⟩ := appM_one (P := Try.prog) (wr.alloc (.cells #[.int .i64 z] 3 (0, 0))) w.heap.size 22 22 3 i0 (.int .i64 0) 8 Try.underlying22 hi0 hz0 hz1 hz2 rfl u3 i (ints ((asV I V).take i)) (HO.out.alloc (.cells #[.int .i64 z] 3 (0, 0))) wr.heap.size (.int .i64 z) (heap_alloc_new _ _) rfl hLM.1 hLM.2 (by simp only [size_al]; exact Nat.le_succ_of_le hbw)
      have HO6 : Hid (w6.ownsRow w.heap.size 3 1 (.slice a6 (i + 1) c6) (i + 1) (ints ((asV I V).take (i + 1)))) := hid (by rw [hST.out, hz, ints_append]; exact ho6)
      have HC6 : Hid (w6.heap[w.heap.size]? = some (.cells #[.pointer (some ⟨b, 0, none⟩), .slice (some ⟨b1, o1, none⟩) mV cI, .slice (some ⟨b2, o2, none⟩) mV cV] 46)) := hid (blk_app (box_below wr _) HO.out hg6 HC.out (by decide))
      have HB6 : Hid (Below w.heap.size w w6) := hid (below_app HBW.out hbw (box_below wr _) HO.out hg6)
      clear ho6 hg6 hLM hxi hyi hST
      cases y
      all_goals
        have hzz := hz
        simp at hzz
        subst hzz
        clear hz
        go_wp2_with fail
        go_roundw
        case rel => exact ⟨i + 1, by simp, hlt, HC6, HO6, HB6⟩
        case measure => simp [intOf]; omega
    · have hk2 : i = mV := by omega
      subst hk2
      have HE : Hid (wr.ownsRow w.heap.size 3 1 u3 i (ints (asV I V))) := hid (by have := HO.out; rwa [List.take_of_length_le (by simp [asV, HLI.out, HLV.out])] at this)
      go_wp2_with fail
      go_ret
      exact ⟨_, rfl, HE.out, HBW.out⟩

end Go.Proofs.Ytacmfiikdbekbaa.Ord
