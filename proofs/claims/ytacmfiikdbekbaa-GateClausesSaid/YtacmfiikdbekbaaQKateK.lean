/- The contract of gate's Clause. -/
import Derived.Test.YtacmfiikdbekbaaQKateI

namespace Go.Proofs.Ytacmfiikdbekbaa.Ord2
open Go.RowKit Go.Conc Go.Proofs.Ytacmfiikdbekbaa.Ord

attribute [local go_sem ↓] Go.wp_at_zero Go.wp_at_succ

set_option maxRecDepth 100000 in
set_option maxHeartbeats 4000000 in
theorem gate_Clause {X : Nat → Prop} (w : World) (B b n : Nat) (G : List (List Int)) (al : Option Addr) (l : List Int) (m cp : Nat) (h : GB X w B b n G) (hn : n ≤ 1048576) (hm : m = l.length) (hs : SlV w al (ints l)) (hcp : al = none → cp = 0) (hok : ∀ a ∈ l, LitOk n a) (hll : l.length ≤ 4096) (hG : G.length < 1048576) :
    Calls Try.prog 44 #[.pointer (some ⟨b, 0, none⟩), .slice al m cp] w fun e w' => e = .returned (.int .i64 0) ∧ GB X w' B b n (G ++ [l]) ∧ Gk X B w w' := by
  subst hm
  obtain ⟨i0, hi0, hz0, hz1, hz2⟩ := info_parts info_intG
  obtain ⟨i1, hi1, hy0, hy1, hy2⟩ := info_parts info_intsG
  have hall : l.all (fun a => !badLit n a) = true := by rw [List.all_eq_true]; intro a ha; simp [not_bad (hok a ha)]
  have HH := hid (gate_has w B b n G al l l.length cp true h hn rfl hs (by omega) hall)
  obtain ⟨v, hx, hr, hBb, hXb⟩ := h
  have HXB := hid hXb
  have hBb1 := hBb.1
  clear hXb
  obtain ⟨av, cv, rfl, -, -, -⟩ := hr.shape
  have hbl : b < w.heap.size := (Array.getElem?_eq_some_iff.1 hx).1
  have hc0 : w.cell? ⟨b, 0, none⟩ = some (.int .i64 n) := fit_cell (vs := [.int .i64 n, .slice av G.length cv]) hx 0
  have hc1 : w.cell? ⟨b, 1, none⟩ = some (.slice av G.length cv) := fit_cell (vs := [.int .i64 n, .slice av G.length cv]) hx 1
  have HX := hid hx
  have HR := hid hr
  have HS := hid hs
  have HCP := hid hcp
  have HONE : Hid (∀ u ∈ ints l, u.oneCell' = true) := hid (fun u hu => by simp [ints] at hu; obtain ⟨x, -, rfl⟩ := hu; rfl)
  have HLM : Hid (0 + l.length ≤ maxLen ∧ (0 + l.length) * 8 ≤ 140737488355328 ∧ G.length + 1 ≤ maxLen ∧ (G.length + 1) * 24 ≤ 140737488355328) := hid (by unfold maxLen; omega)
  have d1 : decide ((4096 : Int) < l.length) = false := decide_eq_false (by omega)
  have d2 : ((G.length : Int) == 1048576) = false := by rw [beq_eq_false_iff_ne]; omega
  clear hx hr hs hcp hok hall
  go_enter Try.func44, Try.ntmps44
  go_wp2_with fail
  refine HH.out.mono ?_
  rintro e w2 ⟨rfl, rfl⟩
  go_wp2_with fail
  clear d1 d2
  go_region_law (first
    | (refine step_append_sl rfl _ _ 22 rfl w.heap.size 3 i0 (.int .i64 0) 8 Try.underlying22 hi0 hz0 hz1 hz2 rfl (.slice none 0 0) 0 [] (by rfl) (World.ownsRow_nil _ _ _ _) al l.length cp (ints l) (by rfl) (by exact HS.out) (by simp) HCP.out HONE.out (by exact HLM.out.1) (by exact HLM.out.2.1) (by first | exact Nat.le_refl _ | simp) ?_; intro v8 w8 ho8 hg8; obtain ⟨a8, c8, rfl⟩ := own_lenV' ho8; have hb8 : Below w.heap.size w w8 := (by first | exact ((Below.refl w.heap.size w).drew).grown hg8 (Nat.le_refl _) (fun q hq => by cases hq) | exact (Below.refl w.heap.size w).grown hg8 (Nat.le_refl _) (fun q hq => by cases hq)); have hc1 := below_keeps hb8 _ _ hc1; have hc1a := fun o => below_keeps (box_below w8 o) _ _ hc1; have HO8 := hid ho8; have HB8 := hid hb8; have HX8 := hid ((hb8.block b hbl).trans HX.out); have hR8 := HR.out.below hb8; obtain ⟨vs, hov, hvs, hvx⟩ := hR8; have HOV := hid hov; have HVS := hid hvs; have HVX := hid hvx; have hbl8 : b < w8.heap.size := Nat.lt_of_lt_of_le hbl hb8.size; clear ho8 hg8 hb8 hov hvs hvx)
    | (refine step_append_at1 rfl _ _ 32 rfl B 22 i1 (.slice none 0 0) 24 Try.underlying32 hi1 hy0 hy1 hy2 rfl (.slice av G.length cv) G.length vs (by rfl) (by exact HOV.out.alloc _) _ (.slice a8 l.length c8) (by rfl) (by exact heap_alloc_new _ _) rfl (by exact HLM.out.2.2.1) (by exact HLM.out.2.2.2) (by simp; omega) ?_; intro v9 w9 h9 hg9 ha9; obtain ⟨a9, c9, rfl⟩ := own_lenV' h9; have hx9 : w9.heap[b]? = some (.cells #[.int .i64 n, .slice av G.length cv] 94) := (hg9.block b (by simp; omega) (own_not_builder HX8.out HOV.out)).trans ((Below.heap_alloc _ _ _ (by exact hbl8)).trans HX8.out); have HX9 := hid hx9; have hc1 : w9.cell? ⟨b, 1, none⟩ = some (.slice av G.length cv) := fit_cell (vs := [.int .i64 n, .slice av G.length cv]) hx9 1; have hfz : w9.frozen? ⟨b, 1, none⟩ = false := frozen_of_row _ _ _ _ _ hx9; have H9 := hid h9; have HG9 := hid hg9; have HA9 := hid ha9; clear h9 hg9 ha9 hx9))
  all_goals
    have hBw : B ≤ w.heap.size := by omega
    have hOT : OwnTX X w8 B (.slice a8 l.length c8) l := by
      have h1 := HO8.out
      simp only [Nat.zero_add, List.nil_append] at h1
      exact ownTX_own h1 HXB.out hBw
    have hn9 : ∀ g, (Value.slice a9 (G.length + 1) c9).ownBlock = some g → ¬ X g := fun g hg hx => by
      rcases HA9.out with e | e
      · exact HVX.out g (e.symm.trans hg) hx
      · rw [e] at hg
        injection hg with hg
        have h1 := HXB.out g hx
        have h2 := HB8.out.size
        have h3 : w8.heap.size ≤ g := by rw [← hg]; first | exact Nat.le_refl _ | (simp only [size_al]; omega) | (simp; try omega)
        omega
    have hP : OwnRtX X w9 B (.slice a9 (G.length + 1) c9) (G ++ [l]) := by
      first
      | exact OwnRtX.push (HOV.out.alloc _) (fun j d hd => let ⟨u, e1, e2⟩ := HVS.out j d hd; ⟨u, e1, e2.below (box_below w8 _)⟩) (hOT.below (box_below w8 _)) H9.out HG9.out hn9
      | exact OwnRtX.push (HOV.out.alloc _) (fun j d hd => let ⟨u, e1, e2⟩ := HVS.out j d hd; ⟨u, e1, e2.below ((Below.refl w8.heap.size w8).drew.alloc (Nat.le_refl _) _)⟩) (hOT.below ((Below.refl w8.heap.size w8).drew.alloc (Nat.le_refl _) _)) H9.out HG9.out hn9
    have hB8 : B ≤ w8.heap.size := Nat.le_trans hBw HB8.out.size
    have hK9 : Gk X B w w9 := by
      refine (Gk.of_below HB8.out hBw).trans ?_
      first
      | exact (Gk.of_below (box_below w8 _) hB8).trans (Gk.grown (HOV.out.alloc _) (by simp; omega) HG9.out HVX.out)
      | exact (Gk.of_below ((Below.refl w8.heap.size w8).drew.alloc (Nat.le_refl _) _) hB8).trans (Gk.grown (HOV.out.alloc _) (by simp; omega) HG9.out HVX.out)
    have HE : Hid (GB X (w9.setCell ⟨b, 1, none⟩ (.slice a9 (G.length + 1) c9)) B b n (G ++ [l]) ∧ Gk X B w (w9.setCell ⟨b, 1, none⟩ (.slice a9 (G.length + 1) c9))) := hid ⟨⟨_, heap_setCell_same w9 b 1 #[.int .i64 n, .slice av G.length cv] 94 _ HX9.out, rtX_setBuilder HX9.out hP hBb, hBb, fun k hk => Nat.lt_of_lt_of_le (HXB.out k hk) (by have := hK9.below.size; simpa [World.setCell] using this)⟩, hK9.trans (Gk.set HX9.out hBb _)⟩
    clear hOT hP hK9
    go_wp2_with fail
    go_ret
    exact ⟨rfl, HE.out.1, HE.out.2⟩

end Go.Proofs.Ytacmfiikdbekbaa.Ord2
