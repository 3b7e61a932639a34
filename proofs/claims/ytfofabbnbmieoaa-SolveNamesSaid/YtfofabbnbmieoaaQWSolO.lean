/- The walk of SolveOdd. -/
import Derived.Test.YtfofabbnbmieoaaQ18
import Derived.Test.YtfofabbnbmieoaaQ20

namespace Go.Proofs.Ytfofabbnbmieoaa.Ord
open Go.RowKit

theorem solve_SolveR (n : Int) (acl : Option Addr) (F : List (List Int)) (mf cf : Nat) (b e : Int) (w : World) (he : solErr n b F = e) (h0 : e ≠ 0) (hmf : mf = F.length) (hf : FOk F) (hr : Rws w acl F) (hl : F.length ≤ 9223372036854775807) :
    Calls Try.prog 33 #[.agg #[.int .i64 n, .slice acl mf cf], .int .i64 b] w fun x w' => x = .returned (.tuple #[.agg #[.int .u8 0, .slice none 0 0, .slice none 0 0], .int .i64 e]) ∧ Below w.heap.size w w' := by
  unfold solErr at he
  by_cases hc : cnfCheck n F = 0
  · rw [if_pos hc] at he
    by_cases hb : b < 0 ∨ 1099511627776 < b
    · rw [if_pos hb] at he
      subst he
      exact solve_SolveB n acl F mf cf b w hmf hf hr hl hc hb
    · rw [if_neg hb] at he
      exact absurd he.symm h0
  · rw [if_neg hc] at he
    exact solve_SolveE n acl F mf cf b e w hmf hf hr hl he h0

set_option maxRecDepth 100000 in
set_option maxHeartbeats 4000000 in
theorem walk_SolveOdd (n0 : Int) (vc0 : Value) (x0 : List (List Int)) (x1 : Int) (w : World) (_wn0 : (Lit.int .i64 n0).wf = true) (w0 : ArgR .i64 w vc0 x0) (_w1 : (Lit.int .i64 x1).wf = true) :
    Calls Try.prog 9 #[.agg #[.int .i64 n0, vc0], .int .i64 x1] w fun e w' => e = .returned (.bool true) ∧ Below w.heap.size w w' := by
  obtain ⟨a, c, rfl, hl, hr, hf⟩ := rows_of_arg w0
  clear w0 _wn0 _w1
  obtain ⟨FL, hFL⟩ : ∃ t, x0.length = t := ⟨_, rfl⟩
  rw [hFL] at hl ⊢
  obtain ⟨w1, hw1⟩ : ∃ t, w.alloc (.cells #[.int .i64 n0, .slice a FL c] 34 (0, 0)) = t := ⟨_, rfl⟩
  obtain ⟨hb1, hs1, z1⟩ := box1 w _ hw1
  have c1 := fun i => cell_of_row w1 w.heap.size i _ _ _ z1
  have H1 := hid (And.intro hb1 (And.intro hs1 (And.intro z1 (And.intro (hr.below hb1) (And.intro hf hFL)))))
  have hl' : x0.length ≤ 9223372036854775807 := by rw [hFL]; exact hl
  have HL := hid hl'
  obtain ⟨w2, hw2⟩ : ∃ t, w1.alloc (fbox n0 a FL c) = t := ⟨_, rfl⟩
  obtain ⟨hb2, -, -⟩ := box1 w1 _ hw2
  have HW2 := hid hw2
  have hlt1 : w.heap.size < w1.heap.size := by omega
  have y2 := (hb2.block w.heap.size hlt1).trans z1
  have c2 := fun i => cell_of_row w2 w.heap.size i _ _ _ y2
  have H2 := hid (And.intro (hb1.trans (hb2.mono hb1.size)) (And.intro y2 (And.intro ((hr.below hb1).below hb2) (show w.heap.size < w2.heap.size from Nat.lt_of_lt_of_le hlt1 hb2.size))))
  clear hb1 hs1 z1 hr hf hFL hb2 y2 hlt1 hl hl' hw2
  cases hs : smallB x0 with
  | false =>
    have HS := hid hs
    clear hs
    go_enter Try.func9, Try.ntmps9
    go_wp2_with fail
    refine (law02_SmallR n0 _ x0 _ _ _ _ HS.out H1.out.2.2.2.2.2.symm H1.out.2.2.2.2.1 H1.out.2.2.2.1 HL.out).mono ?_
    rintro e wx ⟨rfl, rfl⟩
    rw [HW2.out]
    go_wp2_with (go_at_call 30; refine (law07_known _).mono ?_; rintro e w' ⟨rfl, hb⟩)
    go_ret
    exact ⟨rfl, H2.out.1.trans (hb.mono H2.out.1.size)⟩
  | true =>
    have HS := hid hs
    have hsl := (smallB_le hs).1
    obtain ⟨g, hg⟩ : ∃ g, solErr n0 x1 x0 = g := ⟨_, rfl⟩
    have HG := hid hg
    have HE := hid (ref07_Error n0 a x0 FL c x1 g w2 hg H1.out.2.2.2.2.2.symm H1.out.2.2.2.2.1 H2.out.2.2.1 HL.out)
    clear hs hg hsl
    by_cases hg0 : g = 0
    · subst hg0
      have hcb : cnfCheck n0 x0 = 0 ∧ 0 ≤ x1 ∧ x1 ≤ 1099511627776 := by
        have h := HG.out
        unfold solErr at h
        by_cases q : cnfCheck n0 x0 = 0
        · rw [if_pos q] at h
          by_cases q2 : x1 < 0 ∨ 1099511627776 < x1
          · rw [if_pos q2] at h; cases h
          · exact ⟨q, by omega, by omega⟩
        · rw [if_neg q] at h; exact absurd h q
      by_cases h12 : 12 < n0
      · go_enter Try.func9, Try.ntmps9
        clear hcb
        go_wp2_with fail
        refine (law02_SmallR n0 _ x0 _ _ _ _ HS.out H1.out.2.2.2.2.2.symm H1.out.2.2.2.2.1 H1.out.2.2.2.1 HL.out).mono ?_
        rintro e wx ⟨rfl, rfl⟩
        rw [HW2.out]
        go_wp2_with fail
        refine HE.out.mono ?_
        rintro e w3 ⟨rfl, hb3⟩
        have c3 := fun i => cell_of_row w3 w.heap.size i _ _ _ ((hb3.block _ H2.out.2.2.2).trans H2.out.2.1)
        have HB3 := hid (H2.out.1.trans (hb3.mono H2.out.1.size))
        clear hb3 c1 c2 HE
        go_wp2_with (go_at_call 30; refine (law07_known _).mono ?_; rintro e w' ⟨rfl, hb⟩)
        go_ret
        exact ⟨rfl, HB3.out.trans (hb.mono HB3.out.size)⟩
      · have hv := cnf_valid hcb.1
        obtain ⟨n, hn⟩ : ∃ n : Nat, n0 = n := ⟨n0.toNat, by omega⟩
        subst hn
        have HC := hid (And.intro hcb.1 (And.intro hcb.2.1 (And.intro hcb.2.2 (show n ≤ 25 by omega))))
        have h12' : ¬ (12 : Int) < n := h12
        have h12n : ¬ 12 < n := by omega
        clear hcb hv h12
        go_enter Try.func9, Try.ntmps9
        go_wp2_with fail
        refine (law02_SmallR n _ x0 _ _ _ _ HS.out H1.out.2.2.2.2.2.symm H1.out.2.2.2.2.1 H1.out.2.2.2.1 HL.out).mono ?_
        rintro e wx ⟨rfl, rfl⟩
        rw [HW2.out]
        go_wp2_with fail
        refine HE.out.mono ?_
        rintro e w3 ⟨rfl, hb3⟩
        have y3 := (hb3.block _ H2.out.2.2.2).trans H2.out.2.1
        have c3 := fun i => cell_of_row w3 w.heap.size i _ _ _ y3
        have HSV := hid (solve_SolveN n a x0 FL c x1 w3 H1.out.2.2.2.2.2.symm H1.out.2.2.2.2.1 (H2.out.2.2.1.below hb3) HC.out.1 HC.out.2.2.2 HC.out.2.1 HC.out.2.2.1)
        have H3 := hid (And.intro (H2.out.1.trans (hb3.mono H2.out.1.size)) (And.intro y3 (And.intro (H2.out.2.2.1.below hb3) (show w.heap.size < w3.heap.size from Nat.lt_of_lt_of_le H2.out.2.2.2 hb3.size))))
        clear hb3 y3 c1 c2 HE
        go_wp2_with fail
        refine HSV.out.mono ?_
        rintro e w5 ⟨A, M, P, am, ap, ml, pl, cm, cp, rfl, hml, hpl, hok, hans, hM, hP, hb5⟩
        obtain ⟨w6, hw6⟩ : ∃ t, w5.alloc (.cells #[.int .u8 A, .slice am ml cm, .slice ap pl cp] 51 (0, 0)) = t := ⟨_, rfl⟩
        obtain ⟨hb6, hs6, z6⟩ := box1 w5 _ hw6
        have hb36 := hb5.trans (hb6.mono hb5.size)
        have d6 := fun i => cell_of_row w6 w.heap.size i _ _ _ ((hb36.block _ H3.out.2.2.2).trans H3.out.2.1)
        have k6 := fun i => cell_of_row w6 w5.heap.size i _ _ _ z6
        have HR := hid (law07_right n a x0 FL c A M P am ap ml pl cm cp w6 H1.out.2.2.2.2.2.symm hml hpl H1.out.2.2.2.2.1 (H3.out.2.2.1.below hb36) HC.out.1 HC.out.2.2.2 hok (hM.below hb6) (hP.below hb6))
        have HB6 := hid (H3.out.1.trans (hb36.mono H3.out.1.size))
        clear hml hpl hok hans hM hP hb5 hb6 hs6 z6 hb36 c3 HSV
        go_wp2_with fail
        refine HR.out.mono ?_
        rintro e w7 ⟨rfl, hb7⟩
        have HB7 := hid (HB6.out.trans (hb7.mono HB6.out.size))
        clear hb7 d6 k6 HR
        go_wp2_with (go_at_call 30; refine (law07_known _).mono ?_; rintro e w' ⟨rfl, hb⟩)
        go_ret
        exact ⟨rfl, HB7.out.trans (hb.mono HB7.out.size)⟩
    · have hgz : (g == 0) = false := beq_false_of_ne hg0
      have hgg : (g == g) = true := beq_self_eq_true g
      have HG0 := hid hg0
      clear hg0
      go_enter Try.func9, Try.ntmps9
      go_wp2_with fail
      refine (law02_SmallR n0 _ x0 _ _ _ _ HS.out H1.out.2.2.2.2.2.symm H1.out.2.2.2.2.1 H1.out.2.2.2.1 HL.out).mono ?_
      rintro e wx ⟨rfl, rfl⟩
      rw [HW2.out]
      go_wp2_with fail
      refine HE.out.mono ?_
      rintro e w3 ⟨rfl, hb3⟩
      have y3 := (hb3.block _ H2.out.2.2.2).trans H2.out.2.1
      have c3 := fun i => cell_of_row w3 w.heap.size i _ _ _ y3
      have HSV := hid (solve_SolveR n0 a x0 FL c x1 g w3 HG.out HG0.out H1.out.2.2.2.2.2.symm H1.out.2.2.2.2.1 (H2.out.2.2.1.below hb3) HL.out)
      have H3 := hid (And.intro (H2.out.1.trans (hb3.mono H2.out.1.size)) (And.intro y3 (show w.heap.size < w3.heap.size from Nat.lt_of_lt_of_le H2.out.2.2.2 hb3.size)))
      clear hb3 y3 c1 c2 HE
      go_wp2_with fail
      refine HSV.out.mono ?_
      rintro e w5 ⟨rfl, hb5⟩
      obtain ⟨hb6, hs6, z6⟩ := box1 w5 (.cells #[.int .u8 0, .slice none 0 0, .slice none 0 0] 51 (0, 0)) rfl
      have hb36 := hb5.trans (hb6.mono hb5.size)
      have d6 := fun i => cell_of_row (w5.alloc (.cells #[.int .u8 0, .slice none 0 0, .slice none 0 0] 51 (0, 0))) w.heap.size i _ _ _ ((hb36.block _ H3.out.2.2).trans H3.out.2.1)
      have k6 := fun i => cell_of_row (w5.alloc (.cells #[.int .u8 0, .slice none 0 0, .slice none 0 0] 51 (0, 0))) w5.heap.size i _ _ _ z6
      have HR := hid (law07_right0 n0 a FL c none none 0 0 (w5.alloc (.cells #[.int .u8 0, .slice none 0 0, .slice none 0 0] 51 (0, 0))))
      have HB6 := hid (H3.out.1.trans (hb36.mono H3.out.1.size))
      clear hb5 hb6 hs6 z6 hb36 c3 HSV
      go_wp2_with fail
      refine HR.out.mono ?_
      rintro e w7 ⟨rfl, hb7⟩
      have HB7 := hid (HB6.out.trans (hb7.mono HB6.out.size))
      clear hb7 d6 k6 HR
      go_wp2_with (go_at_call 30; refine (law07_known _).mono ?_; rintro e w' ⟨rfl, hb⟩)
      go_ret
      exact ⟨rfl, HB7.out.trans (hb.mono HB7.out.size)⟩

end Go.Proofs.Ytfofabbnbmieoaa.Ord
