/- The contracts of the reference's First of layer 2, and of weepholelaw02.three and known. -/
import Derived.Test.YtfgaglgaofceiaaCnfB
namespace Go.Proofs.Ytfgaglgaofceiaa
open Go.RowKit

theorem ref02_CheckR (n : Int) (a : Option Addr) (f : List (List Int)) (m c : Nat) (e : Int) (w : World) (he : cnfCheck n f = e) (hm : m = f.length) (hf : FOk f) (hr : Rws w a f) (hl : f.length ≤ 9223372036854775807) :
    Calls Try.prog 51 #[.agg #[.int .i64 n, .slice a m c]] w fun x w' => x = .returned (.int .i64 e) ∧ ∃ k, w' = (w.alloc (fbox n a m c)).drewN k := he ▸ ref02_Check n a f m c w hm hf hr hl

/-- The formula of weepholelaw02.three. -/
def threeF : List (List Int) := [[1, 2], [-1, 3], [-2, -3]]

set_option maxHeartbeats 1000000 in
theorem law02_three (w : World) :
    Calls Try.prog 20 #[] w fun e w' => e = .returned (.agg #[.int .i64 3, .slice (some ⟨w.heap.size + 4, 0, none⟩) 3 3]) ∧ Below w.heap.size w w' ∧ w'.heap.size = w.heap.size + 5 ∧
      w'.heap[w.heap.size + 1]? = some (.cells #[.int .i64 1, .int .i64 2] 3) ∧ w'.heap[w.heap.size + 2]? = some (.cells #[.int .i64 (-1), .int .i64 3] 3) ∧ w'.heap[w.heap.size + 3]? = some (.cells #[.int .i64 (-2), .int .i64 (-3)] 3) ∧
      w'.heap[w.heap.size + 4]? = some (.cells #[.slice (some ⟨w.heap.size + 1, 0, none⟩) 2 2, .slice (some ⟨w.heap.size + 2, 0, none⟩) 2 2, .slice (some ⟨w.heap.size + 3, 0, none⟩) 2 2] 22) := by
  go_enter Try.func20, Try.ntmps20
  go_wp2_with fail
  refine bodyPost_ret (v := .agg #[.int .i64 3, .slice (some ⟨w.heap.size + 4, 0, none⟩) 3 3]) (by simp [results, Try.results20, go_sem]) rfl ⟨rfl, ?_, ?_, ?_, ?_, ?_, ?_⟩
  · exact below_al (below_al (below_al (below_al (box_below _ _) (by simp only [size_al]; omega) _) (by simp only [size_al]; omega) _) (by simp only [size_al]; omega) _) (by simp only [size_al]; omega) _
  · simp only [size_al]
  all_goals simp [heap_al, Array.getElem_push]

theorem fok_three : FOk threeF := by
  intro c hc
  simp [threeF] at hc
  rcases hc with rfl | rfl | rfl <;> simp [I64]

theorem sli_of_block {w : World} {b n : Nat} {e : TypeId} {xs : List Int} {m : Nat × Nat} (h : w.heap[b]? = some (.cells (ints xs).toArray e m)) (hn : n = xs.length) : SlI w (.slice (some ⟨b, 0, none⟩) n n) xs :=
  ⟨some ⟨b, 0, none⟩, n, by rw [hn], by omega, nofun, slv_at h⟩

theorem law02_threeR (w : World) :
    Calls Try.prog 20 #[] w fun e w' => ∃ a c, e = .returned (.agg #[.int .i64 3, .slice a 3 c]) ∧ Rws w' a threeF ∧ Below w.heap.size w w' := by
  refine (law02_three w).mono ?_
  rintro e w' ⟨rfl, hb, hs, h1, h2, h3, h4⟩
  refine ⟨_, _, rfl, ?_, hb⟩
  intro j c hj
  have hcell := slv_at (vs := [.slice (some ⟨w.heap.size + 1, 0, none⟩) 2 2, .slice (some ⟨w.heap.size + 2, 0, none⟩) 2 2, .slice (some ⟨w.heap.size + 3, 0, none⟩) 2 2]) h4
  match j, hj with
  | 0, hj => simp [threeF] at hj; subst hj; obtain ⟨b, off, e1, e2⟩ := hcell 0 _ rfl; exact ⟨b, off, _, e1, e2, sli_of_block h1 rfl⟩
  | 1, hj => simp [threeF] at hj; subst hj; obtain ⟨b, off, e1, e2⟩ := hcell 1 _ rfl; exact ⟨b, off, _, e1, e2, sli_of_block h2 rfl⟩
  | 2, hj => simp [threeF] at hj; subst hj; obtain ⟨b, off, e1, e2⟩ := hcell 2 _ rfl; exact ⟨b, off, _, e1, e2, sli_of_block h3 rfl⟩
  | j + 3, hj => simp [threeF] at hj

theorem cnf_FirstR (n : Int) (a : Option Addr) (f : List (List Int)) (lf c : Nat) (am : Option Addr) (m : List Bool) (lm cm : Nat) (i e : Int) (w : World) (hr0 : cnfFirst n f m = (i, e)) (hlf : lf = f.length) (hlm : lm = m.length) (hf : FOk f) (hr : Rws w a f) (hm : SlV w am (bools m))
    (hl : f.length ≤ 9223372036854775807) (hl2 : m.length ≤ 9223372036854775807) :
    Calls Try.prog 22 #[.agg #[.int .i64 n, .slice a lf c], .slice am lm cm] w fun x w' =>
      x = .returned (.tuple #[.int .i64 i, .int .i64 e]) ∧ Below w.heap.size w w' := by
  have := cnf_First n a f lf c am m lm cm w hlf hlm hf hr hm hl hl2
  rwa [hr0] at this

set_option maxHeartbeats 1000000 in
theorem law02_known (w : World) :
    Calls Try.prog 24 #[] w fun e w' => e = .returned (.bool true) ∧ Below w.heap.size w w' := by
  go_enter Try.func24, Try.ntmps24
  go_wp2_with fail
  refine (law02_threeR w).mono ?_
  rintro e w1 ⟨a1, c1, rfl, hr1, hb1⟩
  have HR1 := hid hr1
  clear hr1
  go_wp2_with fail
  refine (cnf_FirstR 3 _ threeF _ _ _ [true, false, true] _ _ (-1) 0 _ (by decide) rfl rfl fok_three (HR1.out.below (box_below _ _)) (slv_at (e := 4) (m := (0, 0)) (by simp [heap_al, bools])) (by decide) (by decide)).mono ?_
  rintro e w2 ⟨rfl, hb2⟩
  have hB2 : Below w.heap.size w w2 := (below_al hb1 hb1.size _).trans (hb2.mono (by have := hb1.size; simp only [size_al]; omega))
  clear hb1 hb2 HR1
  go_wp2_with fail
  refine (law02_threeR _).mono ?_
  rintro e w3 ⟨a3, c3, rfl, hr3, hb3⟩
  have HR3 := hid hr3
  clear hr3
  go_wp2_with fail
  refine (cnf_CheckR 3 _ threeF _ _ 0 _ (by decide) rfl fok_three HR3.out (by decide)).mono ?_
  rintro e w4 ⟨rfl, rfl⟩
  go_wp2_with fail
  go_ret
  exact ⟨rfl, below_al (hB2.trans (hb3.mono hB2.size)) (Nat.le_trans hB2.size hb3.size) _⟩

end Go.Proofs.Ytfgaglgaofceiaa
