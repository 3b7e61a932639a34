/- The sort of prop.Units: slices.SortFunc with the closure that calls lit.Less. -/
import Derived.Lib.SortBridge
import Derived.Lib.Builder
import Derived.Deep.Upon
import Derived.Test.YtfofabbnbmieoaaQ14
import Derived.Test.YtfofabbnbmieoaaQ1
import Derived.Test.YtfofabbnbmieoaaSortL

namespace Go.Proofs.Ytfofabbnbmieoaa.Ord
open Go.RowKit Go.Conc Go.Shelf Go.Sort

/-- An int of the machine. -/
abbrev Int64s := {x : Int // I64 x}

instance : Inhabited Int64s := ⟨⟨0, by unfold I64; omega⟩⟩

def encS (x : Int64s) : Value := .int .i64 x.1

theorem below_setCellsS {B : Nat} {a : World} (b : Nat) (hb : B ≤ b) : ∀ (vs : List Value) (o : Nat) {w : World}, Below B a w → Below B a (w.setCells b o vs)
  | [], _, _, h => h
  | v :: r, o, _, h => below_setCellsS b hb r (o + 1) (h.setCell (p := ⟨b, o, none⟩) hb v)

def cfS (x y : Int64s) : Int := if lessB x.1 y.1 then -1 else 1

theorem ltS (x y : Int64s) : ltOf cfS x y = lessB x.1 y.1 := by
  unfold ltOf cfS
  cases lessB x.1 y.1 <;> rfl

theorem swoS : SWO (ltOf cfS) where
  irrefl x := by rw [ltS]; exact lessB_irrefl _
  trans x y z h1 h2 := by rw [ltS] at *; exact lessB_trans h1 h2
  ntrans x y z h1 h2 := by
    rw [ltS] at *
    cases h3 : lessB x.1 z.1 with
    | false => rfl
    | true =>
      have e1 := (lessB_iff x.1 z.1).1 h3
      have n1 : ¬ (lessB x.1 y.1 = true) := by rw [h1]; decide
      have n2 : ¬ (lessB y.1 z.1 = true) := by rw [h2]; decide
      rw [lessB_iff] at n1 n2
      omega

theorem totS (x y : Int64s) (h1 : ltOf cfS x y = false) (h2 : ltOf cfS y x = false) : x = y := by
  rw [ltS] at *
  exact Subtype.ext (lessB_tri h1 h2)

set_option maxHeartbeats 1000000 in
theorem closureS (x y : Int64s) (W : World) : Calls Try.prog 66 #[.int .i64 x.1, .int .i64 y.1] W fun e w' => e = .returned (.int .i64 (cfS x y)) ∧ ∃ q, w' = W.drewN q := by
  obtain ⟨x, hx⟩ := x
  obtain ⟨y, hy⟩ := y
  have hcon := fun W => lit_Less' x y _ W rfl hx hy
  unfold cfS
  cases hb : lessB x y
  · rw [hb] at hcon
    go_enter Try.func66, Try.ntmps66
    go_wp2_with (go_at_call 18; refine (hcon _).mono ?_; rintro e w' ⟨rfl, rfl⟩)
    go_ret
    exact ⟨rfl, 0, rfl⟩
  · rw [hb] at hcon
    go_enter Try.func66, Try.ntmps66
    go_wp2_with (go_at_call 18; refine (hcon _).mono ?_; rintro e w' ⟨rfl, rfl⟩)
    go_ret
    exact ⟨rfl, 0, rfl⟩

/-- The list, in the type of the machine's ints. -/
def up64 (xs : List Int) (h : ∀ x ∈ xs, I64 x) : List Int64s := xs.pmap Subtype.mk h

theorem up64_map (xs : List Int) (h : ∀ x ∈ xs, I64 x) : (up64 xs h).map (·.1) = xs := by
  unfold up64
  rw [List.map_pmap]
  simp

theorem encS_map (ys : List Int64s) : ys.map encS = ints (ys.map (·.1)) := by simp [ints, encS]

theorem sort_SortFunc (ap : Option Addr) (xs : List Int) (n cap B ty : Nat) (w : World) (hx : ∀ x ∈ xs, I64 x) (hn : n = xs.length) (hl : xs.length < 4611686018427387904) (hB : B ≤ w.heap.size)
    (hown : w.ownsRow B ty 1 (.slice ap n cap) n (ints xs)) :
    Calls Try.prog 65 #[.slice ap n cap, .func (.func 66) #[] #[]] w fun e w' =>
      e = .returned (.tuple #[]) ∧ Below B w w' ∧ ∃ ys : List Int, ys.Perm xs ∧ ys.Pairwise (fun a b => lessB b a = false) ∧ SlV w' ap (ints ys) := by
  by_cases h0 : xs = []
  · subst h0
    obtain rfl : n = 0 := hn
    have hS := AnyF.slices_SortFunc_none (P := Try.prog) (ρ := Try.sortL_ren) { Try.sortL with } ap cap (.func (.func 66) #[] #[]) w
    change Calls Try.prog 65 _ _ _ at hS
    exact hS.mono fun e w' ⟨he, hw⟩ => ⟨he, hw ▸ Below.refl _ _, [], List.Perm.refl _, List.Pairwise.nil, SlV.nil _ _⟩
  · have hsl := own_slv hown
    rcases hown.2 with ⟨he, h1⟩ | ⟨g, cap', cur, he, hg, hblk, hle, hcm, hcs, ht⟩
    · exact absurd (List.eq_nil_of_length_eq_zero (hn.symm.trans h1)) h0
    · injection he with he1 _ he3
      subst he1 he3
      have hgl : g < w.heap.size := by
        rcases Nat.lt_or_ge g w.heap.size with h | h
        · exact h
        · rw [Array.getElem?_eq_none h] at hblk; cases hblk
      have hcl : ∀ j (hj : j < xs.length), w.cell? ⟨g, 0 + j, none⟩ = some (.int .i64 (xs[j])) := by
        intro j hj
        obtain ⟨b, off, e1, e2⟩ := hsl j (.int .i64 xs[j]) (by simp [ints, hj])
        injection e1 with e1
        injection e1 with e3 e4 _
        subst e3 e4
        exact e2
      have hH : Holds encS w g 0 (up64 xs hx).toArray := by
        intro j hj
        have hj' : j < xs.length := by simpa [up64] using hj
        refine ⟨?_, by simp [World.frozen?, hblk]⟩
        rw [hcl j hj']
        have : (up64 xs hx).toArray[j]! = ⟨xs[j], hx _ (List.getElem_mem hj')⟩ := by
          rw [getElem!_pos _ j hj]
          simp [up64]
        rw [this]
        rfl
      have hlen : (up64 xs hx).toArray.size = n := by rw [hn]; simp [up64]
      have eg : ∀ args w, (callFunc 66 args).run Try.prog w = .ok (.enter 66 args) w := enters_of Try.func66 (by kernel_rfl) rfl
      have hcr : CmpReads Try.prog 66 #[] encS cfS g 0 (up64 xs hx).toArray.size w := fun _ _ _ _ x y => closureS x y _
      have hS := Any.slices_SortFunc_total Try.sortL encS (fun _ => rfl) cfS swoS 66 #[] g 0 cap (up64 xs hx).toArray w eg hcr.lays hH hgl (by rw [hlen, hn]; exact hl) totS
      rw [hlen] at hS
      change Calls Try.prog 65 _ _ _ at hS
      refine hS.mono ?_
      rintro e w' ⟨he, q, os, hw⟩
      generalize hys : ((up64 xs hx).toArray.toList.mergeSort fun x y => !(ltOf cfS) y x) = ys at hw
      have hp : ys.Perm (up64 xs hx) := by rw [← hys]; simpa using List.mergeSort_perm _ _
      have hyl : ys.length = xs.length := by rw [hp.length_eq]; simp [up64]
      have hsorted : ys.Pairwise fun a b => lessB b.1 a.1 = false := by
        rw [← hys]
        refine (List.pairwise_mergeSort (le := fun x y => !(ltOf cfS) y x) ?_ ?_ _).imp ?_
        · intro a b c h1 h2
          simp only [Bool.not_eq_true'] at *
          exact swoS.ntrans _ _ _ h2 h1
        · intro a b
          simp only [ltS]
          cases h : lessB b.1 a.1
          · rfl
          · simp [lessB_asymm h]
        · intro a b h
          simp only [Bool.not_eq_true', ltS] at h
          exact h
      have hwE : w' = grow ((w.drewN q).setCells g 0 (ints (ys.map (·.1)))) os := by
        rw [hw, ← encS_map]
        exact Go.Lib.sorted_world encS w g 0 q _ ys os hH (by rw [hlen, hyl, hn])
      have hBel : Below B w w' := by
        rw [hwE]
        have h1 : Below B w (w.drewN q) := ⟨rfl, rfl, rfl, Nat.le_refl _, fun _ _ => rfl⟩
        have h2 := below_setCellsS g hg (ints (ys.map (·.1))) 0 h1
        refine h2.trans ⟨rfl, rfl, rfl, by simp [grow], fun k hk => ?_⟩
        have hsz := h2.size
        exact heap_grow_old _ os (by omega)
      refine ⟨he, hBel, ys.map (·.1), ?_, ?_, ?_⟩
      · have := hp.map (·.1)
        rwa [up64_map] at this
      · exact List.pairwise_map.2 hsorted
      · have hcz := Go.Lib.cells_sorted_ints (W := w) (b := g) (off := 0) (n := n) (q := q) (zs := xs) (ys := ys.map (·.1)) (os := os) (by omega) (by simp [hyl, hn]) (fun j hj => by rw [hcl j hj, List.getD_eq_getElem?_getD, List.getElem?_eq_getElem hj]; rfl)
        intro j v hj
        refine ⟨g, 0, rfl, ?_⟩
        have hjl : j < (ys.map (·.1)).length := by
          have := (List.getElem?_eq_some_iff.1 hj).1
          simpa [ints] using this
        rw [hwE]
        have h1 := hcz j (by simp at hjl ⊢; omega)
        have e1 : (ints (ys.map (·.1))) = (ys.map (·.1)).map (Value.int .i64) := rfl
        rw [e1] at hj ⊢
        rw [h1]
        rw [List.getElem?_map] at hj
        rw [List.getD_eq_getElem?_getD, List.getElem?_append_left hjl]
        cases hh : (ys.map (·.1))[j]? with
        | none => rw [hh] at hj; cases hj
        | some z => rw [hh] at hj; simpa using hj

end Go.Proofs.Ytfofabbnbmieoaa.Ord
