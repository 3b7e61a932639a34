/- rup's base: a clause more in memory. -/
import Derived.Test.YtfmahgobogelkaaQ3
import Derived.Test.YtfmahgobogelkaaQ2
import Derived.Test.YtfmahgobogelkaaQ0
import Derived.Test.YtfmahgobogelkaaQ1

namespace Go.Proofs.Ytfmahgobogelkaa.Ord
open Go.RowKit Go.Conc

section
variable {tag : Nat → RT} {B : Nat} {w0 w : World} {bx bw bk : Nat} {vc vt : Value} {dn : Nat} {C : List (List Int)} {us : List Value} {es : List (Int × Value)} {Wt : Int → List Nat} {K : List Int}

/-- Other tags for blocks that hold nothing of the base. -/
theorem RM.retag (h : RM tag B w0 w bx bw bk vc vt dn C us es Wt K) {tag' : Nat → RT} (ht : ∀ g, g < w.heap.size → tag g ≠ .oth → tag' g = tag g) : RM tag' B w0 w bx bw bk vc vt dn C us es Wt K :=
  ⟨h.bel, h.le, h.bxB, h.bwB, h.bkB, h.ne, h.blk, h.clr, fun g hg => (ht g (h.clr.lt g hg).2 (by rw [h.clt g hg]; nofun)).trans (h.clt g hg), h.cls.frame fun g i hg hi => ⟨rfl, ht g hg (by rw [hi]; nofun)⟩, h.tr, fun g hg => (ht g (h.tr.lt g hg).2 (by rw [h.trt g hg]; nofun)).trans (h.trt g hg), h.wi, fun a => (h.wr a).frame fun g cur hg hw => ⟨rfl, ht g (Array.getElem?_eq_some_iff.1 hg).1 (by rw [hw]; nofun)⟩, h.kn⟩

theorem setCell0 {w : World} {b : Nat} {e : TypeId} {x0 x1 x2 x3 x4 y : Value} (h : w.heap[b]? = some (.cells #[x0, x1, x2, x3, x4] e (0, 0))) : (w.setCell ⟨b, 0, none⟩ y).heap[b]? = some (.cells #[y, x1, x2, x3, x4] e (0, 0)) := by
  have h1 := setCell_block (o := 0) y (xs := [x0, x1, x2, x3, x4]) h
  exact h1

/-- A clause is appended. -/
theorem RM.pushC (h : RM tag B w0 w bx bw bk vc vt dn C us es Wt K) {l : List Int} {g o cap : Nat} {cur : Array Value} (htg : tag g = .cls C.length) (hgB : B ≤ g) (hb : w.heap[g]? = some (.cells cur 3 (0, 0))) (hcur : ∀ (j : Nat) (x : Int), l[j]? = some x → cur[o + j]? = some (.int .i64 x))
    {obj : Obj} {w6 : World} {a6 : Option Addr} {c6 : Nat} (hg6 : (w.alloc obj).grownBy w6 vc.ownBlock) (ho6 : w6.ownsRow B 22 1 (.slice a6 (C.length + 1) c6) (C.length + 1) (us ++ [.slice (some ⟨g, o, none⟩) l.length cap])) (ha6 : (Value.slice a6 (C.length + 1) c6).ownBlock = vc.ownBlock ∨ (Value.slice a6 (C.length + 1) c6).ownBlock = some (w.alloc obj).heap.size) :
    RM (fun k => if k < w.heap.size then tag k else .clr) B w0 (w6.setCell ⟨bx, 0, none⟩ (.slice a6 (C.length + 1) c6)) bx bw bk (.slice a6 (C.length + 1) c6) vt dn (C ++ [l]) (us ++ [.slice (some ⟨g, o, none⟩) l.length cap]) es Wt K ∧
      Touch (fun k => k = bx ∨ vc.ownBlock = some k) w (w6.setCell ⟨bx, 0, none⟩ (.slice a6 (C.length + 1) c6)) := by
  obtain ⟨a1, a2, a3, a4, a5, a6', a7, a8, a9⟩ := h.apart
  have hT6 : Touch (fun k => k = bx ∨ vc.ownBlock = some k) w w6 := ((Touch.refl (fun k => k = bx ∨ vc.ownBlock = some k) w).alloc obj).grown hg6 fun k hk => .inl (.inr hk)
  have hT : Touch (fun k => k = bx ∨ vc.ownBlock = some k) w (w6.setCell ⟨bx, 0, none⟩ (.slice a6 (C.length + 1) c6)) := hT6.setCell (p := ⟨bx, 0, none⟩) (.inl rfl) _
  have hbl := (Array.getElem?_eq_some_iff.1 h.blk).1
  have hb6 : w6.heap[bx]? = _ := (hg6.block bx (by simp only [size_al]; omega) (fun e => a3 e.symm)).trans ((Below.heap_alloc _ _ _ hbl).trans h.blk)
  have hk : ∀ k, k < w.heap.size → k ≠ bx → vc.ownBlock ≠ some k → (w6.setCell ⟨bx, 0, none⟩ (.slice a6 (C.length + 1) c6)).heap[k]? = w.heap[k]? := fun k hk h1 h2 => hT.block k hk fun q => q.elim h1 h2
  have hlow : ∀ k, (k = bx ∨ vc.ownBlock = some k) → B ≤ k := by
    rintro k (e | e)
    · rw [e]; exact h.bxB
    · exact (h.clr.lt k e).1
  have hsz : w.heap.size ≤ w6.heap.size := hT6.size
  refine ⟨⟨h.bel.trans (hT.below h.le hlow), Nat.le_trans h.le hT.size, h.bxB, h.bwB, h.bkB, h.ne, setCell0 hb6, ?_, fun k hk => ?_, fun t c hc => ?_, own_frame0 h.tr fun k hk' => hk k (h.tr.lt k hk').2 (fun e => a6' (e ▸ hk')) (fun e => a9 k e hk'), fun k hk' => (if_pos (h.tr.lt k hk').2).trans (h.trt k hk'), h.wi.frame (hk bw h.wi.lt (fun e => a1 e.symm) a4), fun a => (h.wr a).frame fun k cu hg hw => ?_, h.kn.frame (hk bk h.kn.lt (fun e => a2 e.symm) a5)⟩, hT⟩
  · have e : (C ++ [l]).length = C.length + 1 := by simp
    rw [e]
    exact own_setO ho6 hb6 (by decide) _ _
  · show (if k < w.heap.size then tag k else RT.clr) = RT.clr
    by_cases hkl : k < w.heap.size
    · rw [if_pos hkl]
      rcases ha6 with e | e
      · exact h.clt k (e ▸ hk)
      · rw [e] at hk
        injection hk with hk
        simp only [size_al] at hk
        omega
    · rw [if_neg hkl]
  · have hul : us.length = C.length := by have := h.clr.1; simpa using this
    by_cases q : t < C.length
    · rw [List.getElem?_append_left q] at hc
      obtain ⟨g2, o2, cap2, cur2, e1, e2, e3, e4, e5⟩ := h.cls t c hc
      obtain ⟨q1, q2, q3, q4⟩ := h.intb e4
      exact ⟨g2, o2, cap2, cur2, by rw [List.getElem?_append_left (by omega)]; exact e1, (if_pos (Array.getElem?_eq_some_iff.1 e4).1).trans e2, e3, (hk g2 (Array.getElem?_eq_some_iff.1 e4).1 q1 q4).trans e4, e5⟩
    · rw [List.getElem?_append_right (by omega)] at hc
      have h2 := (List.getElem?_eq_some_iff.1 hc).1
      simp at h2
      have h3 : t = C.length := by omega
      subst h3
      simp at hc
      subst hc
      obtain ⟨q1, q2, q3, q4⟩ := h.intb hb
      exact ⟨g, o, cap, cur, by rw [List.getElem?_append_right (by omega)]; simp [hul], (if_pos (Array.getElem?_eq_some_iff.1 hb).1).trans htg, hgB, (hk g (Array.getElem?_eq_some_iff.1 hb).1 q1 q4).trans hb, hcur⟩
  · obtain ⟨q1, q2, q3, q4⟩ := h.intb hg
    exact ⟨hk k (Array.getElem?_eq_some_iff.1 hg).1 q1 q4, if_pos (Array.getElem?_eq_some_iff.1 hg).1⟩

end

end Go.Proofs.Ytfmahgobogelkaa.Ord

/- lit.Norm's literals: each literal of the clause once, in their order. -/
namespace Go.Proofs.Ytfmahgobogelkaa
open Go.RowKit

/-- In strictly ascending order. -/
def Asc (l : List Int) : Prop := l.Pairwise (fun a b => lessB a b = true)

theorem asc_ext : ∀ {l1 l2 : List Int}, Asc l1 → Asc l2 → (∀ x, x ∈ l1 ↔ x ∈ l2) → l1 = l2
  | [], [], _, _, _ => rfl
  | [], b :: l2, _, _, h => by have := (h b).2 (by simp); simp at this
  | a :: l1, [], _, _, h => by have := (h a).1 (by simp); simp at this
  | a :: l1, b :: l2, h1, h2, h => by
    have h1' := List.pairwise_cons.1 h1
    have h2' := List.pairwise_cons.1 h2
    have hab : a = b := by
      have ha := (h a).1 (by simp)
      have hb := (h b).2 (by simp)
      rcases List.mem_cons.1 ha with h0 | ha
      · exact h0
      · rcases List.mem_cons.1 hb with h0 | hb
        · exact h0.symm
        · have e1 := h1'.1 b hb
          have e2 := h2'.1 a ha
          rw [lessB_asymm e1] at e2; cases e2
    subst hab
    congr 1
    refine asc_ext h1'.2 h2'.2 fun x => ?_
    have hx := h x
    simp only [List.mem_cons] at hx
    constructor
    · intro hm
      rcases hx.1 (Or.inr hm) with h0 | h0
      · subst h0
        have := h1'.1 x hm
        rw [lessB_irrefl] at this; cases this
      · exact h0
    · intro hm
      rcases hx.2 (Or.inr hm) with h0 | h0
      · subst h0
        have := h2'.1 x hm
        rw [lessB_irrefl] at this; cases this
      · exact h0

theorem mem_mrg_iff {x : Int} : ∀ (l1 l2 : List Int), x ∈ mrg l1 l2 ↔ x ∈ l1 ∨ x ∈ l2 := by
  intro l1 l2
  refine ⟨mem_mrg l1 l2, ?_⟩
  induction l1, l2 using mrg.induct with
  | case1 l2 => rw [mrg_nil_left]; simp
  | case2 a l1 => rw [mrg_nil_right]; simp
  | case3 a l1 b l2 h ih => rw [mrg_cons, if_pos h]; simp only [List.mem_cons] at *; rintro ((h | h) | h) <;> simp_all
  | case4 a l1 b l2 h h2 ih => rw [mrg_cons, if_neg h, if_pos h2]; simp only [List.mem_cons] at *; rintro (h | (h | h)) <;> simp_all
  | case5 a l1 b l2 h h2 ih =>
    rw [mrg_cons, if_neg h, if_neg h2]
    have e : a = b := lessB_tri (by simpa using h) (by simpa using h2)
    subst e
    simp only [List.mem_cons] at *
    rintro ((h | h) | (h | h)) <;> simp_all

theorem asc_mrg : ∀ (l1 l2 : List Int), Asc l1 → Asc l2 → Asc (mrg l1 l2) := by
  intro l1 l2
  induction l1, l2 using mrg.induct with
  | case1 l2 => rw [mrg_nil_left]; exact fun _ h => h
  | case2 a l1 => rw [mrg_nil_right]; exact fun h _ => h
  | case3 a l1 b l2 h ih =>
    intro h1 h2
    have h1' := List.pairwise_cons.1 h1
    have h2' := List.pairwise_cons.1 h2
    rw [mrg_cons, if_pos h]
    refine List.pairwise_cons.2 ⟨fun x hx => ?_, ih h1'.2 h2⟩
    rcases (mem_mrg_iff _ _).1 hx with hx | hx
    · exact h1'.1 x hx
    · rcases List.mem_cons.1 hx with rfl | hx
      · exact h
      · exact lessB_trans h (h2'.1 x hx)
  | case4 a l1 b l2 h h2 ih =>
    intro h1 h2'
    have h1' := List.pairwise_cons.1 h1
    have h3 := List.pairwise_cons.1 h2'
    rw [mrg_cons, if_neg h, if_pos h2]
    refine List.pairwise_cons.2 ⟨fun x hx => ?_, ih h1 h3.2⟩
    rcases (mem_mrg_iff _ _).1 hx with hx | hx
    · rcases List.mem_cons.1 hx with rfl | hx
      · exact h2
      · exact lessB_trans h2 (h1'.1 x hx)
    · exact h3.1 x hx
  | case5 a l1 b l2 h h2 ih =>
    intro h1 h2'
    rw [mrg_cons, if_neg h, if_neg h2]
    exact ih (List.pairwise_cons.1 h1).2 h2'

theorem mem_msort_iff {x : Int} : ∀ (n : Nat) (xs : List Int), x ∈ msort n xs ↔ x ∈ xs := by
  intro n
  induction n with
  | zero => intro xs; exact Iff.rfl
  | succ n ih =>
    intro xs
    rw [msort]
    split
    · exact Iff.rfl
    · rw [mem_mrg_iff, ih, ih, ← List.mem_append, List.take_append_drop]

theorem asc_msort : ∀ (n : Nat) (xs : List Int), xs.length ≤ n → Asc (msort n xs) := by
  intro n
  induction n with
  | zero =>
    intro xs h
    have : xs = [] := List.eq_nil_of_length_eq_zero (by omega)
    subst this
    exact List.Pairwise.nil
  | succ n ih =>
    intro xs h
    rw [msort]
    split
    · match xs with
      | [] => exact List.Pairwise.nil
      | [x] => exact List.pairwise_singleton _ _
      | x :: y :: l => simp at *; omega
    · exact asc_mrg _ _ (ih _ (by simp; omega)) (ih _ (by simp; omega))

theorem asc_normL (xs : List Int) : Asc (normL xs) := by
  have h := asc_msort xs.length xs (Nat.le_refl _)
  unfold normL
  split
  · exact List.Pairwise.sublist (List.tail_sublist _) h
  · exact h

theorem mem_normL_iff {x : Int} {xs : List Int} : x ∈ normL xs ↔ x ∈ xs ∧ x ≠ 0 := by
  have h := asc_msort xs.length xs (Nat.le_refl _)
  have hm := fun x => @mem_msort_iff x xs.length xs
  unfold normL
  generalize msort xs.length xs = L at *
  cases L with
  | nil => simp at hm ⊢; simp [hm]
  | cons a l =>
    have hp := List.pairwise_cons.1 h
    have hnot : ∀ y ∈ l, y ≠ 0 := fun y hy e => by
      have := hp.1 y hy
      subst e
      simp [lessB] at this; omega
    by_cases ha : a = 0
    · subst ha
      simp only [List.head?_cons, List.tail_cons, if_true]
      rw [← hm, List.mem_cons]
      constructor
      · exact fun h => ⟨Or.inr h, hnot x h⟩
      · rintro ⟨h | h, hx⟩
        · exact (hx h).elim
        · exact h
    · simp only [List.head?_cons, Option.some.injEq, ha, if_false]
      rw [← hm]
      refine ⟨fun h => ⟨h, ?_⟩, fun h => h.1⟩
      rcases List.mem_cons.1 h with rfl | h
      · exact ha
      · exact hnot x h

theorem asc_get {l : List Int} (h : Asc l) {i j : Nat} {x y : Int} (hij : i < j) (hx : l[i]? = some x) (hy : l[j]? = some y) : lessB x y = true := by
  obtain ⟨hi, rfl⟩ := List.getElem?_eq_some_iff.1 hx
  obtain ⟨hj, rfl⟩ := List.getElem?_eq_some_iff.1 hy
  exact List.pairwise_iff_getElem.1 h i j hi hj hij

/-- Two neighbours are a literal and its negative exactly if some literal stands beside its negative. -/
theorem adjB_iff {l : List Int} (h : Asc l) (h0 : ∀ x ∈ l, x ≠ 0) : adjB l = true ↔ ∃ x ∈ l, -x ∈ l := by
  constructor
  · intro ha
    rw [adjB, List.any_eq_true] at ha
    obtain ⟨i, hi, hp⟩ := ha
    simp only [adjAt, Bool.and_eq_true, decide_eq_true_eq, beq_iff_eq] at hp
    have hi' : i < l.length := List.mem_range.1 hi
    have h1 : l[i]? = some l[i] := by simp [hi']
    have h2 : l[i - 1]? = some l[i - 1] := by simp
    have hl := asc_get h (show i - 1 < i by omega) h2 h1
    have e1 : l.getD i 0 = l[i] := by simp [hi']
    have e2 : l.getD (i - 1) 0 = l[i - 1] := by rw [List.getD_eq_getElem?_getD, h2]; rfl
    rw [e1, e2] at hp
    refine ⟨l[i], by simp, ?_⟩
    have : -l[i] = l[i - 1] := by
      have h3 := (lessB_iff _ _).1 hl
      omega
    rw [this]; simp
  · rintro ⟨x, hx, hnx⟩
    have hx0 := h0 x hx
    obtain ⟨i, hi, hi'⟩ := List.getElem_of_mem hx
    obtain ⟨j, hj, hj'⟩ := List.getElem_of_mem hnx
    have key : ∀ i j, (hi : i < l.length) → (hj : j < l.length) → l[i].natAbs = l[j].natAbs → i < j → j = i + 1 := by
      intro i j hi hj he hij
      rcases Nat.lt_or_ge (i + 1) j with hlt | hge
      · exfalso
        have a1 := asc_get h (show i < i + 1 by omega) (x := l[i]) (y := l[i + 1]) (by simp [hi]) (by simp)
        have a2 := asc_get h hlt (x := l[i + 1]) (y := l[j]) (by simp) (by simp [hj])
        rw [lessB_iff] at a1 a2
        omega
      · omega
    have hne : i ≠ j := by
      intro e; subst e; rw [hi'] at hj'; omega
    rcases Nat.lt_or_gt_of_ne hne with hlt | hlt
    · have := key i j hi hj (by rw [hi', hj']; omega) hlt
      subst this
      exact adjB_of (j := i) (x := -x) (y := x) (by simp [← hj', hj]) (by simp [← hi', hi]) (by simp)
    · have := key j i hj hi (by rw [hi', hj']; omega) hlt
      subst this
      exact adjB_of (j := j) (x := x) (y := -x) (by simp [← hi', hi]) (by simp [← hj', hj]) (by simp)

/-- Another clause with the same literals has the same ones. -/
theorem normL_congr {xs ys : List Int} (h : ∀ x, x ≠ 0 → (x ∈ xs ↔ x ∈ ys)) : normL xs = normL ys :=
  asc_ext (asc_normL _) (asc_normL _) fun x => by
    rw [mem_normL_iff, mem_normL_iff]
    exact ⟨fun ⟨a, b⟩ => ⟨(h x b).1 a, b⟩, fun ⟨a, b⟩ => ⟨(h x b).2 a, b⟩⟩

end Go.Proofs.Ytfmahgobogelkaa

/- Plain facts for the law LitNormal: the clause in another order. -/
namespace Go.Proofs.Ytfmahgobogelkaa
open Go.RowKit

theorem mem_normV_iff {x : Int} {xs : List Int} (h : adjB (normL xs) = false) : x ∈ normV xs ↔ x ∈ xs ∧ x ≠ 0 := by
  rw [normV_false h, mem_normL_iff]

theorem asc_normV (xs : List Int) : Asc (normV xs) := by
  unfold normV
  split
  · exact List.Pairwise.nil
  · exact asc_normL xs

/-- Neighbours of Norm's literals: in order, and no literal beside its negative. -/
theorem normV_next {xs : List Int} {i : Nat} {u v : Int} (hu : (normV xs)[i]? = some u) (hv : (normV xs)[i + 1]? = some v) : lessB u v = true ∧ u.natAbs ≠ v.natAbs := by
  have h1 := asc_get (asc_normV xs) (show i < i + 1 by omega) hu hv
  refine ⟨h1, fun e => ?_⟩
  cases hr : adjB (normL xs) with
  | true => rw [normV_true hr] at hu; simp at hu
  | false =>
    rw [normV_false hr] at hu hv
    rw [adjB_of hv hu (by simp; omega)] at hr; cases hr

theorem normV_adj (xs : List Int) : adjB (normV xs) = false := by
  cases hr : adjB (normL xs) with
  | true => rw [normV_true hr]; rfl
  | false => rw [normV_false hr]; exact hr

theorem normL_normV (xs : List Int) : normL (normV xs) = normV xs := by
  refine asc_ext (asc_normL _) (asc_normV _) fun x => ?_
  rw [mem_normL_iff]
  refine ⟨fun h => h.1, fun h => ⟨h, ?_⟩⟩
  cases hr : adjB (normL xs) with
  | true => rw [normV_true hr] at h; simp at h
  | false => rw [normV_false hr] at h; exact (mem_normL_iff.1 h).2

theorem normV_normV (xs : List Int) : normV (normV xs) = normV xs := by
  have h := normV_adj xs
  rw [← normL_normV xs] at h
  rw [normV_false h, normL_normV]

theorem adj_normV (xs : List Int) : adjB (normL (normV xs)) = false := by rw [normL_normV]; exact normV_adj xs

/-- What a round adds. -/
def otherAt (c : List Int) (t i : Nat) : List Int :=
  c.getD ((c.length - 1 - i + t) % c.length) 0 :: if i % 3 = 1 then [c.getD i 0] else []

/-- The clause in another order. -/
def otherL (c : List Int) (t k : Nat) : List Int := (List.range k).flatMap (otherAt c t)

theorem otherL_succ (c : List Int) (t k : Nat) : otherL c t (k + 1) = otherL c t k ++ otherAt c t k := by
  simp [otherL, List.range_succ]

theorem otherL_length (c : List Int) (t : Nat) : ∀ k, (otherL c t k).length ≤ 2 * k
  | 0 => by simp [otherL]
  | k + 1 => by
    have := otherL_length c t k
    rw [otherL_succ, List.length_append]
    have h2 : (otherAt c t k).length ≤ 2 := by unfold otherAt; split <;> simp
    omega

theorem mem_otherAt {c : List Int} {t i : Nat} {x : Int} (hi : i < c.length) (h : x ∈ otherAt c t i) : x ∈ c := by
  have hm : (c.length - 1 - i + t) % c.length < c.length := Nat.mod_lt _ (by omega)
  unfold otherAt at h
  rcases List.mem_cons.1 h with h | h
  · subst h
    rw [List.getD_eq_getElem?_getD, List.getElem?_eq_getElem hm]
    simp
  · split at h
    · simp at h; subst h
      rw [List.getElem?_eq_getElem hi]; simp
    · simp at h

theorem mem_otherL_le {c : List Int} {t k : Nat} {x : Int} (hk : k ≤ c.length) (h : x ∈ otherL c t k) : x ∈ c := by
  simp only [otherL, List.mem_flatMap, List.mem_range] at h
  obtain ⟨i, hi, hx⟩ := h
  exact mem_otherAt (by omega) hx

theorem mem_otherL {c : List Int} {t : Nat} {x : Int} : x ∈ otherL c t c.length ↔ x ∈ c := by
  refine ⟨mem_otherL_le (Nat.le_refl _), fun h => ?_⟩
  obtain ⟨j, hj, rfl⟩ := List.getElem_of_mem h
  simp only [otherL, List.mem_flatMap, List.mem_range]
  have hn : 0 < c.length := by omega
  refine ⟨(c.length - 1 - j + t) % c.length, Nat.mod_lt _ hn, ?_⟩
  have key : (c.length - 1 - (c.length - 1 - j + t) % c.length + t) % c.length = j := by
    obtain ⟨q, hq⟩ : ∃ q, c.length - 1 - j + t = c.length * q + (c.length - 1 - j + t) % c.length := ⟨(c.length - 1 - j + t) / c.length, (Nat.div_add_mod _ _).symm⟩
    have hlt : (c.length - 1 - j + t) % c.length < c.length := Nat.mod_lt _ hn
    generalize (c.length - 1 - j + t) % c.length = r at *
    have e : c.length - 1 - r + t = j + c.length * q := by omega
    rw [e, Nat.add_mul_mod_self_left, Nat.mod_eq_of_lt hj]
  unfold otherAt
  rw [key]
  simp [hj]

theorem normL_other (c : List Int) (t : Nat) : normL (otherL c t c.length) = normL c := normL_congr fun _ _ => mem_otherL

theorem normV_other (c : List Int) (t : Nat) : normV (otherL c t c.length) = normV c := by unfold normV; rw [normL_other]

theorem any_eq_of_mem {l : List Int} {x : Int} (h : x ∈ l) : l.any (fun y => y == x) = true := List.any_eq_true.2 ⟨x, h, by simp⟩

end Go.Proofs.Ytfmahgobogelkaa

/- Plain definitions: what weepholelaw02.Fit makes. -/
namespace Go.Proofs.Ytfmahgobogelkaa
open Go.RowKit

/-- The number of variables. -/
def fitV (n : Int) : Int := 1 + n % 12

/-- A clause. -/
def fitC (V : Int) (c : List Int) : List Int := (c.map (fun x => x.tmod (V + 1))).filter (fun x => x != 0)

/-- The clauses. -/
def fitF (n : Int) (l : List (List Int)) : List (List Int) := l.map (fitC (fitV n))

/-- Whether they are few enough. -/
def fitB (l : List (List Int)) : Bool := decide (l.length ≤ 30) && !(l.any (fun c => decide (20 < c.length)))

theorem fitC_step_zero {V x : Int} {c : List Int} {k : Nat} (hx : c[k]? = some x) (h : x.tmod (V + 1) = 0) : fitC V (c.take (k + 1)) = fitC V (c.take k) := by
  simp [fitC, List.take_add_one, hx, h]

theorem fitC_step {V x : Int} {c : List Int} {k : Nat} (hx : c[k]? = some x) (h : x.tmod (V + 1) ≠ 0) : fitC V (c.take (k + 1)) = fitC V (c.take k) ++ [x.tmod (V + 1)] := by
  simp [fitC, List.take_add_one, hx, h]

theorem fitC_length (V : Int) (c : List Int) : (fitC V c).length ≤ c.length := by
  have := List.length_filter_le (fun x : Int => x != 0) (c.map (fun x => x.tmod (V + 1)))
  simpa [fitC] using this

theorem fitF_step {V : Int} {l : List (List Int)} {c : List Int} {k : Nat} (hc : l[k]? = some c) : (l.take (k + 1)).map (fitC V) = (l.take k).map (fitC V) ++ [fitC V c] := by
  simp [List.take_add_one, hc]

theorem fitV_range (n : Int) : 1 ≤ fitV n ∧ fitV n ≤ 12 := by unfold fitV; omega

theorem mem_fitC {V x : Int} {c : List Int} (hV : 1 ≤ V) (h : x ∈ fitC V c) : x ≠ 0 ∧ -V ≤ x ∧ x ≤ V := by
  simp only [fitC, List.mem_filter, List.mem_map, bne_iff_ne, ne_eq] at h
  obtain ⟨⟨y, _, rfl⟩, h0⟩ := h
  refine ⟨h0, ?_⟩
  have h1 := Int.natAbs_tmod y (V + 1)
  have h2 : y.natAbs % (V + 1).natAbs < (V + 1).natAbs := Nat.mod_lt _ (by omega)
  rw [← h1] at h2
  omega

theorem fitB_false_at {l : List (List Int)} {k : Nat} {c : List Int} (hc : l[k]? = some c) (h : (20 : Int) < c.length) : fitB l = false := by
  have : l.any (fun c => decide (20 < c.length)) = true := any_of_get hc (by simp; omega)
  simp [fitB, this]
theorem fitB_false_long {l : List (List Int)} (h : (30 : Int) < l.length) : fitB l = false := by
  have : ¬ l.length ≤ 30 := by omega
  simp [fitB, this]
theorem fitB_true {l : List (List Int)} {k : Nat} (h : (l.length : Int) ≤ 30) (hk : ¬ k < l.length) (hr : (l.take k).any (fun c => decide (20 < c.length)) = false) : fitB l = true := by
  rw [List.take_of_length_le (by omega)] at hr
  have : l.length ≤ 30 := by omega
  simp only [fitB, hr, this]; rfl

end Go.Proofs.Ytfmahgobogelkaa

/- Plain facts for the law LitMeans: a clause holds exactly if what Norm makes of it does. -/
namespace Go.Proofs.Ytfmahgobogelkaa
open Go.RowKit

theorem holdsB_congr {m : List Bool} {c d : List Int} (h : ∀ x, x ≠ 0 → (x ∈ c ↔ x ∈ d)) : holdsB m c = holdsB m d := by
  rw [Bool.eq_iff_iff]
  simp only [holdsB, List.any_eq_true]
  constructor
  · rintro ⟨x, hx, hh⟩
    by_cases h0 : x = 0
    · rw [litHolds_zero h0] at hh; cases hh
    · exact ⟨x, (h x h0).1 hx, hh⟩
  · rintro ⟨x, hx, hh⟩
    by_cases h0 : x = 0
    · rw [litHolds_zero h0] at hh; cases hh
    · exact ⟨x, (h x h0).2 hx, hh⟩

theorem holdsB_normL (m : List Bool) (c : List Int) : holdsB m (normL c) = holdsB m c :=
  holdsB_congr fun x h0 => by rw [mem_normL_iff]; exact ⟨fun h => h.1, fun h => ⟨h, h0⟩⟩

theorem adjB_normL_iff {c : List Int} : adjB (normL c) = true ↔ ∃ x ∈ c, x ≠ 0 ∧ -x ∈ c := by
  rw [adjB_iff (asc_normL c) (fun x hx => (mem_normL_iff.1 hx).2)]
  constructor
  · rintro ⟨x, hx, hn⟩
    rw [mem_normL_iff] at hx hn
    exact ⟨x, hx.1, hx.2, hn.1⟩
  · rintro ⟨x, hx, h0, hn⟩
    exact ⟨x, mem_normL_iff.2 ⟨hx, h0⟩, mem_normL_iff.2 ⟨hn, by omega⟩⟩

/-- A clause of the model's variables holds exactly if it always does or what Norm returns does. -/
theorem holds_means {m : List Bool} {c : List Int} (h : ∀ x ∈ c, x ≠ 0 ∧ x.natAbs ≤ m.length) : holdsB m c = (adjB (normL c) || holdsB m (normV c)) := by
  cases hr : adjB (normL c) with
  | false => rw [normV_false hr, holdsB_normL]; rfl
  | true =>
    obtain ⟨x, hx, h0, hn⟩ := adjB_normL_iff.1 hr
    have h1 := litHolds_or m x
    rw [decide_eq_true (⟨by omega, (h x hx).2⟩ : 1 ≤ x.natAbs ∧ x.natAbs ≤ m.length)] at h1
    have : holdsB m c = true := by
      simp only [holdsB, List.any_eq_true]
      rcases Bool.or_eq_true_iff.1 h1 with h1 | h1
      · exact ⟨x, hx, h1⟩
      · exact ⟨-x, hn, h1⟩
    rw [this]; rfl

theorem holds_empty {m : List Bool} {c : List Int} (hr : adjB (normL c) = false) (he : (normV c).length = 0) : holdsB m c = false := by
  rw [← holdsB_normL, ← normV_false hr, List.eq_nil_of_length_eq_zero he]; rfl

theorem bools_set (bs : List Bool) (k : Nat) (b : Bool) : (bools bs).set k (.bool b) = bools (bs.set k b) := by simp [bools, List.map_set]

theorem madeBools (n : Nat) : (madeCells (Value.bool false).cells (n * 1)).toList = bools (List.replicate n false) := by
  simp only [madeCells, Value.cells, Nat.mul_one, Array.toList_map, Array.toList_range, bools]
  refine List.ext_getElem? fun i => ?_
  by_cases hi : i < n
  · simp [hi, Nat.mod_one]
  · simp [hi]

end Go.Proofs.Ytfmahgobogelkaa

/- Plain facts about rup's base between two calls. -/
namespace Go.Proofs.Ytfmahgobogelkaa.Ord

/-- Each clause of F is among C up to order, or always holds, or one of its literals is known. -/
def All (F C : List (List Int)) (K : List Int) : Prop := ∀ f ∈ F, Taut f ∨ (∃ d ∈ C, ∀ l, l ∈ d ↔ l ∈ f) ∨ ∃ l ∈ f, l ∈ K

/-- The base between two calls, where nothing has failed. -/
structure Top (n : Nat) (F C : List (List Int)) (Wt : Int → List Nat) (K : List Int) : Prop where
  wi : WI n C Wt
  bp : PrB C K
  cons : ∀ x ∈ K, -x ∉ K
  nod : K.Nodup
  kok : ∀ x ∈ K, LitOk n x
  snd : ∀ x ∈ K, Der F [] x
  sub : ∀ c ∈ C, ∃ f ∈ F, ∀ l, l ∈ c ↔ l ∈ f
  all : All F C K

theorem All.mono {F C C' : List (List Int)} {K K' : List Int} (h : All F C K) (hC : ∀ d ∈ C, ∃ e ∈ C', ∀ l, l ∈ e ↔ l ∈ d) (hK : ∀ x ∈ K, x ∈ K') : All F C' K' := fun f hf => by
  rcases h f hf with h1 | ⟨d, hd, hl⟩ | ⟨l, hl, hk⟩
  · exact .inl h1
  · obtain ⟨e, he, hle⟩ := hC d hd
    exact .inr (.inl ⟨e, he, fun l => (hle l).trans (hl l)⟩)
  · exact .inr (.inr ⟨l, hl, hK l hk⟩)

theorem All.app {F C : List (List Int)} {K c : List Int} (h : All F C K) (hc : Taut c ∨ (∃ d ∈ C, ∀ l, l ∈ d ↔ l ∈ c) ∨ ∃ l ∈ c, l ∈ K) : All (F ++ [c]) C K := fun f hf => by
  rcases List.mem_append.1 hf with q | q
  · exact h f q
  · rw [List.mem_singleton.1 q]; exact hc

section
variable {n : Nat} {F C C' : List (List Int)} {Wt Wt' : Int → List Nat} {K K' K0 A : List Int}

/-- The base before clauses are gone through under assumptions. -/
theorem Top.start (h : Top n F C Wt K) {R : List Int} (hK : K' = K ++ R) (hcons : ∀ x ∈ K', -x ∉ K') (hnod : K'.Nodup) (hkok : ∀ x ∈ K', LitOk n x) (hA : ∀ x ∈ R, x ∈ A) : RI n F A C Wt K' K K.length := by
  subst hK
  refine ⟨h.wi, fun t c x y ht hx hy => ?_, h.bp, fun x hx => List.mem_append_left _ hx, hcons, hnod, hkok, fun x hx => ?_, h.sub, by simp⟩
  · rw [List.take_left]
    have h0 := h.bp t c x y ht hx hy
    have hcm := h.wi.cls c (List.mem_of_getElem? ht)
    have hx0 := (hcm.2.2.1 x (List.mem_of_getElem? hx)).1
    have hy0 := (hcm.2.2.1 y (List.mem_of_getElem? hy)).1
    exact ⟨fun hh => List.mem_append_left _ (h0.1 (hh.elim id fun q => absurd q.1 hx0)), fun hh => List.mem_append_left _ (h0.2 (hh.elim id fun q => absurd q.1 hy0))⟩
  · rcases List.mem_append.1 hx with q | q
    · exact der_mono (sub_of_subset fun c hc => hc) (fun a ha => by simp at ha) (h.snd x q)
    · exact .asm (hA x q)

/-- Where all is gone through, K is what follows. -/
theorem RI.done (h : RI n F A C Wt K K0 K.length) (hF : ClsOk n F) (ha : All F C K) (hA : ∀ x ∈ A, x ∈ K) : Closed F A K := by
  have hcl := h.closed
  have key : ∀ f ∈ F, (∃ l ∈ f, -l ∉ K) ∧ ∀ l ∈ f, (∀ m ∈ f, m ≠ l → -m ∈ K) → l ∈ K := fun f hf => by
    rcases ha f hf with ⟨x, hx, hnx⟩ | ⟨d, hd, hl⟩ | ⟨l, hl, hk⟩
    · refine ⟨?_, fun l hl hall => ?_⟩
      · by_cases q : -x ∈ K
        · exact ⟨-x, hnx, fun p => h.cons _ q (by rw [Int.neg_neg] at p ⊢; exact p)⟩
        · exact ⟨x, hx, q⟩
      · by_cases q1 : x = l
        · by_cases q2 : -x = l
          · have := (hF f hf x hx).1
            omega
          · have := hall (-x) hnx q2
            rw [Int.neg_neg] at this
            rw [← q1]; exact this
        · have h1 := hall x hx q1
          by_cases q2 : -x = l
          · rw [← q2]; exact h1
          · have h2 := hall (-x) hnx q2
            rw [Int.neg_neg] at h2
            exact absurd h1 (h.cons x h2)
    · obtain ⟨⟨l, h1, h2⟩, h3⟩ := hcl d hd
      exact ⟨⟨l, (hl l).1 h1, h2⟩, fun l hlf hall => h3 l ((hl l).2 hlf) fun m hm hne => hall m ((hl m).1 hm) hne⟩
    · refine ⟨⟨l, hl, h.cons l hk⟩, fun l' _ hall => ?_⟩
      by_cases q : l = l'
      · rw [← q]; exact hk
      · exact absurd (hall l hl q) (h.cons l hk)
  exact ⟨h.snd, hA, h.cons, fun c hc l hl => (key c hc).2 l hl, fun c hc => (key c hc).1⟩

/-- The base behind a clause that was added. -/
theorem RI.top (h : RI n F [] C Wt K K0 K.length) (ha : All F C K) : Top n F C Wt K := by
  refine ⟨h.wi, fun t c x y ht hx hy => ?_, h.cons, h.nod, h.kok, h.snd, h.sub, ha⟩
  have h0 := h.pr t c x y ht hx hy
  rw [List.take_of_length_le (Nat.le_refl _)] at h0
  exact ⟨fun q => h0.1 (.inl q), fun q => h0.2 (.inl q)⟩

theorem Top.taut (h : Top n F C Wt K) {c : List Int} (hc : Taut c) : Top n (F ++ [c]) C Wt K :=
  ⟨h.wi, h.bp, h.cons, h.nod, h.kok, fun x hx => der_mono (sub_of_subset fun _ hd => List.mem_append_left _ hd) (fun _ ha => ha) (h.snd x hx), fun d hd => let ⟨f, hf, hl⟩ := h.sub d hd; ⟨f, List.mem_append_left _ hf, hl⟩, h.all.app (.inl hc)⟩

end

/-- A clause's literals while two that are not false are brought to its head: j are looked at, p brought. -/
structure OI (K ys l : List Int) (p j : Nat) : Prop where
  same : Same ys l
  p2 : p ≤ 2
  pj : p ≤ j
  fst : ∀ (t : Nat) (x : Int), t < p → l[t]? = some x → -x ∉ K
  rest : p < 2 → ∀ (t : Nat) (x : Int), p ≤ t → t < j → l[t]? = some x → -x ∈ K

section
variable {K ys l : List Int} {p j : Nat} {x : Int}

theorem OI.start (K : List Int) {ys : List Int} (h : ys.Nodup) : OI K ys ys 0 0 := ⟨⟨rfl, h, fun _ => Iff.rfl⟩, by omega, by omega, fun t x ht => by omega, fun _ t x _ ht => by omega⟩

theorem OI.skip (h : OI K ys l p j) (hx : l[j]? = some x) (hk : -x ∈ K ∨ ¬ p < 2) : OI K ys l p (j + 1) :=
  ⟨h.same, h.p2, by have := h.pj; omega, h.fst, fun hp t y h1 h2 hy => by
    by_cases q : t < j
    · exact h.rest hp t y h1 q hy
    · have : t = j := by omega
      subst this
      rw [hx] at hy
      injection hy with hy
      rw [← hy]
      exact hk.resolve_right (fun q => q hp)⟩

theorem OI.take (h : OI K ys l p j) (hx : l[j]? = some x) (hk : -x ∉ K) (hp : p < 2) : OI K ys (swapL l p j) (p + 1) (j + 1) := by
  have hj := (List.getElem?_eq_some_iff.1 hx).1
  have hpj := h.pj
  refine ⟨?_, by omega, by omega, fun t y ht hy => ?_, fun hp2 t y h1 h2 hy => ?_⟩
  · have := same_swap (c := l) (j := p) (k := j) (by omega) hj h.same.2.1
    exact ⟨this.1.trans h.same.1, this.2.1, fun z => (this.2.2 z).trans (h.same.2.2 z)⟩
  · rw [swapL_get (by omega) hj] at hy
    by_cases q1 : t = j
    · rw [if_pos q1] at hy
      have : p = j := by omega
      rw [this, hx] at hy
      injection hy with hy
      rw [← hy]; exact hk
    · rw [if_neg q1] at hy
      by_cases q2 : t = p
      · rw [if_pos q2, hx] at hy
        injection hy with hy
        rw [← hy]; exact hk
      · rw [if_neg q2] at hy
        exact h.fst t y (by omega) hy
  · rw [swapL_get (by omega) hj] at hy
    by_cases q1 : t = j
    · rw [if_pos q1] at hy
      exact h.rest hp p y (Nat.le_refl _) (by omega) hy
    · rw [if_neg q1, if_neg (by omega)] at hy
      exact h.rest hp t y (by omega) (by omega) hy

theorem OI.none (h : OI K ys l 0 j) (hj : l.length ≤ j) : ∀ x ∈ ys, -x ∈ K := fun x hx => by
  obtain ⟨t, ht⟩ := List.mem_iff_getElem?.1 ((h.same.2.2 x).2 hx)
  have := (List.getElem?_eq_some_iff.1 ht).1
  exact h.rest (by omega) t x (by omega) (by omega) ht

theorem OI.one (h : OI K ys l 1 j) (hj : l.length ≤ j) {x0 : Int} (h0 : l[0]? = some x0) : -x0 ∉ K ∧ ∀ x ∈ ys, x ≠ x0 → -x ∈ K := by
  refine ⟨h.fst 0 x0 (by omega) h0, fun x hx hne => ?_⟩
  obtain ⟨t, ht⟩ := List.mem_iff_getElem?.1 ((h.same.2.2 x).2 hx)
  have := (List.getElem?_eq_some_iff.1 ht).1
  match t, ht with
  | 0, ht => rw [h0] at ht; injection ht with ht; exact absurd ht.symm hne
  | t + 1, ht => exact h.rest (by omega) (t + 1) x (by omega) (by omega) ht

end

section
variable {n : Nat} {F C : List (List Int)} {Wt Wt' : Int → List Nat} {K K1 c l : List Int} {x0 x1 : Int}

/-- What is known behind a set. -/
structure KX (n : Nat) (F : List (List Int)) (K K1 : List Int) : Prop where
  pre : ∃ R, K1 = K ++ R
  cons : ∀ x ∈ K1, -x ∉ K1
  nod : K1.Nodup
  kok : ∀ x ∈ K1, LitOk n x
  snd : ∀ x ∈ K1, Der F [] x

theorem Top.kx (h : Top n F C Wt K) (c : List Int) : KX n (F ++ [c]) K K := ⟨⟨[], by simp⟩, h.cons, h.nod, h.kok, fun x hx => der_mono (sub_of_subset fun _ hd => List.mem_append_left _ hd) (fun _ ha => ha) (h.snd x hx)⟩

theorem KX.one (h : KX n F K K1) (h0 : x0 ∉ K1) (hn : -x0 ∉ K1) (hok : LitOk n x0) (hd : Der F [] x0) : KX n F K (K1 ++ [x0]) := by
  refine ⟨let ⟨R, hR⟩ := h.pre; ⟨R ++ [x0], by rw [hR, List.append_assoc]⟩, fun x hx hm => ?_, ?_, fun x hx => ?_, fun x hx => ?_⟩
  · rcases List.mem_append.1 hx with q | q <;> rcases List.mem_append.1 hm with p | p
    · exact h.cons x q p
    · have e : -x = x0 := by simpa using p
      exact hn (by rw [← e, Int.neg_neg]; exact q)
    · have e : x = x0 := by simpa using q
      exact hn (by rw [← e]; exact p)
    · have e1 : x = x0 := by simpa using q
      have e2 : -x = x0 := by simpa using p
      have := hok.1
      omega
  · exact List.nodup_append.2 ⟨h.nod, by simp, fun x hx y hy => by
      have : y = x0 := by simpa using hy
      rintro rfl
      exact h0 (this ▸ hx)⟩
  · rcases List.mem_append.1 hx with q | q
    · exact h.kok x q
    · have : x = x0 := by simpa using q
      rw [this]; exact hok
  · rcases List.mem_append.1 hx with q | q
    · exact h.snd x q
    · have : x = x0 := by simpa using q
      rw [this]; exact hd

/-- The base before a clause of one literal is gone through. -/
theorem Top.single (h : Top n F C Wt K) (hk : KX n (F ++ [c]) K K1) (h0 : x0 ∈ c) (hm : x0 ∈ K1) : RI n (F ++ [c]) [] C Wt K1 [] K.length ∧ All (F ++ [c]) C K1 := by
  obtain ⟨R, hR⟩ := hk.pre
  subst hR
  refine ⟨⟨h.wi, fun t d x y ht hx hy => ?_, fun t d x y _ _ _ => ⟨fun q => by simp at q, fun q => by simp at q⟩, fun x hx => by simp at hx, hk.cons, hk.nod, hk.kok, hk.snd, fun d hd => let ⟨f, hf, hl⟩ := h.sub d hd; ⟨f, List.mem_append_left _ hf, hl⟩, by simp⟩, (h.all.mono (fun d hd => ⟨d, hd, fun _ => Iff.rfl⟩) fun x hx => List.mem_append_left _ hx).app (.inr (.inr ⟨x0, h0, hm⟩))⟩
  rw [List.take_left]
  have h0 := h.bp t d x y ht hx hy
  have hcm := h.wi.cls d (List.mem_of_getElem? ht)
  have hx0 := (hcm.2.2.1 x (List.mem_of_getElem? hx)).1
  have hy0 := (hcm.2.2.1 y (List.mem_of_getElem? hy)).1
  exact ⟨fun hh => List.mem_append_left _ (h0.1 (hh.elim id fun q => absurd q.1 hx0)), fun hh => List.mem_append_left _ (h0.2 (hh.elim id fun q => absurd q.1 hy0))⟩

/-- The base before a clause of more literals is gone through. -/
theorem Top.push (h : Top n F C Wt K) (hk : KX n (F ++ [c]) K K1) (hl2 : 2 ≤ l.length) (hnd : l.Nodup) (hok : ∀ x ∈ l, LitOk n x) (hop : ∀ x ∈ l, -x ∉ l) (hlc : ∀ x, x ∈ l ↔ x ∈ c) (h0 : l[0]? = some x0) (h1 : l[1]? = some x1) (hn0 : -x0 ∉ K) (hn1 : -x1 ∉ K ∨ x0 ∈ K1)
    (hw : ∀ b, Wt' b = if b = x0 ∨ b = x1 then Wt b ++ [C.length] else Wt b) : RI n (F ++ [c]) [] (C ++ [l]) Wt' K1 [] K.length ∧ All (F ++ [c]) (C ++ [l]) K1 := by
  obtain ⟨R, hR⟩ := hk.pre
  subst hR
  have hget : ∀ (t : Nat) (d : List Int), (C ++ [l])[t]? = some d → (t < C.length ∧ C[t]? = some d) ∨ (t = C.length ∧ d = l) := fun t d ht => by
    by_cases q : t < C.length
    · rw [List.getElem?_append_left q] at ht; exact .inl ⟨q, ht⟩
    · rw [List.getElem?_append_right (by omega)] at ht
      have h2 := (List.getElem?_eq_some_iff.1 ht).1
      simp at h2
      have h3 : t = C.length := by omega
      subst h3
      simp at ht
      exact .inr ⟨rfl, ht.symm⟩
  refine ⟨⟨⟨fun d hd => ?_, fun t d b ht => ?_, fun b t ht => ?_⟩, fun t d x y ht hx hy => ?_, fun t d x y _ _ _ => ⟨fun q => by simp at q, fun q => by simp at q⟩, fun x hx => by simp at hx, hk.cons, hk.nod, hk.kok, hk.snd, fun d hd => ?_, by simp⟩, ?_⟩
  · rcases List.mem_append.1 hd with q | q
    · exact h.wi.cls d q
    · rw [List.mem_singleton.1 q]; exact ⟨hl2, hnd, hok, hop⟩
  · rw [hw b]
    rcases hget t d ht with ⟨q1, q2⟩ | ⟨q1, q2⟩
    · have h3 := h.wi.cnt t d b q2
      split
      · rw [List.count_append, h3]
        have : ([C.length] : List Nat).count t = 0 := by rw [List.count_singleton]; simp; omega
        omega
      · exact h3
    · subst q1 q2
      have h3 : (Wt b).count C.length = 0 := List.count_eq_zero.2 fun q => by have := h.wi.lt b _ q; omega
      have h4 : (d[0]? = some b ∨ d[1]? = some b) ↔ (b = x0 ∨ b = x1) := by
        rw [h0, h1]
        constructor
        · rintro (q | q)
          · injection q with q; exact .inl q.symm
          · injection q with q; exact .inr q.symm
        · rintro (q | q)
          · exact .inl (by rw [q])
          · exact .inr (by rw [q])
      by_cases q : b = x0 ∨ b = x1
      · rw [if_pos q, if_pos (h4.2 q), List.count_append, h3]
        simp
      · rw [if_neg q, if_neg (fun p => q (h4.1 p)), h3]
  · rw [hw b] at ht
    rw [List.length_append]
    split at ht
    · rcases List.mem_append.1 ht with q | q
      · have := h.wi.lt b t q; omega
      · rw [List.mem_singleton.1 q]; simp
    · have := h.wi.lt b t ht; omega
  · rw [List.take_left]
    rcases hget t d ht with ⟨q1, q2⟩ | ⟨q1, q2⟩
    · have h0 := h.bp t d x y q2 hx hy
      have hcm := h.wi.cls d (List.mem_of_getElem? q2)
      have hx0 := (hcm.2.2.1 x (List.mem_of_getElem? hx)).1
      have hy0 := (hcm.2.2.1 y (List.mem_of_getElem? hy)).1
      exact ⟨fun hh => List.mem_append_left _ (h0.1 (hh.elim id fun q => absurd q.1 hx0)), fun hh => List.mem_append_left _ (h0.2 (hh.elim id fun q => absurd q.1 hy0))⟩
    · subst q2
      rw [h0] at hx
      rw [h1] at hy
      injection hx with hx
      injection hy with hy
      subst hx hy
      have hx0 := (hok x0 (List.mem_of_getElem? h0)).1
      have hy0 := (hok x1 (List.mem_of_getElem? h1)).1
      exact ⟨fun hh => hh.elim (fun q => absurd q hn0) (fun q => absurd q.1 hx0), fun hh => hh.elim (fun q => hn1.elim (fun p => absurd q p) id) (fun q => absurd q.1 hy0)⟩
  · rcases List.mem_append.1 hd with q | q
    · obtain ⟨f, hf, hl⟩ := h.sub d q
      exact ⟨f, List.mem_append_left _ hf, hl⟩
    · rw [List.mem_singleton.1 q]; exact ⟨c, by simp, hlc⟩
  · exact (h.all.mono (fun d hd => ⟨d, List.mem_append_left _ hd, fun _ => Iff.rfl⟩) fun x hx => List.mem_append_left _ hx).app (.inr (.inl ⟨l, by simp, hlc⟩))

end

end Go.Proofs.Ytfmahgobogelkaa.Ord

/- The contract of rup's add. -/
namespace Go.Proofs.Ytfmahgobogelkaa.Ord
open Go.RowKit Go.Conc

attribute [local go_sem ↓] Go.wp_at_zero Go.wp_at_succ
attribute [local go_sem ↓ high] app_mark

/-- What add leaves. -/
def addR (tag : Nat → RT) (B : Nat) (w0 w : World) (bx bw bk : Nat) (C : List (List Int)) (n : Nat) (F : List (List Int)) (c : List Int) (e : Ending) (w' : World) : Prop :=
  (e = .returned (.tuple #[]) ∧ ∃ (tag' : Nat → RT) (vc' vt' : Value) (C' : List (List Int)) (us' : List Value) (es' : List (Int × Value)) (Wt' : Int → List Nat) (K' : List Int), RM tag' B w0 w' bx bw bk vc' vt' K'.length C' us' es' Wt' K' ∧ Top n (F ++ [c]) C' Wt' K' ∧ TG tag tag' w ∧ Touch (ST tag bx bw bk) w w' ∧ C'.length ≤ C.length + 1) ∨
  ((e = .panicked [{ v := failV, recovered := false }] ∨ e = .panicked failP) ∧ Bad (F ++ [c]) [] ∧ Touch (ST tag bx bw bk) w w')

theorem All.cp {F C C' : List (List Int)} {K K' : List Int} (h : All F C K) (hc : CP C C') (hK : ∀ x ∈ K, x ∈ K') : All F C' K' :=
  h.mono (fun d hd => by
    obtain ⟨i, hi⟩ := List.mem_iff_getElem?.1 hd
    obtain ⟨e, he, hs⟩ := hc.2 i d hi
    exact ⟨e, List.mem_of_getElem? he, hs.2.2⟩) hK

theorem kes_look {w : World} {bk : Nat} {K : List Int} (h : IM w bk (kes K)) (x : Int) : (Instr.lookup 91 (.map (some bk)) (.int .i64 x) false).run Try.prog w = .ok (.bool (decide (x ∈ K))) w := by
  rw [im_lookup (P := Try.prog) Try.underlying91 Try.underlying3 (info_zero_bool w) h x, kes_get]

/-- A clause that is not in the base yet, in a block of its own. -/
structure LM (w : World) (g of : Nat) (l : List Int) : Prop where
  blk : ∃ cur, w.heap[g]? = some (.cells cur 3 (0, 0)) ∧ ∀ (j : Nat) (x : Int), l[j]? = some x → cur[of + j]? = some (.int .i64 x)

theorem LM.cell {w : World} {g of : Nat} {l : List Int} (h : LM w g of l) {j : Nat} {x : Int} (hx : l[j]? = some x) : w.cell? ⟨g, of + j, none⟩ = some (.int .i64 x) := by
  obtain ⟨cur, h1, h2⟩ := h.blk
  have := h2 j x hx
  simp [World.cell?, h1, this]

theorem LM.froz {w : World} {g of : Nat} {l : List Int} (h : LM w g of l) (q : Nat) : w.frozen? ⟨g, q, none⟩ = false := by
  obtain ⟨cur, h1, h2⟩ := h.blk
  exact frozen_of_row _ _ _ _ _ h1

theorem LM.keep {w w' : World} {g of : Nat} {l : List Int} {S : Nat → Prop} (h : LM w g of l) (hT : Touch S w w') (hn : ¬ S g) : LM w' g of l := by
  obtain ⟨cur, h1, h2⟩ := h.blk
  exact ⟨cur, (hT.block g (Array.getElem?_eq_some_iff.1 h1).1 hn).trans h1, h2⟩

theorem LM.swap {w : World} {g of : Nat} {l : List Int} (h : LM w g of l) {j k : Nat} {x y : Int} (hj : l[j]? = some x) (hk : l[k]? = some y) : LM ((w.setCell ⟨g, of + j, none⟩ (.int .i64 y)).setCell ⟨g, of + k, none⟩ (.int .i64 x)) g of (swapL l j k) := by
  obtain ⟨cur, hb, hcur⟩ := h.blk
  have hjl := (List.getElem?_eq_some_iff.1 hj).1
  have hkl := (List.getElem?_eq_some_iff.1 hk).1
  have hb1 := heap_setCell_same w g (of + j) cur 3 (.int .i64 y) hb
  have hb2 := heap_setCell_same _ g (of + k) _ 3 (.int .i64 x) hb1
  have cj := (Array.getElem?_eq_some_iff.1 (hcur j x hj)).1
  have ck := (Array.getElem?_eq_some_iff.1 (hcur k y hk)).1
  refine ⟨_, hb2, fun t z hz => ?_⟩
  rw [swapL_get hjl hkl] at hz
  rw [Array.getElem?_setIfInBounds, Array.getElem?_setIfInBounds]
  by_cases h1 : t = k
  · subst h1
    rw [if_pos rfl, hj] at hz
    injection hz with hz
    subst hz
    rw [if_pos rfl, if_pos (by simpa using ck)]
  · rw [if_neg h1] at hz
    rw [if_neg (show ¬ of + k = of + t by omega)]
    by_cases h2 : t = j
    · subst h2
      rw [if_pos rfl, hk] at hz
      injection hz with hz
      subst hz
      rw [if_pos rfl, if_pos cj]
    · rw [if_neg h2] at hz
      rw [if_neg (show ¬ of + j = of + t by omega)]
      exact hcur t z hz

/-- While two literals that are not false are brought to the clause's head. -/
structure AI (tag : Nat → RT) (B : Nat) (w0 w : World) (bx bw bk : Nat) (vc vt : Value) (dn : Nat) (C : List (List Int)) (us : List Value) (es : List (Int × Value)) (Wt : Int → List Nat) (K : List Int) (g of : Nat) (ys : List Int) (w1 wr : World) (p j : Nat) (l : List Int) : Prop where
  oi : OI K ys l p j
  lm : LM wr g of l
  tt : Touch (fun k => k = g) w1 wr
  rm : RM tag B w0 wr bx bw bk vc vt dn C us es Wt K

section
variable {tag : Nat → RT} {B : Nat} {w0 w : World} {bx bw bk : Nat} {vc vt : Value} {dn : Nat} {C : List (List Int)} {us : List Value} {es : List (Int × Value)} {Wt : Int → List Nat} {K : List Int} {g of : Nat} {ys l : List Int} {w1 wr : World} {p j : Nat}

theorem AI.dr (h : AI tag B w0 w bx bw bk vc vt dn C us es Wt K g of ys w1 wr p j l) (m : Nat) : AI tag B w0 w bx bw bk vc vt dn C us es Wt K g of ys w1 (wr.drewN m) p j l :=
  ⟨h.oi, ⟨h.lm.blk⟩, h.tt.drewN _, h.rm.grow (below_dr (Below.refl _ _) _) fun _ _ => rfl⟩

theorem AI.take (h : AI tag B w0 w bx bw bk vc vt dn C us es Wt K g of ys w1 wr p j l) (hg : B ≤ g ∧ g ≠ bx ∧ g ≠ bw ∧ g ≠ bk ∧ tag g = .oth) {x y : Int} (hx : l[j]? = some x) (hy : l[p]? = some y) (hk : -x ∉ K) (hp : p < 2) :
    AI tag B w0 w bx bw bk vc vt dn C us es Wt K g of ys w1 ((wr.setCell ⟨g, of + p, none⟩ (.int .i64 x)).setCell ⟨g, of + j, none⟩ (.int .i64 y)) (p + 1) (j + 1) (swapL l p j) := by
  have hT : Touch (fun k => k = g) wr ((wr.setCell ⟨g, of + p, none⟩ (.int .i64 x)).setCell ⟨g, of + j, none⟩ (.int .i64 y)) := ((Touch.refl (fun k => k = g) wr).setCell (p := ⟨g, of + p, none⟩) rfl _).setCell (p := ⟨g, of + j, none⟩) rfl _
  exact ⟨h.oi.take hx hk hp, h.lm.swap hy hx, h.tt.trans hT, h.rm.oth (hT.mono fun k _ e => by rw [e]; exact ⟨hg.1, hg.2.1, hg.2.2.1, hg.2.2.2.1, .inl hg.2.2.2.2⟩) fun _ _ => rfl⟩

end

/-- What run leaves at the end of add. -/
theorem rrunR.add {tag tag7 : Nat → RT} {B : Nat} {w0 w w9 w' : World} {bx bw bk : Nat} {vc9 : Value} {C C9 : List (List Int)} {us9 : List Value} {K1 : List Int} {n : Nat} {F : List (List Int)} {c : List Int} {e : Ending} (h : rrunR tag7 B w0 w9 bx bw bk vc9 C9 us9 K1 [] n (F ++ [c]) [] e w') (hg : TG tag tag7 w) (hT : Touch (ST tag bx bw bk) w w9) (ha : All (F ++ [c]) C9 K1) (hl : C9.length ≤ C.length + 1) : addR tag B w0 w bx bw bk C n F c e w' := by
  obtain ⟨tag8, vt8, dn8, C8, es8, Wt8, K8, hM8, ⟨R, hpre⟩, hcp, htg, hT8, hor⟩ := h
  have hTT := hT.st hg hT8
  rcases hor with ⟨rfl, hd, hri⟩ | ⟨rfl, -, -, hb, -, -⟩
  · subst hd
    exact .inl ⟨rfl, tag8, vc9, vt8, C8, us9, es8, Wt8, K8, hM8, hri.top (ha.cp hcp fun x hx => by rw [hpre]; exact List.mem_append_left _ hx), hg.trans htg hT.size, hTT, by rw [hcp.1]; exact hl⟩
  · exact .inr ⟨.inr rfl, hb, hTT⟩

theorem rrunR.ends {tag : Nat → RT} {B : Nat} {w0 w w' : World} {bx bw bk : Nat} {vc : Value} {C : List (List Int)} {us : List Value} {K K0 : List Int} {n : Nat} {F : List (List Int)} {A : List Int} {e : Ending} (h : rrunR tag B w0 w bx bw bk vc C us K K0 n F A e w') : e = .returned (.tuple #[]) ∨ e = .panicked failP := by
  obtain ⟨tag8, vt8, dn8, C8, es8, Wt8, K8, hM8, hpre, hcp, htg, hT8, hor⟩ := h
  exact hor.imp (fun h => h.1) (fun h => h.1)

end Go.Proofs.Ytfmahgobogelkaa.Ord

/- The clauses of a formula as Units keeps them; its assumptions. Plain. -/
namespace Go.Proofs.Ytfmahgobogelkaa.Ord

/-- The clauses that Units keeps. -/
def normN (F : List (List Int)) : List (List Int) := (F.filter fun c => !adjB (normL c)).map normL

theorem normN_skip {F : List (List Int)} {k : Nat} {c : List Int} (h : F[k]? = some c) (ht : adjB (normL c) = true) : normN (F.take (k + 1)) = normN (F.take k) := by
  rw [List.take_add_one, h]; simp [normN, ht]
theorem normN_keep {F : List (List Int)} {k : Nat} {c : List Int} (h : F[k]? = some c) (ht : adjB (normL c) = false) : normN (F.take (k + 1)) = normN (F.take k) ++ [normL c] := by
  rw [List.take_add_one, h]; simp [normN, ht]

theorem normN_length (F : List (List Int)) : (normN F).length ≤ F.length := by
  unfold normN
  rw [List.length_map]
  exact List.length_filter_le _ _

theorem asc_nodup {l : List Int} (h : Asc l) : l.Nodup := h.imp fun {a c} hac => fun e => by rw [e, lessB_irrefl] at hac; cases hac

theorem normN_mem {F : List (List Int)} {c : List Int} : c ∈ normN F ↔ ∃ d ∈ F, adjB (normL d) = false ∧ normL d = c := by
  simp only [normN, List.mem_map, List.mem_filter, Bool.not_eq_true']
  exact ⟨fun ⟨d, ⟨h1, h2⟩, h3⟩ => ⟨d, h1, h2, h3⟩, fun ⟨d, h1, h2, h3⟩ => ⟨d, ⟨h1, h2⟩, h3⟩⟩

theorem normN_nodup (F : List (List Int)) : ∀ c ∈ normN F, c.Nodup := fun c hc => by
  obtain ⟨d, -, -, rfl⟩ := normN_mem.1 hc
  exact asc_nodup (asc_normL d)

theorem normN_ok {n : Nat} {F : List (List Int)} (h : ClsOk n F) : ClsOk n (normN F) := fun c hc a ha => by
  obtain ⟨d, hd, -, rfl⟩ := normN_mem.1 hc
  exact h d hd a (mem_normL_iff.1 ha).1

theorem normN_sub {n : Nat} {F : List (List Int)} (h : ClsOk n F) : Sub (normN F) F := fun c hc => by
  obtain ⟨d, hd, -, rfl⟩ := normN_mem.1 hc
  exact ⟨d, hd, fun l => ⟨fun hl => (mem_normL_iff.1 hl).1, fun hl => mem_normL_iff.2 ⟨hl, (h d hd l hl).1⟩⟩⟩

theorem normN_cover {n : Nat} {F : List (List Int)} (h : ClsOk n F) : ∀ c ∈ F, Taut c ∨ ∃ c' ∈ normN F, ∀ l, l ∈ c ↔ l ∈ c' := fun c hc => by
  cases ht : adjB (normL c) with
  | true =>
    left
    obtain ⟨x, hx, hnx⟩ := (adjB_iff (asc_normL c) (fun x hx => (mem_normL_iff.1 hx).2)).1 ht
    exact ⟨x, (mem_normL_iff.1 hx).1, (mem_normL_iff.1 hnx).1⟩
  | false => exact .inr ⟨normL c, normN_mem.2 ⟨c, hc, ht, rfl⟩, fun l => ⟨fun hl => mem_normL_iff.2 ⟨hl, (h c hc l hl).1⟩, fun hl => (mem_normL_iff.1 hl).1⟩⟩

/-- Units over the clauses that are kept. -/
theorem normN_up {n : Nat} {F : List (List Int)} (h : ClsOk n F) (A : List Int) : upL n (normN F) A = upL n F A ∧ upF (normN F) A = upF F A := up_norm h (normN_cover h) (normN_sub h)

/-- What the assumptions leave. -/
structure PA (n : Nat) (A K : List Int) (k : Nat) : Prop where
  all : ∀ a ∈ A.take k, a ∈ K
  sub : ∀ a ∈ K, a ∈ A
  cons : ∀ a ∈ K, -a ∉ K
  nod : K.Nodup

theorem pa_start (n : Nat) (A : List Int) : PA n A [] 0 := ⟨by simp, by simp, by simp, List.nodup_nil⟩

theorem pa_step {n : Nat} {A K : List Int} {k : Nat} {a : Int} (h : PA n A K k) (ha : A[k]? = some a) (h0 : a ≠ 0) (hn : -a ∉ K) : PA n A (setK K a) (k + 1) := by
  have hm := List.mem_of_getElem? ha
  by_cases h2 : a ∈ K
  · rw [setK_pos hn h2]
    refine ⟨fun x hx => ?_, h.sub, h.cons, h.nod⟩
    rw [List.take_add_one, ha] at hx
    rcases List.mem_append.1 hx with hx | hx
    · exact h.all x hx
    · simp at hx; rw [hx]; exact h2
  · rw [setK_new hn h2]
    refine ⟨fun x hx => ?_, fun x hx => ?_, fun x hx => ?_, ?_⟩
    · rw [List.take_add_one, ha] at hx
      rcases List.mem_append.1 hx with hx | hx
      · exact List.mem_append_left _ (h.all x hx)
      · simp at hx; rw [hx]; simp
    · rcases List.mem_append.1 hx with hx | hx
      · exact h.sub x hx
      · simp at hx; rw [hx]; exact hm
    · rw [List.mem_append, not_or]
      rcases List.mem_append.1 hx with hx | hx
      · refine ⟨h.cons x hx, fun e => ?_⟩
        simp at e
        exact hn (by rw [← e, Int.neg_neg]; exact hx)
      · simp at hx
        subst hx
        refine ⟨hn, fun e => ?_⟩
        simp at e
        omega
    · exact List.nodup_append.2 ⟨h.nod, by simp, fun y hy z hz e => by simp at hz; exact h2 (by rw [← hz, ← e]; exact hy)⟩

theorem pa_bad {n : Nat} {A K : List Int} {k : Nat} {a : Int} (h : PA n A K k) (ha : A[k]? = some a) (hn : -a ∈ K) (C : List (List Int)) : Bad C A :=
  .inl ⟨a, .asm (List.mem_of_getElem? ha), .asm (h.sub _ hn)⟩

theorem pa_len {n : Nat} {A K : List Int} {k : Nat} (h : PA n A K k) (hA : ∀ a ∈ A, LitOk n a) : K.length ≤ n := lits_le h.nod h.cons fun a ha => hA a (h.sub a ha)

/-- What the loop over the unit clauses leaves. -/
structure PU (n : Nat) (C : List (List Int)) (A K : List Int) (j : Nat) : Prop where
  sound : ∀ a ∈ K, Der C A a
  asm : ∀ a ∈ A, a ∈ K
  kok : ∀ a ∈ K, LitOk n a
  cons : ∀ a ∈ K, -a ∉ K
  knod : K.Nodup
  one : ∀ (i : Nat) c, i < j → C[i]? = some c → c.length ≤ 1 → ∃ l ∈ c, l ∈ K

theorem pu_start {n : Nat} {C : List (List Int)} {A K : List Int} (h : PA n A K A.length) (hA : ∀ a ∈ A, LitOk n a) : PU n C A K 0 :=
  ⟨fun a ha => .asm (h.sub a ha), fun a ha => h.all a (by rw [List.take_length]; exact ha), fun a ha => hA a (h.sub a ha), h.cons, h.nod, fun i c hi => by omega⟩

theorem pu_skip {n : Nat} {C : List (List Int)} {A K : List Int} {j : Nat} {c : List Int} (h : PU n C A K j) (hc : C[j]? = some c) (h2 : 2 ≤ c.length) : PU n C A K (j + 1) :=
  ⟨h.sound, h.asm, h.kok, h.cons, h.knod, fun i d hi hd hl => by
    by_cases e : i = j
    · rw [e, hc] at hd; injection hd with hd; rw [← hd] at hl; omega
    · exact h.one i d (by omega) hd hl⟩

theorem der_one {C : List (List Int)} {A : List Int} {l : Int} (h : [l] ∈ C) : Der C A l := .unit h (by simp) fun m hm hne => by simp at hm; exact (hne hm).elim

theorem pu_set {n : Nat} {C : List (List Int)} {A K : List Int} {j : Nat} {l : Int} (h : PU n C A K j) (hC : ClsOk n C) (hc : C[j]? = some [l]) (hn : -l ∉ K) : PU n C A (setK K l) (j + 1) := by
  have hm := List.mem_of_getElem? hc
  have hl0 := hC _ hm l (by simp)
  by_cases h2 : l ∈ K
  · rw [setK_pos hn h2]
    exact ⟨h.sound, h.asm, h.kok, h.cons, h.knod, fun i d hi hd hl => by
      by_cases e : i = j
      · rw [e, hc] at hd; injection hd with hd; rw [← hd]; exact ⟨l, by simp, h2⟩
      · exact h.one i d (by omega) hd hl⟩
  · rw [setK_new hn h2]
    refine ⟨fun x hx => ?_, fun x hx => List.mem_append_left _ (h.asm x hx), fun x hx => ?_, fun x hx => ?_, ?_, fun i d hi hd hl => ?_⟩
    · rcases List.mem_append.1 hx with hx | hx
      · exact h.sound x hx
      · simp at hx; rw [hx]; exact der_one hm
    · rcases List.mem_append.1 hx with hx | hx
      · exact h.kok x hx
      · simp at hx; rw [hx]; exact hl0
    · rw [List.mem_append, not_or]
      rcases List.mem_append.1 hx with hx | hx
      · refine ⟨h.cons x hx, fun e => ?_⟩
        simp at e
        exact hn (by rw [← e, Int.neg_neg]; exact hx)
      · simp at hx
        subst hx
        refine ⟨hn, fun e => ?_⟩
        simp at e
        have := hl0.1
        omega
    · exact List.nodup_append.2 ⟨h.knod, by simp, fun y hy z hz e => by simp at hz; exact h2 (by rw [← hz, ← e]; exact hy)⟩
    · by_cases e : i = j
      · rw [e, hc] at hd; injection hd with hd; rw [← hd]; exact ⟨l, by simp, by simp⟩
      · obtain ⟨x, hx, hxK⟩ := h.one i d (by omega) hd hl
        exact ⟨x, hx, List.mem_append_left _ hxK⟩

theorem pu_empty {C : List (List Int)} {A : List Int} {j : Nat} (hc : C[j]? = some []) : Bad C A := .inr ⟨[], List.mem_of_getElem? hc, fun l hl => by cases hl⟩
theorem pu_bad {n : Nat} {C : List (List Int)} {A K : List Int} {j : Nat} {l : Int} (h : PU n C A K j) (hc : C[j]? = some [l]) (hn : -l ∈ K) : Bad C A := .inl ⟨l, der_one (List.mem_of_getElem? hc), h.sound _ hn⟩

theorem pu_pi {n : Nat} {C : List (List Int)} {A K : List Int} {j : Nat} (h : PU n C A K j) (hj : C.length ≤ j) (hC : ClsOk n C) (hn : ∀ c ∈ C, c.Nodup) : PI n C A (C.map fun c => (c.length : Int)) K 0 :=
  { nod := hn, cok := hC, olen := by simp, sound := h.sound, asm := h.asm, kok := h.kok, cons := h.cons, knod := h.knod, le := Nat.zero_le _,
    handled := fun i c o hc ho h1 => by
      rw [List.getElem?_map, hc] at ho
      injection ho with ho
      have ho2 : (c.length : Int) = _ := ho
      exact h.one i c (by have := (List.getElem?_eq_some_iff.1 hc).1; omega) hc (by omega)
    cnt := fun i c hc => by rw [List.getElem?_map, hc, List.take_zero, cntO_nil]; rfl }

/-! ### The order of what Units returns -/

theorem byVar_asc (n : Nat) (p : Int → Bool) (hp : ∀ a, p a = true → p (-a) = false) : Asc (byVar n p) := by
  induction n with
  | zero => exact List.Pairwise.nil
  | succ n ih =>
    rw [byVar_succ]
    refine List.pairwise_append.2 ⟨ih, ?_, fun a ha c hc => ?_⟩
    · cases h1 : p ((n : Int) + 1) with
      | true => rw [hp _ h1]; simp
      | false => cases h2 : p (-((n : Int) + 1)) <;> simp
    · have h1 := (mem_byVar.1 ha).1
      unfold LitOk at h1
      have hcs : c.natAbs = n + 1 := by
        rcases List.mem_append.1 hc with hc | hc
        · split at hc
          · simp at hc; omega
          · cases hc
        · split at hc
          · simp at hc; omega
          · cases hc
      rw [lessB_iff]
      left
      omega

end Go.Proofs.Ytfmahgobogelkaa.Ord

/- The walk of rup's add. -/
namespace Go.Proofs.Ytfmahgobogelkaa.Ord
open Go.RowKit Go.Conc

attribute [local go_sem ↓] Go.wp_at_zero Go.wp_at_succ
attribute [local go_sem ↓ high] app_mark

set_option maxRecDepth 100000 in
set_option maxHeartbeats 8000000 in
theorem rup_addT (tag : Nat → RT) (B : Nat) (w0 w : World) (bx bw bk : Nat) (vc vt : Value) (C : List (List Int)) (us : List Value) (es : List (Int × Value)) (Wt : Int → List Nat) (K : List Int) (n : Nat) (F : List (List Int)) (c : List Int) (ac : Option Addr) (mc cc : Nat)
    (h : RM tag B w0 w bx bw bk vc vt K.length C us es Wt K) (hT : Top n F C Wt K) (hmc : mc = c.length) (hcc : mc ≤ cc) (hc0 : ac = none → cc = 0) (hs : SlV w ac (ints c)) (hx : ∀ x ∈ c, I64 x) (hcl : c.length ≤ 4294967296) (ht : adjB (normL c) = true) :
    Calls Try.prog 67 #[.pointer (some ⟨bx, 0, none⟩), .slice ac mc cc] w (addR tag B w0 w bx bw bk C n F c) := by
  obtain ⟨Q, hQ⟩ : ∃ Q : Ending → World → Prop, addR tag B w0 w bx bw bk C n F c = Q := ⟨_, rfl⟩
  rw [hQ]
  have HN := hid (lit_NormT ac c mc cc w ht hmc hcc hc0 hs hx hcl)
  have HF : Hid (∀ w1, Below w.heap.size w w1 → Q (.returned (.tuple #[])) w1) := hid fun w1 hb => by
    rw [← hQ]
    obtain ⟨x, hx, h0, hn⟩ := adjB_normL_iff.1 ht
    exact .inl ⟨rfl, tag, vc, vt, C, us, es, Wt, K, h.grow hb fun _ _ => rfl, hT.taut ⟨x, hx, hn⟩, TG.refl _ _, Below.touch hb, by omega⟩
  clear h hT hmc hcc hc0 hs hx hcl ht hQ
  go_enter Try.func67, Try.ntmps67
  go_wp2_with fail
  refine HN.out.mono ?_
  rintro e w1 ⟨a', c', rfl, hb⟩
  have HB := hid hb
  clear hb
  go_wp2_with fail
  exact ⟨rfl, _, results_none rfl _ _ _, HF.out _ HB.out⟩

set_option maxRecDepth 100000 in
set_option maxHeartbeats 8000000 in
theorem rup_addF (tag : Nat → RT) (B : Nat) (w0 w : World) (bx bw bk : Nat) (vc vt : Value) (C : List (List Int)) (us : List Value) (es : List (Int × Value)) (Wt : Int → List Nat) (K : List Int) (n : Nat) (F : List (List Int)) (c : List Int) (ac : Option Addr) (mc cc : Nat)
    (h : RM tag B w0 w bx bw bk vc vt K.length C us es Wt K) (hT : Top n F C Wt K) (hn : n ≤ 1048576) (hC : C.length ≤ 2199023255550) (hmc : mc = c.length) (hcc : mc ≤ cc) (hc0 : ac = none → cc = 0) (hs : SlV w ac (ints c)) (hok : ∀ x ∈ c, LitOk n x) (hcl : c.length ≤ 4294967296) (ht : adjB (normL c) = false) :
    Calls Try.prog 67 #[.pointer (some ⟨bx, 0, none⟩), .slice ac mc cc] w (addR tag B w0 w bx bw bk C n F c) := by
  obtain ⟨Q, hQ⟩ : ∃ Q : Ending → World → Prop, addR tag B w0 w bx bw bk C n F c = Q := ⟨_, rfl⟩
  rw [hQ]
  have HQ := hid hQ
  clear hQ
  obtain ⟨i0, hi0, hz0, hz1, hz2⟩ := info_parts info_int
  obtain ⟨i1, hi1, hy0, hy1, hy2⟩ := info_parts info_ints
  have hx64 : ∀ x ∈ c, I64 x := fun x hx => by have := hok x hx; unfold LitOk at this; unfold I64; omega
  obtain ⟨ys, hys⟩ : ∃ ys, normL c = ys := ⟨_, rfl⟩
  have HN := hid (lit_NormF ac c ys mc cc w ht hys hmc hcc hc0 hs hx64 hcl)
  have hmem : ∀ x, x ∈ ys ↔ x ∈ c := fun x => by rw [← hys, mem_normL_iff]; exact ⟨fun h => h.1, fun h => ⟨h, (hok x h).1⟩⟩
  have hnd : ys.Nodup := by rw [← hys]; exact asc_nodup (asc_normL c)
  have hop : ∀ x ∈ ys, -x ∉ ys := fun x hx hnx => by
    have : adjB (normL c) = true := adjB_normL_iff.2 ⟨x, (hmem x).1 hx, (hok x ((hmem x).1 hx)).1, (hmem _).1 hnx⟩
    rw [ht] at this
    cases this
  have hyo : ∀ x ∈ ys, LitOk n x := fun x hx => hok x ((hmem x).1 hx)
  have hyl : ys.length ≤ n := lits_le hnd hop hyo
  have HH := hid h
  have HT := hid hT
  have HY := hid (And.intro hmem (And.intro hnd (And.intro hop hyo)))
  have HCl := hid hC
  clear h hT hC hmc hcc hc0 hs hok hcl ht hx64 hys hmem hnd hop hyo
  by_cases hy0l : ys.length = 0
  · have HF : Hid (∀ w1 nd, Below w.heap.size w w1 → Q (.panicked [{ v := failV, recovered := false }]) (w1.drewN nd)) := hid fun w1 nd hb => by
      rw [← HQ.out]
      have hyn : ys = [] := List.eq_nil_of_length_eq_zero hy0l
      exact .inr ⟨.inl rfl, .inr ⟨c, by simp, fun l hl => by have := (HY.out.1 l).2 hl; rw [hyn] at this; cases this⟩, (Below.touch hb).drewN _⟩
    go_enter Try.func67, Try.ntmps67
    go_wp2_with fail
    refine HN.out.mono ?_
    rintro e w1 ⟨a', c', rfl, -, hb⟩
    have HB := hid hb
    clear hb
    rw [hy0l]
    clear hy0l
    go_wp2_with fail
    go_loopw [6, 17] (fun s6 s17 wr => s6 = .int .i64 0 ∧ s17 = .int .i64 0 ∧ wr = w1) (fun _ _ _ => 0)
    case atStart => exact ⟨rfl, rfl, rfl⟩
    case round =>
      obtain ⟨rfl, rfl, rfl⟩ := hrel
      go_wp2_with fail
      exact ⟨rfl, HF.out _ 0 HB.out⟩
  · have hyp : 0 < ys.length := by omega
    obtain ⟨N, hN⟩ : ∃ N, ys.length = N := ⟨_, rfl⟩
    rw [hN] at HN hyp hyl
    have hNi : (0 : Int) < N := by omega
    have HNN := hid hN
    have HNL := hid (And.intro hyl (And.intro hyp hn))
    clear hN hy0l hyl hyp hn
    go_enter Try.func67, Try.ntmps67
    go_wp2_with fail
    refine HN.out.mono ?_
    rintro e w1 ⟨a', c', rfl, ho, hb⟩
    obtain ⟨a2, c2, e1, hle2, hz2', hcel⟩ := ho
    injection e1 with e1 e1n e1c
    subst e1 e1c
    cases a' with
    | none => exact absurd (hz2' rfl) (by have := HNN.out; have := HNL.out; omega)
    | some ad =>
      obtain ⟨g, of, cur, rfl, hgB, hgb, hcur⟩ := hcel ad rfl
      have hM1 := HH.out.grow (tag' := fun k => if k < w.heap.size then tag k else .oth) hb fun k hk => if_pos hk
      have hG1 : TG tag (fun k => if k < w.heap.size then tag k else .oth) w := tg_if tag w
      have hgt : (fun k => if k < w.heap.size then tag k else RT.oth) g = .oth := if_neg (by omega)
      obtain ⟨tag1, ht1⟩ : ∃ t, (fun k => if k < w.heap.size then tag k else RT.oth) = t := ⟨_, rfl⟩
      rw [ht1] at hM1 hG1 hgt
      have HI : Hid (AI tag1 B w0 w1 bx bw bk vc vt K.length C us es Wt K g of ys w1 w1 0 0 ys) := hid ⟨OI.start K HY.out.2.1, ⟨cur, hgb, hcur⟩, Touch.refl _ _, hM1⟩
      have HB := hid hb
      have HG := hid (And.intro hgB (And.intro hgt hG1))
      have HGX : Hid (g ≠ bx ∧ g ≠ bw ∧ g ≠ bk) := hid ⟨(hM1.intb hgb).1, (hM1.intb hgb).2.1, (hM1.intb hgb).2.2.1⟩
      clear hb hM1 hG1 hgt ht1 hgB hgb hcur hcel hz2' hle2 e1n HN
      go_wp2_with fail
      go_loopw [6, 17] (fun s6 s17 wr => ∃ (p j : Nat) (l : List Int), s6 = .int .i64 p ∧ s17 = .int .i64 j ∧ j ≤ N ∧ p ≤ 2 ∧ Hid (AI tag1 B w0 w1 bx bw bk vc vt K.length C us es Wt K g of ys w1 wr p j l)) (fun _ s17 _ => (N - (intOf s17)).toNat)
      case atStart => exact ⟨0, 0, ys, rfl, rfl, by omega, by omega, HI⟩
      case round =>
        obtain ⟨p, j, l, rfl, rfl, hjN, hp2, HA⟩ := hrel
        have hlN : l.length = N := by rw [HA.out.oi.same.1]; exact HNN.out
        by_cases hlt : j < N
        · have hlt2 : (j : Int) < N := by omega
          obtain ⟨x, hxj⟩ : ∃ x, l[j]? = some x := ⟨_, List.getElem?_eq_getElem (by omega)⟩
          have hxo := HY.out.2.2.2 x ((HA.out.oi.same.2.2 x).1 (List.mem_of_getElem? hxj))
          have hwx : IntKind.i64.wrap (-x) = -x := IntWalk.i64_in _ (by have := HNL.out; unfold LitOk at hxo; omega)
          have hwj : IntKind.i64.wrap ((j : Int) + 1) = (j : Int) + 1 := IntWalk.i64_in _ (by have := HNL.out; omega)
          have hwp : IntKind.i64.wrap ((p : Int) + 1) = (p : Int) + 1 := IntWalk.i64_in _ (by omega)
          have pj := HA.out.lm.cell hxj
          have q2 := HA.out.rm.cells.2.2.1
          have hlk := fun m => kes_look (HA.out.rm.kn.frame (w' := wr.drewN m) rfl) (-x)
          have HX := hid (And.intro hxj hxo)
          have HLN := hid hlN
          clear hxj hxo hlN
          by_cases hk : -x ∈ K
          · rw [decide_eq_true hk] at hlk
            have hm := hlk
            have HK := hid hk
            clear hk
            go_wp2_with fail
            go_quiet (fail)
            go_wp2_with fail
            go_roundw
            case rel => exact ⟨p, j + 1, l, rfl, by simp, by omega, by omega, hid ⟨HA.out.oi.skip HX.out.1 (.inl HK.out), ⟨HA.out.lm.blk⟩, HA.out.tt.drewN _, HA.out.rm.grow (below_dr (Below.refl _ _) _) fun _ _ => rfl⟩⟩
            case measure => simp [intOf]; omega
          · rw [decide_eq_false hk] at hlk
            have hm := hlk
            have HK := hid hk
            clear hk
            by_cases hpl : p < 2
            · have hpl2 : (p : Int) < 2 := by omega
              have hpl3 : decide ((p : Int) < 2) = true := decide_eq_true hpl2
              go_wp2_with fail
              go_quiet (fail)
              go_wp2_with fail
              have hAd := HA.out.dr nq
              clear pj q2 hlk hm
              generalize wr.drewN nq = wd at hAd ⊢
              obtain ⟨y, hyp⟩ : ∃ y, l[p]? = some y := ⟨_, List.getElem?_eq_getElem (by rw [HLN.out]; have := HA.out.oi.pj; omega)⟩
              have pj := hAd.lm.cell HX.out.1
              have pp := hAd.lm.cell hyp
              have fj := hAd.lm.froz (of + j)
              have fp := hAd.lm.froz (of + p)
              have hpN : (p : Int) < N := by have := HA.out.oi.pj; omega
              have HSW := hid (hAd.take ⟨by have := HG.out.1; have := HH.out.le; omega, HGX.out.1, HGX.out.2.1, HGX.out.2.2, HG.out.2.1⟩ HX.out.1 hyp HK.out hpl)
              have HYP := hid hyp
              have HPL := hid hpl
              clear hAd hyp hpl hpl3
              go_cut [] (fun wx => Hid (AI tag1 B w0 w1 bx bw bk vc vt K.length C us es Wt K g of ys w1 wx (p + 1) (j + 1) (swapL l p j)))
              case first =>
                by_cases hpj : p = j
                · subst hpj
                  have hxy : x = y := by have := HX.out.1.symm.trans HYP.out; injection this
                  subst hxy
                  go_region
                  all_goals
                    go_wp2_with fail
                    go_meet
                    case rel => exact hid (HSW.out.dr _)
                · go_region
                  all_goals
                    go_wp2_with fail
                    go_meet
                    case rel => exact hid (HSW.out.dr _)
              case rest =>
                clear pj pp fj fp
                go_wp2_with fail
                go_roundw
                case rel => exact ⟨p + 1, j + 1, _, by simp, by simp, by omega, by have := HPL.out; omega, hcut⟩
                case measure => simp [intOf]; omega
            · have hpl2 : ¬ (p : Int) < 2 := by omega
              have hpl3 : decide ((p : Int) < 2) = false := decide_eq_false hpl2
              go_wp2_with fail
              go_quiet (fail)
              go_wp2_with fail
              go_roundw
              case rel => exact ⟨p, j + 1, l, rfl, by simp, by omega, by omega, hid ⟨HA.out.oi.skip HX.out.1 (.inr hpl), ⟨HA.out.lm.blk⟩, HA.out.tt.drewN _, HA.out.rm.grow (below_dr (Below.refl _ _) _) fun _ _ => rfl⟩⟩
              case measure => simp [intOf]; omega
        · have hje : j = N := by omega
          subst hje
          have hlt2 : ¬ (j : Int) < j := by omega
          have hp : p = 0 ∨ p = 1 ∨ p = 2 := by omega
          have HLN := hid hlN
          clear hlN hjN hlt hp2
          rcases hp with rfl | rfl | rfl
          · have HF : Hid (∀ nd, Q (.panicked [{ v := failV, recovered := false }]) (wr.drewN nd)) := hid fun nd => by
              rw [← HQ.out]
              refine .inr ⟨.inl rfl, .inr ⟨c, by simp, fun x hx => ?_⟩, ?_⟩
              · have := HA.out.oi.none (by rw [HLN.out]; exact Nat.le_refl _) x ((HY.out.1 x).2 hx)
                exact ((HT.out.kx c).snd _ this)
              · exact ((Below.touch HB.out : Touch (ST tag bx bw bk) w w1).trans' HA.out.tt fun k hk e => by have := HG.out.1; omega).drewN _
            go_wp2_with fail
            exact ⟨rfl, HF.out 0⟩
          case' inr.inl =>
            obtain ⟨x0, hx0⟩ : ∃ x, l[0]? = some x := ⟨_, List.getElem?_eq_getElem (by rw [HLN.out]; exact HNL.out.2.1)⟩
            have hone := HA.out.oi.one (by rw [HLN.out]; exact Nat.le_refl _) hx0
            have hx0o := HY.out.2.2.2 x0 ((HA.out.oi.same.2.2 x0).1 (List.mem_of_getElem? hx0))
            have hKn : K.length ≤ n := lits_le HT.out.nod HT.out.cons HT.out.kok
            have HS := hid (rup_set tag1 B w0 wr bx bw bk vc vt K.length C us es Wt K x0 HA.out.rm (by have := HNL.out; unfold LitOk at hx0o; omega) (by have := HNL.out; omega))
            have p0 : wr.cell? ⟨g, of, none⟩ = some (.int .i64 x0) := HA.out.lm.cell hx0
            have hKX : KX n (F ++ [c]) K (setK K x0) := by
              by_cases hin : x0 ∈ K
              · rw [setK_pos hone.1 hin]; exact HT.out.kx c
              · rw [setK_new hone.1 hin]
                refine (HT.out.kx c).one hin hone.1 hx0o (.unit (c := c) (by simp) ((HY.out.1 _).1 ((HA.out.oi.same.2.2 x0).1 (List.mem_of_getElem? hx0))) fun m hm hne => ?_)
                exact (HT.out.kx c).snd _ (hone.2 m ((HY.out.1 m).2 hm) hne)
            have HX0 := hid (And.intro hx0 (And.intro hone.1 (setK_mem hone.1)))
            have HKX := hid hKX
            clear hx0 hone hx0o hKn hKX
            go_wp2_with fail
            refine HS.out.mono ?_
            rintro e w2 ⟨-, h1⟩
            obtain ⟨rfl, tag2, vt2, hR, htg, hTs⟩ := h1 HX0.out.2.1
            obtain ⟨K1, hK1⟩ : ∃ K1, setK K x0 = K1 := ⟨_, rfl⟩
            rw [hK1] at hR HX0 HKX
            have HM := hid hR
            have hng : ¬ (g = bx ∨ g = bk ∨ vt.ownBlock = some g) := by
              rintro (e | e | e)
              · exact HGX.out.1 e
              · exact HGX.out.2.2 e
              · have := HA.out.rm.trt g e
                rw [HG.out.2.1] at this
                cases this
            have hgl : g < wr.heap.size := by obtain ⟨cu, hcu, -⟩ := HA.out.lm.blk; exact (Array.getElem?_eq_some_iff.1 hcu).1
            have HLM := hid (HA.out.lm.keep hTs hng)
            have hTw : Touch (ST tag bx bw bk) w wr := (Below.touch HB.out : Touch (ST tag bx bw bk) w w1).trans' HA.out.tt fun k hk e => by have := HG.out.1; omega
            have HTT : Hid (Touch (ST tag bx bw bk) w w2 ∧ TG tag tag2 w ∧ tag2 g = .oth) := hid ⟨hTw.st HG.out.2.2 (hTs.mono fun k _ hk => by
              rcases hk with e | e | e
              · exact .inl e
              · exact .inr (.inr (.inl e))
              · exact .inr (.inr (.inr (by rw [HA.out.rm.trt k e]; nofun)))), HG.out.2.2.trans (TG.of_eq htg) hTw.size, (htg g hgl).trans HG.out.2.1⟩
            have HXX : Hid (l[0]? = some x0 ∧ -x0 ∉ K ∧ (x0 ∈ K1 ∨ (2 ≤ j ∧ ∀ x1, l[1]? = some x1 → -x1 ∉ K))) := hid ⟨HX0.out.1, HX0.out.2.1, .inl HX0.out.2.2⟩
            have HOI := hid HA.out.oi.same
            clear hR htg hTs h1 hK1 hng hgl hTw HX0 HS HA p0
          case' inr.inr =>
            obtain ⟨x0, hx0⟩ : ∃ x, l[0]? = some x := ⟨_, List.getElem?_eq_getElem (by rw [HLN.out]; exact HNL.out.2.1)⟩
            have hj2 := HA.out.oi.pj
            obtain ⟨tag2, ht2⟩ : ∃ t, tag1 = t := ⟨_, rfl⟩
            obtain ⟨vt2, hv2⟩ : ∃ t, vt = t := ⟨_, rfl⟩
            obtain ⟨K1, hK1⟩ : ∃ t, K = t := ⟨_, rfl⟩
            obtain ⟨w2, hw2⟩ : ∃ t, wr = t := ⟨_, rfl⟩
            have hTw : Touch (ST tag bx bw bk) w wr := (Below.touch HB.out : Touch (ST tag bx bw bk) w w1).trans' HA.out.tt fun k hk e => by have := HG.out.1; omega
            have HTT : Hid (Touch (ST tag bx bw bk) w w2 ∧ TG tag tag2 w ∧ tag2 g = .oth) := hid (by rw [← hw2, ← ht2]; exact ⟨hTw, HG.out.2.2, HG.out.2.1⟩)
            have HM : Hid (RM tag2 B w0 w2 bx bw bk vc vt2 K.length C us es Wt K1) := hid (by rw [← hw2, ← ht2, ← hv2, ← hK1]; exact HA.out.rm)
            have HLM : Hid (LM w2 g of l) := hid (by rw [← hw2]; exact HA.out.lm)
            have HKX : Hid (KX n (F ++ [c]) K K1) := hid (by rw [← hK1]; exact HT.out.kx c)
            have HXX : Hid (l[0]? = some x0 ∧ -x0 ∉ K ∧ (x0 ∈ K1 ∨ (2 ≤ j ∧ ∀ x1, l[1]? = some x1 → -x1 ∉ K))) := hid ⟨hx0, HA.out.oi.fst 0 x0 (by omega) hx0, .inr ⟨hj2, fun x1 h1 => HA.out.oi.fst 1 x1 (by omega) h1⟩⟩
            have HOI := hid HA.out.oi.same
            clear hx0 hj2 hTw ht2 hv2 hK1
            clear HA
            rw [hw2]
            clear hw2
          all_goals
            by_cases hj2 : 2 ≤ j
            · have hj3 : (1 : Int) < j := by omega
              have hjp : (0 : Int) < j := by omega
              have hjn : 0 < j := by omega
              have hjm : 1 < j := by omega
              obtain ⟨x1, hx1⟩ : ∃ x, l[1]? = some x := ⟨_, List.getElem?_eq_getElem (by rw [HLN.out]; omega)⟩
              obtain ⟨CL, hCL⟩ : ∃ m, C.length = m := ⟨_, rfl⟩
              obtain ⟨av, cv, hvc⟩ := own_lenV' HM.out.clr
              rw [hCL] at hvc
              subst hvc
              obtain ⟨q0, q1, q2, q3, q4⟩ := HM.out.cells
              have hclr := HM.out.clr
              rw [hCL] at hclr
              have hle2 := HM.out.le
              have hCLb : CL ≤ 2199023255550 := by rw [← hCL]; exact HCl.out
              obtain ⟨a6, c6, w6, hr6, ho6, hg6, ha6⟩ := appM_one (P := Try.prog) (w2.alloc (.cells #[.slice (some ⟨g, of, none⟩) j c'] 22 (0, 0))) B 32 32 22 i1 (.slice none 0 0) 24 Try.underlying32 hi1 hy0 hy1 hy2 rfl (.slice av CL cv) CL us (hclr.alloc _) w2.heap.size (.slice (some ⟨g, of, none⟩) j c') (heap_alloc_new _ _) rfl (by unfold maxLen; omega) (by omega) (by simp only [size_al]; omega)
              have hMr := HM.out.retag (tag' := fun k => if k = g then .cls C.length else tag2 k) fun k _ hk => if_neg fun e => hk (by rw [e]; exact HTT.out.2.2)
              obtain ⟨cur2, hb2, hcur2⟩ := HLM.out.blk
              have hgB := HG.out.1
              have hwB := HH.out.le
              have ho6' : w6.ownsRow B 22 1 (.slice a6 (C.length + 1) c6) (C.length + 1) (us ++ [.slice (some ⟨g, of, none⟩) l.length c']) := by rw [HLN.out, hCL]; exact ho6
              have ha6' : (Value.slice a6 (C.length + 1) c6).ownBlock = (Value.slice av CL cv).ownBlock ∨ (Value.slice a6 (C.length + 1) c6).ownBlock = some (w2.alloc (.cells #[.slice (some ⟨g, of, none⟩) j c'] 22 (0, 0))).heap.size := by rw [hCL]; exact ha6
              obtain ⟨hM5, hT5⟩ := hMr.pushC (l := l) (g := g) (o := of) (cap := c') (if_pos rfl) (by omega) hb2 hcur2 hg6 ho6' ha6'
              have hb6 : w6.heap[bx]? = _ := (hg6.block bx (by have := (Array.getElem?_eq_some_iff.1 HM.out.blk).1; simp only [size_al]; omega) (fun e => HM.out.apart.2.2.1 e.symm)).trans ((Below.heap_alloc _ _ _ (Array.getElem?_eq_some_iff.1 HM.out.blk).1).trans HM.out.blk)
              have k0 : w6.cell? ⟨bx, 0, none⟩ = _ := fit_cell (vs := [.slice av CL cv, .map (some bw), .map (some bk), vt2, .int .i64 K.length]) hb6 0
              have kf : w6.frozen? ⟨bx, 0, none⟩ = false := frozen_of_row _ _ _ _ _ hb6
              rw [hCL] at hM5 hT5
              obtain ⟨tag5, ht5⟩ : ∃ t : Nat → RT, (fun k => if k < w2.heap.size then (if k = g then RT.cls CL else tag2 k) else RT.clr) = t := ⟨_, rfl⟩
              rw [ht5] at hM5
              have hgl2 := (Array.getElem?_eq_some_iff.1 hb2).1
              have hg5 : tag5 g = .cls CL := by rw [← ht5]; show (if g < w2.heap.size then (if g = g then RT.cls CL else tag2 g) else RT.clr) = _; rw [if_pos hgl2, if_pos rfl]
              have hgw : w.heap.size ≤ g := HG.out.1
              have hG5 : TG tag tag5 w := fun k hk hkt => by
                have h1 : tag2 k = .oth := HTT.out.2.1 k hk hkt
                have h2 := HTT.out.1.size
                rw [← ht5]
                show (if k < w2.heap.size then (if k = g then RT.cls CL else tag2 k) else RT.clr) = .oth
                rw [if_pos (by omega), if_neg (by omega)]
                exact h1
              have hT5' : Touch (ST tag bx bw bk) w (w6.setCell ⟨bx, 0, none⟩ (.slice a6 (CL + 1) c6)) := HTT.out.1.trans' hT5 fun k hk hs => by
                rcases hs with e | e
                · exact .inl e
                · exact .inr (.inr (.inr fun q => by
                    have h1 := HM.out.clt k e
                    rw [HTT.out.2.1 k hk q] at h1
                    cases h1))
              have HM5 := hid hM5
              have HT5 := hid (And.intro hT5' (And.intro hG5 hg5))
              have HX1 := hid hx1
              have HCL := hid hCL
              have HUL : Hid ((us ++ [Value.slice (some ⟨g, of, none⟩) l.length c'])[CL]? = some (.slice (some ⟨g, of, none⟩) l.length c')) := hid (by
                have hul : us.length = CL := by have := hclr.1; simpa using this
                rw [List.getElem?_append_right (by omega)]
                simp [hul])
              clear hx1 q1 q2 q3 q4 hclr hle2 ho6 hg6 ha6 hMr hb2 hcur2 ho6' ha6' hM5 hT5 hb6 ht5 hgl2 hg5 hG5 hT5' hj2
              have HC1 : Hid ((C ++ [l])[CL]? = some l) := hid (by rw [← HCL.out]; simp)
              have HWL5 : Hid (∀ b, (Wt b).length ≤ 2199023255551) := hid fun b => by have := HT.out.wi.len b; have := HCl.out; omega
              go_wp2_with fail
              clear k0 kf hr6
              generalize w6.setCell ⟨bx, 0, none⟩ (.slice a6 (CL + 1) c6) = wc at HM5 HT5 ⊢
              obtain ⟨q0, q1, -, -, -⟩ := HM5.out.cells
              have pz : wc.cell? ⟨g, of, none⟩ = some (.int .i64 x0) := HM5.out.lit HC1.out HUL.out (j := 0) HXX.out.1
              obtain ⟨av, cv, hval, hwv2, hwv3⟩ := HM5.out.wr x0
              have hwv : WV tag5 B wc x0 (.slice av (Wt x0).length cv) (Wt x0) := ⟨av, cv, rfl, hwv2, by rw [hval] at hwv3; exact hwv3⟩
              have hlG : ∀ y : World, IM y bw es → (Instr.lookup 90 (.map (some bw)) (.int .i64 x0) false).run Try.prog y = .ok (.slice av (Wt x0).length cv) y := fun y hy => by
                rw [im_lookup (P := Try.prog) Try.underlying90 Try.underlying3 (z := .slice none 0 0) (by kernel_rfl) hy x0]
                exact congrArg (fun v => Result.ok v y) hval
              have hl0 := fun m => hlG (wc.drewN m) (HM5.out.wi.frame rfl)
              have hl1 := hlG wc.drew (HM5.out.wi.frame rfl)
              have hl2 := fun o => hlG (wc.alloc o) (HM5.out.wi.frame (Below.heap_alloc _ _ _ HM5.out.wi.lt))
              have hl3 := fun o => hlG (wc.alloc o).drew (HM5.out.wi.frame (Below.heap_alloc _ _ _ HM5.out.wi.lt))
              have hl4 := fun o m => hlG ((wc.alloc o).drewN m) (HM5.out.wi.frame (Below.heap_alloc _ _ _ HM5.out.wi.lt))
              have hl5 := hlG wc HM5.out.wi
              have hle := HM5.out.le
              have HNT : Hid ((¬ (tag5 bx = .wth x0 ∧ B ≤ bx ∧ ∃ cur : Array Value, wc.heap[bx]? = some (.cells cur 3 (0, 0)))) ∧ (¬ (tag5 g = .wth x0 ∧ B ≤ g ∧ ∃ cur : Array Value, wc.heap[g]? = some (.cells cur 3 (0, 0)))) ∧ ¬ (tag5 bw = .wth x0 ∧ B ≤ bw ∧ ∃ cur : Array Value, wc.heap[bw]? = some (.cells cur 3 (0, 0)))) := hid ⟨fun ⟨_, _, cu, hc⟩ => (HM5.out.intb hc).1 rfl, (fun ⟨h, _⟩ => by rw [HT5.out.2.2] at h; cases h), fun ⟨_, _, cu, hc⟩ => (HM5.out.intb hc).2.1 rfl⟩
              have HGW : Hid (g ≠ bw ∧ bx ≠ bw) := hid ⟨HGX.out.2.1, (HM5.out.apart).1⟩
              have hWx := HWL5.out x0
              obtain ⟨R, hR⟩ : ∃ R, (Wt x0).length = R := ⟨_, rfl⟩
              have HR := hid hR
              have HWV := hid hwv
              rw [hR] at hl0 hl1 hl2 hl3 hl4 hl5 hWx
              clear hlG hwv hval hwv2 hwv3 hR
              go_cut [] (fun wx => ∃ (tag' : Nat → RT) (es' : List (Int × Value)), Hid (RM tag' B w0 wx bx bw bk (.slice a6 (CL + 1) c6) vt2 K.length (C ++ [l]) (us ++ [.slice (some ⟨g, of, none⟩) l.length c']) es' (fun b => if b = x0 then Wt x0 ++ [CL] else Wt b) K1) ∧ Hid (Touch (ST tag bx bw bk) w wx ∧ TG tag tag' w ∧ tag' g = .cls CL))
              case first =>
                go_region_held3 (fun y => y.cell? ⟨bx, 1, none⟩ = some (.map (some bw)) ∧ y.cell? ⟨g, of, none⟩ = some (.int .i64 x0)) (first | exact ⟨‹_›, ‹_›⟩ | go_keep)
                  ((refine step_append_wt (tag := tag5) (B := B) (w := wc) rfl _ _ 22 rfl i0 (.int .i64 0) 8 Try.underlying22 hi0 hz0 hz1 hz2 rfl rfl (v := .slice av R cv) HR.out (by rfl) (by rw [← HR.out]; exact HWV.out) (by first | exact box_below _ _ | exact (box_below _ _).drew) (by exact hle) [CL] _ 1 1 rfl (by decide) (by rfl) (cells_one (by first | exact heap_alloc_new _ _)) (by omega) ?_; intro a8 c8 w8 h8 hT8 ho8; have hb8 := hT8.cell q1 HNT.out.1; have hg8 := hT8.cell pz HNT.out.2.1; obtain ⟨w3, hup, him, ht3, hz3⟩ := im_update (P := Try.prog) Try.underlying90 Try.underlying3 (HM5.out.wi.frame (hT8.block bw HM5.out.wi.lt HNT.out.2.2)) x0 (.slice a8 (R + 1) c8); have hb9 := ht3.cell hb8 HGW.out.2; have hg9 := ht3.cell hg8 HGW.out.1; have H8 := hid h8; have HT8 := hid hT8; have HO8 := hid ho8; have HIM := hid him; have HT3 := hid ht3; clear h8 hT8 ho8 him ht3 hz3))
                all_goals
                  go_wp2_with fail
                  go_meet
                  case rel =>
                    obtain ⟨hM3, hT3⟩ := HM5.out.wth HT8.out (by rw [HR.out]; exact H8.out) (fun k hk hl => (HO8.out k hk hl).1) HIM.out HT3.out
                    refine ⟨_, _, hid hM3, hid ⟨HT5.out.1.st HT5.out.2.1 (hT3.mono fun k _ hk => RS.st hk), HT5.out.2.1.trans (TG.of_eq fun k hk => if_pos hk) HT5.out.1.size, (if_pos ?_).trans HT5.out.2.2⟩⟩
                    obtain ⟨g2, of2, cap2, cu, e1, e2, e3, e4, e5⟩ := HM5.out.cls CL l HC1.out
                    rw [HUL.out] at e1
                    injection e1 with e1
                    injection e1 with e1
                    injection e1 with e1
                    injection e1 with e1
                    rw [e1]
                    exact (Array.getElem?_eq_some_iff.1 e4).1
              case rest =>
                obtain ⟨tag6, es6, HM6, HT6⟩ := hcut
                clear q0 q1 pz hl0 hl1 hl2 hl3 hl4 hl5 HWV HR hWx HNT HGW hle HM5 HT5
                obtain ⟨Wt6, hWt6⟩ : ∃ f : Int → List Nat, (fun b => if b = x0 then Wt x0 ++ [CL] else Wt b) = f := ⟨_, rfl⟩
                rw [hWt6] at HM6
                have HWT6 := hid hWt6
                have HWL6 : Hid (∀ b, (Wt6 b).length ≤ 2199023255552) := hid fun b => by
                  have := HWL5.out b
                  have := HWL5.out x0
                  rw [← hWt6]
                  show (if b = x0 then Wt x0 ++ [CL] else Wt b).length ≤ _
                  split
                  · rw [List.length_append]; simp; omega
                  · omega
                clear hWt6
                go_wp2_with fail
                obtain ⟨q0, q1, -, -, -⟩ := HM6.out.cells
                have pz : wc.cell? ⟨g, of + 1, none⟩ = some (.int .i64 x1) := HM6.out.lit HC1.out HUL.out (j := 1) HX1.out
                obtain ⟨av, cv, hval, hwv2, hwv3⟩ := HM6.out.wr x1
                have hwv : WV tag6 B wc x1 (.slice av (Wt6 x1).length cv) (Wt6 x1) := ⟨av, cv, rfl, hwv2, by rw [hval] at hwv3; exact hwv3⟩
                have hlG : ∀ y : World, IM y bw es6 → (Instr.lookup 90 (.map (some bw)) (.int .i64 x1) false).run Try.prog y = .ok (.slice av (Wt6 x1).length cv) y := fun y hy => by
                  rw [im_lookup (P := Try.prog) Try.underlying90 Try.underlying3 (z := .slice none 0 0) (by kernel_rfl) hy x1]
                  exact congrArg (fun v => Result.ok v y) hval
                have hl0 := fun m => hlG (wc.drewN m) (HM6.out.wi.frame rfl)
                have hl1 := hlG wc.drew (HM6.out.wi.frame rfl)
                have hl2 := fun o => hlG (wc.alloc o) (HM6.out.wi.frame (Below.heap_alloc _ _ _ HM6.out.wi.lt))
                have hl3 := fun o => hlG (wc.alloc o).drew (HM6.out.wi.frame (Below.heap_alloc _ _ _ HM6.out.wi.lt))
                have hl4 := fun o m => hlG ((wc.alloc o).drewN m) (HM6.out.wi.frame (Below.heap_alloc _ _ _ HM6.out.wi.lt))
                have hl5 := hlG wc HM6.out.wi
                have hle := HM6.out.le
                have HNT : Hid ((¬ (tag6 bx = .wth x1 ∧ B ≤ bx ∧ ∃ cur : Array Value, wc.heap[bx]? = some (.cells cur 3 (0, 0)))) ∧ (¬ (tag6 g = .wth x1 ∧ B ≤ g ∧ ∃ cur : Array Value, wc.heap[g]? = some (.cells cur 3 (0, 0)))) ∧ ¬ (tag6 bw = .wth x1 ∧ B ≤ bw ∧ ∃ cur : Array Value, wc.heap[bw]? = some (.cells cur 3 (0, 0)))) := hid ⟨fun ⟨_, _, cu, hc⟩ => (HM6.out.intb hc).1 rfl, (fun ⟨h, _⟩ => by rw [HT6.out.2.2] at h; cases h), fun ⟨_, _, cu, hc⟩ => (HM6.out.intb hc).2.1 rfl⟩
                have HGW : Hid (g ≠ bw ∧ bx ≠ bw) := hid ⟨HGX.out.2.1, (HM6.out.apart).1⟩
                have hWx := HWL6.out x1
                obtain ⟨R, hR⟩ : ∃ R, (Wt6 x1).length = R := ⟨_, rfl⟩
                have HR := hid hR
                have HWV := hid hwv
                rw [hR] at hl0 hl1 hl2 hl3 hl4 hl5 hWx
                clear hlG hwv hval hwv2 hwv3 hR
                go_cut [] (fun wx => ∃ (tag' : Nat → RT) (es' : List (Int × Value)), Hid (RM tag' B w0 wx bx bw bk (.slice a6 (CL + 1) c6) vt2 K.length (C ++ [l]) (us ++ [.slice (some ⟨g, of, none⟩) l.length c']) es' (fun b => if b = x1 then Wt6 x1 ++ [CL] else Wt6 b) K1) ∧ Hid (Touch (ST tag bx bw bk) w wx ∧ TG tag tag' w ∧ tag' g = .cls CL))
                case first =>
                  go_region_held3 (fun y => y.cell? ⟨bx, 1, none⟩ = some (.map (some bw)) ∧ y.cell? ⟨g, of + 1, none⟩ = some (.int .i64 x1)) (first | exact ⟨‹_›, ‹_›⟩ | go_keep)
                    ((refine step_append_wt (tag := tag6) (B := B) (w := wc) rfl _ _ 22 rfl i0 (.int .i64 0) 8 Try.underlying22 hi0 hz0 hz1 hz2 rfl rfl (v := .slice av R cv) HR.out (by rfl) (by rw [← HR.out]; exact HWV.out) (by first | exact box_below _ _ | exact (box_below _ _).drew) (by exact hle) [CL] _ 1 1 rfl (by decide) (by rfl) (cells_one (by first | exact heap_alloc_new _ _)) (by omega) ?_; intro a8 c8 w8 h8 hT8 ho8; have hb8 := hT8.cell q1 HNT.out.1; have hg8 := hT8.cell pz HNT.out.2.1; obtain ⟨w3, hup, him, ht3, hz3⟩ := im_update (P := Try.prog) Try.underlying90 Try.underlying3 (HM6.out.wi.frame (hT8.block bw HM6.out.wi.lt HNT.out.2.2)) x1 (.slice a8 (R + 1) c8); have hb9 := ht3.cell hb8 HGW.out.2; have hg9 := ht3.cell hg8 HGW.out.1; have H8 := hid h8; have HT8 := hid hT8; have HO8 := hid ho8; have HIM := hid him; have HT3 := hid ht3; clear h8 hT8 ho8 him ht3 hz3))
                  all_goals
                    go_wp2_with fail
                    go_meet
                    case rel =>
                      obtain ⟨hM3, hT3⟩ := HM6.out.wth HT8.out (by rw [HR.out]; exact H8.out) (fun k hk hl => (HO8.out k hk hl).1) HIM.out HT3.out
                      refine ⟨_, _, hid hM3, hid ⟨HT6.out.1.st HT6.out.2.1 (hT3.mono fun k _ hk => RS.st hk), HT6.out.2.1.trans (TG.of_eq fun k hk => if_pos hk) HT6.out.1.size, (if_pos ?_).trans HT6.out.2.2⟩⟩
                      obtain ⟨g2, of2, cap2, cu, e1, e2, e3, e4, e5⟩ := HM6.out.cls CL l HC1.out
                      rw [HUL.out] at e1
                      injection e1 with e1
                      injection e1 with e1
                      injection e1 with e1
                      injection e1 with e1
                      rw [e1]
                      exact (Array.getElem?_eq_some_iff.1 e4).1
                case rest =>
                  obtain ⟨tag7, es7, HM7, HT7⟩ := hcut
                  have hnn := HNL.out.2.2
                  have hx01 : x1 ≠ x0 := fun e => by
                    have := nodup_get HOI.out.2.1 HX1.out (by rw [e]; exact HXX.out.1)
                    omega
                  obtain ⟨hri, hall⟩ := HT.out.push (c := c) (l := l) (x0 := x0) (x1 := x1) (Wt' := (fun b => if b = x1 then Wt6 x1 ++ [CL] else Wt6 b)) HKX.out (by rw [HLN.out]; omega) HOI.out.2.1 (fun x hx => HY.out.2.2.2 x ((HOI.out.2.2 x).1 hx)) (fun x hx hn => HY.out.2.2.1 x ((HOI.out.2.2 x).1 hx) ((HOI.out.2.2 _).1 hn)) (fun x => (HOI.out.2.2 x).trans (HY.out.1 x)) HXX.out.1 HX1.out HXX.out.2.1 (HXX.out.2.2.elim (fun q => .inr q) fun q => .inl (q.2 x1 HX1.out)) (fun b => by
                    rw [HCL.out, ← HWT6.out]
                    by_cases q1 : b = x1
                    · subst q1
                      simp only [if_true, if_neg hx01, if_pos (show b = x0 ∨ True from .inr trivial)]
                    · by_cases q0 : b = x0
                      · subst q0; simp [q1]
                      · simp [q0, q1])
                  have HRUN := hid (rup_run tag7 B w0 wc bx bw bk (.slice a6 (CL + 1) c6) vt2 K.length (C ++ [l]) (us ++ [.slice (some ⟨g, of, none⟩) l.length c']) es7 _ K1 [] n (F ++ [c]) [] HM7.out hri hnn (by rw [List.length_append]; simp; have := HCl.out; omega))
                  have HALL := hid hall
                  clear hri hall hx01 q0 q1 pz hl0 hl1 hl2 hl3 hl4 hl5 HWV HR hWx HNT HGW hle
                  go_wp2_with fail
                  refine HRUN.out.mono ?_
                  intro e w10 hr
                  have HF : Hid (Q e w10) := hid (by rw [← HQ.out]; exact hr.add HT7.out.2.1 HT7.out.1 HALL.out (by simp))
                  rcases hr.ends with rfl | rfl
                  · clear hr
                    go_wp2_with fail
                    exact ⟨rfl, _, results_none rfl _ _ _, HF.out⟩
                  · clear hr
                    go_wp2_with fail
                    exact ⟨rfl, HF.out⟩
            · have hj3 : ¬ (1 : Int) < j := by omega
              have HX0 : Hid (x0 ∈ K1 ∧ x0 ∈ c) := hid ⟨HXX.out.2.2.elim id fun q => absurd q.1 hj2, (HY.out.1 _).1 ((HOI.out.2.2 x0).1 (List.mem_of_getElem? HXX.out.1))⟩
              obtain ⟨hri, hall⟩ := HT.out.single HKX.out HX0.out.2 HX0.out.1
              have HRUN := hid (rup_run tag2 B w0 w2 bx bw bk vc vt2 K.length C us es Wt K1 [] n (F ++ [c]) [] HM.out hri HNL.out.2.2 (by have := HCl.out; omega))
              have HALL := hid hall
              clear hri hall hj2
              go_wp2_with fail
              refine HRUN.out.mono ?_
              intro e w10 hr
              have HF : Hid (Q e w10) := hid (by rw [← HQ.out]; exact hr.add HTT.out.2.1 HTT.out.1 HALL.out (by omega))
              rcases hr.ends with rfl | rfl
              · clear hr
                go_wp2_with fail
                exact ⟨rfl, _, results_none rfl _ _ _, HF.out⟩
              · clear hr
                go_wp2_with fail
                exact ⟨rfl, HF.out⟩

end Go.Proofs.Ytfmahgobogelkaa.Ord

/- The contracts of rup's fails, for each function that it is handed. -/
namespace Go.Proofs.Ytfmahgobogelkaa.Ord
open Go.RowKit Go.Conc

attribute [local go_sem ↓] Go.wp_at_zero Go.wp_at_succ
attribute [local go_sem ↓ high] app_mark

set_option maxRecDepth 100000 in
set_option maxHeartbeats 4000000 in
theorem fails1_idle (b : Nat) (w : World) :
    CallsD Try.prog 90 #[.pointer (some ⟨b, 0, none⟩)] .returning w fun e u' w' => e = .returned (.tuple #[]) ∧ u' = .returning ∧ w' = w := by
  refine callsD_of_wpS Try.func90 rfl fun c₀ cs hu => ?_
  apply wpS_seq
  apply wpS_region
  simp [wpOpsS, go_sem, recoverD, hu, Try.ntmps90, Exit.thenS]
  refine wpS_of_wp ?_
  simp only [Array.replicate_succ, Array.replicate_zero, List.push_toArray, List.nil_append, List.cons_append]
  go_wp2_with fail
  refine ⟨rfl, .returning, ?_, _, results_none rfl _ _ _, rfl, rfl, rfl⟩
  cases c₀
  simp at hu
  rw [hu]

set_option maxRecDepth 100000 in
set_option maxHeartbeats 4000000 in
theorem fails1_rec (older : List PanicEntry) (b : Nat) (w : World) (hb : w.heap[b]? = some (.cells #[.bool false] 4 (0, 0))) :
    CallsD Try.prog 90 #[.pointer (some ⟨b, 0, none⟩)] (.panicking ({ v := failV, recovered := false } :: older)) w fun e u' w' =>
      e = .returned (.tuple #[]) ∧ u' = .panicking ({ v := failV, recovered := true } :: older) ∧ w'.heap[b]? = some (.cells #[.bool true] 4 (0, 0)) ∧ Touch (fun k => k = b) w w' := by
  have hc : w.cell? ⟨b, 0, none⟩ = some (.bool false) := fit_cell (vs := [.bool false]) hb 0
  have hlt := (Array.getElem?_eq_some_iff.1 hb).1
  have hbn : (w.alloc (.cells #[] 125)).heap[b]? = some (.cells #[.bool false] 4 (0, 0)) := (Below.heap_alloc _ _ _ hlt).trans hb
  have hf : (w.alloc (.cells #[] 125)).frozen? ⟨b, 0, none⟩ = false := frozen_of_row _ _ _ _ _ hbn
  have hcn : (w.alloc (.cells #[] 125)).cell? ⟨b, 0, none⟩ = some (.bool false) := fit_cell (vs := [.bool false]) hbn 0
  have HF := hid (And.intro (setCell_block (o := 0) (xs := [.bool false]) (.bool true) hbn) (((Touch.refl (fun k => k = b) w).alloc (.cells #[] 125)).setCell (p := ⟨b, 0, none⟩) rfl (.bool true)))
  clear hb hlt hbn
  have hta : ∀ w : World, (Instr.typeAssert (.iface 125 (.agg #[])) 20 125 true).run Try.prog w = .ok (.tuple #[.agg #[], .bool true]) w := fun w => by kernel_rfl
  unfold failV
  refine callsD_of_wpS Try.func90 rfl fun c₀ cs hu => ?_
  apply wpS_seq
  apply wpS_region
  simp [wpOpsS, go_sem, recoverD, hu, Try.ntmps90, Exit.thenS]
  refine wpS_of_wp ?_
  simp only [Array.replicate_succ, Array.replicate_zero, List.push_toArray, List.nil_append, List.cons_append]
  go_wp2_with fail
  exact ⟨rfl, _, rfl, _, results_none rfl _ _ _, rfl, rfl, HF.out.1, HF.out.2⟩

set_option maxRecDepth 100000 in
set_option maxHeartbeats 4000000 in
theorem fails_add1 (b1 b2 : Nat) (w : World) (R R' : World → Prop)
    (hdo : Calls Try.prog 66 #[.pointer (some ⟨b1, 0, none⟩), .pointer (some ⟨b2, 0, none⟩)] (w.alloc (.cells #[.bool false] 4)) fun e w' => w'.heap[w.heap.size]? = some (.cells #[.bool false] 4 (0, 0)) ∧ ((e = .returned (.tuple #[]) ∧ R w') ∨ (((e = .panicked [{ v := failV, recovered := false }]) ∨ e = .panicked failP) ∧ R' w'))) :
    Calls Try.prog 65 #[.func (.func 66) #[] #[.pointer (some ⟨b1, 0, none⟩), .pointer (some ⟨b2, 0, none⟩)]] w fun e w' =>
      (e = .returned (.bool false) ∧ ∃ w1, R w1 ∧ w' = w1.setCell ⟨w.heap.size, 0, none⟩ (.bool false)) ∨ (e = .returned (.bool true) ∧ ∃ w1, R' w1 ∧ Touch (fun k => k = w.heap.size) w1 w') := by
  have hmf : ∀ (fn : Fn) (first cap : Array Value) (w : World), (Instr.makeFunc fn first cap).run Try.prog w = .ok (.func fn first cap) w := fun _ _ _ _ => rfl
  obtain ⟨Q, hQ⟩ : ∃ Q : Ending → World → Prop, (fun e w' => (e = .returned (.bool false) ∧ ∃ w1, R w1 ∧ w' = w1.setCell ⟨w.heap.size, 0, none⟩ (.bool false)) ∨ (e = .returned (.bool true) ∧ ∃ w1, R' w1 ∧ Touch (fun k => k = w.heap.size) w1 w')) = Q := ⟨_, rfl⟩
  have HQ : Hid ((∀ w1, R w1 → Q (.returned (.bool false)) (w1.setCell ⟨w.heap.size, 0, none⟩ (.bool false))) ∧ ∀ w1 w', R' w1 → Touch (fun k => k = w.heap.size) w1 w' → Q (.returned (.bool true)) w') := hid (by
    rw [← hQ]
    exact ⟨fun w1 h => .inl ⟨rfl, w1, h, rfl⟩, fun w1 w' h k => .inr ⟨rfl, w1, h, k⟩⟩)
  rw [hQ]
  clear hQ
  have HD := hid hdo
  clear hdo
  go_enter_defers Try.func65, Try.ntmps65
  go_wp2_with fail
  refine HD.out.mono ?_
  rintro e w2 ⟨hb, hh⟩
  obtain ⟨bI, hbI⟩ : ∃ b, w.heap.size = b := ⟨_, rfl⟩
  rw [hbI] at HQ hb ⊢
  rcases hh with ⟨rfl, hr⟩ | ⟨he, hr⟩
  · have hf2 : w2.frozen? ⟨bI, 0, none⟩ = false := frozen_of_row _ _ _ _ _ hb
    have hc2 : w2.cell? ⟨bI, 0, none⟩ = some (.bool false) := fit_cell (vs := [.bool false]) hb 0
    have hc3 := fit_cell (vs := [.bool false].set 0 (.bool false)) (setCell_block (o := 0) (xs := [.bool false]) (.bool false) hb) 0
    have HF := hid (HQ.out.1 w2 hr)
    clear hr hb HD HQ
    go_wp2_with fail
    refine leaves_cons (f := 90) (args := #[.pointer (some ⟨bI, 0, none⟩)]) (by simp) (by simp [go_sem]) ?_
    refine (fails1_idle _ _).mono ?_
    rintro e u' w'' ⟨rfl, rfl, rfl⟩
    exact ⟨_, by simp [results, Try.results65, go_sem, hc3], HF.out⟩
  · rcases he with rfl | rfl
    · go_wp2_with fail
      refine leaves_cons (f := 90) (args := #[.pointer (some ⟨bI, 0, none⟩)]) (by simp) (by simp [go_sem]) ?_
      refine (fails1_rec [] bI w2 hb).mono ?_
      rintro e u' w'' ⟨rfl, rfl, hb3, hT⟩
      have hc3 : w''.cell? ⟨bI, 0, none⟩ = some (.bool true) := fit_cell (vs := [.bool true]) hb3 0
      exact ⟨_, by simp [results, Try.results65, go_sem, hc3], HQ.out.2 _ _ hr hT⟩
    · go_wp2_with fail
      refine leaves_cons (f := 90) (args := #[.pointer (some ⟨bI, 0, none⟩)]) (by simp) (by simp [go_sem]) ?_
      refine (fails1_rec [{ v := failV, recovered := true }] bI w2 hb).mono ?_
      rintro e u' w'' ⟨rfl, rfl, hb3, hT⟩
      have hc3 : w''.cell? ⟨bI, 0, none⟩ = some (.bool true) := fit_cell (vs := [.bool true]) hb3 0
      exact ⟨_, by simp [results, Try.results65, go_sem, hc3], HQ.out.2 _ _ hr hT⟩

set_option maxRecDepth 100000 in
set_option maxHeartbeats 4000000 in
theorem fails_add2 (b1 b2 : Nat) (w : World) (R R' : World → Prop)
    (hdo : Calls Try.prog 68 #[.pointer (some ⟨b1, 0, none⟩), .pointer (some ⟨b2, 0, none⟩)] (w.alloc (.cells #[.bool false] 4)) fun e w' => w'.heap[w.heap.size]? = some (.cells #[.bool false] 4 (0, 0)) ∧ ((e = .returned (.tuple #[]) ∧ R w') ∨ (((e = .panicked [{ v := failV, recovered := false }]) ∨ e = .panicked failP) ∧ R' w'))) :
    Calls Try.prog 65 #[.func (.func 68) #[] #[.pointer (some ⟨b1, 0, none⟩), .pointer (some ⟨b2, 0, none⟩)]] w fun e w' =>
      (e = .returned (.bool false) ∧ ∃ w1, R w1 ∧ w' = w1.setCell ⟨w.heap.size, 0, none⟩ (.bool false)) ∨ (e = .returned (.bool true) ∧ ∃ w1, R' w1 ∧ Touch (fun k => k = w.heap.size) w1 w') := by
  have hmf : ∀ (fn : Fn) (first cap : Array Value) (w : World), (Instr.makeFunc fn first cap).run Try.prog w = .ok (.func fn first cap) w := fun _ _ _ _ => rfl
  obtain ⟨Q, hQ⟩ : ∃ Q : Ending → World → Prop, (fun e w' => (e = .returned (.bool false) ∧ ∃ w1, R w1 ∧ w' = w1.setCell ⟨w.heap.size, 0, none⟩ (.bool false)) ∨ (e = .returned (.bool true) ∧ ∃ w1, R' w1 ∧ Touch (fun k => k = w.heap.size) w1 w')) = Q := ⟨_, rfl⟩
  have HQ : Hid ((∀ w1, R w1 → Q (.returned (.bool false)) (w1.setCell ⟨w.heap.size, 0, none⟩ (.bool false))) ∧ ∀ w1 w', R' w1 → Touch (fun k => k = w.heap.size) w1 w' → Q (.returned (.bool true)) w') := hid (by
    rw [← hQ]
    exact ⟨fun w1 h => .inl ⟨rfl, w1, h, rfl⟩, fun w1 w' h k => .inr ⟨rfl, w1, h, k⟩⟩)
  rw [hQ]
  clear hQ
  have HD := hid hdo
  clear hdo
  go_enter_defers Try.func65, Try.ntmps65
  go_wp2_with fail
  refine HD.out.mono ?_
  rintro e w2 ⟨hb, hh⟩
  obtain ⟨bI, hbI⟩ : ∃ b, w.heap.size = b := ⟨_, rfl⟩
  rw [hbI] at HQ hb ⊢
  rcases hh with ⟨rfl, hr⟩ | ⟨he, hr⟩
  · have hf2 : w2.frozen? ⟨bI, 0, none⟩ = false := frozen_of_row _ _ _ _ _ hb
    have hc2 : w2.cell? ⟨bI, 0, none⟩ = some (.bool false) := fit_cell (vs := [.bool false]) hb 0
    have hc3 := fit_cell (vs := [.bool false].set 0 (.bool false)) (setCell_block (o := 0) (xs := [.bool false]) (.bool false) hb) 0
    have HF := hid (HQ.out.1 w2 hr)
    clear hr hb HD HQ
    go_wp2_with fail
    refine leaves_cons (f := 90) (args := #[.pointer (some ⟨bI, 0, none⟩)]) (by simp) (by simp [go_sem]) ?_
    refine (fails1_idle _ _).mono ?_
    rintro e u' w'' ⟨rfl, rfl, rfl⟩
    exact ⟨_, by simp [results, Try.results65, go_sem, hc3], HF.out⟩
  · rcases he with rfl | rfl
    · go_wp2_with fail
      refine leaves_cons (f := 90) (args := #[.pointer (some ⟨bI, 0, none⟩)]) (by simp) (by simp [go_sem]) ?_
      refine (fails1_rec [] bI w2 hb).mono ?_
      rintro e u' w'' ⟨rfl, rfl, hb3, hT⟩
      have hc3 : w''.cell? ⟨bI, 0, none⟩ = some (.bool true) := fit_cell (vs := [.bool true]) hb3 0
      exact ⟨_, by simp [results, Try.results65, go_sem, hc3], HQ.out.2 _ _ hr hT⟩
    · go_wp2_with fail
      refine leaves_cons (f := 90) (args := #[.pointer (some ⟨bI, 0, none⟩)]) (by simp) (by simp [go_sem]) ?_
      refine (fails1_rec [{ v := failV, recovered := true }] bI w2 hb).mono ?_
      rintro e u' w'' ⟨rfl, rfl, hb3, hT⟩
      have hc3 : w''.cell? ⟨bI, 0, none⟩ = some (.bool true) := fit_cell (vs := [.bool true]) hb3 0
      exact ⟨_, by simp [results, Try.results65, go_sem, hc3], HQ.out.2 _ _ hr hT⟩

set_option maxRecDepth 100000 in
set_option maxHeartbeats 4000000 in
theorem fails_impl (b1 b2 : Nat) (w : World) (R R' : World → Prop)
    (hdo : Calls Try.prog 87 #[.pointer (some ⟨b1, 0, none⟩), .pointer (some ⟨b2, 0, none⟩)] (w.alloc (.cells #[.bool false] 4)) fun e w' => w'.heap[w.heap.size]? = some (.cells #[.bool false] 4 (0, 0)) ∧ ((e = .returned (.tuple #[]) ∧ R w') ∨ (((e = .panicked [{ v := failV, recovered := false }]) ∨ e = .panicked failP) ∧ R' w'))) :
    Calls Try.prog 65 #[.func (.func 87) #[] #[.pointer (some ⟨b1, 0, none⟩), .pointer (some ⟨b2, 0, none⟩)]] w fun e w' =>
      (e = .returned (.bool false) ∧ ∃ w1, R w1 ∧ w' = w1.setCell ⟨w.heap.size, 0, none⟩ (.bool false)) ∨ (e = .returned (.bool true) ∧ ∃ w1, R' w1 ∧ Touch (fun k => k = w.heap.size) w1 w') := by
  have hmf : ∀ (fn : Fn) (first cap : Array Value) (w : World), (Instr.makeFunc fn first cap).run Try.prog w = .ok (.func fn first cap) w := fun _ _ _ _ => rfl
  obtain ⟨Q, hQ⟩ : ∃ Q : Ending → World → Prop, (fun e w' => (e = .returned (.bool false) ∧ ∃ w1, R w1 ∧ w' = w1.setCell ⟨w.heap.size, 0, none⟩ (.bool false)) ∨ (e = .returned (.bool true) ∧ ∃ w1, R' w1 ∧ Touch (fun k => k = w.heap.size) w1 w')) = Q := ⟨_, rfl⟩
  have HQ : Hid ((∀ w1, R w1 → Q (.returned (.bool false)) (w1.setCell ⟨w.heap.size, 0, none⟩ (.bool false))) ∧ ∀ w1 w', R' w1 → Touch (fun k => k = w.heap.size) w1 w' → Q (.returned (.bool true)) w') := hid (by
    rw [← hQ]
    exact ⟨fun w1 h => .inl ⟨rfl, w1, h, rfl⟩, fun w1 w' h k => .inr ⟨rfl, w1, h, k⟩⟩)
  rw [hQ]
  clear hQ
  have HD := hid hdo
  clear hdo
  go_enter_defers Try.func65, Try.ntmps65
  go_wp2_with fail
  refine HD.out.mono ?_
  rintro e w2 ⟨hb, hh⟩
  obtain ⟨bI, hbI⟩ : ∃ b, w.heap.size = b := ⟨_, rfl⟩
  rw [hbI] at HQ hb ⊢
  rcases hh with ⟨rfl, hr⟩ | ⟨he, hr⟩
  · have hf2 : w2.frozen? ⟨bI, 0, none⟩ = false := frozen_of_row _ _ _ _ _ hb
    have hc2 : w2.cell? ⟨bI, 0, none⟩ = some (.bool false) := fit_cell (vs := [.bool false]) hb 0
    have hc3 := fit_cell (vs := [.bool false].set 0 (.bool false)) (setCell_block (o := 0) (xs := [.bool false]) (.bool false) hb) 0
    have HF := hid (HQ.out.1 w2 hr)
    clear hr hb HD HQ
    go_wp2_with fail
    refine leaves_cons (f := 90) (args := #[.pointer (some ⟨bI, 0, none⟩)]) (by simp) (by simp [go_sem]) ?_
    refine (fails1_idle _ _).mono ?_
    rintro e u' w'' ⟨rfl, rfl, rfl⟩
    exact ⟨_, by simp [results, Try.results65, go_sem, hc3], HF.out⟩
  · rcases he with rfl | rfl
    · go_wp2_with fail
      refine leaves_cons (f := 90) (args := #[.pointer (some ⟨bI, 0, none⟩)]) (by simp) (by simp [go_sem]) ?_
      refine (fails1_rec [] bI w2 hb).mono ?_
      rintro e u' w'' ⟨rfl, rfl, hb3, hT⟩
      have hc3 : w''.cell? ⟨bI, 0, none⟩ = some (.bool true) := fit_cell (vs := [.bool true]) hb3 0
      exact ⟨_, by simp [results, Try.results65, go_sem, hc3], HQ.out.2 _ _ hr hT⟩
    · go_wp2_with fail
      refine leaves_cons (f := 90) (args := #[.pointer (some ⟨bI, 0, none⟩)]) (by simp) (by simp [go_sem]) ?_
      refine (fails1_rec [{ v := failV, recovered := true }] bI w2 hb).mono ?_
      rintro e u' w'' ⟨rfl, rfl, hb3, hT⟩
      have hc3 : w''.cell? ⟨bI, 0, none⟩ = some (.bool true) := fit_cell (vs := [.bool true]) hb3 0
      exact ⟨_, by simp [results, Try.results65, go_sem, hc3], HQ.out.2 _ _ hr hT⟩

end Go.Proofs.Ytfmahgobogelkaa.Ord

/- Plain facts about the reference's way to close under unit propagation. -/
namespace Go.Proofs.Ytfmahgobogelkaa.Ord

/-- A clause with which nothing is left to do. -/
def ClOk (K c : List Int) : Prop := (∃ l ∈ c, -l ∉ K) ∧ ∀ l ∈ c, (∀ m ∈ c, m ≠ l → -m ∈ K) → l ∈ K

/-- What the reference's unit knows of the numbers that it went through: none is open, or l is the only one. -/
def UI (K xs : List Int) (l : Int) : Prop := (l = 0 ∧ ∀ m ∈ xs, -m ∈ K) ∨ (l ≠ 0 ∧ l ∈ xs ∧ -l ∉ K ∧ l ∉ K ∧ ∀ m ∈ xs, m ≠ l → -m ∈ K)

/-- What the reference's unit answers. -/
def UR (K c : List Int) (l : Int) (is : Bool) : Prop :=
  (is = false ∧ l = 0 ∧ ∀ m ∈ c, -m ∈ K) ∨ (is = true ∧ l = 0 ∧ ClOk K c) ∨ (is = true ∧ l ≠ 0 ∧ l ∈ c ∧ -l ∉ K ∧ l ∉ K ∧ ∀ m ∈ c, m ≠ l → -m ∈ K)

theorem ui_nil (K : List Int) : UI K [] 0 := .inl ⟨rfl, by simp⟩

theorem take_cons_mem {xs : List Int} {k : Nat} {x y : Int} (hx : xs[k]? = some x) (h : y ∈ xs.take (k + 1)) : y ∈ xs.take k ∨ y = x := by
  rw [List.take_add_one, hx] at h
  simpa using h

theorem mem_take_succ {xs : List Int} {k : Nat} {x : Int} (hx : xs[k]? = some x) : x ∈ xs.take (k + 1) := by
  rw [List.take_add_one, hx]; simp

theorem mem_take_le {xs : List Int} {k : Nat} {y : Int} (h : y ∈ xs.take k) : y ∈ xs.take (k + 1) := by
  rw [List.take_add_one]; exact List.mem_append_left _ h

theorem ui_skip {K xs : List Int} {k : Nat} {x l : Int} (h : UI K (xs.take k) l) (hx : xs[k]? = some x) (hn : -x ∈ K) : UI K (xs.take (k + 1)) l := by
  rcases h with ⟨e, h⟩ | ⟨h0, h1, h2, h3, h4⟩
  · exact .inl ⟨e, fun m hm => (take_cons_mem hx hm).elim (h m) (fun e => by rw [e]; exact hn)⟩
  · exact .inr ⟨h0, mem_take_le h1, h2, h3, fun m hm hne => (take_cons_mem hx hm).elim (fun hm => h4 m hm hne) (fun e => by rw [e]; exact hn)⟩

theorem ui_same {K xs : List Int} {k : Nat} {x : Int} (h : UI K (xs.take k) x) (hx : xs[k]? = some x) (h0 : x ≠ 0) : UI K (xs.take (k + 1)) x := by
  rcases h with ⟨e, h⟩ | ⟨h0, h1, h2, h3, h4⟩
  · exact absurd e h0
  · exact .inr ⟨h0, mem_take_le h1, h2, h3, fun m hm hne => (take_cons_mem hx hm).elim (fun hm => h4 m hm hne) (fun e => absurd e hne)⟩

theorem ui_set {K xs : List Int} {k : Nat} {x l : Int} (h : UI K (xs.take k) l) (hx : xs[k]? = some x) (hn : -x ∉ K) (hk : x ∉ K) (h0 : x ≠ 0) (hl : l = 0) : UI K (xs.take (k + 1)) x := by
  rcases h with ⟨e, h⟩ | ⟨h0, -⟩
  · exact .inr ⟨h0, mem_take_succ hx, hn, hk, fun m hm hne => (take_cons_mem hx hm).elim (fun hm => h m hm) (fun e => absurd e hne)⟩
  · exact absurd hl h0

theorem ui_two {K c : List Int} {k : Nat} {x l : Int} (h : UI K (c.take k) l) (hx : c[k]? = some x) (hn : -x ∉ K) (hne : x ≠ l) (h1 : x ∈ K ∨ l ≠ 0) : ClOk K c := by
  have hxc := List.mem_of_getElem? hx
  refine ⟨⟨x, hxc, hn⟩, fun y hy hall => ?_⟩
  by_cases hyx : x = y
  · subst hyx
    rcases h1 with h1 | h1
    · exact h1
    · rcases h with ⟨e, -⟩ | ⟨_, h1, h2, -⟩
      · exact absurd e h1
      · exact absurd (hall l (List.mem_of_mem_take h1) (fun e => hne e.symm)) h2
  · exact absurd (hall x hxc hyx) hn

theorem ui_end {K c : List Int} {k : Nat} {l : Int} (h : UI K (c.take k) l) (hk : c.length ≤ k) : UR K c l (!decide (l = 0)) := by
  rw [List.take_of_length_le hk] at h
  rcases h with ⟨rfl, h⟩ | ⟨h0, h⟩
  · exact .inl ⟨by simp, rfl, h⟩
  · exact .inr (.inr ⟨by simp [h0], h0, h⟩)

/-- What is known to the reference while it goes through the clauses. -/
structure PR (n : Nat) (F : List (List Int)) (A K : List Int) : Prop where
  sound : ∀ a ∈ K, Der F A a
  asm : ∀ a ∈ A, a ∈ K
  cons : ∀ a ∈ K, -a ∉ K
  nod : K.Nodup
  kok : ∀ a ∈ K, LitOk n a

theorem pr_start {n : Nat} {F : List (List Int)} {A K : List Int} (h : PA n A K A.length) (hA : ∀ a ∈ A, LitOk n a) : PR n F A K := by
  obtain h' : PU n F A K 0 := pu_start h hA
  exact ⟨h'.sound, h'.asm, h'.cons, h'.knod, h'.kok⟩

theorem pr_len {n : Nat} {F : List (List Int)} {A K : List Int} (h : PR n F A K) : K.length ≤ n := lits_le h.nod h.cons h.kok

theorem pr_add {n : Nat} {F : List (List Int)} {A K c : List Int} {l : Int} (h : PR n F A K) (hF : ClsOk n F) (hc : c ∈ F) (h1 : l ∈ c) (h2 : -l ∉ K) (h3 : l ∉ K) (h4 : ∀ m ∈ c, m ≠ l → -m ∈ K) : PR n F A (K ++ [l]) := by
  have hl := hF c hc l h1
  refine ⟨fun a ha => ?_, fun a ha => List.mem_append_left _ (h.asm a ha), fun a ha hn => ?_, ?_, fun a ha => ?_⟩
  · rcases List.mem_append.1 ha with ha | ha
    · exact h.sound a ha
    · rw [List.mem_singleton] at ha
      subst ha
      exact .unit hc h1 fun m hm hne => h.sound _ (h4 m hm hne)
  · unfold LitOk at hl
    simp only [List.mem_append, List.mem_singleton] at ha hn
    rcases ha with ha | ha <;> rcases hn with hn | hn
    · exact h.cons a ha hn
    · exact h2 (by rw [← hn, Int.neg_neg]; exact ha)
    · exact h2 (by rw [← ha]; exact hn)
    · omega
  · rw [List.nodup_append]
    refine ⟨h.nod, by simp, fun a ha c hc => ?_⟩
    rw [List.mem_singleton] at hc
    rintro rfl
    exact h3 (by rw [← hc]; exact ha)
  · rcases List.mem_append.1 ha with ha | ha
    · exact h.kok a ha
    · rw [List.mem_singleton] at ha
      rw [ha]; exact hl

theorem pr_bad {n : Nat} {F : List (List Int)} {A K c : List Int} (h : PR n F A K) (hc : c ∈ F) (h4 : ∀ m ∈ c, -m ∈ K) : Bad F A := .inr ⟨c, hc, fun l hl => h.sound _ (h4 l hl)⟩

/-- In the middle of a round: b were known when it began. -/
def PRI (n : Nat) (F : List (List Int)) (A K : List Int) (b i : Nat) : Prop := PR n F A K ∧ b ≤ K.length ∧ (K.length = b → ∀ c ∈ F.take i, ClOk K c)

theorem pri_start {n : Nat} {F : List (List Int)} {A K : List Int} (h : PR n F A K) : PRI n F A K K.length 0 := ⟨h, Nat.le_refl _, fun _ => by simp⟩

theorem pri_ok {n : Nat} {F : List (List Int)} {A K c : List Int} {b i : Nat} (h : PRI n F A K b i) (hc : F[i]? = some c) (hk : ClOk K c) : PRI n F A K b (i + 1) := by
  refine ⟨h.1, h.2.1, fun e d hd => ?_⟩
  rw [List.take_add_one, hc] at hd
  rcases List.mem_append.1 hd with hd | hd
  · exact h.2.2 e d hd
  · simp at hd; rw [hd]; exact hk

theorem pri_add {n : Nat} {F : List (List Int)} {A K c : List Int} {b i : Nat} {l : Int} (h : PRI n F A K b i) (hF : ClsOk n F) (hc : F[i]? = some c) (h1 : l ∈ c) (h2 : -l ∉ K) (h3 : l ∉ K) (h4 : ∀ m ∈ c, m ≠ l → -m ∈ K) : PRI n F A (K ++ [l]) b (i + 1) := by
  have hb := h.2.1
  refine ⟨pr_add h.1 hF (List.mem_of_getElem? hc) h1 h2 h3 h4, by simp; omega, fun e => ?_⟩
  simp at e
  omega

/-- Before a round: the first one, or something was new in the last one, or nothing is left to do. -/
def PRO (n : Nat) (F : List (List Int)) (A K : List Int) (b : Int) : Prop := PR n F A K ∧ b ≤ K.length ∧ -1 ≤ b ∧ (b = K.length → ∀ c ∈ F, ClOk K c)

theorem pro_start {n : Nat} {F : List (List Int)} {A K : List Int} (h : PR n F A K) : PRO n F A K (-1) := ⟨h, by omega, by omega, fun e => by omega⟩

theorem pro_next {n : Nat} {F : List (List Int)} {A K : List Int} {b i : Nat} (h : PRI n F A K b i) (hi : F.length ≤ i) : PRO n F A K b := by
  refine ⟨h.1, by have := h.2.1; omega, by omega, fun e c hc => h.2.2 (by omega) c ?_⟩
  rw [List.take_of_length_le hi]
  exact hc

theorem pro_closed {n : Nat} {F : List (List Int)} {A K : List Int} {b : Int} (h : PRO n F A K b) (hb : ¬ b < K.length) : Closed F A K := by
  have hall := h.2.2.2 (by have := h.2.1; omega)
  exact ⟨h.1.sound, h.1.asm, h.1.cons, fun c hc => (hall c hc).2, fun c hc => (hall c hc).1⟩

/-- What Units answers, in layers 4's own words. -/
noncomputable def unitsV (n : Int) (F : List (List Int)) (A : List Int) : List Int × Bool × Int :=
  if cnfCheck n F = 0 then (if A.all (fun a => !badLit n a) then (upL n.toNat F A, upF F A, 0) else ([], false, 3)) else ([], false, cnfCheck n F)

theorem unitsV_err {n e : Int} {F : List (List Int)} (h : cnfCheck n F = e) (h0 : e ≠ 0) (A : List Int) : unitsV n F A = ([], false, e) := by
  unfold unitsV
  rw [h, if_neg h0]

theorem unitsV_arg {n : Int} {F : List (List Int)} {A : List Int} {k : Nat} {x : Int} (h : cnfCheck n F = 0) (hx : A[k]? = some x) (hb : badLit n x = true) : unitsV n F A = ([], false, 3) := by
  unfold unitsV
  rw [if_pos h, if_neg]
  intro ha
  have := List.all_eq_true.1 ha x (List.mem_of_getElem? hx)
  rw [hb] at this
  cases this

theorem unitsV_ok {n : Nat} {F : List (List Int)} {A : List Int} (h : cnfCheck n F = 0) (ha : A.any (badLit n) = false) : unitsV n F A = (upL n F A, upF F A, 0) := by
  unfold unitsV
  rw [if_pos h, if_pos]
  · rfl
  · rw [List.all_eq_true]
    intro x hx
    have := List.any_eq_false.1 ha x hx
    simpa using this

theorem lit_ok_of {n : Nat} {x : Int} (h : badLit n x = false) : LitOk n x := by
  unfold badLit at h
  simp only [Bool.or_eq_false_iff, beq_eq_false_iff_ne, decide_eq_false_iff_not] at h
  unfold LitOk
  omega

theorem lit_bad_of {n : Nat} {x : Int} (h : badLit n x = true) : x = 0 ∨ (n : Int) < x ∨ x < -(n : Int) := by
  unfold badLit at h
  simp only [Bool.or_eq_true, beq_iff_eq, decide_eq_true_eq] at h
  omega

theorem asm_ok_of {n : Nat} {A : List Int} (h : A.any (badLit n) = false) : ∀ a ∈ A, LitOk n a := fun a ha => lit_ok_of (by have := List.any_eq_false.1 h a ha; simpa using this)

/-- What a formula that is valid keeps to. -/
theorem cnf_valid {n : Int} {F : List (List Int)} (h : cnfCheck n F = 0) : 0 ≤ n ∧ n ≤ 1048576 ∧ F.length ≤ 1048576 ∧ (∀ c ∈ F, c.length ≤ 4096) ∧ ClsOk n.toNat F := by
  unfold cnfCheck at h
  split at h
  · simp at h
  rename_i h1
  split at h
  · simp at h
  rename_i h2
  have hall : ∀ c ∈ F, litCheck n c = 0 := by
    cases hf : F.find? (fun c => litCheck n c != 0) with
    | none =>
      intro c hc
      have := List.find?_eq_none.1 hf c hc
      simpa using this
    | some d =>
      rw [hf] at h
      have := List.find?_some hf
      simp at this
      exact absurd h this
  have hl : ∀ c ∈ F, c.length ≤ 4096 ∧ c.any (badLit n) = false := fun c hc => by
    have h3 := hall c hc
    unfold litCheck at h3
    split at h3
    · simp at h3
    split at h3
    · simp at h3
    split at h3
    · simp at h3
    rename_i h4 h5
    exact ⟨by omega, by simpa using h5⟩
  obtain ⟨m, rfl⟩ := Int.eq_ofNat_of_zero_le (show 0 ≤ n by omega)
  exact ⟨by omega, by omega, by omega, fun c hc => (hl c hc).1, fun c hc => asm_ok_of (hl c hc).2⟩

end Go.Proofs.Ytfmahgobogelkaa.Ord
