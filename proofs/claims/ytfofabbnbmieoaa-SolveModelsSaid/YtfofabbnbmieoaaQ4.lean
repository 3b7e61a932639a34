/- Plain facts about rup's base between two calls. -/
import Derived.OrdersHeld
import Derived.Deep.RegionHeld3
import Derived.Test.YtfofabbnbmieoaaQ0
import Derived.Test.YtfofabbnbmieoaaQ3

namespace Go.Proofs.Ytfofabbnbmieoaa.Ord

/-- Each clause of F is among C up to order, or always holds, or one of its literals is known. -/
def All (F C : List (List Int)) (K : List Int) : Prop := ∀ f ∈ F, Taut f ∨ (∃ d ∈ C, ∀ l, l ∈ d ↔ l ∈ f) ∨ ∃ l ∈ f, l ∈ K

/-- The base between two calls, where nothing has failed. -/
structure Top (n : Nat) (F C : List (List Int)) (Wt : Int → List Nat) (K : List Int) : Prop where
  wi : WI n C Wt
  bp : PrB C K
  cons : ∀ x ∈ K, -x ∉ K
  nod : K.Nodup
  kok : ∀ x ∈ K, LitOk n x
  snd : ∀ x ∈ K, Der F [] x
  sub : ∀ c ∈ C, ∃ f ∈ F, ∀ l, l ∈ c ↔ l ∈ f
  all : All F C K

theorem All.mono {F C C' : List (List Int)} {K K' : List Int} (h : All F C K) (hC : ∀ d ∈ C, ∃ e ∈ C', ∀ l, l ∈ e ↔ l ∈ d) (hK : ∀ x ∈ K, x ∈ K') : All F C' K' := fun f hf => by
  rcases h f hf with h1 | ⟨d, hd, hl⟩ | ⟨l, hl, hk⟩
  · exact .inl h1
  · obtain ⟨e, he, hle⟩ := hC d hd
    exact .inr (.inl ⟨e, he, fun l => (hle l).trans (hl l)⟩)
  · exact .inr (.inr ⟨l, hl, hK l hk⟩)

theorem All.app {F C : List (List Int)} {K c : List Int} (h : All F C K) (hc : Taut c ∨ (∃ d ∈ C, ∀ l, l ∈ d ↔ l ∈ c) ∨ ∃ l ∈ c, l ∈ K) : All (F ++ [c]) C K := fun f hf => by
  rcases List.mem_append.1 hf with q | q
  · exact h f q
  · rw [List.mem_singleton.1 q]; exact hc

section
variable {n : Nat} {F C C' : List (List Int)} {Wt Wt' : Int → List Nat} {K K' K0 A : List Int}

/-- The base before clauses are gone through under assumptions. -/
theorem Top.start (h : Top n F C Wt K) {R : List Int} (hK : K' = K ++ R) (hcons : ∀ x ∈ K', -x ∉ K') (hnod : K'.Nodup) (hkok : ∀ x ∈ K', LitOk n x) (hA : ∀ x ∈ R, x ∈ A) : RI n F A C Wt K' K K.length := by
  subst hK
  refine ⟨h.wi, fun t c x y ht hx hy => ?_, h.bp, fun x hx => List.mem_append_left _ hx, hcons, hnod, hkok, fun x hx => ?_, h.sub, by simp⟩
  · rw [List.take_left]
    have h0 := h.bp t c x y ht hx hy
    have hcm := h.wi.cls c (List.mem_of_getElem? ht)
    have hx0 := (hcm.2.2.1 x (List.mem_of_getElem? hx)).1
    have hy0 := (hcm.2.2.1 y (List.mem_of_getElem? hy)).1
    exact ⟨fun hh => List.mem_append_left _ (h0.1 (hh.elim id fun q => absurd q.1 hx0)), fun hh => List.mem_append_left _ (h0.2 (hh.elim id fun q => absurd q.1 hy0))⟩
  · rcases List.mem_append.1 hx with q | q
    · exact der_mono (sub_of_subset fun c hc => hc) (fun a ha => by simp at ha) (h.snd x q)
    · exact .asm (hA x q)

/-- Where all is gone through, K is what follows. -/
theorem RI.done (h : RI n F A C Wt K K0 K.length) (hF : ClsOk n F) (ha : All F C K) (hA : ∀ x ∈ A, x ∈ K) : Closed F A K := by
  have hcl := h.closed
  have key : ∀ f ∈ F, (∃ l ∈ f, -l ∉ K) ∧ ∀ l ∈ f, (∀ m ∈ f, m ≠ l → -m ∈ K) → l ∈ K := fun f hf => by
    rcases ha f hf with ⟨x, hx, hnx⟩ | ⟨d, hd, hl⟩ | ⟨l, hl, hk⟩
    · refine ⟨?_, fun l hl hall => ?_⟩
      · by_cases q : -x ∈ K
        · exact ⟨-x, hnx, fun p => h.cons _ q (by rw [Int.neg_neg] at p ⊢; exact p)⟩
        · exact ⟨x, hx, q⟩
      · by_cases q1 : x = l
        · by_cases q2 : -x = l
          · have := (hF f hf x hx).1
            omega
          · have := hall (-x) hnx q2
            rw [Int.neg_neg] at this
            rw [← q1]; exact this
        · have h1 := hall x hx q1
          by_cases q2 : -x = l
          · rw [← q2]; exact h1
          · have h2 := hall (-x) hnx q2
            rw [Int.neg_neg] at h2
            exact absurd h1 (h.cons x h2)
    · obtain ⟨⟨l, h1, h2⟩, h3⟩ := hcl d hd
      exact ⟨⟨l, (hl l).1 h1, h2⟩, fun l hlf hall => h3 l ((hl l).2 hlf) fun m hm hne => hall m ((hl m).1 hm) hne⟩
    · refine ⟨⟨l, hl, h.cons l hk⟩, fun l' _ hall => ?_⟩
      by_cases q : l = l'
      · rw [← q]; exact hk
      · exact absurd (hall l hl q) (h.cons l hk)
  exact ⟨h.snd, hA, h.cons, fun c hc l hl => (key c hc).2 l hl, fun c hc => (key c hc).1⟩

/-- The base behind a clause that was added. -/
theorem RI.top (h : RI n F [] C Wt K K0 K.length) (ha : All F C K) : Top n F C Wt K := by
  refine ⟨h.wi, fun t c x y ht hx hy => ?_, h.cons, h.nod, h.kok, h.snd, h.sub, ha⟩
  have h0 := h.pr t c x y ht hx hy
  rw [List.take_of_length_le (Nat.le_refl _)] at h0
  exact ⟨fun q => h0.1 (.inl q), fun q => h0.2 (.inl q)⟩

theorem Top.taut (h : Top n F C Wt K) {c : List Int} (hc : Taut c) : Top n (F ++ [c]) C Wt K :=
  ⟨h.wi, h.bp, h.cons, h.nod, h.kok, fun x hx => der_mono (sub_of_subset fun _ hd => List.mem_append_left _ hd) (fun _ ha => ha) (h.snd x hx), fun d hd => let ⟨f, hf, hl⟩ := h.sub d hd; ⟨f, List.mem_append_left _ hf, hl⟩, h.all.app (.inl hc)⟩

end

/-- A clause's literals while two that are not false are brought to its head: j are looked at, p brought. -/
structure OI (K ys l : List Int) (p j : Nat) : Prop where
  same : Same ys l
  p2 : p ≤ 2
  pj : p ≤ j
  fst : ∀ (t : Nat) (x : Int), t < p → l[t]? = some x → -x ∉ K
  rest : p < 2 → ∀ (t : Nat) (x : Int), p ≤ t → t < j → l[t]? = some x → -x ∈ K

section
variable {K ys l : List Int} {p j : Nat} {x : Int}

theorem OI.start (K : List Int) {ys : List Int} (h : ys.Nodup) : OI K ys ys 0 0 := ⟨⟨rfl, h, fun _ => Iff.rfl⟩, by omega, by omega, fun t x ht => by omega, fun _ t x _ ht => by omega⟩

theorem OI.skip (h : OI K ys l p j) (hx : l[j]? = some x) (hk : -x ∈ K ∨ ¬ p < 2) : OI K ys l p (j + 1) :=
  ⟨h.same, h.p2, by have := h.pj; omega, h.fst, fun hp t y h1 h2 hy => by
    by_cases q : t < j
    · exact h.rest hp t y h1 q hy
    · have : t = j := by omega
      subst this
      rw [hx] at hy
      injection hy with hy
      rw [← hy]
      exact hk.resolve_right (fun q => q hp)⟩

theorem OI.take (h : OI K ys l p j) (hx : l[j]? = some x) (hk : -x ∉ K) (hp : p < 2) : OI K ys (swapL l p j) (p + 1) (j + 1) := by
  have hj := (List.getElem?_eq_some_iff.1 hx).1
  have hpj := h.pj
  refine ⟨?_, by omega, by omega, fun t y ht hy => ?_, fun hp2 t y h1 h2 hy => ?_⟩
  · have := same_swap (c := l) (j := p) (k := j) (by omega) hj h.same.2.1
    exact ⟨this.1.trans h.same.1, this.2.1, fun z => (this.2.2 z).trans (h.same.2.2 z)⟩
  · rw [swapL_get (by omega) hj] at hy
    by_cases q1 : t = j
    · rw [if_pos q1] at hy
      have : p = j := by omega
      rw [this, hx] at hy
      injection hy with hy
      rw [← hy]; exact hk
    · rw [if_neg q1] at hy
      by_cases q2 : t = p
      · rw [if_pos q2, hx] at hy
        injection hy with hy
        rw [← hy]; exact hk
      · rw [if_neg q2] at hy
        exact h.fst t y (by omega) hy
  · rw [swapL_get (by omega) hj] at hy
    by_cases q1 : t = j
    · rw [if_pos q1] at hy
      exact h.rest hp p y (Nat.le_refl _) (by omega) hy
    · rw [if_neg q1, if_neg (by omega)] at hy
      exact h.rest hp t y (by omega) (by omega) hy

theorem OI.none (h : OI K ys l 0 j) (hj : l.length ≤ j) : ∀ x ∈ ys, -x ∈ K := fun x hx => by
  obtain ⟨t, ht⟩ := List.mem_iff_getElem?.1 ((h.same.2.2 x).2 hx)
  have := (List.getElem?_eq_some_iff.1 ht).1
  exact h.rest (by omega) t x (by omega) (by omega) ht

theorem OI.one (h : OI K ys l 1 j) (hj : l.length ≤ j) {x0 : Int} (h0 : l[0]? = some x0) : -x0 ∉ K ∧ ∀ x ∈ ys, x ≠ x0 → -x ∈ K := by
  refine ⟨h.fst 0 x0 (by omega) h0, fun x hx hne => ?_⟩
  obtain ⟨t, ht⟩ := List.mem_iff_getElem?.1 ((h.same.2.2 x).2 hx)
  have := (List.getElem?_eq_some_iff.1 ht).1
  match t, ht with
  | 0, ht => rw [h0] at ht; injection ht with ht; exact absurd ht.symm hne
  | t + 1, ht => exact h.rest (by omega) (t + 1) x (by omega) (by omega) ht

end

section
variable {n : Nat} {F C : List (List Int)} {Wt Wt' : Int → List Nat} {K K1 c l : List Int} {x0 x1 : Int}

/-- What is known behind a set. -/
structure KX (n : Nat) (F : List (List Int)) (K K1 : List Int) : Prop where
  pre : ∃ R, K1 = K ++ R
  cons : ∀ x ∈ K1, -x ∉ K1
  nod : K1.Nodup
  kok : ∀ x ∈ K1, LitOk n x
  snd : ∀ x ∈ K1, Der F [] x

theorem Top.kx (h : Top n F C Wt K) (c : List Int) : KX n (F ++ [c]) K K := ⟨⟨[], by simp⟩, h.cons, h.nod, h.kok, fun x hx => der_mono (sub_of_subset fun _ hd => List.mem_append_left _ hd) (fun _ ha => ha) (h.snd x hx)⟩

theorem KX.one (h : KX n F K K1) (h0 : x0 ∉ K1) (hn : -x0 ∉ K1) (hok : LitOk n x0) (hd : Der F [] x0) : KX n F K (K1 ++ [x0]) := by
  refine ⟨let ⟨R, hR⟩ := h.pre; ⟨R ++ [x0], by rw [hR, List.append_assoc]⟩, fun x hx hm => ?_, ?_, fun x hx => ?_, fun x hx => ?_⟩
  · rcases List.mem_append.1 hx with q | q <;> rcases List.mem_append.1 hm with p | p
    · exact h.cons x q p
    · have e : -x = x0 := by simpa using p
      exact hn (by rw [← e, Int.neg_neg]; exact q)
    · have e : x = x0 := by simpa using q
      exact hn (by rw [← e]; exact p)
    · have e1 : x = x0 := by simpa using q
      have e2 : -x = x0 := by simpa using p
      have := hok.1
      omega
  · exact List.nodup_append.2 ⟨h.nod, by simp, fun x hx y hy => by
      have : y = x0 := by simpa using hy
      rintro rfl
      exact h0 (this ▸ hx)⟩
  · rcases List.mem_append.1 hx with q | q
    · exact h.kok x q
    · have : x = x0 := by simpa using q
      rw [this]; exact hok
  · rcases List.mem_append.1 hx with q | q
    · exact h.snd x q
    · have : x = x0 := by simpa using q
      rw [this]; exact hd

/-- The base before a clause of one literal is gone through. -/
theorem Top.single (h : Top n F C Wt K) (hk : KX n (F ++ [c]) K K1) (h0 : x0 ∈ c) (hm : x0 ∈ K1) : RI n (F ++ [c]) [] C Wt K1 [] K.length ∧ All (F ++ [c]) C K1 := by
  obtain ⟨R, hR⟩ := hk.pre
  subst hR
  refine ⟨⟨h.wi, fun t d x y ht hx hy => ?_, fun t d x y _ _ _ => ⟨fun q => by simp at q, fun q => by simp at q⟩, fun x hx => by simp at hx, hk.cons, hk.nod, hk.kok, hk.snd, fun d hd => let ⟨f, hf, hl⟩ := h.sub d hd; ⟨f, List.mem_append_left _ hf, hl⟩, by simp⟩, (h.all.mono (fun d hd => ⟨d, hd, fun _ => Iff.rfl⟩) fun x hx => List.mem_append_left _ hx).app (.inr (.inr ⟨x0, h0, hm⟩))⟩
  rw [List.take_left]
  have h0 := h.bp t d x y ht hx hy
  have hcm := h.wi.cls d (List.mem_of_getElem? ht)
  have hx0 := (hcm.2.2.1 x (List.mem_of_getElem? hx)).1
  have hy0 := (hcm.2.2.1 y (List.mem_of_getElem? hy)).1
  exact ⟨fun hh => List.mem_append_left _ (h0.1 (hh.elim id fun q => absurd q.1 hx0)), fun hh => List.mem_append_left _ (h0.2 (hh.elim id fun q => absurd q.1 hy0))⟩

/-- The base before a clause of more literals is gone through. -/
theorem Top.push (h : Top n F C Wt K) (hk : KX n (F ++ [c]) K K1) (hl2 : 2 ≤ l.length) (hnd : l.Nodup) (hok : ∀ x ∈ l, LitOk n x) (hop : ∀ x ∈ l, -x ∉ l) (hlc : ∀ x, x ∈ l ↔ x ∈ c) (h0 : l[0]? = some x0) (h1 : l[1]? = some x1) (hn0 : -x0 ∉ K) (hn1 : -x1 ∉ K ∨ x0 ∈ K1)
    (hw : ∀ b, Wt' b = if b = x0 ∨ b = x1 then Wt b ++ [C.length] else Wt b) : RI n (F ++ [c]) [] (C ++ [l]) Wt' K1 [] K.length ∧ All (F ++ [c]) (C ++ [l]) K1 := by
  obtain ⟨R, hR⟩ := hk.pre
  subst hR
  have hget : ∀ (t : Nat) (d : List Int), (C ++ [l])[t]? = some d → (t < C.length ∧ C[t]? = some d) ∨ (t = C.length ∧ d = l) := fun t d ht => by
    by_cases q : t < C.length
    · rw [List.getElem?_append_left q] at ht; exact .inl ⟨q, ht⟩
    · rw [List.getElem?_append_right (by omega)] at ht
      have h2 := (List.getElem?_eq_some_iff.1 ht).1
      simp at h2
      have h3 : t = C.length := by omega
      subst h3
      simp at ht
      exact .inr ⟨rfl, ht.symm⟩
  refine ⟨⟨⟨fun d hd => ?_, fun t d b ht => ?_, fun b t ht => ?_⟩, fun t d x y ht hx hy => ?_, fun t d x y _ _ _ => ⟨fun q => by simp at q, fun q => by simp at q⟩, fun x hx => by simp at hx, hk.cons, hk.nod, hk.kok, hk.snd, fun d hd => ?_, by simp⟩, ?_⟩
  · rcases List.mem_append.1 hd with q | q
    · exact h.wi.cls d q
    · rw [List.mem_singleton.1 q]; exact ⟨hl2, hnd, hok, hop⟩
  · rw [hw b]
    rcases hget t d ht with ⟨q1, q2⟩ | ⟨q1, q2⟩
    · have h3 := h.wi.cnt t d b q2
      split
      · rw [List.count_append, h3]
        have : ([C.length] : List Nat).count t = 0 := by rw [List.count_singleton]; simp; omega
        omega
      · exact h3
    · subst q1 q2
      have h3 : (Wt b).count C.length = 0 := List.count_eq_zero.2 fun q => by have := h.wi.lt b _ q; omega
      have h4 : (d[0]? = some b ∨ d[1]? = some b) ↔ (b = x0 ∨ b = x1) := by
        rw [h0, h1]
        constructor
        · rintro (q | q)
          · injection q with q; exact .inl q.symm
          · injection q with q; exact .inr q.symm
        · rintro (q | q)
          · exact .inl (by rw [q])
          · exact .inr (by rw [q])
      by_cases q : b = x0 ∨ b = x1
      · rw [if_pos q, if_pos (h4.2 q), List.count_append, h3]
        simp
      · rw [if_neg q, if_neg (fun p => q (h4.1 p)), h3]
  · rw [hw b] at ht
    rw [List.length_append]
    split at ht
    · rcases List.mem_append.1 ht with q | q
      · have := h.wi.lt b t q; omega
      · rw [List.mem_singleton.1 q]; simp
    · have := h.wi.lt b t ht; omega
  · rw [List.take_left]
    rcases hget t d ht with ⟨q1, q2⟩ | ⟨q1, q2⟩
    · have h0 := h.bp t d x y q2 hx hy
      have hcm := h.wi.cls d (List.mem_of_getElem? q2)
      have hx0 := (hcm.2.2.1 x (List.mem_of_getElem? hx)).1
      have hy0 := (hcm.2.2.1 y (List.mem_of_getElem? hy)).1
      exact ⟨fun hh => List.mem_append_left _ (h0.1 (hh.elim id fun q => absurd q.1 hx0)), fun hh => List.mem_append_left _ (h0.2 (hh.elim id fun q => absurd q.1 hy0))⟩
    · subst q2
      rw [h0] at hx
      rw [h1] at hy
      injection hx with hx
      injection hy with hy
      subst hx hy
      have hx0 := (hok x0 (List.mem_of_getElem? h0)).1
      have hy0 := (hok x1 (List.mem_of_getElem? h1)).1
      exact ⟨fun hh => hh.elim (fun q => absurd q hn0) (fun q => absurd q.1 hx0), fun hh => hh.elim (fun q => hn1.elim (fun p => absurd q p) id) (fun q => absurd q.1 hy0)⟩
  · rcases List.mem_append.1 hd with q | q
    · obtain ⟨f, hf, hl⟩ := h.sub d q
      exact ⟨f, List.mem_append_left _ hf, hl⟩
    · rw [List.mem_singleton.1 q]; exact ⟨c, by simp, hlc⟩
  · exact (h.all.mono (fun d hd => ⟨d, List.mem_append_left _ hd, fun _ => Iff.rfl⟩) fun x hx => List.mem_append_left _ hx).app (.inr (.inl ⟨l, by simp, hlc⟩))

end

end Go.Proofs.Ytfofabbnbmieoaa.Ord

/- Plain facts about the solver: levels and reasons, and what propagation leaves. -/
namespace Go.Proofs.Ytfofabbnbmieoaa.Ord

/-- The level of a place of the trail, where levels begin at bs. -/
def lvl (bs : List Nat) (i : Nat) : Nat := (bs.filter fun b => decide (b ≤ i)).length

theorem lvl_le (bs : List Nat) (i : Nat) : lvl bs i ≤ bs.length := List.length_filter_le _ _

theorem lvl_full {bs : List Nat} {i : Nat} (h : ∀ b ∈ bs, b ≤ i) : lvl bs i = bs.length := by
  unfold lvl
  rw [List.filter_eq_self.2 fun b hb => decide_eq_true (h b hb)]

theorem lvl_app (as1 bs : List Nat) (i : Nat) : lvl (as1 ++ bs) i = lvl as1 i + lvl bs i := by simp [lvl]

theorem lvl_none {bs : List Nat} {i : Nat} (h : ∀ b ∈ bs, i < b) : lvl bs i = 0 := by
  unfold lvl
  rw [List.length_eq_zero_iff, List.filter_eq_nil_iff]
  intro b hb
  have := h b hb
  simp
  omega

theorem lvl_mono (bs : List Nat) {i j : Nat} (h : i ≤ j) : lvl bs i ≤ lvl bs j := by
  unfold lvl
  induction bs with
  | nil => simp
  | cons b t ih =>
    simp only [List.filter_cons]
    by_cases h1 : b ≤ i
    · rw [if_pos (by simpa using h1), if_pos (by simp; omega)]
      simp only [List.length_cons]; omega
    · rw [if_neg (by simpa using h1)]
      split
      · simp only [List.length_cons]; omega
      · exact ih

/-- Places below the level k + 1. -/
theorem lvl_lt_iff {bs : List Nat} (h : bs.Pairwise (· < ·)) {k b : Nat} (hk : bs[k]? = some b) (i : Nat) : lvl bs i ≤ k ↔ i < b := by
  obtain ⟨hkl, hkb⟩ := List.getElem?_eq_some_iff.1 hk
  have e : bs = bs.take k ++ b :: bs.drop (k + 1) := by
    rw [← hkb, ← List.drop_eq_getElem_cons hkl, List.take_append_drop]
  have hp := h
  rw [e, List.pairwise_append] at hp
  obtain ⟨h1, h2, h3⟩ := hp
  rw [List.pairwise_cons] at h2
  have hlen : (bs.take k).length = k := by rw [List.length_take]; omega
  constructor
  · intro hl
    by_cases q : i < b
    · exact q
    · exfalso
      have h4 : lvl (bs.take k) i = k := by
        rw [lvl_full fun c hc => by have := h3 c hc b (by simp); omega, hlen]
      have h5 : 1 ≤ lvl (b :: bs.drop (k + 1)) i := by
        unfold lvl
        rw [List.filter_cons, if_pos (by simp; omega)]
        simp
      rw [e, lvl_app] at hl
      omega
  · intro q
    rw [e, lvl_app, lvl_none (bs := b :: bs.drop (k + 1)) fun c hc => by
      rcases List.mem_cons.1 hc with m | m
      · rw [m]; exact q
      · have := h2.1 c m; omega]
    have := lvl_le (bs.take k) i
    omega

/-- Below a boundary the levels behind it make no difference. -/
theorem lvl_take {bs : List Nat} (h : bs.Pairwise (· < ·)) {k b i : Nat} (hk : bs[k]? = some b) (hi : i < b) : lvl (bs.take k) i = lvl bs i := by
  obtain ⟨hkl, hkb⟩ := List.getElem?_eq_some_iff.1 hk
  have e : bs = bs.take k ++ b :: bs.drop (k + 1) := by
    rw [← hkb, ← List.drop_eq_getElem_cons hkl, List.take_append_drop]
  have hp := h
  rw [e, List.pairwise_append] at hp
  obtain ⟨h1, h2, h3⟩ := hp
  rw [List.pairwise_cons] at h2
  conv => rhs; rw [e, lvl_app]
  rw [lvl_none (bs := b :: bs.drop (k + 1)) fun c hc => by
      rcases List.mem_cons.1 hc with m | m
      · rw [m]; exact hi
      · have := h2.1 c m; omega]
  omega

/-- All literals. -/
def allL (n : Nat) : List Int := byVar n fun _ => true

theorem mem_allL {n : Nat} {a : Int} : a ∈ allL n ↔ LitOk n a := by simp [allL, mem_byVar]

/-- Each literal that is neither decided nor of level 0 has a clause from which it follows. -/
def RsOk (C : List (List Int)) (K Rz : List Int) (bs : List Nat) : Prop :=
  ∀ (i : Nat) (a : Int), K[i]? = some a → i ∉ bs → 0 < lvl bs i → ∃ (r : Nat) (c : List Int), Rz[i]? = some (r : Int) ∧ C[r]? = some c ∧ a ∈ c ∧ ∀ m ∈ c, m ≠ a → ∃ j, j < i ∧ K[j]? = some (-m)

/-- What is known at level 0. -/
def k0 (bs : List Nat) (K : List Int) : List Int := match bs with | [] => K | b :: _ => K.take b

theorem k0_sub {bs : List Nat} {K : List Int} {x : Int} (h : x ∈ k0 bs K) : x ∈ K := by
  cases bs with
  | nil => exact h
  | cons b t => exact List.mem_of_mem_take h

/-- What holds at all times between the solver's steps. -/
structure CB (n : Nat) (G C : List (List Int)) (Wt : Int → List Nat) (K Rz : List Int) (bs : List Nat) : Prop where
  wi : WI n C Wt
  bp : ∀ b ∈ bs, PrB C (K.take b)
  bl : ∀ b ∈ bs, b < K.length
  inc : bs.Pairwise (· < ·)
  rl : Rz.length = K.length
  rs : RsOk C K Rz bs
  lv0 : ∀ (i : Nat) (a : Int), K[i]? = some a → lvl bs i = 0 → Der G [] a
  cons : ∀ x ∈ K, -x ∉ K
  nod : K.Nodup
  kok : ∀ x ∈ K, LitOk n x
  sub : ∀ c ∈ C, ∃ f ∈ G, ∀ l, l ∈ c ↔ l ∈ f
  al : All G C (k0 bs K)

/-- Between two literals of the trail: d of them are done. -/
structure CD (n : Nat) (G C : List (List Int)) (Wt : Int → List Nat) (K Rz : List Int) (bs : List Nat) (d : Nat) : Prop extends CB n G C Wt K Rz bs where
  pr : Pr C K (K.take d) 0 []
  dl : d ≤ K.length
  bd : ∀ b ∈ bs, b ≤ d

/-- While the clauses that a watches are gone through. -/
structure CJ (n : Nat) (G C : List (List Int)) (Wt : Int → List Nat) (K Rz : List Int) (bs : List Nat) (Kd : List Int) (d : Nat) (a : Int) (kept rest : List Nat) : Prop extends CB n G C (effW Wt a (kept ++ rest)) K Rz bs where
  pr : Pr C K (Kd.take d) a rest
  hk : Kd[d]? = some (-a)
  pre : ∃ R, K = Kd ++ R
  bd : ∀ b ∈ bs, b ≤ d

section
variable {n : Nat} {G C : List (List Int)} {Wt Wt' : Int → List Nat} {K Kd Rz : List Int} {bs : List Nat} {d : Nat} {a o z : Int} {kept rest : List Nat} {i : Nat} {c e : List Int}

theorem CJ.ak (h : CJ n G C Wt K Rz bs Kd d a kept rest) : -a ∈ K := by
  obtain ⟨R, hR⟩ := h.pre
  rw [hR]
  exact List.mem_append_left _ (List.mem_of_getElem? h.hk)

theorem CJ.ka (h : CJ n G C Wt K Rz bs Kd d a kept rest) : K[d]? = some (-a) := by
  obtain ⟨R, hR⟩ := h.pre
  rw [hR, List.getElem?_append_left (List.getElem?_eq_some_iff.1 h.hk).1]
  exact h.hk

/-- The same for one of the prefixes. -/
theorem CJ.il (h : CJ n G C Wt K Rz bs Kd d a kept rest) {K0 : List Int} (hb : PrB C K0) (hs : ∀ x ∈ K0, x ∈ K) : IL n G (allL n) C Wt K (Kd.take d) K0 a kept rest :=
  ⟨h.wi, h.pr, hb, hs, fun x hx => by
    obtain ⟨R, hR⟩ := h.pre
    rw [hR]
    exact List.mem_append_left _ (List.mem_of_mem_take hx), h.ak, h.cons, h.nod, h.kok, fun x hx => .asm (mem_allL.2 (h.kok x hx)), h.sub⟩

theorem prb_nil (C : List (List Int)) : PrB C [] := fun i c x y _ _ _ => ⟨fun q => by simp at q, fun q => by simp at q⟩

theorem CJ.il0 (h : CJ n G C Wt K Rz bs Kd d a kept rest) : IL n G (allL n) C Wt K (Kd.take d) [] a kept rest := h.il (prb_nil C) fun x hx => by simp at hx

theorem rs_set {K Rz : List Int} (h : RsOk C K Rz bs) (hc : C[i]? = some c) (hs : Same c e) : RsOk (C.set i e) K Rz bs := fun j a hj hjb hl => by
  obtain ⟨r, d, h1, h2, h3, h4⟩ := h j a hj hjb hl
  by_cases q : r = i
  · rw [q] at h2
    rw [hc] at h2
    injection h2 with h2
    subst h2
    exact ⟨r, e, h1, by rw [set_get hc, if_pos q], (hs.2.2 a).2 h3, fun m hm hne => h4 m ((hs.2.2 m).1 hm) hne⟩
  · exact ⟨r, d, h1, by rw [set_get hc, if_neg q]; exact h2, h3, h4⟩

theorem rs_more {K Rz : List Int} (h : RsOk C K Rz bs) (hl : Rz.length = K.length) (o : Int) (i : Nat) (hc : C[i]? = some c) (ho : o ∈ c) (hf : ∀ m ∈ c, m ≠ o → -m ∈ K) : RsOk C (K ++ [o]) (Rz ++ [(i : Int)]) bs := fun j a hj hjb hlv => by
  by_cases q : j < K.length
  · rw [List.getElem?_append_left q] at hj
    obtain ⟨r, d, h1, h2, h3, h4⟩ := h j a hj hjb hlv
    refine ⟨r, d, by rw [List.getElem?_append_left (by omega)]; exact h1, h2, h3, fun m hm hne => ?_⟩
    obtain ⟨t, ht, hk⟩ := h4 m hm hne
    exact ⟨t, ht, by rw [List.getElem?_append_left (by omega)]; exact hk⟩
  · rw [List.getElem?_append_right (by omega)] at hj
    have hj2 := (List.getElem?_eq_some_iff.1 hj).1
    simp at hj2
    have hjk : j = K.length := by omega
    subst hjk
    simp at hj
    subst hj
    refine ⟨i, c, by rw [List.getElem?_append_right (by omega)]; simp [hl], hc, ho, fun m hm hne => ?_⟩
    obtain ⟨t, ht⟩ := List.mem_iff_getElem?.1 (hf m hm hne)
    have htl := (List.getElem?_eq_some_iff.1 ht).1
    exact ⟨t, htl, by rw [List.getElem?_append_left htl]; exact ht⟩

theorem all_set {F : List (List Int)} {K : List Int} (h : All F C K) (hc : C[i]? = some c) (hs : Same c e) : All F (C.set i e) K :=
  h.mono (fun d hd => by
    obtain ⟨j, hj⟩ := List.mem_iff_getElem?.1 hd
    by_cases q : j = i
    · rw [q, hc] at hj
      injection hj with hj
      subst hj
      exact ⟨e, List.mem_of_getElem? (i := i) (by rw [set_get hc, if_pos rfl]), hs.2.2⟩
    · exact ⟨d, List.mem_of_getElem? (i := j) (by rw [set_get hc, if_neg q]; exact hj), fun _ => Iff.rfl⟩) fun x hx => hx

theorem k0_app {bs : List Nat} {K : List Int} {x o : Int} (hb : ∀ b ∈ bs, b < K.length) (h : x ∈ k0 bs K) : x ∈ k0 bs (K ++ [o]) := by
  cases bs with
  | nil => exact List.mem_append_left _ h
  | cons b t =>
    show x ∈ (K ++ [o]).take b
    rw [List.take_append_of_le_length (Nat.le_of_lt (hb b (by simp)))]
    exact h

/-- The clause stays with a: its other watched literal holds. -/
theorem CJ.keep (h : CJ n G C Wt K Rz bs Kd d a kept (i :: rest)) (hc : C[i]? = some c) (hs : Same c e) (hd0 : e[0]? = some o) (hd1 : e[1]? = some a) (hcw : ∀ b, (c[0]? = some b ∨ c[1]? = some b) ↔ (b = a ∨ b = o)) (hao : a ≠ o) (ho : o ∈ K) : CJ n G (C.set i e) Wt K Rz bs Kd d a (kept ++ [i]) rest := by
  have key := fun (K0 : List Int) (hb : PrB C K0) (hk : ∀ x ∈ K0, x ∈ K) => (h.il hb hk).keep hc hs hd0 hd1 hcw hao (K' := K) (fun x hx => hx) ho h.cons h.nod h.kok fun x hx => .asm (mem_allL.2 (h.kok x hx))
  have h0 := key [] (prb_nil C) fun x hx => by simp at hx
  exact ⟨⟨h0.wi, fun b hb => (key _ (h.bp b hb) fun x hx => List.mem_of_mem_take hx).bp, h.bl, h.inc, h.rl, rs_set h.rs hc hs, h.lv0, h.cons, h.nod, h.kok, h0.sub, all_set h.al hc hs⟩, h0.pr, h.hk, h.pre, h.bd⟩

/-- The clause goes over to z. -/
theorem CJ.move (h : CJ n G C Wt K Rz bs Kd d a kept (i :: rest)) (hc : C[i]? = some c) (hs : Same c e) (hd0 : e[0]? = some o) (hd1 : e[1]? = some z) (hcw : ∀ b, (c[0]? = some b ∨ c[1]? = some b) ↔ (b = a ∨ b = o)) (hao : a ≠ o) (haz : a ≠ z) (hzo : z ≠ o) (hzK : -z ∉ K)
    (hz : Wt' z = Wt z ++ [i]) (hw : ∀ b, b ≠ z → Wt' b = Wt b) : CJ n G (C.set i e) Wt' K Rz bs Kd d a kept rest := by
  have key := fun (K0 : List Int) (hb : PrB C K0) (hk : ∀ x ∈ K0, x ∈ K) => (h.il hb hk).move (Wt' := Wt') hc hs hd0 hd1 hcw hao haz hzo hzK hz hw
  have h0 := key [] (prb_nil C) fun x hx => by simp at hx
  exact ⟨⟨h0.wi, fun b hb => (key _ (h.bp b hb) fun x hx => List.mem_of_mem_take hx).bp, h.bl, h.inc, h.rl, rs_set h.rs hc hs, h.lv0, h.cons, h.nod, h.kok, h0.sub, all_set h.al hc hs⟩, h0.pr, h.hk, h.pre, h.bd⟩

/-- The clause makes its other watched literal hold. -/
theorem CJ.set (h : CJ n G C Wt K Rz bs Kd d a kept (i :: rest)) (hc : C[i]? = some c) (hs : Same c e) (hd0 : e[0]? = some o) (hd1 : e[1]? = some a) (hcw : ∀ b, (c[0]? = some b ∨ c[1]? = some b) ↔ (b = a ∨ b = o)) (hao : a ≠ o) (ho : o ∉ K ∧ -o ∉ K) (hf : ∀ x ∈ c, x ≠ o → -x ∈ K) : CJ n G (C.set i e) Wt (K ++ [o]) (Rz ++ [(i : Int)]) bs Kd d a (kept ++ [i]) rest := by
  have hcC := List.mem_of_getElem? hc
  have hcm := h.wi.cls c hcC
  have hoc : o ∈ c := (hs.2.2 o).1 (List.mem_of_getElem? hd0)
  have hok := hcm.2.2.1 o hoc
  have hcons : ∀ x ∈ K ++ [o], -x ∉ K ++ [o] := fun x hx hn => by
    rcases List.mem_append.1 hx with q | q <;> rcases List.mem_append.1 hn with p | p
    · exact h.cons x q p
    · have e : -x = o := by simpa using p
      exact ho.2 (by rw [← e, Int.neg_neg]; exact q)
    · have e : x = o := by simpa using q
      exact ho.2 (by rw [← e]; exact p)
    · have e1 : x = o := by simpa using q
      have e2 : -x = o := by simpa using p
      have := hok.1
      omega
  have hnod : (K ++ [o]).Nodup := List.nodup_append.2 ⟨h.nod, by simp, fun x hx y hy => by
    have : y = o := by simpa using hy
    rintro rfl
    exact ho.1 (this ▸ hx)⟩
  have hkok : ∀ x ∈ K ++ [o], LitOk n x := fun x hx => by
    rcases List.mem_append.1 hx with q | q
    · exact h.kok x q
    · have : x = o := by simpa using q
      rw [this]; exact hok
  have key := fun (K0 : List Int) (hb : PrB C K0) (hk : ∀ x ∈ K0, x ∈ K) => (h.il hb hk).keep hc hs hd0 hd1 hcw hao (K' := K ++ [o]) (fun x hx => List.mem_append_left _ hx) (by simp) hcons hnod hkok fun x hx => .asm (mem_allL.2 (hkok x hx))
  have h0 := key [] (prb_nil C) fun x hx => by simp at hx
  have htk : ∀ b ∈ bs, (K ++ [o]).take b = K.take b := fun b hb => List.take_append_of_le_length (Nat.le_of_lt (h.bl b hb))
  have hdK : d < K.length := (List.getElem?_eq_some_iff.1 h.ka).1
  have hcw2 : (C.set i e)[i]? = some e := by rw [set_get hc, if_pos rfl]
  refine ⟨⟨h0.wi, fun b hb => by rw [htk b hb]; exact (key _ (h.bp b hb) fun x hx => List.mem_of_mem_take hx).bp, fun b hb => by have := h.bl b hb; simp; omega, h.inc, by simp [h.rl], rs_more (rs_set h.rs hc hs) h.rl o i hcw2 ((hs.2.2 o).2 hoc) fun m hm hne => hf m ((hs.2.2 m).1 hm) hne, fun j x hj hl => ?_, hcons, hnod, hkok, h0.sub, (all_set h.al hc hs).mono (fun d hd => ⟨d, hd, fun _ => Iff.rfl⟩) fun x hx => k0_app h.bl hx⟩, h0.pr, h.hk, ?_, h.bd⟩
  · by_cases q : j < K.length
    · rw [List.getElem?_append_left q] at hj
      exact h.lv0 j x hj hl
    · rw [List.getElem?_append_right (by omega)] at hj
      have hj2 := (List.getElem?_eq_some_iff.1 hj).1
      simp at hj2
      have hjk : j = K.length := by omega
      subst hjk
      simp at hj
      subst hj
      rw [lvl_full fun b hb => by have := h.bl b hb; omega] at hl
      have hb0 : bs = [] := List.length_eq_zero_iff.1 hl
      obtain ⟨f, hfG, hlf⟩ := h.sub c hcC
      refine .unit hfG ((hlf _).1 hoc) fun m hm hne => ?_
      obtain ⟨t, ht⟩ := List.mem_iff_getElem?.1 (hf m ((hlf m).2 hm) hne)
      exact h.lv0 t _ ht (by rw [hb0]; rfl)
  · obtain ⟨R, hR⟩ := h.pre
    exact ⟨R ++ [o], by rw [hR, List.append_assoc]⟩

/-- What a conflict leaves: a clause that is false, with a literal of the level at hand. -/
structure CF (n : Nat) (G C : List (List Int)) (Wt : Int → List Nat) (K Rz : List Int) (bs : List Nat) (i : Nat) : Prop extends CB n G C Wt K Rz bs where
  fls : ∃ c, C[i]? = some c ∧ (∀ x ∈ c, -x ∈ K) ∧ ∃ x ∈ c, ∃ j, K[j]? = some (-x) ∧ lvl bs j = bs.length

/-- The clause stays, and is false. -/
theorem CJ.fail (h : CJ n G C Wt K Rz bs Kd d a kept (i :: rest)) (hc : C[i]? = some c) (hs : Same c e) (hd0 : e[0]? = some o) (hd1 : e[1]? = some a) (hcw : ∀ b, (c[0]? = some b ∨ c[1]? = some b) ↔ (b = a ∨ b = o)) (hf : ∀ x ∈ c, x ≠ o → -x ∈ K) (hno : -o ∈ K) :
    CF n G (C.set i e) (effW Wt a (kept ++ i :: rest)) K Rz bs i := by
  have hcC := List.mem_of_getElem? hc
  have hcm := h.wi.cls c hcC
  obtain ⟨p, q, hp, hq⟩ := two_get hcm.1
  have hpq := pairs hcw hp hq hcm.2.1
  have hwi : WI n (C.set i e) (effW Wt a (kept ++ i :: rest)) := h.wi.perm hc hs fun b => by
    rw [hcw b, hd0, hd1]
    constructor
    · rintro (q | q)
      · injection q with q; exact .inr q.symm
      · injection q with q; exact .inl q.symm
    · rintro (q | q)
      · exact .inr (by rw [q])
      · exact .inl (by rw [q])
  have hbp : ∀ K0, PrB C K0 → PrB (C.set i e) K0 := fun K0 hb t f x y ht hx hy => by
    rw [set_get hc] at ht
    split at ht
    · rename_i e1
      subst e1
      injection ht with ht
      subst ht
      rw [hd0] at hx
      rw [hd1] at hy
      injection hx with hx
      injection hy with hy
      subst hx hy
      have := hb t c p q hc hp hq
      rcases hpq with ⟨e1, e2⟩ | ⟨e1, e2⟩
      · subst e1 e2; exact ⟨this.2, this.1⟩
      · subst e1 e2; exact this
    · exact hb t f x y ht hx hy
  have hae : a ∈ e := List.mem_of_getElem? hd1
  refine ⟨⟨hwi, fun b hb => hbp _ (h.bp b hb), h.bl, h.inc, h.rl, rs_set h.rs hc hs, h.lv0, h.cons, h.nod, h.kok, fun f he => ?_, all_set h.al hc hs⟩, e, by rw [set_get hc, if_pos rfl], fun x hx => ?_, a, hae, d, h.ka, lvl_full h.bd⟩
  · rcases List.mem_or_eq_of_mem_set he with q | q
    · exact h.sub f q
    · obtain ⟨g, hg, hl⟩ := h.sub c hcC
      rw [q]
      exact ⟨g, hg, fun l => (hs.2.2 l).trans (hl l)⟩
  · by_cases q : x = o
    · rw [q]; exact hno
    · exact hf x ((hs.2.2 x).1 hx) q

theorem CD.ri (h : CD n G C Wt K Rz bs d) : RI n G (allL n) C Wt K [] d :=
  ⟨h.wi, h.pr, prb_nil C, fun x hx => by simp at hx, h.cons, h.nod, h.kok, fun x hx => .asm (mem_allL.2 (h.kok x hx)), h.sub, h.dl⟩

theorem CD.enter (h : CD n G C Wt K Rz bs d) (hk : K[d]? = some (-a)) : CJ n G C Wt K Rz bs K d a [] (Wt a) := by
  have h0 := h.ri.enter hk
  exact ⟨⟨h0.wi, h.bp, h.bl, h.inc, h.rl, h.rs, h.lv0, h.cons, h.nod, h.kok, h.sub, h.al⟩, h0.pr, hk, ⟨[], by simp⟩, h.bd⟩

theorem CJ.leave (h : CJ n G C Wt K Rz bs Kd d a kept []) : CD n G C (effW Wt a kept) K Rz bs (d + 1) := by
  have h0 := h.il0.leave h.hk h.pre
  exact ⟨⟨h0.wi, h.bp, h.bl, h.inc, h.rl, h.rs, h.lv0, h.cons, h.nod, h.kok, h.sub, h.al⟩, h0.pr, h0.dl, fun b hb => by have := h.bd b hb; omega⟩

/-- A decision. -/
theorem CD.decide (h : CD n G C Wt K Rz bs K.length) {o : Int} (h0 : o ∉ K) (hn : -o ∉ K) (hok : LitOk n o) (r : Int) : CD n G C Wt (K ++ [o]) (Rz ++ [r]) (bs ++ [K.length]) K.length := by
  have htk : ∀ b, b ≤ K.length → (K ++ [o]).take b = K.take b := fun b hb => List.take_append_of_le_length hb
  have hpb : PrB C K := fun t c x y ht hx hy => by
    have h1 := h.pr t c x y ht hx hy
    rw [List.take_of_length_le (Nat.le_refl _)] at h1
    exact ⟨fun q => h1.1 (.inl q), fun q => h1.2 (.inl q)⟩
  refine ⟨⟨h.wi, fun b hb => ?_, fun b hb => ?_, ?_, by simp [h.rl], fun i a hi hib hl => ?_, fun i a hi hl => ?_, fun x hx hm => ?_, ?_, fun x hx => ?_, h.sub, ?_⟩, fun t c x y ht hx hy => ?_, by simp, fun b hb => ?_⟩
  · rcases List.mem_append.1 hb with q | q
    · rw [htk b (Nat.le_of_lt (h.bl b q))]; exact h.bp b q
    · rw [List.mem_singleton.1 q, htk _ (Nat.le_refl _), List.take_of_length_le (Nat.le_refl _)]; exact hpb
  · rcases List.mem_append.1 hb with q | q
    · have := h.bl b q; simp; omega
    · rw [List.mem_singleton.1 q]; simp
  · rw [List.pairwise_append]
    exact ⟨h.inc, by simp, fun b hb c hc => by rw [List.mem_singleton.1 hc]; exact h.bl b hb⟩
  · by_cases q : i < K.length
    · rw [List.getElem?_append_left q] at hi
      rw [lvl_app, lvl_none (bs := [K.length]) (fun b hb => by rw [List.mem_singleton.1 hb]; exact q)] at hl
      obtain ⟨r', d, h1, h2, h3, h4⟩ := h.rs i a hi (fun m => hib (List.mem_append_left _ m)) (by omega)
      refine ⟨r', d, by rw [List.getElem?_append_left (by have := h.rl; omega)]; exact h1, h2, h3, fun m hm hne => ?_⟩
      obtain ⟨t, ht, hk⟩ := h4 m hm hne
      exact ⟨t, ht, by rw [List.getElem?_append_left (by omega)]; exact hk⟩
    · have hil := (List.getElem?_eq_some_iff.1 hi).1
      simp at hil
      exact absurd (by simp; omega) hib
  · by_cases q : i < K.length
    · rw [List.getElem?_append_left q] at hi
      rw [lvl_app] at hl
      exact h.lv0 i a hi (by omega)
    · rw [lvl_app] at hl
      have : lvl [K.length] i = 1 := lvl_full fun b hb => by rw [List.mem_singleton.1 hb]; omega
      omega
  · rcases List.mem_append.1 hx with q | q <;> rcases List.mem_append.1 hm with p | p
    · exact h.cons x q p
    · have e : -x = o := by simpa using p
      exact hn (by rw [← e, Int.neg_neg]; exact q)
    · have e : x = o := by simpa using q
      exact hn (by rw [← e]; exact p)
    · have e1 : x = o := by simpa using q
      have e2 : -x = o := by simpa using p
      have := hok.1
      omega
  · exact List.nodup_append.2 ⟨h.nod, by simp, fun x hx y hy => by
      have : y = o := by simpa using hy
      rintro rfl
      exact h0 (this ▸ hx)⟩
  · rcases List.mem_append.1 hx with q | q
    · exact h.kok x q
    · have : x = o := by simpa using q
      rw [this]; exact hok
  · refine h.al.mono (fun d hd => ⟨d, hd, fun _ => Iff.rfl⟩) fun x hx => ?_
    cases bs with
    | nil =>
      show x ∈ (K ++ [o]).take K.length
      rw [htk _ (Nat.le_refl _), List.take_of_length_le (Nat.le_refl _)]; exact hx
    | cons b t =>
      show x ∈ (K ++ [o]).take b
      rw [htk b (Nat.le_of_lt (h.bl b (by simp)))]; exact hx
  · rw [htk _ (Nat.le_refl _)]
    have h1 := h.pr t c x y ht hx hy
    exact ⟨fun q => List.mem_append_left _ (h1.1 q), fun q => List.mem_append_left _ (h1.2 q)⟩
  · rcases List.mem_append.1 hb with q | q
    · exact Nat.le_of_lt (h.bl b q)
    · rw [List.mem_singleton.1 q]; exact Nat.le_refl _

end

end Go.Proofs.Ytfofabbnbmieoaa.Ord

/- Plain facts about the solver's learn: the clause that follows from a conflict. -/
namespace Go.Proofs.Ytfofabbnbmieoaa.Ord

/-- A variable of one of the places S, or of one of the literals O. -/
def SeenP (K : List Int) (S : List Nat) (O : List Int) (v : Nat) : Prop := (∃ j ∈ S, ∃ p, K[j]? = some p ∧ p.natAbs = v) ∨ ∃ o ∈ O, o.natAbs = v

/-- Between two clauses: if the literals at the places S hold and those of O do not, all is bad. M: the places still to come are below it. -/
structure LI (G : List (List Int)) (K : List Int) (bs : List Nat) (M : Nat) (S : List Nat) (O : List Int) (X : List Int → Prop) : Prop where
  core : ∀ A, (∀ j ∈ S, ∀ p, K[j]? = some p → Der G A p) → (∀ o ∈ O, Der G A (-o)) → X A → Bad G A
  sp : ∀ j ∈ S, j < M ∧ lvl bs j = bs.length
  snd : S.Nodup
  ol : ∀ o ∈ O, ∃ j, K[j]? = some (-o) ∧ 0 < lvl bs j ∧ lvl bs j < bs.length
  ond : O.Nodup

section
variable {n : Nat} {G C : List (List Int)} {Wt : Int → List Nat} {K Rz : List Int} {bs : List Nat} {i m : Nat} {c : List Int} {S : List Nat} {O : List Int} {M : Nat} {X Y : List Int → Prop} {sk : Int}

/-- The literals of c from m on, but for skip, do not hold. -/
def Rest (G : List (List Int)) (c : List Int) (skip : Int) (m : Nat) (A : List Int) : Prop := ∀ l ∈ c.drop m, l ≠ skip → Der G A (-l)

/-- The clause that is false, at first. -/
theorem CF.start (h : CF n G C Wt K Rz bs i) (hc : C[i]? = some c) : LI G K bs K.length [] [] (Rest G c 0 0) ∧ (∀ l ∈ c, l ≠ 0 → ∃ j, j < K.length ∧ K[j]? = some (-l)) := by
  obtain ⟨c', hc', hf, -⟩ := h.fls
  rw [hc] at hc'
  injection hc' with hc'
  subst hc'
  have hcC := List.mem_of_getElem? hc
  obtain ⟨f, hfG, hl⟩ := h.sub c hcC
  have hcm := h.wi.cls c hcC
  refine ⟨⟨fun A _ _ hX => .inr ⟨f, hfG, fun l hlf => hX l (by rw [List.drop_zero]; exact (hl l).2 hlf) (hcm.2.2.1 l ((hl l).2 hlf)).1⟩, nofun, List.nodup_nil, nofun, List.nodup_nil⟩, fun l hlc _ => ?_⟩
  obtain ⟨j, hj⟩ := List.mem_iff_getElem?.1 (hf l hlc)
  exact ⟨j, (List.getElem?_eq_some_iff.1 hj).1, hj⟩

/-- A literal that is left out: it is the one that follows, or of level 0, or it was met before. -/
theorem LI.skip (h : LI G K bs M S O (Rest G c sk m)) (hcons : ∀ x ∈ K, -x ∉ K) (hlv : ∀ (i : Nat) (a : Int), K[i]? = some a → lvl bs i = 0 → Der G [] a) {l : Int} (hl : c[m]? = some l) (hlk : l ≠ sk → ∃ j, K[j]? = some (-l) ∧ (SeenP K S O l.natAbs ∨ lvl bs j = 0)) : LI G K bs M S O (Rest G c sk (m + 1)) := by
  refine ⟨fun A h1 h2 h3 => h.core A h1 h2 fun x hx hne => ?_, h.sp, h.snd, h.ol, h.ond⟩
  obtain ⟨hml, hme⟩ := List.getElem?_eq_some_iff.1 hl
  rw [List.drop_eq_getElem_cons hml, hme] at hx
  rcases List.mem_cons.1 hx with q | q
  · subst q
    obtain ⟨j, hj, hq⟩ := hlk hne
    rcases hq with hq | hq
    · rcases hq with ⟨t, ht, p, hp, hpv⟩ | ⟨o, ho, hov⟩
      · have : p = -x := by
          have hpm := List.mem_of_getElem? hp
          have hjm := List.mem_of_getElem? hj
          by_cases e : p = -x
          · exact e
          · have e2 : p = x := by omega
            exact absurd hjm (hcons p hpm ∘ fun m => by rw [e2]; exact m)
        rw [← this]
        exact h1 t ht p hp
      · obtain ⟨t, ht, -⟩ := h.ol o ho
        have : o = x := by
          have hom := List.mem_of_getElem? ht
          have hjm := List.mem_of_getElem? hj
          by_cases e : o = x
          · exact e
          · have e2 : o = -x := by omega
            exact absurd hom (hcons _ hjm ∘ fun m => by rw [e2] at m; exact m)
        rw [← this]
        exact h2 o ho
    · exact der_mono (sub_of_subset fun _ hd => hd) (fun a ha => by simp at ha) (hlv j _ hj hq)
  · exact h3 x q hne

/-- A literal of the level at hand. -/
theorem LI.open (h : LI G K bs M S O (Rest G c sk m)) {l : Int} (hl : c[m]? = some l) {j : Nat} (hj : K[j]? = some (-l)) (hns : ¬ SeenP K S O l.natAbs) (hjM : j < M) (hlv : lvl bs j = bs.length) : LI G K bs M (S ++ [j]) O (Rest G c sk (m + 1)) := by
  obtain ⟨hml, hme⟩ := List.getElem?_eq_some_iff.1 hl
  refine ⟨fun A h1 h2 h3 => h.core A (fun t ht => h1 t (List.mem_append_left _ ht)) h2 fun x hx hne => ?_, fun t ht => ?_, List.nodup_append.2 ⟨h.snd, by simp, fun x hx y hy => ?_⟩, h.ol, h.ond⟩
  · rw [List.drop_eq_getElem_cons hml, hme] at hx
    rcases List.mem_cons.1 hx with q | q
    · subst q
      exact h1 j (by simp) _ hj
    · exact h3 x q hne
  · rcases List.mem_append.1 ht with q | q
    · exact h.sp t q
    · rw [List.mem_singleton.1 q]; exact ⟨hjM, hlv⟩
  · have : y = j := by simpa using hy
    rintro rfl
    exact hns (.inl ⟨x, hx, -l, by rw [this]; exact hj, by simp⟩)

/-- A literal of a level below. -/
theorem LI.out (h : LI G K bs M S O (Rest G c sk m)) {l : Int} (hl : c[m]? = some l) {j : Nat} (hj : K[j]? = some (-l)) (hns : ¬ SeenP K S O l.natAbs) (h0 : 0 < lvl bs j) (hlv : lvl bs j < bs.length) : LI G K bs M S (O ++ [l]) (Rest G c sk (m + 1)) := by
  obtain ⟨hml, hme⟩ := List.getElem?_eq_some_iff.1 hl
  refine ⟨fun A h1 h2 h3 => h.core A h1 (fun t ht => h2 t (List.mem_append_left _ ht)) fun x hx hne => ?_, h.sp, h.snd, fun o ho => ?_, List.nodup_append.2 ⟨h.ond, by simp, fun x hx y hy => ?_⟩⟩
  · rw [List.drop_eq_getElem_cons hml, hme] at hx
    rcases List.mem_cons.1 hx with q | q
    · subst q
      exact h2 x (by simp)
    · exact h3 x q hne
  · rcases List.mem_append.1 ho with q | q
    · exact h.ol o q
    · rw [List.mem_singleton.1 q]; exact ⟨j, hj, h0, hlv⟩
  · have : y = l := by simpa using hy
    rintro rfl
    exact hns (.inr ⟨x, hx, by rw [this]⟩)

/-- The clause is done. -/
theorem LI.done (h : LI G K bs M S O (Rest G c sk m)) (hm : c.length ≤ m) : LI G K bs M S O (fun _ => True) :=
  ⟨fun A h1 h2 _ => h.core A h1 h2 (fun x hx => by rw [List.drop_eq_nil_of_le hm] at hx; cases hx), h.sp, h.snd, h.ol, h.ond⟩

/-- The last of the places is taken out: it follows from its clause. -/
theorem LI.pop (h : LI G K bs M S O (fun _ => True)) {j : Nat} (hj : j ∈ S) (hmax : ∀ t ∈ S, t ≤ j) {p : Int} (hp : K[j]? = some p) {f c : List Int} (hf : f ∈ G) (hl : ∀ l, l ∈ c ↔ l ∈ f) (hpc : p ∈ c) : LI G K bs j (S.erase j) O (Rest G c p 0) := by
  refine ⟨fun A h1 h2 h3 => h.core A (fun t ht q hq => ?_) h2 trivial, fun t ht => ?_, h.snd.erase j, h.ol, h.ond⟩
  · by_cases e : t = j
    · subst e
      rw [hp] at hq
      injection hq with hq
      rw [← hq]
      exact .unit hf ((hl p).1 hpc) fun m hm hne => h3 m (by rw [List.drop_zero]; exact (hl m).2 hm) hne
    · exact h1 t ((List.mem_erase_of_ne e).2 ht) q hq
  · have h5 := List.mem_of_mem_erase ht
    have h6 := hmax t h5
    have h7 : t ≠ j := fun e => by
      rw [e] at ht
      exact (h.snd.not_mem_erase) ht
    exact ⟨by omega, (h.sp t h5).2⟩

end

/-- What was learned: p is the literal at the place j, O are literals of lower levels. -/
structure LD (n : Nat) (G : List (List Int)) (K : List Int) (bs : List Nat) (j : Nat) (p : Int) (O : List Int) : Prop where
  bad : Bad G (p :: O.map fun o => -o)
  pj : K[j]? = some p
  pl : lvl bs j = bs.length
  ol : ∀ o ∈ O, ∃ j, K[j]? = some (-o) ∧ 0 < lvl bs j ∧ lvl bs j < bs.length
  ond : O.Nodup

theorem LI.learned {n : Nat} {G : List (List Int)} {K : List Int} {bs : List Nat} {M : Nat} {S : List Nat} {O : List Int} (h : LI G K bs M S O (fun _ => True)) {j : Nat} (hS : ∀ t ∈ S, t = j) (hj : j ∈ S) {p : Int} (hp : K[j]? = some p) : LD n G K bs j p O :=
  ⟨h.core _ (fun t ht q hq => by
    rw [hS t ht, hp] at hq
    injection hq with hq
    rw [← hq]
    exact .asm (by simp)) (fun o ho => .asm (by
      refine List.mem_cons_of_mem _ (List.mem_map.2 ⟨o, ho, rfl⟩))) trivial, hp, (h.sp j hj).2, h.ol, h.ond⟩

section
variable {n : Nat} {G C : List (List Int)} {Wt Wt' : Int → List Nat} {K Rz : List Int} {bs : List Nat} {j : Nat} {p : Int} {O D : List Int} {l b : Nat}

/-- The clause that was learned is none of those that were there. -/
theorem LD.new (hd : LD n G K bs j p O) (h : CB n G C Wt K Rz bs) (hb : 0 < bs.length) {f : List Int} (hf : f ∈ G) (hs : ∀ x, x ∈ f ↔ x = -p ∨ x ∈ O) : False := by
  have hfk : ∀ x ∈ f, -x ∈ K := fun x hx => by
    rcases (hs x).1 hx with q | q
    · rw [q, Int.neg_neg]; exact List.mem_of_getElem? hd.pj
    · obtain ⟨t, ht, -⟩ := hd.ol x q
      exact List.mem_of_getElem? ht
  rcases h.al f hf with ⟨x, hx, hnx⟩ | ⟨d, hdC, hl⟩ | ⟨x, hx, hk⟩
  · have h1 := hfk x hx
    have h2 := hfk (-x) hnx
    rw [Int.neg_neg] at h2
    exact h.cons x h2 h1
  · obtain ⟨t, ht⟩ := List.mem_iff_getElem?.1 hdC
    have hcm := h.wi.cls d hdC
    obtain ⟨x, y, hx, hy⟩ := two_get hcm.1
    have hxd := List.mem_of_getElem? hx
    have hyd := List.mem_of_getElem? hy
    obtain ⟨bl, hbl⟩ : ∃ bl, bs[bs.length - 1]? = some bl := ⟨_, List.getElem?_eq_getElem (by omega)⟩
    have hpb := h.bp bl (List.mem_of_getElem? hbl) t d x y ht hx hy
    have hin : ∀ z ∈ O, -z ∈ K.take bl := fun z hz => by
      obtain ⟨q, hq, -, h2⟩ := hd.ol z hz
      have := (lvl_lt_iff h.inc hbl q).1 (by omega)
      exact List.mem_of_getElem? (i := q) (by rw [List.getElem?_take_of_lt this]; exact hq)
    have hout : ∀ z ∈ d, z ∉ K.take bl := fun z hz hm => by
      have := hfk z ((hl z).1 hz)
      exact h.cons z (List.mem_of_mem_take hm) this
    rcases (hs x).1 ((hl x).1 hxd) with q1 | q1
    · rcases (hs y).1 ((hl y).1 hyd) with q2 | q2
      · have := nodup_get hcm.2.1 hx (by rw [q1, ← q2]; exact hy)
        omega
      · exact hout x hxd (hpb.2 (hin y q2))
    · exact hout y hyd (hpb.1 (hin x q1))
  · exact h.cons x (k0_sub hk) (hfk x hx)

end

end Go.Proofs.Ytfofabbnbmieoaa.Ord

/- Plain facts about the solver's step back, and about the clause that it keeps. -/
namespace Go.Proofs.Ytfofabbnbmieoaa.Ord

theorem inc_take {bs : List Nat} (h : bs.Pairwise (· < ·)) {l b : Nat} (hl : bs[l]? = some b) : ∀ c ∈ bs.take l, c < b := fun c hc => by
  obtain ⟨k, hk⟩ := List.mem_iff_getElem?.1 hc
  have hkl := (List.getElem?_eq_some_iff.1 hk).1
  rw [List.length_take] at hkl
  rw [List.getElem?_take_of_lt (by omega)] at hk
  obtain ⟨h1, e1⟩ := List.getElem?_eq_some_iff.1 hk
  obtain ⟨h2, e2⟩ := List.getElem?_eq_some_iff.1 hl
  rw [← e1, ← e2]
  exact List.pairwise_iff_getElem.1 h k l h1 h2 (by omega)

theorem inc_mem {bs : List Nat} (h : bs.Pairwise (· < ·)) {l b c : Nat} (hl : bs[l]? = some b) (hc : c ∈ bs) (hcb : c < b) : c ∈ bs.take l := by
  obtain ⟨k, hk⟩ := List.mem_iff_getElem?.1 hc
  obtain ⟨h1, e1⟩ := List.getElem?_eq_some_iff.1 hk
  obtain ⟨h2, e2⟩ := List.getElem?_eq_some_iff.1 hl
  have hkl : k < l := by
    rcases Nat.lt_trichotomy k l with q | q | q
    · exact q
    · subst q; omega
    · have := List.pairwise_iff_getElem.1 h l k h2 h1 q
      omega
  exact List.mem_of_getElem? (i := k) (by rw [List.getElem?_take_of_lt hkl]; exact hk)

section
variable {n : Nat} {G C : List (List Int)} {Wt Wt' : Int → List Nat} {K Rz : List Int} {bs : List Nat} {l b : Nat}

/-- A step back to the level l. -/
theorem CB.back (h : CB n G C Wt K Rz bs) (hl : bs[l]? = some b) : CD n G C Wt (K.take b) (Rz.take b) (bs.take l) b := by
  have hbm := List.mem_of_getElem? hl
  have hbK := h.bl b hbm
  have hlt := inc_take h.inc hl
  have htt : ∀ c, c ≤ b → (K.take b).take c = K.take c := fun c hc => by rw [List.take_take, Nat.min_eq_left hc]
  have hlen : (K.take b).length = b := by rw [List.length_take]; omega
  have hg : ∀ (i : Nat) (a : Int), (K.take b)[i]? = some a → i < b ∧ K[i]? = some a := fun i a hi => by
    have hib := (List.getElem?_eq_some_iff.1 hi).1
    rw [hlen] at hib
    rw [List.getElem?_take_of_lt hib] at hi
    exact ⟨hib, hi⟩
  refine ⟨⟨h.wi, fun c hc => ?_, fun c hc => by rw [hlen]; exact hlt c hc, h.inc.sublist (List.take_sublist _ _), by rw [List.length_take, List.length_take, h.rl], fun i a hi hib hlv => ?_, fun i a hi hlv => ?_, fun x hx hn => h.cons x (List.mem_of_mem_take hx) (List.mem_of_mem_take hn), h.nod.sublist (List.take_sublist _ _), fun x hx => h.kok x (List.mem_of_mem_take hx), h.sub, ?_⟩, ?_, by rw [hlen]; exact Nat.le_refl _, fun c hc => Nat.le_of_lt (hlt c hc)⟩
  · rw [htt c (Nat.le_of_lt (hlt c hc))]
    exact h.bp c (List.mem_of_mem_take hc)
  · obtain ⟨h1, h2⟩ := hg i a hi
    rw [lvl_take h.inc hl h1] at hlv
    obtain ⟨r, c, q1, q2, q3, q4⟩ := h.rs i a h2 (fun m => hib (inc_mem h.inc hl m h1)) hlv
    refine ⟨r, c, by rw [List.getElem?_take_of_lt h1]; exact q1, q2, q3, fun m hm hne => ?_⟩
    obtain ⟨j, hj, hk⟩ := q4 m hm hne
    exact ⟨j, hj, by rw [List.getElem?_take_of_lt (by omega)]; exact hk⟩
  · obtain ⟨h1, h2⟩ := hg i a hi
    rw [lvl_take h.inc hl h1] at hlv
    exact h.lv0 i a h2 hlv
  · have : k0 (bs.take l) (K.take b) = k0 bs K := by
      cases bs with
      | nil => simp at hl
      | cons c t =>
        cases l with
        | zero =>
          simp at hl
          subst hl
          rfl
        | succ l =>
          show (K.take b).take c = K.take c
          exact htt c (Nat.le_of_lt (hlt c (by simp)))
    rw [this]
    exact h.al
  · intro t c x y ht hx hy
    have h0 := h.bp b hbm t c x y ht hx hy
    have hcm := h.wi.cls c (List.mem_of_getElem? ht)
    have hx0 := (hcm.2.2.1 x (List.mem_of_getElem? hx)).1
    have hy0 := (hcm.2.2.1 y (List.mem_of_getElem? hy)).1
    rw [htt b (Nat.le_refl _)]
    exact ⟨fun q => h0.1 (q.elim id fun q => absurd q.1 hx0), fun q => h0.2 (q.elim id fun q => absurd q.1 hy0)⟩

/-- A new clause is watched. -/
theorem WI.push (h : WI n C Wt) {l : List Int} {x0 x1 : Int} (hl2 : 2 ≤ l.length) (hnd : l.Nodup) (hok : ∀ x ∈ l, LitOk n x) (hop : ∀ x ∈ l, -x ∉ l) (h0 : l[0]? = some x0) (h1 : l[1]? = some x1)
    (hw : ∀ b, Wt' b = if b = x0 ∨ b = x1 then Wt b ++ [C.length] else Wt b) : WI n (C ++ [l]) Wt' := by
  refine ⟨fun d hd => ?_, fun t d b ht => ?_, fun b t ht => ?_⟩
  · rcases List.mem_append.1 hd with q | q
    · exact h.cls d q
    · rw [List.mem_singleton.1 q]; exact ⟨hl2, hnd, hok, hop⟩
  · rw [hw b]
    by_cases q1 : t < C.length
    · rw [List.getElem?_append_left q1] at ht
      have h3 := h.cnt t d b ht
      split
      · rw [List.count_append, h3]
        have : ([C.length] : List Nat).count t = 0 := by rw [List.count_singleton]; simp; omega
        omega
      · exact h3
    · rw [List.getElem?_append_right (by omega)] at ht
      have h2 := (List.getElem?_eq_some_iff.1 ht).1
      simp at h2
      have h3 : t = C.length := by omega
      subst h3
      simp at ht
      subst ht
      have h3 : (Wt b).count C.length = 0 := List.count_eq_zero.2 fun q => by have := h.lt b _ q; omega
      have h4 : (l[0]? = some b ∨ l[1]? = some b) ↔ (b = x0 ∨ b = x1) := by
        rw [h0, h1]
        constructor
        · rintro (q | q)
          · injection q with q; exact .inl q.symm
          · injection q with q; exact .inr q.symm
        · rintro (q | q)
          · exact .inl (by rw [q])
          · exact .inr (by rw [q])
      by_cases q : b = x0 ∨ b = x1
      · rw [if_pos q, if_pos (h4.2 q), List.count_append, h3]
        simp
      · rw [if_neg q, if_neg (fun p => q (h4.1 p)), h3]
  · rw [hw b] at ht
    rw [List.length_append]
    split at ht
    · rcases List.mem_append.1 ht with q | q
      · have := h.lt b t q; omega
      · rw [List.mem_singleton.1 q]; simp
    · have := h.lt b t ht; omega

theorem cons_app {K : List Int} {o : Int} (h : ∀ x ∈ K, -x ∉ K) (hn : -o ∉ K) (h0 : o ≠ 0) : ∀ x ∈ K ++ [o], -x ∉ K ++ [o] := fun x hx hm => by
  rcases List.mem_append.1 hx with q | q <;> rcases List.mem_append.1 hm with p | p
  · exact h x q p
  · have e : -x = o := by simpa using p
    exact hn (by rw [← e, Int.neg_neg]; exact q)
  · have e : x = o := by simpa using q
    exact hn (by rw [← e]; exact p)
  · have e1 : x = o := by simpa using q
    have e2 : -x = o := by simpa using p
    omega

theorem nodup_app {K : List Int} {o : Int} (h : K.Nodup) (h0 : o ∉ K) : (K ++ [o]).Nodup := List.nodup_append.2 ⟨h, by simp, fun x hx y hy => by
  have : y = o := by simpa using hy
  rintro rfl
  exact h0 (this ▸ hx)⟩

theorem kok_app {K : List Int} {o : Int} (h : ∀ x ∈ K, LitOk n x) (h0 : LitOk n o) : ∀ x ∈ K ++ [o], LitOk n x := fun x hx => by
  rcases List.mem_append.1 hx with q | q
  · exact h x q
  · have : x = o := by simpa using q
    rw [this]; exact h0

/-- A clause of more literals is kept, and its first one holds. -/
theorem CD.keepC (h : CD n G C Wt K Rz bs K.length) {D e : List Int} {u y : Int} (hl2 : 2 ≤ e.length) (hnd : e.Nodup) (hok : ∀ x ∈ e, LitOk n x) (hop : ∀ x ∈ e, -x ∉ e) (hD : ∀ x, x ∈ e ↔ x ∈ D) (h0 : e[0]? = some u) (h1 : e[1]? = some y)
    (hw : ∀ b, Wt' b = if b = u ∨ b = y then Wt b ++ [C.length] else Wt b) (hu : u ∉ K) (hnu : -u ∉ K) (hf : ∀ x ∈ e, x ≠ u → -x ∈ K) (hy : ∀ b ∈ bs, -y ∉ K.take b) : CD n (G ++ [D]) (C ++ [e]) Wt' (K ++ [u]) (Rz ++ [(C.length : Int)]) bs K.length := by
  have hue := List.mem_of_getElem? h0
  have hye := List.mem_of_getElem? h1
  have huk := hok u hue
  have htk : ∀ b, b ≤ K.length → (K ++ [u]).take b = K.take b := fun b hb => List.take_append_of_le_length hb
  have hget : ∀ (t : Nat) (d : List Int), (C ++ [e])[t]? = some d → (t < C.length ∧ C[t]? = some d) ∨ (t = C.length ∧ d = e) := fun t d ht => by
    by_cases q : t < C.length
    · rw [List.getElem?_append_left q] at ht; exact .inl ⟨q, ht⟩
    · rw [List.getElem?_append_right (by omega)] at ht
      have h2 := (List.getElem?_eq_some_iff.1 ht).1
      simp at h2
      have h3 : t = C.length := by omega
      subst h3
      simp at ht
      exact .inr ⟨rfl, ht.symm⟩
  have hx0 : ∀ {d : List Int} {x : Int}, d ∈ C → x ∈ d → x ≠ 0 := fun hd hx => ((h.wi.cls _ hd).2.2.1 _ hx).1
  have hy0 := (hok y hye).1
  refine ⟨⟨h.wi.push hl2 hnd hok hop h0 h1 hw, fun b hb t d x z ht hx hz => ?_, fun b hb => by have := h.bl b hb; simp; omega, h.inc, by simp [h.rl], ?_, fun i a hi hlv => ?_, cons_app h.cons hnu huk.1, nodup_app h.nod hu, kok_app h.kok huk, fun d hd => ?_, ?_⟩, fun t d x z ht hx hz => ?_, by simp, h.bd⟩
  · rw [htk b (Nat.le_of_lt (h.bl b hb))]
    rcases hget t d ht with ⟨q1, q2⟩ | ⟨q1, q2⟩
    · exact h.bp b hb t d x z q2 hx hz
    · subst q2
      rw [h0] at hx
      rw [h1] at hz
      injection hx with hx
      injection hz with hz
      subst hx hz
      exact ⟨fun q => absurd (List.mem_of_mem_take q) hnu, fun q => absurd q (hy b hb)⟩
  · have hmore : RsOk (C ++ [e]) K Rz bs := fun i a hi hib hlv => by
      obtain ⟨r, d, q1, q2, q3, q4⟩ := h.rs i a hi hib hlv
      exact ⟨r, d, q1, by rw [List.getElem?_append_left (List.getElem?_eq_some_iff.1 q2).1]; exact q2, q3, q4⟩
    exact rs_more hmore h.rl u C.length (by simp) hue hf
  · have hmo : ∀ {x : Int}, Der G [] x → Der (G ++ [D]) [] x := fun hx => der_mono (sub_of_subset fun _ hd => List.mem_append_left _ hd) (fun _ ha => ha) hx
    by_cases q : i < K.length
    · rw [List.getElem?_append_left q] at hi
      exact hmo (h.lv0 i a hi hlv)
    · rw [List.getElem?_append_right (by omega)] at hi
      have hj2 := (List.getElem?_eq_some_iff.1 hi).1
      simp at hj2
      have hik : i = K.length := by omega
      subst hik
      simp at hi
      subst hi
      rw [lvl_full h.bd] at hlv
      have hb0 : bs = [] := List.length_eq_zero_iff.1 hlv
      refine .unit (c := D) (by simp) ((hD u).1 hue) fun m hm hne => ?_
      obtain ⟨t, ht⟩ := List.mem_iff_getElem?.1 (hf m ((hD m).2 hm) hne)
      exact hmo (h.lv0 t _ ht (by rw [hb0]; rfl))
  · rcases List.mem_append.1 hd with q | q
    · obtain ⟨f, hf, hl⟩ := h.sub d q
      exact ⟨f, List.mem_append_left _ hf, hl⟩
    · rw [List.mem_singleton.1 q]; exact ⟨D, by simp, hD⟩
  · exact (h.al.mono (fun d hd => ⟨d, List.mem_append_left _ hd, fun _ => Iff.rfl⟩) fun x hx => k0_app h.bl hx).app (.inr (.inl ⟨e, by simp, hD⟩))
  · rw [htk _ (Nat.le_refl _)]
    rcases hget t d ht with ⟨q1, q2⟩ | ⟨q1, q2⟩
    · have h3 := h.pr t d x z q2 hx hz
      exact ⟨fun q => List.mem_append_left _ (h3.1 q), fun q => List.mem_append_left _ (h3.2 q)⟩
    · subst q2
      rw [h0] at hx
      rw [h1] at hz
      injection hx with hx
      injection hz with hz
      subst hx hz
      exact ⟨fun q => absurd (q.elim (fun q => List.mem_of_mem_take q) fun q => absurd q.1 huk.1) hnu, fun _ => by simp⟩

/-- A clause of one literal: it holds at level 0. -/
theorem CD.keepU (h : CD n G C Wt K Rz [] K.length) {u : Int} (hok : LitOk n u) (hu : u ∉ K) (hnu : -u ∉ K) (r : Int) {D : List Int} (hD : ∀ x, x ∈ D ↔ x = u) : CD n (G ++ [D]) C Wt (K ++ [u]) (Rz ++ [r]) [] K.length := by
  refine ⟨⟨h.wi, (fun b hb => by cases hb), (fun b hb => by cases hb), List.Pairwise.nil, by simp [h.rl], (fun i a hi hib hlv => by cases hlv), fun i a hi hlv => ?_, cons_app h.cons hnu hok.1, nodup_app h.nod hu, kok_app h.kok hok, fun d hd => ?_, ?_⟩, fun t d x z ht hx hz => ?_, by simp, (fun b hb => by cases hb)⟩
  · by_cases q : i < K.length
    · rw [List.getElem?_append_left q] at hi
      exact der_mono (sub_of_subset fun _ hd => List.mem_append_left _ hd) (fun _ ha => ha) (h.lv0 i a hi hlv)
    · rw [List.getElem?_append_right (by omega)] at hi
      have hj2 := (List.getElem?_eq_some_iff.1 hi).1
      simp at hj2
      have hik : i = K.length := by omega
      subst hik
      simp at hi
      subst hi
      exact .unit (c := D) (by simp) ((hD u).2 rfl) fun m hm hne => absurd ((hD m).1 hm) hne
  · obtain ⟨f, hf, hl⟩ := h.sub d hd
    exact ⟨f, List.mem_append_left _ hf, hl⟩
  · exact (h.al.mono (fun d hd => ⟨d, hd, fun _ => Iff.rfl⟩) fun x hx => List.mem_append_left _ hx).app (.inr (.inr ⟨u, (hD u).2 rfl, by simp [k0]⟩))
  · rw [List.take_append_of_le_length (Nat.le_refl _)]
    have h3 := h.pr t d x z ht hx hz
    exact ⟨fun q => List.mem_append_left _ (h3.1 q), fun q => List.mem_append_left _ (h3.2 q)⟩

end

/-! ### A number for each clause -/

/-- A number for a clause's literals. -/
def codeC : Nat → List Int → Nat
  | 0, _ => 0
  | k + 1, D => 3 * codeC k D + (if ((k : Int) + 1) ∈ D then 1 else if -((k : Int) + 1) ∈ D then 2 else 0)

theorem codeC_lt (n : Nat) (D : List Int) : codeC n D < 3 ^ n := by
  induction n with
  | zero => simp [codeC]
  | succ n ih =>
    simp only [codeC, Nat.pow_succ]
    split
    · omega
    · split <;> omega

theorem codeC_eq {D E : List Int} (hD : ∀ x ∈ D, -x ∉ D) (hE : ∀ x ∈ E, -x ∉ E) : ∀ {n : Nat}, codeC n D = codeC n E → ∀ x, LitOk n x → (x ∈ D ↔ x ∈ E)
  | 0, _, x, hx => by
    have := hx
    unfold LitOk at this
    omega
  | n + 1, h, x, hx => by
    simp only [codeC] at h
    have h1 : codeC n D = codeC n E ∧ (if ((n : Int) + 1) ∈ D then 1 else if -((n : Int) + 1) ∈ D then 2 else 0) = (if ((n : Int) + 1) ∈ E then 1 else if -((n : Int) + 1) ∈ E then 2 else 0) := by
      have hp : ∀ X : List Int, (if ((n : Int) + 1) ∈ X then 1 else if -((n : Int) + 1) ∈ X then 2 else 0) ≤ 2 := fun X => by
        split
        · omega
        · split <;> omega
      have h1 := hp D
      have h2 := hp E
      generalize (if ((n : Int) + 1) ∈ D then 1 else if -((n : Int) + 1) ∈ D then 2 else 0) = p at h h1 ⊢
      generalize (if ((n : Int) + 1) ∈ E then 1 else if -((n : Int) + 1) ∈ E then 2 else 0) = q at h h2 ⊢
      omega
    by_cases q : x = (n : Int) + 1
    · subst q
      have h2 := h1.2
      by_cases a : ((n : Int) + 1) ∈ D
      · by_cases b : ((n : Int) + 1) ∈ E
        · exact ⟨fun _ => b, fun _ => a⟩
        · rw [if_pos a, if_neg b] at h2
          split at h2 <;> omega
      · by_cases b : ((n : Int) + 1) ∈ E
        · rw [if_neg a, if_pos b] at h2
          split at h2 <;> omega
        · exact ⟨fun m => absurd m a, fun m => absurd m b⟩
    · by_cases q2 : x = -((n : Int) + 1)
      · subst q2
        have h2 := h1.2
        have hD2 : -((n : Int) + 1) ∈ D → ((n : Int) + 1) ∉ D := fun m k => hD _ k m
        have hE2 : -((n : Int) + 1) ∈ E → ((n : Int) + 1) ∉ E := fun m k => hE _ k m
        by_cases a : -((n : Int) + 1) ∈ D
        · by_cases b : -((n : Int) + 1) ∈ E
          · exact ⟨fun _ => b, fun _ => a⟩
          · rw [if_neg (hD2 a), if_pos a, if_neg b] at h2
            split at h2 <;> omega
        · by_cases b : -((n : Int) + 1) ∈ E
          · rw [if_neg (hE2 b), if_pos b, if_neg a] at h2
            split at h2 <;> omega
          · exact ⟨fun m => absurd m a, fun m => absurd m b⟩
      · exact codeC_eq hD hE h1.1 x (by unfold LitOk at hx ⊢; omega)

end Go.Proofs.Ytfofabbnbmieoaa.Ord

/- Plain facts about solve's state: what its rows say about the trail. -/
namespace Go.Proofs.Ytfofabbnbmieoaa.Ord

/-- The watch lists, by literals. -/
def WtF (Wt : List (List Nat)) (b : Int) : List Nat := (Wt[(ixL b).toNat]?).getD []

theorem ixL_inj {a b : Int} (h : (ixL a).toNat = (ixL b).toNat) : a = b := by
  unfold ixL at h
  split at h <;> split at h <;> omega

theorem ixL_lt {n m : Nat} (hm : m = n + 1) {a : Int} (h : LitOk n a) : (ixL a).toNat < 2 * m := by
  have := ixL_range h
  omega

theorem WtF_set {Wt : List (List Nat)} {x : Int} (h : (ixL x).toNat < Wt.length) (l : List Nat) : WtF (Wt.set (ixL x).toNat l) = effW (WtF Wt) x l := funext fun b => by
  unfold WtF effW
  by_cases q : b = x
  · rw [if_pos q, q, List.getElem?_set_self h]; rfl
  · rw [if_neg q, List.getElem?_set_ne (fun e => q (ixL_inj e.symm))]

theorem WtF_add {Wt : List (List Nat)} {x : Int} (h : (ixL x).toNat < Wt.length) (i : Nat) : WtF (addW (ixL x).toNat i Wt) = effW (WtF Wt) x (WtF Wt x ++ [i]) := by
  unfold addW
  rw [WtF_set h]
  rfl

/-- A watch list holds clauses without doubles. -/
theorem WI.lenS {n : Nat} {C : List (List Int)} {Wt : Int → List Nat} (h : WI n C Wt) (b : Int) : (Wt b).length ≤ C.length := by
  have hnd : (Wt b).Nodup := by
    rw [List.nodup_iff_count]
    intro i
    by_cases hi : i ∈ Wt b
    · have hl := h.lt b i hi
      rw [h.cnt i _ b (List.getElem?_eq_getElem hl)]
      split <;> omega
    · rw [List.count_eq_zero.2 hi]; omega
  exact nodup_below _ _ hnd fun i hi => h.lt b i hi

theorem vrL_abs (a : Int) : (vrL a).toNat = a.natAbs := by
  unfold vrL
  split <;> omega

theorem vrL_neg (a : Int) : vrL (-a) = vrL a := by
  unfold vrL
  split <;> split <;> omega

/-- One value is set. -/
theorem hvL_set {va : List Int} {x y s : Int} (hx : (vrL x).toNat < va.length) (hx0 : x ≠ 0) (hy0 : y ≠ 0) : hvL (va.set (vrL x).toNat s) y = if y = x then (if x < 0 then -s else s) else if y = -x then (if x < 0 then s else -s) else hvL va y := by
  rw [vrL_abs] at hx ⊢
  unfold hvL
  have h1 : ∀ k : Nat, (va.set x.natAbs s)[k]?.getD 0 = if k = x.natAbs then s else (va[k]?).getD 0 := fun k => by
    by_cases q : k = x.natAbs
    · rw [if_pos q, q, List.getElem?_set_self hx]; rfl
    · rw [if_neg q, List.getElem?_set_ne (fun e => q e.symm)]
  rw [h1, h1]
  by_cases q : y = x
  · subst q
    rw [if_pos rfl]
    split
    · rw [if_pos (by omega)]
    · rw [if_pos (by omega)]
  · rw [if_neg q]
    by_cases q2 : y = -x
    · subst q2
      rw [if_pos rfl]
      by_cases q3 : x < 0
      · rw [if_neg (by omega), if_pos q3, if_pos (by omega)]
      · rw [if_pos (by omega), if_neg q3, if_pos (by omega)]
    · rw [if_neg q2]
      split
      · rw [if_neg (by omega)]
      · rw [if_neg (by omega)]

/-- What the rows say about the trail. -/
structure LK (n : Nat) (d : SD) (Rz : List Int) (bs : List Nat) : Prop where
  va : ∀ x, LitOk n x → hvL d.va x = if x ∈ d.K then 1 else if -x ∈ d.K then -1 else 0
  vr : ∀ y ∈ d.va, -1 ≤ y ∧ y ≤ 1
  ls : d.ls = bs.map fun (b : Nat) => (b : Int)
  lv : ∀ (i : Nat) (a : Int), d.K[i]? = some a → d.lv[(vrL a).toNat]? = some (lvl bs i : Int)
  re : ∀ (i : Nat) (a r : Int), d.K[i]? = some a → Rz[i]? = some r → d.re[(vrL a).toNat]? = some r
  hp : ∀ x, LitOk n x → x ∉ d.K → -x ∉ d.K → d.In[(vrL x).toNat - 1]? = some true
  se : ∀ y ∈ d.se, y = false

section
variable {n : Nat} {d : SD} {Rz : List Int} {bs : List Nat} {x rs : Int}

theorem LK.cw (h : LK n d Rz bs) (C : List (List Int)) (Wt : List (List Nat)) (dn : Nat) : LK n { d with C := C, Wt := Wt, dn := dn } Rz bs :=
  ⟨h.va, h.vr, h.ls, h.lv, h.re, h.hp, h.se⟩

theorem LK.hv1 (h : LK n d Rz bs) (hx : LitOk n x) : hvL d.va x = 1 ↔ x ∈ d.K := by
  rw [h.va x hx]
  split
  · simp [*]
  · split <;> simp [*]

theorem LK.hvm (h : LK n d Rz bs) (hx : LitOk n x) (hc : ∀ y ∈ d.K, -y ∉ d.K) : hvL d.va x = -1 ↔ -x ∈ d.K := by
  rw [h.va x hx]
  split
  · rename_i q
    have := hc x q
    simp [*]
  · split <;> simp [*]

theorem vr_inj {K : List Int} {i : Nat} {a : Int} (hi : K[i]? = some a) (hx1 : x ∉ K) (hx2 : -x ∉ K) : (vrL a).toNat ≠ (vrL x).toNat := fun e => by
  rw [vrL_abs, vrL_abs] at e
  have hm := List.mem_of_getElem? hi
  have : a = x ∨ a = -x := by omega
  rcases this with q | q
  · exact hx1 (q ▸ hm)
  · exact hx2 (q ▸ hm)

/-- A literal more. -/
theorem LK.set (h : LK n d Rz bs) (hrl : Rz.length = d.K.length) (hx : LitOk n x) (h1 : x ∉ d.K) (h2 : -x ∉ d.K) (hb : ∀ b ∈ bs, b ≤ d.K.length) (hva : d.va.length = n + 1) (hlv : d.lv.length = n + 1) (hre : d.re.length = n + 1) : LK n (setD d x rs) (Rz ++ [rs]) bs := by
  have hv := vrL_range hx
  have hvn : (vrL x).toNat < n + 1 := by omega
  refine ⟨fun y hy => ?_, fun y hy => ?_, h.ls, fun i a hi => ?_, fun i a r hi hr => ?_, fun y hy hy1 hy2 => h.hp y hy (fun m => hy1 (List.mem_append_left _ m)) fun m => hy2 (List.mem_append_left _ m), h.se⟩
  · show hvL (d.va.set (vrL x).toNat (if x < 0 then -1 else 1)) y = if y ∈ d.K ++ [x] then 1 else if -y ∈ d.K ++ [x] then -1 else 0
    rw [hvL_set (by omega) hx.1 hy.1]
    by_cases q : y = x
    · rw [if_pos q, if_pos (show y ∈ d.K ++ [x] by rw [q]; simp)]
      by_cases q3 : x < 0
      · rw [if_pos q3, if_pos q3]; rfl
      · rw [if_neg q3, if_neg q3]
    · rw [if_neg q]
      by_cases q2 : y = -x
      · rw [if_pos q2, if_neg (c := y ∈ d.K ++ [x]), if_pos (show -y ∈ d.K ++ [x] by rw [q2]; simp)]
        · by_cases q3 : x < 0
          · rw [if_pos q3, if_pos q3]
          · rw [if_neg q3, if_neg q3]
        · intro m
          rcases List.mem_append.1 m with m | m
          · exact h2 (q2 ▸ m)
          · exact q (by simpa using m)
      · rw [if_neg q2, h.va y hy]
        have e1 : y ∈ d.K ++ [x] ↔ y ∈ d.K := by simp [q]
        have e2 : -y ∈ d.K ++ [x] ↔ -y ∈ d.K := by
          simp only [List.mem_append, List.mem_singleton]
          exact ⟨fun m => m.elim id fun e => absurd (by omega) q2, .inl⟩
        simp only [e1, e2]
  · have hy : y ∈ d.va.set (vrL x).toNat (if x < 0 then -1 else 1) := hy
    rcases List.mem_or_eq_of_mem_set hy with q | q
    · exact h.vr y q
    · rw [q]
      split <;> omega
  · have hi : (d.K ++ [x])[i]? = some a := hi
    show (d.lv.set (vrL x).toNat (d.ls.length : Int))[(vrL a).toNat]? = _
    by_cases q : i < d.K.length
    · rw [List.getElem?_append_left q] at hi
      rw [List.getElem?_set_ne (fun e => vr_inj hi h1 h2 e.symm)]
      exact h.lv i a hi
    · rw [List.getElem?_append_right (by omega)] at hi
      have hj := (List.getElem?_eq_some_iff.1 hi).1
      simp at hj
      have hik : i = d.K.length := by omega
      subst hik
      simp at hi
      subst hi
      rw [List.getElem?_set_self (by omega), lvl_full hb, h.ls, List.length_map]
  · have hi : (d.K ++ [x])[i]? = some a := hi
    show (d.re.set (vrL x).toNat rs)[(vrL a).toNat]? = _
    by_cases q : i < d.K.length
    · rw [List.getElem?_append_left q] at hi
      rw [List.getElem?_append_left (by omega)] at hr
      rw [List.getElem?_set_ne (fun e => vr_inj hi h1 h2 e.symm)]
      exact h.re i a r hi hr
    · rw [List.getElem?_append_right (by omega)] at hi
      have hj := (List.getElem?_eq_some_iff.1 hi).1
      simp at hj
      have hik : i = d.K.length := by omega
      subst hik
      simp at hi
      subst hi
      rw [List.getElem?_set_self (by omega)]
      rw [← hrl] at hr
      simpa using hr

end

end Go.Proofs.Ytfofabbnbmieoaa.Ord

/- Regions that draw their order: what yields its value while S holds, a call among it, is taken first; S need not hold behind the last operation. -/
namespace Go.Proofs.Ytfofabbnbmieoaa.Ord
open Go

section
variable {P : Program} {ops : Array Oper} {Q : Exit → Act → World → Prop} {md : Region.Mode} {S : World → Prop}

/-- In the state a, in each world that meets S, o gives v and leaves the world as it was: at once or through a call. -/
def GivesW (P : Program) (ops : Array Oper) (S : World → Prop) (o : Oper) (v : Value) (a : Act) : Prop :=
  (Region.wanted o (yielded ops a.tmps) = true ∧ ∀ w, S w → (execOp a.eval o).run P w = .ok (.value v) w ∨ ∃ f args, (execOp a.eval o).run P w = .ok (.enter f args) w ∧ Calls P f args w fun e w' => e = .returned v ∧ w = w') ∨
  (Region.wanted o (yielded ops a.tmps) = false ∧ v = undef)

theorem GivesW.same {o : Oper} {v : Value} {a b : Act} (h : GivesW P ops S o v a) (he : execOp b.eval o = execOp a.eval o) (hw : Region.wanted o (yielded ops b.tmps) = Region.wanted o (yielded ops a.tmps)) : GivesW P ops S o v b := by
  unfold GivesW at *
  rw [he, hw]
  exact h

theorem GivesW.now {i : Nat} {o : Oper} {v : Value} {a : Act} (hi : ops[i]? = some o) (h : GivesW P ops S o v a) {K : Act → World → Prop} {w : World} (hS : S w) (hk : K (a.put o.dst v) w) : wpOp P ops Q i K a w := by
  unfold wpOp
  simp only [hi]
  rcases h with ⟨hw, hv⟩ | ⟨hw, rfl⟩
  · rw [if_pos hw]
    refine .inl ?_
    unfold Oper.wp
    rcases hv w hS with hr | ⟨f, args, hr, hc⟩
    · rw [hr]; exact hk
    · rw [hr]
      exact hc.mono fun e w' ⟨he, hw'⟩ => by subst he hw'; exact hk
  · rw [hw]
    exact hk

/-- Another operation, apart from it, makes no difference to it. -/
theorem GivesW.beside {j : Nat} {x y : Oper} {v : Value} (hj : ops[j]? = some y) (hap : x.apart ops y = true) (hx : ∀ cs b, x.op ≠ .select cs b) (hy : ∀ cs b, y.op ≠ .select cs b)
    (hQ : ∀ c a w, Q (.panic c) (a.put x.dst v) w → Q (.panic c) a w) {K : Act → World → Prop} {a : Act} {w : World} (hg : GivesW P ops S x v a) (h : wpOp P ops Q j K (a.put x.dst v) w) : wpOp P ops Q j (fun b u => GivesW P ops S x v b ∧ K (b.put x.dst v) u) a w := by
  obtain ⟨p1, p2, p3⟩ := Oper.apart_spec hap
  have hput : ∀ (b : Act), GivesW P ops S x v b → ∀ u, GivesW P ops S x v (b.put y.dst u) := fun b hb u => hb.same (execOp_put x hx b y.dst u p3) (wanted_put x b y.dst u p3)
  unfold wpOp at *
  rw [hj] at h ⊢
  dsimp only at h ⊢
  rw [wanted_put y a x.dst v p1] at h
  cases hw : Region.wanted y (yielded ops a.tmps) with
  | false =>
    rw [hw] at h
    exact ⟨hput a hg _, by rw [← Act.put_comm a v undef p2]; exact h⟩
  | true =>
    rw [hw, if_pos rfl] at h
    rw [if_pos rfl]
    have he : execOp (a.put x.dst v).eval y = execOp a.eval y := execOp_put y hy a x.dst v p1
    rcases h with h | ⟨h1, h2⟩
    · refine .inl ?_
      unfold Oper.wp at h ⊢
      rw [he] at h
      generalize (execOp a.eval y).run P w = r at h ⊢
      cases r with
      | halt z w' =>
        cases z with
        | panic u => exact hQ _ _ _ h
        | _ => exact h
      | ok q w' =>
        cases q with
        | value u => exact ⟨hput a hg u, by rw [← Act.put_comm a v u p2]; exact h⟩
        | skip => exact ⟨hput a hg _, by rw [← Act.put_comm a v undef p2]; exact h⟩
        | defer d =>
          refine ⟨hput { a with defers := d :: a.defers } (hg.same rfl rfl) _, ?_⟩
          rw [← Act.put_comm _ v undef p2, ← Act.put_defers]
          exact h
        | enter f args =>
          refine Calls.mono h fun e w'' hh => ?_
          cases e with
          | returned u => exact ⟨hput a hg u, by rw [← Act.put_comm a v u p2]; exact hh⟩
          | panicked c => exact hQ _ _ _ hh
          | outgrown => exact hh
        | row row args => exact Rows.mono h fun u w'' hh => ⟨hput a hg u, by rw [← Act.put_comm a v u p2]; exact hh⟩
        | _ => exact h
    · refine .inr ⟨?_, h2⟩
      unfold Oper.asks at h1 ⊢
      rw [he] at h1
      exact h1

/-- z waits for i: by its own edges, or by those of what it waits for. -/
def waitsB (md : Region.Mode) (ops : Array Oper) (i : Nat) : Nat → Nat → Bool
  | 0, _ => false
  | k + 1, z => match ops[z]? with
    | none => false
    | some o => o.after.any fun e => Region.binds md e && (e.on == i || waitsB md ops i k e.on)

/-- What is done has all before it that it waits for. -/
def Down (md : Region.Mode) (ops : Array Oper) (l : Array Bool) : Prop :=
  ∀ (j : Nat) (y : Oper), ops[j]? = some y → l.getD j false = true → ∀ e ∈ y.after, Region.binds md e = true → l.getD e.on false = true

def downB (md : Region.Mode) (ops : Array Oper) (l : Array Bool) : Bool :=
  (List.range ops.size).all fun j => match ops[j]? with
    | none => true
    | some y => !l.getD j false || y.after.all fun e => !Region.binds md e || l.getD e.on false

theorem downB_spec {l : Array Bool} (h : downB md ops l = true) : Down md ops l := fun j y hj hl e he hb => by
  unfold downB at h
  have h1 := List.all_eq_true.1 h j (List.mem_range.2 (Array.getElem?_eq_some_iff.1 hj).1)
  rw [hj] at h1
  dsimp only at h1
  rw [hl] at h1
  simp only [Bool.not_true, Bool.false_or] at h1
  have h2 : (!Region.binds md e || l.getD e.on false) = true := by
    rw [Array.all_eq_true_iff_forall_mem] at h1
    exact h1 e he
  rw [hb] at h2
  simpa using h2

theorem getD_true {l : Array Bool} {i : Nat} (h : l.getD i true = false) : l.getD i false = false := by
  rcases Nat.lt_or_ge i l.size with q | q
  · simp [q] at h ⊢; exact h
  · simp [Nat.not_lt.2 q] at h

/-- What waits for i is neither done nor ready as long as i is not done. -/
theorem waits_open {l : Array Bool} (hd : Down md ops l) {i : Nat} (hi : l.getD i false = false) : ∀ (k z : Nat), waitsB md ops i k z = true → l.getD z false = false ∧ z ∉ Region.ready md ops l
  | 0, _, h => by cases h
  | k + 1, z, h => by
    unfold waitsB at h
    cases hz : ops[z]? with
    | none => rw [hz] at h; cases h
    | some o =>
      rw [hz] at h
      dsimp only at h
      rw [Array.any_eq_true'] at h
      obtain ⟨e, he, hh⟩ := h
      rw [Bool.and_eq_true, Bool.or_eq_true] at hh
      obtain ⟨hb, hh⟩ := hh
      have ho : l.getD e.on false = false := by
        rcases hh with hh | hh
        · rw [beq_iff_eq] at hh; rw [hh]; exact hi
        · exact (waits_open hd hi k _ hh).1
      refine ⟨?_, fun hm => ?_⟩
      · cases hq : l.getD z false with
        | false => rfl
        | true =>
          have := hd z o hz hq e he hb
          rw [ho] at this
          cases this
      · obtain ⟨-, y, hy, hall⟩ := mem_ready.1 hm
        rw [hz] at hy
        injection hy with hy
        subst hy
        have := hall e he hb
        rw [ho] at this
        cases this

theorem Down.more {l : Array Bool} (hd : Down md ops l) {j : Nat} (hj : j ∈ Region.ready md ops l) : Down md ops (l.setIfInBounds j true) := fun t y ht hl e he hb => by
  have hup : ∀ m, l.getD m false = true → (l.setIfInBounds j true).getD m false = true := fun m hm => by
    by_cases q : j = m
    · subst q
      rcases Nat.lt_or_ge j l.size with q | q
      · simp [q]
      · simp [Nat.not_lt.2 q] at hm
    · rw [getD_set_ne false q]; exact hm
  refine hup _ ?_
  by_cases q : j = t
  · subst q
    obtain ⟨-, y', hy', hall⟩ := mem_ready.1 hj
    rw [ht] at hy'
    injection hy' with hy'
    subst hy'
    exact hall e he hb
  · rw [getD_set_ne false q] at hl
    exact hd t y ht hl e he hb

/-- Whatever order is picked: S stays behind each operation but those of Z. -/
def wpR (P : Program) (md : Region.Mode) (ops : Array Oper) (Q : Exit → Act → World → Prop) (S : World → Prop) (Z : List Nat) : Nat → Array Bool → Act → World → Prop
  | 0, l, a, w => Region.ready md ops l = [] ∧ Q .normal a w
  | k + 1, l, a, w => (Region.ready md ops l = [] → Q .normal a w) ∧ ∀ i ∈ Region.ready md ops l, wpOp P ops Q i (fun b u => (i ∉ Z → S w → S u) ∧ wpR P md ops Q S Z k (l.setIfInBounds i true) b u) a w

theorem wpR.any {Z : List Nat} : ∀ (k : Nat) (l : Array Bool) (a : Act) (w : World), wpR P md ops Q S Z k l a w → wpAny P md ops Q k l a w
  | 0, _, _, _, h => h
  | k + 1, _, _, _, h => ⟨h.1, fun i hi => wpOp_mono (fun b u hh => wpR.any k _ b u hh.2) (h.2 i hi)⟩

theorem wpR.first {Z : List Nat} {fz i : Nat} {x : Oper} {v : Value} (hi : ops[i]? = some x) (hz : ∀ z ∈ Z, waitsB md ops i fz z = true) (hsel : ∀ (j : Nat) (o : Oper) cs b, ops[j]? = some o → o.op ≠ .select cs b) (hQ : ∀ c a w, Q (.panic c) (a.put x.dst v) w → Q (.panic c) a w) :
    ∀ (k : Nat) (l : Array Bool) (a : Act) (w : World), Down md ops l → (∀ j y, ops[j]? = some y → j ≠ i → l.getD j true = false → (∀ e ∈ y.after, Region.binds md e = true → e.on ≠ i) → x.apart ops y = true) →
      i ∈ Region.ready md ops l → GivesW P ops S x v a → S w → wpR P md ops Q S Z k (l.setIfInBounds i true) (a.put x.dst v) w → wpR P md ops Q S Z (k + 1) l a w
  | 0, l, a, w, _, _, hr, hg, hS, H => by
    refine ⟨fun h => (by rw [h] at hr; cases hr), fun j hj => ?_⟩
    by_cases e : j = i
    · subst e
      exact hg.now hi hS ⟨fun _ h => h, H⟩
    · have := ready_mono hj e
      rw [H.1] at this
      cases this
  | k + 1, l, a, w, hd, hf, hr, hg, hS, H => by
    refine ⟨fun h => (by rw [h] at hr; cases hr), fun j hj => ?_⟩
    by_cases e : j = i
    · subst e
      exact hg.now hi hS ⟨fun _ h => h, H⟩
    · have h1 := H.2 j (ready_mono hj e)
      obtain ⟨hju, y, hy, hall⟩ := mem_ready.1 hj
      have hiu := getD_true (mem_ready.1 hr).1
      have hno : ∀ q ∈ y.after, Region.binds md q = true → q.on ≠ i := fun q hq hb qe => by
        have h1 := hall q hq hb
        rw [qe, hiu] at h1
        cases h1
      have h2 := hg.beside hy (hf j y hy e hju hno) (fun cs b => hsel i x cs b hi) (fun cs b => hsel j y cs b hy) hQ h1
      have hjz : j ∉ Z := fun q => (waits_open hd hiu fz j (hz j q)).2 hj
      refine wpOp_mono (fun b u h3 => ⟨fun _ => h3.2.1 hjz, wpR.first hi hz hsel hQ k _ b u (hd.more hj) (fun t y hy ht hu hn => ?_) (ready_mono hr (Ne.symm e)) h3.1 (h3.2.1 hjz hS) ?_⟩) h2
      · refine hf t y hy ht ?_ hn
        by_cases q : j = t
        · subst q; exact hju
        · rw [getD_set_ne true q] at hu; exact hu
      · rw [Array.setIfInBounds_comm _ _ e]
        exact h3.2.2

/-- What asks nothing of the world is taken first, whatever is in Z. -/
theorem wpR.firstP {Z : List Nat} {i : Nat} {x : Oper} {v : Value} (hi : ops[i]? = some x) (hsel : ∀ (j : Nat) (o : Oper) cs b, ops[j]? = some o → o.op ≠ .select cs b) (hQ : ∀ c a w, Q (.panic c) (a.put x.dst v) w → Q (.panic c) a w) :
    ∀ (k : Nat) (l : Array Bool) (a : Act) (w : World), (∀ j y, ops[j]? = some y → j ≠ i → l.getD j true = false → (∀ e ∈ y.after, Region.binds md e = true → e.on ≠ i) → x.apart ops y = true) →
      i ∈ Region.ready md ops l → GivesW P ops (fun _ => True) x v a → wpR P md ops Q S Z k (l.setIfInBounds i true) (a.put x.dst v) w → wpR P md ops Q S Z (k + 1) l a w
  | 0, l, a, w, _, hr, hg, H => by
    refine ⟨fun h => (by rw [h] at hr; cases hr), fun j hj => ?_⟩
    by_cases e : j = i
    · subst e
      exact hg.now hi trivial ⟨fun _ h => h, H⟩
    · have := ready_mono hj e
      rw [H.1] at this
      cases this
  | k + 1, l, a, w, hf, hr, hg, H => by
    refine ⟨fun h => (by rw [h] at hr; cases hr), fun j hj => ?_⟩
    by_cases e : j = i
    · subst e
      exact hg.now hi trivial ⟨fun _ h => h, H⟩
    · have h1 := H.2 j (ready_mono hj e)
      obtain ⟨hju, y, hy, hall⟩ := mem_ready.1 hj
      have hiu := getD_true (mem_ready.1 hr).1
      have hno : ∀ q ∈ y.after, Region.binds md q = true → q.on ≠ i := fun q hq hb qe => by
        have h1 := hall q hq hb
        rw [qe, hiu] at h1
        cases h1
      have h2 := hg.beside hy (hf j y hy e hju hno) (fun cs b => hsel i x cs b hi) (fun cs b => hsel j y cs b hy) hQ h1
      refine wpOp_mono (fun b u h3 => ⟨h3.2.1, wpR.firstP hi hsel hQ k _ b u (fun t y hy ht hu hn => ?_) (ready_mono hr (Ne.symm e)) h3.1 ?_⟩) h2
      · refine hf t y hy ht ?_ hn
        by_cases q : j = t
        · subst q; exact hju
        · rw [getD_set_ne true q] at hu; exact hu
      · rw [Array.setIfInBounds_comm _ _ e]
        exact h3.2.2

theorem at_drop {i : Nat} {x : Oper} {r : List Oper} (h : ops.toList.drop i = x :: r) : ops[i]? = some x := by
  rw [← Array.getElem?_toList]
  have : (ops.toList.drop i)[0]? = some x := by rw [h]; rfl
  rw [List.getElem?_drop] at this
  exact this

/-- What number i asks for, as one Bool. -/
def okB (md : Region.Mode) (ops : Array Oper) (Z : List Nat) (i : Nat) (l : Array Bool) : Bool :=
  (Z.all fun z => waitsB md ops i ops.size z) && downB md ops l && Region.noSelect ops && Region.free md ops l i && (Region.ready md ops l).contains i

/-- Number i is taken first. -/
theorem wpR.take {Z : List Nat} (i : Nat) {x : Oper} {r : List Oper} {v : Value} {k : Nat} {l : Array Bool} {a : Act} {w : World} (hi : ops.toList.drop i = x :: r) (hb : okB md ops Z i l = true) (hQ : ∀ c a w, Q (.panic c) (a.put x.dst v) w → Q (.panic c) a w)
    (hw : Region.wanted x (yielded ops a.tmps) = true) (hg : ∀ w, S w → (execOp a.eval x).run P w = .ok (.value v) w) (hS : S w) (h : wpR P md ops Q S Z k (l.setIfInBounds i true) (a.put x.dst v) w) : wpR P md ops Q S Z (k + 1) l a w := by
  unfold okB at hb
  simp only [Bool.and_eq_true, List.all_eq_true] at hb
  exact wpR.first (at_drop hi) hb.1.1.1.1 (Region.noSelect_spec hb.1.1.2) hQ k l a w (downB_spec hb.1.1.1.2) (Region.free_spec (at_drop hi) hb.1.2) (by simpa using hb.2) (.inl ⟨hw, fun w h => .inl (hg w h)⟩) hS h

/-- What number i asks for, if it asks nothing of the world. -/
def okP (md : Region.Mode) (ops : Array Oper) (i : Nat) (l : Array Bool) : Bool :=
  Region.noSelect ops && Region.free md ops l i && (Region.ready md ops l).contains i

/-- Number i asks nothing of the world: it is taken first. -/
theorem wpR.pure {Z : List Nat} (i : Nat) {x : Oper} {r : List Oper} {v : Value} {k : Nat} {l : Array Bool} {a : Act} {w : World} (hi : ops.toList.drop i = x :: r) (hb : okP md ops i l = true) (hQ : ∀ c a w, Q (.panic c) (a.put x.dst v) w → Q (.panic c) a w)
    (hw : Region.wanted x (yielded ops a.tmps) = true) (hg : ∀ w, True → (execOp a.eval x).run P w = .ok (.value v) w) (h : wpR P md ops Q S Z k (l.setIfInBounds i true) (a.put x.dst v) w) : wpR P md ops Q S Z (k + 1) l a w := by
  unfold okP at hb
  simp only [Bool.and_eq_true] at hb
  exact wpR.firstP (at_drop hi) (Region.noSelect_spec hb.1.1) hQ k l a w (Region.free_spec (at_drop hi) hb.1.2) (by simpa using hb.2) (.inl ⟨hw, fun w h => .inl (hg w h)⟩) h

/-- Number i is not wanted. -/
theorem wpR.pass {Z : List Nat} (i : Nat) {x : Oper} {r : List Oper} {k : Nat} {l : Array Bool} {a : Act} {w : World} (hi : ops.toList.drop i = x :: r) (hb : okB md ops Z i l = true) (hQ : ∀ c a w, Q (.panic c) (a.put x.dst undef) w → Q (.panic c) a w)
    (hw : Region.wanted x (yielded ops a.tmps) = false) (hS : S w) (h : wpR P md ops Q S Z k (l.setIfInBounds i true) (a.put x.dst undef) w) : wpR P md ops Q S Z (k + 1) l a w := by
  unfold okB at hb
  simp only [Bool.and_eq_true, List.all_eq_true] at hb
  exact wpR.first (at_drop hi) hb.1.1.1.1 (Region.noSelect_spec hb.1.1.2) hQ k l a w (downB_spec hb.1.1.1.2) (Region.free_spec (at_drop hi) hb.1.2) (by simpa using hb.2) (.inr ⟨hw, rfl⟩) hS h

/-- Number i is a call that leaves the world as it was: it is taken first. -/
theorem wpR.call {Z : List Nat} (i : Nat) {x : Oper} {r : List Oper} {v : Value} {f : FuncId} {args : Array Value} {k : Nat} {l : Array Bool} {a : Act} {w : World} (hi : ops.toList.drop i = x :: r) (hb : okB md ops Z i l = true) (hQ : ∀ c a w, Q (.panic c) (a.put x.dst v) w → Q (.panic c) a w)
    (hw : Region.wanted x (yielded ops a.tmps) = true) (hg : ∀ w, S w → (execOp a.eval x).run P w = .ok (.enter f args) w) (hc : ∀ w, S w → Calls P f args w fun e w' => e = .returned v ∧ w = w') (hS : S w) (h : wpR P md ops Q S Z k (l.setIfInBounds i true) (a.put x.dst v) w) : wpR P md ops Q S Z (k + 1) l a w := by
  unfold okB at hb
  simp only [Bool.and_eq_true, List.all_eq_true] at hb
  exact wpR.first (at_drop hi) hb.1.1.1.1 (Region.noSelect_spec hb.1.1.2) hQ k l a w (downB_spec hb.1.1.1.2) (Region.free_spec (at_drop hi) hb.1.2) (by simpa using hb.2) (.inl ⟨hw, fun w h => .inr ⟨f, args, hg w h, hc w h⟩⟩) hS h

/-- Only number i may come up. -/
theorem wpR.one {Z : List Nat} (i : Nat) {x : Oper} {r : List Oper} {v : Value} {k : Nat} {l : Array Bool} {a : Act} {w w' : World} (hi : ops.toList.drop i = x :: r) (hr : Region.ready md ops l = [i]) (hw : Region.wanted x (yielded ops a.tmps) = true) (hrun : (execOp a.eval x).run P w = .ok (.value v) w') (hS : i ∉ Z → S w') (h : wpR P md ops Q S Z k (l.setIfInBounds i true) (a.put x.dst v) w') : wpR P md ops Q S Z (k + 1) l a w := by
  refine ⟨fun e => (by rw [e] at hr; cases hr), fun j hj => ?_⟩
  rw [hr] at hj
  have e := List.mem_singleton.1 hj
  subst e
  unfold wpOp
  simp only [at_drop hi]
  rw [if_pos hw]
  refine .inl ?_
  unfold Oper.wp
  rw [hrun]
  exact ⟨fun q _ => hS q, h⟩

/-- Only number i may come up: it gives no value. -/
theorem wpR.skip {Z : List Nat} (i : Nat) {x : Oper} {r : List Oper} {k : Nat} {l : Array Bool} {a : Act} {w w' : World} (hi : ops.toList.drop i = x :: r) (hr : Region.ready md ops l = [i]) (hw : Region.wanted x (yielded ops a.tmps) = true) (hrun : (execOp a.eval x).run P w = .ok .skip w') (hS : i ∉ Z → S w') (h : wpR P md ops Q S Z k (l.setIfInBounds i true) (a.put x.dst undef) w') : wpR P md ops Q S Z (k + 1) l a w := by
  refine ⟨fun e => (by rw [e] at hr; cases hr), fun j hj => ?_⟩
  rw [hr] at hj
  have e := List.mem_singleton.1 hj
  subst e
  unfold wpOp
  simp only [at_drop hi]
  rw [if_pos hw]
  refine .inl ?_
  unfold Oper.wp
  rw [hrun]
  exact ⟨fun q _ => hS q, h⟩

/-- Only number i may come up: a call. -/
theorem wpR.enter {Z : List Nat} (i : Nat) {x : Oper} {r : List Oper} {f : FuncId} {args : Array Value} {k : Nat} {l : Array Bool} {a : Act} {w : World} (hi : ops.toList.drop i = x :: r) (hr : Region.ready md ops l = [i]) (hw : Region.wanted x (yielded ops a.tmps) = true) (hrun : (execOp a.eval x).run P w = .ok (.enter f args) w)
    (h : Calls P f args w fun e w' => ∃ v, e = .returned v ∧ (i ∉ Z → S w') ∧ wpR P md ops Q S Z k (l.setIfInBounds i true) (a.put x.dst v) w') : wpR P md ops Q S Z (k + 1) l a w := by
  refine ⟨fun e => (by rw [e] at hr; cases hr), fun j hj => ?_⟩
  rw [hr] at hj
  have e := List.mem_singleton.1 hj
  subst e
  unfold wpOp
  simp only [at_drop hi]
  rw [if_pos hw]
  refine .inl ?_
  unfold Oper.wp
  rw [hrun]
  exact h.mono fun e w' ⟨v, he, h1, h2⟩ => by subst he; exact ⟨fun q _ => h1 q, h2⟩

/-- All have come up. -/
theorem wpR.done {Z : List Nat} {k : Nat} {l : Array Bool} {a : Act} {w : World} (hr : Region.ready md ops l = []) (h : Q .normal a w) : wpR P md ops Q S Z k l a w := by
  cases k with
  | zero => exact ⟨hr, h⟩
  | succ k => exact ⟨fun _ => h, fun i hi => by rw [hr] at hi; cases hi⟩

/-- The beginning. -/
theorem wp_region_R (S : World → Prop) (Z : List Nat) {id : Nat} {a : Act} {w : World} (hm : P.follows .mixedOrders = true) (h : wpR P .any ops Q S Z ops.size (Array.replicate ops.size false) a w.drew) : (Code.region id ops true).wp P Q a w :=
  wp_region_any hm (wpR.any _ _ _ _ h)

end

end Go.Proofs.Ytfofabbnbmieoaa.Ord

/- The contract of solve's attach. -/
namespace Go.Proofs.Ytfofabbnbmieoaa.Ord
open Go.RowKit Go.Conc

attribute [local go_sem ↓] Go.wp_at_zero Go.wp_at_succ
attribute [local go_sem ↓ high] app_mark

/-- What attach changes. -/
def attD (d : SD) (c : List Int) : SD := { d with C := d.C ++ [c], Wt := addW (ixL ((c[1]?).getD 0)).toNat d.C.length (addW (ixL ((c[0]?).getD 0)).toNat d.C.length d.Wt) }

theorem fit_cell' {w : World} {b i : Nat} {cur : Array Value} {e : TypeId} {m : Nat × Nat} (h : w.heap[b]? = some (.cells cur e m)) : w.cell? ⟨b, i, none⟩ = cur[i]? := by
  rw [cell_of_row _ _ _ _ _ _ h]

theorem Ro.cell {t : KT} {tag : Nat → KT} {w : World} {g o n cap : Nat} {c : List Int} (h : Ro t tag w (.slice (some ⟨g, o, none⟩) n cap) c) {j : Nat} {x : Int} (hj : c[j]? = some x) : w.cell? ⟨g, o + j, none⟩ = some (.int .i64 x) ∧ tag g = t := by
  obtain ⟨g', o', cap', cur, e1, -, h3, h4, h5⟩ := h
  injection e1 with e1 e2 e3
  injection e1 with e1
  injection e1 with e1 e4
  subst e1 e4
  exact ⟨by rw [fit_cell' h4]; exact h5 j x hj, h3⟩

/-- The watch lists behind j of a clause's literals. -/
def attW (d : SD) (c : List Int) : Nat → List (List Nat)
  | 0 => d.Wt
  | j + 1 => addW (ixL ((c[j]?).getD 0)).toNat d.C.length (attW d c j)

theorem addW_len {M : Nat} {x : Int} {i : Nat} {Wt : List (List Nat)} (h : ∀ b, (WtF Wt b).length ≤ M) : ∀ b, (WtF (addW (ixL x).toNat i Wt) b).length ≤ M + 1 := fun b => by
  by_cases q : (ixL x).toNat < Wt.length
  · rw [WtF_add q]
    unfold effW
    split
    · rw [List.length_append]
      have := h x
      simp
      omega
    · have := h b
      omega
  · unfold addW
    rw [List.set_eq_of_length_le (by omega)]
    have := h b
    omega

theorem attW_len {M : Nat} {d : SD} (c : List Int) (h : ∀ b, (WtF d.Wt b).length ≤ M) : ∀ j, ∀ b, (WtF (attW d c j) b).length ≤ M + j
  | 0 => h
  | j + 1 => addW_len (attW_len c h j)

set_option maxRecDepth 100000 in
set_option maxHeartbeats 4000000 in
theorem sol_attach (tag : Nat → KT) (B : Nat) (w0 w : World) (a : SA) (v : SV) (d : SD) (n g o cap : Nat) (c : List Int) (h : SM tag B w0 w a v d) (hn : a.n1 = n + 1) (hn1 : n ≤ 1048576) (hc2 : 2 ≤ c.length) (hcl : c.length ≤ 1048576) (hok : ∀ x ∈ c, LitOk n x) (hC : d.C.length ≤ 4398046511104) (hc : Ro .oth tag w (.slice (some ⟨g, o, none⟩) c.length cap) c) (hgB : B ≤ g) (hwl : ∀ b, (WtF d.Wt b).length ≤ 4398046511104) :
    Calls Try.prog 54 #[.pointer (some ⟨a.bx, 0, none⟩), .slice (some ⟨g, o, none⟩) c.length cap] w fun e w' => e = .returned (.int .i64 d.C.length) ∧ ∃ tag' v', SM tag' B w0 w' a v' (attD d c) ∧ Touch (fun k => tag k ≠ .oth) w w' ∧ (∀ k, k < w.heap.size → k ≠ g → tag k = .oth → tag' k = .oth) := by
  obtain ⟨i0, hi0, hz0, hz1, hz2⟩ := info_parts info_int
  obtain ⟨i1, hi1, hy0, hy1, hy2⟩ := info_parts info_ints
  have hK := (h.co .clr).1.1
  have hul := (h.co .clr).2
  obtain ⟨ac, cc, hvc⟩ := own_lenV' hK
  have hBw := h.le
  have c1 : w.cell? ⟨a.bx, 1, none⟩ = some v.vc := h.cell 1
  obtain ⟨m, hm⟩ : ∃ m, d.C.length = m := ⟨_, rfl⟩
  rw [hm] at hul hC
  rw [hul] at hvc hK
  obtain ⟨a6, c6, w6, hr6, ho6, hg6, ha6⟩ := appM_one (P := Try.prog) (w.alloc (.cells #[.slice (some ⟨g, o, none⟩) c.length cap] 22 (0, 0))) B 32 32 22 i1 (.slice none 0 0) 24 Try.underlying32 hi1 hy0 hy1 hy2 rfl v.vc m v.us (hK.alloc _) w.heap.size (.slice (some ⟨g, o, none⟩) c.length cap) (heap_alloc_new _ _) rfl (by unfold maxLen; omega) (by omega) (by simp only [size_al]; omega)
  obtain ⟨tag1, hM1, hT1, hO1, hb6⟩ := h.pushC hc hgB (box_below w (.cells #[.slice (some ⟨g, o, none⟩) c.length cap] 22 (0, 0))) (by rw [hm]; exact ho6) hg6 ha6
  have hq6 : w6.cell? ⟨a.bx, 1, none⟩ = some v.vc := fit_cell hb6 1
  have hf6 : w6.frozen? ⟨a.bx, 1, none⟩ = false := frozen_of_row _ _ _ _ _ hb6
  rw [hvc] at c1 hr6 hq6
  have hrun := slice_toG (P := Try.prog) (t := 22) (e := 3) (a := some ⟨g, o, none⟩) (n := c.length) (c := cap) (k := 2) (m := 2) (by simp) Try.underlying22 (fun wx => by kernel_rfl) (by obtain ⟨_, _, _, _, e, hh, -⟩ := hc; injection e with _ _ e; omega)
  go_enter Try.func54, Try.ntmps54
  go_wp2_with fail
  have HF1 := hid (And.intro hM1 (And.intro hT1 hO1))
  have HOK := hid hok
  have HWL := hid hwl
  clear hwl
  have HM := hid hm
  generalize w6.setCell ⟨a.bx, 1, none⟩ (.slice a6 (m + 1) c6) = w7 at HF1 ⊢
  go_loopw [26] (fun s26 wr => ∃ j : Nat, s26 = .int .i64 j ∧ j ≤ 2 ∧ Hid (∃ tag' v', SM tag' B w0 wr a v' { d with C := d.C ++ [c], Wt := attW d c j } ∧ Touch (fun k => tag k ≠ .oth) w wr ∧ (∀ k, k < w.heap.size → k ≠ g → tag k = .oth → tag' k = .oth) ∧ v'.us = v.us ++ [.slice (some ⟨g, o, none⟩) c.length cap])) (fun s26 _ => (2 - (intOf s26)).toNat)
  case atStart => exact ⟨0, rfl, by omega, hid ⟨_, _, HF1.out.1, HF1.out.2.1, HF1.out.2.2, rfl⟩⟩
  case round =>
    obtain ⟨j, rfl, hj2, HS⟩ := hrel
    by_cases hlt : j < 2
    · have hlt2 : (j : Int) < 2 := by omega
      obtain ⟨x, hx⟩ : ∃ x, c[j]? = some x := ⟨_, List.getElem?_eq_getElem (by omega)⟩
      have hxo := HOK.out x (List.mem_of_getElem? hx)
      have hxr := ixL_range hxo
      have hxb : -1048577 ≤ x ∧ x ≤ 1048577 := by unfold LitOk at hxo; omega
      obtain ⟨q, hq⟩ : ∃ q : Nat, ixL x = q := ⟨(ixL x).toNat, by omega⟩
      have hqt : (ixL x).toNat = q := by omega
      have hqn : q < 2 * a.n1 := by omega
      obtain ⟨N2, hN2⟩ : ∃ m, 2 * a.n1 = m := ⟨_, rfl⟩
      have hqi : (q : Int) < N2 := by omega
      have hq0 : (0 : Int) ≤ q := by omega
      have hqN : q < N2 := by omega
      have HQN := hid hqn
      obtain ⟨tagj, vj, hM, hT, hO, hUs⟩ := HS.out
      obtain ⟨uc, huc, hRo⟩ := hM.co (.cls m) c (by show (d.C ++ [c])[m]? = some c; rw [List.getElem?_append_right (by omega)]; simp [HM.out])
      have hucv : uc = .slice (some ⟨g, o, none⟩) c.length cap := by
        rw [hUs, List.getElem?_append_right (by omega)] at huc
        simpa [hul, eq_comm] using huc
      subst hucv
      have hcj := (hRo.cell hx).1
      have HTG := hid (hRo.cell hx).2
      obtain ⟨u, ns, hu, hns, hGr⟩ := hM.wthAt hqn
      have hnl : ns.length ≤ 8796093022208 := by
        have h1 := attW_len c HWL.out j x
        have h2 : WtF (attW d c j) x = ns := by
          have hns : (attW d c j)[q]? = some ns := hns
          unfold WtF
          rw [hqt, hns]
          rfl
        rw [h2] at h1
        omega
      have hGo := hGr.1
      rw [nnts_length] at hGo
      obtain ⟨au, cu, huv⟩ := own_lenV' hGo
      have b2 : wr.cell? ⟨a.bx, 2, none⟩ = some (.slice (some ⟨a.bw, 0, none⟩) N2 N2) := by rw [← hN2]; exact hM.cell 2
      have bq : wr.cell? ⟨a.bw, q, none⟩ = some u := by rw [fit_cell (hM.co .wtb).1.1 q]; exact hu
      have hBr := hM.le
      have hne1 : a.bx ≠ a.bw := fun e => by have q1 := (hM.co .sta).2; rw [e, (hM.co .wtb).1.2] at q1; cases q1
      have bqa := fun o => below_keeps (box_below wr o) _ _ bq
      have HMJ := hid (And.intro hM (And.intro hT (And.intro hO hUs)))
      have HGO := hid hGo
      have HU := hid (And.intro hu hns)
      have HX := hid hx
      have HQ := hid hqt
      have HIX : Hid (∀ wz : World, Calls Try.prog 69 #[.int .i64 x] wz fun e w' => e = .returned (.int .i64 (q : Int)) ∧ wz = w') := hid fun wz => sol_index x q wz hq hxb
      subst huv
      clear hqn
      have HN2 := hid hN2
      clear hN2
      clear hM hT hO hUs huc hRo hu hns hGr hGo hx hxo hxr hxb hq hqt HS
      obtain ⟨a12, c12, w12, hr12, h12, hg12, ha12⟩ := appM_one (P := Try.prog) (wr.alloc (.cells #[.int .i64 m] 3 (0, 0))).drew B 22 22 3 i0 (.int .i64 0) 8 Try.underlying22 hi0 hz0 hz1 hz2 rfl (.slice au ns.length cu) ns.length (nnts ns) (HGO.out.alloc _) wr.heap.size (.int .i64 m) (heap_alloc_new _ _) rfl (by unfold maxLen; omega) (by omega) (by show B ≤ (wr.alloc _).heap.size; simp only [size_al]; omega)
      obtain ⟨hM2, hS2, hb2, hb3⟩ := HMJ.out.1.pushW HQN.out HU.out.1 HU.out.2 (box_below wr (.cells #[.int .i64 m] 3 (0, 0))).drew h12 hg12 ha12
      have HP2 := hid (And.intro hM2 hS2)
      have r2 : w12.cell? ⟨a.bw, q, none⟩ = some (.slice au ns.length cu) := (by rw [fit_cell hb2 q]; exact HU.out.1)
      have f2 : w12.frozen? ⟨a.bw, q, none⟩ = false := frozen_of_row _ _ _ _ _ hb2
      have r3 : w12.cell? ⟨a.bx, 2, none⟩ = some (.slice (some ⟨a.bw, 0, none⟩) N2 N2) := (by rw [fit_cell hb3 2, ← HN2.out]; rfl)
      clear hM2 hS2 hb2 hb3 h12 hg12 ha12
      have b2a := fun o => below_keeps (box_below wr o) _ _ b2
      go_wp2_with fail
      refine wp_region_R (fun y => y.cell? ⟨a.bx, 2, none⟩ = some (.slice (some ⟨a.bw, 0, none⟩) N2 N2) ∧ y.cell? ⟨a.bw, q, none⟩ = some (.slice au ns.length cu)) [18] (by kernel_rfl) ?_
      have hHeld : (fun y : World => y.cell? ⟨a.bx, 2, none⟩ = some (.slice (some ⟨a.bw, 0, none⟩) N2 N2) ∧ y.cell? ⟨a.bw, q, none⟩ = some (.slice au ns.length cu)) wr.drew := ⟨b2, bq⟩
      refine wpR.take 0 rfl (by kernel_rfl) (fun _ _ _ h => h) (by rfl) (v := ?_) ?_ (by assumption) ?_
      rotate_left 1
      · (intro wx hSw; (try dsimp only at hSw); go_simp; try with_reducible rfl)
      try simp only [Act.put, List.setIfInBounds_toArray, List.set_cons_zero, List.set_cons_succ]
      refine wpR.take 1 rfl (by kernel_rfl) (fun _ _ _ h => h) (by rfl) (v := ?_) ?_ (by assumption) ?_
      rotate_left 1
      · (intro wx hSw; (try dsimp only at hSw); go_simp; try with_reducible rfl)
      try simp only [Act.put, List.setIfInBounds_toArray, List.set_cons_zero, List.set_cons_succ]
      refine wpR.take 2 rfl (by kernel_rfl) (fun _ _ _ h => h) (by rfl) (v := ?_) ?_ (by assumption) ?_
      rotate_left 1
      · (intro wx hSw; (try dsimp only at hSw); go_simp; try with_reducible rfl)
      try simp only [Act.put, List.setIfInBounds_toArray, List.set_cons_zero, List.set_cons_succ]
      refine wpR.take 3 rfl (by kernel_rfl) (fun _ _ _ h => h) (by rfl) (v := ?_) ?_ (by assumption) ?_
      rotate_left 1
      · (intro wx hSw; (try dsimp only at hSw); go_simp; try with_reducible rfl)
      try simp only [Act.put, List.setIfInBounds_toArray, List.set_cons_zero, List.set_cons_succ]
      refine wpR.take 4 rfl (by kernel_rfl) (fun _ _ _ h => h) (by rfl) (v := ?_) ?_ (by assumption) ?_
      rotate_left 1
      · (intro wx hSw; (try dsimp only at hSw); go_simp; try with_reducible rfl)
      try simp only [Act.put, List.setIfInBounds_toArray, List.set_cons_zero, List.set_cons_succ]
      refine wpR.call 5 rfl (by kernel_rfl) (fun _ _ _ h => h) (by rfl) (v := ?_) (f := ?_) (args := ?_) ?_ ?_ (by assumption) ?_
      rotate_left 3
      · (intro wx hSw; (try dsimp only at hSw); go_simp; first | done | with_reducible rfl | (refine ⟨?_, ?_⟩ <;> with_reducible rfl))
      · (intro wx hSw; (try dsimp only at hSw); exact HIX.out wx)
      try simp only [Act.put, List.setIfInBounds_toArray, List.set_cons_zero, List.set_cons_succ]
      refine wpR.take 6 rfl (by kernel_rfl) (fun _ _ _ h => h) (by rfl) (v := ?_) ?_ (by assumption) ?_
      rotate_left 1
      · (intro wx hSw; (try dsimp only at hSw); go_simp; try with_reducible rfl)
      try simp only [Act.put, List.setIfInBounds_toArray, List.set_cons_zero, List.set_cons_succ]
      refine wpR.take 7 rfl (by kernel_rfl) (fun _ _ _ h => h) (by rfl) (v := ?_) ?_ (by assumption) ?_
      rotate_left 1
      · (intro wx hSw; (try dsimp only at hSw); go_simp; try with_reducible rfl)
      try simp only [Act.put, List.setIfInBounds_toArray, List.set_cons_zero, List.set_cons_succ]
      refine wpR.take 8 rfl (by kernel_rfl) (fun _ _ _ h => h) (by rfl) (v := ?_) ?_ (by assumption) ?_
      rotate_left 1
      · (intro wx hSw; (try dsimp only at hSw); go_simp; try with_reducible rfl)
      try simp only [Act.put, List.setIfInBounds_toArray, List.set_cons_zero, List.set_cons_succ]
      refine wpR.take 9 rfl (by kernel_rfl) (fun _ _ _ h => h) (by rfl) (v := ?_) ?_ (by assumption) ?_
      rotate_left 1
      · (intro wx hSw; (try dsimp only at hSw); go_simp; try with_reducible rfl)
      try simp only [Act.put, List.setIfInBounds_toArray, List.set_cons_zero, List.set_cons_succ]
      refine wpR.take 10 rfl (by kernel_rfl) (fun _ _ _ h => h) (by rfl) (v := ?_) ?_ (by assumption) ?_
      rotate_left 1
      · (intro wx hSw; (try dsimp only at hSw); go_simp; try with_reducible rfl)
      try simp only [Act.put, List.setIfInBounds_toArray, List.set_cons_zero, List.set_cons_succ]
      refine wpR.call 11 rfl (by kernel_rfl) (fun _ _ _ h => h) (by rfl) (v := ?_) (f := ?_) (args := ?_) ?_ ?_ (by assumption) ?_
      rotate_left 3
      · (intro wx hSw; (try dsimp only at hSw); go_simp; first | done | with_reducible rfl | (refine ⟨?_, ?_⟩ <;> with_reducible rfl))
      · (intro wx hSw; (try dsimp only at hSw); exact HIX.out wx)
      try simp only [Act.put, List.setIfInBounds_toArray, List.set_cons_zero, List.set_cons_succ]
      refine wpR.take 12 rfl (by kernel_rfl) (fun _ _ _ h => h) (by rfl) (v := ?_) ?_ (by assumption) ?_
      rotate_left 1
      · (intro wx hSw; (try dsimp only at hSw); go_simp; try with_reducible rfl)
      try simp only [Act.put, List.setIfInBounds_toArray, List.set_cons_zero, List.set_cons_succ]
      refine wpR.take 13 rfl (by kernel_rfl) (fun _ _ _ h => h) (by rfl) (v := ?_) ?_ (by assumption) ?_
      rotate_left 1
      · (intro wx hSw; (try dsimp only at hSw); go_simp; try with_reducible rfl)
      try simp only [Act.put, List.setIfInBounds_toArray, List.set_cons_zero, List.set_cons_succ]
      refine wpR.take 14 rfl (by kernel_rfl) (fun _ _ _ h => h) (by rfl) (v := ?_) ?_ (by assumption) ?_
      rotate_left 1
      · (intro wx hSw; (try dsimp only at hSw); go_simp; try with_reducible rfl)
      try simp only [Act.put, List.setIfInBounds_toArray, List.set_cons_zero, List.set_cons_succ]
      refine wpR.one 15 rfl (by kernel_rfl) (by rfl) (v := ?_) (w' := ?_) ?_ ?_ ?_
      rotate_left 2
      · (go_simp; first | done | with_reducible rfl | (refine ⟨?_, ?_⟩ <;> with_reducible rfl))
      · (intro _; exact ⟨b2a _, bqa _⟩)
      try simp only [Act.put, List.setIfInBounds_toArray, List.set_cons_zero, List.set_cons_succ]
      have hHeld0 := hHeld
      clear hHeld0
      have hHeld : (fun y : World => y.cell? ⟨a.bx, 2, none⟩ = some (.slice (some ⟨a.bw, 0, none⟩) N2 N2) ∧ y.cell? ⟨a.bw, q, none⟩ = some (.slice au ns.length cu)) w12 := ⟨r3, r2⟩
      refine wpR.one 16 rfl (by kernel_rfl) (by rfl) (v := ?_) (w' := ?_) ?_ ?_ ?_
      rotate_left 2
      · (go_simp; first | done | with_reducible rfl | (refine ⟨?_, ?_⟩ <;> with_reducible rfl))
      · (intro _; exact ⟨r3, r2⟩)
      try simp only [Act.put, List.setIfInBounds_toArray, List.set_cons_zero, List.set_cons_succ]
      refine wpR.take 17 rfl (by kernel_rfl) (fun _ _ _ h => h) (by rfl) (v := ?_) ?_ (by assumption) ?_
      rotate_left 1
      · (intro wx hSw; (try dsimp only at hSw); go_simp; try with_reducible rfl)
      try simp only [Act.put, List.setIfInBounds_toArray, List.set_cons_zero, List.set_cons_succ]
      refine wpR.skip 18 rfl (by kernel_rfl) (by rfl) (w' := ?_) ?_ ?_ ?_
      rotate_left 1
      · (go_simp; first | done | with_reducible rfl | (refine ⟨?_, ?_⟩ <;> with_reducible rfl))
      · (exact fun h => absurd (by decide) h)
      try simp only [Act.put]
      refine wpR.done (by kernel_rfl) ?_
      all_goals
        go_wp2_with fail
        go_roundw
        case rel =>
          refine ⟨j + 1, by simp, by omega, hid ⟨tgN tagj wr (.wth q), { vj with ws := vj.ws.set q (.slice a12 (ns.length + 1) c12) }, ?_, ?_, ?_, HMJ.out.2.2.2⟩⟩
          · have hs : attW d c (j + 1) = addW q m (attW d c j) := by
              show addW (ixL ((c[j]?).getD 0)).toNat d.C.length (attW d c j) = _
              rw [HX.out, HM.out]
              show addW (ixL x).toNat m _ = _
              rw [HQ.out]
            rw [hs]
            exact HP2.out.1
          · refine HMJ.out.2.1.trans' HP2.out.2 fun i hi hs e => ?_
            by_cases hig : i = g
            · rw [hig, HTG.out] at hs
              rcases hs with hs | hs <;> cases hs
            · rw [HMJ.out.2.2.1 i hi hig e] at hs
              rcases hs with hs | hs <;> cases hs
          · intro k hk hkg e
            exact (tgN_old (Nat.lt_of_lt_of_le hk HMJ.out.2.1.size)).trans (HMJ.out.2.2.1 k hk hkg e)
        case measure => simp [intOf]; omega
    · have hje : j = 2 := by omega
      subst hje
      clear hlt
      go_wp2_with fail
      go_ret
      refine ⟨by rw [HM.out]; rfl, ?_⟩
      obtain ⟨tagj, vj, hM, hT, hO, -⟩ := HS.out
      exact ⟨tagj, vj, hM, hT, hO⟩

end Go.Proofs.Ytfofabbnbmieoaa.Ord

/- Plain facts about solve's load. -/
namespace Go.Proofs.Ytfofabbnbmieoaa.Ord

section
variable {n : Nat} {G C : List (List Int)} {Wt Wt' : Int → List Nat} {K Rz : List Int} {c e : List Int} {x u y r : Int} {k : Nat}

theorem CB.grow0 (h : CB n G C Wt K Rz []) (hc : Taut c ∨ (∃ d ∈ C, ∀ l, l ∈ d ↔ l ∈ c) ∨ ∃ l ∈ c, l ∈ K) : CB n (G ++ [c]) C Wt K Rz [] :=
  ⟨h.wi, h.bp, h.bl, h.inc, h.rl, h.rs, fun i a hi hl => der_mono (sub_of_subset fun _ hd => List.mem_append_left _ hd) (fun _ ha => ha) (h.lv0 i a hi hl), h.cons, h.nod, h.kok, fun d hd => by
    obtain ⟨f, hf, hl⟩ := h.sub d hd
    exact ⟨f, List.mem_append_left _ hf, hl⟩, h.al.app hc⟩

theorem CD.grow0 (h : CD n G C Wt K Rz [] k) (hc : Taut c ∨ (∃ d ∈ C, ∀ l, l ∈ d ↔ l ∈ c) ∨ ∃ l ∈ c, l ∈ K) : CD n (G ++ [c]) C Wt K Rz [] k :=
  ⟨h.toCB.grow0 hc, h.pr, h.dl, h.bd⟩

theorem CD.unit0 (h : CD n G C Wt K Rz [] 0) (hc : ∀ l, l ∈ c ↔ l = x) (hok : LitOk n x) (h1 : x ∉ K) (h2 : -x ∉ K) (r : Int) : CD n (G ++ [c]) C Wt (K ++ [x]) (Rz ++ [r]) [] 0 := by
  refine ⟨⟨h.wi, (fun b hb => by cases hb), (fun b hb => by cases hb), List.Pairwise.nil, by simp [h.rl], (fun i a hi hib hlv => by cases hlv), fun i a hi hlv => ?_, cons_app h.cons h2 hok.1, nodup_app h.nod h1, kok_app h.kok hok, fun d hd => ?_, ?_⟩, fun t d p q ht hp hq => ?_, Nat.zero_le _, (fun b hb => by cases hb)⟩
  · by_cases q : i < K.length
    · rw [List.getElem?_append_left q] at hi
      exact der_mono (sub_of_subset fun _ hd => List.mem_append_left _ hd) (fun _ ha => ha) (h.lv0 i a hi hlv)
    · rw [List.getElem?_append_right (by omega)] at hi
      have hj2 := (List.getElem?_eq_some_iff.1 hi).1
      simp at hj2
      have hik : i = K.length := by omega
      subst hik
      simp at hi
      subst hi
      exact .unit (c := c) (by simp) ((hc _).2 rfl) fun m hm hne => absurd ((hc m).1 hm) hne
  · obtain ⟨f, hf, hl⟩ := h.sub d hd
    exact ⟨f, List.mem_append_left _ hf, hl⟩
  · exact (h.al.mono (fun d hd => ⟨d, hd, fun _ => Iff.rfl⟩) fun z hz => List.mem_append_left _ hz).app (.inr (.inr ⟨x, (hc x).2 rfl, by simp [k0]⟩))
  · have h3 := h.pr t d p q ht hp hq
    exact ⟨fun m => List.mem_append_left _ (h3.1 (by simpa using m)), fun m => List.mem_append_left _ (h3.2 (by simpa using m))⟩

theorem CD.more0 (h : CD n G C Wt K Rz [] 0) (he : ∀ l, l ∈ e ↔ l ∈ c) (hl2 : 2 ≤ e.length) (hnd : e.Nodup) (hok : ∀ x ∈ e, LitOk n x) (hop : ∀ x ∈ e, -x ∉ e) (h0 : e[0]? = some u) (h1 : e[1]? = some y)
    (hw : ∀ b, Wt' b = if b = u ∨ b = y then Wt b ++ [C.length] else Wt b) : CD n (G ++ [c]) (C ++ [e]) Wt' K Rz [] 0 := by
  refine ⟨⟨h.wi.push hl2 hnd hok hop h0 h1 hw, (fun b hb => by cases hb), (fun b hb => by cases hb), List.Pairwise.nil, h.rl, (fun i a hi hib hlv => by cases hlv), fun i a hi hlv => der_mono (sub_of_subset fun _ hd => List.mem_append_left _ hd) (fun _ ha => ha) (h.lv0 i a hi hlv), h.cons, h.nod, h.kok, fun d hd => ?_, ?_⟩, fun t d p q ht hp hq => ?_, Nat.zero_le _, (fun b hb => by cases hb)⟩
  · rcases List.mem_append.1 hd with q | q
    · obtain ⟨f, hf, hl⟩ := h.sub d q
      exact ⟨f, List.mem_append_left _ hf, hl⟩
    · rw [List.mem_singleton.1 q]; exact ⟨c, by simp, he⟩
  · exact (h.al.mono (fun d hd => ⟨d, List.mem_append_left _ hd, fun _ => Iff.rfl⟩) fun z hz => hz).app (.inr (.inl ⟨e, by simp, he⟩))
  · by_cases qq : t < C.length
    · rw [List.getElem?_append_left qq] at ht
      exact h.pr t d p q ht hp hq
    · rw [List.getElem?_append_right (by omega)] at ht
      have hj := (List.getElem?_eq_some_iff.1 ht).1
      simp at hj
      have hk : t = C.length := by omega
      subst hk
      simp at ht
      subst ht
      have hp0 := (hok p (List.mem_of_getElem? hp)).1
      have hq0 := (hok q (List.mem_of_getElem? hq)).1
      exact ⟨fun m => by simp [hp0] at m, fun m => by simp [hq0] at m⟩

theorem CD.bad0 (h : CD n G C Wt K Rz [] k) (hc : ∀ l ∈ c, -l ∈ K) : Bad (G ++ [c]) [] :=
  .inr ⟨c, by simp, fun l hl => by
    obtain ⟨i, hi⟩ := List.mem_iff_getElem?.1 (hc l hl)
    exact der_mono (sub_of_subset fun _ hd => List.mem_append_left _ hd) (fun _ ha => ha) (h.lv0 i _ hi rfl)⟩

theorem CF.bad0 {i : Nat} (h : CF n G C Wt K Rz [] i) : Bad G [] := by
  obtain ⟨c, hc, hf, -⟩ := h.fls
  obtain ⟨f, hfG, hl⟩ := h.sub c (List.mem_of_getElem? hc)
  refine .inr ⟨f, hfG, fun l hl' => ?_⟩
  obtain ⟨j, hj⟩ := List.mem_iff_getElem?.1 (hf l ((hl l).2 hl'))
  exact h.lv0 j _ hj rfl

theorem bad_sub {F' : List (List Int)} (h : Bad G []) (hs : ∀ d ∈ G, d ∈ F') : Bad F' [] := by
  exact bad_mono (sub_of_subset hs) (fun _ ha => ha) h

end

/-- What attach makes of the watch lists. -/
theorem attD_wt {n m : Nat} {d : SD} {c : List Int} {u y : Int} (hm : m = n + 1) (hw : d.Wt.length = 2 * m) (h0 : c[0]? = some u) (h1 : c[1]? = some y) (hu : LitOk n u) (hy : LitOk n y) (hne : u ≠ y) : ∀ b, WtF (attD d c).Wt b = if b = u ∨ b = y then WtF d.Wt b ++ [d.C.length] else WtF d.Wt b := fun b => by
  have hul := ixL_lt hm hu
  have hyl := ixL_lt hm hy
  show WtF (addW (ixL ((c[1]?).getD 0)).toNat d.C.length (addW (ixL ((c[0]?).getD 0)).toNat d.C.length d.Wt)) b = _
  rw [h0, h1]
  show WtF (addW (ixL y).toNat d.C.length (addW (ixL u).toNat d.C.length d.Wt)) b = _
  rw [WtF_add (by unfold addW; rw [List.length_set]; omega), WtF_add (by omega)]
  unfold effW
  by_cases q1 : b = y
  · subst q1
    rw [if_pos rfl, if_neg (fun e => hne e.symm), if_pos (.inr rfl)]
  · rw [if_neg q1]
    by_cases q2 : b = u
    · rw [if_pos q2, if_pos (.inl q2), q2]
    · rw [if_neg q2, if_neg (by rintro (e | e); exact q2 e; exact q1 e)]

end Go.Proofs.Ytfofabbnbmieoaa.Ord
