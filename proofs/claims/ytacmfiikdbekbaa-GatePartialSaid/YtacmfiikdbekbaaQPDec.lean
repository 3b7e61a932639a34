/- Plain facts about the reference's way to decide: what is known, by a number for each variable. -/
import Derived.Test.YtacmfiikdbekbaaQ3

namespace Go.Proofs.Ytacmfiikdbekbaa.Ord

/-- The literal is known to hold. -/
def kT (k : List Int) (a : Int) : Prop := k.getD a.natAbs 0 = (if 0 < a then 1 else -1)

instance (k : List Int) (a : Int) : Decidable (kT k a) := by unfold kT; exact inferInstance

/-- Each number is 1, -1 or 0. -/
def kOk (k : List Int) : Prop := ∀ x ∈ k, x = 1 ∨ x = -1 ∨ x = 0

theorem kT_zero {n : Nat} {a : Int} : ¬ kT (List.replicate n 0) a := by
  unfold kT
  intro h
  have : (List.replicate n (0 : Int)).getD a.natAbs 0 = 0 := by
    rw [List.getD_eq_getElem?_getD, List.getElem?_replicate]
    split <;> rfl
  rw [this] at h
  split at h <;> omega

theorem kT_cons {k : List Int} {a : Int} (ha : a ≠ 0) (h : kT k a) : ¬ kT k (-a) := by
  unfold kT at *
  rw [Int.natAbs_neg]
  intro h'
  rw [h] at h'
  split at h' <;> split at h' <;> omega

theorem kOk_get {k : List Int} (h : kOk k) (j : Nat) : k.getD j 0 = 1 ∨ k.getD j 0 = -1 ∨ k.getD j 0 = 0 := by
  rw [List.getD_eq_getElem?_getD]
  cases hj : k[j]? with
  | none => simp
  | some x => simpa using h x (List.mem_of_getElem? hj)

/-- What Is answers. -/
theorem is_known {k : List Int} (h : kOk k) {a : Int} (ha : a ≠ 0) : (k.getD a.natAbs 0 = 0 ↔ ¬ kT k a ∧ ¬ kT k (-a)) := by
  have := kOk_get h a.natAbs
  unfold kT
  rw [Int.natAbs_neg]
  constructor
  · intro e
    rw [e]
    constructor <;> split <;> omega
  · rintro ⟨h1, h2⟩
    rcases Int.lt_or_gt_of_ne ha with hlt | hgt
    · rw [if_neg (by omega)] at h1
      rw [if_pos (by omega)] at h2
      omega
    · rw [if_pos hgt] at h1
      rw [if_neg (by omega)] at h2
      omega

theorem is_value {k : List Int} (h : kOk k) {a : Int} (hk : k.getD a.natAbs 0 ≠ 0) : (decide (0 < k.getD a.natAbs 0) == decide (0 < a)) = decide (kT k a) := by
  have := kOk_get h a.natAbs
  by_cases h1 : 0 < a
  · have hk2 : kT k a ↔ k.getD a.natAbs 0 = 1 := by unfold kT; rw [if_pos h1]
    rw [Bool.eq_iff_iff, beq_iff_eq, decide_eq_decide, decide_eq_true_iff, hk2]
    clear hk2
    generalize k.getD a.natAbs 0 = y at hk this ⊢
    rcases this with rfl | rfl | rfl
    · simp [h1]
    · simp [h1]
    · exact absurd rfl hk
  · have hk2 : kT k a ↔ k.getD a.natAbs 0 = -1 := by unfold kT; rw [if_neg h1]
    rw [Bool.eq_iff_iff, beq_iff_eq, decide_eq_decide, decide_eq_true_iff, hk2]
    clear hk2
    generalize k.getD a.natAbs 0 = y at hk this ⊢
    rcases this with rfl | rfl | rfl
    · simp [h1]
    · simp [h1]
    · exact absurd rfl hk

/-! ### open -/

/-- What open knows of the literals that it went through. -/
def OI (k xs : List Int) (l : Int) (m : Nat) : Prop := (m = 0 ∧ ∀ x ∈ xs, kT k (-x)) ∨ (m = 1 ∧ l ∈ xs ∧ ¬ kT k l ∧ ¬ kT k (-l) ∧ ∀ x ∈ xs, x ≠ l → kT k (-x))

/-- A clause with which nothing is left to do. -/
def COk (k c : List Int) : Prop := ∀ a ∈ c, (∀ m ∈ c, m ≠ a → kT k (-m)) → kT k a

/-- What open answers. -/
def OR (k c : List Int) (l : Int) (m : Nat) : Prop := (m = 0 ∧ ∀ x ∈ c, kT k (-x)) ∨ (m = 1 ∧ l ∈ c ∧ ¬ kT k l ∧ ¬ kT k (-l) ∧ ∀ x ∈ c, x ≠ l → kT k (-x)) ∨ (m = 2 ∧ COk k c)

theorem oi_nil (k : List Int) : OI k [] 0 0 := .inl ⟨rfl, by simp⟩

theorem oi_true {k c : List Int} {x : Int} (hx : x ∈ c) (h0 : x ≠ 0) (h : kT k x) : COk k c := fun a ha hall => by
  by_cases e : x = a
  · rw [← e]; exact h
  · exact absurd (hall x hx e) (kT_cons h0 h)

theorem oi_false {k c : List Int} {i m : Nat} {l x : Int} (h : OI k (c.take i) l m) (hx : c[i]? = some x) (hk : kT k (-x)) : OI k (c.take (i + 1)) l m := by
  rcases h with ⟨rfl, h⟩ | ⟨rfl, h1, h2, h3, h4⟩
  · exact .inl ⟨rfl, fun y hy => (take_cons_mem hx hy).elim (h y) (fun e => by rw [e]; exact hk)⟩
  · exact .inr ⟨rfl, mem_take_le h1, h2, h3, fun y hy hne => (take_cons_mem hx hy).elim (fun q => h4 y q hne) (fun e => by rw [e]; exact hk)⟩

theorem oi_same {k c : List Int} {i m : Nat} {x : Int} (h : OI k (c.take i) x m) (hm : m ≠ 0) (hx : c[i]? = some x) : OI k (c.take (i + 1)) x m := by
  rcases h with ⟨rfl, h⟩ | ⟨rfl, h1, h2, h3, h4⟩
  · exact absurd rfl hm
  · exact .inr ⟨rfl, mem_take_le h1, h2, h3, fun y hy hne => (take_cons_mem hx hy).elim (fun q => h4 y q hne) (fun e => absurd e hne)⟩

theorem oi_first {k c : List Int} {i : Nat} {l x : Int} (h : OI k (c.take i) l 0) (hx : c[i]? = some x) (h1 : ¬ kT k x) (h2 : ¬ kT k (-x)) : OI k (c.take (i + 1)) x 1 := by
  rcases h with ⟨-, h⟩ | ⟨e, -⟩
  · exact .inr ⟨rfl, mem_take_succ hx, h1, h2, fun y hy hne => (take_cons_mem hx hy).elim (h y) (fun e => absurd e hne)⟩
  · cases e

theorem oi_two {k c : List Int} {i m : Nat} {l x : Int} (h : OI k (c.take i) l m) (hm : m ≠ 0) (hx : c[i]? = some x) (hne : x ≠ l) (h2 : ¬ kT k (-x)) : m = 1 ∧ COk k c := by
  rcases h with ⟨e, -⟩ | ⟨rfl, h1, h3, h4, h5⟩
  · exact absurd e hm
  · refine ⟨rfl, fun a ha hall => ?_⟩
    by_cases e : l = a
    · exact absurd (hall x (List.mem_of_getElem? hx) (fun q => hne (by rw [q, e]))) h2
    · exact absurd (hall l (List.mem_of_mem_take h1) e) h4

theorem oi_end {k c : List Int} {i m : Nat} {l : Int} (h : OI k (c.take i) l m) (hi : c.length ≤ i) : OR k c l m := by
  rw [List.take_of_length_le hi] at h
  rcases h with h | h
  · exact .inl h
  · exact .inr (.inl h)

/-- What open gives. -/
def openV (k : List Int) : List Int → Int → Nat → Int × Nat
  | [], l, m => (l, m)
  | x :: xs, l, m => if kT k x then (x, 2) else if kT k (-x) then openV k xs l m else if m = 0 then openV k xs x 1 else if x = l then openV k xs l m else (x, 2)

theorem drop_of {c : List Int} {i : Nat} {x : Int} (h : c[i]? = some x) : c.drop i = x :: c.drop (i + 1) := by
  obtain ⟨hi, rfl⟩ := List.getElem?_eq_some_iff.1 h
  exact List.drop_eq_getElem_cons hi

theorem drop_ofG {c : List (List Int)} {i : Nat} {x : List Int} (h : c[i]? = some x) : c.drop i = x :: c.drop (i + 1) := by
  obtain ⟨hi, rfl⟩ := List.getElem?_eq_some_iff.1 h
  exact List.drop_eq_getElem_cons hi

theorem openV_or {k c : List Int} (hc : ∀ x ∈ c, x ≠ 0) : ∀ (j i : Nat) (l : Int) (m : Nat), c.length - i = j → OI k (c.take i) l m → OR k c (openV k (c.drop i) l m).1 (openV k (c.drop i) l m).2 := by
  intro j
  induction j with
  | zero =>
    intro i l m hj h
    rw [List.drop_eq_nil_of_le (by omega)]
    exact oi_end h (by omega)
  | succ j ih =>
    intro i l m hj h
    have hi : i < c.length := by omega
    have hx : c[i]? = some c[i] := List.getElem?_eq_getElem hi
    rw [drop_of hx]
    generalize c[i] = x at hx
    have hxc := List.mem_of_getElem? hx
    unfold openV
    by_cases h1 : kT k x
    · rw [if_pos h1]
      exact .inr (.inr ⟨rfl, oi_true hxc (hc x hxc) h1⟩)
    · rw [if_neg h1]
      by_cases h2 : kT k (-x)
      · rw [if_pos h2]
        exact ih (i + 1) l m (by omega) (oi_false h hx h2)
      · rw [if_neg h2]
        by_cases h3 : m = 0
        · rw [if_pos h3]
          subst h3
          exact ih (i + 1) x 1 (by omega) (oi_first h hx h1 h2)
        · rw [if_neg h3]
          by_cases h4 : x = l
          · rw [if_pos h4]
            subst h4
            exact ih (i + 1) x m (by omega) (oi_same h h3 hx)
          · rw [if_neg h4]
            exact .inr (.inr ⟨rfl, (oi_two h h3 hx h4 h2).2⟩)

theorem open_or {k c : List Int} {l : Int} {m : Nat} (hc : ∀ x ∈ c, x ≠ 0) (h : openV k c 0 0 = (l, m)) : OR k c l m := by
  have := openV_or (k := k) hc c.length 0 0 0 (by omega) (oi_nil k)
  rw [List.drop_zero, h] at this
  exact this

/-! ### place -/

def pl (a : Int) : Nat := if 0 < a then 2 * a.natAbs else 2 * a.natAbs + 1

theorem pl_inj {a b : Int} (h : pl a = pl b) : a = b := by
  unfold pl at h
  split at h <;> split at h <;> omega

theorem pl_lt {n : Nat} {a : Int} (h : LitOk n a) : pl a < 2 * n + 2 := by
  unfold LitOk at h
  unfold pl
  split <;> omega

/-! ### The state -/

/-- The clauses that the places name: all below i that have the literal, and no others than clauses. -/
def PlOk (G : List (List Int)) (i : Nat) (f : Nat → List Nat) : Prop := (∀ (t : Nat) (c : List Int) (x : Int), t < i → G[t]? = some c → x ∈ c → t ∈ f (pl x)) ∧ (∀ at', ∀ t ∈ f at', t < G.length)

/-- What holds in Decide: K are the literals that hold, all that is known is in K. The first j clauses of the list l are done, and all others that do not have the literal. -/
structure DI (n : Nat) (G : List (List Int)) (A K : List Int) (k W : List Int) (done : Nat → Prop) : Prop where
  len : k.length = n + 1
  kok : kOk k
  snd : ∀ a, LitOk n a → kT k a → a ∈ K
  wrk : ∀ a ∈ W, a ∈ K
  asm : ∀ a ∈ A, kT k a ∨ a ∈ W
  cls : ∀ (t : Nat) (c : List Int), done t → G[t]? = some c → ∀ a ∈ c, (∀ m ∈ c, m ≠ a → kT k (-m)) → kT k a ∨ a ∈ W

/-- The literals that hold. -/
structure KOk (n : Nat) (G : List (List Int)) (K : List Int) : Prop where
  ok : ∀ a ∈ K, LitOk n a
  cls : ClsOk n G
  cons : ∀ a ∈ K, -a ∉ K
  model : ∀ c ∈ G, ∃ l ∈ c, l ∈ K

theorem Circ.kok {n : Nat} {G : List (List Int)} {A K : List Int} (h : Circ n G A K) : KOk n G K := ⟨h.ok, h.cls, h.cons, h.model⟩

section
variable {n : Nat} {G : List (List Int)} {A K k W : List Int} {done : Nat → Prop}

/-- open never answers 0, and what it answers holds. -/
theorem open_ok (hK : KOk n G K) (hs : ∀ a, LitOk n a → kT k a → a ∈ K) {c : List Int} {l : Int} {m : Nat} (hc : c ∈ G) (h : OR k c l m) : m ≠ 0 ∧ (m = 1 → l ∈ K ∧ LitOk n l) := by
  obtain ⟨t, ht, htK⟩ := hK.model c hc
  have hneg : ∀ x ∈ c, kT k (-x) → -x ∈ K := fun x hx h => hs (-x) (by have := hK.cls c hc x hx; unfold LitOk at *; omega) h
  rcases h with ⟨rfl, h⟩ | ⟨rfl, h1, h2, h3, h4⟩ | ⟨rfl, -⟩
  · exact absurd (hneg t ht (h t ht)) (hK.cons t htK)
  · refine ⟨by omega, fun _ => ⟨?_, hK.cls c hc l h1⟩⟩
    by_cases e : t = l
    · rw [← e]; exact htK
    · exact absurd (hneg t ht (h4 t ht e)) (hK.cons t htK)
  · exact ⟨by omega, by omega⟩

theorem di_start : DI n G [] K (List.replicate (n + 1) 0) [] (fun _ => False) :=
  ⟨by simp, fun x hx => by rw [(List.mem_replicate.1 hx).2]; omega, fun _ _ h => absurd h kT_zero, by simp, by simp, fun _ _ h => h.elim⟩

theorem DI.more (h : DI n G A K k W done) {done' : Nat → Prop} (hd : ∀ t, done' t → done t) : DI n G A K k W done' :=
  ⟨h.len, h.kok, h.snd, h.wrk, h.asm, fun t c ht => h.cls t c (hd t ht)⟩

theorem DI.done_all (h : DI n G A K k W done) (hd : ∀ (t : Nat) (c : List Int), G[t]? = some c → done t) : DI n G A K k W (fun _ => True) :=
  ⟨h.len, h.kok, h.snd, h.wrk, h.asm, fun t c _ hc => h.cls t c (hd t c hc) hc⟩

/-- A clause looked at. -/
theorem DI.look (h : DI n G A K k W done) (hK : KOk n G K) {t : Nat} {c : List Int} {l : Int} {m : Nat} (hc : G[t]? = some c) (ho : OR k c l m) : DI n G A K k (if m = 1 then W ++ [l] else W) (fun s => done s ∨ s = t) := by
  have hcm := List.mem_of_getElem? hc
  obtain ⟨h0, h1⟩ := open_ok hK h.snd hcm ho
  have hsub : ∀ a, a ∈ W → a ∈ (if m = 1 then W ++ [l] else W) := fun a ha => by split; exact List.mem_append_left _ ha; exact ha
  refine ⟨h.len, h.kok, h.snd, fun a ha => ?_, fun a ha => (h.asm a ha).imp_right (hsub a), fun s d hs hd a ha hall => ?_⟩
  · split at ha
    · rename_i e
      rcases List.mem_append.1 ha with q | q
      · exact h.wrk a q
      · rw [List.mem_singleton.1 q]; exact (h1 e).1
    · exact h.wrk a ha
  · rcases hs with hs | rfl
    · exact (h.cls s d hs hd a ha hall).imp_right (hsub a)
    · rw [hc] at hd
      injection hd with hd
      subst hd
      rcases ho with ⟨rfl, -⟩ | ⟨rfl, g1, g2, g3, g4⟩ | ⟨rfl, g⟩
      · exact absurd rfl h0
      · by_cases e : l = a
        · right; rw [if_pos rfl, e]; simp
        · exact absurd (hall l g1 e) g3
      · exact .inl (g a ha hall)

theorem DI.assume (h : DI n G [] K k W done) (hA : ∀ a ∈ A, a ∈ K) : DI n G A K k (W ++ A) done :=
  ⟨h.len, h.kok, h.snd, fun a ha => (List.mem_append.1 ha).elim (h.wrk a) (hA a), fun _ ha => .inr (List.mem_append_right _ ha), fun t c ht hc a ha hall => (h.cls t c ht hc a ha hall).imp_right (List.mem_append_left _)⟩

/-- A literal taken that is known. -/
theorem DI.skip {lit : Int} (h : DI n G A K k (W ++ [lit]) done) (hk : kT k lit) : DI n G A K k W done := by
  have hw : ∀ a, kT k a ∨ a ∈ W ++ [lit] → kT k a ∨ a ∈ W := fun a ha => by
    rcases ha with q | q
    · exact .inl q
    · rcases List.mem_append.1 q with q | q
      · exact .inr q
      · rw [List.mem_singleton.1 q]; exact .inl hk
  exact ⟨h.len, h.kok, h.snd, fun a ha => h.wrk a (List.mem_append_left _ ha), fun a ha => hw a (h.asm a ha), fun t c ht hc a ha hall => hw a (h.cls t c ht hc a ha hall)⟩

def sg (a : Int) : Int := if 0 < a then 1 else -1

theorem getD_set (k : List Int) (j i : Nat) (v : Int) : (k.set j v).getD i 0 = if i = j ∧ j < k.length then v else k.getD i 0 := by
  rw [List.getD_eq_getElem?_getD, List.getD_eq_getElem?_getD, List.getElem?_set]
  by_cases h1 : j = i
  · subst h1
    by_cases h2 : j < k.length
    · simp [h2]
    · simp [h2]
  · rw [if_neg h1, if_neg (by omega)]

theorem kT_set {lit a : Int} (hl : LitOk n lit) (hlen : k.length = n + 1) (hn : k.getD lit.natAbs 0 = 0) : kT (k.set lit.natAbs (sg lit)) a ↔ a = lit ∨ kT k a := by
  unfold LitOk at hl
  unfold kT
  rw [getD_set]
  by_cases e : a.natAbs = lit.natAbs
  · rw [if_pos ⟨e, by omega⟩, e, hn]
    unfold sg
    constructor
    · intro h
      left
      split at h <;> split at h <;> omega
    · rintro (h | h)
      · rw [h]
      · split at h <;> omega
  · rw [if_neg (by omega)]
    constructor
    · exact .inr
    · rintro (h | h)
      · rw [h] at e; exact absurd rfl e
      · exact h

/-- A literal taken that is not known: it is made known. -/
theorem DI.take {lit : Int} (h : DI n G A K k (W ++ [lit]) (fun _ => True)) (hK : KOk n G K) (hA : ∀ a ∈ A, a ∈ K) (hn : k.getD lit.natAbs 0 = 0) : DI n G A K (k.set lit.natAbs (sg lit)) W (fun t => ∀ c, G[t]? = some c → -lit ∉ c) := by
  have hlK : lit ∈ K := h.wrk lit (by simp)
  have hl := hK.ok lit hlK
  have hT : ∀ {a : Int}, a ≠ 0 → (kT (k.set lit.natAbs (sg lit)) a ↔ a = lit ∨ kT k a) := fun _ => kT_set hl h.len hn
  have hw : ∀ a, a ≠ 0 → kT k a ∨ a ∈ W ++ [lit] → kT (k.set lit.natAbs (sg lit)) a ∨ a ∈ W := fun a h0 ha => by
    rcases ha with q | q
    · exact .inl ((hT h0).2 (.inr q))
    · rcases List.mem_append.1 q with q | q
      · exact .inr q
      · exact .inl ((hT h0).2 (.inl (List.mem_singleton.1 q)))
  refine ⟨by rw [List.length_set]; exact h.len, fun x hx => ?_, fun a ha hk => ?_, fun a ha => h.wrk a (List.mem_append_left _ ha), fun a ha => ?_, fun t c ht hc a ha hall => ?_⟩
  · rcases List.mem_or_eq_of_mem_set hx with q | q
    · exact h.kok x q
    · rw [q]; unfold sg; split <;> omega
  · rcases (hT ha.1).1 hk with q | q
    · rw [q]; exact hlK
    · exact h.snd a ha q
  · exact hw a (hK.ok a (hA a ha)).1 (h.asm a ha)
  · have hcm := List.mem_of_getElem? hc
    refine hw a (hK.cls c hcm a ha).1 (h.cls t c trivial hc a ha fun m hm hne => ?_)
    have hm0 := (hK.cls c hcm m hm).1
    rcases (hT (show -m ≠ 0 by omega)).1 (hall m hm hne) with q | q
    · exact absurd (by rw [← q, Int.neg_neg]; exact hm) (ht c hc)
    · exact q

/-- What is known at the end. -/
theorem DI.fin (h : DI n G A K k [] (fun _ => True)) {a : Int} (hd : Der G A a) : kT k a := by
  induction hd with
  | asm ha => rcases h.asm _ ha with q | q; exact q; cases q
  | @unit c l hc hl hm ih =>
    obtain ⟨t, ht⟩ := List.mem_iff_getElem?.1 hc
    rcases h.cls t c trivial ht l hl ih with q | q
    · exact q
    · cases q

/-! ### The places -/

/-- The entries of the clause t at a place. -/
def plC (t : Nat) (c : List Int) (at' : Nat) : List Nat := (c.filter fun x => pl x == at').map fun _ => t

/-- The entries of the first i clauses. -/
def plF (G : List (List Int)) (i : Nat) (at' : Nat) : List Nat := (List.range i).flatMap fun t => plC t (G.getD t []) at'

theorem plC_step {t : Nat} {c : List Int} {j : Nat} {x : Int} (hx : c[j]? = some x) (at' : Nat) : plC t (c.take (j + 1)) at' = plC t (c.take j) at' ++ if pl x = at' then [t] else [] := by
  rw [List.take_add_one, hx]
  unfold plC
  rw [List.filter_append, List.map_append]
  congr 1
  by_cases h : pl x = at' <;> simp [h]

theorem plF_step {G : List (List Int)} {i : Nat} {c : List Int} (hc : G[i]? = some c) (at' : Nat) : plF G (i + 1) at' = plF G i at' ++ plC i c at' := by
  unfold plF
  rw [List.range_succ, List.flatMap_append]
  simp [List.getD, hc]

theorem plF_ok {G : List (List Int)} : PlOk G G.length (plF G G.length) := by
  refine ⟨fun t c x ht hc hx => ?_, fun at' t ht => ?_⟩
  · unfold plF
    refine List.mem_flatMap.2 ⟨t, List.mem_range.2 ht, ?_⟩
    have : G.getD t [] = c := by simp [List.getD, hc]
    rw [this]
    exact List.mem_map.2 ⟨x, List.mem_filter.2 ⟨hx, by simp⟩, rfl⟩
  · unfold plF at ht
    obtain ⟨s, hs, h⟩ := List.mem_flatMap.1 ht
    obtain ⟨x, -, rfl⟩ := List.mem_map.1 h
    exact List.mem_range.1 hs

theorem plC_length (t : Nat) (c : List Int) (at' : Nat) : (plC t c at').length ≤ c.length := by
  unfold plC
  rw [List.length_map]
  exact List.length_filter_le _ _

theorem plF_length {G : List (List Int)} {i : Nat} (hi : i ≤ G.length) (at' : Nat) : (plF G i at').length ≤ (G.take i).flatten.length := by
  induction i with
  | zero => simp [plF]
  | succ i ih =>
    have hc : G[i]? = some G[i] := List.getElem?_eq_getElem (by omega)
    rw [plF_step hc, List.length_append, List.take_add_one, hc]
    simp only [Option.toList_some, List.flatten_append, List.length_append]
    have := plC_length i G[i] at'
    have := ih (by omega)
    simp only [List.flatten_cons, List.flatten_nil, List.append_nil]
    omega

theorem flat_step {G : List (List Int)} {i : Nat} {c : List Int} (hc : G[i]? = some c) : (G.take i).flatten.length + c.length ≤ G.flatten.length := by
  have h : G = G.take i ++ c :: G.drop (i + 1) := by
    rw [← drop_ofG hc, List.take_append_drop]
  have h2 := congrArg (fun X : List (List Int) => X.flatten.length) h
  simp only [List.flatten_append, List.flatten_cons, List.length_append] at h2
  omega

/-- How many variables are not known. -/
def opn (k : List Int) : Nat := k.countP (· == 0)

theorem opn_set {lit : Int} (hl : LitOk n lit) (hlen : k.length = n + 1) (hn : k.getD lit.natAbs 0 = 0) : opn (k.set lit.natAbs (sg lit)) + 1 = opn k := by
  unfold LitOk at hl
  have hlt : lit.natAbs < k.length := by omega
  have h0 : k[lit.natAbs] = 0 := by
    rw [List.getD_eq_getElem?_getD, List.getElem?_eq_getElem hlt] at hn
    simpa using hn
  have hs : (sg lit == 0) = false := by unfold sg; split <;> rfl
  unfold opn
  rw [List.countP_set hlt]
  have hp : 0 < k.countP (· == 0) := List.countP_pos_iff.2 ⟨k[lit.natAbs], List.getElem_mem hlt, by simp [h0]⟩
  simp [h0, hs]
  omega

end

end Go.Proofs.Ytacmfiikdbekbaa.Ord
