/- Unit propagation as prop's state does it: counting the literals of each clause that are open. Plain. -/
import Derived.Test.YtfgaglgaofceiaaPUp
namespace Go.Proofs.Ytfgaglgaofceiaa.Ord

/-- What set makes of what is known. -/
def setK (K : List Int) (a : Int) : List Int := if -a ∈ K then K else if a ∈ K then K else K ++ [a]

theorem setK_neg {K : List Int} {a : Int} (h : -a ∈ K) : setK K a = K := by unfold setK; rw [if_pos h]
theorem setK_pos {K : List Int} {a : Int} (h : -a ∉ K) (h2 : a ∈ K) : setK K a = K := by unfold setK; rw [if_neg h, if_pos h2]
theorem setK_new {K : List Int} {a : Int} (h : -a ∉ K) (h2 : a ∉ K) : setK K a = K ++ [a] := by unfold setK; rw [if_neg h, if_neg h2]

/-- What unit finds. -/
def unitR (K : List Int) (xs : List Int) : Bool := xs.any fun l => decide (-l ∉ K)
def unitK (K : List Int) (xs : List Int) : List Int := ((xs.find? fun l => decide (-l ∉ K)).map (setK K)).getD K

theorem unit_skip {K xs : List Int} {k : Nat} {x : Int} (h : ∀ y ∈ xs.take k, -y ∈ K) (hx : xs[k]? = some x) (hn : -x ∈ K) : ∀ y ∈ xs.take (k + 1), -y ∈ K := fun y hy => by
  rw [List.take_add_one, hx] at hy
  rcases List.mem_append.1 hy with hy | hy
  · exact h y hy
  · simp at hy; rw [hy]; exact hn

theorem unit_hit {K xs : List Int} {k : Nat} {x : Int} (h : ∀ y ∈ xs.take k, -y ∈ K) (hx : xs[k]? = some x) (hn : -x ∉ K) : unitR K xs = true ∧ unitK K xs = setK K x := by
  refine ⟨List.any_eq_true.2 ⟨x, List.mem_of_getElem? hx, by simpa using hn⟩, ?_⟩
  have hf : xs.find? (fun l => decide (-l ∉ K)) = some x := by
    rw [← List.take_append_drop k xs, List.find?_append, List.find?_eq_none.2 (fun y hy => by simpa using h y hy)]
    obtain ⟨hk, hxe⟩ := List.getElem?_eq_some_iff.1 hx
    rw [List.drop_eq_getElem_cons hk, hxe]
    simp [hn]
  unfold unitK
  rw [hf]; rfl

theorem unit_none {K xs : List Int} {k : Nat} (h : ∀ y ∈ xs.take k, -y ∈ K) (hk : xs.length ≤ k) : unitR K xs = false ∧ unitK K xs = K := by
  rw [List.take_of_length_le hk] at h
  refine ⟨List.any_eq_false.2 fun y hy => by simpa using h y hy, ?_⟩
  unfold unitK
  rw [List.find?_eq_none.2 (fun y hy => by simpa using h y hy)]; rfl

/-- How many literals of a clause are not false by a list. -/
def cntO (c D : List Int) : Int := ((c.filter fun l => decide (-l ∉ D)).length : Nat)

theorem cntO_nil (c : List Int) : cntO c [] = c.length := by unfold cntO; rw [List.filter_eq_self.2 (by simp)]

theorem filter_len_congr {c : List Int} {p q : Int → Bool} (h : ∀ l ∈ c, p l = q l) : (c.filter p).length = (c.filter q).length := by rw [List.filter_congr h]

theorem cntO_other {c D : List Int} {a : Int} (h : -a ∉ c) : cntO c (D ++ [a]) = cntO c D := by
  unfold cntO
  congr 1
  refine filter_len_congr fun l hl => ?_
  have : -l ≠ a := fun e => h (by rw [← e, Int.neg_neg]; exact hl)
  simp [this]

theorem cntO_hit {c D : List Int} {a : Int} (hc : c.Nodup) (h : -a ∈ c) (hD : a ∉ D) : cntO c (D ++ [a]) = cntO c D - 1 := by
  have key : ∀ c : List Int, c.Nodup → -a ∈ c → (c.filter fun l => decide (-l ∉ D ++ [a])).length + 1 = (c.filter fun l => decide (-l ∉ D)).length := by
    intro c
    induction c with
    | nil => intro _ h; cases h
    | cons x c ih =>
      intro hn hm
      rw [List.nodup_cons] at hn
      by_cases hx : x = -a
      · subst hx
        have h1 : (decide (- -a ∉ D ++ [a])) = false := by simp
        have h2 : (decide (- -a ∉ D)) = true := by rw [Int.neg_neg]; simpa using hD
        rw [List.filter_cons, List.filter_cons, h1, h2]
        simp only [Bool.false_eq_true, if_false, if_true, List.length_cons]
        congr 1
        refine filter_len_congr fun l hl => ?_
        have : -l ≠ a := fun e => hn.1 (by rw [← e, Int.neg_neg]; exact hl)
        simp [this]
      · have hm' : -a ∈ c := by rcases List.mem_cons.1 hm with h | h; exact (hx h.symm).elim; exact h
        have := ih hn.2 hm'
        have hxa : -x ≠ a := fun e => hx (by rw [← e, Int.neg_neg])
        have hb : decide (-x ∉ D ++ [a]) = decide (-x ∉ D) := by simp [hxa]
        rw [List.filter_cons, List.filter_cons, hb]
        split
        · simp only [List.length_cons]; omega
        · exact this
  have := key c hc h
  unfold cntO
  omega

/-- At most one literal is open: all others are false. -/
theorem cntO_le_one {c D : List Int} (h : cntO c D ≤ 1) {x : Int} (hx : x ∈ c) (hxn : -x ∉ D) : ∀ m ∈ c, m ≠ x → -m ∈ D := by
  intro m hm hne
  refine Classical.byContradiction fun hn => ?_
  have h1 : x ∈ c.filter fun l => decide (-l ∉ D) := List.mem_filter.2 ⟨hx, by simpa using hxn⟩
  have h2 : m ∈ c.filter fun l => decide (-l ∉ D) := List.mem_filter.2 ⟨hm, by simpa using hn⟩
  have hl : (c.filter fun l => decide (-l ∉ D)).length ≤ 1 := by unfold cntO at h; omega
  match hf : c.filter (fun l => decide (-l ∉ D)), hl with
  | [], _ => rw [hf] at h1; cases h1
  | [y], _ =>
    rw [hf] at h1 h2
    simp at h1 h2
    exact hne (by rw [h1, h2])

/-- Two literals are open. -/
theorem cntO_two {c D : List Int} (h : 2 ≤ cntO c D) (hc : c.Nodup) (l : Int) : ∃ m ∈ c, m ≠ l ∧ -m ∉ D := by
  refine Classical.byContradiction fun hn => ?_
  have hall : ∀ m ∈ c.filter (fun l => decide (-l ∉ D)), m = l := fun m hm => by
    obtain ⟨h1, h2⟩ := List.mem_filter.1 hm
    refine Classical.byContradiction fun hne => hn ⟨m, h1, hne, by simpa using h2⟩
  have hl : 2 ≤ (c.filter fun l => decide (-l ∉ D)).length := by unfold cntO at h; omega
  have hnd : (c.filter fun l => decide (-l ∉ D)).Nodup := List.filter_sublist.nodup hc
  match hf : c.filter (fun l => decide (-l ∉ D)), hl with
  | x :: y :: r, _ =>
    rw [hf] at hall hnd
    have e1 := hall x (by simp)
    have e2 := hall y (by simp)
    rw [List.nodup_cons] at hnd
    exact hnd.1 (by rw [e1, e2]; simp)

/-- The clauses with a literal. -/
def withL (C : List (List Int)) (k : Int) : List Int := ((List.range C.length).filter fun i => decide (k ∈ C.getD i [])).map fun (i : Nat) => (i : Int)

theorem mem_withL {C : List (List Int)} {k i : Int} : i ∈ withL C k ↔ ∃ (j : Nat) (c : List Int), i = j ∧ C[j]? = some c ∧ k ∈ c := by
  simp only [withL, List.mem_map, List.mem_filter, List.mem_range, decide_eq_true_eq]
  constructor
  · rintro ⟨j, ⟨hj, hk⟩, rfl⟩
    rw [List.getD_eq_getElem?_getD, List.getElem?_eq_getElem hj] at hk
    exact ⟨j, _, rfl, List.getElem?_eq_getElem hj, hk⟩
  · rintro ⟨j, c, rfl, hc, hk⟩
    refine ⟨j, ⟨(List.getElem?_eq_some_iff.1 hc).1, ?_⟩, rfl⟩
    rw [List.getD_eq_getElem?_getD, hc]; exact hk

theorem withL_nodup (C : List (List Int)) (k : Int) : (withL C k).Nodup := by
  have h : ((List.range C.length).filter fun i => decide (k ∈ C.getD i [])).Nodup := List.filter_sublist.nodup List.nodup_range
  exact List.pairwise_map.2 (h.imp fun {a c} hac => fun e => hac (by omega))

theorem withL_nil (k : Int) : withL [] k = [] := rfl

theorem withL_snoc (C : List (List Int)) (c : List Int) (k : Int) : withL (C ++ [c]) k = withL C k ++ (if k ∈ c then [(C.length : Int)] else []) := by
  unfold withL
  rw [List.length_append, List.length_singleton, List.range_succ, List.filter_append, List.map_append]
  congr 1
  · congr 1
    refine List.filter_congr fun i hi => ?_
    rw [List.mem_range] at hi
    rw [List.getD_eq_getElem?_getD, List.getD_eq_getElem?_getD, List.getElem?_append_left hi]
  · have : (C ++ [c]).getD C.length [] = c := by rw [List.getD_eq_getElem?_getD]; simp
    by_cases h : k ∈ c
    · rw [List.filter_cons, this]; simp [h]
    · rw [List.filter_cons, this]; simp [h]

/-- What holds of a state, whatever of a round was done. -/
structure PB (n : Nat) (C : List (List Int)) (A O K : List Int) (d : Nat) : Prop where
  nod : ∀ c ∈ C, c.Nodup
  cok : ClsOk n C
  olen : O.length = C.length
  sound : ∀ a ∈ K, Der C A a
  asm : ∀ a ∈ A, a ∈ K
  kok : ∀ a ∈ K, LitOk n a
  cons : ∀ a ∈ K, -a ∉ K
  knod : K.Nodup
  handled : ∀ (i : Nat) c o, C[i]? = some c → O[i]? = some o → o ≤ 1 → ∃ l ∈ c, l ∈ K
  le : d ≤ K.length

/-- At the head of a round. -/
structure PI (n : Nat) (C : List (List Int)) (A O K : List Int) (d : Nat) : Prop extends PB n C A O K d where
  cnt : ∀ (i : Nat) c, C[i]? = some c → O[i]? = some (cntO c (K.take d))

/-- Within a round, behind m clauses. -/
structure PJ (n : Nat) (C : List (List Int)) (A O K : List Int) (d : Nat) (a : Int) (m : Nat) : Prop extends PB n C A O K d where
  cur : K[d]? = some a
  cnt : ∀ (i : Nat) c, C[i]? = some c → O[i]? = some (cntO c (K.take d) - if (i : Int) ∈ (withL C (-a)).take m then 1 else 0)

theorem pj_start {n : Nat} {C : List (List Int)} {A O K : List Int} {d : Nat} {a : Int} (h : PI n C A O K d) (ha : K[d]? = some a) : PJ n C A O K d a 0 :=
  { toPB := h.toPB, cur := ha, cnt := fun i c hc => by rw [h.cnt i c hc]; simp }

theorem pj_end {n : Nat} {C : List (List Int)} {A O K : List Int} {d : Nat} {a : Int} {m : Nat} (h : PJ n C A O K d a m) (hm : (withL C (-a)).length ≤ m) : PI n C A O K (d + 1) := by
  obtain ⟨hd, ha⟩ := List.getElem?_eq_some_iff.1 h.cur
  have hnd : a ∉ K.take d := fun hin => by
    obtain ⟨j, hj, he⟩ := List.mem_iff_getElem.1 hin
    simp at hj
    rw [List.getElem_take] at he
    exact (List.pairwise_iff_getElem.1 h.knod) j d (by omega) hd (by omega) (by rw [he, ha])
  refine { toPB := { h.toPB with le := hd }, cnt := fun i c hc => ?_ }
  rw [h.cnt i c hc, List.take_of_length_le hm, List.take_add_one, h.cur]
  congr 1
  simp only [Option.toList_some]
  by_cases hin : -a ∈ c
  · rw [if_pos (mem_withL.2 ⟨i, c, rfl, hc, hin⟩), cntO_hit (h.nod c (List.mem_of_getElem? hc)) hin hnd]
  · rw [if_neg (fun hw => by
      obtain ⟨j, c', hj, hc', hk⟩ := mem_withL.1 hw
      have : j = i := by omega
      rw [this, hc] at hc'
      injection hc' with hc'
      exact hin (by rw [hc']; exact hk)), cntO_other hin]
    omega

/-- What a clause's turn finds: its index, and how many of its literals are open then. -/
theorem pj_turn {n : Nat} {C : List (List Int)} {A O K : List Int} {d : Nat} {a : Int} {m : Nat} (h : PJ n C A O K d a m) {i : Int} (hi : (withL C (-a))[m]? = some i) :
    ∃ (j : Nat) (c : List Int) (o : Int), i = j ∧ C[j]? = some c ∧ O[j]? = some o ∧ o - 1 = cntO c (K.take (d + 1)) ∧ -a ∈ c ∧ ∀ k c', k ≠ j → C[k]? = some c' → (O.set j (o - 1))[k]? = some (cntO c' (K.take d) - if (k : Int) ∈ (withL C (-a)).take (m + 1) then 1 else 0) := by
  obtain ⟨hm, hie⟩ := List.getElem?_eq_some_iff.1 hi
  obtain ⟨j, c, hij, hc, hin⟩ := mem_withL.1 (List.mem_of_getElem? hi)
  have hni : (j : Int) ∉ (withL C (-a)).take m := fun hin => by
    obtain ⟨x, hx, he⟩ := List.mem_iff_getElem.1 hin
    simp at hx
    rw [List.getElem_take] at he
    exact (List.pairwise_iff_getElem.1 (withL_nodup C (-a))) x m (by omega) hm (by omega) (by rw [he, hie, hij])
  have hO := h.cnt j c hc
  rw [if_neg hni] at hO
  obtain ⟨hd, ha⟩ := List.getElem?_eq_some_iff.1 h.cur
  have hnd : a ∉ K.take d := fun hin => by
    obtain ⟨x, hx, he⟩ := List.mem_iff_getElem.1 hin
    simp at hx
    rw [List.getElem_take] at he
    exact (List.pairwise_iff_getElem.1 h.knod) x d (by omega) hd (by omega) (by rw [he, ha])
  refine ⟨j, c, _, hij, hc, hO, ?_, hin, fun k c' hk hc' => ?_⟩
  · rw [List.take_add_one, h.cur]
    simp only [Option.toList_some]
    rw [cntO_hit (h.nod c (List.mem_of_getElem? hc)) hin hnd]
    omega
  · rw [List.getElem?_set_ne (Ne.symm hk), h.cnt k c' hc']
    congr 2
    have e : ((k : Int) ∈ (withL C (-a)).take (m + 1)) ↔ (k : Int) ∈ (withL C (-a)).take m := by
      rw [List.take_add_one, hi]
      simp only [Option.toList_some, List.mem_append, List.mem_singleton]
      exact ⟨fun h => h.elim id fun e => (hk (by omega)).elim, Or.inl⟩
    simp [e]

theorem pj_set {n : Nat} {C : List (List Int)} {A O K : List Int} {d : Nat} {a : Int} {m : Nat} (h : PJ n C A O K d a m) {i : Int} (hi : (withL C (-a))[m]? = some i) {j : Nat} {o : Int} (hij : i = j) (ho : O[j]? = some o) :
    ∀ (k : Nat) c, C[k]? = some c → (O.set j (o - 1))[k]? = some (cntO c (K.take d) - if (k : Int) ∈ (withL C (-a)).take (m + 1) then 1 else 0) := by
  obtain ⟨j', c, o', hij', hc, ho', hcnt, hin, hoth⟩ := pj_turn h hi
  have : j' = j := by omega
  subst this
  rw [ho] at ho'
  injection ho' with ho'
  subst ho'
  intro k c' hc'
  by_cases hk : k = j'
  · subst hk
    rw [hc] at hc'
    injection hc' with hc'
    subst hc'
    have hjl : k < O.length := (List.getElem?_eq_some_iff.1 ho).1
    have hni : (k : Int) ∉ (withL C (-a)).take m := fun hin => by
      obtain ⟨hm, hie⟩ := List.getElem?_eq_some_iff.1 hi
      obtain ⟨x, hx, he⟩ := List.mem_iff_getElem.1 hin
      simp at hx
      rw [List.getElem_take] at he
      exact (List.pairwise_iff_getElem.1 (withL_nodup C (-a))) x m (by omega) hm (by omega) (by rw [he, hie, hij'])
    have h1 := h.cnt k c hc
    rw [if_neg hni, ho] at h1
    injection h1 with h1
    rw [List.getElem?_set_self hjl, if_pos (by rw [List.take_add_one, hi]; simp [hij'])]
    congr 1
    omega
  · exact hoth k c' hk hc'

/-- The clause is still open. -/
theorem pj_open {n : Nat} {C : List (List Int)} {A O K : List Int} {d : Nat} {a : Int} {m : Nat} (h : PJ n C A O K d a m) {i : Int} (hi : (withL C (-a))[m]? = some i) {j : Nat} {o : Int} (hij : i = j) (ho : O[j]? = some o) (h2 : ¬ o - 1 ≤ 1) : PJ n C A (O.set j (o - 1)) K d a (m + 1) := by
  refine { toPB := { h.toPB with olen := by rw [List.length_set]; exact h.olen, handled := fun k c x hc hx hx1 => ?_ }, cur := h.cur, cnt := pj_set h hi hij ho }
  by_cases hk : k = j
  · subst hk
    rw [List.getElem?_set_self (List.getElem?_eq_some_iff.1 ho).1] at hx
    injection hx with hx
    omega
  · rw [List.getElem?_set_ne (Ne.symm hk)] at hx
    exact h.handled k c x hc hx hx1

theorem setK_mem {K : List Int} {x : Int} (h : -x ∉ K) : x ∈ setK K x := by
  unfold setK
  rw [if_neg h]
  split
  · assumption
  · simp

theorem unit_find {K c : List Int} (h : unitR K c = true) : ∃ x ∈ c, -x ∉ K ∧ unitK K c = setK K x := by
  unfold unitR at h
  cases hf : c.find? (fun l => decide (-l ∉ K)) with
  | none =>
    rw [List.find?_eq_none] at hf
    obtain ⟨x, hx, hn⟩ := List.any_eq_true.1 h
    exact (hf x hx hn).elim
  | some x => exact ⟨x, List.mem_of_find?_eq_some hf, by simpa using List.find?_some hf, by unfold unitK; rw [hf]; rfl⟩

/-- The clause's last literal is set. -/
theorem pj_unit {n : Nat} {C : List (List Int)} {A O K : List Int} {d : Nat} {a : Int} {m : Nat} (h : PJ n C A O K d a m) {i : Int} (hi : (withL C (-a))[m]? = some i) {j : Nat} {o : Int} {c : List Int} (hij : i = j) (ho : O[j]? = some o) (hc : C[j]? = some c) (h2 : o - 1 ≤ 1) (hu : unitR K c = true) :
    PJ n C A (O.set j (o - 1)) (unitK K c) d a (m + 1) := by
  obtain ⟨x, hx, hnx, hK⟩ := unit_find hu
  obtain ⟨j', c', o', hij', hc', ho', hcnt, hin, hoth⟩ := pj_turn h hi
  have hjj : j' = j := by omega
  subst hjj
  rw [ho] at ho'
  injection ho' with ho'
  subst ho'
  rw [hc] at hc'
  injection hc' with hc'
  subst hc'
  have hcm : c ∈ C := List.mem_of_getElem? hc
  have hder : Der C A x := by
    refine .unit hcm hx fun y hy hne => h.sound _ ?_
    have := cntO_le_one (by rw [← hcnt]; exact h2) hx (fun e => hnx (List.mem_of_mem_take e)) y hy hne
    exact List.mem_of_mem_take this
  obtain ⟨hd, hae⟩ := List.getElem?_eq_some_iff.1 h.cur
  rw [hK]
  by_cases hxK : x ∈ K
  · rw [setK_pos hnx hxK]
    refine { toPB := { h.toPB with olen := by rw [List.length_set]; exact h.olen, handled := fun k c2 y hc2 hy hy1 => ?_ }, cur := h.cur, cnt := pj_set h hi hij ho }
    by_cases hk : k = j'
    · subst hk
      rw [hc] at hc2
      injection hc2 with hc2
      subst hc2
      exact ⟨x, hx, hxK⟩
    · rw [List.getElem?_set_ne (Ne.symm hk)] at hy
      exact h.handled k c2 y hc2 hy hy1
  · rw [setK_new hnx hxK]
    have hx0 := h.cok c hcm x hx
    refine { toPB := ⟨h.nod, h.cok, by rw [List.length_set]; exact h.olen, fun y hy => ?_, fun y hy => List.mem_append_left _ (h.asm y hy), fun y hy => ?_, fun y hy => ?_, ?_, fun k c2 y hc2 hy hy1 => ?_, by rw [List.length_append]; omega⟩, cur := by rw [List.getElem?_append_left hd]; exact h.cur, cnt := ?_ }
    · rcases List.mem_append.1 hy with hy | hy
      · exact h.sound y hy
      · simp at hy; rw [hy]; exact hder
    · rcases List.mem_append.1 hy with hy | hy
      · exact h.kok y hy
      · simp at hy; rw [hy]; exact hx0
    · rw [List.mem_append, not_or]
      rcases List.mem_append.1 hy with hy | hy
      · refine ⟨h.cons y hy, fun e => ?_⟩
        simp at e
        exact hnx (by rw [← e, Int.neg_neg]; exact hy)
      · simp at hy
        subst hy
        refine ⟨hnx, fun e => ?_⟩
        simp at e
        have := hx0.1
        omega
    · exact List.nodup_append.2 ⟨h.knod, by simp, fun y hy z hz e => by simp at hz; exact hxK (by rw [← hz, ← e]; exact hy)⟩
    · by_cases hk : k = j'
      · subst hk
        rw [hc] at hc2
        injection hc2 with hc2
        subst hc2
        exact ⟨x, hx, by simp⟩
      · rw [List.getElem?_set_ne (Ne.symm hk)] at hy
        obtain ⟨l, hl, hlK⟩ := h.handled k c2 y hc2 hy hy1
        exact ⟨l, hl, List.mem_append_left _ hlK⟩
    · intro k c2 hc2
      rw [List.take_append_of_le_length (by omega)]
      exact pj_set h hi hij ho k c2 hc2

/-- The clause is false: it fails. -/
theorem pj_bad {n : Nat} {C : List (List Int)} {A O K : List Int} {d : Nat} {a : Int} {m : Nat} (h : PJ n C A O K d a m) {j : Nat} {c : List Int} (hc : C[j]? = some c) (hu : unitR K c = false) : Bad C A := by
  refine .inr ⟨c, List.mem_of_getElem? hc, fun l hl => h.sound _ ?_⟩
  unfold unitR at hu
  have := List.any_eq_false.1 hu l hl
  simpa using this

/-- All was looked at: it is closed. -/
theorem pi_closed {n : Nat} {C : List (List Int)} {A O K : List Int} {d : Nat} (h : PI n C A O K d) (hd : K.length ≤ d) : Closed C A K := by
  have hcnt : ∀ c ∈ C, ∃ i : Nat, C[i]? = some c ∧ O[i]? = some (cntO c K) := fun c hc => by
    obtain ⟨i, hi⟩ := List.mem_iff_getElem?.1 hc
    have := h.cnt i c hi
    rw [List.take_of_length_le hd] at this
    exact ⟨i, hi, this⟩
  refine ⟨h.sound, h.asm, h.cons, fun c hc l hl hm => ?_, fun c hc => ?_⟩
  · obtain ⟨i, hi, ho⟩ := hcnt c hc
    by_cases h1 : cntO c K ≤ 1
    · obtain ⟨x, hx, hxK⟩ := h.handled i c _ hi ho h1
      by_cases e : x = l
      · rw [← e]; exact hxK
      · exact (h.cons x hxK (hm x hx e)).elim
    · obtain ⟨x, hx, hne, hnx⟩ := cntO_two (c := c) (D := K) (by omega) (h.nod c hc) l
      exact (hnx (hm x hx hne)).elim
  · obtain ⟨i, hi, ho⟩ := hcnt c hc
    by_cases h1 : cntO c K ≤ 1
    · obtain ⟨x, hx, hxK⟩ := h.handled i c _ hi ho h1
      exact ⟨x, hx, h.cons x hxK⟩
    · obtain ⟨x, hx, -, hnx⟩ := cntO_two (c := c) (D := K) (by omega) (h.nod c hc) 0
      exact ⟨x, hx, hnx⟩

/-- Numbers below a bound, each once, are at most so many. -/
theorem nodup_below : ∀ (n : Nat) (l : List Nat), l.Nodup → (∀ x ∈ l, x < n) → l.length ≤ n
  | 0, l, _, h => by
    cases l with
    | nil => exact Nat.le_refl _
    | cons x l => have := h x (by simp); omega
  | n + 1, l, hn, h => by
    have h1 : (l.filter fun x => decide (x ≠ n)).length ≤ n := nodup_below n _ (List.filter_sublist.nodup hn) fun x hx => by
      obtain ⟨hx1, hx2⟩ := List.mem_filter.1 hx
      have := h x hx1
      simp at hx2
      omega
    have h2 : l.length ≤ (l.filter fun x => decide (x ≠ n)).length + 1 := by
      clear h h1
      induction l with
      | nil => simp
      | cons x l ih =>
        rw [List.nodup_cons] at hn
        have := ih hn.2
        by_cases hx : x = n
        · subst hx
          rw [List.filter_cons]
          simp only [ne_eq, not_true_eq_false, decide_false, Bool.false_eq_true, if_false, List.length_cons]
          have e : l.filter (fun y => decide (y ≠ x)) = l := List.filter_eq_self.2 fun y hy => by simp; exact fun e => hn.1 (by rw [← e]; exact hy)
          simp only [ne_eq] at e
          rw [e]
          omega
        · rw [List.filter_cons]
          simp only [ne_eq, hx, not_false_eq_true, decide_true, if_true, List.length_cons]
          simp only [ne_eq] at this
          omega
    omega

theorem lits_le {n : Nat} {K : List Int} (hn : K.Nodup) (hc : ∀ a ∈ K, -a ∉ K) (hk : ∀ a ∈ K, LitOk n a) : K.length ≤ n := by
  have h1 : (K.map fun a => a.natAbs - 1).Nodup := by
    rw [List.Nodup, List.pairwise_map]
    refine List.Pairwise.imp_of_mem (fun {a c} ha hc' hac => ?_) hn
    have h1 := hk a ha
    have h2 := hk c hc'
    unfold LitOk at h1 h2
    intro e
    rcases (by omega : a = c ∨ a = -c) with e2 | e2
    · exact hac e2
    · exact hc c hc' (by rw [← e2]; exact ha)
  have := nodup_below n _ h1 fun x hx => by
    obtain ⟨a, ha, rfl⟩ := List.mem_map.1 hx
    have := hk a ha
    unfold LitOk at this
    omega
  simpa using this

end Go.Proofs.Ytfgaglgaofceiaa.Ord
