/- Unit propagation as prop's state does it: counting the literals of each clause that are open. Plain. -/
import Derived.Maps.AppendAt
import Derived.Test.YtfmahgobogelkaaProg
import Derived.Test.YtfmahgobogelkaaQ0

namespace Go.Proofs.Ytfmahgobogelkaa.Ord

/-- What set makes of what is known. -/
def setK (K : List Int) (a : Int) : List Int := if -a ∈ K then K else if a ∈ K then K else K ++ [a]

theorem setK_neg {K : List Int} {a : Int} (h : -a ∈ K) : setK K a = K := by unfold setK; rw [if_pos h]
theorem setK_pos {K : List Int} {a : Int} (h : -a ∉ K) (h2 : a ∈ K) : setK K a = K := by unfold setK; rw [if_neg h, if_pos h2]
theorem setK_new {K : List Int} {a : Int} (h : -a ∉ K) (h2 : a ∉ K) : setK K a = K ++ [a] := by unfold setK; rw [if_neg h, if_neg h2]

/-- What unit finds. -/
def unitR (K : List Int) (xs : List Int) : Bool := xs.any fun l => decide (-l ∉ K)
def unitK (K : List Int) (xs : List Int) : List Int := ((xs.find? fun l => decide (-l ∉ K)).map (setK K)).getD K

theorem unit_skip {K xs : List Int} {k : Nat} {x : Int} (h : ∀ y ∈ xs.take k, -y ∈ K) (hx : xs[k]? = some x) (hn : -x ∈ K) : ∀ y ∈ xs.take (k + 1), -y ∈ K := fun y hy => by
  rw [List.take_add_one, hx] at hy
  rcases List.mem_append.1 hy with hy | hy
  · exact h y hy
  · simp at hy; rw [hy]; exact hn

theorem unit_hit {K xs : List Int} {k : Nat} {x : Int} (h : ∀ y ∈ xs.take k, -y ∈ K) (hx : xs[k]? = some x) (hn : -x ∉ K) : unitR K xs = true ∧ unitK K xs = setK K x := by
  refine ⟨List.any_eq_true.2 ⟨x, List.mem_of_getElem? hx, by simpa using hn⟩, ?_⟩
  have hf : xs.find? (fun l => decide (-l ∉ K)) = some x := by
    rw [← List.take_append_drop k xs, List.find?_append, List.find?_eq_none.2 (fun y hy => by simpa using h y hy)]
    obtain ⟨hk, hxe⟩ := List.getElem?_eq_some_iff.1 hx
    rw [List.drop_eq_getElem_cons hk, hxe]
    simp [hn]
  unfold unitK
  rw [hf]; rfl

theorem unit_none {K xs : List Int} {k : Nat} (h : ∀ y ∈ xs.take k, -y ∈ K) (hk : xs.length ≤ k) : unitR K xs = false ∧ unitK K xs = K := by
  rw [List.take_of_length_le hk] at h
  refine ⟨List.any_eq_false.2 fun y hy => by simpa using h y hy, ?_⟩
  unfold unitK
  rw [List.find?_eq_none.2 (fun y hy => by simpa using h y hy)]; rfl

/-- How many literals of a clause are not false by a list. -/
def cntO (c D : List Int) : Int := ((c.filter fun l => decide (-l ∉ D)).length : Nat)

theorem cntO_nil (c : List Int) : cntO c [] = c.length := by unfold cntO; rw [List.filter_eq_self.2 (by simp)]

theorem filter_len_congr {c : List Int} {p q : Int → Bool} (h : ∀ l ∈ c, p l = q l) : (c.filter p).length = (c.filter q).length := by rw [List.filter_congr h]

theorem cntO_other {c D : List Int} {a : Int} (h : -a ∉ c) : cntO c (D ++ [a]) = cntO c D := by
  unfold cntO
  congr 1
  refine filter_len_congr fun l hl => ?_
  have : -l ≠ a := fun e => h (by rw [← e, Int.neg_neg]; exact hl)
  simp [this]

theorem cntO_hit {c D : List Int} {a : Int} (hc : c.Nodup) (h : -a ∈ c) (hD : a ∉ D) : cntO c (D ++ [a]) = cntO c D - 1 := by
  have key : ∀ c : List Int, c.Nodup → -a ∈ c → (c.filter fun l => decide (-l ∉ D ++ [a])).length + 1 = (c.filter fun l => decide (-l ∉ D)).length := by
    intro c
    induction c with
    | nil => intro _ h; cases h
    | cons x c ih =>
      intro hn hm
      rw [List.nodup_cons] at hn
      by_cases hx : x = -a
      · subst hx
        have h1 : (decide (- -a ∉ D ++ [a])) = false := by simp
        have h2 : (decide (- -a ∉ D)) = true := by rw [Int.neg_neg]; simpa using hD
        rw [List.filter_cons, List.filter_cons, h1, h2]
        simp only [Bool.false_eq_true, if_false, if_true, List.length_cons]
        congr 1
        refine filter_len_congr fun l hl => ?_
        have : -l ≠ a := fun e => hn.1 (by rw [← e, Int.neg_neg]; exact hl)
        simp [this]
      · have hm' : -a ∈ c := by rcases List.mem_cons.1 hm with h | h; exact (hx h.symm).elim; exact h
        have := ih hn.2 hm'
        have hxa : -x ≠ a := fun e => hx (by rw [← e, Int.neg_neg])
        have hb : decide (-x ∉ D ++ [a]) = decide (-x ∉ D) := by simp [hxa]
        rw [List.filter_cons, List.filter_cons, hb]
        split
        · simp only [List.length_cons]; omega
        · exact this
  have := key c hc h
  unfold cntO
  omega

/-- At most one literal is open: all others are false. -/
theorem cntO_le_one {c D : List Int} (h : cntO c D ≤ 1) {x : Int} (hx : x ∈ c) (hxn : -x ∉ D) : ∀ m ∈ c, m ≠ x → -m ∈ D := by
  intro m hm hne
  refine Classical.byContradiction fun hn => ?_
  have h1 : x ∈ c.filter fun l => decide (-l ∉ D) := List.mem_filter.2 ⟨hx, by simpa using hxn⟩
  have h2 : m ∈ c.filter fun l => decide (-l ∉ D) := List.mem_filter.2 ⟨hm, by simpa using hn⟩
  have hl : (c.filter fun l => decide (-l ∉ D)).length ≤ 1 := by unfold cntO at h; omega
  match hf : c.filter (fun l => decide (-l ∉ D)), hl with
  | [], _ => rw [hf] at h1; cases h1
  | [y], _ =>
    rw [hf] at h1 h2
    simp at h1 h2
    exact hne (by rw [h1, h2])

/-- Two literals are open. -/
theorem cntO_two {c D : List Int} (h : 2 ≤ cntO c D) (hc : c.Nodup) (l : Int) : ∃ m ∈ c, m ≠ l ∧ -m ∉ D := by
  refine Classical.byContradiction fun hn => ?_
  have hall : ∀ m ∈ c.filter (fun l => decide (-l ∉ D)), m = l := fun m hm => by
    obtain ⟨h1, h2⟩ := List.mem_filter.1 hm
    refine Classical.byContradiction fun hne => hn ⟨m, h1, hne, by simpa using h2⟩
  have hl : 2 ≤ (c.filter fun l => decide (-l ∉ D)).length := by unfold cntO at h; omega
  have hnd : (c.filter fun l => decide (-l ∉ D)).Nodup := List.filter_sublist.nodup hc
  match hf : c.filter (fun l => decide (-l ∉ D)), hl with
  | x :: y :: r, _ =>
    rw [hf] at hall hnd
    have e1 := hall x (by simp)
    have e2 := hall y (by simp)
    rw [List.nodup_cons] at hnd
    exact hnd.1 (by rw [e1, e2]; simp)

/-- The clauses with a literal. -/
def withL (C : List (List Int)) (k : Int) : List Int := ((List.range C.length).filter fun i => decide (k ∈ C.getD i [])).map fun (i : Nat) => (i : Int)

theorem mem_withL {C : List (List Int)} {k i : Int} : i ∈ withL C k ↔ ∃ (j : Nat) (c : List Int), i = j ∧ C[j]? = some c ∧ k ∈ c := by
  simp only [withL, List.mem_map, List.mem_filter, List.mem_range, decide_eq_true_eq]
  constructor
  · rintro ⟨j, ⟨hj, hk⟩, rfl⟩
    rw [List.getD_eq_getElem?_getD, List.getElem?_eq_getElem hj] at hk
    exact ⟨j, _, rfl, List.getElem?_eq_getElem hj, hk⟩
  · rintro ⟨j, c, rfl, hc, hk⟩
    refine ⟨j, ⟨(List.getElem?_eq_some_iff.1 hc).1, ?_⟩, rfl⟩
    rw [List.getD_eq_getElem?_getD, hc]; exact hk

theorem withL_nodup (C : List (List Int)) (k : Int) : (withL C k).Nodup := by
  have h : ((List.range C.length).filter fun i => decide (k ∈ C.getD i [])).Nodup := List.filter_sublist.nodup List.nodup_range
  exact List.pairwise_map.2 (h.imp fun {a c} hac => fun e => hac (by omega))

theorem withL_nil (k : Int) : withL [] k = [] := rfl

theorem withL_snoc (C : List (List Int)) (c : List Int) (k : Int) : withL (C ++ [c]) k = withL C k ++ (if k ∈ c then [(C.length : Int)] else []) := by
  unfold withL
  rw [List.length_append, List.length_singleton, List.range_succ, List.filter_append, List.map_append]
  congr 1
  · congr 1
    refine List.filter_congr fun i hi => ?_
    rw [List.mem_range] at hi
    rw [List.getD_eq_getElem?_getD, List.getD_eq_getElem?_getD, List.getElem?_append_left hi]
  · have : (C ++ [c]).getD C.length [] = c := by rw [List.getD_eq_getElem?_getD]; simp
    by_cases h : k ∈ c
    · rw [List.filter_cons, this]; simp [h]
    · rw [List.filter_cons, this]; simp [h]

/-- What holds of a state, whatever of a round was done. -/
structure PB (n : Nat) (C : List (List Int)) (A O K : List Int) (d : Nat) : Prop where
  nod : ∀ c ∈ C, c.Nodup
  cok : ClsOk n C
  olen : O.length = C.length
  sound : ∀ a ∈ K, Der C A a
  asm : ∀ a ∈ A, a ∈ K
  kok : ∀ a ∈ K, LitOk n a
  cons : ∀ a ∈ K, -a ∉ K
  knod : K.Nodup
  handled : ∀ (i : Nat) c o, C[i]? = some c → O[i]? = some o → o ≤ 1 → ∃ l ∈ c, l ∈ K
  le : d ≤ K.length

/-- At the head of a round. -/
structure PI (n : Nat) (C : List (List Int)) (A O K : List Int) (d : Nat) : Prop extends PB n C A O K d where
  cnt : ∀ (i : Nat) c, C[i]? = some c → O[i]? = some (cntO c (K.take d))

/-- Within a round, behind m clauses. -/
structure PJ (n : Nat) (C : List (List Int)) (A O K : List Int) (d : Nat) (a : Int) (m : Nat) : Prop extends PB n C A O K d where
  cur : K[d]? = some a
  cnt : ∀ (i : Nat) c, C[i]? = some c → O[i]? = some (cntO c (K.take d) - if (i : Int) ∈ (withL C (-a)).take m then 1 else 0)

theorem pj_start {n : Nat} {C : List (List Int)} {A O K : List Int} {d : Nat} {a : Int} (h : PI n C A O K d) (ha : K[d]? = some a) : PJ n C A O K d a 0 :=
  { toPB := h.toPB, cur := ha, cnt := fun i c hc => by rw [h.cnt i c hc]; simp }

theorem pj_end {n : Nat} {C : List (List Int)} {A O K : List Int} {d : Nat} {a : Int} {m : Nat} (h : PJ n C A O K d a m) (hm : (withL C (-a)).length ≤ m) : PI n C A O K (d + 1) := by
  obtain ⟨hd, ha⟩ := List.getElem?_eq_some_iff.1 h.cur
  have hnd : a ∉ K.take d := fun hin => by
    obtain ⟨j, hj, he⟩ := List.mem_iff_getElem.1 hin
    simp at hj
    rw [List.getElem_take] at he
    exact (List.pairwise_iff_getElem.1 h.knod) j d (by omega) hd (by omega) (by rw [he, ha])
  refine { toPB := { h.toPB with le := hd }, cnt := fun i c hc => ?_ }
  rw [h.cnt i c hc, List.take_of_length_le hm, List.take_add_one, h.cur]
  congr 1
  simp only [Option.toList_some]
  by_cases hin : -a ∈ c
  · rw [if_pos (mem_withL.2 ⟨i, c, rfl, hc, hin⟩), cntO_hit (h.nod c (List.mem_of_getElem? hc)) hin hnd]
  · rw [if_neg (fun hw => by
      obtain ⟨j, c', hj, hc', hk⟩ := mem_withL.1 hw
      have : j = i := by omega
      rw [this, hc] at hc'
      injection hc' with hc'
      exact hin (by rw [hc']; exact hk)), cntO_other hin]
    omega

/-- What a clause's turn finds: its index, and how many of its literals are open then. -/
theorem pj_turn {n : Nat} {C : List (List Int)} {A O K : List Int} {d : Nat} {a : Int} {m : Nat} (h : PJ n C A O K d a m) {i : Int} (hi : (withL C (-a))[m]? = some i) :
    ∃ (j : Nat) (c : List Int) (o : Int), i = j ∧ C[j]? = some c ∧ O[j]? = some o ∧ o - 1 = cntO c (K.take (d + 1)) ∧ -a ∈ c ∧ ∀ k c', k ≠ j → C[k]? = some c' → (O.set j (o - 1))[k]? = some (cntO c' (K.take d) - if (k : Int) ∈ (withL C (-a)).take (m + 1) then 1 else 0) := by
  obtain ⟨hm, hie⟩ := List.getElem?_eq_some_iff.1 hi
  obtain ⟨j, c, hij, hc, hin⟩ := mem_withL.1 (List.mem_of_getElem? hi)
  have hni : (j : Int) ∉ (withL C (-a)).take m := fun hin => by
    obtain ⟨x, hx, he⟩ := List.mem_iff_getElem.1 hin
    simp at hx
    rw [List.getElem_take] at he
    exact (List.pairwise_iff_getElem.1 (withL_nodup C (-a))) x m (by omega) hm (by omega) (by rw [he, hie, hij])
  have hO := h.cnt j c hc
  rw [if_neg hni] at hO
  obtain ⟨hd, ha⟩ := List.getElem?_eq_some_iff.1 h.cur
  have hnd : a ∉ K.take d := fun hin => by
    obtain ⟨x, hx, he⟩ := List.mem_iff_getElem.1 hin
    simp at hx
    rw [List.getElem_take] at he
    exact (List.pairwise_iff_getElem.1 h.knod) x d (by omega) hd (by omega) (by rw [he, ha])
  refine ⟨j, c, _, hij, hc, hO, ?_, hin, fun k c' hk hc' => ?_⟩
  · rw [List.take_add_one, h.cur]
    simp only [Option.toList_some]
    rw [cntO_hit (h.nod c (List.mem_of_getElem? hc)) hin hnd]
    omega
  · rw [List.getElem?_set_ne (Ne.symm hk), h.cnt k c' hc']
    congr 2
    have e : ((k : Int) ∈ (withL C (-a)).take (m + 1)) ↔ (k : Int) ∈ (withL C (-a)).take m := by
      rw [List.take_add_one, hi]
      simp only [Option.toList_some, List.mem_append, List.mem_singleton]
      exact ⟨fun h => h.elim id fun e => (hk (by omega)).elim, Or.inl⟩
    simp [e]

theorem pj_set {n : Nat} {C : List (List Int)} {A O K : List Int} {d : Nat} {a : Int} {m : Nat} (h : PJ n C A O K d a m) {i : Int} (hi : (withL C (-a))[m]? = some i) {j : Nat} {o : Int} (hij : i = j) (ho : O[j]? = some o) :
    ∀ (k : Nat) c, C[k]? = some c → (O.set j (o - 1))[k]? = some (cntO c (K.take d) - if (k : Int) ∈ (withL C (-a)).take (m + 1) then 1 else 0) := by
  obtain ⟨j', c, o', hij', hc, ho', hcnt, hin, hoth⟩ := pj_turn h hi
  have : j' = j := by omega
  subst this
  rw [ho] at ho'
  injection ho' with ho'
  subst ho'
  intro k c' hc'
  by_cases hk : k = j'
  · subst hk
    rw [hc] at hc'
    injection hc' with hc'
    subst hc'
    have hjl : k < O.length := (List.getElem?_eq_some_iff.1 ho).1
    have hni : (k : Int) ∉ (withL C (-a)).take m := fun hin => by
      obtain ⟨hm, hie⟩ := List.getElem?_eq_some_iff.1 hi
      obtain ⟨x, hx, he⟩ := List.mem_iff_getElem.1 hin
      simp at hx
      rw [List.getElem_take] at he
      exact (List.pairwise_iff_getElem.1 (withL_nodup C (-a))) x m (by omega) hm (by omega) (by rw [he, hie, hij'])
    have h1 := h.cnt k c hc
    rw [if_neg hni, ho] at h1
    injection h1 with h1
    rw [List.getElem?_set_self hjl, if_pos (by rw [List.take_add_one, hi]; simp [hij'])]
    congr 1
    omega
  · exact hoth k c' hk hc'

/-- The clause is still open. -/
theorem pj_open {n : Nat} {C : List (List Int)} {A O K : List Int} {d : Nat} {a : Int} {m : Nat} (h : PJ n C A O K d a m) {i : Int} (hi : (withL C (-a))[m]? = some i) {j : Nat} {o : Int} (hij : i = j) (ho : O[j]? = some o) (h2 : ¬ o - 1 ≤ 1) : PJ n C A (O.set j (o - 1)) K d a (m + 1) := by
  refine { toPB := { h.toPB with olen := by rw [List.length_set]; exact h.olen, handled := fun k c x hc hx hx1 => ?_ }, cur := h.cur, cnt := pj_set h hi hij ho }
  by_cases hk : k = j
  · subst hk
    rw [List.getElem?_set_self (List.getElem?_eq_some_iff.1 ho).1] at hx
    injection hx with hx
    omega
  · rw [List.getElem?_set_ne (Ne.symm hk)] at hx
    exact h.handled k c x hc hx hx1

theorem setK_mem {K : List Int} {x : Int} (h : -x ∉ K) : x ∈ setK K x := by
  unfold setK
  rw [if_neg h]
  split
  · assumption
  · simp

theorem unit_find {K c : List Int} (h : unitR K c = true) : ∃ x ∈ c, -x ∉ K ∧ unitK K c = setK K x := by
  unfold unitR at h
  cases hf : c.find? (fun l => decide (-l ∉ K)) with
  | none =>
    rw [List.find?_eq_none] at hf
    obtain ⟨x, hx, hn⟩ := List.any_eq_true.1 h
    exact (hf x hx hn).elim
  | some x => exact ⟨x, List.mem_of_find?_eq_some hf, by simpa using List.find?_some hf, by unfold unitK; rw [hf]; rfl⟩

/-- The clause's last literal is set. -/
theorem pj_unit {n : Nat} {C : List (List Int)} {A O K : List Int} {d : Nat} {a : Int} {m : Nat} (h : PJ n C A O K d a m) {i : Int} (hi : (withL C (-a))[m]? = some i) {j : Nat} {o : Int} {c : List Int} (hij : i = j) (ho : O[j]? = some o) (hc : C[j]? = some c) (h2 : o - 1 ≤ 1) (hu : unitR K c = true) :
    PJ n C A (O.set j (o - 1)) (unitK K c) d a (m + 1) := by
  obtain ⟨x, hx, hnx, hK⟩ := unit_find hu
  obtain ⟨j', c', o', hij', hc', ho', hcnt, hin, hoth⟩ := pj_turn h hi
  have hjj : j' = j := by omega
  subst hjj
  rw [ho] at ho'
  injection ho' with ho'
  subst ho'
  rw [hc] at hc'
  injection hc' with hc'
  subst hc'
  have hcm : c ∈ C := List.mem_of_getElem? hc
  have hder : Der C A x := by
    refine .unit hcm hx fun y hy hne => h.sound _ ?_
    have := cntO_le_one (by rw [← hcnt]; exact h2) hx (fun e => hnx (List.mem_of_mem_take e)) y hy hne
    exact List.mem_of_mem_take this
  obtain ⟨hd, hae⟩ := List.getElem?_eq_some_iff.1 h.cur
  rw [hK]
  by_cases hxK : x ∈ K
  · rw [setK_pos hnx hxK]
    refine { toPB := { h.toPB with olen := by rw [List.length_set]; exact h.olen, handled := fun k c2 y hc2 hy hy1 => ?_ }, cur := h.cur, cnt := pj_set h hi hij ho }
    by_cases hk : k = j'
    · subst hk
      rw [hc] at hc2
      injection hc2 with hc2
      subst hc2
      exact ⟨x, hx, hxK⟩
    · rw [List.getElem?_set_ne (Ne.symm hk)] at hy
      exact h.handled k c2 y hc2 hy hy1
  · rw [setK_new hnx hxK]
    have hx0 := h.cok c hcm x hx
    refine { toPB := ⟨h.nod, h.cok, by rw [List.length_set]; exact h.olen, fun y hy => ?_, fun y hy => List.mem_append_left _ (h.asm y hy), fun y hy => ?_, fun y hy => ?_, ?_, fun k c2 y hc2 hy hy1 => ?_, by rw [List.length_append]; omega⟩, cur := by rw [List.getElem?_append_left hd]; exact h.cur, cnt := ?_ }
    · rcases List.mem_append.1 hy with hy | hy
      · exact h.sound y hy
      · simp at hy; rw [hy]; exact hder
    · rcases List.mem_append.1 hy with hy | hy
      · exact h.kok y hy
      · simp at hy; rw [hy]; exact hx0
    · rw [List.mem_append, not_or]
      rcases List.mem_append.1 hy with hy | hy
      · refine ⟨h.cons y hy, fun e => ?_⟩
        simp at e
        exact hnx (by rw [← e, Int.neg_neg]; exact hy)
      · simp at hy
        subst hy
        refine ⟨hnx, fun e => ?_⟩
        simp at e
        have := hx0.1
        omega
    · exact List.nodup_append.2 ⟨h.knod, by simp, fun y hy z hz e => by simp at hz; exact hxK (by rw [← hz, ← e]; exact hy)⟩
    · by_cases hk : k = j'
      · subst hk
        rw [hc] at hc2
        injection hc2 with hc2
        subst hc2
        exact ⟨x, hx, by simp⟩
      · rw [List.getElem?_set_ne (Ne.symm hk)] at hy
        obtain ⟨l, hl, hlK⟩ := h.handled k c2 y hc2 hy hy1
        exact ⟨l, hl, List.mem_append_left _ hlK⟩
    · intro k c2 hc2
      rw [List.take_append_of_le_length (by omega)]
      exact pj_set h hi hij ho k c2 hc2

/-- The clause is false: it fails. -/
theorem pj_bad {n : Nat} {C : List (List Int)} {A O K : List Int} {d : Nat} {a : Int} {m : Nat} (h : PJ n C A O K d a m) {j : Nat} {c : List Int} (hc : C[j]? = some c) (hu : unitR K c = false) : Bad C A := by
  refine .inr ⟨c, List.mem_of_getElem? hc, fun l hl => h.sound _ ?_⟩
  unfold unitR at hu
  have := List.any_eq_false.1 hu l hl
  simpa using this

/-- All was looked at: it is closed. -/
theorem pi_closed {n : Nat} {C : List (List Int)} {A O K : List Int} {d : Nat} (h : PI n C A O K d) (hd : K.length ≤ d) : Closed C A K := by
  have hcnt : ∀ c ∈ C, ∃ i : Nat, C[i]? = some c ∧ O[i]? = some (cntO c K) := fun c hc => by
    obtain ⟨i, hi⟩ := List.mem_iff_getElem?.1 hc
    have := h.cnt i c hi
    rw [List.take_of_length_le hd] at this
    exact ⟨i, hi, this⟩
  refine ⟨h.sound, h.asm, h.cons, fun c hc l hl hm => ?_, fun c hc => ?_⟩
  · obtain ⟨i, hi, ho⟩ := hcnt c hc
    by_cases h1 : cntO c K ≤ 1
    · obtain ⟨x, hx, hxK⟩ := h.handled i c _ hi ho h1
      by_cases e : x = l
      · rw [← e]; exact hxK
      · exact (h.cons x hxK (hm x hx e)).elim
    · obtain ⟨x, hx, hne, hnx⟩ := cntO_two (c := c) (D := K) (by omega) (h.nod c hc) l
      exact (hnx (hm x hx hne)).elim
  · obtain ⟨i, hi, ho⟩ := hcnt c hc
    by_cases h1 : cntO c K ≤ 1
    · obtain ⟨x, hx, hxK⟩ := h.handled i c _ hi ho h1
      exact ⟨x, hx, h.cons x hxK⟩
    · obtain ⟨x, hx, -, hnx⟩ := cntO_two (c := c) (D := K) (by omega) (h.nod c hc) 0
      exact ⟨x, hx, hnx⟩

/-- Numbers below a bound, each once, are at most so many. -/
theorem nodup_below : ∀ (n : Nat) (l : List Nat), l.Nodup → (∀ x ∈ l, x < n) → l.length ≤ n
  | 0, l, _, h => by
    cases l with
    | nil => exact Nat.le_refl _
    | cons x l => have := h x (by simp); omega
  | n + 1, l, hn, h => by
    have h1 : (l.filter fun x => decide (x ≠ n)).length ≤ n := nodup_below n _ (List.filter_sublist.nodup hn) fun x hx => by
      obtain ⟨hx1, hx2⟩ := List.mem_filter.1 hx
      have := h x hx1
      simp at hx2
      omega
    have h2 : l.length ≤ (l.filter fun x => decide (x ≠ n)).length + 1 := by
      clear h h1
      induction l with
      | nil => simp
      | cons x l ih =>
        rw [List.nodup_cons] at hn
        have := ih hn.2
        by_cases hx : x = n
        · subst hx
          rw [List.filter_cons]
          simp only [ne_eq, not_true_eq_false, decide_false, Bool.false_eq_true, if_false, List.length_cons]
          have e : l.filter (fun y => decide (y ≠ x)) = l := List.filter_eq_self.2 fun y hy => by simp; exact fun e => hn.1 (by rw [← e]; exact hy)
          simp only [ne_eq] at e
          rw [e]
          omega
        · rw [List.filter_cons]
          simp only [ne_eq, hx, not_false_eq_true, decide_true, if_true, List.length_cons]
          simp only [ne_eq] at this
          omega
    omega

theorem lits_le {n : Nat} {K : List Int} (hn : K.Nodup) (hc : ∀ a ∈ K, -a ∉ K) (hk : ∀ a ∈ K, LitOk n a) : K.length ≤ n := by
  have h1 : (K.map fun a => a.natAbs - 1).Nodup := by
    rw [List.Nodup, List.pairwise_map]
    refine List.Pairwise.imp_of_mem (fun {a c} ha hc' hac => ?_) hn
    have h1 := hk a ha
    have h2 := hk c hc'
    unfold LitOk at h1 h2
    intro e
    rcases (by omega : a = c ∨ a = -c) with e2 | e2
    · exact hac e2
    · exact hc c hc' (by rw [← e2]; exact ha)
  have := nodup_below n _ h1 fun x hx => by
    obtain ⟨a, ha, rfl⟩ := List.mem_map.1 hx
    have := hk a ha
    unfold LitOk at this
    omega
  simpa using this

end Go.Proofs.Ytfmahgobogelkaa.Ord

/- The contracts of prop's state: set and unit. -/
namespace Go.Proofs.Ytfmahgobogelkaa.Ord
open Go.RowKit Go.Conc

/-- The entries of a set of literals. -/
def kes (K : List Int) : List (Int × Value) := K.map fun a => (a, .bool true)

theorem kes_get (K : List Int) (a : Int) : (aget (kes K) a).getD (.bool false) = .bool (decide (a ∈ K)) := by
  induction K with
  | nil => rfl
  | cons k K ih =>
    unfold aget kes at ih ⊢
    simp only [List.map_cons, List.find?_cons]
    by_cases h : k = a
    · subst h; simp
    · have hb : (k == a) = false := by simpa using h
      simp only [hb]
      rw [ih]
      have : (a ∈ k :: K) ↔ a ∈ K := by simp [Ne.symm h]
      simp [this]

theorem kes_put {K : List Int} {a : Int} (h : a ∉ K) : aput (kes K) a (.bool true) = kes (K ++ [a]) := by
  have hg : (kes K).any (fun p => p.1 == a) = false := List.any_eq_false.2 fun p hp e => by
    obtain ⟨k, hk, rfl⟩ := List.mem_map.1 hp
    simp at e
    exact h (by rw [← e]; exact hk)
  unfold aput
  rw [hg]
  simp [kes]

theorem kes_nodup {w : World} {b : Nat} {K : List Int} (h : IM w b (kes K)) : K.Nodup := by
  have := h.nodup
  simpa [kes, List.map_map, Function.comp_def] using this

/-- What does not change in a state. -/
structure Rds (w : World) (b : Nat) (vc vo : Value) (bw bk bc : Nat) (C : List (List Int)) (f : Int → List Int) (es : List (Int × Value)) : Prop where
  blk : w.heap[b]? = some (.cells #[vc, vo, .map (some bw), .map (some bk), .chan (some bc)] 102)
  cls : ∃ a c, vc = .slice a C.length c ∧ ∀ (i : Nat) (xs : List Int), C[i]? = some xs → ∃ g o u, a = some ⟨g, o, none⟩ ∧ w.cell? ⟨g, o + i, none⟩ = some u ∧ SlI w u xs
  wth : IM w bw es ∧ ∀ k, SlI w ((aget es k).getD (.slice none 0 0)) (f k)

/-- It does not change where only the blocks of S are written. -/
def Fix (S : Nat → Prop) (w : World) (b : Nat) (vc vo : Value) (bw bk bc : Nat) (C : List (List Int)) (f : Int → List Int) (es : List (Int × Value)) : Prop := ∀ w', Touch S w w' → Rds w' b vc vo bw bk bc C f es

theorem Fix.next {S : Nat → Prop} {w w' : World} {b : Nat} {vc vo : Value} {bw bk bc : Nat} {C : List (List Int)} {f : Int → List Int} {es : List (Int × Value)} (h : Fix S w b vc vo bw bk bc C f es) (ht : Touch S w w') : Fix S w' b vc vo bw bk bc C f es := fun _ h' => h _ (ht.trans h')
theorem Fix.now {S : Nat → Prop} {w : World} {b : Nat} {vc vo : Value} {bw bk bc : Nat} {C : List (List Int)} {f : Int → List Int} {es : List (Int × Value)} (h : Fix S w b vc vo bw bk bc C f es) : Rds w b vc vo bw bk bc C f es := h w (Touch.refl _ _)

theorem Rds.cells {w : World} {b : Nat} {vc vo : Value} {bw bk bc : Nat} {C : List (List Int)} {f : Int → List Int} {es : List (Int × Value)} (h : Rds w b vc vo bw bk bc C f es) :
    w.cell? ⟨b, 0, none⟩ = some vc ∧ w.cell? ⟨b, 1, none⟩ = some vo ∧ w.cell? ⟨b, 2, none⟩ = some (.map (some bw)) ∧ w.cell? ⟨b, 3, none⟩ = some (.map (some bk)) ∧ w.cell? ⟨b, 4, none⟩ = some (.chan (some bc)) :=
  ⟨fit_cell (vs := [vc, vo, .map (some bw), .map (some bk), .chan (some bc)]) h.blk 0, fit_cell (vs := [vc, vo, .map (some bw), .map (some bk), .chan (some bc)]) h.blk 1, fit_cell (vs := [vc, vo, .map (some bw), .map (some bk), .chan (some bc)]) h.blk 2, fit_cell (vs := [vc, vo, .map (some bw), .map (some bk), .chan (some bc)]) h.blk 3, fit_cell (vs := [vc, vo, .map (some bw), .map (some bk), .chan (some bc)]) h.blk 4⟩

/-- What changes in a state: how many literals of each clause are open, what is known, and how much of it was looked at. -/
structure Dyn (S : Nat → Prop) (w : World) (vo : Value) (bk bc cap : Nat) (O K : List Int) (d : Nat) : Prop where
  op : Rw w vo O
  kn : IM w bk (kes K)
  ch : w.heap[bc]? = some (.chan cap (ints (K.drop d)).toArray false K.length d false)
  sO : ∀ k, vo.ownBlock = some k → S k
  sK : S bk
  sC : S bc
  le : d ≤ K.length

theorem info_zero_bool (w : World) : (zeroValue 4).run Try.prog w = .ok (.bool false) w := by kernel_rfl

theorem look_known {S : Nat → Prop} {w : World} {vo : Value} {bk bc cap d : Nat} {O K : List Int} (h : Dyn S w vo bk bc cap O K d) (a : Int) :
    (Instr.lookup 91 (.map (some bk)) (.int .i64 a) false).run Try.prog w = .ok (.bool (decide (a ∈ K))) w := by
  rw [im_lookup (P := Try.prog) Try.underlying91 Try.underlying3 (info_zero_bool w) h.kn a, kes_get]

theorem dyn_apart {S : Nat → Prop} {w : World} {vo : Value} {bk bc cap d : Nat} {O K : List Int} (h : Dyn S w vo bk bc cap O K d) : vo.ownBlock ≠ some bk ∧ vo.ownBlock ≠ some bc ∧ bk ≠ bc := by
  have h1 : ∀ k, vo.ownBlock = some k → ∃ cur e m, w.heap[k]? = some (.cells cur e m) := fun k hk => by
    rcases h.op.2 with ⟨rfl, _⟩ | ⟨g, cap, cur, rfl, _, hg, _⟩
    · cases hk
    · simp only [Value.ownBlock, Option.some.injEq] at hk
      subst hk
      exact ⟨_, _, _, hg⟩
  obtain ⟨arr, c, hm, -⟩ := h.kn
  refine ⟨fun e => ?_, fun e => ?_, fun e => ?_⟩
  · obtain ⟨cur, e', m, hh⟩ := h1 _ e; rw [hm] at hh; cases hh
  · obtain ⟨cur, e', m, hh⟩ := h1 _ e; rw [h.ch] at hh; cases hh
  · rw [e, h.ch] at hm; cases hm

theorem chan_push {w : World} {c cap s r : Nat} {buf : Array Value} {v : Value} {tm : Bool} {bf : Array Value} (hl : c < w.heap.size) (h : buf.push v = bf) : (w.setChan c cap (buf.push v) false s r tm).heap[c]? = some (.chan cap bf false s r tm) := by
  rw [heap_setChan _ _ _ _ _ _ _ _ hl, h]

set_option maxRecDepth 100000 in
set_option maxHeartbeats 4000000 in
theorem prop_set (S : Nat → Prop) (b : Nat) (vc vo : Value) (bw bk bc cap d : Nat) (C : List (List Int)) (f : Int → List Int) (es : List (Int × Value)) (O K : List Int) (a : Int) (r : Bool) (w : World) (hr : decide (-a ∉ K) = r) (ha : -1048576 ≤ a ∧ a ≤ 1048576) (hF : Fix S w b vc vo bw bk bc C f es) (hD : Dyn S w vo bk bc cap O K d)
    (hcap : (setK K a).length < d + cap + 1) :
    Calls Try.prog 72 #[.pointer (some ⟨b, 0, none⟩), .int .i64 a] w fun e w' => e = .returned (.bool r) ∧ Dyn S w' vo bk bc cap O (setK K a) d ∧ Touch S w w' := by
  obtain ⟨-, -, -, hc3, hc4⟩ := hF.now.cells
  have hl1 := look_known hD (-a)
  have hl2 := look_known hD a
  have hw1 : IntKind.i64.wrap (-a) = -a := IntWalk.i64_in _ (by omega)
  by_cases h1 : -a ∈ K
  · rw [decide_eq_true h1] at hl1
    rw [decide_eq_false (by simpa using h1)] at hr
    rw [setK_neg h1]
    have HD := hid hD
    have HR := hid hr
    clear hF hD hl2 h1 hcap hr
    go_enter Try.func72, Try.ntmps72
    go_wp2_with fail
    go_ret
    exact ⟨by rw [← HR.out]; rfl, HD.out, Touch.refl _ _⟩
  · rw [decide_eq_false h1] at hl1
    rw [decide_eq_true (by simpa using h1)] at hr
    by_cases h2 : a ∈ K
    · rw [decide_eq_true h2] at hl2
      rw [setK_pos h1 h2]
      have HD := hid hD
      have HR := hid hr
      clear hF hD h1 h2 hcap hr
      go_enter Try.func72, Try.ntmps72
      go_wp2_with fail
      go_ret
      exact ⟨by rw [← HR.out]; rfl, HD.out, Touch.refl _ _⟩
    · rw [decide_eq_false h2] at hl2
      rw [setK_new h1 h2] at hcap ⊢
      obtain ⟨n1, n2, n3⟩ := dyn_apart hD
      obtain ⟨w1, hup, him, ht1, hz1⟩ := im_update (P := Try.prog) Try.underlying91 Try.underlying3 hD.kn a (.bool true)
      rw [kes_put h2] at him
      have hbS : ∀ k, k = bk → S k := fun k hk => by rw [hk]; exact hD.sK
      have ht1' : Touch S w w1 := ht1.mono fun k _ hk => hbS k hk
      have hc4' := (hF.now.cells).2.2.2.2
      have hcw1 := ((hF.next ht1').now.cells).2.2.2.2
      have hcl := (Array.getElem?_eq_some_iff.1 hD.ch).1
      have hch1 : w1.heap[bc]? = some (.chan cap (ints (K.drop d)).toArray false K.length d false) := (ht1.block bc hcl (fun e => n3 e.symm)).trans hD.ch
      have hroom : (ints (K.drop d)).toArray.size < cap := by
        simp only [List.size_toArray, ints_length, List.length_drop]
        rw [List.length_append] at hcap
        simp at hcap
        have := hD.le
        omega
      have hT := ht1'.trans ((touch_chan w1 bc cap ((ints (K.drop d)).toArray.push (.int .i64 a)) false (K.length + 1) d false).mono fun k _ hk => by rw [hk]; exact hD.sC)
      have hDn : Dyn S (w1.setChan bc cap ((ints (K.drop d)).toArray.push (.int .i64 a)) false (K.length + 1) d false) vo bk bc cap O (K ++ [a]) d := by
        have tC := touch_chan w1 bc cap ((ints (K.drop d)).toArray.push (.int .i64 a)) false (K.length + 1) d false
        refine ⟨?_, ?_, ?_, hD.sO, hD.sK, hD.sC, by have := hD.le; simp; omega⟩
        · refine rw_frame hD.op fun k hk => ?_
          have hkl := rw_lt hD.op k hk
          rw [tC.block k (by omega) (fun e => n2 (by rw [hk, e])), ht1.block k hkl (fun e => n1 (by rw [hk, e]))]
        · exact him.frame (tC.block bk (by have := him.lt; omega) n3)
        · rw [heap_setChan _ _ _ _ _ _ _ _ (by rw [hz1]; exact hcl)]
          rw [List.length_append, List.length_singleton, List.drop_append_of_le_length hD.le]
          simp [ints]
      have HT := hid hT
      have HDN := hid hDn
      have HR := hid hr
      have HCH := hid hch1
      have HROOM := hid hroom
      clear hF hD h1 h2 hcap hr n1 n2 n3 him ht1 hz1 hbS ht1' hc4' hcl hch1 hroom hT hDn
      refine calls_of_wpN Try.func72 rfl ?_
      simp only [Try.ntmps72, List.size_toArray, List.length_cons, List.length_nil, Nat.reduceAdd, Nat.reduceSub, Array.replicate_succ, Array.replicate_zero, List.push_toArray, List.append_toArray, List.nil_append, List.cons_append]
      refine wpN_seq ?_
      go_wp2_with fail
      refine wpN_seq ?_
      go_wp2_with fail
      refine wpN_seqN (wpN_seq ?_)
      go_wp2_with fail
      refine wpN_cond (t := true) rfl (wpN_seq ?_)
      go_wp2_with fail
      refine wpN_region ?_
      simp only [List.size_toArray, List.length_cons, List.length_nil, Nat.reduceAdd, List.range, List.range.loop]
      refine opsN_value rfl rfl (v := .pointer (some ⟨b, 0, none⟩)) (w' := w1) (by simp [go_sem]) ?_
      walk_nrm
      refine opsN_value rfl rfl (v := .pointer (some ⟨b, 0, none⟩)) (w' := w1) (by simp [go_sem]) ?_
      walk_nrm
      refine opsN_value rfl rfl (v := .pointer (some ⟨b, 4, none⟩)) (w' := w1) (by simp [go_sem]) ?_
      walk_nrm
      refine opsN_value rfl rfl (v := .chan (some bc)) (w' := w1) (by simp [go_sem, hcw1]) ?_
      walk_nrm
      refine opsN_value rfl rfl (v := .int .i64 a) (w' := w1) (by simp [go_sem]) ?_
      walk_nrm
      refine opsN_send (z := .tuple #[]) (v := .int .i64 a) rfl rfl (by simp [go_sem, scase]) HCH.out HROOM.out ?_
      walk_nrm
      refine opsN_end ?_
      refine wpN_of_wp ?_
      go_wp2_with fail
      go_ret
      exact ⟨by rw [← HR.out]; rfl, by simpa only [List.push_toArray] using HDN.out, by simpa only [List.push_toArray] using HT.out⟩

set_option maxRecDepth 100000 in
set_option maxHeartbeats 4000000 in
theorem prop_unit (S : Nat → Prop) (b : Nat) (vc vo : Value) (bw bk bc cap d : Nat) (C : List (List Int)) (f : Int → List Int) (es : List (Int × Value)) (O K xs : List Int) (i : Nat) (r : Bool) (w : World) (hi : C[i]? = some xs) (hr : unitR K xs = r) (ha : ∀ a ∈ xs, -1048576 ≤ a ∧ a ≤ 1048576) (hxl : xs.length ≤ 4294967296) (hF : Fix S w b vc vo bw bk bc C f es) (hD : Dyn S w vo bk bc cap O K d)
    (hcap : (unitK K xs).length < d + cap + 1) :
    Calls Try.prog 93 #[.pointer (some ⟨b, 0, none⟩), .int .i64 i] w fun e w' => e = .returned (.bool r) ∧ Dyn S w' vo bk bc cap O (unitK K xs) d ∧ Touch S w w' := by
  obtain ⟨hc0, -, -, hc3, -⟩ := hF.now.cells
  obtain ⟨ac, cc, rfl, hcls⟩ := hF.now.cls
  obtain ⟨g, o, u, rfl, hcu, hu⟩ := hcls i xs hi
  obtain ⟨au, cu, rfl, -, -, hsu⟩ := hu
  have hil : (i : Int) < C.length := by have := (List.getElem?_eq_some_iff.1 hi).1; omega
  have HD := hid hD
  have HF := hid hF
  have HR := hid hr
  have HA := hid ha
  have HSU := hid hsu
  have HCAP := hid hcap
  clear hD hF hr ha hsu hcap hcls hi
  go_enter Try.func93, Try.ntmps93
  go_wp2_with fail
  go_loop [15] (fun s15 => ∃ k : Nat, s15 = .int .i64 k ∧ k ≤ xs.length ∧ Hid (∀ y ∈ xs.take k, -y ∈ K)) (fun s15 => (xs.length - (intOf s15)).toNat)
  case atStart => exact ⟨0, rfl, Nat.zero_le _, by simp [Hid]⟩
  case round =>
    obtain ⟨k, rfl, hk, hh⟩ := hrel
    by_cases hlt : k < xs.length
    · obtain ⟨bo, oo, x, rfl, hcx, hxk⟩ := HSU.out.int hlt
      have hxb := HA.out x (List.mem_of_getElem? hxk)
      have hw1 : IntKind.i64.wrap (-x) = -x := IntWalk.i64_in _ (by omega)
      have hwk : IntKind.i64.wrap ((k : Int) + 1) = (k : Int) + 1 := IntWalk.i64_in _ (by omega)
      have hl1 := look_known HD.out (-x)
      by_cases hn : -x ∈ K
      · rw [decide_eq_true hn] at hl1
        have HN := hid (unit_skip hh.out hxk hn)
        clear hn hxk
        go_wp2_with fail
        go_round
        case rel => exact ⟨k + 1, by simp, hlt, HN⟩
        case measure => simp [intOf]; omega
      · rw [decide_eq_false hn] at hl1
        obtain ⟨e1, e2⟩ := unit_hit hh.out hxk hn
        have hr1 : r = true := by rw [← HR.out]; exact e1
        have HE2 := hid e2
        have HN := hid hn
        clear hn hxk e1 e2
        go_wp2_with fail
        refine (prop_set S b _ vo bw bk bc cap d C f es O K x true _ (by simpa using HN.out) hxb HF.out HD.out (by rw [← HE2.out]; exact HCAP.out)).mono ?_
        rintro e w2 ⟨rfl, h2, ht2⟩
        have H2 := hid h2
        have HT := hid ht2
        clear h2 ht2
        go_wp2_with fail
        go_ret
        exact ⟨by rw [hr1]; rfl, by rw [HE2.out]; exact H2.out, HT.out⟩
    · obtain ⟨e1, e2⟩ := unit_none hh.out (by omega)
      have hr1 : r = false := by rw [← HR.out]; exact e1
      have HE2 := hid e2
      have HR1 := hid hr1
      clear e1 e2 hr1
      go_wp2_with fail
      go_ret
      exact ⟨by rw [HR1.out]; rfl, by rw [HE2.out]; exact HD.out, Touch.refl _ _⟩

end Go.Proofs.Ytfmahgobogelkaa.Ord

/- The contract of prop's run. -/
namespace Go.Proofs.Ytfmahgobogelkaa.Ord
open Go.RowKit Go.Conc

/-- How many receives a channel has seen. -/
def rcvd (w : World) (c : Nat) : Nat := match w.heap[c]? with
  | some (.chan _ _ _ _ r _) => r
  | _ => 0

theorem rcvd_dyn {S : Nat → Prop} {w : World} {vo : Value} {bk bc cap d : Nat} {O K : List Int} (h : Dyn S w vo bk bc cap O K d) : rcvd w bc = d := by
  unfold rcvd; rw [h.ch]

theorem len_chan {P : Program} {w : World} {t e : TypeId} {dir : ChanDir} (ht : P.underlying t = some (.chan dir e)) {c cap s r : Nat} {buf : Array Value} {cl tm : Bool} (h : w.heap[c]? = some (.chan cap buf cl s r tm)) (htm : tm = false) (ty : TypeId) :
    (Builtin.len_ #[t] ty #[.chan (some c)]).run P w = .ok (.int .i64 buf.size) w := by
  have hg : (getObj c).run P w = .ok (.chan cap buf cl s r tm) w := by simp [getObj, Sem.run, h]
  simp [Builtin.len_, run_underlying ht, hg, Result.andThen, htm]
  rfl

/-- The head of a round of run's outer loop. -/
def runI (S : Nat → Prop) (b : Nat) (vc vo : Value) (bw bk bc n : Nat) (C : List (List Int)) (es : List (Int × Value)) (A : List Int) (w0 : World) (a : Act) (wr : World) : Prop :=
  ∃ (O K : List Int) (d : Nat), Hid (Fix S wr b vc vo bw bk bc C (withL C) es) ∧ Hid (Dyn S wr vo bk bc (n + 1) O K d) ∧ Hid (PI n C A O K d) ∧ Hid (Touch S w0 wr) ∧ ∃ u1 u2 u3 u4 u5 u6 u7 u8 u9 u10 u11 u12 u13 u14 u15 u16 u17 u18 u19 u20 u21 u22 u23 u24 u25 u26 u27 u28 u29 u30 u31 u32 u33 u34 u35 u36 u37 u38 u39 u40 u41 u42 u43 u44 u45 u46 u47 u48 u49 u50 u51 u52 : Value, a = ⟨#[.pointer (some ⟨b, 0, none⟩), u1, u2, u3, u4, u5, u6, u7, u8, u9, u10, u11, u12, u13, u14, u15, u16, u17, u18, u19, u20, u21, u22, u23, u24, u25, u26, u27, u28, u29, u30, u31, u32, u33, u34, u35, u36, u37, u38, u39, u40, u41, u42, u43, u44, u45, u46, u47, u48, u49, u50, u51, u52], []⟩

/-- What run leaves. -/
def runR (S : Nat → Prop) (bk n : Nat) (C : List (List Int)) (A : List Int) (w0 : World) (e : Ending) (w' : World) : Prop :=
  Touch S w0 w' ∧ ((e = .returned (.bool true) ∧ ∃ K, Closed C A K ∧ (∀ a ∈ K, LitOk n a) ∧ IM w' bk (kes K)) ∨ (e = .returned (.bool false) ∧ Bad C A))

theorem cntO_bounds (c D : List Int) : 0 ≤ cntO c D ∧ cntO c D ≤ c.length := by
  unfold cntO
  have := List.length_filter_le (fun l => decide (-l ∉ D)) c
  omega

theorem ow_open {S : Nat → Prop} {w : World} {vo : Value} {bk bc cap d : Nat} {O K : List Int} (h : Dyn S w vo bk bc cap O K d) {j : Nat} {o : Int} (ho : O[j]? = some o) :
    ∃ g c, vo = .slice (some ⟨g, 0, none⟩) O.length c ∧ w.cell? ⟨g, j, none⟩ = some (.int .i64 o) ∧ w.frozen? ⟨g, j, none⟩ = false ∧ S g := by
  obtain ⟨hj, hoe⟩ := List.getElem?_eq_some_iff.1 ho
  obtain ⟨g, c, rfl⟩ := rw_form h.op (by omega)
  exact ⟨g, c, rfl, by rw [rw_get h.op rfl hj, hoe], rw_free h.op rfl j, h.sO g rfl⟩

theorem dyn_store {S : Nat → Prop} {w : World} {g c : Nat} {bk bc cap d : Nat} {O K : List Int} (h : Dyn S w (.slice (some ⟨g, 0, none⟩) O.length c) bk bc cap O K d) (j : Nat) (x : Int) :
    Dyn S (w.setCell ⟨g, j, none⟩ (.int .i64 x)) (.slice (some ⟨g, 0, none⟩) O.length c) bk bc cap (O.set j x) K d ∧ Touch S w (w.setCell ⟨g, j, none⟩ (.int .i64 x)) := by
  obtain ⟨n1, n2, n3⟩ := dyn_apart h
  have hf : ∀ k, k ≠ g → (w.setCell ⟨g, j, none⟩ (.int .i64 x)).heap[k]? = w.heap[k]? := fun k hk => Below.heap_setCell w ⟨g, j, none⟩ _ k hk
  have h1 := rw_set h.op rfl j x
  exact ⟨⟨h1, h.kn.frame (hf bk (fun e => n1 (by rw [e]; rfl))), (hf bc (fun e => n2 (by rw [e]; rfl))).trans h.ch, h.sO, h.sK, h.sC, h.le⟩, (Touch.refl S w).setCell (h.sO g rfl) _⟩

theorem dyn_recv {S : Nat → Prop} {w : World} {vo : Value} {bk bc cap d : Nat} {O K : List Int} (h : Dyn S w vo bk bc cap O K d) (hd : d < K.length) :
    Dyn S (w.setChan bc cap ((ints (K.drop d)).toArray.extract 1 (ints (K.drop d)).toArray.size) false K.length (d + 1) false) vo bk bc cap O K (d + 1) ∧ Touch S w (w.setChan bc cap ((ints (K.drop d)).toArray.extract 1 (ints (K.drop d)).toArray.size) false K.length (d + 1) false) := by
  obtain ⟨n1, n2, n3⟩ := dyn_apart h
  have tC := touch_chan w bc cap ((ints (K.drop d)).toArray.extract 1 (ints (K.drop d)).toArray.size) false K.length (d + 1) false
  have hcl := (Array.getElem?_eq_some_iff.1 h.ch).1
  refine ⟨⟨rw_frame h.op fun k hk => tC.block k (rw_lt h.op k hk) (fun e => n2 (by rw [hk, e])), h.kn.frame (tC.block bk h.kn.lt n3), ?_, h.sO, h.sK, h.sC, hd⟩, tC.mono fun k _ hk => by rw [hk]; exact h.sC⟩
  rw [heap_setChan _ _ _ _ _ _ _ _ hcl]
  congr 2
  apply Array.ext'
  simp [ints]
  exact List.take_of_length_le (by simp; omega)

set_option maxRecDepth 100000 in
set_option maxHeartbeats 8000000 in
theorem prop_run (S : Nat → Prop) (b : Nat) (vc vo : Value) (bw bk bc d n : Nat) (C : List (List Int)) (es : List (Int × Value)) (A O K : List Int) (w : World) (hn : n ≤ 1048576) (hCl : C.length ≤ 4294967296) (hcl : ∀ c ∈ C, c.length ≤ 4294967296) (hF : Fix S w b vc vo bw bk bc C (withL C) es) (hD : Dyn S w vo bk bc (n + 1) O K d) (hP : PI n C A O K d) :
    Calls Try.prog 73 #[.pointer (some ⟨b, 0, none⟩)] w (runR S bk n C A w) := by
  have HF := hid hF
  have HD := hid hD
  have HP := hid hP
  have HCL := hid hcl
  clear hF hD hP hcl
  refine calls_of_wpN Try.func73 rfl ?_
  simp only [Try.ntmps73, List.size_toArray, List.length_cons, List.length_nil, Nat.reduceAdd, Nat.reduceSub, Array.replicate_succ, Array.replicate_zero, List.push_toArray, List.append_toArray, List.nil_append, List.cons_append]
  refine wpN_seq ?_
  go_wp2_with fail
  refine wpN_seqN (wpN_block (wpN_loop (runI S b vc vo bw bk bc n C es A w) (fun _ wr => n + 1 - rcvd wr bc) ?h0 ?round))
  case h0 =>
    refine ⟨O, K, d, HF, HD, HP, Touch.refl _ _, ?_⟩
    repeat (apply Exists.intro)
    rfl
  case round =>
    clear HF HD HP
    rintro a wr ⟨O, K, d, HF, HD, HP, HT, u1, u2, u3, u4, u5, u6, u7, u8, u9, u10, u11, u12, u13, u14, u15, u16, u17, u18, u19, u20, u21, u22, u23, u24, u25, u26, u27, u28, u29, u30, u31, u32, u33, u34, u35, u36, u37, u38, u39, u40, u41, u42, u43, u44, u45, u46, u47, u48, u49, u50, u51, u52, rfl⟩
    obtain ⟨-, hc1, hc2, hc3, hc4⟩ := HF.out.now.cells
    have hlen := fun ty => len_chan (P := Try.prog) Try.underlying100 HD.out.ch rfl ty
    have hsz : (ints (K.drop d)).toArray.size = K.length - d := by simp
    rw [hsz] at hlen
    have hkn := lits_le HP.out.knod HP.out.cons HP.out.kok
    have hde := HP.out.le
    by_cases hlt : d < K.length
    · have hd0 : decide ((0 : Int) < ((K.length - d : Nat) : Int)) = true := decide_eq_true (by omega)
      refine wpN_seq ?_
      go_wp2_with fail
      rename_i hpos
      rw [decide_eq_true hpos]
      clear hpos hd0
      refine wpN_block (wpN_seqN ?_)
      refine wpN_region ?_
      simp only [List.size_toArray, List.length_cons, List.length_nil, Nat.reduceAdd, List.range, List.range.loop]
      obtain ⟨x, hx⟩ : ∃ x, K[d]? = some x := ⟨_, List.getElem?_eq_getElem hlt⟩
      have hbuf : (ints (K.drop d)).toArray.getD 0 undef = .int .i64 x := by
        obtain ⟨h1, h2⟩ := List.getElem?_eq_some_iff.1 hx
        rw [List.drop_eq_getElem_cons h1, h2]
        rfl
      obtain ⟨hD2, hT2⟩ := dyn_recv HD.out hlt
      refine opsN_value rfl rfl (v := .pointer (some ⟨b, 0, none⟩)) (w' := wr) (by simp [go_sem]) ?_
      walk_nrm
      refine opsN_value rfl rfl (v := .pointer (some ⟨b, 0, none⟩)) (w' := wr) (by simp [go_sem]) ?_
      walk_nrm
      refine opsN_value rfl rfl (v := .pointer (some ⟨b, 4, none⟩)) (w' := wr) (by simp [go_sem]) ?_
      walk_nrm
      refine opsN_value rfl rfl (v := .chan (some bc)) (w' := wr) (by simp [go_sem, hc4]) ?_
      walk_nrm
      refine opsN_recv (z := .int .i64 0) rfl rfl (by simp [go_sem, rcase]; done) HD.out.ch (by rw [hsz]; omega) ?_
      rw [hbuf]
      generalize hw2 : wr.setChan bc _ _ _ _ _ _ = w2 at hD2 hT2 ⊢
      walk_nrm
      refine opsN_value rfl rfl (v := .int .i64 x) (w' := w2) (by simp [go_sem]) ?_
      walk_nrm
      refine opsN_end ?_
      refine wpN_of_wp ?_
      have HJ := hid (pj_start HP.out hx)
      have HF2 := hid (HF.out.next hT2)
      have HT2 := hid (HT.out.trans hT2)
      have HD2 := hid hD2
      have HDE := hid hw2
      have hxk := HP.out.kok x (List.mem_of_getElem? hx)
      have hxb : -1048576 ≤ x ∧ x ≤ 1048576 := by unfold LitOk at hxk; omega
      have hr0 : rcvd wr bc = d := rcvd_dyn HD.out
      have HR0 := hid hr0
      clear hD2 hT2 hw2 hx hbuf hlen hsz hxk hr0 hc1 hc2 hc3 hc4
      have hwx : IntKind.i64.wrap (-x) = -x := IntWalk.i64_in _ (by omega)
      obtain ⟨-, -, hc2, -, -⟩ := HF2.out.now.cells
      obtain ⟨hes, hrows⟩ := HF2.out.now.wth
      obtain ⟨aw, cw, hval, hwl, hwn, hsw⟩ := hrows (-x)
      have hlook := im_lookup (P := Try.prog) Try.underlying90 Try.underlying3 (z := .slice none 0 0) (by kernel_rfl) hes (-x)
      rw [hval] at hlook
      have HVAL := hid hval
      have hLb : (withL C (-x)).length ≤ 4294967296 := by
        have h1 : (withL C (-x)).length ≤ C.length := by
          unfold withL
          rw [List.length_map]
          have := List.length_filter_le (fun i => decide (-x ∈ C.getD i [])) (List.range C.length)
          rw [List.length_range] at this
          exact this
        omega
      clear hes hrows hval hsw hwn hwl
      go_wp2_with fail
      clear hlook hc2
      go_loopw [25] (fun s25 wq => ∃ (m : Nat) (O' K' : List Int), s25 = .int .i64 m ∧ m ≤ (withL C (-x)).length ∧ Hid (Fix S wq b vc vo bw bk bc C (withL C) es) ∧ Hid (Dyn S wq vo bk bc (n + 1) O' K' (d + 1)) ∧ Hid (PJ n C A O' K' d x m) ∧ Hid (Touch S w wq)) (fun s25 _ => ((withL C (-x)).length - (intOf s25)).toNat)
      case atStart => exact ⟨0, O, K, rfl, Nat.zero_le _, HF2, HD2, HJ, HT2⟩
      case round =>
        obtain ⟨m, O', K', rfl, hm, HFq, HDq, HJq, HTq⟩ := hrel
        by_cases hml : m < (withL C (-x)).length
        · obtain ⟨i, hi⟩ : ∃ i, (withL C (-x))[m]? = some i := ⟨_, List.getElem?_eq_getElem hml⟩
          obtain ⟨j, c, o, hij, hc, ho, hcnt, -, -⟩ := pj_turn HJq.out hi
          subst hij
          obtain ⟨-, hc1, -, -, -⟩ := HFq.out.now.cells
          obtain ⟨hes, hrows⟩ := HFq.out.now.wth
          obtain ⟨aq, cq, hval, -, -, hsq⟩ := hrows (-x)
          rw [HVAL.out] at hval
          injection hval with hv1 hv2 hv3
          subst hv1
          subst hv3
          obtain ⟨ba, oa, i', rfl, hci, hi'⟩ := hsq.int hml
          have hii : i' = (j : Int) := by rw [hi] at hi'; exact (Option.some.inj hi').symm
          subst hii
          obtain ⟨g, cg, rfl, hco, hfo, hSg⟩ := ow_open HDq.out ho
          have hob := cntO_bounds c (K.take (d + 1))
          have hcb := HCL.out c (List.mem_of_getElem? hc)
          have hob2 : -1 ≤ o - 1 ∧ o - 1 ≤ 4294967296 := by
            have := cntO_bounds c (K'.take (d + 1))
            omega
          have hw1 : IntKind.i64.wrap (o - 1) = o - 1 := IntWalk.i64_in _ (by omega)
          have hwm : IntKind.i64.wrap ((m : Int) + 1) = (m : Int) + 1 := IntWalk.i64_in _ (by omega)
          have hjl : (j : Int) < O'.length := by have := (List.getElem?_eq_some_iff.1 ho).1; omega
          have hmi : (m : Int) < (withL C (-x)).length := by omega
          obtain ⟨hDs, hTs⟩ := dyn_store HDq.out j (o - 1)
          have HDs := hid hDs
          have HFs := hid (HFq.out.next hTs)
          have HTs := hid (HTq.out.trans hTs)
          have hKl := lits_le HJq.out.knod HJq.out.cons HJq.out.kok
          have hcells := (HFs.out.now.cells).2.1
          have HHI := hid hi
          have HHO := hid ho
          have HHC := hid hc
          clear hDs hTs hes hrows hsq hi hi' ho hc hcnt hob hcb
          by_cases h1 : o - 1 ≤ 1
          · have d1 : decide (o - 1 ≤ 1) = true := decide_eq_true h1
            cases hr : unitR K' c with
            | true =>
              have hJn := pj_unit HJq.out HHI.out rfl HHO.out HHC.out h1 hr
              have hln := lits_le hJn.knod hJn.cons hJn.kok
              have HJn := hid hJn
              have HR := hid hr
              clear hJn hr
              go_wp2_with fail
              refine (prop_unit S b vc _ bw bk bc (n + 1) (d + 1) C (withL C) es (O'.set j (o - 1)) K' c j true _ HHC.out HR.out (fun a ha => by have := HJq.out.cok c (List.mem_of_getElem? HHC.out) a ha; unfold LitOk at this; omega) (HCL.out c (List.mem_of_getElem? HHC.out)) HFs.out HDs.out (by omega)).mono ?_
              rintro e w5 ⟨rfl, h5, ht5⟩
              have HD5 := hid h5
              have HF5 := hid (HFs.out.next ht5)
              have HT5 := hid (HTs.out.trans ht5)
              clear h5 ht5
              go_wp2_with fail
              go_roundw
              case rel => exact ⟨m + 1, O'.set j (o - 1), unitK K' c, by simp, hml, HF5, HD5, HJn, HT5⟩
              case measure => simp [intOf]; omega
            | false =>
              have hbad := pj_bad HJq.out HHC.out hr
              have hul : unitK K' c = K' := by
                unfold unitK
                rw [List.find?_eq_none.2 (fun y hy => by have := List.any_eq_false.1 hr y hy; simpa using this)]
                rfl
              have HR := hid hr
              have HUL := hid hul
              have HB := hid hbad
              clear hr hul hbad
              go_wp2_with fail
              refine (prop_unit S b vc _ bw bk bc (n + 1) (d + 1) C (withL C) es (O'.set j (o - 1)) K' c j false _ HHC.out HR.out (fun a ha => by have := HJq.out.cok c (List.mem_of_getElem? HHC.out) a ha; unfold LitOk at this; omega) (HCL.out c (List.mem_of_getElem? HHC.out)) HFs.out HDs.out (by rw [HUL.out]; omega)).mono ?_
              rintro e w5 ⟨rfl, h5, ht5⟩
              have HT5 := hid (HTs.out.trans ht5)
              clear h5 ht5
              go_wp2_with fail
              go_ret
              exact ⟨HT5.out, .inr ⟨rfl, HB.out⟩⟩
          · have d1 : decide (o - 1 ≤ 1) = false := decide_eq_false h1
            have hJn := pj_open HJq.out HHI.out rfl HHO.out h1
            have HJn := hid hJn
            clear hJn
            go_wp2_with fail
            go_roundw
            case rel => exact ⟨m + 1, O'.set j (o - 1), K', by simp, hml, HFs, HDs, HJn, HTs⟩
            case measure => simp [intOf]; omega
        · have hJe := hid (pj_end HJq.out (by omega))
          have hKl := lits_le HJq.out.knod HJq.out.cons HJq.out.kok
          have hdl := HDq.out.le
          have hrq := hid (rcvd_dyn HDq.out)
          go_wp2_with fail
          refine ⟨⟨O', K', d + 1, HFq, HDq, hJe, HTq, ?_⟩, ?_⟩
          · repeat (apply Exists.intro)
            rfl
          · rw [hrq.out, HR0.out]
            omega
    · have hde2 : d = K.length := by omega
      have hd0 : decide ((0 : Int) < ((K.length - d : Nat) : Int)) = false := decide_eq_false (by omega)
      have hd0n : decide (0 < K.length - d) = false := decide_eq_false (by omega)
      have HCLO := hid (pi_closed HP.out (by omega))
      refine wpN_seq ?_
      go_wp2_with fail
      refine wpN_of_wp ?_
      go_wp2_with fail
      go_ret
      exact ⟨HT.out, .inl ⟨rfl, K, HCLO.out, HP.out.kok, HD.out.kn⟩⟩

end Go.Proofs.Ytfmahgobogelkaa.Ord

/- How prop's state lies in memory while Units builds it. -/
namespace Go.Proofs.Ytfmahgobogelkaa.Ord
open Go.RowKit Go.Conc

theorem own_frame0 {w w' : World} {B e s n : Nat} {v : Value} {xs : List Value} (h : w.ownsRow B e s v n xs) (hk : ∀ g, v.ownBlock = some g → w'.heap[g]? = w.heap[g]?) : w'.ownsRow B e s v n xs := by
  refine ⟨h.1, ?_⟩
  rcases h.2 with h0 | ⟨g, cap, cur, e1, e2, e3, e4⟩
  · exact .inl h0
  · exact .inr ⟨g, cap, cur, e1, e2, by rw [hk g (by rw [e1]; rfl)]; exact e3, e4⟩
theorem own_lenV' {w : World} {B e s n : Nat} {v : Value} {xs : List Value} (h : w.ownsRow B e s v n xs) : ∃ a c, v = .slice a n c := by
  rcases h.2 with ⟨rfl, rfl⟩ | ⟨g, cap, cur, rfl, _⟩
  · exact ⟨_, _, rfl⟩
  · exact ⟨_, _, rfl⟩
theorem own_slv {w : World} {B e n m c : Nat} {a : Option Addr} {xs : List Value} (h : w.ownsRow B e 1 (.slice a n c) m xs) : SlV w a xs := by
  obtain ⟨a', c', h1, -, -, h4⟩ := own_sl h
  injection h1 with h5
  rw [h5]
  exact h4
theorem own_zero {w : World} {B e n : Nat} {v : Value} {xs : List Value} (h : w.ownsRow B e 1 v n xs) : w.ownsRow 0 e 1 v n xs := ⟨h.1, h.2.imp_right fun ⟨g, cap, cur, e1, _, e3⟩ => ⟨g, cap, cur, e1, Nat.zero_le _, e3⟩⟩

theorem own_rebase {w : World} {B e n : Nat} {v : Value} {xs : List Value} (h : w.ownsRow 0 e 1 v n xs) (hB : ∀ g, v.ownBlock = some g → B ≤ g) : w.ownsRow B e 1 v n xs := ⟨h.1, h.2.imp_right fun ⟨g, cap, cur, e1, _, e3⟩ => ⟨g, cap, cur, e1, hB g (by rw [e1]; rfl), e3⟩⟩

theorem Touch.trans' {S T : Nat → Prop} {a b c : World} (h : Touch S a b) (k : Touch T b c) (hs : ∀ i, i < a.heap.size → T i → S i) : Touch S a c :=
  ⟨k.os.trans h.os, k.tape.trans h.tape, k.output.trans h.output, Nat.le_trans h.size k.size, fun i hi hn => (k.block i (by have := h.size; omega) (fun e => hn (hs i hi e))).trans (h.block i hi hn)⟩

/-- What a block of ints of the call's own is for. -/
inductive Tag where
  | cls
  | opn
  | wth (k : Int)

def nilS : Value := .slice none 0 0

/-- A clause's literals in a block that is for clauses. -/
def OwnTg (w : World) (tag : Nat → Tag) (u : Value) (xs : List Int) : Prop :=
  ∃ a c, u = .slice a xs.length c ∧ xs.length ≤ c ∧ (a = none → c = 0) ∧ ∀ ad, a = some ad → ∃ g off cur, ad = ⟨g, off, none⟩ ∧ tag g = .cls ∧ w.heap[g]? = some (.cells cur 3 (0, 0)) ∧ ∀ j x, xs[j]? = some x → cur[off + j]? = some (.int .i64 x)

theorem OwnTg.frame {w w' : World} {tag tag' : Nat → Tag} {u : Value} {xs : List Int} (h : OwnTg w tag u xs) (hk : ∀ g, g < w.heap.size → tag g = .cls → w'.heap[g]? = w.heap[g]? ∧ tag' g = .cls) : OwnTg w' tag' u xs := by
  obtain ⟨a, c, h1, h2, h3, h4⟩ := h
  refine ⟨a, c, h1, h2, h3, fun ad had => ?_⟩
  obtain ⟨g, off, cur, e1, e2, e3, e4⟩ := h4 ad had
  obtain ⟨q1, q2⟩ := hk g (Array.getElem?_eq_some_iff.1 e3).1 e2
  exact ⟨g, off, cur, e1, q2, q1.trans e3, e4⟩

theorem OwnTg.sli {w : World} {tag : Nat → Tag} {u : Value} {xs : List Int} (h : OwnTg w tag u xs) : SlI w u xs := by
  obtain ⟨a, c, h1, h2, h3, h4⟩ := h
  refine ⟨a, c, h1, h2, h3, fun j v hj => ?_⟩
  cases a with
  | none =>
    have h0 : xs = [] := List.length_eq_zero_iff.1 (by have := h3 rfl; omega)
    subst h0
    cases hj
  | some ad =>
    obtain ⟨g, off, cur, rfl, -, e3, e4⟩ := h4 ad rfl
    simp only [ints, List.getElem?_map, Option.map_eq_some_iff] at hj
    obtain ⟨x, hx, rfl⟩ := hj
    refine ⟨g, off, rfl, ?_⟩
    rw [cell_of_row _ _ _ _ _ _ e3]
    exact e4 j x hx

structure BSt (tag : Nat → Tag) (B : Nat) (w0 w : World) (bx : Nat) (vc vo : Value) (bw bk bc cap : Nat) (C : List (List Int)) (f : Int → List Int) (es : List (Int × Value)) (K : List Int) : Prop where
  bel : Below B w0 w
  le : B ≤ w.heap.size
  blk : w.heap[bx]? = some (.cells #[vc, vo, .map (some bw), .map (some bk), .chan (some bc)] 102)
  bxB : B ≤ bx
  cls : ∃ us, w.ownsRow B 22 1 vc C.length us ∧ ∀ (i : Nat) xs, C[i]? = some xs → ∃ u, us[i]? = some u ∧ OwnTg w tag u xs
  op : w.ownsRow B 3 1 vo C.length (ints (C.map fun c => (c.length : Int)))
  opt : ∀ g, vo.ownBlock = some g → tag g = .opn
  wi : IM w bw es
  wB : B ≤ bw
  wr : ∀ k, w.ownsRow B 3 1 ((aget es k).getD nilS) (f k).length (ints (f k))
  wt : ∀ k g, ((aget es k).getD nilS).ownBlock = some g → tag g = .wth k
  kn : IM w bk (kes K)
  kB : B ≤ bk
  ch : w.heap[bc]? = some (.chan cap (ints K).toArray false K.length 0 false)
  cB : B ≤ bc
  ne : bw ≠ bk

section
variable {tag : Nat → Tag} {B : Nat} {w0 w : World} {bx : Nat} {vc vo : Value} {bw bk bc cap : Nat} {C : List (List Int)} {f : Int → List Int} {es : List (Int × Value)} {K : List Int}

theorem own_cells {e n : Nat} {v : Value} {xs : List Value} (h : w.ownsRow B e 1 v n xs) {g : Nat} (hg : v.ownBlock = some g) : ∃ cur, w.heap[g]? = some (.cells cur e (0, 0)) := by
  rcases h.2 with ⟨rfl, _⟩ | ⟨g', cap', cur, rfl, _, hh, _⟩
  · cases hg
  · simp only [Value.ownBlock, Option.some.injEq] at hg
    subst hg
    exact ⟨cur, hh⟩

/-- All that was there is as it was. -/
theorem BSt.grow (h : BSt tag B w0 w bx vc vo bw bk bc cap C f es K) {w' : World} (hb : Below w.heap.size w w') {tag' : Nat → Tag} (ht : ∀ g, g < w.heap.size → tag' g = tag g) : BSt tag' B w0 w' bx vc vo bw bk bc cap C f es K := by
  have hf : ∀ k, k < w.heap.size → w'.heap[k]? = w.heap[k]? := fun k hk => hb.block k hk
  obtain ⟨us, hu1, hu2⟩ := h.cls
  refine ⟨h.bel.trans (hb.mono h.le), Nat.le_trans h.le hb.size, (hf bx (Array.getElem?_eq_some_iff.1 h.blk).1).trans h.blk, h.bxB, ⟨us, own_frame0 hu1 fun g hg => hf g (hu1.lt g hg).2, fun i xs hi => ?_⟩, own_frame0 h.op fun g hg => hf g (h.op.lt g hg).2, fun g hg => (ht g (h.op.lt g hg).2).trans (h.opt g hg), h.wi.frame (hf bw h.wi.lt), h.wB, fun k => own_frame0 (h.wr k) fun g hg => hf g ((h.wr k).lt g hg).2, fun k g hg => (ht g ((h.wr k).lt g hg).2).trans (h.wt k g hg), h.kn.frame (hf bk h.kn.lt), h.kB, (hf bc (Array.getElem?_eq_some_iff.1 h.ch).1).trans h.ch, h.cB, h.ne⟩
  obtain ⟨u, hu, ho⟩ := hu2 i xs hi
  exact ⟨u, hu, ho.frame fun g hg ht' => ⟨hf g hg, (ht g hg).trans ht'⟩⟩

theorem BSt.drewB (h : BSt tag B w0 w bx vc vo bw bk bc cap C f es K) : BSt tag B w0 w.drew bx vc vo bw bk bc cap C f es K := h.grow (below_dr (Below.refl _ _) 1) fun _ _ => rfl

/-- The blocks that set, unit and run write. -/
def wS (vo : Value) (bk bc k : Nat) : Prop := vo.ownBlock = some k ∨ k = bk ∨ k = bc

theorem BSt.notS (h : BSt tag B w0 w bx vc vo bw bk bc cap C f es K) : ¬ wS vo bk bc bx ∧ (∀ g, vc.ownBlock = some g → ¬ wS vo bk bc g) ∧ ¬ wS vo bk bc bw ∧ (∀ g, tag g = .cls → g < w.heap.size → (∃ cur, w.heap[g]? = some (.cells cur 3 (0, 0))) → ¬ wS vo bk bc g) ∧ ∀ k g, ((aget es k).getD nilS).ownBlock = some g → ¬ wS vo bk bc g := by
  obtain ⟨arrk, ck, hkm, -⟩ := h.kn
  obtain ⟨arrw, cw, hwm, -⟩ := h.wi
  obtain ⟨us, hu1, hu2⟩ := h.cls
  have hvo : ∀ g, vo.ownBlock = some g → ∃ cur, w.heap[g]? = some (.cells cur 3 (0, 0)) := fun g hg => own_cells h.op hg
  refine ⟨?_, fun g hg => ?_, ?_, fun g ht hl hc => ?_, fun k g hg => ?_⟩
  · rintro (e | e | e)
    · obtain ⟨cur, hc⟩ := hvo _ e; rw [h.blk] at hc; simp at hc
    · rw [← e, h.blk] at hkm; cases hkm
    · have := h.ch; rw [← e, h.blk] at this; cases this
  · obtain ⟨cur, hc⟩ := own_cells hu1 hg
    rintro (e | e | e)
    · obtain ⟨cur2, hc2⟩ := hvo _ e; rw [hc] at hc2; simp at hc2
    · rw [← e, hc] at hkm; cases hkm
    · have := h.ch; rw [← e, hc] at this; cases this
  · rintro (e | e | e)
    · obtain ⟨cur2, hc2⟩ := hvo _ e; rw [hwm] at hc2; cases hc2
    · exact h.ne e
    · have := h.ch; rw [← e, hwm] at this; cases this
  · obtain ⟨cur, hc⟩ := hc
    rintro (e | e | e)
    · have := h.opt g e; rw [ht] at this; cases this
    · rw [← e, hc] at hkm; cases hkm
    · have := h.ch; rw [← e, hc] at this; cases this
  · obtain ⟨cur, hc⟩ := own_cells (h.wr k) hg
    have ht := h.wt k g hg
    rintro (e | e | e)
    · have := h.opt g e; rw [ht] at this; cases this
    · rw [← e, hc] at hkm; cases hkm
    · have := h.ch; rw [← e, hc] at this; cases this

theorem BSt.fix (h : BSt tag B w0 w bx vc vo bw bk bc cap C f es K) : Fix (wS vo bk bc) w bx vc vo bw bk bc C f es := fun w' ht => by
  obtain ⟨n1, n2, n3, n4, n5⟩ := h.notS
  obtain ⟨us, hu1, hu2⟩ := h.cls
  refine ⟨(ht.block bx (Array.getElem?_eq_some_iff.1 h.blk).1 n1).trans h.blk, ?_, h.wi.frame (ht.block bw h.wi.lt n3), fun k => ?_⟩
  · have hu1' : w'.ownsRow B 22 1 vc C.length us := own_frame0 hu1 fun g hg => ht.block g (hu1.lt g hg).2 (n2 g hg)
    obtain ⟨a, c, rfl⟩ := own_lenV' hu1
    refine ⟨a, c, rfl, fun i xs hi => ?_⟩
    obtain ⟨u, hu, ho⟩ := hu2 i xs hi
    obtain ⟨g, o, he, hc⟩ := (own_slv hu1') i u hu
    have ho' : OwnTg w' tag u xs := by
      obtain ⟨a, c, h1, h2, h3, h4⟩ := ho
      refine ⟨a, c, h1, h2, h3, fun ad had => ?_⟩
      obtain ⟨g, off, cur, e1, e2, e3, e4⟩ := h4 ad had
      exact ⟨g, off, cur, e1, e2, (ht.block g (Array.getElem?_eq_some_iff.1 e3).1 (n4 g e2 (Array.getElem?_eq_some_iff.1 e3).1 ⟨cur, e3⟩)).trans e3, e4⟩
    exact ⟨g, o, u, he, hc, ho'.sli⟩
  · exact own_sli (own_frame0 (h.wr k) fun g hg => ht.block g ((h.wr k).lt g hg).2 (n5 k g hg))

theorem BSt.dyn (h : BSt tag B w0 w bx vc vo bw bk bc cap C f es K) : Dyn (wS vo bk bc) w vo bk bc cap (C.map fun c => (c.length : Int)) K 0 :=
  ⟨by have := h.op; unfold Rw; rw [List.length_map]; exact own_zero this, h.kn, h.ch, fun k hk => .inl hk, .inr (.inl rfl), .inr (.inr rfl), Nat.zero_le _⟩

/-- What set did. -/
theorem BSt.set (h : BSt tag B w0 w bx vc vo bw bk bc cap C f es K) {w' : World} {K' : List Int} (hD : Dyn (wS vo bk bc) w' vo bk bc cap (C.map fun c => (c.length : Int)) K' 0) (ht : Touch (wS vo bk bc) w w') : BSt tag B w0 w' bx vc vo bw bk bc cap C f es K' := by
  obtain ⟨n1, n2, n3, n4, n5⟩ := h.notS
  obtain ⟨us, hu1, hu2⟩ := h.cls
  have hO : w'.ownsRow B 3 1 vo C.length (ints (C.map fun c => (c.length : Int))) := by
    have := hD.op
    unfold Rw at this
    rw [List.length_map] at this
    exact own_rebase this fun g hg => (h.op.lt g hg).1
  have hlow : ∀ k, wS vo bk bc k → B ≤ k := by
    rintro k (e | e | e)
    · exact (h.op.lt k e).1
    · rw [e]; exact h.kB
    · rw [e]; exact h.cB
  refine ⟨h.bel.trans (ht.below h.le hlow), Nat.le_trans h.le ht.size, (ht.block bx (Array.getElem?_eq_some_iff.1 h.blk).1 n1).trans h.blk, h.bxB, ⟨us, own_frame0 hu1 fun g hg => ht.block g (hu1.lt g hg).2 (n2 g hg), fun i xs hi => ?_⟩, hO, h.opt, h.wi.frame (ht.block bw h.wi.lt n3), h.wB, fun k => own_frame0 (h.wr k) fun g hg => ht.block g ((h.wr k).lt g hg).2 (n5 k g hg), h.wt, hD.kn, h.kB, hD.ch, h.cB, h.ne⟩
  obtain ⟨u, hu, ho⟩ := hu2 i xs hi
  obtain ⟨a, c, h1, h2, h3, h4⟩ := ho
  refine ⟨u, hu, a, c, h1, h2, h3, fun ad had => ?_⟩
  obtain ⟨g, off, cur, e1, e2, e3, e4⟩ := h4 ad had
  exact ⟨g, off, cur, e1, e2, (ht.block g (Array.getElem?_eq_some_iff.1 e3).1 (n4 g e2 (Array.getElem?_eq_some_iff.1 e3).1 ⟨cur, e3⟩)).trans e3, e4⟩

end

/-- append of one element that was laid into a block of its own, as a step of a region whose order is open. -/
theorem step_append_at1 {P : Program} {w : World} {ops : Array Oper} {o : Oper} {a : Act} {K : Act → World → Prop} {Q : Exit → Act → World → Prop} {E : Prop} (hgd : o.guard = none) (s x : Operand) (t : TypeId)
    (ho : o.op = .call { callee := .builtin .append, args := #[s, x], argTypes := #[t, t] })
    (base : Nat) (e : TypeId) (i : TypeInfo) (z : Value) (bytes : Nat) (ht : P.underlying t = some (.slice e)) (hi : P.info? e = some i) (hz : i.zero = some z)
    (hsize : i.size = 1) (hby : i.bytes = bytes) (hzs : z.cells.size = 1)
    (v : Value) (n : Nat) (xs : List Value) (hs : a.eval s = v) (hown : w.ownsRow base e 1 v n xs)
    (g : Nat) (u : Value) (hx : a.eval x = .slice (some ⟨g, 0, none⟩) 1 1) (hc : w.heap[g]? = some (.cells #[u] e (0, 0))) (h1 : u.oneCell' = true)
    (h63 : n + 1 ≤ maxLen) (hbytes : (n + 1) * bytes ≤ 140737488355328) (hbase : base ≤ w.heap.size)
    (h : ∀ v' w', w'.ownsRow base e 1 v' (n + 1) (xs ++ [u]) → w.grownBy w' v.ownBlock → (v'.ownBlock = v.ownBlock ∨ v'.ownBlock = some w.heap.size) → K (a.put o.dst v') w') :
    if Region.wanted o (yielded ops a.tmps) = true then Oper.wp P o a w K Q else E := by
  have hw : Region.wanted o (yielded ops a.tmps) = true := by simp [Region.wanted, hgd]
  rw [if_pos hw]
  have hnews : ∀ j y, [u][j]? = some y → w.cell? ((⟨g, 0, none⟩ : Addr).add j) = some y := by
    intro j y hj
    match j, hj with
    | 0, hj =>
      simp at hj
      subst hj
      show w.cell? ⟨g, 0, none⟩ = _
      rw [cell_of_row _ _ _ _ _ _ hc]
      simp
  obtain ⟨v', w', hr, h2, h3, -, h4⟩ := run_append_own_at (P := P) w base t o.type e i z 1 bytes ht hi hz hsize hby hzs (by decide) v n xs hown ⟨g, 0, none⟩ 1 1 [u] rfl hnews (by intro y hy; simp at hy; rw [hy]; exact h1) h63 hbytes hbase
  unfold Oper.wp execOp
  simp only [ho, resolve, invoke, builtin, Sem.run_bind, Sem.run_pure, Result.andThen_ok, List.map_toArray, List.map_cons, List.map_nil, hs, hx, hr]
  exact h v' w' h2 h3 h4

section
variable {tag : Nat → Tag} {B : Nat} {w0 w : World} {bx : Nat} {vc vo : Value} {bw bk bc cap : Nat} {C : List (List Int)} {f : Int → List Int} {es : List (Int × Value)} {K : List Int}

theorem setCells2 {w : World} {b : Nat} {e : TypeId} {x0 x1 x2 x3 x4 y0 y1 : Value} (h : w.heap[b]? = some (.cells #[x0, x1, x2, x3, x4] e (0, 0))) :
    ((w.setCell ⟨b, 0, none⟩ y0).setCell ⟨b, 1, none⟩ y1).heap[b]? = some (.cells #[y0, y1, x2, x3, x4] e (0, 0)) := by
  have h1 := setCell_block (o := 0) y0 (xs := [x0, x1, x2, x3, x4]) h
  have h2 := setCell_block (o := 1) y1 (xs := [y0, x1, x2, x3, x4]) h1
  exact h2

/-- A clause came in. -/
theorem BSt.add (h : BSt tag B w0 w bx vc vo bw bk bc cap C f es K) {l : List Int} {u : Value} (hu : OwnTg w tag u l) {us : List Value} (hu1 : w.ownsRow B 22 1 vc C.length us) (hu2 : ∀ (i : Nat) xs, C[i]? = some xs → ∃ u, us[i]? = some u ∧ OwnTg w tag u xs)
    {w9 : World} {v8 v9 : Value} (ht : Touch (fun k => vc.ownBlock = some k ∨ vo.ownBlock = some k) w w9) (h8 : w9.ownsRow B 22 1 v8 (C.length + 1) (us ++ [u])) (h9 : w9.ownsRow B 3 1 v9 (C.length + 1) (ints (C.map fun c => (c.length : Int)) ++ [.int .i64 (l.length : Int)]))
    (a9 : v9.ownBlock = vo.ownBlock ∨ ∃ g, v9.ownBlock = some g ∧ w.heap.size ≤ g) :
    BSt (fun g => if g < w.heap.size then tag g else .opn) B w0 ((w9.setCell ⟨bx, 0, none⟩ v8).setCell ⟨bx, 1, none⟩ v9) bx v8 v9 bw bk bc cap (C ++ [l]) f es K ∧ OwnTg ((w9.setCell ⟨bx, 0, none⟩ v8).setCell ⟨bx, 1, none⟩ v9) (fun g => if g < w.heap.size then tag g else .opn) u l := by
  have hbxl := (Array.getElem?_eq_some_iff.1 h.blk).1
  obtain ⟨n1, n2, n3, n4, n5⟩ := h.notS
  have htT : ∀ g, g < w.heap.size → (if g < w.heap.size then tag g else .opn) = tag g := fun g hg => by rw [if_pos hg]
  obtain ⟨arrk, ck, hkm, -⟩ := h.kn
  obtain ⟨arrw, cw, hwm, -⟩ := h.wi
  have hbv : ¬ (vc.ownBlock = some bx ∨ vo.ownBlock = some bx) := by
    rintro (e | e)
    · obtain ⟨cur, hc⟩ := own_cells hu1 e; rw [h.blk] at hc; simp at hc
    · exact n1 (.inl e)
  have hb9 : w9.heap[bx]? = some (.cells #[vc, vo, .map (some bw), .map (some bk), .chan (some bc)] 102) := (ht.block bx hbxl hbv).trans h.blk
  have hset : ∀ k, k ≠ bx → ((w9.setCell ⟨bx, 0, none⟩ v8).setCell ⟨bx, 1, none⟩ v9).heap[k]? = w9.heap[k]? := fun k hk => (Below.heap_setCell _ ⟨bx, 1, none⟩ v9 k hk).trans (Below.heap_setCell _ ⟨bx, 0, none⟩ v8 k hk)
  have hT : Touch (fun k => k = bx ∨ vc.ownBlock = some k ∨ vo.ownBlock = some k) w ((w9.setCell ⟨bx, 0, none⟩ v8).setCell ⟨bx, 1, none⟩ v9) :=
    ((ht.mono fun k _ hk => .inr hk).setCell (p := ⟨bx, 0, none⟩) (.inl rfl) v8).setCell (p := ⟨bx, 1, none⟩) (.inl rfl) v9
  have hlow : ∀ k, (k = bx ∨ vc.ownBlock = some k ∨ vo.ownBlock = some k) → B ≤ k := by
    rintro k (e | e | e)
    · rw [e]; exact h.bxB
    · exact (hu1.lt k e).1
    · exact (h.op.lt k e).1
  have hblk : ∀ k, k < w.heap.size → k ≠ bx → vc.ownBlock ≠ some k → vo.ownBlock ≠ some k → ((w9.setCell ⟨bx, 0, none⟩ v8).setCell ⟨bx, 1, none⟩ v9).heap[k]? = w.heap[k]? := fun k hk h1 h2 h3 =>
    hT.block k hk (by rintro (e | e | e); exact h1 e; exact h2 e; exact h3 e)
  have hint : ∀ g cur, w.heap[g]? = some (.cells cur 3 (0, 0)) → g ≠ bx ∧ vc.ownBlock ≠ some g := fun g cur hg =>
    ⟨fun e => by rw [e, h.blk] at hg; simp at hg, fun e => by obtain ⟨c2, hc2⟩ := own_cells hu1 e; rw [hg] at hc2; simp at hc2⟩
  have hO : ∀ {u : Value} {xs : List Int}, OwnTg w tag u xs → OwnTg ((w9.setCell ⟨bx, 0, none⟩ v8).setCell ⟨bx, 1, none⟩ v9) (fun g => if g < w.heap.size then tag g else .opn) u xs := fun {u xs} ho => by
    obtain ⟨a, c, h1, h2, h3, h4⟩ := ho
    refine ⟨a, c, h1, h2, h3, fun ad had => ?_⟩
    obtain ⟨g, off, cur, e1, e2, e3, e4⟩ := h4 ad had
    have hl := (Array.getElem?_eq_some_iff.1 e3).1
    exact ⟨g, off, cur, e1, by show (if g < w.heap.size then tag g else .opn) = .cls; rw [if_pos hl]; exact e2, (hblk g hl (hint g cur e3).1 (hint g cur e3).2 (fun e => by have := h.opt g e; rw [e2] at this; cases this)).trans e3, e4⟩
  have hne8 : ∀ g, v8.ownBlock = some g → g ≠ bx := fun g hg e => by
    obtain ⟨cur, hc⟩ := own_cells h8 hg; rw [e, hb9] at hc; simp at hc
  have hne9 : ∀ g, v9.ownBlock = some g → g ≠ bx := fun g hg e => by
    obtain ⟨cur, hc⟩ := own_cells h9 hg; rw [e, hb9] at hc; simp at hc
  refine ⟨?_, hO hu⟩
  refine ⟨h.bel.trans (hT.below h.le hlow), Nat.le_trans h.le hT.size, setCells2 hb9, h.bxB, ⟨us ++ [u], ?_, fun i xs hi => ?_⟩, ?_, fun g hg => ?_, h.wi.frame (hblk bw h.wi.lt (fun e => by rw [e, h.blk] at hwm; cases hwm) (fun e => by obtain ⟨c2, hc2⟩ := own_cells hu1 e; rw [hwm] at hc2; cases hc2) (fun e => n3 (.inl e))), h.wB, fun k => own_frame0 (h.wr k) fun g hg => ?_, fun k g hg => ?_, h.kn.frame (hblk bk h.kn.lt (fun e => by rw [e, h.blk] at hkm; cases hkm) (fun e => by obtain ⟨c2, hc2⟩ := own_cells hu1 e; rw [hkm] at hc2; cases hc2) (fun e => by obtain ⟨c2, hc2⟩ := own_cells h.op e; rw [hkm] at hc2; cases hc2)), h.kB, (hblk bc (Array.getElem?_eq_some_iff.1 h.ch).1 (fun e => by have := h.ch; rw [e, h.blk] at this; cases this) (fun e => by obtain ⟨c2, hc2⟩ := own_cells hu1 e; rw [h.ch] at hc2; cases hc2) (fun e => by obtain ⟨c2, hc2⟩ := own_cells h.op e; rw [h.ch] at hc2; cases hc2)).trans h.ch, h.cB, h.ne⟩
  · rw [List.length_append, List.length_singleton]
    exact own_frame0 h8 fun g hg => hset g (hne8 g hg)
  · have hul : us.length = C.length := by have := hu1.1; omega
    by_cases hlt : i < C.length
    · rw [List.getElem?_append_left hlt] at hi
      obtain ⟨u', hu', ho'⟩ := hu2 i xs hi
      exact ⟨u', by rw [List.getElem?_append_left (by omega)]; exact hu', hO ho'⟩
    · have hie : i = C.length := by
        have := (List.getElem?_eq_some_iff.1 hi).1
        simp at this
        omega
      subst hie
      simp at hi
      subst hi
      exact ⟨u, by rw [← hul]; simp, hO hu⟩
  · rw [List.map_append, ints_append, List.length_append, List.length_singleton]
    exact own_frame0 h9 fun g hg => hset g (hne9 g hg)
  · rcases a9 with e | ⟨g', e, hge⟩
    · rw [e] at hg
      show (if g < w.heap.size then tag g else .opn) = .opn
      rw [if_pos (h.op.lt g hg).2]
      exact h.opt g hg
    · rw [e] at hg
      injection hg with hg
      show (if g < w.heap.size then tag g else .opn) = .opn
      rw [if_neg (by omega)]
  · obtain ⟨cur, hc⟩ := own_cells (h.wr k) hg
    exact hblk g ((h.wr k).lt g hg).2 (hint g cur hc).1 (hint g cur hc).2 (fun e => n5 k g hg (.inl e))
  · show (if g < w.heap.size then tag g else .opn) = .wth k
    rw [if_pos ((h.wr k).lt g hg).2]
    exact h.wt k g hg

/-- An index came in under a literal. -/
theorem BSt.wth (h : BSt tag B w0 w bx vc vo bw bk bc cap C f es K) {a i : Int} {w2 w3 : World} {v' : Value} (happ : Touch (fun k => ((aget es a).getD nilS).ownBlock = some k) w w2) (h8 : w2.ownsRow B 3 1 v' ((f a).length + 1) (ints (f a) ++ [.int .i64 i]))
    (a8 : v'.ownBlock = ((aget es a).getD nilS).ownBlock ∨ ∃ g, v'.ownBlock = some g ∧ w.heap.size ≤ g) (hup : IM w3 bw (aput es a v')) (ht : Touch (fun k => k = bw) w2 w3) :
    BSt (fun g => if g < w.heap.size then tag g else .wth a) B w0 w3 bx vc vo bw bk bc cap C (fun k => if k = a then f a ++ [i] else f k) (aput es a v') K ∧ ∀ u xs, OwnTg w tag u xs → OwnTg w3 (fun g => if g < w.heap.size then tag g else .wth a) u xs := by
  obtain ⟨n1, n2, n3, n4, n5⟩ := h.notS
  obtain ⟨us, hu1, hu2⟩ := h.cls
  obtain ⟨arrk, ck, hkm, -⟩ := h.kn
  obtain ⟨arrw, cw, hwm, -⟩ := h.wi
  have hT : Touch (fun k => k = bw ∨ ((aget es a).getD nilS).ownBlock = some k) w w3 := (happ.mono fun k _ hk => .inr hk).trans' ht fun k _ hk => .inl hk
  have hwv : ∀ g, ((aget es a).getD nilS).ownBlock = some g → ∃ cur, w.heap[g]? = some (.cells cur 3 (0, 0)) := fun g hg => own_cells (h.wr a) hg
  have hblk : ∀ k, k < w.heap.size → k ≠ bw → ((aget es a).getD nilS).ownBlock ≠ some k → w3.heap[k]? = w.heap[k]? := fun k hk h1 h2 => hT.block k hk (by rintro (e | e); exact h1 e; exact h2 e)
  have hcw : ∀ g cur e m, w.heap[g]? = some (.cells cur e m) → g ≠ bw := fun g cur e m hg e2 => by rw [e2, hwm] at hg; cases hg
  have hlow : ∀ k, (k = bw ∨ ((aget es a).getD nilS).ownBlock = some k) → B ≤ k := by
    rintro k (e | e)
    · rw [e]; exact h.wB
    · exact ((h.wr a).lt k e).1
  have hn := h.wi.nodup
  have hOO : ∀ u xs, OwnTg w tag u xs → OwnTg w3 (fun g => if g < w.heap.size then tag g else .wth a) u xs := fun u xs ho => by
    obtain ⟨ad0, c, h1, h2, h3, h4⟩ := ho
    refine ⟨ad0, c, h1, h2, h3, fun ad had => ?_⟩
    obtain ⟨g, off, cur, e1, e2, e3, e4⟩ := h4 ad had
    have hl := (Array.getElem?_eq_some_iff.1 e3).1
    exact ⟨g, off, cur, e1, by show (if g < w.heap.size then tag g else .wth a) = .cls; rw [if_pos hl]; exact e2, (hblk g hl (hcw _ _ _ _ e3) (fun e => by have := h.wt a g e; rw [e2] at this; cases this)).trans e3, e4⟩
  refine ⟨?_, hOO⟩
  refine ⟨h.bel.trans (hT.below h.le hlow), Nat.le_trans h.le hT.size, (hblk bx (Array.getElem?_eq_some_iff.1 h.blk).1 (hcw _ _ _ _ h.blk) (fun e => by obtain ⟨c, hc⟩ := hwv _ e; rw [h.blk] at hc; simp at hc)).trans h.blk, h.bxB, ⟨us, own_frame0 hu1 fun g hg => ?_, fun j xs hj => ?_⟩, own_frame0 h.op fun g hg => ?_, fun g hg => ?_, hup, h.wB, fun k => ?_, fun k g hg => ?_, h.kn.frame (hblk bk h.kn.lt (fun e => h.ne e.symm) (fun e => by obtain ⟨c, hc⟩ := hwv _ e; rw [hkm] at hc; cases hc)), h.kB, (hblk bc (Array.getElem?_eq_some_iff.1 h.ch).1 (fun e => by have := h.ch; rw [e, hwm] at this; cases this) (fun e => by obtain ⟨c, hc⟩ := hwv _ e; rw [h.ch] at hc; cases hc)).trans h.ch, h.cB, h.ne⟩
  · obtain ⟨cur, hc⟩ := own_cells hu1 hg
    exact hblk g (hu1.lt g hg).2 (hcw _ _ _ _ hc) (fun e => by obtain ⟨c2, hc2⟩ := hwv _ e; rw [hc] at hc2; simp at hc2)
  · obtain ⟨u, hu, ho⟩ := hu2 j xs hj
    exact ⟨u, hu, hOO u xs ho⟩
  · obtain ⟨cur, hc⟩ := own_cells h.op hg
    exact hblk g (h.op.lt g hg).2 (hcw _ _ _ _ hc) (fun e => by have h1 := h.wt a g e; rw [h.opt g hg] at h1; cases h1)
  · show (if g < w.heap.size then tag g else .wth a) = .opn
    rw [if_pos (h.op.lt g hg).2]; exact h.opt g hg
  · by_cases hk : k = a
    · subst hk
      simp only [if_true]
      rw [aget_aput_same hn, Option.getD_some, List.length_append, List.length_singleton, ints_append]
      refine own_frame0 h8 fun g hg => ht.block g (h8.lt g hg).2 (fun e => ?_)
      have hbw2 : w2.heap[bw]? = w.heap[bw]? := happ.block bw h.wi.lt (fun e => by obtain ⟨c, hc⟩ := hwv _ e; rw [hwm] at hc; cases hc)
      obtain ⟨cur, hc⟩ := own_cells h8 hg
      rw [e, hbw2, hwm] at hc
      cases hc
    · simp only [hk, if_false]
      rw [aget_aput_other hk]
      refine own_frame0 (h.wr k) fun g hg => ?_
      obtain ⟨cur, hc⟩ := own_cells (h.wr k) hg
      exact hblk g ((h.wr k).lt g hg).2 (hcw _ _ _ _ hc) (fun e => by have h1 := h.wt a g e; rw [h.wt k g hg] at h1; injection h1 with h1; exact hk h1)
  · by_cases hk : k = a
    · subst hk
      rw [aget_aput_same hn, Option.getD_some] at hg
      show (if g < w.heap.size then tag g else .wth k) = .wth k
      rcases a8 with e | ⟨g', e, hge⟩
      · rw [e] at hg
        rw [if_pos ((h.wr k).lt g hg).2]; exact h.wt k g hg
      · rw [e] at hg
        injection hg with hg
        rw [if_neg (by omega)]
    · rw [aget_aput_other hk] at hg
      show (if g < w.heap.size then tag g else .wth a) = .wth k
      rw [if_pos ((h.wr k).lt g hg).2]; exact h.wt k g hg

theorem BSt.touchB (h : BSt tag B w0 w bx vc vo bw bk bc cap C f es K) {w' : World} (ht : Touch (wS vo bk bc) w w') : Below B w0 w' :=
  h.bel.trans (ht.below h.le fun k hk => by
    rcases hk with e | e | e
    · exact (h.op.lt k e).1
    · rw [e]; exact h.kB
    · rw [e]; exact h.cB)

end

theorem blk_new2 (w : World) (a b : Obj) : ((w.alloc a).alloc b).heap[w.heap.size + 1]? = some b := by
  have e1 : ((w.alloc a).alloc b).heap = (w.heap.push a).push b := rfl
  rw [e1, Array.getElem?_push, if_pos (by simp)]
theorem blk_old2 (w : World) (a b : Obj) : ((w.alloc a).alloc b).heap[w.heap.size]? = some a := by
  have e1 : ((w.alloc a).alloc b).heap = (w.heap.push a).push b := rfl
  rw [e1, Array.getElem?_push, if_neg (by simp), Array.getElem?_push, if_pos rfl]

/-- What stands under each literal behind m literals of the clause l. -/
def withM (C : List (List Int)) (l : List Int) (m : Nat) (k : Int) : List Int := withL C k ++ if k ∈ l.take m then [(C.length : Int)] else []

theorem withM_zero (C : List (List Int)) (l : List Int) : withM C l 0 = withL C := by funext k; simp [withM]
theorem withM_done (C : List (List Int)) (l : List Int) {m : Nat} (h : l.length ≤ m) : withM C l m = withL (C ++ [l]) := by
  funext k
  unfold withM
  rw [List.take_of_length_le h, withL_snoc]
theorem withM_step {C : List (List Int)} {l : List Int} (hn : l.Nodup) {m : Nat} {a : Int} (ha : l[m]? = some a) : (fun k => if k = a then withM C l m a ++ [(C.length : Int)] else withM C l m k) = withM C l (m + 1) := by
  funext k
  obtain ⟨hm, hae⟩ := List.getElem?_eq_some_iff.1 ha
  have hna : a ∉ l.take m := fun hin => by
    obtain ⟨x, hx, he⟩ := List.mem_iff_getElem.1 hin
    simp at hx
    rw [List.getElem_take] at he
    exact (List.pairwise_iff_getElem.1 hn) x m (by omega) hm (by omega) (by rw [he, hae])
  unfold withM
  by_cases hk : k = a
  · subst hk
    rw [if_pos rfl, if_neg hna, if_pos (by rw [List.take_add_one, ha]; simp)]
    simp
  · rw [if_neg hk]
    have e : (k ∈ l.take (m + 1)) ↔ k ∈ l.take m := by rw [List.take_add_one, ha]; simp [hk]
    simp [e]

/-- The state as it is made. -/
theorem bst_new (w1 w2 : World) (cap : Nat) (h : (((w1.alloc (.map #[] 0)).alloc (.map #[] 0)).alloc (.chan cap #[] false 0 0 false)).alloc (.cells #[nilS, nilS, .map (some w1.heap.size), .map (some (w1.heap.size + 1)), .chan (some (w1.heap.size + 1 + 1))] 102) = w2) :
    BSt (fun _ => .cls) w1.heap.size w1 w2 (w1.heap.size + 1 + 1 + 1) nilS nilS w1.heap.size (w1.heap.size + 1) (w1.heap.size + 1 + 1) cap [] (fun _ => []) [] [] := by
  subst h
  have e1 : ((((w1.alloc (.map #[] 0)).alloc (.map #[] 0)).alloc (.chan cap #[] false 0 0 false)).alloc (.cells #[nilS, nilS, .map (some w1.heap.size), .map (some (w1.heap.size + 1)), .chan (some (w1.heap.size + 1 + 1))] 102)).heap = ((((w1.heap.push (.map #[] 0)).push (.map #[] 0)).push (.chan cap #[] false 0 0 false)).push (.cells #[nilS, nilS, .map (some w1.heap.size), .map (some (w1.heap.size + 1)), .chan (some (w1.heap.size + 1 + 1))] 102)) := rfl
  have hbel : Below w1.heap.size w1 ((((w1.alloc (.map #[] 0)).alloc (.map #[] 0)).alloc (.chan cap #[] false 0 0 false)).alloc (.cells #[nilS, nilS, .map (some w1.heap.size), .map (some (w1.heap.size + 1)), .chan (some (w1.heap.size + 1 + 1))] 102)) :=
    ((((Below.refl _ w1).alloc (Nat.le_refl _) _).alloc (by simp) _).alloc (by simp <;> omega) _).alloc (by simp <;> omega) _
  refine ⟨hbel, by rw [e1]; simp <;> omega, ?_, by omega, ⟨[], World.ownsRow_nil _ _ _ _, (fun i xs hi => (by cases hi))⟩, World.ownsRow_nil _ _ _ _, (fun g hg => (by cases hg)), ⟨#[], 0, ?_, MapKept.stamped_empty 0, rfl⟩, Nat.le_refl _, fun k => World.ownsRow_nil _ _ _ _, (fun k g hg => (by cases hg)), ⟨#[], 0, ?_, MapKept.stamped_empty 0, rfl⟩, by omega, ?_, by omega, by omega⟩
  · rw [e1, Array.getElem?_push, if_pos (by simp)]
  · rw [e1]
    rw [Array.getElem?_push, if_neg (by simp <;> omega), Array.getElem?_push, if_neg (by simp <;> omega), Array.getElem?_push, if_neg (by simp), Array.getElem?_push, if_pos rfl]
  · rw [e1]
    rw [Array.getElem?_push, if_neg (by simp <;> omega), Array.getElem?_push, if_neg (by simp), Array.getElem?_push, if_pos (by simp)]
  · rw [e1]
    rw [Array.getElem?_push, if_neg (by simp), Array.getElem?_push, if_pos (by simp)]
    rfl

end Go.Proofs.Ytfmahgobogelkaa.Ord

/- Plain definitions and lemmas about literals and clauses: no program in sight. -/
namespace Go.Proofs.Ytfmahgobogelkaa
open Go.RowKit

theorem take_any_succ {α : Type} {p : α → Bool} {xs : List α} {k : Nat} {x : α} (h : xs[k]? = some x) (ha : (xs.take k).any p = false) (hp : p x = false) :
    (xs.take (k + 1)).any p = false := by
  rw [List.take_add_one, h]
  simp only [List.any_append, ha, Bool.false_or]
  simp [hp]

theorem any_of_get {α : Type} {p : α → Bool} {xs : List α} {k : Nat} {x : α} (h : xs[k]? = some x) (hp : p x = true) : xs.any p = true :=
  List.any_eq_true.2 ⟨x, List.mem_of_getElem? h, hp⟩

theorem take_all_false {α : Type} {p : α → Bool} {xs : List α} {k : Nat} (hk : ¬ k < xs.length) (ha : (xs.take k).any p = false) : xs.any p = false := by
  rwa [List.take_of_length_le (by omega)] at ha

/-- lit.Less. -/
def lessB (a b : Int) : Bool := decide (a.natAbs < b.natAbs) || (a.natAbs == b.natAbs && decide (b < a))

/-- A number is no literal of n variables. -/
def badLit (n a : Int) : Bool := a == 0 || decide (n < a.natAbs)

/-- lit.Check: the error of a clause. -/
def litCheck (n : Int) (c : List Int) : Int :=
  if n < 0 ∨ 1048576 < n then 3 else if 4096 < c.length then 5 else if c.any (badLit n) then 3 else 0

theorem litCheck_range {n : Int} {c : List Int} (h : n < 0 ∨ 1048576 < n) : litCheck n c = 3 := by simp [litCheck, h]
theorem litCheck_long {n : Int} {c : List Int} (h : 0 ≤ n ∧ n ≤ 1048576) (hl : (4096 : Int) < c.length) : litCheck n c = 5 := by
  unfold litCheck; rw [if_neg (by omega), if_pos (by omega)]
theorem litCheck_bad {n : Int} {c : List Int} (h : 0 ≤ n ∧ n ≤ 1048576) (hl : (c.length : Int) ≤ 4096) (hb : c.any (badLit n) = true) : litCheck n c = 3 := by
  unfold litCheck; rw [if_neg (by omega), if_neg (by omega), if_pos hb]
theorem litCheck_ok {n : Int} {c : List Int} (h : 0 ≤ n ∧ n ≤ 1048576) (hl : (c.length : Int) ≤ 4096) (hb : c.any (badLit n) = false) : litCheck n c = 0 := by
  unfold litCheck; rw [if_neg (by omega), if_neg (by omega), if_neg (by simp [hb])]

/-- The literal a holds in the model m. -/
def litHolds (m : List Bool) (a : Int) : Bool := decide (0 < a.natAbs) && m[a.natAbs - 1]? == some (decide (0 < a))

theorem litHolds_zero {m : List Bool} {a : Int} (h : a = 0) : litHolds m a = false := by simp [litHolds, h]
theorem litHolds_out {m : List Bool} {a : Int} (h : m.length < a.natAbs) : litHolds m a = false := by
  have : m[a.natAbs - 1]? = none := by simp; omega
  simp [litHolds, this]
theorem litHolds_in {m : List Bool} {a : Int} {x : Bool} (h : 0 < a.natAbs) (hx : m[a.natAbs - 1]? = some x) : litHolds m a = (x == decide (0 < a)) := by
  have ha : a ≠ 0 := by omega
  simp [litHolds, hx, ha]

/-- lit.Holds. -/
def holdsB (m : List Bool) (c : List Int) : Bool := c.any (litHolds m)

/-- lit.sorted's merge: two ascending lists into one, equal elements once. -/
def mrg : List Int → List Int → List Int
  | [], bs => bs
  | a :: as1, [] => a :: as1
  | a :: as1, b :: bs =>
    if lessB a b then a :: mrg as1 (b :: bs) else if lessB b a then b :: mrg (a :: as1) bs else mrg as1 (b :: bs)
termination_by as1 bs => as1.length + bs.length

/-- lit.sorted, with so many levels of recursion. -/
def msort : Nat → List Int → List Int
  | 0, xs => xs
  | n + 1, xs => if xs.length < 2 then xs else mrg (msort n (xs.take (xs.length / 2))) (msort n (xs.drop (xs.length / 2)))

theorem mrg_nil_left (bs : List Int) : mrg [] bs = bs := by rw [mrg.eq_def]
theorem mrg_nil_right (as1 : List Int) : mrg as1 [] = as1 := by rw [mrg.eq_def]; cases as1 <;> rfl
theorem mrg_cons (a b : Int) (as1 bs : List Int) : mrg (a :: as1) (b :: bs) =
    if lessB a b then a :: mrg as1 (b :: bs) else if lessB b a then b :: mrg (a :: as1) bs else mrg as1 (b :: bs) := by rw [mrg.eq_def]

theorem mem_mrg {x : Int} : ∀ (as1 bs : List Int), x ∈ mrg as1 bs → x ∈ as1 ∨ x ∈ bs := by
  intro as1 bs
  induction as1, bs using mrg.induct with
  | case1 bs => rw [mrg_nil_left]; exact Or.inr
  | case2 a as1 => rw [mrg_nil_right]; exact Or.inl
  | case3 a as1 b bs h ih =>
    rw [mrg_cons, if_pos h]
    intro hx
    rcases List.mem_cons.1 hx with h | h
    · simp [h]
    · rcases ih h with h | h <;> simp_all
  | case4 a as1 b bs h h2 ih =>
    rw [mrg_cons, if_neg h, if_pos h2]
    intro hx
    rcases List.mem_cons.1 hx with h | h
    · simp [h]
    · rcases ih h with h | h <;> simp_all
  | case5 a as1 b bs h h2 ih =>
    rw [mrg_cons, if_neg h, if_neg h2]
    intro hx
    rcases ih hx with h | h <;> simp_all

theorem mem_msort {x : Int} : ∀ (n : Nat) (xs : List Int), x ∈ msort n xs → x ∈ xs := by
  intro n
  induction n with
  | zero => intro xs h; exact h
  | succ n ih =>
    intro xs h
    rw [msort] at h
    split at h
    · exact h
    · rcases mem_mrg _ _ h with h | h
      · exact List.mem_of_mem_take (ih _ h)
      · exact List.mem_of_mem_drop (ih _ h)

theorem mrg_length : ∀ (as1 bs : List Int), (mrg as1 bs).length ≤ as1.length + bs.length := by
  intro as1 bs
  induction as1, bs using mrg.induct with
  | case1 bs => rw [mrg_nil_left]; simp
  | case2 a as1 => rw [mrg_nil_right]; simp
  | case3 a as1 b bs h ih => rw [mrg_cons, if_pos h]; simp at *; omega
  | case4 a as1 b bs h h2 ih => rw [mrg_cons, if_neg h, if_pos h2]; simp at *; omega
  | case5 a as1 b bs h h2 ih => rw [mrg_cons, if_neg h, if_neg h2]; simp at *; omega

theorem msort_length : ∀ (n : Nat) (xs : List Int), (msort n xs).length ≤ xs.length := by
  intro n
  induction n with
  | zero => intro xs; exact Nat.le_refl _
  | succ n ih =>
    intro xs
    rw [msort]
    split
    · exact Nat.le_refl _
    · have h1 := mrg_length (msort n (xs.take (xs.length / 2))) (msort n (xs.drop (xs.length / 2)))
      have h2 := ih (xs.take (xs.length / 2))
      have h3 := ih (xs.drop (xs.length / 2))
      simp at h2 h3
      omega

end Go.Proofs.Ytfmahgobogelkaa

/- The contracts of package lit's small functions: size, Less, Check, Holds. -/
namespace Go.Proofs.Ytfmahgobogelkaa
open Go.RowKit

set_option maxHeartbeats 400000 in
theorem lit_size (a : Int) (w : World) (h : I64 a) :
    Calls Try.prog 60 #[.int .i64 a] w fun e w' => e = .returned (.int .u64 (a.natAbs : Int)) ∧ w = w' := by
  obtain ⟨h1, h2⟩ := h
  by_cases h : a < 0
  · go_enter Try.func60, Try.ntmps60
    go_wp2
    go_ret
    refine ⟨?_, rfl⟩
    simp [IntKind.wrap, IntKind.signed, IntKind.bits]
    omega
  · go_enter Try.func60, Try.ntmps60
    go_wp2
    go_ret
    refine ⟨?_, rfl⟩
    simp
    omega

set_option maxHeartbeats 400000 in
theorem lit_Less (a b : Int) (w : World) (ha : I64 a) (hb : I64 b) :
    Calls Try.prog 27 #[.int .i64 a, .int .i64 b] w fun e w' => e = .returned (.bool (lessB a b)) ∧ w = w' := by
  go_enter Try.func27, Try.ntmps27
  go_wp2_with (go_at_call 60; refine (lit_size _ _ (by assumption)).mono ?_; rintro e w' ⟨rfl, rfl⟩)
  · go_ret
    refine ⟨?_, rfl⟩
    have h : ((a.natAbs : Int) != b.natAbs) = true := by assumption
    simp at h
    simp [lessB]
    omega
  · go_ret
    refine ⟨?_, rfl⟩
    have h : ((a.natAbs : Int) != b.natAbs) = false := by assumption
    have h' : a.natAbs = b.natAbs := by simp at h; omega
    simp [lessB, h']

set_option maxHeartbeats 400000 in
theorem lit_Check (n : Int) (a : Option Addr) (xs : List Int) (cap : Nat) (w : World) (hx : ∀ x ∈ xs, I64 x) (hs : SlV w a (ints xs))
    (hl : xs.length ≤ 9223372036854775807) :
    Calls Try.prog 24 #[.int .i64 n, .slice a xs.length cap] w fun e w' => e = .returned (.int .i64 (litCheck n xs)) ∧ w = w' := by
  have H := hid hx
  clear hx
  go_enter Try.func24, Try.ntmps24
  go_wp2_with fail
  all_goals try (go_ret; exact ⟨by first | rw [litCheck_long (by omega) (by omega)]; rfl | rw [litCheck_range (by omega)]; rfl, rfl⟩)
  have h1 : 0 ≤ n ∧ n ≤ 1048576 := by assumption
  have h2 : (xs.length : Int) ≤ 4096 := by assumption
  go_loop [18] (fun i => ∃ k : Nat, k ≤ xs.length ∧ i = .int .i64 k ∧ Hid ((xs.take k).any (badLit n) = false)) (fun i => xs.length - (intOf i).toNat)
  case atStart => exact ⟨0, Nat.zero_le _, rfl, rfl⟩
  case round =>
    obtain ⟨k, hk, rfl, hrel⟩ := hrel
    by_cases hlt : k < xs.length
    · obtain ⟨b, off, x, rfl, hc, hx⟩ := hs.int hlt
      have hx64 : I64 x := H.out x (List.mem_of_getElem? hx)
      have HX := hid hx
      clear hx hs
      by_cases hz : x = 0
      · have hz' : (x == 0) = true := by simp [hz]
        have HZ := hid hz
        clear hz
        go_wp2_with (go_at_call 60; refine (lit_size _ _ (by assumption)).mono ?_; rintro e w' ⟨rfl, rfl⟩)
        go_ret
        exact ⟨by rw [litCheck_bad h1 h2 (any_of_get HX.out (by simp [badLit, HZ.out]))]; rfl, rfl⟩
      · have hz' : (x == 0) = false := by simp [hz]
        have HZ := hid hz
        clear hz
        go_wp2_with (go_at_call 60; refine (lit_size _ _ (by assumption)).mono ?_; rintro e w' ⟨rfl, rfl⟩)
        · have hlt : n < x.natAbs := by assumption
          go_ret
          exact ⟨by rw [litCheck_bad h1 h2 (any_of_get HX.out (by simp [badLit, hlt]))]; rfl, rfl⟩
        · go_round
          case rel => exact ⟨k + 1, by omega, by go_num, take_any_succ HX.out hrel (by simp [badLit, HZ.out]; omega)⟩
          case measure => simp [intOf]; omega
    · go_wp2_with fail
      go_ret
      exact ⟨by rw [litCheck_ok h1 h2 (take_all_false hlt hrel)]; rfl, rfl⟩

set_option maxHeartbeats 400000 in
theorem lit_Holds (am : Option Addr) (m : List Bool) (capm : Nat) (a : Option Addr) (xs : List Int) (cap : Nat) (w : World) (hm : SlV w am (bools m)) (hx : ∀ x ∈ xs, I64 x)
    (hs : SlV w a (ints xs)) (hl : xs.length ≤ 9223372036854775807) (hlm : m.length ≤ 9223372036854775807) :
    Calls Try.prog 25 #[.slice am m.length capm, .slice a xs.length cap] w fun e w' => e = .returned (.bool (holdsB m xs)) ∧ w = w' := by
  have H := hid hx
  clear hx
  go_enter Try.func25, Try.ntmps25
  go_wp2_with fail
  go_loop [10] (fun i => ∃ k : Nat, k ≤ xs.length ∧ i = .int .i64 k ∧ Hid ((xs.take k).any (litHolds m) = false)) (fun i => xs.length - (intOf i).toNat)
  case atStart => exact ⟨0, Nat.zero_le _, rfl, rfl⟩
  case round =>
    obtain ⟨k, hk, rfl, hrel⟩ := hrel
    by_cases hlt : k < xs.length
    · obtain ⟨b, off, x, rfl, hc, hx⟩ := hs.int hlt
      have hx64 : I64 x := H.out x (List.mem_of_getElem? hx)
      have HX := hid hx
      clear hx hs
      by_cases hz : x = 0
      · have HZ := hid hz
        have h0 : ¬ (0 : Int) < x.natAbs := by omega
        clear hz
        go_wp2_with (go_at_call 60; refine (lit_size _ _ (by assumption)).mono ?_; rintro e w' ⟨rfl, rfl⟩)
        go_round
        case rel => exact ⟨k + 1, by omega, by go_num, take_any_succ HX.out hrel (litHolds_zero HZ.out)⟩
        case measure => simp [intOf]; omega
      · have h0 : (0 : Int) < x.natAbs := by omega
        by_cases hle : x.natAbs ≤ m.length
        · obtain ⟨b', off', y, rfl, hc', hy⟩ := hm.bool (show x.natAbs - 1 < m.length by omega)
          have HY := hid hy
          have h0' : 0 < x.natAbs := by omega
          clear hy hm hz
          go_wp2_with (go_at_call 60; refine (lit_size _ _ (by assumption)).mono ?_; rintro e w' ⟨rfl, rfl⟩)
          · have hb : (y == decide (0 < x)) = true := by assumption
            go_ret
            exact ⟨by rw [holdsB, any_of_get HX.out (by rw [litHolds_in h0' HY.out]; exact hb)]; rfl, rfl⟩
          · have hb : (y == decide (0 < x)) = false := by assumption
            go_round
            case rel => exact ⟨k + 1, by omega, by go_num, take_any_succ HX.out hrel (by rw [litHolds_in h0' HY.out]; exact hb)⟩
            case measure => simp [intOf]; omega
        · have h1 : ¬ (x.natAbs : Int) ≤ m.length := by omega
          go_wp2_with (go_at_call 60; refine (lit_size _ _ (by assumption)).mono ?_; rintro e w' ⟨rfl, rfl⟩)
          go_round
          case rel => exact ⟨k + 1, by omega, by go_num, take_any_succ HX.out hrel (litHolds_out (by omega))⟩
          case measure => simp [intOf]; omega
    · go_wp2_with fail
      go_ret
      exact ⟨by rw [holdsB, take_all_false hlt hrel]; rfl, rfl⟩

end Go.Proofs.Ytfmahgobogelkaa

/- The contracts of the kit package's functions on lists of ints: CopyInts, EqualInts. -/
namespace Go.Proofs.Ytfmahgobogelkaa
open Go.RowKit

theorem info_int : (Try.prog.info? 3).map (fun i => (i.zero, i.size, i.bytes)) = some (some (.int .i64 0), 1, 8) := by kernel_rfl

theorem one_new {w : World} {a : Addr} {x : Value} (h : w.cell? a = some x) : ∀ j u, ([x] : List Value)[j]? = some u → w.cell? (a.add j) = some u := by
  intro j u hj
  match j, hj with
  | 0, hj => simp at hj; subst hj; simpa [Addr.add] using h

set_option maxHeartbeats 400000 in
theorem kit_CopyInts (a : Option Addr) (xs : List Int) (cap : Nat) (w : World) (hs : SlV w a (ints xs)) (hl : xs.length ≤ 4294967296) :
    Calls Try.prog 47 #[.slice a xs.length cap] w fun e w' =>
      ∃ v, e = .returned v ∧ w'.ownsRow w.heap.size 3 1 v xs.length (ints xs) ∧ Below w.heap.size w w' := by
  obtain ⟨i0, hi, hz0, hz1, hz2⟩ := info_parts info_int
  obtain ⟨B, hB⟩ : ∃ B, B = w.heap.size := ⟨_, rfl⟩
  rw [← hB]
  have HB := hid hB
  clear hB
  go_enter Try.func47, Try.ntmps47
  go_wp2_with fail
  go_loopw [3, 4] (fun v i wr => ∃ k : Nat, k ≤ xs.length ∧ i = .int .i64 k ∧ Hid (wr.ownsRow B 3 1 v k (ints (xs.take k))) ∧ Below B w wr)
    (fun _ i _ => xs.length - (intOf i).toNat)
  case atStart => exact ⟨0, Nat.zero_le _, rfl, World.ownsRow_nil _ _ _ _, Below.refl _ _⟩
  case round =>
    obtain ⟨k, hk, rfl, hown, hb⟩ := hrel
    by_cases hlt : k < xs.length
    · obtain ⟨b, off, x, rfl, hc, hx⟩ := (hs.below (HB.out ▸ hb)).int hlt
      have HX := hid hx
      have hbs := hb.size
      clear hx hs
      go_wp2_with (at_builtin; refine wpList_append_own _ rfl _ _ 22 rfl B 3 i0 (.int .i64 0) 1 8 Try.underlying22 hi hz0 hz1 hz2 rfl (by decide) _ _ _ rfl (hown.out.alloc _) ⟨wr.heap.size, 0, none⟩ 1 1 [.int .i64 x] rfl rfl ?c1 ?c2 ?c3 ?c4 ?c5 ?_)
      case c1 => exact one_new (by simp)
      case c2 => intro u hu; simp at hu; subst hu; rfl
      case c3 => unfold maxLen; omega
      case c4 => omega
      case c5 => simp; have := HB.out; omega
      intro v' w1 hown' hgrow _
      rw [ints_take_succ HX.out] at hown'
      have HO := hid hown'
      have hb1 : Below B w w1 := (hb.alloc (by have := HB.out; omega) _).grown hgrow (by simp; have := HB.out; omega) (fun q hq => (hown.out.lt q hq).1)
      clear hown' hgrow hown hb
      go_wp2_with fail
      go_roundw
      case rel => exact ⟨k + 1, by omega, by go_num, HO, hb1⟩
      case measure => simp [intOf]; omega
    · have hkl : k = xs.length := by omega
      subst hkl
      rw [List.take_length] at hown
      go_wp2_with fail
      go_ret
      exact ⟨_, rfl, hown, hb⟩

set_option maxHeartbeats 400000 in
theorem kit_EqualInts (a b : Option Addr) (xs ys : List Int) (ca cb : Nat) (w : World) (hs : SlV w a (ints xs)) (ht : SlV w b (ints ys)) (hl : xs.length ≤ 9223372036854775807) :
    Calls Try.prog 26 #[.slice a xs.length ca, .slice b ys.length cb] w fun e w' => e = .returned (.bool (eqI xs ys)) ∧ ∃ n, w' = w.drewN n := by
  by_cases hlen : xs.length = ys.length
  · have hb1 : ((xs.length : Int) != ys.length) = false := by simp [hlen]
    have HL := hid hlen
    clear hlen
    go_enter Try.func26, Try.ntmps26
    go_wp2_with fail
    go_loopw [5] (fun i wr => ∃ k n : Nat, k ≤ xs.length ∧ wr = w.drewN n ∧ i = .int .i64 k ∧ Hid (xs.take k = ys.take k)) (fun i _ => xs.length - (intOf i).toNat)
    case atStart => exact ⟨0, 0, Nat.zero_le _, rfl, rfl, by simp [Hid]⟩
    case round =>
      obtain ⟨k, nd, hk, rfl, rfl, hrel⟩ := hrel
      by_cases hlt : k < xs.length
      · obtain ⟨b1, o1, x, rfl, hc, hx⟩ := hs.int hlt
        obtain ⟨b2, o2, y, rfl, hd, hy⟩ := ht.int (k := k) (by have := HL.out; omega)
        have HX := hid hx
        have HY := hid hy
        have hi1 : (k : Int) < xs.length := by omega
        have hi2 : (k : Int) < ys.length := by have := HL.out; omega
        clear hx hy hs ht
        go_wp2_with fail
        go_quiet (fail)
        go_wp2_with fail
        · have hne : (x != y) = true := by assumption
          go_ret
          exact ⟨by rw [eqI_at HX.out HY.out (by simpa using hne)]; rfl, _, by first | rfl | exact World.drewN_drewN ..⟩
        · have he : (x != y) = false := by assumption
          have he' : x = y := by simpa using he
          go_roundw
          case rel => exact ⟨k + 1, _, by omega, (by first | rfl | exact World.drewN_drewN ..), by go_num, take_eq_succ hrel HX.out (he' ▸ HY.out)⟩
          case measure => simp [intOf]; omega
      · go_wp2_with fail
        go_ret
        exact ⟨by rw [eqI_all hlt HL.out hrel]; rfl, _, by first | rfl | exact World.drewN_drewN ..⟩
  · have hb1 : ((xs.length : Int) != ys.length) = true := by simp; omega
    have HL := hid hlen
    clear hlen
    go_enter Try.func26, Try.ntmps26
    go_wp2_with fail
    go_ret
    exact ⟨by rw [eqI_len HL.out]; rfl, 0, rfl⟩

end Go.Proofs.Ytfmahgobogelkaa

/- The contract of lit.sorted at the order lit.Less, for at most one element; small lemmas. -/
namespace Go.Proofs.Ytfmahgobogelkaa
open Go.RowKit

theorem SlV.drop {w : World} {b off : Nat} {vs : List Value} (h : SlV w (some ⟨b, off, none⟩) vs) (k : Nat) : SlV w (some ⟨b, off + k, none⟩) (vs.drop k) := by
  intro j v hj
  rw [List.getElem?_drop] at hj
  obtain ⟨b', off', he, hc⟩ := h (k + j) v hj
  simp at he
  obtain ⟨rfl, rfl⟩ := he
  exact ⟨b, off + k, rfl, by rw [Nat.add_assoc]; exact hc⟩

theorem SlV.take {w : World} {a : Option Addr} {vs : List Value} (h : SlV w a vs) (k : Nat) : SlV w a (vs.take k) := by
  intro j v hj
  rw [List.getElem?_take] at hj
  split at hj
  · exact h j v hj
  · cases hj

theorem ints_take (xs : List Int) (k : Nat) : ints (xs.take k) = (ints xs).take k := by simp [ints]
theorem ints_drop (xs : List Int) (k : Nat) : ints (xs.drop k) = (ints xs).drop k := by simp [ints]

theorem lit_Less' (a b : Int) (r : Bool) (w : World) (hr : lessB a b = r) (ha : I64 a) (hb : I64 b) :
    Calls Try.prog 27 #[.int .i64 a, .int .i64 b] w fun e w' => e = .returned (.bool r) ∧ w = w' := hr ▸ lit_Less a b w ha hb

set_option maxHeartbeats 400000 in
theorem lit_sorted_short (a : Option Addr) (xs : List Int) (m cap : Nat) (w : World) (hm : m = xs.length) (hcap : a = none → cap = 0) (hs : SlV w a (ints xs)) (h2 : xs.length < 2) :
    Calls Try.prog 59 #[.slice a m cap, .func (.func 27) #[] #[]] w fun e w' =>
      ∃ v, e = .returned v ∧ w'.ownsRow w.heap.size 3 1 v xs.length (ints xs) ∧ Below w.heap.size w w' := by
  subst hm
  obtain ⟨i0, hi, hz0, hz1, hz2⟩ := info_parts info_int
  have hd : decide ((xs.length : Int) < 2) = true := by simp; omega
  have HC := hid hcap
  clear hcap
  go_enter Try.func59, Try.ntmps59
  go_wp2_with (at_builtin; refine wpList_append_sl _ rfl _ _ 22 rfl w.heap.size 3 i0 (.int .i64 0) 8 Try.underlying22 hi hz0 hz1 hz2 rfl (.slice none 0 0) 0 [] rfl (World.ownsRow_nil _ _ _ _) a xs.length cap (ints xs) rfl hs (by simp) HC.out ints_one (by unfold maxLen; omega) (by omega) (Nat.le_refl _) ?_; intro v8 w8 ho8 hg8)
  have hb8 : Below w.heap.size w w8 := (Below.refl _ _).grown hg8 (Nat.le_refl _) (fun q hq => by simp [Value.ownBlock] at hq)
  go_ret
  exact ⟨_, rfl, by simpa using ho8, hb8⟩

end Go.Proofs.Ytfmahgobogelkaa
