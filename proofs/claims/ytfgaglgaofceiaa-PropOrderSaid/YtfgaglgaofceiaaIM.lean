/- Maps whose keys are ints: what the map in a block holds, as a list of entries in the order in which their keys came in; what a look-up, a store, a delete and len do to it. -/
import Derived.Test.YtfgaglgaofceiaaMem
import Derived.MapKept
import Derived.Maps.RangeRun
namespace Go.Proofs.Ytfgaglgaofceiaa.Ord
open Go.RowKit Go.MapKept

/-- The value at a key. -/
def aget (es : List (Int × Value)) (k : Int) : Option Value := (es.find? fun p => p.1 == k).map (·.2)
/-- A store at a key. -/
def aput (es : List (Int × Value)) (k : Int) (v : Value) : List (Int × Value) := if es.any (fun p => p.1 == k) then es.map (fun p => if p.1 = k then (k, v) else p) else es ++ [(k, v)]
/-- A key struck. -/
def adel (es : List (Int × Value)) (k : Int) : List (Int × Value) := es.filter fun p => p.1 != k

theorem aget_none {es : List (Int × Value)} {k : Int} (h : ∀ p ∈ es, p.1 ≠ k) : aget es k = none := by
  unfold aget
  rw [List.find?_eq_none.2 (fun p hp => by simpa using h p hp)]
  rfl

theorem aget_at {es : List (Int × Value)} {k : Int} {v : Value} (hn : (es.map (·.1)).Nodup) {j : Nat} (h : es[j]? = some (k, v)) : aget es k = some v := by
  unfold aget
  induction es generalizing j with
  | nil => simp at h
  | cons p es ih =>
    rw [List.map_cons, List.nodup_cons] at hn
    cases j with
    | zero => simp at h; subst h; simp
    | succ j =>
      simp at h
      have hne : p.1 ≠ k := fun e => hn.1 (by rw [e]; exact List.mem_map.2 ⟨(k, v), List.mem_of_getElem? h, rfl⟩)
      have hb : (p.1 == k) = false := by simpa using hne
      rw [List.find?_cons, hb]
      exact ih hn.2 h

theorem aget_mem {es : List (Int × Value)} {k : Int} {v : Value} (h : aget es k = some v) : (k, v) ∈ es := by
  unfold aget at h
  rw [Option.map_eq_some_iff] at h
  obtain ⟨p, h1, h2⟩ := h
  have h3 := List.find?_some h1
  have h4 := List.mem_of_find?_eq_some h1
  simp at h3
  obtain ⟨a, c⟩ := p
  simp at h2 h3
  subst h2 h3
  exact h4

theorem aget_of_mem {es : List (Int × Value)} {k : Int} {v : Value} (hn : (es.map (·.1)).Nodup) (h : (k, v) ∈ es) : aget es k = some v := by
  obtain ⟨j, hj⟩ := List.mem_iff_getElem?.1 h
  exact aget_at hn hj

theorem aput_keys {es : List (Int × Value)} {k : Int} {v : Value} : (aput es k v).map (·.1) = if es.any (fun p => p.1 == k) then es.map (·.1) else es.map (·.1) ++ [k] := by
  unfold aput
  split
  · rw [List.map_map]
    refine List.map_congr_left fun p _ => ?_
    simp only [Function.comp]
    split
    · rename_i h; exact h.symm
    · rfl
  · simp

theorem aput_nodup {es : List (Int × Value)} {k : Int} {v : Value} (hn : (es.map (·.1)).Nodup) : ((aput es k v).map (·.1)).Nodup := by
  rw [aput_keys]
  split
  · exact hn
  · rename_i h
    refine List.nodup_append.2 ⟨hn, by simp, fun a ha c hc => ?_⟩
    simp only [List.mem_singleton] at hc
    subst hc
    rintro rfl
    obtain ⟨p, hp, rfl⟩ := List.mem_map.1 ha
    exact h (List.any_eq_true.2 ⟨p, hp, by simp⟩)

theorem aget_aput_same {es : List (Int × Value)} {k : Int} {v : Value} (hn : (es.map (·.1)).Nodup) : aget (aput es k v) k = some v := by
  refine aget_of_mem (aput_nodup hn) ?_
  unfold aput
  split
  · rename_i h
    obtain ⟨p, hp, hk⟩ := List.any_eq_true.1 h
    exact List.mem_map.2 ⟨p, hp, by rw [if_pos (by simpa using hk)]⟩
  · simp

theorem aget_aput_other {es : List (Int × Value)} {k k' : Int} {v : Value} (hne : k' ≠ k) : aget (aput es k v) k' = aget es k' := by
  unfold aget aput
  split
  · rw [List.find?_map, Option.map_map]
    have e : ((fun p : Int × Value => p.1 == k') ∘ fun p => if p.1 = k then (k, v) else p) = fun p => p.1 == k' := by
      funext p
      simp only [Function.comp]
      split
      · rename_i h; rw [h]
      · rfl
    rw [e]
    cases hf : es.find? (fun p => p.1 == k') with
    | none => rfl
    | some p =>
      have h3 := List.find?_some hf
      simp at h3
      simp only [Option.map_some, Function.comp]
      rw [if_neg (by rw [h3]; exact hne)]
  · rw [List.find?_append]
    cases hf : es.find? (fun p => p.1 == k') with
    | none => simp [Ne.symm hne]
    | some p => simp

/-- The map at the block b: its entries, in the order in which their keys came in. -/
def IM (w : World) (b : Nat) (es : List (Int × Value)) : Prop :=
  ∃ arr clock, w.heap[b]? = some (.map arr clock) ∧ Stamped arr clock ∧ arr.toList.map (fun e => (e.key, e.val)) = es.map (fun p => (Value.int .i64 p.1, p.2))

theorem IM.frame {w w' : World} {b : Nat} {es : List (Int × Value)} (h : IM w b es) (hk : w'.heap[b]? = w.heap[b]?) : IM w' b es :=
  let ⟨arr, c, h1, h2⟩ := h; ⟨arr, c, hk.trans h1, h2⟩

theorem IM.lt {w : World} {b : Nat} {es : List (Int × Value)} (h : IM w b es) : b < w.heap.size :=
  let ⟨_, _, h1, _⟩ := h; (Array.getElem?_eq_some_iff.1 h1).1

theorem im_made (w : World) : IM (w.alloc (.map #[] 0)) w.heap.size [] := ⟨#[], 0, heap_alloc_new _ _, stamped_empty 0, rfl⟩

theorem im_size {arr : Array MapEntry} {es : List (Int × Value)} (h : arr.toList.map (fun e => (e.key, e.val)) = es.map (fun p => (Value.int .i64 p.1, p.2))) : arr.size = es.length := by
  have := congrArg List.length h
  simpa using this

theorem im_at {arr : Array MapEntry} {es : List (Int × Value)} (h : arr.toList.map (fun e => (e.key, e.val)) = es.map (fun p => (Value.int .i64 p.1, p.2))) {j : Nat} {e : MapEntry} (hj : arr.toList[j]? = some e) :
    ∃ p, es[j]? = some p ∧ e.key = .int .i64 p.1 ∧ e.val = p.2 := by
  have := congrArg (·[j]?) h
  simp only [List.getElem?_map, hj, Option.map_some] at this
  cases hp : es[j]? with
  | none => simp [hp] at this
  | some p =>
    simp only [hp, Option.map_some, Option.some.injEq, Prod.mk.injEq] at this
    exact ⟨p, rfl, this.1, this.2⟩

theorem im_at' {arr : Array MapEntry} {es : List (Int × Value)} (h : arr.toList.map (fun e => (e.key, e.val)) = es.map (fun p => (Value.int .i64 p.1, p.2))) {j : Nat} {p : Int × Value} (hj : es[j]? = some p) :
    ∃ e, arr.toList[j]? = some e ∧ e.key = .int .i64 p.1 ∧ e.val = p.2 := by
  have := congrArg (·[j]?) h
  simp only [List.getElem?_map, hj, Option.map_some] at this
  cases he : arr.toList[j]? with
  | none => rw [he] at this; cases this
  | some e =>
    simp only [he, Option.map_some, Option.some.injEq, Prod.mk.injEq] at this
    exact ⟨e, rfl, this.1, this.2⟩

theorem im_isKey {arr : Array MapEntry} {es : List (Int × Value)} (h : arr.toList.map (fun e => (e.key, e.val)) = es.map (fun p => (Value.int .i64 p.1, p.2))) : ∀ x ∈ arr.toList, IsKey (.int .i64) x.key := fun x hx => by
  obtain ⟨j, hj⟩ := List.mem_iff_getElem?.1 hx
  obtain ⟨p, -, hp, -⟩ := im_at h hj
  rw [hp]; rfl

theorem im_nodup {arr : Array MapEntry} {clock : Nat} {es : List (Int × Value)} (hs : Stamped arr clock) (h : arr.toList.map (fun e => (e.key, e.val)) = es.map (fun p => (Value.int .i64 p.1, p.2))) : (es.map (·.1)).Nodup := by
  have h3 := hs.2.2
  have e1 : arr.toList.map (·.key) = es.map (fun p => Value.int .i64 p.1) := by
    have := congrArg (List.map (·.1)) h
    simpa [List.map_map, Function.comp_def] using this
  rw [e1] at h3
  refine List.pairwise_map.2 ((List.pairwise_map.1 h3).imp fun {a c} hac => fun e => hac (by rw [e]))

theorem IM.nodup {w : World} {b : Nat} {es : List (Int × Value)} (h : IM w b es) : (es.map (·.1)).Nodup := by
  obtain ⟨arr, c, h1, h2, h3⟩ := h
  exact im_nodup h2 h3

/-- A look-up. -/
theorem im_lookup {P : Program} {t kt et : TypeId} {z : Value} (ht : P.underlying t = some (.map kt et)) (hk : P.underlying kt = some (.int .i64)) {w : World} (hz : (zeroValue et).run P w = .ok z w) {b : Nat} {es : List (Int × Value)} (h : IM w b es) (k : Int) :
    (Instr.lookup t (.map (some b)) (.int .i64 k) false).run P w = .ok ((aget es k).getD z) w := by
  obtain ⟨arr, c, h1, h2, h3⟩ := h
  have hn := im_nodup h2 h3
  have hc : ∀ e, (Instr.checkKey e 10000 kt (.int .i64 k)).run P w = .ok () w := fun e => run_checkKey (k := .int .i64 k) hk rfl e 9999
  rcases findNow_spec (d := .int .i64) (k := .int .i64 k) rfl arr.toList 0 (im_isKey h3) with ⟨f1, f2⟩ | ⟨j, e, f1, f2, f3⟩
  · have hg : aget es k = none := aget_none fun p hp e => by
      obtain ⟨j, hj⟩ := List.mem_iff_getElem?.1 hp
      obtain ⟨x, hx, hx1, -⟩ := im_at' h3 hj
      exact f2 x (List.mem_of_getElem? hx) (by rw [hx1, e])
    rw [hg]
    simp [Instr.lookup, run_underlying ht, MapKept.run_getObj_map h1, hc, run_findKey hk f1, hz, Result.andThen]
  · obtain ⟨p, hp, hp1, hp2⟩ := im_at h3 f2
    have hpk : p.1 = k := by rw [f3] at hp1; injection hp1 with _ hp1; exact hp1.symm
    have hg : aget es k = some e.val := aget_at hn (j := j) (by rw [hp, hp2, ← hpk])
    rw [hg]
    simp [Instr.lookup, run_underlying ht, MapKept.run_getObj_map h1, hc, run_findKey hk f1, Result.andThen]

/-- A block written whole. -/
theorem touch_set (w : World) (b : Nat) (o : Obj) : Touch (fun k => k = b) w { w with heap := w.heap.setIfInBounds b o } :=
  ⟨rfl, rfl, rfl, by simp, fun k _ hn => by simp [Ne.symm hn]⟩

/-- A store. -/
theorem im_update {P : Program} {t kt et : TypeId} (ht : P.underlying t = some (.map kt et)) (hk : P.underlying kt = some (.int .i64)) {w : World} {b : Nat} {es : List (Int × Value)} (h : IM w b es) (k : Int) (v : Value) :
    ∃ w', (Instr.mapUpdate t (.map (some b)) (.int .i64 k) v).run P w = .ok () w' ∧ IM w' b (aput es k v) ∧ Touch (fun i => i = b) w w' ∧ w'.heap.size = w.heap.size := by
  obtain ⟨arr, c, h1, h2, h3⟩ := h
  have hn := im_nodup h2 h3
  have hc : ∀ e, (Instr.checkKey e 10000 kt (.int .i64 k)).run P w = .ok () w := fun e => run_checkKey (k := .int .i64 k) hk rfl e 9999
  rcases findNow_spec (d := .int .i64) (k := .int .i64 k) rfl arr.toList 0 (im_isKey h3) with ⟨f1, f2⟩ | ⟨j, e, f1, f2, f3⟩
  · have hg : es.any (fun p => p.1 == k) = false := List.any_eq_false.2 fun p hp e => by
      obtain ⟨j, hj⟩ := List.mem_iff_getElem?.1 hp
      obtain ⟨x, hx, hx1, -⟩ := im_at' h3 hj
      exact f2 x (List.mem_of_getElem? hx) (by rw [hx1]; simp at e; rw [e])
    refine ⟨_, by simp [Instr.mapUpdate, run_underlying ht, MapKept.run_getObj_map h1, hc, run_findKey hk f1, run_setObj_map _ h1, Result.andThen]; rfl, ?_, touch_set w b _, by simp⟩
    refine ⟨_, _, (heap_set h1).1, stamped_push h2 f2, ?_⟩
    unfold aput
    rw [hg]
    simp [h3]
  · obtain ⟨p, hp, hp1, hp2⟩ := im_at h3 f2
    have hpk : p.1 = k := by rw [f3] at hp1; injection hp1 with _ hp1; exact hp1.symm
    have hj : arr[j]? = some e := by simpa using f2
    have hg : es.any (fun p => p.1 == k) = true := List.any_eq_true.2 ⟨p, List.mem_of_getElem? hp, by simp [hpk]⟩
    have hkey : ∀ e', arr[j]? = some e' → ({ e' with key := .int .i64 k, val := v } : MapEntry).key = e'.key := fun e' he' => by rw [hj] at he'; cases he'; exact f3.symm
    refine ⟨_, by simp [Instr.mapUpdate, run_underlying ht, MapKept.run_getObj_map h1, hc, run_findKey hk f1, hj, f3, run_keyThatStays (d := .int .i64) (k := .int .i64 k) rfl, run_setObj_map _ h1, Result.andThen]; rfl, ?_, touch_set w b _, by simp⟩
    refine ⟨_, _, (heap_set h1).1, stamped_modify h2 _ _ (fun _ _ => rfl) (fun e' _ he' => hkey e' he'), ?_⟩
    unfold aput
    rw [hg, if_pos rfl]
    refine List.ext_getElem? fun i => ?_
    simp only [List.getElem?_map, Array.getElem?_toList, Array.getElem?_modify]
    by_cases hij : j = i
    · subst hij
      rw [hj, hp]
      simp [hpk]
    · rw [if_neg hij]
      have h4 := congrArg (·[i]?) h3
      simp only [List.getElem?_map, Array.getElem?_toList] at h4
      rw [h4]
      cases hi : es[i]? with
      | none => rfl
      | some q =>
        have hqk : q.1 ≠ k := fun e2 => by
          have hil := (List.getElem?_eq_some_iff.1 hi).1
          have hjl := (List.getElem?_eq_some_iff.1 hp).1
          have hnn := (List.pairwise_iff_getElem.1 hn)
          have hi2 := (List.getElem?_eq_some_iff.1 hi).2
          have hp2 := (List.getElem?_eq_some_iff.1 hp).2
          rcases Nat.lt_or_gt_of_ne hij with hlt | hlt
          · exact hnn j i (by simpa using hjl) (by simpa using hil) hlt (by simp [hi2, hp2, hpk, e2])
          · exact hnn i j (by simpa using hil) (by simpa using hjl) hlt (by simp [hi2, hp2, hpk, e2])
        simp [hqk]

/-- len of a map. -/
theorem im_len {P : Program} {t kt et : TypeId} (ht : P.underlying t = some (.map kt et)) {w : World} {b : Nat} {es : List (Int × Value)} (h : IM w b es) (ty : TypeId) :
    (Builtin.len_ #[t] ty #[.map (some b)]).run P w = .ok (.int .i64 es.length) w := by
  obtain ⟨arr, c, h1, h2, h3⟩ := h
  have hsz := im_size h3
  simp [Builtin.len_, run_underlying ht, MapKept.run_getObj_map h1, Result.andThen, hsz]
  rfl

theorem erase_filter {es : List (Int × Value)} {k : Int} {v : Value} (hn : (es.map (·.1)).Nodup) {j : Nat} (hj : es[j]? = some (k, v)) : es.eraseIdx j = adel es k := by
  unfold adel
  induction es generalizing j with
  | nil => simp at hj
  | cons p es ih =>
    rw [List.map_cons, List.nodup_cons] at hn
    cases j with
    | zero =>
      simp at hj
      subst hj
      simp only [List.eraseIdx_cons_zero]
      rw [List.filter_cons_of_neg (by simp)]
      refine (List.filter_eq_self.2 fun q hq => ?_).symm
      simp only [bne_iff_ne, ne_eq]
      exact fun e => hn.1 (by rw [← e]; exact List.mem_map.2 ⟨q, hq, rfl⟩)
    | succ j =>
      simp at hj
      have hne : p.1 ≠ k := fun e => hn.1 (by rw [e]; exact List.mem_map.2 ⟨(k, v), List.mem_of_getElem? hj, rfl⟩)
      simp only [List.eraseIdx_cons_succ]
      rw [List.filter_cons_of_pos (by simpa using hne), ih hn.2 hj]

/-- delete. -/
theorem im_delete {P : Program} {t kt et : TypeId} (ht : P.underlying t = some (.map kt et)) (hk : P.underlying kt = some (.int .i64)) {w : World} {b : Nat} {es : List (Int × Value)} (h : IM w b es) (k : Int) (ty : TypeId) :
    ∃ w', (Builtin.delete_ #[t, kt] ty #[.map (some b), .int .i64 k]).run P w = .ok (.tuple #[]) w' ∧ IM w' b (adel es k) ∧ Touch (fun i => i = b) w w' ∧ w'.heap.size = w.heap.size := by
  obtain ⟨arr, c, h1, h2, h3⟩ := h
  have hn := im_nodup h2 h3
  have hc : ∀ e, (Instr.checkKey e 10000 kt (.int .i64 k)).run P w = .ok () w := fun e => run_checkKey (k := .int .i64 k) hk rfl e 9999
  rcases findNow_spec (d := .int .i64) (k := .int .i64 k) rfl arr.toList 0 (im_isKey h3) with ⟨f1, f2⟩ | ⟨j, e, f1, f2, f3⟩
  · have hg : adel es k = es := List.filter_eq_self.2 fun p hp => by
      simp only [bne_iff_ne, ne_eq]
      intro e
      obtain ⟨j, hj⟩ := List.mem_iff_getElem?.1 hp
      obtain ⟨x, hx, hx1, -⟩ := im_at' h3 hj
      exact f2 x (List.mem_of_getElem? hx) (by rw [hx1, e])
    rw [hg]
    refine ⟨_, by simp [Builtin.delete_, run_underlying ht, MapKept.run_getObj_map h1, hc, run_findKey hk f1, run_setObj_map _ h1, Result.andThen], ⟨arr, c, (heap_set h1).1, h2, h3⟩, touch_set w b _, by simp⟩
  · obtain ⟨p, hp, hp1, hp2⟩ := im_at h3 f2
    have hpk : p.1 = k := by rw [f3] at hp1; injection hp1 with _ hp1; exact hp1.symm
    refine ⟨_, by simp [Builtin.delete_, run_underlying ht, MapKept.run_getObj_map h1, hc, run_findKey hk f1, run_setObj_map _ h1, Result.andThen], ⟨_, c, (heap_set h1).1, stamped_erase h2 j, ?_⟩, touch_set w b _, by simp⟩
    rw [← erase_filter hn (j := j) (v := p.2) (by rw [hp, ← hpk])]
    have hjl : j < arr.size := by have := (List.getElem?_eq_some_iff.1 f2).1; simpa using this
    unfold Array.eraseIdxIfInBounds
    rw [dif_pos hjl, Array.toList_eraseIdx]
    have e1 : ∀ {α β : Type} (f : α → β) (l : List α) (i : Nat), (l.eraseIdx i).map f = (l.map f).eraseIdx i := fun f l i => by
      induction l generalizing i with
      | nil => simp
      | cons x l ih => cases i <;> simp [ih]
    rw [e1, e1, h3]

/-- An iterator over a map that is not written: which keys are still to come. -/
def IT (w : World) (r b : Nat) (es : List (Int × Value)) (left : List Int) : Prop :=
  ∃ arr clock seen, w.heap[b]? = some (.map arr clock) ∧ Stamped arr clock ∧ arr.toList.map (fun e => (e.key, e.val)) = es.map (fun p => (Value.int .i64 p.1, p.2)) ∧ w.heap[r]? = some (.mapIter (some b) clock seen clock) ∧
    (leftOf arr seen).toList.map (·.key) = left.map (Value.int .i64)

theorem IT.im {w : World} {r b : Nat} {es : List (Int × Value)} {left : List Int} (h : IT w r b es left) : IM w b es :=
  let ⟨arr, c, _, h1, h2, h3, _⟩ := h; ⟨arr, c, h1, h2, h3⟩

theorem IT.frame {w w' : World} {r b : Nat} {es : List (Int × Value)} {left : List Int} (h : IT w r b es left) (hb : w'.heap[b]? = w.heap[b]?) (hr : w'.heap[r]? = w.heap[r]?) : IT w' r b es left :=
  let ⟨arr, c, s, h1, h2, h3, h4, h5⟩ := h; ⟨arr, c, s, hb.trans h1, h2, h3, hr.trans h4, h5⟩

/-- range over a map. -/
theorem it_range {P : Program} {t kt et : TypeId} (ht : P.underlying t = some (.map kt et)) {w : World} {b : Nat} {es : List (Int × Value)} (h : IM w b es) :
    ∃ o, (Instr.range t (.map (some b))).run P w = .ok (.pointer (some ⟨w.heap.size, 0, none⟩)) (w.alloc o) ∧ IT (w.alloc o) w.heap.size b es (es.map (·.1)) := by
  have hlt := h.lt
  obtain ⟨arr, c, h1, h2, h3⟩ := h
  refine ⟨.mapIter (some b) c #[] c, by simp [Instr.range, run_underlying ht, MapKept.run_getObj_map h1, Result.andThen], arr, c, #[], (Below.heap_alloc _ _ _ hlt).trans h1, h2, h3, heap_alloc_new _ _, ?_⟩
  have e : leftOf arr #[] = arr := Array.filter_eq_self.2 (by simp)
  rw [e]
  have := congrArg (List.map (·.1)) h3
  simpa [List.map_map, Function.comp_def] using this

theorem kept_one {l : List MapEntry} (h : (l.map (·.key)).Nodup) {x e : MapEntry} (hx : x ∈ l) (he : e ∈ l) (hk : x.key = e.key) : x = e := by
  induction l with
  | nil => cases hx
  | cons y l ih =>
    rw [List.map_cons, List.nodup_cons] at h
    rcases List.mem_cons.1 hx with h1 | h1
    · rcases List.mem_cons.1 he with h2 | h2
      · rw [h1, h2]
      · exact (h.1 (by rw [← h1, hk]; exact List.mem_map.2 ⟨e, h2, rfl⟩)).elim
    · rcases List.mem_cons.1 he with h2 | h2
      · exact (h.1 (by rw [← h2, ← hk]; exact List.mem_map.2 ⟨x, h1, rfl⟩)).elim
      · exact ih h.2 h1 h2
theorem born_one {l : List MapEntry} (h : (l.map (·.born)).Nodup) {x e : MapEntry} (hx : x ∈ l) (he : e ∈ l) (hk : x.born = e.born) : x = e := by
  induction l with
  | nil => cases hx
  | cons y l ih =>
    rw [List.map_cons, List.nodup_cons] at h
    rcases List.mem_cons.1 hx with h1 | h1
    · rcases List.mem_cons.1 he with h2 | h2
      · rw [h1, h2]
      · exact (h.1 (by rw [← h1, hk]; exact List.mem_map.2 ⟨e, h2, rfl⟩)).elim
    · rcases List.mem_cons.1 he with h2 | h2
      · exact (h.1 (by rw [← h2, ← hk]; exact List.mem_map.2 ⟨x, h1, rfl⟩)).elim
      · exact ih h.2 h1 h2

open Classical in
/-- The next key of a range. -/
theorem it_next {P : Program} {w : World} {r b : Nat} {es : List (Int × Value)} {left : List Int} (h : IT w r b es left) (ty : TypeId) :
    (left = [] ∧ (Instr.next (.pointer (some ⟨r, 0, none⟩)) false ty).run P w = .ok (.tuple #[.bool false]) w) ∨
    ∃ k v w', k ∈ left ∧ (k, v) ∈ es ∧ (Instr.next (.pointer (some ⟨r, 0, none⟩)) false ty).run P w = .ok (.tuple #[.bool true, .int .i64 k, v]) w' ∧ IT w' r b es (left.erase k) ∧ Touch (fun i => i = r) w w' ∧ w'.heap.size = w.heap.size ∧ left.Nodup ∧
      (Instr.entry (.pointer (some ⟨r, 0, none⟩))).run P w' = .ok (.tuple #[.int .i64 k, v]) w' := by
  obtain ⟨arr, c, seen, h1, h2, h3, h4, h5⟩ := h
  rcases run_next_at (P := P) w ty r b c c seen arr c h4 h1 h2.1 (Nat.le_refl _) with ⟨hz, hrun⟩ | ⟨e, he, w1, hw1, hrun⟩
  · left
    have : (leftOf arr seen).toList = [] := by
      have : leftOf arr seen = #[] := Array.eq_empty_of_size_eq_zero hz
      rw [this]
    rw [this] at h5
    exact ⟨by cases left <;> simp_all, hrun⟩
  · right
    have hmem : e ∈ arr.toList := by
      simp only [leftOf, Array.toList_filter, List.mem_filter] at he
      exact he.1
    obtain ⟨j, hj⟩ := List.mem_iff_getElem?.1 hmem
    obtain ⟨p, hp, hp1, hp2⟩ := im_at h3 hj
    have hheap : w1.heap = w.heap := by rcases hw1 with rfl | rfl <;> rfl
    have hrb : r ≠ b := fun e => by rw [e, h1] at h4; cases h4
    have hrl : r < w.heap.size := (Array.getElem?_eq_some_iff.1 h4).1
    have hkm : Value.int .i64 p.1 ∈ left.map (Value.int .i64) := by rw [← h5]; exact List.mem_map.2 ⟨e, he, hp1⟩
    have hkl : p.1 ∈ left := by
      obtain ⟨x, hx, hxe⟩ := List.mem_map.1 hkm
      injection hxe with _ hxe
      rw [← hxe]; exact hx
    have hb' : (Go.ChangeMaps.setBlock w1 r (.mapIter (some b) c (seen.push e.born) c)).heap[b]? = some (.map arr c) := by
      show (w1.heap.setIfInBounds r _)[b]? = _
      rw [hheap]; simp [hrb, h1]
    have hr' : (Go.ChangeMaps.setBlock w1 r (.mapIter (some b) c (seen.push e.born) c)).heap[r]? = some (.mapIter (some b) c (seen.push e.born) c) := by
      show (w1.heap.setIfInBounds r _)[r]? = _
      rw [hheap]; simp [hrl]
    have hkn : (arr.toList.map (·.key)).Nodup := h2.2.2
    have hln : (left.map (Value.int .i64)).Nodup := by
      rw [← h5]
      have hsub : (leftOf arr seen).toList.Sublist arr.toList := by
        simp only [leftOf, Array.toList_filter]
        exact List.filter_sublist
      exact (hsub.map _).nodup hkn
    have hleftn : left.Nodup := by
      refine (List.pairwise_map.1 hln).imp fun {a c} hac => fun e => hac (by rw [e])
    refine ⟨p.1, p.2, _, hkl, List.mem_of_getElem? hp, by rw [hrun, hp1, hp2], ⟨arr, c, _, hb', h2, h3, hr', ?_⟩, ⟨by rcases hw1 with rfl | rfl <;> rfl, by rcases hw1 with rfl | rfl <;> rfl, by rcases hw1 with rfl | rfl <;> rfl, ?_, fun k _ hk => ?_⟩, ?_, hleftn, ?_⟩
    · have e1 : (leftOf arr (seen.push e.born)).toList = (leftOf arr seen).toList.filter (fun x => decide (x.key ≠ Value.int .i64 p.1)) := by
        simp only [leftOf, Array.toList_filter, List.filter_filter]
        refine List.filter_congr fun x hx => ?_
        rw [Bool.eq_iff_iff]
        simp only [Array.contains_push, Bool.not_or, Bool.and_eq_true, ne_eq, Bool.not_eq_true', beq_eq_false_iff_ne, decide_eq_true_eq]
        constructor
        · rintro ⟨g1, g2⟩
          refine ⟨fun hk2 => g2 ?_, g1⟩
          have := kept_one hkn hx hmem (by rw [hk2, hp1])
          rw [this]
        · rintro ⟨g1, g2⟩
          refine ⟨g2, fun hb2 => g1 ?_⟩
          have := born_one h2.2.1 hx hmem hb2
          rw [this, hp1]
      rw [e1, List.Nodup.erase_eq_filter hleftn]
      have e2 : ((leftOf arr seen).toList.filter (fun x => decide (x.key ≠ Value.int .i64 p.1))).map (·.key) = ((leftOf arr seen).toList.map (·.key)).filter (fun v => decide (v ≠ Value.int .i64 p.1)) := by
        rw [List.filter_map]; rfl
      rw [e2, h5, List.filter_map]
      congr 1
      refine List.filter_congr fun x _ => ?_
      by_cases hxp : x = p.1 <;> simp [Function.comp, hxp]
    · show w.heap.size ≤ (w1.heap.setIfInBounds r _).size
      rw [hheap]; simp
    · show (w1.heap.setIfInBounds r _)[k]? = _
      rw [hheap]; simp [Ne.symm hk]
    · show (w1.heap.setIfInBounds r _).size = _
      rw [hheap]; simp
    · rw [← hp1, ← hp2]
      exact run_entry_at _ r b c seen arr c e hr' hb' hmem h2.2.1

end Go.Proofs.Ytfgaglgaofceiaa.Ord
