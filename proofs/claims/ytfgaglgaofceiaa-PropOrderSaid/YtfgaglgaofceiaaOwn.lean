/- Laws for appends to slices of the call's own, whatever the source (nil or not), inside and outside regions whose order is open; for x[1:]; elements of one cell. -/
import Derived.Test.YtfgaglgaofceiaaBase
import Derived.Laws.AppendOwnNone
import Derived.Deep.RegionWith
import Derived.Deep.RegionLaw
import Derived.Deep.DeepCutAuto
namespace Go.Proofs.Ytfgaglgaofceiaa
open Go.RowKit

theorem SlV.cells {w : World} {ad : Addr} {vs : List Value} (h : SlV w (some ad) vs) : ∀ j u, vs[j]? = some u → w.cell? (ad.add j) = some u := by
  intro j u hj
  obtain ⟨b, off, he, hc⟩ := h j u hj
  simp at he
  subst he
  unfold Addr.add
  split
  · rename_i h0; subst h0; simpa using hc
  · simpa using hc

theorem run_append_sl {P : Program} (w : World) (base : Nat) (t ty e : TypeId) (i : TypeInfo) (z : Value) (bytes : Nat) (ht : P.underlying t = some (.slice e)) (hi : P.info? e = some i) (hz : i.zero = some z)
    (hsize : i.size = 1) (hby : i.bytes = bytes) (hzs : z.cells.size = 1)
    (v : Value) (n : Nat) (xs : List Value) (hown : w.ownsRow base e 1 v n xs)
    (a : Option Addr) (m c : Nat) (news : List Value) (hs : SlV w a news) (hm : m = news.length) (hc : a = none → c = 0) (h1 : ∀ u ∈ news, u.oneCell' = true)
    (h63 : n + m ≤ maxLen) (hbytes : (n + m) * bytes ≤ 140737488355328) (hbase : base ≤ w.heap.size) :
    ∃ v' w', (Builtin.append_ #[t, t] ty #[v, .slice a m c]).run P w = .ok v' w' ∧ w'.ownsRow base e 1 v' (n + m) (xs ++ news) ∧ w.grownBy w' v.ownBlock := by
  cases a with
  | some ad =>
    obtain ⟨v', w', hr, h2, h3, -⟩ := run_append_own (P := P) w base t ty e i z 1 bytes ht hi hz hsize hby hzs (by decide) v n xs hown ad m c news (by omega) hs.cells h1 h63 hbytes hbase
    exact ⟨v', w', hr, h2, h3⟩
  | none =>
    have hn : news = [] := by
      cases news with
      | nil => rfl
      | cons u us => obtain ⟨b, off, he, -⟩ := hs 0 u rfl; cases he
    subst hn
    have hm0 : m = 0 := hm
    subst hm0
    rw [hc rfl]
    exact ⟨v, w, run_append_owned_none (P := P) (w := w) base t ty e i 1 ht hi v n xs hown, by simpa using hown, ⟨rfl, rfl, rfl, Nat.le_refl _, fun _ _ _ => rfl⟩⟩

/-- append, outside a region whose order is open. -/
theorem wpList_append_sl {P : Program} (w : World) {ops : Array Oper} {rest : List Oper} {o : Oper} {a : Act} {Q : Exit → Act → World → Prop} (hgd : o.guard = none) (s x : Operand) (t : TypeId)
    (ho : o.op = .call { callee := .builtin .append, args := #[s, x], argTypes := #[t, t] })
    (base : Nat) (e : TypeId) (i : TypeInfo) (z : Value) (bytes : Nat) (ht : P.underlying t = some (.slice e)) (hi : P.info? e = some i) (hz : i.zero = some z)
    (hsize : i.size = 1) (hby : i.bytes = bytes) (hzs : z.cells.size = 1)
    (v : Value) (n : Nat) (xs : List Value) (hs : a.eval s = v) (hown : w.ownsRow base e 1 v n xs)
    (ad : Option Addr) (m c : Nat) (news : List Value) (hx : a.eval x = .slice ad m c) (hsl : SlV w ad news) (hm : m = news.length) (hc : ad = none → c = 0) (h1 : ∀ u ∈ news, u.oneCell' = true)
    (h63 : n + m ≤ maxLen) (hbytes : (n + m) * bytes ≤ 140737488355328) (hbase : base ≤ w.heap.size)
    (h : ∀ v' w', w'.ownsRow base e 1 v' (n + m) (xs ++ news) → w.grownBy w' v.ownBlock → wpList P ops Q rest (a.put o.dst v') w') : wpList P ops Q (o :: rest) a w :=
  wpList_plain hgd fun K hK => by
    obtain ⟨v', w', hr, h2, h3⟩ := run_append_sl (P := P) w base t o.type e i z bytes ht hi hz hsize hby hzs v n xs hown ad m c news hsl hm hc h1 h63 hbytes hbase
    unfold Oper.wp execOp
    simp only [ho, resolve, invoke, builtin, Sem.run_bind, Sem.run_pure, Result.andThen_ok, List.map_toArray, List.map_cons, List.map_nil, hs, hx, hr]
    exact hK _ _ (h v' w' h2 h3)

/-- append, as one step of a region whose order is open. -/
theorem step_append_sl {P : Program} {w : World} {ops : Array Oper} {o : Oper} {a : Act} {K : Act → World → Prop} {Q : Exit → Act → World → Prop} {E : Prop} (hgd : o.guard = none) (s x : Operand) (t : TypeId)
    (ho : o.op = .call { callee := .builtin .append, args := #[s, x], argTypes := #[t, t] })
    (base : Nat) (e : TypeId) (i : TypeInfo) (z : Value) (bytes : Nat) (ht : P.underlying t = some (.slice e)) (hi : P.info? e = some i) (hz : i.zero = some z)
    (hsize : i.size = 1) (hby : i.bytes = bytes) (hzs : z.cells.size = 1)
    (v : Value) (n : Nat) (xs : List Value) (hs : a.eval s = v) (hown : w.ownsRow base e 1 v n xs)
    (ad : Option Addr) (m c : Nat) (news : List Value) (hx : a.eval x = .slice ad m c) (hsl : SlV w ad news) (hm : m = news.length) (hc : ad = none → c = 0) (h1 : ∀ u ∈ news, u.oneCell' = true)
    (h63 : n + m ≤ maxLen) (hbytes : (n + m) * bytes ≤ 140737488355328) (hbase : base ≤ w.heap.size)
    (h : ∀ v' w', w'.ownsRow base e 1 v' (n + m) (xs ++ news) → w.grownBy w' v.ownBlock → K (a.put o.dst v') w') :
    if Region.wanted o (yielded ops a.tmps) = true then Oper.wp P o a w K Q else E := by
  have hw : Region.wanted o (yielded ops a.tmps) = true := by simp [Region.wanted, hgd]
  rw [if_pos hw]
  obtain ⟨v', w', hr, h2, h3⟩ := run_append_sl (P := P) w base t o.type e i z bytes ht hi hz hsize hby hzs v n xs hown ad m c news hsl hm hc h1 h63 hbytes hbase
  unfold Oper.wp execOp
  simp only [ho, resolve, invoke, builtin, Sem.run_bind, Sem.run_pure, Result.andThen_ok, List.map_toArray, List.map_cons, List.map_nil, hs, hx, hr]
  exact h v' w' h2 h3

/-- x[1:] of a slice that is not empty: what the walk is told of it. -/
theorem tail_run {P : Program} {t e : TypeId} {w : World} {b off n c : Nat} {v : Value} {vs : List Value} (ht : P.underlying t = some (.slice e)) (hsz : ∀ wx, (sizeOf e).run P wx = .ok 1 wx)
    (hs : SlV w (some ⟨b, off, none⟩) (v :: vs)) (hn : n = (v :: vs).length) (hc : n ≤ c) :
    ∃ A, (∀ wx, (Instr.slice t (.slice (some ⟨b, off, none⟩) n c) (some (.int .i64 1)) none none).run P wx = .ok (.slice (some A) vs.length (c - 1)) wx) ∧ SlV w (some A) vs := by
  have he : P.elem t = e := by simp [Program.elem, ht]
  simp only [List.length_cons] at hn
  by_cases h1 : c = 1
  · have : vs = [] := List.eq_nil_of_length_eq_zero (by omega)
    subst this
    refine ⟨⟨b, off, none⟩, fun wx => ?_, SlV.nil _ _⟩
    rw [run_slice_l (P := P) wx t _ n c (by rw [he]; exact ht) .i64 1 (by omega) (by omega), he, hsz]
    simp [sliced, Result.andThen, h1, hn]
  · refine ⟨⟨b, off + 1, none⟩, fun wx => ?_, fun j u hj => ?_⟩
    · rw [run_slice_l (P := P) wx t _ n c (by rw [he]; exact ht) .i64 1 (by omega) (by omega), he, hsz]
      simp [sliced, Result.andThen, h1, hn, Addr.add]
    · obtain ⟨b', off', he, hcell⟩ := hs (j + 1) u (by simpa using hj)
      simp at he
      obtain ⟨rfl, rfl⟩ := he
      exact ⟨b, off + 1, rfl, by rw [Nat.add_assoc, Nat.add_comm 1 j]; exact hcell⟩

theorem slv_one {w : World} {b : Nat} {u : Value} (h : w.cell? ⟨b, 0, none⟩ = some u) : SlV w (some ⟨b, 0, none⟩) [u] := by
  intro j v hj
  match j, hj with
  | 0, hj => simp at hj; subst hj; exact ⟨b, 0, rfl, h⟩

theorem one_int {x : Int} : ∀ u ∈ [Value.int .i64 x], u.oneCell' = true := by
  intro u hu; simp at hu; subst hu; rfl

/-- A new block behind draws reads as its one value. -/
theorem slv_new_dr (w : World) (n : Nat) (u : Value) (e : TypeId) (m : Nat × Nat) : SlV ((w.drewN n).alloc (.cells #[u] e m)) (some ⟨w.heap.size, 0, none⟩) [u] := by
  refine slv_one ?_
  have h : ((w.drewN n).alloc (.cells #[u] e m)).heap[w.heap.size]? = some (.cells #[u] e m) := heap_alloc_new (w.drewN n) _
  rw [cell_of_row _ _ _ _ _ _ h]
  simp

/-- The length in a slot that holds a slice. -/
def lenOfV : Value → Nat | .slice _ n _ => n | _ => 0

theorem ints_one {xs : List Int} : ∀ u ∈ ints xs, u.oneCell' = true := by
  intro u hu
  simp [ints] at hu
  obtain ⟨x, -, rfl⟩ := hu
  rfl

/-- The slice value 'v' reads as the ints 'xs', whose cells lie in a block of the call's own (from B on). -/
def OwnT (e : TypeId) (w : World) (B : Nat) (v : Value) (xs : List Int) : Prop :=
  ∃ a c, v = .slice a xs.length c ∧ xs.length ≤ c ∧ (a = none → c = 0) ∧
    ∀ ad, a = some ad → ∃ g off cur, ad = ⟨g, off, none⟩ ∧ B ≤ g ∧ w.heap[g]? = some (.cells cur e (0, 0)) ∧ ∀ j x, xs[j]? = some x → cur[off + j]? = some (.int .i64 x)

theorem ownT_of_own {w : World} {B e n : Nat} {v : Value} {xs : List Int} (h : w.ownsRow B e 1 v n (ints xs)) : OwnT e w B v xs := by
  have hn : n = xs.length := by have := h.1; simp at this; omega
  rcases h.2 with ⟨rfl, h0⟩ | ⟨g, cap, cur, rfl, hB, hg, hle, _, _, ht⟩
  · subst h0
    have : xs = [] := List.eq_nil_of_length_eq_zero (by omega)
    subst this
    exact ⟨none, 0, rfl, Nat.le_refl _, fun _ => rfl, nofun⟩
  · refine ⟨some ⟨g, 0, none⟩, cap, by rw [hn], by omega, nofun, fun ad had => ⟨g, 0, cur, (Option.some.inj had).symm, hB, hg, fun j x hj => ?_⟩⟩
    have h1 : (ints xs)[j]? = some (.int .i64 x) := by simp [ints, hj]
    rw [← ht, List.getElem?_take] at h1
    split at h1
    · simpa using h1
    · cases h1

theorem OwnT.sli {e : TypeId} {w : World} {B : Nat} {v : Value} {xs : List Int} (h : OwnT e w B v xs) : SlI w v xs := by
  obtain ⟨a, c, h1, h2, h3, h4⟩ := h
  refine ⟨a, c, h1, h2, h3, fun j u hj => ?_⟩
  cases a with
  | none =>
    have := h3 rfl
    have h0 : xs = [] := List.eq_nil_of_length_eq_zero (by omega)
    subst h0
    simp [ints] at hj
  | some ad =>
    obtain ⟨g, off, cur, rfl, -, hg, hc⟩ := h4 ad rfl
    simp only [ints, List.getElem?_map, Option.map_eq_some_iff] at hj
    obtain ⟨x, hx, rfl⟩ := hj
    exact ⟨g, off, rfl, by rw [cell_of_row _ _ _ _ _ _ hg]; exact hc j x hx⟩

theorem OwnT.below {e : TypeId} {w w' : World} {B : Nat} {v : Value} {xs : List Int} (h : OwnT e w B v xs) (hb : Below w.heap.size w w') : OwnT e w' B v xs := by
  obtain ⟨a, c, h1, h2, h3, h4⟩ := h
  refine ⟨a, c, h1, h2, h3, fun ad had => ?_⟩
  obtain ⟨g, off, cur, e1, e2, e3, e4⟩ := h4 ad had
  exact ⟨g, off, cur, e1, e2, by rw [hb.block g (Array.getElem?_eq_some_iff.1 e3).1]; exact e3, e4⟩

theorem OwnT.base {e : TypeId} {w : World} {B B' : Nat} {v : Value} {xs : List Int} (h : OwnT e w B v xs) (hB : B' ≤ B) : OwnT e w B' v xs := by
  obtain ⟨a, c, h1, h2, h3, h4⟩ := h
  refine ⟨a, c, h1, h2, h3, fun ad had => ?_⟩
  obtain ⟨g, off, cur, e1, e2, e3⟩ := h4 ad had
  exact ⟨g, off, cur, e1, by omega, e3⟩

/-- x[1:] of a slice of ints of the call's own that is not empty. -/
theorem ownT_tail {P : Program} {t e : TypeId} {w : World} {B n c : Nat} {a : Option Addr} {x : Int} {xs : List Int} (ht : P.underlying t = some (.slice e)) (hsz : ∀ wx, (sizeOf e).run P wx = .ok 1 wx)
    (h : OwnT e w B (.slice a n c) (x :: xs)) :
    ∃ A, (∀ wx, (Instr.slice t (.slice a n c) (some (.int .i64 1)) none none).run P wx = .ok (.slice (some A) xs.length (c - 1)) wx) ∧ OwnT e w B (.slice (some A) xs.length (c - 1)) xs := by
  have he : P.elem t = e := by simp [Program.elem, ht]
  obtain ⟨a', c', h1, h2, h3, h4⟩ := h
  simp only [Value.slice.injEq] at h1
  obtain ⟨rfl, rfl, rfl⟩ := h1
  simp only [List.length_cons] at h2 ⊢
  cases a with
  | none => have := h3 rfl; omega
  | some ad =>
    obtain ⟨g, off, cur, rfl, hB, hg, hc⟩ := h4 ad rfl
    by_cases h1 : c = 1
    · have : xs = [] := List.eq_nil_of_length_eq_zero (by omega)
      subst this
      refine ⟨⟨g, off, none⟩, fun wx => ?_, _, _, rfl, by simp, nofun, fun ad had => ⟨g, off, cur, (Option.some.inj had).symm, hB, hg, by simp⟩⟩
      rw [run_slice_l (P := P) wx t _ _ c (by rw [he]; exact ht) .i64 1 (by omega) (by simp), he, hsz]
      simp [sliced, Result.andThen, h1]
    · refine ⟨⟨g, off + 1, none⟩, fun wx => ?_, _, _, rfl, by omega, nofun, fun ad had => ⟨g, off + 1, cur, (Option.some.inj had).symm, hB, hg, fun j y hj => ?_⟩⟩
      · rw [run_slice_l (P := P) wx t _ _ c (by rw [he]; exact ht) .i64 1 (by omega) (by omega), he, hsz]
        simp [sliced, Result.andThen, h1, Addr.add]
      · have := hc (j + 1) y (by simpa using hj)
        rw [Nat.add_assoc, Nat.add_comm 1 j]; exact this

end Go.Proofs.Ytfgaglgaofceiaa
