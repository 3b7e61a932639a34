/- The memory of the reference's Decide. -/
import Derived.Test.YtacmfiikdbekbaaQGateT
import Derived.Test.YtacmfiikdbekbaaQAppN

namespace Go.Proofs.Ytacmfiikdbekbaa.Ord
open Go.RowKit Go.Conc

def nints (l : List Nat) : List Value := l.map fun (t : Nat) => Value.int .i64 (t : Int)

/-- Decide's memory: the formula's box, what is known, the places and the work. -/
structure DSt (w wr : World) (n : Nat) (acl : Option Addr) (mf cf : Nat) (k : List Int) (us : List Value) (f : Nat → List Nat) (vw : Value) (W : List Int) : Prop where
  bel : Below w.heap.size w wr
  sz : w.heap.size ≤ wr.heap.size
  bx : wr.heap[w.heap.size]? = some (fbox n acl mf cf)
  kb : wr.heap[w.heap.size + 1]? = some (.cells (i8s k).toArray 91 (0, 0))
  pb : wr.heap[w.heap.size + 1 + 1]? = some (.cells us.toArray 22 (0, 0))
  ul : us.length = 2 * n + 2
  rows : ∀ (j : Nat) (u : Value), us[j]? = some u → wr.ownsRow w.heap.size 3 1 u (f j).length (nints (f j))
  apt : ∀ (i j : Nat) (u v : Value) (g : Nat), us[i]? = some u → us[j]? = some v → u.ownBlock = some g → v.ownBlock = some g → i = j
  wk : wr.ownsRow w.heap.size 3 1 vw W.length (ints W)
  wap : ∀ (j : Nat) (u : Value) (g : Nat), us[j]? = some u → u.ownBlock = some g → vw.ownBlock ≠ some g

section
variable {w wr : World} {n : Nat} {acl : Option Addr} {mf cf : Nat} {k : List Int} {us : List Value} {f : Nat → List Nat} {vw : Value} {W : List Int}

theorem DSt.grow (h : DSt w wr n acl mf cf k us f vw W) {w' : World} (hb : Below wr.heap.size wr w') : DSt w w' n acl mf cf k us f vw W := by
  have hf : ∀ {g : Nat} {o : Obj}, wr.heap[g]? = some o → w'.heap[g]? = some o := fun hg => (hb.block _ (Array.getElem?_eq_some_iff.1 hg).1).trans hg
  exact ⟨h.bel.trans (hb.mono h.sz), Nat.le_trans h.sz hb.size, hf h.bx, hf h.kb, hf h.pb, h.ul, fun j u hu => own_below (h.rows j u hu) hb, h.apt, own_below h.wk hb, h.wap⟩

theorem DSt.drewN (h : DSt w wr n acl mf cf k us f vw W) (nd : Nat) : DSt w (wr.drewN nd) n acl mf cf k us f vw W := h.grow (below_dr (Below.refl _ _) nd)

theorem DSt.cells (h : DSt w wr n acl mf cf k us f vw W) : wr.cell? ⟨w.heap.size, 0, none⟩ = some (.int .i64 n) ∧ wr.cell? ⟨w.heap.size, 1, none⟩ = some (.slice acl mf cf) :=
  ⟨fit_cell (vs := [.int .i64 n, .slice acl mf cf]) h.bx 0, fit_cell (vs := [.int .i64 n, .slice acl mf cf]) h.bx 1⟩

theorem DSt.ks (h : DSt w wr n acl mf cf k us f vw W) : SlV wr (some ⟨w.heap.size + 1, 0, none⟩) (i8s k) := fun j v hj => ⟨_, _, rfl, by rw [Nat.zero_add, fit_cell h.kb j]; exact hj⟩

theorem DSt.row (h : DSt w wr n acl mf cf k us f vw W) {j : Nat} (hj : j < 2 * n + 2) : ∃ a c, us[j]? = some (.slice a (f j).length c) ∧ wr.cell? ⟨w.heap.size + 1 + 1, j, none⟩ = some (.slice a (f j).length c) ∧ wr.ownsRow w.heap.size 3 1 (.slice a (f j).length c) (f j).length (nints (f j)) := by
  have hjl : j < us.length := by have := h.ul; omega
  have hu : us[j]? = some us[j] := List.getElem?_eq_getElem hjl
  have ho := h.rows j _ hu
  obtain ⟨a, c, e⟩ := own_lenV' ho
  rw [e] at hu ho
  exact ⟨a, c, hu, (fit_cell h.pb j).trans hu, ho⟩

/-- An append to the work. w1 is the world in which it runs. -/
theorem DSt.push (h : DSt w wr n acl mf cf k us f vw W) {w1 w6 : World} {v' : Value} {W' : List Int} {m : Nat} (h1 : Below wr.heap.size wr w1) (ho : w6.ownsRow w.heap.size 3 1 v' m (ints W')) (hm : m = W'.length) (hg : w1.grownBy w6 vw.ownBlock) (ha : v'.ownBlock = vw.ownBlock ∨ v'.ownBlock = some w1.heap.size) : DSt w w6 n acl mf cf k us f v' W' := by
  have hsz := h.sz
  have hs1 := h1.size
  have hs6 := hg.size
  have hlt : ∀ {g : Nat} {o : Obj}, wr.heap[g]? = some o → g < wr.heap.size := fun hg => (Array.getElem?_eq_some_iff.1 hg).1
  refine ⟨below_app h.bel h.sz h1 h.wk hg, by omega, blk_app h1 h.wk hg h.bx (by decide), blk_app h1 h.wk hg h.kb (by decide), blk_app h1 h.wk hg h.pb (by decide), h.ul, fun j u hu => ?_, h.apt, by rw [← hm]; exact ho, fun j u g hu hug => ?_⟩
  · have hr := h.rows j u hu
    refine own_frame0 hr fun g hug => ?_
    have hgl := (hr.lt g hug).2
    exact (hg.block g (by omega) (fun e => h.wap j u g hu hug e.symm)).trans (h1.block g hgl)
  · rcases ha with e | e
    · rw [e]; exact h.wap j u g hu hug
    · rw [e]
      intro e2
      injection e2 with e2
      have := ((h.rows j u hu).lt g hug).2
      omega

/-- An append to the row of a place, and the store. -/
theorem DSt.put (h : DSt w wr n acl mf cf k us f vw W) {w1 w6 : World} {u v' : Value} {at' : Nat} {f' : Nat → List Nat} (hu : us[at']? = some u) (h1 : Below wr.heap.size wr w1) (ho : w6.ownsRow w.heap.size 3 1 v' (f' at').length (nints (f' at'))) (hg : w1.grownBy w6 u.ownBlock) (ha : v'.ownBlock = u.ownBlock ∨ v'.ownBlock = some w1.heap.size)
    (hf : ∀ j, j ≠ at' → f' j = f j) : DSt w (w6.setCell ⟨w.heap.size + 1 + 1, at', none⟩ v') n acl mf cf k (us.set at' v') f' vw W := by
  have hsz := h.sz
  have hs1 := h1.size
  have hs6 := hg.size
  have hur := h.rows at' u hu
  have hpb6 := blk_app h1 hur hg h.pb (by decide)
  have hb6 := below_app h.bel h.sz h1 hur hg
  have hset : ∀ {g : Nat} {o : Obj}, g ≠ w.heap.size + 1 + 1 → w6.heap[g]? = some o → (w6.setCell ⟨w.heap.size + 1 + 1, at', none⟩ v').heap[g]? = some o := fun hne he => (heap_setCell_other w6 ⟨w.heap.size + 1 + 1, at', none⟩ _ v' hne).trans he
  have hlen : at' < us.length := (List.getElem?_eq_some_iff.1 hu).1
  have hget : ∀ (j : Nat) (x : Value), (us.set at' v')[j]? = some x → (j = at' ∧ x = v') ∨ (j ≠ at' ∧ us[j]? = some x) := fun j x hj => by
    rw [List.getElem?_set] at hj
    by_cases e : at' = j
    · subst e
      rw [if_pos rfl, if_pos hlen] at hj
      injection hj with hj
      exact .inl ⟨rfl, hj.symm⟩
    · rw [if_neg e] at hj
      exact .inr ⟨fun q => e q.symm, hj⟩
  have hnew : ∀ (g : Nat), v'.ownBlock = some g → u.ownBlock = some g ∨ wr.heap.size ≤ g := fun g hg' => by
    rcases ha with e | e
    · exact .inl (e ▸ hg')
    · rw [e] at hg'
      injection hg' with hg'
      right; omega
  refine ⟨hb6.setCell (by show w.heap.size ≤ w.heap.size + 1 + 1; omega) _, by simp [World.setCell]; omega, hset (by omega) (blk_app h1 hur hg h.bx (by decide)), hset (by omega) (blk_app h1 hur hg h.kb (by decide)), setCell_blockG _ hpb6, by rw [List.length_set]; exact h.ul, fun j x hj => ?_, fun i j x y g hi hj hxg hyg => ?_, ?_, fun j x g hj hxg => ?_⟩
  · rcases hget j x hj with ⟨rfl, rfl⟩ | ⟨hne, hj'⟩
    · exact own_setO ho hpb6 (by decide) _ _
    · rw [hf j hne]
      have hr := h.rows j x hj'
      refine own_setO (own_frame0 hr fun g hug => ?_) hpb6 (by decide) _ _
      have hgl := (hr.lt g hug).2
      exact (hg.block g (by omega) (fun e => hne (h.apt j at' x u g hj' hu hug e.symm))).trans (h1.block g hgl)
  · rcases hget i x hi with ⟨rfl, rfl⟩ | ⟨hni, hi'⟩ <;> rcases hget j y hj with ⟨rfl, rfl⟩ | ⟨hnj, hj'⟩
    · rfl
    · rcases hnew g hxg with e | e
      · exact h.apt _ _ u y g hu hj' e hyg
      · have := ((h.rows j y hj').lt g hyg).2
        omega
    · rcases hnew g hyg with e | e
      · exact h.apt _ _ x u g hi' hu hxg e
      · have := ((h.rows i x hi').lt g hxg).2
        omega
    · exact h.apt i j x y g hi' hj' hxg hyg
  · refine own_setO (own_frame0 h.wk fun g hug => ?_) hpb6 (by decide) _ _
    have hgl := (h.wk.lt g hug).2
    exact (hg.block g (by omega) (fun e => h.wap at' u g hu e.symm hug)).trans (h1.block g hgl)
  · rcases hget j x hj with ⟨rfl, rfl⟩ | ⟨hne, hj'⟩
    · rcases hnew g hxg with e | e
      · exact h.wap _ u g hu e
      · intro e2
        have := (h.wk.lt g e2).2
        omega
    · exact h.wap j x g hj' hxg

/-- One number of what is known is set. -/
theorem DSt.setK (h : DSt w wr n acl mf cf k us f vw W) (j : Nat) (x : Int) : DSt w (wr.setCell ⟨w.heap.size + 1, j, none⟩ (.int .i8 x)) n acl mf cf (k.set j x) us f vw W := by
  have hset : ∀ {g : Nat} {o : Obj}, g ≠ w.heap.size + 1 → wr.heap[g]? = some o → (wr.setCell ⟨w.heap.size + 1, j, none⟩ (.int .i8 x)).heap[g]? = some o := fun hne he => (heap_setCell_other wr ⟨w.heap.size + 1, j, none⟩ _ _ hne).trans he
  refine ⟨h.bel.setCell (by show w.heap.size ≤ w.heap.size + 1; omega) _, by simpa [World.setCell] using h.sz, hset (by omega) h.bx, ?_, hset (by omega) h.pb, h.ul, fun i u hu => own_setO (h.rows i u hu) h.kb (by decide) _ _, h.apt, own_setO h.wk h.kb (by decide) _ _, h.wap⟩
  have := setCell_blockG (o := j) (.int .i8 x) h.kb
  rw [this]
  simp [i8s, List.map_set]

/-- The work cut short. -/
theorem DSt.cut {a : Option Addr} {m c : Nat} {x : Int} {V : List Int} (h : DSt w wr n acl mf cf k us f (.slice a m c) (V ++ [x])) : DSt w wr n acl mf cf k us f (.slice a V.length c) V := by
  obtain ⟨e1, e2, e3⟩ := own_cap h.wk
  have hl : (V ++ [x]).length = V.length + 1 := by simp
  subst e1
  refine ⟨h.bel, h.sz, h.bx, h.kb, h.pb, h.ul, h.rows, h.apt, ?_, fun j u g hu hug e => h.wap j u g hu hug ?_⟩
  · have := own_take (k := V.length) h.wk (by omega) (fun e => by have := e3 e; omega)
    have ht : (ints (V ++ [x])).take V.length = ints V := by simp [ints]
    rw [ht] at this
    exact this
  · cases a with
    | none => cases e
    | some ad => exact e

/-- How many numbers in memory are 0. -/
def opnAt (w : World) (b : Nat) : Nat := match w.heap[b]? with
  | some (.cells cs _ _) => cs.toList.countP fun v => match v with | .int .i8 x => x == 0 | _ => false
  | _ => 0

theorem DSt.opnAt (h : DSt w wr n acl mf cf k us f vw W) : Ord.opnAt wr (w.heap.size + 1) = opn k := by
  unfold Ord.opnAt
  rw [h.kb]
  simp only [opn, i8s, List.countP_map]
  rfl

/-- The length of a slice. -/
def lenV : Value → Nat
  | .slice _ m _ => m
  | _ => 0

theorem DSt.lenV (h : DSt w wr n acl mf cf k us f vw W) : Ord.lenV vw = W.length := by
  obtain ⟨a, c, rfl⟩ := own_lenV' h.wk
  rfl

end

end Go.Proofs.Ytacmfiikdbekbaa.Ord
