/- How prop's state lies in memory while Units builds it. -/
import Derived.Test.YtfgaglgaofceiaaPropR
import Derived.Maps.AppendAt
namespace Go.Proofs.Ytfgaglgaofceiaa.Ord
open Go.RowKit Go.Conc

theorem own_frame0 {w w' : World} {B e s n : Nat} {v : Value} {xs : List Value} (h : w.ownsRow B e s v n xs) (hk : ∀ g, v.ownBlock = some g → w'.heap[g]? = w.heap[g]?) : w'.ownsRow B e s v n xs := by
  refine ⟨h.1, ?_⟩
  rcases h.2 with h0 | ⟨g, cap, cur, e1, e2, e3, e4⟩
  · exact .inl h0
  · exact .inr ⟨g, cap, cur, e1, e2, by rw [hk g (by rw [e1]; rfl)]; exact e3, e4⟩
theorem own_lenV' {w : World} {B e s n : Nat} {v : Value} {xs : List Value} (h : w.ownsRow B e s v n xs) : ∃ a c, v = .slice a n c := by
  rcases h.2 with ⟨rfl, rfl⟩ | ⟨g, cap, cur, rfl, _⟩
  · exact ⟨_, _, rfl⟩
  · exact ⟨_, _, rfl⟩
theorem own_slv {w : World} {B e n m c : Nat} {a : Option Addr} {xs : List Value} (h : w.ownsRow B e 1 (.slice a n c) m xs) : SlV w a xs := by
  obtain ⟨a', c', h1, -, -, h4⟩ := own_sl h
  injection h1 with h5
  rw [h5]
  exact h4
theorem own_zero {w : World} {B e n : Nat} {v : Value} {xs : List Value} (h : w.ownsRow B e 1 v n xs) : w.ownsRow 0 e 1 v n xs := ⟨h.1, h.2.imp_right fun ⟨g, cap, cur, e1, _, e3⟩ => ⟨g, cap, cur, e1, Nat.zero_le _, e3⟩⟩

theorem own_rebase {w : World} {B e n : Nat} {v : Value} {xs : List Value} (h : w.ownsRow 0 e 1 v n xs) (hB : ∀ g, v.ownBlock = some g → B ≤ g) : w.ownsRow B e 1 v n xs := ⟨h.1, h.2.imp_right fun ⟨g, cap, cur, e1, _, e3⟩ => ⟨g, cap, cur, e1, hB g (by rw [e1]; rfl), e3⟩⟩

theorem Touch.trans' {S T : Nat → Prop} {a b c : World} (h : Touch S a b) (k : Touch T b c) (hs : ∀ i, i < a.heap.size → T i → S i) : Touch S a c :=
  ⟨k.os.trans h.os, k.tape.trans h.tape, k.output.trans h.output, Nat.le_trans h.size k.size, fun i hi hn => (k.block i (by have := h.size; omega) (fun e => hn (hs i hi e))).trans (h.block i hi hn)⟩

/-- What a block of ints of the call's own is for. -/
inductive Tag where
  | cls
  | opn
  | wth (k : Int)

def nilS : Value := .slice none 0 0

/-- A clause's literals in a block that is for clauses. -/
def OwnTg (w : World) (tag : Nat → Tag) (u : Value) (xs : List Int) : Prop :=
  ∃ a c, u = .slice a xs.length c ∧ xs.length ≤ c ∧ (a = none → c = 0) ∧ ∀ ad, a = some ad → ∃ g off cur, ad = ⟨g, off, none⟩ ∧ tag g = .cls ∧ w.heap[g]? = some (.cells cur 3 (0, 0)) ∧ ∀ j x, xs[j]? = some x → cur[off + j]? = some (.int .i64 x)

theorem OwnTg.frame {w w' : World} {tag tag' : Nat → Tag} {u : Value} {xs : List Int} (h : OwnTg w tag u xs) (hk : ∀ g, g < w.heap.size → tag g = .cls → w'.heap[g]? = w.heap[g]? ∧ tag' g = .cls) : OwnTg w' tag' u xs := by
  obtain ⟨a, c, h1, h2, h3, h4⟩ := h
  refine ⟨a, c, h1, h2, h3, fun ad had => ?_⟩
  obtain ⟨g, off, cur, e1, e2, e3, e4⟩ := h4 ad had
  obtain ⟨q1, q2⟩ := hk g (Array.getElem?_eq_some_iff.1 e3).1 e2
  exact ⟨g, off, cur, e1, q2, q1.trans e3, e4⟩

theorem OwnTg.sli {w : World} {tag : Nat → Tag} {u : Value} {xs : List Int} (h : OwnTg w tag u xs) : SlI w u xs := by
  obtain ⟨a, c, h1, h2, h3, h4⟩ := h
  refine ⟨a, c, h1, h2, h3, fun j v hj => ?_⟩
  cases a with
  | none =>
    have h0 : xs = [] := List.length_eq_zero_iff.1 (by have := h3 rfl; omega)
    subst h0
    cases hj
  | some ad =>
    obtain ⟨g, off, cur, rfl, -, e3, e4⟩ := h4 ad rfl
    simp only [ints, List.getElem?_map, Option.map_eq_some_iff] at hj
    obtain ⟨x, hx, rfl⟩ := hj
    refine ⟨g, off, rfl, ?_⟩
    rw [cell_of_row _ _ _ _ _ _ e3]
    exact e4 j x hx

structure BSt (tag : Nat → Tag) (B : Nat) (w0 w : World) (bx : Nat) (vc vo : Value) (bw bk bc cap : Nat) (C : List (List Int)) (f : Int → List Int) (es : List (Int × Value)) (K : List Int) : Prop where
  bel : Below B w0 w
  le : B ≤ w.heap.size
  blk : w.heap[bx]? = some (.cells #[vc, vo, .map (some bw), .map (some bk), .chan (some bc)] 75)
  bxB : B ≤ bx
  cls : ∃ us, w.ownsRow B 22 1 vc C.length us ∧ ∀ (i : Nat) xs, C[i]? = some xs → ∃ u, us[i]? = some u ∧ OwnTg w tag u xs
  op : w.ownsRow B 3 1 vo C.length (ints (C.map fun c => (c.length : Int)))
  opt : ∀ g, vo.ownBlock = some g → tag g = .opn
  wi : IM w bw es
  wB : B ≤ bw
  wr : ∀ k, w.ownsRow B 3 1 ((aget es k).getD nilS) (f k).length (ints (f k))
  wt : ∀ k g, ((aget es k).getD nilS).ownBlock = some g → tag g = .wth k
  kn : IM w bk (kes K)
  kB : B ≤ bk
  ch : w.heap[bc]? = some (.chan cap (ints K).toArray false K.length 0 false)
  cB : B ≤ bc
  ne : bw ≠ bk

section
variable {tag : Nat → Tag} {B : Nat} {w0 w : World} {bx : Nat} {vc vo : Value} {bw bk bc cap : Nat} {C : List (List Int)} {f : Int → List Int} {es : List (Int × Value)} {K : List Int}

theorem own_cells {e n : Nat} {v : Value} {xs : List Value} (h : w.ownsRow B e 1 v n xs) {g : Nat} (hg : v.ownBlock = some g) : ∃ cur, w.heap[g]? = some (.cells cur e (0, 0)) := by
  rcases h.2 with ⟨rfl, _⟩ | ⟨g', cap', cur, rfl, _, hh, _⟩
  · cases hg
  · simp only [Value.ownBlock, Option.some.injEq] at hg
    subst hg
    exact ⟨cur, hh⟩

/-- All that was there is as it was. -/
theorem BSt.grow (h : BSt tag B w0 w bx vc vo bw bk bc cap C f es K) {w' : World} (hb : Below w.heap.size w w') {tag' : Nat → Tag} (ht : ∀ g, g < w.heap.size → tag' g = tag g) : BSt tag' B w0 w' bx vc vo bw bk bc cap C f es K := by
  have hf : ∀ k, k < w.heap.size → w'.heap[k]? = w.heap[k]? := fun k hk => hb.block k hk
  obtain ⟨us, hu1, hu2⟩ := h.cls
  refine ⟨h.bel.trans (hb.mono h.le), Nat.le_trans h.le hb.size, (hf bx (Array.getElem?_eq_some_iff.1 h.blk).1).trans h.blk, h.bxB, ⟨us, own_frame0 hu1 fun g hg => hf g (hu1.lt g hg).2, fun i xs hi => ?_⟩, own_frame0 h.op fun g hg => hf g (h.op.lt g hg).2, fun g hg => (ht g (h.op.lt g hg).2).trans (h.opt g hg), h.wi.frame (hf bw h.wi.lt), h.wB, fun k => own_frame0 (h.wr k) fun g hg => hf g ((h.wr k).lt g hg).2, fun k g hg => (ht g ((h.wr k).lt g hg).2).trans (h.wt k g hg), h.kn.frame (hf bk h.kn.lt), h.kB, (hf bc (Array.getElem?_eq_some_iff.1 h.ch).1).trans h.ch, h.cB, h.ne⟩
  obtain ⟨u, hu, ho⟩ := hu2 i xs hi
  exact ⟨u, hu, ho.frame fun g hg ht' => ⟨hf g hg, (ht g hg).trans ht'⟩⟩

theorem BSt.drewB (h : BSt tag B w0 w bx vc vo bw bk bc cap C f es K) : BSt tag B w0 w.drew bx vc vo bw bk bc cap C f es K := h.grow (below_dr (Below.refl _ _) 1) fun _ _ => rfl

/-- The blocks that set, unit and run write. -/
def wS (vo : Value) (bk bc k : Nat) : Prop := vo.ownBlock = some k ∨ k = bk ∨ k = bc

theorem BSt.notS (h : BSt tag B w0 w bx vc vo bw bk bc cap C f es K) : ¬ wS vo bk bc bx ∧ (∀ g, vc.ownBlock = some g → ¬ wS vo bk bc g) ∧ ¬ wS vo bk bc bw ∧ (∀ g, tag g = .cls → g < w.heap.size → (∃ cur, w.heap[g]? = some (.cells cur 3 (0, 0))) → ¬ wS vo bk bc g) ∧ ∀ k g, ((aget es k).getD nilS).ownBlock = some g → ¬ wS vo bk bc g := by
  obtain ⟨arrk, ck, hkm, -⟩ := h.kn
  obtain ⟨arrw, cw, hwm, -⟩ := h.wi
  obtain ⟨us, hu1, hu2⟩ := h.cls
  have hvo : ∀ g, vo.ownBlock = some g → ∃ cur, w.heap[g]? = some (.cells cur 3 (0, 0)) := fun g hg => own_cells h.op hg
  refine ⟨?_, fun g hg => ?_, ?_, fun g ht hl hc => ?_, fun k g hg => ?_⟩
  · rintro (e | e | e)
    · obtain ⟨cur, hc⟩ := hvo _ e; rw [h.blk] at hc; simp at hc
    · rw [← e, h.blk] at hkm; cases hkm
    · have := h.ch; rw [← e, h.blk] at this; cases this
  · obtain ⟨cur, hc⟩ := own_cells hu1 hg
    rintro (e | e | e)
    · obtain ⟨cur2, hc2⟩ := hvo _ e; rw [hc] at hc2; simp at hc2
    · rw [← e, hc] at hkm; cases hkm
    · have := h.ch; rw [← e, hc] at this; cases this
  · rintro (e | e | e)
    · obtain ⟨cur2, hc2⟩ := hvo _ e; rw [hwm] at hc2; cases hc2
    · exact h.ne e
    · have := h.ch; rw [← e, hwm] at this; cases this
  · obtain ⟨cur, hc⟩ := hc
    rintro (e | e | e)
    · have := h.opt g e; rw [ht] at this; cases this
    · rw [← e, hc] at hkm; cases hkm
    · have := h.ch; rw [← e, hc] at this; cases this
  · obtain ⟨cur, hc⟩ := own_cells (h.wr k) hg
    have ht := h.wt k g hg
    rintro (e | e | e)
    · have := h.opt g e; rw [ht] at this; cases this
    · rw [← e, hc] at hkm; cases hkm
    · have := h.ch; rw [← e, hc] at this; cases this

theorem BSt.fix (h : BSt tag B w0 w bx vc vo bw bk bc cap C f es K) : Fix (wS vo bk bc) w bx vc vo bw bk bc C f es := fun w' ht => by
  obtain ⟨n1, n2, n3, n4, n5⟩ := h.notS
  obtain ⟨us, hu1, hu2⟩ := h.cls
  refine ⟨(ht.block bx (Array.getElem?_eq_some_iff.1 h.blk).1 n1).trans h.blk, ?_, h.wi.frame (ht.block bw h.wi.lt n3), fun k => ?_⟩
  · have hu1' : w'.ownsRow B 22 1 vc C.length us := own_frame0 hu1 fun g hg => ht.block g (hu1.lt g hg).2 (n2 g hg)
    obtain ⟨a, c, rfl⟩ := own_lenV' hu1
    refine ⟨a, c, rfl, fun i xs hi => ?_⟩
    obtain ⟨u, hu, ho⟩ := hu2 i xs hi
    obtain ⟨g, o, he, hc⟩ := (own_slv hu1') i u hu
    have ho' : OwnTg w' tag u xs := by
      obtain ⟨a, c, h1, h2, h3, h4⟩ := ho
      refine ⟨a, c, h1, h2, h3, fun ad had => ?_⟩
      obtain ⟨g, off, cur, e1, e2, e3, e4⟩ := h4 ad had
      exact ⟨g, off, cur, e1, e2, (ht.block g (Array.getElem?_eq_some_iff.1 e3).1 (n4 g e2 (Array.getElem?_eq_some_iff.1 e3).1 ⟨cur, e3⟩)).trans e3, e4⟩
    exact ⟨g, o, u, he, hc, ho'.sli⟩
  · exact own_sli (own_frame0 (h.wr k) fun g hg => ht.block g ((h.wr k).lt g hg).2 (n5 k g hg))

theorem BSt.dyn (h : BSt tag B w0 w bx vc vo bw bk bc cap C f es K) : Dyn (wS vo bk bc) w vo bk bc cap (C.map fun c => (c.length : Int)) K 0 :=
  ⟨by have := h.op; unfold Rw; rw [List.length_map]; exact own_zero this, h.kn, h.ch, fun k hk => .inl hk, .inr (.inl rfl), .inr (.inr rfl), Nat.zero_le _⟩

/-- What set did. -/
theorem BSt.set (h : BSt tag B w0 w bx vc vo bw bk bc cap C f es K) {w' : World} {K' : List Int} (hD : Dyn (wS vo bk bc) w' vo bk bc cap (C.map fun c => (c.length : Int)) K' 0) (ht : Touch (wS vo bk bc) w w') : BSt tag B w0 w' bx vc vo bw bk bc cap C f es K' := by
  obtain ⟨n1, n2, n3, n4, n5⟩ := h.notS
  obtain ⟨us, hu1, hu2⟩ := h.cls
  have hO : w'.ownsRow B 3 1 vo C.length (ints (C.map fun c => (c.length : Int))) := by
    have := hD.op
    unfold Rw at this
    rw [List.length_map] at this
    exact own_rebase this fun g hg => (h.op.lt g hg).1
  have hlow : ∀ k, wS vo bk bc k → B ≤ k := by
    rintro k (e | e | e)
    · exact (h.op.lt k e).1
    · rw [e]; exact h.kB
    · rw [e]; exact h.cB
  refine ⟨h.bel.trans (ht.below h.le hlow), Nat.le_trans h.le ht.size, (ht.block bx (Array.getElem?_eq_some_iff.1 h.blk).1 n1).trans h.blk, h.bxB, ⟨us, own_frame0 hu1 fun g hg => ht.block g (hu1.lt g hg).2 (n2 g hg), fun i xs hi => ?_⟩, hO, h.opt, h.wi.frame (ht.block bw h.wi.lt n3), h.wB, fun k => own_frame0 (h.wr k) fun g hg => ht.block g ((h.wr k).lt g hg).2 (n5 k g hg), h.wt, hD.kn, h.kB, hD.ch, h.cB, h.ne⟩
  obtain ⟨u, hu, ho⟩ := hu2 i xs hi
  obtain ⟨a, c, h1, h2, h3, h4⟩ := ho
  refine ⟨u, hu, a, c, h1, h2, h3, fun ad had => ?_⟩
  obtain ⟨g, off, cur, e1, e2, e3, e4⟩ := h4 ad had
  exact ⟨g, off, cur, e1, e2, (ht.block g (Array.getElem?_eq_some_iff.1 e3).1 (n4 g e2 (Array.getElem?_eq_some_iff.1 e3).1 ⟨cur, e3⟩)).trans e3, e4⟩

end

/-- append of one element that was laid into a block of its own, as a step of a region whose order is open. -/
theorem step_append_at1 {P : Program} {w : World} {ops : Array Oper} {o : Oper} {a : Act} {K : Act → World → Prop} {Q : Exit → Act → World → Prop} {E : Prop} (hgd : o.guard = none) (s x : Operand) (t : TypeId)
    (ho : o.op = .call { callee := .builtin .append, args := #[s, x], argTypes := #[t, t] })
    (base : Nat) (e : TypeId) (i : TypeInfo) (z : Value) (bytes : Nat) (ht : P.underlying t = some (.slice e)) (hi : P.info? e = some i) (hz : i.zero = some z)
    (hsize : i.size = 1) (hby : i.bytes = bytes) (hzs : z.cells.size = 1)
    (v : Value) (n : Nat) (xs : List Value) (hs : a.eval s = v) (hown : w.ownsRow base e 1 v n xs)
    (g : Nat) (u : Value) (hx : a.eval x = .slice (some ⟨g, 0, none⟩) 1 1) (hc : w.heap[g]? = some (.cells #[u] e (0, 0))) (h1 : u.oneCell' = true)
    (h63 : n + 1 ≤ maxLen) (hbytes : (n + 1) * bytes ≤ 140737488355328) (hbase : base ≤ w.heap.size)
    (h : ∀ v' w', w'.ownsRow base e 1 v' (n + 1) (xs ++ [u]) → w.grownBy w' v.ownBlock → (v'.ownBlock = v.ownBlock ∨ v'.ownBlock = some w.heap.size) → K (a.put o.dst v') w') :
    if Region.wanted o (yielded ops a.tmps) = true then Oper.wp P o a w K Q else E := by
  have hw : Region.wanted o (yielded ops a.tmps) = true := by simp [Region.wanted, hgd]
  rw [if_pos hw]
  have hnews : ∀ j y, [u][j]? = some y → w.cell? ((⟨g, 0, none⟩ : Addr).add j) = some y := by
    intro j y hj
    match j, hj with
    | 0, hj =>
      simp at hj
      subst hj
      show w.cell? ⟨g, 0, none⟩ = _
      rw [cell_of_row _ _ _ _ _ _ hc]
      simp
  obtain ⟨v', w', hr, h2, h3, -, h4⟩ := run_append_own_at (P := P) w base t o.type e i z 1 bytes ht hi hz hsize hby hzs (by decide) v n xs hown ⟨g, 0, none⟩ 1 1 [u] rfl hnews (by intro y hy; simp at hy; rw [hy]; exact h1) h63 hbytes hbase
  unfold Oper.wp execOp
  simp only [ho, resolve, invoke, builtin, Sem.run_bind, Sem.run_pure, Result.andThen_ok, List.map_toArray, List.map_cons, List.map_nil, hs, hx, hr]
  exact h v' w' h2 h3 h4

section
variable {tag : Nat → Tag} {B : Nat} {w0 w : World} {bx : Nat} {vc vo : Value} {bw bk bc cap : Nat} {C : List (List Int)} {f : Int → List Int} {es : List (Int × Value)} {K : List Int}

theorem setCells2 {w : World} {b : Nat} {e : TypeId} {x0 x1 x2 x3 x4 y0 y1 : Value} (h : w.heap[b]? = some (.cells #[x0, x1, x2, x3, x4] e (0, 0))) :
    ((w.setCell ⟨b, 0, none⟩ y0).setCell ⟨b, 1, none⟩ y1).heap[b]? = some (.cells #[y0, y1, x2, x3, x4] e (0, 0)) := by
  have h1 := setCell_block (o := 0) y0 (xs := [x0, x1, x2, x3, x4]) h
  have h2 := setCell_block (o := 1) y1 (xs := [y0, x1, x2, x3, x4]) h1
  exact h2

/-- A clause came in. -/
theorem BSt.add (h : BSt tag B w0 w bx vc vo bw bk bc cap C f es K) {l : List Int} {u : Value} (hu : OwnTg w tag u l) {us : List Value} (hu1 : w.ownsRow B 22 1 vc C.length us) (hu2 : ∀ (i : Nat) xs, C[i]? = some xs → ∃ u, us[i]? = some u ∧ OwnTg w tag u xs)
    {w9 : World} {v8 v9 : Value} (ht : Touch (fun k => vc.ownBlock = some k ∨ vo.ownBlock = some k) w w9) (h8 : w9.ownsRow B 22 1 v8 (C.length + 1) (us ++ [u])) (h9 : w9.ownsRow B 3 1 v9 (C.length + 1) (ints (C.map fun c => (c.length : Int)) ++ [.int .i64 (l.length : Int)]))
    (a9 : v9.ownBlock = vo.ownBlock ∨ ∃ g, v9.ownBlock = some g ∧ w.heap.size ≤ g) :
    BSt (fun g => if g < w.heap.size then tag g else .opn) B w0 ((w9.setCell ⟨bx, 0, none⟩ v8).setCell ⟨bx, 1, none⟩ v9) bx v8 v9 bw bk bc cap (C ++ [l]) f es K ∧ OwnTg ((w9.setCell ⟨bx, 0, none⟩ v8).setCell ⟨bx, 1, none⟩ v9) (fun g => if g < w.heap.size then tag g else .opn) u l := by
  have hbxl := (Array.getElem?_eq_some_iff.1 h.blk).1
  obtain ⟨n1, n2, n3, n4, n5⟩ := h.notS
  have htT : ∀ g, g < w.heap.size → (if g < w.heap.size then tag g else .opn) = tag g := fun g hg => by rw [if_pos hg]
  obtain ⟨arrk, ck, hkm, -⟩ := h.kn
  obtain ⟨arrw, cw, hwm, -⟩ := h.wi
  have hbv : ¬ (vc.ownBlock = some bx ∨ vo.ownBlock = some bx) := by
    rintro (e | e)
    · obtain ⟨cur, hc⟩ := own_cells hu1 e; rw [h.blk] at hc; simp at hc
    · exact n1 (.inl e)
  have hb9 : w9.heap[bx]? = some (.cells #[vc, vo, .map (some bw), .map (some bk), .chan (some bc)] 75) := (ht.block bx hbxl hbv).trans h.blk
  have hset : ∀ k, k ≠ bx → ((w9.setCell ⟨bx, 0, none⟩ v8).setCell ⟨bx, 1, none⟩ v9).heap[k]? = w9.heap[k]? := fun k hk => (Below.heap_setCell _ ⟨bx, 1, none⟩ v9 k hk).trans (Below.heap_setCell _ ⟨bx, 0, none⟩ v8 k hk)
  have hT : Touch (fun k => k = bx ∨ vc.ownBlock = some k ∨ vo.ownBlock = some k) w ((w9.setCell ⟨bx, 0, none⟩ v8).setCell ⟨bx, 1, none⟩ v9) :=
    ((ht.mono fun k _ hk => .inr hk).setCell (p := ⟨bx, 0, none⟩) (.inl rfl) v8).setCell (p := ⟨bx, 1, none⟩) (.inl rfl) v9
  have hlow : ∀ k, (k = bx ∨ vc.ownBlock = some k ∨ vo.ownBlock = some k) → B ≤ k := by
    rintro k (e | e | e)
    · rw [e]; exact h.bxB
    · exact (hu1.lt k e).1
    · exact (h.op.lt k e).1
  have hblk : ∀ k, k < w.heap.size → k ≠ bx → vc.ownBlock ≠ some k → vo.ownBlock ≠ some k → ((w9.setCell ⟨bx, 0, none⟩ v8).setCell ⟨bx, 1, none⟩ v9).heap[k]? = w.heap[k]? := fun k hk h1 h2 h3 =>
    hT.block k hk (by rintro (e | e | e); exact h1 e; exact h2 e; exact h3 e)
  have hint : ∀ g cur, w.heap[g]? = some (.cells cur 3 (0, 0)) → g ≠ bx ∧ vc.ownBlock ≠ some g := fun g cur hg =>
    ⟨fun e => by rw [e, h.blk] at hg; simp at hg, fun e => by obtain ⟨c2, hc2⟩ := own_cells hu1 e; rw [hg] at hc2; simp at hc2⟩
  have hO : ∀ {u : Value} {xs : List Int}, OwnTg w tag u xs → OwnTg ((w9.setCell ⟨bx, 0, none⟩ v8).setCell ⟨bx, 1, none⟩ v9) (fun g => if g < w.heap.size then tag g else .opn) u xs := fun {u xs} ho => by
    obtain ⟨a, c, h1, h2, h3, h4⟩ := ho
    refine ⟨a, c, h1, h2, h3, fun ad had => ?_⟩
    obtain ⟨g, off, cur, e1, e2, e3, e4⟩ := h4 ad had
    have hl := (Array.getElem?_eq_some_iff.1 e3).1
    exact ⟨g, off, cur, e1, by show (if g < w.heap.size then tag g else .opn) = .cls; rw [if_pos hl]; exact e2, (hblk g hl (hint g cur e3).1 (hint g cur e3).2 (fun e => by have := h.opt g e; rw [e2] at this; cases this)).trans e3, e4⟩
  have hne8 : ∀ g, v8.ownBlock = some g → g ≠ bx := fun g hg e => by
    obtain ⟨cur, hc⟩ := own_cells h8 hg; rw [e, hb9] at hc; simp at hc
  have hne9 : ∀ g, v9.ownBlock = some g → g ≠ bx := fun g hg e => by
    obtain ⟨cur, hc⟩ := own_cells h9 hg; rw [e, hb9] at hc; simp at hc
  refine ⟨?_, hO hu⟩
  refine ⟨h.bel.trans (hT.below h.le hlow), Nat.le_trans h.le hT.size, setCells2 hb9, h.bxB, ⟨us ++ [u], ?_, fun i xs hi => ?_⟩, ?_, fun g hg => ?_, h.wi.frame (hblk bw h.wi.lt (fun e => by rw [e, h.blk] at hwm; cases hwm) (fun e => by obtain ⟨c2, hc2⟩ := own_cells hu1 e; rw [hwm] at hc2; cases hc2) (fun e => n3 (.inl e))), h.wB, fun k => own_frame0 (h.wr k) fun g hg => ?_, fun k g hg => ?_, h.kn.frame (hblk bk h.kn.lt (fun e => by rw [e, h.blk] at hkm; cases hkm) (fun e => by obtain ⟨c2, hc2⟩ := own_cells hu1 e; rw [hkm] at hc2; cases hc2) (fun e => by obtain ⟨c2, hc2⟩ := own_cells h.op e; rw [hkm] at hc2; cases hc2)), h.kB, (hblk bc (Array.getElem?_eq_some_iff.1 h.ch).1 (fun e => by have := h.ch; rw [e, h.blk] at this; cases this) (fun e => by obtain ⟨c2, hc2⟩ := own_cells hu1 e; rw [h.ch] at hc2; cases hc2) (fun e => by obtain ⟨c2, hc2⟩ := own_cells h.op e; rw [h.ch] at hc2; cases hc2)).trans h.ch, h.cB, h.ne⟩
  · rw [List.length_append, List.length_singleton]
    exact own_frame0 h8 fun g hg => hset g (hne8 g hg)
  · have hul : us.length = C.length := by have := hu1.1; omega
    by_cases hlt : i < C.length
    · rw [List.getElem?_append_left hlt] at hi
      obtain ⟨u', hu', ho'⟩ := hu2 i xs hi
      exact ⟨u', by rw [List.getElem?_append_left (by omega)]; exact hu', hO ho'⟩
    · have hie : i = C.length := by
        have := (List.getElem?_eq_some_iff.1 hi).1
        simp at this
        omega
      subst hie
      simp at hi
      subst hi
      exact ⟨u, by rw [← hul]; simp, hO hu⟩
  · rw [List.map_append, ints_append, List.length_append, List.length_singleton]
    exact own_frame0 h9 fun g hg => hset g (hne9 g hg)
  · rcases a9 with e | ⟨g', e, hge⟩
    · rw [e] at hg
      show (if g < w.heap.size then tag g else .opn) = .opn
      rw [if_pos (h.op.lt g hg).2]
      exact h.opt g hg
    · rw [e] at hg
      injection hg with hg
      show (if g < w.heap.size then tag g else .opn) = .opn
      rw [if_neg (by omega)]
  · obtain ⟨cur, hc⟩ := own_cells (h.wr k) hg
    exact hblk g ((h.wr k).lt g hg).2 (hint g cur hc).1 (hint g cur hc).2 (fun e => n5 k g hg (.inl e))
  · show (if g < w.heap.size then tag g else .opn) = .wth k
    rw [if_pos ((h.wr k).lt g hg).2]
    exact h.wt k g hg

/-- An index came in under a literal. -/
theorem BSt.wth (h : BSt tag B w0 w bx vc vo bw bk bc cap C f es K) {a i : Int} {w2 w3 : World} {v' : Value} (happ : Touch (fun k => ((aget es a).getD nilS).ownBlock = some k) w w2) (h8 : w2.ownsRow B 3 1 v' ((f a).length + 1) (ints (f a) ++ [.int .i64 i]))
    (a8 : v'.ownBlock = ((aget es a).getD nilS).ownBlock ∨ ∃ g, v'.ownBlock = some g ∧ w.heap.size ≤ g) (hup : IM w3 bw (aput es a v')) (ht : Touch (fun k => k = bw) w2 w3) :
    BSt (fun g => if g < w.heap.size then tag g else .wth a) B w0 w3 bx vc vo bw bk bc cap C (fun k => if k = a then f a ++ [i] else f k) (aput es a v') K ∧ ∀ u xs, OwnTg w tag u xs → OwnTg w3 (fun g => if g < w.heap.size then tag g else .wth a) u xs := by
  obtain ⟨n1, n2, n3, n4, n5⟩ := h.notS
  obtain ⟨us, hu1, hu2⟩ := h.cls
  obtain ⟨arrk, ck, hkm, -⟩ := h.kn
  obtain ⟨arrw, cw, hwm, -⟩ := h.wi
  have hT : Touch (fun k => k = bw ∨ ((aget es a).getD nilS).ownBlock = some k) w w3 := (happ.mono fun k _ hk => .inr hk).trans' ht fun k _ hk => .inl hk
  have hwv : ∀ g, ((aget es a).getD nilS).ownBlock = some g → ∃ cur, w.heap[g]? = some (.cells cur 3 (0, 0)) := fun g hg => own_cells (h.wr a) hg
  have hblk : ∀ k, k < w.heap.size → k ≠ bw → ((aget es a).getD nilS).ownBlock ≠ some k → w3.heap[k]? = w.heap[k]? := fun k hk h1 h2 => hT.block k hk (by rintro (e | e); exact h1 e; exact h2 e)
  have hcw : ∀ g cur e m, w.heap[g]? = some (.cells cur e m) → g ≠ bw := fun g cur e m hg e2 => by rw [e2, hwm] at hg; cases hg
  have hlow : ∀ k, (k = bw ∨ ((aget es a).getD nilS).ownBlock = some k) → B ≤ k := by
    rintro k (e | e)
    · rw [e]; exact h.wB
    · exact ((h.wr a).lt k e).1
  have hn := h.wi.nodup
  have hOO : ∀ u xs, OwnTg w tag u xs → OwnTg w3 (fun g => if g < w.heap.size then tag g else .wth a) u xs := fun u xs ho => by
    obtain ⟨ad0, c, h1, h2, h3, h4⟩ := ho
    refine ⟨ad0, c, h1, h2, h3, fun ad had => ?_⟩
    obtain ⟨g, off, cur, e1, e2, e3, e4⟩ := h4 ad had
    have hl := (Array.getElem?_eq_some_iff.1 e3).1
    exact ⟨g, off, cur, e1, by show (if g < w.heap.size then tag g else .wth a) = .cls; rw [if_pos hl]; exact e2, (hblk g hl (hcw _ _ _ _ e3) (fun e => by have := h.wt a g e; rw [e2] at this; cases this)).trans e3, e4⟩
  refine ⟨?_, hOO⟩
  refine ⟨h.bel.trans (hT.below h.le hlow), Nat.le_trans h.le hT.size, (hblk bx (Array.getElem?_eq_some_iff.1 h.blk).1 (hcw _ _ _ _ h.blk) (fun e => by obtain ⟨c, hc⟩ := hwv _ e; rw [h.blk] at hc; simp at hc)).trans h.blk, h.bxB, ⟨us, own_frame0 hu1 fun g hg => ?_, fun j xs hj => ?_⟩, own_frame0 h.op fun g hg => ?_, fun g hg => ?_, hup, h.wB, fun k => ?_, fun k g hg => ?_, h.kn.frame (hblk bk h.kn.lt (fun e => h.ne e.symm) (fun e => by obtain ⟨c, hc⟩ := hwv _ e; rw [hkm] at hc; cases hc)), h.kB, (hblk bc (Array.getElem?_eq_some_iff.1 h.ch).1 (fun e => by have := h.ch; rw [e, hwm] at this; cases this) (fun e => by obtain ⟨c, hc⟩ := hwv _ e; rw [h.ch] at hc; cases hc)).trans h.ch, h.cB, h.ne⟩
  · obtain ⟨cur, hc⟩ := own_cells hu1 hg
    exact hblk g (hu1.lt g hg).2 (hcw _ _ _ _ hc) (fun e => by obtain ⟨c2, hc2⟩ := hwv _ e; rw [hc] at hc2; simp at hc2)
  · obtain ⟨u, hu, ho⟩ := hu2 j xs hj
    exact ⟨u, hu, hOO u xs ho⟩
  · obtain ⟨cur, hc⟩ := own_cells h.op hg
    exact hblk g (h.op.lt g hg).2 (hcw _ _ _ _ hc) (fun e => by have h1 := h.wt a g e; rw [h.opt g hg] at h1; cases h1)
  · show (if g < w.heap.size then tag g else .wth a) = .opn
    rw [if_pos (h.op.lt g hg).2]; exact h.opt g hg
  · by_cases hk : k = a
    · subst hk
      simp only [if_true]
      rw [aget_aput_same hn, Option.getD_some, List.length_append, List.length_singleton, ints_append]
      refine own_frame0 h8 fun g hg => ht.block g (h8.lt g hg).2 (fun e => ?_)
      have hbw2 : w2.heap[bw]? = w.heap[bw]? := happ.block bw h.wi.lt (fun e => by obtain ⟨c, hc⟩ := hwv _ e; rw [hwm] at hc; cases hc)
      obtain ⟨cur, hc⟩ := own_cells h8 hg
      rw [e, hbw2, hwm] at hc
      cases hc
    · simp only [hk, if_false]
      rw [aget_aput_other hk]
      refine own_frame0 (h.wr k) fun g hg => ?_
      obtain ⟨cur, hc⟩ := own_cells (h.wr k) hg
      exact hblk g ((h.wr k).lt g hg).2 (hcw _ _ _ _ hc) (fun e => by have h1 := h.wt a g e; rw [h.wt k g hg] at h1; injection h1 with h1; exact hk h1)
  · by_cases hk : k = a
    · subst hk
      rw [aget_aput_same hn, Option.getD_some] at hg
      show (if g < w.heap.size then tag g else .wth k) = .wth k
      rcases a8 with e | ⟨g', e, hge⟩
      · rw [e] at hg
        rw [if_pos ((h.wr k).lt g hg).2]; exact h.wt k g hg
      · rw [e] at hg
        injection hg with hg
        rw [if_neg (by omega)]
    · rw [aget_aput_other hk] at hg
      show (if g < w.heap.size then tag g else .wth a) = .wth k
      rw [if_pos ((h.wr k).lt g hg).2]; exact h.wt k g hg

theorem BSt.touchB (h : BSt tag B w0 w bx vc vo bw bk bc cap C f es K) {w' : World} (ht : Touch (wS vo bk bc) w w') : Below B w0 w' :=
  h.bel.trans (ht.below h.le fun k hk => by
    rcases hk with e | e | e
    · exact (h.op.lt k e).1
    · rw [e]; exact h.kB
    · rw [e]; exact h.cB)

end

theorem blk_new2 (w : World) (a b : Obj) : ((w.alloc a).alloc b).heap[w.heap.size + 1]? = some b := by
  have e1 : ((w.alloc a).alloc b).heap = (w.heap.push a).push b := rfl
  rw [e1, Array.getElem?_push, if_pos (by simp)]
theorem blk_old2 (w : World) (a b : Obj) : ((w.alloc a).alloc b).heap[w.heap.size]? = some a := by
  have e1 : ((w.alloc a).alloc b).heap = (w.heap.push a).push b := rfl
  rw [e1, Array.getElem?_push, if_neg (by simp), Array.getElem?_push, if_pos rfl]

/-- What stands under each literal behind m literals of the clause l. -/
def withM (C : List (List Int)) (l : List Int) (m : Nat) (k : Int) : List Int := withL C k ++ if k ∈ l.take m then [(C.length : Int)] else []

theorem withM_zero (C : List (List Int)) (l : List Int) : withM C l 0 = withL C := by funext k; simp [withM]
theorem withM_done (C : List (List Int)) (l : List Int) {m : Nat} (h : l.length ≤ m) : withM C l m = withL (C ++ [l]) := by
  funext k
  unfold withM
  rw [List.take_of_length_le h, withL_snoc]
theorem withM_step {C : List (List Int)} {l : List Int} (hn : l.Nodup) {m : Nat} {a : Int} (ha : l[m]? = some a) : (fun k => if k = a then withM C l m a ++ [(C.length : Int)] else withM C l m k) = withM C l (m + 1) := by
  funext k
  obtain ⟨hm, hae⟩ := List.getElem?_eq_some_iff.1 ha
  have hna : a ∉ l.take m := fun hin => by
    obtain ⟨x, hx, he⟩ := List.mem_iff_getElem.1 hin
    simp at hx
    rw [List.getElem_take] at he
    exact (List.pairwise_iff_getElem.1 hn) x m (by omega) hm (by omega) (by rw [he, hae])
  unfold withM
  by_cases hk : k = a
  · subst hk
    rw [if_pos rfl, if_neg hna, if_pos (by rw [List.take_add_one, ha]; simp)]
    simp
  · rw [if_neg hk]
    have e : (k ∈ l.take (m + 1)) ↔ k ∈ l.take m := by rw [List.take_add_one, ha]; simp [hk]
    simp [e]

/-- The state as it is made. -/
theorem bst_new (w1 w2 : World) (cap : Nat) (h : (((w1.alloc (.map #[] 0)).alloc (.map #[] 0)).alloc (.chan cap #[] false 0 0 false)).alloc (.cells #[nilS, nilS, .map (some w1.heap.size), .map (some (w1.heap.size + 1)), .chan (some (w1.heap.size + 1 + 1))] 75) = w2) :
    BSt (fun _ => .cls) w1.heap.size w1 w2 (w1.heap.size + 1 + 1 + 1) nilS nilS w1.heap.size (w1.heap.size + 1) (w1.heap.size + 1 + 1) cap [] (fun _ => []) [] [] := by
  subst h
  have e1 : ((((w1.alloc (.map #[] 0)).alloc (.map #[] 0)).alloc (.chan cap #[] false 0 0 false)).alloc (.cells #[nilS, nilS, .map (some w1.heap.size), .map (some (w1.heap.size + 1)), .chan (some (w1.heap.size + 1 + 1))] 75)).heap = ((((w1.heap.push (.map #[] 0)).push (.map #[] 0)).push (.chan cap #[] false 0 0 false)).push (.cells #[nilS, nilS, .map (some w1.heap.size), .map (some (w1.heap.size + 1)), .chan (some (w1.heap.size + 1 + 1))] 75)) := rfl
  have hbel : Below w1.heap.size w1 ((((w1.alloc (.map #[] 0)).alloc (.map #[] 0)).alloc (.chan cap #[] false 0 0 false)).alloc (.cells #[nilS, nilS, .map (some w1.heap.size), .map (some (w1.heap.size + 1)), .chan (some (w1.heap.size + 1 + 1))] 75)) :=
    ((((Below.refl _ w1).alloc (Nat.le_refl _) _).alloc (by simp) _).alloc (by simp <;> omega) _).alloc (by simp <;> omega) _
  refine ⟨hbel, by rw [e1]; simp <;> omega, ?_, by omega, ⟨[], World.ownsRow_nil _ _ _ _, (fun i xs hi => (by cases hi))⟩, World.ownsRow_nil _ _ _ _, (fun g hg => (by cases hg)), ⟨#[], 0, ?_, MapKept.stamped_empty 0, rfl⟩, Nat.le_refl _, fun k => World.ownsRow_nil _ _ _ _, (fun k g hg => (by cases hg)), ⟨#[], 0, ?_, MapKept.stamped_empty 0, rfl⟩, by omega, ?_, by omega, by omega⟩
  · rw [e1, Array.getElem?_push, if_pos (by simp)]
  · rw [e1]
    rw [Array.getElem?_push, if_neg (by simp <;> omega), Array.getElem?_push, if_neg (by simp <;> omega), Array.getElem?_push, if_neg (by simp), Array.getElem?_push, if_pos rfl]
  · rw [e1]
    rw [Array.getElem?_push, if_neg (by simp <;> omega), Array.getElem?_push, if_neg (by simp), Array.getElem?_push, if_pos (by simp)]
  · rw [e1]
    rw [Array.getElem?_push, if_neg (by simp), Array.getElem?_push, if_pos (by simp)]
    rfl

end Go.Proofs.Ytfgaglgaofceiaa.Ord
