/- The contract of rup's look. -/
import Derived.Deep.RegionHeld3
import Derived.ArgAppend
import Derived.BigQuiet
import Derived.Test.YtfofabbnbmieoaaQ3
import Derived.Test.YtfofabbnbmieoaaQ4
import Derived.Test.YtfofabbnbmieoaaQ2

namespace Go.Proofs.Ytfofabbnbmieoaa.Ord
open Go.RowKit Go.Conc

attribute [local go_sem ↓] Go.wp_at_zero Go.wp_at_succ
attribute [local go_sem ↓ high] app_mark

/-- The blocks that rup's functions write. -/
def RS (tag : Nat → RT) (bx bw bk : Nat) (k : Nat) : Prop := k = bx ∨ k = bw ∨ k = bk ∨ (tag k ≠ .oth ∧ tag k ≠ .kep)

section
variable {tag : Nat → RT} {B : Nat} {w0 w : World} {bx bw bk : Nat} {vc vt : Value} {dn : Nat} {C : List (List Int)} {us : List Value} {es : List (Int × Value)} {Wt : Int → List Nat} {K : List Int}

/-- The clause i stands in another order. -/
theorem RM.reclause (h : RM tag B w0 w bx bw bk vc vt dn C us es Wt K) {i : Nat} {c d : List Int} (hc : C[i]? = some c) {g o cap : Nat} (hu : us[i]? = some (.slice (some ⟨g, o, none⟩) c.length cap)) (ht : tag g = .cls i) (hg : B ≤ g) {cur cur' : Array Value} (hb : w.heap[g]? = some (.cells cur 3 (0, 0))) {w' : World} (hT : Touch (fun k => k = g) w w') (hb' : w'.heap[g]? = some (.cells cur' 3 (0, 0))) (hd : d.length = c.length) (hcur : ∀ (j : Nat) (x : Int), d[j]? = some x → cur'[o + j]? = some (.int .i64 x)) : RM tag B w0 w' bx bw bk vc vt dn (C.set i d) us es Wt K := by
  obtain ⟨q1, q2, q3, q4⟩ := h.intb hb
  have hoth : ∀ k, k < w.heap.size → k ≠ g → w'.heap[k]? = w.heap[k]? := fun k hk hn => hT.block k hk hn
  refine ⟨h.bel.trans (hT.below h.le (fun k hk => by rw [hk]; exact hg)), Nat.le_trans h.le hT.size, h.bxB, h.bwB, h.bkB, h.ne, (hoth bx (Array.getElem?_eq_some_iff.1 h.blk).1 (fun e => q1 e.symm)).trans h.blk, ?_, h.clt, fun t e he => ?_, own_frame0 h.tr fun k hk => hoth k (h.tr.lt k hk).2 (fun e => ?_), h.trt, h.wi.frame (hoth bw h.wi.lt (fun e => q2 e.symm)), fun a => (h.wr a).frame fun k cur hk hw => ⟨hoth k (Array.getElem?_eq_some_iff.1 hk).1 (fun e => ?_), rfl⟩, h.kn.frame (hoth bk h.kn.lt (fun e => q3 e.symm))⟩
  · rw [List.length_set]
    exact own_frame0 h.clr fun k hk => hoth k (h.clr.lt k hk).2 (fun e => q4 (e ▸ hk))
  · rw [set_get hc] at he
    split at he
    · rename_i e1
      subst e1
      injection he with he
      subst he
      exact ⟨g, o, cap, cur', by rw [hd]; exact hu, ht, hg, hb', hcur⟩
    · rename_i hti
      obtain ⟨g2, o2, cap2, cur2, e1, e2, e3, e4, e5⟩ := h.cls t e he
      refine ⟨g2, o2, cap2, cur2, e1, e2, e3, (hoth g2 (Array.getElem?_eq_some_iff.1 e4).1 (fun e => ?_)).trans e4, e5⟩
      rw [e, ht] at e2
      injection e2 with e2
      exact hti e2.symm
  · have := h.trt k hk
    rw [e, ht] at this
    cases this
  · rw [e, ht] at hw
    cases hw

end

theorem list_set_self {l : List (List Int)} {i : Nat} {c : List Int} (h : l[i]? = some c) : l.set i c = l := by
  obtain ⟨h1, h2⟩ := List.getElem?_eq_some_iff.1 h
  subst h2
  exact List.set_getElem_self h1

section
variable {tag : Nat → RT} {B : Nat} {w0 w : World} {bx bw bk : Nat} {vc vt : Value} {dn : Nat} {C : List (List Int)} {us : List Value} {es : List (Int × Value)} {Wt : Int → List Nat} {K : List Int}

/-- Two literals of a clause change their places. -/
theorem RM.swap (h : RM tag B w0 w bx bw bk vc vt dn C us es Wt K) {i : Nat} {c : List Int} (hc : C[i]? = some c) {g o cap : Nat} (hu : us[i]? = some (.slice (some ⟨g, o, none⟩) c.length cap)) (ht : tag g = .cls i) (hg : B ≤ g) {cur : Array Value} (hb : w.heap[g]? = some (.cells cur 3 (0, 0))) (hcur : ∀ (j : Nat) (x : Int), c[j]? = some x → cur[o + j]? = some (.int .i64 x)) {j k : Nat} {x y : Int} (hj : c[j]? = some x) (hk : c[k]? = some y) :
    RM tag B w0 ((w.setCell ⟨g, o + j, none⟩ (.int .i64 y)).setCell ⟨g, o + k, none⟩ (.int .i64 x)) bx bw bk vc vt dn (C.set i (swapL c j k)) us es Wt K ∧ Touch (fun q => q = g) w ((w.setCell ⟨g, o + j, none⟩ (.int .i64 y)).setCell ⟨g, o + k, none⟩ (.int .i64 x)) := by
  have hT : Touch (fun q => q = g) w ((w.setCell ⟨g, o + j, none⟩ (.int .i64 y)).setCell ⟨g, o + k, none⟩ (.int .i64 x)) := ((Touch.refl (fun q => q = g) w).setCell (p := ⟨g, o + j, none⟩) rfl _).setCell (p := ⟨g, o + k, none⟩) rfl _
  have hjl := (List.getElem?_eq_some_iff.1 hj).1
  have hkl := (List.getElem?_eq_some_iff.1 hk).1
  have hb1 := heap_setCell_same w g (o + j) cur 3 (.int .i64 y) hb
  have hb2 := heap_setCell_same _ g (o + k) _ 3 (.int .i64 x) hb1
  have cj := (Array.getElem?_eq_some_iff.1 (hcur j x hj)).1
  have ck := (Array.getElem?_eq_some_iff.1 (hcur k y hk)).1
  refine ⟨h.reclause hc hu ht hg hb hT hb2 (swapL_length _ _ _) fun t z hz => ?_, hT⟩
  rw [swapL_get hjl hkl] at hz
  rw [Array.getElem?_setIfInBounds, Array.getElem?_setIfInBounds]
  by_cases h1 : t = k
  · subst h1
    rw [if_pos rfl, hj] at hz
    injection hz with hz
    subst hz
    rw [if_pos rfl, if_pos (by simpa using ck)]
  · rw [if_neg h1] at hz
    rw [if_neg (show ¬ o + k = o + t by omega)]
    by_cases h2 : t = j
    · subst h2
      rw [if_pos rfl, hk] at hz
      injection hz with hz
      subst hz
      rw [if_pos rfl, if_pos cj]
    · rw [if_neg h2] at hz
      rw [if_neg (show ¬ o + j = o + t by omega)]
      exact hcur t z hz

/-- Numbers appended to a list of numbers. -/
theorem appM_wt {P : Program} (wx : World) (t ty : TypeId) (ti : TypeInfo) (z : Value) (bytes : Nat) (ht : P.underlying t = some (.slice 3)) (hi : P.info? 3 = some ti) (hz : ti.zero = some z)
    (hsize : ti.size = 1) (hby : ti.bytes = bytes) (hb8 : bytes = 8) (hzs : z.cells.size = 1)
    {kd : RT} {v : Value} {ns : List Nat} (hv : WT kd tag B w v ns) (hbel : Below w.heap.size w wx) (hB : B ≤ w.heap.size) (ms : List Nat) (ad : Addr) (m c : Nat) (hm : m = ms.length) (hm0 : 0 < m) (hnews : ∀ (j : Nat) (u : Value), (nnts ms)[j]? = some u → wx.cell? (ad.add j) = some u) (hl : ns.length + m ≤ 4398046511104) :
    ∃ a' c' w', (appM #[t, t] ty #[v, .slice (some ad) m c]).run P wx = .ok (.slice a' (ns.length + m) c') w' ∧ w'.ownsRow B 3 1 (.slice a' (ns.length + m) c') (ns.length + m) (nnts (ns ++ ms)) ∧ Touch (fun k => tag k = kd ∧ B ≤ k ∧ ∃ cur : Array Value, w.heap[k]? = some (.cells cur 3 (0, 0))) w w' ∧ (∀ k, (Value.slice a' (ns.length + m) c').ownBlock = some k → (k < w.heap.size → tag k = kd ∧ v.ownBlock = some k)) := by
  obtain ⟨a0, cap, rfl, h2, h3⟩ := hv
  have hsz := hbel.size
  have hone : ∀ u ∈ nnts ms, u.oneCell' = true := fun u hu => by
    obtain ⟨x, -, rfl⟩ := List.mem_map.1 hu
    rfl
  have hlm : (nnts ms).length = m := by rw [nnts_length, hm]
  have hTx : Touch (fun k => tag k = kd ∧ B ≤ k ∧ ∃ cur : Array Value, w.heap[k]? = some (.cells cur 3 (0, 0))) w wx := ⟨hbel.os, hbel.tape, hbel.output, hsz, fun k hk _ => hbel.block k hk⟩
  rcases h3 with ⟨rfl, rfl⟩ | ⟨ho, htg⟩
  · cases a0 with
    | none =>
      obtain ⟨v', w', hr, ho', hg', -, ha'⟩ := run_append_own_at (P := P) wx B t ty 3 ti z 1 bytes ht hi hz hsize hby hzs (by decide) _ 0 [] (World.ownsRow_nil _ _ _ _) ad m c (nnts ms) (by omega) hnews hone (by simp at hl; unfold maxLen; omega) (by rw [hb8]; simp at hl; omega) (by omega)
      obtain ⟨a', c', rfl⟩ := own_lenV' ho'
      refine ⟨a', c', w', hr, by simpa [nnts] using ho', hTx.grown hg' nofun, fun k hk hkl => ?_⟩
      have hk2 : (Value.slice a' (0 + m) c').ownBlock = some k := hk
      rcases ha' with e | e
      · rw [e] at hk2; cases hk2
      · rw [e] at hk2
        injection hk2 with hk2
        omega
    | some b =>
      obtain ⟨v', w', hr, ho', hg'⟩ := run_append_arg_grows (P := P) wx t ty 3 ti z 1 bytes ht hi hz hsize hby hzs (by decide) b 0 0 [] rfl (fun j u hj => by simp at hj) ad m c (nnts ms) (by omega) hnews (by omega) (by simp at hl; unfold maxLen; omega) (by rw [hb8]; simp at hl; omega)
      obtain ⟨a', c', rfl⟩ := own_lenV' ho'
      refine ⟨a', c', w', hr, own_base (by simpa [nnts] using ho') (by omega), hTx.grown hg' nofun, fun k hk hkl => ?_⟩
      have := (ho'.lt k hk).1
      omega
  · obtain ⟨v', w', hr, ho', hg', -, ha'⟩ := run_append_own_at (P := P) wx B t ty 3 ti z 1 bytes ht hi hz hsize hby hzs (by decide) _ ns.length (nnts ns) (own_below ho hbel) ad m c (nnts ms) (by omega) hnews hone (by unfold maxLen; omega) (by rw [hb8]; omega) (by omega)
    obtain ⟨a', c', rfl⟩ := own_lenV' ho'
    refine ⟨a', c', w', hr, by simpa [nnts] using ho', hTx.grown hg' (fun k hk => .inl ⟨htg k hk, (ho.lt k hk).1, own_cells ho hk⟩), fun k hk hkl => ?_⟩
    rcases ha' with e | e
    · exact ⟨htg k (by rw [← e]; exact hk), by rw [← e]; exact hk⟩
    · rw [e] at hk
      injection hk with hk
      omega

theorem cells_one {wx : World} {g : Nat} {i : Nat} (hc : wx.heap[g]? = some (.cells #[.int .i64 (i : Int)] 3 (0, 0))) : ∀ (j : Nat) (u : Value), (nnts [i])[j]? = some u → wx.cell? ((⟨g, 0, none⟩ : Addr).add j) = some u := by
  intro j y hj
  match j, hj with
  | 0, hj =>
    simp [nnts] at hj
    subst hj
    simp [World.cell?, Addr.add, hc]

/-- The same as a step of a region whose order is open. -/
theorem step_append_wt {P : Program} {wx : World} {ops : Array Oper} {o : Oper} {ac : Act} {Kn : Act → World → Prop} {Q : Exit → Act → World → Prop} {E : Prop} (hgd : o.guard = none) (s x : Operand) (t : TypeId)
    (ho : o.op = .call { callee := .builtin .append, args := #[s, x], argTypes := #[t, t] })
    (ti : TypeInfo) (z : Value) (bytes : Nat) (ht : P.underlying t = some (.slice 3)) (hi : P.info? 3 = some ti) (hz : ti.zero = some z)
    (hsize : ti.size = 1) (hby : ti.bytes = bytes) (hb8 : bytes = 8) (hzs : z.cells.size = 1)
    {kd : RT} {v : Value} {ns : List Nat} {n : Nat} (hn : ns.length = n) (hs : ac.eval s = v) (hv : WT kd tag B w v ns) (hbel : Below w.heap.size w wx) (hB : B ≤ w.heap.size) (ms : List Nat) (ad : Addr) (m c : Nat) (hm : m = ms.length) (hm0 : 0 < m) (hx : ac.eval x = .slice (some ad) m c) (hnews : ∀ (j : Nat) (u : Value), (nnts ms)[j]? = some u → wx.cell? (ad.add j) = some u) (hl : n + m ≤ 4398046511104)
    (h : ∀ a' c' w', w'.ownsRow B 3 1 (.slice a' (n + m) c') (n + m) (nnts (ns ++ ms)) → Touch (fun k => tag k = kd ∧ B ≤ k ∧ ∃ cur : Array Value, w.heap[k]? = some (.cells cur 3 (0, 0))) w w' → (∀ k, (Value.slice a' (n + m) c').ownBlock = some k → (k < w.heap.size → tag k = kd ∧ v.ownBlock = some k)) → Kn (ac.put o.dst (.slice a' (n + m) c')) w') :
    if Region.wanted o (yielded ops ac.tmps) = true then Oper.wp P o ac wx Kn Q else E := by
  subst hn
  have hw : Region.wanted o (yielded ops ac.tmps) = true := by simp [Region.wanted, hgd]
  rw [if_pos hw]
  obtain ⟨a', c', w', hr, h2, h3, h4⟩ := appM_wt (P := P) wx t o.type ti z bytes ht hi hz hsize hby hb8 hzs hv hbel hB ms ad m c hm hm0 hnews hl
  have hr' : (Builtin.append_ #[t, t] o.type #[v, .slice (some ad) m c]).run P wx = .ok (.slice a' (ns.length + m) c') w' := hr
  unfold Oper.wp execOp
  simp only [ho, resolve, invoke, builtin, Sem.run_bind, Sem.run_pure, Result.andThen_ok, List.map_toArray, List.map_cons, List.map_nil, hs, hx, hr']
  exact h a' c' w' h2 h3 h4

/-- A number appended to the watch list of z. -/
theorem RM.wth (h : RM tag B w0 w bx bw bk vc vt dn C us es Wt K) {z : Int} {i : Nat} {w2 w3 : World} {v' : Value} (happ : Touch (fun k => tag k = .wth z ∧ B ≤ k ∧ ∃ cur : Array Value, w.heap[k]? = some (.cells cur 3 (0, 0))) w w2) (h8 : w2.ownsRow B 3 1 v' ((Wt z).length + 1) (nnts (Wt z ++ [i]))) (ho : ∀ k, v'.ownBlock = some k → (k < w.heap.size → tag k = .wth z))
    (him : IM w3 bw (aput es z v')) (ht3 : Touch (fun k => k = bw) w2 w3) :
    RM (fun g => if g < w.heap.size then tag g else .wth z) B w0 w3 bx bw bk vc vt dn C us (aput es z v') (fun b => if b = z then Wt z ++ [i] else Wt b) K ∧ Touch (RS tag bx bw bk) w w3 := by
  have hkp : ∀ k, k < w.heap.size → k ≠ bw → (tag k ≠ .wth z ∨ k < B ∨ ∀ cur : Array Value, w.heap[k]? ≠ some (.cells cur 3 (0, 0))) → w3.heap[k]? = w.heap[k]? := fun k hk hn hh => by
    refine (ht3.block k (Nat.lt_of_lt_of_le hk happ.size) hn).trans (happ.block k hk fun ⟨q1, q3, cur, q2⟩ => ?_)
    rcases hh with q | q | q
    · exact q q1
    · omega
    · exact q cur q2
  obtain ⟨a1, a2, a3, a4, a5, a6, a7, a8, a9⟩ := h.apart
  have htg : ∀ g, g < w.heap.size → (fun g => if g < w.heap.size then tag g else RT.wth z) g = tag g := fun g hg => if_pos hg
  have hT : Touch (fun k => k = bw ∨ (tag k = .wth z ∧ B ≤ k ∧ ∃ cur : Array Value, w.heap[k]? = some (.cells cur 3 (0, 0)))) w w3 :=
    (happ.mono fun k _ hk => .inr hk).trans' ht3 (fun k _ hk => .inl hk)
  have hBlow : Below B w0 w3 := h.bel.trans ⟨hT.os, hT.tape, hT.output, hT.size, fun k hk => hkp k (by have := h.le; omega) (by have := h.bwB; omega) (.inr (.inl hk))⟩
  have hown : ∀ {e n : Nat} {v : Value} {xs : List Value}, w.ownsRow B e 1 v n xs → e ≠ 3 → v.ownBlock ≠ some bw → w3.ownsRow B e 1 v n xs := fun ho he hn => own_frame0 ho fun g hg => hkp g (ho.lt g hg).2 (fun q => hn (q ▸ hg)) (.inr (.inr fun cur hc => by
    obtain ⟨c2, hc2⟩ := own_cells ho hg
    rw [hc] at hc2
    injection hc2 with hc2
    injection hc2 with _ hc2
    exact he hc2.symm))
  have hsz := hT.size
  refine ⟨⟨hBlow, Nat.le_trans h.le hsz, h.bxB, h.bwB, h.bkB, h.ne, (hkp bx (Array.getElem?_eq_some_iff.1 h.blk).1 a1 (.inr (.inr fun cur hc => ?_))).trans h.blk, hown h.clr (by decide) a4, fun g hg => (if_pos (h.clr.lt g hg).2).trans (h.clt g hg), fun t c hc => ?_, own_frame0 h.tr fun g hg => hkp g (h.tr.lt g hg).2 (fun q => a7 (q ▸ hg)) (.inl (by rw [h.trt g hg]; nofun)), fun g hg => (if_pos (h.tr.lt g hg).2).trans (h.trt g hg), him, fun b => ?_, h.kn.frame (hkp bk h.kn.lt (fun e => h.ne e.symm) (.inr (.inr fun cur hc => ?_)))⟩, ?_⟩
  · rw [h.blk] at hc; simp at hc
  · obtain ⟨g, o, cap, cur, e1, e2, e3, e4, e5⟩ := h.cls t c hc
    have hl := (Array.getElem?_eq_some_iff.1 e4).1
    exact ⟨g, o, cap, cur, e1, (if_pos hl).trans e2, e3, (hkp g hl (h.intb e4).2.1 (.inl (by rw [e2]; nofun))).trans e4, e5⟩
  · by_cases q : b = z
    · subst q
      rw [aget_aput_same (h.wi.nodup), if_pos rfl]
      obtain ⟨a', c', rfl⟩ := own_lenV' h8
      have ho3 : w3.ownsRow B 3 1 (.slice a' ((Wt b).length + 1) c') ((Wt b).length + 1) (nnts (Wt b ++ [i])) := own_frame0 h8 fun g hg => ht3.block g (h8.lt g hg).2 (fun e => by
        obtain ⟨cur, hc⟩ := own_cells h8 hg
        obtain ⟨arrw, cw, hwm, -⟩ := h.wi
        have := (happ.block bw (Array.getElem?_eq_some_iff.1 hwm).1 (fun ⟨_, _, cur, hc⟩ => by rw [hwm] at hc; cases hc)).trans hwm
        rw [e, this] at hc; cases hc)
      refine ⟨a', c', by simp, fun e => ((own_cap h8).2.2 e).1, .inr ⟨by rw [List.length_append]; exact ho3, fun g hg => ?_⟩⟩
      · show (if g < w.heap.size then tag g else RT.wth b) = RT.wth b
        by_cases hl : g < w.heap.size
        · rw [if_pos hl]; exact ho g hg hl
        · rw [if_neg hl]
    · rw [aget_aput_other q, if_neg q]
      exact (h.wr b).frame fun g cur hg hw => ⟨hkp g (Array.getElem?_eq_some_iff.1 hg).1 (h.intb hg).2.1 (.inl (by rw [hw]; simpa using q)), if_pos (Array.getElem?_eq_some_iff.1 hg).1⟩
  · obtain ⟨arrk, ck, hkm, -⟩ := h.kn
    rw [hkm] at hc; cases hc
  · exact hT.mono fun k _ hk => by
      rcases hk with e | e
      · exact .inr (.inl e)
      · exact .inr (.inr (.inr (by rw [e.1]; exact ⟨nofun, nofun⟩)))

end

/-- What look leaves: the clause i in the order d; what it answers; what is known. o is the clause's other watched literal. -/
inductive LookO (K : List Int) (i : Nat) (c d : List Int) (a o : Int) (Wt Wt' : Int → List Nat) (K' : List Int) : Ending → Prop
  | known (h : o ∈ K) (hd : d[0]? = some o ∧ d[1]? = some a) (hw : Wt' = Wt) (hK : K' = K) : LookO K i c d a o Wt Wt' K' (.returned (.bool false))
  | moved (z : Int) (h : o ∉ K) (hd : d[0]? = some o ∧ d[1]? = some z) (hz : z ∈ c ∧ z ≠ a ∧ z ≠ o ∧ -z ∉ K) (hw : Wt' z = Wt z ++ [i] ∧ ∀ b, b ≠ z → Wt' b = Wt b) (hK : K' = K) : LookO K i c d a o Wt Wt' K' (.returned (.bool true))
  | set (h : o ∉ K ∧ -o ∉ K) (hf : ∀ x ∈ c, x ≠ o → -x ∈ K) (hd : d[0]? = some o ∧ d[1]? = some a) (hw : Wt' = Wt) (hK : K' = K ++ [o]) : LookO K i c d a o Wt Wt' K' (.returned (.bool false))
  | fail (h : -o ∈ K) (hf : ∀ x ∈ c, x ≠ o → -x ∈ K) (hd : d[0]? = some o ∧ d[1]? = some a) (hw : Wt' = Wt) (hK : K' = K) : LookO K i c d a o Wt Wt' K' (.panicked [{ v := failV, recovered := false }])

def lookR (tag : Nat → RT) (B : Nat) (w0 w : World) (bx bw bk : Nat) (vc : Value) (dn : Nat) (C : List (List Int)) (us : List Value) (es : List (Int × Value)) (Wt : Int → List Nat) (K : List Int) (i : Nat) (c : List Int) (a o : Int) (e : Ending) (w' : World) : Prop :=
  ∃ (tag' : Nat → RT) (vt' : Value) (d : List Int) (es' : List (Int × Value)) (Wt' : Int → List Nat) (K' : List Int), RM tag' B w0 w' bx bw bk vc vt' dn (C.set i d) us es' Wt' K' ∧ (∀ g, g < w.heap.size → tag' g = tag g) ∧ Touch (RS tag bx bw bk) w w' ∧ Same c d ∧ (∀ b, Wt' b = Wt b → (aget es' b).getD nilS = (aget es b).getD nilS) ∧ LookO K i c d a o Wt Wt' K' e

end Go.Proofs.Ytfofabbnbmieoaa.Ord

/- solve's state: a clause's cells, a watch list written in place. -/
namespace Go.Proofs.Ytfofabbnbmieoaa.Ord
open Go.RowKit Go.Conc

section
variable {tag : Nat → KT} {B : Nat} {w0 w w1 w6 : World} {a : SA} {v : SV} {d : SD} {t : KT}

/-- A clause's part. -/
theorem SM.clsAt (h : SM tag B w0 w a v d) {i : Nat} {c : List Int} (hc : d.C[i]? = some c) : ∃ g o cap cur, v.us[i]? = some (.slice (some ⟨g, o, none⟩) c.length cap) ∧ tag g = .cls i ∧ w.heap[g]? = some (.cells cur 3 (0, 0)) ∧ ∀ (j : Nat) (x : Int), c[j]? = some x → cur[o + j]? = some (.int .i64 x) := by
  obtain ⟨u, hu, g, o, cap, cur, e, -, h2, h3, h4⟩ := h.co (.cls i) c hc
  subst e
  exact ⟨g, o, cap, cur, hu, h2, h3, h4⟩

/-- A cell of a clause is set. -/
theorem SM.setCl (h : SM tag B w0 w a v d) {i : Nat} {c : List Int} (hc : d.C[i]? = some c) {g o n cap : Nat} (hu : v.us[i]? = some (.slice (some ⟨g, o, none⟩) n cap)) {j : Nat} (hj : j < c.length) (x : Int) :
    SM tag B w0 (w.setCell ⟨g, o + j, none⟩ (.int .i64 x)) a v { d with C := d.C.set i (c.set j x) } ∧ tag g = .cls i := by
  obtain ⟨u, hu', g', o', cap', cur, e, hcap, htg, hb, hcur⟩ := h.co (.cls i) c hc
  rw [hu] at hu'
  injection hu' with hu'
  subst hu'
  injection e with e1 e2 e3
  injection e1 with e1
  injection e1 with e1 e4
  subst e1 e2 e3 e4
  refine ⟨h.upd (fun s => s = .cls i) nofun (Touch.setCell (p := ⟨g, o + j, none⟩) (Touch.refl _ w) htg _) (fun _ _ => rfl) (fun k _ hk => h.tB k hk) (fun s hs hco => ?_) ?_, htg⟩
  · cases s with
    | cls m =>
      intro c' hc'
      have hc' : (d.C.set i (c.set j x))[m]? = some c' := hc'
      rw [List.getElem?_set_ne (fun e => hs (by rw [e]))] at hc'
      exact hco c' hc'
    | clr => exact ⟨hco.1, by rw [List.length_set]; exact hco.2⟩
    | _ => exact hco
  · rintro s rfl
    intro c' hc'
    have hc' : (d.C.set i (c.set j x))[i]? = some c' := hc'
    rw [List.getElem?_set_self (List.getElem?_eq_some_iff.1 hc).1] at hc'
    injection hc' with hc'
    subst hc'
    have hcj := (Array.getElem?_eq_some_iff.1 (hcur j c[j] (List.getElem?_eq_getElem hj))).1
    refine ⟨_, hu, g, o, cap, _, by rw [List.length_set], by rw [List.length_set]; exact hcap, htg, heap_setCell_same w g (o + j) cur 3 (.int .i64 x) hb, fun t y ht => ?_⟩
    rw [Array.getElem?_setIfInBounds]
    by_cases q : t = j
    · subst q
      rw [List.getElem?_set_self hj] at ht
      injection ht with ht
      subst ht
      rw [if_pos rfl, if_pos hcj]
    · rw [List.getElem?_set_ne (fun e => q e.symm)] at ht
      rw [if_neg (by omega)]
      exact hcur t y ht

/-- Two literals of a clause change their places. -/
theorem SM.swap (h : SM tag B w0 w a v d) {i : Nat} {c : List Int} (hc : d.C[i]? = some c) {g o n cap : Nat} (hu : v.us[i]? = some (.slice (some ⟨g, o, none⟩) n cap)) {j k : Nat} {x y : Int} (hj : c[j]? = some x) (hk : c[k]? = some y) :
    SM tag B w0 ((w.setCell ⟨g, o + j, none⟩ (.int .i64 y)).setCell ⟨g, o + k, none⟩ (.int .i64 x)) a v { d with C := d.C.set i (swapL c j k) } ∧ Touch (fun q => tag q = .cls i) w ((w.setCell ⟨g, o + j, none⟩ (.int .i64 y)).setCell ⟨g, o + k, none⟩ (.int .i64 x)) := by
  have hjl := (List.getElem?_eq_some_iff.1 hj).1
  have hkl := (List.getElem?_eq_some_iff.1 hk).1
  have hil := (List.getElem?_eq_some_iff.1 hc).1
  obtain ⟨h1, ht⟩ := h.setCl hc hu hjl y
  obtain ⟨h2, -⟩ := h1.setCl (i := i) (c := c.set j y) (by show (d.C.set i (c.set j y))[i]? = _; rw [List.getElem?_set_self hil]) hu (j := k) (by simpa using hkl) x
  refine ⟨?_, ((Touch.refl (fun q => tag q = .cls i) w).setCell (p := ⟨g, o + j, none⟩) ht _).setCell (p := ⟨g, o + k, none⟩) ht _⟩
  have e : swapL c j k = (c.set j y).set k x := by
    unfold swapL
    rw [List.getD_eq_getElem?_getD, List.getD_eq_getElem?_getD, hj, hk]
    rfl
  have e2 : (d.C.set i (c.set j y)).set i ((c.set j y).set k x) = d.C.set i (swapL c j k) := by rw [List.set_set, e]
  rw [← e2]
  exact h2

/-- A clause's cells may be written. -/
theorem SM.clsFree (h : SM tag B w0 w a v d) {i : Nat} {c : List Int} (hc : d.C[i]? = some c) {g o n cap : Nat} (hu : v.us[i]? = some (.slice (some ⟨g, o, none⟩) n cap)) (j : Nat) : w.frozen? ⟨g, j, none⟩ = false := by
  obtain ⟨g', o', cap', cur, hu', -, hb, -⟩ := h.clsAt hc
  rw [hu] at hu'
  injection hu' with hu'
  injection hu' with e1 e2 e3
  injection e1 with e1
  injection e1 with e1 e4
  subst e1
  exact frozen_of_row _ _ _ _ _ hb

/-- A literal of a clause. -/
theorem SM.clsLit (h : SM tag B w0 w a v d) {i : Nat} {c : List Int} (hc : d.C[i]? = some c) {g o n cap : Nat} (hu : v.us[i]? = some (.slice (some ⟨g, o, none⟩) n cap)) {j : Nat} {x : Int} (hx : c[j]? = some x) : w.cell? ⟨g, o + j, none⟩ = some (.int .i64 x) := by
  obtain ⟨g', o', cap', cur, hu', -, hb, hcur⟩ := h.clsAt hc
  rw [hu] at hu'
  injection hu' with hu'
  injection hu' with e1 e2 e3
  injection e1 with e1
  injection e1 with e1 e4
  subst e1 e4
  have := hcur j x hx
  simp [World.cell?, hb, this]

/-- The number in a watch list. -/
theorem SM.wthLit (h : SM tag B w0 w a v d) {q : Nat} {ns : List Nat} (hns : d.Wt[q]? = some ns) {g n cap : Nat} (hu : v.ws[q]? = some (.slice (some ⟨g, 0, none⟩) n cap)) {j i : Nat} (hx : ns[j]? = some i) : w.cell? ⟨g, j, none⟩ = some (.int .i64 (i : Int)) := by
  obtain ⟨u, hu', ho, ht⟩ := h.co (.wth q) ns hns
  rw [hu] at hu'
  injection hu' with hu'
  subst hu'
  have := ho.cells (g := g) rfl j (.int .i64 (i : Int)) (by unfold nnts; rw [List.getElem?_map, hx]; rfl)
  rw [Addr.add_lit, Nat.zero_add] at this
  exact this

/-- Numbers are written in place behind a part of a watch list. -/
theorem SM.keepW (h : SM tag B w0 w a v d) {q : Nat} {kept nw tl tl' : List Nat} (hns : d.Wt[q]? = some (kept ++ tl)) {g cap : Nat} (hu : v.ws[q]? = some (.slice (some ⟨g, 0, none⟩) (kept ++ tl).length cap)) (htl : tl.length = (nw ++ tl').length) (htl2 : tl' = tl.drop nw.length) (h1 : Below w.heap.size w w1) {A : Addr} {m cc : Nat} (hm : m = nw.length) (hnw : ∀ (j : Nat) (i : Nat), nw[j]? = some i → w1.cell? (A.add j) = some (.int .i64 (i : Int))) (ty : TypeId) :
    ∃ w6, (appM #[22, 22] ty #[.slice (some ⟨g, 0, none⟩) kept.length cap, .slice (some A) m cc]).run Try.prog w1 = .ok (.slice (some ⟨g, 0, none⟩) (kept.length + m) cap) w6 ∧ SM tag B w0 w6 a v { d with Wt := d.Wt.set q (kept ++ (nw ++ tl')) } ∧ Touch (fun k => tag k = .wth q) w w6 := by
  subst hm
  obtain ⟨i0, hi0, hz0, hz1, hz2⟩ := info_parts info_int
  obtain ⟨u, hu', ho, ht⟩ := h.co (.wth q) _ hns
  rw [hu] at hu'
  injection hu' with hu'
  subst hu'
  have htg : tag g = .wth q := ht g rfl
  have ho0 := ho
  rcases ho.2 with ⟨e, -⟩ | ⟨g', cap', cur, e, hBg, hb, hnc, hcm, hsz, htk⟩
  · cases e
  · injection e with e1 e2 e3
    injection e1 with e1
    injection e1 with e1
    subst e1 e3
    have hnl := nnts_length (kept ++ tl)
    rw [hnl] at htk hnc e2
    rw [Nat.mul_one] at htk hsz
    have hgl := (Array.getElem?_eq_some_iff.1 hb).1
    have hb1 : w1.heap[g]? = some (.cells cur 3 (0, 0)) := (h1.block g hgl).trans hb
    simp only [List.length_append] at htl hnc htk
    have hlen : kept.length + nw.length ≤ kept.length + tl.length := by omega
    have hnl2 : (nnts nw).length = nw.length := nnts_length nw
    have hr := run_append_room (P := Try.prog) (w := w1) 22 ty 3 i0 Try.underlying22 hi0 g kept.length cap cur hb1 A nw.length cc (nnts nw) (by rw [hz1, hnl2, Nat.mul_one]) (fun j y hj => by
      unfold nnts at hj
      rw [List.getElem?_map] at hj
      cases hq : nw[j]? with
      | none => rw [hq] at hj; cases hj
      | some i =>
        rw [hq] at hj
        have hj : Value.int .i64 (i : Int) = y := by simpa using hj
        rw [← hj]
        exact hnw j i hq) (fun y hy => by
        unfold nnts at hy
        obtain ⟨i, -, rfl⟩ := List.mem_map.1 hy
        rfl) (by omega) (by rw [hz1, hnl2, Nat.mul_one, hsz]; omega)
    rw [hz1, Nat.mul_one, hnl2] at hr
    refine ⟨_, hr, ?_, ?_⟩
    · have hb6 := setRow_heap w1 g cur (cur.toList.take kept.length ++ nnts nw ++ cur.toList.drop (kept.length + nw.length)).toArray _ _ hb1
      have hT : Touch (fun k => tag k = .wth q) w (w1.setRow g (cur.toList.take kept.length ++ nnts nw ++ cur.toList.drop (kept.length + nw.length)).toArray) := by
        refine ⟨h1.os, h1.tape, h1.output, by simpa [World.setRow] using h1.size, fun k hk hn => ?_⟩
        rw [setRow_other w1 g k _ (fun e => hn (by rw [e]; exact htg))]
        exact h1.block k hk
      refine h.upd (fun s => s = .wth q) nofun hT (fun _ _ => rfl) (fun k _ hk => h.tB k hk) (fun s hs hco => ?_) ?_
      · cases s with
        | wth m =>
          intro c' hc'
          have hc' : (d.Wt.set q (kept ++ (nw ++ tl')))[m]? = some c' := hc'
          rw [List.getElem?_set_ne (fun e => hs (by rw [e]))] at hc'
          exact hco c' hc'
        | wtb => exact ⟨hco.1, hco.2.1, by rw [List.length_set]; exact hco.2.2⟩
        | _ => exact hco
      · rintro s rfl
        intro c' hc'
        have hc' : (d.Wt.set q (kept ++ (nw ++ tl')))[q]? = some c' := hc'
        rw [List.getElem?_set_self (List.getElem?_eq_some_iff.1 hns).1] at hc'
        injection hc' with hc'
        subst hc'
        refine ⟨_, hu, ⟨?_, .inr ⟨g, cap, _, ?_, hBg, hb6, ?_, hcm, ?_, ?_⟩⟩, fun g' hg' => ?_⟩
        · exact (Nat.mul_one _).symm
        · rw [nnts_length]; simp only [List.length_append] at htl ⊢; rw [htl]
        · rw [nnts_length, List.length_append, List.length_append]
          omega
        · have hcl : cur.toList.length = cur.size := Array.length_toList
          simp only [List.size_toArray, List.length_append, List.length_take, List.length_drop, hnl2, Nat.mul_one, hcl]
          omega
        · have hk1 : cur.toList.take kept.length = nnts kept := by
            have := congrArg (List.take kept.length) htk
            rw [List.take_take, Nat.min_eq_left (by omega)] at this
            rw [this]
            unfold nnts
            rw [List.map_append, List.take_left' (by simp)]
          have hk2 : (cur.toList.drop (kept.length + nw.length)).take tl'.length = nnts tl' := by
            have := congrArg (List.drop (kept.length + nw.length)) htk
            rw [List.drop_take] at this
            rw [htl2]
            have e3 : kept.length + tl.length - (kept.length + nw.length) = (tl.drop nw.length).length := by simp; omega
            rw [e3] at this
            rw [this]
            unfold nnts
            rw [← List.map_drop, List.drop_append]
            simp
          simp only [nnts_length, Nat.mul_one, List.length_append]
          rw [hk1]
          have e4 : kept.length + (nw.length + tl'.length) = (nnts kept ++ nnts nw).length + tl'.length := by simp [nnts_length]; omega
          rw [e4, List.take_length_add_append, hk2]
          simp [nnts]
        · exact ht g' (by simpa [Value.ownBlock] using hg')
    · refine ⟨h1.os, h1.tape, h1.output, by simpa [World.setRow] using h1.size, fun k hk hn => ?_⟩
      rw [setRow_other w1 g k _ (fun e => hn (by rw [e]; exact htg))]
      exact h1.block k hk

theorem own_cut {w : World} {B e n : Nat} {ao : Option Addr} {cap m : Nat} {xs : List Value} (h : w.ownsRow B e 1 (.slice ao n cap) n xs) (hm : m ≤ n) : w.ownsRow B e 1 (.slice ao m cap) m (xs.take m) := by
  have hl := h.1
  refine ⟨by rw [List.length_take]; omega, ?_⟩
  rcases h.2 with ⟨e, hn⟩ | ⟨g, cap', cur, e, h2, h3, h4, h5, h6, h7⟩
  · left
    injection e with e1 e2 e3
    exact ⟨by rw [e1, e3, show m = 0 by omega], by omega⟩
  · right
    injection e with e1 e2 e3
    subst e1 e3
    exact ⟨g, cap, cur, rfl, h2, h3, by omega, h5, h6, by rw [← h7, List.take_take]; congr 1; omega⟩

/-- A watch list is cut. -/
theorem SM.cutW (h : SM tag B w0 w a v d) {q : Nat} {ns : List Nat} (hns : d.Wt[q]? = some ns) {ao : Option Addr} {n m cap : Nat} (hu : v.ws[q]? = some (.slice ao n cap)) (hm : m ≤ ns.length) :
    SM tag B w0 (w.setCell ⟨a.bw, q, none⟩ (.slice ao m cap)) a { v with ws := v.ws.set q (.slice ao m cap) } { d with Wt := d.Wt.set q (ns.take m) } := by
  have hsb : tag a.bw = .wtb := (h.co .wtb).1.2
  obtain ⟨u', e1, hG⟩ := h.co (.wth q) ns hns
  rw [hu] at e1
  injection e1 with e1
  subst e1
  have hnl : (nnts ns).length = ns.length := nnts_length ns
  have hn : n = ns.length := by
    have := hG.1
    rw [hnl] at this
    obtain ⟨_, _, e⟩ := own_lenV' this
    injection e
  subst hn
  have hql := (List.getElem?_eq_some_iff.1 hns).1
  have hql2 := (List.getElem?_eq_some_iff.1 hu).1
  refine h.upd (fun s => s = .wth q ∨ s = .wtb) (by rintro (e | e) <;> cases e) (Touch.setCell (p := ⟨a.bw, q, none⟩) (Touch.refl _ w) (.inr hsb) _) (fun _ _ => rfl) (fun k _ hk => h.tB k hk) (fun s hs hco => ?_) ?_
  · cases s with
    | wth m' =>
      have hmq : m' ≠ q := fun e => hs (.inl (by rw [e]))
      intro c' hc'
      have hc' : (d.Wt.set q (ns.take m))[m']? = some c' := hc'
      rw [List.getElem?_set_ne (fun e => hmq e.symm)] at hc'
      obtain ⟨u', q1, q2⟩ := hco c' hc'
      exact ⟨u', by show (v.ws.set q _)[m']? = some u'; rw [List.getElem?_set_ne (fun e => hmq e.symm)]; exact q1, q2⟩
    | wtb => exact absurd (.inr rfl) hs
    | _ => exact hco
  · rintro s (rfl | rfl)
    · intro c' hc'
      have hc' : (d.Wt.set q (ns.take m))[q]? = some c' := hc'
      rw [List.getElem?_set_self hql] at hc'
      injection hc' with hc'
      subst hc'
      refine ⟨_, by show (v.ws.set q _)[q]? = _; rw [List.getElem?_set_self hql2], ?_, fun g hg => hG.2 g (by cases ao <;> exact hg)⟩
      have hG1 := hG.1
      rw [hnl] at hG1
      have h2 := own_cut hG1 hm
      have e : (nnts ns).take m = nnts (ns.take m) := by unfold nnts; rw [List.map_take]
      rw [e] at h2
      have e2 : (nnts (ns.take m)).length = m := by rw [nnts_length, List.length_take]; omega
      rw [e2]
      exact own_setO h2 (h.co .wtb).1.1 (by decide) _ _
    · exact ⟨(h.co .wtb).1.set (o := q) _, by simpa using (h.co .wtb).2.1, by simpa using (h.co .wtb).2.2⟩

end

end Go.Proofs.Ytfofabbnbmieoaa.Ord

/- solve's propagate: what holds between its steps, and what each step makes of it. -/
namespace Go.Proofs.Ytfofabbnbmieoaa.Ord
open Go.RowKit Go.Conc

/-- What propagate leaves as it was. -/
structure PGs (d0 d : SD) : Prop where
  cl : d.C.length = d0.C.length
  ph : d.ph = d0.ph
  ls : d.ls = d0.ls
  P : d.P = d0.P
  bp : d.bp = d0.bp
  A : d.A = d0.A
  In : d.In = d0.In
  K : ∃ R, d.K = d0.K ++ R

theorem PGs.refl (d : SD) : PGs d d := ⟨rfl, rfl, rfl, rfl, rfl, rfl, rfl, [], by simp⟩

theorem PGs.cw {d0 d : SD} (h : PGs d0 d) {C : List (List Int)} (hC : C.length = d.C.length) (Wt : List (List Nat)) (dn : Nat) : PGs d0 { d with C := C, Wt := Wt, dn := dn } :=
  ⟨hC.trans h.cl, h.ph, h.ls, h.P, h.bp, h.A, h.In, h.K⟩

theorem PGs.set {d0 d : SD} (h : PGs d0 d) (x rs : Int) : PGs d0 (setD d x rs) :=
  ⟨h.cl, h.ph, h.ls, h.P, h.bp, h.A, h.In, by obtain ⟨R, hR⟩ := h.K; exact ⟨R ++ [x], by show d.K ++ [x] = _; rw [hR, List.append_assoc]⟩⟩

/-- What the state and the memory say throughout. -/
structure PWs (n : Nat) (bs : List Nat) (tag0 : Nat → KT) (B : Nat) (w0 w : World) (a : SA) (d0 : SD) (wr : World) (tag : Nat → KT) (v : SV) (d : SD) (Rz : List Int) : Prop where
  sm : SM tag B w0 wr a v d
  sr : SR tag0 tag w wr
  lk : LK n d Rz bs
  pg : PGs d0 d

/-- Between two literals of the trail. -/
structure POs (n : Nat) (G : List (List Int)) (bs : List Nat) (tag0 : Nat → KT) (B : Nat) (w0 w : World) (a : SA) (d0 : SD) (wr : World) (tag : Nat → KT) (v : SV) (d : SD) (Rz : List Int) : Prop extends PWs n bs tag0 B w0 w a d0 wr tag v d Rz where
  cd : CD n G d.C (WtF d.Wt) d.K Rz bs d.dn

/-- What stands fixed while the clauses of a literal are gone through. -/
structure PLs where
  L : List Nat
  au : Option Addr
  cu : Nat
  q : Nat
  x : Int
  K1 : List Int
  dn1 : Nat

/-- Between two clauses. -/
structure PIs (n : Nat) (G : List (List Int)) (bs : List Nat) (tag0 : Nat → KT) (B : Nat) (w0 w : World) (a : SA) (d0 : SD) (p : PLs) (wr : World) (tag : Nat → KT) (v : SV) (d : SD) (Rz : List Int) (kept : List Nat) (m : Nat) : Prop extends PWs n bs tag0 B w0 w a d0 wr tag v d Rz where
  cj : CJ n G d.C (WtF d.Wt) d.K Rz bs p.K1 p.dn1 p.x kept (p.L.drop m)
  ct : d.Wt[p.q]? = some (kept ++ p.L.drop kept.length)
  km : kept.length ≤ m
  ml : m ≤ p.L.length
  ws : v.ws[p.q]? = some (.slice p.au p.L.length p.cu)
  dn : d.dn = p.dn1 + 1
  qx : (ixL p.x).toNat = p.q
  xo : LitOk n p.x
  zn : a.n1 = n + 1

/-- A clause whose second literal is the false one. -/
structure FL (n : Nat) (c e : List Int) (x o : Int) : Prop where
  same : Same c e
  e0 : e[0]? = some o
  e1 : e[1]? = some x
  cw : ∀ b, (c[0]? = some b ∨ c[1]? = some b) ↔ (b = x ∨ b = o)
  ne : x ≠ o
  ok : ∀ y ∈ e, LitOk n y
  len : 2 ≤ e.length

section
variable {n : Nat} {G : List (List Int)} {C : List (List Int)} {Wt Wt' : Int → List Nat} {K Kd Rz : List Int} {bs : List Nat} {x o : Int} {dd : Nat} {kept rest : List Nat} {i : Nat} {c e : List Int}

theorem CJ.wt (h : CJ n G C Wt K Rz bs Kd dd x kept rest) (hw : ∀ b, b ≠ x → Wt' b = Wt b) : CJ n G C Wt' K Rz bs Kd dd x kept rest := by
  have e : ∀ l, effW Wt' x l = effW Wt x l := fun l => funext fun b => by
    unfold effW
    split
    · rfl
    · exact hw b ‹_›
  exact ⟨by rw [e]; exact h.toCB, h.pr, h.hk, h.pre, h.bd⟩

/-- The clause at hand. -/
theorem CJ.flip (h : CJ n G C Wt K Rz bs Kd dd x kept (i :: rest)) : ∃ c, C[i]? = some c ∧ c.length ≤ n ∧ ((∃ o, c[0]? = some x ∧ c[1]? = some o ∧ FL n c (swapL c 0 1) x o) ∨ (∃ o, o ≠ x ∧ c[0]? = some o ∧ c[1]? = some x ∧ FL n c c x o)) := by
  obtain ⟨c, hc, hw, -, -⟩ := h.il0.here
  have hcm := h.wi.cls c (List.mem_of_getElem? hc)
  obtain ⟨p, q, hp, hq⟩ := two_get hcm.1
  refine ⟨c, hc, lits_le hcm.2.1 hcm.2.2.2 hcm.2.2.1, ?_⟩
  have hne : p ≠ q := fun e => by
    have := nodup_get hcm.2.1 hp (by rw [e]; exact hq)
    omega
  by_cases hx : p = x
  · subst hx
    refine .inl ⟨q, hp, hq, same_swap (by omega) (by omega) hcm.2.1, ?_, ?_, fun b => ?_, hne, fun y hy => hcm.2.2.1 y ((swapL_mem (by omega) (by omega)).1 hy), by rw [swapL_length]; exact hcm.1⟩
    · rw [swapL_get (by omega) (by omega)]; simpa using hq
    · rw [swapL_get (by omega) (by omega)]; simpa using hp
    · rw [hp, hq]
      constructor
      · rintro (e | e) <;> injection e with e
        · exact .inl e.symm
        · exact .inr e.symm
      · rintro (e | e) <;> rw [e]
        · exact .inl rfl
        · exact .inr rfl
  · have hqx : q = x := by
      rcases hw with e | e
      · rw [hp] at e; injection e with e; exact absurd e hx
      · rw [hq] at e; injection e
    subst hqx
    refine .inr ⟨p, hx, hp, hq, ⟨rfl, hcm.2.1, fun _ => Iff.rfl⟩, hp, hq, fun b => ?_, fun e => hx e.symm, hcm.2.2.1, hcm.1⟩
    rw [hp, hq]
    constructor
    · rintro (e | e) <;> injection e with e
      · exact .inr e.symm
      · exact .inl e.symm
    · rintro (e | e) <;> rw [e]
      · exact .inr rfl
      · exact .inl rfl

/-- The second literal changes its place with another one. -/
theorem FL.swap (h : FL n c e x o) {j : Nat} (hj : 2 ≤ j) {z : Int} (hz : e[j]? = some z) : Same c (swapL e 1 j) ∧ (swapL e 1 j)[0]? = some o ∧ (swapL e 1 j)[1]? = some z ∧ x ≠ z ∧ z ≠ o ∧ LitOk n z := by
  have hjl := (List.getElem?_eq_some_iff.1 hz).1
  have hs := h.same
  have h2 := same_swap (c := e) (j := 1) (k := j) (by omega) hjl hs.2.1
  refine ⟨⟨h2.1.trans hs.1, h2.2.1, fun y => (h2.2.2 y).trans (hs.2.2 y)⟩, ?_, ?_, fun e' => ?_, fun e' => ?_, h.ok z (List.mem_of_getElem? hz)⟩
  · rw [swapL_get (by omega) hjl, if_neg (by omega), if_neg (by omega)]; exact h.e0
  · rw [swapL_get (by omega) hjl, if_neg (by omega), if_pos rfl]; exact hz
  · have := nodup_get hs.2.1 hz (by rw [← e']; exact h.e1)
    omega
  · have := nodup_get hs.2.1 hz (by rw [e']; exact h.e0)
    omega

theorem FL.all (h : FL n c e x o) {K : List Int} (hx : -x ∈ K) (hj : ∀ (t : Nat) (y : Int), 2 ≤ t → e[t]? = some y → -y ∈ K) : ∀ y ∈ c, y ≠ o → -y ∈ K := fun y hy hyo => by
  obtain ⟨t, ht⟩ := List.mem_iff_getElem?.1 ((h.same.2.2 y).2 hy)
  match t, ht with
  | 0, ht => rw [h.e0] at ht; injection ht with ht; exact absurd ht.symm hyo
  | 1, ht => rw [h.e1] at ht; injection ht with ht; rw [← ht]; exact hx
  | t + 2, ht => exact hj (t + 2) y (by omega) ht

end

section
variable {n : Nat} {G : List (List Int)} {bs : List Nat} {tag0 tag tag' : Nat → KT} {B : Nat} {w0 w wr w6 : World} {a : SA} {d0 d : SD} {p : PLs} {v v' : SV} {Rz : List Int} {kept : List Nat} {m i : Nat} {c e : List Int} {o : Int}

theorem PIs.drop (_h : PIs n G bs tag0 B w0 w a d0 p wr tag v d Rz kept m) (hi : p.L[m]? = some i) : p.L.drop m = i :: p.L.drop (m + 1) := by
  obtain ⟨hl, e⟩ := List.getElem?_eq_some_iff.1 hi
  rw [List.drop_eq_getElem_cons hl, e]

theorem PIs.cj' (h : PIs n G bs tag0 B w0 w a d0 p wr tag v d Rz kept m) (hi : p.L[m]? = some i) : CJ n G d.C (WtF d.Wt) d.K Rz bs p.K1 p.dn1 p.x kept (i :: p.L.drop (m + 1)) := by
  rw [← h.drop hi]
  exact h.cj

/-- The list's cell at the place m. -/
theorem PIs.at (h : PIs n G bs tag0 B w0 w a d0 p wr tag v d Rz kept m) (hi : p.L[m]? = some i) : (kept ++ p.L.drop kept.length)[m]? = some i := by
  have := h.km
  rw [List.getElem?_append_right this, List.getElem?_drop]
  rw [show kept.length + (m - kept.length) = m by omega]
  exact hi

theorem PIs.len (h : PIs n G bs tag0 B w0 w a d0 p wr tag v d Rz kept m) : (kept ++ p.L.drop kept.length).length = p.L.length := by
  have := h.km
  have := h.ml
  simp
  omega

theorem PIs.wtf (h : PIs n G bs tag0 B w0 w a d0 p wr tag v d Rz kept m) (l : List Nat) : WtF (d.Wt.set p.q l) = effW (WtF d.Wt) p.x l := by
  have := (List.getElem?_eq_some_iff.1 h.ct).1
  rw [← h.qx] at this ⊢
  exact WtF_set this l

theorem PIs.wtne (h : PIs n G bs tag0 B w0 w a d0 p wr tag v d Rz kept m) (l : List Nat) : ∀ b, b ≠ p.x → WtF (d.Wt.set p.q l) b = WtF d.Wt b := fun b hb => by
  rw [h.wtf]
  exact effW_ne _ _ hb

theorem PIs.drop1 (h : PIs n G bs tag0 B w0 w a d0 p wr tag v d Rz kept m) (hi : p.L[m]? = some i) : (p.L.drop kept.length).length = ([i] ++ p.L.drop (kept.length + 1)).length ∧ p.L.drop (kept.length + 1) = (p.L.drop kept.length).drop [i].length := by
  have := h.km
  have := (List.getElem?_eq_some_iff.1 hi).1
  refine ⟨by simp; omega, by rw [List.drop_drop]; rfl⟩

/-- The clause stays with the literal. -/
theorem PIs.keep (h : PIs n G bs tag0 B w0 w a d0 p wr tag v d Rz kept m) (hi : p.L[m]? = some i) (hc : d.C[i]? = some c) (hf : FL n c e p.x o) (ho : o ∈ d.K)
    (hM : SM tag B w0 w6 a v { d with C := d.C.set i e, Wt := d.Wt.set p.q (kept ++ ([i] ++ p.L.drop (kept.length + 1))) }) (hS : SR tag0 tag w w6) :
    PIs n G bs tag0 B w0 w a d0 p w6 tag v { d with C := d.C.set i e, Wt := d.Wt.set p.q (kept ++ ([i] ++ p.L.drop (kept.length + 1))) } Rz (kept ++ [i]) (m + 1) := by
  have hl := (List.getElem?_eq_some_iff.1 hi).1
  have hq := (List.getElem?_eq_some_iff.1 h.ct).1
  have hkm := h.km
  refine ⟨⟨hM, hS, h.lk.cw _ _ d.dn, h.pg.cw (by simp) _ d.dn⟩, ((h.cj' hi).keep hc hf.same hf.e0 hf.e1 hf.cw hf.ne ho).wt (h.wtne _), ?_, by simp; omega, hl, h.ws, h.dn, h.qx, h.xo, h.zn⟩
  show (d.Wt.set p.q _)[p.q]? = _
  rw [List.getElem?_set_self hq]
  simp

/-- The clause goes over to another literal. -/
theorem PIs.move (h : PIs n G bs tag0 B w0 w a d0 p wr tag v d Rz kept m) (hi : p.L[m]? = some i) (hc : d.C[i]? = some c) (hf : FL n c e p.x o) {j : Nat} (hj : 2 ≤ j) {z : Int} (hz : e[j]? = some z) (hzK : -z ∉ d.K) {u6 : Value}
    (hM : SM tag' B w0 w6 a { v with ws := v.ws.set (ixL z).toNat u6 } { d with C := d.C.set i (swapL e 1 j), Wt := addW (ixL z).toNat i d.Wt }) (hS : SR tag0 tag' w w6) :
    PIs n G bs tag0 B w0 w a d0 p w6 tag' { v with ws := v.ws.set (ixL z).toNat u6 } { d with C := d.C.set i (swapL e 1 j), Wt := addW (ixL z).toNat i d.Wt } Rz kept (m + 1) := by
  have hl := (List.getElem?_eq_some_iff.1 hi).1
  have hkm := h.km
  obtain ⟨h1, h2, h3, h4, h5, h6⟩ := hf.swap hj hz
  have hzl : (ixL z).toNat < d.Wt.length := by
    rw [(h.sm.co .wtb).2.2]
    exact ixL_lt h.zn h6
  have hne : (ixL z).toNat ≠ p.q := fun e => h4 (ixL_inj (by rw [h.qx, e]))
  refine ⟨⟨hM, hS, h.lk.cw _ _ d.dn, h.pg.cw (by simp) _ d.dn⟩, (h.cj' hi).move (Wt' := WtF (addW (ixL z).toNat i d.Wt)) hc h1 h2 h3 hf.cw hf.ne h4 h5 hzK ?_ fun b hb => ?_, ?_, by omega, hl, ?_, h.dn, h.qx, h.xo, h.zn⟩
  · rw [WtF_add hzl, effW_self]
  · rw [WtF_add hzl, effW_ne _ _ hb]
  · show (addW (ixL z).toNat i d.Wt)[p.q]? = _
    unfold addW
    rw [List.getElem?_set_ne hne]
    exact h.ct
  · show (v.ws.set (ixL z).toNat u6)[p.q]? = _
    rw [List.getElem?_set_ne hne]
    exact h.ws

/-- The clause makes its other literal hold. -/
theorem PIs.set (h : PIs n G bs tag0 B w0 w a d0 p wr tag v d Rz kept m) (hi : p.L[m]? = some i) (hc : d.C[i]? = some c) (hf : FL n c e p.x o) (hj : ∀ (t : Nat) (y : Int), 2 ≤ t → e[t]? = some y → -y ∈ d.K) (ho : o ∉ d.K ∧ -o ∉ d.K)
    (hM : SM tag' B w0 w6 a v' (setD { d with C := d.C.set i e, Wt := d.Wt.set p.q (kept ++ ([i] ++ p.L.drop (kept.length + 1))) } o i)) (hv : v'.ws = v.ws) (hS : SR tag0 tag' w w6) :
    PIs n G bs tag0 B w0 w a d0 p w6 tag' v' (setD { d with C := d.C.set i e, Wt := d.Wt.set p.q (kept ++ ([i] ++ p.L.drop (kept.length + 1))) } o i) (Rz ++ [(i : Int)]) (kept ++ [i]) (m + 1) := by
  have hl := (List.getElem?_eq_some_iff.1 hi).1
  have hq := (List.getElem?_eq_some_iff.1 h.ct).1
  have hkm := h.km
  have hfa := hf.all h.cj.ak hj
  have hoo : LitOk n o := hf.ok o (List.mem_of_getElem? hf.e0)
  have hbd : ∀ b ∈ bs, b ≤ d.K.length := fun b hb => Nat.le_of_lt (h.cj.bl b hb)
  refine ⟨⟨hM, hS, ((h.lk.cw _ _ d.dn).set h.cj.rl hoo ho.1 ho.2 hbd ?_ ?_ ?_), (h.pg.cw (by simp) _ d.dn).set _ _⟩, ((h.cj' hi).set hc hf.same hf.e0 hf.e1 hf.cw hf.ne ho hfa).wt (h.wtne _), ?_, by simp; omega, hl, by rw [hv]; exact h.ws, h.dn, h.qx, h.xo, h.zn⟩
  · exact (h.sm.co .val).2.trans h.zn
  · exact (h.sm.co .lev).2.trans h.zn
  · exact (h.sm.co .rea).2.trans h.zn
  · show (d.Wt.set p.q _)[p.q]? = _
    rw [List.getElem?_set_self hq]
    simp

/-- The clause is false. -/
theorem PIs.fail (h : PIs n G bs tag0 B w0 w a d0 p wr tag v d Rz kept m) (hi : p.L[m]? = some i) (hc : d.C[i]? = some c) (hf : FL n c e p.x o) (hj : ∀ (t : Nat) (y : Int), 2 ≤ t → e[t]? = some y → -y ∈ d.K) (ho : -o ∈ d.K) :
    CF n G (d.C.set i e) (WtF (d.Wt.set p.q (kept ++ (i :: p.L.drop (m + 1))))) d.K Rz bs i := by
  rw [h.wtf]
  exact (h.cj' hi).fail hc hf.same hf.e0 hf.e1 hf.cw (hf.all h.cj.ak hj) ho

/-- All clauses are gone through. -/
theorem PIs.leave (h : PIs n G bs tag0 B w0 w a d0 p wr tag v d Rz kept m) (hm : p.L.length ≤ m)
    (hM : SM tag B w0 w6 a v' { d with Wt := d.Wt.set p.q kept }) (hS : SR tag0 tag w w6) : POs n G bs tag0 B w0 w a d0 w6 tag v' { d with Wt := d.Wt.set p.q kept } Rz := by
  refine ⟨⟨hM, hS, h.lk.cw _ _ d.dn, h.pg.cw rfl _ d.dn⟩, ?_⟩
  have hcj := h.cj
  rw [List.drop_eq_nil_of_le hm] at hcj
  have := hcj.leave
  show CD n G d.C (WtF (d.Wt.set p.q kept)) d.K Rz bs d.dn
  rw [h.wtf, h.dn]
  exact this

/-- The clauses of the next literal. -/
theorem POs.enter (h : POs n G bs tag0 B w0 w a d0 wr tag v d Rz) (hn : a.n1 = n + 1) {x : Int} (hk : d.K[d.dn]? = some (-x)) {q : Nat} (hq : (ixL x).toNat = q) {L : List Nat} (hL : d.Wt[q]? = some L) {au : Option Addr} {cu : Nat} (hw : v.ws[q]? = some (.slice au L.length cu))
    (hM : SM tag B w0 w6 a v { d with dn := d.dn + 1 }) (hS : SR tag0 tag w w6) : PIs n G bs tag0 B w0 w a d0 ⟨L, au, cu, q, x, d.K, d.dn⟩ w6 tag v { d with dn := d.dn + 1 } Rz [] 0 := by
  have hx := h.cd.kok _ (List.mem_of_getElem? hk)
  refine ⟨⟨hM, hS, h.lk.cw d.C d.Wt (d.dn + 1), h.pg.cw rfl d.Wt (d.dn + 1)⟩, ?_, by simpa using hL, Nat.le_refl _, Nat.zero_le _, hw, rfl, hq, (by show LitOk n x; unfold LitOk at hx ⊢; omega), hn⟩
  have h1 := h.cd.enter hk
  have h2 : WtF d.Wt x = L := by
    unfold WtF
    rw [hq, hL]
    rfl
  rw [h2] at h1
  exact h1

/-- The rest of the list is laid behind what stays. -/
theorem PIs.two {wy : World} {C' : List (List Int)} {g : Nat} (h : PIs n G bs tag0 B w0 w a d0 p wr tag v d Rz kept m) (hi : p.L[m]? = some i) (hg : p.au = some ⟨g, 0, none⟩) (hlc : p.L.length ≤ p.cu)
    (hM : SM tag B w0 wy a v { d with C := C', Wt := d.Wt.set p.q (kept ++ ([i] ++ p.L.drop (kept.length + 1))) }) : ∃ w7, (appM #[22, 22] 22 #[.slice (some ⟨g, 0, none⟩) (kept.length + 1) p.cu, .slice (some (if p.cu = m + 1 then ⟨g, 0, none⟩ else (⟨g, 0, none⟩ : Addr).add (m + 1))) (p.L.length - (m + 1)) (p.cu - (m + 1))]).run Try.prog wy = .ok (.slice (some ⟨g, 0, none⟩) (kept.length + 1 + (p.L.length - (m + 1))) p.cu) w7 ∧
      Touch (fun k => tag k = .wth p.q) wy w7 ∧ (∃ d7, SM tag B w0 w7 a v d7) ∧
      SM tag B w0 (w7.setCell ⟨a.bw, p.q, none⟩ (.slice (some ⟨g, 0, none⟩) (kept.length + 1 + (p.L.length - (m + 1))) p.cu)) a { v with ws := v.ws.set p.q (.slice (some ⟨g, 0, none⟩) (kept.length + 1 + (p.L.length - (m + 1))) p.cu) } { d with C := C', Wt := d.Wt.set p.q (kept ++ (i :: p.L.drop (m + 1))) } := by
  have hq := (List.getElem?_eq_some_iff.1 h.ct).1
  have hkm := h.km
  have hl := (List.getElem?_eq_some_iff.1 hi).1
  have hws := h.ws
  rw [hg] at hws
  have hlen : ((kept ++ [i]) ++ p.L.drop (kept.length + 1)).length = p.L.length := by simp; omega
  have hns : (d.Wt.set p.q (kept ++ ([i] ++ p.L.drop (kept.length + 1))))[p.q]? = some ((kept ++ [i]) ++ p.L.drop (kept.length + 1)) := by rw [List.getElem?_set_self hq, List.append_assoc]
  obtain ⟨w7, hr, hM7, hT7⟩ := hM.keepW (q := p.q) (kept := kept ++ [i]) (nw := p.L.drop (m + 1)) (tl := p.L.drop (kept.length + 1)) (tl' := (p.L.drop (kept.length + 1)).drop (p.L.drop (m + 1)).length) hns (cap := p.cu) (g := g) (by rw [hlen]; exact hws) (by simp; omega) rfl (Below.refl _ wy) (A := if p.cu = m + 1 then ⟨g, 0, none⟩ else (⟨g, 0, none⟩ : Addr).add (m + 1)) (m := p.L.length - (m + 1)) (cc := p.cu - (m + 1)) (by simp) (fun j y hj => by
    rw [List.getElem?_drop] at hj
    have hjl := (List.getElem?_eq_some_iff.1 hj).1
    rw [if_neg (by omega)]
    have := hM.wthLit hns (g := g) (n := p.L.length) (cap := p.cu) hws (j := m + 1 + j) (i := y) (by
      rw [List.getElem?_append_right (by simp; omega), List.getElem?_drop]
      rw [show kept.length + 1 + (m + 1 + j - (kept ++ [i]).length) = m + 1 + j by simp; omega]
      exact hj)
    rw [Addr.add_lit, Addr.add_lit, Nat.zero_add]
    exact this) 22
  have e1 : (kept ++ [i]).length = kept.length + 1 := by simp
  rw [e1] at hr
  refine ⟨w7, hr, hT7, ⟨_, hM7⟩, ?_⟩
  have h8 := hM7.cutW (q := p.q) (ns := (kept ++ [i]) ++ (p.L.drop (m + 1) ++ (p.L.drop (kept.length + 1)).drop (p.L.drop (m + 1)).length)) (m := kept.length + 1 + (p.L.length - (m + 1))) (by
    show ((d.Wt.set p.q _).set p.q _)[p.q]? = _
    rw [List.getElem?_set_self (by simpa using hq)]) hws (by simp; omega)
  have e2 : ((kept ++ [i]) ++ (p.L.drop (m + 1) ++ (p.L.drop (kept.length + 1)).drop (p.L.drop (m + 1)).length)).take (kept.length + 1 + (p.L.length - (m + 1))) = kept ++ (i :: p.L.drop (m + 1)) := by
    rw [← List.append_assoc, List.take_left' (by simp; omega)]
    simp
  rw [e2] at h8
  have e3 : ((d.Wt.set p.q (kept ++ ([i] ++ p.L.drop (kept.length + 1)))).set p.q ((kept ++ [i]) ++ (p.L.drop (m + 1) ++ (p.L.drop (kept.length + 1)).drop (p.L.drop (m + 1)).length))).set p.q (kept ++ (i :: p.L.drop (m + 1))) = d.Wt.set p.q (kept ++ (i :: p.L.drop (m + 1))) := by rw [List.set_set, List.set_set]
  rw [← e3]
  exact h8

/-- What stays is the list. -/
theorem PIs.fin {wy : World} (h : PIs n G bs tag0 B w0 w a d0 p wr tag v d Rz kept m) (hM : SM tag B w0 wy a v d) : SM tag B w0 (wy.setCell ⟨a.bw, p.q, none⟩ (.slice p.au kept.length p.cu)) a { v with ws := v.ws.set p.q (.slice p.au kept.length p.cu) } { d with Wt := d.Wt.set p.q kept } := by
  have h8 := hM.cutW h.ct (m := kept.length) h.ws (by simp)
  rw [List.take_left' rfl] at h8
  exact h8

end

end Go.Proofs.Ytfofabbnbmieoaa.Ord

/- solve's state: small facts about its worlds and its rows. -/
namespace Go.Proofs.Ytfofabbnbmieoaa.Ord
open Go.RowKit Go.Conc

theorem SR.same {tag0 tag : Nat → KT} {w wr w6 : World} (h : SR tag0 tag w wr) (hT : Touch (fun k => tag k ≠ .oth) wr w6) : SR tag0 tag w w6 := h.trans ⟨hT, fun _ _ e => e⟩

theorem SR.drewN {tag0 tag : Nat → KT} {w wr : World} (h : SR tag0 tag w wr) (q : Nat) : SR tag0 tag w (wr.drewN q) := h.same ((Touch.refl _ _).drewN q)

theorem SR.drew {tag0 tag : Nat → KT} {w wr : World} (h : SR tag0 tag w wr) : SR tag0 tag w wr.drew := h.same (Touch.refl _ _).drew

section
variable {tag : Nat → KT} {B : Nat} {w0 w : World} {a : SA} {v : SV} {d : SD}

theorem SM.drewN (h : SM tag B w0 w a v d) (q : Nat) : SM tag B w0 (w.drewN q) a v d := h.grow (below_dr (Below.refl _ _) q) (fun _ _ => rfl) fun k _ hk => h.tB k hk

theorem SM.drew (h : SM tag B w0 w a v d) : SM tag B w0 w.drew a v d := h.grow (Below.refl _ w).drew (fun _ _ => rfl) fun k _ hk => h.tB k hk

theorem SM.trlc (h : SM tag B w0 w a v d) : ∃ au cu, v.vt = .slice au d.K.length cu ∧ w.ownsRow B 3 1 v.vt d.K.length (ints d.K) := by
  have h1 := (h.co .trl).1
  have e : (ints d.K).length = d.K.length := by simp [ints]
  rw [e] at h1
  obtain ⟨au, cu, hv⟩ := own_lenV' h1
  exact ⟨au, cu, hv, h1⟩

theorem SM.clrc (h : SM tag B w0 w a v d) : ∃ au cu, v.vc = .slice au d.C.length cu ∧ w.ownsRow B 22 1 v.vc d.C.length v.us := by
  have h1 := (h.co .clr).1.1
  rw [(h.co .clr).2] at h1
  obtain ⟨au, cu, hv⟩ := own_lenV' h1
  exact ⟨au, cu, hv, h1⟩

theorem SM.wtc (h : SM tag B w0 w a v d) {q : Nat} (hq : q < 2 * a.n1) : ∃ au cu ns, d.Wt[q]? = some ns ∧ v.ws[q]? = some (.slice au ns.length cu) ∧ w.ownsRow B 3 1 (.slice au ns.length cu) ns.length (nnts ns) ∧ w.cell? ⟨a.bw, q, none⟩ = some (.slice au ns.length cu) := by
  obtain ⟨u, ns, hu, hns, hG⟩ := h.wthAt hq
  have h1 := hG.1
  rw [nnts_length] at h1
  obtain ⟨au, cu, hv⟩ := own_lenV' h1
  subst hv
  exact ⟨au, cu, ns, hns, hu, h1, by rw [fit_cell (h.co .wtb).1.1 q]; exact hu⟩

theorem SM.wthS (h : SM tag B w0 w a v d) {q : Nat} {ns : List Nat} (hns : d.Wt[q]? = some ns) {au : Option Addr} {n cu : Nat} (hu : v.ws[q]? = some (.slice au n cu)) (hne : ns ≠ []) : ∃ g, au = some ⟨g, 0, none⟩ ∧ tag g = .wth q ∧ ns.length ≤ cu := by
  obtain ⟨u, hu', ho, ht⟩ := h.co (.wth q) ns hns
  rw [hu] at hu'
  injection hu' with hu'
  subst hu'
  rw [nnts_length] at ho
  rcases ho.2 with ⟨-, e⟩ | ⟨g, cap, cur, e, -, -, hcap, -⟩
  · exact absurd (List.length_eq_zero_iff.1 e) hne
  · injection e with e1 e2 e3
    subst e1 e3
    exact ⟨g, rfl, ht g rfl, hcap⟩

theorem one_cellN (w : World) (i : Nat) : ∀ (j y : Nat), [i][j]? = some y → (w.alloc (.cells #[.int .i64 (i : Int)] 3 (0, 0))).cell? ((⟨w.heap.size, 0, none⟩ : Addr).add j) = some (.int .i64 (y : Int)) := fun j y hj => by
  match j, hj with
  | 0, hj =>
    have hj : i = y := by simpa using hj
    subst hj
    rw [Addr.add_lit]
    exact fit_cell (vs := [.int .i64 (i : Int)]) (heap_alloc_new w _) 0

theorem Touch.cellT {S : Nat → Prop} {w w' : World} (h : Touch S w w') {p : Addr} {v : Value} (hp : w.cell? p = some v) (hn : ¬ S p.block) : w'.cell? p = some v := by
  rcases hh : w.heap[p.block]? with _ | obj
  · simp [World.cell?, hh] at hp
  · have := h.block _ (Array.getElem?_eq_some_iff.1 hh).1 hn
    simp only [World.cell?] at hp ⊢
    rw [this]
    exact hp

theorem cell_other {w : World} {p : Addr} {b o : Nat} {u : Value} (h : b ≠ p.block) : (w.setCell p u).cell? ⟨b, o, none⟩ = w.cell? ⟨b, o, none⟩ := by
  simp only [World.cell?]
  rw [heap_setCell_other w p b u h]

theorem slice_fromG {P : Program} {t e : TypeId} {ad : Addr} {n c : Nat} {k : Int} {m : Nat} (hkm : k = m) (ht : P.underlying t = some (.slice e)) (hsz : ∀ wx, (sizeOf e).run P wx = .ok 1 wx) (h1 : m ≤ n) :
    ∀ wx, (Instr.slice t (.slice (some ad) n c) (some (.int .i64 k)) none none).run P wx = .ok (.slice (some (if c = m then ad else ad.add m)) (n - m) (c - m)) wx := by
  subst hkm
  intro wx
  have he : P.elem t = e := by simp [Program.elem, ht]
  rw [run_slice_l (P := P) wx t (some ad) n c (by rw [he]; exact ht) .i64 m (by omega) (by omega), he, hsz]
  by_cases q : c = m <;> simp [sliced, Result.andThen, q]

theorem SM.chg (_h : SM tag B w0 w a v d) {b o : Nat} {t : KT} (ht : tag b = t) (hne : t ≠ .oth) (u : Value) : Touch (fun k => tag k ≠ .oth) w (w.setCell ⟨b, o, none⟩ u) := (Touch.refl _ w).setCell (p := ⟨b, o, none⟩) (by show tag b ≠ .oth; rw [ht]; exact hne) u

end

end Go.Proofs.Ytfofabbnbmieoaa.Ord
