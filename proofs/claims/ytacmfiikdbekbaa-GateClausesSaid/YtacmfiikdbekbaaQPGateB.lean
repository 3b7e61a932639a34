/- Plain facts for gate: what Build makes of a list of gates. -/
import Derived.Test.YtacmfiikdbekbaaQGateQ
import Derived.Test.YtacmfiikdbekbaaQ10

namespace Go.Proofs.Ytacmfiikdbekbaa.Ord

/-- A gate: what, and three numbers. -/
abbrev GateI := Int × Int × Int × Int

/-- The numbers that a gate takes. -/
def gArgs (g : GateI) : List Int := if g.1 % 4 = 3 then [g.2.1, g.2.2.1, g.2.2.2] else [g.2.1, g.2.2.1]

/-- Where a number points to, among so many literals. -/
def gIdx (y : Int) (m : Nat) : Nat := (y % (2 * (m : Int))).toNat / 2

/-- What stands behind the first i gates: the literals L with the values W. -/
structure Bd (G : List (List Int)) (K L : List Int) (W : List Bool) (k : Nat) (gs : List GateI) (i : Nat) : Prop where
  len : L.length = 1 + k + i
  wlen : W.length = 1 + k + i
  vl : ∀ (j : Nat) (x : Int) (v : Bool), L[j]? = some x → W[j]? = some v → Vl K x v
  first : L[0]? = some 1
  inp : ∀ j, j < k → L[j + 1]? = some ((j : Int) + 2)
  dec : ∀ t, t < i → ∀ g, gs[t]? = some g → ∀ A' G'', (∀ c ∈ G, c ∈ G'') → (∀ y ∈ gArgs g, Dec G'' A' (L.getD (gIdx y (1 + k + t)) 0)) → Dec G'' A' (L.getD (1 + k + t) 0)

theorem gIdx_lt {y : Int} {m : Nat} (hm : 0 < m) : gIdx y m < m := by
  unfold gIdx
  have h1 := Int.emod_lt_of_pos y (show (0 : Int) < 2 * (m : Int) by omega)
  have h2 := Int.emod_nonneg y (show (2 * (m : Int)) ≠ 0 by omega)
  omega

theorem getD_append_left {L : List Int} {z : Int} {j : Nat} (h : j < L.length) : (L ++ [z]).getD j 0 = L.getD j 0 := by
  simp only [List.getD_eq_getElem?_getD, List.getElem?_append_left h]

theorem Bd.push {G G' : List (List Int)} {K K' L : List Int} {W : List Bool} {k i : Nat} {gs : List GateI} {g : GateI} {z : Int} {v : Bool} (h : Bd G K L W k gs i) (hg : gs[i]? = some g) (hs : ∀ c ∈ G, c ∈ G') (he : Ext K K') (hz : Vl K' z v)
    (hd : ∀ A' G'', (∀ c ∈ G', c ∈ G'') → (∀ y ∈ gArgs g, Dec G'' A' (L.getD (gIdx y (1 + k + i)) 0)) → Dec G'' A' z) : Bd G' K' (L ++ [z]) (W ++ [v]) k gs (i + 1) := by
  have hl := h.len
  have hw := h.wlen
  refine ⟨by simp; omega, by simp; omega, fun j x u hx hu => ?_, ?_, fun j hj => ?_, fun t ht g' hg' A' G'' hG hA => ?_⟩
  · rcases Nat.lt_or_ge j L.length with hjl | hjl
    · rw [List.getElem?_append_left hjl] at hx
      rw [List.getElem?_append_left (by omega)] at hu
      exact (h.vl j x u hx hu).ext he
    · have hj : j = L.length := by
        have := (List.getElem?_eq_some_iff.1 hx).1
        simp at this
        omega
      subst hj
      rw [List.getElem?_append_right (Nat.le_refl _), Nat.sub_self] at hx
      rw [List.getElem?_append_right (by omega), hw, hl, Nat.sub_self] at hu
      simp at hx hu
      subst hx hu
      exact hz
  · rw [List.getElem?_append_left (by omega)]; exact h.first
  · rw [List.getElem?_append_left (by omega)]; exact h.inp j hj
  · by_cases hti : t < i
    · have e1 : ∀ y, (L ++ [z]).getD (gIdx y (1 + k + t)) 0 = L.getD (gIdx y (1 + k + t)) 0 := fun y => getD_append_left (by have := gIdx_lt (y := y) (m := 1 + k + t) (by omega); omega)
      have e2 : (L ++ [z]).getD (1 + k + t) 0 = L.getD (1 + k + t) 0 := getD_append_left (by omega)
      rw [e2]
      simp only [e1] at hA
      exact h.dec t hti g' hg' A' G'' (fun c hc => hG c (hs c hc)) hA
    · have hti2 : t = i := by omega
      subst hti2
      rw [hg] at hg'
      injection hg' with hg'
      subst hg'
      have e1 : ∀ y, (L ++ [z]).getD (gIdx y (1 + k + t)) 0 = L.getD (gIdx y (1 + k + t)) 0 := fun y => getD_append_left (by have := gIdx_lt (y := y) (m := 1 + k + t) (by omega); omega)
      have e2 : (L ++ [z]).getD (1 + k + t) 0 = z := by
        rw [List.getD_eq_getElem?_getD, List.getElem?_append_right (by omega), hl, Nat.sub_self]
        rfl
      simp only [e1] at hA
      rw [e2]
      exact hd A' G'' hG hA

theorem gAnd_form (n : Nat) (G : List (List Int)) (x y : Int) : gAnd n G x y = ((gAnd n [] x y).1, (gAnd n [] x y).2.1, G ++ (gAnd n [] x y).2.2) := by
  unfold gAnd
  repeat' split
  all_goals simp [and_rows]

theorem gXor_form (n : Nat) (G : List (List Int)) (x y : Int) : gXor n G x y = ((gXor n [] x y).1, (gXor n [] x y).2.1, G ++ (gXor n [] x y).2.2) := by
  unfold gXor
  repeat' split
  all_goals simp [xor_rows]

theorem gMux_form (n : Nat) (G : List (List Int)) (c x y : Int) : gMux n G c x y = ((gMux n [] c x y).1, (gMux n [] c x y).2.1, G ++ (gMux n [] c x y).2.2) := by
  unfold gMux
  repeat' split
  all_goals simp [mux_rows]

theorem gOr_form (n : Nat) (G : List (List Int)) (x y : Int) : gOr n G x y = ((gOr n [] x y).1, (gOr n [] x y).2.1, G ++ (gOr n [] x y).2.2) := by
  unfold gOr
  rw [gAnd_form]

theorem gPut_form (n : Nat) (G : List (List Int)) (q : Nat) (x y z : Int) : gPut n G q x y z = ((gPut n [] q x y z).1, (gPut n [] q x y z).2.1, G ++ (gPut n [] q x y z).2.2) := by
  unfold gPut
  split
  · exact gAnd_form _ _ _ _
  · exact gOr_form _ _ _ _
  · exact gXor_form _ _ _ _
  · exact gMux_form _ _ _ _ _

/-- What is decided behind a gate. -/
theorem dec_put {n q : Nat} {G G'' : List (List Int)} {A : List Int} {x y z : Int} (hq : q < 4) (hu : [1] ∈ G'') (hsub : ∀ c ∈ (gPut n G q x y z).2.2, c ∈ G'') (hx : Dec G'' A x) (hy : Dec G'' A y) (hz : q = 3 → Dec G'' A z) : Dec G'' A (gPut n G q x y z).1 := by
  have h : Dec (gPut n G'' q x y z).2.2 A (gPut n G'' q x y z).1 := by
    have : q = 0 ∨ q = 1 ∨ q = 2 ∨ q = 3 := by omega
    rcases this with rfl | rfl | rfl | rfl
    · exact dec_and hu hx hy
    · exact dec_or hu hx hy
    · exact dec_xor hu hx hy
    · exact dec_mux hx hy (hz rfl)
  rw [gPut_form n G''] at h
  rw [gPut_form n G] at hsub ⊢
  exact h.mono fun c hc => (List.mem_append.1 hc).elim id fun k => hsub c (List.mem_append_right _ k)

theorem gg_put (n : Nat) (G : List (List Int)) (q : Nat) (x y z : Int) : GG G (gPut n G q x y z).2.2 := by
  unfold gPut
  split
  · exact gg_and _ _ _ _
  · exact gg_or _ _ _ _
  · exact gg_xor _ _ _ _
  · exact gg_mux _ _ _ _ _

/-- A gate behind a circuit whose literals are decided. -/
theorem put_gs {X : Nat → Prop} {w w' : World} {B b m n q : Nat} {G : List (List Int)} {A K : List Int} {x y z : Int} (h : GS X w B b m n G A K) (hq : q < 4) (hx : Dk K x) (hy : Dk K y) (hz : Dk K z) (_hm : m ≤ 100000) (hg : GB X w' B b (gPut n G q x y z).2.1 (gPut n G q x y z).2.2) :
    ∃ K', GS X w' B b (m + 1) (gPut n G q x y z).2.1 (gPut n G q x y z).2.2 A K' ∧ Ext K K' ∧ Vl K' (gPut n G q x y z).1 (vPut q (tv K x) (tv K y) (tv K z)) := by
  have hxk := h.circ.dk.1 hx
  have hyk := h.circ.dk.1 hy
  have hzk := h.circ.dk.1 hz
  have hnm := h.nm
  have hgm := h.gm
  have hgg := gg_put n G q x y z
  have : q = 0 ∨ q = 1 ∨ q = 2 ∨ q = 3 := by omega
  rcases this with rfl | rfl | rfl | rfl
  · obtain ⟨K', c1, c2, c3, c4⟩ := circ_and h.circ h.one hxk hyk
    have hs := gAnd_size n G x y
    refine ⟨K', ⟨hg, c1, c2 1 h.one, ?_, ?_, hgg.len h.cl, hgg.sub _ h.unit⟩, h.circ.ext c1 c2, c1.dk.2 c3, ?_⟩
    · show (gAnd n G x y).2.1 ≤ m + 1; omega
    · show (gAnd n G x y).2.2.length ≤ 6 * (m + 1); omega
    · show tv K' (gAnd n G x y).1 = (tv K x && tv K y)
      rw [tv_eq c4]; simp [tv]
  · obtain ⟨K', c1, c2, c3, c4⟩ := circ_or h.circ h.one hxk hyk
    have hs := gAnd_size n G (-x) (-y)
    refine ⟨K', ⟨hg, c1, c2 1 h.one, ?_, ?_, hgg.len h.cl, hgg.sub _ h.unit⟩, h.circ.ext c1 c2, c1.dk.2 c3, ?_⟩
    · show (gAnd n G (-x) (-y)).2.1 ≤ m + 1; omega
    · show (gAnd n G (-x) (-y)).2.2.length ≤ 6 * (m + 1); omega
    · show tv K' (gOr n G x y).1 = (tv K x || tv K y)
      rw [tv_eq c4]; simp [tv]
  · obtain ⟨K', c1, c2, c3, c4⟩ := circ_xor h.circ h.one hxk hyk
    have hs := gXor_size n G x y
    refine ⟨K', ⟨hg, c1, c2 1 h.one, ?_, ?_, hgg.len h.cl, hgg.sub _ h.unit⟩, h.circ.ext c1 c2, c1.dk.2 c3, ?_⟩
    · show (gXor n G x y).2.1 ≤ m + 1; omega
    · show (gXor n G x y).2.2.length ≤ 6 * (m + 1); omega
    · show tv K' (gXor n G x y).1 = (tv K x != tv K y)
      rw [tv_eq c4]
      unfold tv
      by_cases e1 : x ∈ K <;> by_cases e2 : y ∈ K <;> simp [e1, e2]
  · obtain ⟨K', c1, c2, c3, c4⟩ := circ_mux h.circ h.one hxk hyk hzk
    have hs := gMux_size n G x y z
    refine ⟨K', ⟨hg, c1, c2 1 h.one, ?_, ?_, hgg.len h.cl, hgg.sub _ h.unit⟩, h.circ.ext c1 c2, c1.dk.2 c3, ?_⟩
    · show (gMux n G x y z).2.1 ≤ m + 1; omega
    · show (gMux n G x y z).2.2.length ≤ 6 * (m + 1); omega
    · show tv K' (gMux n G x y z).1 = (if tv K x then tv K y else tv K z)
      rw [tv_eq c4]
      unfold tv
      by_cases e0 : x ∈ K <;> by_cases e1 : y ∈ K <;> by_cases e2 : z ∈ K <;> simp [e0, e1, e2]

/-- The literal that Put takes. -/
theorem pk_vl {n : Nat} {G : List (List Int)} {A K L : List Int} {W : List Bool} {r : Nat} (hC : Circ n G A K) (hl : W.length = L.length) (hv : ∀ (j : Nat) (x : Int) (v : Bool), L[j]? = some x → W[j]? = some v → Vl K x v) (hr : r / 2 < L.length) :
    Vl K (pkP L W r).1 (pkP L W r).2 ∧ ∀ G'' A', Dec G'' A' (L.getD (r / 2) 0) → Dec G'' A' (pkP L W r).1 := by
  have e1 : L[r / 2]? = some L[r / 2] := List.getElem?_eq_getElem hr
  have e2 : W[r / 2]? = some (W[r / 2]'(by omega)) := List.getElem?_eq_getElem (by omega)
  have h := hv _ _ _ e1 e2
  unfold pkP
  rw [List.getD_eq_getElem?_getD, List.getD_eq_getElem?_getD, e1, e2]
  simp only [Option.getD_some]
  split
  · exact ⟨⟨h.1.neg, by rw [hC.tv_neg h.1, h.2]⟩, fun _ _ hd => hd.neg⟩
  · exact ⟨h, fun _ _ hd => hd⟩

end Go.Proofs.Ytacmfiikdbekbaa.Ord
