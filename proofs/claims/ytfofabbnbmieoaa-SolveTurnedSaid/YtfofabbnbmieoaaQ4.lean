/- Plain facts about solve's state: what its rows say about the trail. -/
import Derived.OrdersHeld
import Derived.Deep.RegionHeld3
import Derived.ArgAppend
import Derived.BigQuiet
import Derived.Test.YtfofabbnbmieoaaQ3
import Derived.Test.YtfofabbnbmieoaaQ0
import Derived.Test.YtfofabbnbmieoaaQ1

namespace Go.Proofs.Ytfofabbnbmieoaa.Ord

/-- The watch lists, by literals. -/
def WtF (Wt : List (List Nat)) (b : Int) : List Nat := (Wt[(ixL b).toNat]?).getD []

theorem ixL_inj {a b : Int} (h : (ixL a).toNat = (ixL b).toNat) : a = b := by
  unfold ixL at h
  split at h <;> split at h <;> omega

theorem ixL_lt {n m : Nat} (hm : m = n + 1) {a : Int} (h : LitOk n a) : (ixL a).toNat < 2 * m := by
  have := ixL_range h
  omega

theorem WtF_set {Wt : List (List Nat)} {x : Int} (h : (ixL x).toNat < Wt.length) (l : List Nat) : WtF (Wt.set (ixL x).toNat l) = effW (WtF Wt) x l := funext fun b => by
  unfold WtF effW
  by_cases q : b = x
  · rw [if_pos q, q, List.getElem?_set_self h]; rfl
  · rw [if_neg q, List.getElem?_set_ne (fun e => q (ixL_inj e.symm))]

theorem WtF_add {Wt : List (List Nat)} {x : Int} (h : (ixL x).toNat < Wt.length) (i : Nat) : WtF (addW (ixL x).toNat i Wt) = effW (WtF Wt) x (WtF Wt x ++ [i]) := by
  unfold addW
  rw [WtF_set h]
  rfl

/-- A watch list holds clauses without doubles. -/
theorem WI.lenS {n : Nat} {C : List (List Int)} {Wt : Int → List Nat} (h : WI n C Wt) (b : Int) : (Wt b).length ≤ C.length := by
  have hnd : (Wt b).Nodup := by
    rw [List.nodup_iff_count]
    intro i
    by_cases hi : i ∈ Wt b
    · have hl := h.lt b i hi
      rw [h.cnt i _ b (List.getElem?_eq_getElem hl)]
      split <;> omega
    · rw [List.count_eq_zero.2 hi]; omega
  exact nodup_below _ _ hnd fun i hi => h.lt b i hi

theorem vrL_abs (a : Int) : (vrL a).toNat = a.natAbs := by
  unfold vrL
  split <;> omega

theorem vrL_neg (a : Int) : vrL (-a) = vrL a := by
  unfold vrL
  split <;> split <;> omega

/-- One value is set. -/
theorem hvL_set {va : List Int} {x y s : Int} (hx : (vrL x).toNat < va.length) (hx0 : x ≠ 0) (hy0 : y ≠ 0) : hvL (va.set (vrL x).toNat s) y = if y = x then (if x < 0 then -s else s) else if y = -x then (if x < 0 then s else -s) else hvL va y := by
  rw [vrL_abs] at hx ⊢
  unfold hvL
  have h1 : ∀ k : Nat, (va.set x.natAbs s)[k]?.getD 0 = if k = x.natAbs then s else (va[k]?).getD 0 := fun k => by
    by_cases q : k = x.natAbs
    · rw [if_pos q, q, List.getElem?_set_self hx]; rfl
    · rw [if_neg q, List.getElem?_set_ne (fun e => q e.symm)]
  rw [h1, h1]
  by_cases q : y = x
  · subst q
    rw [if_pos rfl]
    split
    · rw [if_pos (by omega)]
    · rw [if_pos (by omega)]
  · rw [if_neg q]
    by_cases q2 : y = -x
    · subst q2
      rw [if_pos rfl]
      by_cases q3 : x < 0
      · rw [if_neg (by omega), if_pos q3, if_pos (by omega)]
      · rw [if_pos (by omega), if_neg q3, if_pos (by omega)]
    · rw [if_neg q2]
      split
      · rw [if_neg (by omega)]
      · rw [if_neg (by omega)]

/-- What the rows say about the trail. -/
structure LK (n : Nat) (d : SD) (Rz : List Int) (bs : List Nat) : Prop where
  va : ∀ x, LitOk n x → hvL d.va x = if x ∈ d.K then 1 else if -x ∈ d.K then -1 else 0
  vr : ∀ y ∈ d.va, -1 ≤ y ∧ y ≤ 1
  ls : d.ls = bs.map fun (b : Nat) => (b : Int)
  lv : ∀ (i : Nat) (a : Int), d.K[i]? = some a → d.lv[(vrL a).toNat]? = some (lvl bs i : Int)
  re : ∀ (i : Nat) (a r : Int), d.K[i]? = some a → Rz[i]? = some r → d.re[(vrL a).toNat]? = some r
  hp : ∀ x, LitOk n x → x ∉ d.K → -x ∉ d.K → d.In[(vrL x).toNat - 1]? = some true
  se : ∀ y ∈ d.se, y = false

section
variable {n : Nat} {d : SD} {Rz : List Int} {bs : List Nat} {x rs : Int}

theorem LK.cw (h : LK n d Rz bs) (C : List (List Int)) (Wt : List (List Nat)) (dn : Nat) : LK n { d with C := C, Wt := Wt, dn := dn } Rz bs :=
  ⟨h.va, h.vr, h.ls, h.lv, h.re, h.hp, h.se⟩

theorem LK.hv1 (h : LK n d Rz bs) (hx : LitOk n x) : hvL d.va x = 1 ↔ x ∈ d.K := by
  rw [h.va x hx]
  split
  · simp [*]
  · split <;> simp [*]

theorem LK.hvm (h : LK n d Rz bs) (hx : LitOk n x) (hc : ∀ y ∈ d.K, -y ∉ d.K) : hvL d.va x = -1 ↔ -x ∈ d.K := by
  rw [h.va x hx]
  split
  · rename_i q
    have := hc x q
    simp [*]
  · split <;> simp [*]

theorem vr_inj {K : List Int} {i : Nat} {a : Int} (hi : K[i]? = some a) (hx1 : x ∉ K) (hx2 : -x ∉ K) : (vrL a).toNat ≠ (vrL x).toNat := fun e => by
  rw [vrL_abs, vrL_abs] at e
  have hm := List.mem_of_getElem? hi
  have : a = x ∨ a = -x := by omega
  rcases this with q | q
  · exact hx1 (q ▸ hm)
  · exact hx2 (q ▸ hm)

/-- A literal more. -/
theorem LK.set (h : LK n d Rz bs) (hrl : Rz.length = d.K.length) (hx : LitOk n x) (h1 : x ∉ d.K) (h2 : -x ∉ d.K) (hb : ∀ b ∈ bs, b ≤ d.K.length) (hva : d.va.length = n + 1) (hlv : d.lv.length = n + 1) (hre : d.re.length = n + 1) : LK n (setD d x rs) (Rz ++ [rs]) bs := by
  have hv := vrL_range hx
  have hvn : (vrL x).toNat < n + 1 := by omega
  refine ⟨fun y hy => ?_, fun y hy => ?_, h.ls, fun i a hi => ?_, fun i a r hi hr => ?_, fun y hy hy1 hy2 => h.hp y hy (fun m => hy1 (List.mem_append_left _ m)) fun m => hy2 (List.mem_append_left _ m), h.se⟩
  · show hvL (d.va.set (vrL x).toNat (if x < 0 then -1 else 1)) y = if y ∈ d.K ++ [x] then 1 else if -y ∈ d.K ++ [x] then -1 else 0
    rw [hvL_set (by omega) hx.1 hy.1]
    by_cases q : y = x
    · rw [if_pos q, if_pos (show y ∈ d.K ++ [x] by rw [q]; simp)]
      by_cases q3 : x < 0
      · rw [if_pos q3, if_pos q3]; rfl
      · rw [if_neg q3, if_neg q3]
    · rw [if_neg q]
      by_cases q2 : y = -x
      · rw [if_pos q2, if_neg (c := y ∈ d.K ++ [x]), if_pos (show -y ∈ d.K ++ [x] by rw [q2]; simp)]
        · by_cases q3 : x < 0
          · rw [if_pos q3, if_pos q3]
          · rw [if_neg q3, if_neg q3]
        · intro m
          rcases List.mem_append.1 m with m | m
          · exact h2 (q2 ▸ m)
          · exact q (by simpa using m)
      · rw [if_neg q2, h.va y hy]
        have e1 : y ∈ d.K ++ [x] ↔ y ∈ d.K := by simp [q]
        have e2 : -y ∈ d.K ++ [x] ↔ -y ∈ d.K := by
          simp only [List.mem_append, List.mem_singleton]
          exact ⟨fun m => m.elim id fun e => absurd (by omega) q2, .inl⟩
        simp only [e1, e2]
  · have hy : y ∈ d.va.set (vrL x).toNat (if x < 0 then -1 else 1) := hy
    rcases List.mem_or_eq_of_mem_set hy with q | q
    · exact h.vr y q
    · rw [q]
      split <;> omega
  · have hi : (d.K ++ [x])[i]? = some a := hi
    show (d.lv.set (vrL x).toNat (d.ls.length : Int))[(vrL a).toNat]? = _
    by_cases q : i < d.K.length
    · rw [List.getElem?_append_left q] at hi
      rw [List.getElem?_set_ne (fun e => vr_inj hi h1 h2 e.symm)]
      exact h.lv i a hi
    · rw [List.getElem?_append_right (by omega)] at hi
      have hj := (List.getElem?_eq_some_iff.1 hi).1
      simp at hj
      have hik : i = d.K.length := by omega
      subst hik
      simp at hi
      subst hi
      rw [List.getElem?_set_self (by omega), lvl_full hb, h.ls, List.length_map]
  · have hi : (d.K ++ [x])[i]? = some a := hi
    show (d.re.set (vrL x).toNat rs)[(vrL a).toNat]? = _
    by_cases q : i < d.K.length
    · rw [List.getElem?_append_left q] at hi
      rw [List.getElem?_append_left (by omega)] at hr
      rw [List.getElem?_set_ne (fun e => vr_inj hi h1 h2 e.symm)]
      exact h.re i a r hi hr
    · rw [List.getElem?_append_right (by omega)] at hi
      have hj := (List.getElem?_eq_some_iff.1 hi).1
      simp at hj
      have hik : i = d.K.length := by omega
      subst hik
      simp at hi
      subst hi
      rw [List.getElem?_set_self (by omega)]
      rw [← hrl] at hr
      simpa using hr

end

end Go.Proofs.Ytfofabbnbmieoaa.Ord

/- Regions that draw their order: what yields its value while S holds, a call among it, is taken first; S need not hold behind the last operation. -/
namespace Go.Proofs.Ytfofabbnbmieoaa.Ord
open Go

section
variable {P : Program} {ops : Array Oper} {Q : Exit → Act → World → Prop} {md : Region.Mode} {S : World → Prop}

/-- In the state a, in each world that meets S, o gives v and leaves the world as it was: at once or through a call. -/
def GivesW (P : Program) (ops : Array Oper) (S : World → Prop) (o : Oper) (v : Value) (a : Act) : Prop :=
  (Region.wanted o (yielded ops a.tmps) = true ∧ ∀ w, S w → (execOp a.eval o).run P w = .ok (.value v) w ∨ ∃ f args, (execOp a.eval o).run P w = .ok (.enter f args) w ∧ Calls P f args w fun e w' => e = .returned v ∧ w = w') ∨
  (Region.wanted o (yielded ops a.tmps) = false ∧ v = undef)

theorem GivesW.same {o : Oper} {v : Value} {a b : Act} (h : GivesW P ops S o v a) (he : execOp b.eval o = execOp a.eval o) (hw : Region.wanted o (yielded ops b.tmps) = Region.wanted o (yielded ops a.tmps)) : GivesW P ops S o v b := by
  unfold GivesW at *
  rw [he, hw]
  exact h

theorem GivesW.now {i : Nat} {o : Oper} {v : Value} {a : Act} (hi : ops[i]? = some o) (h : GivesW P ops S o v a) {K : Act → World → Prop} {w : World} (hS : S w) (hk : K (a.put o.dst v) w) : wpOp P ops Q i K a w := by
  unfold wpOp
  simp only [hi]
  rcases h with ⟨hw, hv⟩ | ⟨hw, rfl⟩
  · rw [if_pos hw]
    refine .inl ?_
    unfold Oper.wp
    rcases hv w hS with hr | ⟨f, args, hr, hc⟩
    · rw [hr]; exact hk
    · rw [hr]
      exact hc.mono fun e w' ⟨he, hw'⟩ => by subst he hw'; exact hk
  · rw [hw]
    exact hk

/-- Another operation, apart from it, makes no difference to it. -/
theorem GivesW.beside {j : Nat} {x y : Oper} {v : Value} (hj : ops[j]? = some y) (hap : x.apart ops y = true) (hx : ∀ cs b, x.op ≠ .select cs b) (hy : ∀ cs b, y.op ≠ .select cs b)
    (hQ : ∀ c a w, Q (.panic c) (a.put x.dst v) w → Q (.panic c) a w) {K : Act → World → Prop} {a : Act} {w : World} (hg : GivesW P ops S x v a) (h : wpOp P ops Q j K (a.put x.dst v) w) : wpOp P ops Q j (fun b u => GivesW P ops S x v b ∧ K (b.put x.dst v) u) a w := by
  obtain ⟨p1, p2, p3⟩ := Oper.apart_spec hap
  have hput : ∀ (b : Act), GivesW P ops S x v b → ∀ u, GivesW P ops S x v (b.put y.dst u) := fun b hb u => hb.same (execOp_put x hx b y.dst u p3) (wanted_put x b y.dst u p3)
  unfold wpOp at *
  rw [hj] at h ⊢
  dsimp only at h ⊢
  rw [wanted_put y a x.dst v p1] at h
  cases hw : Region.wanted y (yielded ops a.tmps) with
  | false =>
    rw [hw] at h
    exact ⟨hput a hg _, by rw [← Act.put_comm a v undef p2]; exact h⟩
  | true =>
    rw [hw, if_pos rfl] at h
    rw [if_pos rfl]
    have he : execOp (a.put x.dst v).eval y = execOp a.eval y := execOp_put y hy a x.dst v p1
    rcases h with h | ⟨h1, h2⟩
    · refine .inl ?_
      unfold Oper.wp at h ⊢
      rw [he] at h
      generalize (execOp a.eval y).run P w = r at h ⊢
      cases r with
      | halt z w' =>
        cases z with
        | panic u => exact hQ _ _ _ h
        | _ => exact h
      | ok q w' =>
        cases q with
        | value u => exact ⟨hput a hg u, by rw [← Act.put_comm a v u p2]; exact h⟩
        | skip => exact ⟨hput a hg _, by rw [← Act.put_comm a v undef p2]; exact h⟩
        | defer d =>
          refine ⟨hput { a with defers := d :: a.defers } (hg.same rfl rfl) _, ?_⟩
          rw [← Act.put_comm _ v undef p2, ← Act.put_defers]
          exact h
        | enter f args =>
          refine Calls.mono h fun e w'' hh => ?_
          cases e with
          | returned u => exact ⟨hput a hg u, by rw [← Act.put_comm a v u p2]; exact hh⟩
          | panicked c => exact hQ _ _ _ hh
          | outgrown => exact hh
        | row row args => exact Rows.mono h fun u w'' hh => ⟨hput a hg u, by rw [← Act.put_comm a v u p2]; exact hh⟩
        | _ => exact h
    · refine .inr ⟨?_, h2⟩
      unfold Oper.asks at h1 ⊢
      rw [he] at h1
      exact h1

/-- z waits for i: by its own edges, or by those of what it waits for. -/
def waitsB (md : Region.Mode) (ops : Array Oper) (i : Nat) : Nat → Nat → Bool
  | 0, _ => false
  | k + 1, z => match ops[z]? with
    | none => false
    | some o => o.after.any fun e => Region.binds md e && (e.on == i || waitsB md ops i k e.on)

/-- What is done has all before it that it waits for. -/
def Down (md : Region.Mode) (ops : Array Oper) (l : Array Bool) : Prop :=
  ∀ (j : Nat) (y : Oper), ops[j]? = some y → l.getD j false = true → ∀ e ∈ y.after, Region.binds md e = true → l.getD e.on false = true

def downB (md : Region.Mode) (ops : Array Oper) (l : Array Bool) : Bool :=
  (List.range ops.size).all fun j => match ops[j]? with
    | none => true
    | some y => !l.getD j false || y.after.all fun e => !Region.binds md e || l.getD e.on false

theorem downB_spec {l : Array Bool} (h : downB md ops l = true) : Down md ops l := fun j y hj hl e he hb => by
  unfold downB at h
  have h1 := List.all_eq_true.1 h j (List.mem_range.2 (Array.getElem?_eq_some_iff.1 hj).1)
  rw [hj] at h1
  dsimp only at h1
  rw [hl] at h1
  simp only [Bool.not_true, Bool.false_or] at h1
  have h2 : (!Region.binds md e || l.getD e.on false) = true := by
    rw [Array.all_eq_true_iff_forall_mem] at h1
    exact h1 e he
  rw [hb] at h2
  simpa using h2

theorem getD_true {l : Array Bool} {i : Nat} (h : l.getD i true = false) : l.getD i false = false := by
  rcases Nat.lt_or_ge i l.size with q | q
  · simp [q] at h ⊢; exact h
  · simp [Nat.not_lt.2 q] at h

/-- What waits for i is neither done nor ready as long as i is not done. -/
theorem waits_open {l : Array Bool} (hd : Down md ops l) {i : Nat} (hi : l.getD i false = false) : ∀ (k z : Nat), waitsB md ops i k z = true → l.getD z false = false ∧ z ∉ Region.ready md ops l
  | 0, _, h => by cases h
  | k + 1, z, h => by
    unfold waitsB at h
    cases hz : ops[z]? with
    | none => rw [hz] at h; cases h
    | some o =>
      rw [hz] at h
      dsimp only at h
      rw [Array.any_eq_true'] at h
      obtain ⟨e, he, hh⟩ := h
      rw [Bool.and_eq_true, Bool.or_eq_true] at hh
      obtain ⟨hb, hh⟩ := hh
      have ho : l.getD e.on false = false := by
        rcases hh with hh | hh
        · rw [beq_iff_eq] at hh; rw [hh]; exact hi
        · exact (waits_open hd hi k _ hh).1
      refine ⟨?_, fun hm => ?_⟩
      · cases hq : l.getD z false with
        | false => rfl
        | true =>
          have := hd z o hz hq e he hb
          rw [ho] at this
          cases this
      · obtain ⟨-, y, hy, hall⟩ := mem_ready.1 hm
        rw [hz] at hy
        injection hy with hy
        subst hy
        have := hall e he hb
        rw [ho] at this
        cases this

theorem Down.more {l : Array Bool} (hd : Down md ops l) {j : Nat} (hj : j ∈ Region.ready md ops l) : Down md ops (l.setIfInBounds j true) := fun t y ht hl e he hb => by
  have hup : ∀ m, l.getD m false = true → (l.setIfInBounds j true).getD m false = true := fun m hm => by
    by_cases q : j = m
    · subst q
      rcases Nat.lt_or_ge j l.size with q | q
      · simp [q]
      · simp [Nat.not_lt.2 q] at hm
    · rw [getD_set_ne false q]; exact hm
  refine hup _ ?_
  by_cases q : j = t
  · subst q
    obtain ⟨-, y', hy', hall⟩ := mem_ready.1 hj
    rw [ht] at hy'
    injection hy' with hy'
    subst hy'
    exact hall e he hb
  · rw [getD_set_ne false q] at hl
    exact hd t y ht hl e he hb

/-- Whatever order is picked: S stays behind each operation but those of Z. -/
def wpR (P : Program) (md : Region.Mode) (ops : Array Oper) (Q : Exit → Act → World → Prop) (S : World → Prop) (Z : List Nat) : Nat → Array Bool → Act → World → Prop
  | 0, l, a, w => Region.ready md ops l = [] ∧ Q .normal a w
  | k + 1, l, a, w => (Region.ready md ops l = [] → Q .normal a w) ∧ ∀ i ∈ Region.ready md ops l, wpOp P ops Q i (fun b u => (i ∉ Z → S w → S u) ∧ wpR P md ops Q S Z k (l.setIfInBounds i true) b u) a w

theorem wpR.any {Z : List Nat} : ∀ (k : Nat) (l : Array Bool) (a : Act) (w : World), wpR P md ops Q S Z k l a w → wpAny P md ops Q k l a w
  | 0, _, _, _, h => h
  | k + 1, _, _, _, h => ⟨h.1, fun i hi => wpOp_mono (fun b u hh => wpR.any k _ b u hh.2) (h.2 i hi)⟩

theorem wpR.first {Z : List Nat} {fz i : Nat} {x : Oper} {v : Value} (hi : ops[i]? = some x) (hz : ∀ z ∈ Z, waitsB md ops i fz z = true) (hsel : ∀ (j : Nat) (o : Oper) cs b, ops[j]? = some o → o.op ≠ .select cs b) (hQ : ∀ c a w, Q (.panic c) (a.put x.dst v) w → Q (.panic c) a w) :
    ∀ (k : Nat) (l : Array Bool) (a : Act) (w : World), Down md ops l → (∀ j y, ops[j]? = some y → j ≠ i → l.getD j true = false → (∀ e ∈ y.after, Region.binds md e = true → e.on ≠ i) → x.apart ops y = true) →
      i ∈ Region.ready md ops l → GivesW P ops S x v a → S w → wpR P md ops Q S Z k (l.setIfInBounds i true) (a.put x.dst v) w → wpR P md ops Q S Z (k + 1) l a w
  | 0, l, a, w, _, _, hr, hg, hS, H => by
    refine ⟨fun h => (by rw [h] at hr; cases hr), fun j hj => ?_⟩
    by_cases e : j = i
    · subst e
      exact hg.now hi hS ⟨fun _ h => h, H⟩
    · have := ready_mono hj e
      rw [H.1] at this
      cases this
  | k + 1, l, a, w, hd, hf, hr, hg, hS, H => by
    refine ⟨fun h => (by rw [h] at hr; cases hr), fun j hj => ?_⟩
    by_cases e : j = i
    · subst e
      exact hg.now hi hS ⟨fun _ h => h, H⟩
    · have h1 := H.2 j (ready_mono hj e)
      obtain ⟨hju, y, hy, hall⟩ := mem_ready.1 hj
      have hiu := getD_true (mem_ready.1 hr).1
      have hno : ∀ q ∈ y.after, Region.binds md q = true → q.on ≠ i := fun q hq hb qe => by
        have h1 := hall q hq hb
        rw [qe, hiu] at h1
        cases h1
      have h2 := hg.beside hy (hf j y hy e hju hno) (fun cs b => hsel i x cs b hi) (fun cs b => hsel j y cs b hy) hQ h1
      have hjz : j ∉ Z := fun q => (waits_open hd hiu fz j (hz j q)).2 hj
      refine wpOp_mono (fun b u h3 => ⟨fun _ => h3.2.1 hjz, wpR.first hi hz hsel hQ k _ b u (hd.more hj) (fun t y hy ht hu hn => ?_) (ready_mono hr (Ne.symm e)) h3.1 (h3.2.1 hjz hS) ?_⟩) h2
      · refine hf t y hy ht ?_ hn
        by_cases q : j = t
        · subst q; exact hju
        · rw [getD_set_ne true q] at hu; exact hu
      · rw [Array.setIfInBounds_comm _ _ e]
        exact h3.2.2

/-- What asks nothing of the world is taken first, whatever is in Z. -/
theorem wpR.firstP {Z : List Nat} {i : Nat} {x : Oper} {v : Value} (hi : ops[i]? = some x) (hsel : ∀ (j : Nat) (o : Oper) cs b, ops[j]? = some o → o.op ≠ .select cs b) (hQ : ∀ c a w, Q (.panic c) (a.put x.dst v) w → Q (.panic c) a w) :
    ∀ (k : Nat) (l : Array Bool) (a : Act) (w : World), (∀ j y, ops[j]? = some y → j ≠ i → l.getD j true = false → (∀ e ∈ y.after, Region.binds md e = true → e.on ≠ i) → x.apart ops y = true) →
      i ∈ Region.ready md ops l → GivesW P ops (fun _ => True) x v a → wpR P md ops Q S Z k (l.setIfInBounds i true) (a.put x.dst v) w → wpR P md ops Q S Z (k + 1) l a w
  | 0, l, a, w, _, hr, hg, H => by
    refine ⟨fun h => (by rw [h] at hr; cases hr), fun j hj => ?_⟩
    by_cases e : j = i
    · subst e
      exact hg.now hi trivial ⟨fun _ h => h, H⟩
    · have := ready_mono hj e
      rw [H.1] at this
      cases this
  | k + 1, l, a, w, hf, hr, hg, H => by
    refine ⟨fun h => (by rw [h] at hr; cases hr), fun j hj => ?_⟩
    by_cases e : j = i
    · subst e
      exact hg.now hi trivial ⟨fun _ h => h, H⟩
    · have h1 := H.2 j (ready_mono hj e)
      obtain ⟨hju, y, hy, hall⟩ := mem_ready.1 hj
      have hiu := getD_true (mem_ready.1 hr).1
      have hno : ∀ q ∈ y.after, Region.binds md q = true → q.on ≠ i := fun q hq hb qe => by
        have h1 := hall q hq hb
        rw [qe, hiu] at h1
        cases h1
      have h2 := hg.beside hy (hf j y hy e hju hno) (fun cs b => hsel i x cs b hi) (fun cs b => hsel j y cs b hy) hQ h1
      refine wpOp_mono (fun b u h3 => ⟨h3.2.1, wpR.firstP hi hsel hQ k _ b u (fun t y hy ht hu hn => ?_) (ready_mono hr (Ne.symm e)) h3.1 ?_⟩) h2
      · refine hf t y hy ht ?_ hn
        by_cases q : j = t
        · subst q; exact hju
        · rw [getD_set_ne true q] at hu; exact hu
      · rw [Array.setIfInBounds_comm _ _ e]
        exact h3.2.2

theorem at_drop {i : Nat} {x : Oper} {r : List Oper} (h : ops.toList.drop i = x :: r) : ops[i]? = some x := by
  rw [← Array.getElem?_toList]
  have : (ops.toList.drop i)[0]? = some x := by rw [h]; rfl
  rw [List.getElem?_drop] at this
  exact this

/-- What number i asks for, as one Bool. -/
def okB (md : Region.Mode) (ops : Array Oper) (Z : List Nat) (i : Nat) (l : Array Bool) : Bool :=
  (Z.all fun z => waitsB md ops i ops.size z) && downB md ops l && Region.noSelect ops && Region.free md ops l i && (Region.ready md ops l).contains i

/-- Number i is taken first. -/
theorem wpR.take {Z : List Nat} (i : Nat) {x : Oper} {r : List Oper} {v : Value} {k : Nat} {l : Array Bool} {a : Act} {w : World} (hi : ops.toList.drop i = x :: r) (hb : okB md ops Z i l = true) (hQ : ∀ c a w, Q (.panic c) (a.put x.dst v) w → Q (.panic c) a w)
    (hw : Region.wanted x (yielded ops a.tmps) = true) (hg : ∀ w, S w → (execOp a.eval x).run P w = .ok (.value v) w) (hS : S w) (h : wpR P md ops Q S Z k (l.setIfInBounds i true) (a.put x.dst v) w) : wpR P md ops Q S Z (k + 1) l a w := by
  unfold okB at hb
  simp only [Bool.and_eq_true, List.all_eq_true] at hb
  exact wpR.first (at_drop hi) hb.1.1.1.1 (Region.noSelect_spec hb.1.1.2) hQ k l a w (downB_spec hb.1.1.1.2) (Region.free_spec (at_drop hi) hb.1.2) (by simpa using hb.2) (.inl ⟨hw, fun w h => .inl (hg w h)⟩) hS h

/-- What number i asks for, if it asks nothing of the world. -/
def okP (md : Region.Mode) (ops : Array Oper) (i : Nat) (l : Array Bool) : Bool :=
  Region.noSelect ops && Region.free md ops l i && (Region.ready md ops l).contains i

/-- Number i asks nothing of the world: it is taken first. -/
theorem wpR.pure {Z : List Nat} (i : Nat) {x : Oper} {r : List Oper} {v : Value} {k : Nat} {l : Array Bool} {a : Act} {w : World} (hi : ops.toList.drop i = x :: r) (hb : okP md ops i l = true) (hQ : ∀ c a w, Q (.panic c) (a.put x.dst v) w → Q (.panic c) a w)
    (hw : Region.wanted x (yielded ops a.tmps) = true) (hg : ∀ w, True → (execOp a.eval x).run P w = .ok (.value v) w) (h : wpR P md ops Q S Z k (l.setIfInBounds i true) (a.put x.dst v) w) : wpR P md ops Q S Z (k + 1) l a w := by
  unfold okP at hb
  simp only [Bool.and_eq_true] at hb
  exact wpR.firstP (at_drop hi) (Region.noSelect_spec hb.1.1) hQ k l a w (Region.free_spec (at_drop hi) hb.1.2) (by simpa using hb.2) (.inl ⟨hw, fun w h => .inl (hg w h)⟩) h

/-- Number i is not wanted. -/
theorem wpR.pass {Z : List Nat} (i : Nat) {x : Oper} {r : List Oper} {k : Nat} {l : Array Bool} {a : Act} {w : World} (hi : ops.toList.drop i = x :: r) (hb : okB md ops Z i l = true) (hQ : ∀ c a w, Q (.panic c) (a.put x.dst undef) w → Q (.panic c) a w)
    (hw : Region.wanted x (yielded ops a.tmps) = false) (hS : S w) (h : wpR P md ops Q S Z k (l.setIfInBounds i true) (a.put x.dst undef) w) : wpR P md ops Q S Z (k + 1) l a w := by
  unfold okB at hb
  simp only [Bool.and_eq_true, List.all_eq_true] at hb
  exact wpR.first (at_drop hi) hb.1.1.1.1 (Region.noSelect_spec hb.1.1.2) hQ k l a w (downB_spec hb.1.1.1.2) (Region.free_spec (at_drop hi) hb.1.2) (by simpa using hb.2) (.inr ⟨hw, rfl⟩) hS h

/-- Number i is a call that leaves the world as it was: it is taken first. -/
theorem wpR.call {Z : List Nat} (i : Nat) {x : Oper} {r : List Oper} {v : Value} {f : FuncId} {args : Array Value} {k : Nat} {l : Array Bool} {a : Act} {w : World} (hi : ops.toList.drop i = x :: r) (hb : okB md ops Z i l = true) (hQ : ∀ c a w, Q (.panic c) (a.put x.dst v) w → Q (.panic c) a w)
    (hw : Region.wanted x (yielded ops a.tmps) = true) (hg : ∀ w, S w → (execOp a.eval x).run P w = .ok (.enter f args) w) (hc : ∀ w, S w → Calls P f args w fun e w' => e = .returned v ∧ w = w') (hS : S w) (h : wpR P md ops Q S Z k (l.setIfInBounds i true) (a.put x.dst v) w) : wpR P md ops Q S Z (k + 1) l a w := by
  unfold okB at hb
  simp only [Bool.and_eq_true, List.all_eq_true] at hb
  exact wpR.first (at_drop hi) hb.1.1.1.1 (Region.noSelect_spec hb.1.1.2) hQ k l a w (downB_spec hb.1.1.1.2) (Region.free_spec (at_drop hi) hb.1.2) (by simpa using hb.2) (.inl ⟨hw, fun w h => .inr ⟨f, args, hg w h, hc w h⟩⟩) hS h

/-- Only number i may come up. -/
theorem wpR.one {Z : List Nat} (i : Nat) {x : Oper} {r : List Oper} {v : Value} {k : Nat} {l : Array Bool} {a : Act} {w w' : World} (hi : ops.toList.drop i = x :: r) (hr : Region.ready md ops l = [i]) (hw : Region.wanted x (yielded ops a.tmps) = true) (hrun : (execOp a.eval x).run P w = .ok (.value v) w') (hS : i ∉ Z → S w') (h : wpR P md ops Q S Z k (l.setIfInBounds i true) (a.put x.dst v) w') : wpR P md ops Q S Z (k + 1) l a w := by
  refine ⟨fun e => (by rw [e] at hr; cases hr), fun j hj => ?_⟩
  rw [hr] at hj
  have e := List.mem_singleton.1 hj
  subst e
  unfold wpOp
  simp only [at_drop hi]
  rw [if_pos hw]
  refine .inl ?_
  unfold Oper.wp
  rw [hrun]
  exact ⟨fun q _ => hS q, h⟩

/-- Only number i may come up: it gives no value. -/
theorem wpR.skip {Z : List Nat} (i : Nat) {x : Oper} {r : List Oper} {k : Nat} {l : Array Bool} {a : Act} {w w' : World} (hi : ops.toList.drop i = x :: r) (hr : Region.ready md ops l = [i]) (hw : Region.wanted x (yielded ops a.tmps) = true) (hrun : (execOp a.eval x).run P w = .ok .skip w') (hS : i ∉ Z → S w') (h : wpR P md ops Q S Z k (l.setIfInBounds i true) (a.put x.dst undef) w') : wpR P md ops Q S Z (k + 1) l a w := by
  refine ⟨fun e => (by rw [e] at hr; cases hr), fun j hj => ?_⟩
  rw [hr] at hj
  have e := List.mem_singleton.1 hj
  subst e
  unfold wpOp
  simp only [at_drop hi]
  rw [if_pos hw]
  refine .inl ?_
  unfold Oper.wp
  rw [hrun]
  exact ⟨fun q _ => hS q, h⟩

/-- Only number i may come up: a call. -/
theorem wpR.enter {Z : List Nat} (i : Nat) {x : Oper} {r : List Oper} {f : FuncId} {args : Array Value} {k : Nat} {l : Array Bool} {a : Act} {w : World} (hi : ops.toList.drop i = x :: r) (hr : Region.ready md ops l = [i]) (hw : Region.wanted x (yielded ops a.tmps) = true) (hrun : (execOp a.eval x).run P w = .ok (.enter f args) w)
    (h : Calls P f args w fun e w' => ∃ v, e = .returned v ∧ (i ∉ Z → S w') ∧ wpR P md ops Q S Z k (l.setIfInBounds i true) (a.put x.dst v) w') : wpR P md ops Q S Z (k + 1) l a w := by
  refine ⟨fun e => (by rw [e] at hr; cases hr), fun j hj => ?_⟩
  rw [hr] at hj
  have e := List.mem_singleton.1 hj
  subst e
  unfold wpOp
  simp only [at_drop hi]
  rw [if_pos hw]
  refine .inl ?_
  unfold Oper.wp
  rw [hrun]
  exact h.mono fun e w' ⟨v, he, h1, h2⟩ => by subst he; exact ⟨fun q _ => h1 q, h2⟩

/-- All have come up. -/
theorem wpR.done {Z : List Nat} {k : Nat} {l : Array Bool} {a : Act} {w : World} (hr : Region.ready md ops l = []) (h : Q .normal a w) : wpR P md ops Q S Z k l a w := by
  cases k with
  | zero => exact ⟨hr, h⟩
  | succ k => exact ⟨fun _ => h, fun i hi => by rw [hr] at hi; cases hi⟩

/-- The beginning. -/
theorem wp_region_R (S : World → Prop) (Z : List Nat) {id : Nat} {a : Act} {w : World} (hm : P.follows .mixedOrders = true) (h : wpR P .any ops Q S Z ops.size (Array.replicate ops.size false) a w.drew) : (Code.region id ops true).wp P Q a w :=
  wp_region_any hm (wpR.any _ _ _ _ h)

end

end Go.Proofs.Ytfofabbnbmieoaa.Ord

/- The contract of solve's attach. -/
namespace Go.Proofs.Ytfofabbnbmieoaa.Ord
open Go.RowKit Go.Conc

attribute [local go_sem ↓] Go.wp_at_zero Go.wp_at_succ
attribute [local go_sem ↓ high] app_mark

/-- What attach changes. -/
def attD (d : SD) (c : List Int) : SD := { d with C := d.C ++ [c], Wt := addW (ixL ((c[1]?).getD 0)).toNat d.C.length (addW (ixL ((c[0]?).getD 0)).toNat d.C.length d.Wt) }

theorem fit_cell' {w : World} {b i : Nat} {cur : Array Value} {e : TypeId} {m : Nat × Nat} (h : w.heap[b]? = some (.cells cur e m)) : w.cell? ⟨b, i, none⟩ = cur[i]? := by
  rw [cell_of_row _ _ _ _ _ _ h]

theorem Ro.cell {t : KT} {tag : Nat → KT} {w : World} {g o n cap : Nat} {c : List Int} (h : Ro t tag w (.slice (some ⟨g, o, none⟩) n cap) c) {j : Nat} {x : Int} (hj : c[j]? = some x) : w.cell? ⟨g, o + j, none⟩ = some (.int .i64 x) ∧ tag g = t := by
  obtain ⟨g', o', cap', cur, e1, -, h3, h4, h5⟩ := h
  injection e1 with e1 e2 e3
  injection e1 with e1
  injection e1 with e1 e4
  subst e1 e4
  exact ⟨by rw [fit_cell' h4]; exact h5 j x hj, h3⟩

/-- The watch lists behind j of a clause's literals. -/
def attW (d : SD) (c : List Int) : Nat → List (List Nat)
  | 0 => d.Wt
  | j + 1 => addW (ixL ((c[j]?).getD 0)).toNat d.C.length (attW d c j)

theorem addW_len {M : Nat} {x : Int} {i : Nat} {Wt : List (List Nat)} (h : ∀ b, (WtF Wt b).length ≤ M) : ∀ b, (WtF (addW (ixL x).toNat i Wt) b).length ≤ M + 1 := fun b => by
  by_cases q : (ixL x).toNat < Wt.length
  · rw [WtF_add q]
    unfold effW
    split
    · rw [List.length_append]
      have := h x
      simp
      omega
    · have := h b
      omega
  · unfold addW
    rw [List.set_eq_of_length_le (by omega)]
    have := h b
    omega

theorem attW_len {M : Nat} {d : SD} (c : List Int) (h : ∀ b, (WtF d.Wt b).length ≤ M) : ∀ j, ∀ b, (WtF (attW d c j) b).length ≤ M + j
  | 0 => h
  | j + 1 => addW_len (attW_len c h j)

set_option maxRecDepth 100000 in
set_option maxHeartbeats 4000000 in
theorem sol_attach (tag : Nat → KT) (B : Nat) (w0 w : World) (a : SA) (v : SV) (d : SD) (n g o cap : Nat) (c : List Int) (h : SM tag B w0 w a v d) (hn : a.n1 = n + 1) (hn1 : n ≤ 1048576) (hc2 : 2 ≤ c.length) (hcl : c.length ≤ 1048576) (hok : ∀ x ∈ c, LitOk n x) (hC : d.C.length ≤ 4398046511104) (hc : Ro .oth tag w (.slice (some ⟨g, o, none⟩) c.length cap) c) (hgB : B ≤ g) (hwl : ∀ b, (WtF d.Wt b).length ≤ 4398046511104) :
    Calls Try.prog 54 #[.pointer (some ⟨a.bx, 0, none⟩), .slice (some ⟨g, o, none⟩) c.length cap] w fun e w' => e = .returned (.int .i64 d.C.length) ∧ ∃ tag' v', SM tag' B w0 w' a v' (attD d c) ∧ Touch (fun k => tag k ≠ .oth) w w' ∧ (∀ k, k < w.heap.size → k ≠ g → tag k = .oth → tag' k = .oth) := by
  obtain ⟨i0, hi0, hz0, hz1, hz2⟩ := info_parts info_int
  obtain ⟨i1, hi1, hy0, hy1, hy2⟩ := info_parts info_ints
  have hK := (h.co .clr).1.1
  have hul := (h.co .clr).2
  obtain ⟨ac, cc, hvc⟩ := own_lenV' hK
  have hBw := h.le
  have c1 : w.cell? ⟨a.bx, 1, none⟩ = some v.vc := h.cell 1
  obtain ⟨m, hm⟩ : ∃ m, d.C.length = m := ⟨_, rfl⟩
  rw [hm] at hul hC
  rw [hul] at hvc hK
  obtain ⟨a6, c6, w6, hr6, ho6, hg6, ha6⟩ := appM_one (P := Try.prog) (w.alloc (.cells #[.slice (some ⟨g, o, none⟩) c.length cap] 22 (0, 0))) B 32 32 22 i1 (.slice none 0 0) 24 Try.underlying32 hi1 hy0 hy1 hy2 rfl v.vc m v.us (hK.alloc _) w.heap.size (.slice (some ⟨g, o, none⟩) c.length cap) (heap_alloc_new _ _) rfl (by unfold maxLen; omega) (by omega) (by simp only [size_al]; omega)
  obtain ⟨tag1, hM1, hT1, hO1, hb6⟩ := h.pushC hc hgB (box_below w (.cells #[.slice (some ⟨g, o, none⟩) c.length cap] 22 (0, 0))) (by rw [hm]; exact ho6) hg6 ha6
  have hq6 : w6.cell? ⟨a.bx, 1, none⟩ = some v.vc := fit_cell hb6 1
  have hf6 : w6.frozen? ⟨a.bx, 1, none⟩ = false := frozen_of_row _ _ _ _ _ hb6
  rw [hvc] at c1 hr6 hq6
  have hrun := slice_toG (P := Try.prog) (t := 22) (e := 3) (a := some ⟨g, o, none⟩) (n := c.length) (c := cap) (k := 2) (m := 2) (by simp) Try.underlying22 (fun wx => by kernel_rfl) (by obtain ⟨_, _, _, _, e, hh, -⟩ := hc; injection e with _ _ e; omega)
  go_enter Try.func54, Try.ntmps54
  go_wp2_with fail
  have HF1 := hid (And.intro hM1 (And.intro hT1 hO1))
  have HOK := hid hok
  have HWL := hid hwl
  clear hwl
  have HM := hid hm
  generalize w6.setCell ⟨a.bx, 1, none⟩ (.slice a6 (m + 1) c6) = w7 at HF1 ⊢
  go_loopw [26] (fun s26 wr => ∃ j : Nat, s26 = .int .i64 j ∧ j ≤ 2 ∧ Hid (∃ tag' v', SM tag' B w0 wr a v' { d with C := d.C ++ [c], Wt := attW d c j } ∧ Touch (fun k => tag k ≠ .oth) w wr ∧ (∀ k, k < w.heap.size → k ≠ g → tag k = .oth → tag' k = .oth) ∧ v'.us = v.us ++ [.slice (some ⟨g, o, none⟩) c.length cap])) (fun s26 _ => (2 - (intOf s26)).toNat)
  case atStart => exact ⟨0, rfl, by omega, hid ⟨_, _, HF1.out.1, HF1.out.2.1, HF1.out.2.2, rfl⟩⟩
  case round =>
    obtain ⟨j, rfl, hj2, HS⟩ := hrel
    by_cases hlt : j < 2
    · have hlt2 : (j : Int) < 2 := by omega
      obtain ⟨x, hx⟩ : ∃ x, c[j]? = some x := ⟨_, List.getElem?_eq_getElem (by omega)⟩
      have hxo := HOK.out x (List.mem_of_getElem? hx)
      have hxr := ixL_range hxo
      have hxb : -1048577 ≤ x ∧ x ≤ 1048577 := by unfold LitOk at hxo; omega
      obtain ⟨q, hq⟩ : ∃ q : Nat, ixL x = q := ⟨(ixL x).toNat, by omega⟩
      have hqt : (ixL x).toNat = q := by omega
      have hqn : q < 2 * a.n1 := by omega
      obtain ⟨N2, hN2⟩ : ∃ m, 2 * a.n1 = m := ⟨_, rfl⟩
      have hqi : (q : Int) < N2 := by omega
      have hq0 : (0 : Int) ≤ q := by omega
      have hqN : q < N2 := by omega
      have HQN := hid hqn
      obtain ⟨tagj, vj, hM, hT, hO, hUs⟩ := HS.out
      obtain ⟨uc, huc, hRo⟩ := hM.co (.cls m) c (by show (d.C ++ [c])[m]? = some c; rw [List.getElem?_append_right (by omega)]; simp [HM.out])
      have hucv : uc = .slice (some ⟨g, o, none⟩) c.length cap := by
        rw [hUs, List.getElem?_append_right (by omega)] at huc
        simpa [hul, eq_comm] using huc
      subst hucv
      have hcj := (hRo.cell hx).1
      have HTG := hid (hRo.cell hx).2
      obtain ⟨u, ns, hu, hns, hGr⟩ := hM.wthAt hqn
      have hnl : ns.length ≤ 8796093022208 := by
        have h1 := attW_len c HWL.out j x
        have h2 : WtF (attW d c j) x = ns := by
          have hns : (attW d c j)[q]? = some ns := hns
          unfold WtF
          rw [hqt, hns]
          rfl
        rw [h2] at h1
        omega
      have hGo := hGr.1
      rw [nnts_length] at hGo
      obtain ⟨au, cu, huv⟩ := own_lenV' hGo
      have b2 : wr.cell? ⟨a.bx, 2, none⟩ = some (.slice (some ⟨a.bw, 0, none⟩) N2 N2) := by rw [← hN2]; exact hM.cell 2
      have bq : wr.cell? ⟨a.bw, q, none⟩ = some u := by rw [fit_cell (hM.co .wtb).1.1 q]; exact hu
      have hBr := hM.le
      have hne1 : a.bx ≠ a.bw := fun e => by have q1 := (hM.co .sta).2; rw [e, (hM.co .wtb).1.2] at q1; cases q1
      have bqa := fun o => below_keeps (box_below wr o) _ _ bq
      have HMJ := hid (And.intro hM (And.intro hT (And.intro hO hUs)))
      have HGO := hid hGo
      have HU := hid (And.intro hu hns)
      have HX := hid hx
      have HQ := hid hqt
      have HIX : Hid (∀ wz : World, Calls Try.prog 69 #[.int .i64 x] wz fun e w' => e = .returned (.int .i64 (q : Int)) ∧ wz = w') := hid fun wz => sol_index x q wz hq hxb
      subst huv
      clear hqn
      have HN2 := hid hN2
      clear hN2
      clear hM hT hO hUs huc hRo hu hns hGr hGo hx hxo hxr hxb hq hqt HS
      obtain ⟨a12, c12, w12, hr12, h12, hg12, ha12⟩ := appM_one (P := Try.prog) (wr.alloc (.cells #[.int .i64 m] 3 (0, 0))).drew B 22 22 3 i0 (.int .i64 0) 8 Try.underlying22 hi0 hz0 hz1 hz2 rfl (.slice au ns.length cu) ns.length (nnts ns) (HGO.out.alloc _) wr.heap.size (.int .i64 m) (heap_alloc_new _ _) rfl (by unfold maxLen; omega) (by omega) (by show B ≤ (wr.alloc _).heap.size; simp only [size_al]; omega)
      obtain ⟨hM2, hS2, hb2, hb3⟩ := HMJ.out.1.pushW HQN.out HU.out.1 HU.out.2 (box_below wr (.cells #[.int .i64 m] 3 (0, 0))).drew h12 hg12 ha12
      have HP2 := hid (And.intro hM2 hS2)
      have r2 : w12.cell? ⟨a.bw, q, none⟩ = some (.slice au ns.length cu) := (by rw [fit_cell hb2 q]; exact HU.out.1)
      have f2 : w12.frozen? ⟨a.bw, q, none⟩ = false := frozen_of_row _ _ _ _ _ hb2
      have r3 : w12.cell? ⟨a.bx, 2, none⟩ = some (.slice (some ⟨a.bw, 0, none⟩) N2 N2) := (by rw [fit_cell hb3 2, ← HN2.out]; rfl)
      clear hM2 hS2 hb2 hb3 h12 hg12 ha12
      have b2a := fun o => below_keeps (box_below wr o) _ _ b2
      go_wp2_with fail
      refine wp_region_R (fun y => y.cell? ⟨a.bx, 2, none⟩ = some (.slice (some ⟨a.bw, 0, none⟩) N2 N2) ∧ y.cell? ⟨a.bw, q, none⟩ = some (.slice au ns.length cu)) [18] (by kernel_rfl) ?_
      have hHeld : (fun y : World => y.cell? ⟨a.bx, 2, none⟩ = some (.slice (some ⟨a.bw, 0, none⟩) N2 N2) ∧ y.cell? ⟨a.bw, q, none⟩ = some (.slice au ns.length cu)) wr.drew := ⟨b2, bq⟩
      refine wpR.take 0 rfl (by kernel_rfl) (fun _ _ _ h => h) (by rfl) (v := ?_) ?_ (by assumption) ?_
      rotate_left 1
      · (intro wx hSw; (try dsimp only at hSw); go_simp; try with_reducible rfl)
      try simp only [Act.put, List.setIfInBounds_toArray, List.set_cons_zero, List.set_cons_succ]
      refine wpR.take 1 rfl (by kernel_rfl) (fun _ _ _ h => h) (by rfl) (v := ?_) ?_ (by assumption) ?_
      rotate_left 1
      · (intro wx hSw; (try dsimp only at hSw); go_simp; try with_reducible rfl)
      try simp only [Act.put, List.setIfInBounds_toArray, List.set_cons_zero, List.set_cons_succ]
      refine wpR.take 2 rfl (by kernel_rfl) (fun _ _ _ h => h) (by rfl) (v := ?_) ?_ (by assumption) ?_
      rotate_left 1
      · (intro wx hSw; (try dsimp only at hSw); go_simp; try with_reducible rfl)
      try simp only [Act.put, List.setIfInBounds_toArray, List.set_cons_zero, List.set_cons_succ]
      refine wpR.take 3 rfl (by kernel_rfl) (fun _ _ _ h => h) (by rfl) (v := ?_) ?_ (by assumption) ?_
      rotate_left 1
      · (intro wx hSw; (try dsimp only at hSw); go_simp; try with_reducible rfl)
      try simp only [Act.put, List.setIfInBounds_toArray, List.set_cons_zero, List.set_cons_succ]
      refine wpR.take 4 rfl (by kernel_rfl) (fun _ _ _ h => h) (by rfl) (v := ?_) ?_ (by assumption) ?_
      rotate_left 1
      · (intro wx hSw; (try dsimp only at hSw); go_simp; try with_reducible rfl)
      try simp only [Act.put, List.setIfInBounds_toArray, List.set_cons_zero, List.set_cons_succ]
      refine wpR.call 5 rfl (by kernel_rfl) (fun _ _ _ h => h) (by rfl) (v := ?_) (f := ?_) (args := ?_) ?_ ?_ (by assumption) ?_
      rotate_left 3
      · (intro wx hSw; (try dsimp only at hSw); go_simp; first | done | with_reducible rfl | (refine ⟨?_, ?_⟩ <;> with_reducible rfl))
      · (intro wx hSw; (try dsimp only at hSw); exact HIX.out wx)
      try simp only [Act.put, List.setIfInBounds_toArray, List.set_cons_zero, List.set_cons_succ]
      refine wpR.take 6 rfl (by kernel_rfl) (fun _ _ _ h => h) (by rfl) (v := ?_) ?_ (by assumption) ?_
      rotate_left 1
      · (intro wx hSw; (try dsimp only at hSw); go_simp; try with_reducible rfl)
      try simp only [Act.put, List.setIfInBounds_toArray, List.set_cons_zero, List.set_cons_succ]
      refine wpR.take 7 rfl (by kernel_rfl) (fun _ _ _ h => h) (by rfl) (v := ?_) ?_ (by assumption) ?_
      rotate_left 1
      · (intro wx hSw; (try dsimp only at hSw); go_simp; try with_reducible rfl)
      try simp only [Act.put, List.setIfInBounds_toArray, List.set_cons_zero, List.set_cons_succ]
      refine wpR.take 8 rfl (by kernel_rfl) (fun _ _ _ h => h) (by rfl) (v := ?_) ?_ (by assumption) ?_
      rotate_left 1
      · (intro wx hSw; (try dsimp only at hSw); go_simp; try with_reducible rfl)
      try simp only [Act.put, List.setIfInBounds_toArray, List.set_cons_zero, List.set_cons_succ]
      refine wpR.take 9 rfl (by kernel_rfl) (fun _ _ _ h => h) (by rfl) (v := ?_) ?_ (by assumption) ?_
      rotate_left 1
      · (intro wx hSw; (try dsimp only at hSw); go_simp; try with_reducible rfl)
      try simp only [Act.put, List.setIfInBounds_toArray, List.set_cons_zero, List.set_cons_succ]
      refine wpR.take 10 rfl (by kernel_rfl) (fun _ _ _ h => h) (by rfl) (v := ?_) ?_ (by assumption) ?_
      rotate_left 1
      · (intro wx hSw; (try dsimp only at hSw); go_simp; try with_reducible rfl)
      try simp only [Act.put, List.setIfInBounds_toArray, List.set_cons_zero, List.set_cons_succ]
      refine wpR.call 11 rfl (by kernel_rfl) (fun _ _ _ h => h) (by rfl) (v := ?_) (f := ?_) (args := ?_) ?_ ?_ (by assumption) ?_
      rotate_left 3
      · (intro wx hSw; (try dsimp only at hSw); go_simp; first | done | with_reducible rfl | (refine ⟨?_, ?_⟩ <;> with_reducible rfl))
      · (intro wx hSw; (try dsimp only at hSw); exact HIX.out wx)
      try simp only [Act.put, List.setIfInBounds_toArray, List.set_cons_zero, List.set_cons_succ]
      refine wpR.take 12 rfl (by kernel_rfl) (fun _ _ _ h => h) (by rfl) (v := ?_) ?_ (by assumption) ?_
      rotate_left 1
      · (intro wx hSw; (try dsimp only at hSw); go_simp; try with_reducible rfl)
      try simp only [Act.put, List.setIfInBounds_toArray, List.set_cons_zero, List.set_cons_succ]
      refine wpR.take 13 rfl (by kernel_rfl) (fun _ _ _ h => h) (by rfl) (v := ?_) ?_ (by assumption) ?_
      rotate_left 1
      · (intro wx hSw; (try dsimp only at hSw); go_simp; try with_reducible rfl)
      try simp only [Act.put, List.setIfInBounds_toArray, List.set_cons_zero, List.set_cons_succ]
      refine wpR.take 14 rfl (by kernel_rfl) (fun _ _ _ h => h) (by rfl) (v := ?_) ?_ (by assumption) ?_
      rotate_left 1
      · (intro wx hSw; (try dsimp only at hSw); go_simp; try with_reducible rfl)
      try simp only [Act.put, List.setIfInBounds_toArray, List.set_cons_zero, List.set_cons_succ]
      refine wpR.one 15 rfl (by kernel_rfl) (by rfl) (v := ?_) (w' := ?_) ?_ ?_ ?_
      rotate_left 2
      · (go_simp; first | done | with_reducible rfl | (refine ⟨?_, ?_⟩ <;> with_reducible rfl))
      · (intro _; exact ⟨b2a _, bqa _⟩)
      try simp only [Act.put, List.setIfInBounds_toArray, List.set_cons_zero, List.set_cons_succ]
      have hHeld0 := hHeld
      clear hHeld0
      have hHeld : (fun y : World => y.cell? ⟨a.bx, 2, none⟩ = some (.slice (some ⟨a.bw, 0, none⟩) N2 N2) ∧ y.cell? ⟨a.bw, q, none⟩ = some (.slice au ns.length cu)) w12 := ⟨r3, r2⟩
      refine wpR.one 16 rfl (by kernel_rfl) (by rfl) (v := ?_) (w' := ?_) ?_ ?_ ?_
      rotate_left 2
      · (go_simp; first | done | with_reducible rfl | (refine ⟨?_, ?_⟩ <;> with_reducible rfl))
      · (intro _; exact ⟨r3, r2⟩)
      try simp only [Act.put, List.setIfInBounds_toArray, List.set_cons_zero, List.set_cons_succ]
      refine wpR.take 17 rfl (by kernel_rfl) (fun _ _ _ h => h) (by rfl) (v := ?_) ?_ (by assumption) ?_
      rotate_left 1
      · (intro wx hSw; (try dsimp only at hSw); go_simp; try with_reducible rfl)
      try simp only [Act.put, List.setIfInBounds_toArray, List.set_cons_zero, List.set_cons_succ]
      refine wpR.skip 18 rfl (by kernel_rfl) (by rfl) (w' := ?_) ?_ ?_ ?_
      rotate_left 1
      · (go_simp; first | done | with_reducible rfl | (refine ⟨?_, ?_⟩ <;> with_reducible rfl))
      · (exact fun h => absurd (by decide) h)
      try simp only [Act.put]
      refine wpR.done (by kernel_rfl) ?_
      all_goals
        go_wp2_with fail
        go_roundw
        case rel =>
          refine ⟨j + 1, by simp, by omega, hid ⟨tgN tagj wr (.wth q), { vj with ws := vj.ws.set q (.slice a12 (ns.length + 1) c12) }, ?_, ?_, ?_, HMJ.out.2.2.2⟩⟩
          · have hs : attW d c (j + 1) = addW q m (attW d c j) := by
              show addW (ixL ((c[j]?).getD 0)).toNat d.C.length (attW d c j) = _
              rw [HX.out, HM.out]
              show addW (ixL x).toNat m _ = _
              rw [HQ.out]
            rw [hs]
            exact HP2.out.1
          · refine HMJ.out.2.1.trans' HP2.out.2 fun i hi hs e => ?_
            by_cases hig : i = g
            · rw [hig, HTG.out] at hs
              rcases hs with hs | hs <;> cases hs
            · rw [HMJ.out.2.2.1 i hi hig e] at hs
              rcases hs with hs | hs <;> cases hs
          · intro k hk hkg e
            exact (tgN_old (Nat.lt_of_lt_of_le hk HMJ.out.2.1.size)).trans (HMJ.out.2.2.1 k hk hkg e)
        case measure => simp [intOf]; omega
    · have hje : j = 2 := by omega
      subst hje
      clear hlt
      go_wp2_with fail
      go_ret
      refine ⟨by rw [HM.out]; rfl, ?_⟩
      obtain ⟨tagj, vj, hM, hT, hO, -⟩ := HS.out
      exact ⟨tagj, vj, hM, hT, hO⟩

end Go.Proofs.Ytfofabbnbmieoaa.Ord

/- Plain facts about solve's load. -/
namespace Go.Proofs.Ytfofabbnbmieoaa.Ord

section
variable {n : Nat} {G C : List (List Int)} {Wt Wt' : Int → List Nat} {K Rz : List Int} {c e : List Int} {x u y r : Int} {k : Nat}

theorem CB.grow0 (h : CB n G C Wt K Rz []) (hc : Taut c ∨ (∃ d ∈ C, ∀ l, l ∈ d ↔ l ∈ c) ∨ ∃ l ∈ c, l ∈ K) : CB n (G ++ [c]) C Wt K Rz [] :=
  ⟨h.wi, h.bp, h.bl, h.inc, h.rl, h.rs, fun i a hi hl => der_mono (sub_of_subset fun _ hd => List.mem_append_left _ hd) (fun _ ha => ha) (h.lv0 i a hi hl), h.cons, h.nod, h.kok, fun d hd => by
    obtain ⟨f, hf, hl⟩ := h.sub d hd
    exact ⟨f, List.mem_append_left _ hf, hl⟩, h.al.app hc⟩

theorem CD.grow0 (h : CD n G C Wt K Rz [] k) (hc : Taut c ∨ (∃ d ∈ C, ∀ l, l ∈ d ↔ l ∈ c) ∨ ∃ l ∈ c, l ∈ K) : CD n (G ++ [c]) C Wt K Rz [] k :=
  ⟨h.toCB.grow0 hc, h.pr, h.dl, h.bd⟩

theorem CD.unit0 (h : CD n G C Wt K Rz [] 0) (hc : ∀ l, l ∈ c ↔ l = x) (hok : LitOk n x) (h1 : x ∉ K) (h2 : -x ∉ K) (r : Int) : CD n (G ++ [c]) C Wt (K ++ [x]) (Rz ++ [r]) [] 0 := by
  refine ⟨⟨h.wi, (fun b hb => by cases hb), (fun b hb => by cases hb), List.Pairwise.nil, by simp [h.rl], (fun i a hi hib hlv => by cases hlv), fun i a hi hlv => ?_, cons_app h.cons h2 hok.1, nodup_app h.nod h1, kok_app h.kok hok, fun d hd => ?_, ?_⟩, fun t d p q ht hp hq => ?_, Nat.zero_le _, (fun b hb => by cases hb)⟩
  · by_cases q : i < K.length
    · rw [List.getElem?_append_left q] at hi
      exact der_mono (sub_of_subset fun _ hd => List.mem_append_left _ hd) (fun _ ha => ha) (h.lv0 i a hi hlv)
    · rw [List.getElem?_append_right (by omega)] at hi
      have hj2 := (List.getElem?_eq_some_iff.1 hi).1
      simp at hj2
      have hik : i = K.length := by omega
      subst hik
      simp at hi
      subst hi
      exact .unit (c := c) (by simp) ((hc _).2 rfl) fun m hm hne => absurd ((hc m).1 hm) hne
  · obtain ⟨f, hf, hl⟩ := h.sub d hd
    exact ⟨f, List.mem_append_left _ hf, hl⟩
  · exact (h.al.mono (fun d hd => ⟨d, hd, fun _ => Iff.rfl⟩) fun z hz => List.mem_append_left _ hz).app (.inr (.inr ⟨x, (hc x).2 rfl, by simp [k0]⟩))
  · have h3 := h.pr t d p q ht hp hq
    exact ⟨fun m => List.mem_append_left _ (h3.1 (by simpa using m)), fun m => List.mem_append_left _ (h3.2 (by simpa using m))⟩

theorem CD.more0 (h : CD n G C Wt K Rz [] 0) (he : ∀ l, l ∈ e ↔ l ∈ c) (hl2 : 2 ≤ e.length) (hnd : e.Nodup) (hok : ∀ x ∈ e, LitOk n x) (hop : ∀ x ∈ e, -x ∉ e) (h0 : e[0]? = some u) (h1 : e[1]? = some y)
    (hw : ∀ b, Wt' b = if b = u ∨ b = y then Wt b ++ [C.length] else Wt b) : CD n (G ++ [c]) (C ++ [e]) Wt' K Rz [] 0 := by
  refine ⟨⟨h.wi.push hl2 hnd hok hop h0 h1 hw, (fun b hb => by cases hb), (fun b hb => by cases hb), List.Pairwise.nil, h.rl, (fun i a hi hib hlv => by cases hlv), fun i a hi hlv => der_mono (sub_of_subset fun _ hd => List.mem_append_left _ hd) (fun _ ha => ha) (h.lv0 i a hi hlv), h.cons, h.nod, h.kok, fun d hd => ?_, ?_⟩, fun t d p q ht hp hq => ?_, Nat.zero_le _, (fun b hb => by cases hb)⟩
  · rcases List.mem_append.1 hd with q | q
    · obtain ⟨f, hf, hl⟩ := h.sub d q
      exact ⟨f, List.mem_append_left _ hf, hl⟩
    · rw [List.mem_singleton.1 q]; exact ⟨c, by simp, he⟩
  · exact (h.al.mono (fun d hd => ⟨d, List.mem_append_left _ hd, fun _ => Iff.rfl⟩) fun z hz => hz).app (.inr (.inl ⟨e, by simp, he⟩))
  · by_cases qq : t < C.length
    · rw [List.getElem?_append_left qq] at ht
      exact h.pr t d p q ht hp hq
    · rw [List.getElem?_append_right (by omega)] at ht
      have hj := (List.getElem?_eq_some_iff.1 ht).1
      simp at hj
      have hk : t = C.length := by omega
      subst hk
      simp at ht
      subst ht
      have hp0 := (hok p (List.mem_of_getElem? hp)).1
      have hq0 := (hok q (List.mem_of_getElem? hq)).1
      exact ⟨fun m => by simp [hp0] at m, fun m => by simp [hq0] at m⟩

theorem CD.bad0 (h : CD n G C Wt K Rz [] k) (hc : ∀ l ∈ c, -l ∈ K) : Bad (G ++ [c]) [] :=
  .inr ⟨c, by simp, fun l hl => by
    obtain ⟨i, hi⟩ := List.mem_iff_getElem?.1 (hc l hl)
    exact der_mono (sub_of_subset fun _ hd => List.mem_append_left _ hd) (fun _ ha => ha) (h.lv0 i _ hi rfl)⟩

theorem CF.bad0 {i : Nat} (h : CF n G C Wt K Rz [] i) : Bad G [] := by
  obtain ⟨c, hc, hf, -⟩ := h.fls
  obtain ⟨f, hfG, hl⟩ := h.sub c (List.mem_of_getElem? hc)
  refine .inr ⟨f, hfG, fun l hl' => ?_⟩
  obtain ⟨j, hj⟩ := List.mem_iff_getElem?.1 (hf l ((hl l).2 hl'))
  exact h.lv0 j _ hj rfl

theorem bad_sub {F' : List (List Int)} (h : Bad G []) (hs : ∀ d ∈ G, d ∈ F') : Bad F' [] := by
  exact bad_mono (sub_of_subset hs) (fun _ ha => ha) h

end

/-- What attach makes of the watch lists. -/
theorem attD_wt {n m : Nat} {d : SD} {c : List Int} {u y : Int} (hm : m = n + 1) (hw : d.Wt.length = 2 * m) (h0 : c[0]? = some u) (h1 : c[1]? = some y) (hu : LitOk n u) (hy : LitOk n y) (hne : u ≠ y) : ∀ b, WtF (attD d c).Wt b = if b = u ∨ b = y then WtF d.Wt b ++ [d.C.length] else WtF d.Wt b := fun b => by
  have hul := ixL_lt hm hu
  have hyl := ixL_lt hm hy
  show WtF (addW (ixL ((c[1]?).getD 0)).toNat d.C.length (addW (ixL ((c[0]?).getD 0)).toNat d.C.length d.Wt)) b = _
  rw [h0, h1]
  show WtF (addW (ixL y).toNat d.C.length (addW (ixL u).toNat d.C.length d.Wt)) b = _
  rw [WtF_add (by unfold addW; rw [List.length_set]; omega), WtF_add (by omega)]
  unfold effW
  by_cases q1 : b = y
  · subst q1
    rw [if_pos rfl, if_neg (fun e => hne e.symm), if_pos (.inr rfl)]
  · rw [if_neg q1]
    by_cases q2 : b = u
    · rw [if_pos q2, if_pos (.inl q2), q2]
    · rw [if_neg q2, if_neg (by rintro (e | e); exact q2 e; exact q1 e)]

end Go.Proofs.Ytfofabbnbmieoaa.Ord

/- The contract of rup's look. -/
namespace Go.Proofs.Ytfofabbnbmieoaa.Ord
open Go.RowKit Go.Conc

attribute [local go_sem ↓] Go.wp_at_zero Go.wp_at_succ
attribute [local go_sem ↓ high] app_mark

/-- The blocks that rup's functions write. -/
def RS (tag : Nat → RT) (bx bw bk : Nat) (k : Nat) : Prop := k = bx ∨ k = bw ∨ k = bk ∨ (tag k ≠ .oth ∧ tag k ≠ .kep)

section
variable {tag : Nat → RT} {B : Nat} {w0 w : World} {bx bw bk : Nat} {vc vt : Value} {dn : Nat} {C : List (List Int)} {us : List Value} {es : List (Int × Value)} {Wt : Int → List Nat} {K : List Int}

/-- The clause i stands in another order. -/
theorem RM.reclause (h : RM tag B w0 w bx bw bk vc vt dn C us es Wt K) {i : Nat} {c d : List Int} (hc : C[i]? = some c) {g o cap : Nat} (hu : us[i]? = some (.slice (some ⟨g, o, none⟩) c.length cap)) (ht : tag g = .cls i) (hg : B ≤ g) {cur cur' : Array Value} (hb : w.heap[g]? = some (.cells cur 3 (0, 0))) {w' : World} (hT : Touch (fun k => k = g) w w') (hb' : w'.heap[g]? = some (.cells cur' 3 (0, 0))) (hd : d.length = c.length) (hcur : ∀ (j : Nat) (x : Int), d[j]? = some x → cur'[o + j]? = some (.int .i64 x)) : RM tag B w0 w' bx bw bk vc vt dn (C.set i d) us es Wt K := by
  obtain ⟨q1, q2, q3, q4⟩ := h.intb hb
  have hoth : ∀ k, k < w.heap.size → k ≠ g → w'.heap[k]? = w.heap[k]? := fun k hk hn => hT.block k hk hn
  refine ⟨h.bel.trans (hT.below h.le (fun k hk => by rw [hk]; exact hg)), Nat.le_trans h.le hT.size, h.bxB, h.bwB, h.bkB, h.ne, (hoth bx (Array.getElem?_eq_some_iff.1 h.blk).1 (fun e => q1 e.symm)).trans h.blk, ?_, h.clt, fun t e he => ?_, own_frame0 h.tr fun k hk => hoth k (h.tr.lt k hk).2 (fun e => ?_), h.trt, h.wi.frame (hoth bw h.wi.lt (fun e => q2 e.symm)), fun a => (h.wr a).frame fun k cur hk hw => ⟨hoth k (Array.getElem?_eq_some_iff.1 hk).1 (fun e => ?_), rfl⟩, h.kn.frame (hoth bk h.kn.lt (fun e => q3 e.symm))⟩
  · rw [List.length_set]
    exact own_frame0 h.clr fun k hk => hoth k (h.clr.lt k hk).2 (fun e => q4 (e ▸ hk))
  · rw [set_get hc] at he
    split at he
    · rename_i e1
      subst e1
      injection he with he
      subst he
      exact ⟨g, o, cap, cur', by rw [hd]; exact hu, ht, hg, hb', hcur⟩
    · rename_i hti
      obtain ⟨g2, o2, cap2, cur2, e1, e2, e3, e4, e5⟩ := h.cls t e he
      refine ⟨g2, o2, cap2, cur2, e1, e2, e3, (hoth g2 (Array.getElem?_eq_some_iff.1 e4).1 (fun e => ?_)).trans e4, e5⟩
      rw [e, ht] at e2
      injection e2 with e2
      exact hti e2.symm
  · have := h.trt k hk
    rw [e, ht] at this
    cases this
  · rw [e, ht] at hw
    cases hw

end

theorem list_set_self {l : List (List Int)} {i : Nat} {c : List Int} (h : l[i]? = some c) : l.set i c = l := by
  obtain ⟨h1, h2⟩ := List.getElem?_eq_some_iff.1 h
  subst h2
  exact List.set_getElem_self h1

section
variable {tag : Nat → RT} {B : Nat} {w0 w : World} {bx bw bk : Nat} {vc vt : Value} {dn : Nat} {C : List (List Int)} {us : List Value} {es : List (Int × Value)} {Wt : Int → List Nat} {K : List Int}

/-- Two literals of a clause change their places. -/
theorem RM.swap (h : RM tag B w0 w bx bw bk vc vt dn C us es Wt K) {i : Nat} {c : List Int} (hc : C[i]? = some c) {g o cap : Nat} (hu : us[i]? = some (.slice (some ⟨g, o, none⟩) c.length cap)) (ht : tag g = .cls i) (hg : B ≤ g) {cur : Array Value} (hb : w.heap[g]? = some (.cells cur 3 (0, 0))) (hcur : ∀ (j : Nat) (x : Int), c[j]? = some x → cur[o + j]? = some (.int .i64 x)) {j k : Nat} {x y : Int} (hj : c[j]? = some x) (hk : c[k]? = some y) :
    RM tag B w0 ((w.setCell ⟨g, o + j, none⟩ (.int .i64 y)).setCell ⟨g, o + k, none⟩ (.int .i64 x)) bx bw bk vc vt dn (C.set i (swapL c j k)) us es Wt K ∧ Touch (fun q => q = g) w ((w.setCell ⟨g, o + j, none⟩ (.int .i64 y)).setCell ⟨g, o + k, none⟩ (.int .i64 x)) := by
  have hT : Touch (fun q => q = g) w ((w.setCell ⟨g, o + j, none⟩ (.int .i64 y)).setCell ⟨g, o + k, none⟩ (.int .i64 x)) := ((Touch.refl (fun q => q = g) w).setCell (p := ⟨g, o + j, none⟩) rfl _).setCell (p := ⟨g, o + k, none⟩) rfl _
  have hjl := (List.getElem?_eq_some_iff.1 hj).1
  have hkl := (List.getElem?_eq_some_iff.1 hk).1
  have hb1 := heap_setCell_same w g (o + j) cur 3 (.int .i64 y) hb
  have hb2 := heap_setCell_same _ g (o + k) _ 3 (.int .i64 x) hb1
  have cj := (Array.getElem?_eq_some_iff.1 (hcur j x hj)).1
  have ck := (Array.getElem?_eq_some_iff.1 (hcur k y hk)).1
  refine ⟨h.reclause hc hu ht hg hb hT hb2 (swapL_length _ _ _) fun t z hz => ?_, hT⟩
  rw [swapL_get hjl hkl] at hz
  rw [Array.getElem?_setIfInBounds, Array.getElem?_setIfInBounds]
  by_cases h1 : t = k
  · subst h1
    rw [if_pos rfl, hj] at hz
    injection hz with hz
    subst hz
    rw [if_pos rfl, if_pos (by simpa using ck)]
  · rw [if_neg h1] at hz
    rw [if_neg (show ¬ o + k = o + t by omega)]
    by_cases h2 : t = j
    · subst h2
      rw [if_pos rfl, hk] at hz
      injection hz with hz
      subst hz
      rw [if_pos rfl, if_pos cj]
    · rw [if_neg h2] at hz
      rw [if_neg (show ¬ o + j = o + t by omega)]
      exact hcur t z hz

/-- Numbers appended to a list of numbers. -/
theorem appM_wt {P : Program} (wx : World) (t ty : TypeId) (ti : TypeInfo) (z : Value) (bytes : Nat) (ht : P.underlying t = some (.slice 3)) (hi : P.info? 3 = some ti) (hz : ti.zero = some z)
    (hsize : ti.size = 1) (hby : ti.bytes = bytes) (hb8 : bytes = 8) (hzs : z.cells.size = 1)
    {kd : RT} {v : Value} {ns : List Nat} (hv : WT kd tag B w v ns) (hbel : Below w.heap.size w wx) (hB : B ≤ w.heap.size) (ms : List Nat) (ad : Addr) (m c : Nat) (hm : m = ms.length) (hm0 : 0 < m) (hnews : ∀ (j : Nat) (u : Value), (nnts ms)[j]? = some u → wx.cell? (ad.add j) = some u) (hl : ns.length + m ≤ 4398046511104) :
    ∃ a' c' w', (appM #[t, t] ty #[v, .slice (some ad) m c]).run P wx = .ok (.slice a' (ns.length + m) c') w' ∧ w'.ownsRow B 3 1 (.slice a' (ns.length + m) c') (ns.length + m) (nnts (ns ++ ms)) ∧ Touch (fun k => tag k = kd ∧ B ≤ k ∧ ∃ cur : Array Value, w.heap[k]? = some (.cells cur 3 (0, 0))) w w' ∧ (∀ k, (Value.slice a' (ns.length + m) c').ownBlock = some k → (k < w.heap.size → tag k = kd ∧ v.ownBlock = some k)) := by
  obtain ⟨a0, cap, rfl, h2, h3⟩ := hv
  have hsz := hbel.size
  have hone : ∀ u ∈ nnts ms, u.oneCell' = true := fun u hu => by
    obtain ⟨x, -, rfl⟩ := List.mem_map.1 hu
    rfl
  have hlm : (nnts ms).length = m := by rw [nnts_length, hm]
  have hTx : Touch (fun k => tag k = kd ∧ B ≤ k ∧ ∃ cur : Array Value, w.heap[k]? = some (.cells cur 3 (0, 0))) w wx := ⟨hbel.os, hbel.tape, hbel.output, hsz, fun k hk _ => hbel.block k hk⟩
  rcases h3 with ⟨rfl, rfl⟩ | ⟨ho, htg⟩
  · cases a0 with
    | none =>
      obtain ⟨v', w', hr, ho', hg', -, ha'⟩ := run_append_own_at (P := P) wx B t ty 3 ti z 1 bytes ht hi hz hsize hby hzs (by decide) _ 0 [] (World.ownsRow_nil _ _ _ _) ad m c (nnts ms) (by omega) hnews hone (by simp at hl; unfold maxLen; omega) (by rw [hb8]; simp at hl; omega) (by omega)
      obtain ⟨a', c', rfl⟩ := own_lenV' ho'
      refine ⟨a', c', w', hr, by simpa [nnts] using ho', hTx.grown hg' nofun, fun k hk hkl => ?_⟩
      have hk2 : (Value.slice a' (0 + m) c').ownBlock = some k := hk
      rcases ha' with e | e
      · rw [e] at hk2; cases hk2
      · rw [e] at hk2
        injection hk2 with hk2
        omega
    | some b =>
      obtain ⟨v', w', hr, ho', hg'⟩ := run_append_arg_grows (P := P) wx t ty 3 ti z 1 bytes ht hi hz hsize hby hzs (by decide) b 0 0 [] rfl (fun j u hj => by simp at hj) ad m c (nnts ms) (by omega) hnews (by omega) (by simp at hl; unfold maxLen; omega) (by rw [hb8]; simp at hl; omega)
      obtain ⟨a', c', rfl⟩ := own_lenV' ho'
      refine ⟨a', c', w', hr, own_base (by simpa [nnts] using ho') (by omega), hTx.grown hg' nofun, fun k hk hkl => ?_⟩
      have := (ho'.lt k hk).1
      omega
  · obtain ⟨v', w', hr, ho', hg', -, ha'⟩ := run_append_own_at (P := P) wx B t ty 3 ti z 1 bytes ht hi hz hsize hby hzs (by decide) _ ns.length (nnts ns) (own_below ho hbel) ad m c (nnts ms) (by omega) hnews hone (by unfold maxLen; omega) (by rw [hb8]; omega) (by omega)
    obtain ⟨a', c', rfl⟩ := own_lenV' ho'
    refine ⟨a', c', w', hr, by simpa [nnts] using ho', hTx.grown hg' (fun k hk => .inl ⟨htg k hk, (ho.lt k hk).1, own_cells ho hk⟩), fun k hk hkl => ?_⟩
    rcases ha' with e | e
    · exact ⟨htg k (by rw [← e]; exact hk), by rw [← e]; exact hk⟩
    · rw [e] at hk
      injection hk with hk
      omega

theorem cells_one {wx : World} {g : Nat} {i : Nat} (hc : wx.heap[g]? = some (.cells #[.int .i64 (i : Int)] 3 (0, 0))) : ∀ (j : Nat) (u : Value), (nnts [i])[j]? = some u → wx.cell? ((⟨g, 0, none⟩ : Addr).add j) = some u := by
  intro j y hj
  match j, hj with
  | 0, hj =>
    simp [nnts] at hj
    subst hj
    simp [World.cell?, Addr.add, hc]

/-- The same as a step of a region whose order is open. -/
theorem step_append_wt {P : Program} {wx : World} {ops : Array Oper} {o : Oper} {ac : Act} {Kn : Act → World → Prop} {Q : Exit → Act → World → Prop} {E : Prop} (hgd : o.guard = none) (s x : Operand) (t : TypeId)
    (ho : o.op = .call { callee := .builtin .append, args := #[s, x], argTypes := #[t, t] })
    (ti : TypeInfo) (z : Value) (bytes : Nat) (ht : P.underlying t = some (.slice 3)) (hi : P.info? 3 = some ti) (hz : ti.zero = some z)
    (hsize : ti.size = 1) (hby : ti.bytes = bytes) (hb8 : bytes = 8) (hzs : z.cells.size = 1)
    {kd : RT} {v : Value} {ns : List Nat} {n : Nat} (hn : ns.length = n) (hs : ac.eval s = v) (hv : WT kd tag B w v ns) (hbel : Below w.heap.size w wx) (hB : B ≤ w.heap.size) (ms : List Nat) (ad : Addr) (m c : Nat) (hm : m = ms.length) (hm0 : 0 < m) (hx : ac.eval x = .slice (some ad) m c) (hnews : ∀ (j : Nat) (u : Value), (nnts ms)[j]? = some u → wx.cell? (ad.add j) = some u) (hl : n + m ≤ 4398046511104)
    (h : ∀ a' c' w', w'.ownsRow B 3 1 (.slice a' (n + m) c') (n + m) (nnts (ns ++ ms)) → Touch (fun k => tag k = kd ∧ B ≤ k ∧ ∃ cur : Array Value, w.heap[k]? = some (.cells cur 3 (0, 0))) w w' → (∀ k, (Value.slice a' (n + m) c').ownBlock = some k → (k < w.heap.size → tag k = kd ∧ v.ownBlock = some k)) → Kn (ac.put o.dst (.slice a' (n + m) c')) w') :
    if Region.wanted o (yielded ops ac.tmps) = true then Oper.wp P o ac wx Kn Q else E := by
  subst hn
  have hw : Region.wanted o (yielded ops ac.tmps) = true := by simp [Region.wanted, hgd]
  rw [if_pos hw]
  obtain ⟨a', c', w', hr, h2, h3, h4⟩ := appM_wt (P := P) wx t o.type ti z bytes ht hi hz hsize hby hb8 hzs hv hbel hB ms ad m c hm hm0 hnews hl
  have hr' : (Builtin.append_ #[t, t] o.type #[v, .slice (some ad) m c]).run P wx = .ok (.slice a' (ns.length + m) c') w' := hr
  unfold Oper.wp execOp
  simp only [ho, resolve, invoke, builtin, Sem.run_bind, Sem.run_pure, Result.andThen_ok, List.map_toArray, List.map_cons, List.map_nil, hs, hx, hr']
  exact h a' c' w' h2 h3 h4

/-- A number appended to the watch list of z. -/
theorem RM.wth (h : RM tag B w0 w bx bw bk vc vt dn C us es Wt K) {z : Int} {i : Nat} {w2 w3 : World} {v' : Value} (happ : Touch (fun k => tag k = .wth z ∧ B ≤ k ∧ ∃ cur : Array Value, w.heap[k]? = some (.cells cur 3 (0, 0))) w w2) (h8 : w2.ownsRow B 3 1 v' ((Wt z).length + 1) (nnts (Wt z ++ [i]))) (ho : ∀ k, v'.ownBlock = some k → (k < w.heap.size → tag k = .wth z))
    (him : IM w3 bw (aput es z v')) (ht3 : Touch (fun k => k = bw) w2 w3) :
    RM (fun g => if g < w.heap.size then tag g else .wth z) B w0 w3 bx bw bk vc vt dn C us (aput es z v') (fun b => if b = z then Wt z ++ [i] else Wt b) K ∧ Touch (RS tag bx bw bk) w w3 := by
  have hkp : ∀ k, k < w.heap.size → k ≠ bw → (tag k ≠ .wth z ∨ k < B ∨ ∀ cur : Array Value, w.heap[k]? ≠ some (.cells cur 3 (0, 0))) → w3.heap[k]? = w.heap[k]? := fun k hk hn hh => by
    refine (ht3.block k (Nat.lt_of_lt_of_le hk happ.size) hn).trans (happ.block k hk fun ⟨q1, q3, cur, q2⟩ => ?_)
    rcases hh with q | q | q
    · exact q q1
    · omega
    · exact q cur q2
  obtain ⟨a1, a2, a3, a4, a5, a6, a7, a8, a9⟩ := h.apart
  have htg : ∀ g, g < w.heap.size → (fun g => if g < w.heap.size then tag g else RT.wth z) g = tag g := fun g hg => if_pos hg
  have hT : Touch (fun k => k = bw ∨ (tag k = .wth z ∧ B ≤ k ∧ ∃ cur : Array Value, w.heap[k]? = some (.cells cur 3 (0, 0)))) w w3 :=
    (happ.mono fun k _ hk => .inr hk).trans' ht3 (fun k _ hk => .inl hk)
  have hBlow : Below B w0 w3 := h.bel.trans ⟨hT.os, hT.tape, hT.output, hT.size, fun k hk => hkp k (by have := h.le; omega) (by have := h.bwB; omega) (.inr (.inl hk))⟩
  have hown : ∀ {e n : Nat} {v : Value} {xs : List Value}, w.ownsRow B e 1 v n xs → e ≠ 3 → v.ownBlock ≠ some bw → w3.ownsRow B e 1 v n xs := fun ho he hn => own_frame0 ho fun g hg => hkp g (ho.lt g hg).2 (fun q => hn (q ▸ hg)) (.inr (.inr fun cur hc => by
    obtain ⟨c2, hc2⟩ := own_cells ho hg
    rw [hc] at hc2
    injection hc2 with hc2
    injection hc2 with _ hc2
    exact he hc2.symm))
  have hsz := hT.size
  refine ⟨⟨hBlow, Nat.le_trans h.le hsz, h.bxB, h.bwB, h.bkB, h.ne, (hkp bx (Array.getElem?_eq_some_iff.1 h.blk).1 a1 (.inr (.inr fun cur hc => ?_))).trans h.blk, hown h.clr (by decide) a4, fun g hg => (if_pos (h.clr.lt g hg).2).trans (h.clt g hg), fun t c hc => ?_, own_frame0 h.tr fun g hg => hkp g (h.tr.lt g hg).2 (fun q => a7 (q ▸ hg)) (.inl (by rw [h.trt g hg]; nofun)), fun g hg => (if_pos (h.tr.lt g hg).2).trans (h.trt g hg), him, fun b => ?_, h.kn.frame (hkp bk h.kn.lt (fun e => h.ne e.symm) (.inr (.inr fun cur hc => ?_)))⟩, ?_⟩
  · rw [h.blk] at hc; simp at hc
  · obtain ⟨g, o, cap, cur, e1, e2, e3, e4, e5⟩ := h.cls t c hc
    have hl := (Array.getElem?_eq_some_iff.1 e4).1
    exact ⟨g, o, cap, cur, e1, (if_pos hl).trans e2, e3, (hkp g hl (h.intb e4).2.1 (.inl (by rw [e2]; nofun))).trans e4, e5⟩
  · by_cases q : b = z
    · subst q
      rw [aget_aput_same (h.wi.nodup), if_pos rfl]
      obtain ⟨a', c', rfl⟩ := own_lenV' h8
      have ho3 : w3.ownsRow B 3 1 (.slice a' ((Wt b).length + 1) c') ((Wt b).length + 1) (nnts (Wt b ++ [i])) := own_frame0 h8 fun g hg => ht3.block g (h8.lt g hg).2 (fun e => by
        obtain ⟨cur, hc⟩ := own_cells h8 hg
        obtain ⟨arrw, cw, hwm, -⟩ := h.wi
        have := (happ.block bw (Array.getElem?_eq_some_iff.1 hwm).1 (fun ⟨_, _, cur, hc⟩ => by rw [hwm] at hc; cases hc)).trans hwm
        rw [e, this] at hc; cases hc)
      refine ⟨a', c', by simp, fun e => ((own_cap h8).2.2 e).1, .inr ⟨by rw [List.length_append]; exact ho3, fun g hg => ?_⟩⟩
      · show (if g < w.heap.size then tag g else RT.wth b) = RT.wth b
        by_cases hl : g < w.heap.size
        · rw [if_pos hl]; exact ho g hg hl
        · rw [if_neg hl]
    · rw [aget_aput_other q, if_neg q]
      exact (h.wr b).frame fun g cur hg hw => ⟨hkp g (Array.getElem?_eq_some_iff.1 hg).1 (h.intb hg).2.1 (.inl (by rw [hw]; simpa using q)), if_pos (Array.getElem?_eq_some_iff.1 hg).1⟩
  · obtain ⟨arrk, ck, hkm, -⟩ := h.kn
    rw [hkm] at hc; cases hc
  · exact hT.mono fun k _ hk => by
      rcases hk with e | e
      · exact .inr (.inl e)
      · exact .inr (.inr (.inr (by rw [e.1]; exact ⟨nofun, nofun⟩)))

end

/-- What look leaves: the clause i in the order d; what it answers; what is known. o is the clause's other watched literal. -/
inductive LookO (K : List Int) (i : Nat) (c d : List Int) (a o : Int) (Wt Wt' : Int → List Nat) (K' : List Int) : Ending → Prop
  | known (h : o ∈ K) (hd : d[0]? = some o ∧ d[1]? = some a) (hw : Wt' = Wt) (hK : K' = K) : LookO K i c d a o Wt Wt' K' (.returned (.bool false))
  | moved (z : Int) (h : o ∉ K) (hd : d[0]? = some o ∧ d[1]? = some z) (hz : z ∈ c ∧ z ≠ a ∧ z ≠ o ∧ -z ∉ K) (hw : Wt' z = Wt z ++ [i] ∧ ∀ b, b ≠ z → Wt' b = Wt b) (hK : K' = K) : LookO K i c d a o Wt Wt' K' (.returned (.bool true))
  | set (h : o ∉ K ∧ -o ∉ K) (hf : ∀ x ∈ c, x ≠ o → -x ∈ K) (hd : d[0]? = some o ∧ d[1]? = some a) (hw : Wt' = Wt) (hK : K' = K ++ [o]) : LookO K i c d a o Wt Wt' K' (.returned (.bool false))
  | fail (h : -o ∈ K) (hf : ∀ x ∈ c, x ≠ o → -x ∈ K) (hd : d[0]? = some o ∧ d[1]? = some a) (hw : Wt' = Wt) (hK : K' = K) : LookO K i c d a o Wt Wt' K' (.panicked [{ v := failV, recovered := false }])

def lookR (tag : Nat → RT) (B : Nat) (w0 w : World) (bx bw bk : Nat) (vc : Value) (dn : Nat) (C : List (List Int)) (us : List Value) (es : List (Int × Value)) (Wt : Int → List Nat) (K : List Int) (i : Nat) (c : List Int) (a o : Int) (e : Ending) (w' : World) : Prop :=
  ∃ (tag' : Nat → RT) (vt' : Value) (d : List Int) (es' : List (Int × Value)) (Wt' : Int → List Nat) (K' : List Int), RM tag' B w0 w' bx bw bk vc vt' dn (C.set i d) us es' Wt' K' ∧ (∀ g, g < w.heap.size → tag' g = tag g) ∧ Touch (RS tag bx bw bk) w w' ∧ Same c d ∧ (∀ b, Wt' b = Wt b → (aget es' b).getD nilS = (aget es b).getD nilS) ∧ LookO K i c d a o Wt Wt' K' e

end Go.Proofs.Ytfofabbnbmieoaa.Ord

/- solve's state: a clause's cells, a watch list written in place. -/
namespace Go.Proofs.Ytfofabbnbmieoaa.Ord
open Go.RowKit Go.Conc

section
variable {tag : Nat → KT} {B : Nat} {w0 w w1 w6 : World} {a : SA} {v : SV} {d : SD} {t : KT}

/-- A clause's part. -/
theorem SM.clsAt (h : SM tag B w0 w a v d) {i : Nat} {c : List Int} (hc : d.C[i]? = some c) : ∃ g o cap cur, v.us[i]? = some (.slice (some ⟨g, o, none⟩) c.length cap) ∧ tag g = .cls i ∧ w.heap[g]? = some (.cells cur 3 (0, 0)) ∧ ∀ (j : Nat) (x : Int), c[j]? = some x → cur[o + j]? = some (.int .i64 x) := by
  obtain ⟨u, hu, g, o, cap, cur, e, -, h2, h3, h4⟩ := h.co (.cls i) c hc
  subst e
  exact ⟨g, o, cap, cur, hu, h2, h3, h4⟩

/-- A cell of a clause is set. -/
theorem SM.setCl (h : SM tag B w0 w a v d) {i : Nat} {c : List Int} (hc : d.C[i]? = some c) {g o n cap : Nat} (hu : v.us[i]? = some (.slice (some ⟨g, o, none⟩) n cap)) {j : Nat} (hj : j < c.length) (x : Int) :
    SM tag B w0 (w.setCell ⟨g, o + j, none⟩ (.int .i64 x)) a v { d with C := d.C.set i (c.set j x) } ∧ tag g = .cls i := by
  obtain ⟨u, hu', g', o', cap', cur, e, hcap, htg, hb, hcur⟩ := h.co (.cls i) c hc
  rw [hu] at hu'
  injection hu' with hu'
  subst hu'
  injection e with e1 e2 e3
  injection e1 with e1
  injection e1 with e1 e4
  subst e1 e2 e3 e4
  refine ⟨h.upd (fun s => s = .cls i) nofun (Touch.setCell (p := ⟨g, o + j, none⟩) (Touch.refl _ w) htg _) (fun _ _ => rfl) (fun k _ hk => h.tB k hk) (fun s hs hco => ?_) ?_, htg⟩
  · cases s with
    | cls m =>
      intro c' hc'
      have hc' : (d.C.set i (c.set j x))[m]? = some c' := hc'
      rw [List.getElem?_set_ne (fun e => hs (by rw [e]))] at hc'
      exact hco c' hc'
    | clr => exact ⟨hco.1, by rw [List.length_set]; exact hco.2⟩
    | _ => exact hco
  · rintro s rfl
    intro c' hc'
    have hc' : (d.C.set i (c.set j x))[i]? = some c' := hc'
    rw [List.getElem?_set_self (List.getElem?_eq_some_iff.1 hc).1] at hc'
    injection hc' with hc'
    subst hc'
    have hcj := (Array.getElem?_eq_some_iff.1 (hcur j c[j] (List.getElem?_eq_getElem hj))).1
    refine ⟨_, hu, g, o, cap, _, by rw [List.length_set], by rw [List.length_set]; exact hcap, htg, heap_setCell_same w g (o + j) cur 3 (.int .i64 x) hb, fun t y ht => ?_⟩
    rw [Array.getElem?_setIfInBounds]
    by_cases q : t = j
    · subst q
      rw [List.getElem?_set_self hj] at ht
      injection ht with ht
      subst ht
      rw [if_pos rfl, if_pos hcj]
    · rw [List.getElem?_set_ne (fun e => q e.symm)] at ht
      rw [if_neg (by omega)]
      exact hcur t y ht

/-- Two literals of a clause change their places. -/
theorem SM.swap (h : SM tag B w0 w a v d) {i : Nat} {c : List Int} (hc : d.C[i]? = some c) {g o n cap : Nat} (hu : v.us[i]? = some (.slice (some ⟨g, o, none⟩) n cap)) {j k : Nat} {x y : Int} (hj : c[j]? = some x) (hk : c[k]? = some y) :
    SM tag B w0 ((w.setCell ⟨g, o + j, none⟩ (.int .i64 y)).setCell ⟨g, o + k, none⟩ (.int .i64 x)) a v { d with C := d.C.set i (swapL c j k) } ∧ Touch (fun q => tag q = .cls i) w ((w.setCell ⟨g, o + j, none⟩ (.int .i64 y)).setCell ⟨g, o + k, none⟩ (.int .i64 x)) := by
  have hjl := (List.getElem?_eq_some_iff.1 hj).1
  have hkl := (List.getElem?_eq_some_iff.1 hk).1
  have hil := (List.getElem?_eq_some_iff.1 hc).1
  obtain ⟨h1, ht⟩ := h.setCl hc hu hjl y
  obtain ⟨h2, -⟩ := h1.setCl (i := i) (c := c.set j y) (by show (d.C.set i (c.set j y))[i]? = _; rw [List.getElem?_set_self hil]) hu (j := k) (by simpa using hkl) x
  refine ⟨?_, ((Touch.refl (fun q => tag q = .cls i) w).setCell (p := ⟨g, o + j, none⟩) ht _).setCell (p := ⟨g, o + k, none⟩) ht _⟩
  have e : swapL c j k = (c.set j y).set k x := by
    unfold swapL
    rw [List.getD_eq_getElem?_getD, List.getD_eq_getElem?_getD, hj, hk]
    rfl
  have e2 : (d.C.set i (c.set j y)).set i ((c.set j y).set k x) = d.C.set i (swapL c j k) := by rw [List.set_set, e]
  rw [← e2]
  exact h2

/-- A clause's cells may be written. -/
theorem SM.clsFree (h : SM tag B w0 w a v d) {i : Nat} {c : List Int} (hc : d.C[i]? = some c) {g o n cap : Nat} (hu : v.us[i]? = some (.slice (some ⟨g, o, none⟩) n cap)) (j : Nat) : w.frozen? ⟨g, j, none⟩ = false := by
  obtain ⟨g', o', cap', cur, hu', -, hb, -⟩ := h.clsAt hc
  rw [hu] at hu'
  injection hu' with hu'
  injection hu' with e1 e2 e3
  injection e1 with e1
  injection e1 with e1 e4
  subst e1
  exact frozen_of_row _ _ _ _ _ hb

/-- A literal of a clause. -/
theorem SM.clsLit (h : SM tag B w0 w a v d) {i : Nat} {c : List Int} (hc : d.C[i]? = some c) {g o n cap : Nat} (hu : v.us[i]? = some (.slice (some ⟨g, o, none⟩) n cap)) {j : Nat} {x : Int} (hx : c[j]? = some x) : w.cell? ⟨g, o + j, none⟩ = some (.int .i64 x) := by
  obtain ⟨g', o', cap', cur, hu', -, hb, hcur⟩ := h.clsAt hc
  rw [hu] at hu'
  injection hu' with hu'
  injection hu' with e1 e2 e3
  injection e1 with e1
  injection e1 with e1 e4
  subst e1 e4
  have := hcur j x hx
  simp [World.cell?, hb, this]

/-- The number in a watch list. -/
theorem SM.wthLit (h : SM tag B w0 w a v d) {q : Nat} {ns : List Nat} (hns : d.Wt[q]? = some ns) {g n cap : Nat} (hu : v.ws[q]? = some (.slice (some ⟨g, 0, none⟩) n cap)) {j i : Nat} (hx : ns[j]? = some i) : w.cell? ⟨g, j, none⟩ = some (.int .i64 (i : Int)) := by
  obtain ⟨u, hu', ho, ht⟩ := h.co (.wth q) ns hns
  rw [hu] at hu'
  injection hu' with hu'
  subst hu'
  have := ho.cells (g := g) rfl j (.int .i64 (i : Int)) (by unfold nnts; rw [List.getElem?_map, hx]; rfl)
  rw [Addr.add_lit, Nat.zero_add] at this
  exact this

/-- Numbers are written in place behind a part of a watch list. -/
theorem SM.keepW (h : SM tag B w0 w a v d) {q : Nat} {kept nw tl tl' : List Nat} (hns : d.Wt[q]? = some (kept ++ tl)) {g cap : Nat} (hu : v.ws[q]? = some (.slice (some ⟨g, 0, none⟩) (kept ++ tl).length cap)) (htl : tl.length = (nw ++ tl').length) (htl2 : tl' = tl.drop nw.length) (h1 : Below w.heap.size w w1) {A : Addr} {m cc : Nat} (hm : m = nw.length) (hnw : ∀ (j : Nat) (i : Nat), nw[j]? = some i → w1.cell? (A.add j) = some (.int .i64 (i : Int))) (ty : TypeId) :
    ∃ w6, (appM #[22, 22] ty #[.slice (some ⟨g, 0, none⟩) kept.length cap, .slice (some A) m cc]).run Try.prog w1 = .ok (.slice (some ⟨g, 0, none⟩) (kept.length + m) cap) w6 ∧ SM tag B w0 w6 a v { d with Wt := d.Wt.set q (kept ++ (nw ++ tl')) } ∧ Touch (fun k => tag k = .wth q) w w6 := by
  subst hm
  obtain ⟨i0, hi0, hz0, hz1, hz2⟩ := info_parts info_int
  obtain ⟨u, hu', ho, ht⟩ := h.co (.wth q) _ hns
  rw [hu] at hu'
  injection hu' with hu'
  subst hu'
  have htg : tag g = .wth q := ht g rfl
  have ho0 := ho
  rcases ho.2 with ⟨e, -⟩ | ⟨g', cap', cur, e, hBg, hb, hnc, hcm, hsz, htk⟩
  · cases e
  · injection e with e1 e2 e3
    injection e1 with e1
    injection e1 with e1
    subst e1 e3
    have hnl := nnts_length (kept ++ tl)
    rw [hnl] at htk hnc e2
    rw [Nat.mul_one] at htk hsz
    have hgl := (Array.getElem?_eq_some_iff.1 hb).1
    have hb1 : w1.heap[g]? = some (.cells cur 3 (0, 0)) := (h1.block g hgl).trans hb
    simp only [List.length_append] at htl hnc htk
    have hlen : kept.length + nw.length ≤ kept.length + tl.length := by omega
    have hnl2 : (nnts nw).length = nw.length := nnts_length nw
    have hr := run_append_room (P := Try.prog) (w := w1) 22 ty 3 i0 Try.underlying22 hi0 g kept.length cap cur hb1 A nw.length cc (nnts nw) (by rw [hz1, hnl2, Nat.mul_one]) (fun j y hj => by
      unfold nnts at hj
      rw [List.getElem?_map] at hj
      cases hq : nw[j]? with
      | none => rw [hq] at hj; cases hj
      | some i =>
        rw [hq] at hj
        have hj : Value.int .i64 (i : Int) = y := by simpa using hj
        rw [← hj]
        exact hnw j i hq) (fun y hy => by
        unfold nnts at hy
        obtain ⟨i, -, rfl⟩ := List.mem_map.1 hy
        rfl) (by omega) (by rw [hz1, hnl2, Nat.mul_one, hsz]; omega)
    rw [hz1, Nat.mul_one, hnl2] at hr
    refine ⟨_, hr, ?_, ?_⟩
    · have hb6 := setRow_heap w1 g cur (cur.toList.take kept.length ++ nnts nw ++ cur.toList.drop (kept.length + nw.length)).toArray _ _ hb1
      have hT : Touch (fun k => tag k = .wth q) w (w1.setRow g (cur.toList.take kept.length ++ nnts nw ++ cur.toList.drop (kept.length + nw.length)).toArray) := by
        refine ⟨h1.os, h1.tape, h1.output, by simpa [World.setRow] using h1.size, fun k hk hn => ?_⟩
        rw [setRow_other w1 g k _ (fun e => hn (by rw [e]; exact htg))]
        exact h1.block k hk
      refine h.upd (fun s => s = .wth q) nofun hT (fun _ _ => rfl) (fun k _ hk => h.tB k hk) (fun s hs hco => ?_) ?_
      · cases s with
        | wth m =>
          intro c' hc'
          have hc' : (d.Wt.set q (kept ++ (nw ++ tl')))[m]? = some c' := hc'
          rw [List.getElem?_set_ne (fun e => hs (by rw [e]))] at hc'
          exact hco c' hc'
        | wtb => exact ⟨hco.1, hco.2.1, by rw [List.length_set]; exact hco.2.2⟩
        | _ => exact hco
      · rintro s rfl
        intro c' hc'
        have hc' : (d.Wt.set q (kept ++ (nw ++ tl')))[q]? = some c' := hc'
        rw [List.getElem?_set_self (List.getElem?_eq_some_iff.1 hns).1] at hc'
        injection hc' with hc'
        subst hc'
        refine ⟨_, hu, ⟨?_, .inr ⟨g, cap, _, ?_, hBg, hb6, ?_, hcm, ?_, ?_⟩⟩, fun g' hg' => ?_⟩
        · exact (Nat.mul_one _).symm
        · rw [nnts_length]; simp only [List.length_append] at htl ⊢; rw [htl]
        · rw [nnts_length, List.length_append, List.length_append]
          omega
        · have hcl : cur.toList.length = cur.size := Array.length_toList
          simp only [List.size_toArray, List.length_append, List.length_take, List.length_drop, hnl2, Nat.mul_one, hcl]
          omega
        · have hk1 : cur.toList.take kept.length = nnts kept := by
            have := congrArg (List.take kept.length) htk
            rw [List.take_take, Nat.min_eq_left (by omega)] at this
            rw [this]
            unfold nnts
            rw [List.map_append, List.take_left' (by simp)]
          have hk2 : (cur.toList.drop (kept.length + nw.length)).take tl'.length = nnts tl' := by
            have := congrArg (List.drop (kept.length + nw.length)) htk
            rw [List.drop_take] at this
            rw [htl2]
            have e3 : kept.length + tl.length - (kept.length + nw.length) = (tl.drop nw.length).length := by simp; omega
            rw [e3] at this
            rw [this]
            unfold nnts
            rw [← List.map_drop, List.drop_append]
            simp
          simp only [nnts_length, Nat.mul_one, List.length_append]
          rw [hk1]
          have e4 : kept.length + (nw.length + tl'.length) = (nnts kept ++ nnts nw).length + tl'.length := by simp [nnts_length]; omega
          rw [e4, List.take_length_add_append, hk2]
          simp [nnts]
        · exact ht g' (by simpa [Value.ownBlock] using hg')
    · refine ⟨h1.os, h1.tape, h1.output, by simpa [World.setRow] using h1.size, fun k hk hn => ?_⟩
      rw [setRow_other w1 g k _ (fun e => hn (by rw [e]; exact htg))]
      exact h1.block k hk

theorem own_cut {w : World} {B e n : Nat} {ao : Option Addr} {cap m : Nat} {xs : List Value} (h : w.ownsRow B e 1 (.slice ao n cap) n xs) (hm : m ≤ n) : w.ownsRow B e 1 (.slice ao m cap) m (xs.take m) := by
  have hl := h.1
  refine ⟨by rw [List.length_take]; omega, ?_⟩
  rcases h.2 with ⟨e, hn⟩ | ⟨g, cap', cur, e, h2, h3, h4, h5, h6, h7⟩
  · left
    injection e with e1 e2 e3
    exact ⟨by rw [e1, e3, show m = 0 by omega], by omega⟩
  · right
    injection e with e1 e2 e3
    subst e1 e3
    exact ⟨g, cap, cur, rfl, h2, h3, by omega, h5, h6, by rw [← h7, List.take_take]; congr 1; omega⟩

/-- A watch list is cut. -/
theorem SM.cutW (h : SM tag B w0 w a v d) {q : Nat} {ns : List Nat} (hns : d.Wt[q]? = some ns) {ao : Option Addr} {n m cap : Nat} (hu : v.ws[q]? = some (.slice ao n cap)) (hm : m ≤ ns.length) :
    SM tag B w0 (w.setCell ⟨a.bw, q, none⟩ (.slice ao m cap)) a { v with ws := v.ws.set q (.slice ao m cap) } { d with Wt := d.Wt.set q (ns.take m) } := by
  have hsb : tag a.bw = .wtb := (h.co .wtb).1.2
  obtain ⟨u', e1, hG⟩ := h.co (.wth q) ns hns
  rw [hu] at e1
  injection e1 with e1
  subst e1
  have hnl : (nnts ns).length = ns.length := nnts_length ns
  have hn : n = ns.length := by
    have := hG.1
    rw [hnl] at this
    obtain ⟨_, _, e⟩ := own_lenV' this
    injection e
  subst hn
  have hql := (List.getElem?_eq_some_iff.1 hns).1
  have hql2 := (List.getElem?_eq_some_iff.1 hu).1
  refine h.upd (fun s => s = .wth q ∨ s = .wtb) (by rintro (e | e) <;> cases e) (Touch.setCell (p := ⟨a.bw, q, none⟩) (Touch.refl _ w) (.inr hsb) _) (fun _ _ => rfl) (fun k _ hk => h.tB k hk) (fun s hs hco => ?_) ?_
  · cases s with
    | wth m' =>
      have hmq : m' ≠ q := fun e => hs (.inl (by rw [e]))
      intro c' hc'
      have hc' : (d.Wt.set q (ns.take m))[m']? = some c' := hc'
      rw [List.getElem?_set_ne (fun e => hmq e.symm)] at hc'
      obtain ⟨u', q1, q2⟩ := hco c' hc'
      exact ⟨u', by show (v.ws.set q _)[m']? = some u'; rw [List.getElem?_set_ne (fun e => hmq e.symm)]; exact q1, q2⟩
    | wtb => exact absurd (.inr rfl) hs
    | _ => exact hco
  · rintro s (rfl | rfl)
    · intro c' hc'
      have hc' : (d.Wt.set q (ns.take m))[q]? = some c' := hc'
      rw [List.getElem?_set_self hql] at hc'
      injection hc' with hc'
      subst hc'
      refine ⟨_, by show (v.ws.set q _)[q]? = _; rw [List.getElem?_set_self hql2], ?_, fun g hg => hG.2 g (by cases ao <;> exact hg)⟩
      have hG1 := hG.1
      rw [hnl] at hG1
      have h2 := own_cut hG1 hm
      have e : (nnts ns).take m = nnts (ns.take m) := by unfold nnts; rw [List.map_take]
      rw [e] at h2
      have e2 : (nnts (ns.take m)).length = m := by rw [nnts_length, List.length_take]; omega
      rw [e2]
      exact own_setO h2 (h.co .wtb).1.1 (by decide) _ _
    · exact ⟨(h.co .wtb).1.set (o := q) _, by simpa using (h.co .wtb).2.1, by simpa using (h.co .wtb).2.2⟩

end

end Go.Proofs.Ytfofabbnbmieoaa.Ord

/- solve's propagate: what holds between its steps, and what each step makes of it. -/
namespace Go.Proofs.Ytfofabbnbmieoaa.Ord
open Go.RowKit Go.Conc

/-- What propagate leaves as it was. -/
structure PGs (d0 d : SD) : Prop where
  cl : d.C.length = d0.C.length
  ph : d.ph = d0.ph
  ls : d.ls = d0.ls
  P : d.P = d0.P
  bp : d.bp = d0.bp
  A : d.A = d0.A
  In : d.In = d0.In
  K : ∃ R, d.K = d0.K ++ R

theorem PGs.refl (d : SD) : PGs d d := ⟨rfl, rfl, rfl, rfl, rfl, rfl, rfl, [], by simp⟩

theorem PGs.cw {d0 d : SD} (h : PGs d0 d) {C : List (List Int)} (hC : C.length = d.C.length) (Wt : List (List Nat)) (dn : Nat) : PGs d0 { d with C := C, Wt := Wt, dn := dn } :=
  ⟨hC.trans h.cl, h.ph, h.ls, h.P, h.bp, h.A, h.In, h.K⟩

theorem PGs.set {d0 d : SD} (h : PGs d0 d) (x rs : Int) : PGs d0 (setD d x rs) :=
  ⟨h.cl, h.ph, h.ls, h.P, h.bp, h.A, h.In, by obtain ⟨R, hR⟩ := h.K; exact ⟨R ++ [x], by show d.K ++ [x] = _; rw [hR, List.append_assoc]⟩⟩

/-- What the state and the memory say throughout. -/
structure PWs (n : Nat) (bs : List Nat) (tag0 : Nat → KT) (B : Nat) (w0 w : World) (a : SA) (d0 : SD) (wr : World) (tag : Nat → KT) (v : SV) (d : SD) (Rz : List Int) : Prop where
  sm : SM tag B w0 wr a v d
  sr : SR tag0 tag w wr
  lk : LK n d Rz bs
  pg : PGs d0 d

/-- Between two literals of the trail. -/
structure POs (n : Nat) (G : List (List Int)) (bs : List Nat) (tag0 : Nat → KT) (B : Nat) (w0 w : World) (a : SA) (d0 : SD) (wr : World) (tag : Nat → KT) (v : SV) (d : SD) (Rz : List Int) : Prop extends PWs n bs tag0 B w0 w a d0 wr tag v d Rz where
  cd : CD n G d.C (WtF d.Wt) d.K Rz bs d.dn

/-- What stands fixed while the clauses of a literal are gone through. -/
structure PLs where
  L : List Nat
  au : Option Addr
  cu : Nat
  q : Nat
  x : Int
  K1 : List Int
  dn1 : Nat

/-- Between two clauses. -/
structure PIs (n : Nat) (G : List (List Int)) (bs : List Nat) (tag0 : Nat → KT) (B : Nat) (w0 w : World) (a : SA) (d0 : SD) (p : PLs) (wr : World) (tag : Nat → KT) (v : SV) (d : SD) (Rz : List Int) (kept : List Nat) (m : Nat) : Prop extends PWs n bs tag0 B w0 w a d0 wr tag v d Rz where
  cj : CJ n G d.C (WtF d.Wt) d.K Rz bs p.K1 p.dn1 p.x kept (p.L.drop m)
  ct : d.Wt[p.q]? = some (kept ++ p.L.drop kept.length)
  km : kept.length ≤ m
  ml : m ≤ p.L.length
  ws : v.ws[p.q]? = some (.slice p.au p.L.length p.cu)
  dn : d.dn = p.dn1 + 1
  qx : (ixL p.x).toNat = p.q
  xo : LitOk n p.x
  zn : a.n1 = n + 1

/-- A clause whose second literal is the false one. -/
structure FL (n : Nat) (c e : List Int) (x o : Int) : Prop where
  same : Same c e
  e0 : e[0]? = some o
  e1 : e[1]? = some x
  cw : ∀ b, (c[0]? = some b ∨ c[1]? = some b) ↔ (b = x ∨ b = o)
  ne : x ≠ o
  ok : ∀ y ∈ e, LitOk n y
  len : 2 ≤ e.length

section
variable {n : Nat} {G : List (List Int)} {C : List (List Int)} {Wt Wt' : Int → List Nat} {K Kd Rz : List Int} {bs : List Nat} {x o : Int} {dd : Nat} {kept rest : List Nat} {i : Nat} {c e : List Int}

theorem CJ.wt (h : CJ n G C Wt K Rz bs Kd dd x kept rest) (hw : ∀ b, b ≠ x → Wt' b = Wt b) : CJ n G C Wt' K Rz bs Kd dd x kept rest := by
  have e : ∀ l, effW Wt' x l = effW Wt x l := fun l => funext fun b => by
    unfold effW
    split
    · rfl
    · exact hw b ‹_›
  exact ⟨by rw [e]; exact h.toCB, h.pr, h.hk, h.pre, h.bd⟩

/-- The clause at hand. -/
theorem CJ.flip (h : CJ n G C Wt K Rz bs Kd dd x kept (i :: rest)) : ∃ c, C[i]? = some c ∧ c.length ≤ n ∧ ((∃ o, c[0]? = some x ∧ c[1]? = some o ∧ FL n c (swapL c 0 1) x o) ∨ (∃ o, o ≠ x ∧ c[0]? = some o ∧ c[1]? = some x ∧ FL n c c x o)) := by
  obtain ⟨c, hc, hw, -, -⟩ := h.il0.here
  have hcm := h.wi.cls c (List.mem_of_getElem? hc)
  obtain ⟨p, q, hp, hq⟩ := two_get hcm.1
  refine ⟨c, hc, lits_le hcm.2.1 hcm.2.2.2 hcm.2.2.1, ?_⟩
  have hne : p ≠ q := fun e => by
    have := nodup_get hcm.2.1 hp (by rw [e]; exact hq)
    omega
  by_cases hx : p = x
  · subst hx
    refine .inl ⟨q, hp, hq, same_swap (by omega) (by omega) hcm.2.1, ?_, ?_, fun b => ?_, hne, fun y hy => hcm.2.2.1 y ((swapL_mem (by omega) (by omega)).1 hy), by rw [swapL_length]; exact hcm.1⟩
    · rw [swapL_get (by omega) (by omega)]; simpa using hq
    · rw [swapL_get (by omega) (by omega)]; simpa using hp
    · rw [hp, hq]
      constructor
      · rintro (e | e) <;> injection e with e
        · exact .inl e.symm
        · exact .inr e.symm
      · rintro (e | e) <;> rw [e]
        · exact .inl rfl
        · exact .inr rfl
  · have hqx : q = x := by
      rcases hw with e | e
      · rw [hp] at e; injection e with e; exact absurd e hx
      · rw [hq] at e; injection e
    subst hqx
    refine .inr ⟨p, hx, hp, hq, ⟨rfl, hcm.2.1, fun _ => Iff.rfl⟩, hp, hq, fun b => ?_, fun e => hx e.symm, hcm.2.2.1, hcm.1⟩
    rw [hp, hq]
    constructor
    · rintro (e | e) <;> injection e with e
      · exact .inr e.symm
      · exact .inl e.symm
    · rintro (e | e) <;> rw [e]
      · exact .inr rfl
      · exact .inl rfl

/-- The second literal changes its place with another one. -/
theorem FL.swap (h : FL n c e x o) {j : Nat} (hj : 2 ≤ j) {z : Int} (hz : e[j]? = some z) : Same c (swapL e 1 j) ∧ (swapL e 1 j)[0]? = some o ∧ (swapL e 1 j)[1]? = some z ∧ x ≠ z ∧ z ≠ o ∧ LitOk n z := by
  have hjl := (List.getElem?_eq_some_iff.1 hz).1
  have hs := h.same
  have h2 := same_swap (c := e) (j := 1) (k := j) (by omega) hjl hs.2.1
  refine ⟨⟨h2.1.trans hs.1, h2.2.1, fun y => (h2.2.2 y).trans (hs.2.2 y)⟩, ?_, ?_, fun e' => ?_, fun e' => ?_, h.ok z (List.mem_of_getElem? hz)⟩
  · rw [swapL_get (by omega) hjl, if_neg (by omega), if_neg (by omega)]; exact h.e0
  · rw [swapL_get (by omega) hjl, if_neg (by omega), if_pos rfl]; exact hz
  · have := nodup_get hs.2.1 hz (by rw [← e']; exact h.e1)
    omega
  · have := nodup_get hs.2.1 hz (by rw [e']; exact h.e0)
    omega

theorem FL.all (h : FL n c e x o) {K : List Int} (hx : -x ∈ K) (hj : ∀ (t : Nat) (y : Int), 2 ≤ t → e[t]? = some y → -y ∈ K) : ∀ y ∈ c, y ≠ o → -y ∈ K := fun y hy hyo => by
  obtain ⟨t, ht⟩ := List.mem_iff_getElem?.1 ((h.same.2.2 y).2 hy)
  match t, ht with
  | 0, ht => rw [h.e0] at ht; injection ht with ht; exact absurd ht.symm hyo
  | 1, ht => rw [h.e1] at ht; injection ht with ht; rw [← ht]; exact hx
  | t + 2, ht => exact hj (t + 2) y (by omega) ht

end

section
variable {n : Nat} {G : List (List Int)} {bs : List Nat} {tag0 tag tag' : Nat → KT} {B : Nat} {w0 w wr w6 : World} {a : SA} {d0 d : SD} {p : PLs} {v v' : SV} {Rz : List Int} {kept : List Nat} {m i : Nat} {c e : List Int} {o : Int}

theorem PIs.drop (_h : PIs n G bs tag0 B w0 w a d0 p wr tag v d Rz kept m) (hi : p.L[m]? = some i) : p.L.drop m = i :: p.L.drop (m + 1) := by
  obtain ⟨hl, e⟩ := List.getElem?_eq_some_iff.1 hi
  rw [List.drop_eq_getElem_cons hl, e]

theorem PIs.cj' (h : PIs n G bs tag0 B w0 w a d0 p wr tag v d Rz kept m) (hi : p.L[m]? = some i) : CJ n G d.C (WtF d.Wt) d.K Rz bs p.K1 p.dn1 p.x kept (i :: p.L.drop (m + 1)) := by
  rw [← h.drop hi]
  exact h.cj

/-- The list's cell at the place m. -/
theorem PIs.at (h : PIs n G bs tag0 B w0 w a d0 p wr tag v d Rz kept m) (hi : p.L[m]? = some i) : (kept ++ p.L.drop kept.length)[m]? = some i := by
  have := h.km
  rw [List.getElem?_append_right this, List.getElem?_drop]
  rw [show kept.length + (m - kept.length) = m by omega]
  exact hi

theorem PIs.len (h : PIs n G bs tag0 B w0 w a d0 p wr tag v d Rz kept m) : (kept ++ p.L.drop kept.length).length = p.L.length := by
  have := h.km
  have := h.ml
  simp
  omega

theorem PIs.wtf (h : PIs n G bs tag0 B w0 w a d0 p wr tag v d Rz kept m) (l : List Nat) : WtF (d.Wt.set p.q l) = effW (WtF d.Wt) p.x l := by
  have := (List.getElem?_eq_some_iff.1 h.ct).1
  rw [← h.qx] at this ⊢
  exact WtF_set this l

theorem PIs.wtne (h : PIs n G bs tag0 B w0 w a d0 p wr tag v d Rz kept m) (l : List Nat) : ∀ b, b ≠ p.x → WtF (d.Wt.set p.q l) b = WtF d.Wt b := fun b hb => by
  rw [h.wtf]
  exact effW_ne _ _ hb

theorem PIs.drop1 (h : PIs n G bs tag0 B w0 w a d0 p wr tag v d Rz kept m) (hi : p.L[m]? = some i) : (p.L.drop kept.length).length = ([i] ++ p.L.drop (kept.length + 1)).length ∧ p.L.drop (kept.length + 1) = (p.L.drop kept.length).drop [i].length := by
  have := h.km
  have := (List.getElem?_eq_some_iff.1 hi).1
  refine ⟨by simp; omega, by rw [List.drop_drop]; rfl⟩

/-- The clause stays with the literal. -/
theorem PIs.keep (h : PIs n G bs tag0 B w0 w a d0 p wr tag v d Rz kept m) (hi : p.L[m]? = some i) (hc : d.C[i]? = some c) (hf : FL n c e p.x o) (ho : o ∈ d.K)
    (hM : SM tag B w0 w6 a v { d with C := d.C.set i e, Wt := d.Wt.set p.q (kept ++ ([i] ++ p.L.drop (kept.length + 1))) }) (hS : SR tag0 tag w w6) :
    PIs n G bs tag0 B w0 w a d0 p w6 tag v { d with C := d.C.set i e, Wt := d.Wt.set p.q (kept ++ ([i] ++ p.L.drop (kept.length + 1))) } Rz (kept ++ [i]) (m + 1) := by
  have hl := (List.getElem?_eq_some_iff.1 hi).1
  have hq := (List.getElem?_eq_some_iff.1 h.ct).1
  have hkm := h.km
  refine ⟨⟨hM, hS, h.lk.cw _ _ d.dn, h.pg.cw (by simp) _ d.dn⟩, ((h.cj' hi).keep hc hf.same hf.e0 hf.e1 hf.cw hf.ne ho).wt (h.wtne _), ?_, by simp; omega, hl, h.ws, h.dn, h.qx, h.xo, h.zn⟩
  show (d.Wt.set p.q _)[p.q]? = _
  rw [List.getElem?_set_self hq]
  simp

/-- The clause goes over to another literal. -/
theorem PIs.move (h : PIs n G bs tag0 B w0 w a d0 p wr tag v d Rz kept m) (hi : p.L[m]? = some i) (hc : d.C[i]? = some c) (hf : FL n c e p.x o) {j : Nat} (hj : 2 ≤ j) {z : Int} (hz : e[j]? = some z) (hzK : -z ∉ d.K) {u6 : Value}
    (hM : SM tag' B w0 w6 a { v with ws := v.ws.set (ixL z).toNat u6 } { d with C := d.C.set i (swapL e 1 j), Wt := addW (ixL z).toNat i d.Wt }) (hS : SR tag0 tag' w w6) :
    PIs n G bs tag0 B w0 w a d0 p w6 tag' { v with ws := v.ws.set (ixL z).toNat u6 } { d with C := d.C.set i (swapL e 1 j), Wt := addW (ixL z).toNat i d.Wt } Rz kept (m + 1) := by
  have hl := (List.getElem?_eq_some_iff.1 hi).1
  have hkm := h.km
  obtain ⟨h1, h2, h3, h4, h5, h6⟩ := hf.swap hj hz
  have hzl : (ixL z).toNat < d.Wt.length := by
    rw [(h.sm.co .wtb).2.2]
    exact ixL_lt h.zn h6
  have hne : (ixL z).toNat ≠ p.q := fun e => h4 (ixL_inj (by rw [h.qx, e]))
  refine ⟨⟨hM, hS, h.lk.cw _ _ d.dn, h.pg.cw (by simp) _ d.dn⟩, (h.cj' hi).move (Wt' := WtF (addW (ixL z).toNat i d.Wt)) hc h1 h2 h3 hf.cw hf.ne h4 h5 hzK ?_ fun b hb => ?_, ?_, by omega, hl, ?_, h.dn, h.qx, h.xo, h.zn⟩
  · rw [WtF_add hzl, effW_self]
  · rw [WtF_add hzl, effW_ne _ _ hb]
  · show (addW (ixL z).toNat i d.Wt)[p.q]? = _
    unfold addW
    rw [List.getElem?_set_ne hne]
    exact h.ct
  · show (v.ws.set (ixL z).toNat u6)[p.q]? = _
    rw [List.getElem?_set_ne hne]
    exact h.ws

/-- The clause makes its other literal hold. -/
theorem PIs.set (h : PIs n G bs tag0 B w0 w a d0 p wr tag v d Rz kept m) (hi : p.L[m]? = some i) (hc : d.C[i]? = some c) (hf : FL n c e p.x o) (hj : ∀ (t : Nat) (y : Int), 2 ≤ t → e[t]? = some y → -y ∈ d.K) (ho : o ∉ d.K ∧ -o ∉ d.K)
    (hM : SM tag' B w0 w6 a v' (setD { d with C := d.C.set i e, Wt := d.Wt.set p.q (kept ++ ([i] ++ p.L.drop (kept.length + 1))) } o i)) (hv : v'.ws = v.ws) (hS : SR tag0 tag' w w6) :
    PIs n G bs tag0 B w0 w a d0 p w6 tag' v' (setD { d with C := d.C.set i e, Wt := d.Wt.set p.q (kept ++ ([i] ++ p.L.drop (kept.length + 1))) } o i) (Rz ++ [(i : Int)]) (kept ++ [i]) (m + 1) := by
  have hl := (List.getElem?_eq_some_iff.1 hi).1
  have hq := (List.getElem?_eq_some_iff.1 h.ct).1
  have hkm := h.km
  have hfa := hf.all h.cj.ak hj
  have hoo : LitOk n o := hf.ok o (List.mem_of_getElem? hf.e0)
  have hbd : ∀ b ∈ bs, b ≤ d.K.length := fun b hb => Nat.le_of_lt (h.cj.bl b hb)
  refine ⟨⟨hM, hS, ((h.lk.cw _ _ d.dn).set h.cj.rl hoo ho.1 ho.2 hbd ?_ ?_ ?_), (h.pg.cw (by simp) _ d.dn).set _ _⟩, ((h.cj' hi).set hc hf.same hf.e0 hf.e1 hf.cw hf.ne ho hfa).wt (h.wtne _), ?_, by simp; omega, hl, by rw [hv]; exact h.ws, h.dn, h.qx, h.xo, h.zn⟩
  · exact (h.sm.co .val).2.trans h.zn
  · exact (h.sm.co .lev).2.trans h.zn
  · exact (h.sm.co .rea).2.trans h.zn
  · show (d.Wt.set p.q _)[p.q]? = _
    rw [List.getElem?_set_self hq]
    simp

/-- The clause is false. -/
theorem PIs.fail (h : PIs n G bs tag0 B w0 w a d0 p wr tag v d Rz kept m) (hi : p.L[m]? = some i) (hc : d.C[i]? = some c) (hf : FL n c e p.x o) (hj : ∀ (t : Nat) (y : Int), 2 ≤ t → e[t]? = some y → -y ∈ d.K) (ho : -o ∈ d.K) :
    CF n G (d.C.set i e) (WtF (d.Wt.set p.q (kept ++ (i :: p.L.drop (m + 1))))) d.K Rz bs i := by
  rw [h.wtf]
  exact (h.cj' hi).fail hc hf.same hf.e0 hf.e1 hf.cw (hf.all h.cj.ak hj) ho

/-- All clauses are gone through. -/
theorem PIs.leave (h : PIs n G bs tag0 B w0 w a d0 p wr tag v d Rz kept m) (hm : p.L.length ≤ m)
    (hM : SM tag B w0 w6 a v' { d with Wt := d.Wt.set p.q kept }) (hS : SR tag0 tag w w6) : POs n G bs tag0 B w0 w a d0 w6 tag v' { d with Wt := d.Wt.set p.q kept } Rz := by
  refine ⟨⟨hM, hS, h.lk.cw _ _ d.dn, h.pg.cw rfl _ d.dn⟩, ?_⟩
  have hcj := h.cj
  rw [List.drop_eq_nil_of_le hm] at hcj
  have := hcj.leave
  show CD n G d.C (WtF (d.Wt.set p.q kept)) d.K Rz bs d.dn
  rw [h.wtf, h.dn]
  exact this

/-- The clauses of the next literal. -/
theorem POs.enter (h : POs n G bs tag0 B w0 w a d0 wr tag v d Rz) (hn : a.n1 = n + 1) {x : Int} (hk : d.K[d.dn]? = some (-x)) {q : Nat} (hq : (ixL x).toNat = q) {L : List Nat} (hL : d.Wt[q]? = some L) {au : Option Addr} {cu : Nat} (hw : v.ws[q]? = some (.slice au L.length cu))
    (hM : SM tag B w0 w6 a v { d with dn := d.dn + 1 }) (hS : SR tag0 tag w w6) : PIs n G bs tag0 B w0 w a d0 ⟨L, au, cu, q, x, d.K, d.dn⟩ w6 tag v { d with dn := d.dn + 1 } Rz [] 0 := by
  have hx := h.cd.kok _ (List.mem_of_getElem? hk)
  refine ⟨⟨hM, hS, h.lk.cw d.C d.Wt (d.dn + 1), h.pg.cw rfl d.Wt (d.dn + 1)⟩, ?_, by simpa using hL, Nat.le_refl _, Nat.zero_le _, hw, rfl, hq, (by show LitOk n x; unfold LitOk at hx ⊢; omega), hn⟩
  have h1 := h.cd.enter hk
  have h2 : WtF d.Wt x = L := by
    unfold WtF
    rw [hq, hL]
    rfl
  rw [h2] at h1
  exact h1

/-- The rest of the list is laid behind what stays. -/
theorem PIs.two {wy : World} {C' : List (List Int)} {g : Nat} (h : PIs n G bs tag0 B w0 w a d0 p wr tag v d Rz kept m) (hi : p.L[m]? = some i) (hg : p.au = some ⟨g, 0, none⟩) (hlc : p.L.length ≤ p.cu)
    (hM : SM tag B w0 wy a v { d with C := C', Wt := d.Wt.set p.q (kept ++ ([i] ++ p.L.drop (kept.length + 1))) }) : ∃ w7, (appM #[22, 22] 22 #[.slice (some ⟨g, 0, none⟩) (kept.length + 1) p.cu, .slice (some (if p.cu = m + 1 then ⟨g, 0, none⟩ else (⟨g, 0, none⟩ : Addr).add (m + 1))) (p.L.length - (m + 1)) (p.cu - (m + 1))]).run Try.prog wy = .ok (.slice (some ⟨g, 0, none⟩) (kept.length + 1 + (p.L.length - (m + 1))) p.cu) w7 ∧
      Touch (fun k => tag k = .wth p.q) wy w7 ∧ (∃ d7, SM tag B w0 w7 a v d7) ∧
      SM tag B w0 (w7.setCell ⟨a.bw, p.q, none⟩ (.slice (some ⟨g, 0, none⟩) (kept.length + 1 + (p.L.length - (m + 1))) p.cu)) a { v with ws := v.ws.set p.q (.slice (some ⟨g, 0, none⟩) (kept.length + 1 + (p.L.length - (m + 1))) p.cu) } { d with C := C', Wt := d.Wt.set p.q (kept ++ (i :: p.L.drop (m + 1))) } := by
  have hq := (List.getElem?_eq_some_iff.1 h.ct).1
  have hkm := h.km
  have hl := (List.getElem?_eq_some_iff.1 hi).1
  have hws := h.ws
  rw [hg] at hws
  have hlen : ((kept ++ [i]) ++ p.L.drop (kept.length + 1)).length = p.L.length := by simp; omega
  have hns : (d.Wt.set p.q (kept ++ ([i] ++ p.L.drop (kept.length + 1))))[p.q]? = some ((kept ++ [i]) ++ p.L.drop (kept.length + 1)) := by rw [List.getElem?_set_self hq, List.append_assoc]
  obtain ⟨w7, hr, hM7, hT7⟩ := hM.keepW (q := p.q) (kept := kept ++ [i]) (nw := p.L.drop (m + 1)) (tl := p.L.drop (kept.length + 1)) (tl' := (p.L.drop (kept.length + 1)).drop (p.L.drop (m + 1)).length) hns (cap := p.cu) (g := g) (by rw [hlen]; exact hws) (by simp; omega) rfl (Below.refl _ wy) (A := if p.cu = m + 1 then ⟨g, 0, none⟩ else (⟨g, 0, none⟩ : Addr).add (m + 1)) (m := p.L.length - (m + 1)) (cc := p.cu - (m + 1)) (by simp) (fun j y hj => by
    rw [List.getElem?_drop] at hj
    have hjl := (List.getElem?_eq_some_iff.1 hj).1
    rw [if_neg (by omega)]
    have := hM.wthLit hns (g := g) (n := p.L.length) (cap := p.cu) hws (j := m + 1 + j) (i := y) (by
      rw [List.getElem?_append_right (by simp; omega), List.getElem?_drop]
      rw [show kept.length + 1 + (m + 1 + j - (kept ++ [i]).length) = m + 1 + j by simp; omega]
      exact hj)
    rw [Addr.add_lit, Addr.add_lit, Nat.zero_add]
    exact this) 22
  have e1 : (kept ++ [i]).length = kept.length + 1 := by simp
  rw [e1] at hr
  refine ⟨w7, hr, hT7, ⟨_, hM7⟩, ?_⟩
  have h8 := hM7.cutW (q := p.q) (ns := (kept ++ [i]) ++ (p.L.drop (m + 1) ++ (p.L.drop (kept.length + 1)).drop (p.L.drop (m + 1)).length)) (m := kept.length + 1 + (p.L.length - (m + 1))) (by
    show ((d.Wt.set p.q _).set p.q _)[p.q]? = _
    rw [List.getElem?_set_self (by simpa using hq)]) hws (by simp; omega)
  have e2 : ((kept ++ [i]) ++ (p.L.drop (m + 1) ++ (p.L.drop (kept.length + 1)).drop (p.L.drop (m + 1)).length)).take (kept.length + 1 + (p.L.length - (m + 1))) = kept ++ (i :: p.L.drop (m + 1)) := by
    rw [← List.append_assoc, List.take_left' (by simp; omega)]
    simp
  rw [e2] at h8
  have e3 : ((d.Wt.set p.q (kept ++ ([i] ++ p.L.drop (kept.length + 1)))).set p.q ((kept ++ [i]) ++ (p.L.drop (m + 1) ++ (p.L.drop (kept.length + 1)).drop (p.L.drop (m + 1)).length))).set p.q (kept ++ (i :: p.L.drop (m + 1))) = d.Wt.set p.q (kept ++ (i :: p.L.drop (m + 1))) := by rw [List.set_set, List.set_set]
  rw [← e3]
  exact h8

/-- What stays is the list. -/
theorem PIs.fin {wy : World} (h : PIs n G bs tag0 B w0 w a d0 p wr tag v d Rz kept m) (hM : SM tag B w0 wy a v d) : SM tag B w0 (wy.setCell ⟨a.bw, p.q, none⟩ (.slice p.au kept.length p.cu)) a { v with ws := v.ws.set p.q (.slice p.au kept.length p.cu) } { d with Wt := d.Wt.set p.q kept } := by
  have h8 := hM.cutW h.ct (m := kept.length) h.ws (by simp)
  rw [List.take_left' rfl] at h8
  exact h8

end

end Go.Proofs.Ytfofabbnbmieoaa.Ord

/- solve's state: small facts about its worlds and its rows. -/
namespace Go.Proofs.Ytfofabbnbmieoaa.Ord
open Go.RowKit Go.Conc

theorem SR.same {tag0 tag : Nat → KT} {w wr w6 : World} (h : SR tag0 tag w wr) (hT : Touch (fun k => tag k ≠ .oth) wr w6) : SR tag0 tag w w6 := h.trans ⟨hT, fun _ _ e => e⟩

theorem SR.drewN {tag0 tag : Nat → KT} {w wr : World} (h : SR tag0 tag w wr) (q : Nat) : SR tag0 tag w (wr.drewN q) := h.same ((Touch.refl _ _).drewN q)

theorem SR.drew {tag0 tag : Nat → KT} {w wr : World} (h : SR tag0 tag w wr) : SR tag0 tag w wr.drew := h.same (Touch.refl _ _).drew

section
variable {tag : Nat → KT} {B : Nat} {w0 w : World} {a : SA} {v : SV} {d : SD}

theorem SM.drewN (h : SM tag B w0 w a v d) (q : Nat) : SM tag B w0 (w.drewN q) a v d := h.grow (below_dr (Below.refl _ _) q) (fun _ _ => rfl) fun k _ hk => h.tB k hk

theorem SM.drew (h : SM tag B w0 w a v d) : SM tag B w0 w.drew a v d := h.grow (Below.refl _ w).drew (fun _ _ => rfl) fun k _ hk => h.tB k hk

theorem SM.trlc (h : SM tag B w0 w a v d) : ∃ au cu, v.vt = .slice au d.K.length cu ∧ w.ownsRow B 3 1 v.vt d.K.length (ints d.K) := by
  have h1 := (h.co .trl).1
  have e : (ints d.K).length = d.K.length := by simp [ints]
  rw [e] at h1
  obtain ⟨au, cu, hv⟩ := own_lenV' h1
  exact ⟨au, cu, hv, h1⟩

theorem SM.clrc (h : SM tag B w0 w a v d) : ∃ au cu, v.vc = .slice au d.C.length cu ∧ w.ownsRow B 22 1 v.vc d.C.length v.us := by
  have h1 := (h.co .clr).1.1
  rw [(h.co .clr).2] at h1
  obtain ⟨au, cu, hv⟩ := own_lenV' h1
  exact ⟨au, cu, hv, h1⟩

theorem SM.wtc (h : SM tag B w0 w a v d) {q : Nat} (hq : q < 2 * a.n1) : ∃ au cu ns, d.Wt[q]? = some ns ∧ v.ws[q]? = some (.slice au ns.length cu) ∧ w.ownsRow B 3 1 (.slice au ns.length cu) ns.length (nnts ns) ∧ w.cell? ⟨a.bw, q, none⟩ = some (.slice au ns.length cu) := by
  obtain ⟨u, ns, hu, hns, hG⟩ := h.wthAt hq
  have h1 := hG.1
  rw [nnts_length] at h1
  obtain ⟨au, cu, hv⟩ := own_lenV' h1
  subst hv
  exact ⟨au, cu, ns, hns, hu, h1, by rw [fit_cell (h.co .wtb).1.1 q]; exact hu⟩

theorem SM.wthS (h : SM tag B w0 w a v d) {q : Nat} {ns : List Nat} (hns : d.Wt[q]? = some ns) {au : Option Addr} {n cu : Nat} (hu : v.ws[q]? = some (.slice au n cu)) (hne : ns ≠ []) : ∃ g, au = some ⟨g, 0, none⟩ ∧ tag g = .wth q ∧ ns.length ≤ cu := by
  obtain ⟨u, hu', ho, ht⟩ := h.co (.wth q) ns hns
  rw [hu] at hu'
  injection hu' with hu'
  subst hu'
  rw [nnts_length] at ho
  rcases ho.2 with ⟨-, e⟩ | ⟨g, cap, cur, e, -, -, hcap, -⟩
  · exact absurd (List.length_eq_zero_iff.1 e) hne
  · injection e with e1 e2 e3
    subst e1 e3
    exact ⟨g, rfl, ht g rfl, hcap⟩

theorem one_cellN (w : World) (i : Nat) : ∀ (j y : Nat), [i][j]? = some y → (w.alloc (.cells #[.int .i64 (i : Int)] 3 (0, 0))).cell? ((⟨w.heap.size, 0, none⟩ : Addr).add j) = some (.int .i64 (y : Int)) := fun j y hj => by
  match j, hj with
  | 0, hj =>
    have hj : i = y := by simpa using hj
    subst hj
    rw [Addr.add_lit]
    exact fit_cell (vs := [.int .i64 (i : Int)]) (heap_alloc_new w _) 0

theorem Touch.cellT {S : Nat → Prop} {w w' : World} (h : Touch S w w') {p : Addr} {v : Value} (hp : w.cell? p = some v) (hn : ¬ S p.block) : w'.cell? p = some v := by
  rcases hh : w.heap[p.block]? with _ | obj
  · simp [World.cell?, hh] at hp
  · have := h.block _ (Array.getElem?_eq_some_iff.1 hh).1 hn
    simp only [World.cell?] at hp ⊢
    rw [this]
    exact hp

theorem cell_other {w : World} {p : Addr} {b o : Nat} {u : Value} (h : b ≠ p.block) : (w.setCell p u).cell? ⟨b, o, none⟩ = w.cell? ⟨b, o, none⟩ := by
  simp only [World.cell?]
  rw [heap_setCell_other w p b u h]

theorem slice_fromG {P : Program} {t e : TypeId} {ad : Addr} {n c : Nat} {k : Int} {m : Nat} (hkm : k = m) (ht : P.underlying t = some (.slice e)) (hsz : ∀ wx, (sizeOf e).run P wx = .ok 1 wx) (h1 : m ≤ n) :
    ∀ wx, (Instr.slice t (.slice (some ad) n c) (some (.int .i64 k)) none none).run P wx = .ok (.slice (some (if c = m then ad else ad.add m)) (n - m) (c - m)) wx := by
  subst hkm
  intro wx
  have he : P.elem t = e := by simp [Program.elem, ht]
  rw [run_slice_l (P := P) wx t (some ad) n c (by rw [he]; exact ht) .i64 m (by omega) (by omega), he, hsz]
  by_cases q : c = m <;> simp [sliced, Result.andThen, q]

theorem SM.chg (_h : SM tag B w0 w a v d) {b o : Nat} {t : KT} (ht : tag b = t) (hne : t ≠ .oth) (u : Value) : Touch (fun k => tag k ≠ .oth) w (w.setCell ⟨b, o, none⟩ u) := (Touch.refl _ w).setCell (p := ⟨b, o, none⟩) (by show tag b ≠ .oth; rw [ht]; exact hne) u

end

end Go.Proofs.Ytfofabbnbmieoaa.Ord
