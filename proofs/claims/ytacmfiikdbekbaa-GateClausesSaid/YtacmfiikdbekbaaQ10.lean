/- Plain definitions: what weepholelaw02.Fit makes. -/
import Derived.Test.YtacmfiikdbekbaaQ0
import Derived.Test.YtacmfiikdbekbaaQPropU
import Derived.Test.YtacmfiikdbekbaaQRef04
import Derived.Test.YtacmfiikdbekbaaQ4
import Derived.Test.YtacmfiikdbekbaaQ3

namespace Go.Proofs.Ytacmfiikdbekbaa
open Go.RowKit

/-- The number of variables. -/
def fitV (n : Int) : Int := 1 + n % 12

/-- A clause. -/
def fitC (V : Int) (c : List Int) : List Int := (c.map (fun x => x.tmod (V + 1))).filter (fun x => x != 0)

/-- The clauses. -/
def fitF (n : Int) (l : List (List Int)) : List (List Int) := l.map (fitC (fitV n))

/-- Whether they are few enough. -/
def fitB (l : List (List Int)) : Bool := decide (l.length ≤ 30) && !(l.any (fun c => decide (20 < c.length)))

theorem fitC_step_zero {V x : Int} {c : List Int} {k : Nat} (hx : c[k]? = some x) (h : x.tmod (V + 1) = 0) : fitC V (c.take (k + 1)) = fitC V (c.take k) := by
  simp [fitC, List.take_add_one, hx, h]

theorem fitC_step {V x : Int} {c : List Int} {k : Nat} (hx : c[k]? = some x) (h : x.tmod (V + 1) ≠ 0) : fitC V (c.take (k + 1)) = fitC V (c.take k) ++ [x.tmod (V + 1)] := by
  simp [fitC, List.take_add_one, hx, h]

theorem fitC_length (V : Int) (c : List Int) : (fitC V c).length ≤ c.length := by
  have := List.length_filter_le (fun x : Int => x != 0) (c.map (fun x => x.tmod (V + 1)))
  simpa [fitC] using this

theorem fitF_step {V : Int} {l : List (List Int)} {c : List Int} {k : Nat} (hc : l[k]? = some c) : (l.take (k + 1)).map (fitC V) = (l.take k).map (fitC V) ++ [fitC V c] := by
  simp [List.take_add_one, hc]

theorem fitV_range (n : Int) : 1 ≤ fitV n ∧ fitV n ≤ 12 := by unfold fitV; omega

theorem mem_fitC {V x : Int} {c : List Int} (hV : 1 ≤ V) (h : x ∈ fitC V c) : x ≠ 0 ∧ -V ≤ x ∧ x ≤ V := by
  simp only [fitC, List.mem_filter, List.mem_map, bne_iff_ne, ne_eq] at h
  obtain ⟨⟨y, _, rfl⟩, h0⟩ := h
  refine ⟨h0, ?_⟩
  have h1 := Int.natAbs_tmod y (V + 1)
  have h2 : y.natAbs % (V + 1).natAbs < (V + 1).natAbs := Nat.mod_lt _ (by omega)
  rw [← h1] at h2
  omega

theorem fitB_false_at {l : List (List Int)} {k : Nat} {c : List Int} (hc : l[k]? = some c) (h : (20 : Int) < c.length) : fitB l = false := by
  have : l.any (fun c => decide (20 < c.length)) = true := any_of_get hc (by simp; omega)
  simp [fitB, this]
theorem fitB_false_long {l : List (List Int)} (h : (30 : Int) < l.length) : fitB l = false := by
  have : ¬ l.length ≤ 30 := by omega
  simp [fitB, this]
theorem fitB_true {l : List (List Int)} {k : Nat} (h : (l.length : Int) ≤ 30) (hk : ¬ k < l.length) (hr : (l.take k).any (fun c => decide (20 < c.length)) = false) : fitB l = true := by
  rw [List.take_of_length_le (by omega)] at hr
  have : l.length ≤ 30 := by omega
  simp only [fitB, hr, this]; rfl

end Go.Proofs.Ytacmfiikdbekbaa

/- Plain: what is known, assumed again. -/
namespace Go.Proofs.Ytacmfiikdbekbaa

theorem der_cut {C : List (List Int)} {A A' : List Int} (h : ∀ a ∈ A', Der C A a) {a : Int} (hd : Der C A' a) : Der C A a := by
  induction hd with
  | asm ha => exact h _ ha
  | unit hc hl _ ih => exact .unit hc hl ih

theorem bad_cut {C : List (List Int)} {A A' : List Int} (h : ∀ a ∈ A', Der C A a) (hb : Bad C A') : Bad C A := by
  rcases hb with ⟨a, h1, h2⟩ | ⟨c, hc, hl⟩
  · exact .inl ⟨a, der_cut h h1, der_cut h h2⟩
  · exact .inr ⟨c, hc, fun l hlc => der_cut h (hl l hlc)⟩

theorem up_again {n : Nat} {C : List (List Int)} {A : List Int} (hC : ClsOk n C) (hA : ∀ a ∈ A, LitOk n a) (hb : ¬ Bad C A) : upL n C (upL n C A) = upL n C A ∧ upF C (upL n C A) = false := by
  have hm := fun a => @mem_upL n C A hC hA hb a
  have h1 : ∀ a ∈ upL n C A, Der C A a := fun a ha => (hm a).1 ha
  obtain ⟨e1, e2⟩ := up_congr (n := n) (C := C) (C' := C) (A := upL n C A) (A' := A) ⟨bad_cut h1, fun h => (hb h).elim⟩ fun _ a => ⟨der_cut h1, fun h => .asm ((hm a).2 h)⟩
  exact ⟨e1, e2.trans (upF_false.2 hb)⟩

theorem upL_ok {n : Nat} {C : List (List Int)} {A : List Int} : ∀ a ∈ upL n C A, LitOk n a := by
  intro a ha
  unfold upL at ha
  split at ha
  · cases ha
  · exact (mem_byVar.1 ha).1

theorem sub_take (F : List (List Int)) (k : Nat) : Sub (F.take k) F := fun c hc => ⟨c, List.mem_of_mem_take hc, fun _ => Iff.rfl⟩

theorem upF_mono {F : List (List Int)} {A : List Int} (d k : Nat) (h : upF (F.take d) (A.take k) = true) : upF F A = true :=
  upF_true.2 (bad_mono (sub_take F d) (fun _ h => List.mem_of_mem_take h) (upF_true.1 h))

theorem upL_mono {n : Nat} {F : List (List Int)} {A : List Int} (hF : ClsOk n F) (hA : ∀ a ∈ A, LitOk n a) (d k : Nat) (h : upF F A = false) : ∀ a ∈ upL n (F.take d) (A.take k), a ∈ upL n F A := by
  intro a ha
  have hb := upF_false.1 h
  have hb2 : ¬ Bad (F.take d) (A.take k) := fun hh => hb (bad_mono (sub_take F d) (fun _ h => List.mem_of_mem_take h) hh)
  have hd := (mem_upL (fun c hc => hF c (List.mem_of_mem_take hc)) (fun a ha => hA a (List.mem_of_mem_take ha)) hb2).1 ha
  exact (mem_upL hF hA hb).2 (der_mono (sub_take F d) (fun _ h => List.mem_of_mem_take h) hd)

theorem byVar_length (n : Nat) (p : Int → Bool) : (byVar n p).length ≤ 2 * n := by
  induction n with
  | zero => simp [byVar]
  | succ n ih =>
    rw [byVar_succ, List.length_append, List.length_append]
    have h1 : (if p ((n : Int) + 1) then [(n : Int) + 1] else []).length ≤ 1 := by split <;> simp
    have h2 : (if p (-((n : Int) + 1)) then [-((n : Int) + 1)] else []).length ≤ 1 := by split <;> simp
    omega

theorem upL_length (n : Nat) (C : List (List Int)) (A : List Int) : (upL n C A).length ≤ 2 * n := by
  unfold upL
  split
  · simp
  · exact byVar_length n _

theorem clsok_fit {n : Nat} (x : Int) (hn : (n : Int) = fitV x) (l : List (List Int)) : ClsOk n (fitF x l) := by
  intro c hc a ha
  simp only [fitF, List.mem_map] at hc
  obtain ⟨c', _, rfl⟩ := hc
  have hr := fitV_range x
  obtain ⟨h1, h2, h3⟩ := mem_fitC (by omega) ha
  exact ⟨h1, by omega, by omega⟩

end Go.Proofs.Ytacmfiikdbekbaa

/- The contract of prop.Units for any formula and any numbers. -/
namespace Go.Proofs.Ytacmfiikdbekbaa.Ord
open Go.RowKit Go.Conc

attribute [local go_sem ↓] Go.wp_at_zero Go.wp_at_succ

set_option maxRecDepth 100000 in
set_option maxHeartbeats 4000000 in
theorem prop_UnitsE (n : Int) (e1 : Int) (acl : Option Addr) (F : List (List Int)) (mf cf : Nat) (aas : Option Addr) (A : List Int) (ma cas : Nat) (w : World) (he : cnfCheck n F = e1) (h0 : e1 ≠ 0) (hmf : mf = F.length) (hf : FOk F) (hr : Rws w acl F) (hFl : F.length ≤ 9223372036854775807) :
    Calls Try.prog 40 #[.agg #[.int .i64 n, .slice acl mf cf], .slice aas ma cas] w (refUnitsR n F A w) := by
  subst hmf
  have HE := hid he
  have HZ := hid h0
  have hz' : (e1 != 0) = true := by simpa using h0
  have HF := hid hf
  have HR := hid (hr.below (box_below w (fbox n acl F.length cf)))
  have hb2 : Below w.heap.size w ((w.alloc (fbox n acl F.length cf)).alloc (fbox n acl F.length cf)) := below_al (box_below _ _) (by simp only [size_al]; omega) _
  have HB2 := hid hb2
  clear he h0 hf hr hb2
  go_enter Try.func40, Try.ntmps40
  go_wp2_with fail
  refine (cnf_CheckR n acl F _ cf e1 _ HE.out rfl HF.out HR.out hFl).mono ?_
  rintro e wx ⟨rfl, rfl⟩
  go_wp2_with fail
  go_ret3
  exact refUnitsR_err HE.out HZ.out HB2.out

set_option maxRecDepth 100000 in
set_option maxHeartbeats 4000000 in
theorem prop_UnitsA (n : Nat) (acl : Option Addr) (F : List (List Int)) (mf cf : Nat) (aas : Option Addr) (A : List Int) (ma cas : Nat) (w : World) (he : cnfCheck n F = 0) (hn : n ≤ 1048576) (hmf : mf = F.length) (hma : ma = A.length) (hf : FOk F) (hr : Rws w acl F) (hs : SlV w aas (ints A)) (hFl : F.length ≤ 9223372036854775807) (hAl : A.length ≤ 4294967296)
    (hb : A.any (badLit n) = true) :
    Calls Try.prog 40 #[.agg #[.int .i64 n, .slice acl mf cf], .slice aas ma cas] w (refUnitsR n F A w) := by
  subst hmf
  subst hma
  have HE := hid he
  have HF := hid hf
  have HR := hid (hr.below (box_below w (fbox n acl F.length cf)))
  have HS := hid hs
  have HBD := hid hb
  have hb2 : Below w.heap.size w ((w.alloc (fbox n acl F.length cf)).alloc (fbox n acl F.length cf)) := below_al (box_below _ _) (by simp only [size_al]; omega) _
  have HB2 := hid hb2
  clear he hf hr hs hb hb2
  go_enter Try.func40, Try.ntmps40
  go_wp2_with fail
  refine (cnf_CheckR n acl F _ cf 0 _ HE.out rfl HF.out HR.out hFl).mono ?_
  rintro e wx ⟨rfl, rfl⟩
  have HS2 := hid (HS.out.below HB2.out)
  have hc20 := (box_cells n acl F.length cf w (fbox n acl F.length cf)).1
  generalize hw1 : (w.alloc _).alloc _ = w1 at HS2 hc20 ⊢
  rw [hw1] at HB2
  clear hw1
  go_wp2_with fail
  go_loop [31] (fun s31 => ∃ k : Nat, s31 = .int .i64 k ∧ k ≤ A.length ∧ Hid ((A.take k).any (badLit n) = false)) (fun s31 => (A.length - (intOf s31)).toNat)
  case atStart => exact ⟨0, rfl, Nat.zero_le _, by simp [Hid]⟩
  case round =>
    obtain ⟨k, rfl, hk, hany⟩ := hrel
    by_cases hlt : k < A.length
    · obtain ⟨bo, oo, x, rfl, hcx, hxk⟩ := HS2.out.int hlt
      have HX := hid hxk
      clear hxk
      have hwn : IntKind.i64.wrap (-(n : Int)) = -(n : Int) := IntWalk.i64_in _ (by omega)
      by_cases hb : badLit n x = true
      · have HBX := hid hb
        rcases lit_bad_of hb with h0 | h0 | h0
        · have d0 : (x == 0) = true := by rw [h0]; rfl
          clear h0 hb
          go_wp2_with fail
          go_ret3
          exact refUnitsR_arg HE.out HX.out HBX.out HB2.out
        · have d0 : (x == 0) = false := by rw [beq_eq_false_iff_ne]; omega
          have d1 : decide ((n : Int) < x) = true := decide_eq_true h0
          clear h0 hb
          go_wp2_with fail
          go_ret3
          exact refUnitsR_arg HE.out HX.out HBX.out HB2.out
        · have d0 : (x == 0) = false := by rw [beq_eq_false_iff_ne]; omega
          have d1 : decide ((n : Int) < x) = false := decide_eq_false (by omega)
          have d2 : decide (x < -(n : Int)) = true := decide_eq_true h0
          clear h0 hb
          go_wp2_with fail
          go_ret3
          exact refUnitsR_arg HE.out HX.out HBX.out HB2.out
      · have hb' : badLit n x = false := by simpa using hb
        have hx := lit_ok_of hb'
        unfold LitOk at hx
        have d0 : (x == 0) = false := by rw [beq_eq_false_iff_ne]; exact hx.1
        have d1 : decide ((n : Int) < x) = false := decide_eq_false (by omega)
        have d2 : decide (x < -(n : Int)) = false := decide_eq_false (by omega)
        have HN := hid (take_any_succ HX.out hany.out hb')
        have hwk : IntKind.i64.wrap ((k : Int) + 1) = (k : Int) + 1 := IntWalk.i64_in _ (by omega)
        clear hb hb' hx
        go_wp2_with fail
        go_round
        case rel => exact ⟨k + 1, by simp, hlt, HN⟩
        case measure => simp [intOf]; omega
    · exfalso
      have h1 := take_all_false hlt hany.out
      rw [HBD.out] at h1
      cases h1

/-- prop.Units, whatever it is given. -/
theorem prop_UnitsV (n : Int) (acl : Option Addr) (F : List (List Int)) (mf cf : Nat) (aas : Option Addr) (A : List Int) (ma cas : Nat) (w : World) (hmf : mf = F.length) (hma : ma = A.length) (hf : FOk F) (hr : Rws w acl F) (hs : SlV w aas (ints A)) (hFl : F.length ≤ 9223372036854775807) (hAl : A.length ≤ 4294967296) :
    Calls Try.prog 40 #[.agg #[.int .i64 n, .slice acl mf cf], .slice aas ma cas] w (refUnitsR n F A w) := by
  by_cases h0 : cnfCheck n F = 0
  · obtain ⟨v1, v2, v3, v4, v5⟩ := cnf_valid h0
    obtain ⟨n, rfl⟩ := Int.eq_ofNat_of_zero_le v1
    by_cases hb : A.any (badLit n) = true
    · exact prop_UnitsA n acl F mf cf aas A ma cas w h0 (by omega) hmf hma hf hr hs hFl hAl hb
    · have hb' : A.any (badLit n) = false := by simpa using hb
      refine (prop_Units n acl F mf cf aas A ma cas w (by omega) hmf hma hf hr hs v3 hAl (fun c hc => Nat.le_trans (v4 c hc) (by omega)) h0 v5 (asm_ok_of hb')).mono ?_
      rintro e w' ⟨h1, ar, cr, h2, h3⟩
      refine ⟨h1, ar, cr, ?_, ?_⟩
      · rw [unitsV_ok h0 hb']; exact h2
      · rw [unitsV_ok h0 hb']; exact h3
  · exact prop_UnitsE n _ acl F mf cf aas A ma cas w rfl h0 hmf hf hr hFl

theorem unitsV_length (n : Int) (F : List (List Int)) (A : List Int) : (unitsV n F A).1.length ≤ 2097152 := by
  unfold unitsV
  split
  · rename_i h
    have h1 := cnf_valid h
    split
    · show (upL n.toNat F A).length ≤ 2097152
      have := upL_length n.toNat F A
      omega
    · simp
  · simp

theorem box_cellsI (n : Int) (acl : Option Addr) (m cf : Nat) (w : World) (o : Obj) : ((w.alloc (fbox n acl m cf)).alloc o).cell? ⟨w.heap.size, 0, none⟩ = some (.int .i64 n) ∧ ((w.alloc (fbox n acl m cf)).alloc o).cell? ⟨w.heap.size, 1, none⟩ = some (.slice acl m cf) := by
  have hb : ((w.alloc (fbox n acl m cf)).alloc o).heap[w.heap.size]? = some (fbox n acl m cf) := (Below.heap_alloc _ _ _ (by simp)).trans (heap_alloc_new _ _)
  unfold fbox at hb ⊢
  constructor <;> simp [World.cell?, hb]

theorem prop_UnitsN (n : Int) (acl : Option Addr) (F : List (List Int)) (mf cf : Nat) (aas : Option Addr) (A : List Int) (ma cas : Nat) (U : List Int) (b : Bool) (g : Int) (w : World) (hU : unitsV n F A = (U, b, g)) (hmf : mf = F.length) (hma : ma = A.length) (hf : FOk F) (hr : Rws w acl F) (hs : SlV w aas (ints A)) (hFl : F.length ≤ 9223372036854775807) (hAl : A.length ≤ 4294967296) :
    Calls Try.prog 40 #[.agg #[.int .i64 n, .slice acl mf cf], .slice aas ma cas] w fun e w' => Below w.heap.size w w' ∧ ∃ ar cr, e = .returned (.tuple #[.slice ar U.length cr, .bool b, .int .i64 g]) ∧ SlV w' ar (ints U) := by
  have := prop_UnitsV n acl F mf cf aas A ma cas w hmf hma hf hr hs hFl hAl
  unfold refUnitsR at this
  rwa [hU] at this

end Go.Proofs.Ytacmfiikdbekbaa.Ord

/- A circuit of law15 in memory, with the values of its literals; the gates' contracts in these words. -/
namespace Go.Proofs.Ytacmfiikdbekbaa.Ord
open Go.RowKit Go.Conc

/-- The literal is decided, and has this value. -/
def Vl (K : List Int) (a : Int) (v : Bool) : Prop := Dk K a ∧ tv K a = v

theorem Vl.ext {K K' : List Int} {a : Int} {v : Bool} (h : Vl K a v) (he : Ext K K') : Vl K' a v := ⟨(he a h.1).1, ((he a h.1).2).trans h.2⟩

/-- A circuit: the builder at b, and the struct that holds it, the inputs and their values, at bc. -/
def LS (w : World) (B b bc m : Nat) (A K : List Int) (aI aV : Option Addr) (cI cV k : Nat) (I : List Int) (V : List Bool) : Prop :=
  ∃ X n G, GS X w B b m n G A K ∧ w.heap[bc]? = some (.cells #[.pointer (some ⟨b, 0, none⟩), .slice aI k cI, .slice aV k cV] 46) ∧ w.ownsRow B 3 1 (.slice aI k cI) k (ints I) ∧ w.ownsRow B 4 1 (.slice aV k cV) k (bools V) ∧ B ≤ bc

section
variable {w w' : World} {B b bc m k : Nat} {A K : List Int} {aI aV : Option Addr} {cI cV : Nat} {I : List Int} {V : List Bool}

theorem LS.below (h : LS w B b bc m A K aI aV cI cV k I V) (hb : Below w.heap.size w w') : LS w' B b bc m A K aI aV cI cV k I V :=
  let ⟨X, n, G, h1, h2, h3, h4, h5⟩ := h
  ⟨X, n, G, h1.below hb, (hb.block bc (Array.getElem?_eq_some_iff.1 h2).1).trans h2, own_below h3 hb, own_below h4 hb, h5⟩

theorem LS.cells (h : LS w B b bc m A K aI aV cI cV k I V) : w.cell? ⟨bc, 0, none⟩ = some (.pointer (some ⟨b, 0, none⟩)) ∧ w.cell? ⟨bc, 1, none⟩ = some (.slice aI k cI) ∧ w.cell? ⟨bc, 2, none⟩ = some (.slice aV k cV) := by
  obtain ⟨X, n, G, h1, h2, -⟩ := h
  exact ⟨fit_cell (vs := [.pointer (some ⟨b, 0, none⟩), .slice aI k cI, .slice aV k cV]) h2 0, fit_cell (vs := [.pointer (some ⟨b, 0, none⟩), .slice aI k cI, .slice aV k cV]) h2 1, fit_cell (vs := [.pointer (some ⟨b, 0, none⟩), .slice aI k cI, .slice aV k cV]) h2 2⟩

theorem LS.rows (h : LS w B b bc m A K aI aV cI cV k I V) : SlV w aI (ints I) ∧ SlV w aV (bools V) ∧ I.length = k ∧ V.length = k := by
  obtain ⟨X, n, G, h1, h2, h3, h4, -⟩ := h
  obtain ⟨a, c, e1, -, -, e2⟩ := own_sl h3
  obtain ⟨a', c', e3, -, -, e4⟩ := own_sl h4
  injection e1 with e1 _ _
  injection e3 with e3 _ _
  subst e1 e3
  exact ⟨e2, e4, by have := h3.1; simp at this; omega, by have := h4.1; simp at this; omega⟩

theorem LS.bound (h : LS w B b bc m A K aI aV cI cV k I V) {a : Int} (ha : Dk K a) (hm : m ≤ 100000) : -1048576 ≤ a ∧ a ≤ 1048576 := by
  obtain ⟨X, n, G, h1, -⟩ := h
  have := h1.circ.dk.1 ha
  have := h1.nm
  unfold LitOk at *
  omega

theorem LS.wrap (h : LS w B b bc m A K aI aV cI cV k I V) {a : Int} (ha : Dk K a) (hm : m ≤ 100000) : IntKind.i64.wrap (-a) = -a := IntWalk.i64_in _ (by have := h.bound ha hm; omega)

theorem LS.neg (h : LS w B b bc m A K aI aV cI cV k I V) {a : Int} {v : Bool} (ha : Vl K a v) : Vl K (-a) (!v) := by
  obtain ⟨X, n, G, h1, -⟩ := h
  exact ⟨ha.1.neg, by rw [h1.circ.tv_neg ha.1, ha.2]⟩

/-- What a gate's call leaves. -/
def LPost (w : World) (B b bc m : Nat) (A K : List Int) (aI aV : Option Addr) (cI cV k : Nat) (I : List Int) (V : List Bool) (v : Bool) (e : Ending) (w' : World) : Prop :=
  ∃ z K', e = .returned (.tuple #[.int .i64 z, .int .i64 0]) ∧ LS w' B b bc (m + 1) A K' aI aV cI cV k I V ∧ Below B w w' ∧ Ext K K' ∧ Vl K' z v

theorem lpost_of {v : Bool} {L : List Int} {e : Ending} {X : Nat → Prop} {G : List (List Int)} (h2 : w.heap[bc]? = some (.cells #[.pointer (some ⟨b, 0, none⟩), .slice aI k cI, .slice aV k cV] 46)) (h3 : w.ownsRow B 3 1 (.slice aI k cI) k (ints I)) (h4 : w.ownsRow B 4 1 (.slice aV k cV) k (bools V)) (h5 : B ≤ bc)
    (h : GPost X w B b m G A K v L e w') : LPost w B b bc m A K aI aV cI cV k I V v e w' := by
  obtain ⟨z, n', G', K', rfl, g1, g2, g3, -⟩ := h
  exact ⟨z, K', rfl, ⟨X, n', G', g1, (g2.kept bc _ _ _ h2 (by decide) (by decide)).trans h2, own_gk h3 g2 (by decide) (by decide), own_gk h4 g2 (by decide) (by decide), h5⟩, g2.below, g3.ext, g3.dk, g3.tv⟩
end

theorem ls_And (w : World) (B b bc m k : Nat) (A K : List Int) (aI aV : Option Addr) (cI cV : Nat) (I : List Int) (V : List Bool) (x y : Int) (vx vy : Bool) (h : LS w B b bc m A K aI aV cI cV k I V) (hx : Vl K x vx) (hy : Vl K y vy) (hm : m ≤ 100000) :
    Calls Try.prog 36 #[.pointer (some ⟨b, 0, none⟩), .int .i64 x, .int .i64 y] w (LPost w B b bc m A K aI aV cI cV k I V (vx && vy)) := by
  obtain ⟨X, n, G, h1, h2, h3, h4, h5⟩ := h
  refine (gs_And w B b m n G A K x y h1 hx.1 hy.1 hm).mono ?_
  rw [hx.2, hy.2]
  exact fun e w' hp => lpost_of h2 h3 h4 h5 hp

theorem ls_Or (w : World) (B b bc m k : Nat) (A K : List Int) (aI aV : Option Addr) (cI cV : Nat) (I : List Int) (V : List Bool) (x y : Int) (vx vy : Bool) (h : LS w B b bc m A K aI aV cI cV k I V) (hx : Vl K x vx) (hy : Vl K y vy) (hm : m ≤ 100000) :
    Calls Try.prog 37 #[.pointer (some ⟨b, 0, none⟩), .int .i64 x, .int .i64 y] w (LPost w B b bc m A K aI aV cI cV k I V (vx || vy)) := by
  obtain ⟨X, n, G, h1, h2, h3, h4, h5⟩ := h
  refine (gs_Or w B b m n G A K x y h1 hx.1 hy.1 hm).mono ?_
  rw [hx.2, hy.2]
  exact fun e w' hp => lpost_of h2 h3 h4 h5 hp

theorem ls_Xor (w : World) (B b bc m k : Nat) (A K : List Int) (aI aV : Option Addr) (cI cV : Nat) (I : List Int) (V : List Bool) (x y : Int) (vx vy : Bool) (h : LS w B b bc m A K aI aV cI cV k I V) (hx : Vl K x vx) (hy : Vl K y vy) (hm : m ≤ 100000) :
    Calls Try.prog 38 #[.pointer (some ⟨b, 0, none⟩), .int .i64 x, .int .i64 y] w (LPost w B b bc m A K aI aV cI cV k I V (vx != vy)) := by
  obtain ⟨X, n, G, h1, h2, h3, h4, h5⟩ := h
  refine (gs_Xor w B b m n G A K x y h1 hx.1 hy.1 hm).mono ?_
  rw [hx.2, hy.2]
  exact fun e w' hp => lpost_of h2 h3 h4 h5 hp

theorem ls_Mux (w : World) (B b bc m k : Nat) (A K : List Int) (aI aV : Option Addr) (cI cV : Nat) (I : List Int) (V : List Bool) (c x y : Int) (vc vx vy : Bool) (h : LS w B b bc m A K aI aV cI cV k I V) (hc : Vl K c vc) (hx : Vl K x vx) (hy : Vl K y vy) (hm : m ≤ 100000) :
    Calls Try.prog 39 #[.pointer (some ⟨b, 0, none⟩), .int .i64 c, .int .i64 x, .int .i64 y] w (LPost w B b bc m A K aI aV cI cV k I V (if vc then vx else vy)) := by
  obtain ⟨X, n, G, h1, h2, h3, h4, h5⟩ := h
  refine (gs_Mux w B b m n G A K c x y h1 hc.1 hx.1 hy.1 hm).mono ?_
  rw [hc.2, hx.2, hy.2]
  exact fun e w' hp => lpost_of h2 h3 h4 h5 hp

/-! ### The inputs -/

/-- What holds when the inputs are assumed. -/
def inK (V : List Bool) : List Int := 1 :: asV (inL V.length) V

theorem asV_snoc (V : List Bool) (v : Bool) : asV (inL (V ++ [v]).length) (V ++ [v]) = asV (inL V.length) V ++ [if v then (V.length : Int) + 2 else -((V.length : Int) + 2)] := by
  unfold asV
  rw [List.length_append, List.length_singleton, inL_succ, List.zipWith_append (by simp [inL_length])]
  simp

theorem circ_in (V : List Bool) : Circ (V.length + 1) [[1]] (asV (inL V.length) V) (inK V) := by
  generalize hn : V.length = n
  induction n generalizing V with
  | zero =>
    have : V = [] := List.eq_nil_of_length_eq_zero hn
    subst this
    exact circ_new
  | succ n ih =>
    obtain ⟨V', v, rfl⟩ : ∃ V' v, V = V' ++ [v] := by
      rcases List.eq_nil_or_concat V with h | ⟨V', v, h⟩
      · rw [h] at hn; simp at hn
      · exact ⟨V', v, by simpa using h⟩
    have hl : V'.length = n := by simpa using hn
    have h := circ_fresh (ih V' hl) (a := if v then (n : Int) + 2 else -((n : Int) + 2)) (by cases v <;> simp <;> omega)
    have h1 := asV_snoc V' v
    unfold inK at h ⊢
    rw [← hn, h1, List.length_append]
    rw [hl] at h ⊢
    simpa using h

theorem pick_vl {V : List Bool} {r : Nat} {p : Int} {q : Bool} (hr : r < 2 * V.length + 2) (hp : pickV (inL V.length) V r = (p, q)) : Vl (inK V) p q := by
  have hC := circ_in V
  have base : ∀ x v, (if v then x else -x) ∈ inK V → Vl (inK V) x v := by
    intro x v hx
    cases v with
    | true => exact ⟨.inl (by simpa using hx), by simp [tv]; simpa using hx⟩
    | false =>
      have hx : -x ∈ inK V := by simpa using hx
      exact ⟨.inr hx, by simp [tv]; intro h; exact hC.cons x h hx⟩
  have neg : ∀ x v, Vl (inK V) x v → Vl (inK V) (-x) (!v) := fun x v h => ⟨h.1.neg, by rw [hC.tv_neg h.1, h.2]⟩
  have h0 : ∀ s, s = (if r < 2 then ((1 : Int), true) else ((inL V.length).getD (r / 2 - 1) 0, V.getD (r / 2 - 1) false)) → Vl (inK V) s.1 s.2 := by
    rintro s rfl
    by_cases h2 : r < 2
    · rw [if_pos h2]
      exact base 1 true (by simp [inK])
    · rw [if_neg h2]
      obtain ⟨j, hj⟩ : ∃ j, r / 2 - 1 = j := ⟨_, rfl⟩
      have hjl : j < V.length := by omega
      rw [hj]
      refine base _ _ ?_
      refine List.mem_cons_of_mem _ (List.mem_of_getElem? (i := j) ?_)
      have e1 : (inL V.length)[j]? = some ((j : Int) + 2) := by simp [inL, hjl]
      have e2 : V[j]? = some V[j] := List.getElem?_eq_getElem hjl
      simp [asV, List.getElem?_zipWith, e1, e2, List.getD]
  have h1 := h0 _ rfl
  unfold pickV at hp
  by_cases ho : r % 2 = 1
  · simp only [ho, if_true] at hp
    injection hp with e1 e2
    subst e1 e2
    exact neg _ _ h1
  · simp only [if_neg ho] at hp
    rw [hp] at h1
    exact h1

theorem LS.start {w : World} {B b bc m k cI cV : Nat} {aI aV : Option Addr} {V : List Bool} {X : Nat → Prop} (hk : V.length = k) (hm : k + 1 ≤ m) (hg : GB X w B b (k + 1) [[1]]) (h2 : w.heap[bc]? = some (.cells #[.pointer (some ⟨b, 0, none⟩), .slice aI k cI, .slice aV k cV] 46)) (h3 : w.ownsRow B 3 1 (.slice aI k cI) k (ints (inL k))) (h4 : w.ownsRow B 4 1 (.slice aV k cV) k (bools V)) (h5 : B ≤ bc) :
    LS w B b bc m (asV (inL k) V) (inK V) aI aV cI cV k (inL k) V := by
  subst hk
  exact ⟨X, _, _, ⟨hg, circ_in V, by simp [inK], hm, by simp; omega, by simp, by simp⟩, h2, h3, h4, h5⟩

end Go.Proofs.Ytacmfiikdbekbaa.Ord

/- The contracts of law15's has and decided. -/
namespace Go.Proofs.Ytacmfiikdbekbaa.Ord
open Go.RowKit Go.Conc

attribute [local go_sem ↓] Go.wp_at_zero Go.wp_at_succ

/-- Whether a number is in a list. -/
def hasG (l : List Int) (x : Int) : Bool := l.any fun y => y == x

theorem hasG_step {l : List Int} {k : Nat} {x y : Int} {h : Bool} (hy : l[k]? = some y) (hh : hasG (l.take k) x = h) : hasG (l.take (k + 1)) x = (h || (y == x)) := by
  unfold hasG at *
  rw [List.take_add_one, hy, List.any_append, hh]
  simp

set_option maxRecDepth 100000 in
set_option maxHeartbeats 4000000 in
theorem law15_has (w : World) (a : Option Addr) (l : List Int) (m c : Nat) (x : Int) (hm : m = l.length) (hs : SlV w a (ints l)) (hl : l.length ≤ 4294967296) (hx : -1048576 ≤ x ∧ x ≤ 1048576) :
    Calls Try.prog 41 #[.slice a m c, .int .i64 x] w fun e w' => e = .returned (.tuple #[.bool (hasG l x), .bool (hasG l (-x))]) ∧ Below w.heap.size w w' := by
  subst hm
  have HS := hid hs
  have hnx : IntKind.i64.wrap (-x) = -x := IntWalk.i64_in _ (by omega)
  clear hs
  go_enter Try.func41, Try.ntmps41
  go_wp2_with fail
  go_loopw [4, 5, 6] (fun s4 s5 s6 wr => ∃ (k nd : Nat) (h1 h2 : Bool), s6 = .int .i64 k ∧ k ≤ l.length ∧ wr = w.drewN nd ∧ s4 = .bool h1 ∧ s5 = .bool h2 ∧ Hid (hasG (l.take k) x = h1) ∧ Hid (hasG (l.take k) (-x) = h2)) (fun _ _ s6 _ => (l.length - (intOf s6)).toNat)
  case atStart => exact ⟨0, 0, false, false, rfl, Nat.zero_le _, rfl, rfl, rfl, rfl, rfl⟩
  case round =>
    obtain ⟨k, nd, h1, h2, rfl, hk, rfl, rfl, rfl, H1, H2⟩ := hrel
    by_cases hlt : k < l.length
    · obtain ⟨bo, oo, y, rfl, hcy, hyk⟩ := HS.out.int hlt
      have hwk : IntKind.i64.wrap ((k : Int) + 1) = (k : Int) + 1 := IntWalk.i64_in _ (by omega)
      obtain ⟨q1, hq1⟩ : ∃ q, (y == x) = q := ⟨_, rfl⟩
      obtain ⟨q2, hq2⟩ : ∃ q, (y == -x) = q := ⟨_, rfl⟩
      have N1 : Hid (hasG (l.take (k + 1)) x = (h1 || q1)) := hid (by rw [hasG_step hyk H1.out, hq1])
      have N2 : Hid (hasG (l.take (k + 1)) (-x) = (h2 || q2)) := hid (by rw [hasG_step hyk H2.out, hq2])
      clear hyk H1 H2
      cases h1 <;> cases h2
      all_goals
        go_wp2_with fail
        go_quiet (fail)
        go_wp2_with fail
        go_roundw
        case rel => exact ⟨k + 1, _, _, _, by simp, hlt, (by first | rfl | exact World.drewN_drewN ..), rfl, rfl, by simpa using N1, by simpa using N2⟩
        case measure => simp [intOf]; omega
    · have E1 := H1.out
      have E2 := H2.out
      rw [List.take_of_length_le (by omega)] at E1 E2
      have HE := hid (And.intro E1 E2)
      clear E1 E2
      go_wp2_with fail
      go_ret2
      exact ⟨by rw [HE.out.1, HE.out.2]; rfl, below_dr (Below.refl _ _) _⟩

set_option maxRecDepth 100000 in
set_option maxHeartbeats 4000000 in
theorem law15_decidedT {X : Nat → Prop} (w : World) (B b n : Nat) (G : List (List Int)) (x : Int) (v : Bool) (aa : Option Addr) (A : List Int) (ma ca : Nat) (U : List Int) (h : GB X w B b n G) (hG : G.length ≤ 1048576) (hcl : ∀ c ∈ G, c.length ≤ 1048576) (hf : FOk G) (hma : ma = A.length) (hs : SlV w aa (ints A)) (hAl : A.length ≤ 4294967296) (hU : unitsV n G A = (U, false, 0)) (hUl : U.length ≤ 2097152) (hx : -1048576 ≤ x ∧ x ≤ 1048576) (h1 : hasG U x = v) (h2 : hasG U (-x) = !v) :
    Calls Try.prog 45 #[.pointer (some ⟨b, 0, none⟩), .int .i64 x, .bool v, .slice aa ma ca] w fun e w' => e = .returned (.bool true) ∧ Below w.heap.size w w' := by
  subst hma
  have HFM := hid (gate_Formula w B b n G h hG hcl)
  have HS := hid hs
  have HF := hid hf
  have HU := hid hU
  have H1 := hid h1
  have H2 := hid h2
  clear h hs hf hU h1 h2 hcl
  go_enter Try.func45, Try.ntmps45
  go_wp2_with fail
  refine HFM.out.mono ?_
  rintro e w1 ⟨a, c, rfl, hr1, hb1⟩
  have HB1 := hid hb1
  have HR1 := hid hr1
  have HS1 := hid (HS.out.below hb1)
  clear hb1 hr1
  go_wp2_with fail
  refine (prop_UnitsN n a G G.length c aa A A.length ca U false 0 w1 HU.out rfl rfl HF.out HR1.out HS1.out (by omega) hAl).mono ?_
  rintro e w2 ⟨hb2, au, cu, rfl, hsu⟩
  have HB2 := hid (HB1.out.trans (hb2.mono HB1.out.size))
  have HSU := hid hsu
  clear hb2 hsu
  go_wp2_with fail
  refine (law15_has w2 au U U.length cu x rfl HSU.out (by omega) hx).mono ?_
  rw [H1.out, H2.out]
  rintro e w3 ⟨rfl, hb3⟩
  have HB3 := hid (HB2.out.trans (hb3.mono HB2.out.size))
  clear hb3
  cases v
  all_goals
    go_wp2_with fail
    go_ret
    exact ⟨rfl, HB3.out⟩

end Go.Proofs.Ytacmfiikdbekbaa.Ord

/- The contract of law15's awake. -/
namespace Go.Proofs.Ytacmfiikdbekbaa.Ord
open Go.RowKit Go.Conc

attribute [local go_sem ↓] Go.wp_at_zero Go.wp_at_succ

theorem unitsV_closedG {n : Nat} {F : List (List Int)} {A U : List Int} (K : List Int) (h0 : cnfCheck n F = 0) (ha : A.any (badLit n) = false) (hc : Closed F A K) (hU : byVar n (fun a => decide (a ∈ K)) = U) : unitsV n F A = (U, false, 0) := by
  obtain ⟨e3, e4⟩ := hc.up n
  rw [unitsV_ok h0 ha, e3, e4, hU]

def awG : List (List Int) := [[1], [-4, 2], [-4, 3], [4, -2, -3]]

theorem aw_and : gAnd 3 [[1]] 2 3 = (4, 4, awG) := by decide
theorem aw_u1 : unitsV ((4 : Nat) : Int) awG [2, 3] = ([1, 2, 3, 4], false, 0) := unitsV_closedG [4, 1, 2, 3] (by decide) (by decide) (closedOk_sound (by decide)) (by decide)
theorem aw_u2 : unitsV ((4 : Nat) : Int) awG [2, -3] = ([1, 2, -3, -4], false, 0) := unitsV_closedG [-4, 1, 2, -3] (by decide) (by decide) (closedOk_sound (by decide)) (by decide)
theorem aw_fok : FOk awG := by
  intro c hc
  simp [awG] at hc
  rcases hc with rfl | rfl | rfl | rfl <;> simp [I64]

set_option maxRecDepth 100000 in
set_option maxHeartbeats 4000000 in
theorem law15_awake (w : World) :
    Calls Try.prog 30 #[] w fun e w' => e = .returned (.bool true) ∧ Below w.heap.size w w' := by
  go_enter Try.func30, Try.ntmps30
  go_wp2_with fail
  refine (gate_New w (fun _ => False) (fun _ h => h.elim)).mono ?_
  rintro e w1 ⟨b, rfl, hg1, hb1⟩
  have HG1 := hid hg1
  have HB1 := hid hb1
  clear hg1 hb1
  go_wp2_with fail
  refine (gate_Fresh w1 w.heap.size b 1 [[1]] HG1.out (by omega)).mono ?_
  rintro e w2 ⟨rfl, hg2, hk2⟩
  have HG2 : Hid (GB (fun _ => False) w2 w.heap.size b 2 [[1]]) := hid hg2
  have HB2 := hid (HB1.out.trans hk2.below)
  clear hg2 hk2
  go_wp2_with fail
  refine (gate_Fresh w2 w.heap.size b 2 [[1]] HG2.out (by omega)).mono ?_
  rintro e w3 ⟨rfl, hg3, hk3⟩
  have HG3 : Hid (GB (fun _ => False) w3 w.heap.size b 3 [[1]]) := hid hg3
  have HB3 := hid (HB2.out.trans hk3.below)
  clear hg3 hk3
  go_wp2_with fail
  refine (gate_And w3 w.heap.size b 3 [[1]] 2 3 HG3.out (by simp [LitOk]) (by simp [LitOk]) (by omega) (by simp)).mono ?_
  rw [aw_and]
  rintro e w4 ⟨rfl, hg4, hk4⟩
  have HG4 : Hid (GB (fun _ => False) w4 w.heap.size b 4 awG) := hid hg4
  have HB4 := hid (HB3.out.trans hk4.below)
  clear hg4 hk4
  go_wp2_with fail
  refine (gate_True w4 b).mono ?_
  rintro e w5 ⟨rfl, rfl⟩
  go_wp2_with fail
  refine (law15_decidedT (w4.alloc (.cells (ints [2, 3]).toArray 3 (0, 0))) w.heap.size b 4 awG 4 true (some ⟨w4.heap.size, 0, none⟩) [2, 3] 2 2 [1, 2, 3, 4] (HG4.out.below (box_below _ _)) (by decide) (by decide) aw_fok rfl (slv_at (heap_alloc_new _ _)) (by decide) aw_u1 (by decide) (by decide) (by decide) (by decide)).mono ?_
  rintro e w6 ⟨rfl, hb6⟩
  have hb6' := (box_below w4 (.cells (ints [2, 3]).toArray 3 (0, 0))).trans (hb6.mono (by simp only [size_al]; omega))
  have HG6 := hid (HG4.out.below hb6')
  have HB6 := hid (HB4.out.trans (hb6'.mono HB4.out.size))
  clear hb6 hb6'
  go_wp2_with fail
  refine (law15_decidedT (w6.alloc (.cells (ints [2, -3]).toArray 3 (0, 0))) w.heap.size b 4 awG 4 false (some ⟨w6.heap.size, 0, none⟩) [2, -3] 2 2 [1, 2, -3, -4] (HG6.out.below (box_below _ _)) (by decide) (by decide) aw_fok rfl (slv_at (heap_alloc_new _ _)) (by decide) aw_u2 (by decide) (by decide) (by decide) (by decide)).mono ?_
  rintro e w7 ⟨rfl, hb7⟩
  have HB7 := hid (HB6.out.trans (((box_below w6 (.cells (ints [2, -3]).toArray 3 (0, 0))).trans (hb7.mono (by simp only [size_al]; omega))).mono HB6.out.size))
  clear hb7
  go_wp2_with fail
  go_ret
  exact ⟨rfl, HB7.out⟩

end Go.Proofs.Ytacmfiikdbekbaa.Ord

/- The contract of gate's Clause. -/
namespace Go.Proofs.Ytacmfiikdbekbaa.Ord
open Go.RowKit Go.Conc

attribute [local go_sem ↓] Go.wp_at_zero Go.wp_at_succ

set_option maxRecDepth 100000 in
set_option maxHeartbeats 4000000 in
theorem gate_Clause {X : Nat → Prop} (w : World) (B b n : Nat) (G : List (List Int)) (al : Option Addr) (l : List Int) (m cp : Nat) (h : GB X w B b n G) (hn : n ≤ 1048576) (hm : m = l.length) (hs : SlV w al (ints l)) (hcp : al = none → cp = 0) (hok : ∀ a ∈ l, LitOk n a) (hll : l.length ≤ 4096) (hG : G.length < 1048576) :
    Calls Try.prog 44 #[.pointer (some ⟨b, 0, none⟩), .slice al m cp] w fun e w' => e = .returned (.int .i64 0) ∧ GB X w' B b n (G ++ [l]) ∧ Gk B w w' := by
  subst hm
  obtain ⟨i0, hi0, hz0, hz1, hz2⟩ := info_parts info_intG
  obtain ⟨i1, hi1, hy0, hy1, hy2⟩ := info_parts info_intsG
  have hall : l.all (fun a => !badLit n a) = true := by rw [List.all_eq_true]; intro a ha; simp [not_bad (hok a ha)]
  have HH := hid (gate_has w B b n G al l l.length cp true h hn rfl hs (by omega) hall)
  obtain ⟨v, hx, hr, hBb, hXb⟩ := h
  have HXB := hid hXb
  clear hXb
  obtain ⟨av, cv, rfl, -, -, -⟩ := hr.shape
  have hbl : b < w.heap.size := (Array.getElem?_eq_some_iff.1 hx).1
  have hc0 : w.cell? ⟨b, 0, none⟩ = some (.int .i64 n) := fit_cell (vs := [.int .i64 n, .slice av G.length cv]) hx 0
  have hc1 : w.cell? ⟨b, 1, none⟩ = some (.slice av G.length cv) := fit_cell (vs := [.int .i64 n, .slice av G.length cv]) hx 1
  have HX := hid hx
  have HR := hid hr
  have HS := hid hs
  have HCP := hid hcp
  have HONE : Hid (∀ u ∈ ints l, u.oneCell' = true) := hid (fun u hu => by simp [ints] at hu; obtain ⟨x, -, rfl⟩ := hu; rfl)
  have HLM : Hid (0 + l.length ≤ maxLen ∧ (0 + l.length) * 8 ≤ 140737488355328 ∧ G.length + 1 ≤ maxLen ∧ (G.length + 1) * 24 ≤ 140737488355328) := hid (by unfold maxLen; omega)
  have d1 : decide ((4096 : Int) < l.length) = false := decide_eq_false (by omega)
  have d2 : ((G.length : Int) == 1048576) = false := by rw [beq_eq_false_iff_ne]; omega
  clear hx hr hs hcp hok hall
  go_enter Try.func44, Try.ntmps44
  go_wp2_with fail
  refine HH.out.mono ?_
  rintro e w2 ⟨rfl, rfl⟩
  go_wp2_with fail
  clear d1 d2
  go_region_law (first
    | (refine step_append_sl rfl _ _ 22 rfl w.heap.size 3 i0 (.int .i64 0) 8 Try.underlying22 hi0 hz0 hz1 hz2 rfl (.slice none 0 0) 0 [] (by rfl) (World.ownsRow_nil _ _ _ _) al l.length cp (ints l) (by rfl) (by exact HS.out) (by simp) HCP.out HONE.out (by exact HLM.out.1) (by exact HLM.out.2.1) (by first | exact Nat.le_refl _ | simp) ?_; intro v8 w8 ho8 hg8; obtain ⟨a8, c8, rfl⟩ := own_lenV' ho8; have hb8 : Below w.heap.size w w8 := (by first | exact ((Below.refl w.heap.size w).drew).grown hg8 (Nat.le_refl _) (fun q hq => by cases hq) | exact (Below.refl w.heap.size w).grown hg8 (Nat.le_refl _) (fun q hq => by cases hq)); have hc1 := below_keeps hb8 _ _ hc1; have hc1a := fun o => below_keeps (box_below w8 o) _ _ hc1; have HO8 := hid ho8; have HB8 := hid hb8; have HX8 := hid ((hb8.block b hbl).trans HX.out); have hR8 := HR.out.below hb8; obtain ⟨vs, hov, hvs⟩ := hR8; have HOV := hid hov; have HVS := hid hvs; have hbl8 : b < w8.heap.size := Nat.lt_of_lt_of_le hbl hb8.size; clear ho8 hg8 hb8 hov hvs)
    | (refine step_append_at1 rfl _ _ 32 rfl B 22 i1 (.slice none 0 0) 24 Try.underlying32 hi1 hy0 hy1 hy2 rfl (.slice av G.length cv) G.length vs (by rfl) (by exact HOV.out.alloc _) _ (.slice a8 l.length c8) (by rfl) (by exact heap_alloc_new _ _) rfl (by exact HLM.out.2.2.1) (by exact HLM.out.2.2.2) (by simp; omega) ?_; intro v9 w9 h9 hg9 ha9; obtain ⟨a9, c9, rfl⟩ := own_lenV' h9; have hx9 : w9.heap[b]? = some (.cells #[.int .i64 n, .slice av G.length cv] 94) := (hg9.block b (by simp; omega) (own_not_builder HX8.out HOV.out)).trans ((Below.heap_alloc _ _ _ (by exact hbl8)).trans HX8.out); have HX9 := hid hx9; have hc1 : w9.cell? ⟨b, 1, none⟩ = some (.slice av G.length cv) := fit_cell (vs := [.int .i64 n, .slice av G.length cv]) hx9 1; have hfz : w9.frozen? ⟨b, 1, none⟩ = false := frozen_of_row _ _ _ _ _ hx9; have H9 := hid h9; have HG9 := hid hg9; clear h9 hg9 ha9 hx9))
  all_goals
    have hBw : B ≤ w.heap.size := by omega
    have hOT : OwnTX X w8 B (.slice a8 l.length c8) l := by
      have h1 := HO8.out
      simp only [Nat.zero_add, List.nil_append] at h1
      exact ownTX_own h1 HXB.out hBw
    have hP : OwnRtX X w9 B (.slice a9 (G.length + 1) c9) (G ++ [l]) := by
      first
      | exact OwnRtX.push (HOV.out.alloc _) (fun j d hd => let ⟨u, e1, e2⟩ := HVS.out j d hd; ⟨u, e1, e2.below (box_below w8 _)⟩) (hOT.below (box_below w8 _)) H9.out HG9.out
      | exact OwnRtX.push (HOV.out.alloc _) (fun j d hd => let ⟨u, e1, e2⟩ := HVS.out j d hd; ⟨u, e1, e2.below ((Below.refl w8.heap.size w8).drew.alloc (Nat.le_refl _) _)⟩) (hOT.below ((Below.refl w8.heap.size w8).drew.alloc (Nat.le_refl _) _)) H9.out HG9.out
    have hB8 : B ≤ w8.heap.size := Nat.le_trans hBw HB8.out.size
    have hK9 : Gk B w w9 := by
      refine (Gk.of_below HB8.out hBw).trans ?_
      first
      | exact (Gk.of_below (box_below w8 _) hB8).trans (Gk.grown (HOV.out.alloc _) (by simp; omega) HG9.out)
      | exact (Gk.of_below ((Below.refl w8.heap.size w8).drew.alloc (Nat.le_refl _) _) hB8).trans (Gk.grown (HOV.out.alloc _) (by simp; omega) HG9.out)
    have HE : Hid (GB X (w9.setCell ⟨b, 1, none⟩ (.slice a9 (G.length + 1) c9)) B b n (G ++ [l]) ∧ Gk B w (w9.setCell ⟨b, 1, none⟩ (.slice a9 (G.length + 1) c9))) := hid ⟨⟨_, heap_setCell_same w9 b 1 #[.int .i64 n, .slice av G.length cv] 94 _ HX9.out, rtX_setBuilder HX9.out hP hBb, hBb, fun k hk => Nat.lt_of_lt_of_le (HXB.out k hk) (by have := hK9.below.size; simpa [World.setCell] using this)⟩, hK9.trans (Gk.set HX9.out hBb _)⟩
    clear hOT hP hK9
    go_wp2_with fail
    go_ret
    exact ⟨rfl, HE.out.1, HE.out.2⟩

end Go.Proofs.Ytacmfiikdbekbaa.Ord

/- Plain facts for PropOrder: the formula that is built has the same clauses, but for order and number. -/
namespace Go.Proofs.Ytacmfiikdbekbaa.Ord

/-- G holds what the clauses of F from i on stand for, and nothing else. -/
structure GI (F : List (List Int)) (i : Nat) (G : List (List Int)) : Prop where
  sub1 : ∀ d ∈ G, ∃ c ∈ F, ∀ l, l ∈ d ↔ l ∈ c
  sub2 : ∀ j c, i ≤ j → F[j]? = some c → ∃ d ∈ G, ∀ l, l ∈ c ↔ l ∈ d
  len : ∀ d ∈ G, d.length ≤ 40
  cnt : G.length + 2 * i ≤ 2 * F.length

theorem gi_start (F : List (List Int)) : GI F F.length [] :=
  ⟨by simp, (fun j c hj hc => by rw [List.getElem?_eq_none hj] at hc; cases hc), by simp, by simp⟩

theorem gi_one {F G : List (List Int)} {i : Nat} {c : List Int} (h : GI F (i + 1) G) (hc : F[i]? = some c) (hl : c.length ≤ 20) : GI F i (G ++ [c.reverse ++ c]) := by
  have hcF := List.mem_of_getElem? hc
  have hm : ∀ l, l ∈ c.reverse ++ c ↔ l ∈ c := fun l => by simp
  have hcnt := h.cnt
  refine ⟨fun d hd => ?_, fun j e hj he => ?_, fun d hd => ?_, by simp; omega⟩
  · rcases List.mem_append.1 hd with hd | hd
    · exact h.sub1 d hd
    · simp at hd
      exact ⟨c, hcF, fun l => by rw [hd]; exact hm l⟩
  · rcases Nat.eq_or_lt_of_le hj with h1 | h1
    · subst h1
      rw [hc] at he
      injection he with he
      subst he
      exact ⟨_, List.mem_append_right _ (by simp), fun l => (hm l).symm⟩
    · obtain ⟨d, hd, hs⟩ := h.sub2 j e h1 he
      exact ⟨d, List.mem_append_left _ hd, hs⟩
  · rcases List.mem_append.1 hd with hd | hd
    · exact h.len d hd
    · simp at hd
      rw [hd]; simp; omega

theorem gi_two {F G : List (List Int)} {i : Nat} {c : List Int} (h : GI F (i + 1) G) (hc : F[i]? = some c) (hl : c.length ≤ 20) : GI F i ((G ++ [c.reverse ++ c]) ++ [c]) := by
  have h1 := gi_one h hc hl
  have hcF := List.mem_of_getElem? hc
  have hcnt := h.cnt
  refine ⟨fun d hd => ?_, fun j e hj he => ?_, fun d hd => ?_, by simp; omega⟩
  · rcases List.mem_append.1 hd with hd | hd
    · exact h1.sub1 d hd
    · simp at hd
      exact ⟨c, hcF, fun l => by rw [hd]⟩
  · obtain ⟨d, hd, hs⟩ := h1.sub2 j e hj he
    exact ⟨d, List.mem_append_left _ hd, hs⟩
  · rcases List.mem_append.1 hd with hd | hd
    · exact h1.len d hd
    · simp at hd
      rw [hd]; omega

theorem gi_up {n : Nat} {F G : List (List Int)} {A T : List Int} (h : GI F 0 G) (ht : ∀ a, a ∈ T ↔ a ∈ A) : upL n G T = upL n F A ∧ upF G T = upF F A := by
  refine up_same (fun d hd => h.sub1 d hd) (fun c hc => ?_) ht
  obtain ⟨j, hj⟩ := List.mem_iff_getElem?.1 hc
  exact h.sub2 j c (Nat.zero_le _) hj

theorem check_of {n : Nat} {G : List (List Int)} (hn : n ≤ 1048576) (hl : G.length ≤ 1048576) (h : ∀ d ∈ G, d.length ≤ 4096 ∧ ∀ a ∈ d, LitOk n a) : cnfCheck n G = 0 := by
  rw [cnfCheck_find (by omega) (by omega), List.find?_eq_none.2 ?_]
  intro d hd
  obtain ⟨h1, h2⟩ := h d hd
  rw [litCheck_ok (by omega) (by omega)]
  · simp
  · rw [List.any_eq_false]
    intro a ha
    have := h2 a ha
    unfold LitOk at this
    simp [badLit]
    omega

theorem drop_rev {c : List Int} {k : Nat} {x : Int} (h : c[k]? = some x) : (c.drop k).reverse = (c.drop (k + 1)).reverse ++ [x] := by
  have hk := (List.getElem?_eq_some_iff.1 h).1
  rw [List.drop_eq_getElem_cons hk]
  simp [(List.getElem?_eq_some_iff.1 h).2]

/-- T holds the numbers of A from i on. -/
def TI (A : List Int) (i : Nat) (T : List Int) : Prop := (∀ a, a ∈ T ↔ a ∈ A.drop i) ∧ T.length + 2 * i ≤ 2 * A.length

theorem ti_start (A : List Int) : TI A A.length [] := ⟨fun a => by simp, by simp⟩

theorem ti_step {A T : List Int} {i : Nat} {x : Int} (h : TI A (i + 1) T) (hx : A[i]? = some x) : TI A i (T ++ [x, x]) := by
  have hk := (List.getElem?_eq_some_iff.1 hx).1
  have h2 := h.2
  refine ⟨fun a => ?_, by simp; omega⟩
  rw [List.drop_eq_getElem_cons hk, List.mem_append, h.1 a]
  simp [(List.getElem?_eq_some_iff.1 hx).2]
  constructor
  · rintro (h | h)
    · exact .inr h
    · exact .inl h
  · rintro (h | h)
    · exact .inr h
    · exact .inl h

end Go.Proofs.Ytacmfiikdbekbaa.Ord

/- Plain facts for gate: what prop.Units answers for a circuit. -/
namespace Go.Proofs.Ytacmfiikdbekbaa.Ord
open Go.RowKit

theorem GS.check {X : Nat → Prop} {w : World} {B b m n : Nat} {G : List (List Int)} {A K : List Int} (h : GS X w B b m n G A K) (hm : m ≤ 100000) : cnfCheck n G = 0 ∧ FOk G ∧ (∀ a ∈ A, LitOk n a) ∧ G.length ≤ 1048576 ∧ n ≤ 1048576 := by
  have h1 := h.nm
  have h2 := h.gm
  refine ⟨check_of (by omega) (by omega) fun d hd => ⟨h.cl d hd, h.circ.cls d hd⟩, fun c hc => ⟨fun x hx => ?_, by have := h.cl c hc; omega⟩, fun a ha => h.circ.ok a (h.circ.asm a ha), by omega, by omega⟩
  have := h.circ.cls c hc x hx
  unfold LitOk at this
  unfold I64
  omega

/-- What Units answers for a circuit. -/
def unG (n : Nat) (K : List Int) : List Int := byVar n fun a => decide (a ∈ K)

theorem GS.units {X : Nat → Prop} {w : World} {B b m n : Nat} {G : List (List Int)} {A K : List Int} (h : GS X w B b m n G A K) (hm : m ≤ 100000) : unitsV n G A = (unG n K, false, 0) := by
  obtain ⟨h1, h2, h3, h4, h5⟩ := h.check hm
  refine unitsV_closedG K h1 ?_ h.circ.closed rfl
  rw [List.any_eq_false]
  intro a ha
  rw [not_bad (h3 a ha)]
  simp

theorem hasG_un {n : Nat} {G : List (List Int)} {A K : List Int} (h : Circ n G A K) {a : Int} {v : Bool} (ha : Vl K a v) : hasG (unG n K) a = v ∧ hasG (unG n K) (-a) = !v := by
  have key : ∀ x, LitOk n x → hasG (unG n K) x = decide (x ∈ K) := by
    intro x hx
    unfold hasG unG
    by_cases hk : x ∈ K
    · rw [List.any_eq_true.2 ⟨x, mem_byVar.2 ⟨hx, by simpa using hk⟩, by simp⟩]
      simp [hk]
    · rw [List.any_eq_false.2]
      · simp [hk]
      · intro y hy
        have := (mem_byVar.1 hy).2
        simp only [decide_eq_true_eq] at this
        simp
        rintro rfl
        exact hk this
  have h1 := h.dk.1 ha.1
  have h2 : LitOk n (-a) := by unfold LitOk at *; omega
  rw [key a h1, key (-a) h2]
  have h3 := h.tv_neg ha.1
  unfold tv at h3
  rw [h3]
  have := ha.2
  unfold tv at this
  rw [this]
  exact ⟨rfl, rfl⟩

theorem unG_length (n : Nat) (K : List Int) : (unG n K).length ≤ 2 * n := byVar_length n _

end Go.Proofs.Ytacmfiikdbekbaa.Ord
