/- Plain: what is known, assumed again. -/
import Derived.Test.YtfmahgobogelkaaQ0
import Derived.Test.YtfmahgobogelkaaQ4
import Derived.Test.YtfmahgobogelkaaQPropU
import Derived.Test.YtfmahgobogelkaaQRef04
import Derived.Test.YtfmahgobogelkaaQ5
import Derived.Test.YtfmahgobogelkaaQ2
import Derived.Test.YtfmahgobogelkaaQ7

namespace Go.Proofs.Ytfmahgobogelkaa

theorem der_cut {C : List (List Int)} {A A' : List Int} (h : ∀ a ∈ A', Der C A a) {a : Int} (hd : Der C A' a) : Der C A a := by
  induction hd with
  | asm ha => exact h _ ha
  | unit hc hl _ ih => exact .unit hc hl ih

theorem bad_cut {C : List (List Int)} {A A' : List Int} (h : ∀ a ∈ A', Der C A a) (hb : Bad C A') : Bad C A := by
  rcases hb with ⟨a, h1, h2⟩ | ⟨c, hc, hl⟩
  · exact .inl ⟨a, der_cut h h1, der_cut h h2⟩
  · exact .inr ⟨c, hc, fun l hlc => der_cut h (hl l hlc)⟩

theorem up_again {n : Nat} {C : List (List Int)} {A : List Int} (hC : ClsOk n C) (hA : ∀ a ∈ A, LitOk n a) (hb : ¬ Bad C A) : upL n C (upL n C A) = upL n C A ∧ upF C (upL n C A) = false := by
  have hm := fun a => @mem_upL n C A hC hA hb a
  have h1 : ∀ a ∈ upL n C A, Der C A a := fun a ha => (hm a).1 ha
  obtain ⟨e1, e2⟩ := up_congr (n := n) (C := C) (C' := C) (A := upL n C A) (A' := A) ⟨bad_cut h1, fun h => (hb h).elim⟩ fun _ a => ⟨der_cut h1, fun h => .asm ((hm a).2 h)⟩
  exact ⟨e1, e2.trans (upF_false.2 hb)⟩

theorem upL_ok {n : Nat} {C : List (List Int)} {A : List Int} : ∀ a ∈ upL n C A, LitOk n a := by
  intro a ha
  unfold upL at ha
  split at ha
  · cases ha
  · exact (mem_byVar.1 ha).1

theorem sub_take (F : List (List Int)) (k : Nat) : Sub (F.take k) F := fun c hc => ⟨c, List.mem_of_mem_take hc, fun _ => Iff.rfl⟩

theorem upF_mono {F : List (List Int)} {A : List Int} (d k : Nat) (h : upF (F.take d) (A.take k) = true) : upF F A = true :=
  upF_true.2 (bad_mono (sub_take F d) (fun _ h => List.mem_of_mem_take h) (upF_true.1 h))

theorem upL_mono {n : Nat} {F : List (List Int)} {A : List Int} (hF : ClsOk n F) (hA : ∀ a ∈ A, LitOk n a) (d k : Nat) (h : upF F A = false) : ∀ a ∈ upL n (F.take d) (A.take k), a ∈ upL n F A := by
  intro a ha
  have hb := upF_false.1 h
  have hb2 : ¬ Bad (F.take d) (A.take k) := fun hh => hb (bad_mono (sub_take F d) (fun _ h => List.mem_of_mem_take h) hh)
  have hd := (mem_upL (fun c hc => hF c (List.mem_of_mem_take hc)) (fun a ha => hA a (List.mem_of_mem_take ha)) hb2).1 ha
  exact (mem_upL hF hA hb).2 (der_mono (sub_take F d) (fun _ h => List.mem_of_mem_take h) hd)

theorem byVar_length (n : Nat) (p : Int → Bool) : (byVar n p).length ≤ 2 * n := by
  induction n with
  | zero => simp [byVar]
  | succ n ih =>
    rw [byVar_succ, List.length_append, List.length_append]
    have h1 : (if p ((n : Int) + 1) then [(n : Int) + 1] else []).length ≤ 1 := by split <;> simp
    have h2 : (if p (-((n : Int) + 1)) then [-((n : Int) + 1)] else []).length ≤ 1 := by split <;> simp
    omega

theorem upL_length (n : Nat) (C : List (List Int)) (A : List Int) : (upL n C A).length ≤ 2 * n := by
  unfold upL
  split
  · simp
  · exact byVar_length n _

theorem clsok_fit {n : Nat} (x : Int) (hn : (n : Int) = fitV x) (l : List (List Int)) : ClsOk n (fitF x l) := by
  intro c hc a ha
  simp only [fitF, List.mem_map] at hc
  obtain ⟨c', _, rfl⟩ := hc
  have hr := fitV_range x
  obtain ⟨h1, h2, h3⟩ := mem_fitC (by omega) ha
  exact ⟨h1, by omega, by omega⟩

end Go.Proofs.Ytfmahgobogelkaa

/- The contract of prop.Units for any formula and any numbers. -/
namespace Go.Proofs.Ytfmahgobogelkaa.Ord
open Go.RowKit Go.Conc

attribute [local go_sem ↓] Go.wp_at_zero Go.wp_at_succ

set_option maxRecDepth 100000 in
set_option maxHeartbeats 4000000 in
theorem prop_UnitsE (n : Int) (e1 : Int) (acl : Option Addr) (F : List (List Int)) (mf cf : Nat) (aas : Option Addr) (A : List Int) (ma cas : Nat) (w : World) (he : cnfCheck n F = e1) (h0 : e1 ≠ 0) (hmf : mf = F.length) (hf : FOk F) (hr : Rws w acl F) (hFl : F.length ≤ 9223372036854775807) :
    Calls Try.prog 50 #[.agg #[.int .i64 n, .slice acl mf cf], .slice aas ma cas] w (refUnitsR n F A w) := by
  subst hmf
  have HE := hid he
  have HZ := hid h0
  have hz' : (e1 != 0) = true := by simpa using h0
  have HF := hid hf
  have HR := hid (hr.below (box_below w (fbox n acl F.length cf)))
  have hb2 : Below w.heap.size w ((w.alloc (fbox n acl F.length cf)).alloc (fbox n acl F.length cf)) := below_al (box_below _ _) (by simp only [size_al]; omega) _
  have HB2 := hid hb2
  clear he h0 hf hr hb2
  go_enter Try.func50, Try.ntmps50
  go_wp2_with fail
  refine (cnf_CheckR n acl F _ cf e1 _ HE.out rfl HF.out HR.out hFl).mono ?_
  rintro e wx ⟨rfl, rfl⟩
  go_wp2_with fail
  go_ret3
  exact refUnitsR_err HE.out HZ.out HB2.out

set_option maxRecDepth 100000 in
set_option maxHeartbeats 4000000 in
theorem prop_UnitsA (n : Nat) (acl : Option Addr) (F : List (List Int)) (mf cf : Nat) (aas : Option Addr) (A : List Int) (ma cas : Nat) (w : World) (he : cnfCheck n F = 0) (hn : n ≤ 1048576) (hmf : mf = F.length) (hma : ma = A.length) (hf : FOk F) (hr : Rws w acl F) (hs : SlV w aas (ints A)) (hFl : F.length ≤ 9223372036854775807) (hAl : A.length ≤ 4294967296)
    (hb : A.any (badLit n) = true) :
    Calls Try.prog 50 #[.agg #[.int .i64 n, .slice acl mf cf], .slice aas ma cas] w (refUnitsR n F A w) := by
  subst hmf
  subst hma
  have HE := hid he
  have HF := hid hf
  have HR := hid (hr.below (box_below w (fbox n acl F.length cf)))
  have HS := hid hs
  have HBD := hid hb
  have hb2 : Below w.heap.size w ((w.alloc (fbox n acl F.length cf)).alloc (fbox n acl F.length cf)) := below_al (box_below _ _) (by simp only [size_al]; omega) _
  have HB2 := hid hb2
  clear he hf hr hs hb hb2
  go_enter Try.func50, Try.ntmps50
  go_wp2_with fail
  refine (cnf_CheckR n acl F _ cf 0 _ HE.out rfl HF.out HR.out hFl).mono ?_
  rintro e wx ⟨rfl, rfl⟩
  have HS2 := hid (HS.out.below HB2.out)
  have hc20 := (box_cells n acl F.length cf w (fbox n acl F.length cf)).1
  generalize hw1 : (w.alloc _).alloc _ = w1 at HS2 hc20 ⊢
  rw [hw1] at HB2
  clear hw1
  go_wp2_with fail
  go_loop [31] (fun s31 => ∃ k : Nat, s31 = .int .i64 k ∧ k ≤ A.length ∧ Hid ((A.take k).any (badLit n) = false)) (fun s31 => (A.length - (intOf s31)).toNat)
  case atStart => exact ⟨0, rfl, Nat.zero_le _, by simp [Hid]⟩
  case round =>
    obtain ⟨k, rfl, hk, hany⟩ := hrel
    by_cases hlt : k < A.length
    · obtain ⟨bo, oo, x, rfl, hcx, hxk⟩ := HS2.out.int hlt
      have HX := hid hxk
      clear hxk
      have hwn : IntKind.i64.wrap (-(n : Int)) = -(n : Int) := IntWalk.i64_in _ (by omega)
      by_cases hb : badLit n x = true
      · have HBX := hid hb
        rcases lit_bad_of hb with h0 | h0 | h0
        · have d0 : (x == 0) = true := by rw [h0]; rfl
          clear h0 hb
          go_wp2_with fail
          go_ret3
          exact refUnitsR_arg HE.out HX.out HBX.out HB2.out
        · have d0 : (x == 0) = false := by rw [beq_eq_false_iff_ne]; omega
          have d1 : decide ((n : Int) < x) = true := decide_eq_true h0
          clear h0 hb
          go_wp2_with fail
          go_ret3
          exact refUnitsR_arg HE.out HX.out HBX.out HB2.out
        · have d0 : (x == 0) = false := by rw [beq_eq_false_iff_ne]; omega
          have d1 : decide ((n : Int) < x) = false := decide_eq_false (by omega)
          have d2 : decide (x < -(n : Int)) = true := decide_eq_true h0
          clear h0 hb
          go_wp2_with fail
          go_ret3
          exact refUnitsR_arg HE.out HX.out HBX.out HB2.out
      · have hb' : badLit n x = false := by simpa using hb
        have hx := lit_ok_of hb'
        unfold LitOk at hx
        have d0 : (x == 0) = false := by rw [beq_eq_false_iff_ne]; exact hx.1
        have d1 : decide ((n : Int) < x) = false := decide_eq_false (by omega)
        have d2 : decide (x < -(n : Int)) = false := decide_eq_false (by omega)
        have HN := hid (take_any_succ HX.out hany.out hb')
        have hwk : IntKind.i64.wrap ((k : Int) + 1) = (k : Int) + 1 := IntWalk.i64_in _ (by omega)
        clear hb hb' hx
        go_wp2_with fail
        go_round
        case rel => exact ⟨k + 1, by simp, hlt, HN⟩
        case measure => simp [intOf]; omega
    · exfalso
      have h1 := take_all_false hlt hany.out
      rw [HBD.out] at h1
      cases h1

/-- prop.Units, whatever it is given. -/
theorem prop_UnitsV (n : Int) (acl : Option Addr) (F : List (List Int)) (mf cf : Nat) (aas : Option Addr) (A : List Int) (ma cas : Nat) (w : World) (hmf : mf = F.length) (hma : ma = A.length) (hf : FOk F) (hr : Rws w acl F) (hs : SlV w aas (ints A)) (hFl : F.length ≤ 9223372036854775807) (hAl : A.length ≤ 4294967296) :
    Calls Try.prog 50 #[.agg #[.int .i64 n, .slice acl mf cf], .slice aas ma cas] w (refUnitsR n F A w) := by
  by_cases h0 : cnfCheck n F = 0
  · obtain ⟨v1, v2, v3, v4, v5⟩ := cnf_valid h0
    obtain ⟨n, rfl⟩ := Int.eq_ofNat_of_zero_le v1
    by_cases hb : A.any (badLit n) = true
    · exact prop_UnitsA n acl F mf cf aas A ma cas w h0 (by omega) hmf hma hf hr hs hFl hAl hb
    · have hb' : A.any (badLit n) = false := by simpa using hb
      refine (prop_Units n acl F mf cf aas A ma cas w (by omega) hmf hma hf hr hs v3 hAl (fun c hc => Nat.le_trans (v4 c hc) (by omega)) h0 v5 (asm_ok_of hb')).mono ?_
      rintro e w' ⟨h1, ar, cr, h2, h3⟩
      refine ⟨h1, ar, cr, ?_, ?_⟩
      · rw [unitsV_ok h0 hb']; exact h2
      · rw [unitsV_ok h0 hb']; exact h3
  · exact prop_UnitsE n _ acl F mf cf aas A ma cas w rfl h0 hmf hf hr hFl

theorem unitsV_length (n : Int) (F : List (List Int)) (A : List Int) : (unitsV n F A).1.length ≤ 2097152 := by
  unfold unitsV
  split
  · rename_i h
    have h1 := cnf_valid h
    split
    · show (upL n.toNat F A).length ≤ 2097152
      have := upL_length n.toNat F A
      omega
    · simp
  · simp

theorem box_cellsI (n : Int) (acl : Option Addr) (m cf : Nat) (w : World) (o : Obj) : ((w.alloc (fbox n acl m cf)).alloc o).cell? ⟨w.heap.size, 0, none⟩ = some (.int .i64 n) ∧ ((w.alloc (fbox n acl m cf)).alloc o).cell? ⟨w.heap.size, 1, none⟩ = some (.slice acl m cf) := by
  have hb : ((w.alloc (fbox n acl m cf)).alloc o).heap[w.heap.size]? = some (fbox n acl m cf) := (Below.heap_alloc _ _ _ (by simp)).trans (heap_alloc_new _ _)
  unfold fbox at hb ⊢
  constructor <;> simp [World.cell?, hb]

theorem prop_UnitsN (n : Int) (acl : Option Addr) (F : List (List Int)) (mf cf : Nat) (aas : Option Addr) (A : List Int) (ma cas : Nat) (U : List Int) (b : Bool) (g : Int) (w : World) (hU : unitsV n F A = (U, b, g)) (hmf : mf = F.length) (hma : ma = A.length) (hf : FOk F) (hr : Rws w acl F) (hs : SlV w aas (ints A)) (hFl : F.length ≤ 9223372036854775807) (hAl : A.length ≤ 4294967296) :
    Calls Try.prog 50 #[.agg #[.int .i64 n, .slice acl mf cf], .slice aas ma cas] w fun e w' => Below w.heap.size w w' ∧ ∃ ar cr, e = .returned (.tuple #[.slice ar U.length cr, .bool b, .int .i64 g]) ∧ SlV w' ar (ints U) := by
  have := prop_UnitsV n acl F mf cf aas A ma cas w hmf hma hf hr hs hFl hAl
  unfold refUnitsR at this
  rwa [hU] at this

theorem ref_UnitsN (n : Int) (acl : Option Addr) (F : List (List Int)) (mf cf : Nat) (aas : Option Addr) (A : List Int) (ma cas : Nat) (U : List Int) (b : Bool) (g : Int) (w : World) (hU : unitsV n F A = (U, b, g)) (hmf : mf = F.length) (hma : ma = A.length) (hf : FOk F) (hr : Rws w acl F) (hs : SlV w aas (ints A)) (hA : ∀ a ∈ A, I64 a) (hFl : F.length ≤ 9223372036854775807) (hAl : A.length ≤ 4294967296) :
    Calls Try.prog 71 #[.agg #[.int .i64 n, .slice acl mf cf], .slice aas ma cas] w fun e w' => Below w.heap.size w w' ∧ ∃ ar cr, e = .returned (.tuple #[.slice ar U.length cr, .bool b, .int .i64 g]) ∧ SlV w' ar (ints U) := by
  have := ref_Units n acl F mf cf aas A ma cas w hmf hma hf hr hs hA hFl hAl
  unfold refUnitsR at this
  rwa [hU] at this

end Go.Proofs.Ytfmahgobogelkaa.Ord

/- The contract of rup.Check. -/
namespace Go.Proofs.Ytfmahgobogelkaa.Ord
open Go.RowKit Go.Conc

attribute [local go_sem ↓] Go.wp_at_zero Go.wp_at_succ
attribute [local go_sem ↓ high] app_mark

/-- What Check leaves. -/
def rupR (n : Int) (F P : List (List Int)) (w : World) (e : Ending) (w' : World) : Prop :=
  e = .returned (.tuple #[.int .i64 (rupV n F P).1, .int .i64 (rupV n F P).2]) ∧ Below w.heap.size w w'

theorem rupV_err {n e : Int} {F P : List (List Int)} (h : rupErr n F P = e) (h0 : e ≠ 0) : rupV n F P = (0, e) := by
  unfold rupV
  rw [h, if_neg h0]

theorem rupErr_cnf {n e : Int} {F : List (List Int)} (h : cnfCheck n F = e) (h0 : e ≠ 0) (P : List (List Int)) : rupErr n F P = e := by
  unfold rupErr
  rw [h, if_neg h0]

theorem rupErr_at {n e : Int} {F P : List (List Int)} (h : cnfCheck n F = 0) {k : Nat} {c : List Int} (hb : ∀ d ∈ P.take k, litCheck n d = 0) (hc : P[k]? = some c) (he : litCheck n c = e) (h0 : e ≠ 0) : rupErr n F P = e := by
  obtain ⟨hk, hkc⟩ := List.getElem?_eq_some_iff.1 hc
  have hf : P.find? (fun c => litCheck n c != 0) = some c := by
    have e1 : P = P.take k ++ c :: P.drop (k + 1) := by rw [← hkc, ← List.drop_eq_getElem_cons hk, List.take_append_drop]
    rw [e1, List.find?_append, List.find?_eq_none.2 (fun d hd => by simp [hb d hd]), List.find?_cons_of_pos (by rw [he]; simpa using h0)]
    rfl
  unfold rupErr
  rw [if_pos h, hf]
  exact he

theorem rupErr_ok {n : Int} {F P : List (List Int)} (h : cnfCheck n F = 0) (hb : ∀ d ∈ P, litCheck n d = 0) : rupErr n F P = 0 := by
  unfold rupErr
  rw [if_pos h, List.find?_eq_none.2 (fun d hd => by simp [hb d hd])]

theorem rupV_at {n : Int} {F P : List (List Int)} (h : rupErr n F P = 0) {k : Nat} {c : List Int} (ha : ∀ (i : Nat) (c : List Int), i < k → P[i]? = some c → upF (F ++ P.take i) (negs c) = true) (hc : P[k]? = some c) (hn : upF (F ++ P.take k) (negs c) = false) : rupV n F P = ((k : Int), 0) := by
  have e := rupGo_at ha hc hn
  have hk := (List.getElem?_eq_some_iff.1 hc).1
  unfold rupV
  rw [if_pos h, e, if_pos hk]

theorem rupV_all {n : Int} {F P : List (List Int)} (h : rupErr n F P = 0) (ha : ∀ (i : Nat) (c : List Int), i < P.length → P[i]? = some c → upF (F ++ P.take i) (negs c) = true) : rupV n F P = (if P.getLast? = some [] then -1 else (P.length : Int), 0) := by
  have e1 := rupGo_ge ha (Nat.le_refl _)
  have e2 := rupGo_le F P
  unfold rupV
  rw [if_pos h, if_neg (by omega)]

theorem lits_of_check {n : Nat} {c : List Int} (h : litCheck n c = 0) : (∀ x ∈ c, LitOk n x) ∧ c.length ≤ 4096 := by
  unfold litCheck at h
  split at h
  · cases h
  · split at h
    · cases h
    · split at h
      · cases h
      · rename_i h1 h2 h3
        refine ⟨fun x hx => ?_, by omega⟩
        have h4 : badLit n x = false := by
          by_cases q : badLit n x = true
          · exact absurd (List.any_eq_true.2 ⟨x, hx, q⟩) h3
          · simpa using q
        unfold badLit at h4
        simp only [Bool.or_eq_false_iff, beq_eq_false_iff_ne, decide_eq_false_iff_not] at h4
        unfold LitOk
        omega

set_option maxRecDepth 100000 in
set_option maxHeartbeats 8000000 in
theorem rup_Check (n : Int) (acl : Option Addr) (F : List (List Int)) (mf cf : Nat) (apl : Option Addr) (P : List (List Int)) (mp cp : Nat) (w : World) (hmf : mf = F.length) (hmp : mp = P.length) (hf : FOk F) (hr : Rws w acl F) (hp : FOk P) (hrp : Rws w apl P) (hFl : F.length ≤ 9223372036854775807) (hPl : P.length ≤ 2199022206975) :
    Calls Try.prog 42 #[.agg #[.int .i64 n, .slice acl mf cf], .slice apl mp cp] w (rupR n F P w) := by
  subst hmf hmp
  have hmfn : ∀ (fn : Fn) (first cap : Array Value) (w : World), (Instr.makeFunc fn first cap).run Try.prog w = .ok (.func fn first cap) w := fun _ _ _ _ => rfl
  obtain ⟨Q, hQ⟩ : ∃ Q : Ending → World → Prop, rupR n F P w = Q := ⟨_, rfl⟩
  rw [hQ]
  have HQ := hid hQ
  clear hQ
  obtain ⟨e1, he1⟩ : ∃ e, cnfCheck n F = e := ⟨_, rfl⟩
  have HR := hid hr
  have HF := hid (And.intro hf hp)
  have HRP := hid hrp
  by_cases h0 : e1 = 0
  · subst h0
    obtain ⟨v1, v2, v3, v4, v5⟩ := cnf_valid he1
    obtain ⟨n, rfl⟩ := Int.eq_ofNat_of_zero_le v1
    have hok : ClsOk n F := v5
    have HV := hid (And.intro he1 (And.intro hok v4))
    have HBB : Hid (Below w.heap.size w ((w.alloc (fbox n acl F.length cf)).alloc (fbox n acl F.length cf))) := hid (below_al (box_below _ _) (by simp only [size_al]; omega) _)
    have HB := hid (hr.below (box_below w (fbox n acl F.length cf)))
    obtain ⟨k0, k1⟩ := box_cellsI n acl F.length cf w (fbox n acl F.length cf)
    have hn20 : n ≤ 1048576 := by omega
    clear he1 v1 v2 v4 v5 hok hr hf hp hrp
    go_enter Try.func42, Try.ntmps42
    go_wp2_with fail
    refine (cnf_CheckR n acl F _ cf 0 _ HV.out.1 rfl HF.out.1 HB.out hFl).mono ?_
    rintro e wx ⟨rfl, hwx⟩
    obtain ⟨wB, hwB⟩ : ∃ x, ((w.alloc (fbox n acl F.length cf)).alloc (fbox n acl F.length cf)) = x := ⟨_, rfl⟩
    have hwx2 : wx = wB := by rw [← hwx, ← hwB]
    subst hwx2
    rw [hwB] at HBB k0 k1
    clear hwx hwB HB
    obtain ⟨N, hN⟩ : ∃ N, P.length = N := ⟨_, rfl⟩
    rw [hN] at hPl ⊢
    have HN := hid hN
    clear hN
    go_wp2_with fail
    go_loop [24] (fun s24 => ∃ k : Nat, s24 = .int .i64 k ∧ k ≤ N ∧ Hid (∀ d ∈ P.take k, litCheck n d = 0)) (fun s24 => (N - (intOf s24)).toNat)
    case atStart => exact ⟨0, rfl, by omega, hid (by simp)⟩
    case round =>
      obtain ⟨k, rfl, hkN, HJ⟩ := hrel
      by_cases hlt : k < N
      · have hlt2 : (k : Int) < N := by omega
        obtain ⟨b, off, c, ac, cc, hap, hcell, hcs, hck, hc64, hcl, hcc, hc0⟩ := (HRP.out.below HBB.out).row HF.out.2 (k := k) (by rw [HN.out]; exact hlt)
        subst hap
        obtain ⟨e2, he2⟩ : ∃ e, litCheck n c = e := ⟨_, rfl⟩
        have hwk : IntKind.i64.wrap ((k : Int) + 1) = (k : Int) + 1 := IntWalk.i64_in _ (by omega)
        have HCALL := hid (lit_CheckR n ac c c.length cc e2 wx he2 rfl hc64 hcs hcl)
        have HCK := hid (And.intro hck he2)
        clear hcs hck hc64 hcl hcc hc0 he2
        by_cases hz : e2 = 0
        · subst hz
          go_wp2_with fail
          refine HCALL.out.mono ?_
          rintro e w2 ⟨rfl, rfl⟩
          go_wp2_with fail
          go_round
          case rel => exact ⟨k + 1, by simp, by omega, hid fun d hd => by
            rw [List.take_add_one, HCK.out.1] at hd
            rcases List.mem_append.1 hd with q | q
            · exact HJ.out d q
            · have : d = c := by simpa using q
              rw [this]; exact HCK.out.2⟩
          case measure => simp [intOf]; omega
        · have hz' : (e2 != 0) = true := by simpa using hz
          have HE : Hid (Q (.returned (.tuple #[.int .i64 0, .int .i64 e2])) wx) := hid (by
            rw [← HQ.out]
            unfold rupR
            rw [rupV_err (rupErr_at HV.out.1 HJ.out HCK.out.1 HCK.out.2 hz) hz]
            exact ⟨rfl, HBB.out⟩)
          clear hz
          go_wp2_with fail
          refine HCALL.out.mono ?_
          rintro e w2 ⟨rfl, rfl⟩
          go_wp2_with fail
          exact HE.out
      · have hke : k = N := by omega
        subst hke
        have hlt2 : ¬ (k : Int) < k := by omega
        have HPOK : Hid (∀ d ∈ P, litCheck n d = 0) := hid fun d hd => HJ.out d (by rw [List.take_of_length_le (by rw [HN.out]; exact Nat.le_refl _)]; exact hd)
        clear HJ hlt hkN
        have hm1 := fun w : World => run_makeMap_plain (P := Try.prog) w 90
        have hm2 := fun w : World => run_makeMap_plain (P := Try.prog) w 91
        have hk1 : ∀ o1 o2 o3 o4 : Obj, ((((wx.alloc o1).alloc o2).alloc o3).alloc o4).cell? ⟨w.heap.size, 1, none⟩ = some (.slice acl F.length cf) := fun o1 o2 o3 o4 => below_keeps (box_below _ o4) _ _ (below_keeps (box_below _ o3) _ _ (below_keeps (box_below _ o2) _ _ (below_keeps (box_below _ o1) _ _ k1)))
        obtain ⟨M, hM⟩ : ∃ M, F.length = M := ⟨_, rfl⟩
        rw [hM] at hk1 v3 hFl ⊢
        have HM := hid hM
        clear hM
        go_wp2_with fail
        clear hm1 hm2 hk1
        generalize hwS : (((wx.alloc _).alloc _).alloc _).alloc _ = wS
        obtain ⟨hE, hC0⟩ := ck_start w wx wS n HBB.out hwS
        generalize wx.heap.size + 1 + 1 + 1 = b1 at hE hwS ⊢
        generalize wx.heap.size + 1 + 1 = bx at hE hC0 hwS ⊢
        generalize wx.heap.size + 1 = bk at hE hC0 hwS
        generalize wx.heap.size = bw at hE hC0 hwS
        have HE := hid hE
        have HC0 : Hid (CK w wS bx bw bk n (F.take 0) wS false) := hid (by rw [List.take_zero]; exact hC0)
        clear hE hC0 hwS k0 k1
        go_loopw [12, 45] (fun s12 s45 wr => ∃ (k : Nat) (b : Bool), s45 = .int .i64 k ∧ k ≤ M ∧ s12 = .bool b ∧ Hid (CK w wS bx bw bk n (F.take k) wr b)) (fun _ s45 _ => (M - (intOf s45)).toNat)
        case atStart => exact ⟨0, false, rfl, by omega, rfl, HC0⟩
        case round =>
          obtain ⟨j, b, rfl, hjM, rfl, HK⟩ := hrel
          by_cases hlt : j < M
          · have hlt2 : (j : Int) < M := by omega
            have hBr := HE.out.below HK.out.t
            obtain ⟨bf, off, c, ac, cc, hap, hcell, hcs, hck, hc64, hcl, hcc, hc0⟩ := HR.out.row HF.out.1 (k := j) (by rw [HM.out]; exact hlt)
            subst hap
            have hcell2 := below_keeps hBr _ _ hcell
            have hwk : IntKind.i64.wrap ((j : Int) + 1) = (j : Int) + 1 := IntWalk.i64_in _ (by omega)
            have hcm := List.mem_of_getElem? hck
            have htk : F.take (j + 1) = F.take j ++ [c] := by rw [List.take_add_one, hck]; rfl
            have HCC := hid (And.intro hcs (And.intro hcc (And.intro hc0 (And.intro (HV.out.2.1 c hcm) (And.intro (HV.out.2.2 c hcm) htk)))))
            clear hBr hcell hcs hck hc64 hcl hcc hc0 hcm htk
            cases b with
            | true =>
              go_wp2_with fail
              go_roundw
              case rel => exact ⟨j + 1, true, by simp, by omega, rfl, hid (by rw [HCC.out.2.2.2.2.2]; exact (HK.out.more c).al _)⟩
              case measure => simp [intOf]; omega
            | false =>
              have HCALL := hid (ck_add1 (b2 := wr.heap.size) HE.out (HK.out.al (.cells #[.slice ac c.length cc] 22)) hn20 (by rw [List.length_take]; omega) HCC.out.2.1 HCC.out.2.2.1 HCC.out.2.2.2.1 (by have := HCC.out.2.2.2.2.1; omega) HCC.out.1 (heap_alloc_new _ _))
              go_wp2_with fail
              refine HCALL.out.mono ?_
              rintro e w5 ⟨b', rfl, hck⟩
              have HCK := hid hck
              clear hck hcell2
              go_wp2_with fail
              go_roundw
              case rel => exact ⟨j + 1, b', by simp, by omega, rfl, hid (by rw [HCC.out.2.2.2.2.2]; exact HCK.out)⟩
              case measure => simp [intOf]; omega
          · have hje : j = M := by omega
            subst hje
            have hlt2 : ¬ (j : Int) < j := by omega
            have HC1 : Hid (CK w wS bx bw bk n (F ++ P.take 0) wr b) := hid (by
              have := HK.out
              rw [List.take_of_length_le (by rw [HM.out]; exact Nat.le_refl _)] at this
              rw [List.take_zero, List.append_nil]
              exact this)
            have HA0 : Hid (∀ (i : Nat) (c : List Int), i < 0 → P[i]? = some c → upF (F ++ P.take i) (negs c) = true) := hid fun i c hi => by omega
            clear HK hlt hjM
            go_wp2_with fail
            go_loopw [12, 57] (fun s12 s57 wr => ∃ (j : Nat) (b : Bool), s57 = .int .i64 j ∧ j ≤ k ∧ s12 = .bool b ∧ Hid (CK w wS bx bw bk n (F ++ P.take j) wr b) ∧ Hid (∀ (i : Nat) (c : List Int), i < j → P[i]? = some c → upF (F ++ P.take i) (negs c) = true)) (fun _ s57 _ => (k - (intOf s57)).toNat)
            case atStart => exact ⟨0, b, rfl, by omega, rfl, HC1, HA0⟩
            case round =>
              obtain ⟨i, b, rfl, hik, rfl, HK, HA⟩ := hrel
              by_cases hlt : i < k
              · have hlt2 : (i : Int) < k := by omega
                have hBr := HE.out.below HK.out.t
                obtain ⟨bf, off, c, ac, cc, hap, hcell, hcs, hck, hc64, hcl, hcc, hc0⟩ := HRP.out.row HF.out.2 (k := i) (by rw [HN.out]; exact hlt)
                subst hap
                have hcell2 := below_keeps hBr _ _ hcell
                have hwk : IntKind.i64.wrap ((i : Int) + 1) = (i : Int) + 1 := IntWalk.i64_in _ (by omega)
                have hcm := List.mem_of_getElem? hck
                have htk : P.take (i + 1) = P.take i ++ [c] := by rw [List.take_add_one, hck]; rfl
                have hlk := lits_of_check (HPOK.out c hcm)
                have HCC := hid (And.intro hcs (And.intro hcc (And.intro hc0 (And.intro hlk.1 (And.intro hlk.2 htk)))))
                have HP2 := hid hck
                have HFO : Hid (ClsOk n (F ++ P.take i)) := hid fun d hd => by
                  rcases List.mem_append.1 hd with q | q
                  · exact HV.out.2.1 d q
                  · exact (lits_of_check (HPOK.out d (List.mem_of_mem_take q))).1
                have hGl : (F ++ P.take i).length ≤ 2199023255550 := by rw [List.length_append, List.length_take, HM.out]; omega
                clear hBr hcell hcs hck hc64 hcl hcc hc0 hcm htk hlk
                cases b with
                | true =>
                  have HA2 : Hid (∀ (t : Nat) (d : List Int), t < i + 1 → P[t]? = some d → upF (F ++ P.take t) (negs d) = true) := hid fun t d ht hd => by
                    by_cases q : t < i
                    · exact HA.out t d q hd
                    · have : t = i := by omega
                      subst this
                      exact HK.out.imp d
                  clear hGl
                  go_wp2_with fail
                  go_roundw
                  case rel => exact ⟨i + 1, true, by simp, by omega, rfl, hid (by rw [HCC.out.2.2.2.2.2, ← List.append_assoc]; exact (HK.out.more c).al _), HA2⟩
                  case measure => simp [intOf]; omega
                | false =>
                  have HIMP := hid (ck_implies (cc := cc) (mc := c.length) HE.out HK.out (.slice ac c.length cc) 22 hn20 (by omega) rfl HCC.out.2.2.2.1 (by have := HCC.out.2.2.2.2.1; omega) HFO.out HCC.out.1)
                  have HGL := hid hGl
                  clear hGl
                  go_wp2_with fail
                  refine HIMP.out.mono ?_
                  rintro e w5 ⟨rfl, hck, hb5⟩
                  have HCK := hid hck
                  cases hup : upF (F ++ P.take i) (negs c) with
                  | true =>
                    have HA2 : Hid (∀ (t : Nat) (d : List Int), t < i + 1 → P[t]? = some d → upF (F ++ P.take t) (negs d) = true) := hid fun t d ht hd => by
                      by_cases q : t < i
                      · exact HA.out t d q hd
                      · have : t = i := by omega
                        subst this
                        have := HP2.out.symm.trans hd
                        injection this with this
                        rw [← this]
                        exact hup
                    have HCALL := hid (ck_add2 (b2 := wr.heap.size) HE.out HCK.out hn20 HGL.out HCC.out.2.1 HCC.out.2.2.1 HCC.out.2.2.2.1 (by have := HCC.out.2.2.2.2.1; omega) HCC.out.1 hb5)
                    clear hck hb5 hup hcell2
                    go_wp2_with fail
                    refine HCALL.out.mono ?_
                    rintro e w6 ⟨b', rfl, hck⟩
                    have HCK2 := hid hck
                    clear hck
                    go_wp2_with fail
                    go_roundw
                    case rel => exact ⟨i + 1, b', by simp, by omega, rfl, hid (by rw [HCC.out.2.2.2.2.2, ← List.append_assoc]; exact HCK2.out), HA2⟩
                    case measure => simp [intOf]; omega
                  | false =>
                    have HF2 : Hid (Q (.returned (.tuple #[.int .i64 i, .int .i64 0])) w5) := hid (by
                      rw [← HQ.out]
                      unfold rupR
                      rw [rupV_at (rupErr_ok HV.out.1 HPOK.out) HA.out HP2.out hup]
                      exact ⟨rfl, HE.out.below HCK.out.t⟩)
                    clear hck hb5 hup hcell2
                    go_wp2_with fail
                    exact HF2.out
              · have hie : i = k := by omega
                subst hie
                have hlt2 : ¬ (i : Int) < i := by omega
                have hall := rupV_all (n := n) (F := F) (P := P) (rupErr_ok HV.out.1 HPOK.out) fun t d ht hd => HA.out t d (by rw [← HN.out]; exact ht) hd
                have HF2 : Hid (∀ r : Int, r = (if P.getLast? = some [] then -1 else (i : Int)) → Q (.returned (.tuple #[.int .i64 r, .int .i64 0])) wr) := hid fun r hr => by
                  rw [← HQ.out]
                  unfold rupR
                  rw [hall, HN.out, hr]
                  exact ⟨rfl, HE.out.below HK.out.t⟩
                clear hall hlt hik
                by_cases hi0 : i = 0
                · have hz : ¬ (0 : Int) < i := by omega
                  have HL : Hid ((i : Int) = (if P.getLast? = some [] then -1 else (i : Int))) := hid (by
                    have : P = [] := List.eq_nil_of_length_eq_zero (by rw [HN.out]; exact hi0)
                    rw [this]; rfl)
                  clear hi0
                  go_wp2_with fail
                  exact HF2.out _ HL.out
                · have hz : (0 : Int) < i := by omega
                  have hBr := HE.out.below HK.out.t
                  obtain ⟨bf, off, c, ac, cc, hap, hcell, hcs, hck, hc64, hcl, hcc, hc0⟩ := HRP.out.row HF.out.2 (k := i - 1) (by rw [HN.out]; omega)
                  subst hap
                  have hcell2 := below_keeps hBr _ _ hcell
                  have hwi : IntKind.i64.wrap ((i : Int) - 1) = (i : Int) - 1 := IntWalk.i64_in _ (by omega)
                  have HLST : Hid (P.getLast? = some c) := hid (by rw [List.getLast?_eq_getElem?, HN.out]; exact hck)
                  have hge : (0 : Int) ≤ (i : Int) - 1 := by omega
                  have hlt3 : (i : Int) - 1 < i := by omega
                  have htn : ((i : Int) - 1).toNat = i - 1 := by omega
                  by_cases hcz : c.length = 0
                  · have hd : ((c.length : Int) == 0) = true := by simp [hcz]
                    have HL : Hid ((-1 : Int) = (if P.getLast? = some [] then -1 else (i : Int))) := hid (by
                      rw [HLST.out, List.eq_nil_of_length_eq_zero hcz, if_pos rfl])
                    clear hcz hi0 hcell hcs hck hc64 hcl hcc hc0
                    go_wp2_with fail
                    exact HF2.out _ HL.out
                  · have hd : ((c.length : Int) == 0) = false := by simp; intro h; exact hcz (by simp [h])
                    have HL : Hid ((i : Int) = (if P.getLast? = some [] then -1 else (i : Int))) := hid (by
                      rw [HLST.out, if_neg (by intro h; injection h with h; exact hcz (by simp [h]))])
                    clear hcz hi0 hcell hcs hck hc64 hcl hcc hc0
                    go_wp2_with fail
                    exact HF2.out _ HL.out
  · have HE : Hid (Q (.returned (.tuple #[.int .i64 0, .int .i64 e1])) ((w.alloc (fbox n acl F.length cf)).alloc (fbox n acl F.length cf))) := hid (by
      rw [← HQ.out]
      unfold rupR
      rw [rupV_err (rupErr_cnf he1 h0 P) h0]
      exact ⟨rfl, below_al (box_below _ _) (by simp only [size_al]; omega) _⟩)
    have hz' : (e1 != 0) = true := by simpa using h0
    have HB := hid (hr.below (box_below w (fbox n acl F.length cf)))
    have HC := hid he1
    clear he1 h0 hr hf hp hrp
    go_enter Try.func42, Try.ntmps42
    go_wp2_with fail
    refine (cnf_CheckR n acl F _ cf e1 _ HC.out rfl HF.out.1 HB.out hFl).mono ?_
    rintro e wx ⟨rfl, rfl⟩
    go_wp2_with fail
    exact HE.out

end Go.Proofs.Ytfmahgobogelkaa.Ord

/- The contracts of rup.Implied and of the reference's Implied. -/
namespace Go.Proofs.Ytfmahgobogelkaa.Ord
open Go.RowKit Go.Conc

attribute [local go_sem ↓] Go.wp_at_zero Go.wp_at_succ
attribute [local go_sem ↓ high] app_mark

/-- What Implied answers. -/
noncomputable def impV (n : Int) (F : List (List Int)) (c : List Int) : Bool × Int := if cnfCheck n F = 0 then (if litCheck n c = 0 then (upF F (negs c), 0) else (false, litCheck n c)) else (false, cnfCheck n F)

theorem impV_err {n e : Int} {F : List (List Int)} (h : cnfCheck n F = e) (h0 : e ≠ 0) (c : List Int) : impV n F c = (false, e) := by
  unfold impV
  rw [h, if_neg h0]

theorem impV_lit {n e : Int} {F : List (List Int)} {c : List Int} (h : cnfCheck n F = 0) (h1 : litCheck n c = e) (h0 : e ≠ 0) : impV n F c = (false, e) := by
  unfold impV
  rw [if_pos h, h1, if_neg h0]

theorem impV_ok {n : Int} {F : List (List Int)} {c : List Int} (h : cnfCheck n F = 0) (h1 : litCheck n c = 0) : impV n F c = (upF F (negs c), 0) := by
  unfold impV
  rw [if_pos h, if_pos h1]

theorem negs_bad {n : Nat} {c : List Int} (h : ∀ x ∈ c, LitOk n x) : (negs c).any (badLit n) = false := by
  rw [List.any_eq_false]
  intro x hx
  have := h (-x) (mem_negs.1 hx)
  unfold LitOk at this
  unfold badLit
  simp
  omega

theorem negs_take (c : List Int) {k : Nat} {a : Int} (h : c[k]? = some a) : ints (negs (c.take (k + 1))) = ints (negs (c.take k)) ++ [.int .i64 (-a)] := by
  rw [List.take_add_one, h]
  simp [negs, ints]

/-- What Implied leaves. -/
def impliedR (n : Int) (F : List (List Int)) (c : List Int) (w : World) (e : Ending) (w' : World) : Prop :=
  e = .returned (.tuple #[.bool (impV n F c).1, .int .i64 (impV n F c).2]) ∧ Below w.heap.size w w'

set_option maxRecDepth 100000 in
set_option maxHeartbeats 8000000 in
theorem rup_Implied (n : Int) (acl : Option Addr) (F : List (List Int)) (mf cf : Nat) (ac : Option Addr) (c : List Int) (mc cc : Nat) (w : World) (hmf : mf = F.length) (hmc : mc = c.length) (hf : FOk F) (hr : Rws w acl F) (hx : ∀ x ∈ c, I64 x) (hs : SlV w ac (ints c)) (hFl : F.length ≤ 9223372036854775807) (hcl : c.length ≤ 9223372036854775807) :
    Calls Try.prog 43 #[.agg #[.int .i64 n, .slice acl mf cf], .slice ac mc cc] w (impliedR n F c w) := by
  subst hmf hmc
  obtain ⟨i0, hi0, hz0, hz1, hz2⟩ := info_parts info_int
  obtain ⟨Q, hQ⟩ : ∃ Q : Ending → World → Prop, impliedR n F c w = Q := ⟨_, rfl⟩
  rw [hQ]
  have HQ := hid hQ
  clear hQ
  obtain ⟨e1, he1⟩ : ∃ e, cnfCheck n F = e := ⟨_, rfl⟩
  have HF := hid (And.intro hf (And.intro hx hFl))
  have HB := hid (hr.below (box_below w (fbox n acl F.length cf)))
  have HBB : Hid (Below w.heap.size w ((w.alloc (fbox n acl F.length cf)).alloc (fbox n acl F.length cf))) := hid (below_al (box_below _ _) (by simp only [size_al]; omega) _)
  have HRS := hid (And.intro hr hs)
  by_cases h0 : e1 = 0
  · subst h0
    obtain ⟨v1, v2, v3, v4, v5⟩ := cnf_valid he1
    obtain ⟨n, rfl⟩ := Int.eq_ofNat_of_zero_le v1
    obtain ⟨k0, k1⟩ := box_cellsI n acl F.length cf w (fbox n acl F.length cf)
    have hn20 : n ≤ 1048576 := by omega
    obtain ⟨e2, he2⟩ : ∃ e, litCheck n c = e := ⟨_, rfl⟩
    have HCALL := hid (lit_CheckR n ac c c.length cc e2 _ he2 rfl hx (hs.below HBB.out) hcl)
    have HC := hid (And.intro he1 he2)
    by_cases hz : e2 = 0
    · subst hz
      obtain ⟨hlo, hl4⟩ := lits_of_check he2
      have HL := hid (And.intro hlo hl4)
      clear he1 he2 v1 v2 v3 v4 v5 hr hf hx hs hcl hlo
      obtain ⟨N, hN⟩ : ∃ N, c.length = N := ⟨_, rfl⟩
      rw [hN] at HCALL hl4 ⊢
      have HN := hid hN
      clear hN
      go_enter Try.func43, Try.ntmps43
      go_wp2_with fail
      refine (cnf_CheckR n acl F _ cf 0 _ HC.out.1 rfl HF.out.1 HB.out hFl).mono ?_
      rintro e wx ⟨rfl, rfl⟩
      go_wp2_with fail
      refine HCALL.out.mono ?_
      rintro e wx ⟨rfl, hwx⟩
      subst hwx
      generalize hwB : (w.alloc (fbox n acl F.length cf)).alloc (fbox n acl F.length cf) = wB at HBB k0 k1 ⊢
      clear hwB
      go_wp2_with (at_make; refine wpList_make_own _ rfl _ _ 22 rfl wB.heap.size 3 i0 (.int .i64 0) 1 Try.underlying22 hi0 hz0 hz1 _ _ _ N rfl rfl (by first | rfl | omega) (by rw [hz2]; omega) (by unfold maxLen; omega) (Nat.le_refl _) ?_; intro w6 ho6 hg6; have HO6 := hid ho6; have HB6 : Hid (Below wB.heap.size wB w6) := hid ((Below.refl _ _).grown hg6 (Nat.le_refl _) (fun q hq => (by cases hq))); clear ho6 hg6)
      go_loopw [8, 31] (fun s8 s31 wr => ∃ k : Nat, s31 = .int .i64 k ∧ k ≤ N ∧ Hid (wr.ownsRow wB.heap.size 3 1 s8 k (ints (negs (c.take k))) ∧ Below wB.heap.size wB wr)) (fun _ s31 _ => (N - (intOf s31)).toNat)
      case atStart => exact ⟨0, rfl, by omega, hid ⟨HO6.out, HB6.out⟩⟩
      case round =>
        clear HO6 HB6
        obtain ⟨k, rfl, hkN, HJ⟩ := hrel
        obtain ⟨a8, c8, hs8⟩ := own_lenV' HJ.out.1
        subst hs8
        by_cases hlt : k < N
        · have hlt2 : (k : Int) < N := by omega
          obtain ⟨a, ha⟩ : ∃ a, c[k]? = some a := ⟨_, List.getElem?_eq_getElem (by rw [HN.out]; exact hlt)⟩
          obtain ⟨b, off, hac, hca⟩ := (HRS.out.2.below (HBB.out.trans (HJ.out.2.mono HBB.out.size))) k (.int .i64 a) (ints_get ha)
          subst hac
          have hao := HL.out.1 a (List.mem_of_getElem? ha)
          have hwa : IntKind.i64.wrap (-a) = -a := IntWalk.i64_in _ (by unfold LitOk at hao; omega)
          have hwk : IntKind.i64.wrap ((k : Int) + 1) = (k : Int) + 1 := IntWalk.i64_in _ (by omega)
          have hB6 := HJ.out.2.size
          obtain ⟨a6, c6, w6, hr6, ho6, hg6, ha6⟩ := appM_one (P := Try.prog) (wr.alloc (.cells #[.int .i64 (-a)] 3 (0, 0))) wB.heap.size 22 22 3 i0 (.int .i64 0) 8 Try.underlying22 hi0 hz0 hz1 hz2 rfl (.slice a8 k c8) k (ints (negs (c.take k))) (HJ.out.1.alloc _) wr.heap.size (.int .i64 (-a)) (heap_alloc_new _ _) rfl (by unfold maxLen; omega) (by omega) (by simp only [size_al]; omega)
          have HJ2 : Hid (w6.ownsRow wB.heap.size 3 1 (.slice a6 (k + 1) c6) (k + 1) (ints (negs (c.take (k + 1)))) ∧ Below wB.heap.size wB w6) := hid ⟨by rw [negs_take c ha]; exact ho6, below_app HJ.out.2 hB6 (box_below _ _) HJ.out.1 hg6⟩
          clear ho6 hg6 ha6 ha hao hB6
          go_wp2_with fail
          go_roundw
          case rel => exact ⟨k + 1, by simp, by omega, HJ2⟩
          case measure => simp [intOf]; omega
        · have hke : k = N := by omega
          subst hke
          have hlt2 : ¬ (k : Int) < k := by omega
          have hbel := HBB.out.trans (HJ.out.2.mono HBB.out.size)
          have k0' := below_keeps HJ.out.2 _ _ k0
          have k1' := below_keeps HJ.out.2 _ _ k1
          have hall : c.take k = c := List.take_of_length_le (by rw [HN.out]; exact Nat.le_refl _)
          have ho := HJ.out.1
          rw [hall] at ho
          have hsl := own_slv ho
          have hnl : k = (negs c).length := by rw [← HN.out]; simp [negs]
          have HU := hid (prop_UnitsN n acl F F.length cf a8 (negs c) k c8 _ _ _ wr (unitsV_ok HC.out.1 (negs_bad HL.out.1)) rfl hnl HF.out.1 (HRS.out.1.below hbel) hsl hFl (by rw [← hnl]; omega))
          have HFN : Hid (∀ w', Below wr.heap.size wr w' → Q (.returned (.tuple #[.bool (upF F (negs c)), .int .i64 0])) w') := hid fun w' hw => by
            rw [← HQ.out]
            unfold impliedR
            rw [impV_ok HC.out.1 HC.out.2]
            exact ⟨rfl, hbel.trans (hw.mono hbel.size)⟩
          clear hbel hall ho hsl hnl hlt hkN k0 k1
          go_wp2_with fail
          refine HU.out.mono ?_
          rintro e w7 ⟨hb7, ar, cr, rfl, -⟩
          have HB7 := hid hb7
          clear hb7 k0' k1'
          go_wp2_with fail
          exact HFN.out _ HB7.out
    · have HE : Hid (Q (.returned (.tuple #[.bool false, .int .i64 e2])) ((w.alloc (fbox n acl F.length cf)).alloc (fbox n acl F.length cf))) := hid (by
        rw [← HQ.out]
        unfold impliedR
        rw [impV_lit he1 he2 hz]
        exact ⟨rfl, HBB.out⟩)
      have hz' : (e2 != 0) = true := by simpa using hz
      clear he1 he2 hz v1 v2 v3 v4 v5 hr hf hx hs hcl
      go_enter Try.func43, Try.ntmps43
      go_wp2_with fail
      refine (cnf_CheckR n acl F _ cf 0 _ HC.out.1 rfl HF.out.1 HB.out hFl).mono ?_
      rintro e wx ⟨rfl, rfl⟩
      go_wp2_with fail
      refine HCALL.out.mono ?_
      rintro e wx ⟨rfl, hwx⟩
      subst hwx
      go_wp2_with fail
      exact HE.out
  · have HE : Hid (Q (.returned (.tuple #[.bool false, .int .i64 e1])) ((w.alloc (fbox n acl F.length cf)).alloc (fbox n acl F.length cf))) := hid (by
      rw [← HQ.out]
      unfold impliedR
      rw [impV_err he1 h0]
      exact ⟨rfl, HBB.out⟩)
    have hz' : (e1 != 0) = true := by simpa using h0
    have HC := hid he1
    clear he1 h0 hr hf hx hs
    go_enter Try.func43, Try.ntmps43
    go_wp2_with fail
    refine (cnf_CheckR n acl F _ cf e1 _ HC.out rfl HF.out.1 HB.out hFl).mono ?_
    rintro e wx ⟨rfl, rfl⟩
    go_wp2_with fail
    exact HE.out

end Go.Proofs.Ytfmahgobogelkaa.Ord

/- The contract of the reference's Implied. -/
namespace Go.Proofs.Ytfmahgobogelkaa.Ord
open Go.RowKit Go.Conc

attribute [local go_sem ↓] Go.wp_at_zero Go.wp_at_succ
attribute [local go_sem ↓ high] app_mark

set_option maxRecDepth 100000 in
set_option maxHeartbeats 8000000 in
theorem ref05_Implied (n : Int) (acl : Option Addr) (F : List (List Int)) (mf cf : Nat) (ac : Option Addr) (c : List Int) (mc cc : Nat) (w : World) (hmf : mf = F.length) (hmc : mc = c.length) (hf : FOk F) (hr : Rws w acl F) (hx : ∀ x ∈ c, I64 x) (hs : SlV w ac (ints c)) (hFl : F.length ≤ 9223372036854775807) (hcl : c.length ≤ 9223372036854775807) :
    Calls Try.prog 48 #[.agg #[.int .i64 n, .slice acl mf cf], .slice ac mc cc] w (impliedR n F c w) := by
  subst hmf hmc
  obtain ⟨i0, hi0, hz0, hz1, hz2⟩ := info_parts info_int
  obtain ⟨Q, hQ⟩ : ∃ Q : Ending → World → Prop, impliedR n F c w = Q := ⟨_, rfl⟩
  rw [hQ]
  have HQ := hid hQ
  clear hQ
  obtain ⟨e1, he1⟩ : ∃ e, cnfCheck n F = e := ⟨_, rfl⟩
  have HF := hid (And.intro hf (And.intro hx hFl))
  have HB := hid (hr.below (box_below w (fbox n acl F.length cf)))
  have HBB : Hid (Below w.heap.size w ((w.alloc (fbox n acl F.length cf)).alloc (fbox n acl F.length cf))) := hid (below_al (box_below _ _) (by simp only [size_al]; omega) _)
  have HRS := hid (And.intro hr hs)
  by_cases h0 : e1 = 0
  · subst h0
    obtain ⟨v1, v2, v3, v4, v5⟩ := cnf_valid he1
    obtain ⟨n, rfl⟩ := Int.eq_ofNat_of_zero_le v1
    obtain ⟨k0, k1⟩ := box_cellsI n acl F.length cf w (fbox n acl F.length cf)
    have hn20 : n ≤ 1048576 := by omega
    obtain ⟨e2, he2⟩ : ∃ e, litCheck n c = e := ⟨_, rfl⟩
    have HCALL := hid (fun kd => ref01_CheckR n ac c c.length cc e2 (((w.alloc (fbox n acl F.length cf)).alloc (fbox n acl F.length cf)).drewN kd) he2 rfl hx ((hs.below HBB.out).drewN kd) hcl)
    have HC := hid (And.intro he1 he2)
    by_cases hz : e2 = 0
    · subst hz
      obtain ⟨hlo, hl4⟩ := lits_of_check he2
      have HL := hid (And.intro hlo hl4)
      clear he1 he2 v1 v2 v3 v4 v5 hr hf hx hs hcl hlo
      obtain ⟨N, hN⟩ : ∃ N, c.length = N := ⟨_, rfl⟩
      rw [hN] at HCALL hl4 ⊢
      have HN := hid hN
      clear hN
      go_enter Try.func48, Try.ntmps48
      go_wp2_with fail
      refine (ref02_CheckR n acl F _ cf 0 _ HC.out.1 rfl HF.out.1 HB.out hFl).mono ?_
      rintro e wx ⟨rfl, kd, rfl⟩
      go_wp2_with fail
      refine (HCALL.out kd).mono ?_
      rintro e wx ⟨rfl, hwx⟩
      subst hwx
      have HBB2 := hid (below_dr HBB.out kd)
      replace k0 : (((w.alloc (fbox n acl F.length cf)).alloc (fbox n acl F.length cf)).drewN kd).cell? ⟨w.heap.size, 0, none⟩ = _ := k0
      replace k1 : (((w.alloc (fbox n acl F.length cf)).alloc (fbox n acl F.length cf)).drewN kd).cell? ⟨w.heap.size, 1, none⟩ = _ := k1
      clear HBB
      have HBB := HBB2
      clear HBB2
      generalize hwB : ((w.alloc (fbox n acl F.length cf)).alloc (fbox n acl F.length cf)).drewN kd = wB at HBB k0 k1 ⊢
      clear hwB
      go_wp2_with fail
      go_loopw [8, 9] (fun s8 s31 wr => ∃ k : Nat, s31 = .int .i64 k ∧ k ≤ N ∧ Hid (wr.ownsRow wB.heap.size 3 1 s8 k (ints (negs (c.take k))) ∧ Below wB.heap.size wB wr)) (fun _ s31 _ => (N - (intOf s31)).toNat)
      case atStart => exact ⟨0, rfl, by omega, hid ⟨World.ownsRow_nil _ _ _ _, Below.refl _ _⟩⟩
      case round =>
        obtain ⟨k, rfl, hkN, HJ⟩ := hrel
        obtain ⟨a8, c8, hs8⟩ := own_lenV' HJ.out.1
        subst hs8
        by_cases hlt : k < N
        · have hlt2 : (k : Int) < N := by omega
          obtain ⟨a, ha⟩ : ∃ a, c[k]? = some a := ⟨_, List.getElem?_eq_getElem (by rw [HN.out]; exact hlt)⟩
          obtain ⟨b, off, hac, hca⟩ := (HRS.out.2.below (HBB.out.trans (HJ.out.2.mono HBB.out.size))) k (.int .i64 a) (ints_get ha)
          subst hac
          have hao := HL.out.1 a (List.mem_of_getElem? ha)
          have hwa : IntKind.i64.wrap (-a) = -a := IntWalk.i64_in _ (by unfold LitOk at hao; omega)
          have hwk : IntKind.i64.wrap ((k : Int) + 1) = (k : Int) + 1 := IntWalk.i64_in _ (by omega)
          have hB6 := HJ.out.2.size
          obtain ⟨a6, c6, w6, hr6, ho6, hg6, ha6⟩ := appM_one (P := Try.prog) (wr.alloc (.cells #[.int .i64 (-a)] 3 (0, 0))) wB.heap.size 22 22 3 i0 (.int .i64 0) 8 Try.underlying22 hi0 hz0 hz1 hz2 rfl (.slice a8 k c8) k (ints (negs (c.take k))) (HJ.out.1.alloc _) wr.heap.size (.int .i64 (-a)) (heap_alloc_new _ _) rfl (by unfold maxLen; omega) (by omega) (by simp only [size_al]; omega)
          have HJ2 : Hid (w6.ownsRow wB.heap.size 3 1 (.slice a6 (k + 1) c6) (k + 1) (ints (negs (c.take (k + 1)))) ∧ Below wB.heap.size wB w6) := hid ⟨by rw [negs_take c ha]; exact ho6, below_app HJ.out.2 hB6 (box_below _ _) HJ.out.1 hg6⟩
          clear ho6 hg6 ha6 ha hao hB6
          go_wp2_with fail
          go_roundw
          case rel => exact ⟨k + 1, by simp, by omega, HJ2⟩
          case measure => simp [intOf]; omega
        · have hke : k = N := by omega
          subst hke
          have hlt2 : ¬ (k : Int) < k := by omega
          have hbel := HBB.out.trans (HJ.out.2.mono HBB.out.size)
          have k0' := below_keeps HJ.out.2 _ _ k0
          have k1' := below_keeps HJ.out.2 _ _ k1
          have hall : c.take k = c := List.take_of_length_le (by rw [HN.out]; exact Nat.le_refl _)
          have ho := HJ.out.1
          rw [hall] at ho
          have hsl := own_slv ho
          have hnl : k = (negs c).length := by rw [← HN.out]; simp [negs]
          have HU := hid (ref_UnitsN n acl F F.length cf a8 (negs c) k c8 _ _ _ wr (unitsV_ok HC.out.1 (negs_bad HL.out.1)) rfl hnl HF.out.1 (HRS.out.1.below hbel) hsl (fun x hx => by have := HL.out.1 (-x) (mem_negs.1 hx); unfold LitOk at this; unfold I64; omega) hFl (by rw [← hnl]; omega))
          have HFN : Hid (∀ w', Below wr.heap.size wr w' → Q (.returned (.tuple #[.bool (upF F (negs c)), .int .i64 0])) w') := hid fun w' hw => by
            rw [← HQ.out]
            unfold impliedR
            rw [impV_ok HC.out.1 HC.out.2]
            exact ⟨rfl, hbel.trans (hw.mono hbel.size)⟩
          clear hbel hall ho hsl hnl hlt hkN k0 k1
          go_wp2_with fail
          refine HU.out.mono ?_
          rintro e w7 ⟨hb7, ar, cr, rfl, -⟩
          have HB7 := hid hb7
          clear hb7 k0' k1'
          go_wp2_with fail
          exact HFN.out _ HB7.out
    · have HE : Hid (∀ kd, Q (.returned (.tuple #[.bool false, .int .i64 e2])) (((w.alloc (fbox n acl F.length cf)).alloc (fbox n acl F.length cf)).drewN kd)) := hid (fun kd => by
        rw [← HQ.out]
        unfold impliedR
        rw [impV_lit he1 he2 hz]
        exact ⟨rfl, below_dr HBB.out kd⟩)
      have hz' : (e2 != 0) = true := by simpa using hz
      clear he1 he2 hz v1 v2 v3 v4 v5 hr hf hx hs hcl
      go_enter Try.func48, Try.ntmps48
      go_wp2_with fail
      refine (ref02_CheckR n acl F _ cf 0 _ HC.out.1 rfl HF.out.1 HB.out hFl).mono ?_
      rintro e wx ⟨rfl, kd, rfl⟩
      go_wp2_with fail
      refine (HCALL.out kd).mono ?_
      rintro e wx ⟨rfl, hwx⟩
      subst hwx
      go_wp2_with fail
      exact HE.out kd
  · have HE : Hid (∀ kd, Q (.returned (.tuple #[.bool false, .int .i64 e1])) (((w.alloc (fbox n acl F.length cf)).alloc (fbox n acl F.length cf)).drewN kd)) := hid (fun kd => by
      rw [← HQ.out]
      unfold impliedR
      rw [impV_err he1 h0]
      exact ⟨rfl, below_dr HBB.out kd⟩)
    have hz' : (e1 != 0) = true := by simpa using h0
    have HC := hid he1
    clear he1 h0 hr hf hx hs
    go_enter Try.func48, Try.ntmps48
    go_wp2_with fail
    refine (ref02_CheckR n acl F _ cf e1 _ HC.out rfl HF.out.1 HB.out hFl).mono ?_
    rintro e wx ⟨rfl, kd, rfl⟩
    go_wp2_with fail
    exact HE.out kd

end Go.Proofs.Ytfmahgobogelkaa.Ord

/- Rows of the call's own, of clauses that lie elsewhere. -/
namespace Go.Proofs.Ytfmahgobogelkaa.Ord
open Go.RowKit Go.Conc

/-- A row that the call made behind the world w0: each of its rows was there then. -/
structure OwnRs (w0 w : World) (v : Value) (f : List (List Int)) : Prop where
  bel : Below w0.heap.size w0 w
  row : ∃ us, w.ownsRow w0.heap.size 22 1 v f.length us ∧ ∀ (j : Nat) (c : List Int), f[j]? = some c → ∃ u, us[j]? = some u ∧ SlI w0 u c

theorem OwnRs.nil (w0 w : World) (h : Below w0.heap.size w0 w) : OwnRs w0 w (.slice none 0 0) [] := ⟨h, [], World.ownsRow_nil _ _ _ _, by simp⟩

theorem SlI.far {w0 w : World} {u : Value} {c : List Int} (h : SlI w0 u c) (hb : Below w0.heap.size w0 w) : SlI w u c := h.below hb

theorem OwnRs.shape {w0 w : World} {v : Value} {f : List (List Int)} (h : OwnRs w0 w v f) : ∃ a c, v = .slice a f.length c ∧ f.length ≤ c ∧ (a = none → c = 0) ∧ Rws w a f := by
  obtain ⟨us, h1, h2⟩ := h.row
  obtain ⟨a, c, rfl⟩ := own_lenV' h1
  obtain ⟨-, q2, q3⟩ := own_cap h1
  have hsl := own_slv h1
  refine ⟨a, c, rfl, q2, fun e => (q3 e).1, fun j d hd => ?_⟩
  obtain ⟨u, hu, hs⟩ := h2 j d hd
  obtain ⟨b, off, e, hc⟩ := hsl j u hu
  exact ⟨b, off, u, e, hc, hs.below h.bel⟩

theorem OwnRs.grow {w0 w w' : World} {v : Value} {f : List (List Int)} (h : OwnRs w0 w v f) (hb : Below w.heap.size w w') : OwnRs w0 w' v f := by
  obtain ⟨us, h1, h2⟩ := h.row
  exact ⟨h.bel.trans (hb.mono h.bel.size), us, own_below h1 hb, h2⟩

/-- The rows' values. -/
theorem rws_vals {w : World} {a : Option Addr} : ∀ {f : List (List Int)}, Rws w a f → ∃ us : List Value, us.length = f.length ∧ SlV w a us ∧ ∀ (j : Nat) (c : List Int), f[j]? = some c → ∃ u, us[j]? = some u ∧ SlI w u c := by
  intro f h
  let us := (List.range f.length).map fun j => match a with | some ad => (w.cell? ⟨ad.block, ad.off + j, none⟩).getD undef | none => undef
  have hlen : us.length = f.length := by simp [us]
  have hget : ∀ (j : Nat) (c : List Int), f[j]? = some c → ∃ b off v, a = some ⟨b, off, none⟩ ∧ w.cell? ⟨b, off + j, none⟩ = some v ∧ SlI w v c ∧ us[j]? = some v := fun j c hc => by
    obtain ⟨b, off, v, e1, e2, e3⟩ := h j c hc
    have hj := (List.getElem?_eq_some_iff.1 hc).1
    refine ⟨b, off, v, e1, e2, e3, ?_⟩
    simp only [us, e1, List.getElem?_map, List.getElem?_range hj, Option.map_some]
    rw [e2]
    rfl
  refine ⟨us, hlen, fun j u hj => ?_, fun j c hc => ?_⟩
  · have hjl : j < f.length := by rw [← hlen]; exact (List.getElem?_eq_some_iff.1 hj).1
    obtain ⟨b, off, v, e1, e2, e3, e4⟩ := hget j f[j] (List.getElem?_eq_getElem hjl)
    rw [hj] at e4
    injection e4 with e4
    exact ⟨b, off, e1, by rw [e4]; exact e2⟩
  · obtain ⟨b, off, v, e1, e2, e3, e4⟩ := hget j c hc
    exact ⟨v, e4, e3⟩

theorem slI_one {w : World} {u : Value} {c : List Int} (h : SlI w u c) : u.oneCell' = true := by
  obtain ⟨a, cp, rfl, -⟩ := h
  rfl

theorem vals_one {w : World} {us : List Value} {f : List (List Int)} (hl : us.length = f.length) (h : ∀ (j : Nat) (c : List Int), f[j]? = some c → ∃ u, us[j]? = some u ∧ SlI w u c) : ∀ u ∈ us, u.oneCell' = true := fun u hu => by
  obtain ⟨j, hj⟩ := List.mem_iff_getElem?.1 hu
  have hjl := (List.getElem?_eq_some_iff.1 hj).1
  obtain ⟨v, e1, e2⟩ := h j f[j] (List.getElem?_eq_getElem (by omega))
  rw [hj] at e1
  injection e1 with e1
  rw [e1]
  exact slI_one e2

/-- Such a row behind an append of one row. -/
theorem OwnRs.push {w0 w wx w6 : World} {v v6 u : Value} {f : List (List Int)} {c : List Int} (h : OwnRs w0 w v f) (hx : Below w.heap.size w wx) (hu : SlI w0 u c) {us : List Value} (h1 : w.ownsRow w0.heap.size 22 1 v f.length us) (h2 : ∀ (j : Nat) (c : List Int), f[j]? = some c → ∃ u, us[j]? = some u ∧ SlI w0 u c) (ho : w6.ownsRow w0.heap.size 22 1 v6 (f.length + 1) (us ++ [u])) (hg : wx.grownBy w6 v.ownBlock) : OwnRs w0 w6 v6 (f ++ [c]) := by
  refine ⟨below_app h.bel h.bel.size hx h1 hg, us ++ [u], by rw [List.length_append]; exact ho, fun j d hd => ?_⟩
  have hul : us.length = f.length := by have := h1.1; simpa using this
  by_cases q : j < f.length
  · rw [List.getElem?_append_left q] at hd
    obtain ⟨x, e1, e2⟩ := h2 j d hd
    exact ⟨x, by rw [List.getElem?_append_left (by omega)]; exact e1, e2⟩
  · rw [List.getElem?_append_right (by omega)] at hd
    have hl := (List.getElem?_eq_some_iff.1 hd).1
    simp at hl
    have hj : j = f.length := by omega
    subst hj
    simp at hd
    subst hd
    exact ⟨u, by rw [List.getElem?_append_right (by omega)]; simp [hul], hu⟩

/-- The same in a world where the block of the call's own was set. -/
theorem OwnRs.set {w0 w : World} {v : Value} {f : List (List Int)} (h : OwnRs w0 w v f) {b o : Nat} {cs : Array Value} {t : TypeId} {m : Nat × Nat} (hb : w.heap[b]? = some (.cells cs t m)) (ht : t ≠ 22) (hB : w0.heap.size ≤ b) (u : Value) : OwnRs w0 (w.setCell ⟨b, o, none⟩ u) v f := by
  obtain ⟨us, h1, h2⟩ := h.row
  exact ⟨h.bel.setCell hB u, us, own_setO h1 hb ht _ _, h2⟩

end Go.Proofs.Ytfmahgobogelkaa.Ord

/- Plain facts for the law CnfNormal: Norm's clauses in place of a formula's. -/
namespace Go.Proofs.Ytfmahgobogelkaa
open Go.RowKit

/-- The clauses that do not always hold, each as Norm returns it. -/
def normF (f : List (List Int)) : List (List Int) := (f.filter (fun c => !adjB (normL c))).map normV

theorem normF_skip {f : List (List Int)} {k : Nat} {c : List Int} (hc : f[k]? = some c) (h : adjB (normL c) = true) : normF (f.take (k + 1)) = normF (f.take k) := by
  simp [normF, List.take_add_one, hc, h]

theorem normF_keep {f : List (List Int)} {k : Nat} {c : List Int} (hc : f[k]? = some c) (h : adjB (normL c) = false) : normF (f.take (k + 1)) = normF (f.take k) ++ [normV c] := by
  simp [normF, List.take_add_one, hc, h]

theorem normF_length (f : List (List Int)) : (normF f).length ≤ f.length := by
  simp only [normF, List.length_map]
  exact List.length_filter_le _ _

theorem mem_normF {f : List (List Int)} {d : List Int} : d ∈ normF f ↔ ∃ c ∈ f, adjB (normL c) = false ∧ normV c = d := by
  simp only [normF, List.mem_map, List.mem_filter, Bool.not_eq_true']
  constructor
  · rintro ⟨c, ⟨h1, h2⟩, h3⟩; exact ⟨c, h1, h2, h3⟩
  · rintro ⟨c, h1, h2, h3⟩; exact ⟨c, ⟨h1, h2⟩, h3⟩

theorem firstIdx_iff (m : List Bool) (f : List (List Int)) : firstIdx m f = -1 ↔ ∀ c ∈ f, holdsB m c = true := by
  unfold firstIdx
  cases h : f.findIdx? (fun c => !holdsB m c) with
  | none =>
    rw [List.findIdx?_eq_none_iff] at h
    simp only [true_iff]
    intro c hc
    simpa using h c hc
  | some i =>
    rw [List.findIdx?_eq_some_iff_getElem] at h
    obtain ⟨h1, h2, _⟩ := h
    constructor
    · intro h3; exact absurd h3 (by show ¬ ((i : Int) = -1); omega)
    · intro h3
      have := h3 f[i] (by simp)
      rw [this] at h2; cases h2

theorem normF_holds {m : List Bool} {f : List (List Int)} (h : ∀ c ∈ f, ∀ x ∈ c, x ≠ 0 ∧ x.natAbs ≤ m.length) : (firstIdx m f == -1) = (firstIdx m (normF f) == -1) := by
  rw [Bool.eq_iff_iff, beq_iff_eq, beq_iff_eq, firstIdx_iff, firstIdx_iff]
  constructor
  · intro hh d hd
    obtain ⟨c, hc, ha, rfl⟩ := mem_normF.1 hd
    rw [normV_false ha, holdsB_normL]; exact hh c hc
  · intro hh c hc
    rw [holds_means (h c hc)]
    cases ha : adjB (normL c) with
    | true => rfl
    | false => rw [Bool.false_or]; exact hh _ (mem_normF.2 ⟨c, hc, ha, rfl⟩)

theorem normV_sub {c : List Int} {x : Int} (h : x ∈ normV c) : x ∈ c := by
  unfold normV at h
  split at h
  · simp at h
  · exact mem_normL h

theorem normV_len (c : List Int) : (normV c).length ≤ c.length := by
  unfold normV
  split
  · simp
  · exact normL_length c

theorem litCheck_normV {n : Int} {c : List Int} (h : litCheck n c = 0) : litCheck n (normV c) = 0 := by
  unfold litCheck at *
  split at h
  · cases h
  · rename_i h0
    rw [if_neg h0]
    split at h
    · cases h
    · rename_i h1
      have := normV_len c
      rw [if_neg (by omega)]
      split at h
      · cases h
      · rename_i h2
        rw [if_neg]
        simp only [List.any_eq_true, not_exists, not_and, Bool.not_eq_true] at h2 ⊢
        exact fun x hx => h2 x (normV_sub hx)

theorem cnfCheck_iff {n : Int} {f : List (List Int)} : cnfCheck n f = 0 ↔ 0 ≤ n ∧ n ≤ 1048576 ∧ (f.length : Int) ≤ 1048576 ∧ ∀ c ∈ f, litCheck n c = 0 := by
  unfold cnfCheck
  by_cases h0 : n < 0 ∨ 1048576 < n
  · rw [if_pos h0]; constructor
    · intro h; cases h
    · intro h; omega
  · rw [if_neg h0]
    by_cases h1 : 1048576 < f.length
    · rw [if_pos h1]; constructor
      · intro h; cases h
      · intro h; omega
    · rw [if_neg h1]
      cases hf : f.find? (fun c => litCheck n c != 0) with
      | some c =>
        have h2 := List.find?_some hf
        have h3 := List.mem_of_find?_eq_some hf
        simp only [bne_iff_ne, ne_eq] at h2
        constructor
        · intro h; exact absurd h h2
        · intro h; exact absurd (h.2.2.2 c h3) h2
      | none =>
        rw [List.find?_eq_none] at hf
        refine ⟨fun _ => ⟨by omega, by omega, by omega, fun c hc => by simpa using hf c hc⟩, fun _ => rfl⟩

theorem cnfCheck_normF {n : Int} {f : List (List Int)} (h : cnfCheck n f = 0) : cnfCheck n (normF f) = 0 := by
  rw [cnfCheck_iff] at *
  have := normF_length f
  refine ⟨h.1, h.2.1, by omega, fun d hd => ?_⟩
  obtain ⟨c, hc, _, rfl⟩ := mem_normF.1 hd
  exact litCheck_normV (h.2.2.2 c hc)

end Go.Proofs.Ytfmahgobogelkaa

/- The contract of the reference's Check of proofs. -/
namespace Go.Proofs.Ytfmahgobogelkaa.Ord
open Go.RowKit Go.Conc

attribute [local go_sem ↓] Go.wp_at_zero Go.wp_at_succ
attribute [local go_sem ↓ high] app_mark

theorem check_more {n : Nat} {F P : List (List Int)} {k : Nat} (h : cnfCheck n F = 0) (hp : ∀ d ∈ P, litCheck n d = 0) (hl : F.length + P.length ≤ 1048576) : cnfCheck n (F ++ P.take k) = 0 := by
  obtain ⟨h1, h2, h3, h4⟩ := cnfCheck_iff.1 h
  refine cnfCheck_iff.2 ⟨h1, h2, ?_, fun c hc => ?_⟩
  · rw [List.length_append, List.length_take]; omega
  · rcases List.mem_append.1 hc with q | q
    · exact h4 c q
    · exact hp c (List.mem_of_mem_take q)

theorem fok_app {F P : List (List Int)} (h : FOk F) (k : FOk P) : FOk (F ++ P) := fun c hc => (List.mem_append.1 hc).elim (h c) (k c)
theorem fok_take {F : List (List Int)} (h : FOk F) (k : Nat) : FOk (F.take k) := fun c hc => h c (List.mem_of_mem_take hc)

theorem lit_CheckQ (n : Int) (a : Option Addr) (xs : List Int) (m cap : Nat) (r : Int) (w : World) (k : Nat) (hr : litCheck n xs = r) (hm : m = xs.length) (hx : ∀ x ∈ xs, I64 x) (hs : SlV w a (ints xs)) (hl : xs.length ≤ 9223372036854775807) :
    Calls Try.prog 70 #[.int .i64 n, .slice a m cap] (w.drewN k) fun e w' => e = .returned (.int .i64 r) ∧ ∃ m, w' = w.drewN m :=
  (ref01_CheckR n a xs m cap r (w.drewN k) hr hm hx (hs.drewN k) hl).mono fun _ _ ⟨he, hw⟩ => ⟨he, k, hw.symm⟩

set_option maxRecDepth 100000 in
set_option maxHeartbeats 8000000 in
theorem ref05_Check (n : Int) (acl : Option Addr) (F : List (List Int)) (mf cf : Nat) (apl : Option Addr) (P : List (List Int)) (mp cp : Nat) (w : World) (hmf : mf = F.length) (hmp : mp = P.length) (hcf : acl = none → cf = 0) (hf : FOk F) (hr : Rws w acl F) (hp : FOk P) (hrp : Rws w apl P) (hFl : F.length + P.length ≤ 1048576) :
    Calls Try.prog 45 #[.agg #[.int .i64 n, .slice acl mf cf], .slice apl mp cp] w (rupR n F P w) := by
  subst hmf hmp
  obtain ⟨i1, hi1, hy0, hy1, hy2⟩ := info_parts info_ints
  obtain ⟨Q, hQ⟩ : ∃ Q : Ending → World → Prop, rupR n F P w = Q := ⟨_, rfl⟩
  rw [hQ]
  have HQ := hid hQ
  clear hQ
  obtain ⟨e1, he1⟩ : ∃ e, cnfCheck n F = e := ⟨_, rfl⟩
  have HR := hid hr
  have HF := hid (And.intro hf hp)
  have HRP := hid hrp
  have HB := hid (hr.below (box_below w (fbox n acl F.length cf)))
  have HBB : Hid (∀ kd, Below w.heap.size w (((w.alloc (fbox n acl F.length cf)).alloc (fbox n acl F.length cf)).drewN kd)) := hid fun kd => below_dr (below_al (box_below _ _) (by simp only [size_al]; omega) _) kd
  by_cases h0 : e1 = 0
  · subst h0
    obtain ⟨v1, v2, v3, v4, v5⟩ := cnf_valid he1
    obtain ⟨n, rfl⟩ := Int.eq_ofNat_of_zero_le v1
    have hok : ClsOk n F := v5
    have HV := hid (And.intro he1 (And.intro hok hcf))
    obtain ⟨k0, k1⟩ := box_cellsI n acl F.length cf w (fbox n acl F.length cf)
    have hn20 : n ≤ 1048576 := by omega
    have hF1 : F.length ≤ 9223372036854775807 := by omega
    clear he1 v1 v2 v3 v4 v5 hok hr hf hp hrp hcf
    go_enter Try.func45, Try.ntmps45
    go_wp2_with fail
    refine (ref02_CheckR n acl F _ cf 0 _ HV.out.1 rfl HF.out.1 HB.out hF1).mono ?_
    rintro e wx ⟨rfl, kd, rfl⟩
    have HB2 := hid (HBB.out kd)
    replace k0 : (((w.alloc (fbox n acl F.length cf)).alloc (fbox n acl F.length cf)).drewN kd).cell? ⟨w.heap.size, 0, none⟩ = _ := k0
    replace k1 : (((w.alloc (fbox n acl F.length cf)).alloc (fbox n acl F.length cf)).drewN kd).cell? ⟨w.heap.size, 1, none⟩ = _ := k1
    clear HBB HB
    generalize hwB : ((w.alloc (fbox n acl F.length cf)).alloc (fbox n acl F.length cf)).drewN kd = wx at HB2 k0 k1 ⊢
    clear hwB
    have HK := hid (And.intro k0 k1)
    clear k0 k1
    obtain ⟨N, hN⟩ : ∃ N, P.length = N := ⟨_, rfl⟩
    rw [hN] at hFl ⊢
    have HN := hid hN
    obtain ⟨M, hM⟩ : ∃ M, F.length = M := ⟨_, rfl⟩
    rw [hM] at hFl hF1 HK ⊢
    have HM := hid hM
    clear hN hM
    go_wp2_with fail
    go_loopw [7] (fun s7 wr => ∃ k : Nat, s7 = .int .i64 k ∧ k ≤ N ∧ Hid (Below wx.heap.size wx wr) ∧ Hid (∀ d ∈ P.take k, litCheck n d = 0)) (fun s7 _ => (N - (intOf s7)).toNat)
    case atStart => exact ⟨0, rfl, by omega, hid (Below.refl _ _), hid (by simp)⟩
    case round =>
      obtain ⟨k, rfl, hkN, HW, HJ⟩ := hrel
      have hBw := HB2.out.trans (HW.out.mono HB2.out.size)
      have HBW := hid hBw
      have k0 := below_keeps HW.out _ _ HK.out.1
      by_cases hlt : k < N
      · have hlt2 : (k : Int) < N := by omega
        obtain ⟨b, off, c, ac, cc, hap, hcell, hcs, hck, hc64, hcl, hcc, hc0⟩ := (HRP.out.below hBw).row HF.out.2 (k := k) (by rw [HN.out]; exact hlt)
        subst hap
        obtain ⟨e2, he2⟩ : ∃ e, litCheck n c = e := ⟨_, rfl⟩
        have hwk : IntKind.i64.wrap ((k : Int) + 1) = (k : Int) + 1 := IntWalk.i64_in _ (by omega)
        have HCALL := hid (fun m => lit_CheckQ n ac c c.length cc e2 wr m he2 rfl hc64 hcs hcl)
        have HCK := hid (And.intro hck he2)
        clear hcs hck hc64 hcl hcc hc0 he2 hBw
        by_cases hz : e2 = 0
        · subst hz
          go_wp2_with fail
          go_quiet ((go_at_call 70; exact HCALL.out _))
          go_wp2_with fail
          go_roundw
          case rel => exact ⟨k + 1, by simp, by omega, hid (below_dr HW.out _), hid fun d hd => by
            rw [List.take_add_one, HCK.out.1] at hd
            rcases List.mem_append.1 hd with q | q
            · exact HJ.out d q
            · have : d = c := by simpa using q
              rw [this]; exact HCK.out.2⟩
          case measure => simp [intOf]; omega
        · have hz' : (e2 != 0) = true := by simpa using hz
          have HE : Hid (∀ m, Q (.returned (.tuple #[.int .i64 0, .int .i64 e2])) (wr.drewN m)) := hid (fun m => by
            rw [← HQ.out]
            unfold rupR
            rw [rupV_err (rupErr_at HV.out.1 HJ.out HCK.out.1 HCK.out.2 hz) hz]
            exact ⟨rfl, below_dr HBW.out m⟩)
          clear hz
          go_wp2_with fail
          go_quiet ((go_at_call 70; exact HCALL.out _))
          go_wp2_with fail
          exact HE.out _
      · have hke : k = N := by omega
        subst hke
        have hlt2 : ¬ (k : Int) < k := by omega
        have HPOK : Hid (∀ d ∈ P, litCheck n d = 0) := hid fun d hd => HJ.out d (by rw [List.take_of_length_le (by rw [HN.out]; exact Nat.le_refl _)]; exact hd)
        obtain ⟨us, hul, hus, hur⟩ := rws_vals (HR.out.below HB2.out)
        have hBx := HW.out.size
        have k0 := below_keeps HW.out _ _ HK.out.1
        have k1 := below_keeps HW.out _ _ HK.out.2
        have k1a := below_keeps (box_below wr (fbox n none 0 0)) _ _ k1
        obtain ⟨a6, c6, w6, hr6, ho6, hg6, ha6⟩ := appM_sl (P := Try.prog) (wr.alloc (fbox n none 0 0)) wx.heap.size 32 32 22 i1 (.slice none 0 0) 24 Try.underlying32 hi1 hy0 hy1 hy2 rfl (.slice none 0 0) 0 [] (World.ownsRow_nil _ _ _ _) acl M cf us ((hus.below HW.out).below (box_below _ _)) (by rw [hul, HM.out]) HV.out.2.2 (vals_one hul hur) (by unfold maxLen; omega) (by omega) (by simp only [size_al]; omega)
        rw [Nat.zero_add] at hr6 ho6 ha6
        have hb6 : w6.heap[wr.heap.size]? = some (fbox n none 0 0) := (hg6.block _ (by simp only [size_al]; omega) (by nofun)).trans (heap_alloc_new _ _)
        have kc : w6.cell? ⟨wr.heap.size, 1, none⟩ = some (.slice none 0 0) := fit_cell (vs := [.int .i64 n, .slice none 0 0]) hb6 1
        have kf : w6.frozen? ⟨wr.heap.size, 1, none⟩ = false := frozen_of_row _ _ _ _ _ hb6
        have hb7 : (w6.setCell ⟨wr.heap.size, 1, none⟩ (.slice a6 M c6)).heap[wr.heap.size]? = some (fbox n a6 M c6) := setCell_block (o := 1) (xs := [.int .i64 n, .slice none 0 0]) (.slice a6 M c6) hb6
        have hbel6 : Below wx.heap.size wx w6 := (HW.out.trans ((box_below wr (fbox n none 0 0)).mono hBx)).grown hg6 (by simp only [size_al]; omega) (fun q hq => by cases hq)
        have hos : OwnRs wx (w6.setCell ⟨wr.heap.size, 1, none⟩ (.slice a6 M c6)) (.slice a6 M c6) F := OwnRs.set ⟨hbel6, us, by rw [HM.out]; exact ho6, hur⟩ hb6 (by decide) hBx _
        have HS0 : Hid ((w6.setCell ⟨wr.heap.size, 1, none⟩ (.slice a6 M c6)).heap[wr.heap.size]? = some (fbox n a6 M c6) ∧ OwnRs wx (w6.setCell ⟨wr.heap.size, 1, none⟩ (.slice a6 M c6)) (.slice a6 M c6) (F ++ P.take 0) ∧ M = (F ++ P.take 0).length) := hid ⟨hb7, by rw [List.take_zero, List.append_nil]; exact hos, by rw [List.take_zero, List.append_nil, HM.out]⟩
        have hb9 := hBx
        clear HJ hlt hkN hBw hul hus hur ho6 hg6 ha6 hb6 hb7 hbel6 hos
        go_wp2_with fail
        clear k0 k1 k1a hr6 kc kf
        generalize hb9e : wr.heap.size = b9 at HS0 hBx hb9 ⊢
        go_loopw [10] (fun s10 wq => ∃ (i : Nat) (a9 : Option Addr) (m9 c9 : Nat), s10 = .int .i64 i ∧ i ≤ k ∧ Hid (wq.heap[b9]? = some (fbox n a9 m9 c9) ∧ OwnRs wx wq (.slice a9 m9 c9) (F ++ P.take i) ∧ m9 = (F ++ P.take i).length) ∧ Hid (∀ (t : Nat) (c : List Int), t < i → P[t]? = some c → upF (F ++ P.take t) (negs c) = true)) (fun s10 _ => (k - (intOf s10)).toNat)
        case atStart => exact ⟨0, a6, M, c6, rfl, by omega, HS0, hid fun t c ht => by omega⟩
        case round =>
          clear HS0
          obtain ⟨i, a9, m9, c9, rfl, hik, HS, HA⟩ := hrel
          have hBq := HB2.out.trans (HS.out.2.1.bel.mono HB2.out.size)
          by_cases hlt : i < k
          · have hlt2 : (i : Int) < k := by omega
            obtain ⟨bf, off, c, ac, cc, hap, hcell, hcs, hck, hc64, hcl, hcc, hc0⟩ := (HRP.out.below HB2.out).row HF.out.2 (k := i) (by rw [HN.out]; exact hlt)
            subst hap
            have hcell2 := below_keeps HS.out.2.1.bel _ _ hcell
            have hwi : IntKind.i64.wrap ((i : Int) + 1) = (i : Int) + 1 := IntWalk.i64_in _ (by omega)
            have q0 : wr.cell? ⟨b9, 0, none⟩ = some (.int .i64 n) := fit_cell (vs := [.int .i64 n, .slice a9 m9 c9]) HS.out.1 0
            have q1 : wr.cell? ⟨b9, 1, none⟩ = some (.slice a9 m9 c9) := fit_cell (vs := [.int .i64 n, .slice a9 m9 c9]) HS.out.1 1
            have hcm := List.mem_of_getElem? hck
            have hlk := lits_of_check (HPOK.out c hcm)
            have hchk : cnfCheck n (F ++ P.take i) = 0 := check_more HV.out.1 HPOK.out (by rw [HM.out, HN.out]; omega)
            have himp := impV_ok hchk (HPOK.out c hcm)
            obtain ⟨aq, cq, e9, hle9, hn9, hrw9⟩ := HS.out.2.1.shape
            injection e9 with e9a e9b e9c
            subst e9a e9c
            have HCALL : Hid (∀ wz, Below wr.heap.size wr wz → Calls Try.prog 48 #[.agg #[.int .i64 n, .slice a9 m9 c9], .slice ac c.length cc] wz (impliedR n (F ++ P.take i) c wz)) := hid (fun wz hz => ref05_Implied n a9 (F ++ P.take i) m9 c9 ac c c.length cc wz HS.out.2.2 rfl (fok_app HF.out.1 (fok_take HF.out.2 i)) (hrw9.below hz) hc64 ((hcs.below HS.out.2.1.bel).below hz) (by rw [List.length_append, List.length_take, HM.out, HN.out]; omega) (by omega))
            have HCC := hid (And.intro hcs (And.intro hcc (And.intro hc0 (And.intro hck (And.intro himp hlk.2)))))
            clear hcell hcs hck hc64 hcl hcc hc0 hcm hlk hchk himp hle9 hn9 hrw9 e9b
            go_wp2_with fail
            go_cut [11] (fun s11 wz => s11 = .bool (upF (F ++ P.take i) (negs c)) ∧ Hid (Below wr.heap.size wr wz))
            case first =>
              go_region_held3 (fun y => y.cell? ⟨b9, 0, none⟩ = some (.int .i64 n) ∧ y.cell? ⟨b9, 1, none⟩ = some (.slice a9 m9 c9) ∧ y.cell? ⟨bf, off + i, none⟩ = some (.slice ac c.length cc)) (first | exact ⟨‹_›, ‹_›, ‹_›⟩ | go_keep)
                ((go_at_call 48; refine (HCALL.out _ (by first | exact Below.refl _ _ | exact (Below.refl _ _).drew)).mono ?_; rintro e wz ⟨rfl, hbz⟩; rw [HCC.out.2.2.2.2.1]; have HBZ := hid hbz; have z0 := below_keeps hbz _ _ q0; have z1 := below_keeps hbz _ _ q1; have z2 := below_keeps hbz _ _ hcell2; clear hbz))
              all_goals
                go_wp2_with fail
                go_meet
                case rel => exact ⟨rfl, hid (by first | exact HBZ.out | exact HBZ.out.drew | exact ((Below.refl wr.heap.size wr).drew.trans HBZ.out) | exact ((Below.refl wr.heap.size wr).drew.trans HBZ.out).drew)⟩
            case rest =>
              obtain ⟨rfl, HBC⟩ := hcut
              have HOS := hid (HS.out.2.1.grow HBC.out)
              have hbx := (HBC.out.block b9 (Array.getElem?_eq_some_iff.1 HS.out.1).1).trans HS.out.1
              have hcell3 := below_keeps HBC.out _ _ hcell2
              have HML := hid HS.out.2.2
              clear HBC HCALL q0 q1 hcell2 HS hBq
              cases hup : upF (F ++ P.take i) (negs c) with
              | true =>
                have HA2 : Hid (∀ (t : Nat) (d : List Int), t < i + 1 → P[t]? = some d → upF (F ++ P.take t) (negs d) = true) := hid fun t d ht hd => by
                  by_cases q : t < i
                  · exact HA.out t d q hd
                  · have : t = i := by omega
                    subst this
                    have := HCC.out.2.2.2.1.symm.trans hd
                    injection this with this
                    rw [← this]
                    exact hup
                obtain ⟨us, hrow, hvs⟩ := HOS.out.row
                have HROW : Hid (wc.ownsRow wx.heap.size 22 1 (.slice a9 m9 c9) m9 us) := hid (by rw [← HML.out] at hrow; exact hrow)
                have HVS := hid hvs
                have hm9 : m9 ≤ 1048576 := by
                  have h1 := HML.out
                  rw [List.length_append, List.length_take, HM.out, HN.out] at h1
                  omega
                have hwcs : wx.heap.size ≤ wc.heap.size := HOS.out.bel.size
                have hbgl : b9 < wc.heap.size := (Array.getElem?_eq_some_iff.1 hbx).1
                have HBX := hid hbx
                have hs0 : wc.cell? ⟨b9, 1, none⟩ = some (.slice a9 m9 c9) := fit_cell (vs := [.int .i64 n, .slice a9 m9 c9]) hbx 1
                have hs0a := fun o => below_keeps (box_below wc o) _ _ hs0
                have hs2a := fun o => below_keeps (box_below wc o) _ _ hcell3
                clear hup hrow hvs hbx
                go_wp2_with fail
                go_region_law (refine step_append_at1 rfl _ _ 32 rfl wx.heap.size 22 i1 (.slice none 0 0) 24 Try.underlying32 hi1 hy0 hy1 hy2 rfl (.slice a9 m9 c9) m9 us (by rfl) (by exact HROW.out.alloc _) _ (.slice ac c.length cc) (by rfl) (by exact heap_alloc_new _ _) rfl (by unfold maxLen; omega) (by omega) (by simp; omega) ?_; intro v12 w12 h12 hg12 ha12; obtain ⟨a12, c12, rfl⟩ := own_lenV' h12; have H12 := hid h12; have HG12 := hid hg12; have hx12 : w12.heap[b9]? = some (.cells #[.int .i64 n, .slice a9 m9 c9] 34) := (hg12.block _ (by simp; omega) (fun e => by obtain ⟨cu, hc⟩ := own_cells HROW.out e.symm; rw [HBX.out] at hc; unfold fbox at hc; simp at hc)).trans ((Below.heap_alloc _ _ _ (by exact hbgl)).trans HBX.out); have HX12 := hid hx12; have hs0 : w12.cell? ⟨b9, 1, none⟩ = some (.slice a9 m9 c9) := fit_cell (vs := [.int .i64 n, .slice a9 m9 c9]) hx12 1; have hf12 : w12.frozen? ⟨b9, 1, none⟩ = false := frozen_of_row _ _ _ _ _ hx12; clear h12 hg12 ha12 hx12)
                all_goals
                  have hsl : SlI wx (.slice ac c.length cc) c := ⟨ac, cc, rfl, HCC.out.2.1, HCC.out.2.2.1, HCC.out.1⟩
                  have hos12 := OwnRs.push HOS.out (wx := _) ((Below.refl wc.heap.size wc).drew.alloc (Nat.le_refl _) (.cells #[.slice ac c.length cc] 22)) hsl (by rw [← HML.out]; exact HROW.out) HVS.out (by rw [← HML.out]; exact H12.out) HG12.out
                  have HS2 : Hid ((w12.setCell ⟨b9, 1, none⟩ (.slice a12 (m9 + 1) c12)).heap[b9]? = some (fbox n a12 (m9 + 1) c12) ∧ OwnRs wx (w12.setCell ⟨b9, 1, none⟩ (.slice a12 (m9 + 1) c12)) (.slice a12 (m9 + 1) c12) (F ++ P.take (i + 1)) ∧ m9 + 1 = (F ++ P.take (i + 1)).length) := hid (by
                    rw [List.take_add_one, HCC.out.2.2.2.1, ← List.append_assoc]
                    refine ⟨setCell_block (o := 1) (xs := [.int .i64 n, .slice a9 m9 c9]) (.slice a12 (m9 + 1) c12) HX12.out, OwnRs.set hos12 HX12.out (by decide) hb9 _, ?_⟩
                    rw [HML.out]
                    simp only [List.length_append, Option.toList_some, List.length_cons, List.length_nil])
                  clear hos12 hsl hs0 hs0a hs2a hcell3
                  go_wp2_with fail
                  go_roundw
                  case rel => exact ⟨i + 1, a12, m9 + 1, c12, by simp, by omega, HS2, HA2⟩
                  case measure => simp [intOf]; omega
              | false =>
                have HF2 : Hid (Q (.returned (.tuple #[.int .i64 i, .int .i64 0])) wc) := hid (by
                  rw [← HQ.out]
                  unfold rupR
                  rw [rupV_at (rupErr_ok HV.out.1 HPOK.out) HA.out HCC.out.2.2.2.1 hup]
                  exact ⟨rfl, HB2.out.trans (HOS.out.bel.mono HB2.out.size)⟩)
                clear hup
                go_wp2_with fail
                exact HF2.out
          · have hie : i = k := by omega
            subst hie
            have hlt2 : ¬ (i : Int) < i := by omega
            have hall := rupV_all (n := n) (F := F) (P := P) (rupErr_ok HV.out.1 HPOK.out) fun t d ht hd => HA.out t d (by rw [← HN.out]; exact ht) hd
            have HF2 : Hid (∀ r : Int, r = (if P.getLast? = some [] then -1 else (i : Int)) → Q (.returned (.tuple #[.int .i64 r, .int .i64 0])) wr) := hid fun r hr => by
              rw [← HQ.out]
              unfold rupR
              rw [hall, HN.out, hr]
              exact ⟨rfl, hBq⟩
            have HBQ := hid HS.out.2.1.bel
            clear hall hlt hik hBq HS
            by_cases hi0 : i = 0
            · have hz : ((i : Int) == 0) = true := by simp [hi0]
              have HL : Hid ((i : Int) = (if P.getLast? = some [] then -1 else (i : Int))) := hid (by
                have : P = [] := List.eq_nil_of_length_eq_zero (by rw [HN.out]; exact hi0)
                rw [this]; rfl)
              clear hi0
              go_wp2_with fail
              exact HF2.out _ HL.out
            · have hz : ((i : Int) == 0) = false := by simp; exact hi0
              obtain ⟨bf, off, c, ac, cc, hap, hcell, hcs, hck, hc64, hcl, hcc, hc0⟩ := (HRP.out.below HB2.out).row HF.out.2 (k := i - 1) (by rw [HN.out]; omega)
              subst hap
              have hcell2 := below_keeps HBQ.out _ _ hcell
              have hwi : IntKind.i64.wrap ((i : Int) - 1) = (i : Int) - 1 := IntWalk.i64_in _ (by omega)
              have HLST : Hid (P.getLast? = some c) := hid (by rw [List.getLast?_eq_getElem?, HN.out]; exact hck)
              have hge : (0 : Int) ≤ (i : Int) - 1 := by omega
              have hlt3 : (i : Int) - 1 < i := by omega
              have htn : ((i : Int) - 1).toNat = i - 1 := by omega
              by_cases hcz : c.length = 0
              · have hd : ¬ (0 : Int) < c.length := by omega
                have hd2 : ¬ 0 < c.length := by omega
                have HL : Hid ((-1 : Int) = (if P.getLast? = some [] then -1 else (i : Int))) := hid (by
                  rw [HLST.out, List.eq_nil_of_length_eq_zero hcz, if_pos rfl])
                clear hcz hi0 hcell hcs hck hc64 hcl hcc hc0
                go_wp2_with fail
                exact HF2.out _ HL.out
              · have hd : (0 : Int) < c.length := by omega
                have hd2 : 0 < c.length := by omega
                have HL : Hid ((i : Int) = (if P.getLast? = some [] then -1 else (i : Int))) := hid (by
                  rw [HLST.out, if_neg (by intro h; injection h with h; exact hcz (by simp [h]))])
                clear hcz hi0 hcell hcs hck hc64 hcl hcc hc0
                go_wp2_with fail
                exact HF2.out _ HL.out
  · have HE : Hid (∀ kd, Q (.returned (.tuple #[.int .i64 0, .int .i64 e1])) (((w.alloc (fbox n acl F.length cf)).alloc (fbox n acl F.length cf)).drewN kd)) := hid (fun kd => by
      rw [← HQ.out]
      unfold rupR
      rw [rupV_err (rupErr_cnf he1 h0 P) h0]
      exact ⟨rfl, HBB.out kd⟩)
    have hz' : (e1 != 0) = true := by simpa using h0
    have HC := hid he1
    clear he1 h0 hr hf hp hrp
    go_enter Try.func45, Try.ntmps45
    go_wp2_with fail
    refine (ref02_CheckR n acl F _ cf e1 _ HC.out rfl HF.out.1 HB.out (by omega)).mono ?_
    rintro e wx ⟨rfl, kd, rfl⟩
    go_wp2_with fail
    exact HE.out kd

end Go.Proofs.Ytfmahgobogelkaa.Ord

/- The law's own functions. -/
namespace Go.Proofs.Ytfmahgobogelkaa.Ord
open Go.RowKit

/-- Whether a number is in a list. -/
def hasB (xs : List Int) (x : Int) : Bool := decide (x ∈ xs)

/-- What units answers. -/
noncomputable def unitsB (n : Nat) (F : List (List Int)) (want A : List Int) : Bool := eqI (upL n F A) want && !upF F A

theorem clsok_three : ClsOk 3 threeF := by
  intro c hc a ha
  simp [threeF] at hc
  rcases hc with rfl | rfl | rfl <;> (simp at ha; rcases ha with rfl | rfl <;> simp [LitOk])

theorem len_three : ∀ c ∈ threeF, c.length ≤ 1048576 := by
  intro c hc
  simp [threeF] at hc
  rcases hc with rfl | rfl | rfl <;> simp

theorem chk_three : cnfCheck ((3 : Nat) : Int) threeF = 0 := by decide

theorem up_three : upL 3 threeF [1] = [1, -2, 3] ∧ upF threeF [1] = false := by
  have h : Closed threeF [1] [-2, 3, 1] := closedOk_sound (by decide)
  obtain ⟨h1, h2⟩ := h.up 3
  exact ⟨h1.trans (by decide), h2⟩

theorem units_three : unitsB 3 threeF [1, -2, 3] [1] = true := by
  unfold unitsB
  rw [up_three.1, up_three.2]
  decide

end Go.Proofs.Ytfmahgobogelkaa.Ord

/- The functions of the laws of layer 5. -/
namespace Go.Proofs.Ytfmahgobogelkaa.Ord
open Go.RowKit

theorem rup_CheckN (n : Int) (acl : Option Addr) (F : List (List Int)) (mf cf : Nat) (apl : Option Addr) (P : List (List Int)) (mp cp : Nat) (i g : Int) (w : World) (hv : rupV n F P = (i, g)) (hmf : mf = F.length) (hmp : mp = P.length) (hf : FOk F) (hr : Rws w acl F) (hp : FOk P) (hrp : Rws w apl P) (hFl : F.length ≤ 9223372036854775807) (hPl : P.length ≤ 2199022206975) :
    Calls Try.prog 42 #[.agg #[.int .i64 n, .slice acl mf cf], .slice apl mp cp] w fun e w' => e = .returned (.tuple #[.int .i64 i, .int .i64 g]) ∧ Below w.heap.size w w' := by
  have := rup_Check n acl F mf cf apl P mp cp w hmf hmp hf hr hp hrp hFl hPl
  unfold rupR at this
  rwa [hv] at this

theorem ref05_CheckN (n : Int) (acl : Option Addr) (F : List (List Int)) (mf cf : Nat) (apl : Option Addr) (P : List (List Int)) (mp cp : Nat) (i g : Int) (w : World) (hv : rupV n F P = (i, g)) (hmf : mf = F.length) (hmp : mp = P.length) (hcf : acl = none → cf = 0) (hf : FOk F) (hr : Rws w acl F) (hp : FOk P) (hrp : Rws w apl P) (hFl : F.length + P.length ≤ 1048576) :
    Calls Try.prog 45 #[.agg #[.int .i64 n, .slice acl mf cf], .slice apl mp cp] w fun e w' => e = .returned (.tuple #[.int .i64 i, .int .i64 g]) ∧ Below w.heap.size w w' := by
  have := ref05_Check n acl F mf cf apl P mp cp w hmf hmp hcf hf hr hp hrp hFl
  unfold rupR at this
  rwa [hv] at this

theorem rup_ImpliedN (n : Int) (acl : Option Addr) (F : List (List Int)) (mf cf : Nat) (ac : Option Addr) (c : List Int) (mc cc : Nat) (b : Bool) (g : Int) (w : World) (hv : impV n F c = (b, g)) (hmf : mf = F.length) (hmc : mc = c.length) (hf : FOk F) (hr : Rws w acl F) (hx : ∀ x ∈ c, I64 x) (hs : SlV w ac (ints c)) (hFl : F.length ≤ 9223372036854775807) (hcl : c.length ≤ 9223372036854775807) :
    Calls Try.prog 43 #[.agg #[.int .i64 n, .slice acl mf cf], .slice ac mc cc] w fun e w' => e = .returned (.tuple #[.bool b, .int .i64 g]) ∧ Below w.heap.size w w' := by
  have := rup_Implied n acl F mf cf ac c mc cc w hmf hmc hf hr hx hs hFl hcl
  unfold impliedR at this
  rwa [hv] at this

theorem ref05_ImpliedN (n : Int) (acl : Option Addr) (F : List (List Int)) (mf cf : Nat) (ac : Option Addr) (c : List Int) (mc cc : Nat) (b : Bool) (g : Int) (w : World) (hv : impV n F c = (b, g)) (hmf : mf = F.length) (hmc : mc = c.length) (hf : FOk F) (hr : Rws w acl F) (hx : ∀ x ∈ c, I64 x) (hs : SlV w ac (ints c)) (hFl : F.length ≤ 9223372036854775807) (hcl : c.length ≤ 9223372036854775807) :
    Calls Try.prog 48 #[.agg #[.int .i64 n, .slice acl mf cf], .slice ac mc cc] w fun e w' => e = .returned (.tuple #[.bool b, .int .i64 g]) ∧ Below w.heap.size w w' := by
  have := ref05_Implied n acl F mf cf ac c mc cc w hmf hmc hf hr hx hs hFl hcl
  unfold impliedR at this
  rwa [hv] at this

/-- The formula of four clauses. -/
def fourF : List (List Int) := [[1, 2], [1, -2], [-1, 2], [-1, -2]]

theorem fok_four : FOk fourF := by
  intro c hc
  simp [fourF] at hc
  rcases hc with rfl | rfl | rfl | rfl <;> simp [I64]

set_option maxHeartbeats 1000000 in
theorem law05_four (w : World) :
    Calls Try.prog 49 #[] w fun e w' => ∃ a c, e = .returned (.agg #[.int .i64 2, .slice (some a) 4 c]) ∧ 4 ≤ c ∧ Rws w' (some a) fourF ∧ Below w.heap.size w w' := by
  suffices h : Calls Try.prog 49 #[] w fun e w' => e = .returned (.agg #[.int .i64 2, .slice (some ⟨w.heap.size + 5, 0, none⟩) 4 4]) ∧ Below w.heap.size w w' ∧ w'.heap.size = w.heap.size + 6 ∧
      w'.heap[w.heap.size + 1]? = some (.cells #[.int .i64 1, .int .i64 2] 3) ∧ w'.heap[w.heap.size + 2]? = some (.cells #[.int .i64 1, .int .i64 (-2)] 3) ∧ w'.heap[w.heap.size + 3]? = some (.cells #[.int .i64 (-1), .int .i64 2] 3) ∧ w'.heap[w.heap.size + 4]? = some (.cells #[.int .i64 (-1), .int .i64 (-2)] 3) ∧
      w'.heap[w.heap.size + 5]? = some (.cells #[.slice (some ⟨w.heap.size + 1, 0, none⟩) 2 2, .slice (some ⟨w.heap.size + 2, 0, none⟩) 2 2, .slice (some ⟨w.heap.size + 3, 0, none⟩) 2 2, .slice (some ⟨w.heap.size + 4, 0, none⟩) 2 2] 22) by
    refine h.mono ?_
    rintro e w' ⟨rfl, hb, hs, h1, h2, h3, h4, h5⟩
    refine ⟨_, _, rfl, Nat.le_refl _, ?_, hb⟩
    intro j c hj
    have hcell := slv_at (vs := [.slice (some ⟨w.heap.size + 1, 0, none⟩) 2 2, .slice (some ⟨w.heap.size + 2, 0, none⟩) 2 2, .slice (some ⟨w.heap.size + 3, 0, none⟩) 2 2, .slice (some ⟨w.heap.size + 4, 0, none⟩) 2 2]) h5
    match j, hj with
    | 0, hj => simp [fourF] at hj; subst hj; obtain ⟨b, off, e1, e2⟩ := hcell 0 _ rfl; exact ⟨b, off, _, e1, e2, sli_of_block h1 rfl⟩
    | 1, hj => simp [fourF] at hj; subst hj; obtain ⟨b, off, e1, e2⟩ := hcell 1 _ rfl; exact ⟨b, off, _, e1, e2, sli_of_block h2 rfl⟩
    | 2, hj => simp [fourF] at hj; subst hj; obtain ⟨b, off, e1, e2⟩ := hcell 2 _ rfl; exact ⟨b, off, _, e1, e2, sli_of_block h3 rfl⟩
    | 3, hj => simp [fourF] at hj; subst hj; obtain ⟨b, off, e1, e2⟩ := hcell 3 _ rfl; exact ⟨b, off, _, e1, e2, sli_of_block h4 rfl⟩
    | j + 4, hj => simp [fourF] at hj
  go_enter Try.func49, Try.ntmps49
  go_wp2_with fail
  refine bodyPost_ret (v := .agg #[.int .i64 2, .slice (some ⟨w.heap.size + 5, 0, none⟩) 4 4]) (by simp [results, Try.results49, go_sem]) rfl ⟨rfl, ?_, ?_, ?_, ?_, ?_, ?_, ?_⟩
  · exact below_al (below_al (below_al (below_al (below_al (box_below _ _) (by simp only [size_al]; omega) _) (by simp only [size_al]; omega) _) (by simp only [size_al]; omega) _) (by simp only [size_al]; omega) _) (by simp only [size_al]; omega) _
  · simp only [size_al]
  all_goals simp [heap_al, Array.getElem_push]

theorem four_check : cnfCheck 2 fourF = 0 := by decide

theorem four_rup : rupV 2 fourF [[1], []] = (-1, 0) := by
  have h1 : upF fourF (negs [1]) = true := upF_true.2 (badOk_sound (K := [2, -2, -1]) (by decide))
  have h2 : upF (fourF ++ [[1]]) (negs []) = true := upF_true.2 (badOk_sound (K := [2, -2, 1]) (by decide))
  rw [rupV_all (rupErr_ok four_check (by decide)) fun i c hi hc => ?_]
  · rfl
  · match i, hc with
    | 0, hc => simp at hc; subst hc; simpa using h1
    | 1, hc => simp at hc; subst hc; simpa using h2
    | i + 2, hc => simp at hc

set_option maxHeartbeats 2000000 in
theorem law05_known (w : World) : Calls Try.prog 39 #[] w fun e w' => e = .returned (.bool true) ∧ Below w.heap.size w w' := by
  go_enter Try.func39, Try.ntmps39
  go_wp2_with fail
  refine (law05_four w).mono ?_
  rintro e w1 ⟨a, c, rfl, hc4, hr, hb⟩
  have hb2 : Below w1.heap.size w1 ((w1.alloc (.cells #[.int .i64 1] 3)).alloc (.cells #[.slice (some ⟨w1.heap.size, 0, none⟩) 1 1, .slice none 0 0] 22)) := below_al (box_below _ _) (by simp only [size_al]; omega) _
  have hP : Rws ((w1.alloc (.cells #[.int .i64 1] 3)).alloc (.cells #[.slice (some ⟨w1.heap.size, 0, none⟩) 1 1, .slice none 0 0] 22)) (some ⟨w1.heap.size + 1, 0, none⟩) [[1], []] := by
    intro j d hj
    have hcell := slv_at (vs := [.slice (some ⟨w1.heap.size, 0, none⟩) 1 1, .slice none 0 0]) (blk_new2 w1 (.cells #[.int .i64 1] 3) (.cells #[.slice (some ⟨w1.heap.size, 0, none⟩) 1 1, .slice none 0 0] 22))
    match j, hj with
    | 0, hj => simp at hj; subst hj; obtain ⟨b, off, e1, e2⟩ := hcell 0 _ rfl; exact ⟨b, off, _, e1, e2, sli_of_block (blk_old2 w1 (.cells #[.int .i64 1] 3) (.cells #[.slice (some ⟨w1.heap.size, 0, none⟩) 1 1, .slice none 0 0] 22)) rfl⟩
    | 1, hj => simp at hj; subst hj; obtain ⟨b, off, e1, e2⟩ := hcell 1 _ rfl; exact ⟨b, off, _, e1, e2, none, 0, rfl, by simp, fun _ => rfl, SlV.nil _ _⟩
    | j + 2, hj => simp at hj
  have HC := hid (rup_CheckN 2 (some a) fourF 4 c (some ⟨w1.heap.size + 1, 0, none⟩) [[1], []] 2 2 (-1) 0 _ four_rup rfl rfl fok_four (hr.below hb2) (by intro d hd; simp at hd; rcases hd with rfl | rfl <;> simp [I64]) hP (by decide) (by decide))
  have HB := hid (hb.trans (hb2.mono hb.size))
  clear hr hb hb2 hP
  go_wp2_with fail
  refine HC.out.mono ?_
  rintro e w2 ⟨rfl, hb3⟩
  have HB2 := hid (HB.out.trans (hb3.mono HB.out.size))
  clear hb3
  go_wp2_with fail
  go_ret
  exact ⟨rfl, HB2.out⟩

end Go.Proofs.Ytfmahgobogelkaa.Ord

/- The contract of weepholelaw02.Fit. -/
namespace Go.Proofs.Ytfmahgobogelkaa
open Go.RowKit

set_option maxHeartbeats 4000000 in
theorem law02_Fit (n : Int) (v1 : Value) (l : List (List Int)) (w : World) (hn0 : 0 ≤ n) (hn1 : n ≤ 255) (h1 : ArgR .i8 w v1 l) :
    Calls Try.prog 38 #[.int .u8 n, v1] w fun e w' =>
      ((fitB l = false ∧ e = .returned (.tuple #[.agg #[.int .i64 0, .slice none 0 0], .bool false])) ∨
       (fitB l = true ∧ ∃ v, e = .returned (.tuple #[.agg #[.int .i64 (fitV n), v], .bool true]) ∧ OwnRw w' w.heap.size v (fitF n l))) ∧ Below w.heap.size w w' := by
  obtain ⟨a, c, rfl, hle, hmx, hnn, hrows⟩ := h1
  have HRW := hid hrows
  obtain ⟨i0, hi, hz0, hz1, hz2⟩ := info_parts info_int
  obtain ⟨i1, hj, hy0, hy1, hy2⟩ := info_parts info_ints
  have hV := fitV_range n
  obtain ⟨V, hVe⟩ : ∃ V, V = fitV n := ⟨_, rfl⟩
  have hVe2 : 1 + n % 12 = V := by rw [hVe]; rfl
  rw [← hVe] at hV
  have HVE := hid hVe
  clear hrows hnn hVe
  go_enter Try.func38, Try.ntmps38
  have hb2 : Below w.heap.size w ((w.alloc (.cells #[.int .i64 0, .slice none 0 0] 34)).alloc (.cells #[.int .i64 V, .slice none 0 0] 34)) := below_al (box_below _ _) (by simp only [size_al]; omega) _
  have HB2 := hid hb2
  clear hb2
  by_cases hlen : (30 : Int) < l.length
  · go_wp2_with fail
    exact bodyPost_ret (v := .tuple #[.agg #[.int .i64 0, .slice none 0 0], .bool false]) (by simp [results, Try.results38, go_sem]) rfl ⟨Or.inl ⟨fitB_false_long hlen, rfl⟩, HB2.out⟩
  · have hl30 : (l.length : Int) ≤ 30 := by omega
    go_wp2_with fail
    go_loopw [7] (fun i wr => ∃ (k : Nat) (v : Value), k ≤ l.length ∧ i = .int .i64 k ∧ Hid (wr.heap[w.heap.size]? = some (.cells #[.int .i64 0, .slice none 0 0] 34)) ∧ Hid (wr.heap[w.heap.size + 1]? = some (.cells #[.int .i64 V, v] 34)) ∧
        Hid (OwnRw wr (w.heap.size + 2) v ((l.take k).map (fitC V))) ∧ Below w.heap.size w wr ∧ w.heap.size + 2 ≤ wr.heap.size ∧ Hid ((l.take k).any (fun c => decide (20 < c.length)) = false)) (fun i _ => l.length - (intOf i).toNat)
    case atStart => exact ⟨0, .slice none 0 0, Nat.zero_le _, rfl, by simp [Hid, heap_al, Array.getElem?_push], by simp [Hid, heap_al, Array.getElem_push], ⟨[], World.ownsRow_nil _ _ _ _, by simp⟩, HB2.out, by simp only [size_al]; omega, rfl⟩
    case round =>
      obtain ⟨k, v, hk, rfl, hB0, hB1, hown, hb, hsz, hany⟩ := hrel
      have hq0 : wr.cell? ⟨w.heap.size, 0, none⟩ = some (.int .i64 0) := fit_cell (vs := [.int .i64 0, .slice none 0 0]) hB0.out 0
      have hq1 : wr.cell? ⟨w.heap.size, 1, none⟩ = some (.slice none 0 0) := fit_cell (vs := [.int .i64 0, .slice none 0 0]) hB0.out 1
      have hf0 : wr.frozen? ⟨w.heap.size, 0, none⟩ = false := frozen_of_row _ _ _ _ _ hB0.out
      have hf1 : wr.frozen? ⟨w.heap.size, 1, none⟩ = false := frozen_of_row _ _ _ _ _ hB0.out
      have hp0 : wr.cell? ⟨w.heap.size + 1, 0, none⟩ = some (.int .i64 V) := fit_cell (vs := [.int .i64 V, v]) hB1.out 0
      have hp1 : wr.cell? ⟨w.heap.size + 1, 1, none⟩ = some v := fit_cell (vs := [.int .i64 V, v]) hB1.out 1
      by_cases hlt : k < l.length
      · obtain ⟨cl, hcl⟩ : ∃ cl, l[k]? = some cl := ⟨l[k], by simp [hlt]⟩
        obtain ⟨b, off, u, rfl, hc0, a', c', rfl, hle', hmx', hnn', hsl, hwf⟩ := HRW.out k cl hcl
        have hcell := below_keeps hb _ _ hc0
        have HCL := hid hcl
        have HSL := hid hsl
        have HWF := hid hwf
        have HC0 := hid hc0
        clear hcl hsl hwf hc0 hnn'
        by_cases h20 : (20 : Int) < cl.length
        · go_wp2_with fail
          exact bodyPost_ret (v := .tuple #[.agg #[.int .i64 0, .slice none 0 0], .bool false]) (by simp [results, Try.results38, go_sem, hq0, hq1]) rfl ⟨Or.inl ⟨fitB_false_at HCL.out h20, rfl⟩, (hb.setCell (by simp) _).setCell (by simp) _⟩
        · clear hq0 hq1 hf0 hf1
          obtain ⟨wo, rfl⟩ : ∃ wo : World, wo = wr := ⟨_, rfl⟩
          go_wp2_with fail
          go_loopw [8, 9] (fun v8 i w2 => ∃ j : Nat, j ≤ cl.length ∧ i = .int .i64 j ∧ Hid (w2.ownsRow wo.heap.size 3 1 v8 (fitC V (cl.take j)).length (ints (fitC V (cl.take j)))) ∧ Below wo.heap.size wo w2) (fun _ i _ => cl.length - (intOf i).toNat)
          case atStart => exact ⟨0, Nat.zero_le _, rfl, World.ownsRow_nil _ _ _ _, Below.refl _ _⟩
          case round =>
            obtain ⟨j, hj1, rfl, ho8, hb8⟩ := hrel
            have hcell2 := below_keeps hb8 _ _ hcell
            have hB1' : wr.heap[w.heap.size + 1]? = some (.cells #[.int .i64 V, v] 34) := (hb8.block _ (by omega)).trans hB1.out
            have HB1 := hid hB1'
            have hp0' : wr.cell? ⟨w.heap.size + 1, 0, none⟩ = some (.int .i64 V) := fit_cell (vs := [.int .i64 V, v]) hB1' 0
            have hp1' : wr.cell? ⟨w.heap.size + 1, 1, none⟩ = some v := fit_cell (vs := [.int .i64 V, v]) hB1' 1
            have hg1' : wr.frozen? ⟨w.heap.size + 1, 1, none⟩ = false := frozen_of_row _ _ _ _ _ hB1'
            have hz8 := hb8.size
            clear hB1' hcell hp0 hp1
            by_cases hjl : j < cl.length
            · obtain ⟨b2, off2, x, rfl, hcx, hx⟩ := (HSL.out.below (hb.trans (hb8.mono (by omega)))).intK hjl
              have hxb := bounds_i8 (HWF.out x (List.mem_of_getElem? hx))
              have HX := hid hx
              obtain ⟨t, ht⟩ : ∃ t, x.tmod (V + 1) = t := ⟨_, rfl⟩
              have htb : -13 ≤ t ∧ t ≤ 13 := by
                have g1 := Int.natAbs_tmod x (V + 1)
                have g2 : x.natAbs % (V + 1).natAbs < (V + 1).natAbs := Nat.mod_lt _ (by omega)
                rw [← g1, ht] at g2
                omega
              have HT := hid ht
              have e1 : (k : Int) < l.length := by omega
              have e2 : (j : Int) < cl.length := by omega
              have e3 : IntKind.i64.wrap x = x := IntWalk.i64_in x (by omega)
              have e4 : IntKind.i64.wrap (V + 1) = V + 1 := IntWalk.i64_in _ (by omega)
              have e5 : IntKind.i64.wrap t = t := IntWalk.i64_in _ (by omega)
              have e6 : ¬ V + 1 = 0 := by omega
              clear hx
              by_cases h0 : t = 0
              · have H0 := hid h0
                have hne : (t != 0) = false := by simp [h0]
                clear h0
                go_wp2_with fail
                go_quiet (fail)
                clear e1 e2 e3 e4 e5 e6
                go_wp2_with fail
                go_roundw
                case rel => exact ⟨j + 1, by omega, by go_num, by rw [fitC_step_zero HX.out (by rw [HT.out]; exact H0.out)]; exact ho8.out, below_dr hb8 _⟩
                case measure => simp [intOf]; omega
              · have H0 := hid h0
                have hne : (t != 0) = true := by simp [h0]
                have hfl := fitC_length V (cl.take j)
                have hfl2 : (fitC V (cl.take j)).length ≤ j := Nat.le_trans hfl (by simp; omega)
                clear h0 hfl
                go_wp2_with fail
                go_quiet (fail)
                clear e1 e2 e3 e4 e5 e6
                go_wp2_with (at_builtin; refine wpList_append_sl _ rfl _ _ 22 rfl wo.heap.size 3 i0 (.int .i64 0) 8 Try.underlying22 hi hz0 hz1 hz2 rfl u8 (fitC V (cl.take j)).length (ints (fitC V (cl.take j))) rfl (World.ownsRow.alloc (w := wr.drewN nq) ho8.out _) _ 1 _ [.int .i64 t] rfl (slv_new_dr _ _ _ _ _) rfl (by nofun) one_int (by unfold maxLen; omega) (by omega) (by simp only [size_al, heap_dr]; omega) ?_; intro v9 w9 ho9 hg9; have HO9 := hid ho9; have HG9 := hid hg9; clear ho9 hg9)
                have hb9 : Below wo.heap.size wo w9 := (below_al (below_dr hb8 nq) (by simp only [heap_dr]; omega) _).grown HG9.out (by simp only [size_al, heap_dr]; omega) (fun q hq => (ho8.out.lt q hq).1)
                have HF : Hid (w9.ownsRow wo.heap.size 3 1 v9 (fitC V (cl.take (j + 1))).length (ints (fitC V (cl.take (j + 1))))) := by
                  rw [fitC_step HX.out (by rw [HT.out]; exact H0.out), HT.out, ints_append, List.length_append]
                  exact HO9.out
                go_wp2_with fail
                go_roundw
                case rel => exact ⟨j + 1, by omega, by go_num, HF, hb9⟩
                case measure => simp [intOf]; omega
            · have hjc : j = cl.length := by omega
              have HO8 : Hid (wr.ownsRow wo.heap.size 3 1 u8 (fitC V cl).length (ints (fitC V cl))) := by
                have := ho8.out
                rw [hjc, List.take_length] at this
                exact this
              clear ho8
              obtain ⟨vs, hv1, hv2⟩ := hown.out.below hb8
              have HV2 := hid hv2
              have hkl : ((l.take k).map (fitC V)).length = k := by simp; omega
              rw [hkl] at hv1
              have HV1 := hid hv1
              obtain ⟨a8, c8, rfl, -⟩ := own_sli HO8.out
              have HONE : Hid (∀ u ∈ [Value.slice a8 (fitC V cl).length c8], u.oneCell' = true) := by
                intro u hu
                simp at hu
                subst hu
                rfl
              go_wp2_with (at_builtin; refine wpList_append_sl _ rfl _ _ 32 rfl (w.heap.size + 2) 22 i1 (.slice none 0 0) 24 Try.underlying32 hj hy0 hy1 hy2 rfl v k vs rfl (HV1.out.alloc _) _ 1 _ [.slice a8 (fitC V cl).length c8] rfl (slv_new _ [.slice a8 (fitC V cl).length c8] _ _) rfl (by nofun) HONE.out (by unfold maxLen; omega) (by omega) (by simp only [size_al]; omega) ?_; intro v9 w9 ho9 hg9; obtain ⟨a9, c9, rfl, -⟩ := own_sl ho9; have HG9 := hid hg9; have HO9 := hid ho9; have hq9 : w9.heap[w.heap.size + 1]? = some (.cells #[.int .i64 V, v] 34) := (hg9.block _ (by simp only [size_al]; omega) (own_not HV1.out (by omega))).trans ((Below.heap_alloc _ _ _ (by omega)).trans HB1.out); have HQ9 := hid hq9; have hr1 : w9.cell? ⟨w.heap.size + 1, 1, none⟩ = some v := fit_cell (vs := [.int .i64 V, v]) hq9 1; have hr2 : w9.frozen? ⟨w.heap.size + 1, 1, none⟩ = false := frozen_of_row _ _ _ _ _ hq9; clear ho9 hg9 hq9)
              have hX := HG9.out.size
              simp only [size_al] at hX
              have hO9 : w9.ownsRow (w.heap.size + 2) 22 1 (.slice a9 (vs.length + 1) c9) (k + 1) (vs ++ [.slice a8 (fitC V cl).length c8]) := by
                have h := HO9.out
                rw [List.length_append] at h
                exact h
              have hpush : OwnRw w9 (w.heap.size + 2) (.slice a9 (vs.length + 1) c9) ((l.take (k + 1)).map (fitC V)) := by
                rw [fitF_step HCL.out]
                exact OwnRw.push (by rw [hkl]; exact HV1.out.alloc _) (fun j d hd => let ⟨u, e1, e2⟩ := HV2.out j d hd; ⟨u, e1, e2.alloc _⟩) ((own_base HO8.out hsz).alloc _) (by rw [hkl]; exact hO9) HG9.out
              have hb9 : Below w.heap.size w w9 := (below_al (hb.trans (hb8.mono (by omega))) (by omega) _).grown HG9.out (by simp only [size_al]; omega) (fun q hq => by have := (HV1.out.lt q hq).1; omega)
              have hB09 : w9.heap[w.heap.size]? = some (.cells #[.int .i64 0, .slice none 0 0] 34) := (HG9.out.block _ (by simp only [size_al]; omega) (own_not HV1.out (by omega))).trans ((Below.heap_alloc _ _ _ (by omega)).trans ((hb8.block _ (by omega)).trans hB0.out))
              have HP := hid hpush
              have HB09 := hid hB09
              clear hpush hB09 hO9
              go_roundw
              case rel =>
                refine ⟨k + 1, .slice a9 (vs.length + 1) c9, by omega, by go_num, ?_, ?_, HP.out.setBelow (by simp) _, hb9.setCell (by simp) _, by simp [World.setCell]; omega, take_any_succ HCL.out hany (by simp; omega)⟩
                · exact (Below.heap_setCell _ _ _ _ (by simp)).trans HB09.out
                · exact heap_setCell_same w9 (w.heap.size + 1) 1 #[.int .i64 V, v] 34 _ HQ9.out
              case measure => simp [intOf]; omega
      · obtain ⟨av, cv, rfl⟩ : ∃ av cv, v = .slice av l.length cv := by
          obtain ⟨vs, ho, -⟩ := hown.out
          obtain ⟨av, cv, h1, -⟩ := own_sl ho
          have h2 : vs.length = l.length := by have := ho.1; simp at this; omega
          exact ⟨av, cv, by rw [h1, h2]⟩
        have hkl : k = l.length := by omega
        subst hkl
        go_wp2_with fail
        refine bodyPost_ret (v := .tuple #[.agg #[.int .i64 V, .slice av l.length cv], .bool true]) (by simp [results, Try.results38, go_sem, hq0, hq1]) rfl ⟨Or.inr ⟨fitB_true hl30 hlt hany, _, by rw [HVE.out], ?_⟩, ?_⟩
        · have h1 := hown.out
          rw [List.take_length] at h1
          rw [fitF, ← HVE.out]
          exact ((h1.setBelow (by simp) _).setBelow (by simp) _).base (by omega)
        · exact (hb.setCell (by simp) _).setCell (by simp) _

end Go.Proofs.Ytfmahgobogelkaa

/- weepholelaw04.assumed. -/
namespace Go.Proofs.Ytfmahgobogelkaa.Ord
open Go.RowKit

/-- What assumed returns. -/
def asmL (V : Int) (xs : List Int) : List Int := fitC V (xs.take 12)

theorem asmL_length (V : Int) (xs : List Int) : (asmL V xs).length ≤ 12 := Nat.le_trans (fitC_length _ _) (by simp; omega)

theorem asmL_ok {n : Nat} (hn : 1 ≤ n) (xs : List Int) : ∀ a ∈ asmL n xs, LitOk n a := fun a ha => by
  obtain ⟨h1, h2, h3⟩ := mem_fitC (V := n) (by omega) ha
  exact ⟨h1, h3, h2⟩

end Go.Proofs.Ytfmahgobogelkaa.Ord

/- The contract of weepholelaw02.Model. -/
namespace Go.Proofs.Ytfmahgobogelkaa
open Go.RowKit

theorem info_bool : (Try.prog.info? 4).map (fun i => (i.zero, i.size, i.bytes)) = some (some (.bool false), 1, 1) := by kernel_rfl

/-- The bit i of a number. -/
def bitB (b : Int) (i : Nat) : Bool := b.toNat.testBit i

/-- weepholelaw02.Model. -/
def modelL (n : Nat) (b : Int) : List Bool := (List.range n).map (bitB b)

/-- What the model holds after k rounds. -/
def modelAt (n : Nat) (b : Int) (k : Nat) : List Value := (List.range n).map (fun i => Value.bool (decide (i < k) && bitB b i))

theorem modelAt_zero {n : Nat} {b : Int} : (madeCells (Value.bool false).cells (n * 1)).toList = modelAt n b 0 := by
  simp only [modelAt, madeCells, Value.cells, Nat.mul_one, Array.toList_map, Array.toList_range]
  refine List.map_congr_left fun i _ => ?_
  simp [Nat.mod_one]

theorem modelAt_succ {n k : Nat} {b : Int} (h : k < n) : (modelAt n b k).set k (.bool (bitB b k)) = modelAt n b (k + 1) := by
  refine List.ext_getElem? fun i => ?_
  rw [List.getElem?_set]
  by_cases hi : k = i
  · subst hi; simp [modelAt, h]
  · rw [if_neg hi]
    by_cases hn : i < n
    · have : (i < k) ↔ (i < k + 1) := by omega
      simp [modelAt, hn, this]
    · simp [modelAt, hn]

theorem modelAt_end {n : Nat} {b : Int} : modelAt n b n = bools (modelL n b) := by
  simp only [modelAt, bools, modelL, List.map_map]
  refine List.map_congr_left fun i hi => ?_
  have := List.mem_range.1 hi
  simp [this]

theorem bits_and_u16_one (a : Nat) (ha : a < 65536) : bits BinOp.and IntKind.u16 (a : Int) 1 = ((a % 2 : Nat) : Int) := by
  have h1 : (BitVec.ofInt 16 (a : Int)).toNat = a := by
    rw [BitVec.ofInt_natCast, BitVec.toNat_ofNat]; exact Nat.mod_eq_of_lt (by omega)
  have h2 : (BitVec.ofInt 16 (1 : Int)).toNat = 1 := by decide
  show IntKind.u16.wrap ((BitVec.ofInt 16 (a : Int) &&& BitVec.ofInt 16 1).toNat : Int) = _
  rw [BitVec.toNat_and, h1, h2, Nat.and_one_is_mod, IntWalk.u16_in _ (by omega)]

theorem model_bit (b : Int) (k : Nat) (h0 : 0 ≤ b) (h1 : b ≤ 65535) : (bits BinOp.and IntKind.u16 (b / 2 ^ min k 16) 1 == 1) = bitB b k := by
  obtain ⟨m, rfl⟩ := Int.eq_ofNat_of_zero_le h0
  have hm : m ≤ 65535 := by omega
  have e1 : ((m : Int) / 2 ^ min k 16) = ((m / 2 ^ min k 16 : Nat) : Int) := by simp
  have hlt : m / 2 ^ min k 16 < 65536 := Nat.lt_of_le_of_lt (Nat.div_le_self _ _) (by omega)
  rw [e1, bits_and_u16_one _ hlt]
  simp only [bitB, Int.toNat_natCast, Nat.testBit_eq_decide_div_mod_eq]
  have e2 : m / 2 ^ min k 16 = m / 2 ^ k := by
    by_cases hk : k ≤ 16
    · rw [Nat.min_eq_left hk]
    · have h16 : m / 2 ^ 16 = 0 := Nat.div_eq_of_lt (by omega)
      have hkk : m / 2 ^ k = 0 := Nat.div_eq_of_lt (Nat.lt_of_lt_of_le (show m < 2 ^ 16 by omega) (Nat.pow_le_pow_right (by decide) (by omega)))
      rw [Nat.min_eq_right (by omega), h16, hkk]
  rw [e2]
  generalize m / 2 ^ k = q
  by_cases h : q % 2 = 1
  · simp [h]
  · have : q % 2 = 0 := by omega
    simp [this]

set_option maxHeartbeats 1000000 in
theorem law02_Model (n : Nat) (b : Int) (w : World) (hn : n ≤ 64) (h0 : 0 ≤ b) (h1 : b ≤ 65535) :
    Calls Try.prog 41 #[.int .i64 n, .int .u16 b] w fun e w' => ∃ v, e = .returned v ∧ w'.ownsRow w.heap.size 4 1 v n (bools (modelL n b)) ∧ Below w.heap.size w w' := by
  obtain ⟨i0, hi, hz0, hz1, hz2⟩ := info_parts info_bool

  go_enter Try.func41, Try.ntmps41
  go_wp2_with (at_make; refine wpList_make_full _ rfl _ _ 27 rfl w.heap.size 4 i0 (.bool false) 1 Try.underlying27 hi hz0 hz1 _ _ _ _ n rfl rfl rfl rfl (by rw [hz2]; omega) (by unfold maxLen; omega) (Nat.le_refl _) ?_; intro w3 hown3 hgrow3)

  have hb3 : Below w.heap.size w w3 := (Below.refl _ _).grown hgrow3 (by omega) (by simp)
  have HO3 := hid hown3
  clear hown3 hgrow3
  go_wp2_with fail
  go_loopw [6] (fun i wr => ∃ k : Nat, k ≤ n ∧ i = .int .i64 k ∧ Hid (wr.ownsRow w.heap.size 4 1 (.slice (some ⟨w.heap.size, 0, none⟩) n n) n (modelAt n b k)) ∧ Below w.heap.size w wr) (fun i _ => n - (intOf i).toNat)
  case atStart => exact ⟨0, Nat.zero_le _, rfl, by rw [← modelAt_zero]; exact HO3.out, hb3⟩
  case round =>
    obtain ⟨k, hk, rfl, ho, hb⟩ := hrel
    by_cases hlt : k < n
    · have hc : wr.cell? ⟨w.heap.size, k, none⟩ = some (.bool (decide (k < k) && bitB b k)) := by
        rw [ho.out.cellAt k (by omega)]; simp [modelAt, hlt]
      have hfz : wr.frozen? ⟨w.heap.size, k, none⟩ = false := ho.out.frozenAt k
      have HN := hid (ho.out.stored k (.bool (bitB b k))).1
      have HG := hid (ho.out.stored k (.bool (bitB b k))).2
      go_wp2_with fail
      go_roundw
      case rel =>
        rw [model_bit b k h0 h1]
        exact ⟨k + 1, by omega, by go_num, by rw [← modelAt_succ hlt]; exact HN.out, hb.grown HG.out hb.size (by simp)⟩
      case measure => simp [intOf]; omega
    · have hkn : k = n := by omega
      subst hkn
      go_wp2_with fail
      go_ret
      exact ⟨_, rfl, by rw [← modelAt_end]; exact ho, hb⟩

end Go.Proofs.Ytfmahgobogelkaa

/- The contracts of Fit and Model once more, by cases and with their shapes; what Fit makes is valid. -/
namespace Go.Proofs.Ytfmahgobogelkaa
open Go.RowKit

theorem law02_FitT (n : Int) (v1 : Value) (l : List (List Int)) (w : World) (hfit : fitB l = true) (hn0 : 0 ≤ n) (hn1 : n ≤ 255) (h1 : ArgR .i8 w v1 l) :
    Calls Try.prog 38 #[.int .u8 n, v1] w fun e w' =>
      ∃ a c, e = .returned (.tuple #[.agg #[.int .i64 (fitV n), .slice a (fitF n l).length c], .bool true]) ∧ OwnRw w' w.heap.size (.slice a (fitF n l).length c) (fitF n l) ∧ Rws w' a (fitF n l) ∧ Below w.heap.size w w' := by
  refine (law02_Fit n v1 l w hn0 hn1 h1).mono ?_
  rintro e w' ⟨h | ⟨_, v, rfl, ho⟩, hb⟩
  · rw [hfit] at h; cases h.1
  · obtain ⟨a, c, rfl, _, _, hr⟩ := ho.shape
    exact ⟨a, c, rfl, ho, hr, hb⟩

theorem law02_FitF (n : Int) (v1 : Value) (l : List (List Int)) (w : World) (hfit : fitB l = false) (hn0 : 0 ≤ n) (hn1 : n ≤ 255) (h1 : ArgR .i8 w v1 l) :
    Calls Try.prog 38 #[.int .u8 n, v1] w fun e w' =>
      e = .returned (.tuple #[.agg #[.int .i64 0, .slice none 0 0], .bool false]) ∧ Below w.heap.size w w' := by
  refine (law02_Fit n v1 l w hn0 hn1 h1).mono ?_
  rintro e w' ⟨⟨_, rfl⟩ | ⟨h, _⟩, hb⟩
  · exact ⟨rfl, hb⟩
  · rw [hfit] at h; cases h

theorem law02_ModelR (x : Int) (n : Nat) (b : Int) (w : World) (hx : x = n) (hn : n ≤ 64) (h0 : 0 ≤ b) (h1 : b ≤ 65535) :
    Calls Try.prog 41 #[.int .i64 x, .int .u16 b] w fun e w' => ∃ a c, e = .returned (.slice a (modelL n b).length c) ∧ w'.ownsRow w.heap.size 4 1 (.slice a (modelL n b).length c) (modelL n b).length (bools (modelL n b)) ∧ SlV w' a (bools (modelL n b)) ∧ Below w.heap.size w w' := by
  subst hx
  refine (law02_Model n b w hn h0 h1).mono ?_
  rintro e w' ⟨v, rfl, ho, hb⟩
  obtain ⟨a, c, rfl, _, _, hs⟩ := own_sl ho
  have hl : (modelL n b).length = n := by simp [modelL]
  rw [bools_length] at *
  exact ⟨a, c, rfl, hl.symm ▸ ho, hs, hb⟩

theorem fitF_length (n : Int) (l : List (List Int)) : (fitF n l).length = l.length := by simp [fitF]

theorem fitB_bounds {l : List (List Int)} (h : fitB l = true) : l.length ≤ 30 ∧ ∀ c ∈ l, c.length ≤ 20 := by
  simp only [fitB, Bool.and_eq_true, decide_eq_true_eq, Bool.not_eq_true', List.any_eq_false] at h
  exact ⟨h.1, fun c hc => by simpa using h.2 c hc⟩

theorem mem_fitF {n : Int} {l : List (List Int)} (h : fitB l = true) {d : List Int} (hd : d ∈ fitF n l) : d.length ≤ 20 ∧ ∀ x ∈ d, x ≠ 0 ∧ -fitV n ≤ x ∧ x ≤ fitV n := by
  simp only [fitF, List.mem_map] at hd
  obtain ⟨c, hc, rfl⟩ := hd
  exact ⟨Nat.le_trans (fitC_length _ _) ((fitB_bounds h).2 c hc), fun x hx => mem_fitC (fitV_range n).1 hx⟩

theorem fok_fit {n : Int} {l : List (List Int)} (h : fitB l = true) : FOk (fitF n l) := fun d hd => by
  have h1 := mem_fitF h hd
  have h2 := fitV_range n
  exact ⟨fun x hx => by have := h1.2 x hx; unfold I64; omega, by omega⟩

theorem litCheck_fit {n : Int} {l : List (List Int)} (h : fitB l = true) {d : List Int} (hd : d ∈ fitF n l) : litCheck (fitV n) d = 0 := by
  have h1 := mem_fitF h hd
  have h2 := fitV_range n
  refine litCheck_ok (by omega) (by omega) ?_
  rw [List.any_eq_false]
  intro x hx
  have := h1.2 x hx
  simp [badLit]; omega

theorem cnfCheck_fit {n : Int} {l : List (List Int)} (h : fitB l = true) : cnfCheck (fitV n) (fitF n l) = 0 := by
  have h2 := fitV_range n
  have h3 := (fitB_bounds h).1
  have h4 := fitF_length n l
  rw [cnfCheck_find (by omega) (by omega)]
  have : (fitF n l).find? (fun c => litCheck (fitV n) c != 0) = none := by
    rw [List.find?_eq_none]
    intro d hd
    simp [litCheck_fit h hd]
  rw [this]

end Go.Proofs.Ytfmahgobogelkaa
