/- The abstract heap: activities and which variables are in; the variable that Pop takes. Plain. -/
import Derived.Maps.AppendAt
import Derived.Deep.OwnRows
import Derived.BigRegion
import Derived.Deep.DrawnRows
import Derived.Test.YtfofabbnbmieoaaQ2
import Derived.Test.YtfofabbnbmieoaaQ1

namespace Go.Proofs.Ytfofabbnbmieoaa

/-- One look of the reference's Pop: the best place so far (from 0 on; -1: none). -/
def popStep (A : List Int) (In : List Bool) (best : Int) (i : Nat) : Int :=
  if In.getD i false = true ∧ (best < 0 ∨ actv A (best + 1) < actv A ((i : Int) + 1)) then (i : Int) else best

/-- The best place after k looks. -/
def popTo (A : List Int) (In : List Bool) (k : Nat) : Int := (List.range k).foldl (popStep A In) (-1)

/-- What Pop takes: 0 if there is none. -/
def popV (A : List Int) (In : List Bool) : Int := popTo A In In.length + 1

theorem popTo_succ (A : List Int) (In : List Bool) (k : Nat) : popTo A In (k + 1) = popStep A In (popTo A In k) k := by
  simp [popTo, List.range_succ]

theorem popTo_spec (A : List Int) (In : List Bool) : ∀ k, (popTo A In k = -1 ∧ ∀ i, i < k → In.getD i false = false) ∨
    (0 ≤ popTo A In k ∧ popTo A In k < k ∧ In.getD (popTo A In k).toNat false = true ∧ ∀ i, i < k → In.getD i false = true → bef A ((i : Int) + 1) (popTo A In k + 1) = false) := by
  intro k
  induction k with
  | zero => exact Or.inl ⟨rfl, fun i h => by omega⟩
  | succ k ih =>
    rw [popTo_succ]
    unfold popStep
    by_cases hin : In.getD k false = true
    · rcases ih with ⟨h1, h2⟩ | ⟨h1, h2, h3, h4⟩
      · rw [if_pos ⟨hin, Or.inl (by omega)⟩]
        refine Or.inr ⟨by omega, by omega, by simpa using hin, fun i hi hi2 => ?_⟩
        by_cases hik : i = k
        · subst hik; exact nbef_self _ _
        · rw [h2 i (by omega)] at hi2; cases hi2
      · by_cases hb : actv A (popTo A In k + 1) < actv A ((k : Int) + 1)
        · rw [if_pos ⟨hin, Or.inr hb⟩]
          refine Or.inr ⟨by omega, by omega, by simpa using hin, fun i hi hi2 => ?_⟩
          by_cases hik : i = k
          · subst hik; exact nbef_self _ _
          · exact nbef_trans (h4 i (by omega) hi2) (nbef_of_bef (by rw [bef_iff]; exact Or.inl hb))
        · rw [if_neg (by rintro ⟨_, h | h⟩ <;> omega)]
          refine Or.inr ⟨h1, by omega, h3, fun i hi hi2 => ?_⟩
          by_cases hik : i = k
          · subst hik; rw [nbef_iff]; omega
          · exact h4 i (by omega) hi2
    · rw [if_neg (fun h => hin h.1)]
      have hin' : In.getD k false = false := by simpa using hin
      rcases ih with ⟨h1, h2⟩ | ⟨h1, h2, h3, h4⟩
      · exact Or.inl ⟨h1, fun i hi => by by_cases hik : i = k; · subst hik; exact hin'
                                         · exact h2 i (by omega)⟩
      · refine Or.inr ⟨h1, by omega, h3, fun i hi hi2 => ?_⟩
        by_cases hik : i = k
        · subst hik; rw [hin'] at hi2; cases hi2
        · exact h4 i (by omega) hi2

theorem getD_true {In : List Bool} {i : Nat} : In.getD i false = true ↔ In[i]? = some true := by
  rw [List.getD_eq_getElem?_getD]
  cases In[i]? with
  | none => simp
  | some b => simp

theorem popV_none {A : List Int} {In : List Bool} (h : ∀ i : Nat, In[i]? ≠ some true) : popV A In = 0 := by
  rcases popTo_spec A In In.length with ⟨h1, _⟩ | ⟨_, _, h3, _⟩
  · unfold popV; omega
  · exact absurd (getD_true.1 h3) (h _)

/-- What is in and behind which nothing comes is what Pop takes. -/
theorem popV_eq {A : List Int} {In : List Bool} {v : Int} (h1 : 1 ≤ v) (h2 : In[(v - 1).toNat]? = some true) (h3 : ∀ u : Int, 1 ≤ u → In[(u - 1).toNat]? = some true → bef A u v = false) : popV A In = v := by
  have hl : (v - 1).toNat < In.length := (List.getElem?_eq_some_iff.1 h2).1
  rcases popTo_spec A In In.length with ⟨_, h5⟩ | ⟨h5, h6, h7, h8⟩
  · rw [← getD_true, h5 _ hl] at h2; cases h2
  · have ha := h8 (v - 1).toNat hl (getD_true.2 h2)
    rw [show (((v - 1).toNat : Nat) : Int) + 1 = v by omega] at ha
    have hb := h3 (popTo A In In.length + 1) (by omega) (by rw [show (popTo A In In.length + 1 - 1).toNat = (popTo A In In.length).toNat by omega]; exact getD_true.1 h7)
    unfold popV
    exact bef_total hb ha

theorem popV_spec {A : List Int} {In : List Bool} (h : popV A In ≠ 0) : 1 ≤ popV A In ∧ popV A In ≤ In.length ∧ In[(popV A In - 1).toNat]? = some true ∧ ∀ u : Int, 1 ≤ u → In[(u - 1).toNat]? = some true → bef A u (popV A In) = false := by
  unfold popV at *
  rcases popTo_spec A In In.length with ⟨h1, _⟩ | ⟨h5, h6, h7, h8⟩
  · omega
  · refine ⟨by omega, by omega, by rw [show (popTo A In In.length + 1 - 1).toNat = (popTo A In In.length).toNat by omega]; exact getD_true.1 h7, fun u hu hin => ?_⟩
    have hl : (u - 1).toNat < In.length := (List.getElem?_eq_some_iff.1 hin).1
    have := h8 (u - 1).toNat hl (getD_true.2 hin)
    rwa [show (((u - 1).toNat : Nat) : Int) + 1 = u by omega] at this

theorem popV_range (A : List Int) (In : List Bool) : 0 ≤ popV A In ∧ popV A In ≤ In.length := by
  by_cases h : popV A In = 0
  · omega
  · have := popV_spec h; omega

/-- The variables of the items are those that are in. -/
def RelIn (I : List Int) (In : List Bool) : Prop := ∀ v : Int, 1 ≤ v → v ≤ In.length → (inI I v ↔ In[(v - 1).toNat]? = some true)

theorem pop_best {A I P : List Int} {In : List Bool} (hf : Fits I P) (ho : HeapOrd A I) (hl : P.length = In.length + 1) (hr : RelIn I In) (hI : 0 < I.length) : popV A In = at' I 0 := by
  have b0 := hf.2.1 0 hI
  refine popV_eq b0.1 ((hr _ b0.1 (by omega)).1 ⟨0, hI, rfl⟩) fun u hu hin => ?_
  have hul : (u - 1).toNat < In.length := (List.getElem?_eq_some_iff.1 hin).1
  obtain ⟨k, hk, rfl⟩ := (hr u hu (by omega)).2 hin
  exact heap_top ho k hk

theorem pop_empty {A I : List Int} {In : List Bool} (hr : RelIn I In) (hI : I.length = 0) : popV A In = 0 := by
  refine popV_none fun i hi => ?_
  have hl : i < In.length := (List.getElem?_eq_some_iff.1 hi).1
  obtain ⟨k, hk, _⟩ := (hr ((i : Int) + 1) (by omega) (by omega)).2 (by rw [show ((i : Int) + 1 - 1).toNat = i by omega]; exact hi)
  omega

theorem rel_pop {I P : List Int} {In : List Bool} (hf : Fits I P) (hr : RelIn I In) (hI : 0 < I.length) : RelIn (popI I) (In.set (at' I 0 - 1).toNat false) := by
  have b0 := hf.2.1 0 hI
  intro v h1 h2
  rw [List.length_set] at h2
  rw [inI_pop hf hI, hr v h1 h2, List.getElem?_set]
  by_cases hv : v = at' I 0
  · subst hv
    simp
  · rw [if_neg (by omega)]
    simp [hv]

theorem rel_push {I : List Int} {In : List Bool} {v : Int} (hr : RelIn I In) (h1 : 1 ≤ v) (h2 : v ≤ In.length) : RelIn (I ++ [v]) (In.set (v - 1).toNat true) := by
  intro u hu hu2
  rw [List.length_set] at hu2
  rw [inI_snoc, hr u hu hu2, List.getElem?_set]
  by_cases hv : u = v
  · subst hv
    rw [if_pos rfl, if_pos (by omega)]; simp
  · rw [if_neg (by omega)]
    simp [hv]

theorem rel_congr {I J : List Int} {In : List Bool} (hr : RelIn I In) (h : ∀ v, inI J v ↔ inI I v) : RelIn J In := fun v h1 h2 => by rw [h]; exact hr v h1 h2

theorem set_same_true {In : List Bool} {i : Nat} (h : In[i]? = some true) : In.set i true = In := by
  refine List.ext_getElem? fun k => ?_
  rw [List.getElem?_set]
  split
  · rename_i hk; subst hk
    rw [h, if_pos (List.getElem?_eq_some_iff.1 h).1]
  · rfl

theorem rel_new (n : Nat) : RelIn (newI n) (List.replicate n true) := fun v h1 h2 => by
  rw [List.length_replicate] at h2
  rw [inI_new, List.getElem?_replicate, if_pos (by omega)]
  simp; omega

end Go.Proofs.Ytfofabbnbmieoaa

/- The contracts of Bump, Has and Len of a heap, in terms of the activities and of which variables are in. -/
namespace Go.Proofs.Ytfofabbnbmieoaa.Ord
open Go.RowKit

/-- The heap at the block b, of the blocks of S alone: activities A, and which variables are in. -/
def Heap (w : World) (b : Nat) (S : Nat → Prop) (A : List Int) (In : List Bool) : Prop :=
  ∃ va vi vp I P, HRep w b va vi vp A I P ∧ HeapOrd A I ∧ Fits I P ∧ P.length = In.length + 1 ∧ A.length = In.length + 1 ∧ RelIn I In ∧ (∀ k, foot b va vi vp k → S k) ∧ In.length ≤ 1048576 ∧ (∀ a ∈ A, 0 ≤ a ∧ a ≤ 1152921504606846976)

theorem heap_frame {w w' : World} {b : Nat} {S : Nat → Prop} {A : List Int} {In : List Bool} (h : Heap w b S A In) (hk : ∀ k, k < w.heap.size → S k → w'.heap[k]? = w.heap[k]?) : Heap w' b S A In := by
  obtain ⟨va, vi, vp, I, P, h1, h2, h3, h4, h5, h6, h7, h8⟩ := h
  exact ⟨va, vi, vp, I, P, hrep_frame h1 fun k e => hk k (foot_lt h1 e) (h7 k e), h2, h3, h4, h5, h6, h7, h8⟩

theorem heap_touch {w w' : World} {b : Nat} {S T : Nat → Prop} {A : List Int} {In : List Bool} (h : Heap w b S A In) (ht : Touch T w w') (hd : ∀ k, S k → ¬ T k) : Heap w' b S A In :=
  heap_frame h fun k hk hs => ht.block k hk (hd k hs)

theorem heap_drewN {w : World} {b : Nat} {S : Nat → Prop} {A : List Int} {In : List Bool} (h : Heap w b S A In) (n : Nat) : Heap (w.drewN n) b S A In := heap_frame h fun _ _ _ => rfl

theorem fits_len {I P : List Int} {In : List Bool} (h : Fits I P) (hl : P.length = In.length + 1) (hr : RelIn I In) : I.length ≤ In.length := by
  rw [in_count h hl hr]; exact List.countP_le_length

theorem at'_eq_actv (A : List Int) (v : Int) : at' A v.toNat = actv A v := rfl

/-- What Bump returns. -/
def bumpE (A : List Int) (n : Nat) (v by' : Int) : Int := if 1 ≤ v ∧ v ≤ n ∧ 0 ≤ by' ∧ by' ≤ 1099511627776 ∧ actv A v + by' ≤ 1152921504606846976 then 0 else 3
/-- The activities behind it. -/
def bumpA (A : List Int) (n : Nat) (v by' : Int) : List Int := if bumpE A n v by' = 0 then A.set v.toNat (actv A v + by') else A

theorem mem_set_cases {A : List Int} {k : Nat} {x a : Int} (h : a ∈ A.set k x) : a ∈ A ∨ a = x := by
  rcases List.mem_or_eq_of_mem_set h with h | h
  · exact Or.inl h
  · exact Or.inr h

set_option maxHeartbeats 1000000 in
theorem heap_Len (b : Nat) (S : Nat → Prop) (A : List Int) (In : List Bool) (n : Int) (w : World) (hn : ((In.countP id : Nat) : Int) = n) (h : Heap w b S A In) :
    Calls Try.prog 73 #[.pointer (some ⟨b, 0, none⟩)] w fun e w' => e = .returned (.int .i64 n) ∧ w = w' := by
  obtain ⟨va, vi, vp, I, P, h1, h2, h3, h4, h5, h6, h7, h8, h9⟩ := h
  obtain ⟨hc0, hc1, hc2, -, -⟩ := hrep_cells h1
  obtain ⟨ai, ci, rfl, -⟩ := rw_shape h1.ri
  have hl := in_count h3 h4 h6
  rw [← hl] at hn
  have HN := hid hn
  clear h1 h2 h3 h4 h5 h6 h7 h8 h9 hl hn hc0 hc2
  go_enter Try.func73, Try.ntmps73
  go_wp2_with fail
  go_ret
  exact ⟨by rw [← HN.out]; rfl, rfl⟩

end Go.Proofs.Ytfofabbnbmieoaa.Ord

/- The contract of Bump of a heap. -/
namespace Go.Proofs.Ytfofabbnbmieoaa.Ord
open Go.RowKit

theorem bump_mem {A : List Int} {k : Nat} {x : Int} (h : ∀ a ∈ A, 0 ≤ a ∧ a ≤ 1152921504606846976) (hx : 0 ≤ x ∧ x ≤ 1152921504606846976) : ∀ a ∈ A.set k x, 0 ≤ a ∧ a ≤ 1152921504606846976 := fun a ha => by
  rcases mem_set_cases ha with h' | h'
  · exact h a h'
  · rw [h']; exact hx

theorem actv_range {A : List Int} (h : ∀ a ∈ A, 0 ≤ a ∧ a ≤ 1152921504606846976) (v : Int) : 0 ≤ actv A v ∧ actv A v ≤ 1152921504606846976 := by
  unfold actv
  rw [List.getD_eq_getElem?_getD]
  cases hx : A[v.toNat]? with
  | none => simp
  | some x => exact h x (List.mem_of_getElem? hx)

set_option maxRecDepth 100000 in
set_option maxHeartbeats 4000000 in
theorem heap_Bump (b : Nat) (S : Nat → Prop) (A : List Int) (In : List Bool) (v by' e : Int) (w : World) (he : bumpE A In.length v by' = e) (h : Heap w b S A In) :
    Calls Try.prog 71 #[.pointer (some ⟨b, 0, none⟩), .int .i64 v, .int .i64 by'] w fun x w' => x = .returned (.int .i64 e) ∧ Heap w' b S (bumpA A In.length v by') In ∧ Touch S w w' := by
  have h0 := h
  obtain ⟨va, vi, vp, I, P, h1, h2, h3, h4, h5, h6, h7, h8, h9⟩ := h
  have hxr := actv_range h9 v
  obtain ⟨x, hx⟩ : ∃ x, actv A v = x := ⟨_, rfl⟩
  rw [hx] at hxr
  have hN : ∀ {c : Prop}, e = 3 → Hid (bumpA A In.length v by' = A) := fun {c} h => by
    unfold bumpA; rw [he, h]; rfl
  by_cases hv : 1 ≤ v ∧ v ≤ In.length
  · have hi := heap_is b va vi vp A I P v true w (by rw [h5]; simp; omega) h1
    obtain ⟨hc0, hc1, hc2, -, -⟩ := hrep_cells h1
    obtain ⟨ga, ca, rfl⟩ := rw_form h1.ra (by omega)
    have hca := rw_val h1.ra rfl (k := v.toNat) (by omega)
    rw [at'_eq_actv, hx] at hca
    have hv0 : 0 ≤ v := by omega
    have hvA : v < A.length := by omega
    by_cases hb0 : 0 ≤ by'
    · by_cases hb1 : by' ≤ 1099511627776
      · by_cases hb2 : x + by' ≤ 1152921504606846976
        · have he0 : e = 0 := by rw [← he]; unfold bumpE; rw [if_pos ⟨hv.1, hv.2, hb0, hb1, by rw [hx]; exact hb2⟩]
          have hA' : bumpA A In.length v by' = A.set v.toNat (x + by') := by unfold bumpA; rw [he, he0, if_pos rfl, hx]
          rw [hA']
          have lv : v.toNat < A.length := by omega
          have hfa := rw_free h1.ra rfl v.toNat
          have hs := hrep_setA h1 rfl v.toNat (x + by')
          obtain ⟨-, hd1, hd2, -, -⟩ := hrep_cells hs
          obtain ⟨gp, cp, rfl⟩ := rw_form hs.rp (by omega)
          have hdp := rw_val hs.rp rfl (k := v.toNat) (by omega)
          have hpl := fits_place h3 (v := v.toNat) (by omega)
          rw [show ((v.toNat : Nat) : Int) = v by omega] at hpl
          have hm := bump_mem (k := v.toNat) h9 (show 0 ≤ x + by' ∧ x + by' ≤ 1152921504606846976 by omega)
          have hsl : (A.set v.toNat (x + by')).length = A.length := by simp
          have hil := fits_len h3 h4 h6
          have hvP : v < P.length := by omega
          have HI := hid hi
          have HM := hid hm
          have HE0 := hid he0
          by_cases hin : inI I v
          · obtain ⟨i, hi1⟩ : ∃ i : Nat, at' P v.toNat = i := ⟨(at' P v.toNat).toNat, by have := hpl.1.2 hin; omega⟩
            have hi2 := hpl.2 hin
            rw [hi1] at hdp hi2
            have hil2 : i < I.length := by omega
            have hiv : at' I i = v := by have := hi2.2; simpa using this
            have hup := bump_up (x := x + by') h3 h2 lv (by rw [hx]; omega) hil2 hiv
            have HS := hid hs
            have HF := hid h3
            have HU := hid hup
            have HR := hid h6
            have H7 := hid h7
            have HSL := hid hsl
            have HP4 := hid h4
            have HA5 := hid h5
            clear h0 h1 h2 h3 h4 h5 h6 h7 h9 hN hA' hs hpl hm hsl hi hi1 hi2 hiv hup hin he he0 hx
            go_enter Try.func71, Try.ntmps71
            go_wp2_with (go_at_call 85; refine HI.out.mono ?_; rintro e w' ⟨rfl, rfl⟩)
            go_region_with (go_at_call 86; refine (q_up b _ vi _ _ I P i _ (hrep_drew HS.out) HF.out HU.out hil2 (by rw [HSL.out]; have := HP4.out; have := HA5.out; omega) (by have := HP4.out; omega) (by omega)).mono ?_; rintro e w2 ⟨rfl, hsf, ht⟩)
            all_goals
              have HSF := hid hsf
              have HT := hid ht
              clear hsf ht
              go_wp2_with fail
              go_ret
              obtain ⟨I2, P2, r1, r2, r3, r4, r5, r6⟩ := HSF.out
              refine ⟨by rw [HE0.out]; rfl, ⟨_, _, _, I2, P2, r1, r2, r3, by rw [r5]; exact HP4.out, by rw [HSL.out]; exact HA5.out, rel_congr HR.out r6, H7.out, h8, HM.out⟩, ?_⟩
              exact ((Touch.refl S w).setCell (H7.out ga (Or.inr (Or.inl rfl))) _).drew.trans (HT.out.mono fun k _ hk => H7.out k hk)
          · have hi1 : ¬ 0 ≤ at' P v.toNat := fun h => hin (hpl.1.1 h)
            obtain ⟨p, hp⟩ : ∃ p, at' P v.toNat = p := ⟨_, rfl⟩
            rw [hp] at hdp hi1
            have hord := bump_out (x := x + by') h3 h2 lv hv.1 hin
            have HFIN : Hid (Heap (w.setCell ⟨ga, v.toNat, none⟩ (.int .i64 (x + by'))) b S (A.set v.toNat (x + by')) In) := ⟨_, _, _, I, P, hs, hord, h3, h4, by rw [hsl]; exact h5, h6, h7, h8, hm⟩
            have H7 := hid h7
            clear h0 h1 h2 h3 h4 h5 h6 h7 h9 hN hA' hs hpl hm hsl hi hin he he0 hx hp hord
            go_enter Try.func71, Try.ntmps71
            go_wp2_with (go_at_call 85; refine HI.out.mono ?_; rintro e w' ⟨rfl, rfl⟩)
            go_ret
            exact ⟨by rw [HE0.out]; rfl, HFIN.out, (Touch.refl S w).setCell (H7.out ga (Or.inr (Or.inl rfl))) _⟩
        · have he3 : e = 3 := by rw [← he]; unfold bumpE; rw [if_neg (by rintro ⟨h1, h2, h3, h4, h5⟩; rw [hx] at h5; omega)]
          rw [hN (c := True) he3]
          have HE0 := hid he3
          have HFIN := hid h0
          have HI := hid hi
          clear h0 h1 h2 h3 h4 h5 h6 h7 h9 hN he3 he hx hi
          go_enter Try.func71, Try.ntmps71
          go_wp2_with (go_at_call 85; refine HI.out.mono ?_; rintro e w' ⟨rfl, rfl⟩)
          go_ret
          exact ⟨by rw [HE0.out]; rfl, HFIN.out, Touch.refl _ _⟩
      · have he3 : e = 3 := by rw [← he]; unfold bumpE; rw [if_neg (by rintro ⟨h1, h2, h3, h4, h5⟩; omega)]
        rw [hN (c := True) he3]
        have HE0 := hid he3
        have HFIN := hid h0
        have HI := hid hi
        clear h0 h1 h2 h3 h4 h5 h6 h7 h9 hN he3 he hx hi
        go_enter Try.func71, Try.ntmps71
        go_wp2_with (go_at_call 85; refine HI.out.mono ?_; rintro e w' ⟨rfl, rfl⟩)
        go_ret
        exact ⟨by rw [HE0.out]; rfl, HFIN.out, Touch.refl _ _⟩
    · have he3 : e = 3 := by rw [← he]; unfold bumpE; rw [if_neg (by rintro ⟨h1, h2, h3, h4, h5⟩; omega)]
      rw [hN (c := True) he3]
      have HE0 := hid he3
      have HFIN := hid h0
      have HI := hid hi
      clear h0 h1 h2 h3 h4 h5 h6 h7 h9 hN he3 he hx hi
      go_enter Try.func71, Try.ntmps71
      go_wp2_with (go_at_call 85; refine HI.out.mono ?_; rintro e w' ⟨rfl, rfl⟩)
      go_ret
      exact ⟨by rw [HE0.out]; rfl, HFIN.out, Touch.refl _ _⟩
  · have hi := heap_is b va vi vp A I P v false w (by rw [h5]; simp; omega) h1
    have he3 : e = 3 := by rw [← he]; unfold bumpE; rw [if_neg (by rintro ⟨h1, h2, h3, h4, h5⟩; omega)]
    rw [hN (c := True) he3]
    have HE0 := hid he3
    have HFIN := hid h0
    have HI := hid hi
    clear h0 h1 h2 h3 h4 h5 h6 h7 h9 hN he3 he hx hi
    go_enter Try.func71, Try.ntmps71
    go_wp2_with (go_at_call 85; refine HI.out.mono ?_; rintro e w' ⟨rfl, rfl⟩)
    go_ret
    exact ⟨by rw [HE0.out]; rfl, HFIN.out, Touch.refl _ _⟩

end Go.Proofs.Ytfofabbnbmieoaa.Ord

/- The contract of Pop of a heap. -/
namespace Go.Proofs.Ytfofabbnbmieoaa.Ord
open Go.RowKit

/-- The error that Pop returns. -/
def popE (A : List Int) (In : List Bool) : Int := if popV A In = 0 then 6 else 0
/-- What is in behind it. -/
def popIn (A : List Int) (In : List Bool) : List Bool := if popV A In = 0 then In else In.set (popV A In - 1).toNat false

theorem q_swapZ (b : Nat) (va vi vp : Value) (A I P : List Int) (i j : Nat) (x y : Int) (w : World) (hx : x = i) (hy : y = j) (h : HRep w b va vi vp A I P) (hf : Fits I P) (hi : i < I.length) (hj : j < I.length) (hl : P.length ≤ 4294967296) :
    Calls Try.prog 87 #[.pointer (some ⟨b, 1, none⟩), .int .i64 x, .int .i64 y] w fun e w' => e = .returned (.tuple #[]) ∧ HRep w' b va vi vp A (swp I i j) (swpP I P i j) ∧ Touch (foot b va vi vp) w w' := by
  subst hx; subst hy; exact q_swap b va vi vp A I P i j w h hf hi hj hl

theorem q_downZ (b : Nat) (va vi vp : Value) (A I P : List Int) (i : Nat) (x : Int) (w : World) (hx : x = i) (h : HRep w b va vi vp A I P) (hf : Fits I P) (hu : DownInv A I i) (hi : i < I.length) (hA : A.length = P.length) (hl : P.length ≤ 4294967296) (hIl : I.length ≤ 4294967296) :
    Calls Try.prog 88 #[.pointer (some ⟨b, 1, none⟩), .int .i64 x] w fun e w' => e = .returned (.tuple #[]) ∧ Sifted w' b va vi vp A I.length P.length (inI I) ∧ Touch (foot b va vi vp) w w' := by
  subst hx; exact q_down b va vi vp A I P i w h hf hu hi hA hl hIl

theorem hrep_take {w : World} {b g c n : Nat} {va vp : Value} {A I P : List Int} (h : HRep w b va (.slice (some ⟨g, 0, none⟩) n c) vp A I P) (hn : n = I.length) {k : Nat} (hk : k ≤ I.length) :
    HRep (w.setCell ⟨b, 1, none⟩ (.slice (some ⟨g, 0, none⟩) k c)) b va (.slice (some ⟨g, 0, none⟩) k c) vp A (I.take k) P := by
  have hb := setCell_block (o := 1) (.slice (some ⟨g, 0, none⟩) k c) (xs := [va, .slice (some ⟨g, 0, none⟩) n c, vp, .pointer (some ⟨b, 0, none⟩), fnv]) h.blk
  have fr : ∀ {v : Value} {xs : List Int}, Rw w v xs → Rw (w.setCell ⟨b, 1, none⟩ (.slice (some ⟨g, 0, none⟩) k c)) v xs := fun hr => rw_frame hr fun j hj => heap_setCell_other w ⟨b, 1, none⟩ j _ (fun e => rw_apart hr h.blk (by decide) (by rw [hj]; exact congrArg some e))
  exact ⟨hb, fr h.ra, fr (rw_take h.ri hn hk), fr h.rp, h.ai, h.ap, h.ip⟩

theorem slice_to {P : Program} {t e : TypeId} {a : Option Addr} {n c : Nat} {k : Int} {m : Nat} (hkm : k = m) (ht : P.underlying t = some (.slice e)) (hsz : ∀ wx, (sizeOf e).run P wx = .ok 1 wx) (h1 : m ≤ c) :
    ∀ wx, (Instr.slice t (.slice a n c) none (some (.int .i64 k)) none).run P wx = .ok (.slice a m c) wx := by
  subst hkm
  intro wx
  have he : P.elem t = e := by simp [Program.elem, ht]
  rw [run_slice_h (P := P) wx t a n c (by rw [he]; exact ht) .i64 m (by omega) (by omega), he, hsz]
  cases a <;> simp [sliced, Result.andThen, Addr.add]

theorem rw_form2 {w : World} {v : Value} {xs : List Int} (h : Rw w v xs) (hn : 0 < xs.length) : ∃ g c, v = .slice (some ⟨g, 0, none⟩) xs.length c ∧ xs.length ≤ c := by
  rcases h.2 with ⟨_, h0⟩ | ⟨g, cap, cur, h1, _, _, hle, _⟩
  · omega
  · exact ⟨g, cap, h1, hle⟩

set_option maxRecDepth 100000 in
set_option maxHeartbeats 4000000 in
theorem heap_Pop (b : Nat) (S : Nat → Prop) (A : List Int) (In : List Bool) (v e : Int) (w : World) (hv : popV A In = v) (he : popE A In = e) (h : Heap w b S A In) :
    Calls Try.prog 74 #[.pointer (some ⟨b, 0, none⟩)] w fun x w' => x = .returned (.tuple #[.int .i64 v, .int .i64 e]) ∧ Heap w' b S A (popIn A In) ∧ Touch S w w' := by
  have h0 := h
  obtain ⟨va, vi, vp, I, P, h1, h2, h3, h4, h5, h6, h7, h8, h9⟩ := h
  have hil := fits_len h3 h4 h6
  obtain ⟨-, hc1, -, -, -⟩ := hrep_cells h1
  by_cases hI : I.length = 0
  · have hv0 : v = 0 := by rw [← hv]; exact pop_empty h6 hI
    have he0 : e = 6 := by rw [← he]; unfold popE; rw [hv, hv0]; rfl
    have hin : popIn A In = In := by unfold popIn; rw [hv, hv0]; rfl
    rw [hin]
    obtain ⟨ai, ci, hvi, -⟩ := rw_shape h1.ri
    rw [hI] at hvi
    rw [hvi] at hc1
    have HV0 := hid hv0
    have HE0 := hid he0
    have HF := hid h0
    clear h0 h1 h2 h3 h4 h5 h6 h7 h9 hv he hv0 he0 hin hvi hil hI
    go_enter Try.func74, Try.ntmps74
    go_wp2_with fail
    go_ret2
    exact ⟨by rw [HV0.out, HE0.out]; rfl, HF.out, Touch.refl _ _⟩
  · obtain ⟨m, hm⟩ : ∃ m, I.length = m + 1 := ⟨I.length - 1, by omega⟩
    have hvv : v = at' I 0 := by rw [← hv]; exact pop_best h3 h2 h4 h6 (by omega)
    have b0 := h3.2.1 0 (by omega)
    rw [← hvv] at b0
    have he0 : e = 0 := by rw [← he]; unfold popE; rw [hv, if_neg (by omega)]
    have hin : popIn A In = In.set (v - 1).toNat false := by unfold popIn; rw [hv, if_neg (by omega)]
    rw [hin]
    obtain ⟨gi, ci, rfl, hic⟩ := rw_form2 h1.ri (by omega)
    obtain ⟨gp, cp, rfl⟩ := rw_form h1.rp (by omega)
    have hml : ((I.length : Nat) : Int) - 1 = (m : Int) := by omega
    have hmI : I.length - 1 = m := by omega
    have hpf : Fits (popI I) ((swpP I P 0 m).set v.toNat (-1)) := by
      have hpf0 := pop_fits h3 (by omega)
      rw [hmI, ← hvv] at hpf0
      unfold swpP
      rw [← hvv]; exact hpf0
    have hpd := pop_down h2
    have hri := rel_pop h3 h6 (by omega)
    rw [← hvv] at hri
    have hpl := popI_length I
    rw [hmI] at hpl
    have hpI : popI I = (swp I 0 m).take m := by unfold popI; rw [hmI]
    have hPI := hid hpI
    have HVV := hid hvv
    have HE0 := hid he0
    have H1 := hid h1
    have H3 := hid h3
    have HPF := hid hpf
    have HPD := hid hpd
    have HRI := hid hri
    have H7 := hid h7
    have H9 := hid h9
    have HP4 := hid h4
    have HA5 := hid h5
    have HPL := hid hpl
    have hM := hid hm
    have hmc : m < ci := by omega
    have hm20 : m ≤ 1048576 := by omega
    have hPb : P.length ≤ 1048577 := by omega
    clear h0 h1 h2 h3 h4 h5 h6 h7 h9 hv he hvv he0 hin hpf hpd hri hpl hpI hmI hm hil hI
    go_enter Try.func74, Try.ntmps74
    go_wp2_with fail
    refine (q_swapZ b _ _ _ A I P 0 m _ _ w rfl rfl H1.out H3.out (by have := hM.out; omega) (by have := hM.out; omega) (by omega)).mono ?_
    rintro e1 w1 ⟨rfl, k1, t1⟩
    have K1 := hid k1
    have T1 := hid t1
    obtain ⟨-, d1, d2, -, -⟩ := hrep_cells k1
    have hsl : I.length = (swp I 0 m).length := (swp_length I 0 m).symm
    have hcm := rw_val k1.ri hsl (k := m) (by rw [swp_length]; have := hM.out; omega)
    have hat : at' (swp I 0 m) m = v := by
      rw [at'_swp (by have := hM.out; omega) (by have := hM.out; omega), HVV.out]
      by_cases h0 : m = 0
      · rw [if_pos h0, h0]
      · rw [if_neg h0, if_pos rfl]
    rw [hat] at hcm
    have hPl : P.length = (swpP I P 0 m).length := (swpP_length I P 0 m).symm
    have hcv := rw_val k1.rp hPl (k := v.toNat) (by rw [swpP_length]; omega)
    have hfv := rw_free k1.rp hPl v.toNat
    have hfb := hrep_free k1 1
    have hrun := slice_to (P := Try.prog) (t := 22) (e := 3) (a := some ⟨gi, 0, none⟩) (n := I.length) (c := ci) (k := (m : Int)) (m := m) rfl Try.underlying22 sizeOf_int (by omega)
    have n1 : ¬ b = gp := fun e => rw_apart k1.rp k1.blk (by decide) (by rw [e]; rfl)
    have n2 : ¬ gp = b := fun e => n1 e.symm
    have b0' : 0 ≤ v := by omega
    have bm : (m : Int) < I.length := by have := hM.out; omega
    clear k1 t1 hsl hat hPl
    have hpush : Hid (HRep (((w1.setCell ⟨b, 1, none⟩ (.slice (some ⟨gi, 0, none⟩) m ci)).setCell ⟨gp, v.toNat, none⟩ (.int .i64 (-1))).drew) b va (.slice (some ⟨gi, 0, none⟩) m ci) (.slice (some ⟨gp, 0, none⟩) P.length cp) A (popI I) ((swpP I P 0 m).set v.toNat (-1))) := by
      have k2 := hrep_take K1.out (swp_length I 0 m).symm (k := m) (by rw [swp_length]; have := hM.out; omega)
      rw [← hPI.out] at k2
      exact hrep_drew (hrep_setP k2 (swpP_length I P 0 m).symm v.toNat (-1))
    have htou : Hid (Touch S w (((w1.setCell ⟨b, 1, none⟩ (.slice (some ⟨gi, 0, none⟩) m ci)).setCell ⟨gp, v.toNat, none⟩ (.int .i64 (-1))).drew)) := by
      exact ((T1.out.mono fun k _ hk => H7.out k hk).setCell (H7.out b (Or.inl rfl)) _).setCell (H7.out gp (Or.inr (Or.inr (Or.inr rfl)))) _ |>.drew
    have hfoot : Hid (∀ k, foot b va (.slice (some ⟨gi, 0, none⟩) m ci) (.slice (some ⟨gp, 0, none⟩) P.length cp) k → S k) := fun k hk => H7.out k hk
    rcases Nat.eq_zero_or_pos m with hm0 | hm0
    · have hd : ¬ 0 < m := by omega
      have HM0 := hid hm0
      clear hm0
      go_wp2_with fail
      go_region
      all_goals
        go_wp2_with fail
        go_ret2
        refine ⟨by rw [HE0.out]; rfl, ⟨_, _, _, popI I, _, hpush.out, fun j j1 j2 => by have := HPL.out; have := HM0.out; omega, HPF.out, ?_, ?_, HRI.out, hfoot.out, by rw [List.length_set]; exact h8, H9.out⟩, htou.out⟩
        · simp only [List.length_set, swpP_length]; exact HP4.out
        · rw [List.length_set]; exact HA5.out
    · go_wp2_with fail
      go_region
      all_goals
        go_wp2_with fail
        refine (q_downZ b _ _ _ A (popI I) _ 0 _ _ rfl hpush.out HPF.out HPD.out (by have := HPL.out; omega) (by simp only [List.length_set, swpP_length]; have := HP4.out; have := HA5.out; omega) (by simp only [List.length_set, swpP_length]; omega) (by have := HPL.out; omega)).mono ?_
        rintro e2 w2 ⟨rfl, hsf, ht⟩
        have HSF := hid hsf
        have HT := hid ht
        clear hsf ht
        go_wp2_with fail
        go_ret2
        obtain ⟨I2, P2, r1, r2, r3, r4, r5, r6⟩ := HSF.out
        refine ⟨by rw [HE0.out]; rfl, ⟨_, _, _, I2, P2, r1, r2, r3, ?_, ?_, rel_congr HRI.out r6, hfoot.out, by rw [List.length_set]; exact h8, H9.out⟩, htou.out.trans (HT.out.mono fun k _ hk => hfoot.out k hk)⟩
        · rw [r5]; simp only [List.length_set, swpP_length]; exact HP4.out
        · rw [List.length_set]; exact HA5.out

end Go.Proofs.Ytfofabbnbmieoaa.Ord

/- The contract of Push of a heap. -/
namespace Go.Proofs.Ytfofabbnbmieoaa.Ord
open Go.RowKit

/-- The error that Push returns. -/
def pushE (n : Nat) (v : Int) : Int := if 1 ≤ v ∧ v ≤ n then 0 else 3
/-- What is in behind it. -/
def pushIn (In : List Bool) (v : Int) : List Bool := if 1 ≤ v ∧ v ≤ In.length then In.set (v - 1).toNat true else In

theorem q_upZ (b : Nat) (va vi vp : Value) (A I P : List Int) (i : Nat) (x : Int) (w : World) (hx : x = i) (h : HRep w b va vi vp A I P) (hf : Fits I P) (hu : UpInv A I i) (hi : i < I.length) (hA : A.length = P.length) (hl : P.length ≤ 4294967296) (hIl : I.length ≤ 4294967296) :
    Calls Try.prog 86 #[.pointer (some ⟨b, 1, none⟩), .int .i64 x] w fun e w' => e = .returned (.tuple #[]) ∧ Sifted w' b va vi vp A I.length P.length (inI I) ∧ Touch (foot b va vi vp) w w' := by
  subst hx; exact q_up b va vi vp A I P i w h hf hu hi hA hl hIl

theorem new_one {w : World} {g : Nat} {u : Value} {e : TypeId} (h : w.heap[g]? = some (.cells #[u] e (0, 0))) : ∀ (j : Nat) (x : Value), [u][j]? = some x → w.cell? ((⟨g, 0, none⟩ : Addr).add j) = some x := by
  intro j x hj
  match j, hj with
  | 0, hj => simp at hj; subst hj; simpa [Addr.add] using fit_cell (vs := [u]) h 0

theorem own_form9 {w : World} {B e n : Nat} {v : Value} {xs : List Value} (h : w.ownsRow B e 1 v n xs) (hn : 0 < n) : ∃ g c, v = .slice (some ⟨g, 0, none⟩) n c := by
  rcases h.2 with ⟨_, h0⟩ | ⟨g, cap, cur, h1, _⟩
  · omega
  · exact ⟨g, cap, h1⟩

/-- A later touch of blocks that are S's, or that are newer. -/
theorem push_blk {w w0 w9 : World} {gp k : Nat} {vi : Value} {x : Int} {o : Obj} (hw : w0.heap = ((w.setCell ⟨gp, k, none⟩ (.int .i64 x)).alloc o).heap)
    (hg : w0.grownBy w9 vi.ownBlock) :
    ∀ j, j < w.heap.size → vi.ownBlock ≠ some j → w9.heap[j]? = (w.setCell ⟨gp, k, none⟩ (.int .i64 x)).heap[j]? := fun j hj hne => by
  rw [hg.block j (by rw [hw, size_al, setCell_size]; omega) (fun e => hne e.symm), hw]
  exact Below.heap_alloc _ _ _ (by rw [setCell_size]; exact hj)

theorem push_rep {w w0 w9 : World} {b gp n c k : Nat} {va vi v9 : Value} {A I P : List Int} {v x : Int} {o : Obj} (h : HRep w b va vi (.slice (some ⟨gp, 0, none⟩) n c) A I P) (hn : n = P.length)
    (hown : w9.ownsRow 0 3 1 v9 (I.length + 1) (ints I ++ [.int .i64 v])) (hw : w0.heap = ((w.setCell ⟨gp, k, none⟩ (.int .i64 x)).alloc o).heap) (hg : w0.grownBy w9 vi.ownBlock)
    (hat : v9.ownBlock = vi.ownBlock ∨ v9.ownBlock = some (w.heap.size + 1)) :
    w9.heap[b]? = some (.cells #[va, vi, .slice (some ⟨gp, 0, none⟩) n c, .pointer (some ⟨b, 0, none⟩), fnv] 111) ∧ HRep (w9.setCell ⟨b, 1, none⟩ v9) b va v9 (.slice (some ⟨gp, 0, none⟩) n c) A (I ++ [v]) (P.set k x) := by
  have hblk := push_blk hw hg
  have hs := hrep_setP h hn k x
  have hbl : b < w.heap.size := (Array.getElem?_eq_some_iff.1 h.blk).1
  have hb9 : w9.heap[b]? = some (.cells #[va, vi, .slice (some ⟨gp, 0, none⟩) n c, .pointer (some ⟨b, 0, none⟩), fnv] 111) := (hblk b hbl (rw_apart h.ri h.blk (by decide))).trans hs.blk
  have hrow : Rw w9 v9 (I ++ [v]) := by
    unfold Rw
    rw [List.length_append, ints_append]; exact hown
  have la := fun j (hj : va.ownBlock = some j) => rw_lt h.ra j hj
  have lp := fun j (hj : (Value.slice (some ⟨gp, 0, none⟩) n c).ownBlock = some j) => rw_lt h.rp j hj
  refine ⟨hb9, ⟨setCell_block (o := 1) v9 (xs := [va, vi, .slice (some ⟨gp, 0, none⟩) n c, .pointer (some ⟨b, 0, none⟩), fnv]) hb9, ?_, ?_, ?_, ?_, h.ap, ?_⟩⟩
  · refine rw_frame hs.ra fun j hj => ?_
    rw [heap_setCell_other w9 ⟨b, 1, none⟩ j _ (fun e => rw_apart h.ra h.blk (by decide) (by rw [hj]; exact congrArg some e))]
    exact hblk j (la j hj) (fun e => h.ai (by rw [hj, e]))
  · exact rw_frame hrow fun j hj => heap_setCell_other w9 ⟨b, 1, none⟩ j _ (fun e => rw_apart hrow hb9 (by decide) (by rw [hj]; exact congrArg some e))
  · refine rw_frame hs.rp fun j hj => ?_
    rw [heap_setCell_other w9 ⟨b, 1, none⟩ j _ (fun e => rw_apart h.rp h.blk (by decide) (by rw [hj]; exact congrArg some e))]
    exact hblk j (lp j hj) (fun e => h.ip (by rw [hj, e]))
  · rcases hat with h1 | h1
    · rw [h1]; exact h.ai
    · rw [h1]; intro e; have := la _ e; omega
  · rcases hat with h1 | h1
    · rw [h1]; exact h.ip
    · rw [h1]; intro e; have := lp _ e.symm; omega

set_option maxRecDepth 100000 in
set_option maxHeartbeats 4000000 in
theorem heap_Push (b : Nat) (S : Nat → Prop) (A : List Int) (In : List Bool) (v e : Int) (w : World) (he : pushE In.length v = e) (h : Heap w b S A In) :
    Calls Try.prog 72 #[.pointer (some ⟨b, 0, none⟩), .int .i64 v] w fun x w' => x = .returned (.int .i64 e) ∧ ∃ S', Heap w' b S' A (pushIn In v) ∧ Touch S w w' ∧ ∀ k, S' k → S k ∨ (w.heap.size ≤ k ∧ k < w'.heap.size) := by
  have h0 := h
  obtain ⟨va, vi, vp, I, P, h1, h2, h3, h4, h5, h6, h7, h8, h9⟩ := h
  have hil := fits_len h3 h4 h6
  by_cases hv : 1 ≤ v ∧ v ≤ In.length
  · have he0 : e = 0 := by rw [← he]; unfold pushE; rw [if_pos hv]
    have hpi : pushIn In v = In.set (v - 1).toNat true := by unfold pushIn; rw [if_pos hv]
    rw [hpi]
    have hi := heap_is b va vi vp A I P v true w (by rw [h5]; simp; omega) h1
    obtain ⟨hc0, hc1, hc2, -, -⟩ := hrep_cells h1
    obtain ⟨gp, cp, rfl⟩ := rw_form h1.rp (by omega)
    have hcp := rw_val h1.rp rfl (k := v.toNat) (by omega)
    have hpl := fits_place h3 (v := v.toNat) (by omega)
    rw [show ((v.toNat : Nat) : Int) = v by omega] at hpl
    have hvP : v < P.length := by omega
    have hv0 : 0 ≤ v := by omega
    have HI := hid hi
    have HE0 := hid he0
    by_cases hin : inI I v
    · have hp0 := hpl.1.2 hin
      obtain ⟨p, hp⟩ : ∃ p, at' P v.toNat = p := ⟨_, rfl⟩
      rw [hp] at hcp hp0
      have hsame : In.set (v - 1).toNat true = In := set_same_true ((h6 v hv.1 hv.2).1 hin)
      rw [hsame]
      have HF := hid h0
      clear h0 h1 h2 h3 h4 h5 h6 h7 h9 hpl hi hin hp he he0 hpi hsame
      go_enter Try.func72, Try.ntmps72
      go_wp2_with (go_at_call 85; refine HI.out.mono ?_; rintro e w' ⟨rfl, rfl⟩)
      go_ret
      exact ⟨by rw [HE0.out]; rfl, S, HF.out, Touch.refl _ _, fun k hk => Or.inl hk⟩
    · have hp0 : ¬ 0 ≤ at' P v.toNat := fun h => hin (hpl.1.1 h)
      obtain ⟨p, hp⟩ : ∃ p, at' P v.toNat = p := ⟨_, rfl⟩
      rw [hp] at hcp hp0
      obtain ⟨ai, ci, hvi, hic, hin0⟩ := rw_shape h1.ri
      have hfv := rw_free h1.rp rfl v.toNat
      have n1 : ¬ b = gp := fun e => rw_apart h1.rp h1.blk (by decide) (by rw [e]; rfl)
      have n2 : ¬ gp = b := fun e => n1 e.symm
      obtain ⟨i0, hi0, hz0, hz1, hz2⟩ := info_parts info_int
      have hup := push_up (v := v) h2
      have hfp := push_fits h3 hv.1 hvP hin
      have hrp := rel_push h6 hv.1 hv.2
      have hs := hrep_setP h1 rfl v.toNat (I.length : Int)
      have hpl2 : at' (P.set v.toNat (I.length : Int)) v.toNat = (I.length : Int) := by rw [at'_set (by omega), if_pos rfl]
      rw [hvi] at hc1
      have H1 := hid h1
      have HS := hid hs
      have HUP := hid hup
      have HFP := hid hfp
      have HRP := hid hrp
      have HVI := hid hvi
      have H1V : Hid (HRep w b va (.slice ai I.length ci) (.slice (some ⟨gp, 0, none⟩) P.length cp) A I P) := hvi ▸ h1
      have H7 := hid h7
      have H9 := hid h9
      have HP4 := hid h4
      have HA5 := hid h5
      have HPL2 := hid hpl2
      have hfb := hrep_free h1 1
      clear h0 h1 h2 h3 h4 h5 h6 h7 h9 hpl hi hin hp he he0 hpi hup hfp hrp hs hvi hin0 hpl2
      go_enter Try.func72, Try.ntmps72
      go_wp2_with (go_at_call 85; refine HI.out.mono ?_; rintro e w' ⟨rfl, rfl⟩)
      go_region
      all_goals
        go_wp2_with (at_builtin; refine wpList_append_own_at _ rfl _ _ 22 rfl 0 3 i0 (.int .i64 0) 1 8 Try.underlying22 hi0 hz0 hz1 hz2 rfl (by decide) _ _ _ rfl (by rw [← HVI.out]; exact World.ownsRow.drew (HS.out.ri.alloc _)) ⟨w.heap.size, 0, none⟩ 1 1 [.int .i64 v] rfl rfl ?c1 one_int (by unfold maxLen; omega) (by omega) (Nat.zero_le _) ?_)
        case c1 => exact new_one (by show ((w.setCell _ _).alloc _).heap[_]? = _; rw [← setCell_size w ⟨gp, v.toNat, none⟩ (.int .i64 (I.length : Int))]; exact heap_alloc_new _ _)
        intro v9 w9 ho9 hg9 _ hat
        obtain ⟨hb9, hr9⟩ := push_rep H1V.out rfl ho9 (by rfl) hg9 hat
        have HAT := hid hat
        obtain ⟨g9, c9, rfl⟩ := own_form9 ho9 (by omega)
        have r1 : w9.cell? ⟨b, 1, none⟩ = some (.slice ai I.length ci) := fit_cell (vs := [va, .slice ai I.length ci, .slice (some ⟨gp, 0, none⟩) P.length cp, .pointer (some ⟨b, 0, none⟩), fnv]) hb9 1
        have r2 : w9.frozen? ⟨b, 1, none⟩ = false := frozen_of_row _ _ _ _ _ hb9
        obtain ⟨-, -, r3, -, -⟩ := hrep_cells hr9
        have r4 := rw_val hr9.rp (show P.length = (P.set v.toNat (I.length : Int)).length by simp) (k := v.toNat) (by simp; omega)
        rw [HPL2.out] at r4
        have HR9 := hid hr9
        have HT9 : Hid (Touch S w w9) := (((Touch.refl S w).setCell (p := ⟨gp, v.toNat, none⟩) (H7.out gp (Or.inr (Or.inr (Or.inr rfl)))) _).alloc _).drew.grown hg9 (fun k hk => Or.inl (H7.out k (Or.inr (Or.inr (Or.inl (by rw [HVI.out]; exact hk))))))
        have hsz9 : w.heap.size + 1 ≤ w9.heap.size := by have := hg9.size; rw [heap_drew, size_al, setCell_size] at this; omega
        have hlt9 : g9 < w9.heap.size := (ho9.lt g9 rfl).2
        clear ho9 hg9 hat hb9 hr9 hc0 hc1 hc2 hcp hfv hfb
        go_wp2_with fail
        go_region_with (go_at_call 86; refine (q_upZ b va _ _ A (I ++ [v]) (P.set v.toNat (I.length : Int)) I.length _ _ rfl (hrep_drew HR9.out) HFP.out HUP.out (by simp) (by rw [List.length_set]; have := HP4.out; have := HA5.out; omega) (by rw [List.length_set]; have := HP4.out; omega) (by rw [List.length_append]; simp; omega)).mono ?_; rintro e2 w2 ⟨rfl, hsf, ht⟩)
        all_goals
          have HSF := hid hsf
          have HT := hid ht
          clear hsf ht
          go_wp2_with fail
          go_ret
          obtain ⟨I2, P2, q1, q2, q3, q4, q5, q6⟩ := HSF.out
          have hz2 : w9.heap.size ≤ w2.heap.size := by have := HT.out.size; rw [heap_drew, setCell_size] at this; exact this
          have hfoot : ∀ k, foot b va (.slice (some ⟨g9, 0, none⟩) (I.length + 1) c9) (.slice (some ⟨gp, 0, none⟩) P.length cp) k → S k ∨ (w.heap.size ≤ k ∧ k < w2.heap.size) := by
            rintro k (rfl | hk | hk | hk)
            · exact Or.inl (H7.out k (Or.inl rfl))
            · exact Or.inl (H7.out k (Or.inr (Or.inl hk)))
            · rcases HAT.out with h' | h'
              · exact Or.inl (H7.out k (Or.inr (Or.inr (Or.inl (by rw [HVI.out, ← h']; exact hk)))))
              · simp only [Value.ownBlock, Option.some.injEq] at h' hk
                exact Or.inr ⟨by omega, by omega⟩
            · exact Or.inl (H7.out k (Or.inr (Or.inr (Or.inr hk))))
          refine ⟨by rw [HE0.out]; rfl, _, ⟨_, _, _, I2, P2, q1, q2, q3, ?_, ?_, rel_congr HRP.out q6, hfoot, by rw [List.length_set]; exact h8, H9.out⟩, ?_, fun k hk => hk⟩
          · rw [q5]; simp only [List.length_set]; exact HP4.out
          · rw [List.length_set]; exact HA5.out
          · refine (HT9.out.setCell (p := ⟨b, 1, none⟩) (H7.out b (Or.inl rfl)) _).drew.trans' HT.out fun k hk1 hk2 => ?_
            rcases hfoot k hk2 with h' | h'
            · exact h'
            · omega
  · have he0 : e = 3 := by rw [← he]; unfold pushE; rw [if_neg hv]
    have hpi : pushIn In v = In := by unfold pushIn; rw [if_neg hv]
    rw [hpi]
    have hi := heap_is b va vi vp A I P v false w (by rw [h5]; simp; omega) h1
    have HI := hid hi
    have HE0 := hid he0
    have HF := hid h0
    clear h0 h1 h2 h3 h4 h5 h6 h7 h9 hi he he0 hpi
    go_enter Try.func72, Try.ntmps72
    go_wp2_with (go_at_call 85; refine HI.out.mono ?_; rintro e w' ⟨rfl, rfl⟩)
    go_ret
    exact ⟨by rw [HE0.out]; rfl, S, HF.out, Touch.refl _ _, fun k hk => Or.inl hk⟩

end Go.Proofs.Ytfofabbnbmieoaa.Ord

/- The contract of New of a heap. -/
namespace Go.Proofs.Ytfofabbnbmieoaa.Ord
open Go.RowKit

theorem madeInts (n : Nat) : (madeCells (Value.int .i64 0).cells (n * 1)).toList = ints (List.replicate n 0) := by
  simp only [madeCells, Value.cells, Nat.mul_one, Array.toList_map, Array.toList_range, ints]
  refine List.ext_getElem? fun i => ?_
  by_cases hi : i < n
  · simp [hi, Nat.mod_one]
  · simp [hi]

/-- The items as the loop has them. -/
def mkI (n k : Nat) : List Int := (List.range n).map fun (i : Nat) => if i < k then (i : Int) + 1 else 0
/-- The places as the loop has them. -/
def mkP (n k : Nat) : List Int := -1 :: (List.range n).map fun (i : Nat) => if i < k then (i : Int) else 0

theorem mkI_length (n k : Nat) : (mkI n k).length = n := by simp [mkI]
theorem mkP_length (n k : Nat) : (mkP n k).length = n + 1 := by simp [mkP]
theorem mkI_zero (n : Nat) : mkI n 0 = List.replicate n 0 := by
  refine List.ext_getElem (by simp [mkI]) fun i h1 h2 => by simp [mkI]
theorem mkP_zero (n : Nat) : (List.replicate (n + 1) (0 : Int)).set 0 (-1) = mkP n 0 := by
  rw [List.replicate_succ, List.set_cons_zero]
  unfold mkP
  congr 1
  refine List.ext_getElem (by simp) fun i h1 h2 => by simp
theorem mkI_done (n : Nat) : mkI n n = newI n := by
  refine List.ext_getElem (by simp [mkI, newI]) fun i h1 h2 => ?_
  rw [mkI_length] at h1
  simp [mkI, newI, h1]
theorem mkP_done (n : Nat) : mkP n n = newP n := by
  unfold mkP newP
  congr 1
  refine List.ext_getElem (by simp) fun i h1 h2 => ?_
  have : i < n := by simpa using h1
  simp [this]
theorem mkI_step (n k : Nat) : (mkI n k).set k ((k : Int) + 1) = mkI n (k + 1) := by
  refine List.ext_getElem (by simp [mkI]) fun i h1 h2 => ?_
  rw [List.getElem_set]
  by_cases he : k = i
  · subst he; simp [mkI]
  · rw [if_neg he]
    by_cases h : i < k
    · have h' : i < k + 1 := by omega
      simp [mkI, h, h']
    · have h' : ¬ i < k + 1 := by omega
      simp [mkI, h, h']
theorem mkP_step (n k : Nat) : (mkP n k).set (k + 1) (k : Int) = mkP n (k + 1) := by
  unfold mkP
  rw [List.set_cons_succ]
  congr 1
  refine List.ext_getElem (by simp) fun i h1 h2 => ?_
  rw [List.getElem_set]
  by_cases he : k = i
  · subst he; simp
  · rw [if_neg he]
    by_cases h : i < k
    · have h' : i < k + 1 := by omega
      simp [h, h']
    · have h' : ¬ i < k + 1 := by omega
      simp [h, h']

theorem rw_made {w : World} {g n : Nat} (h : w.heap[g]? = some (.cells (madeCells #[.int .i64 0] n) 3 (0, 0))) (hn : n ≤ 1048577) : Rw w (.slice (some ⟨g, 0, none⟩) n n) (List.replicate n 0) := by
  have e := madeInts n
  simp only [Value.cells, Nat.mul_one] at e
  unfold Rw
  rw [List.length_replicate]
  have hs : (madeCells #[Value.int .i64 0] n).size = n := by
    have := congrArg List.length e
    simp [ints] at this
    exact this
  refine ⟨by simp [ints], Or.inr ⟨g, n, _, rfl, Nat.zero_le _, h, Nat.le_refl _, by unfold maxLen; omega, by rw [hs, Nat.mul_one], ?_⟩⟩
  rw [← e, Nat.mul_one]
  exact List.take_of_length_le (by simp [hs])

theorem made3 (w3 : World) (a b c : Obj) (w5 : World) (h : w5 = (((w3.alloc a).alloc b).alloc c).drew) :
    (∀ k, k < w3.heap.size → w5.heap[k]? = w3.heap[k]?) ∧ w5.heap.size = w3.heap.size + 3 ∧ w5.heap[w3.heap.size]? = some a ∧ w5.heap[w3.heap.size + 1]? = some b ∧ w5.heap[w3.heap.size + 1 + 1]? = some c := by
  subst h
  have e1 : (((w3.alloc a).alloc b).alloc c).drew.heap = ((w3.heap.push a).push b).push c := rfl
  rw [e1]
  refine ⟨fun k hk => ?_, by simp, ?_, ?_, ?_⟩
  · simp [Array.getElem?_push]
    have : k ≠ w3.heap.size + 1 + 1 := by omega
    have : k ≠ w3.heap.size + 1 := by omega
    have : k ≠ w3.heap.size := by omega
    simp [*]
  · simp [Array.getElem?_push]; omega
  · rw [Array.getElem?_push, if_neg (by simp), Array.getElem?_push, if_pos (by simp)]
  · rw [Array.getElem?_push, if_pos (by simp)]

theorem made_rep {w w3 w5 : World} {n gi gp : Nat} (hO : w3.ownsRow w.heap.size 3 1 (.slice (some ⟨w.heap.size, 0, none⟩) (n + 1) (n + 1)) (n + 1) (madeCells (Value.int .i64 0).cells ((n + 1) * 1)).toList) (hn : n ≤ 1048576) (hG : w.grownBy w3 none)
    (hgp : gp ≠ gi) (hgi1 : w3.heap.size < gi) (hgp1 : w3.heap.size < gp) (hlt : gi < w3.heap.size + 3 ∧ gp < w3.heap.size + 3)
    (h0 : ∀ k, k < w3.heap.size → w5.heap[k]? = w3.heap[k]?) (hz : w5.heap.size = w3.heap.size + 3) (hos : w5.os = w3.os) (htp : w5.tape = w3.tape) (hou : w5.output = w3.output)
    (h1 : w5.heap[w3.heap.size]? = some (.cells #[.slice (some ⟨w.heap.size, 0, none⟩) (n + 1) (n + 1), .slice (some ⟨gi, 0, none⟩) n n, .slice (some ⟨gp, 0, none⟩) (n + 1) (n + 1), .pointer (some ⟨w3.heap.size, 0, none⟩), fnv] 111))
    (h2 : w5.heap[gi]? = some (.cells (madeCells #[.int .i64 0] n) 3)) (h3 : w5.heap[gp]? = some (.cells (madeCells #[.int .i64 0] (n + 1)) 3)) :
    HRep w5 w3.heap.size (.slice (some ⟨w.heap.size, 0, none⟩) (n + 1) (n + 1)) (.slice (some ⟨gi, 0, none⟩) n n) (.slice (some ⟨gp, 0, none⟩) (n + 1) (n + 1)) (List.replicate (n + 1) 0) (List.replicate n 0) (List.replicate (n + 1) 0) ∧
      Below w.heap.size w w5 ∧ (w.heap.size ≤ w3.heap.size ∧ w3.heap.size < gi ∧ w3.heap.size < gp ∧ gi < w5.heap.size ∧ gp < w5.heap.size) := by
  have hlt3 : w.heap.size < w3.heap.size := (hO.lt _ rfl).2
  have hOr : Rw w3 (.slice (some ⟨w.heap.size, 0, none⟩) (n + 1) (n + 1)) (List.replicate (n + 1) 0) := by
    rw [madeInts] at hO
    unfold Rw
    rw [List.length_replicate]
    exact ⟨hO.1, hO.2.imp_right fun ⟨g, cap, cur, e1, _, e3⟩ => ⟨g, cap, cur, e1, Nat.zero_le _, e3⟩⟩
  refine ⟨⟨h1, rw_frame hOr fun k hk => ?_, rw_made h2 (by omega), rw_made h3 (by omega), ?_, ?_, ?_⟩, ?_, hG.size, hgi1, hgp1, by omega, by omega⟩
  · simp only [Value.ownBlock, Option.some.injEq] at hk
    exact h0 k (by omega)
  · simp [Value.ownBlock]; omega
  · simp [Value.ownBlock]; omega
  · simp [Value.ownBlock]; omega
  · refine ⟨hos.trans hG.os, htp.trans hG.tape, hou.trans hG.output, by have := hG.size; omega, fun k hk => (h0 k (by have := hG.size; omega)).trans (hG.block k hk (by simp))⟩

set_option maxRecDepth 100000 in
set_option maxHeartbeats 4000000 in
theorem order_New (n : Nat) (w : World) (hn : n ≤ 1048576) :
    Calls Try.prog 48 #[.int .i64 n] w fun e w' => ∃ b S, e = .returned (.tuple #[.pointer (some ⟨b, 0, none⟩), .int .i64 0]) ∧ Heap w' b S (List.replicate (n + 1) 0) (List.replicate n true) ∧ Below w.heap.size w w' ∧ ∀ k, S k → w.heap.size ≤ k ∧ k < w'.heap.size := by
  obtain ⟨i0, hi0, hz0, hz1, hz2⟩ := info_parts info_int
  have e1 : (n : Int) + 1 = ((n + 1 : Nat) : Int) := by omega
  have hnb : (n : Int) ≤ 1048576 := by omega
  have hnc : (0 : Int) ≤ (n : Int) := by omega
  have hwr : IntKind.i64.wrap ((n : Int) + 1) = (n : Int) + 1 := by simp [IntKind.wrap, IntKind.signed, IntKind.bits]; omega
  have hm1 : ∀ w : World, (Instr.makeSlice 22 (.int .i64 (n : Int)) (.int .i64 (n : Int))).run Try.prog w = .ok (.slice (some ⟨w.heap.size, 0, none⟩) n n) (w.alloc (.cells (madeCells #[.int .i64 0] n) 3)) := fun w => run_make_row' _ _ _ 8 Try.underlying22 info_int rfl .i64 .i64 n (by omega) (by omega) w
  have hm2 : ∀ w : World, (Instr.makeSlice 22 (.int .i64 ((n : Int) + 1)) (.int .i64 ((n : Int) + 1))).run Try.prog w = .ok (.slice (some ⟨w.heap.size, 0, none⟩) (n + 1 : Nat) (n + 1 : Nat)) (w.alloc (.cells (madeCells #[.int .i64 0] (n + 1)) 3)) := fun w => by rw [e1]; exact run_make_row' _ _ _ 8 Try.underlying22 info_int rfl .i64 .i64 (n + 1) (by omega) (by omega) w
  have hst := fun (a : Addr) (w : World) => run_store Try.prog w a (.func (.func 67) #[] #[]) .plain rfl
  have E1 := hid e1
  clear e1
  go_enter Try.func48, Try.ntmps48
  go_wp2_with (at_make; refine wpList_make_full _ rfl _ _ 22 rfl w.heap.size 3 i0 (.int .i64 0) 1 Try.underlying22 hi0 hz0 hz1 _ _ _ _ (n + 1) rfl rfl (by first | rfl | exact E1 | omega) (by first | rfl | exact E1 | omega) (by rw [hz2]; omega) (by unfold maxLen; omega) (Nat.le_refl _) ?_; intro w3 hown3 hgrow3; have HO3 := hid hown3; have HG3 := hid hgrow3; clear hown3 hgrow3)
  go_cut [] (fun wx => ∃ gi gp : Nat, Hid (HRep wx w3.heap.size (.slice (some ⟨w.heap.size, 0, none⟩) (n + 1) (n + 1)) (.slice (some ⟨gi, 0, none⟩) n n) (.slice (some ⟨gp, 0, none⟩) (n + 1) (n + 1)) (List.replicate (n + 1) 0) (List.replicate n 0) (List.replicate (n + 1) 0) ∧
      Below w.heap.size w wx ∧ (w.heap.size ≤ w3.heap.size ∧ w3.heap.size < gi ∧ w3.heap.size < gp ∧ gi < wx.heap.size ∧ gp < wx.heap.size)))
  case first =>
    go_region
    all_goals
      go_wp2_with fail
      go_meet
      case rel =>
        obtain ⟨m1, m2, m3, m4, m5⟩ := made3 w3 _ _ _ _ rfl
        first
        | exact ⟨w3.heap.size + 1 + 1, w3.heap.size + 1, made_rep HO3.out hn HG3.out (by omega) (by omega) (by omega) (by omega) m1 m2 rfl rfl rfl m3 m5 m4⟩
        | exact ⟨w3.heap.size + 1, w3.heap.size + 1 + 1, made_rep HO3.out hn HG3.out (by omega) (by omega) (by omega) (by omega) m1 m2 rfl rfl rfl m3 m4 m5⟩
  case rest =>
    obtain ⟨gi, gp, H⟩ := hcut
    obtain ⟨h5, hb5, hsz⟩ := H.out
    obtain ⟨k1, k2, k3, k4, k5⟩ := hsz
    obtain ⟨-, hc1, hc2, -, -⟩ := hrep_cells h5
    have hp0 := rw_val h5.rp (n := n + 1) (by simp) (k := 0) (by simp)
    have hf0 := rw_free h5.rp (n := n + 1) (by simp) 0
    have n1 : ¬ gp = w3.heap.size := by omega
    have hp6 := hrep_setP h5 (n := n + 1) (by simp) 0 (-1)
    rw [mkP_zero] at hp6
    have H6 := hid hp6
    have HB5 := hid hb5
    clear h5 hb5 H hp6
    go_wp2_with fail
    go_loopw [34] (fun s34 wr => ∃ k : Nat, s34 = .int .i64 k ∧ k ≤ n ∧ Hid (HRep wr w3.heap.size (.slice (some ⟨w.heap.size, 0, none⟩) (n + 1) (n + 1)) (.slice (some ⟨gi, 0, none⟩) n n) (.slice (some ⟨gp, 0, none⟩) (n + 1) (n + 1)) (List.replicate (n + 1) 0) (mkI n k) (mkP n k)) ∧ Hid (Below w.heap.size w wr ∧ gi < wr.heap.size ∧ gp < wr.heap.size)) (fun s34 _ => (n - (intOf s34)).toNat)
    case atStart => exact ⟨0, rfl, by omega, by rw [mkI_zero]; exact H6, ⟨HB5.out.setCell (p := ⟨gp, 0, none⟩) (by show w.heap.size ≤ gp; omega) _, by rw [setCell_size]; exact k4, by rw [setCell_size]; exact k5⟩⟩
    case round =>
      clear H6 HB5 hc1 hc2 hp0 hf0 k4 k5
      obtain ⟨k, rfl, hk, hh, hbw⟩ := hrel
      by_cases hkn : k < n
      · have hd : decide ((k : Int) < n) = true := by simp; omega
        have q1 : (0 : Int) ≤ k := by omega
        have q2 : (k : Int) < n := by omega
        have q3 : (k : Int) + 1 < n + 1 := by omega
        have hwk : IntKind.i64.wrap ((k : Int) + 1) = (k : Int) + 1 := IntWalk.i64_in _ (by omega)
        obtain ⟨-, hc1, hc2, -, -⟩ := hrep_cells hh.out
        have hci := rw_val hh.out.ri (n := n) (mkI_length n k).symm (k := k) (by rw [mkI_length]; exact hkn)
        have hcp := rw_val hh.out.rp (n := n + 1) (mkP_length n k).symm (k := k + 1) (by rw [mkP_length]; omega)
        have hfi := rw_free hh.out.ri (n := n) (mkI_length n k).symm k
        have hfp := rw_free hh.out.rp (n := n + 1) (mkP_length n k).symm (k + 1)
        have n2 : ¬ gi = gp := fun e => hh.out.ip (by rw [e]; rfl)
        have n3 : ¬ gp = gi := fun e => n2 e.symm
        have n4 : ¬ gi = w3.heap.size := by omega
        go_wp2_with fail
        go_region
        all_goals
          go_wp2_with fail
          go_roundw
          case rel =>
            have hr2 := hrep_drew (hrep_setP (hrep_setI hh.out (n := n) (mkI_length n k).symm k ((k : Int) + 1)) (n := n + 1) (mkP_length n k).symm (k + 1) (k : Int))
            rw [mkI_step, mkP_step] at hr2
            refine ⟨k + 1, by simp, hkn, ?_, ?_⟩
            · exact hr2
            · exact ⟨((hbw.out.1.setCell (p := ⟨gi, k, none⟩) (by show w.heap.size ≤ gi; omega) _).setCell (p := ⟨gp, k + 1, none⟩) (by show w.heap.size ≤ gp; omega) _).drew, by rw [heap_drew, setCell_size, setCell_size]; exact hbw.out.2⟩
          case measure => simp [intOf]; omega
      · have hd : decide ((k : Int) < n) = false := by simp; omega
        have hkn2 : k = n := by omega
        subst hkn2
        go_wp2_with fail
        refine bodyPost_ret (v := .tuple #[.pointer (some ⟨w3.heap.size, 0, none⟩), .int .i64 0]) (by simp [results, Try.results48, go_sem]) rfl ?_
        have hr3 := hh.out
        rw [mkI_done, mkP_done] at hr3
        obtain ⟨hb8, hs1, hs2⟩ := hbw.out
        refine ⟨w3.heap.size, foot w3.heap.size (.slice (some ⟨w.heap.size, 0, none⟩) (k + 1) (k + 1)) (.slice (some ⟨gi, 0, none⟩) k k) (.slice (some ⟨gp, 0, none⟩) (k + 1) (k + 1)), rfl, ⟨_, _, _, _, _, hr3, new_ord k (k + 1), new_fits k, by rw [newP_length, List.length_replicate], by simp, rel_new k, fun j hj => hj, by simp; omega, fun a ha => ?_⟩, hb8, ?_⟩
        · rw [List.mem_replicate] at ha
          obtain ⟨-, rfl⟩ := ha
          omega
        · rintro j (rfl | hj | hj | hj)
          · omega
          all_goals
            simp only [Value.ownBlock, Option.some.injEq] at hj
            omega

end Go.Proofs.Ytfofabbnbmieoaa.Ord

/- Heaps of a call's own; the contract of weepholelaw06.known. -/
namespace Go.Proofs.Ytfofabbnbmieoaa.Ord
open Go.RowKit

/-- A heap that was made behind the world w0, in blocks from B on. -/
structure HB (B : Nat) (w0 w : World) (b : Nat) (S : Nat → Prop) (A : List Int) (In : List Bool) : Prop where
  heap : Heap w b S A In
  bel : Below B w0 w
  le : B ≤ w.heap.size
  at' : ∀ k, S k → B ≤ k ∧ k < w.heap.size

end Go.Proofs.Ytfofabbnbmieoaa.Ord

/- How solve's state lies in memory. -/
namespace Go.Proofs.Ytfofabbnbmieoaa.Ord
open Go.RowKit Go.Conc

/-- What a block is for. -/
inductive KT where
  | sta
  | cls (i : Nat)
  | clr
  | wtb
  | wth (j : Nat)
  | val
  | pha
  | lev
  | rea
  | see
  | trl
  | lvs
  | prf
  | prc
  | hep
  | oth

def vi8 (l : List Int) : List Value := l.map (Value.int .i8)

/-- A block of a kind. -/
def Fx (t : KT) (tag : Nat → KT) (w : World) (b : Nat) (vs : List Value) (e : TypeId) : Prop := w.heap[b]? = some (.cells vs.toArray e (0, 0)) ∧ tag b = t

/-- A growing row of a kind. -/
def Gr (t : KT) (tag : Nat → KT) (B : Nat) (w : World) (e : TypeId) (v : Value) (xs : List Value) : Prop := w.ownsRow B e 1 v xs.length xs ∧ ∀ g, v.ownBlock = some g → tag g = t

/-- A row of ints in a block of a kind. -/
def Ro (t : KT) (tag : Nat → KT) (w : World) (u : Value) (c : List Int) : Prop :=
  ∃ g o cap cur, u = .slice (some ⟨g, o, none⟩) c.length cap ∧ c.length ≤ cap ∧ tag g = t ∧ w.heap[g]? = some (.cells cur 3 (0, 0)) ∧ ∀ (j : Nat) (x : Int), c[j]? = some x → cur[o + j]? = some (.int .i64 x)

/-- Where the fixed blocks are; n1: the variables and one. -/
structure SA where
  bx : Nat
  bh : Nat
  bw : Nat
  bv : Nat
  bp : Nat
  bl : Nat
  br : Nat
  bs : Nat
  n1 : Nat

/-- The values of the growing rows. -/
structure SV where
  vc : Value
  us : List Value
  ws : List Value
  vt : Value
  vd : Value
  vf : Value
  ps : List Value

/-- What the state says. -/
structure SD where
  C : List (List Int)
  Wt : List (List Nat)
  va : List Int
  ph : List Int
  lv : List Int
  re : List Int
  se : List Bool
  K : List Int
  dn : Nat
  ls : List Int
  P : List (List Int)
  bp : Int
  A : List Int
  In : List Bool

/-- The state's own cells. -/
def scells (a : SA) (v : SV) (d : SD) : List Value :=
  [.pointer (some ⟨a.bh, 0, none⟩), v.vc, .slice (some ⟨a.bw, 0, none⟩) (2 * a.n1) (2 * a.n1), .slice (some ⟨a.bv, 0, none⟩) a.n1 a.n1, .slice (some ⟨a.bp, 0, none⟩) a.n1 a.n1, .slice (some ⟨a.bl, 0, none⟩) a.n1 a.n1, .slice (some ⟨a.br, 0, none⟩) a.n1 a.n1, .slice (some ⟨a.bs, 0, none⟩) a.n1 a.n1, v.vt, .int .i64 d.dn, v.vd, v.vf, .int .i64 d.bp]

/-- The part of one kind. -/
def Co (t : KT) (tag : Nat → KT) (B : Nat) (w : World) (a : SA) (v : SV) (d : SD) : Prop :=
  match t with
  | .sta => Fx .sta tag w a.bx (scells a v d) 83
  | .cls i => ∀ c, d.C[i]? = some c → ∃ u, v.us[i]? = some u ∧ Ro (.cls i) tag w u c
  | .clr => Gr .clr tag B w 22 v.vc v.us ∧ v.us.length = d.C.length
  | .wtb => Fx .wtb tag w a.bw v.ws 22 ∧ v.ws.length = 2 * a.n1 ∧ d.Wt.length = 2 * a.n1
  | .wth j => ∀ ns, d.Wt[j]? = some ns → ∃ u, v.ws[j]? = some u ∧ Gr (.wth j) tag B w 3 u (nnts ns)
  | .val => Fx .val tag w a.bv (vi8 d.va) 74 ∧ d.va.length = a.n1
  | .pha => Fx .pha tag w a.bp (vi8 d.ph) 74 ∧ d.ph.length = a.n1
  | .lev => Fx .lev tag w a.bl (ints d.lv) 3 ∧ d.lv.length = a.n1
  | .rea => Fx .rea tag w a.br (ints d.re) 3 ∧ d.re.length = a.n1
  | .see => Fx .see tag w a.bs (bools d.se) 4 ∧ d.se.length = a.n1
  | .trl => Gr .trl tag B w 3 v.vt (ints d.K)
  | .lvs => Gr .lvs tag B w 94 v.vd (ints d.ls)
  | .prf => Gr .prf tag B w 22 v.vf v.ps ∧ v.ps.length = d.P.length
  | .prc => ∀ (i : Nat) (c : List Int), d.P[i]? = some c → ∃ u, v.ps[i]? = some u ∧ Ro .prc tag w u c
  | .hep => Heap w a.bh (fun k => tag k = .hep) d.A d.In ∧ d.In.length + 1 = a.n1
  | .oth => True

structure SM (tag : Nat → KT) (B : Nat) (w0 w : World) (a : SA) (v : SV) (d : SD) : Prop where
  bel : Below B w0 w
  le : B ≤ w.heap.size
  tB : ∀ k, tag k ≠ .oth → B ≤ k
  co : ∀ t, Co t tag B w a v d

section
variable {tag tag' : Nat → KT} {B : Nat} {w0 w w' : World} {a : SA} {v v' : SV} {d d' : SD} {t : KT}

theorem Fx.keep {b : Nat} {vs : List Value} {e : TypeId} (h : Fx t tag w b vs e) (hk : ∀ k, k < w.heap.size → tag k = t → w'.heap[k]? = w.heap[k]? ∧ tag' k = tag k) : Fx t tag' w' b vs e := by
  have q := hk b (Array.getElem?_eq_some_iff.1 h.1).1 h.2
  exact ⟨q.1.trans h.1, q.2.trans h.2⟩

theorem Gr.keep {e : TypeId} {u : Value} {xs : List Value} (h : Gr t tag B w e u xs) (hk : ∀ k, k < w.heap.size → tag k = t → w'.heap[k]? = w.heap[k]? ∧ tag' k = tag k) : Gr t tag' B w' e u xs :=
  ⟨own_frame0 h.1 fun g hg => (hk g (h.1.lt g hg).2 (h.2 g hg)).1, fun g hg => (hk g (h.1.lt g hg).2 (h.2 g hg)).2.trans (h.2 g hg)⟩

theorem Ro.keep {u : Value} {c : List Int} (h : Ro t tag w u c) (hk : ∀ k, k < w.heap.size → tag k = t → w'.heap[k]? = w.heap[k]? ∧ tag' k = tag k) : Ro t tag' w' u c := by
  obtain ⟨g, o, cap, cur, h1, h2, h3, h4, h5⟩ := h
  have q := hk g (Array.getElem?_eq_some_iff.1 h4).1 h3
  exact ⟨g, o, cap, cur, h1, h2, q.2.trans h3, q.1.trans h4, h5⟩

/-- A part whose blocks are as they were. -/
theorem Co.keep (h : Co t tag B w a v d) (hk : ∀ k, k < w.heap.size → tag k = t → w'.heap[k]? = w.heap[k]? ∧ tag' k = tag k) : Co t tag' B w' a v d := by
  cases t with
  | sta => exact Fx.keep h hk
  | cls i => exact fun c hc => let ⟨u, h1, h2⟩ := h c hc; ⟨u, h1, h2.keep hk⟩
  | clr => exact ⟨h.1.keep hk, h.2⟩
  | wtb => exact ⟨h.1.keep hk, h.2⟩
  | wth j => exact fun ns hj => let ⟨u, h1, h2⟩ := h ns hj; ⟨u, h1, h2.keep hk⟩
  | val => exact ⟨h.1.keep hk, h.2⟩
  | pha => exact ⟨h.1.keep hk, h.2⟩
  | lev => exact ⟨h.1.keep hk, h.2⟩
  | rea => exact ⟨h.1.keep hk, h.2⟩
  | see => exact ⟨h.1.keep hk, h.2⟩
  | trl => exact Gr.keep h hk
  | lvs => exact Gr.keep h hk
  | prf => exact ⟨h.1.keep hk, h.2⟩
  | prc => exact fun i c hc => let ⟨u, h1, h2⟩ := h i c hc; ⟨u, h1, h2.keep hk⟩
  | hep =>
    refine ⟨?_, h.2⟩
    obtain ⟨va, vi, vp, I, P, h1, h2, h3, h4, h5, h6, h7, h8⟩ := h.1
    exact ⟨va, vi, vp, I, P, hrep_frame h1 fun k e => (hk k (foot_lt h1 e) (h7 k e)).1, h2, h3, h4, h5, h6, fun k e => (hk k (foot_lt h1 e) (h7 k e)).2.trans (h7 k e), h8⟩
  | oth => trivial

/-- Some parts change. -/
theorem SM.upd (h : SM tag B w0 w a v d) (X : KT → Prop) (hX : ¬ X .oth) (hT : Touch (fun k => X (tag k)) w w') (ht : ∀ g, g < w.heap.size → tag' g = tag g) (hB : ∀ k, w.heap.size ≤ k → tag' k ≠ .oth → B ≤ k) (hd : ∀ t, ¬ X t → Co t tag B w a v d → Co t tag B w a v' d') (hn : ∀ t, X t → Co t tag' B w' a v' d') : SM tag' B w0 w' a v' d' := by
  refine ⟨h.bel.trans (hT.below h.le fun k hk => h.tB k fun e => hX (e ▸ hk)), Nat.le_trans h.le hT.size, fun k hk => ?_, fun t => ?_⟩
  · by_cases q : k < w.heap.size
    · exact h.tB k (by rw [← ht k q]; exact hk)
    · exact hB k (by omega) hk
  · by_cases q : X t
    · exact hn t q
    · exact (hd t q (h.co t)).keep fun k hk e => ⟨hT.block k hk (by rw [e]; exact q), ht k hk⟩

/-- The world grew. -/
theorem SM.grow (h : SM tag B w0 w a v d) (hb : Below w.heap.size w w') (ht : ∀ g, g < w.heap.size → tag' g = tag g) (hB : ∀ k, w.heap.size ≤ k → tag' k ≠ .oth → B ≤ k) : SM tag' B w0 w' a v d := by
  refine ⟨h.bel.trans (hb.mono h.le), Nat.le_trans h.le hb.size, fun k hk => ?_, fun t => (h.co t).keep fun k hk e => ⟨hb.block k hk, ht k hk⟩⟩
  by_cases q : k < w.heap.size
  · exact h.tB k (by rw [← ht k q]; exact hk)
  · exact hB k (by omega) hk

/-- A cell of a fixed block is set. -/
theorem Fx.set {b o : Nat} {vs : List Value} {e : TypeId} (h : Fx t tag w b vs e) (u : Value) : Fx t tag (w.setCell ⟨b, o, none⟩ u) b (vs.set o u) e :=
  ⟨setCell_block u h.1, h.2⟩

/-- A cell of a fixed block of the kind t. -/
theorem SM.setFx (h : SM tag B w0 w a v d) {b o : Nat} (u : Value) (ho : t ≠ .oth) (hb : tag b = t) (hd : ∀ s, s ≠ t → Co s tag B w a v d → Co s tag B w a v' d') (hn : Co t tag B (w.setCell ⟨b, o, none⟩ u) a v' d') : SM tag B w0 (w.setCell ⟨b, o, none⟩ u) a v' d' :=
  h.upd (fun s => s = t) (fun e => ho e.symm) ((Touch.refl _ w).setCell hb u) (fun _ _ => rfl) (fun k _ hk => h.tB k hk) hd fun s hs => by subst hs; exact hn

theorem SM.setVal (h : SM tag B w0 w a v d) (i : Nat) (x : Int) : SM tag B w0 (w.setCell ⟨a.bv, i, none⟩ (.int .i8 x)) a v { d with va := d.va.set i x } :=
  h.setFx (t := .val) _ (by nofun) (h.co .val).1.2 (fun s hs hc => by cases s <;> first | exact hc | exact absurd rfl hs) ⟨by
    have := (h.co .val).1.set (o := i) (.int .i8 x)
    unfold vi8 at this ⊢
    rw [← List.map_set] at this
    exact this, by simpa using (h.co .val).2⟩

theorem SM.setPha (h : SM tag B w0 w a v d) (i : Nat) (x : Int) : SM tag B w0 (w.setCell ⟨a.bp, i, none⟩ (.int .i8 x)) a v { d with ph := d.ph.set i x } :=
  h.setFx (t := .pha) _ (by nofun) (h.co .pha).1.2 (fun s hs hc => by cases s <;> first | exact hc | exact absurd rfl hs) ⟨by
    have := (h.co .pha).1.set (o := i) (.int .i8 x)
    unfold vi8 at this ⊢
    rw [← List.map_set] at this
    exact this, by simpa using (h.co .pha).2⟩

theorem SM.setLev (h : SM tag B w0 w a v d) (i : Nat) (x : Int) : SM tag B w0 (w.setCell ⟨a.bl, i, none⟩ (.int .i64 x)) a v { d with lv := d.lv.set i x } :=
  h.setFx (t := .lev) _ (by nofun) (h.co .lev).1.2 (fun s hs hc => by cases s <;> first | exact hc | exact absurd rfl hs) ⟨by
    have := (h.co .lev).1.set (o := i) (.int .i64 x)
    unfold ints at this ⊢
    rw [← List.map_set] at this
    exact this, by simpa using (h.co .lev).2⟩

theorem SM.setRea (h : SM tag B w0 w a v d) (i : Nat) (x : Int) : SM tag B w0 (w.setCell ⟨a.br, i, none⟩ (.int .i64 x)) a v { d with re := d.re.set i x } :=
  h.setFx (t := .rea) _ (by nofun) (h.co .rea).1.2 (fun s hs hc => by cases s <;> first | exact hc | exact absurd rfl hs) ⟨by
    have := (h.co .rea).1.set (o := i) (.int .i64 x)
    unfold ints at this ⊢
    rw [← List.map_set] at this
    exact this, by simpa using (h.co .rea).2⟩

theorem SM.setSee (h : SM tag B w0 w a v d) (i : Nat) (x : Bool) : SM tag B w0 (w.setCell ⟨a.bs, i, none⟩ (.bool x)) a v { d with se := d.se.set i x } :=
  h.setFx (t := .see) _ (by nofun) (h.co .see).1.2 (fun s hs hc => by cases s <;> first | exact hc | exact absurd rfl hs) ⟨by
    have := (h.co .see).1.set (o := i) (.bool x)
    unfold bools at this ⊢
    rw [← List.map_set] at this
    exact this, by simpa using (h.co .see).2⟩

theorem SM.setDn (h : SM tag B w0 w a v d) (x : Nat) : SM tag B w0 (w.setCell ⟨a.bx, 9, none⟩ (.int .i64 x)) a v { d with dn := x } :=
  h.setFx (t := .sta) _ (by nofun) (h.co .sta).2 (fun s hs hc => by cases s <;> first | exact hc | exact absurd rfl hs) ((h.co .sta).set (o := 9) (.int .i64 x))

theorem SM.setBump (h : SM tag B w0 w a v d) (x : Int) : SM tag B w0 (w.setCell ⟨a.bx, 12, none⟩ (.int .i64 x)) a v { d with bp := x } :=
  h.setFx (t := .sta) _ (by nofun) (h.co .sta).2 (fun s hs hc => by cases s <;> first | exact hc | exact absurd rfl hs) ((h.co .sta).set (o := 12) (.int .i64 x))

end

end Go.Proofs.Ytfofabbnbmieoaa.Ord

/- The contracts of solve's index, variable and holds. -/
namespace Go.Proofs.Ytfofabbnbmieoaa.Ord
open Go.RowKit Go.Conc

/-- The index of a literal. -/
def ixL (a : Int) : Int := if a < 0 then -2 * a + 1 else 2 * a

/-- The variable of a literal. -/
def vrL (a : Int) : Int := if a < 0 then -a else a

theorem ixL_range {n : Nat} {a : Int} (h : LitOk n a) : 0 ≤ ixL a ∧ (ixL a).toNat < 2 * (n + 1) := by
  unfold ixL
  unfold LitOk at h
  split <;> omega

theorem vrL_range {n : Nat} {a : Int} (h : LitOk n a) : 1 ≤ vrL a ∧ vrL a ≤ n := by
  unfold vrL
  unfold LitOk at h
  split <;> omega

theorem sol_index (a r : Int) (w : World) (hr : ixL a = r) (ha : -1048577 ≤ a ∧ a ≤ 1048577) :
    Calls Try.prog 69 #[.int .i64 a] w fun e w' => e = .returned (.int .i64 r) ∧ w = w' := by
  by_cases h : a < 0
  · have e1 : IntKind.i64.wrap (-2 * a) = -2 * a := IntWalk.i64_in _ (by omega)
    have e2 : IntKind.i64.wrap (-2 * a + 1) = -2 * a + 1 := IntWalk.i64_in _ (by omega)
    have HR : Hid (-2 * a + 1 = r) := hid (by rw [← hr]; unfold ixL; rw [if_pos h])
    clear hr
    go_enter Try.func69, Try.ntmps69
    go_wp2_with fail
    go_ret
    exact ⟨by rw [← HR.out]; rfl, rfl⟩
  · have e1 : IntKind.i64.wrap (2 * a) = 2 * a := IntWalk.i64_in _ (by omega)
    have HR : Hid (2 * a = r) := hid (by rw [← hr]; unfold ixL; rw [if_neg h])
    clear hr
    go_enter Try.func69, Try.ntmps69
    go_wp2_with fail
    go_ret
    exact ⟨by rw [← HR.out]; rfl, rfl⟩

theorem sol_variable (a r : Int) (w : World) (hr : vrL a = r) (ha : -1048577 ≤ a ∧ a ≤ 1048577) :
    Calls Try.prog 70 #[.int .i64 a] w fun e w' => e = .returned (.int .i64 r) ∧ w = w' := by
  have e1 : IntKind.i64.wrap (-a) = -a := IntWalk.i64_in _ (by omega)
  have HR : Hid (max a (-a) = r) := hid (by rw [← hr]; unfold vrL; split <;> omega)
  clear hr
  go_enter Try.func70, Try.ntmps70
  go_wp2_with fail
  all_goals
    go_ret
    have h := HR.out
    refine ⟨?_, rfl⟩
    first
      | (have h2 : -a = r := by omega
         subst h2; rfl)
      | (have h2 : a = r := by omega
         subst h2; rfl)

/-- What holds says. -/
def hvL (va : List Int) (a : Int) : Int := if a < 0 then -((va[(-a).toNat]?).getD 0) else (va[a.toNat]?).getD 0

section
variable {tag : Nat → KT} {B : Nat} {w0 w : World} {a : SA} {v : SV} {d : SD}

theorem SM.cell (h : SM tag B w0 w a v d) (i : Nat) : w.cell? ⟨a.bx, i, none⟩ = (scells a v d)[i]? := fit_cell (h.co .sta).1 i

theorem SM.valc (h : SM tag B w0 w a v d) {i : Nat} (hi : i < a.n1) : w.cell? ⟨a.bv, i, none⟩ = some (.int .i8 ((d.va[i]?).getD 0)) := by
  rw [fit_cell (h.co .val).1.1 i]
  have hl := (h.co .val).2
  unfold vi8
  rw [List.getElem?_map, List.getElem?_eq_getElem (by omega)]
  rfl

end

theorem sol_holds (tag : Nat → KT) (B : Nat) (w0 w : World) (a : SA) (v : SV) (d : SD) (n : Nat) (x r : Int) (h : SM tag B w0 w a v d) (hn : a.n1 = n + 1) (hn1 : n ≤ 1048576) (hx : LitOk n x) (hv : ∀ y ∈ d.va, -1 ≤ y ∧ y ≤ 1) (hr : hvL d.va x = r) :
    Calls Try.prog 68 #[.pointer (some ⟨a.bx, 0, none⟩), .int .i64 x] w fun e w' => e = .returned (.int .i8 r) ∧ ∃ q, w' = w.drewN q := by
  have c3 : w.cell? ⟨a.bx, 3, none⟩ = some (.slice (some ⟨a.bv, 0, none⟩) a.n1 a.n1) := h.cell 3
  unfold LitOk at hx
  have hg : ∀ i : Nat, -1 ≤ (d.va[i]?).getD 0 ∧ (d.va[i]?).getD 0 ≤ 1 := fun i => by
    cases hi : d.va[i]? with
    | none => simp
    | some y => exact hv y (List.mem_of_getElem? hi)
  by_cases hneg : x < 0
  · obtain ⟨k, hk⟩ : ∃ k : Nat, -x = k := ⟨(-x).toNat, by omega⟩
    have hkn : k < a.n1 := by omega
    have cv := h.valc hkn
    have hr2 : -((d.va[k]?).getD 0) = r := by
      rw [← hr]; unfold hvL; rw [if_pos hneg]
      have : (-x).toNat = k := by omega
      rw [this]
    have hgk := hg k
    obtain ⟨y, hy⟩ : ∃ y, (d.va[k]?).getD 0 = y := ⟨_, rfl⟩
    rw [hy] at cv hr2 hgk
    have HR := hid hr2
    have e1 : IntKind.i64.wrap (-x) = k := by rw [hk]; exact IntWalk.i64_in _ (by omega)
    have e2 : IntKind.i8.wrap (-y) = -y := by
      have : y = -1 ∨ y = 0 ∨ y = 1 := by omega
      rcases this with rfl | rfl | rfl <;> rfl
    have hki : (k : Int) < a.n1 := by omega
    clear h hv hr hr2 hg hy hn
    go_enter Try.func68, Try.ntmps68
    go_wp2_with fail
    go_ret
    exact ⟨by rw [← HR.out]; rfl, 0, rfl⟩
  · obtain ⟨k, hk⟩ : ∃ k : Nat, x = k := ⟨x.toNat, by omega⟩
    have hkn : k < a.n1 := by omega
    have cv := h.valc hkn
    have hr2 : (d.va[k]?).getD 0 = r := by
      rw [← hr]; unfold hvL; rw [if_neg hneg]
      have : x.toNat = k := by omega
      rw [this]
    rw [hr2] at cv
    have hki : (k : Int) < a.n1 := by omega
    subst hk
    clear h hv hr hr2 hg hn
    go_enter Try.func68, Try.ntmps68
    go_wp2_with fail
    go_ret
    exact ⟨rfl, 0, rfl⟩

end Go.Proofs.Ytfofabbnbmieoaa.Ord

/- The contract of rup's set. -/
namespace Go.Proofs.Ytfofabbnbmieoaa.Ord
open Go.RowKit Go.Conc

attribute [local go_sem ↓] Go.wp_at_zero Go.wp_at_succ
attribute [local go_sem ↓ high] app_mark

/-- What is thrown. -/
def failV : Value := .iface 128 (.agg #[])

/-- What set leaves where the literal is not known to be false. -/
def setR (tag : Nat → RT) (B : Nat) (w0 w : World) (bx bw bk : Nat) (vc vt : Value) (dn : Nat) (C : List (List Int)) (us : List Value) (es : List (Int × Value)) (Wt : Int → List Nat) (K' : List Int) (w' : World) : Prop :=
  ∃ tag' vt', RM tag' B w0 w' bx bw bk vc vt' dn C us es Wt K' ∧ (∀ g, g < w.heap.size → tag' g = tag g) ∧ Touch (fun k => k = bx ∨ k = bk ∨ vt.ownBlock = some k) w w'

theorem setCell3 {w : World} {b : Nat} {e : TypeId} {x0 x1 x2 x3 x4 y : Value} (h : w.heap[b]? = some (.cells #[x0, x1, x2, x3, x4] e (0, 0))) : (w.setCell ⟨b, 3, none⟩ y).heap[b]? = some (.cells #[x0, x1, x2, y, x4] e (0, 0)) := by
  have h1 := setCell_block (o := 3) y (xs := [x0, x1, x2, x3, x4]) h
  exact h1

set_option maxRecDepth 100000 in
set_option maxHeartbeats 4000000 in
theorem rup_set (tag : Nat → RT) (B : Nat) (w0 w : World) (bx bw bk : Nat) (vc vt : Value) (dn : Nat) (C : List (List Int)) (us : List Value) (es : List (Int × Value)) (Wt : Int → List Nat) (K : List Int) (a : Int) (h : RM tag B w0 w bx bw bk vc vt dn C us es Wt K) (ha : -1048576 ≤ a ∧ a ≤ 1048576) (hKl : K.length ≤ 2199023255552) :
    Calls Try.prog 90 #[.pointer (some ⟨bx, 0, none⟩), .int .i64 a] w fun e w' => (-a ∈ K → e = .panicked [{ v := failV, recovered := false }] ∧ w' = w) ∧ (-a ∉ K → e = .returned (.tuple #[]) ∧ setR tag B w0 w bx bw bk vc vt dn C us es Wt (setK K a) w') := by
  obtain ⟨i0, hi0, hz0, hz1', hz2⟩ := info_parts info_int
  obtain ⟨-, -, hc2, hc3, -⟩ := h.cells
  have hw1 : IntKind.i64.wrap (-a) = -a := IntWalk.i64_in _ (by omega)
  have hl1 : ∀ x, (Instr.lookup 100 (.map (some bk)) (.int .i64 x) false).run Try.prog w = .ok (.bool (decide (x ∈ K))) w := fun x => by
    rw [im_lookup (P := Try.prog) Try.underlying100 Try.underlying3 (info_zero_bool w) h.kn x, kes_get]
  by_cases h1 : -a ∈ K
  · have hm := hl1 (-a)
    rw [decide_eq_true h1] at hm
    have H1 := hid h1
    clear hl1 h1 h
    go_enter Try.func90, Try.ntmps90
    go_wp2_with fail
    exact ⟨rfl, fun _ => ⟨rfl, rfl⟩, fun h => absurd H1.out h⟩
  · have hm := hl1 (-a)
    rw [decide_eq_false h1] at hm
    by_cases h2 : a ∈ K
    · have hm2 := hl1 a
      rw [decide_eq_true h2] at hm2
      have HR : Hid (setR tag B w0 w bx bw bk vc vt dn C us es Wt (setK K a) w) := hid (by
        rw [setK_pos h1 h2]
        exact ⟨tag, vt, h, fun _ _ => rfl, Touch.refl _ _⟩)
      have H1 := hid h1
      clear hl1 h1 h2 h
      go_enter Try.func90, Try.ntmps90
      go_wp2_with fail
      exact ⟨rfl, _, results_none rfl _ _ _, fun h => absurd h H1.out, fun _ => ⟨rfl, HR.out⟩⟩
    · have hm2 := hl1 a
      rw [decide_eq_false h2] at hm2
      obtain ⟨a1, a2, a3, a4, a5, a6, a7, a8, a9⟩ := h.apart
      obtain ⟨w1, hup, him, ht1, hz1⟩ := im_update (P := Try.prog) Try.underlying100 Try.underlying3 h.kn a (.bool true)
      rw [kes_put h2] at him
      have hbx1 := (ht1.block bx (Array.getElem?_eq_some_iff.1 h.blk).1 a2).trans h.blk
      have htr1 : w1.ownsRow B 3 1 vt K.length (ints K) := own_frame0 h.tr fun g hg => ht1.block g (h.tr.lt g hg).2 (fun e => a8 (e ▸ hg))
      obtain ⟨at', ct', hvt⟩ := own_lenV' h.tr
      obtain ⟨y, hy⟩ : ∃ y, K.length = y := ⟨_, rfl⟩
      rw [hy] at hvt htr1
      have hB1 : B ≤ w1.heap.size := by have := h.le; omega
      obtain ⟨a6, c6, w6, hr6, ho6, hg6, ha6⟩ := appM_one (P := Try.prog) (w1.alloc (.cells #[.int .i64 a] 3 (0, 0))) B 22 22 3 i0 (.int .i64 0) 8 Try.underlying22 hi0 hz0 hz1' hz2 rfl vt y (ints K) (htr1.alloc _) w1.heap.size (.int .i64 a) (heap_alloc_new _ _) rfl (by unfold maxLen; omega) (by omega) (by simp only [size_al]; omega)
      have hbx6 := blk_app (box_below w1 (.cells #[.int .i64 a] 3 (0, 0))) htr1 hg6 hbx1 (by decide)
      have hq3 : w1.cell? ⟨bx, 3, none⟩ = some vt := fit_cell (vs := [vc, .map (some bw), .map (some bk), vt, .int .i64 dn]) hbx1 3
      have hq6 : w6.cell? ⟨bx, 3, none⟩ = some vt := fit_cell (vs := [vc, .map (some bw), .map (some bk), vt, .int .i64 dn]) hbx6 3
      have hf6 : w6.frozen? ⟨bx, 3, none⟩ = false := frozen_of_row _ _ _ _ _ hbx6
      have hz6 : w.heap.size ≤ w6.heap.size := by have := hg6.size; simp only [size_al] at this; omega
      have hT : Touch (fun k => k = bx ∨ k = bk ∨ vt.ownBlock = some k) w (w6.setCell ⟨bx, 3, none⟩ (.slice a6 (y + 1) c6)) :=
        (((ht1.mono fun k _ hk => (.inr (.inl hk) : k = bx ∨ k = bk ∨ vt.ownBlock = some k)).alloc _).grown hg6 (fun k hk => .inl (.inr (.inr hk)))).setCell (.inl rfl) _
      have hbxF := setCell3 (y := .slice a6 (y + 1) c6) hbx6
      have hbk1 := him.lt
      have hkF : (w6.setCell ⟨bx, 3, none⟩ (.slice a6 (y + 1) c6)).heap[bk]? = w1.heap[bk]? := (heap_setCell_other w6 ⟨bx, 3, none⟩ bk _ (fun e => a2 e.symm)).trans ((hg6.block bk (by simp only [size_al]; omega) (fun e => a8 e.symm)).trans (Below.heap_alloc _ _ _ hbk1))
      have HR : Hid (setR tag B w0 w bx bw bk vc vt dn C us es Wt (setK K a) (w6.setCell ⟨bx, 3, none⟩ (.slice a6 (y + 1) c6))) := hid (by
        rw [setK_new h1 h2]
        refine ⟨fun g => if g < w.heap.size then tag g else .trl, .slice a6 (y + 1) c6, h.known hT (fun g hg => if_pos hg) hbxF ?_ (fun g hg => ?_) (him.frame hkF), fun g hg => if_pos hg, hT⟩
        · have e : (K ++ [a]).length = y + 1 := by simp [hy]
          rw [e, ints_append]
          exact own_setO ho6 hbx6 (by decide) _ _
        · show (if g < w.heap.size then tag g else RT.trl) = RT.trl
          by_cases hgl : g < w.heap.size
          · rw [if_pos hgl]
            rcases ha6 with e | e
            · exact h.trt g (e ▸ hg)
            · rw [e] at hg
              injection hg with hg
              simp only [size_al] at hg
              omega
          · rw [if_neg hgl])
      have H1 := hid h1
      subst hvt
      clear hz1 hz6 hB1 hl1 h1 h2 h him ht1 hbx1 htr1 hy ho6 hg6 ha6 hbx6 hT hbxF hkF a1 a2 a3 a4 a5 a7 a8 a9
      go_enter Try.func90, Try.ntmps90
      go_wp2_with fail
      exact ⟨rfl, _, results_none rfl _ _ _, fun h => absurd h H1.out, fun _ => ⟨rfl, HR.out⟩⟩

end Go.Proofs.Ytfofabbnbmieoaa.Ord

/- solve's state: rows that grow. -/
namespace Go.Proofs.Ytfofabbnbmieoaa.Ord
open Go.RowKit Go.Conc

/-- New blocks are of the kind t. -/
def tgN (tag : Nat → KT) (w : World) (t : KT) : Nat → KT := fun k => if k < w.heap.size then tag k else t

theorem tgN_old {tag : Nat → KT} {w : World} {t : KT} {k : Nat} (h : k < w.heap.size) : tgN tag w t k = tag k := if_pos h
theorem tgN_new {tag : Nat → KT} {w : World} {t : KT} {k : Nat} (h : w.heap.size ≤ k) : tgN tag w t k = t := if_neg (by omega)

/-- What a call may touch, and how blocks are named behind it. -/
def SR (tag tag' : Nat → KT) (w w' : World) : Prop := Touch (fun k => tag k ≠ .oth) w w' ∧ ∀ g, g < w.heap.size → tag g = .oth → tag' g = .oth

theorem SR.refl (tag : Nat → KT) (w : World) : SR tag tag w w := ⟨Touch.refl _ _, fun _ _ h => h⟩

theorem SR.trans {t1 t2 t3 : Nat → KT} {a b c : World} (h : SR t1 t2 a b) (k : SR t2 t3 b c) : SR t1 t3 a c :=
  ⟨h.1.trans' k.1 fun i hi hs e => hs (h.2 i hi e), fun g hg e => k.2 g (Nat.lt_of_lt_of_le hg h.1.size) (h.2 g hg e)⟩

section
variable {tag : Nat → KT} {B : Nat} {w0 w w1 w6 : World} {a : SA} {v : SV} {d : SD} {t : KT}

/-- A row that grew. -/
theorem Gr.push {e : TypeId} {u u6 y : Value} {xs : List Value} (h : Gr t tag B w e u xs) (h1 : Below w.heap.size w w1) (ho : w6.ownsRow B e 1 u6 (xs.length + 1) (xs ++ [y])) (hg : w1.grownBy w6 u.ownBlock) (ha : u6.ownBlock = u.ownBlock ∨ u6.ownBlock = some w1.heap.size) :
    Touch (fun k => tag k = t) w w6 ∧ Gr t (tgN tag w t) B w6 e u6 (xs ++ [y]) := by
  refine ⟨?_, by rw [List.length_append]; exact ho, fun g hg' => ?_⟩
  · have ht1 : Touch (fun k => tag k = t) w w1 := ⟨h1.os, h1.tape, h1.output, h1.size, fun k hk _ => h1.block k hk⟩
    exact ht1.grown hg fun k hk => .inl (h.2 k hk)
  · by_cases q : g < w.heap.size
    · rw [tgN_old q]
      rcases ha with e' | e'
      · exact h.2 g (e' ▸ hg')
      · rw [e'] at hg'
        injection hg' with hg'
        have := h1.size
        omega
    · exact tgN_new (by omega)

theorem Fx.touch {X : Nat → Prop} {tag' : Nat → KT} {b : Nat} {vs : List Value} {e : TypeId} (h : Fx t tag w b vs e) (hT : Touch X w w6) (hn : ¬ X b) (ht : ∀ g, g < w.heap.size → tag' g = tag g) : Fx t tag' w6 b vs e := by
  have hl := (Array.getElem?_eq_some_iff.1 h.1).1
  exact ⟨(hT.block b hl hn).trans h.1, (ht b hl).trans h.2⟩

/-- A literal more on the trail. -/
theorem SM.pushK (h : SM tag B w0 w a v d) {u6 : Value} {x : Int} (h1 : Below w.heap.size w w1) (ho : w6.ownsRow B 3 1 u6 (d.K.length + 1) (ints d.K ++ [.int .i64 x])) (hg : w1.grownBy w6 v.vt.ownBlock) (ha : u6.ownBlock = v.vt.ownBlock ∨ u6.ownBlock = some w1.heap.size) :
    SM (tgN tag w .trl) B w0 (w6.setCell ⟨a.bx, 8, none⟩ u6) a { v with vt := u6 } { d with K := d.K ++ [x] } ∧ SR tag (tgN tag w .trl) w (w6.setCell ⟨a.bx, 8, none⟩ u6) ∧ w6.heap[a.bx]? = some (.cells (scells a v d).toArray 83 (0, 0)) := by
  have hk : (ints d.K).length = d.K.length := by simp [ints]
  obtain ⟨hT, hG⟩ := Gr.push (h.co .trl) h1 (by rw [hk]; exact ho) hg ha
  have hs : Fx .sta (tgN tag w .trl) w6 a.bx (scells a v d) 83 := Fx.touch (h.co .sta) hT (by rw [(h.co .sta).2]; nofun) fun g hg => tgN_old hg
  have hsb : tag a.bx = .sta := (h.co .sta).2
  have hT2 : Touch (fun k => tag k = .trl ∨ tag k = .sta) w (w6.setCell ⟨a.bx, 8, none⟩ u6) := (hT.mono fun k _ e => .inl e).setCell (.inr hsb) _
  refine ⟨h.upd (fun s => s = .trl ∨ s = .sta) (by rintro (e | e) <;> cases e) hT2 (fun g hg => tgN_old hg) (fun k hk _ => Nat.le_trans h.le hk) (fun s hs hc => by cases s <;> first | exact hc | exact absurd (.inl rfl) hs | exact absurd (.inr rfl) hs) ?_, ⟨hT2.mono fun k _ e => by rcases e with e | e <;> (rw [e]; nofun), fun g hg e => (tgN_old hg).trans e⟩, hs.1⟩
  rintro s (rfl | rfl)
  · show Gr .trl _ B _ 3 u6 (ints (d.K ++ [x]))
    rw [ints_append]
    refine ⟨?_, hG.2⟩
    exact own_setO hG.1 hs.1 (by decide) _ _
  · exact hs.set (o := 8) u6

end

end Go.Proofs.Ytfofabbnbmieoaa.Ord

/- The contract of solve's set. -/
namespace Go.Proofs.Ytfofabbnbmieoaa.Ord
open Go.RowKit Go.Conc

attribute [local go_sem ↓] Go.wp_at_zero Go.wp_at_succ
attribute [local go_sem ↓ high] app_mark

/-- What set changes. -/
def setD (d : SD) (x rs : Int) : SD := { d with va := d.va.set (vrL x).toNat (if x < 0 then -1 else 1), lv := d.lv.set (vrL x).toNat d.ls.length, re := d.re.set (vrL x).toNat rs, K := d.K ++ [x] }

section
variable {tag : Nat → KT} {B : Nat} {w0 w : World} {a : SA} {v : SV} {d : SD} {t : KT}

theorem Fx.free {b o : Nat} {vs : List Value} {e : TypeId} (h : Fx t tag w b vs e) : w.frozen? ⟨b, o, none⟩ = false := frozen_of_row _ _ _ _ _ h.1

theorem SM.levc (h : SM tag B w0 w a v d) {i : Nat} (hi : i < a.n1) : w.cell? ⟨a.bl, i, none⟩ = some (.int .i64 ((d.lv[i]?).getD 0)) := by
  rw [fit_cell (h.co .lev).1.1 i]
  have hl := (h.co .lev).2
  unfold ints
  rw [List.getElem?_map, List.getElem?_eq_getElem (by omega)]
  rfl

theorem SM.reac (h : SM tag B w0 w a v d) {i : Nat} (hi : i < a.n1) : w.cell? ⟨a.br, i, none⟩ = some (.int .i64 ((d.re[i]?).getD 0)) := by
  rw [fit_cell (h.co .rea).1.1 i]
  have hl := (h.co .rea).2
  unfold ints
  rw [List.getElem?_map, List.getElem?_eq_getElem (by omega)]
  rfl

end

set_option maxRecDepth 100000 in
set_option maxHeartbeats 4000000 in
theorem sol_set (tag : Nat → KT) (B : Nat) (w0 w : World) (a : SA) (v : SV) (d : SD) (n : Nat) (x rs : Int) (h : SM tag B w0 w a v d) (hn : a.n1 = n + 1) (hn1 : n ≤ 1048576) (hx : LitOk n x) (hK : d.K.length ≤ 1048576) :
    Calls Try.prog 55 #[.pointer (some ⟨a.bx, 0, none⟩), .int .i64 x, .int .i64 rs] w fun e w' => e = .returned (.tuple #[]) ∧ ∃ tag' vt', SM tag' B w0 w' a { v with vt := vt' } (setD d x rs) ∧ SR tag tag' w w' := by
  obtain ⟨i0, hi0, hz0, hz1, hz2⟩ := info_parts info_int
  have hvr := vrL_range hx
  obtain ⟨k, hk⟩ : ∃ k : Nat, vrL x = k := ⟨(vrL x).toNat, by omega⟩
  have hkn : k < a.n1 := by omega
  have hki : (k : Int) < a.n1 := by omega
  have hk0 : (0 : Int) ≤ k := by omega
  unfold LitOk at hx
  have hx' : -1048577 ≤ x ∧ x ≤ 1048577 := by omega
  obtain ⟨s, hs⟩ : ∃ s : Int, (if x < 0 then -1 else 1) = s := ⟨_, rfl⟩
  -- the worlds
  have c3 : w.cell? ⟨a.bx, 3, none⟩ = some (.slice (some ⟨a.bv, 0, none⟩) a.n1 a.n1) := h.cell 3
  have cv := h.valc hkn
  have fv : w.frozen? ⟨a.bv, k, none⟩ = false := Fx.free (h.co .val).1
  have hsv : ∀ (w : World) (d : SD), SM tag B w0 w a v d → ∀ y, SR tag tag w (w.setCell ⟨a.bv, k, none⟩ y) := fun w d h y => ⟨(Touch.refl _ w).setCell (by rw [(h.co .val).1.2]; nofun) _, fun _ _ h => h⟩
  obtain ⟨w1, hW, h1, hs1⟩ : ∃ w1, ((x < 0 ∧ ∃ wa, w.setCell ⟨a.bv, k, none⟩ (.int .i8 1) = wa ∧ wa.setCell ⟨a.bv, k, none⟩ (.int .i8 (-1)) = w1 ∧ wa.cell? ⟨a.bx, 3, none⟩ = some (.slice (some ⟨a.bv, 0, none⟩) a.n1 a.n1) ∧ (∃ y, wa.cell? ⟨a.bv, k, none⟩ = some y) ∧ wa.frozen? ⟨a.bv, k, none⟩ = false) ∨ (¬ x < 0 ∧ w.setCell ⟨a.bv, k, none⟩ (.int .i8 1) = w1)) ∧ SM tag B w0 w1 a v { d with va := d.va.set k s } ∧ SR tag tag w w1 := by
    by_cases hneg : x < 0
    · rw [if_pos hneg] at hs
      have ha := h.setVal k 1
      have hb := ha.setVal k (-1)
      refine ⟨_, .inl ⟨hneg, _, rfl, rfl, ha.cell 3, ⟨_, ha.valc hkn⟩, Fx.free (ha.co .val).1⟩, ?_, (hsv _ _ h _).trans (hsv _ _ ha _)⟩
      rw [← hs]
      simpa only [List.set_set] using hb
    · rw [if_neg hneg] at hs
      refine ⟨_, .inr ⟨hneg, rfl⟩, ?_, hsv _ _ h _⟩
      rw [← hs]
      exact h.setVal k 1
  have h2 := h1.setLev k d.ls.length
  obtain ⟨w2, hw2⟩ : ∃ w2, w1.setCell ⟨a.bl, k, none⟩ (.int .i64 d.ls.length) = w2 := ⟨_, rfl⟩
  rw [hw2] at h2
  have h3 := h2.setRea k rs
  obtain ⟨w3, hw3⟩ : ∃ w3, w2.setCell ⟨a.br, k, none⟩ (.int .i64 rs) = w3 := ⟨_, rfl⟩
  rw [hw3] at h3
  have hs2 : SR tag tag w1 w2 := ⟨by rw [← hw2]; exact (Touch.refl _ w1).setCell (by rw [(h.co .lev).1.2]; nofun) _, fun _ _ h => h⟩
  have hs3 : SR tag tag w2 w3 := ⟨by rw [← hw3]; exact (Touch.refl _ w2).setCell (by rw [(h.co .rea).1.2]; nofun) _, fun _ _ h => h⟩
  have HS3 := hid ((hs1.trans hs2).trans hs3)
  have hK3 := (h3.co .trl).1
  have hkl : (ints d.K).length = d.K.length := by simp [ints]
  obtain ⟨at8, ct8, hvt⟩ := own_lenV' hK3
  have hB3 := h3.le
  obtain ⟨a6, c6, w6, hr6, ho6, hg6, ha6⟩ := appM_one (P := Try.prog) (w3.alloc (.cells #[.int .i64 x] 3 (0, 0))).drew B 22 22 3 i0 (.int .i64 0) 8 Try.underlying22 hi0 hz0 hz1 hz2 rfl v.vt d.K.length (ints d.K) (by rw [hkl] at hK3; exact hK3.alloc _) w3.heap.size (.int .i64 x) (heap_alloc_new _ _) rfl (by unfold maxLen; omega) (by omega) (by show B ≤ (w3.alloc _).heap.size; simp only [size_al]; omega)
  obtain ⟨hM6, hR6, hb6⟩ := h3.pushK (box_below w3 (.cells #[.int .i64 x] 3 (0, 0))).drew ho6 hg6 ha6
  have hq6 : w6.cell? ⟨a.bx, 8, none⟩ = some v.vt := fit_cell hb6 8
  have hf6 : w6.frozen? ⟨a.bx, 8, none⟩ = false := frozen_of_row _ _ _ _ _ hb6
  have HF : Hid (∃ tag' vt', SM tag' B w0 (w6.setCell ⟨a.bx, 8, none⟩ (.slice a6 (d.K.length + 1) c6)) a { v with vt := vt' } (setD d x rs) ∧ SR tag tag' w (w6.setCell ⟨a.bx, 8, none⟩ (.slice a6 (d.K.length + 1) c6))) := hid (by
    refine ⟨tgN tag w3 .trl, .slice a6 (d.K.length + 1) c6, ?_, HS3.out.trans hR6⟩
    have e : setD d x rs = { d with va := d.va.set k s, lv := d.lv.set k d.ls.length, re := d.re.set k rs, K := d.K ++ [x] } := by
      unfold setD
      rw [hk, hs]
      rfl
    rw [e]
    exact hM6)
  have hlv := (h1.co .lvs).1
  obtain ⟨al, cl, hvd⟩ := own_lenV' hlv
  have hll : (ints d.ls).length = d.ls.length := by simp [ints]
  rw [hll] at hvd
  have d5 : w1.cell? ⟨a.bx, 5, none⟩ = some (.slice (some ⟨a.bl, 0, none⟩) a.n1 a.n1) := h1.cell 5
  have d6 : w1.cell? ⟨a.bx, 6, none⟩ = some (.slice (some ⟨a.br, 0, none⟩) a.n1 a.n1) := h1.cell 6
  have d10 : w1.cell? ⟨a.bx, 10, none⟩ = some v.vd := h1.cell 10
  have dl := h1.levc hkn
  have fl : w1.frozen? ⟨a.bl, k, none⟩ = false := Fx.free (h1.co .lev).1
  have dr := h2.reac hkn
  have fr : w2.frozen? ⟨a.br, k, none⟩ = false := Fx.free (h2.co .rea).1
  have dr1 := h1.reac hkn
  have e8 : w3.cell? ⟨a.bx, 8, none⟩ = some v.vt := h3.cell 8
  have e2 : w2.cell? ⟨a.bx, 6, none⟩ = some (.slice (some ⟨a.br, 0, none⟩) a.n1 a.n1) := h2.cell 6
  rw [hvd] at d10
  rw [hkl] at hvt
  rw [hvt] at hr6 e8 hq6
  clear hM6 hR6 hb6 HS3 hlv hvd hll hsv h1 h2 h3 h hs1 hs2 hs3 hK3 hvt hB3 ho6 hg6 ha6 hs hvr hn
  have HV : Hid (∀ wz : World, Calls Try.prog 70 #[.int .i64 x] wz fun e w' => e = .returned (.int .i64 (k : Int)) ∧ wz = w') := hid fun wz => sol_variable x k wz hk hx'
  rcases hW with ⟨hneg, wa, hwa, hw1, ca, ⟨y, cy⟩, fa⟩ | ⟨hneg, hw1⟩
  · go_enter Try.func55, Try.ntmps55
    go_wp2_with (go_at_call 70; refine (HV.out _).mono ?_; rintro e w' ⟨rfl, rfl⟩)
    go_region
    all_goals
      go_wp2_with fail
      exact ⟨rfl, _, results_none rfl _ _ _, rfl, HF.out⟩
  · go_enter Try.func55, Try.ntmps55
    go_wp2_with (go_at_call 70; refine (HV.out _).mono ?_; rintro e w' ⟨rfl, rfl⟩)
    go_region
    all_goals
      go_wp2_with fail
      exact ⟨rfl, _, results_none rfl _ _ _, rfl, HF.out⟩

end Go.Proofs.Ytfofabbnbmieoaa.Ord

/- solve's state: a watch more, a clause more, a proof's clause more, a level more. -/
namespace Go.Proofs.Ytfofabbnbmieoaa.Ord
open Go.RowKit Go.Conc

/-- A watch more. -/
def addW (j i : Nat) (Wt : List (List Nat)) : List (List Nat) := Wt.set j ((Wt[j]?).getD [] ++ [i])

section
variable {tag : Nat → KT} {B : Nat} {w0 w w1 w6 : World} {a : SA} {v : SV} {d : SD} {t : KT}

theorem SM.cong (h : SM tag B w0 w a v d) {tag' : Nat → KT} (ht : ∀ k, k < w.heap.size → tag k ≠ .oth → tag' k = tag k) (hB : ∀ k, tag' k ≠ .oth → B ≤ k) : SM tag' B w0 w a v d :=
  ⟨h.bel, h.le, hB, fun t => by
    by_cases q : t = .oth
    · subst q; trivial
    · exact (h.co t).keep fun k hk e => ⟨rfl, ht k hk (by rw [e]; exact q)⟩⟩

/-- A watch list's part. -/
theorem SM.wthAt (h : SM tag B w0 w a v d) {j : Nat} (hj : j < 2 * a.n1) : ∃ u ns, v.ws[j]? = some u ∧ d.Wt[j]? = some ns ∧ Gr (.wth j) tag B w 3 u (nnts ns) := by
  have hl := (h.co .wtb).2.2
  obtain ⟨u, h1, h2⟩ := h.co (.wth j) _ (List.getElem?_eq_getElem (by omega : j < d.Wt.length))
  exact ⟨u, _, h1, List.getElem?_eq_getElem (by omega), h2⟩

theorem nnts_append (l : List Nat) (i : Nat) : nnts (l ++ [i]) = nnts l ++ [.int .i64 (i : Int)] := by simp [nnts]

/-- A number more in a watch list. -/
theorem SM.pushW (h : SM tag B w0 w a v d) {j i : Nat} (hj : j < 2 * a.n1) {u u6 : Value} {ns : List Nat} (hu : v.ws[j]? = some u) (hns : d.Wt[j]? = some ns) (h1 : Below w.heap.size w w1) (ho : w6.ownsRow B 3 1 u6 (ns.length + 1) (nnts ns ++ [.int .i64 (i : Int)])) (hg : w1.grownBy w6 u.ownBlock) (ha : u6.ownBlock = u.ownBlock ∨ u6.ownBlock = some w1.heap.size) :
    SM (tgN tag w (.wth j)) B w0 (w6.setCell ⟨a.bw, j, none⟩ u6) a { v with ws := v.ws.set j u6 } { d with Wt := addW j i d.Wt } ∧ Touch (fun k => tag k = .wth j ∨ tag k = .wtb) w (w6.setCell ⟨a.bw, j, none⟩ u6) ∧ w6.heap[a.bw]? = some (.cells v.ws.toArray 22 (0, 0)) ∧ w6.heap[a.bx]? = some (.cells (scells a v d).toArray 83 (0, 0)) := by
  obtain ⟨u', e1, hG⟩ := h.co (.wth j) ns hns
  rw [hu] at e1
  injection e1 with e1
  subst e1
  have hnl : (nnts ns).length = ns.length := nnts_length ns
  obtain ⟨hT, hG⟩ := Gr.push hG h1 (by rw [hnl]; exact ho) hg ha
  have hs : Fx .wtb (tgN tag w (.wth j)) w6 a.bw v.ws 22 := Fx.touch (h.co .wtb).1 hT (by rw [(h.co .wtb).1.2]; nofun) fun g hg => tgN_old hg
  have hs2 : Fx .sta (tgN tag w (.wth j)) w6 a.bx (scells a v d) 83 := Fx.touch (h.co .sta) hT (by rw [(h.co .sta).2]; nofun) fun g hg => tgN_old hg
  have hsb : tag a.bw = .wtb := (h.co .wtb).1.2
  have hT2 : Touch (fun k => tag k = .wth j ∨ tag k = .wtb) w (w6.setCell ⟨a.bw, j, none⟩ u6) := (hT.mono fun k _ e => .inl e).setCell (.inr hsb) _
  refine ⟨h.upd (fun s => s = .wth j ∨ s = .wtb) (by rintro (e | e) <;> cases e) hT2 (fun g hg => tgN_old hg) (fun k hk _ => Nat.le_trans h.le hk) (fun s hs hc => ?_) ?_, hT2, hs.1, hs2.1⟩
  · cases s with
    | wth m =>
      have hm : m ≠ j := fun e => hs (.inl (by rw [e]))
      intro ns' hns'
      have hns' : (addW j i d.Wt)[m]? = some ns' := hns'
      unfold addW at hns'
      rw [List.getElem?_set_ne (fun e => hm e.symm)] at hns'
      obtain ⟨u', q1, q2⟩ := hc ns' hns'
      exact ⟨u', by show (v.ws.set j u6)[m]? = some u'; rw [List.getElem?_set_ne (fun e => hm e.symm)]; exact q1, q2⟩
    | wtb => exact absurd (.inr rfl) hs
    | _ => exact hc
  · rintro s (rfl | rfl)
    · intro ns' hns'
      have hns' : (addW j i d.Wt)[j]? = some ns' := hns'
      unfold addW at hns'
      have hl := (h.co .wtb).2
      rw [List.getElem?_set_self (by omega), hns] at hns'
      injection hns' with hns'
      subst hns'
      refine ⟨u6, by show (v.ws.set j u6)[j]? = some u6; rw [List.getElem?_set_self (by omega)], ?_⟩
      show Gr (.wth j) _ B _ 3 u6 (nnts (ns ++ [i]))
      rw [nnts_append]
      exact ⟨own_setO hG.1 hs.1 (by decide) _ _, hG.2⟩
    · exact ⟨hs.set (o := j) u6, by simpa using (h.co .wtb).2.1, by unfold addW; simpa using (h.co .wtb).2.2⟩

/-- A clause more: its row becomes the state's. -/
theorem SM.pushC (h : SM tag B w0 w a v d) {g o cap : Nat} {c : List Int} {u6 : Value} (hc : Ro .oth tag w (.slice (some ⟨g, o, none⟩) c.length cap) c) (hgB : B ≤ g) (h1 : Below w.heap.size w w1) (ho : w6.ownsRow B 22 1 u6 (d.C.length + 1) (v.us ++ [.slice (some ⟨g, o, none⟩) c.length cap])) (hg : w1.grownBy w6 v.vc.ownBlock) (ha : u6.ownBlock = v.vc.ownBlock ∨ u6.ownBlock = some w1.heap.size) :
    ∃ tag', SM tag' B w0 (w6.setCell ⟨a.bx, 1, none⟩ u6) a { v with vc := u6, us := v.us ++ [.slice (some ⟨g, o, none⟩) c.length cap] } { d with C := d.C ++ [c] } ∧ Touch (fun k => tag k ≠ .oth) w (w6.setCell ⟨a.bx, 1, none⟩ u6) ∧ (∀ k, k < w.heap.size → k ≠ g → tag k = .oth → tag' k = .oth) ∧ w6.heap[a.bx]? = some (.cells (scells a v d).toArray 83 (0, 0)) := by
  obtain ⟨g', o', cap', cur, e1, hcap, htg, hblk, hval⟩ := hc
  injection e1 with e1 e2 e3
  injection e1 with e1
  injection e1 with e1 e4
  subst e1 e3 e4
  have hgl := (Array.getElem?_eq_some_iff.1 hblk).1
  obtain ⟨tg, htgd⟩ : ∃ tg : Nat → KT, (fun k => if k = g then KT.cls d.C.length else tag k) = tg := ⟨_, rfl⟩
  have ht1 : ∀ k, k ≠ g → tg k = tag k := fun k hk => by rw [← htgd]; exact if_neg hk
  have ht2 : tg g = .cls d.C.length := by rw [← htgd]; exact if_pos rfl
  have hm : SM tg B w0 w a v d := h.cong (fun k _ hk => ht1 k fun e => hk (by rw [e]; exact htg)) fun k hk => by
    by_cases q : k = g
    · rw [q]; exact hgB
    · exact h.tB k (by rw [← ht1 k q]; exact hk)
  have hul := (h.co .clr).2
  obtain ⟨hT, hG⟩ := Gr.push (hm.co .clr).1 h1 (by rw [hul]; exact ho) hg ha
  have hs : Fx .sta (tgN tg w .clr) w6 a.bx (scells a v d) 83 := Fx.touch (hm.co .sta) hT (by rw [(hm.co .sta).2]; nofun) fun g hg => tgN_old hg
  have hsb : tg a.bx = .sta := (hm.co .sta).2
  have hT2 : Touch (fun k => tg k = .clr ∨ tg k = .sta) w (w6.setCell ⟨a.bx, 1, none⟩ u6) := (hT.mono fun k _ e => .inl e).setCell (.inr hsb) _
  have hT3 : Touch (fun k => (fun s => s = KT.clr ∨ s = .sta ∨ s = .cls d.C.length) (tg k)) w (w6.setCell ⟨a.bx, 1, none⟩ u6) := hT2.mono fun k _ e => e.elim .inl fun e => .inr (.inl e)
  refine ⟨tgN tg w .clr, hm.upd (fun s => s = .clr ∨ s = .sta ∨ s = .cls d.C.length) (by rintro (e | e | e) <;> cases e) hT3 (fun g hg => tgN_old hg) (fun k hk _ => Nat.le_trans h.le hk) (fun s hs hc => ?_) ?_, hT2.mono fun k _ e => ?_, fun k hk hkg e => (tgN_old hk).trans ((ht1 k hkg).trans e), hs.1⟩
  · cases s with
    | cls m =>
      have hmm : m ≠ d.C.length := fun e => hs (.inr (.inr (by rw [e])))
      intro c' hc'
      have hc' : (d.C ++ [c])[m]? = some c' := hc'
      by_cases q : m < d.C.length
      · rw [List.getElem?_append_left q] at hc'
        obtain ⟨u', q1, q2⟩ := hc c' hc'
        exact ⟨u', by show (v.us ++ _)[m]? = some u'; rw [List.getElem?_append_left (by omega)]; exact q1, q2⟩
      · rw [List.getElem?_eq_none (by simp; omega)] at hc'
        cases hc'
    | clr => exact absurd (.inl rfl) hs
    | sta => exact absurd (.inr (.inl rfl)) hs
    | _ => exact hc
  · rintro s (rfl | rfl | rfl)
    · exact ⟨⟨own_setO hG.1 hs.1 (by decide) _ _, hG.2⟩, by simp [hul]⟩
    · exact hs.set (o := 1) u6
    · intro c' hc'
      have hc' : (d.C ++ [c])[d.C.length]? = some c' := hc'
      rw [List.getElem?_append_right (Nat.le_refl _)] at hc'
      simp at hc'
      subst hc'
      refine ⟨.slice (some ⟨g, o, none⟩) c.length cap, by show (v.us ++ _)[d.C.length]? = _; rw [List.getElem?_append_right (by omega)]; simp [hul], g, o, cap, cur, rfl, hcap, (tgN_old hgl).trans ht2, ?_, hval⟩
      exact (hT2.block g hgl (by rw [ht2]; rintro (e | e) <;> cases e)).trans hblk
  · rcases e with e | e
    · by_cases q : k = g
      · rw [q, ht2] at e; cases e
      · rw [← ht1 k q, e]; nofun
    · by_cases q : k = g
      · rw [q, ht2] at e; cases e
      · rw [← ht1 k q, e]; nofun

end

end Go.Proofs.Ytfofabbnbmieoaa.Ord

/- lit.Norm's literals: each literal of the clause once, in their order. -/
namespace Go.Proofs.Ytfofabbnbmieoaa
open Go.RowKit

/-- In strictly ascending order. -/
def Asc (l : List Int) : Prop := l.Pairwise (fun a b => lessB a b = true)

theorem asc_ext : ∀ {l1 l2 : List Int}, Asc l1 → Asc l2 → (∀ x, x ∈ l1 ↔ x ∈ l2) → l1 = l2
  | [], [], _, _, _ => rfl
  | [], b :: l2, _, _, h => by have := (h b).2 (by simp); simp at this
  | a :: l1, [], _, _, h => by have := (h a).1 (by simp); simp at this
  | a :: l1, b :: l2, h1, h2, h => by
    have h1' := List.pairwise_cons.1 h1
    have h2' := List.pairwise_cons.1 h2
    have hab : a = b := by
      have ha := (h a).1 (by simp)
      have hb := (h b).2 (by simp)
      rcases List.mem_cons.1 ha with h0 | ha
      · exact h0
      · rcases List.mem_cons.1 hb with h0 | hb
        · exact h0.symm
        · have e1 := h1'.1 b hb
          have e2 := h2'.1 a ha
          rw [lessB_asymm e1] at e2; cases e2
    subst hab
    congr 1
    refine asc_ext h1'.2 h2'.2 fun x => ?_
    have hx := h x
    simp only [List.mem_cons] at hx
    constructor
    · intro hm
      rcases hx.1 (Or.inr hm) with h0 | h0
      · subst h0
        have := h1'.1 x hm
        rw [lessB_irrefl] at this; cases this
      · exact h0
    · intro hm
      rcases hx.2 (Or.inr hm) with h0 | h0
      · subst h0
        have := h2'.1 x hm
        rw [lessB_irrefl] at this; cases this
      · exact h0

theorem mem_mrg_iff {x : Int} : ∀ (l1 l2 : List Int), x ∈ mrg l1 l2 ↔ x ∈ l1 ∨ x ∈ l2 := by
  intro l1 l2
  refine ⟨mem_mrg l1 l2, ?_⟩
  induction l1, l2 using mrg.induct with
  | case1 l2 => rw [mrg_nil_left]; simp
  | case2 a l1 => rw [mrg_nil_right]; simp
  | case3 a l1 b l2 h ih => rw [mrg_cons, if_pos h]; simp only [List.mem_cons] at *; rintro ((h | h) | h) <;> simp_all
  | case4 a l1 b l2 h h2 ih => rw [mrg_cons, if_neg h, if_pos h2]; simp only [List.mem_cons] at *; rintro (h | (h | h)) <;> simp_all
  | case5 a l1 b l2 h h2 ih =>
    rw [mrg_cons, if_neg h, if_neg h2]
    have e : a = b := lessB_tri (by simpa using h) (by simpa using h2)
    subst e
    simp only [List.mem_cons] at *
    rintro ((h | h) | (h | h)) <;> simp_all

theorem asc_mrg : ∀ (l1 l2 : List Int), Asc l1 → Asc l2 → Asc (mrg l1 l2) := by
  intro l1 l2
  induction l1, l2 using mrg.induct with
  | case1 l2 => rw [mrg_nil_left]; exact fun _ h => h
  | case2 a l1 => rw [mrg_nil_right]; exact fun h _ => h
  | case3 a l1 b l2 h ih =>
    intro h1 h2
    have h1' := List.pairwise_cons.1 h1
    have h2' := List.pairwise_cons.1 h2
    rw [mrg_cons, if_pos h]
    refine List.pairwise_cons.2 ⟨fun x hx => ?_, ih h1'.2 h2⟩
    rcases (mem_mrg_iff _ _).1 hx with hx | hx
    · exact h1'.1 x hx
    · rcases List.mem_cons.1 hx with rfl | hx
      · exact h
      · exact lessB_trans h (h2'.1 x hx)
  | case4 a l1 b l2 h h2 ih =>
    intro h1 h2'
    have h1' := List.pairwise_cons.1 h1
    have h3 := List.pairwise_cons.1 h2'
    rw [mrg_cons, if_neg h, if_pos h2]
    refine List.pairwise_cons.2 ⟨fun x hx => ?_, ih h1 h3.2⟩
    rcases (mem_mrg_iff _ _).1 hx with hx | hx
    · rcases List.mem_cons.1 hx with rfl | hx
      · exact h2
      · exact lessB_trans h2 (h1'.1 x hx)
    · exact h3.1 x hx
  | case5 a l1 b l2 h h2 ih =>
    intro h1 h2'
    rw [mrg_cons, if_neg h, if_neg h2]
    exact ih (List.pairwise_cons.1 h1).2 h2'

theorem mem_msort_iff {x : Int} : ∀ (n : Nat) (xs : List Int), x ∈ msort n xs ↔ x ∈ xs := by
  intro n
  induction n with
  | zero => intro xs; exact Iff.rfl
  | succ n ih =>
    intro xs
    rw [msort]
    split
    · exact Iff.rfl
    · rw [mem_mrg_iff, ih, ih, ← List.mem_append, List.take_append_drop]

theorem asc_msort : ∀ (n : Nat) (xs : List Int), xs.length ≤ n → Asc (msort n xs) := by
  intro n
  induction n with
  | zero =>
    intro xs h
    have : xs = [] := List.eq_nil_of_length_eq_zero (by omega)
    subst this
    exact List.Pairwise.nil
  | succ n ih =>
    intro xs h
    rw [msort]
    split
    · match xs with
      | [] => exact List.Pairwise.nil
      | [x] => exact List.pairwise_singleton _ _
      | x :: y :: l => simp at *; omega
    · exact asc_mrg _ _ (ih _ (by simp; omega)) (ih _ (by simp; omega))

theorem asc_normL (xs : List Int) : Asc (normL xs) := by
  have h := asc_msort xs.length xs (Nat.le_refl _)
  unfold normL
  split
  · exact List.Pairwise.sublist (List.tail_sublist _) h
  · exact h

theorem mem_normL_iff {x : Int} {xs : List Int} : x ∈ normL xs ↔ x ∈ xs ∧ x ≠ 0 := by
  have h := asc_msort xs.length xs (Nat.le_refl _)
  have hm := fun x => @mem_msort_iff x xs.length xs
  unfold normL
  generalize msort xs.length xs = L at *
  cases L with
  | nil => simp at hm ⊢; simp [hm]
  | cons a l =>
    have hp := List.pairwise_cons.1 h
    have hnot : ∀ y ∈ l, y ≠ 0 := fun y hy e => by
      have := hp.1 y hy
      subst e
      simp [lessB] at this; omega
    by_cases ha : a = 0
    · subst ha
      simp only [List.head?_cons, List.tail_cons, if_true]
      rw [← hm, List.mem_cons]
      constructor
      · exact fun h => ⟨Or.inr h, hnot x h⟩
      · rintro ⟨h | h, hx⟩
        · exact (hx h).elim
        · exact h
    · simp only [List.head?_cons, Option.some.injEq, ha, if_false]
      rw [← hm]
      refine ⟨fun h => ⟨h, ?_⟩, fun h => h.1⟩
      rcases List.mem_cons.1 h with rfl | h
      · exact ha
      · exact hnot x h

theorem asc_get {l : List Int} (h : Asc l) {i j : Nat} {x y : Int} (hij : i < j) (hx : l[i]? = some x) (hy : l[j]? = some y) : lessB x y = true := by
  obtain ⟨hi, rfl⟩ := List.getElem?_eq_some_iff.1 hx
  obtain ⟨hj, rfl⟩ := List.getElem?_eq_some_iff.1 hy
  exact List.pairwise_iff_getElem.1 h i j hi hj hij

/-- Two neighbours are a literal and its negative exactly if some literal stands beside its negative. -/
theorem adjB_iff {l : List Int} (h : Asc l) (h0 : ∀ x ∈ l, x ≠ 0) : adjB l = true ↔ ∃ x ∈ l, -x ∈ l := by
  constructor
  · intro ha
    rw [adjB, List.any_eq_true] at ha
    obtain ⟨i, hi, hp⟩ := ha
    simp only [adjAt, Bool.and_eq_true, decide_eq_true_eq, beq_iff_eq] at hp
    have hi' : i < l.length := List.mem_range.1 hi
    have h1 : l[i]? = some l[i] := by simp [hi']
    have h2 : l[i - 1]? = some l[i - 1] := by simp
    have hl := asc_get h (show i - 1 < i by omega) h2 h1
    have e1 : l.getD i 0 = l[i] := by simp [hi']
    have e2 : l.getD (i - 1) 0 = l[i - 1] := by rw [List.getD_eq_getElem?_getD, h2]; rfl
    rw [e1, e2] at hp
    refine ⟨l[i], by simp, ?_⟩
    have : -l[i] = l[i - 1] := by
      have h3 := (lessB_iff _ _).1 hl
      omega
    rw [this]; simp
  · rintro ⟨x, hx, hnx⟩
    have hx0 := h0 x hx
    obtain ⟨i, hi, hi'⟩ := List.getElem_of_mem hx
    obtain ⟨j, hj, hj'⟩ := List.getElem_of_mem hnx
    have key : ∀ i j, (hi : i < l.length) → (hj : j < l.length) → l[i].natAbs = l[j].natAbs → i < j → j = i + 1 := by
      intro i j hi hj he hij
      rcases Nat.lt_or_ge (i + 1) j with hlt | hge
      · exfalso
        have a1 := asc_get h (show i < i + 1 by omega) (x := l[i]) (y := l[i + 1]) (by simp [hi]) (by simp)
        have a2 := asc_get h hlt (x := l[i + 1]) (y := l[j]) (by simp) (by simp [hj])
        rw [lessB_iff] at a1 a2
        omega
      · omega
    have hne : i ≠ j := by
      intro e; subst e; rw [hi'] at hj'; omega
    rcases Nat.lt_or_gt_of_ne hne with hlt | hlt
    · have := key i j hi hj (by rw [hi', hj']; omega) hlt
      subst this
      exact adjB_of (j := i) (x := -x) (y := x) (by simp [← hj', hj]) (by simp [← hi', hi]) (by simp)
    · have := key j i hj hi (by rw [hi', hj']; omega) hlt
      subst this
      exact adjB_of (j := j) (x := x) (y := -x) (by simp [← hi', hi]) (by simp [← hj', hj]) (by simp)

end Go.Proofs.Ytfofabbnbmieoaa

/- Plain facts for the law LitNormal: the clause in another order. -/
namespace Go.Proofs.Ytfofabbnbmieoaa
open Go.RowKit

end Go.Proofs.Ytfofabbnbmieoaa

/- Plain definitions: what weepholelaw02.Fit makes. -/
namespace Go.Proofs.Ytfofabbnbmieoaa
open Go.RowKit

/-- The number of variables. -/
def fitV (n : Int) : Int := 1 + n % 12

/-- A clause. -/
def fitC (V : Int) (c : List Int) : List Int := (c.map (fun x => x.tmod (V + 1))).filter (fun x => x != 0)

/-- The clauses. -/
def fitF (n : Int) (l : List (List Int)) : List (List Int) := l.map (fitC (fitV n))

/-- Whether they are few enough. -/
def fitB (l : List (List Int)) : Bool := decide (l.length ≤ 30) && !(l.any (fun c => decide (20 < c.length)))

theorem fitC_step_zero {V x : Int} {c : List Int} {k : Nat} (hx : c[k]? = some x) (h : x.tmod (V + 1) = 0) : fitC V (c.take (k + 1)) = fitC V (c.take k) := by
  simp [fitC, List.take_add_one, hx, h]

theorem fitC_step {V x : Int} {c : List Int} {k : Nat} (hx : c[k]? = some x) (h : x.tmod (V + 1) ≠ 0) : fitC V (c.take (k + 1)) = fitC V (c.take k) ++ [x.tmod (V + 1)] := by
  simp [fitC, List.take_add_one, hx, h]

theorem fitC_length (V : Int) (c : List Int) : (fitC V c).length ≤ c.length := by
  have := List.length_filter_le (fun x : Int => x != 0) (c.map (fun x => x.tmod (V + 1)))
  simpa [fitC] using this

theorem fitF_step {V : Int} {l : List (List Int)} {c : List Int} {k : Nat} (hc : l[k]? = some c) : (l.take (k + 1)).map (fitC V) = (l.take k).map (fitC V) ++ [fitC V c] := by
  simp [List.take_add_one, hc]

theorem fitV_range (n : Int) : 1 ≤ fitV n ∧ fitV n ≤ 12 := by unfold fitV; omega

theorem mem_fitC {V x : Int} {c : List Int} (hV : 1 ≤ V) (h : x ∈ fitC V c) : x ≠ 0 ∧ -V ≤ x ∧ x ≤ V := by
  simp only [fitC, List.mem_filter, List.mem_map, bne_iff_ne, ne_eq] at h
  obtain ⟨⟨y, _, rfl⟩, h0⟩ := h
  refine ⟨h0, ?_⟩
  have h1 := Int.natAbs_tmod y (V + 1)
  have h2 : y.natAbs % (V + 1).natAbs < (V + 1).natAbs := Nat.mod_lt _ (by omega)
  rw [← h1] at h2
  omega

theorem fitB_false_at {l : List (List Int)} {k : Nat} {c : List Int} (hc : l[k]? = some c) (h : (20 : Int) < c.length) : fitB l = false := by
  have : l.any (fun c => decide (20 < c.length)) = true := any_of_get hc (by simp; omega)
  simp [fitB, this]
theorem fitB_false_long {l : List (List Int)} (h : (30 : Int) < l.length) : fitB l = false := by
  have : ¬ l.length ≤ 30 := by omega
  simp [fitB, this]
theorem fitB_true {l : List (List Int)} {k : Nat} (h : (l.length : Int) ≤ 30) (hk : ¬ k < l.length) (hr : (l.take k).any (fun c => decide (20 < c.length)) = false) : fitB l = true := by
  rw [List.take_of_length_le (by omega)] at hr
  have : l.length ≤ 30 := by omega
  simp only [fitB, hr, this]; rfl

end Go.Proofs.Ytfofabbnbmieoaa

/- Plain facts for the law LitMeans: a clause holds exactly if what Norm makes of it does. -/
namespace Go.Proofs.Ytfofabbnbmieoaa
open Go.RowKit

theorem adjB_normL_iff {c : List Int} : adjB (normL c) = true ↔ ∃ x ∈ c, x ≠ 0 ∧ -x ∈ c := by
  rw [adjB_iff (asc_normL c) (fun x hx => (mem_normL_iff.1 hx).2)]
  constructor
  · rintro ⟨x, hx, hn⟩
    rw [mem_normL_iff] at hx hn
    exact ⟨x, hx.1, hx.2, hn.1⟩
  · rintro ⟨x, hx, h0, hn⟩
    exact ⟨x, mem_normL_iff.2 ⟨hx, h0⟩, mem_normL_iff.2 ⟨hn, by omega⟩⟩

end Go.Proofs.Ytfofabbnbmieoaa
