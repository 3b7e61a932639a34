/- The contract of solve's length. -/
import Derived.Deep.LoopGhost
import Derived.WalkMore
import Derived.Test.YtfofabbnbmieoaaQ5
import Derived.Test.YtfofabbnbmieoaaQ3
import Derived.Test.YtfofabbnbmieoaaQ7
import Derived.Test.YtfofabbnbmieoaaQ2
import Derived.Test.YtfofabbnbmieoaaQ0
import Derived.Test.YtfofabbnbmieoaaQ4

namespace Go.Proofs.Ytfofabbnbmieoaa.Ord
open Go.RowKit Go.Conc

set_option maxRecDepth 100000 in
set_option maxHeartbeats 4000000 in
theorem sol_length : ∀ (n : Nat), 1 ≤ n → n ≤ 2199023255552 → ∀ w : World, Calls Try.prog 56 #[.int .i64 n] w fun e w' => ∃ r : Nat, e = .returned (.int .i64 r) ∧ 1 ≤ r ∧ r ≤ n ∧ w = w' := fun n => by
  induction n using Nat.strongRecOn with
  | ind n ih =>
    intro h1 h2 w
    have HI := hid ih
    obtain ⟨Q, hQ⟩ : ∃ Q : Ending → World → Prop, (fun e w' => ∃ r : Nat, e = .returned (.int .i64 r) ∧ 1 ≤ r ∧ r ≤ n ∧ w = w') = Q := ⟨_, rfl⟩
    have HQ : Hid (∀ (r : Nat), 1 ≤ r → r ≤ n → Q (.returned (.int .i64 r)) w) := hid fun r h1 h2 => by rw [← hQ]; exact ⟨r, rfl, h1, h2, rfl⟩
    rw [hQ]
    clear ih hQ
    go_enter Try.func56, Try.ntmps56
    go_wp2_with fail
    go_loopw [3] (fun s3 wl => ∃ k : Nat, s3 = .int .i64 ((k + 1 : Nat) : Int) ∧ Hid (2 ^ k ≤ n) ∧ wl = w) (fun s3 _ => (64 - intOf s3).toNat)
    case atStart => exact ⟨0, rfl, hid (by simpa using h1), rfl⟩
    case round =>
      obtain ⟨k, rfl, HK, rfl⟩ := hrel
      have hk : k < 42 := Nat.lt_of_not_le fun e => by
        have := Nat.pow_le_pow_right (n := 2) (by decide) e
        have := HK.out
        omega
      obtain ⟨P, hP⟩ : ∃ P : Nat, 2 ^ k = P := ⟨_, rfl⟩
      have hP2 : 2 ^ (k + 1) = 2 * P := by rw [Nat.pow_succ, hP]; omega
      have hPn : P ≤ n := by rw [← hP]; exact HK.out
      have hP1 : 1 ≤ P := by rw [← hP]; exact Nat.one_le_two_pow
      have hc1 : ((2 : Int) ^ (k + 1)) = ((2 * P : Nat) : Int) := by rw [← hP2]; simp
      have hc0 : ((2 : Int) ^ k) = (P : Int) := by rw [← hP]; simp
      have hs1 : Op.shift .shl .i64 1 .i64 ((k : Int) + 1) = pure (.int .i64 (2 * P : Nat)) := by
        have hy0 : (0 : Int) ≤ (k : Int) + 1 := by omega
        have hy1 : (k : Int) + 1 ≤ IntKind.i64.bits := by simp [IntKind.bits]; omega
        rw [shift_shl .i64 .i64 1 ((k : Int) + 1) hy0 hy1, show ((k : Int) + 1).toNat = k + 1 by omega, Int.one_mul, hc1, IntWalk.i64_in _ (by omega)]
      have hs0 : Op.shift .shl .i64 1 .i64 (k : Int) = pure (.int .i64 (P : Nat)) := by
        have hy0 : (0 : Int) ≤ (k : Int) := by omega
        have hy1 : (k : Int) ≤ IntKind.i64.bits := by simp [IntKind.bits]; omega
        rw [shift_shl .i64 .i64 1 (k : Int) hy0 hy1, show ((k : Int)).toNat = k by omega, Int.one_mul, hc0, IntWalk.i64_in _ (by omega)]
      have hw1 : IntKind.i64.wrap (((k + 1 : Nat) : Int) - 1) = (k : Int) := (IntWalk.i64_in _ (by omega)).trans (by omega)
      have hw2 : IntKind.i64.wrap (((2 * P : Nat) : Int) - 1) = ((2 * P - 1 : Nat) : Int) := (IntWalk.i64_in _ (by omega)).trans (by omega)
      have e1 : ((k + 1 : Nat) : Int) = (k : Int) + 1 := by omega
      rw [e1] at hw1
      rw [e1]
      have HP := hid (And.intro hP hP2)
      have HB := hid (And.intro h1 (And.intro h2 (And.intro hPn (And.intro hP1 hk))))
      clear hP hP2
      by_cases q1 : n = 2 * P - 1
      · have hq1 : ((n : Int) == 2 * (P : Int) - 1) = true := beq_iff_eq.2 (by omega)
        go_wp2_with fail
        exact HQ.out P HB.out.2.2.2.1 HB.out.2.2.1
      · have hq1 : ((n : Int) == 2 * (P : Int) - 1) = false := beq_false_of_ne (by omega)
        by_cases q2 : n < 2 * P - 1
        · have hq2 : (n : Int) < 2 * (P : Int) - 1 := by omega
          have hP3 : 2 ≤ P := by omega
          have HR := hid (HI.out (n - P + 1) (by omega) (by omega) (by omega) wr)
          go_wp2_with fail
          rw [show (n : Int) - (P : Int) + 1 = ((n - P + 1 : Nat) : Int) by omega]
          refine HR.out.mono ?_
          rintro e w' ⟨r, rfl, hr1, hr2, rfl⟩
          have HE := hid (HQ.out r hr1 (by omega))
          go_wp2_with fail
          exact HE.out
        · have hq2 : ¬ (n : Int) < 2 * (P : Int) - 1 := by omega
          have HK2 : Hid (2 ^ (k + 1) ≤ n) := hid (by rw [HP.out.2]; omega)
          have hwk : IntKind.i64.wrap ((k : Int) + 1 + 1) = (k : Int) + 1 + 1 := IntWalk.i64_in _ (by omega)
          go_wp2_with fail
          go_roundw
          case rel => exact ⟨k + 1, by simp, HK2, by trivial⟩
          case measure => simp [intOf]; omega

end Go.Proofs.Ytfofabbnbmieoaa.Ord

/- What all pops: plain facts. -/
namespace Go.Proofs.Ytfofabbnbmieoaa.Ord

theorem popIn_length (A : List Int) (In : List Bool) : (popIn A In).length = In.length := by unfold popIn; split <;> simp

theorem popIn_count {A : List Int} {In : List Bool} (h : popV A In ≠ 0) : (popIn A In).countP id + 1 = In.countP id := by
  obtain ⟨h1, h2, h3, -⟩ := popV_spec h
  obtain ⟨j, hj⟩ : ∃ j, (popV A In - 1).toNat = j := ⟨_, rfl⟩
  unfold popIn
  rw [if_neg h, hj]
  rw [hj] at h3
  obtain ⟨hl, hg⟩ := List.getElem?_eq_some_iff.1 h3
  rw [List.countP_set hl]
  have : 0 < In.countP id := List.countP_pos_iff.2 ⟨_, List.getElem_mem hl, by simp [hg]⟩
  simp [hg]
  omega

theorem all_false {In : List Bool} (h : ∀ i : Nat, In.getD i false = false) : In = List.replicate In.length false := by
  refine List.ext_getElem (by simp) fun i h1 h2 => ?_
  have := h i
  simp only [List.getD_eq_getElem?_getD, List.getElem?_eq_getElem h1, Option.getD_some] at this
  simp [this]

theorem popV_zero {A : List Int} {In : List Bool} (h : popV A In = 0) : In = List.replicate In.length false := by
  refine all_false fun i => ?_
  unfold popV at h
  rcases popTo_spec A In In.length with ⟨_, h2⟩ | ⟨h2, _⟩
  · by_cases hi : i < In.length
    · exact h2 i hi
    · simp [List.getD_eq_getElem?_getD, List.getElem?_eq_none (Nat.le_of_not_lt hi)]
  · omega

theorem popV_zero_count {A : List Int} {In : List Bool} (h : popV A In = 0) : In.countP id = 0 := by
  rw [popV_zero h, List.countP_replicate]; rfl

end Go.Proofs.Ytfofabbnbmieoaa.Ord

/- The contract of solve's next. -/
namespace Go.Proofs.Ytfofabbnbmieoaa.Ord
open Go.RowKit Go.Conc

attribute [local go_sem ↓] Go.wp_at_zero Go.wp_at_succ
attribute [local go_sem ↓ high] app_mark

section
variable {tag : Nat → KT} {B : Nat} {w0 w : World} {a : SA} {v : SV} {d : SD}

theorem SM.popC (h : SM tag B w0 w a v d) : Calls Try.prog 74 #[.pointer (some ⟨a.bh, 0, none⟩)] w fun x w' => x = .returned (.tuple #[.int .i64 (popV d.A d.In), .int .i64 (popE d.A d.In)]) ∧ SM (tgN tag w .hep) B w0 w' a v { d with In := popIn d.A d.In } ∧ SR tag (tgN tag w .hep) w w' :=
  (heap_Pop a.bh _ d.A d.In _ _ w rfl rfl (h.co .hep).1).mono fun _ _ ⟨h1, h2, h3⟩ =>
    ⟨h1, h.heapUp h2 h3 (fun _ hk => .inl hk) (popIn_length _ _)⟩

theorem SM.lenC (h : SM tag B w0 w a v d) : Calls Try.prog 73 #[.pointer (some ⟨a.bh, 0, none⟩)] w fun e w' => e = .returned (.int .i64 ((d.In.countP id : Nat) : Int)) ∧ w = w' :=
  heap_Len a.bh _ d.A d.In _ w rfl (h.co .hep).1

end

/-- The variables without a value are in. -/
def HpIn (n : Nat) (K : List Int) (In : List Bool) : Prop := ∀ x, LitOk n x → x ∉ K → -x ∉ K → In[(vrL x).toNat - 1]? = some true

theorem HpIn.pop {n : Nat} {K : List Int} {A : List Int} {In : List Bool} (h : HpIn n K In) {v0 : Int} (hv : popV A In = v0) (hv0 : v0 ≠ 0) {x : Int} (hx : LitOk n x) (h1 : x ∉ K) (h2 : -x ∉ K) (hne : (x.natAbs : Int) ≠ v0) : (popIn A In)[(vrL x).toNat - 1]? = some true := by
  have hr := popV_range A In
  have hxr := abs_range hx
  unfold popIn
  rw [hv, if_neg hv0, List.getElem?_set_ne (by rw [vrL_abs]; omega)]
  exact h x hx h1 h2

set_option maxRecDepth 100000 in
set_option maxHeartbeats 4000000 in
theorem sol_next (tag : Nat → KT) (B : Nat) (w0 w : World) (a : SA) (v : SV) (d : SD) (n : Nat) (Rz : List Int) (bs : List Nat) (h : SM tag B w0 w a v d) (hn : a.n1 = n + 1) (hn1 : n ≤ 1048576) (hk : LK n d Rz bs) :
    Calls Try.prog 57 #[.pointer (some ⟨a.bx, 0, none⟩)] w fun e w' => ∃ (v0 : Nat) (tag' : Nat → KT) (In' : List Bool), e = .returned (.int .i64 v0) ∧ SM tag' B w0 w' a v { d with In := In' } ∧ SR tag tag' w w' ∧ ((v0 = 0 ∧ ∀ x, LitOk n x → x ∈ d.K ∨ -x ∈ d.K) ∨ (1 ≤ v0 ∧ v0 ≤ n ∧ (v0 : Int) ∉ d.K ∧ -(v0 : Int) ∉ d.K ∧ ∀ x, LitOk n x → x ∉ d.K → -x ∉ d.K → x.natAbs ≠ v0 → In'[(vrL x).toNat - 1]? = some true)) := by
  obtain ⟨Q, hQ⟩ : ∃ Q : Ending → World → Prop, (fun e w' => ∃ (v0 : Nat) (tag' : Nat → KT) (In' : List Bool), e = .returned (.int .i64 v0) ∧ SM tag' B w0 w' a v { d with In := In' } ∧ SR tag tag' w w' ∧ ((v0 = 0 ∧ ∀ x, LitOk n x → x ∈ d.K ∨ -x ∈ d.K) ∨ (1 ≤ v0 ∧ v0 ≤ n ∧ (v0 : Int) ∉ d.K ∧ -(v0 : Int) ∉ d.K ∧ ∀ x, LitOk n x → x ∉ d.K → -x ∉ d.K → x.natAbs ≠ v0 → In'[(vrL x).toNat - 1]? = some true))) = Q := ⟨_, rfl⟩
  have HQ : Hid (∀ (v0 : Nat) (w' : World) (tag' : Nat → KT) (In' : List Bool), SM tag' B w0 w' a v { d with In := In' } → SR tag tag' w w' → ((v0 = 0 ∧ ∀ x, LitOk n x → x ∈ d.K ∨ -x ∈ d.K) ∨ (1 ≤ v0 ∧ v0 ≤ n ∧ (v0 : Int) ∉ d.K ∧ -(v0 : Int) ∉ d.K ∧ ∀ x, LitOk n x → x ∉ d.K → -x ∉ d.K → x.natAbs ≠ v0 → In'[(vrL x).toNat - 1]? = some true)) → Q (.returned (.int .i64 v0)) w') := hid fun v0 w' tag' In' h1 h2 h3 => by rw [← hQ]; exact ⟨v0, tag', In', rfl, h1, h2, h3⟩
  rw [hQ]
  clear hQ
  have hil : d.In.length = n := by have := (h.co .hep).2; omega
  have HN := hid (And.intro hn (And.intro hn1 hil))
  have HH := hid h
  have HKK := hid hk
  clear h hn hn1 hk hil
  go_enter Try.func57, Try.ntmps57
  go_wp2_with fail
  go_loopg [] (d.In.countP id) (fun gk wr => ∃ (tag' : Nat → KT) (In' : List Bool), Hid (SM tag' B w0 wr a v { d with In := In' } ∧ SR tag tag' w wr ∧ HpIn n d.K In' ∧ In'.countP id = gk ∧ In'.length = n))
  case atStart => exact ⟨tag, d.In, hid ⟨HH.out, SR.refl _ _, HKK.out.hp, rfl, HN.out.2.2⟩⟩
  case round =>
    clear HH
    obtain ⟨tag1, In1, HS⟩ := hrel
    obtain ⟨hM, hS, hI, hc, hl⟩ := HS.out
    have b0 : wr.cell? ⟨a.bx, 0, none⟩ = some (.pointer (some ⟨a.bh, 0, none⟩)) := hM.cell 0
    have HL := hid hM.lenC
    have HP := hid hM.popC
    obtain ⟨cn, hcn⟩ : ∃ t, In1.countP id = t := ⟨_, rfl⟩
    have HL : Hid (Calls Try.prog 73 #[.pointer (some ⟨a.bh, 0, none⟩)] wr fun e w' => e = .returned (.int .i64 (cn : Int)) ∧ wr = w') := hid (by rw [← hcn]; exact HL.out)
    have HCN := hid hcn
    clear hM hS hI hc hl hcn
    go_wp2_with fail
    refine HL.out.mono ?_
    rintro e w' ⟨rfl, rfl⟩
    by_cases hz : cn = 0
    · have hz2 : ¬ (0 : Int) < cn := by omega
      have HE := hid (HQ.out 0 wr tag1 In1 HS.out.1 HS.out.2.1 (.inl ⟨rfl, fun x hx => Classical.byContradiction fun hno => by
        rw [not_or] at hno
        have h1 := HS.out.2.2.1 x hx hno.1 hno.2
        have h2 := List.countP_pos_iff (p := id) |>.2 ⟨true, List.mem_of_getElem? h1, rfl⟩
        rw [HCN.out] at h2
        omega⟩))
      clear hz
      go_wp2_with fail
      exact HE.out
    · have hz2 : (0 : Int) < cn := by omega
      have hpv : popV d.A In1 ≠ 0 := fun e => by
        have := popV_zero_count e
        rw [HCN.out] at this
        exact hz this
      have hsp := popV_spec hpv
      obtain ⟨v0, hv0⟩ : ∃ t : Nat, popV d.A In1 = t := ⟨(popV d.A In1).toNat, by omega⟩
      have hpe : popE d.A In1 = 0 := by unfold popE; rw [if_neg hpv]
      have HP : Hid (Calls Try.prog 74 #[.pointer (some ⟨a.bh, 0, none⟩)] wr fun x w' => x = .returned (.tuple #[.int .i64 v0, .int .i64 0]) ∧ SM (tgN tag1 wr .hep) B w0 w' a v { d with In := popIn d.A In1 } ∧ SR tag1 (tgN tag1 wr .hep) wr w') := hid (by rw [← hv0, ← hpe]; exact HP.out)
      have HV := hid (And.intro hv0 (And.intro hpv (And.intro hsp.1 hsp.2.1)))
      clear hz hpv hsp hv0 hpe
      go_wp2_with fail
      refine HP.out.mono ?_
      rintro e w2 ⟨rfl, hM2, hS2⟩
      have hv1 : 1 ≤ v0 := by have := HV.out.1; have := HV.out.2.2.1; omega
      have hvn : v0 ≤ n := by have := HV.out.1; have := HV.out.2.2.2; have := HS.out.2.2.2.2; omega
      have b3 : w2.cell? ⟨a.bx, 3, none⟩ = some (.slice (some ⟨a.bv, 0, none⟩) a.n1 a.n1) := hM2.cell 3
      have hvi : (v0 : Int) < a.n1 := by have := HN.out.1; omega
      have hv00 : (0 : Int) ≤ v0 := by omega
      have cv := hM2.valc (i := v0) (by omega)
      have hvo : LitOk n (v0 : Int) := by unfold LitOk; omega
      have hhv := HKK.out.va (v0 : Int) hvo
      have hhv2 : hvL d.va (v0 : Int) = (d.va[v0]?).getD 0 := by unfold hvL; rw [if_neg (by omega)]; rfl
      obtain ⟨y, hy⟩ : ∃ y, (d.va[v0]?).getD 0 = y := ⟨_, rfl⟩
      have hyy : (({ d with In := popIn d.A In1 } : SD).va[v0]?).getD 0 = y := hy
      rw [hyy] at cv
      rw [hhv2, hy] at hhv
      have HM2 := hid (And.intro hM2 (HS.out.2.1.trans hS2))
      have HHV := hid hhv
      have HB := hid (And.intro hv1 (And.intro hvn hvo))
      clear hM2 hS2 hv1 hvn hvo hhv hhv2 hy hyy HP HL b0
      by_cases hy0 : y = 0
      · have hye : (y == 0) = true := beq_iff_eq.2 hy0
        have hun : (v0 : Int) ∉ d.K ∧ -(v0 : Int) ∉ d.K := by
          have h1 := HHV.out
          rw [hy0] at h1
          split at h1
          · cases h1
          · split at h1
            · cases h1
            · exact ⟨‹_›, ‹_›⟩
        have HE := hid (HQ.out v0 w2 _ _ HM2.out.1 HM2.out.2 (.inr ⟨HB.out.1, HB.out.2.1, hun.1, hun.2, fun x hx h1 h2 hne => HS.out.2.2.1.pop HV.out.1 (by have := HB.out.1; omega) hx h1 h2 (by omega)⟩))
        clear hy0 hun
        go_wp2_with fail
        exact HE.out
      · have hye : (y == 0) = false := beq_false_of_ne hy0
        have has : ∀ x, LitOk n x → x ∉ d.K → -x ∉ d.K → (x.natAbs : Int) ≠ v0 := fun x hx h1 h2 e => by
          have h3 := HHV.out
          have h4 : x = v0 ∨ x = -(v0 : Int) := by omega
          rw [if_neg, if_neg] at h3
          · exact hy0 h3
          · rcases h4 with h4 | h4
            · rw [← h4]; exact h2
            · rw [← h4]; exact h1
          · rcases h4 with h4 | h4
            · rw [← h4]; exact h1
            · intro m; exact h2 (by rw [h4, Int.neg_neg]; exact m)
        have HI2 : Hid (HpIn n d.K (popIn d.A In1)) := hid fun x hx h1 h2 => HS.out.2.2.1.pop HV.out.1 (by have := HB.out.1; omega) hx h1 h2 (has x hx h1 h2)
        have hct := popIn_count HV.out.2.1
        have HCT := hid hct
        clear hy0 has hct
        go_wp2_with fail
        go_roundg ((popIn d.A In1).countP id)
        case measure => have := HCT.out; have := HS.out.2.2.2.1; omega
        case rel => exact ⟨_, _, hid ⟨HM2.out.1, HM2.out.2, HI2.out, rfl, by rw [popIn_length]; exact HS.out.2.2.2.2⟩⟩

end Go.Proofs.Ytfofabbnbmieoaa.Ord

/- The contract of solve.Solve where it refuses. -/
namespace Go.Proofs.Ytfofabbnbmieoaa.Ord
open Go.RowKit Go.Conc

/-- The result cell at first. -/
def rbox : Obj := .cells #[.int .u8 0, .slice none 0 0, .slice none 0 0] 51 (0, 0)

end Go.Proofs.Ytfofabbnbmieoaa.Ord

/- solve's state: a level more, a proof's clause more; how it begins. -/
namespace Go.Proofs.Ytfofabbnbmieoaa.Ord
open Go.RowKit Go.Conc

section
variable {tag : Nat → KT} {B : Nat} {w0 w w1 w6 : World} {a : SA} {v : SV} {d : SD} {t : KT}

/-- A level more. -/
theorem SM.pushL (h : SM tag B w0 w a v d) {u6 : Value} {x : Int} (h1 : Below w.heap.size w w1) (ho : w6.ownsRow B 94 1 u6 (d.ls.length + 1) (ints d.ls ++ [.int .i64 x])) (hg : w1.grownBy w6 v.vd.ownBlock) (ha : u6.ownBlock = v.vd.ownBlock ∨ u6.ownBlock = some w1.heap.size) :
    SM (tgN tag w .lvs) B w0 (w6.setCell ⟨a.bx, 10, none⟩ u6) a { v with vd := u6 } { d with ls := d.ls ++ [x] } ∧ SR tag (tgN tag w .lvs) w (w6.setCell ⟨a.bx, 10, none⟩ u6) ∧ w6.heap[a.bx]? = some (.cells (scells a v d).toArray 83 (0, 0)) := by
  have hk : (ints d.ls).length = d.ls.length := by simp [ints]
  obtain ⟨hT, hG⟩ := Gr.push (h.co .lvs) h1 (by rw [hk]; exact ho) hg ha
  have hs : Fx .sta (tgN tag w .lvs) w6 a.bx (scells a v d) 83 := Fx.touch (h.co .sta) hT (by rw [(h.co .sta).2]; nofun) fun g hg => tgN_old hg
  have hsb : tag a.bx = .sta := (h.co .sta).2
  have hT2 : Touch (fun k => tag k = .lvs ∨ tag k = .sta) w (w6.setCell ⟨a.bx, 10, none⟩ u6) := (hT.mono fun k _ e => .inl e).setCell (.inr hsb) _
  refine ⟨h.upd (fun s => s = .lvs ∨ s = .sta) (by rintro (e | e) <;> cases e) hT2 (fun g hg => tgN_old hg) (fun k hk _ => Nat.le_trans h.le hk) (fun s hs hc => by cases s <;> first | exact hc | exact absurd (.inl rfl) hs | exact absurd (.inr rfl) hs) ?_, ⟨hT2.mono fun k _ e => by rcases e with e | e <;> (rw [e]; nofun), fun g hg e => (tgN_old hg).trans e⟩, hs.1⟩
  rintro s (rfl | rfl)
  · show Gr .lvs _ B _ 94 u6 (ints (d.ls ++ [x]))
    rw [ints_append]
    refine ⟨?_, hG.2⟩
    exact own_setO hG.1 hs.1 (by decide) _ _
  · exact hs.set (o := 10) u6

/-- A proof's clause more: its row becomes the state's. -/
theorem SM.pushP (h : SM tag B w0 w a v d) {g o cap : Nat} {c : List Int} {u6 : Value} (hc : Ro .oth tag w (.slice (some ⟨g, o, none⟩) c.length cap) c) (hgB : B ≤ g) (h1 : Below w.heap.size w w1) (ho : w6.ownsRow B 22 1 u6 (d.P.length + 1) (v.ps ++ [.slice (some ⟨g, o, none⟩) c.length cap])) (hg : w1.grownBy w6 v.vf.ownBlock) (ha : u6.ownBlock = v.vf.ownBlock ∨ u6.ownBlock = some w1.heap.size) :
    ∃ tag', SM tag' B w0 (w6.setCell ⟨a.bx, 11, none⟩ u6) a { v with vf := u6, ps := v.ps ++ [.slice (some ⟨g, o, none⟩) c.length cap] } { d with P := d.P ++ [c] } ∧ Touch (fun k => tag k ≠ .oth) w (w6.setCell ⟨a.bx, 11, none⟩ u6) ∧ (∀ k, k < w.heap.size → k ≠ g → tag k = .oth → tag' k = .oth) ∧ w6.heap[a.bx]? = some (.cells (scells a v d).toArray 83 (0, 0)) := by
  obtain ⟨g', o', cap', cur, e1, hcap, htg, hblk, hval⟩ := hc
  injection e1 with e1 e2 e3
  injection e1 with e1
  injection e1 with e1 e4
  subst e1 e3 e4
  have hgl := (Array.getElem?_eq_some_iff.1 hblk).1
  obtain ⟨tg, htgd⟩ : ∃ tg : Nat → KT, (fun k => if k = g then KT.prc else tag k) = tg := ⟨_, rfl⟩
  have ht1 : ∀ k, k ≠ g → tg k = tag k := fun k hk => by rw [← htgd]; exact if_neg hk
  have ht2 : tg g = .prc := by rw [← htgd]; exact if_pos rfl
  have hm : SM tg B w0 w a v d := h.cong (fun k _ hk => ht1 k fun e => hk (by rw [e]; exact htg)) fun k hk => by
    by_cases q : k = g
    · rw [q]; exact hgB
    · exact h.tB k (by rw [← ht1 k q]; exact hk)
  have hul := (h.co .prf).2
  obtain ⟨hT, hG⟩ := Gr.push (hm.co .prf).1 h1 (by rw [hul]; exact ho) hg ha
  have hs : Fx .sta (tgN tg w .prf) w6 a.bx (scells a v d) 83 := Fx.touch (hm.co .sta) hT (by rw [(hm.co .sta).2]; nofun) fun g hg => tgN_old hg
  have hsb : tg a.bx = .sta := (hm.co .sta).2
  have hT2 : Touch (fun k => tg k = .prf ∨ tg k = .sta) w (w6.setCell ⟨a.bx, 11, none⟩ u6) := (hT.mono fun k _ e => .inl e).setCell (.inr hsb) _
  have hT3 : Touch (fun k => (fun s => s = KT.prf ∨ s = .sta ∨ s = .prc) (tg k)) w (w6.setCell ⟨a.bx, 11, none⟩ u6) := hT2.mono fun k _ e => e.elim .inl fun e => .inr (.inl e)
  have hprc : ∀ (k : Nat), k < w.heap.size → tg k = .prc → (w6.setCell ⟨a.bx, 11, none⟩ u6).heap[k]? = w.heap[k]? ∧ tgN tg w .prf k = tg k := fun k hk e => ⟨hT2.block k hk (by rw [e]; rintro (e | e) <;> cases e), tgN_old hk⟩
  refine ⟨tgN tg w .prf, hm.upd (fun s => s = .prf ∨ s = .sta ∨ s = .prc) (by rintro (e | e | e) <;> cases e) hT3 (fun g hg => tgN_old hg) (fun k hk _ => Nat.le_trans h.le hk) (fun s hs hc => by cases s <;> first | exact hc | exact absurd (.inl rfl) hs | exact absurd (.inr (.inl rfl)) hs | exact absurd (.inr (.inr rfl)) hs) ?_, hT2.mono fun k _ e => ?_, fun k hk hkg e => (tgN_old hk).trans ((ht1 k hkg).trans e), hs.1⟩
  · rintro s (rfl | rfl | rfl)
    · exact ⟨⟨own_setO hG.1 hs.1 (by decide) _ _, hG.2⟩, by simp [hul]⟩
    · exact hs.set (o := 11) u6
    · intro i c' hc'
      have hc' : (d.P ++ [c])[i]? = some c' := hc'
      by_cases q : i < d.P.length
      · rw [List.getElem?_append_left q] at hc'
        obtain ⟨u', q1, q2⟩ := hm.co .prc i c' hc'
        exact ⟨u', by show (v.ps ++ _)[i]? = some u'; rw [List.getElem?_append_left (by omega)]; exact q1, q2.keep hprc⟩
      · rw [List.getElem?_append_right (by omega)] at hc'
        have h2 := (List.getElem?_eq_some_iff.1 hc').1
        simp at h2
        have h3 : i = d.P.length := by omega
        subst h3
        simp at hc'
        subst hc'
        refine ⟨.slice (some ⟨g, o, none⟩) c.length cap, by show (v.ps ++ _)[d.P.length]? = _; rw [List.getElem?_append_right (by omega)]; simp [hul], g, o, cap, cur, rfl, hcap, (tgN_old hgl).trans ht2, ?_, hval⟩
        exact (hT2.block g hgl (by rw [ht2]; rintro (e | e) <;> cases e)).trans hblk
  · rcases e with e | e
    · by_cases q : k = g
      · rw [q, ht2] at e; cases e
      · rw [← ht1 k q, e]; nofun
    · by_cases q : k = g
      · rw [q, ht2] at e; cases e
      · rw [← ht1 k q, e]; nofun

/-- A row of the call's own as a row of ints. -/
theorem OutR.ro {b0 : Nat} {u : Value} {xs : List Int} (h : OutR tag b0 w u xs) (hne : 0 < xs.length) : ∃ g c, u = .slice (some ⟨g, 0, none⟩) xs.length c ∧ Ro .oth tag w u xs ∧ b0 ≤ g := by
  obtain ⟨g, c, cur, rfl, h1, h2, h3, h4, h5⟩ := h.shape hne
  exact ⟨g, c, rfl, ⟨g, 0, c, cur, rfl, h1, h3, h4, fun j x hj => by rw [Nat.zero_add]; exact h5 j x hj⟩, h2⟩

end

/-! ### How the state begins -/

/-- The state's values at first. -/
def v0S (n : Nat) : SV := { vc := .slice none 0 0, us := [], ws := List.replicate (2 * (n + 1)) (.slice none 0 0), vt := .slice none 0 0, vd := .slice none 0 0, vf := .slice none 0 0, ps := [] }
def d0S (n : Nat) : SD := { C := [], Wt := List.replicate (2 * (n + 1)) [], va := List.replicate (n + 1) 0, ph := List.replicate (n + 1) 0, lv := List.replicate (n + 1) 0, re := List.replicate (n + 1) 0, se := List.replicate (n + 1) false, K := [], dn := 0, ls := [], P := [], bp := 16, A := List.replicate (n + 1) 0, In := List.replicate n true }

open Classical in
/-- What the blocks are for, at first. -/
noncomputable def tag0S (S : Nat → Prop) (a : SA) : Nat → KT := fun k => if k = a.bx then .sta else if k = a.bw then .wtb else if k = a.bv then .val else if k = a.bp then .pha else if k = a.bl then .lev else if k = a.br then .rea else if k = a.bs then .see else if S k then .hep else .oth

theorem gr_nil (t : KT) (tag : Nat → KT) (B : Nat) (w : World) (e : TypeId) : Gr t tag B w e (.slice none 0 0) [] := ⟨World.ownsRow_nil _ _ _ _, nofun⟩

theorem sm_init {w2 w3 w5 : World} {n bh bx g1 g2 g3 g4 g5 g6 : Nat} {S : Nat → Prop} (hH : Heap w5 bh S (List.replicate (n + 1) 0) (List.replicate n true)) (hS : ∀ k, S k → w2.heap.size ≤ k ∧ k < w3.heap.size) (hb : Below w2.heap.size w2 w5) (hs3 : w2.heap.size ≤ w3.heap.size)
    (hnd : [g1, g2, g3, g4, g5, g6].Nodup) (hg : ∀ g ∈ [g1, g2, g3, g4, g5, g6], w3.heap.size ≤ g ∧ g < bx)
    (b1 : w5.heap[g1]? = some (.cells (madeCells #[.slice none 0 0] (2 * (n + 1))) 22 (0, 0))) (b2 : w5.heap[g2]? = some (.cells (madeCells #[.int .i8 0] (n + 1)) 74 (0, 0))) (b3 : w5.heap[g3]? = some (.cells (madeCells #[.int .i8 0] (n + 1)) 74 (0, 0))) (b4 : w5.heap[g4]? = some (.cells (madeCells #[.int .i64 0] (n + 1)) 3 (0, 0))) (b5 : w5.heap[g5]? = some (.cells (madeCells #[.int .i64 0] (n + 1)) 3 (0, 0))) (b6 : w5.heap[g6]? = some (.cells (madeCells #[.bool false] (n + 1)) 4 (0, 0)))
    (bb : w5.heap[bx]? = some (.cells (scells ⟨bx, bh, g1, g2, g3, g4, g5, g6, n + 1⟩ (v0S n) (d0S n)).toArray 83 (0, 0))) :
    SM (tag0S S ⟨bx, bh, g1, g2, g3, g4, g5, g6, n + 1⟩) w2.heap.size w2 w5 ⟨bx, bh, g1, g2, g3, g4, g5, g6, n + 1⟩ (v0S n) (d0S n) ∧ ∀ k, k < w2.heap.size → tag0S S ⟨bx, bh, g1, g2, g3, g4, g5, g6, n + 1⟩ k = .oth := by
  obtain ⟨tag, htag⟩ : ∃ tag, tag0S S ⟨bx, bh, g1, g2, g3, g4, g5, g6, n + 1⟩ = tag := ⟨_, rfl⟩
  have hgm := fun g h => hg g h
  have k1 := hg g1 (by simp)
  have k2 := hg g2 (by simp)
  have k3 := hg g3 (by simp)
  have k4 := hg g4 (by simp)
  have k5 := hg g5 (by simp)
  have k6 := hg g6 (by simp)
  simp only [List.nodup_cons, List.mem_cons, List.not_mem_nil, or_false, not_or, not_false_eq_true, List.nodup_nil, and_true] at hnd
  obtain ⟨⟨n12, n13, n14, n15, n16⟩, ⟨n23, n24, n25, n26⟩, ⟨n34, n35, n36⟩, ⟨n45, n46⟩, n56⟩ := hnd
  have tx : tag bx = .sta := by rw [← htag]; exact if_pos rfl
  have t1 : tag g1 = .wtb := by rw [← htag]; unfold tag0S; rw [if_neg (by show ¬ g1 = bx; omega), if_pos rfl]
  have t2 : tag g2 = .val := by rw [← htag]; unfold tag0S; rw [if_neg (by show ¬ g2 = bx; omega), if_neg (fun e => n12 e.symm), if_pos rfl]
  have t3 : tag g3 = .pha := by rw [← htag]; unfold tag0S; rw [if_neg (by show ¬ g3 = bx; omega), if_neg (fun e => n13 e.symm), if_neg (fun e => n23 e.symm), if_pos rfl]
  have t4 : tag g4 = .lev := by rw [← htag]; unfold tag0S; rw [if_neg (by show ¬ g4 = bx; omega), if_neg (fun e => n14 e.symm), if_neg (fun e => n24 e.symm), if_neg (fun e => n34 e.symm), if_pos rfl]
  have t5 : tag g5 = .rea := by rw [← htag]; unfold tag0S; rw [if_neg (by show ¬ g5 = bx; omega), if_neg (fun e => n15 e.symm), if_neg (fun e => n25 e.symm), if_neg (fun e => n35 e.symm), if_neg (fun e => n45 e.symm), if_pos rfl]
  have t6 : tag g6 = .see := by rw [← htag]; unfold tag0S; rw [if_neg (by show ¬ g6 = bx; omega), if_neg (fun e => n16 e.symm), if_neg (fun e => n26 e.symm), if_neg (fun e => n36 e.symm), if_neg (fun e => n46 e.symm), if_neg (fun e => n56 e.symm), if_pos rfl]
  have tS : ∀ k, S k → tag k = .hep := fun k hk => by
    have := hS k hk
    rw [← htag]; unfold tag0S
    rw [if_neg (by show ¬ k = bx; omega), if_neg (by show ¬ k = g1; omega), if_neg (by show ¬ k = g2; omega), if_neg (by show ¬ k = g3; omega), if_neg (by show ¬ k = g4; omega), if_neg (by show ¬ k = g5; omega), if_neg (by show ¬ k = g6; omega), if_pos hk]
  have tO : ∀ k, k < w2.heap.size → tag k = .oth := fun k hk => by
    rw [← htag]; unfold tag0S
    rw [if_neg (by show ¬ k = bx; omega), if_neg (by show ¬ k = g1; omega), if_neg (by show ¬ k = g2; omega), if_neg (by show ¬ k = g3; omega), if_neg (by show ¬ k = g4; omega), if_neg (by show ¬ k = g5; omega), if_neg (by show ¬ k = g6; omega), if_neg (fun e => by have := hS k e; omega)]
  rw [htag]
  clear htag
  have hrep : ∀ {i : Nat} {m : Nat} {α : Type} {x y : α}, (List.replicate m x)[i]? = some y → y = x := fun h => List.eq_of_mem_replicate (List.mem_of_getElem? h)
  refine ⟨⟨hb, hb.size, fun k hk => ?_, fun t => ?_⟩, tO⟩
  · by_cases q : k < w2.heap.size
    · exact absurd (tO k q) hk
    · omega
  · cases t with
    | sta => exact ⟨bb, tx⟩
    | cls i => intro c hc; simp [d0S] at hc
    | clr => exact ⟨gr_nil _ _ _ _ _, rfl⟩
    | wtb => exact ⟨⟨by rw [b1, made_list]; rfl, t1⟩, by simp [v0S], by simp [d0S]⟩
    | wth j =>
      intro ns hns
      have hns : (List.replicate (2 * (n + 1)) ([] : List Nat))[j]? = some ns := hns
      have hj := (List.getElem?_eq_some_iff.1 hns).1
      rw [hrep hns]
      exact ⟨.slice none 0 0, by show (List.replicate (2 * (n + 1)) (Value.slice none 0 0))[j]? = _; rw [List.length_replicate] at hj; rw [List.getElem?_replicate, if_pos hj], gr_nil _ _ _ _ _⟩
    | val => exact ⟨⟨by rw [b2, made_list]; simp [vi8, d0S], t2⟩, by simp [d0S]⟩
    | pha => exact ⟨⟨by rw [b3, made_list]; simp [vi8, d0S], t3⟩, by simp [d0S]⟩
    | lev => exact ⟨⟨by rw [b4, made_list]; simp [ints, d0S], t4⟩, by simp [d0S]⟩
    | rea => exact ⟨⟨by rw [b5, made_list]; simp [ints, d0S], t5⟩, by simp [d0S]⟩
    | see => exact ⟨⟨by rw [b6, made_list]; simp [bools, d0S], t6⟩, by simp [d0S]⟩
    | trl => exact gr_nil _ _ _ _ _
    | lvs => exact gr_nil _ _ _ _ _
    | prf => exact ⟨gr_nil _ _ _ _ _, rfl⟩
    | prc => intro i c hc; simp [d0S] at hc
    | hep => exact ⟨hH.wide fun k _ hk => tS k hk, by simp [d0S]⟩
    | oth => trivial

/-- What the state says at first. -/
theorem lk_init (n : Nat) : LK n (d0S n) [] [] := by
  have hrep : ∀ {i : Nat} {m : Nat}, ((List.replicate m (0 : Int))[i]?).getD 0 = 0 := fun {i m} => by
    rw [List.getElem?_replicate]
    split <;> rfl
  refine ⟨fun x hx => ?_, fun y hy => ?_, rfl, nofun, nofun, fun x hx _ _ => ?_, fun y hy => List.eq_of_mem_replicate hy⟩
  · rw [if_neg (show x ∉ (d0S n).K from List.not_mem_nil), if_neg (show -x ∉ (d0S n).K from List.not_mem_nil)]
    unfold hvL
    split
    · show -((List.replicate (n + 1) (0 : Int))[_]?).getD 0 = 0
      rw [hrep]; rfl
    · show ((List.replicate (n + 1) (0 : Int))[_]?).getD 0 = 0
      rw [hrep]
  · have : y = 0 := List.eq_of_mem_replicate hy
    omega
  · have := vrL_range hx
    show (List.replicate n true)[_]? = some true
    rw [List.getElem?_replicate, if_pos (by omega)]

theorem cd_init (n : Nat) : CD n [] (d0S n).C (WtF (d0S n).Wt) (d0S n).K [] [] 0 := by
  have hW : ∀ b, WtF (d0S n).Wt b = [] := fun b => by
    unfold WtF
    show ((List.replicate (2 * (n + 1)) ([] : List Nat))[_]?).getD [] = []
    rw [List.getElem?_replicate]
    split <;> rfl
  refine ⟨⟨⟨nofun, nofun, fun b t ht => ?_⟩, nofun, nofun, List.Pairwise.nil, rfl, nofun, nofun, nofun, List.nodup_nil, nofun, nofun, nofun⟩, nofun, Nat.le_refl _, nofun⟩
  rw [hW] at ht
  cases ht

end Go.Proofs.Ytfofabbnbmieoaa.Ord

/- Plain facts about the reference's way to close under unit propagation. -/
namespace Go.Proofs.Ytfofabbnbmieoaa.Ord

/-- What Units answers, in layers 4's own words. -/
noncomputable def unitsV (n : Int) (F : List (List Int)) (A : List Int) : List Int × Bool × Int :=
  if cnfCheck n F = 0 then (if A.all (fun a => !badLit n a) then (upL n.toNat F A, upF F A, 0) else ([], false, 3)) else ([], false, cnfCheck n F)

theorem unitsV_err {n e : Int} {F : List (List Int)} (h : cnfCheck n F = e) (h0 : e ≠ 0) (A : List Int) : unitsV n F A = ([], false, e) := by
  unfold unitsV
  rw [h, if_neg h0]

theorem unitsV_arg {n : Int} {F : List (List Int)} {A : List Int} {k : Nat} {x : Int} (h : cnfCheck n F = 0) (hx : A[k]? = some x) (hb : badLit n x = true) : unitsV n F A = ([], false, 3) := by
  unfold unitsV
  rw [if_pos h, if_neg]
  intro ha
  have := List.all_eq_true.1 ha x (List.mem_of_getElem? hx)
  rw [hb] at this
  cases this

theorem unitsV_ok {n : Nat} {F : List (List Int)} {A : List Int} (h : cnfCheck n F = 0) (ha : A.any (badLit n) = false) : unitsV n F A = (upL n F A, upF F A, 0) := by
  unfold unitsV
  rw [if_pos h, if_pos]
  · rfl
  · rw [List.all_eq_true]
    intro x hx
    have := List.any_eq_false.1 ha x hx
    simpa using this

theorem lit_ok_of {n : Nat} {x : Int} (h : badLit n x = false) : LitOk n x := by
  unfold badLit at h
  simp only [Bool.or_eq_false_iff, beq_eq_false_iff_ne, decide_eq_false_iff_not] at h
  unfold LitOk
  omega

theorem lit_bad_of {n : Nat} {x : Int} (h : badLit n x = true) : x = 0 ∨ (n : Int) < x ∨ x < -(n : Int) := by
  unfold badLit at h
  simp only [Bool.or_eq_true, beq_iff_eq, decide_eq_true_eq] at h
  omega

theorem asm_ok_of {n : Nat} {A : List Int} (h : A.any (badLit n) = false) : ∀ a ∈ A, LitOk n a := fun a ha => lit_ok_of (by have := List.any_eq_false.1 h a ha; simpa using this)

/-- What a formula that is valid keeps to. -/
theorem cnf_valid {n : Int} {F : List (List Int)} (h : cnfCheck n F = 0) : 0 ≤ n ∧ n ≤ 1048576 ∧ F.length ≤ 1048576 ∧ (∀ c ∈ F, c.length ≤ 4096) ∧ ClsOk n.toNat F := by
  unfold cnfCheck at h
  split at h
  · simp at h
  rename_i h1
  split at h
  · simp at h
  rename_i h2
  have hall : ∀ c ∈ F, litCheck n c = 0 := by
    cases hf : F.find? (fun c => litCheck n c != 0) with
    | none =>
      intro c hc
      have := List.find?_eq_none.1 hf c hc
      simpa using this
    | some d =>
      rw [hf] at h
      have := List.find?_some hf
      simp at this
      exact absurd h this
  have hl : ∀ c ∈ F, c.length ≤ 4096 ∧ c.any (badLit n) = false := fun c hc => by
    have h3 := hall c hc
    unfold litCheck at h3
    split at h3
    · simp at h3
    split at h3
    · simp at h3
    split at h3
    · simp at h3
    rename_i h4 h5
    exact ⟨by omega, by simpa using h5⟩
  obtain ⟨m, rfl⟩ := Int.eq_ofNat_of_zero_le (show 0 ≤ n by omega)
  exact ⟨by omega, by omega, by omega, fun c hc => (hl c hc).1, fun c hc => asm_ok_of (hl c hc).2⟩

end Go.Proofs.Ytfofabbnbmieoaa.Ord

/- Plain facts about what rup's Check answers. -/
namespace Go.Proofs.Ytfofabbnbmieoaa.Ord

/-- The negatives. -/
def negs (c : List Int) : List Int := c.map fun a => -a

theorem mem_negs {c : List Int} {a : Int} : a ∈ negs c ↔ -a ∈ c := by
  unfold negs
  rw [List.mem_map]
  constructor
  · rintro ⟨b, hb, rfl⟩; rw [Int.neg_neg]; exact hb
  · intro h; exact ⟨-a, h, Int.neg_neg a⟩

/-- How many clauses of a proof are implied, each by the formula and those before it. -/
noncomputable def rupGo (F : List (List Int)) : List (List Int) → Nat
  | [] => 0
  | c :: P => if upF F (negs c) = true then rupGo (F ++ [c]) P + 1 else 0

/-- The error of Check. -/
def rupErr (n : Int) (F P : List (List Int)) : Int := if cnfCheck n F = 0 then (match P.find? (fun c => litCheck n c != 0) with | some c => litCheck n c | none => 0) else cnfCheck n F

/-- What Check answers. -/
noncomputable def rupV (n : Int) (F P : List (List Int)) : Int × Int :=
  if rupErr n F P = 0 then (if rupGo F P < P.length then (rupGo F P : Int) else if P.getLast? = some [] then -1 else (P.length : Int), 0) else (0, rupErr n F P)

theorem rupGo_le : ∀ (F P : List (List Int)), rupGo F P ≤ P.length
  | _, [] => Nat.le_refl _
  | F, c :: P => by
    unfold rupGo
    split
    · have := rupGo_le (F ++ [c]) P
      simp; omega
    · simp

theorem rupGo_ge : ∀ {F P : List (List Int)} {k : Nat}, (∀ (i : Nat) (c : List Int), i < k → P[i]? = some c → upF (F ++ P.take i) (negs c) = true) → k ≤ P.length → k ≤ rupGo F P
  | _, _, 0, _, _ => Nat.zero_le _
  | F, [], k + 1, _, h => by simp at h
  | F, c :: P, k + 1, h, hk => by
    have h0 := h 0 c (by omega) rfl
    simp at h0
    unfold rupGo
    rw [if_pos h0]
    have := rupGo_ge (F := F ++ [c]) (P := P) (k := k) (fun i d hi hd => by
      have := h (i + 1) d (by omega) (by simpa using hd)
      rw [List.append_assoc]
      simpa using this) (by simp at hk; omega)
    omega

theorem rupGo_at : ∀ {F P : List (List Int)} {k : Nat} {c : List Int}, (∀ (i : Nat) (c : List Int), i < k → P[i]? = some c → upF (F ++ P.take i) (negs c) = true) → P[k]? = some c → upF (F ++ P.take k) (negs c) = false → rupGo F P = k
  | F, [], k, c, _, hc, _ => by simp at hc
  | F, d :: P, 0, c, _, hc, h => by
    simp at hc
    subst hc
    simp at h
    unfold rupGo
    rw [if_neg (by rw [h]; simp)]
  | F, d :: P, k + 1, c, h, hc, hn => by
    have h0 := h 0 d (by omega) rfl
    simp at h0
    unfold rupGo
    rw [if_pos h0]
    rw [rupGo_at (F := F ++ [d]) (P := P) (k := k) (c := c) (fun i e hi he => by
      have := h (i + 1) e (by omega) (by simpa using he)
      rw [List.append_assoc]
      simpa using this) (by simpa using hc) (by
      rw [List.append_assoc]
      simpa using hn)]

/-- The clauses that are counted are implied. -/
theorem rupGo_true : ∀ {F P : List (List Int)} (i : Nat) (c : List Int), i < rupGo F P → P[i]? = some c → upF (F ++ P.take i) (negs c) = true
  | F, [], i, c, _, hc => by simp at hc
  | F, d :: P, i, c, h, hc => by
    unfold rupGo at h
    split at h
    · rename_i h0
      match i, hc with
      | 0, hc =>
        simp at hc
        subst hc
        simpa using h0
      | i + 1, hc =>
        have := rupGo_true (F := F ++ [d]) (P := P) i c (by omega) (by simpa using hc)
        rw [List.append_assoc] at this
        simpa using this
    · omega

end Go.Proofs.Ytfofabbnbmieoaa.Ord

/- Plain: what is known, assumed again. -/
namespace Go.Proofs.Ytfofabbnbmieoaa

theorem clsok_fit {n : Nat} (x : Int) (hn : (n : Int) = fitV x) (l : List (List Int)) : ClsOk n (fitF x l) := by
  intro c hc a ha
  simp only [fitF, List.mem_map] at hc
  obtain ⟨c', _, rfl⟩ := hc
  have hr := fitV_range x
  obtain ⟨h1, h2, h3⟩ := mem_fitC (by omega) ha
  exact ⟨h1, by omega, by omega⟩

end Go.Proofs.Ytfofabbnbmieoaa

/- Plain facts on soundness: what follows holds in every model. -/
namespace Go.Proofs.Ytfofabbnbmieoaa.Ord

theorem lit_both {m : List Bool} {x : Int} (h1 : litHolds m x = true) (h2 : litHolds m (-x) = true) : False := by
  unfold litHolds at h1 h2
  simp only [Bool.and_eq_true, decide_eq_true_eq, beq_iff_eq, Int.natAbs_neg] at h1 h2
  have := h1.2.symm.trans h2.2
  simp only [Option.some.injEq, decide_eq_decide] at this
  omega

theorem der_holds {m : List Bool} {C : List (List Int)} {A : List Int} (hC : ∀ c ∈ C, holdsB m c = true) (hA : ∀ a ∈ A, litHolds m a = true) {a : Int} (h : Der C A a) : litHolds m a = true := by
  induction h with
  | asm ha => exact hA _ ha
  | @unit c l hc hl hm ih =>
    obtain ⟨x, hx, hh⟩ := List.any_eq_true.1 (hC c hc)
    by_cases hxl : x = l
    · rw [← hxl]; exact hh
    · exact (lit_both hh (ih x hx hxl)).elim

theorem bad_no_model {m : List Bool} {C : List (List Int)} {A : List Int} (hC : ∀ c ∈ C, holdsB m c = true) (hA : ∀ a ∈ A, litHolds m a = true) (h : Bad C A) : False := by
  rcases h with ⟨a, h1, h2⟩ | ⟨c, hc, h⟩
  · exact lit_both (der_holds hC hA h1) (der_holds hC hA h2)
  · obtain ⟨x, hx, hh⟩ := List.any_eq_true.1 (hC c hc)
    exact lit_both hh (der_holds hC hA (h x hx))

theorem firstIdx_all {m : List Bool} {f : List (List Int)} (h : firstIdx m f = -1) : ∀ c ∈ f, holdsB m c = true := by
  intro c hc
  unfold firstIdx at h
  cases hf : f.findIdx? (fun c => !holdsB m c) with
  | some i => rw [hf] at h; simp at h
  | none =>
    have := List.findIdx?_eq_none_iff.1 hf c hc
    simpa using this

theorem firstIdx_of_all {m : List Bool} {f : List (List Int)} (h : ∀ c ∈ f, holdsB m c = true) : firstIdx m f = -1 := by
  unfold firstIdx
  rw [List.findIdx?_eq_none_iff.2 (fun c hc => by simp [h c hc])]

end Go.Proofs.Ytfofabbnbmieoaa.Ord

/- Plain facts on the soundness of proofs, and on what more clauses change. -/
namespace Go.Proofs.Ytfofabbnbmieoaa.Ord

theorem lit_total {n : Nat} {m : List Bool} (hm : m.length = n) {x : Int} (hx : LitOk n x) (h : litHolds m x = false) : litHolds m (-x) = true := by
  unfold LitOk at hx
  unfold litHolds at h ⊢
  rw [Int.natAbs_neg]
  have h0 : decide (0 < x.natAbs) = true := by simp; omega
  rw [h0, Bool.true_and] at h ⊢
  have hl : x.natAbs - 1 < m.length := by omega
  rw [List.getElem?_eq_getElem hl] at h ⊢
  simp only [beq_eq_false_iff_ne, ne_eq, Option.some.injEq, beq_iff_eq] at h ⊢
  cases hmv : m[x.natAbs - 1] with
  | true =>
    rw [hmv] at h
    have : ¬ (0 < x) := fun q => h (by simp [q])
    simp; omega
  | false =>
    rw [hmv] at h
    have : 0 < x := by
      by_cases q : 0 < x
      · exact q
      · exact absurd (by simp [q]) h
    simp; omega

theorem imp_holds {n : Nat} {m : List Bool} {F : List (List Int)} {c : List Int} (hm : m.length = n) (hF : ∀ d ∈ F, holdsB m d = true) (hc : ∀ x ∈ c, LitOk n x) (h : upF F (negs c) = true) : holdsB m c = true := by
  cases hh : holdsB m c with
  | true => rfl
  | false =>
    refine (bad_no_model hF (fun a ha => ?_) (upF_true.1 h)).elim
    have hac := mem_negs.1 ha
    have := List.any_eq_false.1 hh (-a) hac
    have h2 := lit_total hm (hc (-a) hac) (by simpa using this)
    rwa [Int.neg_neg] at h2

theorem rupGo_holds {n : Nat} {m : List Bool} {F P : List (List Int)} (hm : m.length = n) (hF : ∀ d ∈ F, holdsB m d = true) (hP : ClsOk n P) : ∀ (k : Nat), k ≤ rupGo F P → ∀ d ∈ P.take k, holdsB m d = true
  | 0, _, d, hd => by simp at hd
  | k + 1, hk, d, hd => by
    have ih := rupGo_holds hm hF hP k (by omega)
    have hkl : k < P.length := by have := rupGo_le F P; omega
    rw [List.take_add_one, List.getElem?_eq_getElem hkl] at hd
    rcases List.mem_append.1 hd with q | q
    · exact ih d q
    · have e : d = P[k] := by simpa using q
      rw [e]
      exact imp_holds hm (fun x hx => (List.mem_append.1 hx).elim (hF x) (ih x)) (fun x hx => hP _ (List.getElem_mem _) x hx) (rupGo_true k _ (by omega) (List.getElem?_eq_getElem hkl))

/-- The first of what Check answers. -/
noncomputable def rupI (F P : List (List Int)) : Int := if rupGo F P < P.length then (rupGo F P : Int) else if P.getLast? = some [] then -1 else (P.length : Int)

/-- Where there is a model, no proof is whole. -/
theorem rupI_model {n : Nat} {m : List Bool} {F P : List (List Int)} (hm : m.length = n) (hF : ∀ d ∈ F, holdsB m d = true) (hP : ClsOk n P) : rupI F P ≠ -1 ∧ ∀ (i : Nat) (c : List Int), (i : Int) < rupI F P → P[i]? = some c → holdsB m c = true := by
  have hle := rupGo_le F P
  have hall := rupGo_holds hm hF hP (rupGo F P) (Nat.le_refl _)
  constructor
  · unfold rupI
    split
    · omega
    · split
      · rename_i h1 h2
        exfalso
        have h3 : rupGo F P = P.length := by omega
        rw [h3, List.take_of_length_le (Nat.le_refl _)] at hall
        have := hall [] (List.mem_of_getLast? h2)
        simp [holdsB] at this
      · omega
  · intro i c hi hc
    have hil := (List.getElem?_eq_some_iff.1 hc).1
    have h1 : i < rupGo F P := by
      unfold rupI at hi
      split at hi
      · omega
      · split at hi <;> omega
    exact hall c (List.mem_of_getElem? (i := i) (by rw [List.getElem?_take_of_lt h1]; exact hc))

end Go.Proofs.Ytfofabbnbmieoaa.Ord

/- Plain facts about solve's main loop. -/
namespace Go.Proofs.Ytfofabbnbmieoaa.Ord

/-- What was learned so far. -/
structure SLM (n : Nat) (F : List (List Int)) (d : SD) (Rz : List Int) (bs : List Nat) : Prop where
  lk : LK n d Rz bs
  np : (d.P.map (codeC n)).Nodup
  pc : ∀ D ∈ d.P, (∀ x ∈ D, LitOk n x) ∧ (∀ x ∈ D, -x ∉ D) ∧ D.length ≤ n
  pb : ∀ (i : Nat) (D : List Int), d.P[i]? = some D → Bad (F ++ d.P.take i) (negs D)
  cl : d.C.length ≤ F.length + d.P.length

section
variable {n : Nat} {F G C : List (List Int)} {Wt Wt' : Int → List Nat} {d : SD} {K Rz : List Int} {bs : List Nat} {p : Int} {O c : List Int} {lv j i : Nat}

theorem SLM.plen (h : SLM n F d Rz bs) : d.P.length ≤ 3 ^ n := by
  have := nodup_below (3 ^ n) _ h.np fun x hx => by
    obtain ⟨D, -, rfl⟩ := List.mem_map.1 hx
    exact codeC_lt n D
  rwa [List.length_map] at this

theorem SLM.lt (h : SLM n F d Rz bs) (hc : codeC n c ∉ d.P.map (codeC n)) : d.P.length < 3 ^ n := by
  have hnd : (codeC n c :: d.P.map (codeC n)).Nodup := List.nodup_cons.2 ⟨hc, h.np⟩
  have := nodup_below (3 ^ n) _ hnd fun x hx => by
    rcases List.mem_cons.1 hx with e | e
    · rw [e]; exact codeC_lt n c
    · obtain ⟨D, -, rfl⟩ := List.mem_map.1 e
      exact codeC_lt n D
  simp only [List.length_cons, List.length_map] at this
  omega

/-- What learn's answer is good for. -/
structure LZ (n : Nat) (G : List (List Int)) (K : List Int) (bs : List Nat) (c : List Int) (u : Int) (lv b : Nat) : Prop where
  ok : ∀ x ∈ c, LitOk n x
  op : ∀ x ∈ c, -x ∉ c
  nod : c.Nodup
  bad : Bad G (negs c)
  x0 : c[0]? = some u
  bl : bs[lv]? = some b
  bK : b < K.length
  u1 : u ∉ K.take b
  u2 : -u ∉ K.take b
  fl : ∀ x ∈ c, x ≠ u → -x ∈ K.take b
  one : c.length = 1 → lv = 0
  two : ∀ y, c[1]? = some y → ∀ b' ∈ bs.take lv, -y ∉ (K.take b).take b'
  new : ∀ f ∈ G, ¬ ∀ x, x ∈ f ↔ x ∈ c

theorem LA.fit (h : LA n K bs p O c lv) (hd : LD n G K bs j p O) (hcb : CB n G C Wt K Rz bs) (hb : 0 < bs.length) : ∃ b, LZ n G K bs c (-p) lv b := by
  have ht : LT n G K bs := ⟨hcb.cons, hcb.nod, hcb.kok, hcb.lv0⟩
  have hpK := List.mem_of_getElem? hd.pj
  have hlvb : lv < bs.length := by
    by_cases q : O = []
    · rw [h.l0 q]; exact hb
    · obtain ⟨y, jy, hy, hjy, e⟩ := h.l1 q
      have hym := List.mem_of_getElem? hy
      rcases (h.mem y).1 hym with e2 | e2
      · rw [e2] at hy
        have := nodup_get h.nod hy h.x0
        omega
      · obtain ⟨j2, hj2, -, hlt⟩ := hd.ol y e2
        have := nodup_get hcb.nod hj2 hjy
        subst this
        omega
  obtain ⟨b, hbl⟩ : ∃ b, bs[lv]? = some b := ⟨_, List.getElem?_eq_getElem hlvb⟩
  have hbK := hcb.bl b (List.mem_of_getElem? hbl)
  have hlt := fun i => lvl_lt_iff hcb.inc hbl i
  have hok : ∀ x ∈ c, LitOk n x := fun x hx => by
    rcases (h.mem x).1 hx with e | e
    · have := hcb.kok p hpK
      rw [e]; unfold LitOk at this ⊢; omega
    · obtain ⟨j2, hj2, -⟩ := hd.ol x e
      have := hcb.kok _ (List.mem_of_getElem? hj2)
      unfold LitOk at this ⊢; omega
  have hno := hd.notIn ht
  have hop : ∀ x ∈ c, -x ∉ c := fun x hx hnx => by
    have hx0 := (hok x hx).1
    rcases (h.mem x).1 hx with e | e <;> rcases (h.mem (-x)).1 hnx with e2 | e2
    · omega
    · rw [e, Int.neg_neg] at e2; exact hno.2 e2
    · have : x = p := by omega
      rw [this] at e; exact hno.2 e
    · obtain ⟨j2, hj2, -⟩ := hd.ol x e
      obtain ⟨j3, hj3, -⟩ := hd.ol (-x) e2
      rw [Int.neg_neg] at hj3
      exact hcb.cons x (List.mem_of_getElem? hj3) (List.mem_of_getElem? hj2)
  refine ⟨b, hok, hop, h.nod, bad_mono (sub_of_subset fun _ h => h) (fun a ha => ?_) hd.bad, h.x0, hbl, hbK, fun m => ?_, fun m => ?_, fun x hx hne => ?_, fun e => ?_, fun y hy b' hb' m => ?_, fun f hf hs => ?_⟩
  · unfold negs
    rcases List.mem_cons.1 ha with e | e
    · exact List.mem_map.2 ⟨-p, (h.mem _).2 (.inl rfl), by rw [e, Int.neg_neg]⟩
    · obtain ⟨o, ho, e2⟩ := List.mem_map.1 e
      exact List.mem_map.2 ⟨o, (h.mem _).2 (.inr ho), e2⟩
  · exact hcb.cons p hpK (List.mem_of_mem_take m)
  · rw [Int.neg_neg] at m
    obtain ⟨t, ht'⟩ := List.mem_iff_getElem?.1 m
    have htl := (List.getElem?_eq_some_iff.1 ht').1
    rw [List.length_take] at htl
    rw [List.getElem?_take_of_lt (by omega)] at ht'
    have := nodup_get hcb.nod ht' hd.pj
    subst this
    have h1 := (hlt t).2 (by omega)
    have := hd.pl
    omega
  · rcases (h.mem x).1 hx with e | e
    · exact absurd e hne
    · obtain ⟨j2, hj2, -, -⟩ := hd.ol x e
      have h1 := h.lm x e j2 hj2
      have h2 := (hlt j2).1 h1
      exact List.mem_of_getElem? (i := j2) (by rw [List.getElem?_take_of_lt h2]; exact hj2)
  · refine h.l0 (List.length_eq_zero_iff.1 ?_)
    have := h.len
    omega
  · have hO : O ≠ [] := fun e => by
      have h1 := (List.getElem?_eq_some_iff.1 hy).1
      have h2 := h.len
      rw [e] at h2
      simp at h2
      omega
    obtain ⟨y2, jy, hy2, hjy, e⟩ := h.l1 hO
    rw [hy] at hy2
    injection hy2 with hy2
    subst hy2
    obtain ⟨t, ht'⟩ := List.mem_iff_getElem?.1 m
    have htl := (List.getElem?_eq_some_iff.1 ht').1
    rw [List.length_take, List.length_take] at htl
    rw [List.getElem?_take_of_lt (by omega), List.getElem?_take_of_lt (by omega)] at ht'
    have := nodup_get hcb.nod ht' hjy
    subst this
    obtain ⟨s, hs⟩ := List.mem_iff_getElem?.1 hb'
    have hsl := (List.getElem?_eq_some_iff.1 hs).1
    rw [List.length_take] at hsl
    rw [List.getElem?_take_of_lt (by omega)] at hs
    have h3 := (lvl_lt_iff hcb.inc hs t).2 (by omega)
    omega
  · exact hd.new hcb hb hf fun x => (hs x).trans (h.mem x)

/-- The state behind a step back and the clause that was learned. -/
theorem LZ.after (hz : LZ n (F ++ d.P) d.K bs c p lv i) (h : CB n (F ++ d.P) d.C (WtF d.Wt) d.K Rz bs) : CD n (F ++ d.P) d.C (WtF d.Wt) (d.K.take i) (Rz.take i) (bs.take lv) (d.K.take i).length := by
  have h1 := h.back hz.bl
  have e : (d.K.take i).length = i := by rw [List.length_take]; have := hz.bK; omega
  rw [e]
  exact h1

theorem LZ.more (hz : LZ n (F ++ d.P) d.K bs c p lv i) (h : SLM n F d Rz bs) : ((d.P ++ [c]).map (codeC n)).Nodup ∧ (∀ D ∈ d.P ++ [c], (∀ x ∈ D, LitOk n x) ∧ (∀ x ∈ D, -x ∉ D) ∧ D.length ≤ n) ∧ (∀ (i : Nat) (D : List Int), (d.P ++ [c])[i]? = some D → Bad (F ++ (d.P ++ [c]).take i) (negs D)) ∧ codeC n c ∉ d.P.map (codeC n) := by
  have hnew : codeC n c ∉ d.P.map (codeC n) := fun m => by
    obtain ⟨D, hD, e⟩ := List.mem_map.1 m
    have h1 := h.pc D hD
    refine hz.new D (List.mem_append_right _ hD) fun x => ⟨fun hx => ?_, fun hx => ?_⟩
    · exact (codeC_eq h1.2.1 hz.op e x (h1.1 x hx)).1 hx
    · exact (codeC_eq h1.2.1 hz.op e x (hz.ok x hx)).2 hx
  refine ⟨?_, fun D hD => ?_, fun t D ht => ?_, hnew⟩
  · rw [List.map_append]
    exact List.nodup_append.2 ⟨h.np, by simp, fun x hx y hy => by
      have : y = codeC n c := by simpa using hy
      rintro rfl
      exact hnew (this ▸ hx)⟩
  · rcases List.mem_append.1 hD with q | q
    · exact h.pc D q
    · rw [List.mem_singleton.1 q]
      exact ⟨hz.ok, hz.op, lits_le hz.nod hz.op hz.ok⟩
  · by_cases q : t < d.P.length
    · rw [List.getElem?_append_left q] at ht
      rw [List.take_append_of_le_length (by omega)]
      exact h.pb t D ht
    · rw [List.getElem?_append_right (by omega)] at ht
      have h2 := (List.getElem?_eq_some_iff.1 ht).1
      simp at h2
      have h3 : t = d.P.length := by omega
      subst h3
      simp at ht
      subst ht
      rw [List.take_append_of_le_length (Nat.le_refl _), List.take_length]
      exact hz.bad

end

end Go.Proofs.Ytfofabbnbmieoaa.Ord

/- The contracts of solve's unsat and model. -/
namespace Go.Proofs.Ytfofabbnbmieoaa.Ord
open Go.RowKit Go.Conc

attribute [local go_sem ↓] Go.wp_at_zero Go.wp_at_succ
attribute [local go_sem ↓ high] app_mark

section
variable {tag : Nat → KT} {B : Nat} {w0 w : World} {a : SA} {v : SV} {d : SD}

theorem SM.prfc (h : SM tag B w0 w a v d) : ∃ au cu, v.vf = .slice au d.P.length cu ∧ w.ownsRow B 22 1 v.vf d.P.length v.ps := by
  have h1 := (h.co .prf).1.1
  rw [(h.co .prf).2] at h1
  obtain ⟨au, cu, hv⟩ := own_lenV' h1
  exact ⟨au, cu, hv, h1⟩

end

set_option maxRecDepth 100000 in
set_option maxHeartbeats 4000000 in
theorem sol_unsat (tag : Nat → KT) (B : Nat) (w0 w : World) (a : SA) (v : SV) (d : SD) (h : SM tag B w0 w a v d) (hP : d.P.length ≤ 4398046511104) :
    Calls Try.prog 50 #[.pointer (some ⟨a.bx, 0, none⟩)] w fun e w' => ∃ av cv, e = .returned (.agg #[.int .u8 2, .slice none 0 0, .slice av (d.P.length + 1) cv]) ∧ (∀ w7 : World, Touch (fun k => k < B) w' w7 → Rws w7 av (d.P ++ [[]])) ∧ d.P.length + 1 ≤ cv ∧ (av = none → cv = 0) ∧ Below B w0 w' := by
  obtain ⟨i1, hi1, hy0, hy1, hy2⟩ := info_parts info_ints
  obtain ⟨rb, hrb⟩ : ∃ rb : World, w.alloc (.cells #[.int .u8 0, .slice none 0 0, .slice none 0 0] 51 (0, 0)) = rb := ⟨_, rfl⟩
  have hR : SM (tgN tag w .oth) B w0 rb a v d := by rw [← hrb]; exact h.grow (box_below _ _) (fun g hg => tgN_old hg) fun k hk hn => absurd (tgN_new hk) hn
  obtain ⟨au, cu, hvf, hof⟩ := hR.prfc
  have b11 : rb.cell? ⟨a.bx, 11, none⟩ = some (.slice au d.P.length cu) := by rw [hR.cell 11, ← hvf]; rfl
  rw [hvf] at hof
  have hB := hR.le
  obtain ⟨PL, hPL⟩ : ∃ t, d.P.length = t := ⟨_, rfl⟩
  rw [hPL] at hof b11 hP
  obtain ⟨a6, c6, w6, hr6, ho6, hg6, ha6⟩ := appM_one (P := Try.prog) (rb.alloc (.cells #[.slice none 0 0] 22 (0, 0))) B 32 32 22 i1 (.slice none 0 0) 24 Try.underlying32 hi1 hy0 hy1 hy2 rfl (.slice au PL cu) PL v.ps (hof.alloc _) rb.heap.size (.slice none 0 0) (heap_alloc_new _ _) rfl (by unfold maxLen; omega) (by omega) (by simp only [size_al]; omega)
  have hcap := own_cap ho6
  have HF : Hid (∀ w7 : World, Touch (fun k => k = w.heap.size) w6 w7 → (∀ w8, Touch (fun k => k < B) w7 w8 → Rws w8 a6 (d.P ++ [[]])) ∧ Below B w0 w7) := hid fun w7 h7a => by
    have hbel := below_app hR.bel hB (box_below rb (.cells #[.slice none 0 0] 22 (0, 0))) hof hg6
    have hB6 : B ≤ w6.heap.size := Nat.le_trans hB (Nat.le_trans (box_below rb _).size hg6.size)
    have hwB : B ≤ w.heap.size := h.le
    have htw : tgN tag w .oth w.heap.size = .oth := tgN_new (Nat.le_refl _)
    have hnb : ∀ b off, a6 = some ⟨b, off, none⟩ → ¬ (b = w.heap.size ∨ b < B) := fun b off e => by
      subst e
      have hbB : B ≤ b := (ho6.lt b rfl).1
      rintro (q | q)
      case inr => omega
      subst q
      rcases ha6 with e | e
      · have h1 := (hR.co .prf).1.2 w.heap.size (by rw [hvf, hPL]; exact e.symm)
        rw [htw] at h1
        cases h1
      · injection e with e
        have h1 := (box_below rb (.cells #[.slice none 0 0] 22 (0, 0))).size
        have h2 : w.heap.size < rb.heap.size := by rw [← hrb]; simp only [size_al]; omega
        have e : w.heap.size = (rb.alloc (.cells #[.slice none 0 0] 22 (0, 0))).heap.size := e
        omega
    refine ⟨fun w8 h78 j c hj => ?_, hbel.trans (h7a.below hB6 fun k hk => by rw [hk]; exact hwB)⟩
    have h7 : Touch (fun k => k = w.heap.size ∨ k < B) w6 w8 := (h7a.mono fun _ _ e => .inl e).trans (h78.mono fun _ _ e => .inr e)
    have hsl := own_slv ho6
    by_cases q : j < d.P.length
    · rw [List.getElem?_append_left q] at hj
      obtain ⟨u, hu, hRo⟩ := hR.co .prc j c hj
      obtain ⟨g, o, cap, cur, e1, e2, e3, e4, e5⟩ := hRo
      have hps : (v.ps ++ [Value.slice none 0 0])[j]? = some u := by
        rw [List.getElem?_append_left (List.getElem?_eq_some_iff.1 hu).1]; exact hu
      obtain ⟨b, off, hab, hcell⟩ := hsl j u hps
      have hgl := (Array.getElem?_eq_some_iff.1 e4).1
      have hg6' : w6.heap[g]? = some (.cells cur 3 (0, 0)) := blk_app (box_below rb _) hof hg6 e4 (by decide)
      refine ⟨b, off, u, hab, h7.cellT hcell (hnb b off hab), some ⟨g, o, none⟩, cap, e1, e2, nofun, fun t x ht => ⟨g, o, rfl, ?_⟩⟩
      unfold ints at ht
      rw [List.getElem?_map] at ht
      cases hq : c[t]? with
      | none => rw [hq] at ht; cases ht
      | some y =>
        rw [hq] at ht
        have ht : Value.int .i64 y = x := by simpa using ht
        subst ht
        have hgB : B ≤ g := hR.tB g (by rw [e3]; nofun)
        refine h7.cellT (p := ⟨g, o + t, none⟩) ?_ (fun e => by
          have e : g = w.heap.size ∨ g < B := e
          rcases e with e | e
          · rw [e, htw] at e3
            cases e3
          · omega)
        rw [cell_of_row _ _ _ _ _ _ hg6']
        exact e5 t y hq
    · rw [List.getElem?_append_right (by omega)] at hj
      have h2 := (List.getElem?_eq_some_iff.1 hj).1
      simp at h2
      have h3 : j = d.P.length := by omega
      subst h3
      have hc : c = [] := by simpa [eq_comm] using hj
      subst hc
      obtain ⟨b, off, hab, hcell⟩ := hsl d.P.length (.slice none 0 0) (by
        have := (hR.co .prf).2
        rw [List.getElem?_append_right (by omega)]
        simp [this])
      exact ⟨b, off, _, hab, h7.cellT hcell (hnb b off hab), none, 0, rfl, Nat.le_refl _, fun _ => rfl, fun t x ht => by simp [ints] at ht⟩
  have HC : Hid (PL + 1 ≤ c6 ∧ (a6 = none → c6 = 0)) := hid ⟨hcap.2.1, fun e => (hcap.2.2 e).1⟩
  have HPL := hid hPL
  have hbr : w6.heap[w.heap.size]? = some (.cells #[.int .u8 0, .slice none 0 0, .slice none 0 0] 51 (0, 0)) := by
    have h1 : rb.heap[w.heap.size]? = some (.cells #[.int .u8 0, .slice none 0 0, .slice none 0 0] 51 (0, 0)) := by rw [← hrb]; exact heap_alloc_new _ _
    exact blk_app (box_below rb _) hof hg6 h1 (by decide)
  have k0 := fun i => cell_of_row w6 w.heap.size i _ _ _ hbr
  have kf : ∀ i, w6.frozen? ⟨w.heap.size, i, none⟩ = false := fun i => frozen_of_row _ _ _ _ _ hbr
  have HBR := hid hbr
  clear h hP hR hvf hof hB ho6 hg6 ha6 hcap hPL
  go_enter Try.func50, Try.ntmps50
  go_wp2_with fail
  have hb3 := setCell_block (o := 2) (.slice a6 (PL + 1) c6) (setCell_block (o := 1) (.slice none 0 0) (setCell_block (o := 0) (xs := [.int .u8 0, .slice none 0 0, .slice none 0 0]) (.int .u8 2) HBR.out))
  have h7 : Touch (fun k => k = w.heap.size) w6 (((w6.setCell ⟨w.heap.size, 0, none⟩ (.int .u8 2)).setCell ⟨w.heap.size, 1, none⟩ (.slice none 0 0)).setCell ⟨w.heap.size, 2, none⟩ (.slice a6 (PL + 1) c6)) := (((Touch.refl (fun k => k = w.heap.size) w6).setCell (p := ⟨w.heap.size, 0, none⟩) rfl _).setCell (p := ⟨w.heap.size, 1, none⟩) rfl _).setCell (p := ⟨w.heap.size, 2, none⟩) rfl _
  have HF2 := hid (HF.out _ h7)
  generalize ((w6.setCell ⟨w.heap.size, 0, none⟩ (.int .u8 2)).setCell ⟨w.heap.size, 1, none⟩ (.slice none 0 0)).setCell ⟨w.heap.size, 2, none⟩ (.slice a6 (PL + 1) c6) = w7 at hb3 HF2 ⊢
  have q0 : w7.cell? ⟨w.heap.size, 0, none⟩ = some (.int .u8 2) := fit_cell hb3 0
  have q1 : w7.cell? ⟨w.heap.size, 1, none⟩ = some (.slice none 0 0) := fit_cell hb3 1
  have q2 : w7.cell? ⟨w.heap.size, 2, none⟩ = some (.slice a6 (PL + 1) c6) := fit_cell hb3 2
  clear hb3 h7 k0 kf b11 hr6
  rw [HPL.out]
  refine ⟨rfl, .agg #[.int .u8 2, .slice none 0 0, .slice a6 (PL + 1) c6], by simp [results, Try.results50, go_sem, q0, q1, q2], ?_⟩
  exact ⟨a6, c6, rfl, HF2.out.1, HC.out.1, HC.out.2, HF2.out.2⟩

theorem own_slv_block {w : World} {b : Nat} {vs : List Value} {e : TypeId} (h : w.heap[b]? = some (.cells vs.toArray e (0, 0))) : SlV w (some ⟨b, 0, none⟩) vs := fun j u hj =>
  ⟨b, 0, rfl, by rw [Nat.zero_add, fit_cell h j]; exact hj⟩

/-- The values of the variables, as far as j. -/
def mdl (n : Nat) (va : List Int) (j : Nat) : List Bool := (List.range n).map fun i => decide (i < j) && ((va[i + 1]?).getD 0 == 1)

theorem mdl_zero (n : Nat) (va : List Int) : madeCells #[.bool false] n = (bools (mdl n va 0)).toArray := by
  rw [made_list]
  congr 1
  unfold bools mdl
  apply List.ext_getElem?
  intro i
  by_cases hi : i < n
  · simp [hi]
  · simp [hi]

theorem mdl_step (n : Nat) (va : List Int) {j : Nat} (hj : j < n) : (mdl n va j).set j ((va[j + 1]?).getD 0 == 1) = mdl n va (j + 1) := by
  unfold mdl
  apply List.ext_getElem?
  intro i
  rw [List.getElem?_set]
  by_cases q : j = i
  · subst q
    rw [if_pos rfl, if_pos (by simpa using hj), List.getElem?_map, List.getElem?_range hj]
    simp
  · rw [if_neg q, List.getElem?_map, List.getElem?_map]
    by_cases hi : i < n
    · rw [List.getElem?_range hi]
      have : decide (i < j) = decide (i < j + 1) := by
        by_cases h : i < j
        · rw [decide_eq_true h, decide_eq_true (by omega)]
        · rw [decide_eq_false h, decide_eq_false (by omega)]
      simp [this]
    · rw [List.getElem?_eq_none (by simpa using hi)]
      rfl

set_option maxRecDepth 100000 in
set_option maxHeartbeats 4000000 in
theorem sol_model (tag : Nat → KT) (B : Nat) (w0 w : World) (a : SA) (v : SV) (d : SD) (n : Nat) (h : SM tag B w0 w a v d) (hn : a.n1 = n + 1) (hn1 : n ≤ 1048576) :
    Calls Try.prog 58 #[.pointer (some ⟨a.bx, 0, none⟩)] w fun e w' => ∃ g, e = .returned (.slice (some ⟨g, 0, none⟩) n n) ∧ Below w.heap.size w w' ∧ SlV w' (some ⟨g, 0, none⟩) (bools (mdl n d.va n)) ∧ w.heap.size ≤ g := by
  have hmk : ∀ w : World, (Instr.makeSlice 27 (.int .i64 (n : Int)) (.int .i64 (n : Int))).run Try.prog w = .ok (.slice (some ⟨w.heap.size, 0, none⟩) n n) (w.alloc (.cells (madeCells #[.bool false] n) 4)) := fun w => run_make_row' _ _ _ 1 Try.underlying27 (by kernel_rfl) rfl .i64 .i64 n (by omega) (by omega) w
  have b3 : w.cell? ⟨a.bx, 3, none⟩ = some (.slice (some ⟨a.bv, 0, none⟩) (n + 1) (n + 1)) := by rw [← hn]; exact h.cell 3
  have hwn : IntKind.i64.wrap (((n + 1 : Nat) : Int) - 1) = (n : Int) := (IntWalk.i64_in _ (by omega)).trans (by omega)
  have hwn2 : wrap64 (n : Int) = (n : Int) := IntWalk.wrap64_in _ (by omega)
  have hz : (w.alloc (.cells (madeCells #[.bool false] n) 4)).heap[w.heap.size]? = some (.cells (bools (mdl n d.va 0)).toArray 4 (0, 0)) := by rw [mdl_zero n d.va]; exact heap_alloc_new _ _
  have HZ : Hid (Below w.heap.size w (w.alloc (.cells (madeCells #[.bool false] n) 4)) ∧ (w.alloc (.cells (madeCells #[.bool false] n) 4)).heap[w.heap.size]? = some (.cells (bools (mdl n d.va 0)).toArray 4 (0, 0))) := hid ⟨box_below _ _, hz⟩
  have HH := hid (And.intro h hn)
  have hn2 := hn1
  clear h hn hz
  go_enter Try.func58, Try.ntmps58
  go_wp2_with fail
  go_loopw [14] (fun s14 wl => ∃ j : Nat, s14 = .int .i64 j ∧ j ≤ n ∧ Hid (Below w.heap.size w wl ∧ wl.heap[w.heap.size]? = some (.cells (bools (mdl n d.va j)).toArray 4 (0, 0)))) (fun s14 _ => (n - (intOf s14)).toNat)
  case atStart => exact ⟨0, rfl, Nat.zero_le _, HZ⟩
  case round =>
    clear HZ b3 hwn hwn2
    obtain ⟨j, rfl, hjn, HS⟩ := hrel
    obtain ⟨hb, hz⟩ := HS.out
    by_cases hlt : j < n
    · have hlt2 : (j : Int) < n := by omega
      have hj0 : (0 : Int) ≤ j := by omega
      have b3 : wr.cell? ⟨a.bx, 3, none⟩ = some (.slice (some ⟨a.bv, 0, none⟩) (n + 1) (n + 1)) := by
        have h1 := HH.out.1.cell 3
        rw [← HH.out.2]
        exact below_keeps hb _ _ h1
      have cv : wr.cell? ⟨a.bv, j + 1, none⟩ = some (.int .i8 ((d.va[j + 1]?).getD 0)) := below_keeps hb _ _ (HH.out.1.valc (by have := HH.out.2; omega))
      have hwj : IntKind.i64.wrap ((j : Int) + 1) = ((j + 1 : Nat) : Int) := (IntWalk.i64_in _ (by omega)).trans (by omega)
      have hj1 : ((j + 1 : Nat) : Int) < ((n + 1 : Nat) : Int) := by omega
      have hj2 : (0 : Int) ≤ ((j + 1 : Nat) : Int) := by omega
      have cz : ∃ y, wr.cell? ⟨w.heap.size, j, none⟩ = some y := ⟨_, by rw [fit_cell hz j]; unfold bools; rw [List.getElem?_map, List.getElem?_eq_getElem (by simp [mdl]; exact hlt)]; rfl⟩
      obtain ⟨y, cz⟩ := cz
      have fz : wr.frozen? ⟨w.heap.size, j, none⟩ = false := frozen_of_row _ _ _ _ _ hz
      have hz2 := setCell_block (o := j) (.bool ((d.va[j + 1]?).getD 0 == 1)) hz
      have e1 : (bools (mdl n d.va j)).set j (.bool ((d.va[j + 1]?).getD 0 == 1)) = bools (mdl n d.va (j + 1)) := by
        rw [← mdl_step n d.va hlt]
        unfold bools
        rw [List.map_set]
      rw [e1] at hz2
      have HS2 : Hid (Below w.heap.size w (wr.setCell ⟨w.heap.size, j, none⟩ (.bool ((d.va[j + 1]?).getD 0 == 1))) ∧ (wr.setCell ⟨w.heap.size, j, none⟩ (.bool ((d.va[j + 1]?).getD 0 == 1))).heap[w.heap.size]? = some (.cells (bools (mdl n d.va (j + 1))).toArray 4 (0, 0))) := hid ⟨hb.setCell (Nat.le_refl _) _, hz2⟩
      obtain ⟨z, hzv⟩ : ∃ z, (d.va[j + 1]?).getD 0 = z := ⟨_, rfl⟩
      rw [hzv] at cv HS2
      clear hb hz hz2 e1 HS hzv
      go_wp2_with fail
      go_roundw
      case rel => exact ⟨j + 1, by simp, by omega, HS2⟩
      case measure => simp [intOf]; omega
    · have hje : j = n := by omega
      subst hje
      have hlt2 : ¬ (j : Int) < j := by omega
      have HE := hid (own_slv_block hz)
      clear hb hz
      go_wp2_with fail
      go_ret
      exact ⟨_, rfl, HS.out.1, HE.out, Nat.le_refl _⟩

end Go.Proofs.Ytfofabbnbmieoaa.Ord

/- Plain facts about what Solve returns. -/
namespace Go.Proofs.Ytfofabbnbmieoaa.Ord

/-- The formula has a model. -/
def HasM (n : Nat) (F : List (List Int)) : Prop := ∃ m : List Bool, m.length = n ∧ ∀ c ∈ F, holdsB m c = true

/-- A result of a formula: the answer, the model, the proof. -/
inductive SolOk (n : Nat) (F : List (List Int)) : Int → List Bool → List (List Int) → Prop
  | sat {m : List Bool} : m.length = n → firstIdx m F = -1 → SolOk n F 1 m []
  | unsat {P : List (List Int)} : rupI F P = -1 → ClsOk n P → (∀ c ∈ P, c.length ≤ n) → P.length ≤ 3 ^ n + 1 → SolOk n F 2 [] P
  | unk : SolOk n F 0 [] []

theorem SolOk.sat_iff {n : Nat} {F : List (List Int)} {a : Int} {m : List Bool} {P : List (List Int)} (h : SolOk n F a m P) (h0 : a ≠ 0) : (a = 1 ↔ HasM n F) ∧ (a = 2 ↔ ¬ HasM n F) := by
  cases h with
  | sat h1 h2 =>
    have : HasM n F := ⟨_, h1, firstIdx_all h2⟩
    exact ⟨⟨fun _ => this, fun _ => rfl⟩, ⟨fun e => by omega, fun e => absurd this e⟩⟩
  | unsat h1 h2 _ _ =>
    have : ¬ HasM n F := fun ⟨m, hm, hh⟩ => (rupI_model hm hh h2).1 h1
    exact ⟨⟨fun e => by omega, fun e => absurd e this⟩, ⟨fun _ => this, fun _ => rfl⟩⟩
  | unk => exact absurd rfl h0

section
variable {n : Nat} {F G C : List (List Int)} {Wt Wt' : Int → List Nat} {d : SD} {K Rz : List Int} {bs : List Nat} {p : Int} {O c : List Int} {lv j i : Nat}

theorem mdl_get (n : Nat) (va : List Int) {i : Nat} (hi : i < n) : (mdl n va n)[i]? = some ((va[i + 1]?).getD 0 == 1) := by
  unfold mdl
  rw [List.getElem?_map, List.getElem?_range hi]
  simp [hi]

theorem mdl_length (n : Nat) (va : List Int) (j : Nat) : (mdl n va j).length = n := by simp [mdl]

theorem LK.holds {x : Int} (h : LK n d Rz bs) (hx : LitOk n x) (hm : x ∈ d.K) : litHolds (mdl n d.va n) x = true := by
  have h1 := (h.hv1 hx).2 hm
  have h2 := abs_range hx
  have h3 := mdl_get n d.va (i := x.natAbs - 1) (by omega)
  rw [show x.natAbs - 1 + 1 = x.natAbs by omega] at h3
  rw [litHolds_in (by omega) h3]
  unfold hvL at h1
  split at h1
  · have e : (-x).toNat = x.natAbs := by omega
    rw [e] at h1
    have e2 : ((d.va[x.natAbs]?).getD 0) = -1 := by omega
    rw [e2, decide_eq_false (by omega)]
    rfl
  · have e : x.toNat = x.natAbs := by omega
    rw [e] at h1
    have := hx.1
    rw [h1, decide_eq_true (by omega)]
    rfl

/-- Where all variables have values, the clauses hold. -/
theorem CD.full (h : CD n G C Wt K Rz bs K.length) (hf : ∀ x, LitOk n x → x ∈ K ∨ -x ∈ K) (hG : ClsOk n G) : ∀ f ∈ G, ∃ l ∈ f, l ∈ K := fun f hfG => by
  rcases h.al f hfG with ⟨x, hx, hnx⟩ | ⟨d, hdC, hl⟩ | ⟨x, hx, hk⟩
  · rcases hf x (hG f hfG x hx) with q | q
    · exact ⟨x, hx, q⟩
    · exact ⟨-x, hnx, q⟩
  · obtain ⟨l, hld, hn⟩ := (h.ri.closed d hdC).1
    have hlf := (hl l).1 hld
    rcases hf l (hG f hfG l hlf) with q | q
    · exact ⟨l, hlf, q⟩
    · exact absurd q hn
  · exact ⟨x, hx, k0_sub hk⟩

theorem SLM.model (h : SLM n F d Rz bs) (hc : CD n (F ++ d.P) d.C (WtF d.Wt) d.K Rz bs d.K.length) (hF : ClsOk n F) (hf : ∀ x, LitOk n x → x ∈ d.K ∨ -x ∈ d.K) : SolOk n F 1 (mdl n d.va n) [] := by
  have hG : ClsOk n (F ++ d.P) := fun f hfm => by
    rcases List.mem_append.1 hfm with q | q
    · exact hF f q
    · exact (h.pc f q).1
  refine .sat (mdl_length _ _ _) (firstIdx_of_all fun f hfF => ?_)
  obtain ⟨l, hl, hlk⟩ := hc.full hf hG f (List.mem_append_left _ hfF)
  exact List.any_eq_true.2 ⟨l, hl, h.lk.holds (hF f hfF l hl) hlk⟩

theorem SLM.proof (h : SLM n F d Rz bs) (hb : Bad (F ++ d.P) []) : SolOk n F 2 [] (d.P ++ [[]]) := by
  have hge : (d.P ++ [[]]).length ≤ rupGo F (d.P ++ [[]]) := rupGo_ge (fun t D ht hD => by
    by_cases q : t < d.P.length
    · rw [List.getElem?_append_left q] at hD
      rw [List.take_append_of_le_length (by omega)]
      exact upF_true.2 (h.pb t D hD)
    · have e : t = d.P.length := by simp at ht; omega
      subst e
      rw [List.getElem?_append_right (Nat.le_refl _)] at hD
      simp at hD
      subst hD
      rw [List.take_append_of_le_length (Nat.le_refl _), List.take_length]
      exact upF_true.2 hb) (Nat.le_refl _)
  refine .unsat ?_ (fun D hD => ?_) (fun D hD => ?_) (by have := h.plen; simp; omega)
  · unfold rupI
    rw [if_neg (by omega), if_pos (by simp)]
  · rcases List.mem_append.1 hD with q | q
    · exact (h.pc D q).1
    · rw [List.mem_singleton.1 q]; intro x hx; cases hx
  · rcases List.mem_append.1 hD with q | q
    · exact (h.pc D q).2.2
    · rw [List.mem_singleton.1 q]; exact Nat.zero_le _

/-- Behind propagate. -/
theorem SLM.prop {d' : SD} {Rz' : List Int} (h : SLM n F d Rz bs) (hk : LK n d' Rz' bs) (hg : PGs d d') : SLM n F d' Rz' bs := by
  have e := hg.P
  refine ⟨hk, ?_, ?_, ?_, ?_⟩
  · rw [e]; exact h.np
  · rw [e]; exact h.pc
  · rw [e]; exact h.pb
  · rw [e, hg.cl]; exact h.cl

/-- With a level less, or none, nothing else changes. -/
theorem SLM.re {d' : SD} {Rz' : List Int} {bs' : List Nat} (h : SLM n F d Rz bs) (hk : LK n d' Rz' bs') (hP : d'.P = d.P) (hC : d'.C.length = d.C.length) : SLM n F d' Rz' bs' := by
  refine ⟨hk, ?_, ?_, ?_, ?_⟩
  · rw [hP]; exact h.np
  · rw [hP]; exact h.pc
  · rw [hP]; exact h.pb
  · rw [hP, hC]; exact h.cl

/-- With a clause more that was learned. -/
theorem SLM.more {d' : SD} {Rz' : List Int} {bs' : List Nat} (h : SLM n F d Rz bs) (hz : LZ n (F ++ d.P) d.K bs c p lv i) (hk : LK n d' Rz' bs') (hP : d'.P = d.P ++ [c]) (hC : d'.C.length ≤ d.C.length + 1) : SLM n F d' Rz' bs' := by
  obtain ⟨h1, h2, h3, -⟩ := hz.more h
  refine ⟨hk, ?_, ?_, ?_, ?_⟩
  · rw [hP]; exact h1
  · rw [hP]; exact h2
  · rw [hP]; exact h3
  · rw [hP]; have := h.cl; simp; omega

/-- A clause of two literals or more that was learned. -/
theorem LZ.keep2 (hz : LZ n (F ++ d.P) d.K bs c p lv i) (h : CB n (F ++ d.P) d.C (WtF d.Wt) d.K Rz bs) {y : Int} (h1 : c[1]? = some y) (hw : ∀ b, Wt' b = if b = p ∨ b = y then WtF d.Wt b ++ [d.C.length] else WtF d.Wt b) :
    CD n (F ++ (d.P ++ [c])) (d.C ++ [c]) Wt' (d.K.take i ++ [p]) (Rz.take i ++ [(d.C.length : Int)]) (bs.take lv) i := by
  have hd := hz.after h
  have hl : (d.K.take i).length = i := by rw [List.length_take]; have := hz.bK; omega
  have := hd.keepC (D := c) (e := c) (u := p) (y := y) (Wt' := Wt') (by have := (List.getElem?_eq_some_iff.1 h1).1; omega) hz.nod hz.ok hz.op (fun _ => Iff.rfl) hz.x0 h1 hw hz.u1 hz.u2 hz.fl (hz.two y h1)
  rw [List.append_assoc, hl] at this
  exact this

/-- A clause of one literal that was learned. -/
theorem LZ.keep1 (hz : LZ n (F ++ d.P) d.K bs c p lv i) (h : CB n (F ++ d.P) d.C (WtF d.Wt) d.K Rz bs) (h1 : c.length = 1) (r : Int) :
    CD n (F ++ (d.P ++ [c])) d.C (WtF d.Wt) (d.K.take i ++ [p]) (Rz.take i ++ [r]) (bs.take lv) i := by
  have hd := hz.after h
  have hl : (d.K.take i).length = i := by rw [List.length_take]; have := hz.bK; omega
  have hpc : p ∈ c := List.mem_of_getElem? hz.x0
  have hcp : ∀ x, x ∈ c ↔ x = p := fun x => by
    obtain ⟨z, hzz⟩ := List.length_eq_one_iff.1 h1
    rw [hzz] at hpc ⊢
    rw [List.mem_singleton] at hpc ⊢
    rw [hpc]
  have e := hz.one h1
  subst e
  have := hd.keepU (u := p) (D := c) (hz.ok p hpc) hz.u1 hz.u2 r hcp
  rw [List.append_assoc, hl] at this
  exact this

/-- A decision: what the rows say. -/
theorem LK.dec {x rs : Int} {In' : List Bool} {v0 : Nat} (h : LK n d Rz bs) (hrl : Rz.length = d.K.length) (hv : x.natAbs = v0) (hx : LitOk n x) (h1 : x ∉ d.K) (h2 : -x ∉ d.K) (hb : ∀ b ∈ bs, b < d.K.length) (hin : ∀ x, LitOk n x → x ∉ d.K → -x ∉ d.K → x.natAbs ≠ v0 → In'[(vrL x).toNat - 1]? = some true) (hil : In'.length = n) (hva : d.va.length = n + 1) (hlv : d.lv.length = n + 1) (hre : d.re.length = n + 1) :
    LK n (setD { d with In := In', ls := d.ls ++ [(d.K.length : Int)] } x rs) (Rz ++ [rs]) (bs ++ [d.K.length]) := by
  have hr := abs_range hx
  have h0 : LK n { d with In := In'.set (v0 - 1) true, ls := d.ls ++ [(d.K.length : Int)] } Rz (bs ++ [d.K.length]) := by
    refine ⟨h.va, h.vr, ?_, fun i a hi => ?_, h.re, fun y hy hy1 hy2 => ?_, h.se⟩
    · show d.ls ++ _ = _
      rw [h.ls]; simp
    · have hil := (List.getElem?_eq_some_iff.1 hi).1
      have hil : i < d.K.length := hil
      rw [lvl_app, lvl_none (bs := [d.K.length]) fun b hb => by rw [List.mem_singleton.1 hb]; exact hil]
      exact h.lv i a hi
    · show (In'.set (v0 - 1) true)[(vrL y).toNat - 1]? = some true
      have hyr := abs_range hy
      rw [vrL_abs]
      by_cases q : y.natAbs = v0
      · rw [q, List.getElem?_set_self (by omega)]
      · have := hin y hy hy1 hy2 q
        rw [vrL_abs] at this
        rw [List.getElem?_set_ne (by omega)]
        exact this
  have h3 := h0.set (rs := rs) hrl hx h1 h2 (fun b hb' => by
    rcases List.mem_append.1 hb' with q | q
    · exact Nat.le_of_lt (hb b q)
    · rw [List.mem_singleton.1 q]; exact Nat.le_refl _) hva hlv hre
  refine ⟨h3.va, h3.vr, h3.ls, h3.lv, h3.re, fun y hy hy1 hy2 => ?_, h3.se⟩
  have e1 : y ∉ d.K ++ [x] := hy1
  have e2 : -y ∉ d.K ++ [x] := hy2
  refine hin y hy (fun m => e1 (List.mem_append_left _ m)) (fun m => e2 (List.mem_append_left _ m)) fun e => ?_
  rcases show y = x ∨ y = -x by omega with q | q
  · exact e1 (by rw [q]; simp)
  · exact e2 (by rw [q]; simp)

end

end Go.Proofs.Ytfofabbnbmieoaa.Ord

/- Regions that draw their order: rows that are made in any order. -/
namespace Go.Proofs.Ytfofabbnbmieoaa.Ord
open Go Go.RowKit

/-- An operation that makes memory: its number, its slot, its value by the block's number, the block. -/
structure MkE where
  i : Nat
  d : Option Tmp
  vf : Nat → Value
  ob : Obj

section
variable {P : Program} {ops : Array Oper} {Q : Exit → Act → World → Prop} {md : Region.Mode} {S : World → Prop}

/-- In the state a number m.i does so. -/
def MkG (P : Program) (ops : Array Oper) (a : Act) (m : MkE) : Prop :=
  ∃ x, ops[m.i]? = some x ∧ x.dst = m.d ∧ Region.wanted x (yielded ops a.tmps) = true ∧ ∀ w : World, (execOp a.eval x).run P w = .ok (.value (m.vf w.heap.size)) (w.alloc m.ob)

def apB (ops : Array Oper) (i j : Nat) : Bool := match ops[i]?, ops[j]? with
  | some x, some y => x.apart ops y && y.apart ops x
  | _, _ => false

def apAll (ops : Array Oper) : List Nat → Bool
  | [] => true
  | i :: is => (is.all fun j => apB ops i j && apB ops j i) && apAll ops is

theorem apAll_spec {ops : Array Oper} : ∀ {M : List MkE}, apAll ops (M.map (·.i)) = true → M.Pairwise fun m m' => apB ops m.i m'.i = true ∧ apB ops m'.i m.i = true
  | [], _ => List.Pairwise.nil
  | m :: M, h => by
    rw [List.map_cons, apAll, Bool.and_eq_true, List.all_eq_true] at h
    refine List.pairwise_cons.2 ⟨fun m' hm' => ?_, apAll_spec h.2⟩
    have := h.1 m'.i (List.mem_map.2 ⟨m', hm', rfl⟩)
    rwa [Bool.and_eq_true] at this

/-- Those numbers may come up, in any order, and nothing else before the last of them. -/
def mkOk (md : Region.Mode) (ops : Array Oper) (l : Array Bool) (xs : List Nat) : Bool :=
  downB md ops l && decide xs.Nodup && (xs.all fun i => (Region.ready md ops l).contains i) && (List.range ops.size).all fun x => l.getD x true || xs.contains x || xs.all fun i => waitsB md ops i ops.size x

/-- The same, as it is carried on. -/
structure MkO (md : Region.Mode) (ops : Array Oper) (l : Array Bool) (xs : List Nat) : Prop where
  down : Down md ops l
  nod : xs.Nodup
  rdy : ∀ i ∈ xs, i ∈ Region.ready md ops l
  oth : ∀ x, x < ops.size → l.getD x true = false → x ∈ xs ∨ ∀ i ∈ xs, waitsB md ops i ops.size x = true

theorem mkOk_spec {md : Region.Mode} {ops : Array Oper} {l : Array Bool} {xs : List Nat} (h : mkOk md ops l xs = true) : MkO md ops l xs := by
  unfold mkOk at h
  simp only [Bool.and_eq_true, List.all_eq_true, decide_eq_true_eq, Bool.or_eq_true, List.mem_range] at h
  obtain ⟨⟨⟨h1, h2⟩, h3⟩, h4⟩ := h
  refine ⟨downB_spec h1, h2, fun i hi => by simpa using h3 i hi, fun x hx hl => ?_⟩
  rcases h4 x hx with (q | q) | q
  · rw [hl] at q; cases q
  · exact .inl (by simpa using q)
  · exact .inr q

theorem MkO.only {md : Region.Mode} {ops : Array Oper} {l : Array Bool} {xs : List Nat} (h : MkO md ops l xs) (hne : xs ≠ []) {x : Nat} (hx : x ∈ Region.ready md ops l) : x ∈ xs := by
  obtain ⟨hl, y, hy, -⟩ := mem_ready.1 hx
  rcases h.oth x (Array.getElem?_eq_some_iff.1 hy).1 hl with q | q
  · exact q
  · obtain ⟨i, hi⟩ := List.exists_mem_of_ne_nil _ hne
    have hil := getD_true (mem_ready.1 (h.rdy i hi)).1
    exact absurd hx (waits_open h.down hil _ _ (q i hi)).2

theorem MkO.next {md : Region.Mode} {ops : Array Oper} {l : Array Bool} {xs ys : List Nat} {i : Nat} (h : MkO md ops l (xs ++ i :: ys)) : MkO md ops (l.setIfInBounds i true) (xs ++ ys) := by
  have hnd := h.nod
  have hi := h.rdy i (by simp)
  have hne : ∀ j ∈ xs ++ ys, j ≠ i := fun j hj e => by
    rw [List.nodup_append] at hnd
    rcases List.mem_append.1 hj with q | q
    · exact hnd.2.2 j q i (by simp) e
    · exact (List.nodup_cons.1 hnd.2.1).1 (e ▸ q)
  have hsub : ∀ j ∈ xs ++ ys, j ∈ xs ++ i :: ys := fun j hj => by
    rcases List.mem_append.1 hj with q | q
    · exact List.mem_append_left _ q
    · exact List.mem_append_right _ (List.mem_cons_of_mem _ q)
  refine ⟨h.down.more hi, hnd.sublist (List.Sublist.append (List.Sublist.refl _) (List.sublist_cons_self _ _)), fun j hj => ready_mono (h.rdy j (hsub j hj)) (hne j hj), fun x hx hl => ?_⟩
  by_cases q : i = x
  · subst q
    exfalso
    have h1 := (mem_ready.1 hi).1
    rcases Nat.lt_or_ge i l.size with q | q
    · simp [q] at hl
    · simp [Nat.not_lt.2 q] at h1
  · rw [getD_set_ne true q] at hl
    rcases h.oth x hx hl with r | r
    · refine .inl ?_
      rcases List.mem_append.1 r with r | r
      · exact List.mem_append_left _ r
      · rcases List.mem_cons.1 r with r | r
        · exact absurd r.symm q
        · exact List.mem_append_right _ r
    · exact .inr fun j hj => r j (hsub j hj)

def putAll : Act → List MkE → List Nat → Act
  | a, m :: M, b :: g => putAll (a.put m.d (m.vf b)) M g
  | a, _, _ => a

def setAll (l : Array Bool) (M : List MkE) : Array Bool := M.foldl (fun l m => l.setIfInBounds m.i true) l

theorem set_true_comm (l : Array Bool) (i j : Nat) : (l.setIfInBounds i true).setIfInBounds j true = (l.setIfInBounds j true).setIfInBounds i true := by
  by_cases q : i = j
  · subst q; rfl
  · rw [Array.setIfInBounds_comm _ _ q]

theorem setAll_set (l : Array Bool) (M : List MkE) (i : Nat) : setAll (l.setIfInBounds i true) M = (setAll l M).setIfInBounds i true := by
  induction M generalizing l with
  | nil => rfl
  | cons m M ih =>
    show setAll ((l.setIfInBounds i true).setIfInBounds m.i true) M = _
    rw [set_true_comm, ih]
    rfl

theorem setAll_append (l : Array Bool) (M N : List MkE) : setAll l (M ++ N) = setAll (setAll l M) N := by simp [setAll]

theorem putAll_append : ∀ (M N : List MkE) (g h : List Nat) (a : Act), g.length = M.length → putAll a (M ++ N) (g ++ h) = putAll (putAll a M g) N h
  | [], _, [], _, _, _ => rfl
  | m :: M, N, b :: g, h, a, e => putAll_append M N g h _ (by simpa using e)

theorem putAll_put : ∀ (M : List MkE) (g : List Nat) (a : Act) (d : Option Tmp) (v : Value), (∀ m ∈ M, ∀ (a : Act) u, (a.put d v).put m.d u = (a.put m.d u).put d v) → putAll (a.put d v) M g = (putAll a M g).put d v
  | [], g, a, d, v, _ => by cases g <;> rfl
  | m :: M, [], a, d, v, _ => rfl
  | m :: M, b :: g, a, d, v, h => by
    show putAll ((a.put d v).put m.d (m.vf b)) M g = _
    rw [h m (by simp)]
    exact putAll_put M g _ d v fun m' hm' => h m' (List.mem_cons_of_mem _ hm')

theorem MkG.put {a : Act} {m m' : MkE} (h : MkG P ops a m) (hx : Region.noSelect ops = true) (hap : apB ops m'.i m.i = true) {y : Oper} (hy : ops[m'.i]? = some y) (hd : y.dst = m'.d) (v : Value) : MkG P ops (a.put m'.d v) m := by
  obtain ⟨x, h1, h2, h3, h4⟩ := h
  unfold apB at hap
  rw [hy, h1] at hap
  dsimp only at hap
  rw [Bool.and_eq_true] at hap
  obtain ⟨p1, p2, p3⟩ := Oper.apart_spec hap.2
  rw [← hd]
  refine ⟨x, h1, h2, by rw [wanted_put x a y.dst v p3]; exact h3, fun w => ?_⟩
  rw [execOp_put x (fun cs b => Region.noSelect_spec hx m.i x cs b h1) a y.dst v p3]
  exact h4 w

/-- Rows are made, in any order. -/
theorem wpR.makes {Z : List Nat} (hS : ∀ w, S w) (hx : Region.noSelect ops = true) : ∀ (n : Nat) (M : List MkE) (k : Nat) (l : Array Bool) (a : Act) (w : World), M.length = n → (∀ m ∈ M, MkG P ops a m) → MkO md ops l (M.map (·.i)) → (M.Pairwise fun m m' => apB ops m.i m'.i = true ∧ apB ops m'.i m.i = true) →
    (∀ (g : List Nat) (w' : World), g.length = n → g.Nodup → (∀ b ∈ g, w.heap.size ≤ b ∧ b < w'.heap.size) → w'.heap.size = w.heap.size + n → Below w.heap.size w w' → (∀ (j : Nat) (m : MkE) (b : Nat), M[j]? = some m → g[j]? = some b → w'.heap[b]? = some m.ob) → wpR P md ops Q S Z k (setAll l M) (putAll a M g) w') →
    wpR P md ops Q S Z (k + n) l a w
  | 0, M, k, l, a, w, hM, _, _, _, H => by
    have e := List.eq_nil_of_length_eq_zero hM
    subst e
    exact H [] w rfl List.nodup_nil (by simp) rfl (Below.refl _ _) (by simp)
  | n + 1, M, k, l, a, w, hM, hG, hok, hap, H => by
    have hMne : M.map (·.i) ≠ [] := fun e => by
      have := congrArg List.length e
      rw [List.length_map, hM] at this
      cases this
    refine ⟨fun e => ?_, fun i hi => ?_⟩
    · obtain ⟨i, hi⟩ := List.exists_mem_of_ne_nil _ hMne
      have := hok.rdy i hi
      rw [e] at this
      cases this
    · have hi := hok.only hMne hi
      rw [List.mem_map] at hi
      obtain ⟨m, hm, rfl⟩ := hi
      obtain ⟨j, hj⟩ := List.mem_iff_getElem?.1 hm
      obtain ⟨hjl, hje⟩ := List.getElem?_eq_some_iff.1 hj
      have hsplit : M = M.take j ++ m :: M.drop (j + 1) := by
        rw [← hje, ← List.drop_eq_getElem_cons hjl, List.take_append_drop]
      obtain ⟨M1, hM1⟩ : ∃ t, M.take j = t := ⟨_, rfl⟩
      obtain ⟨M2, hM2⟩ : ∃ t, M.drop (j + 1) = t := ⟨_, rfl⟩
      have hl1 : M1.length = j := by rw [← hM1, List.length_take]; omega
      rw [hM1, hM2] at hsplit
      have h1 : MkO md ops (l.setIfInBounds m.i true) ((M1 ++ M2).map (·.i)) := by
        have h := hok
        rw [hsplit, List.map_append, List.map_cons] at h
        rw [List.map_append]
        exact h.next
      have hlen : (M1 ++ M2).length = n := by
        rw [hsplit] at hM
        simp at hM ⊢
        omega
      obtain ⟨x, hx1, hx2, hx3, hx4⟩ := hG m hm
      rw [hsplit] at hap
      have hap2 := List.pairwise_append.1 hap
      have hap3 := List.pairwise_cons.1 hap2.2.1
      have hapm : ∀ m' ∈ M1 ++ M2, apB ops m.i m'.i = true := fun m' hm' => by
        rcases List.mem_append.1 hm' with q | q
        · exact (hap2.2.2 m' q m (by simp)).2
        · exact (hap3.1 m' q).1
      have hmem : ∀ m' ∈ M1 ++ M2, m' ∈ M := fun m' hm' => by
        rw [hsplit]
        rcases List.mem_append.1 hm' with q | q
        · exact List.mem_append_left _ q
        · exact List.mem_append_right _ (List.mem_cons_of_mem _ q)
      unfold wpOp
      simp only [hx1]
      rw [if_pos hx3]
      refine .inl ?_
      unfold Oper.wp
      rw [hx4 w]
      refine ⟨fun _ _ => hS _, ?_⟩
      rw [hx2]
      refine wpR.makes hS hx n (M1 ++ M2) k _ _ _ hlen (fun m' hm' => (hG m' (hmem m' hm')).put hx (hapm m' hm') hx1 hx2 _) h1 ?_ fun g w' hg hgn hgb hws hbel hgo => ?_
      · exact List.pairwise_append.2 ⟨hap2.1, hap3.2, fun m' hm' m'' hm'' => hap2.2.2 m' hm' m'' (List.mem_cons_of_mem _ hm'')⟩
      · have hsz : (w.alloc m.ob).heap.size = w.heap.size + 1 := by simp
        rw [hsz] at hgb hws hbel
        have hb0 : Below w.heap.size w (w.alloc m.ob) := ⟨rfl, rfl, rfl, by simp, fun k hk => heap_alloc_old _ _ hk⟩
        have hlg1 : (g.take j).length = M1.length := by
          rw [List.length_take, hl1]
          have : M1.length ≤ g.length := by rw [hg, ← hlen]; simp
          omega
        have hcomm : ∀ m' ∈ M1, ∀ (b : Act) u, (b.put m.d (m.vf w.heap.size)).put m'.d u = (b.put m'.d u).put m.d (m.vf w.heap.size) := fun m' hm' b u => by
          obtain ⟨y, hy1, hy2, -, -⟩ := hG m' (hmem m' (List.mem_append_left _ hm'))
          have hh := hapm m' (List.mem_append_left _ hm')
          unfold apB at hh
          rw [hx1, hy1] at hh
          dsimp only at hh
          rw [Bool.and_eq_true] at hh
          rw [← hx2, ← hy2]
          exact (Act.put_comm b _ u (Oper.apart_spec hh.1).2.1)
        have h3 := H (g.take j ++ w.heap.size :: g.drop j) w' ?_ ?_ ?_ (by rw [hws]; omega) (hb0.trans (hbel.mono (by omega))) ?_
        · have e1 : setAll l M = setAll (l.setIfInBounds m.i true) (M1 ++ M2) := by
            rw [hsplit, setAll_append, setAll_append]
            show setAll ((setAll l M1).setIfInBounds m.i true) M2 = _
            rw [setAll_set, setAll_set, setAll_set]
          have e2 : putAll a M (g.take j ++ w.heap.size :: g.drop j) = putAll (a.put m.d (m.vf w.heap.size)) (M1 ++ M2) g := by
            conv => rhs; rw [← List.take_append_drop j g]
            rw [hsplit, putAll_append _ _ _ _ _ hlg1, putAll_append _ _ _ _ _ hlg1, putAll_put _ _ _ _ _ hcomm]
            rfl
          rw [e1, e2] at h3
          exact h3
        · have : j ≤ g.length := by have := congrArg List.length (List.take_append_drop j g); rw [hg, ← hlen, List.length_append, hl1]; omega
          simp only [List.length_append, List.length_take, List.length_cons, List.length_drop]
          omega
        · have hnw : ∀ b ∈ g, b ≠ w.heap.size := fun b hb => by have := (hgb b hb).1; omega
          have hnd := hgn
          rw [← List.take_append_drop j g, List.nodup_append] at hnd
          refine List.nodup_append.2 ⟨hnd.1, List.nodup_cons.2 ⟨fun q => hnw _ (List.mem_of_mem_drop q) rfl, hnd.2.1⟩, fun b hb c hc => ?_⟩
          rcases List.mem_cons.1 hc with q | q
          · rw [q]; exact hnw b (List.mem_of_mem_take hb)
          · exact hnd.2.2 b hb c q
        · intro b hb
          rcases List.mem_append.1 hb with q | q
          · have := hgb b (List.mem_of_mem_take q); omega
          · rcases List.mem_cons.1 q with q | q
            · rw [q]; omega
            · have := hgb b (List.mem_of_mem_drop q); omega
        · intro t m' b ht hb
          rw [hsplit] at ht
          rcases Nat.lt_trichotomy t j with q | q | q
          · rw [List.getElem?_append_left (by omega)] at ht hb
            refine hgo t m' b ?_ ?_
            · rw [List.getElem?_append_left (by omega)]; exact ht
            · rw [List.getElem?_take_of_lt q] at hb; exact hb
          · subst q
            rw [List.getElem?_append_right (by omega)] at ht hb
            rw [hl1] at ht
            rw [hlg1, hl1] at hb
            simp at ht hb
            subst ht hb
            rw [hbel.block _ (by omega)]
            exact heap_alloc_new w m.ob
          · rw [List.getElem?_append_right (by omega)] at ht hb
            rw [hl1] at ht
            rw [hlg1, hl1] at hb
            obtain ⟨s, hs⟩ : ∃ s, t - j = s + 1 := ⟨t - j - 1, by omega⟩
            rw [hs, List.getElem?_cons_succ] at ht hb
            refine hgo (t - 1) m' b ?_ ?_
            · rw [List.getElem?_append_right (by omega), hl1, show t - 1 - j = s by omega]
              exact ht
            · rw [List.getElem?_drop] at hb
              rw [show t - 1 = j + s by omega]
              exact hb

end

end Go.Proofs.Ytfofabbnbmieoaa.Ord
