/- A heap and a heap of the reference side by side; an argument that is a slice of calls. -/
import Derived.Test.YtfhpjaabcegefaaRefC
import Derived.Test.YtfhpjaabcegefaaWCopies
namespace Go.Proofs.Ytfhpjaabcegefaa.Ord
open Go.RowKit Go.ChangeShapes Go.WideShapes Go.ChangeAt

/-- A heap of the reference that was made behind the world w0, in blocks from B on. -/
structure RB (B : Nat) (w0 w : World) (b : Nat) (S : Nat → Prop) (A : List Int) (In : List Bool) : Prop where
  heap : RHeap w b S A In
  bel : Below B w0 w
  le : B ≤ w.heap.size
  at' : ∀ k, S k → B ≤ k ∧ k < w.heap.size

theorem rb_touch {B b : Nat} {S T : Nat → Prop} {A : List Int} {In : List Bool} {w0 w w' : World} (h : RB B w0 w b S A In) (ht : Touch T w w') (hd : ∀ k, S k → ¬ T k) (hT : ∀ k, T k → B ≤ k) : RB B w0 w' b S A In :=
  ⟨rheap_touch h.heap ht hd, h.bel.trans (ht.below h.le hT), Nat.le_trans h.le ht.size, fun k hk => ⟨(h.at' k hk).1, Nat.lt_of_lt_of_le (h.at' k hk).2 ht.size⟩⟩
theorem rb_step {B b : Nat} {S : Nat → Prop} {A A' : List Int} {In In' : List Bool} {w0 w w' : World} (h : RB B w0 w b S A In) (h' : RHeap w' b S A' In') (ht : Touch S w w') : RB B w0 w' b S A' In' :=
  ⟨h', h.bel.trans (ht.below h.le fun k hk => (h.at' k hk).1), Nat.le_trans h.le ht.size, fun k hk => ⟨(h.at' k hk).1, Nat.lt_of_lt_of_le (h.at' k hk).2 ht.size⟩⟩

/-- Both. -/
def BR (B : Nat) (w0 w : World) (b : Nat) (A : List Int) (In : List Bool) (b2 : Nat) (A2 : List Int) (In2 : List Bool) : Prop :=
  ∃ S S2, HB B w0 w b S A In ∧ RB B w0 w b2 S2 A2 In2 ∧ ∀ k, S k → ¬ S2 k

section
variable {B : Nat} {w0 w w' : World} {b b2 : Nat} {A A2 A' A2' : List Int} {In In2 In' In2' : List Bool}

theorem BR.bel (h : BR B w0 w b A In b2 A2 In2) : Below B w0 w := by obtain ⟨_, _, h1, _⟩ := h; exact h1.bel
theorem BR.le (h : BR B w0 w b A In b2 A2 In2) : B ≤ w.heap.size := by obtain ⟨_, _, h1, _⟩ := h; exact h1.le
theorem BR.drewN (h : BR B w0 w b A In b2 A2 In2) (n : Nat) : BR B w0 (w.drewN n) b A In b2 A2 In2 := by
  obtain ⟨S, S2, h1, h2, h3⟩ := h
  exact ⟨S, S2, hb_drewN h1 n, ⟨rheap_drewN h2.heap n, below_dr h2.bel n, h2.le, h2.at'⟩, h3⟩
theorem BR.drew (h : BR B w0 w b A In b2 A2 In2) : BR B w0 w.drew b A In b2 A2 In2 := h.drewN 1
end

theorem br_New (n : Nat) (B : Nat) (w0 w : World) (hn : n ≤ 1048576) (hB : B ≤ w.heap.size) (b : Nat) (S : Nat → Prop) (A : List Int) (In : List Bool) (h : HB B w0 w b S A In) (x : Int) (hx : x = n) :
    Calls Try.prog 13 #[.int .i64 x] w fun e w' => ∃ b2, e = .returned (.tuple #[.pointer (some ⟨b2, 0, none⟩), .int .i64 0]) ∧ BR B w0 w' b A In b2 (List.replicate (n + 1) 0) (List.replicate n true) := by
  subst hx
  refine (ref_New n w hn).mono fun e w' hh => ?_
  obtain ⟨b2, S2, h1, h2, h3, h4⟩ := hh
  refine ⟨b2, h1, S, S2, hb_touch h (T := fun k => w.heap.size ≤ k) (touch_of_below h3) (fun k hk => by have := (h.at' k hk).2; omega) (fun k hk => by omega), ⟨h2, h.bel.trans (h3.mono hB), Nat.le_trans hB h3.size, fun k hk => ⟨Nat.le_trans hB (h4 k hk).1, (h4 k hk).2⟩⟩, fun k h5 h6 => ?_⟩
  have := (h.at' k h5).2
  have := (h4 k h6).1
  omega

theorem br_BumpH (b B b2 : Nat) (A A' : List Int) (In : List Bool) (A2 : List Int) (In2 : List Bool) (v by' e : Int) (w0 w : World) (he : bumpE A In.length v by' = e) (hA : bumpA A In.length v by' = A') (h : BR B w0 w b A In b2 A2 In2) :
    Calls Try.prog 14 #[.pointer (some ⟨b, 0, none⟩), .int .i64 v, .int .i64 by'] w fun x w' => x = .returned (.int .i64 e) ∧ BR B w0 w' b A' In b2 A2 In2 := by
  obtain ⟨S, S2, h1, h2, h3⟩ := h
  refine (hb_Bump b B S A A' In v by' e w0 w he hA h1).mono fun x w' hh => ⟨hh.1, S, S2, hh.2.1, rb_touch h2 hh.2.2 (fun k hk hk2 => h3 k hk2 hk) (fun k hk => (h1.at' k hk).1), h3⟩

theorem br_BumpQ (b B b2 : Nat) (A : List Int) (In : List Bool) (A2 A2' : List Int) (In2 : List Bool) (v by' e : Int) (w0 w : World) (he : bumpE A2 In2.length v by' = e) (hA : bumpA A2 In2.length v by' = A2') (h : BR B w0 w b A In b2 A2 In2) :
    Calls Try.prog 15 #[.pointer (some ⟨b2, 0, none⟩), .int .i64 v, .int .i64 by'] w fun x w' => x = .returned (.int .i64 e) ∧ BR B w0 w' b A In b2 A2' In2 := by
  obtain ⟨S, S2, h1, h2, h3⟩ := h
  subst hA
  refine (ref_Bump b2 S2 A2 In2 v by' e w he h2.heap).mono fun x w' hh => ⟨hh.1, S, S2, hb_touch h1 hh.2.2 (fun k hk hk2 => h3 k hk hk2) (fun k hk => (h2.at' k hk).1), rb_step h2 hh.2.1 hh.2.2, h3⟩

theorem br_PopH (b B b2 : Nat) (A : List Int) (In In' : List Bool) (A2 : List Int) (In2 : List Bool) (v e : Int) (w0 w : World) (hv : popV A In = v) (he : popE A In = e) (hI : popIn A In = In') (h : BR B w0 w b A In b2 A2 In2) :
    Calls Try.prog 16 #[.pointer (some ⟨b, 0, none⟩)] w fun x w' => x = .returned (.tuple #[.int .i64 v, .int .i64 e]) ∧ BR B w0 w' b A In' b2 A2 In2 := by
  obtain ⟨S, S2, h1, h2, h3⟩ := h
  refine (hb_Pop b B S A In In' v e w0 w hv he hI h1).mono fun x w' hh => ⟨hh.1, S, S2, hh.2.1, rb_touch h2 hh.2.2 (fun k hk hk2 => h3 k hk2 hk) (fun k hk => (h1.at' k hk).1), h3⟩

theorem br_PopQ (b B b2 : Nat) (A : List Int) (In : List Bool) (A2 : List Int) (In2 In2' : List Bool) (v e : Int) (w0 w : World) (hv : popV A2 In2 = v) (he : popE A2 In2 = e) (hI : popIn A2 In2 = In2') (h : BR B w0 w b A In b2 A2 In2) :
    Calls Try.prog 17 #[.pointer (some ⟨b2, 0, none⟩)] w fun x w' => x = .returned (.tuple #[.int .i64 v, .int .i64 e]) ∧ BR B w0 w' b A In b2 A2 In2' := by
  obtain ⟨S, S2, h1, h2, h3⟩ := h
  subst hI
  refine (ref_Pop b2 S2 A2 In2 v e w hv he h2.heap).mono fun x w' hh => ⟨hh.1, S, S2, hb_touch h1 hh.2.2 (fun k hk hk2 => h3 k hk hk2) (fun k hk => (h2.at' k hk).1), rb_step h2 hh.2.1 hh.2.2, h3⟩

theorem br_PushH (b B b2 : Nat) (A : List Int) (In In' : List Bool) (A2 : List Int) (In2 : List Bool) (v e : Int) (w0 w : World) (he : pushE In.length v = e) (hI : pushIn In v = In') (h : BR B w0 w b A In b2 A2 In2) :
    Calls Try.prog 24 #[.pointer (some ⟨b, 0, none⟩), .int .i64 v] w fun x w' => x = .returned (.int .i64 e) ∧ BR B w0 w' b A In' b2 A2 In2 := by
  obtain ⟨S, S2, h1, h2, h3⟩ := h
  refine (hb_Push b B S A In In' v e w0 w he hI h1).mono fun x w' hh => ⟨hh.1, ?_⟩
  obtain ⟨S', h4, h5, h6⟩ := hh.2
  refine ⟨S', S2, h4, rb_touch h2 h5 (fun k hk hk2 => h3 k hk2 hk) (fun k hk => (h1.at' k hk).1), fun k h7 h8 => ?_⟩
  rcases h6 k h7 with h9 | h9
  · exact h3 k h9 h8
  · have := (h2.at' k h8).2; omega

theorem br_PushQ (b B b2 : Nat) (A : List Int) (In : List Bool) (A2 : List Int) (In2 In2' : List Bool) (v e : Int) (w0 w : World) (he : pushE In2.length v = e) (hI : pushIn In2 v = In2') (h : BR B w0 w b A In b2 A2 In2) :
    Calls Try.prog 26 #[.pointer (some ⟨b2, 0, none⟩), .int .i64 v] w fun x w' => x = .returned (.int .i64 e) ∧ BR B w0 w' b A In b2 A2 In2' := by
  obtain ⟨S, S2, h1, h2, h3⟩ := h
  subst hI
  refine (ref_Push b2 S2 A2 In2 v e w he h2.heap).mono fun x w' hh => ⟨hh.1, S, S2, hb_touch h1 hh.2.2 (fun k hk hk2 => h3 k hk hk2) (fun k hk => (h2.at' k hk).1), rb_step h2 hh.2.1 hh.2.2, h3⟩

theorem br_HasH (b B b2 : Nat) (A : List Int) (In : List Bool) (A2 : List Int) (In2 : List Bool) (v : Int) (r : Bool) (w0 w : World) (hr : (decide (1 ≤ v) && (In[(v - 1).toNat]? == some true)) = r) (h : BR B w0 w b A In b2 A2 In2) :
    Calls Try.prog 25 #[.pointer (some ⟨b, 0, none⟩), .int .i64 v] w fun e w' => e = .returned (.bool r) ∧ w = w' := by
  obtain ⟨S, S2, h1, h2, h3⟩ := h
  exact heap_Has b S A In v r w hr h1.heap
theorem br_HasQ (b B b2 : Nat) (A : List Int) (In : List Bool) (A2 : List Int) (In2 : List Bool) (v : Int) (r : Bool) (w0 w : World) (hr : (decide (1 ≤ v) && (In2[(v - 1).toNat]? == some true)) = r) (h : BR B w0 w b A In b2 A2 In2) :
    Calls Try.prog 27 #[.pointer (some ⟨b2, 0, none⟩), .int .i64 v] w fun e w' => e = .returned (.bool r) ∧ w = w' := by
  obtain ⟨S, S2, h1, h2, h3⟩ := h
  exact ref_Has b2 S2 A2 In2 v r w hr h2.heap
theorem br_LenH (b B b2 : Nat) (A : List Int) (In : List Bool) (A2 : List Int) (In2 : List Bool) (n : Int) (w0 w : World) (hn : ((In.countP id : Nat) : Int) = n) (h : BR B w0 w b A In b2 A2 In2) :
    Calls Try.prog 18 #[.pointer (some ⟨b, 0, none⟩)] w fun e w' => e = .returned (.int .i64 n) ∧ w = w' := by
  obtain ⟨S, S2, h1, h2, h3⟩ := h
  exact heap_Len b S A In n w hn h1.heap
theorem br_LenQ (b B b2 : Nat) (A : List Int) (In : List Bool) (A2 : List Int) (In2 : List Bool) (n : Int) (w0 w : World) (hn : ((In2.countP id : Nat) : Int) = n) (h : BR B w0 w b A In b2 A2 In2) :
    Calls Try.prog 19 #[.pointer (some ⟨b2, 0, none⟩)] w fun e w' => e = .returned (.int .i64 n) ∧ w = w' := by
  obtain ⟨S, S2, h1, h2, h3⟩ := h
  exact ref_Len b2 S2 A2 In2 n w hn h2.heap

/-- New memory leaves both as they are. -/
theorem br_keep {B : Nat} {w0 w w' : World} {b b2 : Nat} {A A2 : List Int} {In In2 : List Bool} (h : BR B w0 w b A In b2 A2 In2) (hb : Below w.heap.size w w') : BR B w0 w' b A In b2 A2 In2 := by
  obtain ⟨S, S2, h1, h2, h3⟩ := h
  have ht : Touch (fun k => w.heap.size ≤ k) w w' := touch_of_below hb
  exact ⟨S, S2, hb_touch h1 ht (fun k hk hk2 => by have := (h1.at' k hk).2; omega) (fun k hk => by have := h1.le; omega), rb_touch h2 ht (fun k hk hk2 => by have := (h2.at' k hk).2; omega) (fun k hk => by have := h1.le; omega), h3⟩

/-- A copy of the heap. -/
theorem br_CopyH (b B b2 : Nat) (A : List Int) (In : List Bool) (A2 : List Int) (In2 : List Bool) (w0 w : World) (h : BR B w0 w b A In b2 A2 In2) :
    Calls Try.prog 22 #[.pointer (some ⟨b, 0, none⟩)] w fun e w' => ∃ b' S', e = .returned (.pointer (some ⟨b', 0, none⟩)) ∧ HB w.heap.size w w' b' S' A In := by
  obtain ⟨S, S2, h1, h2, h3⟩ := h
  refine (hb_Copy b B S A In w0 w h1).mono fun e w' hh => ?_
  obtain ⟨b', S', h4, h5, h6, h7⟩ := hh
  exact ⟨b', S', h4, h5.heap, h6.below (Nat.le_refl _) (fun k hk => hk), h6.size, h7⟩

/-- A copy of the reference's heap. -/
theorem br_CopyQ (b B b2 : Nat) (A : List Int) (In : List Bool) (A2 : List Int) (In2 : List Bool) (w0 w : World) (h : BR B w0 w b A In b2 A2 In2) :
    Calls Try.prog 28 #[.pointer (some ⟨b2, 0, none⟩)] w fun e w' => ∃ b' S', e = .returned (.pointer (some ⟨b', 0, none⟩)) ∧ RB w.heap.size w w' b' S' A2 In2 := by
  obtain ⟨S, S2, h1, h2, h3⟩ := h
  refine (ref_Copy b2 S2 A2 In2 w h2.heap).mono fun e w' hh => ?_
  obtain ⟨b', S', h4, h5, h6, h7⟩ := hh
  exact ⟨b', S', h4, h5, h6, h6.size, h7⟩

theorem rb_Pop (b B : Nat) (S : Nat → Prop) (A : List Int) (In In' : List Bool) (v e : Int) (w0 w : World) (hv : popV A In = v) (he : popE A In = e) (hI : popIn A In = In') (h : RB B w0 w b S A In) :
    Calls Try.prog 17 #[.pointer (some ⟨b, 0, none⟩)] w fun x w' => x = .returned (.tuple #[.int .i64 v, .int .i64 e]) ∧ RB B w0 w' b S A In' := by
  subst hI
  exact (ref_Pop b S A In v e w hv he h.heap).mono fun x w' hh => ⟨hh.1, rb_step h hh.2.1 hh.2.2⟩

/-- The value reads as a slice of calls: what, variable, number. -/
def ArgC (w : World) (v : Value) (cs : List (Int × Int × Int)) : Prop :=
  ∃ a c, v = .slice a cs.length c ∧ cs.length ≤ c ∧ c ≤ maxLen ∧ (a = none → c = 0) ∧
    ∀ j q, cs[j]? = some q → ∃ b off, a = some ⟨b, off, none⟩ ∧ w.cell? ⟨b, off + j * 3, none⟩ = some (.int .u8 q.1) ∧ w.cell? ⟨b, off + j * 3 + 1, none⟩ = some (.int .i64 q.2.1) ∧ w.cell? ⟨b, off + j * 3 + 2, none⟩ = some (.int .i64 q.2.2) ∧
      (Lit.int .u8 q.1).wf = true ∧ (Lit.int .i64 q.2.1).wf = true ∧ (Lit.int .i64 q.2.2).wf = true

end Go.Proofs.Ytfhpjaabcegefaa.Ord
