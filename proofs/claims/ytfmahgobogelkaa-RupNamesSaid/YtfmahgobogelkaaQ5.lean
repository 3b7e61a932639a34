/- Plain facts about what rup's Check answers. -/
import Derived.Test.YtfmahgobogelkaaQ4

namespace Go.Proofs.Ytfmahgobogelkaa.Ord

/-- The negatives. -/
def negs (c : List Int) : List Int := c.map fun a => -a

theorem mem_negs {c : List Int} {a : Int} : a ∈ negs c ↔ -a ∈ c := by
  unfold negs
  rw [List.mem_map]
  constructor
  · rintro ⟨b, hb, rfl⟩; rw [Int.neg_neg]; exact hb
  · intro h; exact ⟨-a, h, Int.neg_neg a⟩

/-- How many clauses of a proof are implied, each by the formula and those before it. -/
noncomputable def rupGo (F : List (List Int)) : List (List Int) → Nat
  | [] => 0
  | c :: P => if upF F (negs c) = true then rupGo (F ++ [c]) P + 1 else 0

/-- The error of Check. -/
def rupErr (n : Int) (F P : List (List Int)) : Int := if cnfCheck n F = 0 then (match P.find? (fun c => litCheck n c != 0) with | some c => litCheck n c | none => 0) else cnfCheck n F

/-- What Check answers. -/
noncomputable def rupV (n : Int) (F P : List (List Int)) : Int × Int :=
  if rupErr n F P = 0 then (if rupGo F P < P.length then (rupGo F P : Int) else if P.getLast? = some [] then -1 else (P.length : Int), 0) else (0, rupErr n F P)

theorem rupGo_le : ∀ (F P : List (List Int)), rupGo F P ≤ P.length
  | _, [] => Nat.le_refl _
  | F, c :: P => by
    unfold rupGo
    split
    · have := rupGo_le (F ++ [c]) P
      simp; omega
    · simp

theorem rupGo_ge : ∀ {F P : List (List Int)} {k : Nat}, (∀ (i : Nat) (c : List Int), i < k → P[i]? = some c → upF (F ++ P.take i) (negs c) = true) → k ≤ P.length → k ≤ rupGo F P
  | _, _, 0, _, _ => Nat.zero_le _
  | F, [], k + 1, _, h => by simp at h
  | F, c :: P, k + 1, h, hk => by
    have h0 := h 0 c (by omega) rfl
    simp at h0
    unfold rupGo
    rw [if_pos h0]
    have := rupGo_ge (F := F ++ [c]) (P := P) (k := k) (fun i d hi hd => by
      have := h (i + 1) d (by omega) (by simpa using hd)
      rw [List.append_assoc]
      simpa using this) (by simp at hk; omega)
    omega

theorem rupGo_at : ∀ {F P : List (List Int)} {k : Nat} {c : List Int}, (∀ (i : Nat) (c : List Int), i < k → P[i]? = some c → upF (F ++ P.take i) (negs c) = true) → P[k]? = some c → upF (F ++ P.take k) (negs c) = false → rupGo F P = k
  | F, [], k, c, _, hc, _ => by simp at hc
  | F, d :: P, 0, c, _, hc, h => by
    simp at hc
    subst hc
    simp at h
    unfold rupGo
    rw [if_neg (by rw [h]; simp)]
  | F, d :: P, k + 1, c, h, hc, hn => by
    have h0 := h 0 d (by omega) rfl
    simp at h0
    unfold rupGo
    rw [if_pos h0]
    rw [rupGo_at (F := F ++ [d]) (P := P) (k := k) (c := c) (fun i e hi he => by
      have := h (i + 1) e (by omega) (by simpa using he)
      rw [List.append_assoc]
      simpa using this) (by simpa using hc) (by
      rw [List.append_assoc]
      simpa using hn)]

/-- The clauses that are counted are implied. -/
theorem rupGo_true : ∀ {F P : List (List Int)} (i : Nat) (c : List Int), i < rupGo F P → P[i]? = some c → upF (F ++ P.take i) (negs c) = true
  | F, [], i, c, _, hc => by simp at hc
  | F, d :: P, i, c, h, hc => by
    unfold rupGo at h
    split at h
    · rename_i h0
      match i, hc with
      | 0, hc =>
        simp at hc
        subst hc
        simpa using h0
      | i + 1, hc =>
        have := rupGo_true (F := F ++ [d]) (P := P) i c (by omega) (by simpa using hc)
        rw [List.append_assoc] at this
        simpa using this
    · omega

/-- The clause at which it stops is not. -/
theorem rupGo_false : ∀ {F P : List (List Int)} {c : List Int}, P[rupGo F P]? = some c → upF (F ++ P.take (rupGo F P)) (negs c) = false
  | F, [], c, hc => by simp at hc
  | F, d :: P, c, hc => by
    by_cases h0 : upF F (negs d) = true
    · have e : rupGo F (d :: P) = rupGo (F ++ [d]) P + 1 := by
        conv => lhs; unfold rupGo
        rw [if_pos h0]
      rw [e] at hc ⊢
      have := rupGo_false (F := F ++ [d]) (P := P) (c := c) (by simpa using hc)
      rw [List.append_assoc] at this
      simpa using this
    · have e : rupGo F (d :: P) = 0 := by
        conv => lhs; unfold rupGo
        rw [if_neg h0]
      rw [e] at hc ⊢
      simp at hc
      subst hc
      simp
      simpa using h0

end Go.Proofs.Ytfmahgobogelkaa.Ord

/- The contract of what implies tries. -/
namespace Go.Proofs.Ytfmahgobogelkaa.Ord
open Go.RowKit Go.Conc

attribute [local go_sem ↓] Go.wp_at_zero Go.wp_at_succ
attribute [local go_sem ↓ high] app_mark

/-- What is left behind implies' function. -/
def impR (tag : Nat → RT) (B : Nat) (w0 w : World) (bx bw bk : Nat) (vc : Value) (C : List (List Int)) (us : List Value) (K : List Int) (n : Nat) (p : Prop) (w' : World) : Prop :=
  ∃ (tag' : Nat → RT) (vt' : Value) (dn' : Nat) (C' : List (List Int)) (es' : List (Int × Value)) (Wt' : Int → List Nat) (K' : List Int), RM tag' B w0 w' bx bw bk vc vt' dn' C' us es' Wt' K' ∧ (∃ R, K' = K ++ R) ∧ WI n C' Wt' ∧ PrB C' K ∧ CP C C' ∧ K'.length ≤ n ∧ TG tag tag' w ∧ Touch (ST tag bx bw bk) w w' ∧ p

/-- While the negatives are set. -/
structure IS (tag : Nat → RT) (B : Nat) (w0 w : World) (bx bw bk : Nat) (vc : Value) (C : List (List Int)) (us : List Value) (es : List (Int × Value)) (Wt : Int → List Nat) (K : List Int) (n : Nat) (c : List Int) (wr : World) (k : Nat) (tag' : Nat → RT) (vt' : Value) (R : List Int) : Prop where
  rm : RM tag' B w0 wr bx bw bk vc vt' K.length C us es Wt (K ++ R)
  cons : ∀ x ∈ K ++ R, -x ∉ K ++ R
  nod : (K ++ R).Nodup
  kok : ∀ x ∈ K ++ R, LitOk n x
  sub : ∀ x ∈ R, x ∈ negs c
  all : ∀ x ∈ c.take k, -x ∈ K ++ R
  tg : TG tag tag' w
  tt : Touch (ST tag bx bw bk) w wr

theorem IS.bad {tag : Nat → RT} {B : Nat} {w0 w : World} {bx bw bk : Nat} {vc : Value} {C : List (List Int)} {us : List Value} {es : List (Int × Value)} {Wt : Int → List Nat} {K : List Int} {n : Nat} {c : List Int} {wr : World} {k : Nat} {tag' : Nat → RT} {vt' : Value} {R : List Int} (h : IS tag B w0 w bx bw bk vc C us es Wt K n c wr k tag' vt' R) {F : List (List Int)} (hT : Top n F C Wt K) {a : Int} (ha : c[k]? = some a) (hk : a ∈ K ++ R) : Bad F (negs c) := by
  have h1 : Der F (negs c) a := by
    rcases List.mem_append.1 hk with q | q
    · exact der_mono (sub_of_subset fun _ h => h) (fun _ h => by simp at h) (hT.snd a q)
    · exact .asm (h.sub a q)
  exact .inl ⟨a, h1, .asm (mem_negs.2 (by rw [Int.neg_neg]; exact List.mem_of_getElem? ha))⟩

theorem setK_cons {n : Nat} {K : List Int} {a : Int} (h1 : ∀ x ∈ K, -x ∉ K) (h2 : K.Nodup) (h3 : ∀ x ∈ K, LitOk n x) (hn : -a ∉ K) (ho : LitOk n a) : (∀ x ∈ setK K a, -x ∉ setK K a) ∧ (setK K a).Nodup ∧ (∀ x ∈ setK K a, LitOk n x) ∧ ∃ R, setK K a = K ++ R ∧ ∀ x ∈ R, x = a := by
  by_cases q : a ∈ K
  · rw [setK_pos hn q]; exact ⟨h1, h2, h3, [], by simp, by simp⟩
  · rw [setK_new hn q]
    refine ⟨fun x hx hm => ?_, List.nodup_append.2 ⟨h2, by simp, fun x hx y hy => ?_⟩, fun x hx => ?_, [a], rfl, by simp⟩
    · rcases List.mem_append.1 hx with q | q <;> rcases List.mem_append.1 hm with p | p
      · exact h1 x q p
      · have e : -x = a := by simpa using p
        exact hn (by rw [← e, Int.neg_neg]; exact q)
      · have e : x = a := by simpa using q
        exact hn (by rw [← e]; exact p)
      · have e1 : x = a := by simpa using q
        have e2 : -x = a := by simpa using p
        have := ho.1
        omega
    · have : y = a := by simpa using hy
      rintro rfl
      exact q (this ▸ hx)
    · rcases List.mem_append.1 hx with q | q
      · exact h3 x q
      · have : x = a := by simpa using q
        rw [this]; exact ho

set_option maxRecDepth 100000 in
set_option maxHeartbeats 8000000 in
theorem rup_imp1 (tag : Nat → RT) (B : Nat) (w0 w : World) (bx bw bk : Nat) (vc vt : Value) (C : List (List Int)) (us : List Value) (es : List (Int × Value)) (Wt : Int → List Nat) (K : List Int) (n : Nat) (F : List (List Int)) (c : List Int) (ac : Option Addr) (cc b1 b2 : Nat)
    (h : RM tag B w0 w bx bw bk vc vt K.length C us es Wt K) (hT : Top n F C Wt K) (hn : n ≤ 1048576) (hC : C.length ≤ 2199023255551) (_hs : SlV w ac (ints c)) (hok : ∀ x ∈ c, LitOk n x) (hcl : c.length ≤ 4294967296) (hF : ClsOk n F)
    (hb1 : Bx tag B bx bw bk w b1 22 (.slice ac c.length cc)) (hb2 : Bx tag B bx bw bk w b2 89 (.pointer (some ⟨bx, 0, none⟩))) (hsc : ∀ w', Touch (ST tag bx bw bk) w w' → SlV w' ac (ints c)) :
    Calls Try.prog 87 #[.pointer (some ⟨b1, 0, none⟩), .pointer (some ⟨b2, 0, none⟩)] w fun e w' => (e = .returned (.tuple #[]) ∧ impR tag B w0 w bx bw bk vc C us K n (¬ Bad F (negs c)) w') ∨ (((e = .panicked [{ v := failV, recovered := false }]) ∨ e = .panicked failP) ∧ impR tag B w0 w bx bw bk vc C us K n (Bad F (negs c)) w') := by
  obtain ⟨Q, hQ⟩ : ∃ Q : Ending → World → Prop, (fun e w' => (e = .returned (.tuple #[]) ∧ impR tag B w0 w bx bw bk vc C us K n (¬ Bad F (negs c)) w') ∨ (((e = .panicked [{ v := failV, recovered := false }]) ∨ e = .panicked failP) ∧ impR tag B w0 w bx bw bk vc C us K n (Bad F (negs c)) w')) = Q := ⟨_, rfl⟩
  rw [hQ]
  have HQ := hid hQ
  have p1 := hb1.cell
  have p2 := hb2.cell
  have HI : Hid (IS tag B w0 w bx bw bk vc C us es Wt K n c w 0 tag vt []) := hid ⟨by rw [List.append_nil]; exact h, by rw [List.append_nil]; exact hT.cons, by rw [List.append_nil]; exact hT.nod, by rw [List.append_nil]; exact hT.kok, by simp, by simp, TG.refl _ _, Touch.refl _ _⟩
  have HT := hid hT
  have HO := hid (And.intro hok (And.intro hn (And.intro hC hF)))
  have HS := hid hsc
  have HB := hid hb2
  have HCP : Hid (CP C C) := hid (CP.refl hT.wi.nodup)
  clear hQ h hT hn hC hok hF hb1 hb2 hsc _hs
  obtain ⟨N, hN⟩ : ∃ N, c.length = N := ⟨_, rfl⟩
  rw [hN] at p1 hcl
  have HNN := hid hN
  clear hN
  go_enter Try.func87, Try.ntmps87
  go_wp2_with fail
  go_loopw [6] (fun s6 wr => ∃ (k : Nat) (tag' : Nat → RT) (vt' : Value) (R : List Int), s6 = .int .i64 k ∧ k ≤ N ∧ Hid (IS tag B w0 w bx bw bk vc C us es Wt K n c wr k tag' vt' R)) (fun s6 _ => (N - (intOf s6)).toNat)
  case atStart => exact ⟨0, tag, vt, [], rfl, by omega, HI⟩
  case round =>
    obtain ⟨k, tag1, vt1, R, rfl, hkN, HJ⟩ := hrel
    have p2 := (HB.out.keep HJ.out.tt HB.out.not HJ.out.tg).cell
    by_cases hlt : k < N
    · have hlt2 : (k : Int) < N := by omega
      obtain ⟨a, ha⟩ : ∃ a, c[k]? = some a := ⟨_, List.getElem?_eq_getElem (by rw [HNN.out]; exact hlt)⟩
      obtain ⟨b, off, hac, hca⟩ := HS.out _ HJ.out.tt k (.int .i64 a) (ints_get ha)
      subst hac
      have hao := HO.out.1 a (List.mem_of_getElem? ha)
      have hwa : IntKind.i64.wrap (-a) = -a := IntWalk.i64_in _ (by unfold LitOk at hao; have := HO.out.2.1; omega)
      have hwk : IntKind.i64.wrap ((k : Int) + 1) = (k : Int) + 1 := IntWalk.i64_in _ (by omega)
      have hlen := lits_le HJ.out.nod HJ.out.cons HJ.out.kok
      have HSET := hid (rup_set tag1 B w0 wr bx bw bk vc vt1 K.length C us es Wt (K ++ R) (-a) HJ.out.rm (by unfold LitOk at hao; have := HO.out.2.1; omega) (by have := HO.out.2.1; omega))
      have HA := hid (And.intro ha hao)
      clear ha hao hlen
      go_wp2_with fail
      by_cases hin : a ∈ K ++ R
      · refine HSET.out.mono ?_
        rintro e w2 ⟨h1, -⟩
        obtain ⟨rfl, rfl⟩ := h1 (by rw [Int.neg_neg]; exact hin)
        have HF : Hid (Q (.panicked [{ v := failV, recovered := false }]) w2) := hid (by
          rw [← HQ.out]
          exact .inr ⟨.inl rfl, tag1, vt1, K.length, C, es, Wt, K ++ R, HJ.out.rm, ⟨R, rfl⟩, HT.out.wi, HT.out.bp, HCP.out, lits_le HJ.out.nod HJ.out.cons HJ.out.kok, HJ.out.tg, HJ.out.tt, HJ.out.bad HT.out HA.out.1 hin⟩)
        clear h1 hin
        go_wp2_with fail
        exact ⟨rfl, HF.out⟩
      · refine HSET.out.mono ?_
        rintro e w2 ⟨-, h1⟩
        obtain ⟨rfl, tag2, vt2, hR, htg, hTs⟩ := h1 (by rw [Int.neg_neg]; exact hin)
        obtain ⟨c1, c2, c3, R2, hK2, hR2⟩ := setK_cons HJ.out.cons HJ.out.nod HJ.out.kok (a := -a) (by rw [Int.neg_neg]; exact hin) (by have := HA.out.2; unfold LitOk at this ⊢; omega)
        have hmk := setK_mem (K := K ++ R) (x := -a) (by rw [Int.neg_neg]; exact hin)
        rw [hK2, List.append_assoc] at c1 c2 c3 hR hmk
        have HJ2 : Hid (IS tag B w0 w bx bw bk vc C us es Wt K n c w2 (k + 1) tag2 vt2 (R ++ R2)) := hid ⟨hR, c1, c2, c3, fun x hx => by
            rcases List.mem_append.1 hx with q | q
            · exact HJ.out.sub x q
            · rw [hR2 x q]; exact mem_negs.2 (by rw [Int.neg_neg]; exact List.mem_of_getElem? HA.out.1), fun x hx => by
            rw [List.take_add_one, HA.out.1] at hx
            rcases List.mem_append.1 hx with q | q
            · rw [← List.append_assoc]; exact List.mem_append_left _ (HJ.out.all x q)
            · have : x = a := by simpa using q
              rw [this]; exact hmk, HJ.out.tg.trans (TG.of_eq htg) HJ.out.tt.size, HJ.out.tt.st HJ.out.tg (hTs.mono fun k _ hk => by
              rcases hk with e | e | e
              · exact .inl e
              · exact .inr (.inr (.inl e))
              · exact .inr (.inr (.inr (by rw [HJ.out.rm.trt k e]; nofun))))⟩
        clear h1 hin hR htg hTs c1 c2 c3 hK2 hR2 hmk hca p2
        go_wp2_with fail
        go_roundw
        case rel => exact ⟨k + 1, _, _, _, by simp, by omega, HJ2⟩
        case measure => simp [intOf]; omega
    · have hke : k = N := by omega
      subst hke
      have hlt2 : ¬ (k : Int) < k := by omega
      have hallc : ∀ x ∈ c, -x ∈ K ++ R := fun x hx => HJ.out.all x (by rw [List.take_of_length_le (by rw [HNN.out]; exact Nat.le_refl _)]; exact hx)
      have hri := HT.out.start (A := negs c) (R := R) rfl HJ.out.cons HJ.out.nod HJ.out.kok HJ.out.sub
      have HRUN := hid (rup_run tag1 B w0 wr bx bw bk vc vt1 K.length C us es Wt (K ++ R) K n F (negs c) HJ.out.rm hri HO.out.2.1 HO.out.2.2.1)
      have HALL := hid hallc
      clear hallc hri hlt hkN
      go_wp2_with fail
      refine HRUN.out.mono ?_
      rintro e w10 ⟨tag8, vt8, dn8, C8, es8, Wt8, K8, hM8, ⟨R8, hpre⟩, hcp, htg, hT8, hor⟩
      have hTT := HJ.out.tt.st HJ.out.tg hT8
      have hGG := HJ.out.tg.trans htg HJ.out.tt.size
      rcases hor with ⟨rfl, hd, hri⟩ | ⟨rfl, hwi, hpb, hbad, hcn, hko⟩
      · subst hd
        have HF : Hid (Q (.returned (.tuple #[])) w10) := hid (by
          rw [← HQ.out]
          refine .inl ⟨rfl, tag8, vt8, _, C8, es8, Wt8, K8, hM8, ⟨R ++ R8, by rw [hpre, List.append_assoc]⟩, hri.wi, hri.bp, hcp, lits_le hri.nod hri.cons hri.kok, hGG, hTT, ?_⟩
          refine (hri.done HO.out.2.2.2 (HT.out.all.cp hcp fun x hx => by rw [hpre, List.append_assoc]; exact List.mem_append_left _ hx) fun x hx => ?_).good
          have := HALL.out (-x) (mem_negs.1 hx)
          rw [Int.neg_neg] at this
          rw [hpre]
          exact List.mem_append_left _ this)
        clear hM8 hcp htg hT8 hTT hGG hri hpre p2
        go_wp2_with fail
        exact ⟨rfl, _, results_none rfl _ _ _, HF.out⟩
      · have HF : Hid (Q (.panicked failP) w10) := hid (by
          rw [← HQ.out]
          exact .inr ⟨.inr rfl, tag8, vt8, _, C8, es8, Wt8, K8, hM8, ⟨R ++ R8, by rw [hpre, List.append_assoc]⟩, hwi, hpb, hcp, lits_le (kes_nodup hM8.kn) hcn hko, hGG, hTT, hbad⟩)
        clear hM8 hcp htg hT8 hTT hGG hwi hpb hbad hpre p2 hcn hko
        go_wp2_with fail
        exact ⟨rfl, HF.out⟩

end Go.Proofs.Ytfmahgobogelkaa.Ord

/- The contract of rup's implies. -/
namespace Go.Proofs.Ytfmahgobogelkaa.Ord
open Go.RowKit Go.Conc

attribute [local go_sem ↓] Go.wp_at_zero Go.wp_at_succ
attribute [local go_sem ↓ high] app_mark

/-- What implies leaves. -/
def impliesR (tag : Nat → RT) (B : Nat) (w0 w : World) (bx bw bk : Nat) (vc : Value) (C : List (List Int)) (us : List Value) (K : List Int) (n : Nat) (F : List (List Int)) (c : List Int) (e : Ending) (w' : World) : Prop :=
  e = .returned (.bool (upF F (negs c))) ∧ ∃ (tag' : Nat → RT) (vt' : Value) (C' : List (List Int)) (es' : List (Int × Value)) (Wt' : Int → List Nat), RM tag' B w0 w' bx bw bk vc vt' K.length C' us es' Wt' K ∧ Top n F C' Wt' K ∧ C'.length = C.length ∧ TG tag tag' w ∧ Touch (ST tag bx bw bk) w w'

theorem adel_kes {K R : List Int} {a : Int} (h : (K ++ a :: R).Nodup) : adel (kes (K ++ a :: R)) a = kes (K ++ R) := by
  have h1 : ∀ x ∈ K, x ≠ a := fun x hx e => by
    have := (List.nodup_append.1 h).2.2 x hx a (by simp)
    exact this e
  have h2 : ∀ x ∈ R, x ≠ a := fun x hx e => by
    have := (List.nodup_cons.1 (List.nodup_append.1 h).2.1).1
    exact this (e ▸ hx)
  unfold adel kes
  rw [List.map_append, List.filter_append, List.map_cons, List.filter_cons_of_neg (by simp), List.filter_eq_self.2, List.filter_eq_self.2, List.map_append]
  · intro p hp
    obtain ⟨x, hx, rfl⟩ := List.mem_map.1 hp
    simpa using h2 x hx
  · intro p hp
    obtain ⟨x, hx, rfl⟩ := List.mem_map.1 hp
    simpa using h1 x hx

/-- A row from a place on. -/
theorem own_from {P : Program} {t : TypeId} {B : Nat} {w : World} {v : Value} {K R : List Int} (ht : P.underlying t = some (.slice 3)) (hsz : ∀ wx, (sizeOf 3).run P wx = .ok 1 wx) (h : w.ownsRow B 3 1 v (K ++ R).length (ints (K ++ R))) :
    ∃ A m c, (∀ wx, (Instr.slice t v (some (.int .i64 (K.length : Int))) none none).run P wx = .ok (.slice A m c) wx) ∧ m = R.length ∧ ∀ (j : Nat) (x : Int), R[j]? = some x → ∃ b off, A = some ⟨b, off, none⟩ ∧ v.ownBlock = some b ∧ w.cell? ⟨b, off + j, none⟩ = some (.int .i64 x) := by
  have he : P.elem t = 3 := by simp [Program.elem, ht]
  obtain ⟨a, c, rfl⟩ := own_lenV' h
  obtain ⟨-, q2, q3⟩ := own_cap h
  have hsl := own_slv h
  have hl : (K ++ R).length = K.length + R.length := by simp
  have hrun := fun wx => run_slice_l (P := P) wx t a (K ++ R).length c (by rw [he]; exact ht) .i64 K.length (by omega) (by omega)
  cases a with
  | none =>
    have := (q3 rfl).2
    refine ⟨none, R.length, c - K.length, fun wx => ?_, rfl, fun j x hj => ?_⟩
    · rw [hrun wx, he, hsz]
      have hk : K.length = 0 := by omega
      simp [sliced, Result.andThen]
    · have := (List.getElem?_eq_some_iff.1 hj).1
      omega
  | some ad =>
    by_cases hc : c = K.length
    · have hR : R = [] := List.eq_nil_of_length_eq_zero (by omega)
      subst hR
      refine ⟨some ad, 0, 0, fun wx => ?_, rfl, fun j x hj => by simp at hj⟩
      rw [hrun wx, he, hsz]
      simp [sliced, Result.andThen, hc]
    · refine ⟨some (ad.add (K.length * 1)), R.length, c - K.length, fun wx => ?_, rfl, fun j x hj => ?_⟩
      · rw [hrun wx, he, hsz]
        simp [sliced, Result.andThen, hc]
      · obtain ⟨b, off, e, hcell⟩ := hsl (K.length + j) (.int .i64 x) (ints_get (by rw [List.getElem?_append_right (by omega)]; simpa using hj))
        injection e with e
        subst e
        refine ⟨b, off + K.length, by simp [Addr.add], ?_, by rw [Nat.add_assoc]; exact hcell⟩
        rcases h.2 with ⟨h0, _⟩ | ⟨g', cap, cur, e1, e2, e3, e4, e5, e6, e7⟩
        · cases h0
        · injection e1 with a1 a2 a3
          injection a1 with a1
          injection a1 with a1
          rw [a1]; rfl

theorem own_len (a : Option Addr) (n m c : Nat) : (Value.slice a n c).ownBlock = (Value.slice a m c).ownBlock := by cases a <;> rfl

theorem CP.back {C C' : List (List Int)} (h : CP C C') {d : List Int} (hd : d ∈ C') : ∃ c ∈ C, Same c d := by
  obtain ⟨i, hi⟩ := List.mem_iff_getElem?.1 hd
  have hil := (List.getElem?_eq_some_iff.1 hi).1
  have hic : i < C.length := by rw [← h.1]; exact hil
  obtain ⟨e, he, hs⟩ := h.2 i C[i] (List.getElem?_eq_getElem hic)
  rw [hi] at he
  injection he with he
  subst he
  exact ⟨C[i], List.getElem_mem _, hs⟩

/-- What is undone behind implies' function. -/
structure IK (tag : Nat → RT) (B : Nat) (w0 w : World) (bx bw bk : Nat) (vc : Value) (C : List (List Int)) (us : List Value) (K : List Int) (n : Nat) (w5 : World) (tag' : Nat → RT) (vt' : Value) (dn' : Nat) (C' : List (List Int)) (es' : List (Int × Value)) (Wt' : Int → List Nat) (R : List Int) : Prop where
  rm : RM tag' B w0 w5 bx bw bk vc vt' dn' C' us es' Wt' (K ++ R)
  wi : WI n C' Wt'
  bp : PrB C' K
  cp : CP C C'
  tg : TG tag tag' w
  tt : Touch (ST tag bx bw bk) w w5
  kl : (K ++ R).length ≤ n

set_option maxRecDepth 100000 in
set_option maxHeartbeats 8000000 in
theorem rup_implies (tag : Nat → RT) (B : Nat) (w0 w : World) (bx bw bk : Nat) (vc vt : Value) (C : List (List Int)) (us : List Value) (es : List (Int × Value)) (Wt : Int → List Nat) (K : List Int) (n : Nat) (F : List (List Int)) (c : List Int) (ac : Option Addr) (mc cc : Nat)
    (h : RM tag B w0 w bx bw bk vc vt K.length C us es Wt K) (hT : Top n F C Wt K) (hn : n ≤ 1048576) (hC : C.length ≤ 2199023255551) (hmc : mc = c.length) (hok : ∀ x ∈ c, LitOk n x) (hcl : c.length ≤ 4294967296) (hF : ClsOk n F) (hsc : ∀ w', Touch (ST tag bx bw bk) w w' → SlV w' ac (ints c)) :
    Calls Try.prog 64 #[.pointer (some ⟨bx, 0, none⟩), .slice ac mc cc] w (impliesR tag B w0 w bx bw bk vc C us K n F c) := by
  subst hmc
  have hmf : ∀ (fn : Fn) (first cap : Array Value) (w : World), (Instr.makeFunc fn first cap).run Try.prog w = .ok (.func fn first cap) w := fun _ _ _ _ => rfl
  obtain ⟨Q, hQ⟩ : ∃ Q : Ending → World → Prop, impliesR tag B w0 w bx bw bk vc C us K n F c = Q := ⟨_, rfl⟩
  rw [hQ]
  have HQ := hid hQ
  clear hQ
  obtain ⟨b2, hb2⟩ : ∃ b, w.heap.size = b := ⟨_, rfl⟩
  obtain ⟨wb, hwb⟩ : ∃ x, (w.alloc (.cells #[.pointer (some ⟨bx, 0, none⟩)] 89)).alloc (.cells #[.slice ac c.length cc] 22) = x := ⟨_, rfl⟩
  have hB1 : Below w.heap.size w wb := by rw [← hwb]; exact below_al (box_below _ _) (by simp only [size_al]; omega) _
  have hsz : wb.heap.size = b2 + 1 + 1 := by rw [← hwb]; simp only [size_al]; omega
  have hBI : Below w.heap.size w (wb.alloc (.cells #[.bool false] 4)) := below_al hB1 (by omega) _
  have hc2 : (wb.alloc (.cells #[.bool false] 4)).heap[b2]? = some (.cells #[.pointer (some ⟨bx, 0, none⟩)] 89 (0, 0)) := (Below.heap_alloc _ _ _ (by omega)).trans (by rw [← hwb, ← hb2]; exact blk_old2 _ _ _)
  have hc1 : (wb.alloc (.cells #[.bool false] 4)).heap[b2 + 1]? = some (.cells #[.slice ac c.length cc] 22 (0, 0)) := (Below.heap_alloc _ _ _ (by omega)).trans (by rw [← hwb, ← hb2]; exact blk_new2 _ _ _)
  have hcI : (wb.alloc (.cells #[.bool false] 4)).heap[wb.heap.size]? = some (.cells #[.bool false] 4 (0, 0)) := heap_alloc_new _ _
  obtain ⟨hMI, hX2⟩ := h.var hBI (Nat.le_of_eq hb2) hc2
  have hX1 := (h.var hBI (by omega) hc1).2
  have hXI := (h.var hBI (by omega) hcI).2
  have hgI := tg_if tag w
  obtain ⟨tagI, htI⟩ : ∃ t, (fun g => if g < w.heap.size then tag g else RT.oth) = t := ⟨_, rfl⟩
  rw [htI] at hMI hX2 hX1 hXI hgI
  have hTI : Touch (ST tag bx bw bk) w (wb.alloc (.cells #[.bool false] 4)) := Below.touch hBI
  have hscI : ∀ w', Touch (ST tagI bx bw bk) (wb.alloc (.cells #[.bool false] 4)) w' → SlV w' ac (ints c) := fun w' hw' => hsc w' (hTI.st hgI hw')
  have HIM := hid (rup_imp1 tagI B w0 _ bx bw bk vc vt C us es Wt K n F c ac cc (b2 + 1) b2 hMI hT hn hC (hscI _ (Touch.refl _ _)) hok hcl hF hX1 hX2 hscI)
  have HFL : Hid (Calls Try.prog 65 #[.func (.func 87) #[] #[.pointer (some ⟨b2 + 1, 0, none⟩), .pointer (some ⟨b2, 0, none⟩)]] wb fun e w5 => e = .returned (.bool (upF F (negs c))) ∧ ∃ (tag' : Nat → RT) (vt' : Value) (dn' : Nat) (C' : List (List Int)) (es' : List (Int × Value)) (Wt' : Int → List Nat) (R : List Int), IK tag B w0 w bx bw bk vc C us K n w5 tag' vt' dn' C' es' Wt' R ∧ Bx tag' B bx bw bk w5 b2 89 (.pointer (some ⟨bx, 0, none⟩))) := hid (by
    have key : ∀ (p : Prop) (w1 w5 : World), impR tagI B w0 (wb.alloc (.cells #[.bool false] 4)) bx bw bk vc C us K n p w1 → Touch (fun k => k = wb.heap.size) w1 w5 → ∃ (tag' : Nat → RT) (vt' : Value) (dn' : Nat) (C' : List (List Int)) (es' : List (Int × Value)) (Wt' : Int → List Nat) (R : List Int), IK tag B w0 w bx bw bk vc C us K n w5 tag' vt' dn' C' es' Wt' R ∧ Bx tag' B bx bw bk w5 b2 89 (.pointer (some ⟨bx, 0, none⟩)) := fun p w1 w5 hh hT5 => by
      obtain ⟨tag', vt', dn', C', es', Wt', K', h1, ⟨R, rfl⟩, h3, h4, h5, h55, h6, h7, -⟩ := hh
      have hXI' := hXI.keep h7 hXI.not h6
      have hTT := hTI.st hgI h7
      refine ⟨tag', vt', dn', C', es', Wt', R, ⟨h1.oth (hT5.mono fun k _ e => by rw [e]; exact ⟨hXI'.le, hXI'.nx, hXI'.nw, hXI'.nk, .inl hXI'.tg⟩) fun _ _ => rfl, h3, h4, h5, hgI.trans h6 hTI.size, hTT.trans' hT5 (fun k hk e => by omega), h55⟩, ((hX2.keep h7 hX2.not h6).keep hT5 (by omega) (TG.refl _ _))⟩
    refine (fails_impl (b2 + 1) b2 wb (impR tagI B w0 (wb.alloc (.cells #[.bool false] 4)) bx bw bk vc C us K n (¬ Bad F (negs c))) (impR tagI B w0 (wb.alloc (.cells #[.bool false] 4)) bx bw bk vc C us K n (Bad F (negs c))) ?_).mono ?_
    · refine HIM.out.mono fun e w1 hh => ?_
      have hb : ∀ p, impR tagI B w0 (wb.alloc (.cells #[.bool false] 4)) bx bw bk vc C us K n p w1 → w1.heap[wb.heap.size]? = some (.cells #[.bool false] 4 (0, 0)) := fun p ⟨tag', vt', dn', C', es', Wt', K', h1, h2, h3, h4, h5, h55, h6, h7, h8⟩ => (hXI.keep h7 hXI.not h6).blk
      rcases hh with ⟨he, hr⟩ | ⟨he, hr⟩
      · exact ⟨hb _ hr, .inl ⟨he, hr⟩⟩
      · exact ⟨hb _ hr, .inr ⟨he, hr⟩⟩
    · intro e w5 hh
      rcases hh with ⟨rfl, w1, hr, rfl⟩ | ⟨rfl, w1, hr, hT5⟩
      · have hp : ¬ Bad F (negs c) := by obtain ⟨tag', vt', dn', C', es', Wt', K', h1, h2, h3, h4, h5, h55, h6, h7, h8⟩ := hr; exact h8
        exact ⟨by rw [upF_false.2 hp], key _ _ _ hr ((Touch.refl (fun k => k = wb.heap.size) w1).setCell (p := ⟨wb.heap.size, 0, none⟩) rfl _)⟩
      · have hp : Bad F (negs c) := by obtain ⟨tag', vt', dn', C', es', Wt', K', h1, h2, h3, h4, h5, h55, h6, h7, h8⟩ := hr; exact h8
        exact ⟨by rw [upF_true.2 hp], key _ _ _ hr hT5⟩)
  have hMb := h.grow hB1 (tag' := tag) fun _ _ => rfl
  obtain ⟨q0, q1, q2, q3, q4⟩ := hMb.cells
  obtain ⟨at0, ct0, hvt⟩ := own_lenV' h.tr
  have p2 : wb.cell? ⟨b2, 0, none⟩ = some (.pointer (some ⟨bx, 0, none⟩)) := fit_cell (vs := [.pointer (some ⟨bx, 0, none⟩)]) (by rw [← hwb, ← hb2]; exact blk_old2 _ _ _) 0
  have HT := hid hT
  have HSZ := hid hsz
  obtain ⟨KL, hKL⟩ : ∃ m, K.length = m := ⟨_, rfl⟩
  rw [hKL] at hvt
  subst hvt
  have HKL := hid hKL
  have hKLb : KL ≤ 1048576 := by rw [← hKL]; have := lits_le hT.nod hT.cons hT.kok; omega
  have HWB := hid hwb
  clear h hT hC hok hcl hF hsc hB1 hsz hBI hc2 hc1 hcI hMI hX2 hX1 hXI hgI htI hTI hscI HIM hMb q0 q1 q2 q4 hKL
  go_enter Try.func64, Try.ntmps64
  go_wp2_with fail
  clear q3 p2 hwb
  refine HFL.out.mono ?_
  rintro e w5 ⟨rfl, tag5, vt5, dn5, C5, es5, Wt5, R, hK, hX⟩
  obtain ⟨A, m, cA, hsl, hm, hce⟩ := own_from (P := Try.prog) Try.underlying22 sz_int hK.rm.tr
  obtain ⟨a5, c5, hv5⟩ := own_lenV' hK.rm.tr
  obtain ⟨L5, hL5⟩ : ∃ m, (K ++ R).length = m := ⟨_, rfl⟩
  rw [hL5] at hv5
  subst hv5
  rw [HKL.out] at hsl
  obtain ⟨bres, hbres⟩ : ∃ b, upF F (negs c) = b := ⟨_, rfl⟩
  rw [hbres]
  have HBR := hid hbres
  have HK := hid hK
  have HX := hid hX
  have HM := hid (And.intro hm hL5)
  have HCE := hid hce
  have hnb0 := hn
  have hmb : m ≤ 1048576 := by
    have h1 := hK.kl
    have h2 : (K ++ R).length = K.length + R.length := by simp
    omega
  have q3 := hK.rm.cells.2.2.2.1
  have p2 := hX.cell
  have HI0 : Hid (IM w5 bk (kes (K ++ R.drop 0)) ∧ Touch (fun k => k = bk) w5 w5) := hid ⟨by rw [List.drop_zero]; exact hK.rm.kn, Touch.refl _ _⟩
  clear hbres hK hX hm hL5 hce hnb0 hn
  go_wp2_with fail
  clear q3 p2 hsl
  go_loopw [23] (fun s23 wr => ∃ j : Nat, s23 = .int .i64 j ∧ j ≤ m ∧ Hid (IM wr bk (kes (K ++ R.drop j)) ∧ Touch (fun k => k = bk) w5 wr)) (fun s23 _ => (m - (intOf s23)).toNat)
  case atStart => exact ⟨0, rfl, by omega, HI0⟩
  case round =>
    obtain ⟨j, rfl, hjm, HJ⟩ := hrel
    have p2 := (HX.out.keep HJ.out.2 HX.out.nk (TG.refl _ _)).cell
    by_cases hlt : j < m
    · have hlt2 : (j : Int) < m := by omega
      obtain ⟨a, ha⟩ : ∃ a, R[j]? = some a := ⟨_, List.getElem?_eq_getElem (by rw [← HM.out.1]; exact hlt)⟩
      obtain ⟨b, off, hA, hob, hca⟩ := HCE.out j a ha
      subst hA
      have hnb : b ≠ bk := fun e => HK.out.rm.apart.2.2.2.2.2.2.2.1 (by rw [← e]; exact hob)
      have hca2 := HJ.out.2.cell hca hnb
      have q2 := HJ.out.2.cell HK.out.rm.cells.2.2.1 (fun e => HK.out.rm.apart.2.1 e)
      have hwj : IntKind.i64.wrap ((j : Int) + 1) = (j : Int) + 1 := IntWalk.i64_in _ (by omega)
      obtain ⟨w6, hdel, him, ht6, hz6⟩ := im_delete (P := Try.prog) Try.underlying91 Try.underlying3 HJ.out.1 a 0
      have hnod : (K ++ a :: R.drop (j + 1)).Nodup := by
        have h1 := kes_nodup HJ.out.1
        rw [List.drop_eq_getElem_cons (by rw [← HM.out.1]; exact hlt)] at h1
        have h2 : R[j]'(by rw [← HM.out.1]; exact hlt) = a := by
          rw [List.getElem?_eq_getElem (by rw [← HM.out.1]; exact hlt)] at ha
          injection ha
        rw [h2] at h1
        exact h1
      have hdr : R.drop j = a :: R.drop (j + 1) := by
        rw [List.drop_eq_getElem_cons (by rw [← HM.out.1]; exact hlt)]
        congr 1
        rw [List.getElem?_eq_getElem (by rw [← HM.out.1]; exact hlt)] at ha
        injection ha
      rw [hdr, adel_kes hnod] at him
      have HJ2 := hid (And.intro him (HJ.out.2.trans ht6))
      clear him ht6 hz6 hnod hdr ha hca hob hnb
      go_wp2_with fail
      go_roundw
      case rel => exact ⟨j + 1, by simp, by omega, HJ2⟩
      case measure => simp [intOf]; omega
    · have hje : j = m := by omega
      subst hje
      have hlt2 : ¬ (j : Int) < j := by omega
      have hbx := (HJ.out.2.block bx (Array.getElem?_eq_some_iff.1 HK.out.rm.blk).1 HK.out.rm.apart.2.1).trans HK.out.rm.blk
      have q3 : wr.cell? ⟨bx, 3, none⟩ = some (.slice a5 L5 c5) := fit_cell (vs := [vc, .map (some bw), .map (some bk), .slice a5 L5 c5, .int .i64 dn5]) hbx 3
      have f3 : wr.frozen? ⟨bx, 3, none⟩ = false := frozen_of_row _ _ _ _ _ hbx
      have q4 : wr.cell? ⟨bx, 4, none⟩ = some (.int .i64 dn5) := fit_cell (vs := [vc, .map (some bw), .map (some bk), .slice a5 L5 c5, .int .i64 dn5]) hbx 4
      have f4 : wr.frozen? ⟨bx, 4, none⟩ = false := frozen_of_row _ _ _ _ _ hbx
      have htr := HK.out.rm.tr
      rw [HM.out.2] at htr
      obtain ⟨-, hcap, hcn⟩ := own_cap htr
      have hKL5 : KL ≤ L5 := by rw [← HM.out.2, ← HKL.out]; simp
      have hst := slice_toG (P := Try.prog) (t := 22) (a := a5) (n := L5) (c := c5) (k := (KL : Int)) (m := KL) rfl Try.underlying22 sz_int (by omega)
      have HTR : Hid (w5.ownsRow B 3 1 (.slice a5 KL c5) KL (ints K)) := hid (by
        have h1 := own_take htr hKL5 (fun e => ⟨by have := (hcn e).2; omega, (hcn e).1⟩)
        rw [← HKL.out] at h1 ⊢
        have h2 : (ints (K ++ R)).take K.length = ints K := by rw [ints_append, List.take_left' (by simp [ints])]
        rw [h2] at h1
        exact h1)
      have HBX := hid hbx
      have hnt : bx ≠ bk := HK.out.rm.apart.2.1
      clear htr hcap hcn hbx hlt hjm
      go_wp2_with fail
      have hn2 : b2 ≠ bx := HX.out.nx
      have hn3 : bx ≠ b2 := fun e => HX.out.nx e.symm
      have HF : Hid (∀ nd, Q (.returned (.bool bres)) (((wr.setCell ⟨bx, 3, none⟩ (.slice a5 KL c5)).setCell ⟨bx, 4, none⟩ (.int .i64 KL)).drewN nd)) := hid fun nd => by
        rw [← HQ.out, ← HBR.out]
        have e1 := setCell3 (y := .slice a5 KL c5) HBX.out
        have e2 := setCell4 (y := .int .i64 KL) e1
        have hT5 : Touch (fun k => k = bx ∨ k = bk ∨ (Value.slice a5 L5 c5).ownBlock = some k) w5 ((wr.setCell ⟨bx, 3, none⟩ (.slice a5 KL c5)).setCell ⟨bx, 4, none⟩ (.int .i64 KL)) := ((HJ.out.2.mono fun k _ e => (.inr (.inl e) : k = bx ∨ k = bk ∨ (Value.slice a5 L5 c5).ownBlock = some k)).setCell (p := ⟨bx, 3, none⟩) (.inl rfl) _).setCell (p := ⟨bx, 4, none⟩) (.inl rfl) _
        have hkk : ((wr.setCell ⟨bx, 3, none⟩ (.slice a5 KL c5)).setCell ⟨bx, 4, none⟩ (.int .i64 KL)).heap[bk]? = wr.heap[bk]? := (heap_setCell_other _ ⟨bx, 4, none⟩ bk _ (fun e => hnt e.symm)).trans (heap_setCell_other _ ⟨bx, 3, none⟩ bk _ (fun e => hnt e.symm))
        have him := HJ.out.1
        rw [List.drop_eq_nil_of_le (by rw [HM.out.1]; exact Nat.le_refl _), List.append_nil] at him
        have hTk : Touch (fun k => k = bx ∨ k = bk) w5 ((wr.setCell ⟨bx, 3, none⟩ (.slice a5 KL c5)).setCell ⟨bx, 4, none⟩ (.int .i64 KL)) := ((HJ.out.2.mono fun k _ e => (.inr e : k = bx ∨ k = bk)).setCell (p := ⟨bx, 3, none⟩) (.inl rfl) _).setCell (p := ⟨bx, 4, none⟩) (.inl rfl) _
        have hM : RM tag5 B w0 ((wr.setCell ⟨bx, 3, none⟩ (.slice a5 KL c5)).setCell ⟨bx, 4, none⟩ (.int .i64 KL)) bx bw bk vc (.slice a5 KL c5) KL C5 us es5 Wt5 K := HK.out.rm.known hT5 (fun _ _ => rfl) e2 (by
          rw [HKL.out]
          refine own_frame0 HTR.out fun g hg => hTk.block g (HTR.out.lt g hg).2 ?_
          rintro (e | e)
          · exact HK.out.rm.apart.2.2.2.2.2.1 (by rw [← e, own_len a5 L5 KL c5]; exact hg)
          · exact HK.out.rm.apart.2.2.2.2.2.2.2.1 (by rw [← e, own_len a5 L5 KL c5]; exact hg)) (fun g hg => HK.out.rm.trt g (by rw [own_len a5 L5 KL c5]; exact hg)) (him.frame hkk)
        refine ⟨rfl, tag5, .slice a5 KL c5, C5, es5, Wt5, ?_, ?_, HK.out.cp.1, HK.out.tg, (HK.out.tt.st HK.out.tg (hTk.mono fun k _ hk => by
          rcases hk with e | e
          · exact .inl e
          · exact .inr (.inr (.inl e)))).drewN nd⟩
        · rw [HKL.out]
          exact hM.grow (below_dr (Below.refl _ _) _) fun _ _ => rfl
        · refine ⟨HK.out.wi, HK.out.bp, HT.out.cons, HT.out.nod, HT.out.kok, HT.out.snd, fun d hd => ?_, HT.out.all.cp HK.out.cp fun x hx => hx⟩
          obtain ⟨c0, hc0, hs⟩ := HK.out.cp.back hd
          obtain ⟨f, hf, hl⟩ := HT.out.sub c0 hc0
          exact ⟨f, hf, fun l => (hs.2.2 l).trans (hl l)⟩
      go_region
      all_goals
        go_wp2_with fail
        exact HF.out _

end Go.Proofs.Ytfmahgobogelkaa.Ord

/- What holds between the clauses in rup's Check, and its calls of add and implies. -/
namespace Go.Proofs.Ytfmahgobogelkaa.Ord
open Go.RowKit Go.Conc

attribute [local go_sem ↓] Go.wp_at_zero Go.wp_at_succ
attribute [local go_sem ↓ high] app_mark

def noT : Nat → RT := fun _ => .oth

/-- Between two clauses: G are added; over: they fail by themselves. -/
structure CK (w0 wS : World) (bx bw bk n : Nat) (G : List (List Int)) (wr : World) (over : Bool) : Prop where
  t : Touch (ST noT bx bw bk) wS wr
  o : (over = true ∧ Bad G []) ∨ (over = false ∧ ∃ (tag : Nat → RT) (vc vt : Value) (C : List (List Int)) (us : List Value) (es : List (Int × Value)) (Wt : Int → List Nat) (K : List Int), RM tag w0.heap.size w0 wr bx bw bk vc vt K.length C us es Wt K ∧ Top n G C Wt K ∧ TG noT tag wS ∧ C.length ≤ G.length)

/-- What stands still around Check's loops. -/
structure CE (w0 wS : World) (bx bw bk b1 : Nat) : Prop where
  bel : Below w0.heap.size w0 wS
  ge : w0.heap.size ≤ bx ∧ w0.heap.size ≤ bw ∧ w0.heap.size ≤ bk
  blk : wS.heap[b1]? = some (.cells #[.pointer (some ⟨bx, 0, none⟩)] 89 (0, 0))
  ne : b1 ≠ bx ∧ b1 ≠ bw ∧ b1 ≠ bk
  b1B : w0.heap.size ≤ b1

section
variable {w0 wS wr : World} {bx bw bk b1 n : Nat} {G : List (List Int)} {over : Bool}

theorem st_no {k : Nat} (h : ST noT bx bw bk k) : k = bx ∨ k = bw ∨ k = bk := by
  rcases h with e | e | e | e
  · exact .inl e
  · exact .inr (.inl e)
  · exact .inr (.inr e)
  · exact absurd rfl e

theorem CE.below (h : CE w0 wS bx bw bk b1) {w' : World} (hT : Touch (ST noT bx bw bk) wS w') : Below w0.heap.size w0 w' :=
  h.bel.trans (hT.below h.bel.size fun k hk => by
    rcases st_no hk with e | e | e
    · rw [e]; exact h.ge.1
    · rw [e]; exact h.ge.2.1
    · rw [e]; exact h.ge.2.2)

theorem CE.x (h : CE w0 wS bx bw bk b1) {w' : World} (hT : Touch (ST noT bx bw bk) wS w') : w'.heap[b1]? = some (.cells #[.pointer (some ⟨bx, 0, none⟩)] 89 (0, 0)) :=
  (hT.block b1 (Array.getElem?_eq_some_iff.1 h.blk).1 fun hk => by
    rcases st_no hk with e | e | e
    · exact h.ne.1 e
    · exact h.ne.2.1 e
    · exact h.ne.2.2 e).trans h.blk

theorem CK.al (h : CK w0 wS bx bw bk n G wr over) (o : Obj) : CK w0 wS bx bw bk n G (wr.alloc o) over := by
  refine ⟨h.t.alloc o, ?_⟩
  rcases h.o with q | ⟨q, tag, vc, vt, C, us, es, Wt, K, h1, h2, h3, h4⟩
  · exact .inl q
  · exact .inr ⟨q, tag, vc, vt, C, us, es, Wt, K, h1.grow (box_below _ _) fun _ _ => rfl, h2, h3, h4⟩

theorem CK.dr (h : CK w0 wS bx bw bk n G wr over) (m : Nat) : CK w0 wS bx bw bk n G (wr.drewN m) over := by
  refine ⟨h.t.drewN m, ?_⟩
  rcases h.o with q | ⟨q, tag, vc, vt, C, us, es, Wt, K, h1, h2, h3, h4⟩
  · exact .inl q
  · exact .inr ⟨q, tag, vc, vt, C, us, es, Wt, K, h1.grow (below_dr (Below.refl _ _) _) fun _ _ => rfl, h2, h3, h4⟩

/-- A clause more, where all fails already. -/
theorem CK.more (h : CK w0 wS bx bw bk n G wr true) (c : List Int) : CK w0 wS bx bw bk n (G ++ [c]) wr true := by
  refine ⟨h.t, .inl ⟨rfl, ?_⟩⟩
  rcases h.o with ⟨-, q⟩ | ⟨q, -⟩
  · exact bad_mono (sub_of_subset fun _ hd => List.mem_append_left _ hd) (fun _ ha => ha) q
  · cases q

theorem CK.imp (h : CK w0 wS bx bw bk n G wr true) (c : List Int) : upF G (negs c) = true := by
  rcases h.o with ⟨-, q⟩ | ⟨q, -⟩
  · exact upF_true.2 (bad_mono (sub_of_subset fun _ hd => hd) (fun a ha => by cases ha) q)
  · cases q

end

theorem prb_nil' (C : List (List Int)) : PrB C [] := fun i c x y _ _ _ => ⟨fun q => by simp at q, fun q => by simp at q⟩

/-- implies, between two clauses, where a variable was made. -/
theorem ck_implies {w0 wS wr : World} {bx bw bk b1 n : Nat} {G : List (List Int)} (hE : CE w0 wS bx bw bk b1) (h : CK w0 wS bx bw bk n G wr false) (v : Value) (t : TypeId) {c : List Int} {ac : Option Addr} {mc cc : Nat} (hn : n ≤ 1048576) (hG : G.length ≤ 2199023255551) (hmc : mc = c.length) (hok : ∀ x ∈ c, LitOk n x) (hcl : c.length ≤ 4294967296) (hF : ClsOk n G) (hs : SlV w0 ac (ints c)) :
    Calls Try.prog 64 #[.pointer (some ⟨bx, 0, none⟩), .slice ac mc cc] (wr.alloc (.cells #[v] t)) fun e w' => e = .returned (.bool (upF G (negs c))) ∧ CK w0 wS bx bw bk n G w' false ∧ w'.heap[wr.heap.size]? = some (.cells #[v] t (0, 0)) := by
  rcases h.o with ⟨q, -⟩ | ⟨-, tag, vc, vt, C, us, es, Wt, K, h1, h2, h3, h4⟩
  · cases q
  · obtain ⟨hM, hX⟩ := h1.var (box_below wr (.cells #[v] t)) (Nat.le_refl _) (heap_alloc_new _ _)
    have hg2 := tg_if tag wr
    obtain ⟨tag2, ht2⟩ : ∃ t, (fun g => if g < wr.heap.size then tag g else RT.oth) = t := ⟨_, rfl⟩
    rw [ht2] at hM hX hg2
    have hT0 : Touch (ST noT bx bw bk) wS (wr.alloc (.cells #[v] t)) := h.t.alloc _
    have h32 := h3.trans hg2 h.t.size
    have hT := fun (w' : World) (hw : Touch (ST tag2 bx bw bk) (wr.alloc (.cells #[v] t)) w') => hT0.st h32 hw
    refine (rup_implies tag2 w0.heap.size w0 _ bx bw bk vc vt C us es Wt K n G c ac mc cc hM h2 hn (by omega) hmc hok hcl hF fun w' hw => hs.below (hE.below (hT w' hw))).mono ?_
    rintro e w' ⟨rfl, tag', vt', C', es', Wt', g1, g2, g3, g4, g5⟩
    exact ⟨rfl, ⟨hT w' g5, .inr ⟨rfl, tag', vc, vt', C', us, es', Wt', K, g1, g2, h32.trans g4 hT0.size, by omega⟩⟩, (hX.keep g5 hX.not g4).blk⟩


set_option maxRecDepth 100000 in
set_option maxHeartbeats 4000000 in
theorem check_add1 (b1 b2 : Nat) (v : Value) (bx : Nat) (w : World) (R : Ending → World → Prop) (h1 : w.cell? ⟨b1, 0, none⟩ = some (.pointer (some ⟨bx, 0, none⟩))) (h2 : w.cell? ⟨b2, 0, none⟩ = some v)
    (hR : ∀ e w', R e w' → e = .returned (.tuple #[]) ∨ e = .panicked [{ v := failV, recovered := false }] ∨ e = .panicked failP)
    (h : Calls Try.prog 67 #[.pointer (some ⟨bx, 0, none⟩), v] w R) :
    Calls Try.prog 66 #[.pointer (some ⟨b1, 0, none⟩), .pointer (some ⟨b2, 0, none⟩)] w R := by
  have HR := hid hR
  have HH := hid h
  clear hR h
  go_enter Try.func66, Try.ntmps66
  go_wp2_with fail
  refine HH.out.mono ?_
  intro e w2 hr
  have HR2 := hid hr
  rcases HR.out e w2 hr with rfl | rfl | rfl
  · clear hr
    go_wp2_with fail
    exact ⟨rfl, _, results_none rfl _ _ _, HR2.out⟩
  · clear hr
    go_wp2_with fail
    exact ⟨rfl, HR2.out⟩
  · clear hr
    go_wp2_with fail
    exact ⟨rfl, HR2.out⟩

/-- A clause is added, between two clauses. -/
theorem ck_add1 {w0 wS wr : World} {bx bw bk b1 b2 n : Nat} {G : List (List Int)} (hE : CE w0 wS bx bw bk b1) (h : CK w0 wS bx bw bk n G wr false) {c : List Int} {ac : Option Addr} {cc : Nat} (hn : n ≤ 1048576) (hG : G.length ≤ 2199023255550) (hcc : c.length ≤ cc) (hc0 : ac = none → cc = 0) (hok : ∀ x ∈ c, LitOk n x) (hcl : c.length ≤ 4294967296) (hs : SlV w0 ac (ints c))
    (hb2 : wr.heap[b2]? = some (.cells #[.slice ac c.length cc] 22 (0, 0))) :
    Calls Try.prog 65 #[.func (.func 66) #[] #[.pointer (some ⟨b1, 0, none⟩), .pointer (some ⟨b2, 0, none⟩)]] wr fun e w' => ∃ b, e = .returned (.bool b) ∧ CK w0 wS bx bw bk n (G ++ [c]) w' b := by
  rcases h.o with ⟨q, -⟩ | ⟨-, tag, vc, vt, C, us, es, Wt, K, h1, h2, h3, h4⟩
  · cases q
  · have hBI : Below wr.heap.size wr (wr.alloc (.cells #[.bool false] 4)) := box_below _ _
    have hcI : (wr.alloc (.cells #[.bool false] 4)).heap[wr.heap.size]? = some (.cells #[.bool false] 4 (0, 0)) := heap_alloc_new _ _
    obtain ⟨hMI, hXI⟩ := h1.var hBI (Nat.le_refl _) hcI
    have hgI := tg_if tag wr
    obtain ⟨tagI, htI⟩ : ∃ t, (fun g => if g < wr.heap.size then tag g else RT.oth) = t := ⟨_, rfl⟩
    rw [htI] at hMI hXI hgI
    have hTI : Touch (ST noT bx bw bk) wS (wr.alloc (.cells #[.bool false] 4)) := h.t.alloc _
    have hGI : TG noT tagI wS := h3.trans hgI h.t.size
    have hadd : Calls Try.prog 67 #[.pointer (some ⟨bx, 0, none⟩), .slice ac c.length cc] (wr.alloc (.cells #[.bool false] 4)) (addR tagI w0.heap.size w0 (wr.alloc (.cells #[.bool false] 4)) bx bw bk C n G c) := by
      cases ht : adjB (normL c) with
      | true => exact rup_addT tagI w0.heap.size w0 _ bx bw bk vc vt C us es Wt K n G c ac c.length cc hMI h2 rfl hcc hc0 (hs.below (hE.below hTI)) (fun x hx => by have := hok x hx; unfold LitOk at this; unfold I64; omega) hcl ht
      | false => exact rup_addF tagI w0.heap.size w0 _ bx bw bk vc vt C us es Wt K n G c ac c.length cc hMI h2 hn (by omega) rfl hcc hc0 (hs.below (hE.below hTI)) hok hcl ht
    have hdo := check_add1 b1 b2 (.slice ac c.length cc) bx (wr.alloc (.cells #[.bool false] 4)) _ (fit_cell (vs := [.pointer (some ⟨bx, 0, none⟩)]) (hE.x hTI) 0) (fit_cell (vs := [.slice ac c.length cc]) ((Below.heap_alloc _ _ _ (Array.getElem?_eq_some_iff.1 hb2).1).trans hb2) 0) (fun e w' hr => by
      rcases hr with ⟨e1, -⟩ | ⟨e1, -⟩
      · exact .inl e1
      · exact .inr e1) hadd
    have key : ∀ w1 w', Touch (ST tagI bx bw bk) (wr.alloc (.cells #[.bool false] 4)) w1 → Touch (fun k => k = wr.heap.size) w1 w' → Touch (ST noT bx bw bk) wS w' := fun w1 w' g1 g2 => (hTI.st hGI g1).trans' g2 fun k hk e => by have := h.t.size; omega
    refine (fails_add1 b1 b2 wr (fun w1 => addR tagI w0.heap.size w0 (wr.alloc (.cells #[.bool false] 4)) bx bw bk C n G c (.returned (.tuple #[])) w1) (fun w1 => Bad (G ++ [c]) [] ∧ Touch (ST tagI bx bw bk) (wr.alloc (.cells #[.bool false] 4)) w1) (hdo.mono fun e w1 hr => ?_)).mono ?_
    · rcases hr with ⟨e1, hr⟩ | ⟨e1, hb, hT⟩
      · have hr2 := hr
        obtain ⟨tag', vc', vt', C', us', es', Wt', K', g1, g2, g3, g4, g5⟩ := hr
        exact ⟨(hXI.keep g4 hXI.not g3).blk, .inl ⟨e1, .inl ⟨rfl, hr2⟩⟩⟩
      · exact ⟨(hT.block _ hXI.lt hXI.not).trans hXI.blk, .inr ⟨e1, hb, hT⟩⟩
    · rintro e w' (⟨rfl, w1, hr, rfl⟩ | ⟨rfl, w1, ⟨hb, hT⟩, hT2⟩)
      · refine ⟨false, rfl, ?_⟩
        rcases hr with ⟨-, tag', vc', vt', C', us', es', Wt', K', g1, g2, g3, g4, g5⟩ | ⟨e1, -⟩
        · have hX2 := hXI.keep g4 hXI.not g3
          have hT2 : Touch (fun k => k = wr.heap.size) w1 (w1.setCell ⟨wr.heap.size, 0, none⟩ (.bool false)) := (Touch.refl (fun k => k = wr.heap.size) w1).setCell (p := ⟨wr.heap.size, 0, none⟩) rfl _
          refine ⟨key _ _ g4 hT2, .inr ⟨rfl, tag', vc', vt', C', us', es', Wt', K', g1.oth (hT2.mono fun k _ e => by rw [e]; exact ⟨hX2.le, hX2.nx, hX2.nw, hX2.nk, .inl hX2.tg⟩) fun _ _ => rfl, g2, hGI.trans g3 hTI.size, by rw [List.length_append]; simp; omega⟩⟩
        · rcases e1 with e1 | e1 <;> cases e1
      · exact ⟨true, rfl, key _ _ hT hT2, .inl ⟨rfl, hb⟩⟩

set_option maxRecDepth 100000 in
set_option maxHeartbeats 4000000 in
theorem check_add2 (b1 b2 : Nat) (v : Value) (bx : Nat) (w : World) (R : Ending → World → Prop) (h1 : w.cell? ⟨b1, 0, none⟩ = some (.pointer (some ⟨bx, 0, none⟩))) (h2 : w.cell? ⟨b2, 0, none⟩ = some v)
    (hR : ∀ e w', R e w' → e = .returned (.tuple #[]) ∨ e = .panicked [{ v := failV, recovered := false }] ∨ e = .panicked failP)
    (h : Calls Try.prog 67 #[.pointer (some ⟨bx, 0, none⟩), v] w R) :
    Calls Try.prog 68 #[.pointer (some ⟨b1, 0, none⟩), .pointer (some ⟨b2, 0, none⟩)] w R := by
  have HR := hid hR
  have HH := hid h
  clear hR h
  go_enter Try.func68, Try.ntmps68
  go_wp2_with fail
  refine HH.out.mono ?_
  intro e w2 hr
  have HR2 := hid hr
  rcases HR.out e w2 hr with rfl | rfl | rfl
  · clear hr
    go_wp2_with fail
    exact ⟨rfl, _, results_none rfl _ _ _, HR2.out⟩
  · clear hr
    go_wp2_with fail
    exact ⟨rfl, HR2.out⟩
  · clear hr
    go_wp2_with fail
    exact ⟨rfl, HR2.out⟩

/-- A clause is added, between two clauses. -/
theorem ck_add2 {w0 wS wr : World} {bx bw bk b1 b2 n : Nat} {G : List (List Int)} (hE : CE w0 wS bx bw bk b1) (h : CK w0 wS bx bw bk n G wr false) {c : List Int} {ac : Option Addr} {cc : Nat} (hn : n ≤ 1048576) (hG : G.length ≤ 2199023255550) (hcc : c.length ≤ cc) (hc0 : ac = none → cc = 0) (hok : ∀ x ∈ c, LitOk n x) (hcl : c.length ≤ 4294967296) (hs : SlV w0 ac (ints c))
    (hb2 : wr.heap[b2]? = some (.cells #[.slice ac c.length cc] 22 (0, 0))) :
    Calls Try.prog 65 #[.func (.func 68) #[] #[.pointer (some ⟨b1, 0, none⟩), .pointer (some ⟨b2, 0, none⟩)]] wr fun e w' => ∃ b, e = .returned (.bool b) ∧ CK w0 wS bx bw bk n (G ++ [c]) w' b := by
  rcases h.o with ⟨q, -⟩ | ⟨-, tag, vc, vt, C, us, es, Wt, K, h1, h2, h3, h4⟩
  · cases q
  · have hBI : Below wr.heap.size wr (wr.alloc (.cells #[.bool false] 4)) := box_below _ _
    have hcI : (wr.alloc (.cells #[.bool false] 4)).heap[wr.heap.size]? = some (.cells #[.bool false] 4 (0, 0)) := heap_alloc_new _ _
    obtain ⟨hMI, hXI⟩ := h1.var hBI (Nat.le_refl _) hcI
    have hgI := tg_if tag wr
    obtain ⟨tagI, htI⟩ : ∃ t, (fun g => if g < wr.heap.size then tag g else RT.oth) = t := ⟨_, rfl⟩
    rw [htI] at hMI hXI hgI
    have hTI : Touch (ST noT bx bw bk) wS (wr.alloc (.cells #[.bool false] 4)) := h.t.alloc _
    have hGI : TG noT tagI wS := h3.trans hgI h.t.size
    have hadd : Calls Try.prog 67 #[.pointer (some ⟨bx, 0, none⟩), .slice ac c.length cc] (wr.alloc (.cells #[.bool false] 4)) (addR tagI w0.heap.size w0 (wr.alloc (.cells #[.bool false] 4)) bx bw bk C n G c) := by
      cases ht : adjB (normL c) with
      | true => exact rup_addT tagI w0.heap.size w0 _ bx bw bk vc vt C us es Wt K n G c ac c.length cc hMI h2 rfl hcc hc0 (hs.below (hE.below hTI)) (fun x hx => by have := hok x hx; unfold LitOk at this; unfold I64; omega) hcl ht
      | false => exact rup_addF tagI w0.heap.size w0 _ bx bw bk vc vt C us es Wt K n G c ac c.length cc hMI h2 hn (by omega) rfl hcc hc0 (hs.below (hE.below hTI)) hok hcl ht
    have hdo := check_add2 b1 b2 (.slice ac c.length cc) bx (wr.alloc (.cells #[.bool false] 4)) _ (fit_cell (vs := [.pointer (some ⟨bx, 0, none⟩)]) (hE.x hTI) 0) (fit_cell (vs := [.slice ac c.length cc]) ((Below.heap_alloc _ _ _ (Array.getElem?_eq_some_iff.1 hb2).1).trans hb2) 0) (fun e w' hr => by
      rcases hr with ⟨e1, -⟩ | ⟨e1, -⟩
      · exact .inl e1
      · exact .inr e1) hadd
    have key : ∀ w1 w', Touch (ST tagI bx bw bk) (wr.alloc (.cells #[.bool false] 4)) w1 → Touch (fun k => k = wr.heap.size) w1 w' → Touch (ST noT bx bw bk) wS w' := fun w1 w' g1 g2 => (hTI.st hGI g1).trans' g2 fun k hk e => by have := h.t.size; omega
    refine (fails_add2 b1 b2 wr (fun w1 => addR tagI w0.heap.size w0 (wr.alloc (.cells #[.bool false] 4)) bx bw bk C n G c (.returned (.tuple #[])) w1) (fun w1 => Bad (G ++ [c]) [] ∧ Touch (ST tagI bx bw bk) (wr.alloc (.cells #[.bool false] 4)) w1) (hdo.mono fun e w1 hr => ?_)).mono ?_
    · rcases hr with ⟨e1, hr⟩ | ⟨e1, hb, hT⟩
      · have hr2 := hr
        obtain ⟨tag', vc', vt', C', us', es', Wt', K', g1, g2, g3, g4, g5⟩ := hr
        exact ⟨(hXI.keep g4 hXI.not g3).blk, .inl ⟨e1, .inl ⟨rfl, hr2⟩⟩⟩
      · exact ⟨(hT.block _ hXI.lt hXI.not).trans hXI.blk, .inr ⟨e1, hb, hT⟩⟩
    · rintro e w' (⟨rfl, w1, hr, rfl⟩ | ⟨rfl, w1, ⟨hb, hT⟩, hT2⟩)
      · refine ⟨false, rfl, ?_⟩
        rcases hr with ⟨-, tag', vc', vt', C', us', es', Wt', K', g1, g2, g3, g4, g5⟩ | ⟨e1, -⟩
        · have hX2 := hXI.keep g4 hXI.not g3
          have hT2 : Touch (fun k => k = wr.heap.size) w1 (w1.setCell ⟨wr.heap.size, 0, none⟩ (.bool false)) := (Touch.refl (fun k => k = wr.heap.size) w1).setCell (p := ⟨wr.heap.size, 0, none⟩) rfl _
          refine ⟨key _ _ g4 hT2, .inr ⟨rfl, tag', vc', vt', C', us', es', Wt', K', g1.oth (hT2.mono fun k _ e => by rw [e]; exact ⟨hX2.le, hX2.nx, hX2.nw, hX2.nk, .inl hX2.tg⟩) fun _ _ => rfl, g2, hGI.trans g3 hTI.size, by rw [List.length_append]; simp; omega⟩⟩
        · rcases e1 with e1 | e1 <;> cases e1
      · exact ⟨true, rfl, key _ _ hT hT2, .inl ⟨rfl, hb⟩⟩

/-- The base is made. -/
theorem ck_start (w wx wS : World) (n : Nat) (hb : Below w.heap.size w wx) (h : (((wx.alloc (.map #[] 0)).alloc (.map #[] 0)).alloc (.cells #[nilS, .map (some wx.heap.size), .map (some (wx.heap.size + 1)), nilS, .int .i64 0] 93)).alloc (.cells #[.pointer (some ⟨wx.heap.size + 1 + 1, 0, none⟩)] 89) = wS) :
    CE w wS (wx.heap.size + 1 + 1) wx.heap.size (wx.heap.size + 1) (wx.heap.size + 1 + 1 + 1) ∧ CK w wS (wx.heap.size + 1 + 1) wx.heap.size (wx.heap.size + 1) n [] wS false := by
  have hs := hb.size
  have e1 : (wx.alloc (.map #[] 0)).heap.size = wx.heap.size + 1 := size_al _ _
  have e2 : ((wx.alloc (.map #[] 0)).alloc (.map #[] 0)).heap.size = wx.heap.size + 1 + 1 := by rw [size_al, e1]
  have e3 : (((wx.alloc (.map #[] 0)).alloc (.map #[] 0)).alloc (.cells #[nilS, .map (some wx.heap.size), .map (some (wx.heap.size + 1)), nilS, .int .i64 0] 93)).heap.size = wx.heap.size + 1 + 1 + 1 := by rw [size_al, e2]
  have hbS : Below w.heap.size w wS := by
    rw [← h]
    exact below_al (below_al (below_al (below_al hb (by omega) _) (by omega) _) (by omega) _) (by omega) _
  have hX : wS.heap[wx.heap.size + 1 + 1 + 1]? = some (.cells #[.pointer (some ⟨wx.heap.size + 1 + 1, 0, none⟩)] 89 (0, 0)) := by
    rw [← h, ← e3]; exact heap_alloc_new _ _
  have hB : wS.heap[wx.heap.size + 1 + 1]? = some (.cells #[nilS, .map (some wx.heap.size), .map (some (wx.heap.size + 1)), nilS, .int .i64 0] 93 (0, 0)) := by
    rw [← h, Below.heap_alloc _ _ _ (by omega), ← e2]; exact heap_alloc_new _ _
  have hK : IM wS (wx.heap.size + 1) [] := by
    rw [← e1]
    refine (im_made (wx.alloc (.map #[] 0))).frame ?_
    rw [← h, Below.heap_alloc _ _ _ (by omega), Below.heap_alloc _ _ _ (by omega)]
  have hW : IM wS wx.heap.size [] := by
    refine (im_made wx).frame ?_
    rw [← h, Below.heap_alloc _ _ _ (by omega), Below.heap_alloc _ _ _ (by omega), Below.heap_alloc _ _ _ (by omega)]
  refine ⟨⟨hbS, ⟨by omega, by omega, by omega⟩, hX, ⟨by omega, by omega, by omega⟩, by omega⟩, Touch.refl _ _, .inr ⟨rfl, noT, nilS, nilS, [], [], [], fun _ => [], [], ⟨hbS, hbS.size, by omega, by omega, by omega, by omega, hB, World.ownsRow_nil _ _ _ _, nofun, fun i c hc => by simp at hc, World.ownsRow_nil _ _ _ _, nofun, hW, fun a => ⟨none, 0, rfl, fun _ => rfl, .inl ⟨rfl, rfl⟩⟩, hK⟩, ⟨⟨by simp, fun i c a hc => by simp at hc, by simp⟩, prb_nil' [], by simp, List.nodup_nil, by simp, by simp, by simp, fun f hf => by simp at hf⟩, TG.refl _ _, Nat.le_refl _⟩⟩

end Go.Proofs.Ytfmahgobogelkaa.Ord
