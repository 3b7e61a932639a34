/- The walk of solve's learn. -/
import Derived.Test.YtfofabbnbmieoaaQ7

namespace Go.Proofs.Ytfofabbnbmieoaa.Ord
open Go.RowKit Go.Conc

attribute [local go_sem ↓] Go.wp_at_zero Go.wp_at_succ
attribute [local go_sem ↓ high] app_mark

/-- What learn leaves. -/
def solLearnR (n : Nat) (G : List (List Int)) (bs : List Nat) (tag : Nat → KT) (B : Nat) (w0 w : World) (a : SA) (v : SV) (d : SD) (e : Ending) (w' : World) : Prop :=
  ∃ (tag' : Nat → KT) (A' : List Int) (u : Value) (c : List Int) (lv j : Nat) (p : Int) (O : List Int), e = .returned (.tuple #[u, .int .i64 lv]) ∧ SM tag' B w0 w' a v { d with A := A' } ∧ SR tag tag' w w' ∧ OutR tag' w.heap.size w' u c ∧ LD n G d.K bs j p O ∧ LA n d.K bs p O c lv

/-- The memory while learn runs. -/
structure LW (tag : Nat → KT) (B : Nat) (w0 w : World) (a : SA) (v : SV) (d : SD) (wr : World) (tag' : Nat → KT) (A' : List Int) (se : List Bool) (u : Value) (xs : List Int) : Prop where
  sm : SM tag' B w0 wr a v { d with se := se, A := A' }
  sr : SR tag tag' w wr
  out : OutR tag' w.heap.size wr u xs

section
variable {tag tag' : Nat → KT} {B : Nat} {w0 w wr w6 : World} {a : SA} {v : SV} {d : SD} {A' : List Int} {se : List Bool} {u : Value} {xs : List Int}

theorem Touch.below' {S : Nat → Prop} {w w' : World} (h : Below w.heap.size w w') : Touch S w w' := ⟨h.os, h.tape, h.output, h.size, fun k hk _ => h.block k hk⟩

theorem LW.drewN (h : LW tag B w0 w a v d wr tag' A' se u xs) (q : Nat) : LW tag B w0 w a v d (wr.drewN q) tag' A' se u xs :=
  ⟨h.sm.drewN q, h.sr.drewN q, h.out.keep ((SR.refl tag' wr).drewN q)⟩

theorem LW.see (h : LW tag B w0 w a v d wr tag' A' se u xs) (i : Nat) (b : Bool) : LW tag B w0 w a v d (wr.setCell ⟨a.bs, i, none⟩ (.bool b)) tag' A' (se.set i b) u xs := by
  have hT := h.sm.chg (b := a.bs) (o := i) (h.sm.co .see).1.2 nofun (.bool b)
  exact ⟨h.sm.setSee i b, h.sr.same hT, h.out.keep ((SR.refl tag' wr).same hT)⟩

theorem LW.bump (h : LW tag B w0 w a v d wr tag' A' se u xs) {v0 by' : Int} : Calls Try.prog 71 #[.pointer (some ⟨a.bh, 0, none⟩), .int .i64 v0, .int .i64 by'] wr fun x w' => ∃ e tag2 A2, x = .returned (.int .i64 e) ∧ LW tag B w0 w a v d w' tag2 A2 se u xs :=
  h.sm.bumpC.mono fun _ _ ⟨e, A2, h1, h2, h3⟩ => ⟨e, _, A2, h1, h2, h.sr.trans h3, h.out.keep h3⟩

theorem LW.push (h : LW tag B w0 w a v d wr tag' A' se u xs) (hB : B ≤ w.heap.size) (hl : xs.length ≤ 4194304) (x : Int) :
    ∃ a' c' w6 tag2, (appM #[22, 22] 22 #[u, .slice (some ⟨wr.heap.size, 0, none⟩) 1 1]).run Try.prog (wr.alloc (.cells #[.int .i64 x] 3 (0, 0))) = .ok (.slice a' (xs.length + 1) c') w6 ∧ LW tag B w0 w a v d w6 tag2 A' se (.slice a' (xs.length + 1) c') (xs ++ [x]) := by
  obtain ⟨a', c', w6, h1, h2, h3, h4⟩ := h.out.push h.sm h.sr hB hl x
  exact ⟨a', c', w6, _, h1, h2, h3, h4⟩

end

set_option maxRecDepth 100000 in
set_option maxHeartbeats 16000000 in
theorem sol_learn (tag : Nat → KT) (B : Nat) (w0 w : World) (a : SA) (v : SV) (d : SD) (n : Nat) (G : List (List Int)) (Rz : List Int) (bs : List Nat) (i : Nat) (h : SM tag B w0 w a v d) (hn : a.n1 = n + 1) (hn1 : n ≤ 1048576) (hk : LK n d Rz bs) (hc : CF n G d.C (WtF d.Wt) d.K Rz bs i) (hb : 0 < bs.length) :
    Calls Try.prog 52 #[.pointer (some ⟨a.bx, 0, none⟩), .int .i64 i] w (solLearnR n G bs tag B w0 w a v d) := by
  obtain ⟨Q, hQ⟩ : ∃ Q : Ending → World → Prop, solLearnR n G bs tag B w0 w a v d = Q := ⟨_, rfl⟩
  rw [hQ]
  have HQ : Hid (∀ e w', solLearnR n G bs tag B w0 w a v d e w' → Q e w') := hid (fun e w' h => by rw [← hQ]; exact h)
  clear hQ
  have HLT : Hid (LT n G d.K bs) := hid ⟨hc.cons, hc.nod, hc.kok, hc.lv0⟩
  obtain ⟨c0, hc0, hfl, x0, hx0, j0, hj0, hlv0⟩ := hc.fls
  have hst := hc.toCB
  obtain ⟨hli, hlk0⟩ := hc.start hc0
  have hco0 : ∀ c ∈ d.C, ∀ l ∈ c, LitOk n l := fun c h => (hc.wi.cls c h).2.2.1
  have hK1 : 0 < d.K.length := Nat.lt_of_le_of_lt (Nat.zero_le _) (List.getElem?_eq_some_iff.1 hj0).1
  obtain ⟨at0, hat0⟩ : ∃ t, d.K.length = t + 1 := ⟨d.K.length - 1, by omega⟩
  have hLQ : LQ n G d.K bs c0 0 0 (at0 + 1) [] [] d.se := by
    refine ⟨by rw [← hat0]; exact hli, fun l hl hne => by rw [← hat0]; exact hlk0 l hl hne, .inr ⟨x0, by simpa using hx0, (hco0 c0 (List.mem_of_getElem? hc0) x0 hx0).1, j0, hj0, hlv0⟩, fun v' _ => ?_, (h.co .see).2.trans hn, hco0 c0 (List.mem_of_getElem? hc0), by omega⟩
    constructor
    · intro e
      cases hv : d.se[v']? with
      | none => rw [hv] at e; cases e
      | some b =>
        rw [hv] at e
        have := hk.se b (List.mem_of_getElem? hv)
        rw [this] at e
        cases e
    · rintro (⟨t, ht, -⟩ | ⟨o, ho, -⟩)
      · cases ht
      · cases ho
  have hKn : d.K.length ≤ n := lits_le hc.nod hc.cons hc.kok
  have hB := h.le
  have hlsl : d.ls.length = bs.length := by rw [hk.ls, List.length_map]
  have HN := hid (And.intro hn (And.intro hn1 (And.intro hKn (And.intro hB (And.intro hb hlsl)))))
  have hcl0 : ∀ c ∈ d.C, c.length ≤ n := fun c h => lits_le (hc.wi.cls c h).2.1 (hc.wi.cls c h).2.2.2 (hc.wi.cls c h).2.2.1
  have HCB := hid (And.intro hc.rs (And.intro hc.sub (And.intro hco0 hcl0)))
  have HLK := hid hk
  have HH := hid h
  have h0 : SM (tgN tag w .oth) B w0 (w.alloc (.cells #[.int .i64 0] 3 (0, 0))) a v d := h.grow (box_below _ _) (fun g hg => tgN_old hg) fun k hk hn => absurd (tgN_new hk) hn
  have HW0 : Hid (LW tag B w0 w a v d (w.alloc (.cells #[.int .i64 0] 3 (0, 0))) (tgN tag w .oth) d.A d.se (.slice (some ⟨w.heap.size, 0, none⟩) 1 1) (0 :: [])) := hid ⟨h0, ⟨Touch.below' (box_below _ _), fun g hg e => (tgN_old hg).trans e⟩, ⟨⟨rfl, .inr ⟨w.heap.size, 1, _, rfl, Nat.le_refl _, heap_alloc_new _ _, Nat.le_refl _, by unfold maxLen; omega, rfl, rfl⟩⟩, fun g hg => by injection hg with hg; exact tgN_new (by rw [← hg]; exact Nat.le_refl _)⟩⟩
  have HLQ := hid (And.intro hc0 hLQ)
  obtain ⟨atk, ctk, hvt, hot⟩ := h0.trlc
  have b8 : (w.alloc (.cells #[.int .i64 0] 3 (0, 0))).cell? ⟨a.bx, 8, none⟩ = some (.slice atk d.K.length ctk) := by rw [h0.cell 8, ← hvt]; rfl
  rw [hat0] at b8
  have hwa : IntKind.i64.wrap (((at0 + 1 : Nat) : Int) - 1) = (at0 : Int) := (IntWalk.i64_in _ (by omega)).trans (by omega)
  have hwb : wrap64 (at0 : Int) = (at0 : Int) := IntWalk.wrap64_in _ (by omega)
  clear h hn hn1 hk hc hb hc0 hfl hx0 hj0 hlv0 hst hli hlk0 hco0 hcl0 hK1 hLQ hKn hB hlsl h0 hvt hot
  go_enter Try.func52, Try.ntmps52
  go_wp2_with fail
  go_quiet (fail)
  go_wp2_with fail
  have HW1 := hid (HW0.out.drewN nq)
  clear HW0 b8 hwa
  go_loopw [1, 6, 7, 8, 9] (fun s1 s6 s7 s8 s9 wr => ∃ (tag' : Nat → KT) (A' : List Int) (se' : List Bool) (uo : Value) (O : List Int) (S : List Nat) (ci ol at' : Nat) (sk : Int) (c : List Int), s1 = .int .i64 ci ∧ s6 = uo ∧ s7 = .int .i64 ol ∧ s8 = .int .i64 at' ∧ s9 = .int .i64 sk ∧ Hid (LW tag B w0 w a v d wr tag' A' se' uo (0 :: O) ∧ d.C[ci]? = some c ∧ LQ n G d.K bs c sk 0 (at' + 1) S O se' ∧ S.length = ol)) (fun _ _ _ s8 _ _ => (intOf s8).toNat)
  case atStart => exact ⟨_, _, _, _, [], [], i, 0, at0, 0, c0, rfl, rfl, rfl, by rw [hwb], rfl, hid ⟨HW1.out, HLQ.out.1, HLQ.out.2, rfl⟩⟩
  case round =>
    clear HW1 HLQ hwb
    obtain ⟨tag1, A1, se1, uo1, O1, S1, ci, ol1, at1, sk, c, rfl, rfl, rfl, rfl, rfl, HS⟩ := hrel
    obtain ⟨hW, hc, hL, hol⟩ := HS.out
    obtain ⟨ac, cc, hvc, hco⟩ := hW.sm.clrc
    obtain ⟨g2, o2, cap2, cur2, hus, htg2, -, -⟩ := hW.sm.clsAt hc
    rw [hvc] at hco
    obtain ⟨bc, oc, hac, hcc⟩ := own_slv hco ci _ hus
    obtain ⟨CL, hCL⟩ : ∃ t, d.C.length = t := ⟨_, rfl⟩
    obtain ⟨N, hNN⟩ : ∃ t, c.length = t := ⟨_, rfl⟩
    have b1 : wr.cell? ⟨a.bx, 1, none⟩ = some (.slice (some ⟨bc, oc, none⟩) CL cc) := by rw [hW.sm.cell 1, ← hCL]; show some v.vc = _; rw [hvc, hac]
    rw [hNN] at hcc
    have hiC : (ci : Int) < CL := by have := (List.getElem?_eq_some_iff.1 hc).1; omega
    have hi0 : (0 : Int) ≤ ci := by omega
    have HC := hid (And.intro hc (And.intro hus hNN))
    have HS1 := hid (And.intro hW (And.intro hL hol))
    clear hW hc hL hol hvc hco hus htg2 hac hCL hNN HS
    go_wp2_with fail
    go_loopw [6, 7, 32] (fun s6 s7 s32 wr => ∃ (tag' : Nat → KT) (A' : List Int) (se' : List Bool) (uo : Value) (O : List Int) (S : List Nat) (ol m : Nat), s6 = uo ∧ s7 = .int .i64 ol ∧ s32 = .int .i64 m ∧ m ≤ N ∧ Hid (LW tag B w0 w a v d wr tag' A' se' uo (0 :: O) ∧ LQ n G d.K bs c sk m (at1 + 1) S O se' ∧ S.length = ol)) (fun _ _ s32 _ => (N - (intOf s32)).toNat)
    case atStart => exact ⟨_, _, _, _, _, _, ol1, 0, rfl, rfl, rfl, Nat.zero_le _, HS1⟩
    case round =>
      clear HS1 b1 hcc
      obtain ⟨tag2, A2, se2, uo2, O2, S2, ol2, m, rfl, rfl, rfl, hmN, HS⟩ := hrel
      by_cases hlt : m < N
      · have hlt2 : (m : Int) < N := by omega
        obtain ⟨hW, hL, hol⟩ := HS.out
        obtain ⟨l, hl⟩ : ∃ l, c[m]? = some l := ⟨_, List.getElem?_eq_getElem (by have := HC.out.2.2; omega)⟩
        have hlo := hL.co l (List.mem_of_getElem? hl)
        have hcl := hW.sm.clsLit HC.out.1 HC.out.2.1 hl
        have hvr := vrL_range hlo
        have hva := vrL_abs l
        obtain ⟨k, hkk⟩ : ∃ k : Nat, vrL l = k := ⟨(vrL l).toNat, by omega⟩
        have hkl : l.natAbs = k := by omega
        have hkn : k < a.n1 := by have := HN.out.1; omega
        have hki : (k : Int) < a.n1 := by omega
        have hk0 : (0 : Int) ≤ k := by omega
        have hlb : -1048577 ≤ l ∧ l ≤ 1048577 := by have := HN.out.2.1; unfold LitOk at hlo; omega
        have HV : Hid (∀ wz : World, Calls Try.prog 70 #[.int .i64 l] wz fun e w' => e = .returned (.int .i64 (k : Int)) ∧ wz = w') := hid fun wz => sol_variable l k wz hkk hlb
        have b5 : wr.cell? ⟨a.bx, 5, none⟩ = some (.slice (some ⟨a.bl, 0, none⟩) a.n1 a.n1) := hW.sm.cell 5
        have b7 : wr.cell? ⟨a.bx, 7, none⟩ = some (.slice (some ⟨a.bs, 0, none⟩) a.n1 a.n1) := hW.sm.cell 7
        have cs : wr.cell? ⟨a.bs, k, none⟩ = some (.bool ((se2[k]?).getD false)) := hW.sm.seec hkn
        have cl : wr.cell? ⟨a.bl, k, none⟩ = some (.int .i64 ((d.lv[k]?).getD 0)) := hW.sm.levc hkn
        have hwm : IntKind.i64.wrap ((m : Int) + 1) = (m : Int) + 1 := IntWalk.i64_in _ (by have h1 := HC.out.2.2; have h2 := HN.out.2.1; have h3 := HCB.out.2.2.2 c (List.mem_of_getElem? HC.out.1); omega)
        have HL := hid (And.intro hl (And.intro hlo hkl))
        have HSW := hid (And.intro hW (And.intro hL hol))
        by_cases hsk : l = sk
        · have hske : (l == sk) = true := beq_iff_eq.2 hsk
          have HQ2 := hid (hL.skip HLT.out HN.out.2.2.2.2.1 hl (.inl hsk))
          clear hW hL hol hl hlo hvr hva hkk hkl hkn hlb hsk HS
          go_wp2_with (go_at_call 70; refine (HV.out _).mono ?_; rintro e w' ⟨rfl, rfl⟩)
          go_roundw
          case rel => exact ⟨_, _, _, _, _, _, _, m + 1, rfl, rfl, by simp, by omega, hid ⟨HSW.out.1, HQ2.out, HSW.out.2.2⟩⟩
          case measure => simp [intOf]; omega
        · have hske : (l == sk) = false := beq_false_of_ne hsk
          by_cases hsn : (se2[k]?).getD false = true
          · rw [hsn] at cs
            have hsp := (hL.sq k (by have := HN.out.1; omega)).1 hsn
            have HQ2 := hid (hL.skip HLT.out HN.out.2.2.2.2.1 hl (.inr (.inl (by rw [hkl]; exact hsp))))
            clear hW hL hol hl hlo hvr hva hkk hkl hkn hlb hsk HS hsn hsp
            go_wp2_with (go_at_call 70; refine (HV.out _).mono ?_; rintro e w' ⟨rfl, rfl⟩)
            go_roundw
            case rel => exact ⟨_, _, _, _, _, _, _, m + 1, rfl, rfl, by simp, by omega, hid ⟨HSW.out.1, HQ2.out, HSW.out.2.2⟩⟩
            case measure => simp [intOf]; omega
          · have hsf : (se2[k]?).getD false = false := by simpa using hsn
            rw [hsf] at cs
            have hns : ¬ SeenP d.K S2 O2 l.natAbs := fun e => hsn ((hL.sq k (by have := HN.out.1; omega)).2 (by rw [← hkl]; exact e))
            obtain ⟨j, hjM, hj⟩ := hL.lk l (List.mem_of_getElem? hl) hsk
            have hlvj := HLK.out.lv j _ hj
            rw [vrL_abs, Int.natAbs_neg, hkl] at hlvj
            rw [hlvj] at cl
            have hcl2 : ((some (lvl bs j : Int)).getD 0) = (lvl bs j : Int) := rfl
            rw [hcl2] at cl
            obtain ⟨q, hq⟩ : ∃ q, lvl bs j = q := ⟨_, rfl⟩
            rw [hq] at cl
            by_cases hq0 : q = 0
            · subst hq0
              have HQ2 := hid (hL.skip HLT.out HN.out.2.2.2.2.1 hl (.inr (.inr fun j2 hj2 => by
                have := nodup_get HLT.out.nod hj2 hj
                subst this
                exact hq)))
              clear hW hL hol hl hlo hvr hva hkk hkl hkn hlb hsk HS hsn hsf hns hjM hj hlvj hcl2 hq
              go_wp2_with (go_at_call 70; refine (HV.out _).mono ?_; rintro e w' ⟨rfl, rfl⟩)
              go_roundw
              case rel => exact ⟨_, _, _, _, _, _, _, m + 1, rfl, rfl, by simp, by omega, hid ⟨HSW.out.1, HQ2.out, HSW.out.2.2⟩⟩
              case measure => simp [intOf]; omega
            · have hqe : ((q : Int) == 0) = false := beq_false_of_ne (by omega)
              have HJ := hid (And.intro hsk (And.intro hns (And.intro hj (And.intro hq (And.intro hjM hq0)))))
              have hW1 := hW.see k true
              have fs : wr.frozen? ⟨a.bs, k, none⟩ = false := Fx.free (hW.sm.co .see).1
              have b0 : (wr.setCell ⟨a.bs, k, none⟩ (.bool true)).cell? ⟨a.bx, 0, none⟩ = some (.pointer (some ⟨a.bh, 0, none⟩)) := hW1.sm.cell 0
              have b12 : (wr.setCell ⟨a.bs, k, none⟩ (.bool true)).cell? ⟨a.bx, 12, none⟩ = some (.int .i64 d.bp) := hW1.sm.cell 12
              have HB := hid ((hW1.drewN 1).bump (v0 := (k : Int)) (by' := d.bp))
              have HK := hid (And.intro hkl hkn)
              clear hW hL hol hl hlo hvr hva hkk hkl hkn hlb hsk HS hsn hsf hns hjM hj hlvj hcl2 hq hq0 hW1
              go_wp2_with (go_at_call 70; refine (HV.out _).mono ?_; rintro e w' ⟨rfl, rfl⟩)
              refine wp_region_R (fun yw => yw.cell? ⟨a.bx, 0, none⟩ = some (.pointer (some ⟨a.bh, 0, none⟩)) ∧ yw.cell? ⟨a.bx, 12, none⟩ = some (.int .i64 d.bp)) [9] (by kernel_rfl) ?_
              have hHeld : (fun yw : World => yw.cell? ⟨a.bx, 0, none⟩ = some (.pointer (some ⟨a.bh, 0, none⟩)) ∧ yw.cell? ⟨a.bx, 12, none⟩ = some (.int .i64 d.bp)) (wr.setCell ⟨a.bs, k, none⟩ (.bool true)).drew := ⟨b0, b12⟩
              refine wpR.take 0 rfl (by kernel_rfl) (fun _ _ _ h => h) (by rfl) (v := ?_) ?_ (by assumption) ?_
              rotate_left 1
              · (intro wx hSw; (try dsimp only at hSw); go_simp; try with_reducible rfl)
              try simp only [Act.put, List.setIfInBounds_toArray, List.set_cons_zero, List.set_cons_succ]
              refine wpR.take 1 rfl (by kernel_rfl) (fun _ _ _ h => h) (by rfl) (v := ?_) ?_ (by assumption) ?_
              rotate_left 1
              · (intro wx hSw; (try dsimp only at hSw); go_simp; try with_reducible rfl)
              try simp only [Act.put, List.setIfInBounds_toArray, List.set_cons_zero, List.set_cons_succ]
              refine wpR.take 2 rfl (by kernel_rfl) (fun _ _ _ h => h) (by rfl) (v := ?_) ?_ (by assumption) ?_
              rotate_left 1
              · (intro wx hSw; (try dsimp only at hSw); go_simp; try with_reducible rfl)
              try simp only [Act.put, List.setIfInBounds_toArray, List.set_cons_zero, List.set_cons_succ]
              refine wpR.take 3 rfl (by kernel_rfl) (fun _ _ _ h => h) (by rfl) (v := ?_) ?_ (by assumption) ?_
              rotate_left 1
              · (intro wx hSw; (try dsimp only at hSw); go_simp; try with_reducible rfl)
              try simp only [Act.put, List.setIfInBounds_toArray, List.set_cons_zero, List.set_cons_succ]
              refine wpR.take 4 rfl (by kernel_rfl) (fun _ _ _ h => h) (by rfl) (v := ?_) ?_ (by assumption) ?_
              rotate_left 1
              · (intro wx hSw; (try dsimp only at hSw); go_simp; try with_reducible rfl)
              try simp only [Act.put, List.setIfInBounds_toArray, List.set_cons_zero, List.set_cons_succ]
              refine wpR.take 5 rfl (by kernel_rfl) (fun _ _ _ h => h) (by rfl) (v := ?_) ?_ (by assumption) ?_
              rotate_left 1
              · (intro wx hSw; (try dsimp only at hSw); go_simp; try with_reducible rfl)
              try simp only [Act.put, List.setIfInBounds_toArray, List.set_cons_zero, List.set_cons_succ]
              refine wpR.take 6 rfl (by kernel_rfl) (fun _ _ _ h => h) (by rfl) (v := ?_) ?_ (by assumption) ?_
              rotate_left 1
              · (intro wx hSw; (try dsimp only at hSw); go_simp; try with_reducible rfl)
              try simp only [Act.put, List.setIfInBounds_toArray, List.set_cons_zero, List.set_cons_succ]
              refine wpR.take 7 rfl (by kernel_rfl) (fun _ _ _ h => h) (by rfl) (v := ?_) ?_ (by assumption) ?_
              rotate_left 1
              · (intro wx hSw; (try dsimp only at hSw); go_simp; try with_reducible rfl)
              try simp only [Act.put, List.setIfInBounds_toArray, List.set_cons_zero, List.set_cons_succ]
              refine wpR.take 8 rfl (by kernel_rfl) (fun _ _ _ h => h) (by rfl) (v := ?_) ?_ (by assumption) ?_
              rotate_left 1
              · (intro wx hSw; (try dsimp only at hSw); go_simp; try with_reducible rfl)
              try simp only [Act.put, List.setIfInBounds_toArray, List.set_cons_zero, List.set_cons_succ]
              refine wpR.enter 9 rfl (by kernel_rfl) (by rfl) (f := ?_) (args := ?_) ?_ ?_
              rotate_left 2
              · (go_simp; first | done | with_reducible rfl | (refine ⟨?_, ?_⟩ <;> with_reducible rfl))
              refine HB.out.mono ?_
              rintro e w3 ⟨e3, tag3, A3, rfl, hW3⟩
              refine ⟨_, rfl, fun q => absurd (by decide) q, ?_⟩
              try simp only [Act.put, List.setIfInBounds_toArray, List.set_cons_zero, List.set_cons_succ]
              refine wpR.done (by kernel_rfl) ?_
              have b5 : w3.cell? ⟨a.bx, 5, none⟩ = some (.slice (some ⟨a.bl, 0, none⟩) a.n1 a.n1) := hW3.sm.cell 5
              have cl : w3.cell? ⟨a.bl, k, none⟩ = some (.int .i64 q) := by
                rw [hW3.sm.levc HK.out.2]
                have h1 := HLK.out.lv j _ HJ.out.2.2.1
                rw [vrL_abs, Int.natAbs_neg, HK.out.1] at h1
                show some (Value.int .i64 ((d.lv[k]?).getD 0)) = _
                rw [h1, HJ.out.2.2.2.1]
                rfl
              obtain ⟨ald, cld, hvd, -⟩ := hW3.sm.lvsc
              have b10 : w3.cell? ⟨a.bx, 10, none⟩ = some (.slice ald d.ls.length cld) := by rw [hW3.sm.cell 10, ← hvd]; rfl
              obtain ⟨NL, hNL⟩ : ∃ t, d.ls.length = t := ⟨_, rfl⟩
              rw [hNL] at b10
              have HNL := hid hNL
              have HW3 := hid hW3
              clear hvd hNL hW3 b0 b12 HB
              by_cases hqn : q = NL
              · have hqne : ((q : Int) == (NL : Int)) = true := beq_iff_eq.2 (by omega)
                have hwo : IntKind.i64.wrap ((ol2 : Int) + 1) = (ol2 : Int) + 1 := IntWalk.i64_in _ (by have h1 := (HSW.out.2.1.li.sizes HLT.out).1; have h2 := HSW.out.2.2; have h3 := HSW.out.2.1.ml; have h4 := HN.out; omega)
                have HQ2 := hid (HSW.out.2.1.opn HL.out.1 HJ.out.1 HJ.out.2.1 HJ.out.2.2.1 (by have := HJ.out.2.2.2.1; have := HN.out.2.2.2.2.2; have := HNL.out; omega) HJ.out.2.2.2.2.1)
                rw [HK.out.1] at HQ2
                clear hqn
                go_wp2_with fail
                go_quiet (fail)
                go_wp2_with fail
                go_roundw
                case rel => exact ⟨_, _, _, _, _, _, ol2 + 1, m + 1, rfl, by simp, by simp, by omega, hid ⟨HW3.out.drewN nq, HQ2.out, by simp [HSW.out.2.2]⟩⟩
                case measure => simp [intOf]; omega
              · have hqne : ((q : Int) == (NL : Int)) = false := beq_false_of_ne (by omega)
                have HQ2 := hid (HSW.out.2.1.out HL.out.1 HJ.out.1 HJ.out.2.1 HLT.out HJ.out.2.2.1 (by have := HJ.out.2.2.2.1; have := HJ.out.2.2.2.2.2; omega) (by have := HJ.out.2.2.2.1; have := HN.out.2.2.2.2.2; have := HNL.out; have := lvl_le bs j; omega))
                rw [HK.out.1] at HQ2
                clear hqn
                go_wp2_with fail
                go_quiet (fail)
                have HW4 := hid (HW3.out.drewN nq)
                clear HW3 b5 cl b10
                generalize w3.drewN nq = w4 at HW4 ⊢
                obtain ⟨a5, c5, w5, tag5, hr5, hW5⟩ := HW4.out.push HN.out.2.2.2.1 (by have h1 := (HSW.out.2.1.li.sizes HLT.out).2; have h2 := HN.out.2.1; simp only [List.length_cons]; omega) l
                have hr5 : (appM #[22, 22] 22 #[u6, .slice (some ⟨w4.heap.size, 0, none⟩) 1 1]).run Try.prog (w4.alloc (.cells #[.int .i64 l] 3 (0, 0))) = .ok (.slice a5 ((0 :: O2).length + 1) c5) w5 := hr5
                have HW5 := hid hW5
                clear hW5
                go_wp2_with fail
                go_roundw
                case rel => exact ⟨_, _, _, _, O2 ++ [l], _, _, m + 1, rfl, rfl, by simp, by omega, hid ⟨HW5.out, HQ2.out, HSW.out.2.2⟩⟩
                case measure => simp [intOf]; omega
      · have hmE : m = N := by omega
        subst hmE
        have hlt2 : ¬ (m : Int) < m := by omega
        obtain ⟨hW, hL, hol⟩ := HS.out
        have hP := hL.done (by have := HC.out.2.2; omega)
        have HP := hid (And.intro hP hol)
        have HW := hid hW
        have hmx : ∀ t ∈ S2, t ≤ at1 := fun t ht => by have := (hP.li.sp t ht).1; omega
        have HMX := hid hmx
        have hatK : at1 < d.K.length := by have := hP.ml; omega
        have HAK := hid hatK
        clear hW hL hol hP hmx hatK HS
        go_wp2_with fail
        go_loopw [8] (fun s8 wl => ∃ at2 : Nat, s8 = .int .i64 at2 ∧ Hid (at2 ≤ at1 ∧ (∀ t ∈ S2, t ≤ at2)) ∧ Hid (LW tag B w0 w a v d wl tag2 A2 se2 u6 (0 :: O2))) (fun s8 _ => (intOf s8).toNat)
        case atStart => exact ⟨at1, rfl, hid ⟨Nat.le_refl _, HMX.out⟩, HW⟩
        case round =>
          clear HW HMX
          obtain ⟨at2, rfl, HMX, HW⟩ := hrel
          have hatK : at2 < d.K.length := Nat.lt_of_le_of_lt HMX.out.1 HAK.out
          obtain ⟨pl, hp⟩ : ∃ p, d.K[at2]? = some p := ⟨_, List.getElem?_eq_getElem hatK⟩
          have hpo := HLT.out.kok pl (List.mem_of_getElem? hp)
          have hpr := vrL_range hpo
          have hpa := vrL_abs pl
          obtain ⟨kp, hkk⟩ : ∃ k : Nat, vrL pl = k := ⟨(vrL pl).toNat, by omega⟩
          have hkl : pl.natAbs = kp := by omega
          have hkn : kp < a.n1 := by have := HN.out.1; omega
          have hki : (kp : Int) < a.n1 := by omega
          have hk0 : (0 : Int) ≤ kp := by omega
          have hlb : -1048577 ≤ pl ∧ pl ≤ 1048577 := by have := HN.out.2.1; unfold LitOk at hpo; omega
          have HV : Hid (∀ wz : World, Calls Try.prog 70 #[.int .i64 pl] wz fun e w' => e = .returned (.int .i64 (kp : Int)) ∧ wz = w') := hid fun wz => sol_variable pl kp wz hkk hlb
          obtain ⟨atk, ctk, hvt, hot⟩ := HW.out.sm.trlc
          have hot' : wr.ownsRow B 3 1 v.vt d.K.length (ints d.K) := hot
          have hvt' : v.vt = .slice atk d.K.length ctk := hvt
          rw [hvt'] at hot'
          obtain ⟨bt, ot, hat, hcx⟩ := own_slv hot' at2 (.int .i64 pl) (by unfold ints; rw [List.getElem?_map, hp]; rfl)
          have b8 : wr.cell? ⟨a.bx, 8, none⟩ = some (.slice (some ⟨bt, ot, none⟩) d.K.length ctk) := by rw [HW.out.sm.cell 8, ← hat]; show some v.vt = _; rw [hvt']
          obtain ⟨KL, hKL⟩ : ∃ t, d.K.length = t := ⟨_, rfl⟩
          rw [hKL] at b8
          have hai : (at2 : Int) < KL := by omega
          have ha0 : (0 : Int) ≤ at2 := by omega
          have b7 : wr.cell? ⟨a.bx, 7, none⟩ = some (.slice (some ⟨a.bs, 0, none⟩) a.n1 a.n1) := HW.out.sm.cell 7
          have cs : wr.cell? ⟨a.bs, kp, none⟩ = some (.bool ((se2[kp]?).getD false)) := HW.out.sm.seec hkn
          have HX := hid (And.intro hp (And.intro hkl hkn))
          have HKL := hid hKL
          by_cases hsn : (se2[kp]?).getD false = true
          · rw [hsn] at cs
            have hin := HP.out.1.isIn HLT.out hp (by rw [hkl]; exact hsn) HMX.out.2
            have hwm1 : IntKind.i64.wrap ((at2 : Int) - 1) = (at2 : Int) - 1 := IntWalk.i64_in _ (by have := HN.out; have := HKL.out; omega)
            have holp : 1 ≤ ol2 := by rw [← HP.out.2]; exact List.length_pos_iff.2 HP.out.1.ne
            obtain ⟨ol3, hol3⟩ : ∃ t, ol2 = t + 1 := ⟨ol2 - 1, by omega⟩
            have hol2 : ol2 ≤ 1048577 := by have h1 := (HP.out.1.li.sizes HLT.out).1; have h2 := HP.out.2; have h3 := HP.out.1.ml; have h4 := HN.out; omega
            have hwo : IntKind.i64.wrap ((ol2 : Int) - 1) = (ol3 : Int) := (IntWalk.i64_in _ (by omega)).trans (by omega)
            have hwp : IntKind.i64.wrap (-pl) = -pl := IntWalk.i64_in _ (by omega)
            obtain ⟨go, co, cur, hu6, -, -, -, -, -⟩ := HW.out.out.shape (by simp)
            obtain ⟨N4, hN4⟩ : ∃ t, (0 :: O2).length = t := ⟨_, rfl⟩
            rw [hN4] at hu6
            have HN4 := hid hN4
            clear hN4
            subst hu6
            have HIN := hid hin
            have HOL := hid hol3
            clear hatK hp hpo hpr hpa hkk hkl hkn hlb hvt hot hot' hvt' hat hKL hsn hin holp hol2 hol3
            go_wp2_with fail
            go_quiet ((go_at_call 70; first | exact quiet_same2 (HV.out _) | exact quiet_same (HV.out _)))
            have HWq := hid (HW.out.drewN nq)
            replace b8 : (wr.drewN nq).cell? _ = _ := b8
            replace hcx : (wr.drewN nq).cell? _ = _ := hcx
            replace b7 : (wr.drewN nq).cell? _ = _ := b7
            replace cs : (wr.drewN nq).cell? _ = _ := cs
            clear HW
            generalize wr.drewN nq = wq at HWq b8 hcx b7 cs ⊢
            have fs : wq.frozen? ⟨a.bs, kp, none⟩ = false := Fx.free (HWq.out.sm.co .see).1
            have HW5 := hid (HWq.out.see kp false)
            by_cases hse : S2.erase at2 = []
            · have holz : ((ol3 : Int) == 0) = true := beq_iff_eq.2 (by
                have h1 := List.length_erase_of_mem HIN.out
                have h2 := HP.out.2
                have h3 := HOL.out
                rw [hse] at h1
                simp only [List.length_nil] at h1
                omega)
              obtain ⟨hD, hsq⟩ := HP.out.1.end HLT.out HX.out.1 HIN.out hse
              rw [HX.out.2.1] at hsq
              have hF := hD.first HLT.out hsq (by simpa using HP.out.1.sl)
              have c0 : (wq.setCell ⟨a.bs, kp, none⟩ (.bool false)).cell? ⟨go, 0, none⟩ = some (.int .i64 0) := HW5.out.out.cell (j := 0) rfl
              have f0 : (wq.setCell ⟨a.bs, kp, none⟩ (.bool false)).frozen? ⟨go, 0, none⟩ = false := HW5.out.out.free (by simp) 0
              obtain ⟨o1, o2', o3⟩ := HW5.out.out.set HW5.out.sm HW5.out.sr HN.out.2.2.2.1 (j := 0) (by simp) (-pl)
              have HW6 : Hid (LW tag B w0 w a v d ((wq.setCell ⟨a.bs, kp, none⟩ (.bool false)).setCell ⟨go, 0, none⟩ (.int .i64 (-pl))) tag2 A2 (se2.set kp false) (.slice (some ⟨go, 0, none⟩) N4 co) (-pl :: O2)) := hid ⟨o2', o3, o1⟩
              have HF0 := hid hF
              have HD := hid hD
              have hN40 : (0 : Int) < N4 := by have := HN4.out; simp only [List.length_cons] at this; omega
              have hN41 : 1 ≤ N4 := by omega
              clear hse hD hsq hF o1 o2' o3 HW5 HWq
              go_wp2_with (go_at_call 70; refine (HV.out _).mono ?_; rintro e w' ⟨rfl, rfl⟩)
              clear b8 hcx b7 cs fs c0 f0 HV
              go_loopw [14, 15] (fun s14 s15 wl => ∃ (se' : List Bool) (xs : List Int) (lv k : Nat), s14 = .int .i64 lv ∧ s15 = .int .i64 k ∧ k ≤ N4 ∧ Hid (LW tag B w0 w a v d wl tag2 A2 se' (.slice (some ⟨go, 0, none⟩) N4 co) xs ∧ LF n d.K bs pl O2 xs lv k se')) (fun _ s15 _ => (N4 - (intOf s15)).toNat)
              case atStart => exact ⟨_, _, 0, 1, rfl, rfl, hN41, hid ⟨HW6.out, HF0.out⟩⟩
              case round =>
                clear HW6 HF0
                obtain ⟨se4, xs, lv, k, rfl, rfl, hkN, HS⟩ := hrel
                obtain ⟨hW, hF⟩ := HS.out
                have hxl : xs.length = N4 := by rw [hF.len, ← HN4.out]; rfl
                by_cases hlt : k < N4
                · have hlt2 : (k : Int) < N4 := by omega
                  have hk0 : (0 : Int) ≤ k := by omega
                  obtain ⟨y, hy⟩ : ∃ y, xs[k]? = some y := ⟨_, List.getElem?_eq_getElem (by omega)⟩
                  obtain ⟨j2, hj2, hlv0, hlvb⟩ := hF.at HD.out hy
                  have hyo : LitOk n y := by have := HLT.out.kok _ (List.mem_of_getElem? hj2); unfold LitOk at this ⊢; omega
                  have hyr := vrL_range hyo
                  have hya := vrL_abs y
                  obtain ⟨ky, hkk⟩ : ∃ k : Nat, vrL y = k := ⟨(vrL y).toNat, by omega⟩
                  have hkl : y.natAbs = ky := by omega
                  have hkn : ky < a.n1 := by have := HN.out.1; omega
                  have hki : (ky : Int) < a.n1 := by omega
                  have hk1 : (0 : Int) ≤ ky := by omega
                  have hlb : -1048577 ≤ y ∧ y ≤ 1048577 := by have := HN.out.2.1; unfold LitOk at hyo; omega
                  have HV : Hid (∀ wz : World, Calls Try.prog 70 #[.int .i64 y] wz fun e w' => e = .returned (.int .i64 (ky : Int)) ∧ wz = w') := hid fun wz => sol_variable y ky wz hkk hlb
                  have cy : wr.cell? ⟨go, k, none⟩ = some (.int .i64 y) := hW.out.cell hy
                  have b7 : wr.cell? ⟨a.bx, 7, none⟩ = some (.slice (some ⟨a.bs, 0, none⟩) a.n1 a.n1) := hW.sm.cell 7
                  have cs : wr.cell? ⟨a.bs, ky, none⟩ = some (.bool ((se4[ky]?).getD false)) := hW.sm.seec hkn
                  have fs : wr.frozen? ⟨a.bs, ky, none⟩ = false := Fx.free (hW.sm.co .see).1
                  have hW5 := hW.see ky false
                  obtain ⟨w5, hw5⟩ : ∃ t, wr.setCell ⟨a.bs, ky, none⟩ (.bool false) = t := ⟨_, rfl⟩
                  rw [hw5] at hW5
                  have b5 : w5.cell? ⟨a.bx, 5, none⟩ = some (.slice (some ⟨a.bl, 0, none⟩) a.n1 a.n1) := hW5.sm.cell 5
                  obtain ⟨q, hq⟩ : ∃ q, lvl bs j2 = q := ⟨_, rfl⟩
                  have cl : w5.cell? ⟨a.bl, ky, none⟩ = some (.int .i64 (q : Int)) := by
                    rw [hW5.sm.levc hkn]
                    have h1 := HLK.out.lv j2 _ hj2
                    rw [vrL_abs, Int.natAbs_neg, hkl] at h1
                    show some (Value.int .i64 ((d.lv[ky]?).getD 0)) = _
                    rw [h1, hq]
                    rfl
                  have hst := hF.step HLT.out HD.out hy hj2 (by have := HN.out.1; omega)
                  rw [hkl, hq] at hst
                  have hwk : IntKind.i64.wrap ((k : Int) + 1) = (k : Int) + 1 := IntWalk.i64_in _ (by have h1 := HN4.out; have h2 := (HP.out.1.li.sizes HLT.out).2; have h3 := HN.out.2.1; simp only [List.length_cons] at h1; omega)
                  have HST := hid hst
                  have HW5 := hid hW5
                  by_cases hle : q ≤ lv
                  · have hgt : ¬ (lv : Int) < q := by omega
                    have HF2 := hid (hst.1 hle)
                    clear hW hF hxl hy hj2 hlv0 hlvb hyo hyr hya hkk hkl hkn hlb hW5 hq hst HST HS hle
                    go_wp2_with (go_at_call 70; refine (HV.out _).mono ?_; rintro e w' ⟨rfl, rfl⟩)
                    go_roundw
                    case rel => exact ⟨_, xs, lv, k + 1, rfl, by simp, by omega, hid ⟨HW5.out, HF2.out⟩⟩
                    case measure => simp [intOf]; omega
                  · have hgt : (lv : Int) < q := by omega
                    have HF2 := hid (hst.2 (by omega))
                    have h1l : 1 < xs.length := by have := hF.k1; omega
                    obtain ⟨x1, hx1⟩ : ∃ x, xs[1]? = some x := ⟨_, List.getElem?_eq_getElem h1l⟩
                    have ck : w5.cell? ⟨go, k, none⟩ = some (.int .i64 y) := hW5.out.cell hy
                    have c1 : w5.cell? ⟨go, 1, none⟩ = some (.int .i64 x1) := hW5.out.cell hx1
                    have f1 : w5.frozen? ⟨go, 1, none⟩ = false := hW5.out.free (by omega) 1
                    obtain ⟨o1, o2', o3⟩ := hW5.out.set hW5.sm hW5.sr HN.out.2.2.2.1 (j := 1) h1l y
                    have hk3 : (xs.set 1 y)[k]? = some y := by
                      by_cases e : k = 1
                      · subst e; rw [List.getElem?_set_self h1l]
                      · rw [List.getElem?_set_ne (fun e' => e e'.symm)]; exact hy
                    have ck2 : (w5.setCell ⟨go, 1, none⟩ (.int .i64 y)).cell? ⟨go, k, none⟩ = some (.int .i64 y) := o1.cell hk3
                    have fk2 : (w5.setCell ⟨go, 1, none⟩ (.int .i64 y)).frozen? ⟨go, k, none⟩ = false := o1.free (by simp; omega) k
                    obtain ⟨o4, o5, o6⟩ := o1.set o2' o3 HN.out.2.2.2.1 (j := k) (by simp; omega) x1
                    have esw : (xs.set 1 y).set k x1 = swapL xs 1 k := by
                      unfold swapL
                      rw [List.getD_eq_getElem?_getD, List.getD_eq_getElem?_getD, hy, hx1]
                      rfl
                    rw [esw] at o4
                    have HW7 : Hid (LW tag B w0 w a v d ((w5.setCell ⟨go, 1, none⟩ (.int .i64 y)).setCell ⟨go, k, none⟩ (.int .i64 x1)).drew tag2 A2 (se4.set ky false) (.slice (some ⟨go, 0, none⟩) N4 co) (swapL xs 1 k)) := hid ⟨o5.drew, o6.drew, o4.keep (SR.refl tag2 _).drew⟩
                    have hN11 : (1 : Int) < N4 := by omega
                    clear hW hF hxl hy hj2 hlv0 hlvb hyo hyr hya hkk hkl hkn hlb hW5 hq hst HST HS hle h1l hx1 o1 o2' o3 hk3 o4 o5 o6 esw
                    go_wp2_with (go_at_call 70; refine (HV.out _).mono ?_; rintro e w' ⟨rfl, rfl⟩)
                    refine wp_region_R (fun yw => yw.cell? ⟨go, k, none⟩ = some (.int .i64 y) ∧ yw.cell? ⟨go, 1, none⟩ = some (.int .i64 x1)) [11, 13] (by kernel_rfl) ?_
                    have hHeld : (fun yw : World => yw.cell? ⟨go, k, none⟩ = some (.int .i64 y) ∧ yw.cell? ⟨go, 1, none⟩ = some (.int .i64 x1)) w5.drew := ⟨ck, c1⟩
                    refine wpR.pure 0 rfl (by kernel_rfl) (fun _ _ _ h => h) (by rfl) (v := ?_) ?_ ?_
                    rotate_left 1
                    · (intro wx _; go_simp; try with_reducible rfl)
                    try simp only [Act.put, List.setIfInBounds_toArray, List.set_cons_zero, List.set_cons_succ]
                    refine wpR.pure 1 rfl (by kernel_rfl) (fun _ _ _ h => h) (by rfl) (v := ?_) ?_ ?_
                    rotate_left 1
                    · (intro wx _; go_simp; try with_reducible rfl)
                    try simp only [Act.put, List.setIfInBounds_toArray, List.set_cons_zero, List.set_cons_succ]
                    refine wpR.pure 2 rfl (by kernel_rfl) (fun _ _ _ h => h) (by rfl) (v := ?_) ?_ ?_
                    rotate_left 1
                    · (intro wx _; go_simp; try with_reducible rfl)
                    try simp only [Act.put, List.setIfInBounds_toArray, List.set_cons_zero, List.set_cons_succ]
                    refine wpR.pure 3 rfl (by kernel_rfl) (fun _ _ _ h => h) (by rfl) (v := ?_) ?_ ?_
                    rotate_left 1
                    · (intro wx _; go_simp; try with_reducible rfl)
                    try simp only [Act.put, List.setIfInBounds_toArray, List.set_cons_zero, List.set_cons_succ]
                    refine wpR.pure 4 rfl (by kernel_rfl) (fun _ _ _ h => h) (by rfl) (v := ?_) ?_ ?_
                    rotate_left 1
                    · (intro wx _; go_simp; try with_reducible rfl)
                    try simp only [Act.put, List.setIfInBounds_toArray, List.set_cons_zero, List.set_cons_succ]
                    refine wpR.pure 5 rfl (by kernel_rfl) (fun _ _ _ h => h) (by rfl) (v := ?_) ?_ ?_
                    rotate_left 1
                    · (intro wx _; go_simp; try with_reducible rfl)
                    try simp only [Act.put, List.setIfInBounds_toArray, List.set_cons_zero, List.set_cons_succ]
                    refine wpR.take 6 rfl (by kernel_rfl) (fun _ _ _ h => h) (by rfl) (v := ?_) ?_ (by assumption) ?_
                    rotate_left 1
                    · (intro wx hSw; (try dsimp only at hSw); go_simp; try with_reducible rfl)
                    try simp only [Act.put, List.setIfInBounds_toArray, List.set_cons_zero, List.set_cons_succ]
                    refine wpR.pure 7 rfl (by kernel_rfl) (fun _ _ _ h => h) (by rfl) (v := ?_) ?_ ?_
                    rotate_left 1
                    · (intro wx _; go_simp; try with_reducible rfl)
                    try simp only [Act.put, List.setIfInBounds_toArray, List.set_cons_zero, List.set_cons_succ]
                    refine wpR.pure 8 rfl (by kernel_rfl) (fun _ _ _ h => h) (by rfl) (v := ?_) ?_ ?_
                    rotate_left 1
                    · (intro wx _; go_simp; try with_reducible rfl)
                    try simp only [Act.put, List.setIfInBounds_toArray, List.set_cons_zero, List.set_cons_succ]
                    refine wpR.take 9 rfl (by kernel_rfl) (fun _ _ _ h => h) (by rfl) (v := ?_) ?_ (by assumption) ?_
                    rotate_left 1
                    · (intro wx hSw; (try dsimp only at hSw); go_simp; try with_reducible rfl)
                    try simp only [Act.put, List.setIfInBounds_toArray, List.set_cons_zero, List.set_cons_succ]
                    refine wpR.pure 10 rfl (by kernel_rfl) (fun _ _ _ h => h) (by rfl) (v := ?_) ?_ ?_
                    rotate_left 1
                    · (intro wx _; go_simp; try with_reducible rfl)
                    try simp only [Act.put, List.setIfInBounds_toArray, List.set_cons_zero, List.set_cons_succ]
                    refine wpR.skip 11 rfl (by kernel_rfl) (by rfl) (w' := ?_) ?_ ?_ ?_
                    rotate_left 1
                    · (go_simp; first | done | with_reducible rfl | (refine ⟨?_, ?_⟩ <;> with_reducible rfl))
                    · (intro q; exact absurd (by decide) q)
                    try simp only [Act.put]
                    refine wpR.pure 12 rfl (by kernel_rfl) (fun _ _ _ h => h) (by rfl) (v := ?_) ?_ ?_
                    rotate_left 1
                    · (intro wx _; go_simp; try with_reducible rfl)
                    try simp only [Act.put, List.setIfInBounds_toArray, List.set_cons_zero, List.set_cons_succ]
                    refine wpR.skip 13 rfl (by kernel_rfl) (by rfl) (w' := ?_) ?_ ?_ ?_
                    rotate_left 1
                    · (go_simp; first | done | with_reducible rfl | (refine ⟨?_, ?_⟩ <;> with_reducible rfl))
                    · (intro q; exact absurd (by decide) q)
                    try simp only [Act.put]
                    refine wpR.done (by kernel_rfl) ?_
                    go_wp2_with fail
                    go_roundw
                    case rel => exact ⟨_, _, q, k + 1, rfl, by simp, by omega, hid ⟨HW7.out, HF2.out⟩⟩
                    case measure => simp [intOf]; omega
                · have hke : k = N4 := by omega
                  subst hke
                  have hlt2 : ¬ (k : Int) < k := by omega
                  obtain ⟨hLA, hall⟩ := hF.done (HD.out.notIn HLT.out).1 hxl.symm
                  have hse0 : se4 = d.se := by
                    have h1 : se4.length = d.se.length := by rw [hF.sl, (HH.out.co .see).2, HN.out.1]
                    have h2 := List.eq_replicate_iff.2 ⟨rfl, hall⟩
                    have h3 := List.eq_replicate_iff.2 ⟨rfl, HLK.out.se⟩
                    rw [h2, h3, h1]
                  have hM := hW.sm
                  rw [hse0] at hM
                  have HEND := hid (HQ.out (.returned (.tuple #[.slice (some ⟨go, 0, none⟩) k co, .int .i64 (lv : Int)])) _ ⟨tag2, A2, _, xs, lv, at2, pl, O2, rfl, hM, hW.sr, hW.out, HD.out, hLA⟩)
                  clear hW hF hxl hLA hall hse0 hM HS
                  go_wp2_with fail
                  exact HEND.out
            · have holz : ((ol3 : Int) == 0) = false := beq_false_of_ne fun e => hse (by
                have h1 := List.length_erase_of_mem HIN.out
                have h2 := HP.out.2
                have h3 := HOL.out
                exact List.length_eq_zero_iff.1 (by omega))
              obtain ⟨r, c', hr1, hr2, hQ2⟩ := HP.out.1.next HLT.out HX.out.1 HIN.out HMX.out.2 hse HN.out.2.2.2.2.1 HCB.out.1 HCB.out.2.1 HCB.out.2.2.1
              have hre := HLK.out.re at2 pl r HX.out.1 hr1
              rw [vrL_abs, HX.out.2.1] at hre
              have b6 : (wq.setCell ⟨a.bs, kp, none⟩ (.bool false)).cell? ⟨a.bx, 6, none⟩ = some (.slice (some ⟨a.br, 0, none⟩) a.n1 a.n1) := HW5.out.sm.cell 6
              have cr : (wq.setCell ⟨a.bs, kp, none⟩ (.bool false)).cell? ⟨a.br, kp, none⟩ = some (.int .i64 (r : Int)) := by
                rw [HW5.out.sm.reac HX.out.2.2]
                show some (Value.int .i64 ((d.re[kp]?).getD 0)) = _
                rw [hre]
                rfl
              rw [HX.out.2.1] at hQ2
              have hpos : 0 < at2 := by
                obtain ⟨t, ht⟩ := List.exists_mem_of_ne_nil _ hse
                have h1 := HMX.out.2 t (List.mem_of_mem_erase ht)
                have h2 : t ≠ at2 := fun e => List.Nodup.not_mem_erase HP.out.1.li.snd (e ▸ ht)
                omega
              obtain ⟨at3, hat3⟩ : ∃ t, at2 = t + 1 := ⟨at2 - 1, by omega⟩
              have HA3 := hid hat3
              have HQ3 : Hid (LQ n G d.K bs c' pl 0 (at3 + 1) (S2.erase at2) O2 (se2.set kp false)) := hid (by rw [← hat3]; exact hQ2)
              have HR := hid hr2
              have hle : (S2.erase at2).length = ol3 := by
                have h1 := List.length_erase_of_mem HIN.out
                have h2 := HP.out.2
                have h3 := HOL.out
                omega
              have HLE := hid hle
              clear hse hr1 hr2 hQ2 hre hpos hat3 hle
              go_wp2_with (go_at_call 70; refine (HV.out _).mono ?_; rintro e w' ⟨rfl, rfl⟩)
              go_roundw
              case rel => exact ⟨_, _, _, _, O2, _, r, ol3, at3, pl, c', rfl, rfl, rfl, by have := HA3.out; subst this; simp, rfl, hid ⟨HW5.out, HR.out, HQ3.out, HLE.out⟩⟩
              case measure =>
                have := HA3.out
                have := HMX.out.1
                simp [intOf]
                omega
          · have hsf : (se2[kp]?).getD false = false := by simpa using hsn
            rw [hsf] at cs
            have hni := HP.out.1.notIn HLT.out hp (by rw [hkl]; exact hsf)
            have hpos : 0 < at2 := by
              obtain ⟨t, ht⟩ := List.exists_mem_of_ne_nil _ HP.out.1.ne
              have h1 := HMX.out.2 t ht
              have h2 : t ≠ at2 := fun e => hni (e ▸ ht)
              omega
            have hwm1 : IntKind.i64.wrap ((at2 : Int) - 1) = ((at2 - 1 : Nat) : Int) := (IntWalk.i64_in _ (by have := HN.out; have := HKL.out; omega)).trans (by omega)
            have HM2 : Hid (at2 - 1 ≤ at1 ∧ ∀ t ∈ S2, t ≤ at2 - 1) := hid ⟨by have := HMX.out.1; omega, fun t ht => by
              have h1 := HMX.out.2 t ht
              have h2 : t ≠ at2 := fun e => hni (e ▸ ht)
              omega⟩
            have HPOS := hid hpos
            clear hatK hp hpo hpr hpa hkk hkl hkn hlb hvt hot hot' hvt' hat hKL hsn hsf hni hpos
            go_wp2_with fail
            go_quiet ((go_at_call 70; first | exact quiet_same2 (HV.out _) | exact quiet_same (HV.out _)))
            go_wp2_with fail
            go_roundw
            case rel => exact ⟨at2 - 1, rfl, HM2, hid (HW.out.drewN nq)⟩
            case measure =>
              have := HPOS.out
              simp [intOf]
              omega

end Go.Proofs.Ytfofabbnbmieoaa.Ord
