/- The walk of solve's propagate. -/
import Derived.Test.YtfofabbnbmieoaaQ5
import Derived.Test.YtfofabbnbmieoaaQ4

namespace Go.Proofs.Ytfofabbnbmieoaa.Ord
open Go.RowKit Go.Conc

attribute [local go_sem ↓] Go.wp_at_zero Go.wp_at_succ
attribute [local go_sem ↓ high] app_mark

/-- What propagate leaves. -/
def solPropR (n : Nat) (G : List (List Int)) (bs : List Nat) (tag : Nat → KT) (B : Nat) (w0 w : World) (a : SA) (d : SD) (e : Ending) (w' : World) : Prop :=
  ∃ tag' v' d' Rz', PWs n bs tag B w0 w a d w' tag' v' d' Rz' ∧ ((e = .returned (.int .i64 (-1)) ∧ CD n G d'.C (WtF d'.Wt) d'.K Rz' bs d'.K.length ∧ d'.dn = d'.K.length) ∨ ∃ i : Nat, e = .returned (.int .i64 i) ∧ CF n G d'.C (WtF d'.Wt) d'.K Rz' bs i)

set_option maxRecDepth 100000 in
set_option maxHeartbeats 16000000 in
theorem sol_propagate (tag : Nat → KT) (B : Nat) (w0 w : World) (a : SA) (v : SV) (d : SD) (n : Nat) (G : List (List Int)) (Rz : List Int) (bs : List Nat) (h : SM tag B w0 w a v d) (hn : a.n1 = n + 1) (hn1 : n ≤ 1048576) (hk : LK n d Rz bs) (hd : CD n G d.C (WtF d.Wt) d.K Rz bs d.dn) (hC : d.C.length ≤ 4398046511104) :
    Calls Try.prog 51 #[.pointer (some ⟨a.bx, 0, none⟩)] w (solPropR n G bs tag B w0 w a d) := by
  obtain ⟨Q, hQ⟩ : ∃ Q : Ending → World → Prop, solPropR n G bs tag B w0 w a d = Q := ⟨_, rfl⟩
  rw [hQ]
  have HQ : Hid (∀ e w', solPropR n G bs tag B w0 w a d e w' → Q e w') := hid (fun e w' h => by rw [← hQ]; exact h)
  clear hQ
  obtain ⟨i0, hi0, hz0, hz1, hz2⟩ := info_parts info_int
  have HO : Hid (POs n G bs tag B w0 w a d w tag v d Rz) := hid ⟨⟨h, SR.refl _ _, hk, PGs.refl d⟩, hd⟩
  have HN := hid (And.intro hn (And.intro hn1 hC))
  clear h hk hd hn hn1 hC
  go_enter Try.func51, Try.ntmps51
  go_wp2_with fail
  go_loopw [] (fun wr => ∃ (tag' : Nat → KT) (v' : SV) (d' : SD) (Rz' : List Int), Hid (POs n G bs tag B w0 w a d wr tag' v' d' Rz')) (fun wr => (2097152 - intOf ((wr.cell? ⟨a.bx, 9, none⟩).getD undef)).toNat)
  case atStart => exact ⟨_, _, _, _, HO⟩
  case round =>
    clear HO
    obtain ⟨tag1, v1, d1, Rz1, HO⟩ := hrel
    have hlen : d1.K.length ≤ n := lits_le HO.out.cd.nod HO.out.cd.cons HO.out.cd.kok
    have hdl := HO.out.cd.dl
    have hnn := HN.out.2.1
    have q9 : wr.cell? ⟨a.bx, 9, none⟩ = some (.int .i64 d1.dn) := HO.out.sm.cell 9
    have q8 : wr.cell? ⟨a.bx, 8, none⟩ = some v1.vt := HO.out.sm.cell 8
    obtain ⟨at1, ct1, hvt, hvo⟩ := HO.out.sm.trlc
    rw [hvt] at q8 hvo
    obtain ⟨dn, hdn⟩ : ∃ t, d1.dn = t := ⟨_, rfl⟩
    obtain ⟨kl, hkl⟩ : ∃ t, d1.K.length = t := ⟨_, rfl⟩
    rw [hdn] at q9 hdl
    rw [hkl] at q8 hvo hdl hlen
    by_cases hlt : dn < kl
    · have hlt2 : (dn : Int) < kl := by omega
      obtain ⟨la, hla⟩ : ∃ la, d1.K[dn]? = some la := ⟨_, List.getElem?_eq_getElem (by omega)⟩
      obtain ⟨bt, ot, hat, hct⟩ := own_slv hvo dn (.int .i64 la) (by simp [ints, hla])
      subst hat
      have hlo := HO.out.cd.kok la (List.mem_of_getElem? hla)
      have hwa : IntKind.i64.wrap (-la) = -la := IntWalk.i64_in _ (by have := hlo.2; omega)
      have hwd : IntKind.i64.wrap ((dn : Int) + 1) = (dn : Int) + 1 := IntWalk.i64_in _ (by omega)
      have f9 : wr.frozen? ⟨a.bx, 9, none⟩ = false := Fx.free (HO.out.sm.co .sta)
      have HLA := hid (And.intro hla hlo)
      have HLE := hid (And.intro hlen (And.intro hdl (And.intro hlt hnn)))
      have HD := hid (And.intro hdn hkl)
      have HQ9 := hid q9
      clear hla hlo hlen hdl hnn hlt hvt hvo hdn hkl
      go_wp2_with fail
      go_quiet (fail)
      go_wp2_with fail
      obtain ⟨nq1, hnq1⟩ : ∃ t, nq = t := ⟨_, rfl⟩
      rw [hnq1]
      clear hnq1 nq
      go_quiet (fail)
      go_wp2_with fail
      have hwq := HO.out.sm.drewN (nq1 + nq)
      have hM := hwq.setDn (dn + 1)
      have hS := (HO.out.sr.drewN (nq1 + nq)).same (hwq.chg (b := a.bx) (o := 9) (hwq.co .sta).2 nofun (.int .i64 ((dn + 1 : Nat) : Int)))
      have e1 : ((dn + 1 : Nat) : Int) = (dn : Int) + 1 := by omega
      rw [e1] at hM hS
      clear hwq e1 q8 q9 hct f9
      generalize (wr.drewN (nq1 + nq)).setCell ⟨a.bx, 9, none⟩ (.int .i64 ((dn : Int) + 1)) = wd at hM hS ⊢
      obtain ⟨x, hx⟩ : ∃ x, -la = x := ⟨_, rfl⟩
      have hlx : la = -x := by omega
      rw [hx]
      subst hlx
      clear hx hwa
      have hxo : LitOk n x := by have := HLA.out.2; unfold LitOk at this ⊢; omega
      have hxb : -1048577 ≤ x ∧ x ≤ 1048577 := by have := HLE.out.2.2.2; unfold LitOk at hxo; omega
      have hxr := ixL_range hxo
      obtain ⟨q, hq⟩ : ∃ q : Nat, ixL x = q := ⟨(ixL x).toNat, by omega⟩
      have hqt : (ixL x).toNat = q := by omega
      have hqn : q < 2 * a.n1 := by have := HN.out.1; omega
      obtain ⟨N2, hN2⟩ : ∃ m, 2 * a.n1 = m := ⟨_, rfl⟩
      have HN2 := hid hN2
      obtain ⟨au, cu, L, hL, hws, hLo, hbq⟩ := hM.wtc hqn
      have b2 : wd.cell? ⟨a.bx, 2, none⟩ = some (.slice (some ⟨a.bw, 0, none⟩) N2 N2) := by rw [← hN2]; exact hM.cell 2
      have hqi : (q : Int) < N2 := by omega
      have hq0 : (0 : Int) ≤ q := by omega
      have HIX : Hid (∀ wz : World, Calls Try.prog 69 #[.int .i64 x] wz fun e w' => e = .returned (.int .i64 (q : Int)) ∧ wz = w') := hid fun wz => sol_index x q wz hq hxb
      have HPI : Hid (∀ w6, SM tag1 B w0 w6 a v1 { d1 with dn := d1.dn + 1 } → SR tag tag1 w w6 → PIs n G bs tag B w0 w a d ⟨L, au, cu, q, x, d1.K, d1.dn⟩ w6 tag1 v1 { d1 with dn := d1.dn + 1 } Rz1 [] 0) := hid fun w6 h1 h2 => HO.out.enter HN.out.1 (by rw [HD.out.1]; exact HLA.out.1) hqt hL hws h1 h2
      have HLB : Hid (L.length ≤ 4398046511104) := hid (by
        have h1 := HO.out.cd.wi.lenS x
        have h2 : WtF d1.Wt x = L := by
          have hL : d1.Wt[q]? = some L := hL
          unfold WtF
          rw [hqt, hL]
          rfl
        rw [h2] at h1
        have := HO.out.pg.cl
        have := HN.out.2.2
        omega)
      have HM := hid (And.intro hM hS)
      have HQL := hid (And.intro hqt (And.intro hqn (And.intro hLo hq)))
      have hsl : ∀ wx, (Instr.slice 22 (.slice au L.length cu) none (some (.int .i64 0)) none).run Try.prog wx = .ok (.slice au 0 cu) wx := slice_toG (P := Try.prog) (t := 22) (e := 3) (a := au) (n := L.length) (c := cu) (k := 0) (m := 0) rfl Try.underlying22 (fun wx => by kernel_rfl) (Nat.zero_le _)
      clear hxo hxb hxr hq hqt hqn hN2 hL hws hLo hM hS HO
      go_wp2_with fail
      go_quiet ((go_at_call 69; first | exact quiet_same2 (HIX.out _) | exact quiet_same (HIX.out _)))
      go_wp2_with fail
      have HPS : Hid (PIs n G bs tag B w0 w a d ⟨L, au, cu, q, x, d1.K, d1.dn⟩ (wd.drewN nq) tag1 v1 { d1 with dn := d1.dn + 1 } Rz1 [] 0) := hid (HPI.out _ (by rw [HD.out.1]; exact HM.out.1.drewN nq) (HM.out.2.drewN nq))
      clear HPI HM b2 hbq hsl
      generalize wd.drewN nq = we at HPS ⊢
      clear nq1
      obtain ⟨LL, hLL⟩ : ∃ t, L.length = t := ⟨_, rfl⟩
      rw [hLL]
      have HLL := hid hLL
      go_loopw [5, 6] (fun s5 s6 wi => ∃ (tag' : Nat → KT) (v' : SV) (d' : SD) (Rz' : List Int) (kept : List Nat) (kn m : Nat), s5 = .slice au kn cu ∧ s6 = .int .i64 m ∧ m ≤ LL ∧ Hid (kept.length = kn ∧ PIs n G bs tag B w0 w a d ⟨L, au, cu, q, x, d1.K, d1.dn⟩ wi tag' v' d' Rz' kept m)) (fun _ s6 _ => (LL - (intOf s6)).toNat)
      case atStart => exact ⟨_, _, _, _, [], 0, 0, rfl, rfl, Nat.zero_le _, hid ⟨rfl, HPS.out⟩⟩
      case round =>
        clear HPS
        obtain ⟨tag2, v2, d2, Rz2, kept, kn, m, rfl, rfl, hmL, HS⟩ := hrel
        by_cases hlt : m < LL
        · have hlt2 : (m : Int) < LL := by omega
          obtain ⟨hkn, hPI⟩ := HS.out
          obtain ⟨i, hi⟩ : ∃ i, L[m]? = some i := ⟨_, List.getElem?_eq_getElem (by have := HLL.out; omega)⟩
          obtain ⟨g, rfl, htg, hlc⟩ := hPI.sm.wthS hPI.ct hPI.ws (by intro e; have := hPI.at hi; rw [e] at this; cases this)
          have hcm : wr.cell? ⟨g, m, none⟩ = some (.int .i64 (i : Int)) := hPI.sm.wthLit hPI.ct hPI.ws (hPI.at hi)
          obtain ⟨c, hc, hcn, hfl⟩ := (hPI.cj' hi).flip
          obtain ⟨ac, cc, hvc, hco⟩ := hPI.sm.clrc
          obtain ⟨g2, o2, cap2, cur2, hus, htg2, -, -⟩ := hPI.sm.clsAt hc
          rw [hvc] at hco
          obtain ⟨bc, oc, hac, hcc⟩ := own_slv hco i _ hus
          have b1 : wr.cell? ⟨a.bx, 1, none⟩ = some (.slice (some ⟨bc, oc, none⟩) d2.C.length cc) := by rw [hPI.sm.cell 1]; show some v2.vc = _; rw [hvc, hac]
          obtain ⟨CL, hCL⟩ : ∃ t, d2.C.length = t := ⟨_, rfl⟩
          obtain ⟨N, hNN⟩ : ∃ t, c.length = t := ⟨_, rfl⟩
          rw [hCL] at b1
          rw [hNN] at hcc
          have hil := (List.getElem?_eq_some_iff.1 hc).1
          have hiC : (i : Int) < CL := by omega
          have hin0 : (0 : Int) ≤ i := by omega
          have hN2' : 2 ≤ N := by rw [← hNN]; exact (hPI.cj.wi.cls c (List.mem_of_getElem? hc)).1
          have hN1 : (0 : Int) < N := by omega
          have hN3 : (1 : Int) < N := by omega
          have hwm : IntKind.i64.wrap ((m : Int) + 1) = (m : Int) + 1 := IntWalk.i64_in _ (by have := HLL.out; have := HLB.out; omega)
          have HC := hid (And.intro hc (And.intro hus (And.intro hNN (And.intro hcn hil))))
          have HI := hid hi
          have HPI := hid hPI
          have HK := hid hkn
          have HTG := hid (And.intro htg (And.intro htg2 hlc))
          rcases hfl with ⟨o, k0, k1, hf⟩ | ⟨o, hox, k0, k1, hf⟩
          case' inl =>
            have p0 : wr.cell? ⟨g2, o2, none⟩ = some (.int .i64 x) := hPI.sm.clsLit hc hus k0
            have p1 : wr.cell? ⟨g2, o2 + 1, none⟩ = some (.int .i64 o) := hPI.sm.clsLit hc hus k1
            have f0 := hPI.sm.clsFree hc hus o2
            have f1 := hPI.sm.clsFree hc hus (o2 + 1)
            obtain ⟨hsw, hst⟩ := hPI.sm.swap hc hus k0 k1
            obtain ⟨e, he⟩ : ∃ e, swapL c 0 1 = e := ⟨_, rfl⟩
            rw [he] at hsw hf
            have HSW := hid (And.intro hsw (hst.mono fun q' _ hq' => (by rw [hq']; nofun : tag2 q' ≠ .oth)))
            have HF := hid hf
            clear hkn hPI hi htg hlc hc hcn hvc hco hus htg2 hac hNN hil hf hsw hst he k0 k1 hCL
            go_wp2_with fail
            go_cut [] (fun wx => Hid (SM tag2 B w0 wx a v2 { d2 with C := d2.C.set i e }) ∧ Hid (Touch (fun k => tag2 k ≠ .oth) wr wx))
            case first =>
              go_region
              all_goals
                go_wp2_with fail
                go_meet
                case rel => exact ⟨hid (HSW.out.1.drewN _), hid (HSW.out.2.drewN _)⟩
            obtain ⟨HM, HT⟩ := hcut
            have HTW := hid (HPI.out.sr.same HT.out)
            clear HSW p0 p1 f0 f1 hcm hcc b1
            have p0 : wc.cell? ⟨g2, o2, none⟩ = some (.int .i64 o) := HM.out.clsLit (i := i) (c := e) (by show (d2.C.set i e)[i]? = _; rw [List.getElem?_set_self HC.out.2.2.2.2]) HC.out.2.1 HF.out.e0
            go_wp2_with fail
          case' inr =>
            have p0 : wr.cell? ⟨g2, o2, none⟩ = some (.int .i64 o) := hPI.sm.clsLit hc hus k0
            have hox : (o == x) = false := beq_false_of_ne hox
            obtain ⟨e, he⟩ : ∃ e, c = e := ⟨_, rfl⟩
            have HM : Hid (SM tag2 B w0 wr a v2 { d2 with C := d2.C.set i e }) := hid (by rw [← he, list_set_self hc]; exact hPI.sm)
            have HTW := hid hPI.sr
            have HF : Hid (FL n c e x o) := hid (by rw [← he]; exact hf)
            clear hkn hPI hi htg hlc hc hcn hvc hco hus htg2 hac hNN hil hf k0 k1 hCL he
            go_wp2_with fail
            clear hcm hcc b1 hox
            obtain ⟨wc, hwc⟩ : ∃ t, wr = t := ⟨_, rfl⟩
            rw [hwc] at HM HTW p0 ⊢
            clear hwc
          all_goals
            have hoo : LitOk n o := HF.out.ok o (List.mem_of_getElem? HF.out.e0)
            have HHO : Hid (∀ (wz : World) (d' : SD) (y r : Int), SM tag2 B w0 wz a v2 d' → d'.va = d2.va → LitOk n y → hvL d2.va y = r → Calls Try.prog 68 #[.pointer (some ⟨a.bx, 0, none⟩), .int .i64 y] wz fun e' w' => e' = .returned (.int .i8 r) ∧ ∃ q', w' = wz.drewN q') := hid fun wz d' y r hM hd' hy hr => sol_holds tag2 B w0 wz a v2 d' n y r hM HN.out.1 HN.out.2.1 hy (by rw [hd']; exact HPI.out.lk.vr) (by rw [hd']; exact hr)
            have hiC' : (d2.C.set i e)[i]? = some e := by rw [List.getElem?_set_self HC.out.2.2.2.2]
            have HIC := hid hiC'
            clear hiC'
            by_cases hoK : o ∈ d2.K
            · refine (HHO.out wc _ o 1 HM.out rfl hoo ((HPI.out.lk.hv1 hoo).2 hoK)).mono ?_
              rintro e' w' ⟨rfl, t, rfl⟩
              have HMz := hid (HM.out.drewN t)
              have HTz := hid (HTW.out.drewN t)
              have HOK := hid hoK
              clear HM HTW p0 hoo hoK
              generalize wc.drewN t = wz at HMz HTz ⊢
              obtain ⟨w6, hr6, hM6, hT6⟩ := HMz.out.keepW (q := q) (kept := kept) (nw := [i]) (tl := L.drop kept.length) (tl' := L.drop (kept.length + 1)) HPI.out.ct (cap := cu) (g := g) (by rw [HPI.out.len]; exact HPI.out.ws) (HPI.out.drop1 HI.out).1 (HPI.out.drop1 HI.out).2 (box_below wz (.cells #[.int .i64 (i : Int)] 3 (0, 0))) (A := ⟨wz.heap.size, 0, none⟩) (m := 1) (cc := 1) rfl (one_cellN wz i) 22
              rw [HK.out] at hr6
              have HP6 := hid (HPI.out.keep HI.out HC.out.1 HF.out HOK.out hM6 (HTz.out.same (hT6.mono fun k _ e => by rw [e]; nofun)))
              clear hM6 hT6
              go_wp2_with fail
              go_roundw
              case rel => exact ⟨tag2, v2, _, Rz2, kept ++ [i], kn + 1, m + 1, rfl, by simp, by omega, hid ⟨by simp [HK.out], HP6.out⟩⟩
              case measure => simp [intOf]; omega
            · obtain ⟨r0, hr0⟩ : ∃ r, hvL d2.va o = r := ⟨_, rfl⟩
              have hr1 : (r0 == 1) = false := beq_false_of_ne fun e => hoK ((HPI.out.lk.hv1 hoo).1 (hr0.trans e))
              refine (HHO.out wc _ o r0 HM.out rfl hoo hr0).mono ?_
              rintro e' w' ⟨rfl, t, rfl⟩
              have HMz := hid (HM.out.drewN t)
              have HTz := hid (HTW.out.drewN t)
              have HOK := hid (And.intro hoK (And.intro hoo hr0))
              clear HM HTW p0 hoo hoK hr0
              generalize wc.drewN t = wz at HMz HTz ⊢
              go_wp2_with fail
              go_loopw [9, 10] (fun s9 s10 wl => ∃ j : Nat, s9 = .bool false ∧ s10 = .int .i64 j ∧ 2 ≤ j ∧ j ≤ N ∧ Hid (SM tag2 B w0 wl a v2 { d2 with C := d2.C.set i e }) ∧ Hid (SR tag tag2 w wl) ∧ Hid (∀ (t : Nat) (y : Int), 2 ≤ t → t < j → e[t]? = some y → -y ∈ d2.K)) (fun _ s10 _ => (N - (intOf s10)).toNat)
              case atStart => exact ⟨2, rfl, rfl, Nat.le_refl _, hN2', HMz, HTz, hid fun t y h1 h2 => by omega⟩
              case round =>
                clear HMz HTz hr1
                obtain ⟨j, rfl, rfl, hj2, hjN, HMl, HTl, HJ⟩ := hrel
                by_cases hlj : j < N
                · have hltj : (j : Int) < N := by omega
                  obtain ⟨y, hy⟩ : ∃ y, e[j]? = some y := ⟨_, List.getElem?_eq_getElem (by rw [HF.out.same.1, HC.out.2.2.1]; exact hlj)⟩
                  have hyo := HF.out.ok y (List.mem_of_getElem? hy)
                  have hwj : IntKind.i64.wrap ((j : Int) + 1) = (j : Int) + 1 := IntWalk.i64_in _ (by have := HC.out.2.2.1; have := HC.out.2.2.2.1; have := HN.out.2.1; omega)
                  have pj := HMl.out.clsLit HIC.out HC.out.2.1 hy
                  by_cases hyK : -y ∈ d2.K
                  · have HY := hid (And.intro hy hyK)
                    have HW0 := hid (HHO.out wr _ y (-1) HMl.out rfl hyo ((HPI.out.lk.hvm hyo HPI.out.cj.cons).2 hyK))
                    clear hy hyK hyo
                    go_wp2_with fail
                    refine HW0.out.mono ?_
                    rintro e' w' ⟨rfl, t, rfl⟩
                    go_wp2_with fail
                    go_roundw
                    case rel => exact ⟨j + 1, rfl, by simp, by omega, by omega, hid (HMl.out.drewN t), hid (HTl.out.drewN t), hid fun t z h1 h2 h3 => by
                      by_cases ht : t < j
                      · exact HJ.out t z h1 ht h3
                      · have : t = j := by omega
                        subst this
                        rw [HY.out.1] at h3
                        injection h3 with h3
                        rw [← h3]; exact HY.out.2⟩
                    case measure => simp [intOf]; omega
                  · obtain ⟨r1, hr1⟩ : ∃ r, hvL d2.va y = r := ⟨_, rfl⟩
                    have hrm : (r1 == -1) = false := beq_false_of_ne fun e => hyK ((HPI.out.lk.hvm hyo HPI.out.cj.cons).1 (hr1.trans e))
                    have HW0 := hid (HHO.out wr _ y r1 HMl.out rfl hyo hr1)
                    have HY := hid (And.intro hy (And.intro hyK hyo))
                    clear hy hyK hyo hr1
                    go_wp2_with fail
                    refine HW0.out.mono ?_
                    rintro e' w' ⟨rfl, t, rfl⟩
                    have HMv := hid (HMl.out.drewN t)
                    have HTv := hid (HTl.out.drewN t)
                    replace pj : (wr.drewN t).cell? _ = _ := pj
                    clear HW0 HMl HTl
                    generalize wr.drewN t = wv at HMv HTv pj ⊢
                    have p1 : wv.cell? ⟨g2, o2 + 1, none⟩ = some (.int .i64 x) := HMv.out.clsLit HIC.out HC.out.2.1 HF.out.e1
                    have f1 := HMv.out.clsFree HIC.out HC.out.2.1 (o2 + 1)
                    have fj := HMv.out.clsFree HIC.out HC.out.2.1 (o2 + j)
                    obtain ⟨hsw, hst⟩ := HMv.out.swap HIC.out HC.out.2.1 HF.out.e1 HY.out.1
                    have hst2 := hst.mono fun q' _ hq' => (by rw [hq']; nofun : tag2 q' ≠ .oth)
                    have hsw2 : SM tag2 B w0 ((wv.setCell ⟨g2, o2 + 1, none⟩ (.int .i64 y)).setCell ⟨g2, o2 + j, none⟩ (.int .i64 x)) a v2 { d2 with C := d2.C.set i (swapL e 1 j) } := by
                      have e9 : (d2.C.set i e).set i (swapL e 1 j) = d2.C.set i (swapL e 1 j) := List.set_set ..
                      rw [← e9]
                      exact hsw
                    have HSW := hid (And.intro hsw2 hst2)
                    clear hsw hst hst2 hsw2
                    go_wp2_with fail
                    go_cut [] (fun wx => Hid (SM tag2 B w0 wx a v2 { d2 with C := d2.C.set i (swapL e 1 j) }) ∧ Hid (Touch (fun k => tag2 k ≠ .oth) wv wx))
                    case first =>
                      go_region
                      all_goals
                        go_wp2_with fail
                        go_meet
                        case rel => exact ⟨hid (HSW.out.1.drewN _), hid (HSW.out.2.drewN _)⟩
                    obtain ⟨HM2, HT2⟩ := hcut
                    have HTW2 := hid (HTv.out.same HT2.out)
                    clear HSW p1 f1 fj pj hrm HMv HTv HT2
                    have hsp := HF.out.swap hj2 HY.out.1
                    have hyr := ixL_range hsp.2.2.2.2.2
                    obtain ⟨qz, hqz⟩ : ∃ q : Nat, ixL y = q := ⟨(ixL y).toNat, by omega⟩
                    have hqzt : (ixL y).toNat = qz := by omega
                    have hqzn : qz < 2 * a.n1 := by have := HN.out.1; omega
                    have hqzi : (qz : Int) < N2 := by have := HN2.out; omega
                    have hqz0 : (0 : Int) ≤ qz := by omega
                    have hyb : -1048577 ≤ y ∧ y ≤ 1048577 := by have := HN.out.2.1; have := hsp.2.2.2.2.2; unfold LitOk at this; omega
                    have HIZ : Hid (∀ wz : World, Calls Try.prog 69 #[.int .i64 y] wz fun e w' => e = .returned (.int .i64 (qz : Int)) ∧ wz = w') := hid fun wz => sol_index y qz wz hqz hyb
                    obtain ⟨az, cz, nz, hnz, hwz, hoz, hbz⟩ := HM2.out.wtc hqzn
                    have hnl : nz.length ≤ 4398046511104 := by
                      have h1 := HPI.out.cj.wi.lenS y
                      have h2 : WtF d2.Wt y = nz := by
                        have hnz : d2.Wt[qz]? = some nz := hnz
                        unfold WtF
                        rw [hqzt, hnz]
                        rfl
                      rw [effW_ne _ _ (fun e => hsp.2.2.2.1 e.symm), h2] at h1
                      have := HPI.out.pg.cl
                      have := HN.out.2.2
                      omega
                    have hiS : (d2.C.set i (swapL e 1 j))[i]? = some (swapL e 1 j) := by rw [List.getElem?_set_self HC.out.2.2.2.2]
                    have b2 : wc.cell? ⟨a.bx, 2, none⟩ = some (.slice (some ⟨a.bw, 0, none⟩) N2 N2) := by rw [← HN2.out]; exact HM2.out.cell 2
                    have pz : wc.cell? ⟨g2, o2 + 1, none⟩ = some (.int .i64 y) := HM2.out.clsLit hiS HC.out.2.1 hsp.2.2.1
                    have hle2 := HM2.out.le
                    have hne1 : g2 ≠ a.bw := fun e => by have q1 := HTG.out.2.1; rw [e, (HM2.out.co .wtb).1.2] at q1; cases q1
                    obtain ⟨a12, c12, w12, hr12, h12, hg12, ha12⟩ := appM_one (P := Try.prog) (wc.alloc (.cells #[.int .i64 (i : Int)] 3 (0, 0))).drew B 22 22 3 i0 (.int .i64 0) 8 Try.underlying22 hi0 hz0 hz1 hz2 rfl (.slice az nz.length cz) nz.length (nnts nz) (hoz.alloc _) wc.heap.size (.int .i64 (i : Int)) (heap_alloc_new _ _) rfl (by unfold maxLen; omega) (by omega) (by show B ≤ (wc.alloc _).heap.size; simp only [size_al]; omega)
                    obtain ⟨hM3, hS3, hb2, hb3⟩ := HM2.out.pushW hqzn hwz hnz (box_below wc (.cells #[.int .i64 (i : Int)] 3 (0, 0))).drew h12 hg12 ha12
                    have r2 : w12.cell? ⟨a.bw, qz, none⟩ = some (.slice az nz.length cz) := (by rw [fit_cell hb2 qz]; exact hwz)
                    have f2 : w12.frozen? ⟨a.bw, qz, none⟩ = false := frozen_of_row _ _ _ _ _ hb2
                    have r3 : w12.cell? ⟨a.bx, 2, none⟩ = some (.slice (some ⟨a.bw, 0, none⟩) N2 N2) := (by rw [fit_cell hb3 2, ← HN2.out]; rfl)
                    have r4 : w12.cell? ⟨g2, o2 + 1, none⟩ = some (.int .i64 y) := by
                      have h1 := hS3.cellT pz (by show ¬ (tag2 g2 = .wth qz ∨ tag2 g2 = .wtb); rw [HTG.out.2.1]; rintro (e | e) <;> cases e)
                      rwa [cell_other hne1] at h1
                    have HPM := hid (HPI.out.move HI.out HC.out.1 HF.out hj2 HY.out.1 HY.out.2.1 (tag' := tgN tag2 wc (.wth qz)) (u6 := .slice a12 (nz.length + 1) c12) (by rw [hqzt]; exact hM3) (HTW2.out.trans ⟨hS3.mono fun k _ e => (by rcases e with e | e <;> rw [e] <;> nofun), fun k hk e => (tgN_old hk).trans e⟩))
                    have b2a := fun o => below_keeps (box_below wc o) _ _ b2
                    have bza := fun o => below_keeps (box_below wc o) _ _ hbz
                    have pza := fun o => below_keeps (box_below wc o) _ _ pz
                    obtain ⟨NZ, hNZ⟩ : ∃ t, nz.length = t := ⟨_, rfl⟩
                    rw [hNZ] at hr12 r2 hbz hnl HPM
                    have bza := fun o => below_keeps (box_below wc o) _ _ hbz
                    clear hnz hwz hoz hM3 hS3 hb2 hb3 hg12 ha12 h12 hne1 hle2 hiS hsp hyr hqz hqzt hqzn hNZ
                    go_wp2_with fail
                    refine wp_region_R (fun yw => yw.cell? ⟨a.bx, 2, none⟩ = some (.slice (some ⟨a.bw, 0, none⟩) N2 N2) ∧ yw.cell? ⟨a.bw, qz, none⟩ = some (.slice az NZ cz) ∧ yw.cell? ⟨g2, o2 + 1, none⟩ = some (.int .i64 y)) [22] (by kernel_rfl) ?_
                    have hHeld : (fun yw : World => yw.cell? ⟨a.bx, 2, none⟩ = some (.slice (some ⟨a.bw, 0, none⟩) N2 N2) ∧ yw.cell? ⟨a.bw, qz, none⟩ = some (.slice az NZ cz) ∧ yw.cell? ⟨g2, o2 + 1, none⟩ = some (.int .i64 y)) wc.drew := ⟨b2, hbz, pz⟩
                    refine wpR.take 0 rfl (by kernel_rfl) (fun _ _ _ h => h) (by rfl) (v := ?_) ?_ (by assumption) ?_
                    rotate_left 1
                    · (intro wx hSw; (try dsimp only at hSw); go_simp; try with_reducible rfl)
                    try simp only [Act.put, List.setIfInBounds_toArray, List.set_cons_zero, List.set_cons_succ]
                    refine wpR.take 1 rfl (by kernel_rfl) (fun _ _ _ h => h) (by rfl) (v := ?_) ?_ (by assumption) ?_
                    rotate_left 1
                    · (intro wx hSw; (try dsimp only at hSw); go_simp; try with_reducible rfl)
                    try simp only [Act.put, List.setIfInBounds_toArray, List.set_cons_zero, List.set_cons_succ]
                    refine wpR.take 2 rfl (by kernel_rfl) (fun _ _ _ h => h) (by rfl) (v := ?_) ?_ (by assumption) ?_
                    rotate_left 1
                    · (intro wx hSw; (try dsimp only at hSw); go_simp; try with_reducible rfl)
                    try simp only [Act.put, List.setIfInBounds_toArray, List.set_cons_zero, List.set_cons_succ]
                    refine wpR.take 3 rfl (by kernel_rfl) (fun _ _ _ h => h) (by rfl) (v := ?_) ?_ (by assumption) ?_
                    rotate_left 1
                    · (intro wx hSw; (try dsimp only at hSw); go_simp; try with_reducible rfl)
                    try simp only [Act.put, List.setIfInBounds_toArray, List.set_cons_zero, List.set_cons_succ]
                    refine wpR.take 4 rfl (by kernel_rfl) (fun _ _ _ h => h) (by rfl) (v := ?_) ?_ (by assumption) ?_
                    rotate_left 1
                    · (intro wx hSw; (try dsimp only at hSw); go_simp; try with_reducible rfl)
                    try simp only [Act.put, List.setIfInBounds_toArray, List.set_cons_zero, List.set_cons_succ]
                    refine wpR.take 5 rfl (by kernel_rfl) (fun _ _ _ h => h) (by rfl) (v := ?_) ?_ (by assumption) ?_
                    rotate_left 1
                    · (intro wx hSw; (try dsimp only at hSw); go_simp; try with_reducible rfl)
                    try simp only [Act.put, List.setIfInBounds_toArray, List.set_cons_zero, List.set_cons_succ]
                    refine wpR.take 6 rfl (by kernel_rfl) (fun _ _ _ h => h) (by rfl) (v := ?_) ?_ (by assumption) ?_
                    rotate_left 1
                    · (intro wx hSw; (try dsimp only at hSw); go_simp; try with_reducible rfl)
                    try simp only [Act.put, List.setIfInBounds_toArray, List.set_cons_zero, List.set_cons_succ]
                    refine wpR.call 7 rfl (by kernel_rfl) (fun _ _ _ h => h) (by rfl) (v := ?_) (f := ?_) (args := ?_) ?_ ?_ (by assumption) ?_
                    rotate_left 3
                    · (intro wx hSw; (try dsimp only at hSw); go_simp; first | done | with_reducible rfl | (refine ⟨?_, ?_⟩ <;> with_reducible rfl))
                    · (intro wx hSw; (try dsimp only at hSw); exact HIZ.out wx)
                    try simp only [Act.put, List.setIfInBounds_toArray, List.set_cons_zero, List.set_cons_succ]
                    refine wpR.take 8 rfl (by kernel_rfl) (fun _ _ _ h => h) (by rfl) (v := ?_) ?_ (by assumption) ?_
                    rotate_left 1
                    · (intro wx hSw; (try dsimp only at hSw); go_simp; try with_reducible rfl)
                    try simp only [Act.put, List.setIfInBounds_toArray, List.set_cons_zero, List.set_cons_succ]
                    refine wpR.take 9 rfl (by kernel_rfl) (fun _ _ _ h => h) (by rfl) (v := ?_) ?_ (by assumption) ?_
                    rotate_left 1
                    · (intro wx hSw; (try dsimp only at hSw); go_simp; try with_reducible rfl)
                    try simp only [Act.put, List.setIfInBounds_toArray, List.set_cons_zero, List.set_cons_succ]
                    refine wpR.take 10 rfl (by kernel_rfl) (fun _ _ _ h => h) (by rfl) (v := ?_) ?_ (by assumption) ?_
                    rotate_left 1
                    · (intro wx hSw; (try dsimp only at hSw); go_simp; try with_reducible rfl)
                    try simp only [Act.put, List.setIfInBounds_toArray, List.set_cons_zero, List.set_cons_succ]
                    refine wpR.take 11 rfl (by kernel_rfl) (fun _ _ _ h => h) (by rfl) (v := ?_) ?_ (by assumption) ?_
                    rotate_left 1
                    · (intro wx hSw; (try dsimp only at hSw); go_simp; try with_reducible rfl)
                    try simp only [Act.put, List.setIfInBounds_toArray, List.set_cons_zero, List.set_cons_succ]
                    refine wpR.take 12 rfl (by kernel_rfl) (fun _ _ _ h => h) (by rfl) (v := ?_) ?_ (by assumption) ?_
                    rotate_left 1
                    · (intro wx hSw; (try dsimp only at hSw); go_simp; try with_reducible rfl)
                    try simp only [Act.put, List.setIfInBounds_toArray, List.set_cons_zero, List.set_cons_succ]
                    refine wpR.take 13 rfl (by kernel_rfl) (fun _ _ _ h => h) (by rfl) (v := ?_) ?_ (by assumption) ?_
                    rotate_left 1
                    · (intro wx hSw; (try dsimp only at hSw); go_simp; try with_reducible rfl)
                    try simp only [Act.put, List.setIfInBounds_toArray, List.set_cons_zero, List.set_cons_succ]
                    refine wpR.take 14 rfl (by kernel_rfl) (fun _ _ _ h => h) (by rfl) (v := ?_) ?_ (by assumption) ?_
                    rotate_left 1
                    · (intro wx hSw; (try dsimp only at hSw); go_simp; try with_reducible rfl)
                    try simp only [Act.put, List.setIfInBounds_toArray, List.set_cons_zero, List.set_cons_succ]
                    refine wpR.call 15 rfl (by kernel_rfl) (fun _ _ _ h => h) (by rfl) (v := ?_) (f := ?_) (args := ?_) ?_ ?_ (by assumption) ?_
                    rotate_left 3
                    · (intro wx hSw; (try dsimp only at hSw); go_simp; first | done | with_reducible rfl | (refine ⟨?_, ?_⟩ <;> with_reducible rfl))
                    · (intro wx hSw; (try dsimp only at hSw); exact HIZ.out wx)
                    try simp only [Act.put, List.setIfInBounds_toArray, List.set_cons_zero, List.set_cons_succ]
                    refine wpR.take 16 rfl (by kernel_rfl) (fun _ _ _ h => h) (by rfl) (v := ?_) ?_ (by assumption) ?_
                    rotate_left 1
                    · (intro wx hSw; (try dsimp only at hSw); go_simp; try with_reducible rfl)
                    try simp only [Act.put, List.setIfInBounds_toArray, List.set_cons_zero, List.set_cons_succ]
                    refine wpR.take 17 rfl (by kernel_rfl) (fun _ _ _ h => h) (by rfl) (v := ?_) ?_ (by assumption) ?_
                    rotate_left 1
                    · (intro wx hSw; (try dsimp only at hSw); go_simp; try with_reducible rfl)
                    try simp only [Act.put, List.setIfInBounds_toArray, List.set_cons_zero, List.set_cons_succ]
                    refine wpR.take 18 rfl (by kernel_rfl) (fun _ _ _ h => h) (by rfl) (v := ?_) ?_ (by assumption) ?_
                    rotate_left 1
                    · (intro wx hSw; (try dsimp only at hSw); go_simp; try with_reducible rfl)
                    try simp only [Act.put, List.setIfInBounds_toArray, List.set_cons_zero, List.set_cons_succ]
                    refine wpR.one 19 rfl (by kernel_rfl) (by rfl) (v := ?_) (w' := ?_) ?_ ?_ ?_
                    rotate_left 2
                    · (go_simp; first | done | with_reducible rfl | (refine ⟨?_, ?_⟩ <;> with_reducible rfl))
                    · (intro _; exact ⟨b2a _, bza _, pza _⟩)
                    try simp only [Act.put, List.setIfInBounds_toArray, List.set_cons_zero, List.set_cons_succ]
                    have hHeld0 := hHeld
                    clear hHeld0
                    have hHeld : (fun yw : World => yw.cell? ⟨a.bx, 2, none⟩ = some (.slice (some ⟨a.bw, 0, none⟩) N2 N2) ∧ yw.cell? ⟨a.bw, qz, none⟩ = some (.slice az NZ cz) ∧ yw.cell? ⟨g2, o2 + 1, none⟩ = some (.int .i64 y)) w12 := ⟨r3, r2, r4⟩
                    refine wpR.one 20 rfl (by kernel_rfl) (by rfl) (v := ?_) (w' := ?_) ?_ ?_ ?_
                    rotate_left 2
                    · (go_simp; first | done | with_reducible rfl | (refine ⟨?_, ?_⟩ <;> with_reducible rfl))
                    · (intro _; exact ⟨r3, r2, r4⟩)
                    try simp only [Act.put, List.setIfInBounds_toArray, List.set_cons_zero, List.set_cons_succ]
                    refine wpR.take 21 rfl (by kernel_rfl) (fun _ _ _ h => h) (by rfl) (v := ?_) ?_ (by assumption) ?_
                    rotate_left 1
                    · (intro wx hSw; (try dsimp only at hSw); go_simp; try with_reducible rfl)
                    try simp only [Act.put, List.setIfInBounds_toArray, List.set_cons_zero, List.set_cons_succ]
                    refine wpR.skip 22 rfl (by kernel_rfl) (by rfl) (w' := ?_) ?_ ?_ ?_
                    rotate_left 1
                    · (go_simp; first | done | with_reducible rfl | (refine ⟨?_, ?_⟩ <;> with_reducible rfl))
                    · (exact fun h => absurd (by decide) h)
                    try simp only [Act.put]
                    refine wpR.done (by kernel_rfl) ?_
                    go_wp2_with fail
                    go_roundw
                    case rel => exact ⟨tgN tag2 wc (.wth qz), _, _, Rz2, kept, kn, m + 1, rfl, by simp, by omega, hid ⟨HK.out, HPM.out⟩⟩
                    case measure => simp [intOf]; omega
                · have hje : j = N := by omega
                  subst hje
                  have hltj : ¬ (j : Int) < j := by omega
                  have hHJ : ∀ (t : Nat) (y : Int), 2 ≤ t → e[t]? = some y → -y ∈ d2.K := fun t y h1 h2 => HJ.out t y h1 (by
                    have := (List.getElem?_eq_some_iff.1 h2).1
                    rw [HF.out.same.1, HC.out.2.2.1] at this
                    exact this) h2
                  have HHJ := hid hHJ
                  obtain ⟨w6, hr6, hM6, hT6⟩ := HMl.out.keepW (q := q) (kept := kept) (nw := [i]) (tl := L.drop kept.length) (tl' := L.drop (kept.length + 1)) HPI.out.ct (cap := cu) (g := g) (by rw [HPI.out.len]; exact HPI.out.ws) (HPI.out.drop1 HI.out).1 (HPI.out.drop1 HI.out).2 (box_below wr (.cells #[.int .i64 (i : Int)] 3 (0, 0))) (A := ⟨wr.heap.size, 0, none⟩) (m := 1) (cc := 1) rfl (one_cellN wr i) 22
                  rw [HK.out] at hr6
                  have HM6 := hid hM6
                  have HT6 := hid (HTl.out.same (hT6.mono fun k _ e => by rw [e]; nofun))
                  have p6 : w6.cell? ⟨g2, o2, none⟩ = some (.int .i64 o) := hM6.clsLit HIC.out HC.out.2.1 HF.out.e0
                  have HW0 := hid (HHO.out w6 _ o r0 hM6 rfl HOK.out.2.1 HOK.out.2.2)
                  clear hM6 hT6 HMl HTl HJ hHJ
                  go_wp2_with fail
                  refine HW0.out.mono ?_
                  rintro e' w' ⟨rfl, t, rfl⟩
                  have HMy := hid (HM6.out.drewN t)
                  have HTy := hid (HT6.out.drewN t)
                  have p7 : (w6.drewN t).cell? ⟨g2, o2, none⟩ = some (.int .i64 o) := p6
                  clear HW0 HM6 HT6 p6 hr6
                  generalize w6.drewN t = wy at HMy HTy p7 ⊢
                  by_cases hno : -o ∈ d2.K
                  · have hr0 : r0 = -1 := HOK.out.2.2.symm.trans ((HPI.out.lk.hvm HOK.out.2.1 HPI.out.cj.cons).2 hno)
                    subst hr0
                    have HNO := hid hno
                    obtain ⟨w7, hr7, hT7, hM7, hM8⟩ := HPI.out.two (wy := wy) (C' := d2.C.set i e) (g := g) HI.out rfl (by rw [← HPI.out.len]; exact HTG.out.2.2) HMy.out
                    have hr7 : (appM #[22, 22] 22 #[.slice (some ⟨g, 0, none⟩) (kn + 1) cu, .slice (some (if cu = m + 1 then ⟨g, 0, none⟩ else (⟨g, 0, none⟩ : Addr).add (m + 1))) (LL - (m + 1)) (cu - (m + 1))]).run Try.prog wy = .ok (.slice (some ⟨g, 0, none⟩) (kn + 1 + (LL - (m + 1))) cu) w7 := by
                      have h := hr7
                      dsimp only at h
                      rw [HK.out, HLL.out] at h
                      exact h
                    have hM8 : SM tag2 B w0 (w7.setCell ⟨a.bw, q, none⟩ (.slice (some ⟨g, 0, none⟩) (kn + 1 + (LL - (m + 1))) cu)) a { v2 with ws := v2.ws.set q (.slice (some ⟨g, 0, none⟩) (kn + 1 + (LL - (m + 1))) cu) } { d2 with C := d2.C.set i e, Wt := d2.Wt.set q (kept ++ (i :: L.drop (m + 1))) } := by
                      have h := hM8
                      dsimp only at h
                      rw [HK.out, HLL.out] at h
                      exact h
                    obtain ⟨d7, hM7⟩ := hM7
                    have hqn := HQL.out.2.1
                    have b2 : w7.cell? ⟨a.bx, 2, none⟩ = some (.slice (some ⟨a.bw, 0, none⟩) N2 N2) := by rw [← HN2.out]; exact hM7.cell 2
                    obtain ⟨a7, c7, n7, -, -, -, bq7⟩ := hM7.wtc hqn
                    have f7 : w7.frozen? ⟨a.bw, q, none⟩ = false := Fx.free (hM7.co .wtb).1
                    have hT8 := (hT7.mono fun k _ e => (by rw [e]; nofun : tag2 k ≠ .oth)).setCell (p := ⟨a.bw, q, none⟩) (by show tag2 a.bw ≠ .oth; rw [(HPI.out.sm.co .wtb).1.2]; nofun) (.slice (some ⟨g, 0, none⟩) (kn + 1 + (LL - (m + 1))) cu)
                    have HEND := hid (HQ.out (.returned (.int .i64 (i : Int))) _ ⟨tag2, _, _, Rz2, ⟨hM8.drew, (HTy.out.same hT8).drew, HPI.out.lk.cw _ _ d2.dn, HPI.out.pg.cw (by simp) _ d2.dn⟩, .inr ⟨i, rfl, HPI.out.fail HI.out HC.out.1 HF.out HHJ.out HNO.out⟩⟩)
                    obtain ⟨A7, hA7⟩ : ∃ A, (if cu = m + 1 then ⟨g, 0, none⟩ else (⟨g, 0, none⟩ : Addr).add (m + 1)) = A := ⟨_, rfl⟩
                    have hsl := slice_fromG (P := Try.prog) (t := 22) (e := 3) (ad := ⟨g, 0, none⟩) (n := LL) (c := cu) (k := (m : Int) + 1) (m := m + 1) (by omega) Try.underlying22 (fun wx => by kernel_rfl) (by omega)
                    rw [hA7] at hsl hr7
                    obtain ⟨K7, hK7⟩ : ∃ t, kn + 1 + (LL - (m + 1)) = t := ⟨_, rfl⟩
                    obtain ⟨L7, hL7⟩ : ∃ t, LL - (m + 1) = t := ⟨_, rfl⟩
                    obtain ⟨C7, hC7⟩ : ∃ t, cu - (m + 1) = t := ⟨_, rfl⟩
                    rw [hK7] at hr7 HEND
                    rw [hL7, hC7] at hr7 hsl
                    clear hM7 hM8 hT7 hT8 hno hqn hA7 hK7 hL7 hC7
                    go_wp2_with fail
                    refine wp_region_R (fun yw => yw.cell? ⟨a.bx, 2, none⟩ = some (.slice (some ⟨a.bw, 0, none⟩) N2 N2) ∧ yw.cell? ⟨a.bw, q, none⟩ = some (.slice a7 n7.length c7)) [8] (by kernel_rfl) ?_
                    have hHeld : (fun yw : World => yw.cell? ⟨a.bx, 2, none⟩ = some (.slice (some ⟨a.bw, 0, none⟩) N2 N2) ∧ yw.cell? ⟨a.bw, q, none⟩ = some (.slice a7 n7.length c7)) w7.drew := ⟨b2, bq7⟩
                    refine wpR.take 0 rfl (by kernel_rfl) (fun _ _ _ h => h) (by rfl) (v := ?_) ?_ (by assumption) ?_
                    rotate_left 1
                    · (intro wx hSw; (try dsimp only at hSw); go_simp; try with_reducible rfl)
                    try simp only [Act.put, List.setIfInBounds_toArray, List.set_cons_zero, List.set_cons_succ]
                    refine wpR.take 1 rfl (by kernel_rfl) (fun _ _ _ h => h) (by rfl) (v := ?_) ?_ (by assumption) ?_
                    rotate_left 1
                    · (intro wx hSw; (try dsimp only at hSw); go_simp; try with_reducible rfl)
                    try simp only [Act.put, List.setIfInBounds_toArray, List.set_cons_zero, List.set_cons_succ]
                    refine wpR.take 2 rfl (by kernel_rfl) (fun _ _ _ h => h) (by rfl) (v := ?_) ?_ (by assumption) ?_
                    rotate_left 1
                    · (intro wx hSw; (try dsimp only at hSw); go_simp; try with_reducible rfl)
                    try simp only [Act.put, List.setIfInBounds_toArray, List.set_cons_zero, List.set_cons_succ]
                    refine wpR.take 3 rfl (by kernel_rfl) (fun _ _ _ h => h) (by rfl) (v := ?_) ?_ (by assumption) ?_
                    rotate_left 1
                    · (intro wx hSw; (try dsimp only at hSw); go_simp; try with_reducible rfl)
                    try simp only [Act.put, List.setIfInBounds_toArray, List.set_cons_zero, List.set_cons_succ]
                    refine wpR.take 4 rfl (by kernel_rfl) (fun _ _ _ h => h) (by rfl) (v := ?_) ?_ (by assumption) ?_
                    rotate_left 1
                    · (intro wx hSw; (try dsimp only at hSw); go_simp; try with_reducible rfl)
                    try simp only [Act.put, List.setIfInBounds_toArray, List.set_cons_zero, List.set_cons_succ]
                    refine wpR.call 5 rfl (by kernel_rfl) (fun _ _ _ h => h) (by rfl) (v := ?_) (f := ?_) (args := ?_) ?_ ?_ (by assumption) ?_
                    rotate_left 3
                    · (intro wx hSw; (try dsimp only at hSw); go_simp; first | done | with_reducible rfl | (refine ⟨?_, ?_⟩ <;> with_reducible rfl))
                    · (intro wx hSw; (try dsimp only at hSw); exact HIX.out wx)
                    try simp only [Act.put, List.setIfInBounds_toArray, List.set_cons_zero, List.set_cons_succ]
                    refine wpR.take 6 rfl (by kernel_rfl) (fun _ _ _ h => h) (by rfl) (v := ?_) ?_ (by assumption) ?_
                    rotate_left 1
                    · (intro wx hSw; (try dsimp only at hSw); go_simp; try with_reducible rfl)
                    try simp only [Act.put, List.setIfInBounds_toArray, List.set_cons_zero, List.set_cons_succ]
                    refine wpR.take 7 rfl (by kernel_rfl) (fun _ _ _ h => h) (by rfl) (v := ?_) ?_ (by assumption) ?_
                    rotate_left 1
                    · (intro wx hSw; (try dsimp only at hSw); go_simp; try with_reducible rfl)
                    try simp only [Act.put, List.setIfInBounds_toArray, List.set_cons_zero, List.set_cons_succ]
                    refine wpR.skip 8 rfl (by kernel_rfl) (by rfl) (w' := ?_) ?_ ?_ ?_
                    rotate_left 1
                    · (go_simp; first | done | with_reducible rfl | (refine ⟨?_, ?_⟩ <;> with_reducible rfl))
                    · (exact fun h => absurd (by decide) h)
                    try simp only [Act.put]
                    refine wpR.done (by kernel_rfl) ?_
                    go_wp2_with fail
                    exact HEND.out
                  · --else
                    have hr0 : (r0 == -1) = false := beq_false_of_ne fun e => hno ((HPI.out.lk.hvm HOK.out.2.1 HPI.out.cj.cons).1 (HOK.out.2.2.trans e))
                    have HNO := hid hno
                    have hKn : d2.K.length ≤ 1048576 := by have := lits_le HPI.out.cj.nod HPI.out.cj.cons HPI.out.cj.kok; have := HN.out.2.1; omega
                    have HSET := hid (sol_set tag2 B w0 wy a v2 _ n o i HMy.out HN.out.1 HN.out.2.1 HOK.out.2.1 hKn)
                    clear hno hKn
                    go_wp2_with fail
                    refine HSET.out.mono ?_
                    rintro e' w8 ⟨rfl, tag8, vt8, hM8, hS8⟩
                    have HP8 := hid (HPI.out.set HI.out HC.out.1 HF.out HHJ.out ⟨HOK.out.1, HNO.out⟩ hM8 rfl (HTy.out.trans hS8))
                    clear hM8 hS8 HSET
                    go_wp2_with fail
                    go_roundw
                    case rel => exact ⟨tag8, _, _, _, kept ++ [i], kn + 1, m + 1, rfl, by simp, by omega, hid ⟨by simp [HK.out], HP8.out⟩⟩
                    case measure => simp [intOf]; omega
        · --end
          have hme : m = LL := by omega
          subst hme
          have hltm : ¬ (m : Int) < m := by omega
          obtain ⟨hkn, hPI⟩ := HS.out
          have hM8 := hPI.fin hPI.sm
          have hM8 : SM tag2 B w0 (wr.setCell ⟨a.bw, q, none⟩ (.slice au kn cu)) a { v2 with ws := v2.ws.set q (.slice au kn cu) } { d2 with Wt := d2.Wt.set q kept } := by
            have h := hM8
            dsimp only at h
            rw [hkn] at h
            exact h
          have hqn := HQL.out.2.1
          have b2 : wr.cell? ⟨a.bx, 2, none⟩ = some (.slice (some ⟨a.bw, 0, none⟩) N2 N2) := by rw [← HN2.out]; exact hPI.sm.cell 2
          obtain ⟨a7, c7, n7, -, -, -, bq7⟩ := hPI.sm.wtc hqn
          have f7 : wr.frozen? ⟨a.bw, q, none⟩ = false := Fx.free (hPI.sm.co .wtb).1
          have hT8 := (Touch.refl (fun k => tag2 k ≠ .oth) wr).setCell (p := ⟨a.bw, q, none⟩) (by show tag2 a.bw ≠ .oth; rw [(hPI.sm.co .wtb).1.2]; nofun) (.slice au kn cu)
          have HP8 := hid (hPI.leave (by show L.length ≤ m; rw [HLL.out]; exact Nat.le_refl _) hM8.drew (hPI.sr.same hT8).drew)
          have HD9 := hid hPI.dn
          clear hkn hPI hM8 hqn hT8 hlt HS
          go_wp2_with fail
          refine wp_region_R (fun yw => yw.cell? ⟨a.bx, 2, none⟩ = some (.slice (some ⟨a.bw, 0, none⟩) N2 N2) ∧ yw.cell? ⟨a.bw, q, none⟩ = some (.slice a7 n7.length c7)) [8] (by kernel_rfl) ?_
          have hHeld : (fun yw : World => yw.cell? ⟨a.bx, 2, none⟩ = some (.slice (some ⟨a.bw, 0, none⟩) N2 N2) ∧ yw.cell? ⟨a.bw, q, none⟩ = some (.slice a7 n7.length c7)) wr.drew := ⟨b2, bq7⟩
          refine wpR.take 0 rfl (by kernel_rfl) (fun _ _ _ h => h) (by rfl) (v := ?_) ?_ (by assumption) ?_
          rotate_left 1
          · (intro wx hSw; (try dsimp only at hSw); go_simp; try with_reducible rfl)
          try simp only [Act.put, List.setIfInBounds_toArray, List.set_cons_zero, List.set_cons_succ]
          refine wpR.take 1 rfl (by kernel_rfl) (fun _ _ _ h => h) (by rfl) (v := ?_) ?_ (by assumption) ?_
          rotate_left 1
          · (intro wx hSw; (try dsimp only at hSw); go_simp; try with_reducible rfl)
          try simp only [Act.put, List.setIfInBounds_toArray, List.set_cons_zero, List.set_cons_succ]
          refine wpR.take 2 rfl (by kernel_rfl) (fun _ _ _ h => h) (by rfl) (v := ?_) ?_ (by assumption) ?_
          rotate_left 1
          · (intro wx hSw; (try dsimp only at hSw); go_simp; try with_reducible rfl)
          try simp only [Act.put, List.setIfInBounds_toArray, List.set_cons_zero, List.set_cons_succ]
          refine wpR.take 3 rfl (by kernel_rfl) (fun _ _ _ h => h) (by rfl) (v := ?_) ?_ (by assumption) ?_
          rotate_left 1
          · (intro wx hSw; (try dsimp only at hSw); go_simp; try with_reducible rfl)
          try simp only [Act.put, List.setIfInBounds_toArray, List.set_cons_zero, List.set_cons_succ]
          refine wpR.take 4 rfl (by kernel_rfl) (fun _ _ _ h => h) (by rfl) (v := ?_) ?_ (by assumption) ?_
          rotate_left 1
          · (intro wx hSw; (try dsimp only at hSw); go_simp; try with_reducible rfl)
          try simp only [Act.put, List.setIfInBounds_toArray, List.set_cons_zero, List.set_cons_succ]
          refine wpR.call 5 rfl (by kernel_rfl) (fun _ _ _ h => h) (by rfl) (v := ?_) (f := ?_) (args := ?_) ?_ ?_ (by assumption) ?_
          rotate_left 3
          · (intro wx hSw; (try dsimp only at hSw); go_simp; first | done | with_reducible rfl | (refine ⟨?_, ?_⟩ <;> with_reducible rfl))
          · (intro wx hSw; (try dsimp only at hSw); exact HIX.out wx)
          try simp only [Act.put, List.setIfInBounds_toArray, List.set_cons_zero, List.set_cons_succ]
          refine wpR.take 6 rfl (by kernel_rfl) (fun _ _ _ h => h) (by rfl) (v := ?_) ?_ (by assumption) ?_
          rotate_left 1
          · (intro wx hSw; (try dsimp only at hSw); go_simp; try with_reducible rfl)
          try simp only [Act.put, List.setIfInBounds_toArray, List.set_cons_zero, List.set_cons_succ]
          refine wpR.take 7 rfl (by kernel_rfl) (fun _ _ _ h => h) (by rfl) (v := ?_) ?_ (by assumption) ?_
          rotate_left 1
          · (intro wx hSw; (try dsimp only at hSw); go_simp; try with_reducible rfl)
          try simp only [Act.put, List.setIfInBounds_toArray, List.set_cons_zero, List.set_cons_succ]
          refine wpR.skip 8 rfl (by kernel_rfl) (by rfl) (w' := ?_) ?_ ?_ ?_
          rotate_left 1
          · (go_simp; first | done | with_reducible rfl | (refine ⟨?_, ?_⟩ <;> with_reducible rfl))
          · (exact fun h => absurd (by decide) h)
          try simp only [Act.put]
          refine wpR.done (by kernel_rfl) ?_
          go_wp2_with fail
          refine ⟨⟨_, _, _, _, HP8⟩, ?_⟩
          have h9 := HP8.out.sm.cell 9
          rw [h9, HQ9.out]
          show (2097152 - ((d2.dn : Nat) : Int)).toNat < (2097152 - ((dn : Nat) : Int)).toNat
          have := HD9.out
          have := HD.out.1
          have := HLE.out
          dsimp only at *
          omega
    · have hke : dn = kl := by omega
      subst hke
      have hltm : ¬ (dn : Int) < dn := by omega
      have HEND : Hid (∀ k, Q (.returned (.int .i64 (-1))) (wr.drewN k)) := hid fun k => HQ.out _ _ ⟨tag1, v1, d1, Rz1, ⟨HO.out.sm.drewN k, HO.out.sr.drewN k, HO.out.lk, HO.out.pg⟩, .inl ⟨rfl, (by have h := HO.out.cd; rw [hdn, ← hkl] at h; exact h), hdn.trans hkl.symm⟩⟩
      clear hdn hkl
      go_wp2_with fail
      go_quiet (fail)
      go_wp2_with fail
      exact HEND.out _

end Go.Proofs.Ytfofabbnbmieoaa.Ord
