/- The walk of rup's add. -/
import Derived.Test.YtfofabbnbmieoaaQ11
import Derived.Test.YtfofabbnbmieoaaQ7
import Derived.Test.YtfofabbnbmieoaaQ9

namespace Go.Proofs.Ytfofabbnbmieoaa.Ord
open Go.RowKit Go.Conc

attribute [local go_sem ↓] Go.wp_at_zero Go.wp_at_succ
attribute [local go_sem ↓ high] app_mark

set_option maxRecDepth 100000 in
set_option maxHeartbeats 8000000 in
theorem rup_addT (tag : Nat → RT) (B : Nat) (w0 w : World) (bx bw bk : Nat) (vc vt : Value) (C : List (List Int)) (us : List Value) (es : List (Int × Value)) (Wt : Int → List Nat) (K : List Int) (n : Nat) (F : List (List Int)) (c : List Int) (ac : Option Addr) (mc cc : Nat)
    (h : RM tag B w0 w bx bw bk vc vt K.length C us es Wt K) (hT : Top n F C Wt K) (hmc : mc = c.length) (hcc : mc ≤ cc) (hc0 : ac = none → cc = 0) (hs : SlV w ac (ints c)) (hx : ∀ x ∈ c, I64 x) (hcl : c.length ≤ 4294967296) (ht : adjB (normL c) = true) :
    Calls Try.prog 79 #[.pointer (some ⟨bx, 0, none⟩), .slice ac mc cc] w (addR tag B w0 w bx bw bk C n F c) := by
  obtain ⟨Q, hQ⟩ : ∃ Q : Ending → World → Prop, addR tag B w0 w bx bw bk C n F c = Q := ⟨_, rfl⟩
  rw [hQ]
  have HN := hid (lit_NormT ac c mc cc w ht hmc hcc hc0 hs hx hcl)
  have HF : Hid (∀ w1, Below w.heap.size w w1 → Q (.returned (.tuple #[])) w1) := hid fun w1 hb => by
    rw [← hQ]
    obtain ⟨x, hx, h0, hn⟩ := adjB_normL_iff.1 ht
    exact .inl ⟨rfl, tag, vc, vt, C, us, es, Wt, K, h.grow hb fun _ _ => rfl, hT.taut ⟨x, hx, hn⟩, TG.refl _ _, Below.touch hb, by omega⟩
  clear h hT hmc hcc hc0 hs hx hcl ht hQ
  go_enter Try.func79, Try.ntmps79
  go_wp2_with fail
  refine HN.out.mono ?_
  rintro e w1 ⟨a', c', rfl, hb⟩
  have HB := hid hb
  clear hb
  go_wp2_with fail
  exact ⟨rfl, _, results_none rfl _ _ _, HF.out _ HB.out⟩

set_option maxRecDepth 100000 in
set_option maxHeartbeats 8000000 in
theorem rup_addF (tag : Nat → RT) (B : Nat) (w0 w : World) (bx bw bk : Nat) (vc vt : Value) (C : List (List Int)) (us : List Value) (es : List (Int × Value)) (Wt : Int → List Nat) (K : List Int) (n : Nat) (F : List (List Int)) (c : List Int) (ac : Option Addr) (mc cc : Nat)
    (h : RM tag B w0 w bx bw bk vc vt K.length C us es Wt K) (hT : Top n F C Wt K) (hn : n ≤ 1048576) (hC : C.length ≤ 2199023255550) (hmc : mc = c.length) (hcc : mc ≤ cc) (hc0 : ac = none → cc = 0) (hs : SlV w ac (ints c)) (hok : ∀ x ∈ c, LitOk n x) (hcl : c.length ≤ 4294967296) (ht : adjB (normL c) = false) :
    Calls Try.prog 79 #[.pointer (some ⟨bx, 0, none⟩), .slice ac mc cc] w (addR tag B w0 w bx bw bk C n F c) := by
  obtain ⟨Q, hQ⟩ : ∃ Q : Ending → World → Prop, addR tag B w0 w bx bw bk C n F c = Q := ⟨_, rfl⟩
  rw [hQ]
  have HQ := hid hQ
  clear hQ
  obtain ⟨i0, hi0, hz0, hz1, hz2⟩ := info_parts info_int
  obtain ⟨i1, hi1, hy0, hy1, hy2⟩ := info_parts info_ints
  have hx64 : ∀ x ∈ c, I64 x := fun x hx => by have := hok x hx; unfold LitOk at this; unfold I64; omega
  obtain ⟨ys, hys⟩ : ∃ ys, normL c = ys := ⟨_, rfl⟩
  have HN := hid (lit_NormF ac c ys mc cc w ht hys hmc hcc hc0 hs hx64 hcl)
  have hmem : ∀ x, x ∈ ys ↔ x ∈ c := fun x => by rw [← hys, mem_normL_iff]; exact ⟨fun h => h.1, fun h => ⟨h, (hok x h).1⟩⟩
  have hnd : ys.Nodup := by rw [← hys]; exact asc_nodup (asc_normL c)
  have hop : ∀ x ∈ ys, -x ∉ ys := fun x hx hnx => by
    have : adjB (normL c) = true := adjB_normL_iff.2 ⟨x, (hmem x).1 hx, (hok x ((hmem x).1 hx)).1, (hmem _).1 hnx⟩
    rw [ht] at this
    cases this
  have hyo : ∀ x ∈ ys, LitOk n x := fun x hx => hok x ((hmem x).1 hx)
  have hyl : ys.length ≤ n := lits_le hnd hop hyo
  have HH := hid h
  have HT := hid hT
  have HY := hid (And.intro hmem (And.intro hnd (And.intro hop hyo)))
  have HCl := hid hC
  clear h hT hC hmc hcc hc0 hs hok hcl ht hx64 hys hmem hnd hop hyo
  by_cases hy0l : ys.length = 0
  · have HF : Hid (∀ w1 nd, Below w.heap.size w w1 → Q (.panicked [{ v := failV, recovered := false }]) (w1.drewN nd)) := hid fun w1 nd hb => by
      rw [← HQ.out]
      have hyn : ys = [] := List.eq_nil_of_length_eq_zero hy0l
      exact .inr ⟨.inl rfl, .inr ⟨c, by simp, fun l hl => by have := (HY.out.1 l).2 hl; rw [hyn] at this; cases this⟩, (Below.touch hb).drewN _⟩
    go_enter Try.func79, Try.ntmps79
    go_wp2_with fail
    refine HN.out.mono ?_
    rintro e w1 ⟨a', c', rfl, -, hb⟩
    have HB := hid hb
    clear hb
    rw [hy0l]
    clear hy0l
    go_wp2_with fail
    go_loopw [6, 17] (fun s6 s17 wr => s6 = .int .i64 0 ∧ s17 = .int .i64 0 ∧ wr = w1) (fun _ _ _ => 0)
    case atStart => exact ⟨rfl, rfl, rfl⟩
    case round =>
      obtain ⟨rfl, rfl, rfl⟩ := hrel
      go_wp2_with fail
      exact ⟨rfl, HF.out _ 0 HB.out⟩
  · have hyp : 0 < ys.length := by omega
    obtain ⟨N, hN⟩ : ∃ N, ys.length = N := ⟨_, rfl⟩
    rw [hN] at HN hyp hyl
    have hNi : (0 : Int) < N := by omega
    have HNN := hid hN
    have HNL := hid (And.intro hyl (And.intro hyp hn))
    clear hN hy0l hyl hyp hn
    go_enter Try.func79, Try.ntmps79
    go_wp2_with fail
    refine HN.out.mono ?_
    rintro e w1 ⟨a', c', rfl, ho, hb⟩
    obtain ⟨a2, c2, e1, hle2, hz2', hcel⟩ := ho
    injection e1 with e1 e1n e1c
    subst e1 e1c
    cases a' with
    | none => exact absurd (hz2' rfl) (by have := HNN.out; have := HNL.out; omega)
    | some ad =>
      obtain ⟨g, of, cur, rfl, hgB, hgb, hcur⟩ := hcel ad rfl
      have hM1 := HH.out.grow (tag' := fun k => if k < w.heap.size then tag k else .oth) hb fun k hk => if_pos hk
      have hG1 : TG tag (fun k => if k < w.heap.size then tag k else .oth) w := tg_if tag w
      have hgt : (fun k => if k < w.heap.size then tag k else RT.oth) g = .oth := if_neg (by omega)
      obtain ⟨tag1, ht1⟩ : ∃ t, (fun k => if k < w.heap.size then tag k else RT.oth) = t := ⟨_, rfl⟩
      rw [ht1] at hM1 hG1 hgt
      have HI : Hid (AI tag1 B w0 w1 bx bw bk vc vt K.length C us es Wt K g of ys w1 w1 0 0 ys) := hid ⟨OI.start K HY.out.2.1, ⟨cur, hgb, hcur⟩, Touch.refl _ _, hM1⟩
      have HB := hid hb
      have HG := hid (And.intro hgB (And.intro hgt hG1))
      have HGX : Hid (g ≠ bx ∧ g ≠ bw ∧ g ≠ bk) := hid ⟨(hM1.intb hgb).1, (hM1.intb hgb).2.1, (hM1.intb hgb).2.2.1⟩
      clear hb hM1 hG1 hgt ht1 hgB hgb hcur hcel hz2' hle2 e1n HN
      go_wp2_with fail
      go_loopw [6, 17] (fun s6 s17 wr => ∃ (p j : Nat) (l : List Int), s6 = .int .i64 p ∧ s17 = .int .i64 j ∧ j ≤ N ∧ p ≤ 2 ∧ Hid (AI tag1 B w0 w1 bx bw bk vc vt K.length C us es Wt K g of ys w1 wr p j l)) (fun _ s17 _ => (N - (intOf s17)).toNat)
      case atStart => exact ⟨0, 0, ys, rfl, rfl, by omega, by omega, HI⟩
      case round =>
        obtain ⟨p, j, l, rfl, rfl, hjN, hp2, HA⟩ := hrel
        have hlN : l.length = N := by rw [HA.out.oi.same.1]; exact HNN.out
        by_cases hlt : j < N
        · have hlt2 : (j : Int) < N := by omega
          obtain ⟨x, hxj⟩ : ∃ x, l[j]? = some x := ⟨_, List.getElem?_eq_getElem (by omega)⟩
          have hxo := HY.out.2.2.2 x ((HA.out.oi.same.2.2 x).1 (List.mem_of_getElem? hxj))
          have hwx : IntKind.i64.wrap (-x) = -x := IntWalk.i64_in _ (by have := HNL.out; unfold LitOk at hxo; omega)
          have hwj : IntKind.i64.wrap ((j : Int) + 1) = (j : Int) + 1 := IntWalk.i64_in _ (by have := HNL.out; omega)
          have hwp : IntKind.i64.wrap ((p : Int) + 1) = (p : Int) + 1 := IntWalk.i64_in _ (by omega)
          have pj := HA.out.lm.cell hxj
          have q2 := HA.out.rm.cells.2.2.1
          have hlk := fun m => kes_look (HA.out.rm.kn.frame (w' := wr.drewN m) rfl) (-x)
          have HX := hid (And.intro hxj hxo)
          have HLN := hid hlN
          clear hxj hxo hlN
          by_cases hk : -x ∈ K
          · rw [decide_eq_true hk] at hlk
            have hm := hlk
            have HK := hid hk
            clear hk
            go_wp2_with fail
            go_quiet (fail)
            go_wp2_with fail
            go_roundw
            case rel => exact ⟨p, j + 1, l, rfl, by simp, by omega, by omega, hid ⟨HA.out.oi.skip HX.out.1 (.inl HK.out), ⟨HA.out.lm.blk⟩, HA.out.tt.drewN _, HA.out.rm.grow (below_dr (Below.refl _ _) _) fun _ _ => rfl⟩⟩
            case measure => simp [intOf]; omega
          · rw [decide_eq_false hk] at hlk
            have hm := hlk
            have HK := hid hk
            clear hk
            by_cases hpl : p < 2
            · have hpl2 : (p : Int) < 2 := by omega
              have hpl3 : decide ((p : Int) < 2) = true := decide_eq_true hpl2
              go_wp2_with fail
              go_quiet (fail)
              go_wp2_with fail
              have hAd := HA.out.dr nq
              clear pj q2 hlk hm
              generalize wr.drewN nq = wd at hAd ⊢
              obtain ⟨y, hyp⟩ : ∃ y, l[p]? = some y := ⟨_, List.getElem?_eq_getElem (by rw [HLN.out]; have := HA.out.oi.pj; omega)⟩
              have pj := hAd.lm.cell HX.out.1
              have pp := hAd.lm.cell hyp
              have fj := hAd.lm.froz (of + j)
              have fp := hAd.lm.froz (of + p)
              have hpN : (p : Int) < N := by have := HA.out.oi.pj; omega
              have HSW := hid (hAd.take ⟨by have := HG.out.1; have := HH.out.le; omega, HGX.out.1, HGX.out.2.1, HGX.out.2.2, HG.out.2.1⟩ HX.out.1 hyp HK.out hpl)
              have HYP := hid hyp
              have HPL := hid hpl
              clear hAd hyp hpl hpl3
              go_cut [] (fun wx => Hid (AI tag1 B w0 w1 bx bw bk vc vt K.length C us es Wt K g of ys w1 wx (p + 1) (j + 1) (swapL l p j)))
              case first =>
                by_cases hpj : p = j
                · subst hpj
                  have hxy : x = y := by have := HX.out.1.symm.trans HYP.out; injection this
                  subst hxy
                  go_region
                  all_goals
                    go_wp2_with fail
                    go_meet
                    case rel => exact hid (HSW.out.dr _)
                · go_region
                  all_goals
                    go_wp2_with fail
                    go_meet
                    case rel => exact hid (HSW.out.dr _)
              case rest =>
                clear pj pp fj fp
                go_wp2_with fail
                go_roundw
                case rel => exact ⟨p + 1, j + 1, _, by simp, by simp, by omega, by have := HPL.out; omega, hcut⟩
                case measure => simp [intOf]; omega
            · have hpl2 : ¬ (p : Int) < 2 := by omega
              have hpl3 : decide ((p : Int) < 2) = false := decide_eq_false hpl2
              go_wp2_with fail
              go_quiet (fail)
              go_wp2_with fail
              go_roundw
              case rel => exact ⟨p, j + 1, l, rfl, by simp, by omega, by omega, hid ⟨HA.out.oi.skip HX.out.1 (.inr hpl), ⟨HA.out.lm.blk⟩, HA.out.tt.drewN _, HA.out.rm.grow (below_dr (Below.refl _ _) _) fun _ _ => rfl⟩⟩
              case measure => simp [intOf]; omega
        · have hje : j = N := by omega
          subst hje
          have hlt2 : ¬ (j : Int) < j := by omega
          have hp : p = 0 ∨ p = 1 ∨ p = 2 := by omega
          have HLN := hid hlN
          clear hlN hjN hlt hp2
          rcases hp with rfl | rfl | rfl
          · have HF : Hid (∀ nd, Q (.panicked [{ v := failV, recovered := false }]) (wr.drewN nd)) := hid fun nd => by
              rw [← HQ.out]
              refine .inr ⟨.inl rfl, .inr ⟨c, by simp, fun x hx => ?_⟩, ?_⟩
              · have := HA.out.oi.none (by rw [HLN.out]; exact Nat.le_refl _) x ((HY.out.1 x).2 hx)
                exact ((HT.out.kx c).snd _ this)
              · exact ((Below.touch HB.out : Touch (ST tag bx bw bk) w w1).trans' HA.out.tt fun k hk e => by have := HG.out.1; omega).drewN _
            go_wp2_with fail
            exact ⟨rfl, HF.out 0⟩
          case' inr.inl =>
            obtain ⟨x0, hx0⟩ : ∃ x, l[0]? = some x := ⟨_, List.getElem?_eq_getElem (by rw [HLN.out]; exact HNL.out.2.1)⟩
            have hone := HA.out.oi.one (by rw [HLN.out]; exact Nat.le_refl _) hx0
            have hx0o := HY.out.2.2.2 x0 ((HA.out.oi.same.2.2 x0).1 (List.mem_of_getElem? hx0))
            have hKn : K.length ≤ n := lits_le HT.out.nod HT.out.cons HT.out.kok
            have HS := hid (rup_set tag1 B w0 wr bx bw bk vc vt K.length C us es Wt K x0 HA.out.rm (by have := HNL.out; unfold LitOk at hx0o; omega) (by have := HNL.out; omega))
            have p0 : wr.cell? ⟨g, of, none⟩ = some (.int .i64 x0) := HA.out.lm.cell hx0
            have hKX : KX n (F ++ [c]) K (setK K x0) := by
              by_cases hin : x0 ∈ K
              · rw [setK_pos hone.1 hin]; exact HT.out.kx c
              · rw [setK_new hone.1 hin]
                refine (HT.out.kx c).one hin hone.1 hx0o (.unit (c := c) (by simp) ((HY.out.1 _).1 ((HA.out.oi.same.2.2 x0).1 (List.mem_of_getElem? hx0))) fun m hm hne => ?_)
                exact (HT.out.kx c).snd _ (hone.2 m ((HY.out.1 m).2 hm) hne)
            have HX0 := hid (And.intro hx0 (And.intro hone.1 (setK_mem hone.1)))
            have HKX := hid hKX
            clear hx0 hone hx0o hKn hKX
            go_wp2_with fail
            refine HS.out.mono ?_
            rintro e w2 ⟨-, h1⟩
            obtain ⟨rfl, tag2, vt2, hR, htg, hTs⟩ := h1 HX0.out.2.1
            obtain ⟨K1, hK1⟩ : ∃ K1, setK K x0 = K1 := ⟨_, rfl⟩
            rw [hK1] at hR HX0 HKX
            have HM := hid hR
            have hng : ¬ (g = bx ∨ g = bk ∨ vt.ownBlock = some g) := by
              rintro (e | e | e)
              · exact HGX.out.1 e
              · exact HGX.out.2.2 e
              · have := HA.out.rm.trt g e
                rw [HG.out.2.1] at this
                cases this
            have hgl : g < wr.heap.size := by obtain ⟨cu, hcu, -⟩ := HA.out.lm.blk; exact (Array.getElem?_eq_some_iff.1 hcu).1
            have HLM := hid (HA.out.lm.keep hTs hng)
            have hTw : Touch (ST tag bx bw bk) w wr := (Below.touch HB.out : Touch (ST tag bx bw bk) w w1).trans' HA.out.tt fun k hk e => by have := HG.out.1; omega
            have HTT : Hid (Touch (ST tag bx bw bk) w w2 ∧ TG tag tag2 w ∧ tag2 g = .oth) := hid ⟨hTw.st HG.out.2.2 (hTs.mono fun k _ hk => by
              rcases hk with e | e | e
              · exact .inl e
              · exact .inr (.inr (.inl e))
              · exact .inr (.inr (.inr (by rw [HA.out.rm.trt k e]; nofun)))), HG.out.2.2.trans (TG.of_eq htg) hTw.size, (htg g hgl).trans HG.out.2.1⟩
            have HXX : Hid (l[0]? = some x0 ∧ -x0 ∉ K ∧ (x0 ∈ K1 ∨ (2 ≤ j ∧ ∀ x1, l[1]? = some x1 → -x1 ∉ K))) := hid ⟨HX0.out.1, HX0.out.2.1, .inl HX0.out.2.2⟩
            have HOI := hid HA.out.oi.same
            clear hR htg hTs h1 hK1 hng hgl hTw HX0 HS HA p0
          case' inr.inr =>
            obtain ⟨x0, hx0⟩ : ∃ x, l[0]? = some x := ⟨_, List.getElem?_eq_getElem (by rw [HLN.out]; exact HNL.out.2.1)⟩
            have hj2 := HA.out.oi.pj
            obtain ⟨tag2, ht2⟩ : ∃ t, tag1 = t := ⟨_, rfl⟩
            obtain ⟨vt2, hv2⟩ : ∃ t, vt = t := ⟨_, rfl⟩
            obtain ⟨K1, hK1⟩ : ∃ t, K = t := ⟨_, rfl⟩
            obtain ⟨w2, hw2⟩ : ∃ t, wr = t := ⟨_, rfl⟩
            have hTw : Touch (ST tag bx bw bk) w wr := (Below.touch HB.out : Touch (ST tag bx bw bk) w w1).trans' HA.out.tt fun k hk e => by have := HG.out.1; omega
            have HTT : Hid (Touch (ST tag bx bw bk) w w2 ∧ TG tag tag2 w ∧ tag2 g = .oth) := hid (by rw [← hw2, ← ht2]; exact ⟨hTw, HG.out.2.2, HG.out.2.1⟩)
            have HM : Hid (RM tag2 B w0 w2 bx bw bk vc vt2 K.length C us es Wt K1) := hid (by rw [← hw2, ← ht2, ← hv2, ← hK1]; exact HA.out.rm)
            have HLM : Hid (LM w2 g of l) := hid (by rw [← hw2]; exact HA.out.lm)
            have HKX : Hid (KX n (F ++ [c]) K K1) := hid (by rw [← hK1]; exact HT.out.kx c)
            have HXX : Hid (l[0]? = some x0 ∧ -x0 ∉ K ∧ (x0 ∈ K1 ∨ (2 ≤ j ∧ ∀ x1, l[1]? = some x1 → -x1 ∉ K))) := hid ⟨hx0, HA.out.oi.fst 0 x0 (by omega) hx0, .inr ⟨hj2, fun x1 h1 => HA.out.oi.fst 1 x1 (by omega) h1⟩⟩
            have HOI := hid HA.out.oi.same
            clear hx0 hj2 hTw ht2 hv2 hK1
            clear HA
            rw [hw2]
            clear hw2
          all_goals
            by_cases hj2 : 2 ≤ j
            · have hj3 : (1 : Int) < j := by omega
              have hjp : (0 : Int) < j := by omega
              have hjn : 0 < j := by omega
              have hjm : 1 < j := by omega
              obtain ⟨x1, hx1⟩ : ∃ x, l[1]? = some x := ⟨_, List.getElem?_eq_getElem (by rw [HLN.out]; omega)⟩
              obtain ⟨CL, hCL⟩ : ∃ m, C.length = m := ⟨_, rfl⟩
              obtain ⟨av, cv, hvc⟩ := own_lenV' HM.out.clr
              rw [hCL] at hvc
              subst hvc
              obtain ⟨q0, q1, q2, q3, q4⟩ := HM.out.cells
              have hclr := HM.out.clr
              rw [hCL] at hclr
              have hle2 := HM.out.le
              have hCLb : CL ≤ 2199023255550 := by rw [← hCL]; exact HCl.out
              obtain ⟨a6, c6, w6, hr6, ho6, hg6, ha6⟩ := appM_one (P := Try.prog) (w2.alloc (.cells #[.slice (some ⟨g, of, none⟩) j c'] 22 (0, 0))) B 32 32 22 i1 (.slice none 0 0) 24 Try.underlying32 hi1 hy0 hy1 hy2 rfl (.slice av CL cv) CL us (hclr.alloc _) w2.heap.size (.slice (some ⟨g, of, none⟩) j c') (heap_alloc_new _ _) rfl (by unfold maxLen; omega) (by omega) (by simp only [size_al]; omega)
              have hMr := HM.out.retag (tag' := fun k => if k = g then .cls C.length else tag2 k) fun k _ hk => if_neg fun e => hk (by rw [e]; exact HTT.out.2.2)
              obtain ⟨cur2, hb2, hcur2⟩ := HLM.out.blk
              have hgB := HG.out.1
              have hwB := HH.out.le
              have ho6' : w6.ownsRow B 22 1 (.slice a6 (C.length + 1) c6) (C.length + 1) (us ++ [.slice (some ⟨g, of, none⟩) l.length c']) := by rw [HLN.out, hCL]; exact ho6
              have ha6' : (Value.slice a6 (C.length + 1) c6).ownBlock = (Value.slice av CL cv).ownBlock ∨ (Value.slice a6 (C.length + 1) c6).ownBlock = some (w2.alloc (.cells #[.slice (some ⟨g, of, none⟩) j c'] 22 (0, 0))).heap.size := by rw [hCL]; exact ha6
              obtain ⟨hM5, hT5⟩ := hMr.pushC (l := l) (g := g) (o := of) (cap := c') (if_pos rfl) (by omega) hb2 hcur2 hg6 ho6' ha6'
              have hb6 : w6.heap[bx]? = _ := (hg6.block bx (by have := (Array.getElem?_eq_some_iff.1 HM.out.blk).1; simp only [size_al]; omega) (fun e => HM.out.apart.2.2.1 e.symm)).trans ((Below.heap_alloc _ _ _ (Array.getElem?_eq_some_iff.1 HM.out.blk).1).trans HM.out.blk)
              have k0 : w6.cell? ⟨bx, 0, none⟩ = _ := fit_cell (vs := [.slice av CL cv, .map (some bw), .map (some bk), vt2, .int .i64 K.length]) hb6 0
              have kf : w6.frozen? ⟨bx, 0, none⟩ = false := frozen_of_row _ _ _ _ _ hb6
              rw [hCL] at hM5 hT5
              obtain ⟨tag5, ht5⟩ : ∃ t : Nat → RT, (fun k => if k < w2.heap.size then (if k = g then RT.cls CL else tag2 k) else RT.clr) = t := ⟨_, rfl⟩
              rw [ht5] at hM5
              have hgl2 := (Array.getElem?_eq_some_iff.1 hb2).1
              have hg5 : tag5 g = .cls CL := by rw [← ht5]; show (if g < w2.heap.size then (if g = g then RT.cls CL else tag2 g) else RT.clr) = _; rw [if_pos hgl2, if_pos rfl]
              have hgw : w.heap.size ≤ g := HG.out.1
              have hG5 : TG tag tag5 w := fun k hk hkt => by
                have h1 : tag2 k = .oth := HTT.out.2.1 k hk hkt
                have h2 := HTT.out.1.size
                rw [← ht5]
                show (if k < w2.heap.size then (if k = g then RT.cls CL else tag2 k) else RT.clr) = .oth
                rw [if_pos (by omega), if_neg (by omega)]
                exact h1
              have hT5' : Touch (ST tag bx bw bk) w (w6.setCell ⟨bx, 0, none⟩ (.slice a6 (CL + 1) c6)) := HTT.out.1.trans' hT5 fun k hk hs => by
                rcases hs with e | e
                · exact .inl e
                · exact .inr (.inr (.inr fun q => by
                    have h1 := HM.out.clt k e
                    rw [HTT.out.2.1 k hk q] at h1
                    cases h1))
              have HM5 := hid hM5
              have HT5 := hid (And.intro hT5' (And.intro hG5 hg5))
              have HX1 := hid hx1
              have HCL := hid hCL
              have HUL : Hid ((us ++ [Value.slice (some ⟨g, of, none⟩) l.length c'])[CL]? = some (.slice (some ⟨g, of, none⟩) l.length c')) := hid (by
                have hul : us.length = CL := by have := hclr.1; simpa using this
                rw [List.getElem?_append_right (by omega)]
                simp [hul])
              clear hx1 q1 q2 q3 q4 hclr hle2 ho6 hg6 ha6 hMr hb2 hcur2 ho6' ha6' hM5 hT5 hb6 ht5 hgl2 hg5 hG5 hT5' hj2
              have HC1 : Hid ((C ++ [l])[CL]? = some l) := hid (by rw [← HCL.out]; simp)
              have HWL5 : Hid (∀ b, (Wt b).length ≤ 2199023255551) := hid fun b => by have := HT.out.wi.len b; have := HCl.out; omega
              go_wp2_with fail
              clear k0 kf hr6
              generalize w6.setCell ⟨bx, 0, none⟩ (.slice a6 (CL + 1) c6) = wc at HM5 HT5 ⊢
              obtain ⟨q0, q1, -, -, -⟩ := HM5.out.cells
              have pz : wc.cell? ⟨g, of, none⟩ = some (.int .i64 x0) := HM5.out.lit HC1.out HUL.out (j := 0) HXX.out.1
              obtain ⟨av, cv, hval, hwv2, hwv3⟩ := HM5.out.wr x0
              have hwv : WV tag5 B wc x0 (.slice av (Wt x0).length cv) (Wt x0) := ⟨av, cv, rfl, hwv2, by rw [hval] at hwv3; exact hwv3⟩
              have hlG : ∀ y : World, IM y bw es → (Instr.lookup 99 (.map (some bw)) (.int .i64 x0) false).run Try.prog y = .ok (.slice av (Wt x0).length cv) y := fun y hy => by
                rw [im_lookup (P := Try.prog) Try.underlying99 Try.underlying3 (z := .slice none 0 0) (by kernel_rfl) hy x0]
                exact congrArg (fun v => Result.ok v y) hval
              have hl0 := fun m => hlG (wc.drewN m) (HM5.out.wi.frame rfl)
              have hl1 := hlG wc.drew (HM5.out.wi.frame rfl)
              have hl2 := fun o => hlG (wc.alloc o) (HM5.out.wi.frame (Below.heap_alloc _ _ _ HM5.out.wi.lt))
              have hl3 := fun o => hlG (wc.alloc o).drew (HM5.out.wi.frame (Below.heap_alloc _ _ _ HM5.out.wi.lt))
              have hl4 := fun o m => hlG ((wc.alloc o).drewN m) (HM5.out.wi.frame (Below.heap_alloc _ _ _ HM5.out.wi.lt))
              have hl5 := hlG wc HM5.out.wi
              have hle := HM5.out.le
              have HNT : Hid ((¬ (tag5 bx = .wth x0 ∧ B ≤ bx ∧ ∃ cur : Array Value, wc.heap[bx]? = some (.cells cur 3 (0, 0)))) ∧ (¬ (tag5 g = .wth x0 ∧ B ≤ g ∧ ∃ cur : Array Value, wc.heap[g]? = some (.cells cur 3 (0, 0)))) ∧ ¬ (tag5 bw = .wth x0 ∧ B ≤ bw ∧ ∃ cur : Array Value, wc.heap[bw]? = some (.cells cur 3 (0, 0)))) := hid ⟨fun ⟨_, _, cu, hc⟩ => (HM5.out.intb hc).1 rfl, (fun ⟨h, _⟩ => by rw [HT5.out.2.2] at h; cases h), fun ⟨_, _, cu, hc⟩ => (HM5.out.intb hc).2.1 rfl⟩
              have HGW : Hid (g ≠ bw ∧ bx ≠ bw) := hid ⟨HGX.out.2.1, (HM5.out.apart).1⟩
              have hWx := HWL5.out x0
              obtain ⟨R, hR⟩ : ∃ R, (Wt x0).length = R := ⟨_, rfl⟩
              have HR := hid hR
              have HWV := hid hwv
              rw [hR] at hl0 hl1 hl2 hl3 hl4 hl5 hWx
              clear hlG hwv hval hwv2 hwv3 hR
              go_cut [] (fun wx => ∃ (tag' : Nat → RT) (es' : List (Int × Value)), Hid (RM tag' B w0 wx bx bw bk (.slice a6 (CL + 1) c6) vt2 K.length (C ++ [l]) (us ++ [.slice (some ⟨g, of, none⟩) l.length c']) es' (fun b => if b = x0 then Wt x0 ++ [CL] else Wt b) K1) ∧ Hid (Touch (ST tag bx bw bk) w wx ∧ TG tag tag' w ∧ tag' g = .cls CL))
              case first =>
                go_region_held3 (fun y => y.cell? ⟨bx, 1, none⟩ = some (.map (some bw)) ∧ y.cell? ⟨g, of, none⟩ = some (.int .i64 x0)) (first | exact ⟨‹_›, ‹_›⟩ | go_keep)
                  ((refine step_append_wt (tag := tag5) (B := B) (w := wc) rfl _ _ 22 rfl i0 (.int .i64 0) 8 Try.underlying22 hi0 hz0 hz1 hz2 rfl rfl (v := .slice av R cv) HR.out (by rfl) (by rw [← HR.out]; exact HWV.out) (by first | exact box_below _ _ | exact (box_below _ _).drew) (by exact hle) [CL] _ 1 1 rfl (by decide) (by rfl) (cells_one (by first | exact heap_alloc_new _ _)) (by omega) ?_; intro a8 c8 w8 h8 hT8 ho8; have hb8 := hT8.cell q1 HNT.out.1; have hg8 := hT8.cell pz HNT.out.2.1; obtain ⟨w3, hup, him, ht3, hz3⟩ := im_update (P := Try.prog) Try.underlying99 Try.underlying3 (HM5.out.wi.frame (hT8.block bw HM5.out.wi.lt HNT.out.2.2)) x0 (.slice a8 (R + 1) c8); have hb9 := ht3.cell hb8 HGW.out.2; have hg9 := ht3.cell hg8 HGW.out.1; have H8 := hid h8; have HT8 := hid hT8; have HO8 := hid ho8; have HIM := hid him; have HT3 := hid ht3; clear h8 hT8 ho8 him ht3 hz3))
                all_goals
                  go_wp2_with fail
                  go_meet
                  case rel =>
                    obtain ⟨hM3, hT3⟩ := HM5.out.wth HT8.out (by rw [HR.out]; exact H8.out) (fun k hk hl => (HO8.out k hk hl).1) HIM.out HT3.out
                    refine ⟨_, _, hid hM3, hid ⟨HT5.out.1.st HT5.out.2.1 (hT3.mono fun k _ hk => RS.st hk), HT5.out.2.1.trans (TG.of_eq fun k hk => if_pos hk) HT5.out.1.size, (if_pos ?_).trans HT5.out.2.2⟩⟩
                    obtain ⟨g2, of2, cap2, cu, e1, e2, e3, e4, e5⟩ := HM5.out.cls CL l HC1.out
                    rw [HUL.out] at e1
                    injection e1 with e1
                    injection e1 with e1
                    injection e1 with e1
                    injection e1 with e1
                    rw [e1]
                    exact (Array.getElem?_eq_some_iff.1 e4).1
              case rest =>
                obtain ⟨tag6, es6, HM6, HT6⟩ := hcut
                clear q0 q1 pz hl0 hl1 hl2 hl3 hl4 hl5 HWV HR hWx HNT HGW hle HM5 HT5
                obtain ⟨Wt6, hWt6⟩ : ∃ f : Int → List Nat, (fun b => if b = x0 then Wt x0 ++ [CL] else Wt b) = f := ⟨_, rfl⟩
                rw [hWt6] at HM6
                have HWT6 := hid hWt6
                have HWL6 : Hid (∀ b, (Wt6 b).length ≤ 2199023255552) := hid fun b => by
                  have := HWL5.out b
                  have := HWL5.out x0
                  rw [← hWt6]
                  show (if b = x0 then Wt x0 ++ [CL] else Wt b).length ≤ _
                  split
                  · rw [List.length_append]; simp; omega
                  · omega
                clear hWt6
                go_wp2_with fail
                obtain ⟨q0, q1, -, -, -⟩ := HM6.out.cells
                have pz : wc.cell? ⟨g, of + 1, none⟩ = some (.int .i64 x1) := HM6.out.lit HC1.out HUL.out (j := 1) HX1.out
                obtain ⟨av, cv, hval, hwv2, hwv3⟩ := HM6.out.wr x1
                have hwv : WV tag6 B wc x1 (.slice av (Wt6 x1).length cv) (Wt6 x1) := ⟨av, cv, rfl, hwv2, by rw [hval] at hwv3; exact hwv3⟩
                have hlG : ∀ y : World, IM y bw es6 → (Instr.lookup 99 (.map (some bw)) (.int .i64 x1) false).run Try.prog y = .ok (.slice av (Wt6 x1).length cv) y := fun y hy => by
                  rw [im_lookup (P := Try.prog) Try.underlying99 Try.underlying3 (z := .slice none 0 0) (by kernel_rfl) hy x1]
                  exact congrArg (fun v => Result.ok v y) hval
                have hl0 := fun m => hlG (wc.drewN m) (HM6.out.wi.frame rfl)
                have hl1 := hlG wc.drew (HM6.out.wi.frame rfl)
                have hl2 := fun o => hlG (wc.alloc o) (HM6.out.wi.frame (Below.heap_alloc _ _ _ HM6.out.wi.lt))
                have hl3 := fun o => hlG (wc.alloc o).drew (HM6.out.wi.frame (Below.heap_alloc _ _ _ HM6.out.wi.lt))
                have hl4 := fun o m => hlG ((wc.alloc o).drewN m) (HM6.out.wi.frame (Below.heap_alloc _ _ _ HM6.out.wi.lt))
                have hl5 := hlG wc HM6.out.wi
                have hle := HM6.out.le
                have HNT : Hid ((¬ (tag6 bx = .wth x1 ∧ B ≤ bx ∧ ∃ cur : Array Value, wc.heap[bx]? = some (.cells cur 3 (0, 0)))) ∧ (¬ (tag6 g = .wth x1 ∧ B ≤ g ∧ ∃ cur : Array Value, wc.heap[g]? = some (.cells cur 3 (0, 0)))) ∧ ¬ (tag6 bw = .wth x1 ∧ B ≤ bw ∧ ∃ cur : Array Value, wc.heap[bw]? = some (.cells cur 3 (0, 0)))) := hid ⟨fun ⟨_, _, cu, hc⟩ => (HM6.out.intb hc).1 rfl, (fun ⟨h, _⟩ => by rw [HT6.out.2.2] at h; cases h), fun ⟨_, _, cu, hc⟩ => (HM6.out.intb hc).2.1 rfl⟩
                have HGW : Hid (g ≠ bw ∧ bx ≠ bw) := hid ⟨HGX.out.2.1, (HM6.out.apart).1⟩
                have hWx := HWL6.out x1
                obtain ⟨R, hR⟩ : ∃ R, (Wt6 x1).length = R := ⟨_, rfl⟩
                have HR := hid hR
                have HWV := hid hwv
                rw [hR] at hl0 hl1 hl2 hl3 hl4 hl5 hWx
                clear hlG hwv hval hwv2 hwv3 hR
                go_cut [] (fun wx => ∃ (tag' : Nat → RT) (es' : List (Int × Value)), Hid (RM tag' B w0 wx bx bw bk (.slice a6 (CL + 1) c6) vt2 K.length (C ++ [l]) (us ++ [.slice (some ⟨g, of, none⟩) l.length c']) es' (fun b => if b = x1 then Wt6 x1 ++ [CL] else Wt6 b) K1) ∧ Hid (Touch (ST tag bx bw bk) w wx ∧ TG tag tag' w ∧ tag' g = .cls CL))
                case first =>
                  go_region_held3 (fun y => y.cell? ⟨bx, 1, none⟩ = some (.map (some bw)) ∧ y.cell? ⟨g, of + 1, none⟩ = some (.int .i64 x1)) (first | exact ⟨‹_›, ‹_›⟩ | go_keep)
                    ((refine step_append_wt (tag := tag6) (B := B) (w := wc) rfl _ _ 22 rfl i0 (.int .i64 0) 8 Try.underlying22 hi0 hz0 hz1 hz2 rfl rfl (v := .slice av R cv) HR.out (by rfl) (by rw [← HR.out]; exact HWV.out) (by first | exact box_below _ _ | exact (box_below _ _).drew) (by exact hle) [CL] _ 1 1 rfl (by decide) (by rfl) (cells_one (by first | exact heap_alloc_new _ _)) (by omega) ?_; intro a8 c8 w8 h8 hT8 ho8; have hb8 := hT8.cell q1 HNT.out.1; have hg8 := hT8.cell pz HNT.out.2.1; obtain ⟨w3, hup, him, ht3, hz3⟩ := im_update (P := Try.prog) Try.underlying99 Try.underlying3 (HM6.out.wi.frame (hT8.block bw HM6.out.wi.lt HNT.out.2.2)) x1 (.slice a8 (R + 1) c8); have hb9 := ht3.cell hb8 HGW.out.2; have hg9 := ht3.cell hg8 HGW.out.1; have H8 := hid h8; have HT8 := hid hT8; have HO8 := hid ho8; have HIM := hid him; have HT3 := hid ht3; clear h8 hT8 ho8 him ht3 hz3))
                  all_goals
                    go_wp2_with fail
                    go_meet
                    case rel =>
                      obtain ⟨hM3, hT3⟩ := HM6.out.wth HT8.out (by rw [HR.out]; exact H8.out) (fun k hk hl => (HO8.out k hk hl).1) HIM.out HT3.out
                      refine ⟨_, _, hid hM3, hid ⟨HT6.out.1.st HT6.out.2.1 (hT3.mono fun k _ hk => RS.st hk), HT6.out.2.1.trans (TG.of_eq fun k hk => if_pos hk) HT6.out.1.size, (if_pos ?_).trans HT6.out.2.2⟩⟩
                      obtain ⟨g2, of2, cap2, cu, e1, e2, e3, e4, e5⟩ := HM6.out.cls CL l HC1.out
                      rw [HUL.out] at e1
                      injection e1 with e1
                      injection e1 with e1
                      injection e1 with e1
                      injection e1 with e1
                      rw [e1]
                      exact (Array.getElem?_eq_some_iff.1 e4).1
                case rest =>
                  obtain ⟨tag7, es7, HM7, HT7⟩ := hcut
                  have hnn := HNL.out.2.2
                  have hx01 : x1 ≠ x0 := fun e => by
                    have := nodup_get HOI.out.2.1 HX1.out (by rw [e]; exact HXX.out.1)
                    omega
                  obtain ⟨hri, hall⟩ := HT.out.push (c := c) (l := l) (x0 := x0) (x1 := x1) (Wt' := (fun b => if b = x1 then Wt6 x1 ++ [CL] else Wt6 b)) HKX.out (by rw [HLN.out]; omega) HOI.out.2.1 (fun x hx => HY.out.2.2.2 x ((HOI.out.2.2 x).1 hx)) (fun x hx hn => HY.out.2.2.1 x ((HOI.out.2.2 x).1 hx) ((HOI.out.2.2 _).1 hn)) (fun x => (HOI.out.2.2 x).trans (HY.out.1 x)) HXX.out.1 HX1.out HXX.out.2.1 (HXX.out.2.2.elim (fun q => .inr q) fun q => .inl (q.2 x1 HX1.out)) (fun b => by
                    rw [HCL.out, ← HWT6.out]
                    by_cases q1 : b = x1
                    · subst q1
                      simp only [if_true, if_neg hx01, if_pos (show b = x0 ∨ True from .inr trivial)]
                    · by_cases q0 : b = x0
                      · subst q0; simp [q1]
                      · simp [q0, q1])
                  have HRUN := hid (rup_run tag7 B w0 wc bx bw bk (.slice a6 (CL + 1) c6) vt2 K.length (C ++ [l]) (us ++ [.slice (some ⟨g, of, none⟩) l.length c']) es7 _ K1 [] n (F ++ [c]) [] HM7.out hri hnn (by rw [List.length_append]; simp; have := HCl.out; omega))
                  have HALL := hid hall
                  clear hri hall hx01 q0 q1 pz hl0 hl1 hl2 hl3 hl4 hl5 HWV HR hWx HNT HGW hle
                  go_wp2_with fail
                  refine HRUN.out.mono ?_
                  intro e w10 hr
                  have HF : Hid (Q e w10) := hid (by rw [← HQ.out]; exact hr.add HT7.out.2.1 HT7.out.1 HALL.out (by simp))
                  rcases hr.ends with rfl | rfl
                  · clear hr
                    go_wp2_with fail
                    exact ⟨rfl, _, results_none rfl _ _ _, HF.out⟩
                  · clear hr
                    go_wp2_with fail
                    exact ⟨rfl, HF.out⟩
            · have hj3 : ¬ (1 : Int) < j := by omega
              have HX0 : Hid (x0 ∈ K1 ∧ x0 ∈ c) := hid ⟨HXX.out.2.2.elim id fun q => absurd q.1 hj2, (HY.out.1 _).1 ((HOI.out.2.2 x0).1 (List.mem_of_getElem? HXX.out.1))⟩
              obtain ⟨hri, hall⟩ := HT.out.single HKX.out HX0.out.2 HX0.out.1
              have HRUN := hid (rup_run tag2 B w0 w2 bx bw bk vc vt2 K.length C us es Wt K1 [] n (F ++ [c]) [] HM.out hri HNL.out.2.2 (by have := HCl.out; omega))
              have HALL := hid hall
              clear hri hall hj2
              go_wp2_with fail
              refine HRUN.out.mono ?_
              intro e w10 hr
              have HF : Hid (Q e w10) := hid (by rw [← HQ.out]; exact hr.add HTT.out.2.1 HTT.out.1 HALL.out (by omega))
              rcases hr.ends with rfl | rfl
              · clear hr
                go_wp2_with fail
                exact ⟨rfl, _, results_none rfl _ _ _, HF.out⟩
              · clear hr
                go_wp2_with fail
                exact ⟨rfl, HF.out⟩

end Go.Proofs.Ytfofabbnbmieoaa.Ord

/- The contracts of rup's fails, for each function that it is handed. -/
namespace Go.Proofs.Ytfofabbnbmieoaa.Ord
open Go.RowKit Go.Conc

attribute [local go_sem ↓] Go.wp_at_zero Go.wp_at_succ
attribute [local go_sem ↓ high] app_mark

set_option maxRecDepth 100000 in
set_option maxHeartbeats 4000000 in
theorem fails1_idle (b : Nat) (w : World) :
    CallsD Try.prog 92 #[.pointer (some ⟨b, 0, none⟩)] .returning w fun e u' w' => e = .returned (.tuple #[]) ∧ u' = .returning ∧ w' = w := by
  refine callsD_of_wpS Try.func92 rfl fun c₀ cs hu => ?_
  apply wpS_seq
  apply wpS_region
  simp [wpOpsS, go_sem, recoverD, hu, Try.ntmps92, Exit.thenS]
  refine wpS_of_wp ?_
  simp only [Array.replicate_succ, Array.replicate_zero, List.push_toArray, List.nil_append, List.cons_append]
  go_wp2_with fail
  refine ⟨rfl, .returning, ?_, _, results_none rfl _ _ _, rfl, rfl, rfl⟩
  cases c₀
  simp at hu
  rw [hu]

set_option maxRecDepth 100000 in
set_option maxHeartbeats 4000000 in
theorem fails1_rec (older : List PanicEntry) (b : Nat) (w : World) (hb : w.heap[b]? = some (.cells #[.bool false] 4 (0, 0))) :
    CallsD Try.prog 92 #[.pointer (some ⟨b, 0, none⟩)] (.panicking ({ v := failV, recovered := false } :: older)) w fun e u' w' =>
      e = .returned (.tuple #[]) ∧ u' = .panicking ({ v := failV, recovered := true } :: older) ∧ w'.heap[b]? = some (.cells #[.bool true] 4 (0, 0)) ∧ Touch (fun k => k = b) w w' := by
  have hc : w.cell? ⟨b, 0, none⟩ = some (.bool false) := fit_cell (vs := [.bool false]) hb 0
  have hlt := (Array.getElem?_eq_some_iff.1 hb).1
  have hbn : (w.alloc (.cells #[] 128)).heap[b]? = some (.cells #[.bool false] 4 (0, 0)) := (Below.heap_alloc _ _ _ hlt).trans hb
  have hf : (w.alloc (.cells #[] 128)).frozen? ⟨b, 0, none⟩ = false := frozen_of_row _ _ _ _ _ hbn
  have hcn : (w.alloc (.cells #[] 128)).cell? ⟨b, 0, none⟩ = some (.bool false) := fit_cell (vs := [.bool false]) hbn 0
  have HF := hid (And.intro (setCell_block (o := 0) (xs := [.bool false]) (.bool true) hbn) (((Touch.refl (fun k => k = b) w).alloc (.cells #[] 128)).setCell (p := ⟨b, 0, none⟩) rfl (.bool true)))
  clear hb hlt hbn
  have hta : ∀ w : World, (Instr.typeAssert (.iface 128 (.agg #[])) 20 128 true).run Try.prog w = .ok (.tuple #[.agg #[], .bool true]) w := fun w => by kernel_rfl
  unfold failV
  refine callsD_of_wpS Try.func92 rfl fun c₀ cs hu => ?_
  apply wpS_seq
  apply wpS_region
  simp [wpOpsS, go_sem, recoverD, hu, Try.ntmps92, Exit.thenS]
  refine wpS_of_wp ?_
  simp only [Array.replicate_succ, Array.replicate_zero, List.push_toArray, List.nil_append, List.cons_append]
  go_wp2_with fail
  exact ⟨rfl, _, rfl, _, results_none rfl _ _ _, rfl, rfl, HF.out.1, HF.out.2⟩

set_option maxRecDepth 100000 in
set_option maxHeartbeats 4000000 in
theorem fails_add1 (b1 b2 : Nat) (w : World) (R R' : World → Prop)
    (hdo : Calls Try.prog 78 #[.pointer (some ⟨b1, 0, none⟩), .pointer (some ⟨b2, 0, none⟩)] (w.alloc (.cells #[.bool false] 4)) fun e w' => w'.heap[w.heap.size]? = some (.cells #[.bool false] 4 (0, 0)) ∧ ((e = .returned (.tuple #[]) ∧ R w') ∨ (((e = .panicked [{ v := failV, recovered := false }]) ∨ e = .panicked failP) ∧ R' w'))) :
    Calls Try.prog 77 #[.func (.func 78) #[] #[.pointer (some ⟨b1, 0, none⟩), .pointer (some ⟨b2, 0, none⟩)]] w fun e w' =>
      (e = .returned (.bool false) ∧ ∃ w1, R w1 ∧ w' = w1.setCell ⟨w.heap.size, 0, none⟩ (.bool false)) ∨ (e = .returned (.bool true) ∧ ∃ w1, R' w1 ∧ Touch (fun k => k = w.heap.size) w1 w') := by
  have hmf : ∀ (fn : Fn) (first cap : Array Value) (w : World), (Instr.makeFunc fn first cap).run Try.prog w = .ok (.func fn first cap) w := fun _ _ _ _ => rfl
  obtain ⟨Q, hQ⟩ : ∃ Q : Ending → World → Prop, (fun e w' => (e = .returned (.bool false) ∧ ∃ w1, R w1 ∧ w' = w1.setCell ⟨w.heap.size, 0, none⟩ (.bool false)) ∨ (e = .returned (.bool true) ∧ ∃ w1, R' w1 ∧ Touch (fun k => k = w.heap.size) w1 w')) = Q := ⟨_, rfl⟩
  have HQ : Hid ((∀ w1, R w1 → Q (.returned (.bool false)) (w1.setCell ⟨w.heap.size, 0, none⟩ (.bool false))) ∧ ∀ w1 w', R' w1 → Touch (fun k => k = w.heap.size) w1 w' → Q (.returned (.bool true)) w') := hid (by
    rw [← hQ]
    exact ⟨fun w1 h => .inl ⟨rfl, w1, h, rfl⟩, fun w1 w' h k => .inr ⟨rfl, w1, h, k⟩⟩)
  rw [hQ]
  clear hQ
  have HD := hid hdo
  clear hdo
  go_enter_defers Try.func77, Try.ntmps77
  go_wp2_with fail
  refine HD.out.mono ?_
  rintro e w2 ⟨hb, hh⟩
  obtain ⟨bI, hbI⟩ : ∃ b, w.heap.size = b := ⟨_, rfl⟩
  rw [hbI] at HQ hb ⊢
  rcases hh with ⟨rfl, hr⟩ | ⟨he, hr⟩
  · have hf2 : w2.frozen? ⟨bI, 0, none⟩ = false := frozen_of_row _ _ _ _ _ hb
    have hc2 : w2.cell? ⟨bI, 0, none⟩ = some (.bool false) := fit_cell (vs := [.bool false]) hb 0
    have hc3 := fit_cell (vs := [.bool false].set 0 (.bool false)) (setCell_block (o := 0) (xs := [.bool false]) (.bool false) hb) 0
    have HF := hid (HQ.out.1 w2 hr)
    clear hr hb HD HQ
    go_wp2_with fail
    refine leaves_cons (f := 92) (args := #[.pointer (some ⟨bI, 0, none⟩)]) (by simp) (by simp [go_sem]) ?_
    refine (fails1_idle _ _).mono ?_
    rintro e u' w'' ⟨rfl, rfl, rfl⟩
    exact ⟨_, by simp [results, Try.results77, go_sem, hc3], HF.out⟩
  · rcases he with rfl | rfl
    · go_wp2_with fail
      refine leaves_cons (f := 92) (args := #[.pointer (some ⟨bI, 0, none⟩)]) (by simp) (by simp [go_sem]) ?_
      refine (fails1_rec [] bI w2 hb).mono ?_
      rintro e u' w'' ⟨rfl, rfl, hb3, hT⟩
      have hc3 : w''.cell? ⟨bI, 0, none⟩ = some (.bool true) := fit_cell (vs := [.bool true]) hb3 0
      exact ⟨_, by simp [results, Try.results77, go_sem, hc3], HQ.out.2 _ _ hr hT⟩
    · go_wp2_with fail
      refine leaves_cons (f := 92) (args := #[.pointer (some ⟨bI, 0, none⟩)]) (by simp) (by simp [go_sem]) ?_
      refine (fails1_rec [{ v := failV, recovered := true }] bI w2 hb).mono ?_
      rintro e u' w'' ⟨rfl, rfl, hb3, hT⟩
      have hc3 : w''.cell? ⟨bI, 0, none⟩ = some (.bool true) := fit_cell (vs := [.bool true]) hb3 0
      exact ⟨_, by simp [results, Try.results77, go_sem, hc3], HQ.out.2 _ _ hr hT⟩

set_option maxRecDepth 100000 in
set_option maxHeartbeats 4000000 in
theorem fails_add2 (b1 b2 : Nat) (w : World) (R R' : World → Prop)
    (hdo : Calls Try.prog 80 #[.pointer (some ⟨b1, 0, none⟩), .pointer (some ⟨b2, 0, none⟩)] (w.alloc (.cells #[.bool false] 4)) fun e w' => w'.heap[w.heap.size]? = some (.cells #[.bool false] 4 (0, 0)) ∧ ((e = .returned (.tuple #[]) ∧ R w') ∨ (((e = .panicked [{ v := failV, recovered := false }]) ∨ e = .panicked failP) ∧ R' w'))) :
    Calls Try.prog 77 #[.func (.func 80) #[] #[.pointer (some ⟨b1, 0, none⟩), .pointer (some ⟨b2, 0, none⟩)]] w fun e w' =>
      (e = .returned (.bool false) ∧ ∃ w1, R w1 ∧ w' = w1.setCell ⟨w.heap.size, 0, none⟩ (.bool false)) ∨ (e = .returned (.bool true) ∧ ∃ w1, R' w1 ∧ Touch (fun k => k = w.heap.size) w1 w') := by
  have hmf : ∀ (fn : Fn) (first cap : Array Value) (w : World), (Instr.makeFunc fn first cap).run Try.prog w = .ok (.func fn first cap) w := fun _ _ _ _ => rfl
  obtain ⟨Q, hQ⟩ : ∃ Q : Ending → World → Prop, (fun e w' => (e = .returned (.bool false) ∧ ∃ w1, R w1 ∧ w' = w1.setCell ⟨w.heap.size, 0, none⟩ (.bool false)) ∨ (e = .returned (.bool true) ∧ ∃ w1, R' w1 ∧ Touch (fun k => k = w.heap.size) w1 w')) = Q := ⟨_, rfl⟩
  have HQ : Hid ((∀ w1, R w1 → Q (.returned (.bool false)) (w1.setCell ⟨w.heap.size, 0, none⟩ (.bool false))) ∧ ∀ w1 w', R' w1 → Touch (fun k => k = w.heap.size) w1 w' → Q (.returned (.bool true)) w') := hid (by
    rw [← hQ]
    exact ⟨fun w1 h => .inl ⟨rfl, w1, h, rfl⟩, fun w1 w' h k => .inr ⟨rfl, w1, h, k⟩⟩)
  rw [hQ]
  clear hQ
  have HD := hid hdo
  clear hdo
  go_enter_defers Try.func77, Try.ntmps77
  go_wp2_with fail
  refine HD.out.mono ?_
  rintro e w2 ⟨hb, hh⟩
  obtain ⟨bI, hbI⟩ : ∃ b, w.heap.size = b := ⟨_, rfl⟩
  rw [hbI] at HQ hb ⊢
  rcases hh with ⟨rfl, hr⟩ | ⟨he, hr⟩
  · have hf2 : w2.frozen? ⟨bI, 0, none⟩ = false := frozen_of_row _ _ _ _ _ hb
    have hc2 : w2.cell? ⟨bI, 0, none⟩ = some (.bool false) := fit_cell (vs := [.bool false]) hb 0
    have hc3 := fit_cell (vs := [.bool false].set 0 (.bool false)) (setCell_block (o := 0) (xs := [.bool false]) (.bool false) hb) 0
    have HF := hid (HQ.out.1 w2 hr)
    clear hr hb HD HQ
    go_wp2_with fail
    refine leaves_cons (f := 92) (args := #[.pointer (some ⟨bI, 0, none⟩)]) (by simp) (by simp [go_sem]) ?_
    refine (fails1_idle _ _).mono ?_
    rintro e u' w'' ⟨rfl, rfl, rfl⟩
    exact ⟨_, by simp [results, Try.results77, go_sem, hc3], HF.out⟩
  · rcases he with rfl | rfl
    · go_wp2_with fail
      refine leaves_cons (f := 92) (args := #[.pointer (some ⟨bI, 0, none⟩)]) (by simp) (by simp [go_sem]) ?_
      refine (fails1_rec [] bI w2 hb).mono ?_
      rintro e u' w'' ⟨rfl, rfl, hb3, hT⟩
      have hc3 : w''.cell? ⟨bI, 0, none⟩ = some (.bool true) := fit_cell (vs := [.bool true]) hb3 0
      exact ⟨_, by simp [results, Try.results77, go_sem, hc3], HQ.out.2 _ _ hr hT⟩
    · go_wp2_with fail
      refine leaves_cons (f := 92) (args := #[.pointer (some ⟨bI, 0, none⟩)]) (by simp) (by simp [go_sem]) ?_
      refine (fails1_rec [{ v := failV, recovered := true }] bI w2 hb).mono ?_
      rintro e u' w'' ⟨rfl, rfl, hb3, hT⟩
      have hc3 : w''.cell? ⟨bI, 0, none⟩ = some (.bool true) := fit_cell (vs := [.bool true]) hb3 0
      exact ⟨_, by simp [results, Try.results77, go_sem, hc3], HQ.out.2 _ _ hr hT⟩

set_option maxRecDepth 100000 in
set_option maxHeartbeats 4000000 in
theorem fails_impl (b1 b2 : Nat) (w : World) (R R' : World → Prop)
    (hdo : Calls Try.prog 89 #[.pointer (some ⟨b1, 0, none⟩), .pointer (some ⟨b2, 0, none⟩)] (w.alloc (.cells #[.bool false] 4)) fun e w' => w'.heap[w.heap.size]? = some (.cells #[.bool false] 4 (0, 0)) ∧ ((e = .returned (.tuple #[]) ∧ R w') ∨ (((e = .panicked [{ v := failV, recovered := false }]) ∨ e = .panicked failP) ∧ R' w'))) :
    Calls Try.prog 77 #[.func (.func 89) #[] #[.pointer (some ⟨b1, 0, none⟩), .pointer (some ⟨b2, 0, none⟩)]] w fun e w' =>
      (e = .returned (.bool false) ∧ ∃ w1, R w1 ∧ w' = w1.setCell ⟨w.heap.size, 0, none⟩ (.bool false)) ∨ (e = .returned (.bool true) ∧ ∃ w1, R' w1 ∧ Touch (fun k => k = w.heap.size) w1 w') := by
  have hmf : ∀ (fn : Fn) (first cap : Array Value) (w : World), (Instr.makeFunc fn first cap).run Try.prog w = .ok (.func fn first cap) w := fun _ _ _ _ => rfl
  obtain ⟨Q, hQ⟩ : ∃ Q : Ending → World → Prop, (fun e w' => (e = .returned (.bool false) ∧ ∃ w1, R w1 ∧ w' = w1.setCell ⟨w.heap.size, 0, none⟩ (.bool false)) ∨ (e = .returned (.bool true) ∧ ∃ w1, R' w1 ∧ Touch (fun k => k = w.heap.size) w1 w')) = Q := ⟨_, rfl⟩
  have HQ : Hid ((∀ w1, R w1 → Q (.returned (.bool false)) (w1.setCell ⟨w.heap.size, 0, none⟩ (.bool false))) ∧ ∀ w1 w', R' w1 → Touch (fun k => k = w.heap.size) w1 w' → Q (.returned (.bool true)) w') := hid (by
    rw [← hQ]
    exact ⟨fun w1 h => .inl ⟨rfl, w1, h, rfl⟩, fun w1 w' h k => .inr ⟨rfl, w1, h, k⟩⟩)
  rw [hQ]
  clear hQ
  have HD := hid hdo
  clear hdo
  go_enter_defers Try.func77, Try.ntmps77
  go_wp2_with fail
  refine HD.out.mono ?_
  rintro e w2 ⟨hb, hh⟩
  obtain ⟨bI, hbI⟩ : ∃ b, w.heap.size = b := ⟨_, rfl⟩
  rw [hbI] at HQ hb ⊢
  rcases hh with ⟨rfl, hr⟩ | ⟨he, hr⟩
  · have hf2 : w2.frozen? ⟨bI, 0, none⟩ = false := frozen_of_row _ _ _ _ _ hb
    have hc2 : w2.cell? ⟨bI, 0, none⟩ = some (.bool false) := fit_cell (vs := [.bool false]) hb 0
    have hc3 := fit_cell (vs := [.bool false].set 0 (.bool false)) (setCell_block (o := 0) (xs := [.bool false]) (.bool false) hb) 0
    have HF := hid (HQ.out.1 w2 hr)
    clear hr hb HD HQ
    go_wp2_with fail
    refine leaves_cons (f := 92) (args := #[.pointer (some ⟨bI, 0, none⟩)]) (by simp) (by simp [go_sem]) ?_
    refine (fails1_idle _ _).mono ?_
    rintro e u' w'' ⟨rfl, rfl, rfl⟩
    exact ⟨_, by simp [results, Try.results77, go_sem, hc3], HF.out⟩
  · rcases he with rfl | rfl
    · go_wp2_with fail
      refine leaves_cons (f := 92) (args := #[.pointer (some ⟨bI, 0, none⟩)]) (by simp) (by simp [go_sem]) ?_
      refine (fails1_rec [] bI w2 hb).mono ?_
      rintro e u' w'' ⟨rfl, rfl, hb3, hT⟩
      have hc3 : w''.cell? ⟨bI, 0, none⟩ = some (.bool true) := fit_cell (vs := [.bool true]) hb3 0
      exact ⟨_, by simp [results, Try.results77, go_sem, hc3], HQ.out.2 _ _ hr hT⟩
    · go_wp2_with fail
      refine leaves_cons (f := 92) (args := #[.pointer (some ⟨bI, 0, none⟩)]) (by simp) (by simp [go_sem]) ?_
      refine (fails1_rec [{ v := failV, recovered := true }] bI w2 hb).mono ?_
      rintro e u' w'' ⟨rfl, rfl, hb3, hT⟩
      have hc3 : w''.cell? ⟨bI, 0, none⟩ = some (.bool true) := fit_cell (vs := [.bool true]) hb3 0
      exact ⟨_, by simp [results, Try.results77, go_sem, hc3], HQ.out.2 _ _ hr hT⟩

end Go.Proofs.Ytfofabbnbmieoaa.Ord

/- The contract of what implies tries. -/
namespace Go.Proofs.Ytfofabbnbmieoaa.Ord
open Go.RowKit Go.Conc

attribute [local go_sem ↓] Go.wp_at_zero Go.wp_at_succ
attribute [local go_sem ↓ high] app_mark

/-- What is left behind implies' function. -/
def impR (tag : Nat → RT) (B : Nat) (w0 w : World) (bx bw bk : Nat) (vc : Value) (C : List (List Int)) (us : List Value) (K : List Int) (n : Nat) (p : Prop) (w' : World) : Prop :=
  ∃ (tag' : Nat → RT) (vt' : Value) (dn' : Nat) (C' : List (List Int)) (es' : List (Int × Value)) (Wt' : Int → List Nat) (K' : List Int), RM tag' B w0 w' bx bw bk vc vt' dn' C' us es' Wt' K' ∧ (∃ R, K' = K ++ R) ∧ WI n C' Wt' ∧ PrB C' K ∧ CP C C' ∧ K'.length ≤ n ∧ TG tag tag' w ∧ Touch (ST tag bx bw bk) w w' ∧ p

/-- While the negatives are set. -/
structure IS (tag : Nat → RT) (B : Nat) (w0 w : World) (bx bw bk : Nat) (vc : Value) (C : List (List Int)) (us : List Value) (es : List (Int × Value)) (Wt : Int → List Nat) (K : List Int) (n : Nat) (c : List Int) (wr : World) (k : Nat) (tag' : Nat → RT) (vt' : Value) (R : List Int) : Prop where
  rm : RM tag' B w0 wr bx bw bk vc vt' K.length C us es Wt (K ++ R)
  cons : ∀ x ∈ K ++ R, -x ∉ K ++ R
  nod : (K ++ R).Nodup
  kok : ∀ x ∈ K ++ R, LitOk n x
  sub : ∀ x ∈ R, x ∈ negs c
  all : ∀ x ∈ c.take k, -x ∈ K ++ R
  tg : TG tag tag' w
  tt : Touch (ST tag bx bw bk) w wr

theorem IS.bad {tag : Nat → RT} {B : Nat} {w0 w : World} {bx bw bk : Nat} {vc : Value} {C : List (List Int)} {us : List Value} {es : List (Int × Value)} {Wt : Int → List Nat} {K : List Int} {n : Nat} {c : List Int} {wr : World} {k : Nat} {tag' : Nat → RT} {vt' : Value} {R : List Int} (h : IS tag B w0 w bx bw bk vc C us es Wt K n c wr k tag' vt' R) {F : List (List Int)} (hT : Top n F C Wt K) {a : Int} (ha : c[k]? = some a) (hk : a ∈ K ++ R) : Bad F (negs c) := by
  have h1 : Der F (negs c) a := by
    rcases List.mem_append.1 hk with q | q
    · exact der_mono (sub_of_subset fun _ h => h) (fun _ h => by simp at h) (hT.snd a q)
    · exact .asm (h.sub a q)
  exact .inl ⟨a, h1, .asm (mem_negs.2 (by rw [Int.neg_neg]; exact List.mem_of_getElem? ha))⟩

theorem setK_cons {n : Nat} {K : List Int} {a : Int} (h1 : ∀ x ∈ K, -x ∉ K) (h2 : K.Nodup) (h3 : ∀ x ∈ K, LitOk n x) (hn : -a ∉ K) (ho : LitOk n a) : (∀ x ∈ setK K a, -x ∉ setK K a) ∧ (setK K a).Nodup ∧ (∀ x ∈ setK K a, LitOk n x) ∧ ∃ R, setK K a = K ++ R ∧ ∀ x ∈ R, x = a := by
  by_cases q : a ∈ K
  · rw [setK_pos hn q]; exact ⟨h1, h2, h3, [], by simp, by simp⟩
  · rw [setK_new hn q]
    refine ⟨fun x hx hm => ?_, List.nodup_append.2 ⟨h2, by simp, fun x hx y hy => ?_⟩, fun x hx => ?_, [a], rfl, by simp⟩
    · rcases List.mem_append.1 hx with q | q <;> rcases List.mem_append.1 hm with p | p
      · exact h1 x q p
      · have e : -x = a := by simpa using p
        exact hn (by rw [← e, Int.neg_neg]; exact q)
      · have e : x = a := by simpa using q
        exact hn (by rw [← e]; exact p)
      · have e1 : x = a := by simpa using q
        have e2 : -x = a := by simpa using p
        have := ho.1
        omega
    · have : y = a := by simpa using hy
      rintro rfl
      exact q (this ▸ hx)
    · rcases List.mem_append.1 hx with q | q
      · exact h3 x q
      · have : x = a := by simpa using q
        rw [this]; exact ho

set_option maxRecDepth 100000 in
set_option maxHeartbeats 8000000 in
theorem rup_imp1 (tag : Nat → RT) (B : Nat) (w0 w : World) (bx bw bk : Nat) (vc vt : Value) (C : List (List Int)) (us : List Value) (es : List (Int × Value)) (Wt : Int → List Nat) (K : List Int) (n : Nat) (F : List (List Int)) (c : List Int) (ac : Option Addr) (cc b1 b2 : Nat)
    (h : RM tag B w0 w bx bw bk vc vt K.length C us es Wt K) (hT : Top n F C Wt K) (hn : n ≤ 1048576) (hC : C.length ≤ 2199023255551) (_hs : SlV w ac (ints c)) (hok : ∀ x ∈ c, LitOk n x) (hcl : c.length ≤ 4294967296) (hF : ClsOk n F)
    (hb1 : Bx tag B bx bw bk w b1 22 (.slice ac c.length cc)) (hb2 : Bx tag B bx bw bk w b2 118 (.pointer (some ⟨bx, 0, none⟩))) (hsc : ∀ w', Touch (ST tag bx bw bk) w w' → SlV w' ac (ints c)) :
    Calls Try.prog 89 #[.pointer (some ⟨b1, 0, none⟩), .pointer (some ⟨b2, 0, none⟩)] w fun e w' => (e = .returned (.tuple #[]) ∧ impR tag B w0 w bx bw bk vc C us K n (¬ Bad F (negs c)) w') ∨ (((e = .panicked [{ v := failV, recovered := false }]) ∨ e = .panicked failP) ∧ impR tag B w0 w bx bw bk vc C us K n (Bad F (negs c)) w') := by
  obtain ⟨Q, hQ⟩ : ∃ Q : Ending → World → Prop, (fun e w' => (e = .returned (.tuple #[]) ∧ impR tag B w0 w bx bw bk vc C us K n (¬ Bad F (negs c)) w') ∨ (((e = .panicked [{ v := failV, recovered := false }]) ∨ e = .panicked failP) ∧ impR tag B w0 w bx bw bk vc C us K n (Bad F (negs c)) w')) = Q := ⟨_, rfl⟩
  rw [hQ]
  have HQ := hid hQ
  have p1 := hb1.cell
  have p2 := hb2.cell
  have HI : Hid (IS tag B w0 w bx bw bk vc C us es Wt K n c w 0 tag vt []) := hid ⟨by rw [List.append_nil]; exact h, by rw [List.append_nil]; exact hT.cons, by rw [List.append_nil]; exact hT.nod, by rw [List.append_nil]; exact hT.kok, by simp, by simp, TG.refl _ _, Touch.refl _ _⟩
  have HT := hid hT
  have HO := hid (And.intro hok (And.intro hn (And.intro hC hF)))
  have HS := hid hsc
  have HB := hid hb2
  have HCP : Hid (CP C C) := hid (CP.refl hT.wi.nodup)
  clear hQ h hT hn hC hok hF hb1 hb2 hsc _hs
  obtain ⟨N, hN⟩ : ∃ N, c.length = N := ⟨_, rfl⟩
  rw [hN] at p1 hcl
  have HNN := hid hN
  clear hN
  go_enter Try.func89, Try.ntmps89
  go_wp2_with fail
  go_loopw [6] (fun s6 wr => ∃ (k : Nat) (tag' : Nat → RT) (vt' : Value) (R : List Int), s6 = .int .i64 k ∧ k ≤ N ∧ Hid (IS tag B w0 w bx bw bk vc C us es Wt K n c wr k tag' vt' R)) (fun s6 _ => (N - (intOf s6)).toNat)
  case atStart => exact ⟨0, tag, vt, [], rfl, by omega, HI⟩
  case round =>
    obtain ⟨k, tag1, vt1, R, rfl, hkN, HJ⟩ := hrel
    have p2 := (HB.out.keep HJ.out.tt HB.out.not HJ.out.tg).cell
    by_cases hlt : k < N
    · have hlt2 : (k : Int) < N := by omega
      obtain ⟨a, ha⟩ : ∃ a, c[k]? = some a := ⟨_, List.getElem?_eq_getElem (by rw [HNN.out]; exact hlt)⟩
      obtain ⟨b, off, hac, hca⟩ := HS.out _ HJ.out.tt k (.int .i64 a) (ints_get ha)
      subst hac
      have hao := HO.out.1 a (List.mem_of_getElem? ha)
      have hwa : IntKind.i64.wrap (-a) = -a := IntWalk.i64_in _ (by unfold LitOk at hao; have := HO.out.2.1; omega)
      have hwk : IntKind.i64.wrap ((k : Int) + 1) = (k : Int) + 1 := IntWalk.i64_in _ (by omega)
      have hlen := lits_le HJ.out.nod HJ.out.cons HJ.out.kok
      have HSET := hid (rup_set tag1 B w0 wr bx bw bk vc vt1 K.length C us es Wt (K ++ R) (-a) HJ.out.rm (by unfold LitOk at hao; have := HO.out.2.1; omega) (by have := HO.out.2.1; omega))
      have HA := hid (And.intro ha hao)
      clear ha hao hlen
      go_wp2_with fail
      by_cases hin : a ∈ K ++ R
      · refine HSET.out.mono ?_
        rintro e w2 ⟨h1, -⟩
        obtain ⟨rfl, rfl⟩ := h1 (by rw [Int.neg_neg]; exact hin)
        have HF : Hid (Q (.panicked [{ v := failV, recovered := false }]) w2) := hid (by
          rw [← HQ.out]
          exact .inr ⟨.inl rfl, tag1, vt1, K.length, C, es, Wt, K ++ R, HJ.out.rm, ⟨R, rfl⟩, HT.out.wi, HT.out.bp, HCP.out, lits_le HJ.out.nod HJ.out.cons HJ.out.kok, HJ.out.tg, HJ.out.tt, HJ.out.bad HT.out HA.out.1 hin⟩)
        clear h1 hin
        go_wp2_with fail
        exact ⟨rfl, HF.out⟩
      · refine HSET.out.mono ?_
        rintro e w2 ⟨-, h1⟩
        obtain ⟨rfl, tag2, vt2, hR, htg, hTs⟩ := h1 (by rw [Int.neg_neg]; exact hin)
        obtain ⟨c1, c2, c3, R2, hK2, hR2⟩ := setK_cons HJ.out.cons HJ.out.nod HJ.out.kok (a := -a) (by rw [Int.neg_neg]; exact hin) (by have := HA.out.2; unfold LitOk at this ⊢; omega)
        have hmk := setK_mem (K := K ++ R) (x := -a) (by rw [Int.neg_neg]; exact hin)
        rw [hK2, List.append_assoc] at c1 c2 c3 hR hmk
        have HJ2 : Hid (IS tag B w0 w bx bw bk vc C us es Wt K n c w2 (k + 1) tag2 vt2 (R ++ R2)) := hid ⟨hR, c1, c2, c3, fun x hx => by
            rcases List.mem_append.1 hx with q | q
            · exact HJ.out.sub x q
            · rw [hR2 x q]; exact mem_negs.2 (by rw [Int.neg_neg]; exact List.mem_of_getElem? HA.out.1), fun x hx => by
            rw [List.take_add_one, HA.out.1] at hx
            rcases List.mem_append.1 hx with q | q
            · rw [← List.append_assoc]; exact List.mem_append_left _ (HJ.out.all x q)
            · have : x = a := by simpa using q
              rw [this]; exact hmk, HJ.out.tg.trans (TG.of_eq htg) HJ.out.tt.size, HJ.out.tt.st HJ.out.tg (hTs.mono fun k _ hk => by
              rcases hk with e | e | e
              · exact .inl e
              · exact .inr (.inr (.inl e))
              · exact .inr (.inr (.inr (by rw [HJ.out.rm.trt k e]; nofun))))⟩
        clear h1 hin hR htg hTs c1 c2 c3 hK2 hR2 hmk hca p2
        go_wp2_with fail
        go_roundw
        case rel => exact ⟨k + 1, _, _, _, by simp, by omega, HJ2⟩
        case measure => simp [intOf]; omega
    · have hke : k = N := by omega
      subst hke
      have hlt2 : ¬ (k : Int) < k := by omega
      have hallc : ∀ x ∈ c, -x ∈ K ++ R := fun x hx => HJ.out.all x (by rw [List.take_of_length_le (by rw [HNN.out]; exact Nat.le_refl _)]; exact hx)
      have hri := HT.out.start (A := negs c) (R := R) rfl HJ.out.cons HJ.out.nod HJ.out.kok HJ.out.sub
      have HRUN := hid (rup_run tag1 B w0 wr bx bw bk vc vt1 K.length C us es Wt (K ++ R) K n F (negs c) HJ.out.rm hri HO.out.2.1 HO.out.2.2.1)
      have HALL := hid hallc
      clear hallc hri hlt hkN
      go_wp2_with fail
      refine HRUN.out.mono ?_
      rintro e w10 ⟨tag8, vt8, dn8, C8, es8, Wt8, K8, hM8, ⟨R8, hpre⟩, hcp, htg, hT8, hor⟩
      have hTT := HJ.out.tt.st HJ.out.tg hT8
      have hGG := HJ.out.tg.trans htg HJ.out.tt.size
      rcases hor with ⟨rfl, hd, hri⟩ | ⟨rfl, hwi, hpb, hbad, hcn, hko⟩
      · subst hd
        have HF : Hid (Q (.returned (.tuple #[])) w10) := hid (by
          rw [← HQ.out]
          refine .inl ⟨rfl, tag8, vt8, _, C8, es8, Wt8, K8, hM8, ⟨R ++ R8, by rw [hpre, List.append_assoc]⟩, hri.wi, hri.bp, hcp, lits_le hri.nod hri.cons hri.kok, hGG, hTT, ?_⟩
          refine (hri.done HO.out.2.2.2 (HT.out.all.cp hcp fun x hx => by rw [hpre, List.append_assoc]; exact List.mem_append_left _ hx) fun x hx => ?_).good
          have := HALL.out (-x) (mem_negs.1 hx)
          rw [Int.neg_neg] at this
          rw [hpre]
          exact List.mem_append_left _ this)
        clear hM8 hcp htg hT8 hTT hGG hri hpre p2
        go_wp2_with fail
        exact ⟨rfl, _, results_none rfl _ _ _, HF.out⟩
      · have HF : Hid (Q (.panicked failP) w10) := hid (by
          rw [← HQ.out]
          exact .inr ⟨.inr rfl, tag8, vt8, _, C8, es8, Wt8, K8, hM8, ⟨R ++ R8, by rw [hpre, List.append_assoc]⟩, hwi, hpb, hcp, lits_le (kes_nodup hM8.kn) hcn hko, hGG, hTT, hbad⟩)
        clear hM8 hcp htg hT8 hTT hGG hwi hpb hbad hpre p2 hcn hko
        go_wp2_with fail
        exact ⟨rfl, HF.out⟩

end Go.Proofs.Ytfofabbnbmieoaa.Ord

/- The contract of rup's implies. -/
namespace Go.Proofs.Ytfofabbnbmieoaa.Ord
open Go.RowKit Go.Conc

attribute [local go_sem ↓] Go.wp_at_zero Go.wp_at_succ
attribute [local go_sem ↓ high] app_mark

/-- What implies leaves. -/
def impliesR (tag : Nat → RT) (B : Nat) (w0 w : World) (bx bw bk : Nat) (vc : Value) (C : List (List Int)) (us : List Value) (K : List Int) (n : Nat) (F : List (List Int)) (c : List Int) (e : Ending) (w' : World) : Prop :=
  e = .returned (.bool (upF F (negs c))) ∧ ∃ (tag' : Nat → RT) (vt' : Value) (C' : List (List Int)) (es' : List (Int × Value)) (Wt' : Int → List Nat), RM tag' B w0 w' bx bw bk vc vt' K.length C' us es' Wt' K ∧ Top n F C' Wt' K ∧ C'.length = C.length ∧ TG tag tag' w ∧ Touch (ST tag bx bw bk) w w'

theorem adel_kes {K R : List Int} {a : Int} (h : (K ++ a :: R).Nodup) : adel (kes (K ++ a :: R)) a = kes (K ++ R) := by
  have h1 : ∀ x ∈ K, x ≠ a := fun x hx e => by
    have := (List.nodup_append.1 h).2.2 x hx a (by simp)
    exact this e
  have h2 : ∀ x ∈ R, x ≠ a := fun x hx e => by
    have := (List.nodup_cons.1 (List.nodup_append.1 h).2.1).1
    exact this (e ▸ hx)
  unfold adel kes
  rw [List.map_append, List.filter_append, List.map_cons, List.filter_cons_of_neg (by simp), List.filter_eq_self.2, List.filter_eq_self.2, List.map_append]
  · intro p hp
    obtain ⟨x, hx, rfl⟩ := List.mem_map.1 hp
    simpa using h2 x hx
  · intro p hp
    obtain ⟨x, hx, rfl⟩ := List.mem_map.1 hp
    simpa using h1 x hx

/-- A row from a place on. -/
theorem own_from {P : Program} {t : TypeId} {B : Nat} {w : World} {v : Value} {K R : List Int} (ht : P.underlying t = some (.slice 3)) (hsz : ∀ wx, (sizeOf 3).run P wx = .ok 1 wx) (h : w.ownsRow B 3 1 v (K ++ R).length (ints (K ++ R))) :
    ∃ A m c, (∀ wx, (Instr.slice t v (some (.int .i64 (K.length : Int))) none none).run P wx = .ok (.slice A m c) wx) ∧ m = R.length ∧ ∀ (j : Nat) (x : Int), R[j]? = some x → ∃ b off, A = some ⟨b, off, none⟩ ∧ v.ownBlock = some b ∧ w.cell? ⟨b, off + j, none⟩ = some (.int .i64 x) := by
  have he : P.elem t = 3 := by simp [Program.elem, ht]
  obtain ⟨a, c, rfl⟩ := own_lenV' h
  obtain ⟨-, q2, q3⟩ := own_cap h
  have hsl := own_slv h
  have hl : (K ++ R).length = K.length + R.length := by simp
  have hrun := fun wx => run_slice_l (P := P) wx t a (K ++ R).length c (by rw [he]; exact ht) .i64 K.length (by omega) (by omega)
  cases a with
  | none =>
    have := (q3 rfl).2
    refine ⟨none, R.length, c - K.length, fun wx => ?_, rfl, fun j x hj => ?_⟩
    · rw [hrun wx, he, hsz]
      have hk : K.length = 0 := by omega
      simp [sliced, Result.andThen]
    · have := (List.getElem?_eq_some_iff.1 hj).1
      omega
  | some ad =>
    by_cases hc : c = K.length
    · have hR : R = [] := List.eq_nil_of_length_eq_zero (by omega)
      subst hR
      refine ⟨some ad, 0, 0, fun wx => ?_, rfl, fun j x hj => by simp at hj⟩
      rw [hrun wx, he, hsz]
      simp [sliced, Result.andThen, hc]
    · refine ⟨some (ad.add (K.length * 1)), R.length, c - K.length, fun wx => ?_, rfl, fun j x hj => ?_⟩
      · rw [hrun wx, he, hsz]
        simp [sliced, Result.andThen, hc]
      · obtain ⟨b, off, e, hcell⟩ := hsl (K.length + j) (.int .i64 x) (ints_get (by rw [List.getElem?_append_right (by omega)]; simpa using hj))
        injection e with e
        subst e
        refine ⟨b, off + K.length, by simp [Addr.add], ?_, by rw [Nat.add_assoc]; exact hcell⟩
        rcases h.2 with ⟨h0, _⟩ | ⟨g', cap, cur, e1, e2, e3, e4, e5, e6, e7⟩
        · cases h0
        · injection e1 with a1 a2 a3
          injection a1 with a1
          injection a1 with a1
          rw [a1]; rfl

theorem own_len (a : Option Addr) (n m c : Nat) : (Value.slice a n c).ownBlock = (Value.slice a m c).ownBlock := by cases a <;> rfl

theorem CP.back {C C' : List (List Int)} (h : CP C C') {d : List Int} (hd : d ∈ C') : ∃ c ∈ C, Same c d := by
  obtain ⟨i, hi⟩ := List.mem_iff_getElem?.1 hd
  have hil := (List.getElem?_eq_some_iff.1 hi).1
  have hic : i < C.length := by rw [← h.1]; exact hil
  obtain ⟨e, he, hs⟩ := h.2 i C[i] (List.getElem?_eq_getElem hic)
  rw [hi] at he
  injection he with he
  subst he
  exact ⟨C[i], List.getElem_mem _, hs⟩

/-- What is undone behind implies' function. -/
structure IK (tag : Nat → RT) (B : Nat) (w0 w : World) (bx bw bk : Nat) (vc : Value) (C : List (List Int)) (us : List Value) (K : List Int) (n : Nat) (w5 : World) (tag' : Nat → RT) (vt' : Value) (dn' : Nat) (C' : List (List Int)) (es' : List (Int × Value)) (Wt' : Int → List Nat) (R : List Int) : Prop where
  rm : RM tag' B w0 w5 bx bw bk vc vt' dn' C' us es' Wt' (K ++ R)
  wi : WI n C' Wt'
  bp : PrB C' K
  cp : CP C C'
  tg : TG tag tag' w
  tt : Touch (ST tag bx bw bk) w w5
  kl : (K ++ R).length ≤ n

set_option maxRecDepth 100000 in
set_option maxHeartbeats 8000000 in
theorem rup_implies (tag : Nat → RT) (B : Nat) (w0 w : World) (bx bw bk : Nat) (vc vt : Value) (C : List (List Int)) (us : List Value) (es : List (Int × Value)) (Wt : Int → List Nat) (K : List Int) (n : Nat) (F : List (List Int)) (c : List Int) (ac : Option Addr) (mc cc : Nat)
    (h : RM tag B w0 w bx bw bk vc vt K.length C us es Wt K) (hT : Top n F C Wt K) (hn : n ≤ 1048576) (hC : C.length ≤ 2199023255551) (hmc : mc = c.length) (hok : ∀ x ∈ c, LitOk n x) (hcl : c.length ≤ 4294967296) (hF : ClsOk n F) (hsc : ∀ w', Touch (ST tag bx bw bk) w w' → SlV w' ac (ints c)) :
    Calls Try.prog 76 #[.pointer (some ⟨bx, 0, none⟩), .slice ac mc cc] w (impliesR tag B w0 w bx bw bk vc C us K n F c) := by
  subst hmc
  have hmf : ∀ (fn : Fn) (first cap : Array Value) (w : World), (Instr.makeFunc fn first cap).run Try.prog w = .ok (.func fn first cap) w := fun _ _ _ _ => rfl
  obtain ⟨Q, hQ⟩ : ∃ Q : Ending → World → Prop, impliesR tag B w0 w bx bw bk vc C us K n F c = Q := ⟨_, rfl⟩
  rw [hQ]
  have HQ := hid hQ
  clear hQ
  obtain ⟨b2, hb2⟩ : ∃ b, w.heap.size = b := ⟨_, rfl⟩
  obtain ⟨wb, hwb⟩ : ∃ x, (w.alloc (.cells #[.pointer (some ⟨bx, 0, none⟩)] 118)).alloc (.cells #[.slice ac c.length cc] 22) = x := ⟨_, rfl⟩
  have hB1 : Below w.heap.size w wb := by rw [← hwb]; exact below_al (box_below _ _) (by simp only [size_al]; omega) _
  have hsz : wb.heap.size = b2 + 1 + 1 := by rw [← hwb]; simp only [size_al]; omega
  have hBI : Below w.heap.size w (wb.alloc (.cells #[.bool false] 4)) := below_al hB1 (by omega) _
  have hc2 : (wb.alloc (.cells #[.bool false] 4)).heap[b2]? = some (.cells #[.pointer (some ⟨bx, 0, none⟩)] 118 (0, 0)) := (Below.heap_alloc _ _ _ (by omega)).trans (by rw [← hwb, ← hb2]; exact blk_old2 _ _ _)
  have hc1 : (wb.alloc (.cells #[.bool false] 4)).heap[b2 + 1]? = some (.cells #[.slice ac c.length cc] 22 (0, 0)) := (Below.heap_alloc _ _ _ (by omega)).trans (by rw [← hwb, ← hb2]; exact blk_new2 _ _ _)
  have hcI : (wb.alloc (.cells #[.bool false] 4)).heap[wb.heap.size]? = some (.cells #[.bool false] 4 (0, 0)) := heap_alloc_new _ _
  obtain ⟨hMI, hX2⟩ := h.var hBI (Nat.le_of_eq hb2) hc2
  have hX1 := (h.var hBI (by omega) hc1).2
  have hXI := (h.var hBI (by omega) hcI).2
  have hgI := tg_if tag w
  obtain ⟨tagI, htI⟩ : ∃ t, (fun g => if g < w.heap.size then tag g else RT.oth) = t := ⟨_, rfl⟩
  rw [htI] at hMI hX2 hX1 hXI hgI
  have hTI : Touch (ST tag bx bw bk) w (wb.alloc (.cells #[.bool false] 4)) := Below.touch hBI
  have hscI : ∀ w', Touch (ST tagI bx bw bk) (wb.alloc (.cells #[.bool false] 4)) w' → SlV w' ac (ints c) := fun w' hw' => hsc w' (hTI.st hgI hw')
  have HIM := hid (rup_imp1 tagI B w0 _ bx bw bk vc vt C us es Wt K n F c ac cc (b2 + 1) b2 hMI hT hn hC (hscI _ (Touch.refl _ _)) hok hcl hF hX1 hX2 hscI)
  have HFL : Hid (Calls Try.prog 77 #[.func (.func 89) #[] #[.pointer (some ⟨b2 + 1, 0, none⟩), .pointer (some ⟨b2, 0, none⟩)]] wb fun e w5 => e = .returned (.bool (upF F (negs c))) ∧ ∃ (tag' : Nat → RT) (vt' : Value) (dn' : Nat) (C' : List (List Int)) (es' : List (Int × Value)) (Wt' : Int → List Nat) (R : List Int), IK tag B w0 w bx bw bk vc C us K n w5 tag' vt' dn' C' es' Wt' R ∧ Bx tag' B bx bw bk w5 b2 118 (.pointer (some ⟨bx, 0, none⟩))) := hid (by
    have key : ∀ (p : Prop) (w1 w5 : World), impR tagI B w0 (wb.alloc (.cells #[.bool false] 4)) bx bw bk vc C us K n p w1 → Touch (fun k => k = wb.heap.size) w1 w5 → ∃ (tag' : Nat → RT) (vt' : Value) (dn' : Nat) (C' : List (List Int)) (es' : List (Int × Value)) (Wt' : Int → List Nat) (R : List Int), IK tag B w0 w bx bw bk vc C us K n w5 tag' vt' dn' C' es' Wt' R ∧ Bx tag' B bx bw bk w5 b2 118 (.pointer (some ⟨bx, 0, none⟩)) := fun p w1 w5 hh hT5 => by
      obtain ⟨tag', vt', dn', C', es', Wt', K', h1, ⟨R, rfl⟩, h3, h4, h5, h55, h6, h7, -⟩ := hh
      have hXI' := hXI.keep h7 hXI.not h6
      have hTT := hTI.st hgI h7
      refine ⟨tag', vt', dn', C', es', Wt', R, ⟨h1.oth (hT5.mono fun k _ e => by rw [e]; exact ⟨hXI'.le, hXI'.nx, hXI'.nw, hXI'.nk, .inl hXI'.tg⟩) fun _ _ => rfl, h3, h4, h5, hgI.trans h6 hTI.size, hTT.trans' hT5 (fun k hk e => by omega), h55⟩, ((hX2.keep h7 hX2.not h6).keep hT5 (by omega) (TG.refl _ _))⟩
    refine (fails_impl (b2 + 1) b2 wb (impR tagI B w0 (wb.alloc (.cells #[.bool false] 4)) bx bw bk vc C us K n (¬ Bad F (negs c))) (impR tagI B w0 (wb.alloc (.cells #[.bool false] 4)) bx bw bk vc C us K n (Bad F (negs c))) ?_).mono ?_
    · refine HIM.out.mono fun e w1 hh => ?_
      have hb : ∀ p, impR tagI B w0 (wb.alloc (.cells #[.bool false] 4)) bx bw bk vc C us K n p w1 → w1.heap[wb.heap.size]? = some (.cells #[.bool false] 4 (0, 0)) := fun p ⟨tag', vt', dn', C', es', Wt', K', h1, h2, h3, h4, h5, h55, h6, h7, h8⟩ => (hXI.keep h7 hXI.not h6).blk
      rcases hh with ⟨he, hr⟩ | ⟨he, hr⟩
      · exact ⟨hb _ hr, .inl ⟨he, hr⟩⟩
      · exact ⟨hb _ hr, .inr ⟨he, hr⟩⟩
    · intro e w5 hh
      rcases hh with ⟨rfl, w1, hr, rfl⟩ | ⟨rfl, w1, hr, hT5⟩
      · have hp : ¬ Bad F (negs c) := by obtain ⟨tag', vt', dn', C', es', Wt', K', h1, h2, h3, h4, h5, h55, h6, h7, h8⟩ := hr; exact h8
        exact ⟨by rw [upF_false.2 hp], key _ _ _ hr ((Touch.refl (fun k => k = wb.heap.size) w1).setCell (p := ⟨wb.heap.size, 0, none⟩) rfl _)⟩
      · have hp : Bad F (negs c) := by obtain ⟨tag', vt', dn', C', es', Wt', K', h1, h2, h3, h4, h5, h55, h6, h7, h8⟩ := hr; exact h8
        exact ⟨by rw [upF_true.2 hp], key _ _ _ hr hT5⟩)
  have hMb := h.grow hB1 (tag' := tag) fun _ _ => rfl
  obtain ⟨q0, q1, q2, q3, q4⟩ := hMb.cells
  obtain ⟨at0, ct0, hvt⟩ := own_lenV' h.tr
  have p2 : wb.cell? ⟨b2, 0, none⟩ = some (.pointer (some ⟨bx, 0, none⟩)) := fit_cell (vs := [.pointer (some ⟨bx, 0, none⟩)]) (by rw [← hwb, ← hb2]; exact blk_old2 _ _ _) 0
  have HT := hid hT
  have HSZ := hid hsz
  obtain ⟨KL, hKL⟩ : ∃ m, K.length = m := ⟨_, rfl⟩
  rw [hKL] at hvt
  subst hvt
  have HKL := hid hKL
  have hKLb : KL ≤ 1048576 := by rw [← hKL]; have := lits_le hT.nod hT.cons hT.kok; omega
  have HWB := hid hwb
  clear h hT hC hok hcl hF hsc hB1 hsz hBI hc2 hc1 hcI hMI hX2 hX1 hXI hgI htI hTI hscI HIM hMb q0 q1 q2 q4 hKL
  go_enter Try.func76, Try.ntmps76
  go_wp2_with fail
  clear q3 p2 hwb
  refine HFL.out.mono ?_
  rintro e w5 ⟨rfl, tag5, vt5, dn5, C5, es5, Wt5, R, hK, hX⟩
  obtain ⟨A, m, cA, hsl, hm, hce⟩ := own_from (P := Try.prog) Try.underlying22 sz_int hK.rm.tr
  obtain ⟨a5, c5, hv5⟩ := own_lenV' hK.rm.tr
  obtain ⟨L5, hL5⟩ : ∃ m, (K ++ R).length = m := ⟨_, rfl⟩
  rw [hL5] at hv5
  subst hv5
  rw [HKL.out] at hsl
  obtain ⟨bres, hbres⟩ : ∃ b, upF F (negs c) = b := ⟨_, rfl⟩
  rw [hbres]
  have HBR := hid hbres
  have HK := hid hK
  have HX := hid hX
  have HM := hid (And.intro hm hL5)
  have HCE := hid hce
  have hnb0 := hn
  have hmb : m ≤ 1048576 := by
    have h1 := hK.kl
    have h2 : (K ++ R).length = K.length + R.length := by simp
    omega
  have q3 := hK.rm.cells.2.2.2.1
  have p2 := hX.cell
  have HI0 : Hid (IM w5 bk (kes (K ++ R.drop 0)) ∧ Touch (fun k => k = bk) w5 w5) := hid ⟨by rw [List.drop_zero]; exact hK.rm.kn, Touch.refl _ _⟩
  clear hbres hK hX hm hL5 hce hnb0 hn
  go_wp2_with fail
  clear q3 p2 hsl
  go_loopw [23] (fun s23 wr => ∃ j : Nat, s23 = .int .i64 j ∧ j ≤ m ∧ Hid (IM wr bk (kes (K ++ R.drop j)) ∧ Touch (fun k => k = bk) w5 wr)) (fun s23 _ => (m - (intOf s23)).toNat)
  case atStart => exact ⟨0, rfl, by omega, HI0⟩
  case round =>
    obtain ⟨j, rfl, hjm, HJ⟩ := hrel
    have p2 := (HX.out.keep HJ.out.2 HX.out.nk (TG.refl _ _)).cell
    by_cases hlt : j < m
    · have hlt2 : (j : Int) < m := by omega
      obtain ⟨a, ha⟩ : ∃ a, R[j]? = some a := ⟨_, List.getElem?_eq_getElem (by rw [← HM.out.1]; exact hlt)⟩
      obtain ⟨b, off, hA, hob, hca⟩ := HCE.out j a ha
      subst hA
      have hnb : b ≠ bk := fun e => HK.out.rm.apart.2.2.2.2.2.2.2.1 (by rw [← e]; exact hob)
      have hca2 := HJ.out.2.cell hca hnb
      have q2 := HJ.out.2.cell HK.out.rm.cells.2.2.1 (fun e => HK.out.rm.apart.2.1 e)
      have hwj : IntKind.i64.wrap ((j : Int) + 1) = (j : Int) + 1 := IntWalk.i64_in _ (by omega)
      obtain ⟨w6, hdel, him, ht6, hz6⟩ := im_delete (P := Try.prog) Try.underlying100 Try.underlying3 HJ.out.1 a 0
      have hnod : (K ++ a :: R.drop (j + 1)).Nodup := by
        have h1 := kes_nodup HJ.out.1
        rw [List.drop_eq_getElem_cons (by rw [← HM.out.1]; exact hlt)] at h1
        have h2 : R[j]'(by rw [← HM.out.1]; exact hlt) = a := by
          rw [List.getElem?_eq_getElem (by rw [← HM.out.1]; exact hlt)] at ha
          injection ha
        rw [h2] at h1
        exact h1
      have hdr : R.drop j = a :: R.drop (j + 1) := by
        rw [List.drop_eq_getElem_cons (by rw [← HM.out.1]; exact hlt)]
        congr 1
        rw [List.getElem?_eq_getElem (by rw [← HM.out.1]; exact hlt)] at ha
        injection ha
      rw [hdr, adel_kes hnod] at him
      have HJ2 := hid (And.intro him (HJ.out.2.trans ht6))
      clear him ht6 hz6 hnod hdr ha hca hob hnb
      go_wp2_with fail
      go_roundw
      case rel => exact ⟨j + 1, by simp, by omega, HJ2⟩
      case measure => simp [intOf]; omega
    · have hje : j = m := by omega
      subst hje
      have hlt2 : ¬ (j : Int) < j := by omega
      have hbx := (HJ.out.2.block bx (Array.getElem?_eq_some_iff.1 HK.out.rm.blk).1 HK.out.rm.apart.2.1).trans HK.out.rm.blk
      have q3 : wr.cell? ⟨bx, 3, none⟩ = some (.slice a5 L5 c5) := fit_cell (vs := [vc, .map (some bw), .map (some bk), .slice a5 L5 c5, .int .i64 dn5]) hbx 3
      have f3 : wr.frozen? ⟨bx, 3, none⟩ = false := frozen_of_row _ _ _ _ _ hbx
      have q4 : wr.cell? ⟨bx, 4, none⟩ = some (.int .i64 dn5) := fit_cell (vs := [vc, .map (some bw), .map (some bk), .slice a5 L5 c5, .int .i64 dn5]) hbx 4
      have f4 : wr.frozen? ⟨bx, 4, none⟩ = false := frozen_of_row _ _ _ _ _ hbx
      have htr := HK.out.rm.tr
      rw [HM.out.2] at htr
      obtain ⟨-, hcap, hcn⟩ := own_cap htr
      have hKL5 : KL ≤ L5 := by rw [← HM.out.2, ← HKL.out]; simp
      have hst := slice_toG (P := Try.prog) (t := 22) (a := a5) (n := L5) (c := c5) (k := (KL : Int)) (m := KL) rfl Try.underlying22 sz_int (by omega)
      have HTR : Hid (w5.ownsRow B 3 1 (.slice a5 KL c5) KL (ints K)) := hid (by
        have h1 := own_take htr hKL5 (fun e => ⟨by have := (hcn e).2; omega, (hcn e).1⟩)
        rw [← HKL.out] at h1 ⊢
        have h2 : (ints (K ++ R)).take K.length = ints K := by rw [ints_append, List.take_left' (by simp [ints])]
        rw [h2] at h1
        exact h1)
      have HBX := hid hbx
      have hnt : bx ≠ bk := HK.out.rm.apart.2.1
      clear htr hcap hcn hbx hlt hjm
      go_wp2_with fail
      have hn2 : b2 ≠ bx := HX.out.nx
      have hn3 : bx ≠ b2 := fun e => HX.out.nx e.symm
      have HF : Hid (∀ nd, Q (.returned (.bool bres)) (((wr.setCell ⟨bx, 3, none⟩ (.slice a5 KL c5)).setCell ⟨bx, 4, none⟩ (.int .i64 KL)).drewN nd)) := hid fun nd => by
        rw [← HQ.out, ← HBR.out]
        have e1 := setCell3 (y := .slice a5 KL c5) HBX.out
        have e2 := setCell4 (y := .int .i64 KL) e1
        have hT5 : Touch (fun k => k = bx ∨ k = bk ∨ (Value.slice a5 L5 c5).ownBlock = some k) w5 ((wr.setCell ⟨bx, 3, none⟩ (.slice a5 KL c5)).setCell ⟨bx, 4, none⟩ (.int .i64 KL)) := ((HJ.out.2.mono fun k _ e => (.inr (.inl e) : k = bx ∨ k = bk ∨ (Value.slice a5 L5 c5).ownBlock = some k)).setCell (p := ⟨bx, 3, none⟩) (.inl rfl) _).setCell (p := ⟨bx, 4, none⟩) (.inl rfl) _
        have hkk : ((wr.setCell ⟨bx, 3, none⟩ (.slice a5 KL c5)).setCell ⟨bx, 4, none⟩ (.int .i64 KL)).heap[bk]? = wr.heap[bk]? := (heap_setCell_other _ ⟨bx, 4, none⟩ bk _ (fun e => hnt e.symm)).trans (heap_setCell_other _ ⟨bx, 3, none⟩ bk _ (fun e => hnt e.symm))
        have him := HJ.out.1
        rw [List.drop_eq_nil_of_le (by rw [HM.out.1]; exact Nat.le_refl _), List.append_nil] at him
        have hTk : Touch (fun k => k = bx ∨ k = bk) w5 ((wr.setCell ⟨bx, 3, none⟩ (.slice a5 KL c5)).setCell ⟨bx, 4, none⟩ (.int .i64 KL)) := ((HJ.out.2.mono fun k _ e => (.inr e : k = bx ∨ k = bk)).setCell (p := ⟨bx, 3, none⟩) (.inl rfl) _).setCell (p := ⟨bx, 4, none⟩) (.inl rfl) _
        have hM : RM tag5 B w0 ((wr.setCell ⟨bx, 3, none⟩ (.slice a5 KL c5)).setCell ⟨bx, 4, none⟩ (.int .i64 KL)) bx bw bk vc (.slice a5 KL c5) KL C5 us es5 Wt5 K := HK.out.rm.known hT5 (fun _ _ => rfl) e2 (by
          rw [HKL.out]
          refine own_frame0 HTR.out fun g hg => hTk.block g (HTR.out.lt g hg).2 ?_
          rintro (e | e)
          · exact HK.out.rm.apart.2.2.2.2.2.1 (by rw [← e, own_len a5 L5 KL c5]; exact hg)
          · exact HK.out.rm.apart.2.2.2.2.2.2.2.1 (by rw [← e, own_len a5 L5 KL c5]; exact hg)) (fun g hg => HK.out.rm.trt g (by rw [own_len a5 L5 KL c5]; exact hg)) (him.frame hkk)
        refine ⟨rfl, tag5, .slice a5 KL c5, C5, es5, Wt5, ?_, ?_, HK.out.cp.1, HK.out.tg, (HK.out.tt.st HK.out.tg (hTk.mono fun k _ hk => by
          rcases hk with e | e
          · exact .inl e
          · exact .inr (.inr (.inl e)))).drewN nd⟩
        · rw [HKL.out]
          exact hM.grow (below_dr (Below.refl _ _) _) fun _ _ => rfl
        · refine ⟨HK.out.wi, HK.out.bp, HT.out.cons, HT.out.nod, HT.out.kok, HT.out.snd, fun d hd => ?_, HT.out.all.cp HK.out.cp fun x hx => hx⟩
          obtain ⟨c0, hc0, hs⟩ := HK.out.cp.back hd
          obtain ⟨f, hf, hl⟩ := HT.out.sub c0 hc0
          exact ⟨f, hf, fun l => (hs.2.2 l).trans (hl l)⟩
      go_region
      all_goals
        go_wp2_with fail
        exact HF.out _

end Go.Proofs.Ytfofabbnbmieoaa.Ord

/- What holds between the clauses in rup's Check, and its calls of add and implies. -/
namespace Go.Proofs.Ytfofabbnbmieoaa.Ord
open Go.RowKit Go.Conc

attribute [local go_sem ↓] Go.wp_at_zero Go.wp_at_succ
attribute [local go_sem ↓ high] app_mark

def noT : Nat → RT := fun _ => .oth

/-- Between two clauses: G are added; over: they fail by themselves. -/
structure CK (w0 wS : World) (bx bw bk n : Nat) (G : List (List Int)) (wr : World) (over : Bool) : Prop where
  t : Touch (ST noT bx bw bk) wS wr
  o : (over = true ∧ Bad G []) ∨ (over = false ∧ ∃ (tag : Nat → RT) (vc vt : Value) (C : List (List Int)) (us : List Value) (es : List (Int × Value)) (Wt : Int → List Nat) (K : List Int), RM tag w0.heap.size w0 wr bx bw bk vc vt K.length C us es Wt K ∧ Top n G C Wt K ∧ TG noT tag wS ∧ C.length ≤ G.length)

/-- What stands still around Check's loops. -/
structure CE (w0 wS : World) (bx bw bk b1 : Nat) : Prop where
  bel : Below w0.heap.size w0 wS
  ge : w0.heap.size ≤ bx ∧ w0.heap.size ≤ bw ∧ w0.heap.size ≤ bk
  blk : wS.heap[b1]? = some (.cells #[.pointer (some ⟨bx, 0, none⟩)] 118 (0, 0))
  ne : b1 ≠ bx ∧ b1 ≠ bw ∧ b1 ≠ bk
  b1B : w0.heap.size ≤ b1

section
variable {w0 wS wr : World} {bx bw bk b1 n : Nat} {G : List (List Int)} {over : Bool}

theorem st_no {k : Nat} (h : ST noT bx bw bk k) : k = bx ∨ k = bw ∨ k = bk := by
  rcases h with e | e | e | e
  · exact .inl e
  · exact .inr (.inl e)
  · exact .inr (.inr e)
  · exact absurd rfl e

theorem CE.below (h : CE w0 wS bx bw bk b1) {w' : World} (hT : Touch (ST noT bx bw bk) wS w') : Below w0.heap.size w0 w' :=
  h.bel.trans (hT.below h.bel.size fun k hk => by
    rcases st_no hk with e | e | e
    · rw [e]; exact h.ge.1
    · rw [e]; exact h.ge.2.1
    · rw [e]; exact h.ge.2.2)

theorem CE.x (h : CE w0 wS bx bw bk b1) {w' : World} (hT : Touch (ST noT bx bw bk) wS w') : w'.heap[b1]? = some (.cells #[.pointer (some ⟨bx, 0, none⟩)] 118 (0, 0)) :=
  (hT.block b1 (Array.getElem?_eq_some_iff.1 h.blk).1 fun hk => by
    rcases st_no hk with e | e | e
    · exact h.ne.1 e
    · exact h.ne.2.1 e
    · exact h.ne.2.2 e).trans h.blk

theorem CK.al (h : CK w0 wS bx bw bk n G wr over) (o : Obj) : CK w0 wS bx bw bk n G (wr.alloc o) over := by
  refine ⟨h.t.alloc o, ?_⟩
  rcases h.o with q | ⟨q, tag, vc, vt, C, us, es, Wt, K, h1, h2, h3, h4⟩
  · exact .inl q
  · exact .inr ⟨q, tag, vc, vt, C, us, es, Wt, K, h1.grow (box_below _ _) fun _ _ => rfl, h2, h3, h4⟩

theorem CK.dr (h : CK w0 wS bx bw bk n G wr over) (m : Nat) : CK w0 wS bx bw bk n G (wr.drewN m) over := by
  refine ⟨h.t.drewN m, ?_⟩
  rcases h.o with q | ⟨q, tag, vc, vt, C, us, es, Wt, K, h1, h2, h3, h4⟩
  · exact .inl q
  · exact .inr ⟨q, tag, vc, vt, C, us, es, Wt, K, h1.grow (below_dr (Below.refl _ _) _) fun _ _ => rfl, h2, h3, h4⟩

/-- A clause more, where all fails already. -/
theorem CK.more (h : CK w0 wS bx bw bk n G wr true) (c : List Int) : CK w0 wS bx bw bk n (G ++ [c]) wr true := by
  refine ⟨h.t, .inl ⟨rfl, ?_⟩⟩
  rcases h.o with ⟨-, q⟩ | ⟨q, -⟩
  · exact bad_mono (sub_of_subset fun _ hd => List.mem_append_left _ hd) (fun _ ha => ha) q
  · cases q

theorem CK.imp (h : CK w0 wS bx bw bk n G wr true) (c : List Int) : upF G (negs c) = true := by
  rcases h.o with ⟨-, q⟩ | ⟨q, -⟩
  · exact upF_true.2 (bad_mono (sub_of_subset fun _ hd => hd) (fun a ha => by cases ha) q)
  · cases q

end

theorem prb_nil' (C : List (List Int)) : PrB C [] := fun i c x y _ _ _ => ⟨fun q => by simp at q, fun q => by simp at q⟩

/-- implies, between two clauses, where a variable was made. -/
theorem ck_implies {w0 wS wr : World} {bx bw bk b1 n : Nat} {G : List (List Int)} (hE : CE w0 wS bx bw bk b1) (h : CK w0 wS bx bw bk n G wr false) (v : Value) (t : TypeId) {c : List Int} {ac : Option Addr} {mc cc : Nat} (hn : n ≤ 1048576) (hG : G.length ≤ 2199023255551) (hmc : mc = c.length) (hok : ∀ x ∈ c, LitOk n x) (hcl : c.length ≤ 4294967296) (hF : ClsOk n G) (hs : SlV w0 ac (ints c)) :
    Calls Try.prog 76 #[.pointer (some ⟨bx, 0, none⟩), .slice ac mc cc] (wr.alloc (.cells #[v] t)) fun e w' => e = .returned (.bool (upF G (negs c))) ∧ CK w0 wS bx bw bk n G w' false ∧ w'.heap[wr.heap.size]? = some (.cells #[v] t (0, 0)) := by
  rcases h.o with ⟨q, -⟩ | ⟨-, tag, vc, vt, C, us, es, Wt, K, h1, h2, h3, h4⟩
  · cases q
  · obtain ⟨hM, hX⟩ := h1.var (box_below wr (.cells #[v] t)) (Nat.le_refl _) (heap_alloc_new _ _)
    have hg2 := tg_if tag wr
    obtain ⟨tag2, ht2⟩ : ∃ t, (fun g => if g < wr.heap.size then tag g else RT.oth) = t := ⟨_, rfl⟩
    rw [ht2] at hM hX hg2
    have hT0 : Touch (ST noT bx bw bk) wS (wr.alloc (.cells #[v] t)) := h.t.alloc _
    have h32 := h3.trans hg2 h.t.size
    have hT := fun (w' : World) (hw : Touch (ST tag2 bx bw bk) (wr.alloc (.cells #[v] t)) w') => hT0.st h32 hw
    refine (rup_implies tag2 w0.heap.size w0 _ bx bw bk vc vt C us es Wt K n G c ac mc cc hM h2 hn (by omega) hmc hok hcl hF fun w' hw => hs.below (hE.below (hT w' hw))).mono ?_
    rintro e w' ⟨rfl, tag', vt', C', es', Wt', g1, g2, g3, g4, g5⟩
    exact ⟨rfl, ⟨hT w' g5, .inr ⟨rfl, tag', vc, vt', C', us, es', Wt', K, g1, g2, h32.trans g4 hT0.size, by omega⟩⟩, (hX.keep g5 hX.not g4).blk⟩

set_option maxRecDepth 100000 in
set_option maxHeartbeats 4000000 in
theorem check_add1 (b1 b2 : Nat) (v : Value) (bx : Nat) (w : World) (R : Ending → World → Prop) (h1 : w.cell? ⟨b1, 0, none⟩ = some (.pointer (some ⟨bx, 0, none⟩))) (h2 : w.cell? ⟨b2, 0, none⟩ = some v)
    (hR : ∀ e w', R e w' → e = .returned (.tuple #[]) ∨ e = .panicked [{ v := failV, recovered := false }] ∨ e = .panicked failP)
    (h : Calls Try.prog 79 #[.pointer (some ⟨bx, 0, none⟩), v] w R) :
    Calls Try.prog 78 #[.pointer (some ⟨b1, 0, none⟩), .pointer (some ⟨b2, 0, none⟩)] w R := by
  have HR := hid hR
  have HH := hid h
  clear hR h
  go_enter Try.func78, Try.ntmps78
  go_wp2_with fail
  refine HH.out.mono ?_
  intro e w2 hr
  have HR2 := hid hr
  rcases HR.out e w2 hr with rfl | rfl | rfl
  · clear hr
    go_wp2_with fail
    exact ⟨rfl, _, results_none rfl _ _ _, HR2.out⟩
  · clear hr
    go_wp2_with fail
    exact ⟨rfl, HR2.out⟩
  · clear hr
    go_wp2_with fail
    exact ⟨rfl, HR2.out⟩

/-- A clause is added, between two clauses. -/
theorem ck_add1 {w0 wS wr : World} {bx bw bk b1 b2 n : Nat} {G : List (List Int)} (hE : CE w0 wS bx bw bk b1) (h : CK w0 wS bx bw bk n G wr false) {c : List Int} {ac : Option Addr} {cc : Nat} (hn : n ≤ 1048576) (hG : G.length ≤ 2199023255550) (hcc : c.length ≤ cc) (hc0 : ac = none → cc = 0) (hok : ∀ x ∈ c, LitOk n x) (hcl : c.length ≤ 4294967296) (hs : SlV w0 ac (ints c))
    (hb2 : wr.heap[b2]? = some (.cells #[.slice ac c.length cc] 22 (0, 0))) :
    Calls Try.prog 77 #[.func (.func 78) #[] #[.pointer (some ⟨b1, 0, none⟩), .pointer (some ⟨b2, 0, none⟩)]] wr fun e w' => ∃ b, e = .returned (.bool b) ∧ CK w0 wS bx bw bk n (G ++ [c]) w' b := by
  rcases h.o with ⟨q, -⟩ | ⟨-, tag, vc, vt, C, us, es, Wt, K, h1, h2, h3, h4⟩
  · cases q
  · have hBI : Below wr.heap.size wr (wr.alloc (.cells #[.bool false] 4)) := box_below _ _
    have hcI : (wr.alloc (.cells #[.bool false] 4)).heap[wr.heap.size]? = some (.cells #[.bool false] 4 (0, 0)) := heap_alloc_new _ _
    obtain ⟨hMI, hXI⟩ := h1.var hBI (Nat.le_refl _) hcI
    have hgI := tg_if tag wr
    obtain ⟨tagI, htI⟩ : ∃ t, (fun g => if g < wr.heap.size then tag g else RT.oth) = t := ⟨_, rfl⟩
    rw [htI] at hMI hXI hgI
    have hTI : Touch (ST noT bx bw bk) wS (wr.alloc (.cells #[.bool false] 4)) := h.t.alloc _
    have hGI : TG noT tagI wS := h3.trans hgI h.t.size
    have hadd : Calls Try.prog 79 #[.pointer (some ⟨bx, 0, none⟩), .slice ac c.length cc] (wr.alloc (.cells #[.bool false] 4)) (addR tagI w0.heap.size w0 (wr.alloc (.cells #[.bool false] 4)) bx bw bk C n G c) := by
      cases ht : adjB (normL c) with
      | true => exact rup_addT tagI w0.heap.size w0 _ bx bw bk vc vt C us es Wt K n G c ac c.length cc hMI h2 rfl hcc hc0 (hs.below (hE.below hTI)) (fun x hx => by have := hok x hx; unfold LitOk at this; unfold I64; omega) hcl ht
      | false => exact rup_addF tagI w0.heap.size w0 _ bx bw bk vc vt C us es Wt K n G c ac c.length cc hMI h2 hn (by omega) rfl hcc hc0 (hs.below (hE.below hTI)) hok hcl ht
    have hdo := check_add1 b1 b2 (.slice ac c.length cc) bx (wr.alloc (.cells #[.bool false] 4)) _ (fit_cell (vs := [.pointer (some ⟨bx, 0, none⟩)]) (hE.x hTI) 0) (fit_cell (vs := [.slice ac c.length cc]) ((Below.heap_alloc _ _ _ (Array.getElem?_eq_some_iff.1 hb2).1).trans hb2) 0) (fun e w' hr => by
      rcases hr with ⟨e1, -⟩ | ⟨e1, -⟩
      · exact .inl e1
      · exact .inr e1) hadd
    have key : ∀ w1 w', Touch (ST tagI bx bw bk) (wr.alloc (.cells #[.bool false] 4)) w1 → Touch (fun k => k = wr.heap.size) w1 w' → Touch (ST noT bx bw bk) wS w' := fun w1 w' g1 g2 => (hTI.st hGI g1).trans' g2 fun k hk e => by have := h.t.size; omega
    refine (fails_add1 b1 b2 wr (fun w1 => addR tagI w0.heap.size w0 (wr.alloc (.cells #[.bool false] 4)) bx bw bk C n G c (.returned (.tuple #[])) w1) (fun w1 => Bad (G ++ [c]) [] ∧ Touch (ST tagI bx bw bk) (wr.alloc (.cells #[.bool false] 4)) w1) (hdo.mono fun e w1 hr => ?_)).mono ?_
    · rcases hr with ⟨e1, hr⟩ | ⟨e1, hb, hT⟩
      · have hr2 := hr
        obtain ⟨tag', vc', vt', C', us', es', Wt', K', g1, g2, g3, g4, g5⟩ := hr
        exact ⟨(hXI.keep g4 hXI.not g3).blk, .inl ⟨e1, .inl ⟨rfl, hr2⟩⟩⟩
      · exact ⟨(hT.block _ hXI.lt hXI.not).trans hXI.blk, .inr ⟨e1, hb, hT⟩⟩
    · rintro e w' (⟨rfl, w1, hr, rfl⟩ | ⟨rfl, w1, ⟨hb, hT⟩, hT2⟩)
      · refine ⟨false, rfl, ?_⟩
        rcases hr with ⟨-, tag', vc', vt', C', us', es', Wt', K', g1, g2, g3, g4, g5⟩ | ⟨e1, -⟩
        · have hX2 := hXI.keep g4 hXI.not g3
          have hT2 : Touch (fun k => k = wr.heap.size) w1 (w1.setCell ⟨wr.heap.size, 0, none⟩ (.bool false)) := (Touch.refl (fun k => k = wr.heap.size) w1).setCell (p := ⟨wr.heap.size, 0, none⟩) rfl _
          refine ⟨key _ _ g4 hT2, .inr ⟨rfl, tag', vc', vt', C', us', es', Wt', K', g1.oth (hT2.mono fun k _ e => by rw [e]; exact ⟨hX2.le, hX2.nx, hX2.nw, hX2.nk, .inl hX2.tg⟩) fun _ _ => rfl, g2, hGI.trans g3 hTI.size, by rw [List.length_append]; simp; omega⟩⟩
        · rcases e1 with e1 | e1 <;> cases e1
      · exact ⟨true, rfl, key _ _ hT hT2, .inl ⟨rfl, hb⟩⟩

set_option maxRecDepth 100000 in
set_option maxHeartbeats 4000000 in
theorem check_add2 (b1 b2 : Nat) (v : Value) (bx : Nat) (w : World) (R : Ending → World → Prop) (h1 : w.cell? ⟨b1, 0, none⟩ = some (.pointer (some ⟨bx, 0, none⟩))) (h2 : w.cell? ⟨b2, 0, none⟩ = some v)
    (hR : ∀ e w', R e w' → e = .returned (.tuple #[]) ∨ e = .panicked [{ v := failV, recovered := false }] ∨ e = .panicked failP)
    (h : Calls Try.prog 79 #[.pointer (some ⟨bx, 0, none⟩), v] w R) :
    Calls Try.prog 80 #[.pointer (some ⟨b1, 0, none⟩), .pointer (some ⟨b2, 0, none⟩)] w R := by
  have HR := hid hR
  have HH := hid h
  clear hR h
  go_enter Try.func80, Try.ntmps80
  go_wp2_with fail
  refine HH.out.mono ?_
  intro e w2 hr
  have HR2 := hid hr
  rcases HR.out e w2 hr with rfl | rfl | rfl
  · clear hr
    go_wp2_with fail
    exact ⟨rfl, _, results_none rfl _ _ _, HR2.out⟩
  · clear hr
    go_wp2_with fail
    exact ⟨rfl, HR2.out⟩
  · clear hr
    go_wp2_with fail
    exact ⟨rfl, HR2.out⟩

/-- A clause is added, between two clauses. -/
theorem ck_add2 {w0 wS wr : World} {bx bw bk b1 b2 n : Nat} {G : List (List Int)} (hE : CE w0 wS bx bw bk b1) (h : CK w0 wS bx bw bk n G wr false) {c : List Int} {ac : Option Addr} {cc : Nat} (hn : n ≤ 1048576) (hG : G.length ≤ 2199023255550) (hcc : c.length ≤ cc) (hc0 : ac = none → cc = 0) (hok : ∀ x ∈ c, LitOk n x) (hcl : c.length ≤ 4294967296) (hs : SlV w0 ac (ints c))
    (hb2 : wr.heap[b2]? = some (.cells #[.slice ac c.length cc] 22 (0, 0))) :
    Calls Try.prog 77 #[.func (.func 80) #[] #[.pointer (some ⟨b1, 0, none⟩), .pointer (some ⟨b2, 0, none⟩)]] wr fun e w' => ∃ b, e = .returned (.bool b) ∧ CK w0 wS bx bw bk n (G ++ [c]) w' b := by
  rcases h.o with ⟨q, -⟩ | ⟨-, tag, vc, vt, C, us, es, Wt, K, h1, h2, h3, h4⟩
  · cases q
  · have hBI : Below wr.heap.size wr (wr.alloc (.cells #[.bool false] 4)) := box_below _ _
    have hcI : (wr.alloc (.cells #[.bool false] 4)).heap[wr.heap.size]? = some (.cells #[.bool false] 4 (0, 0)) := heap_alloc_new _ _
    obtain ⟨hMI, hXI⟩ := h1.var hBI (Nat.le_refl _) hcI
    have hgI := tg_if tag wr
    obtain ⟨tagI, htI⟩ : ∃ t, (fun g => if g < wr.heap.size then tag g else RT.oth) = t := ⟨_, rfl⟩
    rw [htI] at hMI hXI hgI
    have hTI : Touch (ST noT bx bw bk) wS (wr.alloc (.cells #[.bool false] 4)) := h.t.alloc _
    have hGI : TG noT tagI wS := h3.trans hgI h.t.size
    have hadd : Calls Try.prog 79 #[.pointer (some ⟨bx, 0, none⟩), .slice ac c.length cc] (wr.alloc (.cells #[.bool false] 4)) (addR tagI w0.heap.size w0 (wr.alloc (.cells #[.bool false] 4)) bx bw bk C n G c) := by
      cases ht : adjB (normL c) with
      | true => exact rup_addT tagI w0.heap.size w0 _ bx bw bk vc vt C us es Wt K n G c ac c.length cc hMI h2 rfl hcc hc0 (hs.below (hE.below hTI)) (fun x hx => by have := hok x hx; unfold LitOk at this; unfold I64; omega) hcl ht
      | false => exact rup_addF tagI w0.heap.size w0 _ bx bw bk vc vt C us es Wt K n G c ac c.length cc hMI h2 hn (by omega) rfl hcc hc0 (hs.below (hE.below hTI)) hok hcl ht
    have hdo := check_add2 b1 b2 (.slice ac c.length cc) bx (wr.alloc (.cells #[.bool false] 4)) _ (fit_cell (vs := [.pointer (some ⟨bx, 0, none⟩)]) (hE.x hTI) 0) (fit_cell (vs := [.slice ac c.length cc]) ((Below.heap_alloc _ _ _ (Array.getElem?_eq_some_iff.1 hb2).1).trans hb2) 0) (fun e w' hr => by
      rcases hr with ⟨e1, -⟩ | ⟨e1, -⟩
      · exact .inl e1
      · exact .inr e1) hadd
    have key : ∀ w1 w', Touch (ST tagI bx bw bk) (wr.alloc (.cells #[.bool false] 4)) w1 → Touch (fun k => k = wr.heap.size) w1 w' → Touch (ST noT bx bw bk) wS w' := fun w1 w' g1 g2 => (hTI.st hGI g1).trans' g2 fun k hk e => by have := h.t.size; omega
    refine (fails_add2 b1 b2 wr (fun w1 => addR tagI w0.heap.size w0 (wr.alloc (.cells #[.bool false] 4)) bx bw bk C n G c (.returned (.tuple #[])) w1) (fun w1 => Bad (G ++ [c]) [] ∧ Touch (ST tagI bx bw bk) (wr.alloc (.cells #[.bool false] 4)) w1) (hdo.mono fun e w1 hr => ?_)).mono ?_
    · rcases hr with ⟨e1, hr⟩ | ⟨e1, hb, hT⟩
      · have hr2 := hr
        obtain ⟨tag', vc', vt', C', us', es', Wt', K', g1, g2, g3, g4, g5⟩ := hr
        exact ⟨(hXI.keep g4 hXI.not g3).blk, .inl ⟨e1, .inl ⟨rfl, hr2⟩⟩⟩
      · exact ⟨(hT.block _ hXI.lt hXI.not).trans hXI.blk, .inr ⟨e1, hb, hT⟩⟩
    · rintro e w' (⟨rfl, w1, hr, rfl⟩ | ⟨rfl, w1, ⟨hb, hT⟩, hT2⟩)
      · refine ⟨false, rfl, ?_⟩
        rcases hr with ⟨-, tag', vc', vt', C', us', es', Wt', K', g1, g2, g3, g4, g5⟩ | ⟨e1, -⟩
        · have hX2 := hXI.keep g4 hXI.not g3
          have hT2 : Touch (fun k => k = wr.heap.size) w1 (w1.setCell ⟨wr.heap.size, 0, none⟩ (.bool false)) := (Touch.refl (fun k => k = wr.heap.size) w1).setCell (p := ⟨wr.heap.size, 0, none⟩) rfl _
          refine ⟨key _ _ g4 hT2, .inr ⟨rfl, tag', vc', vt', C', us', es', Wt', K', g1.oth (hT2.mono fun k _ e => by rw [e]; exact ⟨hX2.le, hX2.nx, hX2.nw, hX2.nk, .inl hX2.tg⟩) fun _ _ => rfl, g2, hGI.trans g3 hTI.size, by rw [List.length_append]; simp; omega⟩⟩
        · rcases e1 with e1 | e1 <;> cases e1
      · exact ⟨true, rfl, key _ _ hT hT2, .inl ⟨rfl, hb⟩⟩

/-- The base is made. -/
theorem ck_start (w wx wS : World) (n : Nat) (hb : Below w.heap.size w wx) (h : (((wx.alloc (.map #[] 0)).alloc (.map #[] 0)).alloc (.cells #[nilS, .map (some wx.heap.size), .map (some (wx.heap.size + 1)), nilS, .int .i64 0] 120)).alloc (.cells #[.pointer (some ⟨wx.heap.size + 1 + 1, 0, none⟩)] 118) = wS) :
    CE w wS (wx.heap.size + 1 + 1) wx.heap.size (wx.heap.size + 1) (wx.heap.size + 1 + 1 + 1) ∧ CK w wS (wx.heap.size + 1 + 1) wx.heap.size (wx.heap.size + 1) n [] wS false := by
  have hs := hb.size
  have e1 : (wx.alloc (.map #[] 0)).heap.size = wx.heap.size + 1 := size_al _ _
  have e2 : ((wx.alloc (.map #[] 0)).alloc (.map #[] 0)).heap.size = wx.heap.size + 1 + 1 := by rw [size_al, e1]
  have e3 : (((wx.alloc (.map #[] 0)).alloc (.map #[] 0)).alloc (.cells #[nilS, .map (some wx.heap.size), .map (some (wx.heap.size + 1)), nilS, .int .i64 0] 120)).heap.size = wx.heap.size + 1 + 1 + 1 := by rw [size_al, e2]
  have hbS : Below w.heap.size w wS := by
    rw [← h]
    exact below_al (below_al (below_al (below_al hb (by omega) _) (by omega) _) (by omega) _) (by omega) _
  have hX : wS.heap[wx.heap.size + 1 + 1 + 1]? = some (.cells #[.pointer (some ⟨wx.heap.size + 1 + 1, 0, none⟩)] 118 (0, 0)) := by
    rw [← h, ← e3]; exact heap_alloc_new _ _
  have hB : wS.heap[wx.heap.size + 1 + 1]? = some (.cells #[nilS, .map (some wx.heap.size), .map (some (wx.heap.size + 1)), nilS, .int .i64 0] 120 (0, 0)) := by
    rw [← h, Below.heap_alloc _ _ _ (by omega), ← e2]; exact heap_alloc_new _ _
  have hK : IM wS (wx.heap.size + 1) [] := by
    rw [← e1]
    refine (im_made (wx.alloc (.map #[] 0))).frame ?_
    rw [← h, Below.heap_alloc _ _ _ (by omega), Below.heap_alloc _ _ _ (by omega)]
  have hW : IM wS wx.heap.size [] := by
    refine (im_made wx).frame ?_
    rw [← h, Below.heap_alloc _ _ _ (by omega), Below.heap_alloc _ _ _ (by omega), Below.heap_alloc _ _ _ (by omega)]
  refine ⟨⟨hbS, ⟨by omega, by omega, by omega⟩, hX, ⟨by omega, by omega, by omega⟩, by omega⟩, Touch.refl _ _, .inr ⟨rfl, noT, nilS, nilS, [], [], [], fun _ => [], [], ⟨hbS, hbS.size, by omega, by omega, by omega, by omega, hB, World.ownsRow_nil _ _ _ _, nofun, fun i c hc => by simp at hc, World.ownsRow_nil _ _ _ _, nofun, hW, fun a => ⟨none, 0, rfl, fun _ => rfl, .inl ⟨rfl, rfl⟩⟩, hK⟩, ⟨⟨by simp, fun i c a hc => by simp at hc, by simp⟩, prb_nil' [], by simp, List.nodup_nil, by simp, by simp, by simp, fun f hf => by simp at hf⟩, TG.refl _ _, Nat.le_refl _⟩⟩

end Go.Proofs.Ytfofabbnbmieoaa.Ord
