/- Region 23 of prop.Units (x.clauses, x.open = append(x.clauses, l), append(x.open, len(l))), apart from the rest. -/
import Derived.Deep.OwnRows
import Derived.WideMake
import Derived.Deep.DrawnRows
import Derived.Test.YtfofabbnbmieoaaQ1
import Derived.Test.YtfofabbnbmieoaaQ7

namespace Go.Proofs.Ytfofabbnbmieoaa.Ord
open Go.RowKit Go.Conc

attribute [local go_sem ↓] Go.wp_at_zero Go.wp_at_succ

theorem info_intU : (Try.prog.info? 3).map (fun i => (i.zero, i.size, i.bytes)) = some (some (.int .i64 0), 1, 8) := by kernel_rfl
theorem info_intsU : (Try.prog.info? 22).map (fun i => (i.zero, i.size, i.bytes)) = some (some (.slice none 0 0), 1, 24) := by kernel_rfl

/-- The region with a number. -/
def findRegion (k : Nat) : Code → Option Code
  | .region id ops b => if id = k then some (.region id ops b) else none
  | .seq a b => match findRegion k a with
    | some c => some c
    | none => findRegion k b
  | .cond _ a b => match findRegion k a with
    | some c => some c
    | none => findRegion k b
  | .block _ c => findRegion k c
  | .loop c => findRegion k c
  | .scope c => findRegion k c
  | _ => none

noncomputable def unitsReg23 : Code := ((Try.f47.body.bind (findRegion 23)).getD .skip)

theorem then_mono {P : Program} {c : Code} {Kq : Act → World → Prop} {Q2 : Exit → Act → World → Prop} {a : Act} {w : World} (h : Code.wp P c (Exit.then Kq fun _ _ _ => False) a w) : Code.wp P c (Exit.then Kq Q2) a w :=
  Code.wp_mono (fun e _ _ h => by cases e <;> first | exact h | exact (h : False).elim) h

set_option maxRecDepth 1000000 in
set_option maxHeartbeats 16000000 in
theorem units_reg23 (n : Nat) (bx bw bk bc : Nat) (av : Option Addr) (cv : Nat) (ao : Option Addr) (co : Nat) (C : List (List Int)) (l : List Int) (es : List (Int × Value)) (K : List Int) (al : Option Addr) (cl : Nat) (tag2 : Nat → Tag) (w1 w5 : World)
    (HB2 : Hid (BSt tag2 bw w1 w5 bx (.slice av C.length cv) (.slice ao C.length co) bw bk bc (n + 1) C (withL C) es K)) (HU : Hid (OwnTg w5 tag2 (.slice al l.length cl) l)) (hCl : C.length ≤ 1048576)
    (u0 u1 u2 u3 u4 u5 u6 u7 u8 u9 u11 u12 u13 u14 u16 u17 u18 u19 u20 u21 u22 u23 u24 u25 u26 u27 u28 u29 u30 u31 u32 u33 u34 u35 u36 u37 u38 u39 u40 u41 u42 u43 u44 u45 u46 u47 u48 u49 u50 u51 u52 u53 u54 u55 u56 u57 u58 u59 u60 u61 u62 u63 u64 u65 u66 u67 u68 u69 u70 u71 u72 u73 u74 u75 u76 u77 u78 u79 u80 u81 u82 u83 u84 u85 u86 u87 u88 u89 u90 u91 u92 u93 u94 u95 u96 u97 u98 u99 u100 u101 u102 u103 u104 u105 u106 u107 u108 u109 u110 u111 u112 u113 u114 u115 u116 u117 u118 u119 u120 u121 u122 u123 u124 u125 u126 u127 u128 u129 u130 u131 u132 u133 u134 u135 u136 u137 u138 u139 u140 u141 u142 u143 u144 u145 u146 u147 u148 u149 u150 u151 u152 u153 u154 u155 u156 u157 u158 u159 u160 u161 u162 u163 u164 u165 u166 u167 u168 u169 u170 u171 u172 u173 u174 u175 u176 u177 u178 u179 u180 u181 : Value) (Kq : Act → World → Prop)
    (hQ : ∀ (s88 s89 s90 s91 s92 s93 s94 s95 s96 s97 s98 s99 s100 s101 s102 s103 s104 s105 s106 s107 s108 : Value) (wx : World) (vc' vo' : Value) (tag3 : Nat → Tag), Hid (BSt tag3 bw w1 wx bx vc' vo' bw bk bc (n + 1) (C ++ [l]) (withL C) es K) → Hid (OwnTg wx tag3 (.slice al l.length cl) l) → Kq ⟨#[u0, u1, u2, u3, u4, u5, u6, u7, u8, u9, .pointer (some ⟨bx, 0, none⟩), u11, u12, u13, u14, .slice al l.length cl, u16, u17, u18, u19, u20, u21, u22, u23, u24, u25, u26, u27, u28, u29, u30, u31, u32, u33, u34, u35, u36, u37, u38, u39, u40, u41, u42, u43, u44, u45, u46, u47, u48, u49, u50, u51, u52, u53, u54, u55, u56, u57, u58, u59, u60, u61, u62, u63, u64, u65, u66, u67, u68, u69, u70, u71, u72, u73, u74, u75, u76, u77, u78, u79, u80, u81, u82, u83, u84, u85, u86, u87, s88, s89, s90, s91, s92, s93, s94, s95, s96, s97, s98, s99, s100, s101, s102, s103, s104, s105, s106, s107, s108, u109, u110, u111, u112, u113, u114, u115, u116, u117, u118, u119, u120, u121, u122, u123, u124, u125, u126, u127, u128, u129, u130, u131, u132, u133, u134, u135, u136, u137, u138, u139, u140, u141, u142, u143, u144, u145, u146, u147, u148, u149, u150, u151, u152, u153, u154, u155, u156, u157, u158, u159, u160, u161, u162, u163, u164, u165, u166, u167, u168, u169, u170, u171, u172, u173, u174, u175, u176, u177, u178, u179, u180, u181], []⟩ wx) :
    Code.wp Try.prog unitsReg23 (Exit.then Kq fun _ _ _ => False) ⟨#[u0, u1, u2, u3, u4, u5, u6, u7, u8, u9, .pointer (some ⟨bx, 0, none⟩), u11, u12, u13, u14, .slice al l.length cl, u16, u17, u18, u19, u20, u21, u22, u23, u24, u25, u26, u27, u28, u29, u30, u31, u32, u33, u34, u35, u36, u37, u38, u39, u40, u41, u42, u43, u44, u45, u46, u47, u48, u49, u50, u51, u52, u53, u54, u55, u56, u57, u58, u59, u60, u61, u62, u63, u64, u65, u66, u67, u68, u69, u70, u71, u72, u73, u74, u75, u76, u77, u78, u79, u80, u81, u82, u83, u84, u85, u86, u87, u88, u89, u90, u91, u92, u93, u94, u95, u96, u97, u98, u99, u100, u101, u102, u103, u104, u105, u106, u107, u108, u109, u110, u111, u112, u113, u114, u115, u116, u117, u118, u119, u120, u121, u122, u123, u124, u125, u126, u127, u128, u129, u130, u131, u132, u133, u134, u135, u136, u137, u138, u139, u140, u141, u142, u143, u144, u145, u146, u147, u148, u149, u150, u151, u152, u153, u154, u155, u156, u157, u158, u159, u160, u161, u162, u163, u164, u165, u166, u167, u168, u169, u170, u171, u172, u173, u174, u175, u176, u177, u178, u179, u180, u181], []⟩ w5 := by
  obtain ⟨i0, hi0, hz0, hz1, hz2⟩ := info_parts info_intU
  obtain ⟨i1, hi1, hy0, hy1, hy2⟩ := info_parts info_intsU
  have hb2 := HB2.out
  obtain ⟨us, hu1, hu2⟩ := hb2.cls
  have hcb0 : w5.cell? ⟨bx, 0, none⟩ = some (.slice av C.length cv) := fit_cell (vs := [.slice av C.length cv, .slice ao C.length co, .map (some bw), .map (some bk), .chan (some bc)]) hb2.blk 0
  have hcb1 : w5.cell? ⟨bx, 1, none⟩ = some (.slice ao C.length co) := fit_cell (vs := [.slice av C.length cv, .slice ao C.length co, .map (some bw), .map (some bk), .chan (some bc)]) hb2.blk 1
  have HU1 := hid hu1
  have HU2 := hid hu2
  have hle5 := hb2.le
  have hnv5 := (HB2.out.notS).1
  have hf5 : ∀ k, w5.frozen? ⟨bx, k, none⟩ = false := fun k => frozen_of_row _ _ _ _ _ HB2.out.blk
  have hbvc : (Value.slice av C.length cv).ownBlock ≠ some bx := fun e => by obtain ⟨cur, hc⟩ := own_cells HU1.out e; rw [HB2.out.blk] at hc; simp at hc
  have hbvo : (Value.slice ao C.length co).ownBlock ≠ some bx := fun e => hnv5 (.inl e)
  have hvv : ∀ g, (Value.slice ao C.length co).ownBlock = some g → (Value.slice av C.length cv).ownBlock ≠ some g := fun g h1 h2 => by
    obtain ⟨c1, e1⟩ := own_cells HB2.out.op h1
    obtain ⟨c2, e2⟩ := own_cells HU1.out h2
    rw [e1] at e2
    simp at e2
  have HNE := hid (And.intro hbvc (And.intro hbvo hvv))
  clear hb2 hu1 hu2 hnv5 hbvc hbvo hvv
  have hf50 := hf5 0
  have hf51 := hf5 1
  clear hf5
  have HQ := hid hQ
  clear hQ
  conv => arg 2; whnf
  have hca50 := fun o => below_keeps (box_below w5 o) _ _ hcb0
  have hca51 := fun o => below_keeps (box_below w5 o) _ _ hcb1
  have hca60 := fun o o' => below_keeps (box_below (w5.alloc o) o') _ _ (hca50 o)
  have hca61 := fun o o' => below_keeps (box_below (w5.alloc o) o') _ _ (hca51 o)
  go_region_law (first
    | (refine step_append_at1 rfl _ _ 32 rfl bw 22 i1 (.slice none 0 0) 24 Try.underlying32 hi1 hy0 hy1 hy2 rfl (.slice av C.length cv) C.length us (by rfl) (by first | exact HU1.out.alloc _ | exact (HU1.out.alloc _).alloc _) _ (.slice al l.length cl) (by rfl) (by first | exact heap_alloc_new _ _ | exact blk_new2 _ _ _ | exact blk_old2 _ _ _) rfl (by unfold maxLen; omega) (by omega) (by simp; omega) ?_; intro v8 w8 h8 hg8 ha8; obtain ⟨a8, c8, rfl⟩ := own_lenV' h8; have hT8 : Touch (fun k => (Value.slice av C.length cv).ownBlock = some k) w5 w8 := (by first | exact ((Touch.refl _ w5).drew.alloc _).grown hg8 (fun k hk => .inl hk) | exact (((Touch.refl _ w5).drew.alloc _).alloc _).grown hg8 (fun k hk => .inl hk)); have H8 := hid h8; have HT8 := hid hT8; have HG8 := hid hg8; have HA8 := hid ha8; have hcb0 : w8.cell? ⟨bx, 0, none⟩ = some (.slice av C.length cv) := (fit_cell (vs := [.slice av C.length cv, .slice ao C.length co, .map (some bw), .map (some bk), .chan (some bc)]) ((hT8.block bx (Array.getElem?_eq_some_iff.1 HB2.out.blk).1 HNE.out.1).trans HB2.out.blk) 0); have hcb1 : w8.cell? ⟨bx, 1, none⟩ = some (.slice ao C.length co) := (fit_cell (vs := [.slice av C.length cv, .slice ao C.length co, .map (some bw), .map (some bk), .chan (some bc)]) ((hT8.block bx (Array.getElem?_eq_some_iff.1 HB2.out.blk).1 HNE.out.1).trans HB2.out.blk) 1); have hca8 := fun o => below_keeps (box_below w8 o) _ _ hcb1; have HOP8 := hid (own_frame0 HB2.out.op (fun g hg => hT8.block g (HB2.out.op.lt g hg).2 (HNE.out.2.2 g hg))); clear h8 hT8 hg8 ha8)
    | (refine step_append_at1 rfl _ _ 22 rfl bw 3 i0 (.int .i64 0) 8 Try.underlying22 hi0 hz0 hz1 hz2 rfl (.slice ao C.length co) C.length (ints (C.map fun c => (c.length : Int))) (by rfl) (by first | exact HOP8.out | exact HOP8.out.alloc _) _ (.int .i64 (l.length : Int)) (by rfl) (by first | exact heap_alloc_new _ _ | exact (HG8.out.block _ (by simp <;> omega) (fun e => absurd (HU1.out.lt _ e.symm).2 (by simp))).trans (heap_alloc_new _ _) | exact (HG8.out.block _ (by simp <;> omega) (fun e => absurd (HU1.out.lt _ e.symm).2 (by simp))).trans (blk_new2 _ _ _) | exact (HG8.out.block _ (by simp <;> omega) (fun e => absurd (HU1.out.lt _ e.symm).2 (by simp))).trans (blk_old2 _ _ _)) rfl (by unfold maxLen; omega) (by omega) (by first | (have := HT8.out.size; omega) | (have := HT8.out.size; simp; omega)) ?_; intro v9 w9 h9 hg9 ha9; obtain ⟨a9, c9, rfl⟩ := own_lenV' h9; have hT9 : Touch (fun k => (Value.slice av C.length cv).ownBlock = some k ∨ (Value.slice ao C.length co).ownBlock = some k) w5 w9 := (by first | exact (HT8.out.mono fun k _ hk => .inl hk).grown hg9 (fun k hk => .inl (.inr hk)) | exact ((HT8.out.mono fun k _ hk => .inl hk).alloc _).grown hg9 (fun k hk => .inl (.inr hk))); have hk8 : ∀ k, k < w8.heap.size → (Value.slice ao C.length co).ownBlock ≠ some k → w9.heap[k]? = w8.heap[k]? := (by first | exact fun k h1 h2 => hg9.block k h1 (fun e => h2 e.symm) | exact fun k h1 h2 => (hg9.block k (by simp; omega) (fun e => h2 e.symm)).trans (Below.heap_alloc _ _ _ h1)); have H8X := hid (own_frame0 H8.out (fun g hg => hk8 g (H8.out.lt g hg).2 (fun e => by obtain ⟨c1, e1⟩ := own_cells H8.out hg; obtain ⟨c2, e2⟩ := own_cells HOP8.out e; rw [e1] at e2; simp at e2))); have hfr9 : (Value.slice a9 (C.length + 1) c9).ownBlock = (Value.slice ao C.length co).ownBlock ∨ ∃ g, (Value.slice a9 (C.length + 1) c9).ownBlock = some g ∧ w5.heap.size ≤ g := ha9.imp_right (fun h => ⟨_, h, (by first | (have := HT8.out.size; omega) | (have := HT8.out.size; simp; omega))⟩); have HFR9 := hid hfr9; have H9 := hid h9; have HT9 := hid hT9; have HG9 := hid hg9; have HA9 := hid ha9; have hbb9 := ((hT9.block bx (Array.getElem?_eq_some_iff.1 HB2.out.blk).1 (fun h => h.elim HNE.out.1 HNE.out.2.1)).trans HB2.out.blk); have hcb0 : w9.cell? ⟨bx, 0, none⟩ = some (.slice av C.length cv) := (fit_cell (vs := [.slice av C.length cv, .slice ao C.length co, .map (some bw), .map (some bk), .chan (some bc)]) hbb9 0); have hcb1 : w9.cell? ⟨bx, 1, none⟩ = some (.slice ao C.length co) := (fit_cell (vs := [.slice av C.length cv, .slice ao C.length co, .map (some bw), .map (some bk), .chan (some bc)]) hbb9 1); have hf0 := (show w9.frozen? ⟨bx, 0, none⟩ = false from frozen_of_row _ _ _ _ _ hbb9); have hf1 := (show w9.frozen? ⟨bx, 1, none⟩ = false from frozen_of_row _ _ _ _ _ hbb9); clear h9 hT9 hg9 ha9 hbb9 hk8 hfr9))
  all_goals
    go_wp2_with fail
    have hres := HB2.out.add HU.out HU1.out HU2.out HT9.out H8X.out H9.out HFR9.out
    first
    | exact HQ.out _ _ _ _ _ _ _ _ _ _ _ _ _ _ _ _ _ _ _ _ _ _ _ _ _ hres.1 hres.2
    | exact HQ.out _ _ _ _ _ _ _ _ _ _ _ _ _ _ _ _ _ _ _ _ _ _ _ _ _ hres.1.drewB hres.2

end Go.Proofs.Ytfofabbnbmieoaa.Ord
