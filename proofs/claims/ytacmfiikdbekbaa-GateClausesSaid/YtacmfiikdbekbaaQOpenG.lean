/- What an argument that is a slice of gates is told of to the walk. -/
import Derived.Deep.Fields
import Derived.Test.YtacmfiikdbekbaaQ2

namespace Go.Proofs.Ytacmfiikdbekbaa.Ord
open Go.ChangeShapes Go.WideShapes Go.ChangeAt Go.RowKit Go.Deep

/-- The four cells of each gate. -/
def SlG (w : World) (a : Option Addr) (gs : List (Int × Int × Int × Int)) : Prop :=
  ∀ j q, gs[j]? = some q → ∃ b off, a = some ⟨b, off, none⟩ ∧ w.cell? ⟨b, off + j * 4, none⟩ = some (.int .u8 q.1) ∧ w.cell? ⟨b, off + j * 4 + 1, none⟩ = some (.int .i64 q.2.1) ∧ w.cell? ⟨b, off + j * 4 + 2, none⟩ = some (.int .i64 q.2.2.1) ∧ w.cell? ⟨b, off + j * 4 + 3, none⟩ = some (.int .i64 q.2.2.2) ∧
      (Lit.int .u8 q.1).wf = true ∧ (Lit.int .i64 q.2.1).wf = true ∧ (Lit.int .i64 q.2.2.1).wf = true ∧ (Lit.int .i64 q.2.2.2).wf = true

/-- A slice of gates. -/
def ArgG (w : World) (v : Value) (gs : List (Int × Int × Int × Int)) : Prop :=
  ∃ a c, v = .slice a gs.length c ∧ gs.length ≤ c ∧ c ≤ maxLen ∧ (a = none → c = 0) ∧ SlG w a gs

theorem add_plainG (b off n : Nat) : (⟨b, off, none⟩ : Addr).add n = ⟨b, off + n, none⟩ := by
  unfold Addr.add
  split
  · rename_i h; subst h; rfl
  · rfl

section
variable {P : Program} {W : World} {H : Type} {enc : TypeId × Value → H}

theorem trod_gate {e : TypeId} {f0 f1 f2 f3 : Field} {n : Nat} {held : Bool} {a : Addr} {cs : List Value} {y : DataW H × List MemPlace} (he : P.underlying e = some (.struct #[f0, f1, f2, f3])) (hone : oneCellFields P #[f0, f1, f2, f3] = true)
    (k0 : P.underlying f0.type = some (.int .u8)) (k1 : P.underlying f1.type = some (.int .i64)) (k2 : P.underlying f2.type = some (.int .i64)) (k3 : P.underlying f3.type = some (.int .i64))
    (hc : W.cells? 0 a 4 = some cs) (h : DataW.trod enc P W 0 (fun _ => true) held n e cs = some y) :
    ∃ q0 q1 q2 q3, W.cell? (a.add 0) = some (.int .u8 q0) ∧ W.cell? (a.add 1) = some (.int .i64 q1) ∧ W.cell? (a.add 2) = some (.int .i64 q2) ∧ W.cell? (a.add 3) = some (.int .i64 q3) ∧ (Lit.int .u8 q0).wf = true ∧ (Lit.int .i64 q1).wf = true ∧ (Lit.int .i64 q2).wf = true ∧ (Lit.int .i64 q3).wf = true := by
  obtain ⟨xs, m, _, hx, _, hlen, hg⟩ := DataW.trod_struct he h
  obtain ⟨_, hcl, hat⟩ := World.cells?_some hc
  obtain ⟨o0, s0⟩ := hone_of hone 0 f0 rfl
  obtain ⟨o1, s1⟩ := hone_of hone 1 f1 rfl
  obtain ⟨o2, s2⟩ := hone_of hone 2 f2 rfl
  obtain ⟨o3, s3⟩ := hone_of hone 3 f3 rfl
  match cs, hcl, xs, hlen with
  | [c0, c1, c2, c3], _, [y0, y1, y2, y3], _ =>
    have g0 := hg 0 f0 rfl
    have g1 := hg 1 f1 rfl
    have g2 := hg 2 f2 rfl
    have g3 := hg 3 f3 rfl
    rw [o0, s0] at g0
    rw [o1, s1] at g1
    rw [o2, s2] at g2
    rw [o3, s3] at g3
    obtain ⟨q0, e0, _, w0⟩ := DataW.trod_int k0 g0
    obtain ⟨q1, e1, _, w1⟩ := DataW.trod_int k1 g1
    obtain ⟨q2, e2, _, w2⟩ := DataW.trod_int k2 g2
    obtain ⟨q3, e3, _, w3⟩ := DataW.trod_int k3 g3
    simp at e0 e1 e2 e3
    subst e0 e1 e2 e3
    exact ⟨q0, q1, q2, q3, hat 0 (by omega), hat 1 (by omega), hat 2 (by omega), hat 3 (by omega), w0, w1, w2, w3⟩

theorem arg_gates {r : Reach} {b0 : Nat} {t e : TypeId} {f0 f1 f2 f3 : Field} {held : Bool} {v : Value} {d : DataW H} {p : List MemPlace} (ht : P.underlying t = some (.slice e)) (he : P.underlying e = some (.struct #[f0, f1, f2, f3])) (hone : oneCellFields P #[f0, f1, f2, f3] = true) (hC : P.cellsOf e = 4)
    (k0 : P.underlying f0.type = some (.int .u8)) (k1 : P.underlying f1.type = some (.int .i64)) (k2 : P.underlying f2.type = some (.int .i64)) (k3 : P.underlying f3.type = some (.int .i64))
    (hv : Value.okWide P W r b0 t v) (h : DataW.Trod enc P W 0 (fun _ => true) held t v d p) : ∃ gs, ArgG W v gs := by
  obtain ⟨a, l, c, rfl⟩ := okWide_slice ht hv
  obtain ⟨fuel, hf⟩ := h
  have hf : DataW.trod enc P W 0 (fun _ => true) held fuel t [.slice a l c] = some (d, p) := by simpa [Value.cells] using hf
  rcases open_slice ht hf with ⟨hcs, _⟩ | ⟨a', l', c', m, n, D, Pl, hcs, _, hl, hm, hmm, _, hx⟩
  · simp at hcs
    obtain ⟨rfl, rfl, rfl⟩ := hcs
    exact ⟨[], none, 0, rfl, Nat.le_refl _, by simp [maxLen], fun _ => rfl, fun j q hj => by simp at hj⟩
  · simp at hcs
    obtain ⟨rfl, rfl, rfl⟩ := hcs
    simp only [if_true] at hmm
    rw [hC] at hx
    have hr : ∀ i, ∃ q : Int × Int × Int × Int, i < l → W.cell? ((a'.add (i * 4)).add 0) = some (.int .u8 q.1) ∧ W.cell? ((a'.add (i * 4)).add 1) = some (.int .i64 q.2.1) ∧ W.cell? ((a'.add (i * 4)).add 2) = some (.int .i64 q.2.2.1) ∧ W.cell? ((a'.add (i * 4)).add 3) = some (.int .i64 q.2.2.2) ∧ (Lit.int .u8 q.1).wf = true ∧ (Lit.int .i64 q.2.1).wf = true ∧ (Lit.int .i64 q.2.2.1).wf = true ∧ (Lit.int .i64 q.2.2.2).wf = true := fun i => by
      by_cases hi : i < l
      · obtain ⟨cs', hc, ht'⟩ := hx i (by omega)
        obtain ⟨q0, q1, q2, q3, hq⟩ := trod_gate he hone k0 k1 k2 k3 hc ht'
        exact ⟨(q0, q1, q2, q3), fun _ => hq⟩
      · exact ⟨(0, 0, 0, 0), fun h => (hi h).elim⟩
    let X := fun i => Classical.choose (hr i)
    have hX := fun i => Classical.choose_spec (hr i)
    refine ⟨(List.range l).map X, some a', c, by simp, by simpa using hl, hm, nofun, fun j q hj => ?_⟩
    simp only [List.getElem?_map, Option.map_eq_some_iff] at hj
    obtain ⟨i, hi, rfl⟩ := hj
    obtain ⟨hlt, he'⟩ := List.getElem?_eq_some_iff.1 hi
    simp at hlt he'
    subst he'
    obtain ⟨g0, g1, g2, g4, g3⟩ := hX j hlt
    obtain ⟨h0, -⟩ := hX 0 (by omega)
    have hs := World.cell?_spot h0
    obtain ⟨b, off, spot⟩ := a'
    simp [Addr.add] at hs
    subst hs
    have e : ∀ q, ((⟨b, off, none⟩ : Addr).add (j * 4)).add q = ⟨b, off + j * 4 + q, none⟩ := fun q => by rw [add_plainG, add_plainG]
    exact ⟨b, off, rfl, (congrArg W.cell? (e 0)).symm.trans g0, (congrArg W.cell? (e 1)).symm.trans g1, (congrArg W.cell? (e 2)).symm.trans g2, (congrArg W.cell? (e 3)).symm.trans g4, g3⟩

end
end Go.Proofs.Ytacmfiikdbekbaa.Ord
