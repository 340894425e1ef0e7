/- Bond: how a slice of such rows, and such a row itself, comes in as an argument of a law. -/
import Derived.Test.YtpomlbloeejbjaaDoorFrame
import Derived.Test.YtpomlbloeejbjaaDoorFamBond
import Derived.Deep.Strs
namespace Go.Proofs.YtpomlbloeejbjaaDoor
open Go.ChangeShapes Go.WideShapes Go.ChangeAt Go.RowKit

theorem cells_lawsBond : Tryd.prog.cellsOf 35 = 4 := by kernel_rfl
set_option maxRecDepth 100000 in
theorem row_lawsBond {H : Type} {enc : TypeId × Value → H} {w : World} {base : Nat} {spare : Nat → Bool} {held : Bool} (fuel : Nat) (cs : List Value) (y : DataW H × List MemPlace)
    (h : DataW.trod enc Tryd.prog w base spare held fuel 35 cs = some y) : ∃ x : Bond, cs = bondL.cells x ∧ (Lit.int .i64 x.start).wf = true ∧ (Lit.int .i64 x.stop).wf = true ∧ (Lit.int .i64 x.months).wf = true ∧ (Lit.int .i64 x.rate).wf = true := by
  obtain ⟨ys, n, _, rfl, hl, hlen, hf⟩ := DataW.trod_struct Tryd.underlying35 h
  rw [cells_lawsBond] at hl
  match cs, hl with
  | [c0, c1, c2, c3], _ =>
  match ys, hlen with
  | [y0, y1, y2, y3], _ =>
  have h0 : DataW.trod enc Tryd.prog w base spare held n 3 [c0] = some y0 := by simpa [Tryd.cellsInt] using hf 0 _ rfl
  have h1 : DataW.trod enc Tryd.prog w base spare held n 3 [c1] = some y1 := by simpa [Tryd.cellsInt] using hf 1 _ rfl
  have h2 : DataW.trod enc Tryd.prog w base spare held n 3 [c2] = some y2 := by simpa [Tryd.cellsInt] using hf 2 _ rfl
  have h3 : DataW.trod enc Tryd.prog w base spare held n 3 [c3] = some y3 := by simpa [Tryd.cellsInt] using hf 3 _ rfl
  obtain ⟨x0, e0, _, w0⟩ := DataW.trod_int Tryd.underlying3 h0
  obtain ⟨x1, e1, _, w1⟩ := DataW.trod_int Tryd.underlying3 h1
  obtain ⟨x2, e2, _, w2⟩ := DataW.trod_int Tryd.underlying3 h2
  obtain ⟨x3, e3, _, w3⟩ := DataW.trod_int Tryd.underlying3 h3
  simp only [List.cons.injEq, and_true] at e0 e1 e2 e3
  exact ⟨⟨x0, x1, x2, x3⟩, by rw [e0, e1, e2, e3]; rfl, w0, w1, w2, w3⟩
set_option maxRecDepth 100000 in
theorem open_lawsBond {H : Type} {enc : TypeId × Value → H} {w : World} {base : Nat} {spare : Nat → Bool} {held : Bool} {r : Reach} {b0 : Nat} {v : Value} {d : DataW H} {ps : List MemPlace}
    (hval : Value.okWide Tryd.prog w r b0 35 v) (hd : DataW.Trod enc Tryd.prog w base spare held 35 v d ps) :
    ∃ x : Bond, v = .agg #[.int .i64 x.start, .int .i64 x.stop, .int .i64 x.months, .int .i64 x.rate] ∧ (Lit.int .i64 x.start).wf = true ∧ (Lit.int .i64 x.stop).wf = true ∧ (Lit.int .i64 x.months).wf = true ∧ (Lit.int .i64 x.rate).wf = true := by
  obtain ⟨cs, rfl, hsz⟩ := okWide_struct Tryd.underlying35 hval
  obtain ⟨fuel, hf⟩ := hd
  obtain ⟨x, hx, h⟩ := row_lawsBond fuel _ _ hf
  refine ⟨x, ?_, h⟩
  obtain ⟨l⟩ := cs
  have hx2 : l = bondL.cells x := by simpa [Value.cells] using hx
  rw [hx2]
  rfl

theorem cells_implBond : Tryd.prog.cellsOf 37 = 4 := by kernel_rfl
set_option maxRecDepth 100000 in
theorem row_implBond {H : Type} {enc : TypeId × Value → H} {w : World} {base : Nat} {spare : Nat → Bool} {held : Bool} (fuel : Nat) (cs : List Value) (y : DataW H × List MemPlace)
    (h : DataW.trod enc Tryd.prog w base spare held fuel 37 cs = some y) : ∃ x : Bond, cs = bondL.cells x ∧ (Lit.int .i64 x.start).wf = true ∧ (Lit.int .i64 x.stop).wf = true ∧ (Lit.int .i64 x.months).wf = true ∧ (Lit.int .i64 x.rate).wf = true := by
  obtain ⟨ys, n, _, rfl, hl, hlen, hf⟩ := DataW.trod_struct Tryd.underlying37 h
  rw [cells_implBond] at hl
  match cs, hl with
  | [c0, c1, c2, c3], _ =>
  match ys, hlen with
  | [y0, y1, y2, y3], _ =>
  have h0 : DataW.trod enc Tryd.prog w base spare held n 3 [c0] = some y0 := by simpa [Tryd.cellsInt] using hf 0 _ rfl
  have h1 : DataW.trod enc Tryd.prog w base spare held n 3 [c1] = some y1 := by simpa [Tryd.cellsInt] using hf 1 _ rfl
  have h2 : DataW.trod enc Tryd.prog w base spare held n 3 [c2] = some y2 := by simpa [Tryd.cellsInt] using hf 2 _ rfl
  have h3 : DataW.trod enc Tryd.prog w base spare held n 3 [c3] = some y3 := by simpa [Tryd.cellsInt] using hf 3 _ rfl
  obtain ⟨x0, e0, _, w0⟩ := DataW.trod_int Tryd.underlying3 h0
  obtain ⟨x1, e1, _, w1⟩ := DataW.trod_int Tryd.underlying3 h1
  obtain ⟨x2, e2, _, w2⟩ := DataW.trod_int Tryd.underlying3 h2
  obtain ⟨x3, e3, _, w3⟩ := DataW.trod_int Tryd.underlying3 h3
  simp only [List.cons.injEq, and_true] at e0 e1 e2 e3
  exact ⟨⟨x0, x1, x2, x3⟩, by rw [e0, e1, e2, e3]; rfl, w0, w1, w2, w3⟩

end Go.Proofs.YtpomlbloeejbjaaDoor
