/- Mark: how a slice of such rows, and such a row itself, comes in as an argument of a law. -/
import Derived.Test.YthehhnckfoappaaFrame
import Derived.Test.YthehhnckfoappaaFamMark
import Derived.Deep.Strs
namespace Go.Proofs.Ythehhnckfoappaa
open Go.ChangeShapes Go.WideShapes Go.ChangeAt Go.RowKit

theorem cells_lawsMark : Try.prog.cellsOf 65 = 3 := by kernel_rfl
theorem row_lawsMark {H : Type} {enc : TypeId × Value → H} {w : World} {base : Nat} {spare : Nat → Bool} {held : Bool} (fuel : Nat) (cs : List Value) (y : DataW H × List MemPlace)
    (h : DataW.trod enc Try.prog w base spare held fuel 65 cs = some y) : ∃ x : Mark, cs = markL.cells x ∧ (Lit.int .i64 x.many).wf = true ∧ (Lit.int .i64 x.clean).wf = true ∧ (Lit.int .i64 x.accrued).wf = true := by
  obtain ⟨ys, n, _, rfl, hl, hlen, hf⟩ := DataW.trod_struct Try.underlying65 h
  rw [cells_lawsMark] at hl
  match cs, hl with
  | [c0, c1, c2], _ =>
  match ys, hlen with
  | [y0, y1, y2], _ =>
  have h0 : DataW.trod enc Try.prog w base spare held n 3 [c0] = some y0 := by simpa [Try.cellsInt] using hf 0 _ rfl
  have h1 : DataW.trod enc Try.prog w base spare held n 3 [c1] = some y1 := by simpa [Try.cellsInt] using hf 1 _ rfl
  have h2 : DataW.trod enc Try.prog w base spare held n 3 [c2] = some y2 := by simpa [Try.cellsInt] using hf 2 _ rfl
  obtain ⟨x0, e0, _, w0⟩ := DataW.trod_int Try.underlying3 h0
  obtain ⟨x1, e1, _, w1⟩ := DataW.trod_int Try.underlying3 h1
  obtain ⟨x2, e2, _, w2⟩ := DataW.trod_int Try.underlying3 h2
  simp only [List.cons.injEq, and_true] at e0 e1 e2
  exact ⟨⟨x0, x1, x2⟩, by rw [e0, e1, e2]; rfl, w0, w1, w2⟩

theorem cells_implMark : Try.prog.cellsOf 45 = 3 := by kernel_rfl
theorem row_implMark {H : Type} {enc : TypeId × Value → H} {w : World} {base : Nat} {spare : Nat → Bool} {held : Bool} (fuel : Nat) (cs : List Value) (y : DataW H × List MemPlace)
    (h : DataW.trod enc Try.prog w base spare held fuel 45 cs = some y) : ∃ x : Mark, cs = markL.cells x ∧ (Lit.int .i64 x.many).wf = true ∧ (Lit.int .i64 x.clean).wf = true ∧ (Lit.int .i64 x.accrued).wf = true := by
  obtain ⟨ys, n, _, rfl, hl, hlen, hf⟩ := DataW.trod_struct Try.underlying45 h
  rw [cells_implMark] at hl
  match cs, hl with
  | [c0, c1, c2], _ =>
  match ys, hlen with
  | [y0, y1, y2], _ =>
  have h0 : DataW.trod enc Try.prog w base spare held n 3 [c0] = some y0 := by simpa [Try.cellsInt] using hf 0 _ rfl
  have h1 : DataW.trod enc Try.prog w base spare held n 3 [c1] = some y1 := by simpa [Try.cellsInt] using hf 1 _ rfl
  have h2 : DataW.trod enc Try.prog w base spare held n 3 [c2] = some y2 := by simpa [Try.cellsInt] using hf 2 _ rfl
  obtain ⟨x0, e0, _, w0⟩ := DataW.trod_int Try.underlying3 h0
  obtain ⟨x1, e1, _, w1⟩ := DataW.trod_int Try.underlying3 h1
  obtain ⟨x2, e2, _, w2⟩ := DataW.trod_int Try.underlying3 h2
  simp only [List.cons.injEq, and_true] at e0 e1 e2
  exact ⟨⟨x0, x1, x2⟩, by rw [e0, e1, e2]; rfl, w0, w1, w2⟩

end Go.Proofs.Ythehhnckfoappaa
