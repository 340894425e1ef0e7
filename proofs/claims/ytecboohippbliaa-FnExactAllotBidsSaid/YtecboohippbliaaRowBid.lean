/- Bid: how a slice of such rows, and such a row itself, comes in as an argument of a law. -/
import Derived.Test.YtecboohippbliaaFrame
import Derived.Test.YtecboohippbliaaFamBid
import Derived.Deep.Strs
namespace Go.Proofs.Ytecboohippbliaa
open Go.ChangeShapes Go.WideShapes Go.ChangeAt Go.RowKit

theorem cells_lawsBid : Try.prog.cellsOf 64 = 2 := by kernel_rfl
set_option maxRecDepth 100000 in
theorem row_lawsBid {H : Type} {enc : TypeId × Value → H} {w : World} {base : Nat} {spare : Nat → Bool} {held : Bool} (fuel : Nat) (cs : List Value) (y : DataW H × List MemPlace)
    (h : DataW.trod enc Try.prog w base spare held fuel 64 cs = some y) : ∃ x : Bid, cs = bidL.cells x ∧ (Lit.int .i64 x.yield).wf = true ∧ (Lit.int .i64 x.many).wf = true := by
  obtain ⟨ys, n, _, rfl, hl, hlen, hf⟩ := DataW.trod_struct Try.underlying64 h
  rw [cells_lawsBid] at hl
  match cs, hl with
  | [c0, c1], _ =>
  match ys, hlen with
  | [y0, y1], _ =>
  have h0 : DataW.trod enc Try.prog w base spare held n 3 [c0] = some y0 := by simpa [Try.cellsInt] using hf 0 _ rfl
  have h1 : DataW.trod enc Try.prog w base spare held n 3 [c1] = some y1 := by simpa [Try.cellsInt] using hf 1 _ rfl
  obtain ⟨x0, e0, _, w0⟩ := DataW.trod_int Try.underlying3 h0
  obtain ⟨x1, e1, _, w1⟩ := DataW.trod_int Try.underlying3 h1
  simp only [List.cons.injEq, and_true] at e0 e1
  exact ⟨⟨x0, x1⟩, by rw [e0, e1]; rfl, w0, w1⟩

theorem cells_implBid : Try.prog.cellsOf 42 = 2 := by kernel_rfl
set_option maxRecDepth 100000 in
theorem row_implBid {H : Type} {enc : TypeId × Value → H} {w : World} {base : Nat} {spare : Nat → Bool} {held : Bool} (fuel : Nat) (cs : List Value) (y : DataW H × List MemPlace)
    (h : DataW.trod enc Try.prog w base spare held fuel 42 cs = some y) : ∃ x : Bid, cs = bidL.cells x ∧ (Lit.int .i64 x.yield).wf = true ∧ (Lit.int .i64 x.many).wf = true := by
  obtain ⟨ys, n, _, rfl, hl, hlen, hf⟩ := DataW.trod_struct Try.underlying42 h
  rw [cells_implBid] at hl
  match cs, hl with
  | [c0, c1], _ =>
  match ys, hlen with
  | [y0, y1], _ =>
  have h0 : DataW.trod enc Try.prog w base spare held n 3 [c0] = some y0 := by simpa [Try.cellsInt] using hf 0 _ rfl
  have h1 : DataW.trod enc Try.prog w base spare held n 3 [c1] = some y1 := by simpa [Try.cellsInt] using hf 1 _ rfl
  obtain ⟨x0, e0, _, w0⟩ := DataW.trod_int Try.underlying3 h0
  obtain ⟨x1, e1, _, w1⟩ := DataW.trod_int Try.underlying3 h1
  simp only [List.cons.injEq, and_true] at e0 e1
  exact ⟨⟨x0, x1⟩, by rw [e0, e1]; rfl, w0, w1⟩

end Go.Proofs.Ytecboohippbliaa
