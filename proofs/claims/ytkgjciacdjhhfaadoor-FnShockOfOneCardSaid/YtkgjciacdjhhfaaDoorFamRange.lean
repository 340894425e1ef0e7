/- Range: its layout in memory, and what the exact laws do with it: copies, comparison, marks. -/
import Derived.Test.YtkgjciacdjhhfaaDoorRows
import Derived.Test.YtkgjciacdjhhfaaDoorBase
import Derived.StillTailTactics
namespace Go.Proofs.YtkgjciacdjhhfaaDoor
open Go.RowKit

structure Range where
  low : Int
  high : Int
  deriving DecidableEq

def rangeL : Lay Range := ⟨2, fun b => [.int .i64 b.low, .int .i64 b.high], fun _ => rfl⟩

theorem range_at {w : World} {a : Option Addr} {n : Nat} {xs : List Range} (h : Sl rangeL w a n xs) (k : Nat) (hk : k < n) :
    ∃ b off x, a = some ⟨b, off, none⟩ ∧ xs[k]? = some x ∧ w.cell? ⟨b, off + k * 2, none⟩ = some (.int .i64 x.low) ∧ w.cell? ⟨b, off + k * 2 + 1, none⟩ = some (.int .i64 x.high) := by
  obtain ⟨b, off, x, ha, hx, _, hc⟩ := h.at k hk
  exact ⟨b, off, x, ha, hx, hc 0 _ rfl, hc 1 _ rfl⟩

theorem eqRange_any (x y : Range) (w : World) :
    Calls Tryd.prog 21 #[.agg #[.int .i64 x.low, .int .i64 x.high], .agg #[.int .i64 y.low, .int .i64 y.high]] w fun e w' => e = .returned (.bool (decide (x = y))) ∧ w.grownBy w' none := by
  obtain ⟨x0, x1⟩ := x
  obtain ⟨y0, y1⟩ := y
  go_enter Tryd.func21, Tryd.ntmps21
  go_wp2
  all_goals go_ret
  all_goals (refine ⟨ret_bool ?_, by repeat (first | exact gr_refl _ _ | apply gr_alloc)⟩; go_tidy; simp_all)

end Go.Proofs.YtkgjciacdjhhfaaDoor
