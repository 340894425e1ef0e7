/- Bond: its layout in memory, and what the exact laws do with it: copies, comparison, marks. -/
import Derived.Test.YtpomlbloeejbjaaDoorRows
import Derived.Test.YtpomlbloeejbjaaDoorBase
import Derived.StillTailTactics
namespace Go.Proofs.YtpomlbloeejbjaaDoor
open Go.RowKit

structure Bond where
  start : Int
  stop : Int
  months : Int
  rate : Int
  deriving DecidableEq

def bondL : Lay Bond := ⟨4, fun b => [.int .i64 b.start, .int .i64 b.stop, .int .i64 b.months, .int .i64 b.rate], fun _ => rfl⟩

theorem bond_at {w : World} {a : Option Addr} {n : Nat} {xs : List Bond} (h : Sl bondL w a n xs) (k : Nat) (hk : k < n) :
    ∃ b off x, a = some ⟨b, off, none⟩ ∧ xs[k]? = some x ∧ w.cell? ⟨b, off + k * 4, none⟩ = some (.int .i64 x.start) ∧ w.cell? ⟨b, off + k * 4 + 1, none⟩ = some (.int .i64 x.stop) ∧ w.cell? ⟨b, off + k * 4 + 2, none⟩ = some (.int .i64 x.months) ∧ w.cell? ⟨b, off + k * 4 + 3, none⟩ = some (.int .i64 x.rate) := by
  obtain ⟨b, off, x, ha, hx, _, hc⟩ := h.at k hk
  exact ⟨b, off, x, ha, hx, hc 0 _ rfl, hc 1 _ rfl, hc 2 _ rfl, hc 3 _ rfl⟩

theorem toBond_any (x : Bond) (w : World) :
    Calls Tryd.prog 20 #[.agg #[.int .i64 x.start, .int .i64 x.stop, .int .i64 x.months, .int .i64 x.rate]] w fun e w' => e = .returned (.agg #[.int .i64 x.start, .int .i64 x.stop, .int .i64 x.months, .int .i64 x.rate]) ∧ w.grownBy w' none := by
  go_enter Tryd.func20, Tryd.ntmps20
  go_wp2
  exact bodyPost_ret (v := .agg #[.int .i64 x.start, .int .i64 x.stop, .int .i64 x.months, .int .i64 x.rate]) (by simp [results, Tryd.results20, go_sem]) rfl ⟨rfl, by repeat (first | exact gr_refl _ _ | apply gr_alloc | refine gr_setCell ?_ (.inr (by simp)) _)⟩
theorem eqBond_any (x y : Bond) (w : World) :
    Calls Tryd.prog 25 #[.agg #[.int .i64 x.start, .int .i64 x.stop, .int .i64 x.months, .int .i64 x.rate], .agg #[.int .i64 y.start, .int .i64 y.stop, .int .i64 y.months, .int .i64 y.rate]] w fun e w' => e = .returned (.bool (decide (x = y))) ∧ w.grownBy w' none := by
  obtain ⟨x0, x1, x2, x3⟩ := x
  obtain ⟨y0, y1, y2, y3⟩ := y
  go_enter Tryd.func25, Tryd.ntmps25
  go_wp2
  all_goals go_ret
  all_goals (refine ⟨ret_bool ?_, by repeat (first | exact gr_refl _ _ | apply gr_alloc)⟩; go_tidy; simp_all)

end Go.Proofs.YtpomlbloeejbjaaDoor
