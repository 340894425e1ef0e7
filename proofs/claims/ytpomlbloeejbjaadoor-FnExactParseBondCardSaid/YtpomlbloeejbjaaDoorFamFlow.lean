/- Flow: its layout in memory, and what the exact laws do with it: copies, comparison, marks. -/
import Derived.Test.YtpomlbloeejbjaaDoorRows
import Derived.Test.YtpomlbloeejbjaaDoorBase
import Derived.StillTailTactics
namespace Go.Proofs.YtpomlbloeejbjaaDoor
open Go.RowKit

structure Flow where
  day : Int
  amount : Int
  deriving DecidableEq

def flowL : Lay Flow := ⟨2, fun b => [.int .i64 b.day, .int .i64 b.amount], fun _ => rfl⟩

theorem flow_at {w : World} {a : Option Addr} {n : Nat} {xs : List Flow} (h : Sl flowL w a n xs) (k : Nat) (hk : k < n) :
    ∃ b off x, a = some ⟨b, off, none⟩ ∧ xs[k]? = some x ∧ w.cell? ⟨b, off + k * 2, none⟩ = some (.int .i64 x.day) ∧ w.cell? ⟨b, off + k * 2 + 1, none⟩ = some (.int .i64 x.amount) := by
  obtain ⟨b, off, x, ha, hx, _, hc⟩ := h.at k hk
  exact ⟨b, off, x, ha, hx, hc 0 _ rfl, hc 1 _ rfl⟩


end Go.Proofs.YtpomlbloeejbjaaDoor
