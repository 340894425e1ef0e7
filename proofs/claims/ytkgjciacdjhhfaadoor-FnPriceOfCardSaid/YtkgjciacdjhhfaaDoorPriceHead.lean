/- What all laws of prices share, in plain Lean. -/
import Derived.Test.YtkgjciacdjhhfaaDoorRows
import Derived.Test.YtkgjciacdjhhfaaDoorBase
import Derived.Test.YtkgjciacdjhhfaaDoorPriceMore
namespace Go.Proofs.YtkgjciacdjhhfaaDoor
open Go.RowKit

theorem price_high {b : Bond} {day y : Int} (h : (priceF b day y).high ≠ 0) : runB b day = true ∧ 0 ≤ y ∧ y ≤ 100000 := by
  cases hb : priceB b day y with
  | false => rw [price_no hb] at h; exact (h rfl).elim
  | true =>
    unfold priceB at hb
    simp only [Bool.and_eq_true] at hb
    exact ⟨hb.1, (yield_facts hb.2).1, (yield_facts hb.2).2⟩
theorem price_pair {b : Bond} {day y : Int} (h : runB b day = true) (h0 : 0 ≤ y) (h1 : y ≤ 100000) : (priceF b day y).low = priceLo b day y ∧ (priceF b day y).high = priceHi b day y := by
  rw [price_in h h0 h1]; exact ⟨rfl, rfl⟩
theorem narrow_law {b : Bond} {day y : Int} (h : (priceF b day y).high ≠ 0) : (priceF b day y).high - (priceF b day y).low ≤ 10 ∧ 0 < (priceF b day y).low ∧ (priceF b day y).low ≤ (priceF b day y).high ∧ (priceF b day y).high ≤ 520000 := by
  obtain ⟨hr, h0, h1⟩ := price_high h
  have R := run_of hr
  rw [(price_pair hr h0 h1).1, (price_pair hr h0 h1).2]
  exact ⟨R.price_narrow h0 h1, (R.price_pos h0 h1).1, R.price_le h0 h1, (R.price_bd h0 h1).2⟩
end Go.Proofs.YtkgjciacdjhhfaaDoor
