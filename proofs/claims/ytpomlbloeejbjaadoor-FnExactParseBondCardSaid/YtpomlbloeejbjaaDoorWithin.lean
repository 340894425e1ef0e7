/- Ranges of numbers: the program's within, the reference's inRange, and what is built of them. -/
import Derived.Test.YtpomlbloeejbjaaDoorRows
import Derived.Test.YtpomlbloeejbjaaDoorBase
namespace Go.Proofs.YtpomlbloeejbjaaDoor
open Go.RowKit

def withinB (n lo hi : Int) : Bool := decide (lo ≤ n) && decide (n ≤ hi)
theorem within_iff' (n lo hi : Int) : withinB n lo hi = true ↔ lo ≤ n ∧ n ≤ hi := by
  unfold withinB; simp

theorem within_any (n lo hi : Int) (w : World) :
    Calls Tryd.prog 41 #[.int .i64 n, .int .i64 lo, .int .i64 hi] w fun e w' => e = .returned (.bool (withinB n lo hi)) ∧ w = w' := by
  go_enter Tryd.func41, Tryd.ntmps41
  go_wp2
  all_goals (go_ret; refine ⟨ret_bool ?_, rfl⟩; unfold withinB; simp [*] <;> omega)

theorem inRange_any (n lo hi : Int) (w : World) :
    Calls Tryd.prog 57 #[.int .i64 n, .int .i64 lo, .int .i64 hi] w fun e w' => e = .returned (.bool (withinB n lo hi)) ∧ w = w' := by
  go_enter Tryd.func57, Tryd.ntmps57
  go_wp2
  all_goals (go_ret; refine ⟨ret_bool ?_, rfl⟩; unfold withinB; simp [*] <;> omega)

theorem rateValid_any (n : Int) (w : World) :
    Calls Tryd.prog 51 #[.int .i64 n] w fun e w' => e = .returned (.bool (withinB n 0 3000)) ∧ w = w' := by
  go_enter Tryd.func51, Tryd.ntmps51
  go_wp2_with (go_at_call 41; refine (within_any _ _ _ _).mono ?_; rintro e w' ⟨rfl, rfl⟩)
  go_ret
  exact ⟨rfl, rfl⟩

theorem dayValid_any (n : Int) (w : World) :
    Calls Tryd.prog 35 #[.int .i64 n] w fun e w' => e = .returned (.bool (withinB n 0 36524)) ∧ w = w' := by
  go_enter Tryd.func35, Tryd.ntmps35
  go_wp2_with (go_at_call 41; refine (within_any _ _ _ _).mono ?_; rintro e w' ⟨rfl, rfl⟩)
  go_ret
  exact ⟨rfl, rfl⟩

/-- A quotient rounded down. -/
theorem floor_eq (a b : Int) (hb : 0 < b) : a / b = if a.tmod b < 0 then a.tdiv b - 1 else a.tdiv b := by
  have h1 := Int.mul_tdiv_add_tmod a b
  have h2 := Int.mul_ediv_add_emod a b
  have h3 := Int.emod_nonneg a (b := b) (by omega)
  have h4 := Int.emod_lt_of_pos a hb
  have h5 : a.tmod b < b := Int.tmod_lt_of_pos a hb
  by_cases h0 : 0 ≤ a
  · have h6 := Int.tmod_nonneg b h0
    rw [if_neg (by omega), Int.tdiv_eq_ediv_of_nonneg h0]
  · have h7 : -b < a.tmod b := by
      have := Int.tmod_lt_of_pos (-a) hb
      rw [Int.neg_tmod] at this
      omega
    split
    · rename_i hneg
      have e : b * (a.tdiv b - 1) + (a.tmod b + b) = a := by rw [Int.mul_sub]; omega
      have h8 : b * (a / b) + a % b = b * (a.tdiv b - 1) + (a.tmod b + b) := by omega
      have h9 : b * (a / b - (a.tdiv b - 1)) < b * 1 := by rw [Int.mul_sub]; omega
      have h10 : b * (a.tdiv b - 1 - a / b) < b * 1 := by rw [Int.mul_sub]; omega
      have h11 := Int.lt_of_mul_lt_mul_left h9 (by omega)
      have h12 := Int.lt_of_mul_lt_mul_left h10 (by omega)
      omega
    · rename_i hpos
      have h9 : b * (a / b - a.tdiv b) < b * 1 := by rw [Int.mul_sub]; omega
      have h10 : b * (a.tdiv b - a / b) < b * 1 := by rw [Int.mul_sub]; omega
      have h11 := Int.lt_of_mul_lt_mul_left h9 (by omega)
      have h12 := Int.lt_of_mul_lt_mul_left h10 (by omega)
      omega

theorem floorDiv_any (a b : Int) (w : World) (hb : 0 < b) (hb1 : b ≤ 4611686018427387904) (ha0 : -4611686018427387904 ≤ a) (ha1 : a ≤ 4611686018427387904) :
    Calls Tryd.prog 91 #[.int .i64 a, .int .i64 b] w fun e w' => e = .returned (.int .i64 (a / b)) ∧ w = w' := by
  have Hf := hid (floor_eq a b hb)
  have hq : -4611686018427387904 ≤ a.tdiv b ∧ a.tdiv b ≤ 4611686018427387904 := by
    have h2 := Int.natAbs_tdiv_le_natAbs a b
    omega
  obtain ⟨hq0, hq1⟩ := hq
  by_cases h0 : 0 ≤ a
  · have hm := Int.emod_nonneg a (b := b) (by omega)
    have He := hid (Int.tdiv_eq_ediv_of_nonneg (b := b) h0)
    go_enter Tryd.func91, Tryd.ntmps91
    go_wp2_with fail
    go_ret
    exact ⟨ret_int He.out, rfl⟩
  · have h00 : a < 0 := by omega
    clear h0
    go_enter Tryd.func91, Tryd.ntmps91
    go_wp2_with fail
    · go_ret
      have hn : a.tmod b < 0 := by assumption
      exact ⟨ret_int (by rw [Hf.out, if_pos hn]), rfl⟩
    · go_ret
      have hn : 0 ≤ a.tmod b := by assumption
      exact ⟨ret_int (by rw [Hf.out, if_neg (by omega)]), rfl⟩



end Go.Proofs.YtpomlbloeejbjaaDoor
