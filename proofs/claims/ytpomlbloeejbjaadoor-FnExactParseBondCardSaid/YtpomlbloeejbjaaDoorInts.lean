/- Slices of ints: comparison, sums, marks. -/
import Derived.Test.YtpomlbloeejbjaaDoorRows
import Derived.Test.YtpomlbloeejbjaaDoorBase
import Derived.Deep.QuietTactic
import Derived.BigQuiet
namespace Go.Proofs.YtpomlbloeejbjaaDoor
open Go.RowKit


def sumI : List Int → Int
  | [] => 0
  | x :: xs => x + sumI xs

theorem sumI_append (xs ys : List Int) : sumI (xs ++ ys) = sumI xs + sumI ys := by
  induction xs with
  | nil => simp [sumI]
  | cons x xs ih => simp only [List.cons_append, sumI, ih]; omega

theorem sumI_take (xs : List Int) (k : Nat) (x : Int) (hx : xs[k]? = some x) : sumI (xs.take (k + 1)) = sumI (xs.take k) + x := by
  rw [take_snoc _ _ _ hx, sumI_append]; simp [sumI]

theorem sumI_bound (xs : List Int) (lo hi : Int) (h : ∀ x ∈ xs, lo ≤ x ∧ x ≤ hi) : lo * xs.length ≤ sumI xs ∧ sumI xs ≤ hi * xs.length := by
  induction xs with
  | nil => simp [sumI]
  | cons x xs ih =>
    have h1 := h x (by simp)
    have h2 := ih (fun y hy => h y (List.mem_cons_of_mem _ hy))
    simp only [sumI, List.length_cons]
    push_cast
    rw [Int.mul_add, Int.mul_add, Int.mul_one, Int.mul_one]
    omega

/-- k, k+1, .. -/
def upFrom (m : Int) : Nat → List Int
  | 0 => []
  | n + 1 => m :: upFrom (m + 1) n

theorem upFrom_len (m : Int) (n : Nat) : (upFrom m n).length = n := by
  induction n generalizing m with
  | zero => rfl
  | succ n ih => simp [upFrom, ih]

theorem upFrom_at (m : Int) (n k : Nat) (h : k < n) : (upFrom m n)[k]? = some (m + k) := by
  induction n generalizing m k with
  | zero => omega
  | succ n ih =>
    cases k with
    | zero => simp [upFrom]
    | succ k =>
      rw [upFrom, List.getElem?_cons_succ, ih (m + 1) k (by omega)]
      congr 1; push_cast; omega



end Go.Proofs.YtpomlbloeejbjaaDoor
