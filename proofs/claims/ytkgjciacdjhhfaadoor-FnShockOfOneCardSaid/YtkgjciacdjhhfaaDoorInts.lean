/- Slices of ints: comparison, sums, marks. -/
import Derived.Test.YtkgjciacdjhhfaaDoorRows
import Derived.Test.YtkgjciacdjhhfaaDoorBase
import Derived.Deep.QuietTactic
import Derived.BigQuiet
namespace Go.Proofs.YtkgjciacdjhhfaaDoor
open Go.RowKit

set_option maxHeartbeats 400000 in
theorem eqIntS_any (a a2 : Option Addr) (n n2 cap cap2 : Nat) (xs ys : List Int) (w : World) (hs : Sl intL w a n xs) (ht : Sl intL w a2 n2 ys) :
    Calls Tryd.prog 29 #[.slice a n cap, .slice a2 n2 cap2] w fun e w' => e = .returned (.bool (decide (xs = ys))) ∧ w.grownBy w' none := by
  have hbig := hs.big
  have hbig2 := ht.big
  unfold maxLen at hbig hbig2
  have Hs := hid hs; clear hs
  have Ht := hid ht; clear ht
  by_cases hne : n = n2
  · subst hne
    go_enter Tryd.func29, Tryd.ntmps29
    go_wp2_with fail
    go_loopw [5] (fun i wr => ∃ k : Nat, k ≤ n ∧ i = .int .i64 k ∧ xs.take k = ys.take k ∧ w.grownBy wr none) (fun i _ => n - (intOf i).toNat)
    case atStart => exact ⟨0, by omega, rfl, by simp, gr_refl _ _⟩
    case round =>
      obtain ⟨k, hk, rfl, hall, hg⟩ := hrel
      have Hall := hid hall; clear hall
      by_cases hlt : k < n
      · obtain ⟨b, off, x, rfl, hxk, h0⟩ := int_at (Hs.out.keep0 hg) k hlt
        obtain ⟨b2, off2, y, rfl, hyk, g0⟩ := int_at (Ht.out.keep0 hg) k hlt
        have Hxk := hid hxk; clear hxk
        have Hyk := hid hyk; clear hyk
        have Hg := hid hg; clear hg
        have hk2 : (k : Int) < n := by omega
        have hk3 : (0 : Int) ≤ k := by omega
        go_wp2_with fail
        go_quiet (fail)
        have Hg2 := hid (gr_drewN Hg.out nq)
        by_cases hxy : x = y
        · subst hxy
          go_wp2
          go_roundw
          case rel => exact ⟨k + 1, by omega, by go_num, by rw [take_snoc _ _ _ Hxk.out, take_snoc _ _ _ Hyk.out, Hall.out], Hg2.out⟩
          case measure => simp [intOf]; omega
        · have hd : (x == y) = false := by simpa using hxy
          have Hfin := hid (decide_eq_false (take_ne xs ys k x y Hxk.out Hyk.out hxy))
          clear hxy
          go_wp2
          go_ret
          exact ⟨ret_bool Hfin.out.symm, Hg2.out⟩
      · have Hg := hid hg; clear hg
        have Hfin : Hid (decide (xs = ys) = true) := by
          obtain rfl : k = n := by omega
          exact hid (decide_eq_true (list_eq_take xs ys k Hs.out.len Ht.out.len Hall.out))
        go_wp2
        go_ret
        exact ⟨ret_bool Hfin.out.symm, Hg.out⟩
  · have hb : ((n : Int) == n2) = false := by simp; omega
    have Hfin : Hid (decide (xs = ys) = false) := by
      refine hid (decide_eq_false ?_)
      rintro rfl
      exact hne (Hs.out.len.symm.trans Ht.out.len)
    go_enter Tryd.func29, Tryd.ntmps29
    go_wp2
    go_ret
    exact ⟨ret_bool Hfin.out.symm, gr_refl _ _⟩


def sumI : List Int → Int
  | [] => 0
  | x :: xs => x + sumI xs

theorem sumI_append (xs ys : List Int) : sumI (xs ++ ys) = sumI xs + sumI ys := by
  induction xs with
  | nil => simp [sumI]
  | cons x xs ih => simp only [List.cons_append, sumI, ih]; omega

theorem sumI_take (xs : List Int) (k : Nat) (x : Int) (hx : xs[k]? = some x) : sumI (xs.take (k + 1)) = sumI (xs.take k) + x := by
  rw [take_snoc _ _ _ hx, sumI_append]; simp [sumI]

theorem sumI_bound (xs : List Int) (lo hi : Int) (h : ∀ x ∈ xs, lo ≤ x ∧ x ≤ hi) : lo * xs.length ≤ sumI xs ∧ sumI xs ≤ hi * xs.length := by
  induction xs with
  | nil => simp [sumI]
  | cons x xs ih =>
    have h1 := h x (by simp)
    have h2 := ih (fun y hy => h y (List.mem_cons_of_mem _ hy))
    simp only [sumI, List.length_cons]
    push_cast
    rw [Int.mul_add, Int.mul_add, Int.mul_one, Int.mul_one]
    omega

/-- k, k+1, .. -/
def upFrom (m : Int) : Nat → List Int
  | 0 => []
  | n + 1 => m :: upFrom (m + 1) n

theorem upFrom_len (m : Int) (n : Nat) : (upFrom m n).length = n := by
  induction n generalizing m with
  | zero => rfl
  | succ n ih => simp [upFrom, ih]

theorem upFrom_at (m : Int) (n k : Nat) (h : k < n) : (upFrom m n)[k]? = some (m + k) := by
  induction n generalizing m k with
  | zero => omega
  | succ n ih =>
    cases k with
    | zero => simp [upFrom]
    | succ k =>
      rw [upFrom, List.getElem?_cons_succ, ih (m + 1) k (by omega)]
      congr 1; push_cast; omega



end Go.Proofs.YtkgjciacdjhhfaaDoor
