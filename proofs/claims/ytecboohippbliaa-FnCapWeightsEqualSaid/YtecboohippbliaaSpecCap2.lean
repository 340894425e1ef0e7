/- The reference's CapWeights for all arguments. -/
import Derived.Test.YtecboohippbliaaRows
import Derived.Test.YtecboohippbliaaBase
import Derived.Test.YtecboohippbliaaSpecCap
namespace Go.Proofs.Ytecboohippbliaa
open Go.RowKit

theorem cap_no2 (xs : List Int) (lim : Int) (h1 : holdersOk xs = true) (h2 : intsIn 0 1000 xs = true) (h3 : tot xs = 1000) (h4 : withinB lim 0 1000 = true) (h5 : 1000 ≤ lim * xs.length) : capOk xs lim = true := by
  unfold holdersOk at h1
  simp only [Bool.and_eq_true] at h1
  exact cap_no xs lim h1.1 h4 h3 h5 h2

set_option maxRecDepth 100000 in
set_option maxHeartbeats 1000000 in
theorem SpecCapWeights_any (a : Option Addr) (n cap : Nat) (xs : List Int) (lim : Int) (w : World) (hs : Sl intL w a n xs) :
    Calls Try.prog 31 #[.slice a n cap, .int .i64 lim] w fun e w' => ∃ a' n' cap', e = .returned (.slice a' n' cap') ∧ Ow intL w' w.heap.size a' n' (capWeightsF xs lim) ∧ n' ≤ cap' ∧ w.grownBy w' none := by
  by_cases hok : capOk xs lim = true
  · refine (SpecCapOk_any a n cap xs lim w hs hok).mono ?_
    rintro e w' ⟨a', cap', rfl, ho, hc, hg⟩
    exact ⟨a', n, cap', rfl, by unfold capWeightsF; rw [if_pos hok]; exact ho, hc, hg⟩
  · have Hfin : Hid (capWeightsF xs lim = []) := hid (by unfold capWeightsF; rw [if_neg hok])
    have hno := cap_no2 xs lim
    have hl := hs.len
    have Hs := hid hs; clear hs
    by_cases h1 : holdersOk xs = true
    · have hn : n ≤ 8 := by have := (holders_facts xs h1).2.1; omega
      by_cases h2 : intsIn 0 1000 xs = true
      · by_cases h3 : tot xs = 1000
        · have H3 := hid h3
          by_cases h4 : withinB lim 0 1000 = true
          · have h2b := (within_iff' _ _ _).1 h4
            have h5 : lim * (n : Int) ≤ 1000 * n := Int.mul_le_mul_of_nonneg_right h2b.2 (by omega)
            have h6 : 0 ≤ lim * (n : Int) := Int.mul_nonneg h2b.1 (by omega)
            have h7 : lim * (n : Int) ≤ 8000 := by omega
            have h8 : ¬ 1000 ≤ lim * (n : Int) := fun h => hok (hno h1 h2 h3 h4 (by rw [hl]; exact h))
            have hlt : decide (lim * (n : Int) < 1000) = true := by simp; omega
            clear hno hok h3 h5 h8 hl
            go_enter Try.func31, Try.ntmps31
            go_wp2_with fail
            refine (validHolders_any _ n cap xs w Hs.out).mono ?_
            rintro e w1 ⟨rfl, rfl⟩
            rw [h1]
            go_wp2_with fail
            refine (allIn_any _ n cap xs 0 1000 w Hs.out).mono ?_
            rintro e w1 ⟨rfl, rfl⟩
            rw [h2]
            go_wp2_with fail
            refine (spectotal_any _ n cap xs w Hs.out).mono ?_
            rintro e w1 ⟨rfl, rfl⟩
            rw [H3.out]
            go_wp2_with fail
            refine (inRange_any _ _ _ _).mono ?_
            rintro e w2 ⟨rfl, rfl⟩
            rw [h4]
            go_wp2_with fail
            go_ret
            exact ⟨none, 0, 0, rfl, by rw [Hfin.out]; exact Ow.nil _ _ _ _, Nat.le_refl _, gr_refl _ _⟩
          · have h4 : withinB lim 0 1000 = false := by simpa using h4
            clear hno hok h3 hl
            go_enter Try.func31, Try.ntmps31
            go_wp2_with fail
            refine (validHolders_any _ n cap xs w Hs.out).mono ?_
            rintro e w1 ⟨rfl, rfl⟩
            rw [h1]
            go_wp2_with fail
            refine (allIn_any _ n cap xs 0 1000 w Hs.out).mono ?_
            rintro e w1 ⟨rfl, rfl⟩
            rw [h2]
            go_wp2_with fail
            refine (spectotal_any _ n cap xs w Hs.out).mono ?_
            rintro e w1 ⟨rfl, rfl⟩
            rw [H3.out]
            go_wp2_with fail
            refine (inRange_any _ _ _ _).mono ?_
            rintro e w2 ⟨rfl, rfl⟩
            rw [h4]
            go_wp2_with fail
            go_ret
            exact ⟨none, 0, 0, rfl, by rw [Hfin.out]; exact Ow.nil _ _ _ _, Nat.le_refl _, gr_refl _ _⟩
        · have hb : (tot xs != 1000) = true := by simpa using h3
          clear hno hok
          generalize htt : tot xs = tx at *
          have Htt := hid htt; clear htt h3 hl
          go_enter Try.func31, Try.ntmps31
          go_wp2_with fail
          refine (validHolders_any _ n cap xs w Hs.out).mono ?_
          rintro e w1 ⟨rfl, rfl⟩
          rw [h1]
          go_wp2_with fail
          refine (allIn_any _ n cap xs 0 1000 w Hs.out).mono ?_
          rintro e w1 ⟨rfl, rfl⟩
          rw [h2]
          go_wp2_with fail
          refine (spectotal_any _ n cap xs w Hs.out).mono ?_
          rintro e w1 ⟨rfl, rfl⟩
          rw [Htt.out]
          go_wp2_with fail
          go_ret
          exact ⟨none, 0, 0, rfl, by rw [Hfin.out]; exact Ow.nil _ _ _ _, Nat.le_refl _, gr_refl _ _⟩
      · have h2 : intsIn 0 1000 xs = false := by simpa using h2
        clear hno hok hl
        go_enter Try.func31, Try.ntmps31
        go_wp2_with fail
        refine (validHolders_any _ n cap xs w Hs.out).mono ?_
        rintro e w1 ⟨rfl, rfl⟩
        rw [h1]
        go_wp2_with fail
        refine (allIn_any _ n cap xs 0 1000 w Hs.out).mono ?_
        rintro e w1 ⟨rfl, rfl⟩
        rw [h2]
        go_wp2_with fail
        go_ret
        exact ⟨none, 0, 0, rfl, by rw [Hfin.out]; exact Ow.nil _ _ _ _, Nat.le_refl _, gr_refl _ _⟩
    · have h1 : holdersOk xs = false := by simpa using h1
      clear hno hok hl
      go_enter Try.func31, Try.ntmps31
      go_wp2_with fail
      refine (validHolders_any _ n cap xs w Hs.out).mono ?_
      rintro e w1 ⟨rfl, rfl⟩
      rw [h1]
      go_wp2_with fail
      go_ret
      exact ⟨none, 0, 0, rfl, by rw [Hfin.out]; exact Ow.nil _ _ _ _, Nat.le_refl _, gr_refl _ _⟩

end Go.Proofs.Ytecboohippbliaa
