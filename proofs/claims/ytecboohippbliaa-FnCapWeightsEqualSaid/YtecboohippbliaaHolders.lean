/- Holders: sums and validity of lists of ints, in the program and in the reference; copies of lists of ints. -/
import Derived.Test.YtecboohippbliaaRows
import Derived.Test.YtecboohippbliaaBase
import Derived.Test.YtecboohippbliaaInts
import Derived.Test.YtecboohippbliaaBids
import Derived.Test.YtecboohippbliaaShares2
namespace Go.Proofs.Ytecboohippbliaa
open Go.RowKit

def intsIn (lo hi : Int) (xs : List Int) : Bool := xs.all fun x => withinB x lo hi
def holdersOk (xs : List Int) : Bool := withinB xs.length 1 8 && intsIn 0 9999 xs

set_option maxRecDepth 100000 in
set_option maxHeartbeats 400000 in
theorem spectotal_any (a : Option Addr) (n cap : Nat) (xs : List Int) (w : World) (hs : Sl intL w a n xs) :
    Calls Try.prog 46 #[.slice a n cap] w fun e w' => e = .returned (.int .i64 (tot xs)) ∧ w = w' := by
  have hbig := hs.big
  unfold maxLen at hbig
  have Hs := hid hs; clear hs
  go_enter Try.func46, Try.ntmps46
  go_wp2_with fail
  go_loop [3, 4] (fun q i => ∃ (k : Nat), k ≤ n ∧ i = .int .i64 k ∧ q = .int .i64 (tot (xs.take k))) (fun _ i => n - (intOf i).toNat)
  case atStart => exact ⟨0, by omega, rfl, rfl⟩
  case round =>
    obtain ⟨k, hk, rfl, rfl⟩ := hrel
    by_cases hlt : k < n
    · obtain ⟨b, off, x, rfl, hxk, h0⟩ := int_at Hs.out k hlt
      have Hsx := hid (tot_take _ _ _ hxk)
      clear hxk
      generalize tot (xs.take k) = acc at *
      go_wp2
      go_round
      case rel => exact ⟨k + 1, by omega, by go_num, by rw [Hsx.out]⟩
      case measure => simp [intOf]; omega
    · go_wp2
      go_ret
      obtain rfl : k = n := by omega
      exact ⟨ret_int (by rw [take_len _ _ Hs.out.len]), rfl⟩

theorem allIn_any (a : Option Addr) (n cap : Nat) (xs : List Int) (lo hi : Int) (w : World) (hs : Sl intL w a n xs) :
    Calls Try.prog 55 #[.slice a n cap, .int .i64 lo, .int .i64 hi] w fun e w' => e = .returned (.bool (intsIn lo hi xs)) ∧ w = w' := by
  have hbig := hs.big
  unfold maxLen at hbig
  have Hs := hid hs; clear hs
  go_enter Try.func55, Try.ntmps55
  go_wp2_with fail
  go_loop [7] (fun i => ∃ k : Nat, k ≤ n ∧ i = .int .i64 k ∧ intsIn lo hi (xs.take k) = true) (fun i => n - (intOf i).toNat)
  case atStart => exact ⟨0, by omega, rfl, rfl⟩
  case round =>
    obtain ⟨k, hk, rfl, hall⟩ := hrel
    have Hall := hid hall; clear hall
    by_cases hlt : k < n
    · obtain ⟨b, off, x, rfl, hxk, h1⟩ := int_at Hs.out k hlt
      have Hxk := hid hxk; clear hxk
      by_cases hx : withinB x lo hi = true
      · go_wp2_with (go_at_call 44; refine (inRange_any _ _ _ _).mono ?_; rintro e w' ⟨rfl, rfl⟩)
        go_round
        case rel =>
          refine ⟨k+1, by omega, by go_num, ?_⟩
          have h := Hall.out
          unfold intsIn at h ⊢
          rw [take_all _ _ _ _ Hxk.out, h, hx]; rfl
        case measure => simp [intOf]; omega
      · have hx' : withinB x lo hi = false := by simpa using hx
        clear hx
        have Hfin : Hid (intsIn lo hi xs = false) := hid (by
          have h := Hall.out
          unfold intsIn at h ⊢
          exact all_false _ _ (k+1) (by rw [take_all _ _ _ _ Hxk.out, h, hx']; rfl))
        go_wp2_with (go_at_call 44; refine (inRange_any _ _ _ _).mono ?_; rintro e w' ⟨rfl, rfl⟩)
        go_ret
        exact ⟨ret_bool Hfin.out.symm, rfl⟩
    · have Hfin : Hid (intsIn lo hi xs = true) := by
        obtain rfl : k = n := by omega
        have h := Hall.out
        rw [take_len _ _ Hs.out.len] at h
        exact hid h
      go_wp2
      go_ret
      exact ⟨ret_bool Hfin.out.symm, rfl⟩

theorem validHolders_any (a : Option Addr) (n cap : Nat) (xs : List Int) (w : World) (hs : Sl intL w a n xs) :
    Calls Try.prog 45 #[.slice a n cap] w fun e w' => e = .returned (.bool (holdersOk xs)) ∧ w = w' := by
  have Hs := hid hs; clear hs
  have Hl := hid Hs.out.len
  by_cases hn : withinB n 1 8 = true
  · have Hfin : Hid (holdersOk xs = intsIn 0 9999 xs) := hid (by unfold holdersOk; rw [Hl.out, hn, Bool.true_and])
    go_enter Try.func45, Try.ntmps45
    go_wp2_with fail
    refine (inRange_any _ _ _ _).mono ?_
    rintro e w' ⟨rfl, rfl⟩
    go_wp2_with fail
    refine (allIn_any a n cap xs 0 9999 w Hs.out).mono ?_
    rintro e w' ⟨rfl, rfl⟩
    go_wp2
    go_ret
    exact ⟨ret_bool Hfin.out.symm, rfl⟩
  · have hn' : withinB n 1 8 = false := by simpa using hn
    have Hfin : Hid (holdersOk xs = false) := hid (by unfold holdersOk; rw [Hl.out, hn', Bool.false_and])
    clear hn
    go_enter Try.func45, Try.ntmps45
    go_wp2_with fail
    refine (inRange_any _ _ _ _).mono ?_
    rintro e w' ⟨rfl, rfl⟩
    go_wp2
    go_ret
    exact ⟨ret_bool Hfin.out.symm, rfl⟩

theorem predHolders_any (x : Int) (w : World) :
    Calls Try.prog 73 #[.int .i64 x] w fun e w' => e = .returned (.bool (!withinB x 0 9999)) ∧ w = w' := by
  go_enter Try.func73, Try.ntmps73
  go_wp2_with (go_at_call 48; refine (within_any _ _ _ _).mono ?_; rintro e w' ⟨rfl, rfl⟩)
  go_ret
  exact ⟨rfl, rfl⟩

set_option maxRecDepth 100000 in
set_option maxHeartbeats 400000 in
theorem IndexFuncIntsHolders_any (a : Option Addr) (n cap : Nat) (xs : List Int) (w : World) (hs : Sl intL w a n xs) :
    Calls Try.prog 77 #[.slice a n cap, .func (.func 73) #[] #[]] w fun e w' => ∃ i : Int, e = .returned (.int .i64 i) ∧ (decide (0 ≤ i)) = xs.any (fun x => !withinB x 0 9999) ∧ w = w' := by
  have hbig := hs.big
  unfold maxLen at hbig
  have Hs := hid hs; clear hs
  go_enter Try.func77, Try.ntmps77
  go_wp2_with fail
  go_loop [8] (fun i => ∃ k : Nat, k ≤ n ∧ i = .int .i64 k ∧ (xs.take k).any (fun x => !withinB x 0 9999) = false) (fun i => n - (intOf i).toNat)
  case atStart => exact ⟨0, by omega, rfl, rfl⟩
  case round =>
    obtain ⟨k, hk, rfl, hall⟩ := hrel
    have Hall := hid hall; clear hall
    by_cases hlt : k < n
    · obtain ⟨b, off, x, rfl, hxk, h1⟩ := int_at Hs.out k hlt
      have Hxk := hid hxk; clear hxk
      go_wp2_with (go_at_call 73; refine (predHolders_any x _).mono ?_; rintro e w1 ⟨rfl, rfl⟩)
      · go_ret
        exact ⟨k, rfl, by rw [any_true _ _ (k+1)]; · simp
                          rw [take_any _ _ _ _ Hxk.out, Hall.out, Bool.false_or]; assumption, rfl⟩
      · go_round
        case rel => exact ⟨k+1, by omega, by go_num, by rw [take_any _ _ _ _ Hxk.out, Hall.out, Bool.false_or]; assumption⟩
        case measure => simp [intOf]; omega
    · go_wp2
      go_ret
      obtain rfl : k = n := by omega
      exact ⟨-1, rfl, by rw [take_len _ _ Hs.out.len] at Hall; rw [Hall.out]; rfl, rfl⟩

theorem ContainsFuncIntsHolders_any (a : Option Addr) (n cap : Nat) (xs : List Int) (w : World) (hs : Sl intL w a n xs) :
    Calls Try.prog 58 #[.slice a n cap, .func (.func 73) #[] #[]] w fun e w' => e = .returned (.bool (!intsIn 0 9999 xs)) ∧ w = w' := by
  go_enter Try.func58, Try.ntmps58
  go_wp2_with fail
  refine (IndexFuncIntsHolders_any a n cap xs w hs).mono ?_
  rintro e w' ⟨i, rfl, hi, rfl⟩
  rw [any_not] at hi
  have Hi := hid hi; clear hi
  go_wp2
  go_ret
  exact ⟨ret_bool Hi.out, rfl⟩

theorem predCap_any (x : Int) (w : World) :
    Calls Try.prog 59 #[.int .i64 x] w fun e w' => e = .returned (.bool (!withinB x 0 1000)) ∧ w = w' := by
  go_enter Try.func59, Try.ntmps59
  go_wp2_with (go_at_call 48; refine (within_any _ _ _ _).mono ?_; rintro e w' ⟨rfl, rfl⟩)
  go_ret
  exact ⟨rfl, rfl⟩

set_option maxRecDepth 100000 in
set_option maxHeartbeats 400000 in
theorem IndexFuncIntsCap_any (a : Option Addr) (n cap : Nat) (xs : List Int) (w : World) (hs : Sl intL w a n xs) :
    Calls Try.prog 77 #[.slice a n cap, .func (.func 59) #[] #[]] w fun e w' => ∃ i : Int, e = .returned (.int .i64 i) ∧ (decide (0 ≤ i)) = xs.any (fun x => !withinB x 0 1000) ∧ w = w' := by
  have hbig := hs.big
  unfold maxLen at hbig
  have Hs := hid hs; clear hs
  go_enter Try.func77, Try.ntmps77
  go_wp2_with fail
  go_loop [8] (fun i => ∃ k : Nat, k ≤ n ∧ i = .int .i64 k ∧ (xs.take k).any (fun x => !withinB x 0 1000) = false) (fun i => n - (intOf i).toNat)
  case atStart => exact ⟨0, by omega, rfl, rfl⟩
  case round =>
    obtain ⟨k, hk, rfl, hall⟩ := hrel
    have Hall := hid hall; clear hall
    by_cases hlt : k < n
    · obtain ⟨b, off, x, rfl, hxk, h1⟩ := int_at Hs.out k hlt
      have Hxk := hid hxk; clear hxk
      go_wp2_with (go_at_call 59; refine (predCap_any x _).mono ?_; rintro e w1 ⟨rfl, rfl⟩)
      · go_ret
        exact ⟨k, rfl, by rw [any_true _ _ (k+1)]; · simp
                          rw [take_any _ _ _ _ Hxk.out, Hall.out, Bool.false_or]; assumption, rfl⟩
      · go_round
        case rel => exact ⟨k+1, by omega, by go_num, by rw [take_any _ _ _ _ Hxk.out, Hall.out, Bool.false_or]; assumption⟩
        case measure => simp [intOf]; omega
    · go_wp2
      go_ret
      obtain rfl : k = n := by omega
      exact ⟨-1, rfl, by rw [take_len _ _ Hs.out.len] at Hall; rw [Hall.out]; rfl, rfl⟩

theorem ContainsFuncIntsCap_any (a : Option Addr) (n cap : Nat) (xs : List Int) (w : World) (hs : Sl intL w a n xs) :
    Calls Try.prog 58 #[.slice a n cap, .func (.func 59) #[] #[]] w fun e w' => e = .returned (.bool (!intsIn 0 1000 xs)) ∧ w = w' := by
  go_enter Try.func58, Try.ntmps58
  go_wp2_with fail
  refine (IndexFuncIntsCap_any a n cap xs w hs).mono ?_
  rintro e w' ⟨i, rfl, hi, rfl⟩
  rw [any_not] at hi
  have Hi := hid hi; clear hi
  go_wp2
  go_ret
  exact ⟨ret_bool Hi.out, rfl⟩


theorem holdersValid_any (a : Option Addr) (n cap : Nat) (xs : List Int) (w : World) (hs : Sl intL w a n xs) :
    Calls Try.prog 49 #[.slice a n cap] w fun e w' => e = .returned (.bool (holdersOk xs)) ∧ w = w' := by
  have Hs := hid hs; clear hs
  have Hl := hid Hs.out.len
  by_cases hn : withinB n 1 8 = true
  · have Hfin : Hid (holdersOk xs = intsIn 0 9999 xs) := hid (by unfold holdersOk; rw [Hl.out, hn, Bool.true_and])
    go_enter Try.func49, Try.ntmps49
    go_wp2_with fail
    refine (within_any _ _ _ _).mono ?_
    rintro e w' ⟨rfl, rfl⟩
    go_wp2_with fail
    refine (ContainsFuncIntsHolders_any a n cap xs w Hs.out).mono ?_
    rintro e w' ⟨rfl, rfl⟩
    go_wp2
    go_ret
    exact ⟨ret_bool (by rw [Hfin.out]), rfl⟩
  · have hn' : withinB n 1 8 = false := by simpa using hn
    have Hfin : Hid (holdersOk xs = false) := hid (by unfold holdersOk; rw [Hl.out, hn', Bool.false_and])
    clear hn
    go_enter Try.func49, Try.ntmps49
    go_wp2_with fail
    refine (within_any _ _ _ _).mono ?_
    rintro e w' ⟨rfl, rfl⟩
    go_wp2
    go_ret
    exact ⟨ret_bool Hfin.out.symm, rfl⟩

end Go.Proofs.Ytecboohippbliaa
