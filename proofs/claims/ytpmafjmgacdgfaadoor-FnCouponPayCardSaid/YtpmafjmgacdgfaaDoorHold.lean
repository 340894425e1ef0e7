/- Holders: validity of lists of ints, in the program and in the reference. -/
import Derived.Test.YtpmafjmgacdgfaaDoorRows
import Derived.Test.YtpmafjmgacdgfaaDoorBase
import Derived.Test.YtpmafjmgacdgfaaDoorWithin
import Derived.Test.YtpmafjmgacdgfaaDoorInts
namespace Go.Proofs.YtpmafjmgacdgfaaDoor
open Go.RowKit

def intsIn (lo hi : Int) (xs : List Int) : Bool := xs.all fun x => withinB x lo hi
def holdersOk (xs : List Int) : Bool := withinB xs.length 1 8 && intsIn 0 9999 xs

theorem allIn_any (a : Option Addr) (n cap : Nat) (xs : List Int) (lo hi : Int) (w : World) (hs : Sl intL w a n xs) :
    Calls Tryd.prog 93 #[.slice a n cap, .int .i64 lo, .int .i64 hi] w fun e w' => e = .returned (.bool (intsIn lo hi xs)) ∧ w = w' := by
  have hbig := hs.big
  unfold maxLen at hbig
  have Hs := hid hs; clear hs
  go_enter Tryd.func93, Tryd.ntmps93
  go_wp2_with fail
  go_loop [7] (fun i => ∃ k : Nat, k ≤ n ∧ i = .int .i64 k ∧ intsIn lo hi (xs.take k) = true) (fun i => n - (intOf i).toNat)
  case atStart => exact ⟨0, by omega, rfl, rfl⟩
  case round =>
    obtain ⟨k, hk, rfl, hall⟩ := hrel
    have Hall := hid hall; clear hall
    by_cases hlt : k < n
    · obtain ⟨b, off, x, rfl, hxk, h1⟩ := int_at Hs.out k hlt
      have Hxk := hid hxk; clear hxk
      by_cases hx : withinB x lo hi = true
      · go_wp2_with (go_at_call 55; refine (inRange_any _ _ _ _).mono ?_; rintro e w' ⟨rfl, rfl⟩)
        go_round
        case rel =>
          refine ⟨k+1, by omega, by go_num, ?_⟩
          have h := Hall.out
          unfold intsIn at h ⊢
          rw [take_all _ _ _ _ Hxk.out, h, hx]; rfl
        case measure => simp [intOf]; omega
      · have hx' : withinB x lo hi = false := by simpa using hx
        clear hx
        have Hfin : Hid (intsIn lo hi xs = false) := hid (by
          have h := Hall.out
          unfold intsIn at h ⊢
          exact all_false _ _ (k+1) (by rw [take_all _ _ _ _ Hxk.out, h, hx']; rfl))
        go_wp2_with (go_at_call 55; refine (inRange_any _ _ _ _).mono ?_; rintro e w' ⟨rfl, rfl⟩)
        go_ret
        exact ⟨ret_bool Hfin.out.symm, rfl⟩
    · have Hfin : Hid (intsIn lo hi xs = true) := by
        obtain rfl : k = n := by omega
        have h := Hall.out
        rw [take_len _ _ Hs.out.len] at h
        exact hid h
      go_wp2
      go_ret
      exact ⟨ret_bool Hfin.out.symm, rfl⟩

theorem validHolders_any (a : Option Addr) (n cap : Nat) (xs : List Int) (w : World) (hs : Sl intL w a n xs) :
    Calls Tryd.prog 73 #[.slice a n cap] w fun e w' => e = .returned (.bool (holdersOk xs)) ∧ w = w' := by
  have Hs := hid hs; clear hs
  have Hl := hid Hs.out.len
  by_cases hn : withinB n 1 8 = true
  · have Hfin : Hid (holdersOk xs = intsIn 0 9999 xs) := hid (by unfold holdersOk; rw [Hl.out, hn, Bool.true_and])
    go_enter Tryd.func73, Tryd.ntmps73
    go_wp2_with fail
    refine (inRange_any _ _ _ _).mono ?_
    rintro e w' ⟨rfl, rfl⟩
    go_wp2_with fail
    refine (allIn_any a n cap xs 0 9999 w Hs.out).mono ?_
    rintro e w' ⟨rfl, rfl⟩
    go_wp2
    go_ret
    exact ⟨ret_bool Hfin.out.symm, rfl⟩
  · have hn' : withinB n 1 8 = false := by simpa using hn
    have Hfin : Hid (holdersOk xs = false) := hid (by unfold holdersOk; rw [Hl.out, hn', Bool.false_and])
    clear hn
    go_enter Tryd.func73, Tryd.ntmps73
    go_wp2_with fail
    refine (inRange_any _ _ _ _).mono ?_
    rintro e w' ⟨rfl, rfl⟩
    go_wp2
    go_ret
    exact ⟨ret_bool Hfin.out.symm, rfl⟩

theorem predHolders_any (x : Int) (w : World) :
    Calls Tryd.prog 95 #[.int .i64 x] w fun e w' => e = .returned (.bool (!withinB x 0 9999)) ∧ w = w' := by
  go_enter Tryd.func95, Tryd.ntmps95
  go_wp2_with (go_at_call 56; refine (within_any _ _ _ _).mono ?_; rintro e w' ⟨rfl, rfl⟩)
  go_ret
  exact ⟨rfl, rfl⟩

set_option maxRecDepth 100000 in
set_option maxHeartbeats 400000 in
theorem IndexFuncIntsHolders_any (a : Option Addr) (n cap : Nat) (xs : List Int) (w : World) (hs : Sl intL w a n xs) :
    Calls Tryd.prog 103 #[.slice a n cap, .func (.func 95) #[] #[]] w fun e w' => ∃ i : Int, e = .returned (.int .i64 i) ∧ (decide (0 ≤ i)) = xs.any (fun x => !withinB x 0 9999) ∧ w = w' := by
  have hbig := hs.big
  unfold maxLen at hbig
  have Hs := hid hs; clear hs
  go_enter Tryd.func103, Tryd.ntmps103
  go_wp2_with fail
  go_loop [8] (fun i => ∃ k : Nat, k ≤ n ∧ i = .int .i64 k ∧ (xs.take k).any (fun x => !withinB x 0 9999) = false) (fun i => n - (intOf i).toNat)
  case atStart => exact ⟨0, by omega, rfl, rfl⟩
  case round =>
    obtain ⟨k, hk, rfl, hall⟩ := hrel
    have Hall := hid hall; clear hall
    by_cases hlt : k < n
    · obtain ⟨b, off, x, rfl, hxk, h1⟩ := int_at Hs.out k hlt
      have Hxk := hid hxk; clear hxk
      go_wp2_with (go_at_call 95; refine (predHolders_any x _).mono ?_; rintro e w1 ⟨rfl, rfl⟩)
      · go_ret
        exact ⟨k, rfl, by rw [any_true _ _ (k+1)]; · simp
                          rw [take_any _ _ _ _ Hxk.out, Hall.out, Bool.false_or]; assumption, rfl⟩
      · go_round
        case rel => exact ⟨k+1, by omega, by go_num, by rw [take_any _ _ _ _ Hxk.out, Hall.out, Bool.false_or]; assumption⟩
        case measure => simp [intOf]; omega
    · go_wp2
      go_ret
      obtain rfl : k = n := by omega
      exact ⟨-1, rfl, by rw [take_len _ _ Hs.out.len] at Hall; rw [Hall.out]; rfl, rfl⟩

theorem ContainsFuncIntsHolders_any (a : Option Addr) (n cap : Nat) (xs : List Int) (w : World) (hs : Sl intL w a n xs) :
    Calls Tryd.prog 94 #[.slice a n cap, .func (.func 95) #[] #[]] w fun e w' => e = .returned (.bool (!intsIn 0 9999 xs)) ∧ w = w' := by
  go_enter Tryd.func94, Tryd.ntmps94
  go_wp2_with fail
  refine (IndexFuncIntsHolders_any a n cap xs w hs).mono ?_
  rintro e w' ⟨i, rfl, hi, rfl⟩
  rw [any_not] at hi
  have Hi := hid hi; clear hi
  go_wp2
  go_ret
  exact ⟨ret_bool Hi.out, rfl⟩


theorem holdersValid_any (a : Option Addr) (n cap : Nat) (xs : List Int) (w : World) (hs : Sl intL w a n xs) :
    Calls Tryd.prog 75 #[.slice a n cap] w fun e w' => e = .returned (.bool (holdersOk xs)) ∧ w = w' := by
  have Hs := hid hs; clear hs
  have Hl := hid Hs.out.len
  by_cases hn : withinB n 1 8 = true
  · have Hfin : Hid (holdersOk xs = intsIn 0 9999 xs) := hid (by unfold holdersOk; rw [Hl.out, hn, Bool.true_and])
    go_enter Tryd.func75, Tryd.ntmps75
    go_wp2_with fail
    refine (within_any _ _ _ _).mono ?_
    rintro e w' ⟨rfl, rfl⟩
    go_wp2_with fail
    refine (ContainsFuncIntsHolders_any a n cap xs w Hs.out).mono ?_
    rintro e w' ⟨rfl, rfl⟩
    go_wp2
    go_ret
    exact ⟨ret_bool (by rw [Hfin.out]), rfl⟩
  · have hn' : withinB n 1 8 = false := by simpa using hn
    have Hfin : Hid (holdersOk xs = false) := hid (by unfold holdersOk; rw [Hl.out, hn', Bool.false_and])
    clear hn
    go_enter Tryd.func75, Tryd.ntmps75
    go_wp2_with fail
    refine (within_any _ _ _ _).mono ?_
    rintro e w' ⟨rfl, rfl⟩
    go_wp2
    go_ret
    exact ⟨ret_bool Hfin.out.symm, rfl⟩

end Go.Proofs.YtpmafjmgacdgfaaDoor
