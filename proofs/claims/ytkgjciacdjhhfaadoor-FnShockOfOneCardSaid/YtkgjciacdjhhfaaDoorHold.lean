/- Holders: validity of lists of ints, in the program and in the reference. -/
import Derived.Test.YtkgjciacdjhhfaaDoorRows
import Derived.Test.YtkgjciacdjhhfaaDoorBase
import Derived.Test.YtkgjciacdjhhfaaDoorWithin
import Derived.Test.YtkgjciacdjhhfaaDoorInts
namespace Go.Proofs.YtkgjciacdjhhfaaDoor
open Go.RowKit

def intsIn (lo hi : Int) (xs : List Int) : Bool := xs.all fun x => withinB x lo hi
def holdersOk (xs : List Int) : Bool := withinB xs.length 1 8 && intsIn 0 9999 xs

theorem allIn_any (a : Option Addr) (n cap : Nat) (xs : List Int) (lo hi : Int) (w : World) (hs : Sl intL w a n xs) :
    Calls Tryd.prog 43 #[.slice a n cap, .int .i64 lo, .int .i64 hi] w fun e w' => e = .returned (.bool (intsIn lo hi xs)) ∧ w = w' := by
  have hbig := hs.big
  unfold maxLen at hbig
  have Hs := hid hs; clear hs
  go_enter Tryd.func43, Tryd.ntmps43
  go_wp2_with fail
  go_loop [7] (fun i => ∃ k : Nat, k ≤ n ∧ i = .int .i64 k ∧ intsIn lo hi (xs.take k) = true) (fun i => n - (intOf i).toNat)
  case atStart => exact ⟨0, by omega, rfl, rfl⟩
  case round =>
    obtain ⟨k, hk, rfl, hall⟩ := hrel
    have Hall := hid hall; clear hall
    by_cases hlt : k < n
    · obtain ⟨b, off, x, rfl, hxk, h1⟩ := int_at Hs.out k hlt
      have Hxk := hid hxk; clear hxk
      by_cases hx : withinB x lo hi = true
      · go_wp2_with (go_at_call 41; refine (inRange_any _ _ _ _).mono ?_; rintro e w' ⟨rfl, rfl⟩)
        go_round
        case rel =>
          refine ⟨k+1, by omega, by go_num, ?_⟩
          have h := Hall.out
          unfold intsIn at h ⊢
          rw [take_all _ _ _ _ Hxk.out, h, hx]; rfl
        case measure => simp [intOf]; omega
      · have hx' : withinB x lo hi = false := by simpa using hx
        clear hx
        have Hfin : Hid (intsIn lo hi xs = false) := hid (by
          have h := Hall.out
          unfold intsIn at h ⊢
          exact all_false _ _ (k+1) (by rw [take_all _ _ _ _ Hxk.out, h, hx']; rfl))
        go_wp2_with (go_at_call 41; refine (inRange_any _ _ _ _).mono ?_; rintro e w' ⟨rfl, rfl⟩)
        go_ret
        exact ⟨ret_bool Hfin.out.symm, rfl⟩
    · have Hfin : Hid (intsIn lo hi xs = true) := by
        obtain rfl : k = n := by omega
        have h := Hall.out
        rw [take_len _ _ Hs.out.len] at h
        exact hid h
      go_wp2
      go_ret
      exact ⟨ret_bool Hfin.out.symm, rfl⟩



end Go.Proofs.YtkgjciacdjhhfaaDoor
