/- The reference's AllotBids, for all arguments. -/
import Derived.Test.YtecboohippbliaaRows
import Derived.Test.YtecboohippbliaaBase
import Derived.Test.YtecboohippbliaaSpecAllot
namespace Go.Proofs.Ytecboohippbliaa
open Go.RowKit

theorem SpecAllotBids_any (a : Option Addr) (n cap : Nat) (xs : List Bid) (m : Int) (w : World) (hs : Sl bidL w a n xs) :
    Calls Try.prog 42 #[.slice a n cap, .int .i64 m] w fun e w' => ∃ a' n' cap', e = .returned (.slice a' n' cap') ∧ Ow intL w' w.heap.size a' n' (allotBidsF xs m) ∧ n' ≤ cap' ∧ w.grownBy w' none := by
  have Hs := hid hs; clear hs
  have Hg0 := hid (gr_alloc (gr_alloc (gr0 w) (Obj.cells #[] 3)) (Obj.cells #[] 3))
  by_cases hb : bidsOk xs = true
  · by_cases hw : withinB m 1 1000000000 = true
    · have h : auctionOk xs m = true := by unfold auctionOk; rw [hb, hw]; rfl
      refine (SpecAllotOk_any a n cap xs m w Hs.out h).mono ?_
      rintro e w' ⟨a', cap', rfl, ho, hc, hg⟩
      exact ⟨a', n, cap', rfl, by unfold allotBidsF; rw [if_pos h]; exact ho, hc, hg⟩
    · have hw' : withinB m 1 1000000000 = false := by simpa using hw
      have Hfin : Hid (allotBidsF xs m = []) := hid (by unfold allotBidsF auctionOk; rw [hw']; simp)
      clear hw
      go_enter Try.func42, Try.ntmps42
      go_wp2_with fail
      refine (validBids_any a n cap xs _ (Hs.out.keep0 Hg0.out)).mono ?_
      rintro e w1 ⟨rfl, rfl⟩
      go_wp2_with fail
      refine (inRange_any _ _ _ _).mono ?_
      rintro e w' ⟨rfl, rfl⟩
      go_wp2_with fail
      go_ret
      exact ⟨none, 0, 0, rfl, by rw [Hfin.out]; exact Ow.nil _ _ _ _, Nat.le_refl _, Hg0.out⟩
  · have hb' : bidsOk xs = false := by simpa using hb
    have Hfin : Hid (allotBidsF xs m = []) := hid (by unfold allotBidsF auctionOk; rw [hb']; simp)
    clear hb
    go_enter Try.func42, Try.ntmps42
    go_wp2_with fail
    refine (validBids_any a n cap xs _ (Hs.out.keep0 Hg0.out)).mono ?_
    rintro e w1 ⟨rfl, rfl⟩
    go_wp2_with fail
    go_ret
    exact ⟨none, 0, 0, rfl, by rw [Hfin.out]; exact Ow.nil _ _ _ _, Nat.le_refl _, Hg0.out⟩

/-- What a list that is not empty says. -/
theorem allotBids_open (xs : List Bid) (m : Int) (h : 0 < (allotBidsF xs m).length) : auctionOk xs m = true ∧ allotBidsF xs m = allotF xs m ∧ (allotBidsF xs m).length = xs.length := by
  by_cases ha : auctionOk xs m = true
  · have e : allotBidsF xs m = allotF xs m := by unfold allotBidsF; rw [if_pos ha]
    exact ⟨ha, e, by rw [e, allot_len]⟩
  · unfold allotBidsF at h
    rw [if_neg ha] at h; simp at h

end Go.Proofs.Ytecboohippbliaa
