/- Bids: the layout, the program's and the reference's ValidBids. -/
import Derived.Test.YtecboohippbliaaRows
import Derived.Test.YtecboohippbliaaBase
import Derived.Test.YtecboohippbliaaFamBid
namespace Go.Proofs.Ytecboohippbliaa
open Go.RowKit

def withinB (n lo hi : Int) : Bool := decide (lo ≤ n) && decide (n ≤ hi)

theorem within_any (n lo hi : Int) (w : World) :
    Calls Try.prog 48 #[.int .i64 n, .int .i64 lo, .int .i64 hi] w fun e w' => e = .returned (.bool (withinB n lo hi)) ∧ w = w' := by
  go_enter Try.func48, Try.ntmps48
  go_wp2
  all_goals (go_ret; refine ⟨ret_bool ?_, rfl⟩; unfold withinB; simp [*] <;> omega)

theorem inRange_any (n lo hi : Int) (w : World) :
    Calls Try.prog 44 #[.int .i64 n, .int .i64 lo, .int .i64 hi] w fun e w' => e = .returned (.bool (withinB n lo hi)) ∧ w = w' := by
  go_enter Try.func44, Try.ntmps44
  go_wp2
  all_goals (go_ret; refine ⟨ret_bool ?_, rfl⟩; unfold withinB; simp [*] <;> omega)

theorem rateValid_any (n : Int) (w : World) :
    Calls Try.prog 90 #[.int .i64 n] w fun e w' => e = .returned (.bool (withinB n 0 3000)) ∧ w = w' := by
  go_enter Try.func90, Try.ntmps90
  go_wp2_with (go_at_call 48; refine (within_any _ _ _ _).mono ?_; rintro e w' ⟨rfl, rfl⟩)
  go_ret
  exact ⟨rfl, rfl⟩

def Bid.okB (b : Bid) : Bool := withinB b.yield 0 3000 && withinB b.many 1 9999
def bidsOk (xs : List Bid) : Bool := decide (xs.length ≤ 8) && xs.all Bid.okB

theorem ValidBids1_any (b : Bid) (w : World) :
    Calls Try.prog 89 #[.agg #[.int .i64 b.yield, .int .i64 b.many]] w fun e w' => e = .returned (.bool (!b.okB)) ∧ w.grownBy w' none := by
  go_enter Try.func89, Try.ntmps89
  go_wp2_with (first | (go_at_call 48; refine (within_any _ _ _ _).mono ?_; rintro e w' ⟨rfl, rfl⟩) | (go_at_call 90; refine (rateValid_any _ _).mono ?_; rintro e w' ⟨rfl, rfl⟩))
  all_goals (go_ret; exact ⟨by simp [Bid.okB, *], gr_alloc (gr_refl _ _) _⟩)

set_option maxRecDepth 100000 in
set_option maxHeartbeats 400000 in
theorem IndexFuncBids_any (a : Option Addr) (n cap : Nat) (xs : List Bid) (w : World) (hs : Sl bidL w a n xs) :
    Calls Try.prog 96 #[.slice a n cap, .func (.func 89) #[] #[]] w fun e w' => ∃ i : Int, e = .returned (.int .i64 i) ∧ (decide (0 ≤ i)) = xs.any (fun b => !b.okB) ∧ w.grownBy w' none := by
  have hbig := hs.big
  unfold maxLen at hbig
  have Hs := hid hs; clear hs
  go_enter Try.func96, Try.ntmps96
  go_wp2_with fail
  go_loopw [8] (fun i wr => ∃ k : Nat, k ≤ n ∧ i = .int .i64 k ∧ (xs.take k).any (fun b => !b.okB) = false ∧ w.grownBy wr none) (fun i wr => n - (intOf i).toNat)
  case atStart => exact ⟨0, by omega, rfl, rfl, gr_refl _ _⟩
  case round =>
    obtain ⟨k, hk, rfl, hall, hb⟩ := hrel
    have Hall := hid hall; clear hall
    by_cases hlt : k < n
    · obtain ⟨b, off, x, rfl, hxk, h1, h2⟩ := bid_at (Hs.out.keep0 hb) k hlt
      have Hb := hid hb; clear hb
      have Hxk := hid hxk; clear hxk
      go_wp2_with (go_at_call 89; refine (ValidBids1_any x _).mono ?_; rintro e w1 ⟨rfl, hb1⟩)
      · go_ret
        exact ⟨k, rfl, by rw [any_true _ _ (k+1)]; · simp
                          rw [take_any _ _ _ _ Hxk.out, Hall.out, Bool.false_or]; assumption, gr_trans0 Hb.out hb1⟩
      · go_roundw
        case rel => exact ⟨k+1, by omega, by go_num, by rw [take_any _ _ _ _ Hxk.out, Hall.out, Bool.false_or]; assumption, gr_trans0 Hb.out hb1⟩
        case measure => simp [intOf]; omega
    · have Hb := hid hb; clear hb
      go_wp2
      go_ret
      obtain rfl : k = n := by omega
      exact ⟨-1, rfl, by rw [take_len _ _ Hs.out.len] at Hall; rw [Hall.out]; rfl, Hb.out⟩

theorem ContainsFuncBids_any (a : Option Addr) (n cap : Nat) (xs : List Bid) (w : World) (hs : Sl bidL w a n xs) :
    Calls Try.prog 88 #[.slice a n cap, .func (.func 89) #[] #[]] w fun e w' => e = .returned (.bool (xs.any (fun b => !b.okB))) ∧ w.grownBy w' none := by
  go_enter Try.func88, Try.ntmps88
  go_wp2_with fail
  refine (IndexFuncBids_any a n cap xs w hs).mono ?_
  rintro e w' ⟨i, rfl, hi, hg⟩
  have Hi := hid hi; clear hi
  go_wp2
  go_ret
  exact ⟨ret_bool Hi.out, hg⟩

theorem ValidBids_any (a : Option Addr) (n cap : Nat) (xs : List Bid) (w : World) (hs : Sl bidL w a n xs) :
    Calls Try.prog 79 #[.slice a n cap] w fun e w' => e = .returned (.bool (bidsOk xs)) ∧ w.grownBy w' none := by
  have hl := hs.len
  have Hl := hid hl; clear hl
  have Hs := hid hs; clear hs
  by_cases hn : n ≤ 8
  · go_enter Try.func79, Try.ntmps79
    go_wp2_with fail
    refine (ContainsFuncBids_any a n cap xs w Hs.out).mono ?_
    rintro e w' ⟨rfl, hg⟩
    go_wp2
    go_ret
    refine ⟨ret_bool ?_, hg⟩
    unfold bidsOk
    rw [Hl.out, decide_eq_true hn, Bool.true_and, any_not, Bool.not_not]
  · go_enter Try.func79, Try.ntmps79
    go_wp2_with fail
    go_ret
    exact ⟨ret_bool (by unfold bidsOk; rw [Hl.out]; simp [hn]), gr_refl _ _⟩

theorem validBids_any (a : Option Addr) (n cap : Nat) (xs : List Bid) (w : World) (hs : Sl bidL w a n xs) :
    Calls Try.prog 68 #[.slice a n cap] w fun e w' => e = .returned (.bool (bidsOk xs)) ∧ w = w' := by
  have hbig := hs.big
  unfold maxLen at hbig
  have Hs := hid hs; clear hs
  go_enter Try.func68, Try.ntmps68
  go_wp2_with fail
  go_loop [3] (fun i => ∃ k : Nat, k ≤ n ∧ i = .int .i64 k ∧ (xs.take k).all Bid.okB = true) (fun i => n - (intOf i).toNat)
  case atStart => exact ⟨0, by omega, rfl, rfl⟩
  case round =>
    obtain ⟨k, hk, rfl, hall⟩ := hrel
    have Hall := hid hall; clear hall
    by_cases hlt : k < n
    · obtain ⟨b, off, x, rfl, hxk, h1, h2⟩ := bid_at Hs.out k hlt
      have Hxk := hid hxk; clear hxk
      go_wp2_with (go_at_call 44; refine (inRange_any _ _ _ _).mono ?_; rintro e w' ⟨rfl, rfl⟩)
      · go_ret
        exact ⟨ret_bool (by unfold bidsOk; rw [all_false _ _ (k+1)]; · simp
                            rw [take_all _ _ _ _ Hxk.out, Hall.out]; go_tidy; simp_all [Bid.okB]), rfl⟩
      · go_round
        case rel => exact ⟨k+1, by omega, by go_num, by rw [take_all _ _ _ _ Hxk.out, Hall.out]; go_tidy; simp_all [Bid.okB]⟩
        case measure => simp [intOf]; omega
      · go_ret
        exact ⟨ret_bool (by unfold bidsOk; rw [all_false _ _ (k+1)]; · simp
                            rw [take_all _ _ _ _ Hxk.out, Hall.out]; go_tidy; simp_all [Bid.okB]), rfl⟩
    · go_wp2
      go_ret
      obtain rfl : k = n := by omega
      have hl := Hs.out.len
      rw [take_len _ _ hl] at Hall
      exact ⟨ret_bool (by unfold bidsOk; rw [Hall.out, hl, Bool.and_true]; exact decide_eq_decide.2 (by omega)), rfl⟩


end Go.Proofs.Ytecboohippbliaa
