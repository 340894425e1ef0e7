/- Where an auction stops: the program's way (sorted bids) and the reference's (the least yield that suffices). -/
import Derived.Test.YtecboohippbliaaRows
import Derived.Test.YtecboohippbliaaBase
import Derived.Test.YtecboohippbliaaInts
import Derived.Test.YtecboohippbliaaBids
import Derived.Test.YtecboohippbliaaSortBids
import Derived.Test.YtecboohippbliaaSharesFacts
namespace Go.Proofs.Ytecboohippbliaa
open Go.RowKit

def stopGo : List Bid → Int → Int
  | [], _ => -1
  | b :: bs, m => if m - b.many ≤ 0 then b.yield else stopGo bs (m - b.many)

def stopF (xs : List Bid) (m : Int) : Int := stopGo (isort ltY xs) m

theorem drop_at {α : Type} (xs : List α) (k : Nat) (x : α) (h : xs[k]? = some x) : xs.drop k = x :: xs.drop (k + 1) := by
  have e : xs[k]'(lt_of_at h) = x := by rw [List.getElem?_eq_getElem (lt_of_at h)] at h; exact Option.some.inj h
  rw [← e, List.getElem_cons_drop]

set_option maxRecDepth 100000 in
set_option maxHeartbeats 400000 in
theorem stop_any (a : Option Addr) (n cap : Nat) (xs : List Bid) (m : Int) (w : World) (hs : Sl bidL w a n xs) (hn : n ≤ 12) (hm : ∀ x ∈ xs, 0 ≤ x.many ∧ x.many ≤ 9999) (h1 : 1 ≤ m) (h2 : m ≤ 1000000000) :
    Calls Try.prog 67 #[.slice a n cap, .int .i64 m] w fun e w' => e = .returned (.int .i64 (stopF xs m)) ∧ w.grownBy w' none := by
  have hsa : Sl bidL (w.alloc (.cells #[.slice a n cap] 37)) a n xs := hs.keep0 (gr_alloc (gr0 _) _)
  have hca : (w.alloc (.cells #[.slice a n cap] 37)).cell? ⟨w.heap.size, 0, none⟩ = some (.slice a n cap) := (Boxed.new w _ _).cell
  have I := hid (SortedBids_any w.heap.size n cap a xs _ (by simp) hca hsa hn)
  have Hmm : Hid (∀ x ∈ isort ltY xs, 0 ≤ x.many ∧ x.many ≤ 9999) := hid (fun x hx => hm x ((isort_mem _ _ _).1 hx))
  have Hfin : Hid (stopGo (isort ltY xs) m = stopF xs m) := hid rfl
  clear hs hm hsa hca
  go_enter Try.func67, Try.ntmps67
  go_wp2_with fail
  refine (Values_any a n cap w).mono ?_
  rintro e w' ⟨rfl, rfl⟩
  go_wp2_with fail
  refine I.out.mono ?_
  rintro e w1 ⟨a1, c1, rfl, ho1, hg1⟩
  have Ho1 := hid ho1; clear ho1
  have Hg1 := hid (gr_trans0 (gr_alloc (gr0 w) _) hg1); clear hg1
  generalize isort ltY xs = S at *
  go_wp2_with fail
  go_loopw [1, 13] (fun c i wr => ∃ (k : Nat) (mc : Int), k ≤ n ∧ i = .int .i64 k ∧ c = .int .i64 mc ∧ 1 ≤ mc ∧ mc ≤ 1000000000 ∧ stopGo (S.drop k) mc = stopGo S m ∧ w1.grownBy wr none) (fun _ i _ => n - (intOf i).toNat)
  case atStart => exact ⟨0, m, by omega, rfl, rfl, h1, h2, rfl, gr_refl _ _⟩
  case round =>
    obtain ⟨k, mc, hk, rfl, rfl, hm1, hm2, hgo, hg⟩ := hrel
    have Hgo := hid hgo; clear hgo
    by_cases hlt : k < n
    · obtain ⟨b, off, x, rfl, hxk, c0, c1'⟩ := bid_at (Ho1.out.sl.keep0 hg) k hlt
      have hxb := Hmm.out x (List.mem_of_getElem? hxk)
      have Hd := hid (drop_at _ _ _ hxk)
      clear hxk
      have Hg := hid hg; clear hg
      by_cases hle : mc - x.many ≤ 0
      · have Hv : Hid (x.yield = stopF xs m) := hid (by
          rw [← Hfin.out, ← Hgo.out, Hd.out]; unfold stopGo; rw [if_pos hle])
        go_wp2
        go_ret
        exact ⟨ret_int Hv.out, gr_trans0 Hg1.out (gr_alloc Hg.out _)⟩
      · have Hv : Hid (stopGo (S.drop (k + 1)) (mc - x.many) = stopGo S m) := hid (by
          rw [← Hgo.out, Hd.out]; conv => rhs; unfold stopGo
          rw [if_neg hle])
        go_wp2
        go_roundw
        case rel => exact ⟨k + 1, mc - x.many, by omega, by go_num, rfl, by omega, by omega, Hv.out, gr_alloc Hg.out _⟩
        case measure => simp [intOf]; omega
    · have Hv : Hid (-1 = stopF xs m) := hid (by
        obtain rfl : k = n := by omega
        have h := Hgo.out
        rw [List.drop_of_length_le (by rw [Ho1.out.len]; exact Nat.le_refl _)] at h
        rw [← Hfin.out, ← h]; rfl)
      go_wp2
      go_ret
      exact ⟨ret_int Hv.out, gr_trans0 Hg1.out hg⟩

theorem bidsValid_any (a : Option Addr) (n cap : Nat) (xs : List Bid) (m : Int) (w : World) (hs : Sl bidL w a n xs) :
    Calls Try.prog 66 #[.slice a n cap, .int .i64 m] w fun e w' => e = .returned (.bool (bidsOk xs && withinB m 1 1000000000)) ∧ w.grownBy w' none := by
  by_cases h : bidsOk xs = true
  · go_enter Try.func66, Try.ntmps66
    go_wp2_with fail
    refine (ValidBids_any a n cap xs w hs).mono ?_
    rintro e w' ⟨rfl, hg⟩
    go_wp2_with fail
    refine (within_any _ _ _ _).mono ?_
    rintro e w' ⟨rfl, rfl⟩
    go_wp2_with fail
    go_ret
    exact ⟨by rw [h]; rfl, hg⟩
  · have h' : bidsOk xs = false := by simpa using h
    clear h
    go_enter Try.func66, Try.ntmps66
    go_wp2_with fail
    refine (ValidBids_any a n cap xs w hs).mono ?_
    rintro e w' ⟨rfl, hg⟩
    go_wp2_with fail
    go_ret
    exact ⟨by rw [h']; rfl, hg⟩

def auctionOk (xs : List Bid) (m : Int) : Bool := bidsOk xs && withinB m 1 1000000000
def stopYieldF (xs : List Bid) (m : Int) : Int := if auctionOk xs m = true then stopF xs m else -1

theorem within_iff2 (n lo hi : Int) : withinB n lo hi = true ↔ lo ≤ n ∧ n ≤ hi := by
  unfold withinB; simp

theorem auction_facts (xs : List Bid) (m : Int) (h : auctionOk xs m = true) : xs.length ≤ 8 ∧ 1 ≤ m ∧ m ≤ 1000000000 ∧ (∀ x ∈ xs, 0 ≤ x.yield ∧ x.yield ≤ 3000) ∧ (∀ x ∈ xs, 1 ≤ x.many ∧ x.many ≤ 9999) := by
  unfold auctionOk bidsOk at h
  simp only [Bool.and_eq_true, List.all_eq_true, decide_eq_true_eq] at h
  obtain ⟨⟨h1, h2⟩, h3⟩ := h
  have h3 := (within_iff2 _ _ _).1 h3
  have hb : ∀ x ∈ xs, (0 ≤ x.yield ∧ x.yield ≤ 3000) ∧ (1 ≤ x.many ∧ x.many ≤ 9999) := by
    intro x hx
    have := h2 x hx
    unfold Bid.okB at this
    simp only [Bool.and_eq_true] at this
    exact ⟨(within_iff2 _ _ _).1 this.1, (within_iff2 _ _ _).1 this.2⟩
  exact ⟨h1, h3.1, h3.2, fun x hx => (hb x hx).1, fun x hx => (hb x hx).2⟩

theorem StopYield_any (a : Option Addr) (n cap : Nat) (xs : List Bid) (m : Int) (w : World) (hs : Sl bidL w a n xs) :
    Calls Try.prog 35 #[.slice a n cap, .int .i64 m] w fun e w' => e = .returned (.int .i64 (stopYieldF xs m)) ∧ w.grownBy w' none := by
  have Hs := hid hs; clear hs
  by_cases h : auctionOk xs m = true
  · obtain ⟨f1, f2, f3, f4, f5⟩ := auction_facts xs m h
    have hl := Hs.out.len
    have Hfin : Hid (stopYieldF xs m = stopF xs m) := hid (by unfold stopYieldF; rw [if_pos h])
    have F5 := hid f5
    clear f4 f5
    unfold auctionOk at h
    go_enter Try.func35, Try.ntmps35
    go_wp2_with fail
    refine (bidsValid_any a n cap xs m w Hs.out).mono ?_
    rintro e w1 ⟨rfl, hg1⟩
    rw [h]
    go_wp2_with fail
    refine (stop_any a n cap xs m w1 (Hs.out.keep0 hg1) (by omega) (fun x hx => by have := F5.out x hx; omega) f2 f3).mono ?_
    rintro e w2 ⟨rfl, hg2⟩
    go_wp2_with fail
    go_ret
    exact ⟨ret_int Hfin.out.symm, gr_trans0 hg1 hg2⟩
  · have h' : auctionOk xs m = false := by simpa using h
    have Hfin : Hid (stopYieldF xs m = -1) := hid (by unfold stopYieldF; rw [if_neg h])
    clear h
    unfold auctionOk at h'
    go_enter Try.func35, Try.ntmps35
    go_wp2_with fail
    refine (bidsValid_any a n cap xs m w Hs.out).mono ?_
    rintro e w1 ⟨rfl, hg1⟩
    rw [h']
    go_wp2_with fail
    go_ret
    exact ⟨ret_int Hfin.out.symm, hg1⟩

/- The reference's way. -/
def belowF (xs : List Bid) (y : Int) : Int := sumI (xs.map fun b => if b.yield ≤ y then b.many else 0)
def bestStep (xs : List Bid) (m best : Int) (b : Bid) : Int := if m ≤ belowF xs b.yield ∧ (best < 0 ∨ b.yield < best) then b.yield else best
def bestF (xs : List Bid) (m : Int) (pre : List Bid) : Int := pre.foldl (bestStep xs m) (-1)

theorem below_bound (xs : List Bid) (y : Int) (h : ∀ x ∈ xs, 0 ≤ x.many ∧ x.many ≤ 9999) (hl : xs.length ≤ 1000) : 0 ≤ belowF xs y ∧ belowF xs y ≤ 9999000 := by
  have := sumI_bound (xs.map fun b => if b.yield ≤ y then b.many else 0) 0 9999 (fun z hz => by
    obtain ⟨b, hb, rfl⟩ := List.mem_map.1 hz
    have := h b hb
    (try dsimp only)
    split <;> omega)
  rw [List.length_map] at this
  unfold belowF
  omega

theorem below_take (xs : List Bid) (y : Int) (k : Nat) (x : Bid) (hx : xs[k]? = some x) : belowF (xs.take (k + 1)) y = belowF (xs.take k) y + if x.yield ≤ y then x.many else 0 := by
  unfold belowF
  rw [take_snoc _ _ _ hx, List.map_append, sumI_append]
  simp [sumI]

set_option maxRecDepth 100000 in
set_option maxHeartbeats 400000 in
theorem below_any (a : Option Addr) (n cap : Nat) (xs : List Bid) (y : Int) (w : World) (hs : Sl bidL w a n xs) (hn : n ≤ 1000) (hm : ∀ x ∈ xs, 0 ≤ x.many ∧ x.many ≤ 9999) :
    Calls Try.prog 83 #[.slice a n cap, .int .i64 y] w fun e w' => e = .returned (.int .i64 (belowF xs y)) ∧ w = w' := by
  have Hs := hid hs; clear hs
  have Hm := hid hm; clear hm
  go_enter Try.func83, Try.ntmps83
  go_wp2_with fail
  go_loop [5, 6] (fun q i => ∃ (k : Nat) (s : Int), k ≤ n ∧ i = .int .i64 k ∧ q = .int .i64 s ∧ s = belowF (xs.take k) y ∧ 0 ≤ s ∧ s ≤ 9999000) (fun _ i => n - (intOf i).toNat)
  case atStart => exact ⟨0, 0, by omega, rfl, rfl, rfl, by omega, by omega⟩
  case round =>
    obtain ⟨k, s, hk, rfl, rfl, hsum, hs0, hs1⟩ := hrel
    by_cases hlt : k < n
    · obtain ⟨b, off, x, rfl, hxk, c0, c1⟩ := bid_at Hs.out k hlt
      have hxb := Hm.out x (List.mem_of_getElem? hxk)
      have hbt := below_take xs y k x hxk
      rw [← hsum] at hbt
      have hbd := below_bound (xs.take (k + 1)) y (fun z hz => Hm.out z (List.mem_of_mem_take hz)) (by rw [List.length_take, Hs.out.len]; omega)
      rw [hbt] at hbd
      have Hbt := hid hbt; clear hbt hxk hsum
      by_cases hy : x.yield ≤ y
      · rw [if_pos hy] at hbd Hbt
        go_wp2
        go_round
        case rel => exact ⟨k + 1, s + x.many, by omega, by go_num, rfl, Hbt.out.symm, by omega, by omega⟩
        case measure => simp [intOf]; omega
      · rw [if_neg hy] at hbd Hbt
        go_wp2
        go_round
        case rel => exact ⟨k + 1, s, by omega, by go_num, rfl, by rw [Hbt.out, Int.add_zero], by omega, by omega⟩
        case measure => simp [intOf]; omega
    · have Hsum : Hid (s = belowF xs y) := by
        obtain rfl : k = n := by omega
        rw [take_len _ _ Hs.out.len] at hsum
        exact hid hsum
      clear hsum
      go_wp2
      go_ret
      exact ⟨ret_int Hsum.out, rfl⟩

set_option maxRecDepth 100000 in
set_option maxHeartbeats 1000000 in
theorem specstop_any (a : Option Addr) (n cap : Nat) (xs : List Bid) (m : Int) (w : World) (hs : Sl bidL w a n xs) (hn : n ≤ 1000) (hm : ∀ x ∈ xs, 0 ≤ x.many ∧ x.many ≤ 9999) :
    Calls Try.prog 69 #[.slice a n cap, .int .i64 m] w fun e w' => e = .returned (.int .i64 (bestF xs m xs)) ∧ w = w' := by
  have Hs := hid hs; clear hs
  have Hm := hid hm; clear hm
  go_enter Try.func69, Try.ntmps69
  go_wp2_with fail
  go_loop [5, 6] (fun q i => ∃ (k : Nat) (s : Int), k ≤ n ∧ i = .int .i64 k ∧ q = .int .i64 s ∧ s = bestF xs m (xs.take k)) (fun _ i => n - (intOf i).toNat)
  case atStart => exact ⟨0, -1, by omega, rfl, rfl, rfl⟩
  case round =>
    obtain ⟨k, s, hk, rfl, rfl, hsum⟩ := hrel
    by_cases hlt : k < n
    · obtain ⟨b, off, x, rfl, hxk, c0, c1⟩ := bid_at Hs.out k hlt
      have Hbt : Hid (bestF xs m (xs.take (k + 1)) = bestStep xs m s x) := hid (by
        rw [take_snoc _ _ _ hxk, hsum]; unfold bestF; rw [List.foldl_append]; rfl)
      clear hxk hsum
      go_wp2_with fail
      refine (below_any _ n cap xs x.yield w Hs.out hn Hm.out).mono ?_
      rintro e w' ⟨rfl, rfl⟩
      have Hbs : Hid (bestStep xs m s x = if m ≤ belowF xs x.yield ∧ (s < 0 ∨ x.yield < s) then x.yield else s) := hid rfl
      generalize belowF xs x.yield = v at *
      by_cases h1 : m ≤ v
      · by_cases h2 : s < 0
        · have Hv : Hid (bestF xs m (xs.take (k + 1)) = x.yield) := hid (by rw [Hbt.out, Hbs.out, if_pos ⟨h1, .inl h2⟩])
          go_wp2
          go_round
          case rel => exact ⟨k + 1, x.yield, by omega, by go_num, rfl, Hv.out.symm⟩
          case measure => simp [intOf]; omega
        · by_cases h3 : x.yield < s
          · have Hv : Hid (bestF xs m (xs.take (k + 1)) = x.yield) := hid (by rw [Hbt.out, Hbs.out, if_pos ⟨h1, .inr h3⟩])
            go_wp2
            go_round
            case rel => exact ⟨k + 1, x.yield, by omega, by go_num, rfl, Hv.out.symm⟩
            case measure => simp [intOf]; omega
          · have Hv : Hid (bestF xs m (xs.take (k + 1)) = s) := hid (by rw [Hbt.out, Hbs.out, if_neg (by omega)])
            go_wp2
            go_round
            case rel => exact ⟨k + 1, s, by omega, by go_num, rfl, Hv.out.symm⟩
            case measure => simp [intOf]; omega
      · have Hv : Hid (bestF xs m (xs.take (k + 1)) = s) := hid (by rw [Hbt.out, Hbs.out, if_neg (by omega)])
        go_wp2
        go_round
        case rel => exact ⟨k + 1, s, by omega, by go_num, rfl, Hv.out.symm⟩
        case measure => simp [intOf]; omega
    · have Hsum : Hid (s = bestF xs m xs) := by
        obtain rfl : k = n := by omega
        rw [take_len _ _ Hs.out.len] at hsum
        exact hid hsum
      clear hsum
      go_wp2
      go_ret
      exact ⟨ret_int Hsum.out, rfl⟩

def specStopYieldF (xs : List Bid) (m : Int) : Int := if auctionOk xs m = true then bestF xs m xs else -1

theorem SpecStopYield_any (a : Option Addr) (n cap : Nat) (xs : List Bid) (m : Int) (w : World) (hs : Sl bidL w a n xs) :
    Calls Try.prog 36 #[.slice a n cap, .int .i64 m] w fun e w' => e = .returned (.int .i64 (specStopYieldF xs m)) ∧ w = w' := by
  have Hs := hid hs; clear hs
  by_cases hb : bidsOk xs = true
  · by_cases hw : withinB m 1 1000000000 = true
    · have h : auctionOk xs m = true := by unfold auctionOk; rw [hb, hw]; rfl
      obtain ⟨f1, f2, f3, f4, f5⟩ := auction_facts xs m h
      have hl := Hs.out.len
      have Hfin : Hid (specStopYieldF xs m = bestF xs m xs) := hid (by unfold specStopYieldF; rw [if_pos h])
      have F5 := hid f5
      clear f4 f5 h
      go_enter Try.func36, Try.ntmps36
      go_wp2_with fail
      refine (validBids_any a n cap xs w Hs.out).mono ?_
      rintro e w1 ⟨rfl, rfl⟩
      go_wp2_with fail
      refine (inRange_any _ _ _ _).mono ?_
      rintro e w' ⟨rfl, rfl⟩
      go_wp2_with fail
      refine (specstop_any a n cap xs m w Hs.out (by omega) (fun x hx => by have := F5.out x hx; omega)).mono ?_
      rintro e w2 ⟨rfl, rfl⟩
      go_wp2_with fail
      go_ret
      exact ⟨ret_int Hfin.out.symm, rfl⟩
    · have hw' : withinB m 1 1000000000 = false := by simpa using hw
      have Hfin : Hid (specStopYieldF xs m = -1) := hid (by unfold specStopYieldF auctionOk; rw [hw']; simp)
      clear hw
      go_enter Try.func36, Try.ntmps36
      go_wp2_with fail
      refine (validBids_any a n cap xs w Hs.out).mono ?_
      rintro e w1 ⟨rfl, rfl⟩
      go_wp2_with fail
      refine (inRange_any _ _ _ _).mono ?_
      rintro e w' ⟨rfl, rfl⟩
      go_wp2_with fail
      go_ret
      exact ⟨ret_int Hfin.out.symm, rfl⟩
  · have hb' : bidsOk xs = false := by simpa using hb
    have Hfin : Hid (specStopYieldF xs m = -1) := hid (by unfold specStopYieldF auctionOk; rw [hb']; simp)
    clear hb
    go_enter Try.func36, Try.ntmps36
    go_wp2_with fail
    refine (validBids_any a n cap xs w Hs.out).mono ?_
    rintro e w1 ⟨rfl, rfl⟩
    go_wp2_with fail
    go_ret
    exact ⟨ret_int Hfin.out.symm, rfl⟩

/- The two ways agree: no program in sight. -/
def belowLtF (xs : List Bid) (y : Int) : Int := sumI (xs.map fun b => if b.yield < y then b.many else 0)
def manyF (xs : List Bid) : Int := sumI (xs.map (·.many))

theorem sum_le_of (xs : List Bid) (f g : Bid → Int) (h : ∀ x ∈ xs, f x ≤ g x) : sumI (xs.map f) ≤ sumI (xs.map g) := by
  induction xs with
  | nil => exact Int.le_refl _
  | cons x xs ih =>
    have h1 := h x (by simp)
    have h2 := ih (fun y hy => h y (List.mem_cons_of_mem _ hy))
    simp only [List.map_cons, sumI]; omega

theorem stopGo_spec (P R : List Bid) (m : Int) (hpw : (P ++ R).Pairwise fun x y => x.yield ≤ y.yield) (hm : ∀ x ∈ P ++ R, 1 ≤ x.many) (hlt : manyF P < m) :
    (∃ b ∈ P ++ R, b.yield = stopGo R (m - manyF P) ∧ m ≤ belowF (P ++ R) b.yield ∧ belowLtF (P ++ R) b.yield < m) ∨ (stopGo R (m - manyF P) = -1 ∧ manyF (P ++ R) < m) := by
  induction R generalizing P with
  | nil => right; exact ⟨rfl, by rw [List.append_nil]; exact hlt⟩
  | cons b R ih =>
    unfold stopGo
    have hP1 : manyF (P ++ [b]) = manyF P + b.many := by unfold manyF; rw [List.map_append, sumI_append]; simp [sumI]
    by_cases hle : m - manyF P - b.many ≤ 0
    · rw [if_pos hle]
      left
      obtain ⟨hp1, hp2, hp3⟩ := List.pairwise_append.1 hpw
      obtain ⟨hb1, _⟩ := List.pairwise_cons.1 hp2
      refine ⟨b, by simp, rfl, ?_, ?_⟩
      · have h1 : manyF P ≤ belowF P b.yield := by
          unfold manyF belowF
          exact sum_le_of P _ _ (fun x hx => by (try dsimp only); rw [if_pos (hp3 x hx b (by simp))]; exact Int.le_refl _)
        have h2 : 0 ≤ belowF R b.yield := by
          have := sum_le_of R (fun _ => 0) (fun c => if c.yield ≤ b.yield then c.many else 0) (fun x hx => by
            have := hm x (by simp [hx]); (try dsimp only); split <;> omega)
          have h0 : sumI (R.map fun _ => (0 : Int)) = 0 := sum_zero_of _ (fun x hx => by obtain ⟨_, _, rfl⟩ := List.mem_map.1 hx; rfl)
          unfold belowF; omega
        have h3 : belowF (P ++ b :: R) b.yield = belowF P b.yield + (b.many + belowF R b.yield) := by
          unfold belowF
          rw [List.map_append, sumI_append, List.map_cons]
          simp only [sumI]
          rw [if_pos (Int.le_refl _)]
        omega
      · have h1 : belowLtF P b.yield ≤ manyF P := by
          unfold manyF belowLtF
          exact sum_le_of P _ _ (fun x hx => by have := hm x (by simp [hx]); (try dsimp only); split <;> omega)
        have h2 : belowLtF R b.yield = 0 := by
          unfold belowLtF
          exact sum_zero_of _ (fun x hx => by
            obtain ⟨c, hc, rfl⟩ := List.mem_map.1 hx
            have := hb1 c hc
            (try dsimp only)
            rw [if_neg (by omega)])
        have h3 : belowLtF (P ++ b :: R) b.yield = belowLtF P b.yield + (0 + belowLtF R b.yield) := by
          unfold belowLtF
          rw [List.map_append, sumI_append, List.map_cons]
          simp only [sumI]
          rw [if_neg (by omega)]
        omega
    · rw [if_neg hle]
      have e : P ++ b :: R = (P ++ [b]) ++ R := by simp
      have := ih (P ++ [b]) (by rw [← e]; exact hpw) (by rw [← e]; exact hm) (by rw [hP1]; omega)
      rw [hP1, ← e, show m - (manyF P + b.many) = m - manyF P - b.many by omega] at this
      exact this

theorem belowF_perm {xs ys : List Bid} (h : xs.Perm ys) (y : Int) : belowF xs y = belowF ys y := sumI_perm (h.map _)
theorem belowLtF_perm {xs ys : List Bid} (h : xs.Perm ys) (y : Int) : belowLtF xs y = belowLtF ys y := sumI_perm (h.map _)
theorem manyF_perm {xs ys : List Bid} (h : xs.Perm ys) : manyF xs = manyF ys := sumI_perm (h.map _)

theorem isort_yields (xs : List Bid) : (isort ltY xs).Pairwise fun x y => x.yield ≤ y.yield := by
  refine isort_pw (fun x y : Bid => x.yield ≤ y.yield) (fun a b c h1 h2 => Int.le_trans h1 h2) ltY xs (List.pairwise_of_forall ?_)
  intro y x
  unfold ltY cmpI
  constructor
  · intro h
    have h := of_decide_eq_true h
    split at h
    · omega
    · split at h <;> omega
  · intro h
    have h := of_decide_eq_false h
    split at h
    · omega
    · omega

theorem stopF_spec (xs : List Bid) (m : Int) (hm : ∀ x ∈ xs, 1 ≤ x.many) (h1 : 1 ≤ m) :
    (∃ b ∈ xs, b.yield = stopF xs m ∧ m ≤ belowF xs b.yield ∧ belowLtF xs b.yield < m) ∨ (stopF xs m = -1 ∧ manyF xs < m) := by
  have hp := isort_perm ltY xs
  have h := stopGo_spec [] (isort ltY xs) m (isort_yields xs) (fun x hx => hm x ((isort_mem _ _ _).1 hx)) (by unfold manyF; simp [sumI]; omega)
  rw [show manyF [] = 0 from rfl, Int.sub_zero, List.nil_append] at h
  unfold stopF
  rcases h with ⟨b, hb, e1, e2, e3⟩ | ⟨e1, e2⟩
  · left
    exact ⟨b, (isort_mem _ _ _).1 hb, e1, by rw [← belowF_perm hp]; exact e2, by rw [← belowLtF_perm hp]; exact e3⟩
  · right
    exact ⟨e1, by rw [← manyF_perm hp]; exact e2⟩

theorem below_lt (xs : List Bid) (c y : Int) (hm : ∀ x ∈ xs, 1 ≤ x.many) (h : c < y) : belowF xs c ≤ belowLtF xs y := by
  unfold belowF belowLtF
  refine sum_le_of xs _ _ (fun x hx => ?_)
  have := hm x hx
  (try dsimp only)
  split
  · rw [if_pos (by omega)]; exact Int.le_refl _
  · split <;> omega

theorem below_many (xs : List Bid) (c : Int) (hm : ∀ x ∈ xs, 1 ≤ x.many) : belowF xs c ≤ manyF xs := by
  unfold belowF manyF
  refine sum_le_of xs _ _ (fun x hx => ?_)
  have := hm x hx
  (try dsimp only)
  split <;> omega

theorem bestF_spec (xs : List Bid) (m : Int) (pre : List Bid) (hy : ∀ x ∈ pre, 0 ≤ x.yield) :
    (bestF xs m pre = -1 ∧ ∀ c ∈ pre, belowF xs c.yield < m) ∨ (∃ b ∈ pre, b.yield = bestF xs m pre ∧ m ≤ belowF xs b.yield ∧ ∀ c ∈ pre, c.yield < b.yield → belowF xs c.yield < m) := by
  revert hy
  refine snoc_ind (P := fun pre => (∀ x ∈ pre, 0 ≤ x.yield) → ((bestF xs m pre = -1 ∧ ∀ c ∈ pre, belowF xs c.yield < m) ∨ (∃ b ∈ pre, b.yield = bestF xs m pre ∧ m ≤ belowF xs b.yield ∧ ∀ c ∈ pre, c.yield < b.yield → belowF xs c.yield < m))) (fun _ => .inl ⟨rfl, by simp⟩) (fun pre x ih hy => ?_) pre
  have hx0 := hy x (by simp)
  have e : bestF xs m (pre ++ [x]) = bestStep xs m (bestF xs m pre) x := by unfold bestF; rw [List.foldl_append]; rfl
  rw [e]
  unfold bestStep
  rcases ih (fun z hz => hy z (List.mem_append_left _ hz)) with ⟨h1, h2⟩ | ⟨b, hb, h1, h2, h3⟩
  · rw [h1]
    by_cases hc : m ≤ belowF xs x.yield
    · right
      rw [if_pos ⟨hc, .inl (by omega)⟩]
      refine ⟨x, by simp, rfl, hc, fun c hc hlt => ?_⟩
      rcases List.mem_append.1 hc with hc | hc
      · exact h2 c hc
      · simp at hc; subst hc; omega
    · left
      rw [if_neg (fun h => hc h.1)]
      refine ⟨rfl, fun c hcm => ?_⟩
      rcases List.mem_append.1 hcm with hcm | hcm
      · exact h2 c hcm
      · simp at hcm; subst hcm; omega
  · right
    have hb0 := hy b (List.mem_append_left _ hb)
    by_cases hc : m ≤ belowF xs x.yield ∧ (bestF xs m pre < 0 ∨ x.yield < bestF xs m pre)
    · rw [if_pos hc]
      have hlt : x.yield < b.yield := by have := hc.2; omega
      refine ⟨x, by simp, rfl, hc.1, fun c hcm hlt2 => ?_⟩
      rcases List.mem_append.1 hcm with hcm | hcm
      · exact h3 c hcm (by omega)
      · simp at hcm; subst hcm; omega
    · rw [if_neg hc]
      refine ⟨b, List.mem_append_left _ hb, h1, h2, fun c hcm hlt2 => ?_⟩
      rcases List.mem_append.1 hcm with hcm | hcm
      · exact h3 c hcm hlt2
      · simp at hcm; subst hcm
        by_cases hh : m ≤ belowF xs c.yield
        · exact absurd ⟨hh, .inr (by omega)⟩ hc
        · omega

theorem stop_eq (xs : List Bid) (m : Int) (hy : ∀ x ∈ xs, 0 ≤ x.yield) (hm : ∀ x ∈ xs, 1 ≤ x.many) (h1 : 1 ≤ m) : stopF xs m = bestF xs m xs := by
  rcases stopF_spec xs m hm h1 with ⟨b, hb, e1, e2, e3⟩ | ⟨e1, e2⟩
  · rcases bestF_spec xs m xs hy with ⟨g1, g2⟩ | ⟨c, hc, g1, g2, g3⟩
    · have := g2 b hb; omega
    · rw [← e1, ← g1]
      by_cases hlt : b.yield < c.yield
      · have := g3 b hb hlt; omega
      · by_cases hgt : c.yield < b.yield
        · have := below_lt xs c.yield b.yield hm hgt; omega
        · omega
  · rcases bestF_spec xs m xs hy with ⟨g1, g2⟩ | ⟨c, hc, g1, g2, g3⟩
    · rw [e1, g1]
    · have := below_many xs c.yield hm; omega

theorem stopYield_eq (xs : List Bid) (m : Int) : stopYieldF xs m = specStopYieldF xs m := by
  unfold stopYieldF specStopYieldF
  by_cases h : auctionOk xs m = true
  · obtain ⟨f1, f2, f3, f4, f5⟩ := auction_facts xs m h
    rw [if_pos h, if_pos h]
    exact stop_eq xs m (fun x hx => (f4 x hx).1) (fun x hx => (f5 x hx).1) f2
  · rw [if_neg h, if_neg h]

end Go.Proofs.Ytecboohippbliaa
