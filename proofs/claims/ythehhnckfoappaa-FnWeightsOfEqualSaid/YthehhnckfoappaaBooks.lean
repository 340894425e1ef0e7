/- Books: validity, worth, weights, in the program and in the reference. -/
import Derived.Test.YthehhnckfoappaaRows
import Derived.Test.YthehhnckfoappaaBase
import Derived.Test.YthehhnckfoappaaBids
import Derived.Test.YthehhnckfoappaaFamMark
import Derived.Test.YthehhnckfoappaaInts
import Derived.Deep.RegionHeld3
import Derived.Deep.AppendLies
import Derived.Deep.DrawnRows
namespace Go.Proofs.Ythehhnckfoappaa
open Go.RowKit

def Mark.ok (m : Mark) : Bool := withinB m.many (-9999) 9999 && withinB m.clean 0 50000 && withinB m.accrued 0 50000
def Mark.worth (m : Mark) : Int := m.many * (m.clean + m.accrued)
def bookOk (xs : List Mark) : Bool := decide (xs.length ≤ 8) && xs.all Mark.ok
def bookWorth (xs : List Mark) : Int := sumI (xs.map Mark.worth)

def bookVal (xs : List Mark) : Int := if bookOk xs = true then bookWorth xs else 0
theorem bookVal_ok {xs : List Mark} (h : bookOk xs = true) : bookVal xs = bookWorth xs := if_pos h
theorem bookVal_no {xs : List Mark} (h : ¬ bookOk xs = true) : bookVal xs = 0 := if_neg h

theorem within_iff (n lo hi : Int) : withinB n lo hi = true ↔ lo ≤ n ∧ n ≤ hi := by
  unfold withinB; simp

theorem Mark.bounds (m : Mark) (h : m.ok = true) : -9999 ≤ m.many ∧ m.many ≤ 9999 ∧ 0 ≤ m.clean ∧ m.clean ≤ 50000 ∧ 0 ≤ m.accrued ∧ m.accrued ≤ 50000 := by
  unfold Mark.ok at h
  simp only [Bool.and_eq_true, within_iff] at h
  omega

theorem Mark.worth_bound (m : Mark) (h : m.ok = true) : -1000000000 ≤ m.worth ∧ m.worth ≤ 1000000000 := by
  obtain ⟨h1, h2, h3, h4, h5, h6⟩ := m.bounds h
  unfold Mark.worth
  generalize hs : m.clean + m.accrued = s
  have hs0 : 0 ≤ s := by omega
  have hs1 : s ≤ 100000 := by omega
  have e1 : m.many * s ≤ 9999 * s := Int.mul_le_mul_of_nonneg_right h2 hs0
  have e2 : -9999 * s ≤ m.many * s := Int.mul_le_mul_of_nonneg_right h1 hs0
  omega

theorem bookWorth_take (xs : List Mark) (k : Nat) (x : Mark) (hx : xs[k]? = some x) : bookWorth (xs.take (k + 1)) = bookWorth (xs.take k) + x.worth := by
  unfold bookWorth
  rw [List.map_take, List.map_take, sumI_take _ _ x.worth (by rw [List.getElem?_map, hx]; rfl)]

theorem bookWorth_bound (xs : List Mark) (h : bookOk xs = true) (k : Nat) : -8000000000 ≤ bookWorth (xs.take k) ∧ bookWorth (xs.take k) ≤ 8000000000 := by
  unfold bookOk at h
  simp only [Bool.and_eq_true, decide_eq_true_eq, List.all_eq_true] at h
  have hb := sumI_bound ((xs.take k).map Mark.worth) (-1000000000) 1000000000 (fun x hx => by
    obtain ⟨m, hm, rfl⟩ := List.mem_map.1 hx
    exact m.worth_bound (h.2 m (List.mem_of_mem_take hm)))
  have hl : ((xs.take k).map Mark.worth).length ≤ 8 := by rw [List.length_map, List.length_take]; omega
  unfold bookWorth
  omega

theorem ok_at (xs : List Mark) (h : bookOk xs = true) (k : Nat) (x : Mark) (hx : xs[k]? = some x) : x.ok = true := by
  unfold bookOk at h
  simp only [Bool.and_eq_true, decide_eq_true_eq, List.all_eq_true] at h
  exact h.2 x (List.mem_of_getElem? hx)

/- The program's. -/
theorem Markvalid_any (x : Mark) (w : World) :
    Calls Try.prog 53 #[.agg #[.int .i64 x.many, .int .i64 x.clean, .int .i64 x.accrued]] w fun e w' => e = .returned (.bool x.ok) ∧ w.grownBy w' none := by
  go_enter Try.func53, Try.ntmps53
  go_wp2_with (go_at_call 37; refine (within_any _ _ _ _).mono ?_; rintro e w' ⟨rfl, rfl⟩)
  all_goals go_ret
  all_goals exact ⟨ret_bool (by go_tidy; simp_all [Mark.ok]), gr_alloc (gr_refl _ _) _⟩

theorem Markworth_any (x : Mark) (w : World) (h : x.ok = true) :
    Calls Try.prog 52 #[.agg #[.int .i64 x.many, .int .i64 x.clean, .int .i64 x.accrued]] w fun e w' => e = .returned (.int .i64 x.worth) ∧ w.grownBy w' none := by
  have hb := x.worth_bound h
  obtain ⟨h1, h2, h3, h4, h5, h6⟩ := x.bounds h
  unfold Mark.worth at hb ⊢
  go_enter Try.func52, Try.ntmps52
  go_wp2
  go_ret
  exact ⟨rfl, gr_alloc (gr_refl _ _) _⟩

theorem bookValid1_any (b : Bool) (x : Mark) (w : World) :
    Calls Try.prog 60 #[.bool b, .agg #[.int .i64 x.many, .int .i64 x.clean, .int .i64 x.accrued]] w fun e w' => e = .returned (.bool (b && x.ok)) ∧ w.grownBy w' none := by
  cases b
  · go_enter Try.func60, Try.ntmps60
    go_wp2
    go_ret
    exact ⟨rfl, gr_alloc (gr_refl _ _) _⟩
  · go_enter Try.func60, Try.ntmps60
    go_wp2_with fail
    refine (Markvalid_any x _).mono ?_
    rintro e w' ⟨rfl, hg⟩
    have Hg := hid (gr_trans0 (gr_alloc (gr0 _) _) hg)
    go_wp2
    go_ret
    exact ⟨rfl, Hg.out⟩

set_option maxHeartbeats 400000 in
theorem foldBool_any (a : Option Addr) (n cap : Nat) (xs : List Mark) (w : World) (hs : Sl markL w a n xs) :
    Calls Try.prog 59 #[.slice a n cap, .bool true, .func (.func 60) #[] #[]] w fun e w' => e = .returned (.bool (xs.all Mark.ok)) ∧ w.grownBy w' none := by
  have hbig := hs.big
  unfold maxLen at hbig
  have Hs := hid hs; clear hs
  go_enter Try.func59, Try.ntmps59
  go_wp2_with fail
  go_loopw [1, 11] (fun q i wr => ∃ k : Nat, k ≤ n ∧ i = .int .i64 k ∧ q = .bool ((xs.take k).all Mark.ok) ∧ w.grownBy wr none) (fun _ i _ => n - (intOf i).toNat)
  case atStart => exact ⟨0, by omega, rfl, rfl, gr_refl _ _⟩
  case round =>
    obtain ⟨k, hk, rfl, rfl, hg⟩ := hrel
    by_cases hlt : k < n
    · obtain ⟨b, off, x, rfl, hxk, h0, h1, h2⟩ := mark_at (Hs.out.keep0 hg) k hlt
      have Hfin := hid (take_all Mark.ok _ _ _ hxk)
      clear hxk
      have Hg := hid hg; clear hg
      generalize (xs.take k).all Mark.ok = acc at *
      go_wp2_with fail
      refine (bookValid1_any acc x _).mono ?_
      rintro e w2 ⟨rfl, hg2⟩
      have Hg2 := hid (gr_trans0 (by repeat (first | exact Hg.out | apply gr_alloc | refine gr_setCell ?_ (.inr (by have := Hg.out.size; simp; omega)) _)) hg2)
      clear hg2
      go_wp2
      go_roundw
      case rel => exact ⟨k + 1, by omega, by go_num, by rw [Hfin.out], Hg2.out⟩
      case measure => simp [intOf]; omega
    · have Hg := hid hg; clear hg
      go_wp2
      go_ret
      obtain rfl : k = n := by omega
      exact ⟨ret_bool (by rw [take_len _ _ Hs.out.len]), Hg.out⟩

theorem bookValid_any (a : Option Addr) (n cap : Nat) (xs : List Mark) (w : World) (hs : Sl markL w a n xs) :
    Calls Try.prog 44 #[.slice a n cap] w fun e w' => e = .returned (.bool (bookOk xs)) ∧ w.grownBy w' none := by
  have hl := hs.len
  have Hl := hid hl; clear hl
  have Hs := hid hs; clear hs
  by_cases hn : n ≤ 8
  · have Hfin : Hid (bookOk xs = xs.all Mark.ok) := hid (by unfold bookOk; rw [Hl.out, decide_eq_true hn, Bool.true_and])
    go_enter Try.func44, Try.ntmps44
    go_wp2_with fail
    refine (foldBool_any a n cap xs w Hs.out).mono ?_
    rintro e w' ⟨rfl, hg⟩
    have Hg := hid hg; clear hg
    go_wp2
    go_ret
    exact ⟨ret_bool Hfin.out.symm, Hg.out⟩
  · have Hfin : Hid (bookOk xs = false) := hid (by unfold bookOk; rw [Hl.out, decide_eq_false hn, Bool.false_and])
    go_enter Try.func44, Try.ntmps44
    go_wp2_with fail
    go_ret
    exact ⟨ret_bool Hfin.out.symm, gr_refl _ _⟩

theorem bookWorth1_any (s : Int) (x : Mark) (w : World) (h : x.ok = true) (h0 : -100000000000 ≤ s) (h1 : s ≤ 100000000000) :
    Calls Try.prog 62 #[.int .i64 s, .agg #[.int .i64 x.many, .int .i64 x.clean, .int .i64 x.accrued]] w fun e w' => e = .returned (.int .i64 (s + x.worth)) ∧ w.grownBy w' none := by
  have hb := x.worth_bound h
  have H := hid h; clear h
  go_enter Try.func62, Try.ntmps62
  go_wp2_with fail
  refine (Markworth_any x _ H.out).mono ?_
  rintro e w' ⟨rfl, hg⟩
  have Hg := hid (gr_trans0 (gr_alloc (gr0 _) _) hg)
  go_wp2
  go_ret
  exact ⟨rfl, Hg.out⟩

set_option maxHeartbeats 400000 in
theorem foldInt_any (a : Option Addr) (n cap : Nat) (xs : List Mark) (w : World) (hs : Sl markL w a n xs) (hok : bookOk xs = true) :
    Calls Try.prog 61 #[.slice a n cap, .int .i64 0, .func (.func 62) #[] #[]] w fun e w' => e = .returned (.int .i64 (bookWorth xs)) ∧ w.grownBy w' none := by
  have hbig := hs.big
  unfold maxLen at hbig
  have Hs := hid hs; clear hs
  have Hok := hid hok; clear hok
  go_enter Try.func61, Try.ntmps61
  go_wp2_with fail
  go_loopw [1, 11] (fun q i wr => ∃ k : Nat, k ≤ n ∧ i = .int .i64 k ∧ q = .int .i64 (bookWorth (xs.take k)) ∧ w.grownBy wr none) (fun _ i _ => n - (intOf i).toNat)
  case atStart => exact ⟨0, by omega, rfl, rfl, gr_refl _ _⟩
  case round =>
    obtain ⟨k, hk, rfl, rfl, hg⟩ := hrel
    by_cases hlt : k < n
    · obtain ⟨b, off, x, rfl, hxk, h0, h1, h2⟩ := mark_at (Hs.out.keep0 hg) k hlt
      have Hfin := hid (bookWorth_take _ _ _ hxk)
      have Hxok := hid (ok_at xs Hok.out k x hxk)
      have hbd := bookWorth_bound xs Hok.out k
      clear hxk
      have Hg := hid hg; clear hg
      generalize bookWorth (xs.take k) = acc at *
      go_wp2_with fail
      refine (bookWorth1_any acc x _ Hxok.out (by omega) (by omega)).mono ?_
      rintro e w2 ⟨rfl, hg2⟩
      have Hg2 := hid (gr_trans0 (by repeat (first | exact Hg.out | apply gr_alloc | refine gr_setCell ?_ (.inr (by have := Hg.out.size; simp; omega)) _)) hg2)
      clear hg2
      go_wp2
      go_roundw
      case rel => exact ⟨k + 1, by omega, by go_num, by rw [Hfin.out], Hg2.out⟩
      case measure => simp [intOf]; omega
    · have Hg := hid hg; clear hg
      go_wp2
      go_ret
      obtain rfl : k = n := by omega
      exact ⟨ret_int (by rw [take_len _ _ Hs.out.len]), Hg.out⟩

theorem bookWorth_any (a : Option Addr) (n cap : Nat) (xs : List Mark) (w : World) (hs : Sl markL w a n xs) (hok : bookOk xs = true) :
    Calls Try.prog 45 #[.slice a n cap] w fun e w' => e = .returned (.int .i64 (bookWorth xs)) ∧ w.grownBy w' none := by
  go_enter Try.func45, Try.ntmps45
  go_wp2_with fail
  refine (foldInt_any a n cap xs w hs hok).mono ?_
  rintro e w' ⟨rfl, hg⟩
  go_wp2
  go_ret
  exact ⟨rfl, hg⟩

theorem BookWorth_any (a : Option Addr) (n cap : Nat) (xs : List Mark) (w : World) (hs : Sl markL w a n xs) :
    Calls Try.prog 19 #[.slice a n cap] w fun e w' => e = .returned (.tuple #[.int .i64 (bookVal xs), .bool (bookOk xs)]) ∧ w.grownBy w' none := by
  have Hs := hid hs; clear hs
  by_cases hok : bookOk xs = true
  · rw [bookVal_ok hok, hok]
    go_enter Try.func19, Try.ntmps19
    go_wp2_with fail
    refine (bookValid_any a n cap xs w Hs.out).mono ?_
    rintro e w1 ⟨rfl, hg⟩
    have Hg := hid hg; clear hg
    go_wp2_with fail
    refine (bookWorth_any a n cap xs w1 (Hs.out.keep0 Hg.out) hok).mono ?_
    rintro e w2 ⟨rfl, hg2⟩
    have Hg2 := hid (gr_trans0 Hg.out hg2)
    go_wp2
    go_ret2
    exact ⟨rfl, Hg2.out⟩
  · have hok' : bookOk xs = false := by simpa using hok
    rw [bookVal_no hok, hok']
    clear hok
    go_enter Try.func19, Try.ntmps19
    go_wp2_with fail
    refine (bookValid_any a n cap xs w Hs.out).mono ?_
    rintro e w1 ⟨rfl, hg⟩
    have Hg := hid hg; clear hg
    go_wp2_with fail
    go_ret2
    exact ⟨rfl, Hg.out⟩

/- The reference's. -/
theorem validMark_any (x : Mark) (w : World) :
    Calls Try.prog 58 #[.agg #[.int .i64 x.many, .int .i64 x.clean, .int .i64 x.accrued]] w fun e w' => e = .returned (.bool x.ok) ∧ w.grownBy w' none := by
  go_enter Try.func58, Try.ntmps58
  go_wp2_with (go_at_call 57; refine (inRange_any _ _ _ _).mono ?_; rintro e w' ⟨rfl, rfl⟩)
  all_goals go_ret
  all_goals exact ⟨ret_bool (by go_tidy; simp_all [Mark.ok]), gr_alloc (gr_refl _ _) _⟩

theorem specworth_any (x : Mark) (w : World) (h : x.ok = true) :
    Calls Try.prog 42 #[.agg #[.int .i64 x.many, .int .i64 x.clean, .int .i64 x.accrued]] w fun e w' => e = .returned (.int .i64 x.worth) ∧ w.grownBy w' none := by
  have hb := x.worth_bound h
  obtain ⟨h1, h2, h3, h4, h5, h6⟩ := x.bounds h
  unfold Mark.worth at hb ⊢
  go_enter Try.func42, Try.ntmps42
  go_wp2
  go_ret
  exact ⟨rfl, gr_alloc (gr_refl _ _) _⟩

set_option maxHeartbeats 400000 in
theorem validBook_any (a : Option Addr) (n cap : Nat) (xs : List Mark) (w : World) (hs : Sl markL w a n xs) :
    Calls Try.prog 41 #[.slice a n cap] w fun e w' => e = .returned (.bool (bookOk xs)) ∧ w.grownBy w' none := by
  have hbig := hs.big
  unfold maxLen at hbig
  have Hs := hid hs; clear hs
  go_enter Try.func41, Try.ntmps41
  go_wp2_with fail
  go_loopw [3] (fun i wr => ∃ k : Nat, k ≤ n ∧ i = .int .i64 k ∧ (xs.take k).all Mark.ok = true ∧ w.grownBy wr none) (fun i _ => n - (intOf i).toNat)
  case atStart => exact ⟨0, by omega, rfl, rfl, gr_refl _ _⟩
  case round =>
    obtain ⟨k, hk, rfl, hall, hg⟩ := hrel
    have Hall := hid hall; clear hall
    by_cases hlt : k < n
    · obtain ⟨b, off, x, rfl, hxk, h1, h2, h3⟩ := mark_at (Hs.out.keep0 hg) k hlt
      have Hxk := hid hxk; clear hxk
      have Hg := hid hg; clear hg
      go_wp2_with fail
      refine (validMark_any x _).mono ?_
      rintro e w2 ⟨rfl, hg2⟩
      have Hg2 := hid (gr_trans0 Hg.out hg2)
      clear hg2
      by_cases hx : x.ok = true
      · go_wp2
        go_roundw
        case rel => exact ⟨k+1, by omega, by go_num, by rw [take_all _ _ _ _ Hxk.out, Hall.out, hx]; rfl, Hg2.out⟩
        case measure => simp [intOf]; omega
      · have hx' : x.ok = false := by simpa using hx
        clear hx
        have Hfin : Hid (bookOk xs = false) := hid (by unfold bookOk; rw [all_false _ _ (k+1) (by rw [take_all _ _ _ _ Hxk.out, Hall.out, hx']; rfl), Bool.and_false])
        go_wp2
        go_ret
        exact ⟨ret_bool Hfin.out.symm, Hg2.out⟩
    · have Hg := hid hg; clear hg
      have Hfin : Hid (bookOk xs = decide ((n : Int) ≤ 8)) := by
        obtain rfl : k = n := by omega
        have hl := Hs.out.len
        have h := Hall.out
        rw [take_len _ _ hl] at h
        exact hid (by unfold bookOk; rw [h, hl, Bool.and_true]; exact decide_eq_decide.2 (by omega))
      go_wp2
      go_ret
      exact ⟨ret_bool Hfin.out.symm, Hg.out⟩

set_option maxHeartbeats 400000 in
theorem SpecBookWorth_any (a : Option Addr) (n cap : Nat) (xs : List Mark) (w : World) (hs : Sl markL w a n xs) :
    Calls Try.prog 17 #[.slice a n cap] w fun e w' => e = .returned (.tuple #[.int .i64 (bookVal xs), .bool (bookOk xs)]) ∧ w.grownBy w' none := by
  have hbig := hs.big
  unfold maxLen at hbig
  have Hs := hid hs; clear hs
  by_cases hok : bookOk xs = true
  · rw [bookVal_ok hok, hok]
    go_enter Try.func17, Try.ntmps17
    go_wp2_with fail
    refine (validBook_any a n cap xs w Hs.out).mono ?_
    rintro e w1 ⟨rfl, hg⟩
    have Hg := hid hg; clear hg
    go_wp2_with fail
    have Hok := hid hok; clear hok
    go_loopw [4, 5] (fun q i wr => ∃ k : Nat, k ≤ n ∧ i = .int .i64 k ∧ q = .int .i64 (bookWorth (xs.take k)) ∧ w.grownBy wr none) (fun _ i _ => n - (intOf i).toNat)
    case atStart => exact ⟨0, by omega, rfl, rfl, Hg.out⟩
    case round =>
      obtain ⟨k, hk, rfl, rfl, hg⟩ := hrel
      by_cases hlt : k < n
      · obtain ⟨b, off, x, rfl, hxk, h0, h1, h2⟩ := mark_at (Hs.out.keep0 hg) k hlt
        have Hfin := hid (bookWorth_take _ _ _ hxk)
        have Hxok := hid (ok_at xs Hok.out k x hxk)
        have hbd := bookWorth_bound xs Hok.out k
        have hxb := x.worth_bound Hxok.out
        clear hxk
        clear Hg
        have Hg := hid hg; clear hg
        generalize bookWorth (xs.take k) = acc at *
        go_wp2_with fail
        refine (specworth_any x _ Hxok.out).mono ?_
        rintro e w2 ⟨rfl, hg2⟩
        have Hg2 := hid (gr_trans0 Hg.out hg2)
        clear hg2
        go_wp2
        go_roundw
        case rel => exact ⟨k + 1, by omega, by go_num, by rw [Hfin.out], Hg2.out⟩
        case measure => simp [intOf]; omega
      · clear Hg
        have Hg := hid hg; clear hg
        have Hfin : Hid (bookWorth (xs.take k) = bookWorth xs) := by
          obtain rfl : k = n := by omega
          exact hid (by rw [take_len _ _ Hs.out.len])
        generalize bookWorth (xs.take k) = acc at *
        go_wp2
        go_ret2
        exact ⟨by rw [Hfin.out]; rfl, Hg.out⟩
  · have hok' : bookOk xs = false := by simpa using hok
    rw [bookVal_no hok, hok']
    clear hok
    go_enter Try.func17, Try.ntmps17
    go_wp2_with fail
    refine (validBook_any a n cap xs w Hs.out).mono ?_
    rintro e w1 ⟨rfl, hg⟩
    have Hg := hid hg; clear hg
    go_wp2_with fail
    go_ret2
    exact ⟨rfl, Hg.out⟩

/- Weights. -/
def weightsOk (xs : List Mark) : Bool := bookOk xs && !(xs.any fun m => decide (m.many < 0))
def weight (s : Int) (m : Mark) : Int := 1000 * m.worth / (if s < 1 then 1 else s)
def weightsOf (xs : List Mark) : List Int := if weightsOk xs = true then xs.map (weight (bookWorth xs)) else []

theorem WeightsOf1_any (x : Mark) (w : World) :
    Calls Try.prog 49 #[.agg #[.int .i64 x.many, .int .i64 x.clean, .int .i64 x.accrued]] w fun e w' => e = .returned (.bool (decide (x.many < 0))) ∧ w.grownBy w' none := by
  go_enter Try.func49, Try.ntmps49
  go_wp2
  go_ret
  exact ⟨rfl, gr_alloc (gr_refl _ _) _⟩

set_option maxHeartbeats 400000 in
theorem IndexFuncMarks_any (a : Option Addr) (n cap : Nat) (xs : List Mark) (w : World) (hs : Sl markL w a n xs) :
    Calls Try.prog 64 #[.slice a n cap, .func (.func 49) #[] #[]] w fun e w' => ∃ i : Int, e = .returned (.int .i64 i) ∧ (decide (0 ≤ i)) = xs.any (fun m => decide (m.many < 0)) ∧ w.grownBy w' none := by
  have hbig := hs.big
  unfold maxLen at hbig
  have Hs := hid hs; clear hs
  go_enter Try.func64, Try.ntmps64
  go_wp2_with fail
  go_loopw [8] (fun i wr => ∃ k : Nat, k ≤ n ∧ i = .int .i64 k ∧ (xs.take k).any (fun m => decide (m.many < 0)) = false ∧ w.grownBy wr none) (fun i wr => n - (intOf i).toNat)
  case atStart => exact ⟨0, by omega, rfl, rfl, gr_refl _ _⟩
  case round =>
    obtain ⟨k, hk, rfl, hall, hb⟩ := hrel
    have Hall := hid hall; clear hall
    by_cases hlt : k < n
    · obtain ⟨b, off, x, rfl, hxk, h1, h2, h3⟩ := mark_at (Hs.out.keep0 hb) k hlt
      have Hb := hid hb; clear hb
      have Hxk := hid hxk; clear hxk
      go_wp2_with (go_at_call 49; refine (WeightsOf1_any x _).mono ?_; rintro e w1 ⟨rfl, hb1⟩)
      · go_ret
        exact ⟨k, rfl, by rw [any_true _ _ (k+1)]; · simp
                          rw [take_any _ _ _ _ Hxk.out, Hall.out, Bool.false_or]; simpa using ‹x.many < 0›, gr_trans0 Hb.out hb1⟩
      · go_roundw
        case rel => exact ⟨k+1, by omega, by go_num, by rw [take_any _ _ _ _ Hxk.out, Hall.out, Bool.false_or]; simpa using ‹0 ≤ x.many›, gr_trans0 Hb.out hb1⟩
        case measure => simp [intOf]; omega
    · have Hb := hid hb; clear hb
      go_wp2
      go_ret
      obtain rfl : k = n := by omega
      exact ⟨-1, rfl, by rw [take_len _ _ Hs.out.len] at Hall; rw [Hall.out]; rfl, Hb.out⟩

theorem ContainsFuncMarks_any (a : Option Addr) (n cap : Nat) (xs : List Mark) (w : World) (hs : Sl markL w a n xs) :
    Calls Try.prog 48 #[.slice a n cap, .func (.func 49) #[] #[]] w fun e w' => e = .returned (.bool (xs.any (fun m => decide (m.many < 0)))) ∧ w.grownBy w' none := by
  go_enter Try.func48, Try.ntmps48
  go_wp2_with fail
  refine (IndexFuncMarks_any a n cap xs w hs).mono ?_
  rintro e w' ⟨i, rfl, hi, hg⟩
  have Hi := hid hi; clear hi
  go_wp2
  go_ret
  exact ⟨ret_bool Hi.out, hg⟩

theorem infoInt : (Try.prog.info? 3).map (fun i => (i.zero, i.size, i.bytes)) = some (some (.int .i64 0), 1, 8) := by kernel_rfl

theorem sum_zero (xs : List Mark) (h : ∀ x ∈ xs, 0 ≤ x.worth) : 0 ≤ bookWorth xs ∧ (bookWorth xs = 0 → ∀ x ∈ xs, x.worth = 0) := by
  unfold bookWorth
  induction xs with
  | nil => simp [sumI]
  | cons y ys ih =>
    obtain ⟨i1, i2⟩ := ih (fun x hx => h x (List.mem_cons_of_mem _ hx))
    have hy := h y (by simp)
    simp only [List.map_cons, sumI]
    refine ⟨by omega, fun he x hx => ?_⟩
    rcases List.mem_cons.1 hx with rfl | hx
    · omega
    · exact i2 (by omega) x hx

theorem weight_bound (m : Mark) (hm : m.ok = true) (h0 : 0 ≤ m.many) : 0 ≤ m.worth ∧ 0 ≤ 1000 * m.worth ∧ 1000 * m.worth ≤ 1000000000000 := by
  have hb := m.worth_bound hm
  obtain ⟨h1, h2, h3, h4, h5, h6⟩ := m.bounds hm
  have : 0 ≤ m.worth := Int.mul_nonneg h0 (by omega)
  omega

set_option maxHeartbeats 400000 in
theorem WeightsOf2_any (v : Value) (k base sb : Nat) (ws : List Int) (s : Int) (x : Mark) (w : World) (hown : w.ownsRow base 3 1 v k (ws.flatMap intL.cells)) (hk : k ≤ 100) (hbase : base ≤ w.heap.size)
    (hsb : sb < base) (hc : w.cell? ⟨sb, 0, none⟩ = some (.int .i64 s)) (hs0 : 0 ≤ s) (hs1 : s ≤ 100000000000) (hx : x.ok = true) (hx0 : 0 ≤ x.many) (hsx : s = 0 → x.worth = 0) :
    Calls Try.prog 51 #[v, .agg #[.int .i64 x.many, .int .i64 x.clean, .int .i64 x.accrued], .pointer (some ⟨sb, 0, none⟩)] w fun e w' =>
      ∃ v', e = .returned v' ∧ w'.ownsRow base 3 1 v' (k + 1) ((ws ++ [weight s x]).flatMap intL.cells) ∧ Below base w w' := by
  obtain ⟨i0, hi, hz0, hz1, hz2⟩ := info_parts infoInt
  have Hown := hid hown; clear hown
  have Hx := hid hx; clear hx
  have Hsx := hid hsx; clear hsx
  have hlt := block_lt hc
  by_cases h0 : s = 0
  · subst h0
    have Hwx : Hid (weight 0 x = 0) := hid (by unfold weight; rw [Hsx.out rfl]; rfl)
    go_enter Try.func51, Try.ntmps51
    go_wp2_with (at_builtin; refine wpList_append_own _ rfl _ _ 41 rfl base 3 i0 _ 1 8 Try.underlying41 hi hz0 hz1 hz2 rfl (by decide) _ _ _ rfl ((Hown.out.alloc _).alloc _) ⟨w.heap.size + 1, 0, none⟩ 1 1 [.int .i64 0] rfl rfl ?c1 ?c2 ?c3 ?c4 ?c5 ?_)
    case c2 => simp [Value.oneCell']
    case c3 => unfold maxLen; omega
    case c4 => omega
    case c5 => omega
    intro v' w1 hown1 hg1 _
    have Hown1 := hid hown1; clear hown1
    have Hg1 := hid hg1; clear hg1
    go_wp2
    go_ret
    refine ⟨v', rfl, ?_, below_gr (r := v.ownBlock) (gr_trans (gr_any (gr_alloc (gr_alloc (gr0 _) _) _) _) Hg1.out (fun g e => .inl e)) (fun g e => ((Hown.out).lt g e).1) hbase⟩
    rw [List.flatMap_append, Hwx.out]; exact Hown1.out
  · have h0b : (s == 0) = false := by simpa using h0
    obtain ⟨hw0, hw1, hw2⟩ := weight_bound x Hx.out hx0
    have hne1 : some sb ≠ v.ownBlock := fun e => by have := (Hown.out.lt sb e.symm).1; omega
    have hne2 : some w.heap.size ≠ v.ownBlock := fun e => by have := (Hown.out.lt _ e.symm).2; omega
    have hq : IntKind.i64.wrap ((1000 * x.worth).tdiv s) = 1000 * x.worth / s := IntWalk.i64_quo _ _ (by omega)
    have hm : IntKind.i64.wrap (1000 * x.worth) = 1000 * x.worth := IntWalk.i64_in _ (by omega)
    have Hwx : Hid (weight s x = 1000 * x.worth / s) := hid (by unfold weight; rw [if_neg (by omega)])
    go_enter Try.func51, Try.ntmps51
    go_wp2_with fail
    go_region_held3 (fun w' => w'.cell? ⟨sb, 0, none⟩ = some (.int .i64 s) ∧ w'.cell? ⟨w.heap.size, 0, none⟩ = some (.int .i64 x.many) ∧ w'.cell? ⟨w.heap.size, 1, none⟩ = some (.int .i64 x.clean) ∧ w'.cell? ⟨w.heap.size, 2, none⟩ = some (.int .i64 x.accrued)) (first | go_keep | (go_split_ands; refine ⟨?_, ?_, ?_, ?_⟩ <;> (refine hg1.cell ?_ (by simp); assumption)) | (go_split_ands; refine ⟨?_, ?_, ?_, ?_⟩ <;> (refine hgrow.cell ?_ (by first | exact hne1 | exact hne2); assumption))) (first | (go_at_call 52; refine (Markworth_any x _ Hx.out).mono ?_; rintro e w1 ⟨rfl, hg1⟩) | (refine step_append_lies _ (by rfl) _ _ _ (by rfl) base 3 i0 _ 1 8 Try.underlying41 hi hz0 hz1 hz2 (by rfl) (by decide) v k (ws.flatMap intL.cells) (by rfl) ((own_keep0 ((Hown.out.alloc _).drew) hg1).alloc _) ⟨w1.heap.size, 0, none⟩ 1 1 [.int .i64 (1000 * x.worth / s)] (by rfl) (by rfl) (cells_new w1 _ _ _ rfl) (by simp [Value.oneCell']) (by decide) (by unfold maxLen; omega) (by omega) (by have := hg1.size; simp at this ⊢; omega) _ rfl ?_; intro g cap w2 hown2 hgrow hat hlt2))
    go_wp2
    go_ret
    refine ⟨_, rfl, ?_, below_gr (r := v.ownBlock) (gr_trans (gr_any (gr_alloc (gr_trans0 (gr_drew (gr_alloc (gr0 _) _)) hg1) _) _) hgrow (fun g e => .inl e)) (fun g e => ((Hown.out).lt g e).1) hbase⟩
    rw [List.flatMap_append, ← Hwx.out] at *
    exact hown2

set_option maxHeartbeats 400000 in
theorem foldWeights_any (a : Option Addr) (n cap : Nat) (xs : List Mark) (v0 : Value) (base sb : Nat) (s : Int) (w : World) (hs : Sl markL w a n xs) (hab : 0 < n → ∀ b off, a = some ⟨b, off, none⟩ → b < base) (hn : n ≤ 8)
    (hown : w.ownsRow base 3 1 v0 0 []) (hbase : base ≤ w.heap.size) (hsb : sb < base) (hc : w.cell? ⟨sb, 0, none⟩ = some (.int .i64 s)) (hs0 : 0 ≤ s) (hs1 : s ≤ 100000000000)
    (hok : ∀ x ∈ xs, x.ok = true ∧ 0 ≤ x.many ∧ (s = 0 → x.worth = 0)) :
    Calls Try.prog 50 #[.slice a n cap, v0, .func (.func 51) #[] #[.pointer (some ⟨sb, 0, none⟩)]] w fun e w' =>
      ∃ v', e = .returned v' ∧ w'.ownsRow base 3 1 v' n ((xs.map (weight s)).flatMap intL.cells) ∧ Below base w w' := by
  have Hs := hid hs; clear hs
  have Hab := hid hab; clear hab
  have Hown := hid hown; clear hown
  have Hok := hid hok; clear hok
  have Hc := hid hc; clear hc
  go_enter Try.func50, Try.ntmps50
  go_wp2_with fail
  go_loopw [1, 11] (fun q i wr => ∃ (k : Nat) (v : Value), k ≤ n ∧ i = .int .i64 k ∧ q = v ∧ wr.ownsRow base 3 1 v k (((xs.take k).map (weight s)).flatMap intL.cells) ∧ Below base w wr) (fun _ i _ => n - (intOf i).toNat)
  case atStart => exact ⟨0, v0, by omega, rfl, rfl, by simpa using Hown.out, Below.refl _ _⟩
  case round =>
    obtain ⟨k, v, hk, rfl, rfl, hown, hg⟩ := hrel
    have hsl := Hs.out.keepB hg Hab.out
    have hcw : wr.cell? ⟨sb, 0, none⟩ = some (.int .i64 s) := by rw [hg.cell (p := ⟨sb, 0, none⟩) hsb]; exact Hc.out
    have Hcw := hid hcw; clear hcw
    have hsz := hg.size
    have Hg := hid hg; clear hg
    have How := hid hown; clear hown
    by_cases hlt : k < n
    · obtain ⟨b, off, x, rfl, hxk, h0, h1, h2⟩ := mark_at hsl k hlt
      have hxo := Hok.out x (List.mem_of_getElem? hxk)
      have Hxo := hid hxo; clear hxo
      have Hxk := hid hxk; clear hxk hsl
      go_wp2_with fail
      refine (WeightsOf2_any _ k base sb ((xs.take k).map (weight s)) s x _ (own_keep0 How.out (by repeat (first | exact gr0 _ | apply gr_alloc | refine gr_setCell ?_ (.inr (by simp)) _))) (by omega) (by simp; omega) hsb ?hcell hs0 hs1 Hxo.out.1 Hxo.out.2.1 Hxo.out.2.2).mono ?_
      case hcell => exact (show wr.grownBy _ none by repeat (first | exact gr0 _ | apply gr_alloc | refine gr_setCell ?_ (.inr (by simp)) _)).cell Hcw.out (by simp)
      rintro e w2 ⟨v', rfl, hown2, hg2⟩
      have hg3 : Below base w w2 := (Hg.out.trans (below_gr (r := none) (by repeat (first | exact gr0 _ | apply gr_alloc | refine gr_setCell ?_ (.inr (by simp)) _)) (fun _ e => by cases e) (by omega))).trans hg2
      have Hown2 := hid hown2; clear hown2
      have Hg3 := hid hg3; clear hg3 hg2
      go_wp2
      go_roundw
      case rel =>
        refine ⟨k + 1, v', by omega, by go_num, rfl, ?_, Hg3.out⟩
        have := Hown2.out
        rw [take_snoc _ _ _ Hxk.out, List.map_append]
        exact this
      case measure => simp [intOf]; omega
    · go_wp2
      go_ret
      obtain rfl : k = n := by omega
      exact ⟨_, rfl, by have := How.out; rwa [take_len _ _ Hs.out.len] at this, Hg.out⟩

set_option maxHeartbeats 400000 in
theorem WeightsOf_any (a : Option Addr) (n cap : Nat) (xs : List Mark) (w : World) (hs : Sl markL w a n xs) :
    Calls Try.prog 23 #[.slice a n cap] w fun e w' => ∃ a' n' cap', e = .returned (.slice a' n' cap') ∧ Ow intL w' w.heap.size a' n' (weightsOf xs) ∧ n' ≤ cap' ∧ w.grownBy w' none := by
  obtain ⟨i0, hi, hz0, hz1, hz2⟩ := info_parts infoInt
  have Hs := hid hs; clear hs
  by_cases hok : weightsOk xs = true
  · have Hfin : Hid (weightsOf xs = xs.map (weight (bookWorth xs))) := hid (by unfold weightsOf; rw [if_pos hok])
    have hok2 : bookOk xs = true ∧ (xs.any fun m => decide (m.many < 0)) = false := by
      unfold weightsOk at hok; simpa [Bool.and_eq_true] using hok
    clear hok
    obtain ⟨hbk, hneg⟩ := hok2
    go_enter Try.func23, Try.ntmps23
    go_wp2_with fail
    refine (bookValid_any a n cap xs w Hs.out).mono ?_
    rintro e w1 ⟨rfl, hg⟩
    have Hg := hid hg; clear hg
    go_wp2_with fail
    refine (ContainsFuncMarks_any a n cap xs w1 (Hs.out.keep0 Hg.out)).mono ?_
    rintro e w2 ⟨rfl, hg2⟩
    have Hg2 := hid (gr_trans0 Hg.out hg2); clear hg2
    go_wp2_with fail
    refine (bookWorth_any a n cap xs w2 (Hs.out.keep0 Hg2.out) hbk).mono ?_
    rintro e w3 ⟨rfl, hg3⟩
    have Hg3 := hid (gr_trans0 Hg2.out hg3); clear hg3
    have hl8 : n ≤ 8 := by
      have h := hbk
      unfold bookOk at h
      simp only [Bool.and_eq_true, decide_eq_true_eq] at h
      have := Hs.out.len; omega
    have hb0 := bookWorth_bound xs hbk n
    rw [take_len _ _ Hs.out.len] at hb0
    have hnn : ∀ x ∈ xs, x.ok = true ∧ 0 ≤ x.many ∧ 0 ≤ x.worth := by
      intro x hx
      have h1 : x.ok = true := by
        have h := hbk
        unfold bookOk at h
        simp only [Bool.and_eq_true, List.all_eq_true] at h
        exact h.2 x hx
      have h2 : 0 ≤ x.many := by
        have := List.any_eq_false.1 hneg x hx
        simpa using this
      exact ⟨h1, h2, (weight_bound x h1 h2).1⟩
    have hpos : 0 ≤ bookWorth xs ∧ (bookWorth xs = 0 → ∀ x ∈ xs, x.worth = 0) := sum_zero xs (fun x hx => (hnn x hx).2.2)
    have Hnn := hid hnn; clear hnn
    have Hpos := hid hpos
    have hp0 := hpos.1
    clear hpos hbk hneg
    generalize bookWorth xs = s at *
    go_wp2_with (at_make; refine wpList_make_own _ rfl _ _ 41 rfl (w3.heap.size + 1) 3 i0 _ 1 Try.underlying41 hi hz0 hz1 _ _ _ n rfl rfl rfl ?c1 ?c2 ?c3 ?_)
    case c1 => rw [hz2]; omega
    case c2 => unfold maxLen; omega
    case c3 => simp
    intro w4 hown4 hg4
    have hg3s := Hg3.out.size
    have hsl : Sl markL w4 a n xs := (Hs.out.keep0 Hg3.out).keep0 (gr_trans0 (by repeat (first | exact gr0 _ | apply gr_alloc | refine gr_setCell ?_ (.inr (by simp)) _)) hg4)
    have hcell : w4.cell? ⟨w3.heap.size, 0, none⟩ = some (.int .i64 s) := hg4.cell (by simp) (by simp)
    have Hown4 := hid hown4; clear hown4
    have Hg4 := hid (gr_trans0 (by repeat (first | exact gr0 _ | apply gr_alloc | refine gr_setCell ?_ (.inr (by simp)) _)) hg4 : w3.grownBy w4 none)
    have hsz4 := Hg4.out.size
    have hsz5 := hg4.size
    simp at hsz5
    clear hg4
    have Hsl := hid hsl; clear hsl
    have Hcell := hid hcell; clear hcell
    go_wp2_with fail
    refine (foldWeights_any a n cap xs _ (w3.heap.size + 1) w3.heap.size s w4 Hsl.out (fun h0 b off e => by
      obtain ⟨b', off', e', hlt, _⟩ := Hs.out.mem h0
      rw [e] at e'; cases e'; omega) hl8 Hown4.out (by omega) (by omega) Hcell.out hp0 (by omega) (fun x hx => ⟨(Hnn.out x hx).1, (Hnn.out x hx).2.1, fun h => Hpos.out.2 h x hx⟩)).mono ?_
    rintro e w5 ⟨v', rfl, hown5, hg5⟩
    obtain ⟨a', cap', rfl, hc'⟩ := own_form hown5
    have Hown5 := hid hown5; clear hown5
    have Hg5 := hid (gr_trans0 Hg3.out (gr_of_below ((below_of_gr Hg4.out).trans (hg5.mono (by omega)))) : w.grownBy w5 none)
    have hnm : n ≤ maxLen := by unfold maxLen; omega
    clear hg5
    go_wp2
    go_ret
    exact ⟨a', n, cap', rfl, by rw [Hfin.out]; exact (Ow.of_own (L := intL) Hown5.out (by rw [List.length_map]; exact Hs.out.len) hnm).mono (by omega), hc', Hg5.out⟩
  · have Hfin : Hid (weightsOf xs = []) := hid (by unfold weightsOf; rw [if_neg hok])
    by_cases hbk : bookOk xs = true
    · have hneg : (xs.any fun m => decide (m.many < 0)) = true := by
        unfold weightsOk at hok; simpa [hbk] using hok
      clear hok
      go_enter Try.func23, Try.ntmps23
      go_wp2_with fail
      refine (bookValid_any a n cap xs w Hs.out).mono ?_
      rintro e w1 ⟨rfl, hg⟩
      have Hg := hid hg; clear hg
      go_wp2_with fail
      refine (ContainsFuncMarks_any a n cap xs w1 (Hs.out.keep0 Hg.out)).mono ?_
      rintro e w2 ⟨rfl, hg2⟩
      have Hg2 := hid (gr_trans0 Hg.out hg2); clear hg2
      go_wp2_with fail
      go_ret
      exact ⟨none, 0, 0, rfl, by rw [Hfin.out]; exact Ow.nil _ _ _ _, Nat.le_refl _, Hg2.out⟩
    · have hbk' : bookOk xs = false := by simpa using hbk
      clear hok hbk
      go_enter Try.func23, Try.ntmps23
      go_wp2_with fail
      refine (bookValid_any a n cap xs w Hs.out).mono ?_
      rintro e w1 ⟨rfl, hg⟩
      have Hg := hid hg; clear hg
      go_wp2_with fail
      go_ret
      exact ⟨none, 0, 0, rfl, by rw [Hfin.out]; exact Ow.nil _ _ _ _, Nat.le_refl _, Hg.out⟩

set_option maxHeartbeats 1000000 in
theorem SpecWeightsOf_any (a : Option Addr) (n cap : Nat) (xs : List Mark) (w : World) (hs : Sl markL w a n xs) :
    Calls Try.prog 25 #[.slice a n cap] w fun e w' => ∃ a' n' cap', e = .returned (.slice a' n' cap') ∧ Ow intL w' w.heap.size a' n' (weightsOf xs) ∧ n' ≤ cap' ∧ w.grownBy w' none := by
  obtain ⟨i0, hi, hz0, hz1, hz2⟩ := info_parts infoInt
  have hbig := hs.big
  unfold maxLen at hbig
  have Hs := hid hs; clear hs
  by_cases hbk : bookOk xs = true
  · have Hbk := hid hbk
    by_cases hneg : (xs.any fun m => decide (m.many < 0)) = true
    · have Hneg := hid hneg
      have Hfin : Hid (weightsOf xs = []) := hid (by unfold weightsOf weightsOk; rw [hneg]; simp)
      clear hneg
      go_enter Try.func25, Try.ntmps25
      go_wp2_with fail
      refine (SpecBookWorth_any a n cap xs _ (Hs.out.keep0 (gr_alloc (gr0 _) _))).mono ?_
      rintro e w1 ⟨rfl, hg⟩
      have Hsl := hid ((Hs.out.keep0 (gr_alloc (gr0 _) _)).keep0 hg)
      have Hg := hid (gr_trans0 (gr_alloc (gr0 _) _) hg); clear hg
      go_wp2_with fail
      go_loop [5, 6] (fun q i => ∃ (k : Nat) (ok : Bool), k ≤ n ∧ i = .int .i64 k ∧ q = .bool ok ∧ (ok = true → ((xs.take k).any fun m => decide (m.many < 0)) = false)) (fun _ i => n - (intOf i).toNat)
      case atStart => exact ⟨0, true, by omega, rfl, rfl, fun _ => rfl⟩
      case round =>
        obtain ⟨k, ok, hk, rfl, rfl, hall⟩ := hrel
        have Hall := hid hall; clear hall
        cases ok with
        | false =>
          by_cases hlt : k < n
          all_goals (go_wp2; go_ret; exact ⟨none, 0, 0, rfl, by rw [Hfin.out]; exact Ow.nil _ _ _ _, Nat.le_refl _, Hg.out⟩)
        | true =>
          by_cases hlt : k < n
          · obtain ⟨b, off, x, rfl, hxk, h0, h1, h2⟩ := mark_at Hsl.out k hlt
            have Hxk := hid hxk; clear hxk
            go_wp2
            go_round
            case rel =>
              refine ⟨k + 1, _, by omega, by go_num, rfl, fun h => ?_⟩
              rw [take_any _ _ _ _ Hxk.out, Hall.out rfl, Bool.false_or]
              simpa using h
            case measure => simp [intOf]; omega
          · exfalso
            obtain rfl : k = n := by omega
            have h := Hall.out rfl
            rw [take_len _ _ Hs.out.len, Hneg.out] at h
            cases h
    · have hneg' : (xs.any fun m => decide (m.many < 0)) = false := by simpa using hneg
      clear hneg
      have Hfin : Hid (weightsOf xs = xs.map (weight (bookWorth xs))) := hid (by unfold weightsOf weightsOk; rw [hneg', hbk]; simp)
      have hl8 : n ≤ 8 := by
        have h := hbk
        unfold bookOk at h
        simp only [Bool.and_eq_true, decide_eq_true_eq] at h
        have := Hs.out.len; omega
      have hb0 := bookWorth_bound xs hbk n
      rw [take_len _ _ Hs.out.len] at hb0
      have hnn : ∀ x ∈ xs, x.ok = true ∧ 0 ≤ x.many ∧ 0 ≤ x.worth := by
        intro x hx
        have h1 : x.ok = true := by
          have h := hbk
          unfold bookOk at h
          simp only [Bool.and_eq_true, List.all_eq_true] at h
          exact h.2 x hx
        have h2 : 0 ≤ x.many := by
          have := List.any_eq_false.1 hneg' x hx
          simpa using this
        exact ⟨h1, h2, (weight_bound x h1 h2).1⟩
      have hpos : 0 ≤ bookWorth xs ∧ (bookWorth xs = 0 → ∀ x ∈ xs, x.worth = 0) := sum_zero xs (fun x hx => (hnn x hx).2.2)
      have hp0 := hpos.1
      have Hnn := hid hnn; clear hnn hpos hneg'
      go_enter Try.func25, Try.ntmps25
      go_wp2_with fail
      refine (SpecBookWorth_any a n cap xs _ (Hs.out.keep0 (gr_alloc (gr0 _) _))).mono ?_
      rintro e w1 ⟨rfl, hg⟩
      rw [bookVal_ok hbk, hbk]
      have Hsl := hid ((Hs.out.keep0 (gr_alloc (gr0 _) _)).keep0 hg)
      have hown1 : w1.ownsRow w.heap.size 3 1 (.slice (some ⟨w.heap.size, 0, none⟩) 0 0) 0 (([] : List Int).flatMap intL.cells) := own_keep0 (World.ownsRow_made w #[] 0 (Nat.le_refl _) (by decide) rfl) hg
      have Hown1 := hid hown1; clear hown1
      have Hg := hid (gr_trans0 (gr_alloc (gr0 _) _) hg); clear hg hbk
      go_wp2_with fail
      go_loop [5, 6] (fun q i => ∃ (k : Nat), k ≤ n ∧ i = .int .i64 k ∧ q = .bool true) (fun _ i => n - (intOf i).toNat)
      case atStart => exact ⟨0, by omega, rfl, rfl⟩
      case round =>
        obtain ⟨k, hk, rfl, rfl⟩ := hrel
        by_cases hlt : k < n
        · obtain ⟨b, off, x, rfl, hxk, h0, h1, h2⟩ := mark_at Hsl.out k hlt
          have hx0 := (Hnn.out x (List.mem_of_getElem? hxk)).2.1
          have Hxk := hid hxk; clear hxk
          go_wp2
          go_round
          case rel => exact ⟨k + 1, by omega, by go_num, by simp⟩
          case measure => simp [intOf]; omega
        · generalize bookWorth xs = s at *
          go_wp2_with fail
          go_loopw [3, 7] (fun out i wr => ∃ (k : Nat) (a' : Option Addr) (cap' : Nat), k ≤ n ∧ i = .int .i64 k ∧ out = .slice a' k cap' ∧ wr.ownsRow w.heap.size 3 1 (.slice a' k cap') k (((xs.take k).map (weight s)).flatMap intL.cells) ∧ w.grownBy wr none) (fun _ i _ => n - (intOf i).toNat)
          case atStart => exact ⟨0, _, _, by omega, rfl, rfl, by simpa using Hown1.out, Hg.out⟩
          case round =>
            obtain ⟨j, a', cap', hj, rfl, rfl, hown, hg⟩ := hrel
            have Hown := hid hown; clear hown
            have hgs := hg.size
            by_cases hlt2 : j < n
            · obtain ⟨b, off, x, rfl, hxk, h0, h1, h2⟩ := mark_at (Hs.out.keep0 hg) j hlt2
              have hxo := Hnn.out x (List.mem_of_getElem? hxk)
              have Hxo := hid hxo.1
              obtain ⟨hw0, hw1, hw2⟩ := weight_bound x hxo.1 hxo.2.1
              clear hxo
              have Hxk := hid hxk; clear hxk
              have Hg2 := hid hg; clear hg
              go_wp2_with fail
              refine (specworth_any x _ Hxo.out).mono ?_
              rintro e w2 ⟨rfl, hg2⟩
              have Hown2 := hid (own_keep0 Hown.out hg2)
              have hgs2 := hg2.size
              have Hg3 := hid (gr_trans0 Hg2.out hg2); clear hg2
              obtain ⟨d, hd, hd1⟩ : ∃ d : Int, (if s < 1 then 1 else s) = d ∧ 1 ≤ d := ⟨_, rfl, by split <;> omega⟩
              have Hwt : Hid (weight s x = 1000 * x.worth / d) := hid (by unfold weight; rw [hd])
              go_wp2_with (at_builtin; refine wpList_append_own _ rfl _ _ 41 rfl w.heap.size 3 i0 _ 1 8 Try.underlying41 hi hz0 hz1 hz2 rfl (by decide) _ _ _ rfl (Hown2.out.alloc _) ⟨w2.heap.size, 0, none⟩ 1 1 [.int .i64 (1000 * x.worth / d)] rfl rfl ?c1 ?c2 ?c3 ?c4 ?c5 ?_)
              case c1 => exact cells_new w2 _ _ _ rfl
              case c2 => simp [Value.oneCell']
              case c3 => unfold maxLen; omega
              case c4 => omega
              case c5 => simp; omega
              intro v' w3 hown3 hg3 _
              obtain ⟨a2, cap2, rfl, _⟩ := own_form hown3
              have Hg4 := hid (gr_append (gr_alloc Hg3.out _) (Hown2.out.alloc _) (Nat.le_refl _) hg3); clear hg3
              have Hown3 := hid hown3; clear hown3
              go_wp2
              go_roundw
              case rel =>
                refine ⟨j + 1, a2, cap2, by omega, by go_num, rfl, ?_, Hg4.out⟩
                rw [take_snoc _ _ _ Hxk.out, List.map_append, List.flatMap_append, List.map_cons, Hwt.out, List.map_take]
                exact Hown3.out
              case measure => simp [intOf]; omega
            · have Hg2 := hid hg; clear hg
              go_wp2
              go_ret
              obtain rfl : j = n := by omega
              have hn := Hs.out.len
              refine ⟨a', j, cap', rfl, ?_, ?_, Hg2.out⟩
              · rw [Hfin.out]
                have := Hown.out
                rw [take_len _ _ hn] at this
                exact Ow.of_own (L := intL) this (by rw [List.length_map]; exact hn) (by unfold maxLen; omega)
              · obtain ⟨_, _, e, h⟩ := own_form Hown.out
                simp at e; omega
  · have hbk' : bookOk xs = false := by simpa using hbk
    have Hfin : Hid (weightsOf xs = []) := hid (by unfold weightsOf weightsOk; rw [hbk']; simp)
    clear hbk
    go_enter Try.func25, Try.ntmps25
    go_wp2_with fail
    refine (SpecBookWorth_any a n cap xs _ (Hs.out.keep0 (gr_alloc (gr0 _) _))).mono ?_
    rintro e w1 ⟨rfl, hg⟩
    have Hg := hid (gr_trans0 (gr_alloc (gr0 _) _) hg); clear hg
    go_wp2_with fail
    go_loop [5, 6] (fun q i => i = .int .i64 0 ∧ q = .bool false) (fun _ i => (intOf i).toNat)
    case atStart => exact ⟨rfl, rfl⟩
    case round =>
      obtain ⟨rfl, rfl⟩ := hrel
      go_wp2
      all_goals (go_ret; exact ⟨none, 0, 0, rfl, by rw [Hfin.out]; exact Ow.nil _ _ _ _, Nat.le_refl _, Hg.out⟩)

end Go.Proofs.Ythehhnckfoappaa
