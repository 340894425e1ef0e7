/- Days, months and years in plain Lean: the number of a date, the date of a number, months added. No program in sight. -/
import Derived.Test.YtpomlbloeejbjaaDoorRows
import Derived.Test.YtpomlbloeejbjaaDoorBase
namespace Go.Proofs.YtpomlbloeejbjaaDoor
open Go.RowKit

def leapB (y : Int) : Bool := (y % 4 == 0) && ((y % 100 != 0) || (y % 400 == 0))
def lp (y : Int) : Int := if leapB y = true then 1 else 0
def yd (y : Int) : Int := 365 + lp y
def dim (y m : Int) : Int := if m = 2 then 28 + lp y else if m = 4 ∨ m = 6 ∨ m = 9 ∨ m = 11 then 30 else 31
/-- The days before a month. -/
def cum (y m : Int) : Int :=
  if m ≤ 1 then 0 else if m = 2 then 31 else if m = 3 then 59 + lp y else if m = 4 then 90 + lp y else if m = 5 then 120 + lp y else if m = 6 then 151 + lp y
  else if m = 7 then 181 + lp y else if m = 8 then 212 + lp y else if m = 9 then 243 + lp y else if m = 10 then 273 + lp y else if m = 11 then 304 + lp y else if m = 12 then 334 + lp y else 365 + lp y
/-- The days before a year. -/
def dby (y : Int) : Int := (1461 * (y - 1990) + 1) / 4
def numF (y m d : Int) : Int := dby y + cum y m + d - 1

theorem lp_01 (y : Int) : 0 ≤ lp y ∧ lp y ≤ 1 := by unfold lp; split <;> omega

theorem leap_eq (y : Int) (h1 : 1990 ≤ y) (h2 : y ≤ 2089) : leapB y = (y % 4 == 0) := by
  unfold leapB
  by_cases h : y % 4 = 0
  · by_cases h5 : y % 100 = 0
    · have : y = 2000 := by omega
      subst this; rfl
    · simp [h, h5]
  · simp [h]

theorem lp_eq (y : Int) (h1 : 1990 ≤ y) (h2 : y ≤ 2089) : lp y = if y % 4 = 0 then 1 else 0 := by
  unfold lp; rw [leap_eq y h1 h2]; simp

theorem dby_start : dby 1990 = 0 := by decide
theorem dby_succ (y : Int) (h1 : 1990 ≤ y) (h2 : y ≤ 2089) : dby (y + 1) = dby y + yd y := by
  unfold yd; rw [lp_eq y h1 h2]; unfold dby
  have h : y % 4 = 0 ∨ y % 4 = 1 ∨ y % 4 = 2 ∨ y % 4 = 3 := by omega
  obtain ⟨q, hq⟩ : ∃ q, q = y / 4 := ⟨_, rfl⟩
  rcases h with h | h | h | h
  · obtain rfl : y = 4 * q := by omega
    rw [if_pos h]; omega
  · obtain rfl : y = 4 * q + 1 := by omega
    rw [if_neg (by omega)]; omega
  · obtain rfl : y = 4 * q + 2 := by omega
    rw [if_neg (by omega)]; omega
  · obtain rfl : y = 4 * q + 3 := by omega
    rw [if_neg (by omega)]; omega
theorem dby_mono (a b : Int) (h : a ≤ b) : dby a ≤ dby b := by unfold dby; omega
theorem dby_end : dby 2090 = 36525 := by decide
theorem yd_bd (y : Int) : 365 ≤ yd y ∧ yd y ≤ 366 := by have := lp_01 y; unfold yd; omega

theorem cum_start (y : Int) : cum y 1 = 0 := rfl
theorem cum_succ (y m : Int) (h1 : 1 ≤ m) (h2 : m ≤ 12) : cum y (m + 1) = cum y m + dim y m := by
  have h : m = 1 ∨ m = 2 ∨ m = 3 ∨ m = 4 ∨ m = 5 ∨ m = 6 ∨ m = 7 ∨ m = 8 ∨ m = 9 ∨ m = 10 ∨ m = 11 ∨ m = 12 := by omega
  rcases h with rfl | rfl | rfl | rfl | rfl | rfl | rfl | rfl | rfl | rfl | rfl | rfl <;> simp [cum, dim] <;> omega
theorem cum_end (y : Int) : cum y 13 = yd y := by simp [cum, yd]
theorem dim_bd (y m : Int) : 28 ≤ dim y m ∧ dim y m ≤ 31 := by
  have := lp_01 y
  unfold dim; split
  · omega
  · split <;> omega
theorem cum_mono (y a b : Int) (h1 : 1 ≤ a) (h : a ≤ b) (h2 : b ≤ 13) : cum y a ≤ cum y b := by
  have hl := lp_01 y
  have ha : a = 1 ∨ a = 2 ∨ a = 3 ∨ a = 4 ∨ a = 5 ∨ a = 6 ∨ a = 7 ∨ a = 8 ∨ a = 9 ∨ a = 10 ∨ a = 11 ∨ a = 12 ∨ a = 13 := by omega
  have hb : b = 1 ∨ b = 2 ∨ b = 3 ∨ b = 4 ∨ b = 5 ∨ b = 6 ∨ b = 7 ∨ b = 8 ∨ b = 9 ∨ b = 10 ∨ b = 11 ∨ b = 12 ∨ b = 13 := by omega
  have e1 : cum y a = (if a ≤ 1 then 0 else if a = 2 then 31 else if a = 3 then 59 + lp y else if a = 4 then 90 + lp y else if a = 5 then 120 + lp y else if a = 6 then 151 + lp y
    else if a = 7 then 181 + lp y else if a = 8 then 212 + lp y else if a = 9 then 243 + lp y else if a = 10 then 273 + lp y else if a = 11 then 304 + lp y else if a = 12 then 334 + lp y else 365 + lp y) := rfl
  have e2 : cum y b = (if b ≤ 1 then 0 else if b = 2 then 31 else if b = 3 then 59 + lp y else if b = 4 then 90 + lp y else if b = 5 then 120 + lp y else if b = 6 then 151 + lp y
    else if b = 7 then 181 + lp y else if b = 8 then 212 + lp y else if b = 9 then 243 + lp y else if b = 10 then 273 + lp y else if b = 11 then 304 + lp y else if b = 12 then 334 + lp y else 365 + lp y) := rfl
  rw [e1, e2]
  clear e1 e2
  generalize lp y = l at *
  omega

def ValidYMD (y m d : Int) : Prop := (1990 ≤ y ∧ y ≤ 2089) ∧ (1 ≤ m ∧ m ≤ 12) ∧ 1 ≤ d ∧ d ≤ dim y m

/-- The year of a day. -/
def yF (n : Int) : Int := 1990 + (4 * n + 2) / 1461
def rF (n : Int) : Int := n - dby (yF n)
def mOf (y r : Int) : Int :=
  if r < 31 then 1 else if r < 59 + lp y then 2 else if r < 90 + lp y then 3 else if r < 120 + lp y then 4 else if r < 151 + lp y then 5 else if r < 181 + lp y then 6
  else if r < 212 + lp y then 7 else if r < 243 + lp y then 8 else if r < 273 + lp y then 9 else if r < 304 + lp y then 10 else if r < 334 + lp y then 11 else 12
def mF (n : Int) : Int := mOf (yF n) (rF n)
def dF (n : Int) : Int := rF n - cum (yF n) (mF n) + 1

theorem yF_bd (n : Int) (h1 : 0 ≤ n) (h2 : n ≤ 36524) : 1990 ≤ yF n ∧ yF n ≤ 2089 := by unfold yF; omega

theorem yF_of (n y : Int) (_h1 : 1990 ≤ y) (_h2 : y ≤ 2089) (ha : dby y ≤ n) (hb : n < dby (y + 1)) : yF n = y := by
  unfold dby at ha hb; unfold yF; omega

theorem yF_lo (n : Int) : dby (yF n) ≤ n := by unfold dby yF; omega
theorem yF_hi (n : Int) : n < dby (yF n + 1) := by unfold dby yF; omega

theorem rF_bd (n : Int) (h1 : 0 ≤ n) (h2 : n ≤ 36524) : 0 ≤ rF n ∧ rF n < yd (yF n) := by
  have hy := yF_bd n h1 h2
  have h3 := dby_succ (yF n) hy.1 hy.2
  have h4 := yF_lo n
  have h5 := yF_hi n
  unfold rF; omega

theorem mOf_bd (y r : Int) : 1 ≤ mOf y r ∧ mOf y r ≤ 12 := by
  unfold mOf; (repeat' split) <;> omega

theorem mOf_spec (y r : Int) (h1 : 0 ≤ r) (h2 : r < yd y) : cum y (mOf y r) ≤ r ∧ r < cum y (mOf y r + 1) := by
  have hl := lp_01 y
  unfold yd at h2
  unfold mOf
  (repeat' split) <;> simp [cum] <;> omega

theorem mOf_of (y r m : Int) (h1 : 1 ≤ m) (h2 : m ≤ 12) (ha : cum y m ≤ r) (hb : r < cum y (m + 1)) : mOf y r = m := by
  have hl := lp_01 y
  have h : m = 1 ∨ m = 2 ∨ m = 3 ∨ m = 4 ∨ m = 5 ∨ m = 6 ∨ m = 7 ∨ m = 8 ∨ m = 9 ∨ m = 10 ∨ m = 11 ∨ m = 12 := by omega
  rcases h with rfl | rfl | rfl | rfl | rfl | rfl | rfl | rfl | rfl | rfl | rfl | rfl <;> simp [cum] at ha hb <;> unfold mOf <;> generalize lp y = l at * <;> omega

theorem date_valid (n : Int) (h1 : 0 ≤ n) (h2 : n ≤ 36524) : ValidYMD (yF n) (mF n) (dF n) := by
  have hr := rF_bd n h1 h2
  have hm := mOf_bd (yF n) (rF n)
  have hs := mOf_spec (yF n) (rF n) hr.1 hr.2
  have hc := cum_succ (yF n) (mOf (yF n) (rF n)) hm.1 hm.2
  exact ⟨yF_bd n h1 h2, hm, by unfold dF mF; omega, by unfold dF mF; omega⟩

theorem num_date (n : Int) : numF (yF n) (mF n) (dF n) = n := by unfold numF dF rF; omega

theorem num_bd (y m d : Int) (h : ValidYMD y m d) : 0 ≤ numF y m d ∧ numF y m d ≤ 36524 ∧ dby y + cum y m ≤ numF y m d ∧ numF y m d < dby y + cum y (m + 1) ∧ cum y (m + 1) ≤ yd y := by
  obtain ⟨⟨a, b⟩, ⟨c, d1⟩, e, f⟩ := h
  have h0 := dby_mono 1990 y a
  have h1 := dby_mono (y + 1) 2090 (by omega)
  have h2 := dby_succ y a b
  have h3 := cum_mono y 1 m (by omega) c (by omega)
  have h4 := cum_mono y (m + 1) 13 (by omega) (by omega) (by omega)
  have h5 := cum_succ y m c d1
  rw [dby_start] at h0
  rw [dby_end] at h1
  rw [cum_start] at h3
  rw [cum_end] at h4
  unfold numF
  omega

/-- A date is known by its number. -/
theorem date_num (y m d : Int) (h : ValidYMD y m d) : yF (numF y m d) = y ∧ mF (numF y m d) = m ∧ dF (numF y m d) = d := by
  obtain ⟨b0, b1, b2, b3, b4⟩ := num_bd y m d h
  obtain ⟨⟨a, b⟩, ⟨c, d1⟩, e, f⟩ := h
  have h2 := dby_succ y a b
  have h3 := cum_mono y 1 m (by omega) c (by omega)
  rw [cum_start] at h3
  have hy : yF (numF y m d) = y := yF_of _ _ a b (by omega) (by omega)
  have hm : mF (numF y m d) = m := by
    unfold mF rF; rw [hy]; exact mOf_of y _ m c d1 (by omega) (by omega)
  refine ⟨hy, hm, ?_⟩
  unfold dF; rw [hm]; unfold rF; rw [hy]; unfold numF; omega

/-- The months since the first one. -/
def miF (n : Int) : Int := 12 * (yF n - 1990) + mF n - 1
def okMonths (k : Int) : Bool := decide (0 ≤ k) && decide (k < 1200)
/-- The day in month number k that has the day of the month d, or the last one. -/
def atMonth (k d : Int) : Int := numF (1990 + k / 12) (k % 12 + 1) (min d (dim (1990 + k / 12) (k % 12 + 1)))
def addM (n k : Int) : Int := if okMonths (miF n + k) = true then atMonth (miF n + k) (dF n) else -1

theorem atMonth_valid (k d : Int) (h : okMonths k = true) (hd : 1 ≤ d) : ValidYMD (1990 + k / 12) (k % 12 + 1) (min d (dim (1990 + k / 12) (k % 12 + 1))) := by
  unfold okMonths at h
  simp only [Bool.and_eq_true, decide_eq_true_eq] at h
  have := dim_bd (1990 + k / 12) (k % 12 + 1)
  refine ⟨⟨by omega, by omega⟩, ⟨by omega, by omega⟩, by omega, by omega⟩

theorem mi_bd (n : Int) (h1 : 0 ≤ n) (h2 : n ≤ 36524) : 0 ≤ miF n ∧ miF n < 1200 := by
  obtain ⟨⟨a, b⟩, ⟨c, d⟩, _⟩ := date_valid n h1 h2
  unfold miF; omega

theorem dF_pos (n : Int) (h1 : 0 ≤ n) (h2 : n ≤ 36524) : 1 ≤ dF n ∧ dF n ≤ 31 := by
  obtain ⟨_, _, a, b⟩ := date_valid n h1 h2
  have := dim_bd (yF n) (mF n)
  omega

theorem addM_bd (n k : Int) (h1 : 0 ≤ n) (h2 : n ≤ 36524) : -1 ≤ addM n k ∧ addM n k ≤ 36524 := by
  unfold addM
  split
  · rename_i h
    have := num_bd _ _ _ (atMonth_valid (miF n + k) (dF n) h (dF_pos n h1 h2).1)
    unfold atMonth; omega
  · omega

theorem addM_zero (n : Int) (h1 : 0 ≤ n) (h2 : n ≤ 36524) : addM n 0 = n := by
  have hm := mi_bd n h1 h2
  have hv := date_valid n h1 h2
  obtain ⟨⟨a, b⟩, ⟨c, d⟩, e, f⟩ := hv
  unfold addM
  rw [Int.add_zero, if_pos (by unfold okMonths; simp; omega)]
  unfold atMonth
  have e1 : 1990 + miF n / 12 = yF n := by unfold miF; omega
  have e2 : miF n % 12 + 1 = mF n := by unfold miF; omega
  rw [e1, e2, show min (dF n) (dim (yF n) (mF n)) = dF n by omega]
  exact num_date n

/-- What lies before a month. -/
def mStart (k : Int) : Int := dby (1990 + k / 12) + cum (1990 + k / 12) (k % 12 + 1)

theorem mStart_succ (k : Int) (h0 : 0 ≤ k) (h : k < 1200) : mStart (k + 1) = mStart k + dim (1990 + k / 12) (k % 12 + 1) := by
  have hs := cum_succ (1990 + k / 12) (k % 12 + 1) (by omega) (by omega)
  unfold mStart
  by_cases h12 : k % 12 = 11
  · have e1 : (k + 1) / 12 = k / 12 + 1 := by omega
    have e2 : (k + 1) % 12 = 0 := by omega
    have hd := dby_succ (1990 + k / 12) (by omega) (by omega)
    rw [e1, e2, show (1990 : Int) + (k / 12 + 1) = 1990 + k / 12 + 1 by omega, hd, show (0 : Int) + 1 = 1 by omega, cum_start]
    rw [h12] at hs ⊢
    rw [show (11 : Int) + 1 + 1 = 13 by omega, cum_end] at hs
    omega
  · have e1 : (k + 1) / 12 = k / 12 := by omega
    have e2 : (k + 1) % 12 = k % 12 + 1 := by omega
    rw [e1, e2]
    omega

theorem mStart_mono (a b : Int) (h0 : 0 ≤ a) (h : a ≤ b) (h1 : b ≤ 1200) : mStart a ≤ mStart b := by
  obtain ⟨j, rfl⟩ : ∃ j : Nat, b = a + j := ⟨(b - a).toNat, by omega⟩
  induction j with
  | zero => simp
  | succ j ih =>
    have := ih (by omega) (by omega)
    have h2 := mStart_succ (a + j) (by omega) (by omega)
    have h3 := dim_bd (1990 + (a + j) / 12) ((a + j) % 12 + 1)
    rw [show a + ((j + 1 : Nat) : Int) = a + j + 1 by omega]
    omega

theorem atMonth_bd (k d : Int) (h : okMonths k = true) (hd : 1 ≤ d) : mStart k ≤ atMonth k d ∧ atMonth k d < mStart (k + 1) := by
  have hv := num_bd _ _ _ (atMonth_valid k d h hd)
  unfold okMonths at h
  simp only [Bool.and_eq_true, decide_eq_true_eq] at h
  have h2 := mStart_succ k h.1 h.2
  have h3 := cum_succ (1990 + k / 12) (k % 12 + 1) (by omega) (by omega)
  unfold mStart at h2 ⊢
  unfold atMonth
  omega

/-- More months back is an earlier day. -/
theorem addM_lt (n a b : Int) (h1 : 0 ≤ n) (h2 : n ≤ 36524) (h : a < b) (hb : okMonths (miF n + b) = true) : addM n a < addM n b := by
  have hd := (dF_pos n h1 h2).1
  have eb : addM n b = atMonth (miF n + b) (dF n) := by unfold addM; rw [if_pos hb]
  rw [eb]
  have hb2 := atMonth_bd _ _ hb hd
  by_cases ha : okMonths (miF n + a) = true
  · have ea : addM n a = atMonth (miF n + a) (dF n) := by unfold addM; rw [if_pos ha]
    rw [ea]
    have ha2 := atMonth_bd _ _ ha hd
    unfold okMonths at ha hb
    simp only [Bool.and_eq_true, decide_eq_true_eq] at ha hb
    have := mStart_mono (miF n + a + 1) (miF n + b) (by omega) (by omega) (by omega)
    omega
  · have ea : addM n a = -1 := by unfold addM; rw [if_neg ha]
    rw [ea]
    have := num_bd _ _ _ (atMonth_valid _ _ hb hd)
    unfold atMonth; omega

theorem addM_ge (n b : Int) (h : 0 ≤ addM n b) : okMonths (miF n + b) = true := by
  unfold addM at h
  split at h
  · assumption
  · omega

theorem addM_back (n k : Int) (h1 : 0 ≤ n) (h2 : n ≤ 36524) (hk : 1 ≤ k) : addM n (-k) < n := by
  have := addM_lt n (-k) 0 h1 h2 (by omega) (by have := mi_bd n h1 h2; unfold okMonths; simp; omega)
  rwa [addM_zero n h1 h2] at this

end Go.Proofs.YtpomlbloeejbjaaDoor
