/- Packed: Dates, Sched, Within, Pers. -/
import Derived.Test.YtielicmjdhmcjaaGreatDoorRows
import Derived.Test.YtielicmjdhmcjaaGreatDoorPk01
import Derived.RegionTactic
import Derived.BigRegion
/- Days, months and years in plain Lean: the number of a date, the date of a number, months added. No program in sight. -/
namespace Go.Proofs.YtielicmjdhmcjaaGreatDoor
open Go.RowKit

def leapB (y : Int) : Bool := (y % 4 == 0) && ((y % 100 != 0) || (y % 400 == 0))
def lp (y : Int) : Int := if leapB y = true then 1 else 0
def yd (y : Int) : Int := 365 + lp y
def dim (y m : Int) : Int := if m = 2 then 28 + lp y else if m = 4 ∨ m = 6 ∨ m = 9 ∨ m = 11 then 30 else 31
def cum (y m : Int) : Int :=
  if m ≤ 1 then 0 else if m = 2 then 31 else if m = 3 then 59 + lp y else if m = 4 then 90 + lp y else if m = 5 then 120 + lp y else if m = 6 then 151 + lp y
  else if m = 7 then 181 + lp y else if m = 8 then 212 + lp y else if m = 9 then 243 + lp y else if m = 10 then 273 + lp y else if m = 11 then 304 + lp y else if m = 12 then 334 + lp y else 365 + lp y
def dby (y : Int) : Int := (1461 * (y - 1990) + 1) / 4
def numF (y m d : Int) : Int := dby y + cum y m + d - 1

theorem lp_01 (y : Int) : 0 ≤ lp y ∧ lp y ≤ 1 := by unfold lp; split <;> omega

theorem leap_eq (y : Int) (h1 : 1990 ≤ y) (h2 : y ≤ 2089) : leapB y = (y % 4 == 0) := by
  unfold leapB
  by_cases h : y % 4 = 0
  · by_cases h5 : y % 100 = 0
    · have : y = 2000 := by omega
      subst this; rfl
    · simp [h, h5]
  · simp [h]

theorem lp_eq (y : Int) (h1 : 1990 ≤ y) (h2 : y ≤ 2089) : lp y = if y % 4 = 0 then 1 else 0 := by
  unfold lp; rw [leap_eq y h1 h2]; simp

theorem dby_start : dby 1990 = 0 := by decide
theorem dby_succ (y : Int) (h1 : 1990 ≤ y) (h2 : y ≤ 2089) : dby (y + 1) = dby y + yd y := by
  unfold yd; rw [lp_eq y h1 h2]; unfold dby
  have h : y % 4 = 0 ∨ y % 4 = 1 ∨ y % 4 = 2 ∨ y % 4 = 3 := by omega
  obtain ⟨q, hq⟩ : ∃ q, q = y / 4 := ⟨_, rfl⟩
  rcases h with h | h | h | h
  · obtain rfl : y = 4 * q := by omega
    rw [if_pos h]; omega
  · obtain rfl : y = 4 * q + 1 := by omega
    rw [if_neg (by omega)]; omega
  · obtain rfl : y = 4 * q + 2 := by omega
    rw [if_neg (by omega)]; omega
  · obtain rfl : y = 4 * q + 3 := by omega
    rw [if_neg (by omega)]; omega
theorem dby_mono (a b : Int) (h : a ≤ b) : dby a ≤ dby b := by unfold dby; omega
theorem dby_end : dby 2090 = 36525 := by decide
theorem yd_bd (y : Int) : 365 ≤ yd y ∧ yd y ≤ 366 := by have := lp_01 y; unfold yd; omega

theorem cum_start (y : Int) : cum y 1 = 0 := rfl
theorem cum_succ (y m : Int) (h1 : 1 ≤ m) (h2 : m ≤ 12) : cum y (m + 1) = cum y m + dim y m := by
  have h : m = 1 ∨ m = 2 ∨ m = 3 ∨ m = 4 ∨ m = 5 ∨ m = 6 ∨ m = 7 ∨ m = 8 ∨ m = 9 ∨ m = 10 ∨ m = 11 ∨ m = 12 := by omega
  rcases h with rfl | rfl | rfl | rfl | rfl | rfl | rfl | rfl | rfl | rfl | rfl | rfl <;> simp [cum, dim] <;> omega
theorem cum_end (y : Int) : cum y 13 = yd y := by simp [cum, yd]
theorem dim_bd (y m : Int) : 28 ≤ dim y m ∧ dim y m ≤ 31 := by
  have := lp_01 y
  unfold dim; split
  · omega
  · split <;> omega
theorem cum_mono (y a b : Int) (h1 : 1 ≤ a) (h : a ≤ b) (h2 : b ≤ 13) : cum y a ≤ cum y b := by
  have hl := lp_01 y
  have ha : a = 1 ∨ a = 2 ∨ a = 3 ∨ a = 4 ∨ a = 5 ∨ a = 6 ∨ a = 7 ∨ a = 8 ∨ a = 9 ∨ a = 10 ∨ a = 11 ∨ a = 12 ∨ a = 13 := by omega
  have hb : b = 1 ∨ b = 2 ∨ b = 3 ∨ b = 4 ∨ b = 5 ∨ b = 6 ∨ b = 7 ∨ b = 8 ∨ b = 9 ∨ b = 10 ∨ b = 11 ∨ b = 12 ∨ b = 13 := by omega
  have e1 : cum y a = (if a ≤ 1 then 0 else if a = 2 then 31 else if a = 3 then 59 + lp y else if a = 4 then 90 + lp y else if a = 5 then 120 + lp y else if a = 6 then 151 + lp y
    else if a = 7 then 181 + lp y else if a = 8 then 212 + lp y else if a = 9 then 243 + lp y else if a = 10 then 273 + lp y else if a = 11 then 304 + lp y else if a = 12 then 334 + lp y else 365 + lp y) := rfl
  have e2 : cum y b = (if b ≤ 1 then 0 else if b = 2 then 31 else if b = 3 then 59 + lp y else if b = 4 then 90 + lp y else if b = 5 then 120 + lp y else if b = 6 then 151 + lp y
    else if b = 7 then 181 + lp y else if b = 8 then 212 + lp y else if b = 9 then 243 + lp y else if b = 10 then 273 + lp y else if b = 11 then 304 + lp y else if b = 12 then 334 + lp y else 365 + lp y) := rfl
  rw [e1, e2]
  clear e1 e2
  generalize lp y = l at *
  omega

def ValidYMD (y m d : Int) : Prop := (1990 ≤ y ∧ y ≤ 2089) ∧ (1 ≤ m ∧ m ≤ 12) ∧ 1 ≤ d ∧ d ≤ dim y m

def yF (n : Int) : Int := 1990 + (4 * n + 2) / 1461
def rF (n : Int) : Int := n - dby (yF n)
def mOf (y r : Int) : Int :=
  if r < 31 then 1 else if r < 59 + lp y then 2 else if r < 90 + lp y then 3 else if r < 120 + lp y then 4 else if r < 151 + lp y then 5 else if r < 181 + lp y then 6
  else if r < 212 + lp y then 7 else if r < 243 + lp y then 8 else if r < 273 + lp y then 9 else if r < 304 + lp y then 10 else if r < 334 + lp y then 11 else 12
def mF (n : Int) : Int := mOf (yF n) (rF n)
def dF (n : Int) : Int := rF n - cum (yF n) (mF n) + 1

theorem yF_bd (n : Int) (h1 : 0 ≤ n) (h2 : n ≤ 36524) : 1990 ≤ yF n ∧ yF n ≤ 2089 := by unfold yF; omega

theorem yF_of (n y : Int) (_h1 : 1990 ≤ y) (_h2 : y ≤ 2089) (ha : dby y ≤ n) (hb : n < dby (y + 1)) : yF n = y := by
  unfold dby at ha hb; unfold yF; omega

theorem yF_lo (n : Int) : dby (yF n) ≤ n := by unfold dby yF; omega
theorem yF_hi (n : Int) : n < dby (yF n + 1) := by unfold dby yF; omega

theorem rF_bd (n : Int) (h1 : 0 ≤ n) (h2 : n ≤ 36524) : 0 ≤ rF n ∧ rF n < yd (yF n) := by
  have hy := yF_bd n h1 h2
  have h3 := dby_succ (yF n) hy.1 hy.2
  have h4 := yF_lo n
  have h5 := yF_hi n
  unfold rF; omega

theorem mOf_bd (y r : Int) : 1 ≤ mOf y r ∧ mOf y r ≤ 12 := by
  unfold mOf; (repeat' split) <;> omega

theorem mOf_spec (y r : Int) (h1 : 0 ≤ r) (h2 : r < yd y) : cum y (mOf y r) ≤ r ∧ r < cum y (mOf y r + 1) := by
  have hl := lp_01 y
  unfold yd at h2
  unfold mOf
  (repeat' split) <;> simp [cum] <;> omega

theorem mOf_of (y r m : Int) (h1 : 1 ≤ m) (h2 : m ≤ 12) (ha : cum y m ≤ r) (hb : r < cum y (m + 1)) : mOf y r = m := by
  have hl := lp_01 y
  have h : m = 1 ∨ m = 2 ∨ m = 3 ∨ m = 4 ∨ m = 5 ∨ m = 6 ∨ m = 7 ∨ m = 8 ∨ m = 9 ∨ m = 10 ∨ m = 11 ∨ m = 12 := by omega
  rcases h with rfl | rfl | rfl | rfl | rfl | rfl | rfl | rfl | rfl | rfl | rfl | rfl <;> simp [cum] at ha hb <;> unfold mOf <;> generalize lp y = l at * <;> omega

theorem date_valid (n : Int) (h1 : 0 ≤ n) (h2 : n ≤ 36524) : ValidYMD (yF n) (mF n) (dF n) := by
  have hr := rF_bd n h1 h2
  have hm := mOf_bd (yF n) (rF n)
  have hs := mOf_spec (yF n) (rF n) hr.1 hr.2
  have hc := cum_succ (yF n) (mOf (yF n) (rF n)) hm.1 hm.2
  exact ⟨yF_bd n h1 h2, hm, by unfold dF mF; omega, by unfold dF mF; omega⟩

theorem num_date (n : Int) : numF (yF n) (mF n) (dF n) = n := by unfold numF dF rF; omega

theorem num_bd (y m d : Int) (h : ValidYMD y m d) : 0 ≤ numF y m d ∧ numF y m d ≤ 36524 ∧ dby y + cum y m ≤ numF y m d ∧ numF y m d < dby y + cum y (m + 1) ∧ cum y (m + 1) ≤ yd y := by
  obtain ⟨⟨a, b⟩, ⟨c, d1⟩, e, f⟩ := h
  have h0 := dby_mono 1990 y a
  have h1 := dby_mono (y + 1) 2090 (by omega)
  have h2 := dby_succ y a b
  have h3 := cum_mono y 1 m (by omega) c (by omega)
  have h4 := cum_mono y (m + 1) 13 (by omega) (by omega) (by omega)
  have h5 := cum_succ y m c d1
  rw [dby_start] at h0
  rw [dby_end] at h1
  rw [cum_start] at h3
  rw [cum_end] at h4
  unfold numF
  omega

theorem date_num (y m d : Int) (h : ValidYMD y m d) : yF (numF y m d) = y ∧ mF (numF y m d) = m ∧ dF (numF y m d) = d := by
  obtain ⟨b0, b1, b2, b3, b4⟩ := num_bd y m d h
  obtain ⟨⟨a, b⟩, ⟨c, d1⟩, e, f⟩ := h
  have h2 := dby_succ y a b
  have h3 := cum_mono y 1 m (by omega) c (by omega)
  rw [cum_start] at h3
  have hy : yF (numF y m d) = y := yF_of _ _ a b (by omega) (by omega)
  have hm : mF (numF y m d) = m := by
    unfold mF rF; rw [hy]; exact mOf_of y _ m c d1 (by omega) (by omega)
  refine ⟨hy, hm, ?_⟩
  unfold dF; rw [hm]; unfold rF; rw [hy]; unfold numF; omega

def miF (n : Int) : Int := 12 * (yF n - 1990) + mF n - 1
def okMonths (k : Int) : Bool := decide (0 ≤ k) && decide (k < 1200)
def atMonth (k d : Int) : Int := numF (1990 + k / 12) (k % 12 + 1) (min d (dim (1990 + k / 12) (k % 12 + 1)))
def addM (n k : Int) : Int := if okMonths (miF n + k) = true then atMonth (miF n + k) (dF n) else -1

theorem atMonth_valid (k d : Int) (h : okMonths k = true) (hd : 1 ≤ d) : ValidYMD (1990 + k / 12) (k % 12 + 1) (min d (dim (1990 + k / 12) (k % 12 + 1))) := by
  unfold okMonths at h
  simp only [Bool.and_eq_true, decide_eq_true_eq] at h
  have := dim_bd (1990 + k / 12) (k % 12 + 1)
  refine ⟨⟨by omega, by omega⟩, ⟨by omega, by omega⟩, by omega, by omega⟩

theorem mi_bd (n : Int) (h1 : 0 ≤ n) (h2 : n ≤ 36524) : 0 ≤ miF n ∧ miF n < 1200 := by
  obtain ⟨⟨a, b⟩, ⟨c, d⟩, _⟩ := date_valid n h1 h2
  unfold miF; omega

theorem dF_pos (n : Int) (h1 : 0 ≤ n) (h2 : n ≤ 36524) : 1 ≤ dF n ∧ dF n ≤ 31 := by
  obtain ⟨_, _, a, b⟩ := date_valid n h1 h2
  have := dim_bd (yF n) (mF n)
  omega

theorem addM_bd (n k : Int) (h1 : 0 ≤ n) (h2 : n ≤ 36524) : -1 ≤ addM n k ∧ addM n k ≤ 36524 := by
  unfold addM
  split
  · rename_i h
    have := num_bd _ _ _ (atMonth_valid (miF n + k) (dF n) h (dF_pos n h1 h2).1)
    unfold atMonth; omega
  · omega

theorem addM_zero (n : Int) (h1 : 0 ≤ n) (h2 : n ≤ 36524) : addM n 0 = n := by
  have hm := mi_bd n h1 h2
  have hv := date_valid n h1 h2
  obtain ⟨⟨a, b⟩, ⟨c, d⟩, e, f⟩ := hv
  unfold addM
  rw [Int.add_zero, if_pos (by unfold okMonths; simp; omega)]
  unfold atMonth
  have e1 : 1990 + miF n / 12 = yF n := by unfold miF; omega
  have e2 : miF n % 12 + 1 = mF n := by unfold miF; omega
  rw [e1, e2, show min (dF n) (dim (yF n) (mF n)) = dF n by omega]
  exact num_date n

def mStart (k : Int) : Int := dby (1990 + k / 12) + cum (1990 + k / 12) (k % 12 + 1)

theorem mStart_succ (k : Int) (h0 : 0 ≤ k) (h : k < 1200) : mStart (k + 1) = mStart k + dim (1990 + k / 12) (k % 12 + 1) := by
  have hs := cum_succ (1990 + k / 12) (k % 12 + 1) (by omega) (by omega)
  unfold mStart
  by_cases h12 : k % 12 = 11
  · have e1 : (k + 1) / 12 = k / 12 + 1 := by omega
    have e2 : (k + 1) % 12 = 0 := by omega
    have hd := dby_succ (1990 + k / 12) (by omega) (by omega)
    rw [e1, e2, show (1990 : Int) + (k / 12 + 1) = 1990 + k / 12 + 1 by omega, hd, show (0 : Int) + 1 = 1 by omega, cum_start]
    rw [h12] at hs ⊢
    rw [show (11 : Int) + 1 + 1 = 13 by omega, cum_end] at hs
    omega
  · have e1 : (k + 1) / 12 = k / 12 := by omega
    have e2 : (k + 1) % 12 = k % 12 + 1 := by omega
    rw [e1, e2]
    omega

theorem mStart_mono (a b : Int) (h0 : 0 ≤ a) (h : a ≤ b) (h1 : b ≤ 1200) : mStart a ≤ mStart b := by
  obtain ⟨j, rfl⟩ : ∃ j : Nat, b = a + j := ⟨(b - a).toNat, by omega⟩
  induction j with
  | zero => simp
  | succ j ih =>
    have := ih (by omega) (by omega)
    have h2 := mStart_succ (a + j) (by omega) (by omega)
    have h3 := dim_bd (1990 + (a + j) / 12) ((a + j) % 12 + 1)
    rw [show a + ((j + 1 : Nat) : Int) = a + j + 1 by omega]
    omega

theorem atMonth_bd (k d : Int) (h : okMonths k = true) (hd : 1 ≤ d) : mStart k ≤ atMonth k d ∧ atMonth k d < mStart (k + 1) := by
  have hv := num_bd _ _ _ (atMonth_valid k d h hd)
  unfold okMonths at h
  simp only [Bool.and_eq_true, decide_eq_true_eq] at h
  have h2 := mStart_succ k h.1 h.2
  have h3 := cum_succ (1990 + k / 12) (k % 12 + 1) (by omega) (by omega)
  unfold mStart at h2 ⊢
  unfold atMonth
  omega

theorem addM_lt (n a b : Int) (h1 : 0 ≤ n) (h2 : n ≤ 36524) (h : a < b) (hb : okMonths (miF n + b) = true) : addM n a < addM n b := by
  have hd := (dF_pos n h1 h2).1
  have eb : addM n b = atMonth (miF n + b) (dF n) := by unfold addM; rw [if_pos hb]
  rw [eb]
  have hb2 := atMonth_bd _ _ hb hd
  by_cases ha : okMonths (miF n + a) = true
  · have ea : addM n a = atMonth (miF n + a) (dF n) := by unfold addM; rw [if_pos ha]
    rw [ea]
    have ha2 := atMonth_bd _ _ ha hd
    unfold okMonths at ha hb
    simp only [Bool.and_eq_true, decide_eq_true_eq] at ha hb
    have := mStart_mono (miF n + a + 1) (miF n + b) (by omega) (by omega) (by omega)
    omega
  · have ea : addM n a = -1 := by unfold addM; rw [if_neg ha]
    rw [ea]
    have := num_bd _ _ _ (atMonth_valid _ _ hb hd)
    unfold atMonth; omega

theorem addM_ge (n b : Int) (h : 0 ≤ addM n b) : okMonths (miF n + b) = true := by
  unfold addM at h
  split at h
  · assumption
  · omega

theorem addM_back (n k : Int) (h1 : 0 ≤ n) (h2 : n ≤ 36524) (hk : 1 ≤ k) : addM n (-k) < n := by
  have := addM_lt n (-k) 0 h1 h2 (by omega) (by have := mi_bd n h1 h2; unfold okMonths; simp; omega)
  rwa [addM_zero n h1 h2] at this

end Go.Proofs.YtielicmjdhmcjaaGreatDoor

/- Schedules, coupons and payments in plain Lean. No program in sight. -/
namespace Go.Proofs.YtielicmjdhmcjaaGreatDoor
open Go.RowKit

structure Per where
  frm : Int
  till : Int
  whole : Bool
deriving DecidableEq

def backA (e m : Int) (k : Nat) : Int := addM e (-(k * m))
def perOf (s e m : Int) (k : Nat) : Per := ⟨max (backA e m (k + 1)) s, backA e m k, decide (s ≤ backA e m (k + 1))⟩
def cntF (s e m : Int) : Nat → Nat → Nat
  | 0, k => k
  | f + 1, k => if s < backA e m k then cntF s e m f (k + 1) else k
def cnt (s e m : Int) : Nat := cntF s e m 41 0

def spanB (s e m : Int) : Bool := decide (0 ≤ s) && decide (s ≤ 36524) && decide (s < e) && decide (e ≤ 36524) && (decide (m = 1) || decide (m = 3) || decide (m = 6) || decide (m = 12))
def schedOk (s e m : Int) : Bool := spanB s e m && decide (cnt s e m ≤ 40)
def schedL (s e m : Int) : List Per := ((List.range (cnt s e m)).map (perOf s e m)).reverse
def schedF (s e m : Int) : List Per := if schedOk s e m = true then schedL s e m else []

theorem span_facts {s e m : Int} (h : spanB s e m = true) : 0 ≤ s ∧ s < e ∧ e ≤ 36524 ∧ (m = 1 ∨ m = 3 ∨ m = 6 ∨ m = 12) := by
  unfold spanB at h
  simp only [Bool.and_eq_true, Bool.or_eq_true, decide_eq_true_eq] at h
  omega

theorem back_zero (e m : Int) (h1 : 0 ≤ e) (h2 : e ≤ 36524) : backA e m 0 = e := by
  unfold backA; simpa using addM_zero e h1 h2

theorem back_lt (e m : Int) (k j : Nat) (h1 : 0 ≤ e) (h2 : e ≤ 36524) (hm : 1 ≤ m) (hj : j < k) (h0 : 0 ≤ backA e m j) : backA e m k < backA e m j := by
  unfold backA at *
  refine addM_lt e _ _ h1 h2 ?_ (addM_ge e _ h0)
  have : ((j : Int) + 1) * m ≤ k * m := Int.mul_le_mul_of_nonneg_right (by omega) (by omega)
  rw [Int.add_mul] at this
  omega

theorem back_bd (e m : Int) (k : Nat) (h1 : 0 ≤ e) (h2 : e ≤ 36524) : -1 ≤ backA e m k ∧ backA e m k ≤ 36524 := addM_bd e _ h1 h2

theorem cntF_spec (s e m : Int) (f k : Nat) : k ≤ cntF s e m f k ∧ cntF s e m f k ≤ k + f ∧ (∀ j, k ≤ j → j < cntF s e m f k → s < backA e m j) ∧ (cntF s e m f k < k + f → backA e m (cntF s e m f k) ≤ s) := by
  induction f generalizing k with
  | zero => simp only [cntF]; exact ⟨by omega, by omega, fun j h1 h2 => by omega, fun h => by omega⟩
  | succ f ih =>
    simp only [cntF]
    split
    · rename_i h
      obtain ⟨a, b, c, d⟩ := ih (k + 1)
      refine ⟨by omega, by omega, fun j h1 h2 => ?_, fun h => d (by omega)⟩
      by_cases hj : j = k
      · subst hj; exact h
      · exact c j (by omega) h2
    · rename_i h
      exact ⟨by omega, by omega, fun j h1 h2 => by omega, fun _ => by omega⟩

theorem cnt_le (s e m : Int) : cnt s e m ≤ 41 := by have := (cntF_spec s e m 41 0).2.1; unfold cnt; omega
theorem cnt_in (s e m : Int) (j : Nat) (h : j < cnt s e m) : s < backA e m j := (cntF_spec s e m 41 0).2.2.1 j (by omega) h
theorem cnt_out (s e m : Int) (h : cnt s e m ≤ 40) : backA e m (cnt s e m) ≤ s := (cntF_spec s e m 41 0).2.2.2 (by unfold cnt at h; omega)
theorem cnt_pos {s e m : Int} (h : spanB s e m = true) : 1 ≤ cnt s e m := by
  obtain ⟨h1, h2, h3, h4⟩ := span_facts h
  have e0 := back_zero e m (by omega) h3
  unfold cnt
  rw [show (41 : Nat) = 40 + 1 by rfl, cntF, e0, if_pos h2]
  have := (cntF_spec s e m 40 1).1
  omega
theorem cnt_of (s e m : Int) (k : Nat) (hk : k ≤ 41) (h : ∀ j, j < k → s < backA e m j) (hs : k = 41 ∨ backA e m k ≤ s) : cnt s e m = k := by
  have h1 := cnt_le s e m
  by_cases hlt : cnt s e m < k
  · have := cnt_out s e m (by omega)
    have := h _ hlt
    omega
  · by_cases hgt : k < cnt s e m
    · have := cnt_in s e m k hgt
      omega
    · omega

theorem sched_len (s e m : Int) : (schedL s e m).length = cnt s e m := by unfold schedL; simp
theorem sched_at (s e m : Int) (i : Nat) (h : i < cnt s e m) : (schedL s e m)[i]? = some (perOf s e m (cnt s e m - 1 - i)) := by
  unfold schedL
  rw [List.getElem?_reverse (by simpa using h)]
  simp only [List.length_map, List.length_range, List.getElem?_map]
  rw [List.getElem?_range (by omega)]; rfl

structure Span (s e m : Int) : Prop where
  s0 : 0 ≤ s
  se : s < e
  e1 : e ≤ 36524
  mm : m = 1 ∨ m = 3 ∨ m = 6 ∨ m = 12
  q1 : 1 ≤ cnt s e m
  q2 : cnt s e m ≤ 40

theorem ok_span {s e m : Int} (h : schedOk s e m = true) : Span s e m := by
  unfold schedOk at h
  simp only [Bool.and_eq_true, decide_eq_true_eq] at h
  obtain ⟨h1, h2, h3, h4⟩ := span_facts h.1
  exact ⟨h1, h2, h3, h4, cnt_pos h.1, h.2⟩

theorem Span.mpos {s e m : Int} (h : Span s e m) : 1 ≤ m ∧ m ≤ 12 := by have := h.mm; omega

theorem per_facts {s e m : Int} (h : Span s e m) (k : Nat) (hk : k < cnt s e m) :
    s ≤ (perOf s e m k).frm ∧ (perOf s e m k).frm < (perOf s e m k).till ∧ (perOf s e m k).till ≤ e ∧ ((perOf s e m k).whole = true → (perOf s e m k).frm = backA e m (k + 1)) ∧ ((perOf s e m k).whole = false → (perOf s e m k).frm = s ∧ k + 1 = cnt s e m) ∧ (perOf s e m k).till = backA e m k := by
  have hs := cnt_in s e m k hk
  have h1 := back_lt e m (k + 1) k (by have := h.s0; have := h.se; omega) h.e1 h.mpos.1 (by omega) (by have := h.s0; omega)
  have h2 : backA e m k ≤ e := by
    by_cases h0 : k = 0
    · subst h0; rw [back_zero e m (by have := h.s0; have := h.se; omega) h.e1]; omega
    · have h3 := back_zero e m (by have := h.s0; have := h.se; omega) h.e1
      have := back_lt e m k 0 (by have := h.s0; have := h.se; omega) h.e1 h.mpos.1 (by omega) (by rw [h3]; have := h.s0; have := h.se; omega)
      omega
  unfold perOf
  refine ⟨by simp only; omega, by simp only; omega, h2, fun hw => ?_, fun hw => ?_, rfl⟩
  · simp only [decide_eq_true_eq] at hw; simp only; omega
  · simp only [decide_eq_false_iff_not] at hw
    refine ⟨by simp only; omega, ?_⟩
    by_cases hlt : k + 1 < cnt s e m
    · have := cnt_in s e m (k + 1) hlt; omega
    · omega

theorem per_next {s e m : Int} (_h : Span s e m) (k : Nat) (hk : k + 1 < cnt s e m) : (perOf s e m k).frm = (perOf s e m (k + 1)).till := by
  have hs := cnt_in s e m (k + 1) hk
  unfold perOf
  simp only; omega

theorem per_first {s e m : Int} (h : Span s e m) : (perOf s e m (cnt s e m - 1)).frm = s := by
  have h1 := cnt_out s e m h.q2
  have := h.q1
  unfold perOf
  rw [show cnt s e m - 1 + 1 = cnt s e m by omega]
  simp only; omega

theorem per_last {s e m : Int} (h : Span s e m) : (perOf s e m 0).till = e := by
  unfold perOf; simp only; exact back_zero e m (by have := h.s0; have := h.se; omega) h.e1

structure Chain (L : List Per) (s e : Int) : Prop where
  ne : 1 ≤ L.length
  first : ∀ p : Per, L[0]? = some p → p.frm = s
  last : ∀ p : Per, L[L.length - 1]? = some p → p.till = e
  next : ∀ (i : Nat) (p q : Per), L[i]? = some p → L[i + 1]? = some q → p.till = q.frm
  up : ∀ (i : Nat) (p : Per), L[i]? = some p → s ≤ p.frm ∧ p.frm < p.till ∧ p.till ≤ e

theorem sched_chain {s e m : Int} (h : Span s e m) : Chain (schedL s e m) s e := by
  have hq := h.q1
  refine ⟨by rw [sched_len]; exact hq, fun p hp => ?_, fun p hp => ?_, fun i p q hp hq2 => ?_, fun i p hp => ?_⟩
  · rw [sched_at s e m 0 (by omega)] at hp
    obtain rfl := Option.some.inj hp
    simpa using per_first h
  · rw [sched_len, sched_at s e m (cnt s e m - 1) (by omega)] at hp
    obtain rfl := Option.some.inj hp
    rw [show cnt s e m - 1 - (cnt s e m - 1) = 0 by omega]; exact per_last h
  · have hi := lt_of_at hq2
    rw [sched_len] at hi
    rw [sched_at s e m i (by omega)] at hp
    rw [sched_at s e m (i + 1) hi] at hq2
    obtain rfl := Option.some.inj hp
    obtain rfl := Option.some.inj hq2
    have := per_next h (cnt s e m - 1 - (i + 1)) (by omega)
    rw [show cnt s e m - 1 - (i + 1) + 1 = cnt s e m - 1 - i by omega] at this
    exact this.symm
  · have hi := lt_of_at hp
    rw [sched_len] at hi
    rw [sched_at s e m i hi] at hp
    obtain rfl := Option.some.inj hp
    have := per_facts h (cnt s e m - 1 - i) (by omega)
    exact ⟨this.1, this.2.1, this.2.2.1⟩

theorem Chain.up_till {L : List Per} {s e : Int} (h : Chain L s e) (i j : Nat) (p q : Per) (hp : L[i]? = some p) (hq : L[j]? = some q) (hij : i < j) : p.till ≤ q.frm := by
  induction j generalizing q with
  | zero => omega
  | succ j ih =>
    have hj : j < L.length := by have := lt_of_at hq; omega
    have hx : L[j]? = some L[j] := by simp [hj]
    have hn := h.next j _ q hx hq
    by_cases he : i = j
    · subst he
      rw [hx] at hp
      obtain rfl := Option.some.inj hp
      omega
    · have := ih L[j] hx (by omega)
      have := (h.up j _ hx).2.1
      omega

def atF (L : List Per) (day : Int) : Nat := L.findIdx fun p => decide (day < p.till)

theorem Chain.at_spec {L : List Per} {s e : Int} (h : Chain L s e) (day : Int) (h1 : s ≤ day) (h2 : day < e) :
    ∃ p, L[atF L day]? = some p ∧ p.frm ≤ day ∧ day < p.till ∧ (∀ i q, i < atF L day → L[i]? = some q → q.till ≤ day) ∧ atF L day < L.length := by
  have hne := h.ne
  have hl : atF L day < L.length := by
    unfold atF
    refine List.findIdx_lt_length_of_exists ⟨L[L.length - 1], List.getElem_mem _, ?_⟩
    have := h.last L[L.length - 1] (by simp)
    simp only [decide_eq_true_eq]; omega
  have hp : L[atF L day]? = some L[atF L day] := by simp [hl]
  have hin : day < L[atF L day].till := by
    have := List.findIdx_getElem (xs := L) (p := fun p : Per => decide (day < p.till)) (w := hl)
    exact of_decide_eq_true this
  have hbef : ∀ i q, i < atF L day → L[i]? = some q → q.till ≤ day := by
    intro i q hi hq
    have hil := lt_of_at hq
    have := List.not_of_lt_findIdx (p := fun p : Per => decide (day < p.till)) (xs := L) (i := i) hi
    have e : L[i] = q := by rw [List.getElem?_eq_getElem hil] at hq; exact Option.some.inj hq
    rw [e] at this
    simpa using this
  refine ⟨_, hp, ?_, hin, hbef, hl⟩
  by_cases h0 : atF L day = 0
  · have e0 : L[0]? = L[atF L day]? := by rw [h0]
    have := h.first _ (e0.trans hp)
    omega
  · obtain ⟨i, hi⟩ : ∃ i, atF L day = i + 1 := ⟨atF L day - 1, by omega⟩
    have hil : i < L.length := by omega
    have h3 := h.next i L[i] L[atF L day] (by simp [hil]) (by rw [← hi]; exact hp)
    have h4 := hbef i L[i] (by omega) (by simp [hil])
    omega

theorem Chain.at_uniq {L : List Per} {s e : Int} (h : Chain L s e) (day : Int) (i : Nat) (p : Per) (hp : L[i]? = some p) (h1 : p.frm ≤ day) (h2 : day < p.till) : atF L day = i := by
  have hs : s ≤ day := by have := (h.up i p hp).1; omega
  have he : day < e := by have := (h.up i p hp).2.2; omega
  obtain ⟨q, hq, a, b, c, d⟩ := h.at_spec day hs he
  by_cases hlt : atF L day < i
  · have := h.up_till _ _ q p hq hp hlt; omega
  · by_cases hgt : i < atF L day
    · have := c i p hgt hp; omega
    · omega

/- Coupons. -/
def nearF (n b : Int) : Int := (2 * n + b) / (2 * b)
def wholeC (r m : Int) : Int := nearF (10000 * r * m) 120000
def beginC (m : Int) (p : Per) : Int := if addM p.till (-m) < 0 then p.frm else addM p.till (-m)
def couponF (r m : Int) (p : Per) : Int := if p.whole = true then wholeC r m else nearF (wholeC r m * (p.till - p.frm)) (p.till - beginC m p)

theorem near_bd (n b : Int) (hn : 0 ≤ n) (hb : 1 ≤ b) : 0 ≤ nearF n b ∧ 2 * b * nearF n b ≤ 2 * n + b ∧ 2 * n + b < 2 * b * nearF n b + 2 * b := by
  unfold nearF
  refine ⟨Int.ediv_nonneg (by omega) (by omega), ?_, ?_⟩
  · have := Int.mul_ediv_add_emod (2 * n + b) (2 * b)
    have := Int.emod_nonneg (2 * n + b) (b := 2 * b) (by omega)
    omega
  · have := Int.mul_ediv_add_emod (2 * n + b) (2 * b)
    have := Int.emod_lt_of_pos (2 * n + b) (b := 2 * b) (by omega)
    omega

theorem near_mono (a c b : Int) (h : a ≤ c) (hb : 1 ≤ b) : nearF a b ≤ nearF c b := by
  unfold nearF; exact Int.ediv_le_ediv (by omega) (by omega)

theorem near_part (w x b : Int) (hw : 0 ≤ w) (hx : 0 ≤ x) (hxb : x ≤ b) (hb : 1 ≤ b) : 0 ≤ nearF (w * x) b ∧ nearF (w * x) b ≤ w := by
  refine ⟨(near_bd _ _ (Int.mul_nonneg hw hx) hb).1, ?_⟩
  have h1 : w * x ≤ w * b := Int.mul_le_mul_of_nonneg_left hxb hw
  have h2 := near_mono _ _ b h1 hb
  have h3 : nearF (w * b) b = w := by
    unfold nearF
    have : 2 * (w * b) + b = b + w * (2 * b) := by
      rw [show w * (2 * b) = 2 * (w * b) by rw [← Int.mul_assoc, Int.mul_comm w 2, Int.mul_assoc]]; omega
    rw [this, Int.add_mul_ediv_right _ _ (by omega), Int.ediv_eq_zero_of_lt (by omega) (by omega)]
    omega
  omega

theorem near_zero (b : Int) (hb : 1 ≤ b) : nearF 0 b = 0 := by
  unfold nearF; exact Int.ediv_eq_zero_of_lt (by omega) (by omega)

def rateB (r : Int) : Bool := decide (0 ≤ r) && decide (r ≤ 3000)

theorem wholeC_bd (r m : Int) (h1 : 0 ≤ r) (h2 : r ≤ 3000) (h3 : 1 ≤ m) (h4 : m ≤ 12) : 0 ≤ wholeC r m ∧ wholeC r m ≤ 3000 := by
  have h : m = 1 ∨ m = 2 ∨ m = 3 ∨ m = 4 ∨ m = 5 ∨ m = 6 ∨ m = 7 ∨ m = 8 ∨ m = 9 ∨ m = 10 ∨ m = 11 ∨ m = 12 := by omega
  unfold wholeC nearF
  rcases h with rfl | rfl | rfl | rfl | rfl | rfl | rfl | rfl | rfl | rfl | rfl | rfl <;> omega

end Go.Proofs.YtielicmjdhmcjaaGreatDoor

/- Ranges of numbers: the program's within, the reference's inRange, and what is built of them. -/
namespace Go.Proofs.YtielicmjdhmcjaaGreatDoor
open Go.RowKit

def withinB (n lo hi : Int) : Bool := decide (lo ≤ n) && decide (n ≤ hi)
theorem within_iff' (n lo hi : Int) : withinB n lo hi = true ↔ lo ≤ n ∧ n ≤ hi := by
  unfold withinB; simp

theorem within_any (n lo hi : Int) (w : World) :
    Calls Tryz.prog 113 #[.int .i64 n, .int .i64 lo, .int .i64 hi] w fun e w' => e = .returned (.bool (withinB n lo hi)) ∧ w = w' := by
  go_enter Tryz.func113, Tryz.ntmps113
  go_wp2
  all_goals (go_ret; refine ⟨ret_bool ?_, rfl⟩; unfold withinB; simp [*] <;> omega)

theorem inRange_any (n lo hi : Int) (w : World) :
    Calls Tryz.prog 100 #[.int .i64 n, .int .i64 lo, .int .i64 hi] w fun e w' => e = .returned (.bool (withinB n lo hi)) ∧ w = w' := by
  go_enter Tryz.func100, Tryz.ntmps100
  go_wp2
  all_goals (go_ret; refine ⟨ret_bool ?_, rfl⟩; unfold withinB; simp [*] <;> omega)

theorem rateValid_any (n : Int) (w : World) :
    Calls Tryz.prog 122 #[.int .i64 n] w fun e w' => e = .returned (.bool (withinB n 0 3000)) ∧ w = w' := by
  go_enter Tryz.func122, Tryz.ntmps122
  go_wp2_with (go_at_call 113; refine (within_any _ _ _ _).mono ?_; rintro e w' ⟨rfl, rfl⟩)
  go_ret
  exact ⟨rfl, rfl⟩

theorem dayValid_any (n : Int) (w : World) :
    Calls Tryz.prog 123 #[.int .i64 n] w fun e w' => e = .returned (.bool (withinB n 0 36524)) ∧ w = w' := by
  go_enter Tryz.func123, Tryz.ntmps123
  go_wp2_with (go_at_call 113; refine (within_any _ _ _ _).mono ?_; rintro e w' ⟨rfl, rfl⟩)
  go_ret
  exact ⟨rfl, rfl⟩

theorem floor_eq (a b : Int) (hb : 0 < b) : a / b = if a.tmod b < 0 then a.tdiv b - 1 else a.tdiv b := by
  have h1 := Int.mul_tdiv_add_tmod a b
  have h2 := Int.mul_ediv_add_emod a b
  have h3 := Int.emod_nonneg a (b := b) (by omega)
  have h4 := Int.emod_lt_of_pos a hb
  have h5 : a.tmod b < b := Int.tmod_lt_of_pos a hb
  by_cases h0 : 0 ≤ a
  · have h6 := Int.tmod_nonneg b h0
    rw [if_neg (by omega), Int.tdiv_eq_ediv_of_nonneg h0]
  · have h7 : -b < a.tmod b := by
      have := Int.tmod_lt_of_pos (-a) hb
      rw [Int.neg_tmod] at this
      omega
    split
    · rename_i hneg
      have e : b * (a.tdiv b - 1) + (a.tmod b + b) = a := by rw [Int.mul_sub]; omega
      have h8 : b * (a / b) + a % b = b * (a.tdiv b - 1) + (a.tmod b + b) := by omega
      have h9 : b * (a / b - (a.tdiv b - 1)) < b * 1 := by rw [Int.mul_sub]; omega
      have h10 : b * (a.tdiv b - 1 - a / b) < b * 1 := by rw [Int.mul_sub]; omega
      have h11 := Int.lt_of_mul_lt_mul_left h9 (by omega)
      have h12 := Int.lt_of_mul_lt_mul_left h10 (by omega)
      omega
    · rename_i hpos
      have h9 : b * (a / b - a.tdiv b) < b * 1 := by rw [Int.mul_sub]; omega
      have h10 : b * (a.tdiv b - a / b) < b * 1 := by rw [Int.mul_sub]; omega
      have h11 := Int.lt_of_mul_lt_mul_left h9 (by omega)
      have h12 := Int.lt_of_mul_lt_mul_left h10 (by omega)
      omega

theorem floor_any (a b : Int) (w : World) (hb : 0 < b) (hb1 : b ≤ 4611686018427387904) (ha0 : -4611686018427387904 ≤ a) (ha1 : a ≤ 4611686018427387904) :
    Calls Tryz.prog 120 #[.int .i64 a, .int .i64 b] w fun e w' => e = .returned (.int .i64 (a / b)) ∧ w = w' := by
  have Hf := hid (floor_eq a b hb)
  have hq : -4611686018427387904 ≤ a.tdiv b ∧ a.tdiv b ≤ 4611686018427387904 := by
    have h2 := Int.natAbs_tdiv_le_natAbs a b
    omega
  obtain ⟨hq0, hq1⟩ := hq
  by_cases h0 : 0 ≤ a
  · have hm := Int.emod_nonneg a (b := b) (by omega)
    have He := hid (Int.tdiv_eq_ediv_of_nonneg (b := b) h0)
    go_enter Tryz.func120, Tryz.ntmps120
    go_wp2_with fail
    go_ret
    exact ⟨ret_int He.out, rfl⟩
  · have h00 : a < 0 := by omega
    clear h0
    go_enter Tryz.func120, Tryz.ntmps120
    go_wp2_with fail
    · go_ret
      have hn : a.tmod b < 0 := by assumption
      exact ⟨ret_int (by rw [Hf.out, if_pos hn]), rfl⟩
    · go_ret
      have hn : 0 ≤ a.tmod b := by assumption
      exact ⟨ret_int (by rw [Hf.out, if_neg (by omega)]), rfl⟩

theorem floorDiv_any (a b : Int) (w : World) (hb : 0 < b) (hb1 : b ≤ 4611686018427387904) (ha0 : -4611686018427387904 ≤ a) (ha1 : a ≤ 4611686018427387904) :
    Calls Tryz.prog 146 #[.int .i64 a, .int .i64 b] w fun e w' => e = .returned (.int .i64 (a / b)) ∧ w = w' := by
  have Hf := hid (floor_eq a b hb)
  have hq : -4611686018427387904 ≤ a.tdiv b ∧ a.tdiv b ≤ 4611686018427387904 := by
    have h2 := Int.natAbs_tdiv_le_natAbs a b
    omega
  obtain ⟨hq0, hq1⟩ := hq
  by_cases h0 : 0 ≤ a
  · have hm := Int.emod_nonneg a (b := b) (by omega)
    have He := hid (Int.tdiv_eq_ediv_of_nonneg (b := b) h0)
    go_enter Tryz.func146, Tryz.ntmps146
    go_wp2_with fail
    go_ret
    exact ⟨ret_int He.out, rfl⟩
  · have h00 : a < 0 := by omega
    clear h0
    go_enter Tryz.func146, Tryz.ntmps146
    go_wp2_with fail
    · go_ret
      have hn : a.tmod b < 0 := by assumption
      exact ⟨ret_int (by rw [Hf.out, if_pos hn]), rfl⟩
    · go_ret
      have hn : 0 ≤ a.tmod b := by assumption
      exact ⟨ret_int (by rw [Hf.out, if_neg (by omega)]), rfl⟩


theorem nearest_any (a b : Int) (w : World) (hb : 0 < b) (hb1 : b ≤ 1152921504606846976) (ha0 : -1152921504606846976 ≤ a) (ha1 : a ≤ 1152921504606846976) :
    Calls Tryz.prog 81 #[.int .i64 a, .int .i64 b] w fun e w' => e = .returned (.int .i64 ((2 * a + b) / (2 * b))) ∧ w = w' := by
  go_enter Tryz.func81, Tryz.ntmps81
  go_wp2_with fail
  refine (floor_any (2 * a + b) (2 * b) _ (by omega) (by omega) (by omega) (by omega)).mono ?_
  rintro e w' ⟨rfl, rfl⟩
  go_wp2_with fail
  go_ret
  exact ⟨rfl, rfl⟩

theorem specnearest_any (a b : Int) (w : World) (hb : 0 < b) (hb1 : b ≤ 1152921504606846976) (ha0 : -1152921504606846976 ≤ a) (ha1 : a ≤ 1152921504606846976) :
    Calls Tryz.prog 103 #[.int .i64 a, .int .i64 b] w fun e w' => e = .returned (.int .i64 ((2 * a + b) / (2 * b))) ∧ w = w' := by
  go_enter Tryz.func103, Tryz.ntmps103
  go_wp2_with fail
  refine (floorDiv_any (2 * a + b) (2 * b) _ (by omega) (by omega) (by omega) (by omega)).mono ?_
  rintro e w' ⟨rfl, rfl⟩
  go_wp2_with fail
  go_ret
  exact ⟨rfl, rfl⟩


end Go.Proofs.YtielicmjdhmcjaaGreatDoor

/- Periods in memory: their layout; slices.Reverse and slices.Clip at them. -/
namespace Go.Proofs.YtielicmjdhmcjaaGreatDoor
open Go.RowKit

def perL : Lay Per := ⟨3, fun p => [.int .i64 p.frm, .int .i64 p.till, .bool p.whole], fun _ => rfl⟩
theorem per_at {w : World} {a : Option Addr} {n : Nat} {xs : List Per} (h : Sl perL w a n xs) (k : Nat) (hk : k < n) :
    ∃ b off x, a = some ⟨b, off, none⟩ ∧ xs[k]? = some x ∧ w.cell? ⟨b, off + k * 3, none⟩ = some (.int .i64 x.frm) ∧ w.cell? ⟨b, off + k * 3 + 1, none⟩ = some (.int .i64 x.till) ∧ w.cell? ⟨b, off + k * 3 + 2, none⟩ = some (.bool x.whole) := by
  obtain ⟨b, off, x, ha, hx, _, hc⟩ := h.at k hk
  exact ⟨b, off, x, ha, hx, hc 0 _ rfl, hc 1 _ rfl, hc 2 _ rfl⟩

theorem Ow.set3 {w : World} {base b off n : Nat} {xs : List Per} (h : Ow perL w base (some ⟨b, off, none⟩) n xs) (k : Nat) (x y : Per) (hx : xs[k]? = some x) :
    Ow perL (((w.setCell ⟨b, off + k * 3, none⟩ (.int .i64 y.frm)).setCell ⟨b, off + k * 3 + 1, none⟩ (.int .i64 y.till)).setCell ⟨b, off + k * 3 + 2, none⟩ (.bool y.whole)) base (some ⟨b, off, none⟩) n (xs.set k y) := by
  have hk := lt_of_at hx
  have o1 := h.set k 0 x ⟨y.frm, x.till, x.whole⟩ (.int .i64 y.frm) hx (by simp [perL]) rfl (off + k * 3) (by simp [perL])
  have o2 := o1.set k 1 ⟨y.frm, x.till, x.whole⟩ ⟨y.frm, y.till, x.whole⟩ (.int .i64 y.till) (List.getElem?_set_self hk) (by simp [perL]) rfl (off + k * 3 + 1) (by simp [perL]; omega)
  rw [List.set_set] at o2
  have o3 := o2.set k 2 ⟨y.frm, y.till, x.whole⟩ y (.bool y.whole) (List.getElem?_set_self hk) (by simp [perL]) rfl (off + k * 3 + 2) (by simp [perL]; omega)
  rw [List.set_set] at o3
  exact o3

def revSt (xs : List Per) (i : Nat) : List Per := (List.range xs.length).map fun t => if t < i ∨ xs.length - i ≤ t then xs.getD (xs.length - 1 - t) ⟨0, 0, false⟩ else xs.getD t ⟨0, 0, false⟩
theorem revSt_len (xs : List Per) (i : Nat) : (revSt xs i).length = xs.length := by unfold revSt; simp
theorem revSt_at (xs : List Per) (i t : Nat) (ht : t < xs.length) : (revSt xs i)[t]? = some (if t < i ∨ xs.length - i ≤ t then xs.getD (xs.length - 1 - t) ⟨0, 0, false⟩ else xs.getD t ⟨0, 0, false⟩) := by
  unfold revSt; rw [List.getElem?_map, List.getElem?_range ht]; rfl
theorem revSt_zero (xs : List Per) : revSt xs 0 = xs := by
  apply List.ext_getElem?
  intro t
  by_cases ht : t < xs.length
  · rw [revSt_at xs 0 t ht, if_neg (by omega), List.getD_eq_getElem?_getD, List.getElem?_eq_getElem ht]; rfl
  · rw [List.getElem?_eq_none (by rw [revSt_len]; omega), List.getElem?_eq_none (by omega)]
theorem revSt_end (xs : List Per) (i : Nat) (h : xs.length ≤ 2 * i + 1) : revSt xs i = xs.reverse := by
  apply List.ext_getElem?
  intro t
  by_cases ht : t < xs.length
  · rw [revSt_at xs i t ht, List.getElem?_reverse ht]
    by_cases hc : t < i ∨ xs.length - i ≤ t
    · rw [if_pos hc, List.getD_eq_getElem?_getD, List.getElem?_eq_getElem (show xs.length - 1 - t < xs.length by omega)]; rfl
    · rw [if_neg hc, show xs.length - 1 - t = t by omega, List.getD_eq_getElem?_getD, List.getElem?_eq_getElem ht]; rfl
  · rw [List.getElem?_eq_none (by rw [revSt_len]; omega), List.getElem?_eq_none (by rw [List.length_reverse]; omega)]
theorem revSt_step (xs : List Per) (i j : Nat) (x y : Per) (hij : i + j + 1 = xs.length) (hlt : i < j) (hx : xs[i]? = some x) (hy : xs[j]? = some y) :
    (revSt xs i)[i]? = some x ∧ (revSt xs i)[j]? = some y ∧ ((revSt xs i).set i y).set j x = revSt xs (i + 1) := by
  have hxi : xs.getD i ⟨0, 0, false⟩ = x := by rw [List.getD_eq_getElem?_getD, hx]; rfl
  have hyj : xs.getD j ⟨0, 0, false⟩ = y := by rw [List.getD_eq_getElem?_getD, hy]; rfl
  refine ⟨by rw [revSt_at xs i i (by omega), if_neg (by omega), hxi], by rw [revSt_at xs i j (by omega), if_neg (by omega), hyj], ?_⟩
  apply List.ext_getElem?
  intro t
  by_cases ht : t < xs.length
  · rw [revSt_at xs (i + 1) t ht]
    by_cases h1 : t = j
    · subst h1
      rw [List.getElem?_set_self (by rw [List.length_set, revSt_len]; exact ht), if_pos (by omega), show xs.length - 1 - t = i by omega, hxi]
    · rw [List.getElem?_set_ne (by omega)]
      by_cases h2 : t = i
      · subst h2
        rw [List.getElem?_set_self (by rw [revSt_len]; exact ht), if_pos (by omega), show xs.length - 1 - t = j by omega, hyj]
      · rw [List.getElem?_set_ne (by omega), revSt_at xs i t ht]
        congr 1
        by_cases hc : t < i ∨ xs.length - i ≤ t
        · rw [if_pos hc, if_pos (by omega)]
        · rw [if_neg hc, if_neg (by omega)]
  · rw [List.getElem?_eq_none (by rw [List.length_set, List.length_set, revSt_len]; omega), List.getElem?_eq_none (by rw [revSt_len]; omega)]

theorem ClipPers_any (a : Option Addr) (n cap : Nat) (w : World) (hc : n ≤ cap) (_hm : cap ≤ maxLen) (ha : a.isSome = true) :
    Calls Tryz.prog 170 #[.slice a n cap] w fun e w' => e = .returned (.slice a n n) ∧ w = w' := by
  unfold maxLen at _hm
  cases a with
  | none => cases ha
  | some a =>
    go_enter Tryz.func170, Tryz.ntmps170
    go_wp2
    go_ret
    exact ⟨rfl, rfl⟩

set_option maxRecDepth 100000 in
set_option maxHeartbeats 1000000 in
theorem ReversePers_any (g B n cap : Nat) (xs : List Per) (w : World) (ho : Ow perL w B (some ⟨g, 0, none⟩) n xs) (hn1 : 1 ≤ n) (hn : n ≤ 100) :
    Calls Tryz.prog 169 #[.slice (some ⟨g, 0, none⟩) n cap] w fun e w' => e = .returned (.tuple #[]) ∧ Ow perL w' B (some ⟨g, 0, none⟩) n xs.reverse ∧ w.grownBy w' (some g) := by
  have hl := ho.len
  have Ho := hid ho; clear ho
  go_enter Tryz.func169, Tryz.ntmps169
  go_wp2_with fail
  go_loopw [2, 3] (fun p q wr => ∃ i : Nat, i < n ∧ p = .int .i64 i ∧ q = .int .i64 ((n : Int) - 1 - i) ∧ 2 * i ≤ n ∧ Ow perL wr B (some ⟨g, 0, none⟩) n (revSt xs i) ∧ w.grownBy wr (some g)) (fun p _ _ => n - (intOf p).toNat)
  case atStart => exact ⟨0, by omega, rfl, by simp, by omega, by rw [revSt_zero]; exact Ho.out, gr_refl _ _⟩
  case round =>
    obtain ⟨i, hi, rfl, rfl, h2, ho, hg⟩ := hrel
    have Hg := hid hg; clear hg
    by_cases hlt : (i : Int) < (n : Int) - 1 - i
    · obtain ⟨j, hj⟩ : ∃ j : Nat, i + j + 1 = n := ⟨n - 1 - i, by omega⟩
      have hjn : (n : Int) - 1 - i = j := by omega
      rw [hjn] at hlt ⊢
      clear hjn
      obtain ⟨x, hx⟩ : ∃ x, xs[i]? = some x := ⟨xs[i]'(by omega), by simp⟩
      obtain ⟨y, hy⟩ : ∃ y, xs[j]? = some y := ⟨xs[j]'(by omega), by simp⟩
      obtain ⟨s1, s2, s3⟩ := revSt_step xs i j x y (by omega) (by omega) hx hy
      obtain ⟨b, o, z, e, hz, a0, a1, a2⟩ := per_at ho.sl i (by omega)
      cases e
      rw [s1] at hz; obtain rfl := Option.some.inj hz
      obtain ⟨b, o, z, e, hz, d0, d1, d2⟩ := per_at ho.sl j (by omega)
      cases e
      rw [s2] at hz; obtain rfl := Option.some.inj hz
      obtain ⟨b, o, e, _, _, f, _⟩ := ho.mem (by omega)
      cases e
      simp only [Nat.zero_add] at a0 a1 a2 d0 d1 d2
      have fa0 : wr.frozen? ⟨g, i * 3, none⟩ = false := f _
      have fa1 : wr.frozen? ⟨g, i * 3 + 1, none⟩ = false := f _
      have fa2 : wr.frozen? ⟨g, i * 3 + 2, none⟩ = false := f _
      have fd0 : wr.frozen? ⟨g, j * 3, none⟩ = false := f _
      have fd1 : wr.frozen? ⟨g, j * 3 + 1, none⟩ = false := f _
      have fd2 : wr.frozen? ⟨g, j * 3 + 2, none⟩ = false := f _
      have S1 := hid s1; have S2 := hid s2; have S3 := hid s3; have HO := hid ho
      have n0 : ¬ i * 3 = j * 3 := by omega
      have n1 : ¬ i * 3 = j * 3 + 1 := by omega
      have n2 : ¬ i * 3 = j * 3 + 2 := by omega
      have n3 : ¬ i * 3 + 1 = j * 3 := by omega
      have n4 : ¬ i * 3 + 1 = j * 3 + 1 := by omega
      have n5 : ¬ i * 3 + 1 = j * 3 + 2 := by omega
      have n6 : ¬ i * 3 + 2 = j * 3 := by omega
      have n7 : ¬ i * 3 + 2 = j * 3 + 1 := by omega
      have n8 : ¬ i * 3 + 2 = j * 3 + 2 := by omega
      have i0 : (0 : Int) ≤ i := by omega
      have i1 : (i : Int) < n := by omega
      have j0 : (0 : Int) ≤ j := by omega
      have j1 : (j : Int) < n := by omega
      clear s1 s2 s3 ho f hx hy
      go_wp2_with fail
      go_region
      go_wp2
      go_roundw
      case rel =>
        have o1 := HO.out.set3 i x y S1.out
        have o2 := o1.set3 j y x (by rw [List.getElem?_set_ne (by omega)]; exact S2.out)
        rw [S3.out] at o2
        simp only [Nat.zero_add] at o2
        refine ⟨i + 1, by omega, by go_num, by congr 1; omega, by omega, o2.keep0 (gr_drew (gr0 _)), gr_drew (gr_setCell (gr_setCell (gr_setCell (gr_setCell (gr_setCell (gr_setCell Hg.out (.inl rfl) _) (.inl rfl) _) (.inl rfl) _) (.inl rfl) _) (.inl rfl) _) (.inl rfl) _)⟩
      case measure => simp [intOf]; omega
    · have Hfin := hid (revSt_end xs i (by omega))
      rw [Hfin.out] at ho
      have HO := hid ho; clear ho
      go_wp2_with fail
      go_end0
      exact ⟨rfl, HO.out, Hg.out⟩

end Go.Proofs.YtielicmjdhmcjaaGreatDoor
