/- Prices, yields, risks and shocks in plain Lean: what the laws say of them. No program in sight. -/
import Derived.Test.YtkgjciacdjhhfaaDoorRows
import Derived.Test.YtkgjciacdjhhfaaDoorBase
import Derived.Test.YtkgjciacdjhhfaaDoorPrices
namespace Go.Proofs.YtkgjciacdjhhfaaDoor
open Go.RowKit

def sumD (f : Nat → Int) : Nat → List Flow → Int
  | _, [] => 0
  | k, x :: xs => x.amount * f k + sumD f (k + 1) xs
def sumA : List Flow → Int
  | [] => 0
  | x :: xs => x.amount + sumA xs

theorem sumD_mono (f g : Nat → Int) (k : Nat) (xs : List Flow) (ha : ∀ x ∈ xs, 0 ≤ x.amount) (h : ∀ j, k ≤ j → j < k + xs.length → f j ≤ g j) : sumD f k xs ≤ sumD g k xs := by
  induction xs generalizing k with
  | nil => exact Int.le_refl _
  | cons x xs ih =>
    simp only [sumD]
    have h1 : x.amount * f k ≤ x.amount * g k := Int.mul_le_mul_of_nonneg_left (h k (Nat.le_refl _) (by simp)) (ha x (by simp))
    have h2 := ih (k + 1) (fun z hz => ha z (List.mem_cons_of_mem _ hz)) (fun j a b => h j (by omega) (by simp; omega))
    omega

theorem sumD_two (f g h : Nat → Int) (k : Nat) (xs : List Flow) (ha : ∀ x ∈ xs, 0 ≤ x.amount) (hh : ∀ j, k ≤ j → j < k + xs.length → 2 * f j ≤ g j + h j) : 2 * sumD f k xs ≤ sumD g k xs + sumD h k xs := by
  induction xs generalizing k with
  | nil => simp [sumD]
  | cons x xs ih =>
    simp only [sumD]
    have h1 : x.amount * (2 * f k) ≤ x.amount * (g k + h k) := Int.mul_le_mul_of_nonneg_left (hh k (Nat.le_refl _) (by simp)) (ha x (by simp))
    rw [Int.mul_add] at h1
    have e : x.amount * (2 * f k) = 2 * (x.amount * f k) := by rw [← Int.mul_assoc, Int.mul_comm x.amount, Int.mul_assoc]
    have h2 := ih (k + 1) (fun z hz => ha z (List.mem_cons_of_mem _ hz)) (fun j a b => hh j (by omega) (by simp; omega))
    omega

theorem sumD_const (f : Nat → Int) (c : Int) (k : Nat) (xs : List Flow) (h : ∀ j, f j = c) : sumD f k xs = sumA xs * c := by
  induction xs generalizing k with
  | nil => simp [sumD, sumA]
  | cons x xs ih => simp only [sumD, sumA]; rw [ih, h k, Int.add_mul]

theorem sumD_nonneg (f : Nat → Int) (k : Nat) (xs : List Flow) (ha : ∀ x ∈ xs, 0 ≤ x.amount) (h : ∀ j, k ≤ j → j < k + xs.length → 0 ≤ f j) : 0 ≤ sumD f k xs := by
  have := sumD_mono (fun _ => 0) f k xs ha h
  rw [sumD_const _ 0 _ _ (fun _ => rfl)] at this
  omega

/-- The last one alone is not more than all. -/
theorem sumD_last (f : Nat → Int) (k : Nat) (xs : List Flow) (x : Flow) (ha : ∀ x ∈ xs, 0 ≤ x.amount) (h : ∀ j, k ≤ j → j < k + xs.length → 0 ≤ f j) (hx : xs[xs.length - 1]? = some x) (h0 : 1 ≤ xs.length) : x.amount * f (k + (xs.length - 1)) ≤ sumD f k xs := by
  induction xs generalizing k with
  | nil => simp at h0
  | cons y xs ih =>
    simp only [sumD]
    have hn := sumD_nonneg f (k + 1) xs (fun z hz => ha z (List.mem_cons_of_mem _ hz)) (fun j a b => h j (by omega) (by simp; omega))
    have hy : 0 ≤ y.amount * f k := Int.mul_nonneg (ha y (by simp)) (h k (Nat.le_refl _) (by simp))
    cases hxs : xs with
    | nil =>
      subst hxs
      obtain rfl : y = x := by simpa using hx
      simp [sumD]
    | cons z zs =>
      rw [← hxs]
      have hl : 1 ≤ xs.length := by rw [hxs]; simp
      have hx2 : xs[xs.length - 1]? = some x := by
        rw [List.length_cons, Nat.add_sub_cancel] at hx
        obtain ⟨m, hm⟩ : ∃ m, xs.length = m + 1 := ⟨xs.length - 1, by omega⟩
        rw [hm] at hx ⊢
        simpa using hx
      have := ih (k + 1) (fun z hz => ha z (List.mem_cons_of_mem _ hz)) (fun j a b => h j (by omega) (by simp; omega)) hx2 hl
      rw [List.length_cons, Nat.add_sub_cancel, show k + xs.length = k + 1 + (xs.length - 1) by omega]
      omega

/-- A strict step at the last one, the others being not greater. -/
theorem sumD_strict (f g : Nat → Int) (k : Nat) (xs : List Flow) (x : Flow) (ha : ∀ x ∈ xs, 0 ≤ x.amount) (h : ∀ j, k ≤ j → j < k + xs.length → f j ≤ g j) (hx : xs[xs.length - 1]? = some x) (h0 : 1 ≤ xs.length) (hp : 0 < x.amount) (hs : f (k + (xs.length - 1)) < g (k + (xs.length - 1))) : sumD f k xs < sumD g k xs := by
  induction xs generalizing k with
  | nil => simp at h0
  | cons y xs ih =>
    simp only [sumD]
    have hy : y.amount * f k ≤ y.amount * g k := Int.mul_le_mul_of_nonneg_left (h k (Nat.le_refl _) (by simp)) (ha y (by simp))
    cases hxs : xs with
    | nil =>
      subst hxs
      obtain rfl : y = x := by simpa using hx
      simp only [List.length_cons, List.length_nil, Nat.zero_add, Nat.sub_self, Nat.add_zero] at hs
      have : y.amount * f k < y.amount * g k := Int.mul_lt_mul_of_pos_left hs hp
      simp only [sumD]; omega
    | cons z zs =>
      rw [← hxs]
      have hl : 1 ≤ xs.length := by rw [hxs]; simp
      have hx2 : xs[xs.length - 1]? = some x := by
        rw [List.length_cons, Nat.add_sub_cancel] at hx
        obtain ⟨m, hm⟩ : ∃ m, xs.length = m + 1 := ⟨xs.length - 1, by omega⟩
        rw [hm] at hx ⊢
        simpa using hx
      rw [List.length_cons, Nat.add_sub_cancel, show k + xs.length = k + 1 + (xs.length - 1) by omega] at hs
      have := ih (k + 1) (fun z hz => ha z (List.mem_cons_of_mem _ hz)) (fun j a b => h j (by omega) (by simp; omega)) hx2 hl hs
      omega

def wsum : Nat → Nat → Int
  | _, 0 => 0
  | k, n + 1 => (2 * k + 3) + wsum (k + 1) n
set_option maxRecDepth 10000 in
theorem wsum_le (n : Nat) (h : n ≤ 40) : wsum 0 n ≤ 1680 := by
  have hd : ∀ n : Fin 41, wsum 0 n ≤ 1680 := by decide
  exact hd ⟨n, by omega⟩
theorem wsum_nonneg (k n : Nat) : 0 ≤ wsum k n := by
  induction n generalizing k with
  | zero => simp [wsum]
  | succ n ih => have := ih (k + 1); simp only [wsum]; omega

/-- How far two sums stand apart, where the steps stand apart by 2 j + 3 at most. -/
theorem sumD_width (f g : Nat → Int) (k : Nat) (xs : List Flow) (c : Int) (hc : 0 ≤ c) (ha : ∀ x ∈ xs, 0 ≤ x.amount) (hb : ∀ (i : Nat) (x : Flow), xs[i]? = some x → i + 1 < xs.length → x.amount ≤ c) (hl : ∀ x, xs[xs.length - 1]? = some x → x.amount ≤ c + 10000) (h : ∀ j : Nat, k ≤ j → j < k + xs.length → g j - f j ≤ 2 * j + 3) :
    sumD g k xs - sumD f k xs ≤ c * wsum k xs.length + 10000 * (2 * (k + xs.length) + 1) := by
  induction xs generalizing k with
  | nil => simp only [sumD, wsum, List.length_nil]; omega
  | cons x xs ih =>
    have h0 := h k (Nat.le_refl _) (by simp)
    have hx0 := ha x (by simp)
    have e0 : x.amount * g k - x.amount * f k = x.amount * (g k - f k) := by rw [Int.mul_sub]
    have s1 : x.amount * (g k - f k) ≤ x.amount * (2 * k + 3) := Int.mul_le_mul_of_nonneg_left h0 hx0
    have ew : wsum k (x :: xs).length = (2 * k + 3) + wsum (k + 1) xs.length := rfl
    rw [ew]
    simp only [sumD]
    cases hxs : xs with
    | nil =>
      have hx1 := hl x (by rw [hxs]; simp)
      have s2 : x.amount * (2 * (k : Int) + 3) ≤ (c + 10000) * (2 * k + 3) := Int.mul_le_mul_of_nonneg_right hx1 (by omega)
      rw [Int.add_mul] at s2
      simp only [sumD, List.length_cons, List.length_nil, wsum, Int.add_zero]
      push_cast
      omega
    | cons z zs =>
      rw [← hxs]
      have hlen : 1 ≤ xs.length := by rw [hxs]; simp
      have hx1 := hb 0 x rfl (by simp; omega)
      have s2 : x.amount * (2 * (k : Int) + 3) ≤ c * (2 * k + 3) := Int.mul_le_mul_of_nonneg_right hx1 (by omega)
      have := ih (k + 1) (fun z hz => ha z (List.mem_cons_of_mem _ hz)) (fun i y hy hi => hb (i + 1) y (by simpa using hy) (by simp; omega)) (fun y hy => hl y (by
        rw [List.length_cons, Nat.add_sub_cancel]
        obtain ⟨m, hm⟩ : ∃ m, xs.length = m + 1 := ⟨xs.length - 1, by omega⟩
        rw [hm] at hy ⊢
        simpa using hy)) (fun j a b => h j (by omega) (by simp; omega))
      rw [Int.mul_add]
      simp only [List.length_cons]
      push_cast at this ⊢
      omega

/-- Greater amounts. -/
theorem sumD_amounts (f : Nat → Int) (k : Nat) (xs ys : List Flow) (hl : xs.length = ys.length) (h : ∀ (i : Nat) (x y : Flow), xs[i]? = some x → ys[i]? = some y → x.amount ≤ y.amount) (hf : ∀ j, k ≤ j → j < k + xs.length → 0 ≤ f j) : sumD f k xs ≤ sumD f k ys := by
  induction xs generalizing k ys with
  | nil => cases ys with
    | nil => exact Int.le_refl _
    | cons y ys => simp at hl
  | cons x xs ih =>
    cases ys with
    | nil => simp at hl
    | cons y ys =>
      simp only [sumD]
      have h1 : x.amount * f k ≤ y.amount * f k := Int.mul_le_mul_of_nonneg_right (h 0 x y rfl rfl) (hf k (Nat.le_refl _) (by simp))
      have := ih (k + 1) ys (by simpa using hl) (fun i a b h1 h2 => h (i + 1) a b (by simpa using h1) (by simpa using h2)) (fun j a b => hf j (by omega) (by simp; omega))
      omega

/- The price. -/
def yieldB (y : Int) : Bool := decide (0 ≤ y) && decide (y ≤ 100000)
def leftF (b : Bond) (day : Int) : Int := (perAt b day).till - day
def daysF (b : Bond) (day : Int) : Int := (perAt b day).till - (perAt b day).frm
def tailF (b : Bond) (day : Int) : List Flow := (flowsL b).drop (atF (persF b) day)
def lowS (b : Bond) (day y : Int) : Int := sumD (discL y (leftF b day) (daysF b day)) 0 (tailF b day)
def highS (b : Bond) (day y : Int) : Int := sumD (discH y (leftF b day) (daysF b day)) 0 (tailF b day)
def priceLo (b : Bond) (day y : Int) : Int := flr (lowS b day y) 1000000
def priceHi (b : Bond) (day y : Int) : Int := cei (highS b day y) 1000000
def priceR (b : Bond) (day y : Int) : Range := ⟨priceLo b day y, priceHi b day y⟩
def priceB (b : Bond) (day y : Int) : Bool := runB b day && yieldB y
def priceF (b : Bond) (day y : Int) : Range := if priceB b day y = true then priceR b day y else ⟨0, 0⟩

/-- A bond at a day at which it runs. -/
structure Run (b : Bond) (day : Int) : Prop where
  ok : OkBond b
  d0 : b.start ≤ day
  d1 : day < b.stop

theorem run_of {b : Bond} {day : Int} (h : runB b day = true) : Run b day := by
  obtain ⟨a, c, d⟩ := run_facts h
  exact ⟨a, c, d⟩
theorem Run.bool {b : Bond} {day : Int} (h : Run b day) : runB b day = true := by
  unfold runB; rw [h.ok.bool]
  have h1 := h.d0; have h2 := h.d1
  simp only [Bool.true_and, Bool.and_eq_true, decide_eq_true_eq]; omega
theorem yield_facts {y : Int} (h : yieldB y = true) : 0 ≤ y ∧ y ≤ 100000 := by
  unfold yieldB at h; simpa only [Bool.and_eq_true, decide_eq_true_eq] using h

theorem Run.okY {b : Bond} {day : Int} (h : Run b day) {y : Int} (h0 : 0 ≤ y) (h1 : y ≤ 100000) : OkY y (leftF b day) (daysF b day) := by
  obtain ⟨_, a, c, hm, _⟩ := perAt_spec h.ok day h.d0 h.d1
  have hp := pers_okPer h.ok _ hm
  have := hp.f0; have := hp.t1
  exact ⟨h0, h1, by unfold leftF; omega, by unfold leftF daysF; omega, by unfold daysF; omega⟩

theorem Run.tail_len {b : Bond} {day : Int} (h : Run b day) : 1 ≤ (tailF b day).length ∧ (tailF b day).length ≤ 40 := by
  obtain ⟨_, _, _, _, hl⟩ := perAt_spec h.ok day h.d0 h.d1
  unfold tailF
  rw [List.length_drop, flows_len]
  have : (persF b).length ≤ 40 := by unfold persF; rw [sched_len]; exact h.ok.span.q2
  omega

theorem Run.tail_amount {b : Bond} {day : Int} (h : Run b day) (x : Flow) (hx : x ∈ tailF b day) : 0 ≤ x.amount ∧ x.amount ≤ 13000 := by
  have := flows_bd h.ok x (List.mem_of_mem_drop hx)
  omega

theorem Run.tail_at {b : Bond} {day : Int} (h : Run b day) (i : Nat) (x : Flow) (hx : (tailF b day)[i]? = some x) :
    ∃ p, (persF b)[atF (persF b) day + i]? = some p ∧ x.day = p.till ∧ x.amount = coupF b p + (if i + 1 = (tailF b day).length then 10000 else 0) ∧ 0 ≤ coupF b p ∧ coupF b p ≤ 3000 := by
  have hi := lt_of_at hx
  have ht : (tailF b day).length = (persF b).length - atF (persF b) day := by unfold tailF; rw [List.length_drop, flows_len]
  unfold tailF at hx
  rw [List.getElem?_drop] at hx
  have hj : atF (persF b) day + i < (persF b).length := by omega
  have hp : (persF b)[atF (persF b) day + i]? = some (persF b)[atF (persF b) day + i] := by simp [hj]
  rw [flows_at b _ _ hp] at hx
  obtain rfl := Option.some.inj hx
  have hc := coup_bd h.ok _ (pers_okPer h.ok _ (List.getElem_mem hj))
  refine ⟨_, hp, rfl, ?_, hc.1, hc.2⟩
  simp only
  congr 1
  by_cases he : i + 1 = (tailF b day).length
  · rw [if_pos he, if_pos (by omega)]
  · rw [if_neg he, if_neg (by omega)]

theorem Run.tail_last {b : Bond} {day : Int} (h : Run b day) : ∃ x, (tailF b day)[(tailF b day).length - 1]? = some x ∧ 10000 ≤ x.amount ∧ x.amount ≤ 13000 ∧ x.day = b.stop := by
  have hl := h.tail_len
  have hx : (tailF b day)[(tailF b day).length - 1]? = some ((tailF b day)[(tailF b day).length - 1]'(by omega)) := by simp [show (tailF b day).length - 1 < (tailF b day).length by omega]
  obtain ⟨p, hp, e1, e2, c0, c1⟩ := h.tail_at _ _ hx
  rw [if_pos (by omega)] at e2
  refine ⟨_, hx, by omega, by omega, ?_⟩
  rw [e1]
  have hpl : (tailF b day).length = (persF b).length - atF (persF b) day := by unfold tailF; rw [List.length_drop, flows_len]
  refine h.ok.chain.last p ?_
  rw [← hp]; congr 1; omega

theorem Run.after {b : Bond} {day : Int} (h : Run b day) : afterF b day = tailF b day := by
  unfold afterF flowsF
  rw [h.ok.bool, if_pos rfl, after_drop h.ok]; rfl

section
variable {b : Bond} {day : Int} (h : Run b day)
include h

theorem Run.sum_le {y : Int} (h0 : 0 ≤ y) (h1 : y ≤ 100000) : lowS b day y ≤ highS b day y :=
  sumD_mono _ _ _ _ (fun x hx => (h.tail_amount x hx).1) (fun j _ hj => (disc_lo (h.okY h0 h1) j (by have := h.tail_len; omega)).2.1)

theorem Run.low_nonneg {y : Int} (h0 : 0 ≤ y) (h1 : y ≤ 100000) : 0 ≤ lowS b day y :=
  sumD_nonneg _ _ _ (fun x hx => (h.tail_amount x hx).1) (fun j _ hj => by have := disc_lo (h.okY h0 h1) j (by have := h.tail_len; omega); omega)

theorem Run.sum_mono {y z : Int} (h0 : 0 ≤ y) (hyz : y ≤ z) (h1 : z ≤ 100000) : lowS b day z ≤ lowS b day y ∧ highS b day z ≤ highS b day y := by
  have hl := h.tail_len
  exact ⟨sumD_mono _ _ _ _ (fun x hx => (h.tail_amount x hx).1) (fun j _ hj => (disc_mono (h.okY h0 (by omega)) (h.okY (by omega) h1) hyz j (by omega)).1),
    sumD_mono _ _ _ _ (fun x hx => (h.tail_amount x hx).1) (fun j _ hj => (disc_mono (h.okY h0 (by omega)) (h.okY (by omega) h1) hyz j (by omega)).2)⟩

theorem Run.price_le {y : Int} (h0 : 0 ≤ y) (h1 : y ≤ 100000) : priceLo b day y ≤ priceHi b day y := by
  have := h.sum_le h0 h1
  unfold priceLo priceHi
  exact Int.le_trans (flr_mono _ _ _ (by omega) this) (flr_cei _ _ (by omega))

theorem Run.price_mono {y z : Int} (h0 : 0 ≤ y) (hyz : y ≤ z) (h1 : z ≤ 100000) : priceLo b day z ≤ priceLo b day y ∧ priceHi b day z ≤ priceHi b day y := by
  have := h.sum_mono h0 hyz h1
  exact ⟨flr_mono _ _ _ (by omega) this.1, cei_mono _ _ _ (by omega) this.2⟩

theorem Run.price_zero : priceLo b day 0 = sumA (tailF b day) ∧ priceHi b day 0 = sumA (tailF b day) := by
  have hd : 0 < daysF b day := by have := (h.okY (y := 0) (by omega) (by omega)).l0; have := (h.okY (y := 0) (by omega) (by omega)).ld; omega
  unfold priceLo priceHi lowS highS
  rw [sumD_const _ 1000000 _ _ (fun j => (disc_zero _ _ hd j).1), sumD_const _ 1000000 _ _ (fun j => (disc_zero _ _ hd j).2)]
  unfold flr cei
  omega

theorem Run.low_pos {y : Int} (h0 : 0 ≤ y) (h1 : y ≤ 100000) : 100000000 ≤ lowS b day y := by
  have hl := h.tail_len
  obtain ⟨x, hx, hx1, _⟩ := h.tail_last
  have h2 := sumD_last (discL y (leftF b day) (daysF b day)) 0 (tailF b day) x (fun x hx => (h.tail_amount x hx).1) (fun j _ hj => by have := disc_lo (h.okY h0 h1) j (by omega); omega) hx hl.1
  have h3 := (disc_lo (h.okY h0 h1) (0 + ((tailF b day).length - 1)) (by omega)).1
  have h4 : (10000 : Int) * 10000 ≤ x.amount * discL y (leftF b day) (daysF b day) (0 + ((tailF b day).length - 1)) := mul_le hx1 h3 (by omega) (by omega)
  unfold lowS; omega

theorem Run.price_pos {y : Int} (h0 : 0 ≤ y) (h1 : y ≤ 100000) : 0 < priceLo b day y ∧ 0 < priceHi b day y := by
  have h2 := h.low_pos h0 h1
  have h3 := le_flr (lowS b day y) 1000000 1 (by omega) (by omega)
  have h4 := h.price_le h0 h1
  unfold priceLo at h4 ⊢
  omega

theorem Run.sumA_bd : 0 ≤ sumA (tailF b day) ∧ sumA (tailF b day) ≤ 13000 * (tailF b day).length := by
  have hh := fun x hx => h.tail_amount x hx
  generalize tailF b day = L at *
  induction L with
  | nil => simp [sumA]
  | cons x xs ih =>
    have h1 := hh x (by simp)
    have h2 := ih (fun z hz => hh z (List.mem_cons_of_mem _ hz))
    simp only [sumA, List.length_cons]; push_cast; omega

theorem Run.price_bd {y : Int} (h0 : 0 ≤ y) (h1 : y ≤ 100000) : 0 ≤ priceLo b day y ∧ priceHi b day y ≤ 520000 := by
  have a := h.price_pos h0 h1
  have c := (h.price_mono (y := 0) (z := y) (by omega) h0 h1).2
  rw [h.price_zero.2] at c
  have d := h.sumA_bd
  have e := h.tail_len
  omega

/-- Prices are known well. -/
theorem Run.price_narrow {y : Int} (h0 : 0 ≤ y) (h1 : y ≤ 100000) : priceHi b day y - priceLo b day y ≤ 10 := by
  have hl := h.tail_len
  have hw := sumD_width (discL y (leftF b day) (daysF b day)) (discH y (leftF b day) (daysF b day)) 0 (tailF b day) 3000 (by omega) (fun x hx => (h.tail_amount x hx).1)
    (fun i x hx hi => by obtain ⟨p, _, _, e2, c0, c1⟩ := h.tail_at i x hx; rw [if_neg (by omega)] at e2; omega)
    (fun x hx => by obtain ⟨p, _, _, e2, c0, c1⟩ := h.tail_at _ x hx; split at e2 <;> omega)
    (fun j _ hj => disc_width (h.okY h0 h1) j (by omega))
  have hs := wsum_le _ hl.2
  have a := flr_lo (lowS b day y) 1000000 (by omega)
  have c := cei_hi (highS b day y) 1000000 (by omega)
  unfold lowS at a; unfold highS at c
  unfold priceLo priceHi lowS highS
  omega

/-- Falls become smaller. -/
theorem Run.price_convex {y : Int} (h0 : 0 ≤ y) (h1 : y + 5000 ≤ 100000) : 2 * priceLo b day (y + 2500) ≤ priceHi b day y + priceHi b day (y + 5000) := by
  have hl := h.tail_len
  have s := sumD_two (discL (y + 2500) (leftF b day) (daysF b day)) (discH y (leftF b day) (daysF b day)) (discH (y + 5000) (leftF b day) (daysF b day)) 0 (tailF b day) (fun x hx => (h.tail_amount x hx).1)
    (fun j _ hj => disc_convex (h.okY h0 (by omega)) (h.okY (by omega) (by omega)) (h.okY (by omega) h1) (by omega) j (by omega))
  have a := flr_lo (lowS b day (y + 2500)) 1000000 (by omega)
  have c := cei_hi (highS b day y) 1000000 (by omega)
  have d := cei_hi (highS b day (y + 5000)) 1000000 (by omega)
  unfold lowS at a
  unfold highS at c d
  unfold priceLo priceHi lowS highS
  omega

/-- A price that is known exactly is not reached by a greater yield. -/
theorem Run.price_step {y z : Int} (h0 : 0 ≤ y) (hyz : y < z) (h1 : z ≤ 100000) (he : priceHi b day y ≤ priceLo b day z) : False := by
  have hl := h.tail_len
  obtain ⟨x, hx, hx1, _⟩ := h.tail_last
  have s := sumD_strict (discL z (leftF b day) (daysF b day)) (discH y (leftF b day) (daysF b day)) 0 (tailF b day) x (fun x hx => (h.tail_amount x hx).1)
    (fun j _ hj => by
      have := disc_strict (h.okY h0 (by omega)) (h.okY (by omega) h1) hyz j (by omega); omega) hx hl.1 (by omega)
    (disc_strict (h.okY h0 (by omega)) (h.okY (by omega) h1) hyz _ (by omega))
  have a := flr_lo (lowS b day z) 1000000 (by omega)
  have c := cei_hi (highS b day y) 1000000 (by omega)
  unfold lowS at a
  unfold highS at c
  unfold priceLo priceHi lowS highS at he
  omega

end

/-- Higher coupons are worth more. -/
theorem rate_more {b : Bond} {day y : Int} (h : Run b day) (hr : b.rate < 3000) (h0 : 0 ≤ y) (h1 : y ≤ 100000) :
    Run ⟨b.start, b.stop, b.months, b.rate + 1⟩ day ∧ priceLo b day y ≤ priceLo ⟨b.start, b.stop, b.months, b.rate + 1⟩ day y ∧ priceHi b day y ≤ priceHi ⟨b.start, b.stop, b.months, b.rate + 1⟩ day y := by
  have h2 : Run ⟨b.start, b.stop, b.months, b.rate + 1⟩ day := ⟨⟨h.ok.span, by have := h.ok.r0; simp only; omega, by simp only; omega⟩, h.d0, h.d1⟩
  have hl := h.tail_len
  have hk := h.okY h0 h1
  have hlen : (tailF b day).length = (tailF ⟨b.start, b.stop, b.months, b.rate + 1⟩ day).length := by
    unfold tailF; rw [List.length_drop, List.length_drop, flows_len, flows_len]; rfl
  have hc : ∀ p, OkPer b p → coupF b p ≤ coupF ⟨b.start, b.stop, b.months, b.rate + 1⟩ p := by
    intro p hp
    have hm := h.ok.span.mpos
    have hw : wholeC b.rate b.months ≤ wholeC (b.rate + 1) b.months := by
      unfold wholeC
      refine near_mono _ _ _ ?_ (by omega)
      refine Int.mul_le_mul_of_nonneg_right ?_ (by omega)
      omega
    unfold coupF couponF
    split
    · exact hw
    · refine near_mono _ _ _ ?_ (by have := hp.bt; omega)
      exact Int.mul_le_mul_of_nonneg_right hw (by have := hp.ft; omega)
  have ha : ∀ (i : Nat) (x z : Flow), (tailF b day)[i]? = some x → (tailF ⟨b.start, b.stop, b.months, b.rate + 1⟩ day)[i]? = some z → x.amount ≤ z.amount := by
    intro i x z hx hz
    obtain ⟨p, hp, _, e, _, _⟩ := h.tail_at i x hx
    obtain ⟨q, hq, _, e2, _, _⟩ := h2.tail_at i z hz
    have : p = q := by
      have e3 : (persF b)[atF (persF b) day + i]? = (persF ⟨b.start, b.stop, b.months, b.rate + 1⟩)[atF (persF ⟨b.start, b.stop, b.months, b.rate + 1⟩) day + i]? := rfl
      rw [e3, hq] at hp
      exact (Option.some.inj hp).symm
    subst this
    have := hc p (pers_okPer h.ok p (List.mem_of_getElem? hp))
    rw [← hlen] at e2
    omega
  refine ⟨h2, flr_mono _ _ _ (by omega) ?_, cei_mono _ _ _ (by omega) ?_⟩
  · exact sumD_amounts _ _ _ _ hlen ha (fun j _ hj => by have := disc_lo hk j (by omega); omega)
  · exact sumD_amounts _ _ _ _ hlen ha (fun j _ hj => by have := disc_lo hk j (by omega); omega)

end Go.Proofs.YtkgjciacdjhhfaaDoor
