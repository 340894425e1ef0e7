/- Packed: PriceLaws, PriceMore. -/
import Derived.Test.YtielicmjdhmcjaaGreatDoorRows
import Derived.Test.YtielicmjdhmcjaaGreatDoorPk08
/- Prices, yields, risks and shocks in plain Lean: what the laws say of them. No program in sight. -/
namespace Go.Proofs.YtielicmjdhmcjaaGreatDoor
open Go.RowKit

def sumD (f : Nat → Int) : Nat → List Flow → Int
  | _, [] => 0
  | k, x :: xs => x.amount * f k + sumD f (k + 1) xs
def sumA : List Flow → Int
  | [] => 0
  | x :: xs => x.amount + sumA xs

theorem sumD_mono (f g : Nat → Int) (k : Nat) (xs : List Flow) (ha : ∀ x ∈ xs, 0 ≤ x.amount) (h : ∀ j, k ≤ j → j < k + xs.length → f j ≤ g j) : sumD f k xs ≤ sumD g k xs := by
  induction xs generalizing k with
  | nil => exact Int.le_refl _
  | cons x xs ih =>
    simp only [sumD]
    have h1 : x.amount * f k ≤ x.amount * g k := Int.mul_le_mul_of_nonneg_left (h k (Nat.le_refl _) (by simp)) (ha x (by simp))
    have h2 := ih (k + 1) (fun z hz => ha z (List.mem_cons_of_mem _ hz)) (fun j a b => h j (by omega) (by simp; omega))
    omega

theorem sumD_two (f g h : Nat → Int) (k : Nat) (xs : List Flow) (ha : ∀ x ∈ xs, 0 ≤ x.amount) (hh : ∀ j, k ≤ j → j < k + xs.length → 2 * f j ≤ g j + h j) : 2 * sumD f k xs ≤ sumD g k xs + sumD h k xs := by
  induction xs generalizing k with
  | nil => simp [sumD]
  | cons x xs ih =>
    simp only [sumD]
    have h1 : x.amount * (2 * f k) ≤ x.amount * (g k + h k) := Int.mul_le_mul_of_nonneg_left (hh k (Nat.le_refl _) (by simp)) (ha x (by simp))
    rw [Int.mul_add] at h1
    have e : x.amount * (2 * f k) = 2 * (x.amount * f k) := by rw [← Int.mul_assoc, Int.mul_comm x.amount, Int.mul_assoc]
    have h2 := ih (k + 1) (fun z hz => ha z (List.mem_cons_of_mem _ hz)) (fun j a b => hh j (by omega) (by simp; omega))
    omega

theorem sumD_const (f : Nat → Int) (c : Int) (k : Nat) (xs : List Flow) (h : ∀ j, f j = c) : sumD f k xs = sumA xs * c := by
  induction xs generalizing k with
  | nil => simp [sumD, sumA]
  | cons x xs ih => simp only [sumD, sumA]; rw [ih, h k, Int.add_mul]

theorem sumD_nonneg (f : Nat → Int) (k : Nat) (xs : List Flow) (ha : ∀ x ∈ xs, 0 ≤ x.amount) (h : ∀ j, k ≤ j → j < k + xs.length → 0 ≤ f j) : 0 ≤ sumD f k xs := by
  have := sumD_mono (fun _ => 0) f k xs ha h
  rw [sumD_const _ 0 _ _ (fun _ => rfl)] at this
  omega

theorem sumD_last (f : Nat → Int) (k : Nat) (xs : List Flow) (x : Flow) (ha : ∀ x ∈ xs, 0 ≤ x.amount) (h : ∀ j, k ≤ j → j < k + xs.length → 0 ≤ f j) (hx : xs[xs.length - 1]? = some x) (h0 : 1 ≤ xs.length) : x.amount * f (k + (xs.length - 1)) ≤ sumD f k xs := by
  induction xs generalizing k with
  | nil => simp at h0
  | cons y xs ih =>
    simp only [sumD]
    have hn := sumD_nonneg f (k + 1) xs (fun z hz => ha z (List.mem_cons_of_mem _ hz)) (fun j a b => h j (by omega) (by simp; omega))
    have hy : 0 ≤ y.amount * f k := Int.mul_nonneg (ha y (by simp)) (h k (Nat.le_refl _) (by simp))
    cases hxs : xs with
    | nil =>
      subst hxs
      obtain rfl : y = x := by simpa using hx
      simp [sumD]
    | cons z zs =>
      rw [← hxs]
      have hl : 1 ≤ xs.length := by rw [hxs]; simp
      have hx2 : xs[xs.length - 1]? = some x := by
        rw [List.length_cons, Nat.add_sub_cancel] at hx
        obtain ⟨m, hm⟩ : ∃ m, xs.length = m + 1 := ⟨xs.length - 1, by omega⟩
        rw [hm] at hx ⊢
        simpa using hx
      have := ih (k + 1) (fun z hz => ha z (List.mem_cons_of_mem _ hz)) (fun j a b => h j (by omega) (by simp; omega)) hx2 hl
      rw [List.length_cons, Nat.add_sub_cancel, show k + xs.length = k + 1 + (xs.length - 1) by omega]
      omega

theorem sumD_strict (f g : Nat → Int) (k : Nat) (xs : List Flow) (x : Flow) (ha : ∀ x ∈ xs, 0 ≤ x.amount) (h : ∀ j, k ≤ j → j < k + xs.length → f j ≤ g j) (hx : xs[xs.length - 1]? = some x) (h0 : 1 ≤ xs.length) (hp : 0 < x.amount) (hs : f (k + (xs.length - 1)) < g (k + (xs.length - 1))) : sumD f k xs < sumD g k xs := by
  induction xs generalizing k with
  | nil => simp at h0
  | cons y xs ih =>
    simp only [sumD]
    have hy : y.amount * f k ≤ y.amount * g k := Int.mul_le_mul_of_nonneg_left (h k (Nat.le_refl _) (by simp)) (ha y (by simp))
    cases hxs : xs with
    | nil =>
      subst hxs
      obtain rfl : y = x := by simpa using hx
      simp only [List.length_cons, List.length_nil, Nat.zero_add, Nat.sub_self, Nat.add_zero] at hs
      have : y.amount * f k < y.amount * g k := Int.mul_lt_mul_of_pos_left hs hp
      simp only [sumD]; omega
    | cons z zs =>
      rw [← hxs]
      have hl : 1 ≤ xs.length := by rw [hxs]; simp
      have hx2 : xs[xs.length - 1]? = some x := by
        rw [List.length_cons, Nat.add_sub_cancel] at hx
        obtain ⟨m, hm⟩ : ∃ m, xs.length = m + 1 := ⟨xs.length - 1, by omega⟩
        rw [hm] at hx ⊢
        simpa using hx
      rw [List.length_cons, Nat.add_sub_cancel, show k + xs.length = k + 1 + (xs.length - 1) by omega] at hs
      have := ih (k + 1) (fun z hz => ha z (List.mem_cons_of_mem _ hz)) (fun j a b => h j (by omega) (by simp; omega)) hx2 hl hs
      omega

def wsum : Nat → Nat → Int
  | _, 0 => 0
  | k, n + 1 => (2 * k + 3) + wsum (k + 1) n
set_option maxRecDepth 10000 in
theorem wsum_le (n : Nat) (h : n ≤ 40) : wsum 0 n ≤ 1680 := by
  have hd : ∀ n : Fin 41, wsum 0 n ≤ 1680 := by decide
  exact hd ⟨n, by omega⟩
theorem wsum_nonneg (k n : Nat) : 0 ≤ wsum k n := by
  induction n generalizing k with
  | zero => simp [wsum]
  | succ n ih => have := ih (k + 1); simp only [wsum]; omega

theorem sumD_width (f g : Nat → Int) (k : Nat) (xs : List Flow) (c : Int) (_ : 0 ≤ c) (ha : ∀ x ∈ xs, 0 ≤ x.amount) (hb : ∀ (i : Nat) (x : Flow), xs[i]? = some x → i + 1 < xs.length → x.amount ≤ c) (hl : ∀ x, xs[xs.length - 1]? = some x → x.amount ≤ c + 10000) (h : ∀ j : Nat, k ≤ j → j < k + xs.length → g j - f j ≤ 2 * j + 3) :
    sumD g k xs - sumD f k xs ≤ c * wsum k xs.length + 10000 * (2 * (k + xs.length) + 1) := by
  induction xs generalizing k with
  | nil => simp only [sumD, wsum, List.length_nil]; omega
  | cons x xs ih =>
    have h0 := h k (Nat.le_refl _) (by simp)
    have hx0 := ha x (by simp)
    have e0 : x.amount * g k - x.amount * f k = x.amount * (g k - f k) := by rw [Int.mul_sub]
    have s1 : x.amount * (g k - f k) ≤ x.amount * (2 * k + 3) := Int.mul_le_mul_of_nonneg_left h0 hx0
    have ew : wsum k (x :: xs).length = (2 * k + 3) + wsum (k + 1) xs.length := rfl
    rw [ew]
    simp only [sumD]
    cases hxs : xs with
    | nil =>
      have hx1 := hl x (by rw [hxs]; simp)
      have s2 : x.amount * (2 * (k : Int) + 3) ≤ (c + 10000) * (2 * k + 3) := Int.mul_le_mul_of_nonneg_right hx1 (by omega)
      rw [Int.add_mul] at s2
      simp only [sumD, List.length_cons, List.length_nil, wsum, Int.add_zero]
      push_cast
      omega
    | cons z zs =>
      rw [← hxs]
      have hlen : 1 ≤ xs.length := by rw [hxs]; simp
      have hx1 := hb 0 x rfl (by simp; omega)
      have s2 : x.amount * (2 * (k : Int) + 3) ≤ c * (2 * k + 3) := Int.mul_le_mul_of_nonneg_right hx1 (by omega)
      have := ih (k + 1) (fun z hz => ha z (List.mem_cons_of_mem _ hz)) (fun i y hy hi => hb (i + 1) y (by simpa using hy) (by simp; omega)) (fun y hy => hl y (by
        rw [List.length_cons, Nat.add_sub_cancel]
        obtain ⟨m, hm⟩ : ∃ m, xs.length = m + 1 := ⟨xs.length - 1, by omega⟩
        rw [hm] at hy ⊢
        simpa using hy)) (fun j a b => h j (by omega) (by simp; omega))
      rw [Int.mul_add]
      simp only [List.length_cons]
      push_cast at this ⊢
      omega

theorem sumD_amounts (f : Nat → Int) (k : Nat) (xs ys : List Flow) (hl : xs.length = ys.length) (h : ∀ (i : Nat) (x y : Flow), xs[i]? = some x → ys[i]? = some y → x.amount ≤ y.amount) (hf : ∀ j, k ≤ j → j < k + xs.length → 0 ≤ f j) : sumD f k xs ≤ sumD f k ys := by
  induction xs generalizing k ys with
  | nil => cases ys with
    | nil => exact Int.le_refl _
    | cons y ys => simp at hl
  | cons x xs ih =>
    cases ys with
    | nil => simp at hl
    | cons y ys =>
      simp only [sumD]
      have h1 : x.amount * f k ≤ y.amount * f k := Int.mul_le_mul_of_nonneg_right (h 0 x y rfl rfl) (hf k (Nat.le_refl _) (by simp))
      have := ih (k + 1) ys (by simpa using hl) (fun i a b h1 h2 => h (i + 1) a b (by simpa using h1) (by simpa using h2)) (fun j a b => hf j (by omega) (by simp; omega))
      omega

/- The price. -/
def yieldB (y : Int) : Bool := decide (0 ≤ y) && decide (y ≤ 100000)
def leftF (b : Bond) (day : Int) : Int := (perAt b day).till - day
def daysF (b : Bond) (day : Int) : Int := (perAt b day).till - (perAt b day).frm
def tailF (b : Bond) (day : Int) : List Flow := (flowsL b).drop (atF (persF b) day)
def lowS (b : Bond) (day y : Int) : Int := sumD (discL y (leftF b day) (daysF b day)) 0 (tailF b day)
def highS (b : Bond) (day y : Int) : Int := sumD (discH y (leftF b day) (daysF b day)) 0 (tailF b day)
def priceLo (b : Bond) (day y : Int) : Int := flr (lowS b day y) 1000000
def priceHi (b : Bond) (day y : Int) : Int := cei (highS b day y) 1000000
def priceR (b : Bond) (day y : Int) : Range := ⟨priceLo b day y, priceHi b day y⟩
def priceB (b : Bond) (day y : Int) : Bool := runB b day && yieldB y
def priceF (b : Bond) (day y : Int) : Range := if priceB b day y = true then priceR b day y else ⟨0, 0⟩

structure Run (b : Bond) (day : Int) : Prop where
  ok : OkBond b
  d0 : b.start ≤ day
  d1 : day < b.stop

theorem run_of {b : Bond} {day : Int} (h : runB b day = true) : Run b day := by
  obtain ⟨a, c, d⟩ := run_facts h
  exact ⟨a, c, d⟩
theorem Run.bool {b : Bond} {day : Int} (h : Run b day) : runB b day = true := by
  unfold runB; rw [h.ok.bool]
  have h1 := h.d0; have h2 := h.d1
  simp only [Bool.true_and, Bool.and_eq_true, decide_eq_true_eq]; omega
theorem yield_facts {y : Int} (h : yieldB y = true) : 0 ≤ y ∧ y ≤ 100000 := by
  unfold yieldB at h; simpa only [Bool.and_eq_true, decide_eq_true_eq] using h

theorem Run.okY {b : Bond} {day : Int} (h : Run b day) {y : Int} (h0 : 0 ≤ y) (h1 : y ≤ 100000) : OkY y (leftF b day) (daysF b day) := by
  obtain ⟨_, a, c, hm, _⟩ := perAt_spec h.ok day h.d0 h.d1
  have hp := pers_okPer h.ok _ hm
  have := hp.f0; have := hp.t1
  exact ⟨h0, h1, by unfold leftF; omega, by unfold leftF daysF; omega, by unfold daysF; omega⟩

theorem Run.tail_len {b : Bond} {day : Int} (h : Run b day) : 1 ≤ (tailF b day).length ∧ (tailF b day).length ≤ 40 := by
  obtain ⟨_, _, _, _, hl⟩ := perAt_spec h.ok day h.d0 h.d1
  unfold tailF
  rw [List.length_drop, flows_len]
  have : (persF b).length ≤ 40 := by unfold persF; rw [sched_len]; exact h.ok.span.q2
  omega

theorem Run.tail_amount {b : Bond} {day : Int} (h : Run b day) (x : Flow) (hx : x ∈ tailF b day) : 0 ≤ x.amount ∧ x.amount ≤ 13000 := by
  have := flows_bd h.ok x (List.mem_of_mem_drop hx)
  omega

theorem Run.tail_at {b : Bond} {day : Int} (h : Run b day) (i : Nat) (x : Flow) (hx : (tailF b day)[i]? = some x) :
    ∃ p, (persF b)[atF (persF b) day + i]? = some p ∧ x.day = p.till ∧ x.amount = coupF b p + (if i + 1 = (tailF b day).length then 10000 else 0) ∧ 0 ≤ coupF b p ∧ coupF b p ≤ 3000 := by
  have hi := lt_of_at hx
  have ht : (tailF b day).length = (persF b).length - atF (persF b) day := by unfold tailF; rw [List.length_drop, flows_len]
  unfold tailF at hx
  rw [List.getElem?_drop] at hx
  have hj : atF (persF b) day + i < (persF b).length := by omega
  have hp : (persF b)[atF (persF b) day + i]? = some (persF b)[atF (persF b) day + i] := by simp [hj]
  rw [flows_at b _ _ hp] at hx
  obtain rfl := Option.some.inj hx
  have hc := coup_bd h.ok _ (pers_okPer h.ok _ (List.getElem_mem hj))
  refine ⟨_, hp, rfl, ?_, hc.1, hc.2⟩
  simp only
  congr 1
  by_cases he : i + 1 = (tailF b day).length
  · rw [if_pos he, if_pos (by omega)]
  · rw [if_neg he, if_neg (by omega)]

theorem Run.tail_last {b : Bond} {day : Int} (h : Run b day) : ∃ x, (tailF b day)[(tailF b day).length - 1]? = some x ∧ 10000 ≤ x.amount ∧ x.amount ≤ 13000 ∧ x.day = b.stop := by
  have hl := h.tail_len
  have hx : (tailF b day)[(tailF b day).length - 1]? = some ((tailF b day)[(tailF b day).length - 1]'(by omega)) := by simp [show (tailF b day).length - 1 < (tailF b day).length by omega]
  obtain ⟨p, hp, e1, e2, c0, c1⟩ := h.tail_at _ _ hx
  rw [if_pos (by omega)] at e2
  refine ⟨_, hx, by omega, by omega, ?_⟩
  rw [e1]
  have hpl : (tailF b day).length = (persF b).length - atF (persF b) day := by unfold tailF; rw [List.length_drop, flows_len]
  refine h.ok.chain.last p ?_
  rw [← hp]; congr 1; omega

theorem Run.after {b : Bond} {day : Int} (h : Run b day) : afterF b day = tailF b day := by
  unfold afterF flowsF
  rw [h.ok.bool, if_pos rfl, after_drop h.ok]; rfl

section
variable {b : Bond} {day : Int} (h : Run b day)
include h

theorem Run.sum_le {y : Int} (h0 : 0 ≤ y) (h1 : y ≤ 100000) : lowS b day y ≤ highS b day y :=
  sumD_mono _ _ _ _ (fun x hx => (h.tail_amount x hx).1) (fun j _ hj => (disc_lo (h.okY h0 h1) j (by have := h.tail_len; omega)).2.1)

theorem Run.low_nonneg {y : Int} (h0 : 0 ≤ y) (h1 : y ≤ 100000) : 0 ≤ lowS b day y :=
  sumD_nonneg _ _ _ (fun x hx => (h.tail_amount x hx).1) (fun j _ hj => by have := disc_lo (h.okY h0 h1) j (by have := h.tail_len; omega); omega)

theorem Run.sum_mono {y z : Int} (h0 : 0 ≤ y) (hyz : y ≤ z) (h1 : z ≤ 100000) : lowS b day z ≤ lowS b day y ∧ highS b day z ≤ highS b day y := by
  have hl := h.tail_len
  exact ⟨sumD_mono _ _ _ _ (fun x hx => (h.tail_amount x hx).1) (fun j _ hj => (disc_mono (h.okY h0 (by omega)) (h.okY (by omega) h1) hyz j (by omega)).1),
    sumD_mono _ _ _ _ (fun x hx => (h.tail_amount x hx).1) (fun j _ hj => (disc_mono (h.okY h0 (by omega)) (h.okY (by omega) h1) hyz j (by omega)).2)⟩

theorem Run.price_le {y : Int} (h0 : 0 ≤ y) (h1 : y ≤ 100000) : priceLo b day y ≤ priceHi b day y := by
  have := h.sum_le h0 h1
  unfold priceLo priceHi
  exact Int.le_trans (flr_mono _ _ _ (by omega) this) (flr_cei _ _ (by omega))

theorem Run.price_mono {y z : Int} (h0 : 0 ≤ y) (hyz : y ≤ z) (h1 : z ≤ 100000) : priceLo b day z ≤ priceLo b day y ∧ priceHi b day z ≤ priceHi b day y := by
  have := h.sum_mono h0 hyz h1
  exact ⟨flr_mono _ _ _ (by omega) this.1, cei_mono _ _ _ (by omega) this.2⟩

theorem Run.price_zero : priceLo b day 0 = sumA (tailF b day) ∧ priceHi b day 0 = sumA (tailF b day) := by
  have hd : 0 < daysF b day := by have := (h.okY (y := 0) (by omega) (by omega)).l0; have := (h.okY (y := 0) (by omega) (by omega)).ld; omega
  unfold priceLo priceHi lowS highS
  rw [sumD_const _ 1000000 _ _ (fun j => (disc_zero _ _ hd j).1), sumD_const _ 1000000 _ _ (fun j => (disc_zero _ _ hd j).2)]
  unfold flr cei
  omega

theorem Run.low_pos {y : Int} (h0 : 0 ≤ y) (h1 : y ≤ 100000) : 100000000 ≤ lowS b day y := by
  have hl := h.tail_len
  obtain ⟨x, hx, hx1, _⟩ := h.tail_last
  have h2 := sumD_last (discL y (leftF b day) (daysF b day)) 0 (tailF b day) x (fun x hx => (h.tail_amount x hx).1) (fun j _ hj => by have := disc_lo (h.okY h0 h1) j (by omega); omega) hx hl.1
  have h3 := (disc_lo (h.okY h0 h1) (0 + ((tailF b day).length - 1)) (by omega)).1
  have h4 : (10000 : Int) * 10000 ≤ x.amount * discL y (leftF b day) (daysF b day) (0 + ((tailF b day).length - 1)) := mul_le hx1 h3 (by omega) (by omega)
  unfold lowS; omega

theorem Run.price_pos {y : Int} (h0 : 0 ≤ y) (h1 : y ≤ 100000) : 0 < priceLo b day y ∧ 0 < priceHi b day y := by
  have h2 := h.low_pos h0 h1
  have h3 := le_flr (lowS b day y) 1000000 1 (by omega) (by omega)
  have h4 := h.price_le h0 h1
  unfold priceLo at h4 ⊢
  omega

theorem Run.sumA_bd : 0 ≤ sumA (tailF b day) ∧ sumA (tailF b day) ≤ 13000 * (tailF b day).length := by
  have hh := fun x hx => h.tail_amount x hx
  generalize tailF b day = L at *
  induction L with
  | nil => simp [sumA]
  | cons x xs ih =>
    have h1 := hh x (by simp)
    have h2 := ih (fun z hz => hh z (List.mem_cons_of_mem _ hz))
    simp only [sumA, List.length_cons]; push_cast; omega

theorem Run.price_bd {y : Int} (h0 : 0 ≤ y) (h1 : y ≤ 100000) : 0 ≤ priceLo b day y ∧ priceHi b day y ≤ 520000 := by
  have a := h.price_pos h0 h1
  have c := (h.price_mono (y := 0) (z := y) (by omega) h0 h1).2
  rw [h.price_zero.2] at c
  have d := h.sumA_bd
  have e := h.tail_len
  omega

theorem Run.price_narrow {y : Int} (h0 : 0 ≤ y) (h1 : y ≤ 100000) : priceHi b day y - priceLo b day y ≤ 10 := by
  have hl := h.tail_len
  have hw := sumD_width (discL y (leftF b day) (daysF b day)) (discH y (leftF b day) (daysF b day)) 0 (tailF b day) 3000 (by omega) (fun x hx => (h.tail_amount x hx).1)
    (fun i x hx hi => by obtain ⟨p, _, _, e2, c0, c1⟩ := h.tail_at i x hx; rw [if_neg (by omega)] at e2; omega)
    (fun x hx => by obtain ⟨p, _, _, e2, c0, c1⟩ := h.tail_at _ x hx; split at e2 <;> omega)
    (fun j _ hj => disc_width (h.okY h0 h1) j (by omega))
  have hs := wsum_le _ hl.2
  have a := flr_lo (lowS b day y) 1000000 (by omega)
  have c := cei_hi (highS b day y) 1000000 (by omega)
  unfold lowS at a; unfold highS at c
  unfold priceLo priceHi lowS highS
  omega

theorem Run.price_convex {y : Int} (h0 : 0 ≤ y) (h1 : y + 5000 ≤ 100000) : 2 * priceLo b day (y + 2500) ≤ priceHi b day y + priceHi b day (y + 5000) := by
  have hl := h.tail_len
  have s := sumD_two (discL (y + 2500) (leftF b day) (daysF b day)) (discH y (leftF b day) (daysF b day)) (discH (y + 5000) (leftF b day) (daysF b day)) 0 (tailF b day) (fun x hx => (h.tail_amount x hx).1)
    (fun j _ hj => disc_convex (h.okY h0 (by omega)) (h.okY (by omega) (by omega)) (h.okY (by omega) h1) (by omega) j (by omega))
  have a := flr_lo (lowS b day (y + 2500)) 1000000 (by omega)
  have c := cei_hi (highS b day y) 1000000 (by omega)
  have d := cei_hi (highS b day (y + 5000)) 1000000 (by omega)
  unfold lowS at a
  unfold highS at c d
  unfold priceLo priceHi lowS highS
  omega

theorem Run.price_step {y z : Int} (h0 : 0 ≤ y) (hyz : y < z) (h1 : z ≤ 100000) (he : priceHi b day y ≤ priceLo b day z) : False := by
  have hl := h.tail_len
  obtain ⟨x, hx, hx1, _⟩ := h.tail_last
  have s := sumD_strict (discL z (leftF b day) (daysF b day)) (discH y (leftF b day) (daysF b day)) 0 (tailF b day) x (fun x hx => (h.tail_amount x hx).1)
    (fun j _ hj => by
      have := disc_strict (h.okY h0 (by omega)) (h.okY (by omega) h1) hyz j (by omega); omega) hx hl.1 (by omega)
    (disc_strict (h.okY h0 (by omega)) (h.okY (by omega) h1) hyz _ (by omega))
  have a := flr_lo (lowS b day z) 1000000 (by omega)
  have c := cei_hi (highS b day y) 1000000 (by omega)
  unfold lowS at a
  unfold highS at c
  unfold priceLo priceHi lowS highS at he
  omega

end

theorem rate_more {b : Bond} {day y : Int} (h : Run b day) (hr : b.rate < 3000) (h0 : 0 ≤ y) (h1 : y ≤ 100000) :
    Run ⟨b.start, b.stop, b.months, b.rate + 1⟩ day ∧ priceLo b day y ≤ priceLo ⟨b.start, b.stop, b.months, b.rate + 1⟩ day y ∧ priceHi b day y ≤ priceHi ⟨b.start, b.stop, b.months, b.rate + 1⟩ day y := by
  have h2 : Run ⟨b.start, b.stop, b.months, b.rate + 1⟩ day := ⟨⟨h.ok.span, by have := h.ok.r0; simp only; omega, by simp only; omega⟩, h.d0, h.d1⟩
  have hl := h.tail_len
  have hk := h.okY h0 h1
  have hlen : (tailF b day).length = (tailF ⟨b.start, b.stop, b.months, b.rate + 1⟩ day).length := by
    unfold tailF; rw [List.length_drop, List.length_drop, flows_len, flows_len]; rfl
  have hc : ∀ p, OkPer b p → coupF b p ≤ coupF ⟨b.start, b.stop, b.months, b.rate + 1⟩ p := by
    intro p hp
    have hm := h.ok.span.mpos
    have hw : wholeC b.rate b.months ≤ wholeC (b.rate + 1) b.months := by
      unfold wholeC
      refine near_mono _ _ _ ?_ (by omega)
      refine Int.mul_le_mul_of_nonneg_right ?_ (by omega)
      omega
    unfold coupF couponF
    split
    · exact hw
    · refine near_mono _ _ _ ?_ (by have := hp.bt; omega)
      exact Int.mul_le_mul_of_nonneg_right hw (by have := hp.ft; omega)
  have ha : ∀ (i : Nat) (x z : Flow), (tailF b day)[i]? = some x → (tailF ⟨b.start, b.stop, b.months, b.rate + 1⟩ day)[i]? = some z → x.amount ≤ z.amount := by
    intro i x z hx hz
    obtain ⟨p, hp, _, e, _, _⟩ := h.tail_at i x hx
    obtain ⟨q, hq, _, e2, _, _⟩ := h2.tail_at i z hz
    have : p = q := by
      have e3 : (persF b)[atF (persF b) day + i]? = (persF ⟨b.start, b.stop, b.months, b.rate + 1⟩)[atF (persF ⟨b.start, b.stop, b.months, b.rate + 1⟩) day + i]? := rfl
      rw [e3, hq] at hp
      exact (Option.some.inj hp).symm
    subst this
    have := hc p (pers_okPer h.ok p (List.mem_of_getElem? hp))
    rw [← hlen] at e2
    omega
  refine ⟨h2, flr_mono _ _ _ (by omega) ?_, cei_mono _ _ _ (by omega) ?_⟩
  · exact sumD_amounts _ _ _ _ hlen ha (fun j _ hj => by have := disc_lo hk j (by omega); omega)
  · exact sumD_amounts _ _ _ _ hlen ha (fun j _ hj => by have := disc_lo hk j (by omega); omega)

end Go.Proofs.YtielicmjdhmcjaaGreatDoor

/- Prices, yields, risks and shocks in plain Lean: the last facts of the laws. No program in sight. -/
namespace Go.Proofs.YtielicmjdhmcjaaGreatDoor
open Go.RowKit

/- Near the end. -/
theorem disc_near {y d : Int} (hy0 : 0 ≤ y) (hy1 : y ≤ 100000) (hd : 1 ≤ d) (hd1 : d ≤ 36524) : 1000000000000 < discL y 1 d 0 * (1000000 + y) + (1000000 + y) ∧ discH y 1 d 0 ≤ 1000000 := by
  have hk : OkY y 1 d := ⟨hy0, hy1, by omega, hd, hd1⟩
  refine ⟨?_, (disc_lo hk 0 (by omega)).2.2⟩
  have h1 : growH y 1 d 0 ≤ 1000000 + y := by
    simp only [growH, Int.mul_one]
    have h9 : y * 1 ≤ y * d := Int.mul_le_mul_of_nonneg_left hd hy0
    have := cei_le y d y (by omega) (by omega)
    omega
  have h2 := grow_lo hk 0
  have h3 := flr_lo 1000000000000 (growH y 1 d 0) (by omega)
  have h0 := (disc_lo hk 0 (by omega)).1
  have h4 : discL y 1 d 0 * growH y 1 d 0 ≤ discL y 1 d 0 * (1000000 + y) := Int.mul_le_mul_of_nonneg_left h1 (by omega)
  unfold discL at h4 ⊢
  omega

theorem last_ge {b : Bond} {y : Int} (h : OkBond b) (hy0 : 0 ≤ y) (hy1 : y ≤ 100000) :
    ∃ x, (flowsL b)[(flowsL b).length - 1]? = some x ∧ 1 ≤ (flowsL b).length ∧ 0 ≤ x.amount ∧ x.amount ≤ 13000 ∧ runB b (b.stop - 1) = true ∧ priceHi b (b.stop - 1) y ≤ x.amount ∧ x.amount * 1000000 / (1000000 + y) - 1 ≤ priceLo b (b.stop - 1) y := by
  have hs := h.span.se
  have hr : Run b (b.stop - 1) := ⟨h, by omega, by omega⟩
  have hl := h.chain.ne
  have hp : (persF b)[(persF b).length - 1]? = some ((persF b)[(persF b).length - 1]'(by omega)) := by simp [show (persF b).length - 1 < (persF b).length by omega]
  have ht := h.chain.last _ hp
  have hu := h.chain.up _ _ hp
  obtain ⟨ha, he⟩ := perAt_of h _ _ hp (b.stop - 1) (by omega) (by omega)
  have hf := flows_at b _ _ hp
  have hok := pers_okPer h _ (List.mem_of_getElem? hp)
  have hfb := flows_bd h _ (List.mem_of_getElem? hf)
  have hleft : leftF b (b.stop - 1) = 1 := by unfold leftF; rw [he]; omega
  have hdays : daysF b (b.stop - 1) = (persF b)[(persF b).length - 1].till - (persF b)[(persF b).length - 1].frm := by unfold daysF; rw [he]
  have hd1 : 1 ≤ daysF b (b.stop - 1) ∧ daysF b (b.stop - 1) ≤ 36524 := by rw [hdays]; have := hok.f0; have := hok.t1; have := hok.ft; omega
  have hln := flows_len b
  generalize hx : (⟨(persF b)[(persF b).length - 1].till, coupF b (persF b)[(persF b).length - 1] + (if (persF b).length - 1 + 1 = (persF b).length then 10000 else 0)⟩ : Flow) = x at *
  have htail : tailF b (b.stop - 1) = [x] := by
    unfold tailF
    rw [ha]
    apply List.ext_getElem?
    intro i
    rw [List.getElem?_drop]
    cases i with
    | zero => rw [Nat.add_zero, hf]; rfl
    | succ i => rw [List.getElem?_eq_none (by rw [hln]; omega)]; rfl
  obtain ⟨n1, n2⟩ := disc_near hy0 hy1 hd1.1 hd1.2
  refine ⟨x, by rw [hln]; exact hf, by omega, hfb.1, hfb.2.1, hr.bool, ?_, ?_⟩
  · unfold priceHi highS
    rw [htail, hleft]
    simp only [sumD, Int.add_zero]
    exact cei_le _ _ _ (by omega) (Int.mul_le_mul_of_nonneg_left n2 hfb.1)
  · unfold priceLo lowS
    rw [htail, hleft]
    simp only [sumD, Int.add_zero]
    have h0 := (disc_lo (⟨hy0, hy1, by omega, hd1.1, hd1.2⟩ : OkY y 1 (daysF b (b.stop - 1))) 0 (by omega)).1
    generalize discL y 1 (daysF b (b.stop - 1)) 0 = D at *
    -- A = amount * 10^6 / (10^6 + y)
    have hA := flr_lo (x.amount * 1000000) (1000000 + y) (by omega)
    unfold flr at hA
    refine le_flr _ _ _ (by omega) ?_
    generalize hq : x.amount * 1000000 / (1000000 + y) = A at *
    have a0 := hfb.1; have a1 := hfb.2.1
    -- A (10^6 + y) ≤ amount 10^6;  amount 10^12 ≤ amount (D (10^6+y) + 10^6 + y)
    have s1 : x.amount * 1000000000000 ≤ x.amount * (D * (1000000 + y) + (1000000 + y)) := Int.mul_le_mul_of_nonneg_left (by omega) a0
    have s2 : A * (1000000 + y) * 1000000 ≤ x.amount * 1000000 * 1000000 := Int.mul_le_mul_of_nonneg_right hA.1 (by omega)
    have e1 : x.amount * (D * (1000000 + y) + (1000000 + y)) = (x.amount * D + x.amount) * (1000000 + y) := by rw [Int.mul_add, Int.add_mul, Int.mul_assoc]
    have e2 : A * (1000000 + y) * 1000000 = (A * 1000000) * (1000000 + y) := by rw [Int.mul_assoc, Int.mul_comm (1000000 + y), ← Int.mul_assoc]
    rw [e1] at s1; rw [e2] at s2
    have s3 : (A * 1000000) * (1000000 + y) ≤ (x.amount * D + x.amount) * (1000000 + y) := by omega
    have s4 : A * 1000000 ≤ x.amount * D + x.amount := Int.le_of_mul_le_mul_right s3 (by omega)
    rw [Int.sub_mul]; omega

/- Yields of prices. -/
def leastK (b : Bond) (day d : Int) : Nat → Int
  | 0 => -1
  | k + 1 => if d ≤ priceLo b day (2500 * k) then 2500 * k else leastK b day d k
def mostK (b : Bond) (day d : Int) : Nat → Int
  | 0 => -1
  | k + 1 => if priceHi b day (2500 * k) ≤ d ∧ mostK b day d k < 0 then 2500 * k else mostK b day d k
def leastF (b : Bond) (day d : Int) : Int := if runB b day = true then leastK b day d 41 else -1
def mostF (b : Bond) (day d : Int) : Int := if runB b day = true then mostK b day d 41 else -1

theorem leastK_spec (b : Bond) (day d : Int) (k : Nat) : (leastK b day d k = -1 ∧ ∀ j : Nat, j < k → priceLo b day (2500 * j) < d) ∨
    (∃ i : Nat, i < k ∧ leastK b day d k = 2500 * i ∧ d ≤ priceLo b day (2500 * i) ∧ ∀ j : Nat, i < j → j < k → priceLo b day (2500 * j) < d) := by
  induction k with
  | zero => exact .inl ⟨rfl, fun j h => by omega⟩
  | succ k ih =>
    simp only [leastK]
    by_cases h : d ≤ priceLo b day (2500 * k)
    · rw [if_pos h]
      exact .inr ⟨k, by omega, rfl, h, fun j a c => by omega⟩
    · rw [if_neg h]
      rcases ih with ⟨e, ha⟩ | ⟨i, hi, e, hd, ha⟩
      · refine .inl ⟨e, fun j hj => ?_⟩
        by_cases hjk : j = k
        · subst hjk; omega
        · exact ha j (by omega)
      · refine .inr ⟨i, by omega, e, hd, fun j hij hj => ?_⟩
        by_cases hjk : j = k
        · subst hjk; omega
        · exact ha j hij (by omega)
theorem mostK_spec (b : Bond) (day d : Int) (k : Nat) : (mostK b day d k = -1 ∧ ∀ j : Nat, j < k → d < priceHi b day (2500 * j)) ∨
    (∃ i : Nat, i < k ∧ mostK b day d k = 2500 * i ∧ priceHi b day (2500 * i) ≤ d ∧ ∀ j : Nat, j < i → d < priceHi b day (2500 * j)) := by
  induction k with
  | zero => exact .inl ⟨rfl, fun j h => by omega⟩
  | succ k ih =>
    simp only [mostK]
    rcases ih with ⟨e, ha⟩ | ⟨i, hi, e, hd, ha⟩
    · by_cases h : priceHi b day (2500 * k) ≤ d
      · rw [if_pos ⟨h, by omega⟩]
        exact .inr ⟨k, by omega, rfl, h, ha⟩
      · rw [if_neg (fun hh => h hh.1)]
        refine .inl ⟨e, fun j hj => ?_⟩
        by_cases hjk : j = k
        · subst hjk; omega
        · exact ha j (by omega)
    · rw [if_neg (by omega)]
      exact .inr ⟨i, by omega, e, hd, ha⟩
theorem leastK_bd (b : Bond) (day d : Int) (k : Nat) (hk : k ≤ 41) : -1 ≤ leastK b day d k ∧ leastK b day d k ≤ 100000 := by
  rcases leastK_spec b day d k with ⟨e, _⟩ | ⟨i, hi, e, _⟩ <;> omega
theorem mostK_bd (b : Bond) (day d : Int) (k : Nat) (hk : k ≤ 41) : -1 ≤ mostK b day d k ∧ mostK b day d k ≤ 100000 := by
  rcases mostK_spec b day d k with ⟨e, _⟩ | ⟨i, hi, e, _⟩ <;> omega

theorem yields_no {b : Bond} {day : Int} (h : runB b day = false) (d : Int) : leastF b day d = -1 ∧ mostF b day d = -1 := by
  unfold leastF mostF; rw [h]; exact ⟨rfl, rfl⟩
theorem yields_run {b : Bond} {day : Int} (h : runB b day = true) (d : Int) : leastF b day d = leastK b day d 41 ∧ mostF b day d = mostK b day d 41 := by
  unfold leastF mostF; rw [h]; exact ⟨rfl, rfl⟩
theorem yields_bd (b : Bond) (day d : Int) : -1 ≤ leastF b day d ∧ leastF b day d ≤ 100000 ∧ -1 ≤ mostF b day d ∧ mostF b day d ≤ 100000 := by
  have h1 := leastK_bd b day d 41 (by omega); have h2 := mostK_bd b day d 41 (by omega)
  unfold leastF mostF
  split <;> omega
theorem yields_neg (b : Bond) (day d : Int) : (0 ≤ leastF b day d → runB b day = true) ∧ (0 ≤ mostF b day d → runB b day = true) := by
  cases h : runB b day with
  | true => exact ⟨fun _ => rfl, fun _ => rfl⟩
  | false => have := yields_no h d; exact ⟨fun _ => by omega, fun _ => by omega⟩

theorem price_in {b : Bond} {day y : Int} (h : runB b day = true) (h0 : 0 ≤ y) (h1 : y ≤ 100000) : priceF b day y = priceR b day y := by
  unfold priceF priceB yieldB
  rw [h, decide_eq_true h0, decide_eq_true h1]; rfl
theorem price_no {b : Bond} {day y : Int} (h : priceB b day y = false) : priceF b day y = ⟨0, 0⟩ := by unfold priceF; rw [h]; rfl

theorem yields_law (b : Bond) (day d : Int) : (0 ≤ leastF b day d → d ≤ (priceF b day (leastF b day d)).low) ∧ (0 ≤ mostF b day d → (priceF b day (mostF b day d)).high ≤ d) ∧ (0 ≤ leastF b day d → 0 ≤ mostF b day d → leastF b day d ≤ mostF b day d) := by
  cases h : runB b day with
  | false => have := yields_no h d; exact ⟨fun _ => by omega, fun _ => by omega, fun _ => by omega⟩
  | true =>
    obtain ⟨e1, e2⟩ := yields_run h d
    rw [e1, e2]
    have hr := run_of h
    have b1 := leastK_bd b day d 41 (by omega); have b2 := mostK_bd b day d 41 (by omega)
    refine ⟨fun h0 => ?_, fun h0 => ?_, fun h0 h1 => ?_⟩
    · rw [price_in h h0 b1.2]
      rcases leastK_spec b day d 41 with ⟨e, _⟩ | ⟨i, hi, e, hd, _⟩
      · omega
      · rw [e]; exact hd
    · rw [price_in h h0 b2.2]
      rcases mostK_spec b day d 41 with ⟨e, _⟩ | ⟨i, hi, e, hd, _⟩
      · omega
      · rw [e]; exact hd
    · rcases leastK_spec b day d 41 with ⟨e, _⟩ | ⟨i, hi, e, hd, _⟩
      · omega
      · rcases mostK_spec b day d 41 with ⟨f, _⟩ | ⟨j, hj, f, hf, _⟩
        · omega
        · by_cases hle : leastK b day d 41 ≤ mostK b day d 41
          · exact hle
          · exact (hr.price_step (y := 2500 * j) (z := 2500 * i) (by omega) (by omega) (by omega) (by omega)).elim

theorem yields_near {b : Bond} {day d : Int} (h1 : 0 ≤ leastF b day d) (h2 : 0 ≤ mostF b day d) :
    (leastF b day d + 2500 ≤ 100000 → (priceF b day (leastF b day d + 2500)).low < d) ∧ (0 ≤ mostF b day d - 2500 → d < (priceF b day (mostF b day d - 2500)).high) := by
  have h := (yields_neg b day d).1 h1
  obtain ⟨e1, e2⟩ := yields_run h d
  rw [e1] at h1 ⊢; rw [e2] at h2 ⊢
  have b1 := leastK_bd b day d 41 (by omega); have b2 := mostK_bd b day d 41 (by omega)
  refine ⟨fun h3 => ?_, fun h3 => ?_⟩
  · rw [price_in h (by omega) h3]
    rcases leastK_spec b day d 41 with ⟨e, _⟩ | ⟨i, hi, e, hd, ha⟩
    · omega
    · have := ha (i + 1) (by omega) (by omega)
      rw [e, show 2500 * (i : Int) + 2500 = 2500 * ((i + 1 : Nat) : Int) by push_cast; omega]; exact this
  · rw [price_in h h3 (by omega)]
    rcases mostK_spec b day d 41 with ⟨e, _⟩ | ⟨i, hi, e, hd, ha⟩
    · omega
    · have := ha (i - 1) (by omega)
      rw [e, show 2500 * (i : Int) - 2500 = 2500 * ((i - 1 : Nat) : Int) by omega]; exact this

theorem yields_zero {b : Bond} {day : Int} (h : runB b day = true) : 0 ≤ leastF b day (sumA (tailF b day)) ∧ mostF b day (sumA (tailF b day)) = 0 ∧ leastF b day (sumA (tailF b day) + 1) = -1 := by
  have hr := run_of h
  have hz := hr.price_zero
  rw [(yields_run h _).1, (yields_run h _).2, (yields_run h _).1]
  refine ⟨?_, ?_, ?_⟩
  · rcases leastK_spec b day (sumA (tailF b day)) 41 with ⟨e, ha⟩ | ⟨i, hi, e, _⟩
    · have := ha 0 (by omega)
      rw [show (2500 : Int) * ((0 : Nat) : Int) = 0 by rfl, hz.1] at this; omega
    · omega
  · rcases mostK_spec b day (sumA (tailF b day)) 41 with ⟨e, ha⟩ | ⟨i, hi, e, _, ha⟩
    · have := ha 0 (by omega)
      rw [show (2500 : Int) * ((0 : Nat) : Int) = 0 by rfl, hz.2] at this; omega
    · by_cases h0 : i = 0
      · subst h0; rw [e]; rfl
      · have := ha 0 (by omega)
        rw [show (2500 : Int) * ((0 : Nat) : Int) = 0 by rfl, hz.2] at this; omega
  · rcases leastK_spec b day (sumA (tailF b day) + 1) 41 with ⟨e, ha⟩ | ⟨i, hi, e, hd, _⟩
    · exact e
    · have := (hr.price_mono (y := 0) (z := 2500 * i) (by omega) (by omega) (by omega)).1
      rw [hz.1] at this; omega

/- Risks. -/
def riskB (b : Bond) (day y : Int) : Bool := runB b day && (decide (0 ≤ y) && decide (y ≤ 97500))
def riskF (b : Bond) (day y : Int) : Range := if riskB b day y = true then ⟨priceLo b day y - priceHi b day (y + 2500), priceHi b day y - priceLo b day (y + 2500)⟩ else ⟨0, 0⟩
theorem risk_facts {b : Bond} {day y : Int} (h : riskB b day y = true) : runB b day = true ∧ 0 ≤ y ∧ y ≤ 97500 := by
  unfold riskB at h; simpa only [Bool.and_eq_true, decide_eq_true_eq] using h
theorem risk_no {b : Bond} {day y : Int} (h : riskB b day y = false) : riskF b day y = ⟨0, 0⟩ := by unfold riskF; rw [h]; rfl
theorem risk_law (b : Bond) (day y : Int) (hne : ¬ ((riskF b day y).high = 0 ∧ (riskF b day y).low = 0)) : riskB b day y = true ∧ (riskF b day y).low ≤ (riskF b day y).high ∧ 0 ≤ (riskF b day y).high ∧ (riskF b day y).low = (priceF b day y).low - (priceF b day (y + 2500)).high ∧ (riskF b day y).high = (priceF b day y).high - (priceF b day (y + 2500)).low := by
  cases hb : riskB b day y with
  | false => rw [risk_no hb] at hne; exact (hne ⟨rfl, rfl⟩).elim
  | true =>
    obtain ⟨h, h0, h1⟩ := risk_facts hb
    have hr := run_of h
    have m := hr.price_mono (y := y) (z := y + 2500) h0 (by omega) (by omega)
    have a := hr.price_le h0 (by omega : y ≤ 100000)
    have c := hr.price_le (y := y + 2500) (by omega) (by omega)
    rw [price_in h h0 (by omega), price_in h (by omega) (by omega)]
    unfold riskF
    rw [hb, if_pos rfl]
    unfold priceR
    simp only
    refine ⟨trivial, by omega, by omega, trivial, trivial⟩
theorem risk_convex {b : Bond} {day y : Int} (hne : (riskF b day y).high ≠ 0) (h2 : y + 5000 ≤ 100000) : (riskF b day (y + 2500)).low ≤ (riskF b day y).high := by
  cases hb : riskB b day y with
  | false => rw [risk_no hb] at hne; exact (hne rfl).elim
  | true =>
    obtain ⟨h, h0, h1⟩ := risk_facts hb
    have hb2 : riskB b day (y + 2500) = true := by
      unfold riskB; rw [h, decide_eq_true (show 0 ≤ y + 2500 by omega), decide_eq_true (show y + 2500 ≤ 97500 by omega)]; rfl
    have := (run_of h).price_convex h0 h2
    unfold riskF
    rw [hb, hb2, if_pos rfl, if_pos rfl]
    simp only
    rw [show y + 2500 + 2500 = y + 5000 by omega]
    omega

/- Shocks. -/
def clampY (y : Int) : Int := min (max y 0) 100000
def fallF (b : Bond) (day y s : Int) : Int := priceHi b day y - priceHi b day (clampY (y + s))
def fallsF (b : Bond) (day y : Int) : List Int → Int
  | [] => 0
  | s :: ss => max (fallF b day y s) (fallsF b day y ss)
def shocksB (ss : List Int) : Bool := ss.all fun s => decide (-100000 ≤ s) && decide (s ≤ 100000)
def shockB (b : Bond) (day y : Int) (ss : List Int) : Bool := runB b day && yieldB y && (decide (1 ≤ ss.length) && decide (ss.length ≤ 6)) && shocksB ss
def shockF (b : Bond) (day y : Int) (ss : List Int) : Int := if shockB b day y ss = true then fallsF b day y ss else -1
theorem falls_snoc (b : Bond) (day y : Int) (ss : List Int) (s : Int) : fallsF b day y (ss ++ [s]) = max (fallsF b day y ss) (fallF b day y s) := by
  induction ss with
  | nil => simp only [List.nil_append, fallsF]; omega
  | cons t ss ih => simp only [List.cons_append, fallsF, ih]; omega
theorem falls_nonneg (b : Bond) (day y : Int) (ss : List Int) : 0 ≤ fallsF b day y ss := by
  induction ss with
  | nil => exact Int.le_refl _
  | cons t ss ih => simp only [fallsF]; omega
theorem clamp_bd (y : Int) : 0 ≤ clampY y ∧ clampY y ≤ 100000 := by unfold clampY; omega
theorem shocks_snoc (ss : List Int) (s : Int) : shocksB (ss ++ [s]) = (shocksB ss && (decide (-100000 ≤ s) && decide (s ≤ 100000))) := by
  unfold shocksB; rw [List.all_append]; simp
theorem shock_facts {b : Bond} {day y : Int} {ss : List Int} (h : 0 ≤ shockF b day y ss) : runB b day = true ∧ 0 ≤ y ∧ y ≤ 100000 ∧ 1 ≤ ss.length ∧ ss.length ≤ 6 ∧ shocksB ss = true ∧ shockF b day y ss = fallsF b day y ss := by
  unfold shockF at h
  by_cases hb : shockB b day y ss = true
  · have hb0 := hb
    unfold shockB yieldB at hb
    simp only [Bool.and_eq_true, decide_eq_true_eq] at hb
    obtain ⟨⟨⟨h1, h2, h3⟩, h4, h5⟩, h6⟩ := hb
    exact ⟨h1, h2, h3, h4, h5, h6, by unfold shockF; rw [if_pos hb0]⟩
  · rw [if_neg hb] at h; omega
theorem shock_ok {b : Bond} {day y : Int} {ss : List Int} (h : runB b day = true) (h0 : 0 ≤ y) (h1 : y ≤ 100000) (h2 : 1 ≤ ss.length) (h3 : ss.length ≤ 6) (h4 : shocksB ss = true) : shockF b day y ss = fallsF b day y ss := by
  unfold shockF shockB yieldB
  rw [if_pos (by simp only [Bool.and_eq_true, decide_eq_true_eq]; exact ⟨⟨⟨h, h0, h1⟩, h2, h3⟩, h4⟩)]
theorem shock_more {b : Bond} {day y : Int} {ss : List Int} (h : 0 ≤ shockF b day y ss) : (ss.length ≠ 6 → shockF b day y ss ≤ shockF b day y (ss ++ [30000])) ∧ shockF b day y [-20000, 0] = 0 := by
  obtain ⟨h1, h2, h3, h4, h5, h6, e⟩ := shock_facts h
  have hr := run_of h1
  refine ⟨fun hne => ?_, ?_⟩
  · rw [e, shock_ok h1 h2 h3 (by simp) (by simp; omega) (by rw [shocks_snoc, h6]; decide), falls_snoc]; omega
  · rw [shock_ok h1 h2 h3 (by simp) (by simp) (by decide)]
    have c1 : clampY (y + -20000) ≤ y := by unfold clampY; omega
    have c2 : clampY (y + 0) = y := by unfold clampY; omega
    have m := (hr.price_mono (clamp_bd (y + -20000)).1 c1 h3).2
    simp only [fallsF, fallF]
    rw [c2]; omega
theorem shock_one {b : Bond} {day y : Int} {ss : List Int} (h : 0 ≤ shockF b day y ss) : shockF b day y [5000] = (priceF b day y).high - (priceF b day (min (y + 5000) 100000)).high := by
  obtain ⟨h1, h2, h3, h4, h5, h6, e⟩ := shock_facts h
  have hr := run_of h1
  rw [shock_ok h1 h2 h3 (by simp) (by simp) (by decide), price_in h1 h2 h3, price_in h1 (by omega) (by omega)]
  have c : clampY (y + 5000) = min (y + 5000) 100000 := by unfold clampY; omega
  have m := (hr.price_mono (y := y) (z := min (y + 5000) 100000) h2 (by omega) (by omega)).2
  simp only [fallsF, fallF, priceR]
  rw [c]; omega
theorem fall_bd {b : Bond} {day y s : Int} (h : runB b day = true) (h0 : 0 ≤ y) (h1 : y ≤ 100000) : -520000 ≤ fallF b day y s ∧ fallF b day y s ≤ 520000 := by
  have hr := run_of h
  have a := hr.price_bd h0 h1
  have c := hr.price_bd (clamp_bd (y + s)).1 (clamp_bd (y + s)).2
  have d := hr.price_pos h0 h1
  have e := hr.price_pos (clamp_bd (y + s)).1 (clamp_bd (y + s)).2
  unfold fallF; omega
theorem falls_bd {b : Bond} {day y : Int} (h : runB b day = true) (h0 : 0 ≤ y) (h1 : y ≤ 100000) (ss : List Int) : 0 ≤ fallsF b day y ss ∧ fallsF b day y ss ≤ 520000 := by
  refine ⟨falls_nonneg _ _ _ _, ?_⟩
  induction ss with
  | nil => simp [fallsF]
  | cons t ss ih => have := fall_bd (s := t) h h0 h1; simp only [fallsF]; omega

end Go.Proofs.YtielicmjdhmcjaaGreatDoor
