/- Prices, yields, risks and shocks in plain Lean: the last facts of the laws. No program in sight. -/
import Derived.Test.YtkgjciacdjhhfaaDoorRows
import Derived.Test.YtkgjciacdjhhfaaDoorBase
import Derived.Test.YtkgjciacdjhhfaaDoorPriceLaws
import Derived.Test.YtkgjciacdjhhfaaDoorBondFacts
namespace Go.Proofs.YtkgjciacdjhhfaaDoor
open Go.RowKit

/- Near the end. -/
theorem disc_near {y d : Int} (hy0 : 0 ≤ y) (hy1 : y ≤ 100000) (hd : 1 ≤ d) (hd1 : d ≤ 36524) : 1000000000000 < discL y 1 d 0 * (1000000 + y) + (1000000 + y) ∧ discH y 1 d 0 ≤ 1000000 := by
  have hk : OkY y 1 d := ⟨hy0, hy1, by omega, hd, hd1⟩
  refine ⟨?_, (disc_lo hk 0 (by omega)).2.2⟩
  have h1 : growH y 1 d 0 ≤ 1000000 + y := by
    simp only [growH, Int.mul_one]
    have h9 : y * 1 ≤ y * d := Int.mul_le_mul_of_nonneg_left hd hy0
    have := cei_le y d y (by omega) (by omega)
    omega
  have h2 := grow_lo hk 0
  have h3 := flr_lo 1000000000000 (growH y 1 d 0) (by omega)
  have h0 := (disc_lo hk 0 (by omega)).1
  have h4 : discL y 1 d 0 * growH y 1 d 0 ≤ discL y 1 d 0 * (1000000 + y) := Int.mul_le_mul_of_nonneg_left h1 (by omega)
  unfold discL at h4 ⊢
  omega

theorem last_ge {b : Bond} {y : Int} (h : OkBond b) (hy0 : 0 ≤ y) (hy1 : y ≤ 100000) :
    ∃ x, (flowsL b)[(flowsL b).length - 1]? = some x ∧ 1 ≤ (flowsL b).length ∧ 0 ≤ x.amount ∧ x.amount ≤ 13000 ∧ runB b (b.stop - 1) = true ∧ priceHi b (b.stop - 1) y ≤ x.amount ∧ x.amount * 1000000 / (1000000 + y) - 1 ≤ priceLo b (b.stop - 1) y := by
  have hs := h.span.se
  have hr : Run b (b.stop - 1) := ⟨h, by omega, by omega⟩
  have hl := h.chain.ne
  have hp : (persF b)[(persF b).length - 1]? = some ((persF b)[(persF b).length - 1]'(by omega)) := by simp [show (persF b).length - 1 < (persF b).length by omega]
  have ht := h.chain.last _ hp
  have hu := h.chain.up _ _ hp
  obtain ⟨ha, he⟩ := perAt_of h _ _ hp (b.stop - 1) (by omega) (by omega)
  have hf := flows_at b _ _ hp
  have hok := pers_okPer h _ (List.mem_of_getElem? hp)
  have hfb := flows_bd h _ (List.mem_of_getElem? hf)
  have hleft : leftF b (b.stop - 1) = 1 := by unfold leftF; rw [he]; omega
  have hdays : daysF b (b.stop - 1) = (persF b)[(persF b).length - 1].till - (persF b)[(persF b).length - 1].frm := by unfold daysF; rw [he]
  have hd1 : 1 ≤ daysF b (b.stop - 1) ∧ daysF b (b.stop - 1) ≤ 36524 := by rw [hdays]; have := hok.f0; have := hok.t1; have := hok.ft; omega
  have hln := flows_len b
  generalize hx : (⟨(persF b)[(persF b).length - 1].till, coupF b (persF b)[(persF b).length - 1] + (if (persF b).length - 1 + 1 = (persF b).length then 10000 else 0)⟩ : Flow) = x at *
  have htail : tailF b (b.stop - 1) = [x] := by
    unfold tailF
    rw [ha]
    apply List.ext_getElem?
    intro i
    rw [List.getElem?_drop]
    cases i with
    | zero => rw [Nat.add_zero, hf]; rfl
    | succ i => rw [List.getElem?_eq_none (by rw [hln]; omega)]; rfl
  obtain ⟨n1, n2⟩ := disc_near hy0 hy1 hd1.1 hd1.2
  refine ⟨x, by rw [hln]; exact hf, by omega, hfb.1, hfb.2.1, hr.bool, ?_, ?_⟩
  · unfold priceHi highS
    rw [htail, hleft]
    simp only [sumD, Int.add_zero]
    exact cei_le _ _ _ (by omega) (Int.mul_le_mul_of_nonneg_left n2 hfb.1)
  · unfold priceLo lowS
    rw [htail, hleft]
    simp only [sumD, Int.add_zero]
    have h0 := (disc_lo (⟨hy0, hy1, by omega, hd1.1, hd1.2⟩ : OkY y 1 (daysF b (b.stop - 1))) 0 (by omega)).1
    generalize discL y 1 (daysF b (b.stop - 1)) 0 = D at *
    -- A = amount * 10^6 / (10^6 + y)
    have hA := flr_lo (x.amount * 1000000) (1000000 + y) (by omega)
    unfold flr at hA
    refine le_flr _ _ _ (by omega) ?_
    generalize hq : x.amount * 1000000 / (1000000 + y) = A at *
    have a0 := hfb.1; have a1 := hfb.2.1
    -- A (10^6 + y) ≤ amount 10^6;  amount 10^12 ≤ amount (D (10^6+y) + 10^6 + y)
    have s1 : x.amount * 1000000000000 ≤ x.amount * (D * (1000000 + y) + (1000000 + y)) := Int.mul_le_mul_of_nonneg_left (by omega) a0
    have s2 : A * (1000000 + y) * 1000000 ≤ x.amount * 1000000 * 1000000 := Int.mul_le_mul_of_nonneg_right hA.1 (by omega)
    have e1 : x.amount * (D * (1000000 + y) + (1000000 + y)) = (x.amount * D + x.amount) * (1000000 + y) := by rw [Int.mul_add, Int.add_mul, Int.mul_assoc]
    have e2 : A * (1000000 + y) * 1000000 = (A * 1000000) * (1000000 + y) := by rw [Int.mul_assoc, Int.mul_comm (1000000 + y), ← Int.mul_assoc]
    rw [e1] at s1; rw [e2] at s2
    have s3 : (A * 1000000) * (1000000 + y) ≤ (x.amount * D + x.amount) * (1000000 + y) := by omega
    have s4 : A * 1000000 ≤ x.amount * D + x.amount := Int.le_of_mul_le_mul_right s3 (by omega)
    rw [Int.sub_mul]; omega

/- Yields of prices. -/
def leastK (b : Bond) (day d : Int) : Nat → Int
  | 0 => -1
  | k + 1 => if d ≤ priceLo b day (2500 * k) then 2500 * k else leastK b day d k
def mostK (b : Bond) (day d : Int) : Nat → Int
  | 0 => -1
  | k + 1 => if priceHi b day (2500 * k) ≤ d ∧ mostK b day d k < 0 then 2500 * k else mostK b day d k
def leastF (b : Bond) (day d : Int) : Int := if runB b day = true then leastK b day d 41 else -1
def mostF (b : Bond) (day d : Int) : Int := if runB b day = true then mostK b day d 41 else -1

theorem leastK_spec (b : Bond) (day d : Int) (k : Nat) : (leastK b day d k = -1 ∧ ∀ j : Nat, j < k → priceLo b day (2500 * j) < d) ∨
    (∃ i : Nat, i < k ∧ leastK b day d k = 2500 * i ∧ d ≤ priceLo b day (2500 * i) ∧ ∀ j : Nat, i < j → j < k → priceLo b day (2500 * j) < d) := by
  induction k with
  | zero => exact .inl ⟨rfl, fun j h => by omega⟩
  | succ k ih =>
    simp only [leastK]
    by_cases h : d ≤ priceLo b day (2500 * k)
    · rw [if_pos h]
      exact .inr ⟨k, by omega, rfl, h, fun j a c => by omega⟩
    · rw [if_neg h]
      rcases ih with ⟨e, ha⟩ | ⟨i, hi, e, hd, ha⟩
      · refine .inl ⟨e, fun j hj => ?_⟩
        by_cases hjk : j = k
        · subst hjk; omega
        · exact ha j (by omega)
      · refine .inr ⟨i, by omega, e, hd, fun j hij hj => ?_⟩
        by_cases hjk : j = k
        · subst hjk; omega
        · exact ha j hij (by omega)
theorem mostK_spec (b : Bond) (day d : Int) (k : Nat) : (mostK b day d k = -1 ∧ ∀ j : Nat, j < k → d < priceHi b day (2500 * j)) ∨
    (∃ i : Nat, i < k ∧ mostK b day d k = 2500 * i ∧ priceHi b day (2500 * i) ≤ d ∧ ∀ j : Nat, j < i → d < priceHi b day (2500 * j)) := by
  induction k with
  | zero => exact .inl ⟨rfl, fun j h => by omega⟩
  | succ k ih =>
    simp only [mostK]
    rcases ih with ⟨e, ha⟩ | ⟨i, hi, e, hd, ha⟩
    · by_cases h : priceHi b day (2500 * k) ≤ d
      · rw [if_pos ⟨h, by omega⟩]
        exact .inr ⟨k, by omega, rfl, h, ha⟩
      · rw [if_neg (fun hh => h hh.1)]
        refine .inl ⟨e, fun j hj => ?_⟩
        by_cases hjk : j = k
        · subst hjk; omega
        · exact ha j (by omega)
    · rw [if_neg (by omega)]
      exact .inr ⟨i, by omega, e, hd, ha⟩
theorem leastK_bd (b : Bond) (day d : Int) (k : Nat) (hk : k ≤ 41) : -1 ≤ leastK b day d k ∧ leastK b day d k ≤ 100000 := by
  rcases leastK_spec b day d k with ⟨e, _⟩ | ⟨i, hi, e, _⟩ <;> omega
theorem mostK_bd (b : Bond) (day d : Int) (k : Nat) (hk : k ≤ 41) : -1 ≤ mostK b day d k ∧ mostK b day d k ≤ 100000 := by
  rcases mostK_spec b day d k with ⟨e, _⟩ | ⟨i, hi, e, _⟩ <;> omega

theorem yields_no {b : Bond} {day : Int} (h : runB b day = false) (d : Int) : leastF b day d = -1 ∧ mostF b day d = -1 := by
  unfold leastF mostF; rw [h]; exact ⟨rfl, rfl⟩
theorem yields_run {b : Bond} {day : Int} (h : runB b day = true) (d : Int) : leastF b day d = leastK b day d 41 ∧ mostF b day d = mostK b day d 41 := by
  unfold leastF mostF; rw [h]; exact ⟨rfl, rfl⟩
theorem yields_bd (b : Bond) (day d : Int) : -1 ≤ leastF b day d ∧ leastF b day d ≤ 100000 ∧ -1 ≤ mostF b day d ∧ mostF b day d ≤ 100000 := by
  have h1 := leastK_bd b day d 41 (by omega); have h2 := mostK_bd b day d 41 (by omega)
  unfold leastF mostF
  split <;> omega
theorem yields_neg (b : Bond) (day d : Int) : (0 ≤ leastF b day d → runB b day = true) ∧ (0 ≤ mostF b day d → runB b day = true) := by
  cases h : runB b day with
  | true => exact ⟨fun _ => rfl, fun _ => rfl⟩
  | false => have := yields_no h d; exact ⟨fun _ => by omega, fun _ => by omega⟩

theorem price_in {b : Bond} {day y : Int} (h : runB b day = true) (h0 : 0 ≤ y) (h1 : y ≤ 100000) : priceF b day y = priceR b day y := by
  unfold priceF priceB yieldB
  rw [h, decide_eq_true h0, decide_eq_true h1]; rfl
theorem price_no {b : Bond} {day y : Int} (h : priceB b day y = false) : priceF b day y = ⟨0, 0⟩ := by unfold priceF; rw [h]; rfl

/-- Prices tell yields. -/
theorem yields_law (b : Bond) (day d : Int) : (0 ≤ leastF b day d → d ≤ (priceF b day (leastF b day d)).low) ∧ (0 ≤ mostF b day d → (priceF b day (mostF b day d)).high ≤ d) ∧ (0 ≤ leastF b day d → 0 ≤ mostF b day d → leastF b day d ≤ mostF b day d) := by
  cases h : runB b day with
  | false => have := yields_no h d; exact ⟨fun _ => by omega, fun _ => by omega, fun _ => by omega⟩
  | true =>
    obtain ⟨e1, e2⟩ := yields_run h d
    rw [e1, e2]
    have hr := run_of h
    have b1 := leastK_bd b day d 41 (by omega); have b2 := mostK_bd b day d 41 (by omega)
    refine ⟨fun h0 => ?_, fun h0 => ?_, fun h0 h1 => ?_⟩
    · rw [price_in h h0 b1.2]
      rcases leastK_spec b day d 41 with ⟨e, _⟩ | ⟨i, hi, e, hd, _⟩
      · omega
      · rw [e]; exact hd
    · rw [price_in h h0 b2.2]
      rcases mostK_spec b day d 41 with ⟨e, _⟩ | ⟨i, hi, e, hd, _⟩
      · omega
      · rw [e]; exact hd
    · rcases leastK_spec b day d 41 with ⟨e, _⟩ | ⟨i, hi, e, hd, _⟩
      · omega
      · rcases mostK_spec b day d 41 with ⟨f, _⟩ | ⟨j, hj, f, hf, _⟩
        · omega
        · by_cases hle : leastK b day d 41 ≤ mostK b day d 41
          · exact hle
          · exact (hr.price_step (y := 2500 * j) (z := 2500 * i) (by omega) (by omega) (by omega) (by omega)).elim

/-- Yields are near each other. -/
theorem yields_near {b : Bond} {day d : Int} (h1 : 0 ≤ leastF b day d) (h2 : 0 ≤ mostF b day d) :
    (leastF b day d + 2500 ≤ 100000 → (priceF b day (leastF b day d + 2500)).low < d) ∧ (0 ≤ mostF b day d - 2500 → d < (priceF b day (mostF b day d - 2500)).high) := by
  have h := (yields_neg b day d).1 h1
  obtain ⟨e1, e2⟩ := yields_run h d
  rw [e1] at h1 ⊢; rw [e2] at h2 ⊢
  have b1 := leastK_bd b day d 41 (by omega); have b2 := mostK_bd b day d 41 (by omega)
  refine ⟨fun h3 => ?_, fun h3 => ?_⟩
  · rw [price_in h (by omega) h3]
    rcases leastK_spec b day d 41 with ⟨e, _⟩ | ⟨i, hi, e, hd, ha⟩
    · omega
    · have := ha (i + 1) (by omega) (by omega)
      rw [e, show 2500 * (i : Int) + 2500 = 2500 * ((i + 1 : Nat) : Int) by push_cast; omega]; exact this
  · rw [price_in h h3 (by omega)]
    rcases mostK_spec b day d 41 with ⟨e, _⟩ | ⟨i, hi, e, hd, ha⟩
    · omega
    · have := ha (i - 1) (by omega)
      rw [e, show 2500 * (i : Int) - 2500 = 2500 * ((i - 1 : Nat) : Int) by omega]; exact this

/-- Without a yield the price is the sum. -/
theorem yields_zero {b : Bond} {day : Int} (h : runB b day = true) : 0 ≤ leastF b day (sumA (tailF b day)) ∧ mostF b day (sumA (tailF b day)) = 0 ∧ leastF b day (sumA (tailF b day) + 1) = -1 := by
  have hr := run_of h
  have hz := hr.price_zero
  rw [(yields_run h _).1, (yields_run h _).2, (yields_run h _).1]
  refine ⟨?_, ?_, ?_⟩
  · rcases leastK_spec b day (sumA (tailF b day)) 41 with ⟨e, ha⟩ | ⟨i, hi, e, _⟩
    · have := ha 0 (by omega)
      rw [show (2500 : Int) * ((0 : Nat) : Int) = 0 by rfl, hz.1] at this; omega
    · omega
  · rcases mostK_spec b day (sumA (tailF b day)) 41 with ⟨e, ha⟩ | ⟨i, hi, e, _, ha⟩
    · have := ha 0 (by omega)
      rw [show (2500 : Int) * ((0 : Nat) : Int) = 0 by rfl, hz.2] at this; omega
    · by_cases h0 : i = 0
      · subst h0; rw [e]; rfl
      · have := ha 0 (by omega)
        rw [show (2500 : Int) * ((0 : Nat) : Int) = 0 by rfl, hz.2] at this; omega
  · rcases leastK_spec b day (sumA (tailF b day) + 1) 41 with ⟨e, ha⟩ | ⟨i, hi, e, hd, _⟩
    · exact e
    · have := (hr.price_mono (y := 0) (z := 2500 * i) (by omega) (by omega) (by omega)).1
      rw [hz.1] at this; omega

/- Risks. -/
def riskB (b : Bond) (day y : Int) : Bool := runB b day && (decide (0 ≤ y) && decide (y ≤ 97500))
def riskF (b : Bond) (day y : Int) : Range := if riskB b day y = true then ⟨priceLo b day y - priceHi b day (y + 2500), priceHi b day y - priceLo b day (y + 2500)⟩ else ⟨0, 0⟩
theorem risk_facts {b : Bond} {day y : Int} (h : riskB b day y = true) : runB b day = true ∧ 0 ≤ y ∧ y ≤ 97500 := by
  unfold riskB at h; simpa only [Bool.and_eq_true, decide_eq_true_eq] using h
theorem risk_no {b : Bond} {day y : Int} (h : riskB b day y = false) : riskF b day y = ⟨0, 0⟩ := by unfold riskF; rw [h]; rfl
theorem risk_law (b : Bond) (day y : Int) (hne : ¬ ((riskF b day y).high = 0 ∧ (riskF b day y).low = 0)) : riskB b day y = true ∧ (riskF b day y).low ≤ (riskF b day y).high ∧ 0 ≤ (riskF b day y).high ∧ (riskF b day y).low = (priceF b day y).low - (priceF b day (y + 2500)).high ∧ (riskF b day y).high = (priceF b day y).high - (priceF b day (y + 2500)).low := by
  cases hb : riskB b day y with
  | false => rw [risk_no hb] at hne; exact (hne ⟨rfl, rfl⟩).elim
  | true =>
    obtain ⟨h, h0, h1⟩ := risk_facts hb
    have hr := run_of h
    have m := hr.price_mono (y := y) (z := y + 2500) h0 (by omega) (by omega)
    have a := hr.price_le h0 (by omega : y ≤ 100000)
    have c := hr.price_le (y := y + 2500) (by omega) (by omega)
    rw [price_in h h0 (by omega), price_in h (by omega) (by omega)]
    unfold riskF
    rw [hb, if_pos rfl]
    unfold priceR
    simp only
    refine ⟨trivial, by omega, by omega, trivial, trivial⟩
theorem risk_convex {b : Bond} {day y : Int} (hne : (riskF b day y).high ≠ 0) (h2 : y + 5000 ≤ 100000) : (riskF b day (y + 2500)).low ≤ (riskF b day y).high := by
  cases hb : riskB b day y with
  | false => rw [risk_no hb] at hne; exact (hne rfl).elim
  | true =>
    obtain ⟨h, h0, h1⟩ := risk_facts hb
    have hb2 : riskB b day (y + 2500) = true := by
      unfold riskB; rw [h, decide_eq_true (show 0 ≤ y + 2500 by omega), decide_eq_true (show y + 2500 ≤ 97500 by omega)]; rfl
    have := (run_of h).price_convex h0 h2
    unfold riskF
    rw [hb, hb2, if_pos rfl, if_pos rfl]
    simp only
    rw [show y + 2500 + 2500 = y + 5000 by omega]
    omega

/- Shocks. -/
def clampY (y : Int) : Int := min (max y 0) 100000
def fallF (b : Bond) (day y s : Int) : Int := priceHi b day y - priceHi b day (clampY (y + s))
def fallsF (b : Bond) (day y : Int) : List Int → Int
  | [] => 0
  | s :: ss => max (fallF b day y s) (fallsF b day y ss)
def shocksB (ss : List Int) : Bool := ss.all fun s => decide (-100000 ≤ s) && decide (s ≤ 100000)
def shockB (b : Bond) (day y : Int) (ss : List Int) : Bool := runB b day && yieldB y && (decide (1 ≤ ss.length) && decide (ss.length ≤ 6)) && shocksB ss
def shockF (b : Bond) (day y : Int) (ss : List Int) : Int := if shockB b day y ss = true then fallsF b day y ss else -1
theorem falls_snoc (b : Bond) (day y : Int) (ss : List Int) (s : Int) : fallsF b day y (ss ++ [s]) = max (fallsF b day y ss) (fallF b day y s) := by
  induction ss with
  | nil => simp only [List.nil_append, fallsF]; omega
  | cons t ss ih => simp only [List.cons_append, fallsF, ih]; omega
theorem falls_nonneg (b : Bond) (day y : Int) (ss : List Int) : 0 ≤ fallsF b day y ss := by
  induction ss with
  | nil => exact Int.le_refl _
  | cons t ss ih => simp only [fallsF]; omega
theorem clamp_bd (y : Int) : 0 ≤ clampY y ∧ clampY y ≤ 100000 := by unfold clampY; omega
theorem shocks_snoc (ss : List Int) (s : Int) : shocksB (ss ++ [s]) = (shocksB ss && (decide (-100000 ≤ s) && decide (s ≤ 100000))) := by
  unfold shocksB; rw [List.all_append]; simp
theorem shock_facts {b : Bond} {day y : Int} {ss : List Int} (h : 0 ≤ shockF b day y ss) : runB b day = true ∧ 0 ≤ y ∧ y ≤ 100000 ∧ 1 ≤ ss.length ∧ ss.length ≤ 6 ∧ shocksB ss = true ∧ shockF b day y ss = fallsF b day y ss := by
  unfold shockF at h
  by_cases hb : shockB b day y ss = true
  · have hb0 := hb
    unfold shockB yieldB at hb
    simp only [Bool.and_eq_true, decide_eq_true_eq] at hb
    obtain ⟨⟨⟨h1, h2, h3⟩, h4, h5⟩, h6⟩ := hb
    exact ⟨h1, h2, h3, h4, h5, h6, by unfold shockF; rw [if_pos hb0]⟩
  · rw [if_neg hb] at h; omega
theorem shock_ok {b : Bond} {day y : Int} {ss : List Int} (h : runB b day = true) (h0 : 0 ≤ y) (h1 : y ≤ 100000) (h2 : 1 ≤ ss.length) (h3 : ss.length ≤ 6) (h4 : shocksB ss = true) : shockF b day y ss = fallsF b day y ss := by
  unfold shockF shockB yieldB
  rw [if_pos (by simp only [Bool.and_eq_true, decide_eq_true_eq]; exact ⟨⟨⟨h, h0, h1⟩, h2, h3⟩, h4⟩)]
/-- More shocks are not milder. -/
theorem shock_more {b : Bond} {day y : Int} {ss : List Int} (h : 0 ≤ shockF b day y ss) : (ss.length ≠ 6 → shockF b day y ss ≤ shockF b day y (ss ++ [30000])) ∧ shockF b day y [-20000, 0] = 0 := by
  obtain ⟨h1, h2, h3, h4, h5, h6, e⟩ := shock_facts h
  have hr := run_of h1
  refine ⟨fun hne => ?_, ?_⟩
  · rw [e, shock_ok h1 h2 h3 (by simp) (by simp; omega) (by rw [shocks_snoc, h6]; decide), falls_snoc]; omega
  · rw [shock_ok h1 h2 h3 (by simp) (by simp) (by decide)]
    have c1 : clampY (y + -20000) ≤ y := by unfold clampY; omega
    have c2 : clampY (y + 0) = y := by unfold clampY; omega
    have m := (hr.price_mono (clamp_bd (y + -20000)).1 c1 h3).2
    simp only [fallsF, fallF]
    rw [c2]; omega
/-- Shocks are falls of prices. -/
theorem shock_one {b : Bond} {day y : Int} {ss : List Int} (h : 0 ≤ shockF b day y ss) : shockF b day y [5000] = (priceF b day y).high - (priceF b day (min (y + 5000) 100000)).high := by
  obtain ⟨h1, h2, h3, h4, h5, h6, e⟩ := shock_facts h
  have hr := run_of h1
  rw [shock_ok h1 h2 h3 (by simp) (by simp) (by decide), price_in h1 h2 h3, price_in h1 (by omega) (by omega)]
  have c : clampY (y + 5000) = min (y + 5000) 100000 := by unfold clampY; omega
  have m := (hr.price_mono (y := y) (z := min (y + 5000) 100000) h2 (by omega) (by omega)).2
  simp only [fallsF, fallF, priceR]
  rw [c]; omega
theorem fall_bd {b : Bond} {day y s : Int} (h : runB b day = true) (h0 : 0 ≤ y) (h1 : y ≤ 100000) : -520000 ≤ fallF b day y s ∧ fallF b day y s ≤ 520000 := by
  have hr := run_of h
  have a := hr.price_bd h0 h1
  have c := hr.price_bd (clamp_bd (y + s)).1 (clamp_bd (y + s)).2
  have d := hr.price_pos h0 h1
  have e := hr.price_pos (clamp_bd (y + s)).1 (clamp_bd (y + s)).2
  unfold fallF; omega
theorem falls_bd {b : Bond} {day y : Int} (h : runB b day = true) (h0 : 0 ≤ y) (h1 : y ≤ 100000) (ss : List Int) : 0 ≤ fallsF b day y ss ∧ fallsF b day y ss ≤ 520000 := by
  refine ⟨falls_nonneg _ _ _ _, ?_⟩
  induction ss with
  | nil => simp [fallsF]
  | cons t ss ih => have := fall_bd (s := t) h h0 h1; simp only [fallsF]; omega

end Go.Proofs.YtkgjciacdjhhfaaDoor
