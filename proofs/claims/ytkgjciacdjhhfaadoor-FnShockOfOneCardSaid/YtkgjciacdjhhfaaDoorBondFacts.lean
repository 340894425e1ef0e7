/- Accrued interest, payments and mean lives in plain Lean: what the laws say of them. No program in sight. -/
import Derived.Test.YtkgjciacdjhhfaaDoorRows
import Derived.Test.YtkgjciacdjhhfaaDoorBase
import Derived.Test.YtkgjciacdjhhfaaDoorFlows
namespace Go.Proofs.YtkgjciacdjhhfaaDoor
open Go.RowKit

/-- The same bond at another rate. -/
def atRate (b : Bond) (r : Int) : Bond := ⟨b.start, b.stop, b.months, r⟩

theorem run_rate {b : Bond} {day : Int} (h : runB b day = true) (r : Int) (h0 : 0 ≤ r) (h1 : r ≤ 3000) : runB (atRate b r) day = true := by
  obtain ⟨hok, hd0, hd1⟩ := run_facts h
  have h2 : OkBond (atRate b r) := ⟨hok.span, h0, h1⟩
  unfold runB
  rw [h2.bool]
  simp only [Bool.true_and, Bool.and_eq_true, decide_eq_true_eq]
  exact ⟨hd0, hd1⟩

theorem coup_rate {b : Bond} (h : OkBond b) (r : Int) (hr : b.rate ≤ r) (p : Per) (hp : OkPer b p) : coupF b p ≤ coupF (atRate b r) p := by
  have hm := h.span.mpos
  have hw : wholeC b.rate b.months ≤ wholeC r b.months := by
    unfold wholeC
    exact near_mono _ _ _ (Int.mul_le_mul_of_nonneg_right (by omega) (by omega)) (by omega)
  unfold coupF couponF atRate
  split
  · exact hw
  · refine near_mono _ _ _ ?_ (by have := hp.bt; omega)
    exact Int.mul_le_mul_of_nonneg_right hw (by have := hp.ft; omega)

theorem coup_zero {b : Bond} (_h : OkBond b) (p : Per) (hp : OkPer b p) : coupF (atRate b 0) p = 0 := by
  have hw : wholeC 0 b.months = 0 := by
    unfold wholeC; rw [Int.mul_zero, Int.zero_mul]; exact near_zero _ (by omega)
  unfold coupF couponF atRate
  simp only
  rw [hw, Int.zero_mul, near_zero _ (by have := hp.bt; omega)]
  simp

/-- Higher rates accrue more; without a rate nothing accrues. -/
theorem acc_more {b : Bond} {day : Int} (h : runB b day = true) (r : Int) (hr : b.rate ≤ r) : accL b day ≤ accL (atRate b r) day := by
  obtain ⟨hok, hd0, hd1⟩ := run_facts h
  obtain ⟨_, a, c, hm, _⟩ := perAt_spec hok day hd0 hd1
  have hp := pers_okPer hok _ hm
  have hc := coup_rate hok r hr _ hp
  have e : perAt (atRate b r) day = perAt b day := rfl
  unfold accL
  rw [e]
  exact near_mono _ _ _ (Int.mul_le_mul_of_nonneg_right hc (by omega)) (by omega)

theorem acc_zero {b : Bond} {day : Int} (h : runB b day = true) : accL (atRate b 0) day = 0 := by
  obtain ⟨hok, hd0, hd1⟩ := run_facts h
  obtain ⟨_, a, c, hm, _⟩ := perAt_spec hok day hd0 hd1
  have hp := pers_okPer hok _ hm
  have e : perAt (atRate b 0) day = perAt b day := rfl
  unfold accL
  rw [e, coup_zero hok _ hp, Int.zero_mul]
  exact near_zero _ (by omega)

theorem accF_rate {b : Bond} {day : Int} (h : runB b day = true) : accF b day ≤ accF (atRate b (min (b.rate + 1) 3000)) day ∧ accF (atRate b 0) day = 0 := by
  obtain ⟨hok, _, _⟩ := run_facts h
  have h0 := hok.r0; have h1 := hok.r1
  have hm := acc_more h (min (b.rate + 1) 3000) (by omega)
  have hz := acc_zero h
  unfold accF
  rw [if_pos h, if_pos (run_rate h _ (by omega) (by omega)), if_pos (run_rate h 0 (by omega) (by omega))]
  exact ⟨hm, hz⟩

/- Payments behind a day. -/
theorem at_le (b : Bond) (day : Int) : atF (persF b) day ≤ (persF b).length := List.findIdx_le_length
theorem after_eq {b : Bond} (h : bondB b = true) (day : Int) : afterF b day = (flowsL b).drop (atF (persF b) day) := by
  unfold afterF flowsF; rw [if_pos h, after_drop (ok_bond h)]
theorem flowsF_ok {b : Bond} (h : bondB b = true) : flowsF b = flowsL b := by unfold flowsF; rw [if_pos h]
theorem flowsF_no {b : Bond} (h : bondB b = false) : flowsF b = [] := by unfold flowsF; rw [if_neg (by rw [h]; simp)]
theorem afterF_no {b : Bond} (h : bondB b = false) (day : Int) : afterF b day = [] := by unfold afterF; rw [flowsF_no h]; rfl
theorem after_len {b : Bond} (h : bondB b = true) (day : Int) : (afterF b day).length = (persF b).length - atF (persF b) day := by
  rw [after_eq h, List.length_drop, flows_len]
theorem flow_day {b : Bond} (i : Nat) (f : Flow) (hf : (flowsL b)[i]? = some f) : ∃ p, (persF b)[i]? = some p ∧ f.day = p.till := by
  have hi := lt_of_at hf
  rw [flows_len] at hi
  have hp : (persF b)[i]? = some (persF b)[i] := by simp [hi]
  rw [flows_at b i _ hp] at hf
  obtain rfl := Option.some.inj hf
  exact ⟨_, hp, rfl⟩
/-- The one before the first one behind the day is not behind it. -/
theorem after_before {b : Bond} (day : Int) (i : Nat) (f : Flow) (hi : i < atF (persF b) day) (hf : (flowsL b)[i]? = some f) : f.day ≤ day := by
  obtain ⟨p, hp, e⟩ := flow_day i f hf
  have hil := lt_of_at hp
  unfold atF at hi
  have := List.not_of_lt_findIdx (p := fun p : Per => decide (day < p.till)) (xs := persF b) (i := i) hi
  have e2 : (persF b)[i] = p := by rw [List.getElem?_eq_getElem hil] at hp; exact Option.some.inj hp
  rw [e2] at this
  rw [e]; simpa using this
theorem after_behind {b : Bond} (day : Int) (f : Flow) (hf : f ∈ afterF b day) : day < f.day := by
  unfold afterF at hf
  rw [List.mem_filter] at hf
  simpa using hf.2
theorem after_stop (b : Bond) : afterF b b.stop = [] := by
  by_cases h : bondB b = true
  · unfold afterF
    rw [flowsF_ok h, List.filter_eq_nil_iff]
    intro f hf
    have := flows_bd (ok_bond h) f hf
    simp only [decide_eq_true_eq]; omega
  · have h : bondB b = false := by simpa using h
    exact afterF_no h _
theorem after_start (b : Bond) : afterF b (b.start - 1) = flowsF b := by
  by_cases h : bondB b = true
  · unfold afterF
    rw [flowsF_ok h, List.filter_eq_self]
    intro f hf
    have := flows_bd (ok_bond h) f hf
    simp only [decide_eq_true_eq]; omega
  · have h : bondB b = false := by simpa using h
    rw [afterF_no h, flowsF_no h]

/-- The first payment behind a day: it is a payment, and none between. -/
theorem next_spec {b : Bond} {day : Int} {f : Flow} (hf : (afterF b day)[0]? = some f) : bondB b = true ∧ day < f.day ∧ f ∈ flowsF b ∧ ∀ g ∈ flowsF b, day < g.day → f.day ≤ g.day := by
  cases hb : bondB b with
  | false => rw [afterF_no hb] at hf; cases hf
  | true =>
    have hm := List.mem_of_getElem? hf
    have hd := after_behind day f hm
    have hmf : f ∈ flowsF b := by unfold afterF at hm; exact (List.mem_filter.1 hm).1
    refine ⟨rfl, hd, hmf, fun g hg hgd => ?_⟩
    have hga : g ∈ afterF b day := by unfold afterF; rw [List.mem_filter]; exact ⟨hg, by simpa using hgd⟩
    obtain ⟨j, hj⟩ := List.getElem?_of_mem hga
    rw [after_eq hb, List.getElem?_drop] at hf hj
    by_cases h0 : j = 0
    · subst h0; rw [hf] at hj; cases hj; omega
    · have := flows_up (ok_bond hb) _ _ f g hf hj (by omega); omega

/- Accrued interest within a period. -/
theorem perAt_of {b : Bond} (h : OkBond b) (i : Nat) (p : Per) (hp : (persF b)[i]? = some p) (day : Int) (h1 : p.frm ≤ day) (h2 : day < p.till) : atF (persF b) day = i ∧ perAt b day = p := by
  have e := h.chain.at_uniq day i p hp h1 h2
  refine ⟨e, ?_⟩
  unfold perAt
  rw [e, List.getD_eq_getElem?_getD, hp]; rfl
theorem per_in {b : Bond} (h : OkBond b) (i : Nat) (p : Per) (hp : (persF b)[i]? = some p) (day : Int) (h1 : p.frm ≤ day) (h2 : day < p.till) : b.start ≤ day ∧ day < b.stop := by
  have := h.chain.up i p hp
  omega
theorem acc_next {b : Bond} {day : Int} (h : runB b day = true) (h2 : day + 1 < (perAt b day).till) : runB b (day + 1) = true ∧ accL b day ≤ accL b (day + 1) := by
  obtain ⟨hok, hd0, hd1⟩ := run_facts h
  obtain ⟨hp, a, c, hm, _⟩ := perAt_spec hok day hd0 hd1
  have hi := per_in hok _ _ hp (day + 1) (by omega) h2
  have he := (perAt_of hok _ _ hp (day + 1) (by omega) h2).2
  have hc := coup_bd hok _ (pers_okPer hok _ hm)
  constructor
  · unfold runB; rw [hok.bool]
    simp only [Bool.true_and, Bool.and_eq_true, decide_eq_true_eq]; exact hi
  · unfold accL
    rw [he]
    exact near_mono _ _ _ (Int.mul_le_mul_of_nonneg_left (by omega) hc.1) (by omega)
theorem acc_begin {b : Bond} {day : Int} (h : runB b day = true) : accF b (perAt b day).frm = 0 := by
  obtain ⟨hok, hd0, hd1⟩ := run_facts h
  obtain ⟨hp, a, c, hm, _⟩ := perAt_spec hok day hd0 hd1
  have hi := per_in hok _ _ hp (perAt b day).frm (by omega) (by omega)
  have he := (perAt_of hok _ _ hp (perAt b day).frm (by omega) (by omega)).2
  unfold accF
  rw [if_pos (by
    unfold runB; rw [hok.bool]
    simp only [Bool.true_and, Bool.and_eq_true, decide_eq_true_eq]; exact hi)]
  unfold accL
  rw [he, Int.sub_self, Int.mul_zero]
  exact near_zero _ (by omega)

/-- The first period that has a day, or -1. -/
def perIdx (L : List Per) (day : Int) : Int := if L.findIdx (fun p => decide (p.frm ≤ day) && decide (day < p.till)) < L.length then L.findIdx (fun p => decide (p.frm ≤ day) && decide (day < p.till)) else -1
theorem perIdx_run {b : Bond} {day : Int} (h : runB b day = true) : perIdx (persF b) day = atF (persF b) day := by
  obtain ⟨hok, hd0, hd1⟩ := run_facts h
  obtain ⟨hp, a, c, hm, hl⟩ := perAt_spec hok day hd0 hd1
  have hex : (persF b).findIdx (fun p => decide (p.frm ≤ day) && decide (day < p.till)) < (persF b).length := by
    refine List.findIdx_lt_length_of_exists ⟨perAt b day, hm, ?_⟩
    simp only [Bool.and_eq_true, decide_eq_true_eq]; exact ⟨a, c⟩
  unfold perIdx
  rw [if_pos hex]
  have hq := List.findIdx_getElem (xs := persF b) (p := fun p : Per => decide (p.frm ≤ day) && decide (day < p.till)) (w := hex)
  simp only [Bool.and_eq_true, decide_eq_true_eq] at hq
  have := (perAt_of hok _ _ (by rw [List.getElem?_eq_getElem hex]) day hq.1 hq.2).1
  omega

/- Mean lives. -/
def lifeN (day : Int) : List Flow → Int
  | [] => 0
  | x :: xs => x.amount * (x.day - day) + lifeN day xs
def lifeW : List Flow → Int
  | [] => 0
  | x :: xs => x.amount + lifeW xs
def lifeL (b : Bond) (day : Int) : Int := lifeN day (afterF b day) / lifeW (afterF b day)
def lifeF (b : Bond) (day : Int) : Int := if runB b day = true then lifeL b day else -1
theorem lifeN_snoc (day : Int) (xs : List Flow) (x : Flow) : lifeN day (xs ++ [x]) = lifeN day xs + x.amount * (x.day - day) := by
  induction xs with
  | nil => simp [lifeN]
  | cons y ys ih => simp only [List.cons_append, lifeN, ih]; omega
theorem lifeW_snoc (xs : List Flow) (x : Flow) : lifeW (xs ++ [x]) = lifeW xs + x.amount := by
  induction xs with
  | nil => simp [lifeW]
  | cons y ys ih => simp only [List.cons_append, lifeW, ih]; omega

theorem life_bd (day lo hi : Int) (xs : List Flow) (h : ∀ x ∈ xs, 0 ≤ x.amount ∧ x.amount ≤ 13000 ∧ lo ≤ x.day ∧ x.day ≤ hi) :
    (lo - day) * lifeW xs ≤ lifeN day xs ∧ lifeN day xs ≤ (hi - day) * lifeW xs ∧ 0 ≤ lifeW xs ∧ lifeW xs ≤ 13000 * xs.length := by
  induction xs with
  | nil => simp [lifeN, lifeW]
  | cons x xs ih =>
    obtain ⟨h1, h2, h3, h4⟩ := ih (fun z hz => h z (List.mem_cons_of_mem _ hz))
    obtain ⟨a, b, c, d⟩ := h x (by simp)
    have s1 : x.amount * (lo - day) ≤ x.amount * (x.day - day) := Int.mul_le_mul_of_nonneg_left (by omega) a
    have s2 : x.amount * (x.day - day) ≤ x.amount * (hi - day) := Int.mul_le_mul_of_nonneg_left (by omega) a
    rw [Int.mul_comm x.amount] at s1
    rw [Int.mul_comm x.amount (hi - day)] at s2
    simp only [lifeN, lifeW, List.length_cons, Int.mul_add]
    push_cast
    omega

theorem life_take {day lo hi : Int} {xs : List Flow} (h : ∀ x ∈ xs, 0 ≤ x.amount ∧ x.amount ≤ 13000 ∧ lo ≤ x.day ∧ x.day ≤ hi) (k : Nat) :
    (lo - day) * lifeW (xs.take k) ≤ lifeN day (xs.take k) ∧ lifeN day (xs.take k) ≤ (hi - day) * lifeW (xs.take k) ∧ 0 ≤ lifeW (xs.take k) ∧ lifeW (xs.take k) ≤ 13000 * (xs.take k).length :=
  life_bd day lo hi _ (fun x hx => h x (List.mem_of_mem_take hx))

theorem lifeW_last (xs : List Flow) (x : Flow) (h : ∀ x ∈ xs, 0 ≤ x.amount) (hx : x ∈ xs) : x.amount ≤ lifeW xs := by
  have hn : ∀ ys : List Flow, (∀ y ∈ ys, 0 ≤ y.amount) → 0 ≤ lifeW ys := by
    intro ys hy
    induction ys with
    | nil => simp [lifeW]
    | cons y ys ih => have := ih (fun z hz => hy z (List.mem_cons_of_mem _ hz)); have := hy y (by simp); simp only [lifeW]; omega
  induction xs with
  | nil => cases hx
  | cons y ys ih =>
    have h0 := h y (by simp)
    have h1 := hn ys (fun z hz => h z (List.mem_cons_of_mem _ hz))
    simp only [lifeW]
    rcases List.mem_cons.1 hx with rfl | hx
    · omega
    · have := ih (fun z hz => h z (List.mem_cons_of_mem _ hz)) hx; omega

theorem after_bd {b : Bond} {day : Int} (h : bondB b = true) (x : Flow) (hx : x ∈ afterF b day) : 0 ≤ x.amount ∧ x.amount ≤ 13000 ∧ day < x.day ∧ b.start < x.day ∧ x.day ≤ b.stop := by
  have h1 := after_behind day x hx
  unfold afterF at hx
  rw [flowsF_ok h] at hx
  have := flows_bd (ok_bond h) x (List.mem_filter.1 hx).1
  omega

theorem after_lastIn {b : Bond} {day : Int} (h : runB b day = true) : ∃ x, x ∈ afterF b day ∧ 10000 ≤ x.amount ∧ x.day = b.stop := by
  obtain ⟨hok, hd0, hd1⟩ := run_facts h
  have hl := hok.chain.ne
  have hp : (persF b)[(persF b).length - 1]? = some ((persF b)[(persF b).length - 1]'(by omega)) := by simp [show (persF b).length - 1 < (persF b).length by omega]
  have ht := hok.chain.last _ hp
  have hf := flows_at b _ _ hp
  rw [if_pos (by omega)] at hf
  have hc := coup_bd hok _ (pers_okPer hok _ (List.mem_of_getElem? hp))
  refine ⟨⟨((persF b)[(persF b).length - 1]'(by omega)).till, coupF b ((persF b)[(persF b).length - 1]'(by omega)) + 10000⟩, ?_, ?_, ht⟩
  · unfold afterF
    rw [flowsF_ok hok.bool, List.mem_filter]
    exact ⟨List.mem_of_getElem? hf, by simp only [decide_eq_true_eq, ht]; exact hd1⟩
  · simp only; omega

theorem life_facts {b : Bond} {day : Int} (h : runB b day = true) : 10000 ≤ lifeW (afterF b day) ∧ lifeW (afterF b day) ≤ 520000 ∧ 0 ≤ lifeN day (afterF b day) ∧ lifeN day (afterF b day) ≤ (b.stop - day) * lifeW (afterF b day) := by
  obtain ⟨hok, hd0, hd1⟩ := run_facts h
  have hb := life_bd day day b.stop (afterF b day) (fun x hx => by have := after_bd hok.bool x hx; omega)
  obtain ⟨x, hx, h1, _⟩ := after_lastIn h
  have h2 := lifeW_last _ x (fun y hy => (after_bd hok.bool y hy).1) hx
  have h3 := after_len hok.bool day
  have h4 : (persF b).length ≤ 40 := by unfold persF; rw [sched_len]; exact hok.span.q2
  rw [Int.sub_self, Int.zero_mul] at hb
  omega

theorem life_le {b : Bond} {day : Int} (h : runB b day = true) : lifeF b day = lifeL b day ∧ 0 ≤ lifeL b day ∧ lifeL b day ≤ b.stop - day := by
  obtain ⟨h1, h2, h3, h4⟩ := life_facts h
  refine ⟨by unfold lifeF; rw [if_pos h], ?_, ?_⟩
  · unfold lifeL; exact Int.ediv_nonneg h3 (by omega)
  · unfold lifeL
    have := Int.ediv_le_ediv (c := lifeW (afterF b day)) (by omega) h4
    rwa [Int.mul_ediv_cancel _ (by omega)] at this
theorem life_no {b : Bond} {day : Int} (h : runB b day = false) : lifeF b day = -1 := by unfold lifeF; rw [if_neg (by rw [h]; simp)]

theorem life_ge {b : Bond} {day : Int} (h : runB b day = true) : ∃ f, (afterF b day)[0]? = some f ∧ f.day - day ≤ lifeL b day := by
  obtain ⟨h1, h2, h3, h4⟩ := life_facts h
  obtain ⟨hok, hd0, hd1⟩ := run_facts h
  obtain ⟨x, hx, _⟩ := after_lastIn h
  have hl : 0 < (afterF b day).length := List.length_pos_of_mem hx
  have hf : (afterF b day)[0]? = some (afterF b day)[0] := by simp [hl]
  obtain ⟨_, n1, n2, n3⟩ := next_spec hf
  refine ⟨_, hf, ?_⟩
  have hb := life_bd day (afterF b day)[0].day b.stop (afterF b day) (fun x hx => by
    have := after_bd hok.bool x hx
    have := n3 x (by unfold afterF at hx; exact (List.mem_filter.1 hx).1) (by omega)
    omega)
  unfold lifeL
  have := Int.ediv_le_ediv (c := lifeW (afterF b day)) (by omega) hb.1
  rwa [Int.mul_ediv_cancel _ (by omega)] at this

theorem lifes_zero (day e : Int) (xs : List Flow) (h : ∀ x ∈ xs, x.amount ≠ 0 → x.day = e) : lifeN day xs = lifeW xs * (e - day) := by
  induction xs with
  | nil => simp [lifeN, lifeW]
  | cons x xs ih =>
    simp only [lifeN, lifeW, Int.add_mul]
    rw [ih (fun z hz => h z (List.mem_cons_of_mem _ hz))]
    by_cases h0 : x.amount = 0
    · rw [h0]; simp
    · rw [h x (by simp) h0]

/-- Without coupons only the end counts. -/
theorem life_zero {b : Bond} {day : Int} (h : runB b day = true) : lifeF (atRate b 0) day = b.stop - day := by
  have h2 := run_rate h 0 (by omega) (by omega)
  obtain ⟨hok, hd0, hd1⟩ := run_facts h
  obtain ⟨hok2, _, _⟩ := run_facts h2
  obtain ⟨h3, h4, h5, h6⟩ := life_facts h2
  rw [(life_le h2).1]
  unfold lifeL
  rw [lifes_zero day b.stop (afterF (atRate b 0) day) (fun x hx hne => by
    unfold afterF at hx
    rw [flowsF_ok hok2.bool] at hx
    obtain ⟨i, hi⟩ := List.getElem?_of_mem (List.mem_filter.1 hx).1
    have hil := lt_of_at hi
    rw [flows_len] at hil
    have hp : (persF (atRate b 0))[i]? = some (persF (atRate b 0))[i] := by simp [hil]
    have hz := coup_zero hok _ (pers_okPer hok _ (List.mem_of_getElem? hp))
    rw [flows_at _ i _ hp, hz] at hi
    obtain rfl := Option.some.inj hi
    simp only at hne ⊢
    by_cases he : i + 1 = (persF (atRate b 0)).length
    · exact hok.chain.last _ (by rw [← hp]; show (persF (atRate b 0))[(persF (atRate b 0)).length - 1]? = _; congr 1; omega)
    · rw [if_neg he] at hne; omega)]
  exact Int.mul_ediv_cancel_left _ (by omega)

/- What is paid on a day. -/
def payAmt (day : Int) : List Flow → Int
  | [] => 0
  | x :: xs => (if x.day = day then x.amount else 0) + payAmt day xs
theorem payAmt_snoc (day : Int) (xs : List Flow) (x : Flow) : payAmt day (xs ++ [x]) = payAmt day xs + (if x.day = day then x.amount else 0) := by
  induction xs with
  | nil => simp [payAmt]
  | cons y ys ih => simp only [List.cons_append, payAmt, ih]; omega
theorem payAmt_none (day : Int) (xs : List Flow) (h : ∀ x ∈ xs, x.day ≠ day) : payAmt day xs = 0 := by
  induction xs with
  | nil => rfl
  | cons x xs ih => simp only [payAmt]; rw [if_neg (h x (by simp)), ih (fun z hz => h z (List.mem_cons_of_mem _ hz))]; rfl
theorem payAmt_bd (day : Int) (xs : List Flow) (hup : ∀ (i j : Nat) (f g : Flow), xs[i]? = some f → xs[j]? = some g → i < j → f.day < g.day) (h : ∀ x ∈ xs, 0 ≤ x.amount ∧ x.amount ≤ 13000) : 0 ≤ payAmt day xs ∧ payAmt day xs ≤ 13000 := by
  induction xs with
  | nil => simp [payAmt]
  | cons x xs ih =>
    have h0 := h x (by simp)
    have h1 := ih (fun i j f g a c d => hup (i + 1) (j + 1) f g (by simpa using a) (by simpa using c) (by omega)) (fun z hz => h z (List.mem_cons_of_mem _ hz))
    simp only [payAmt]
    split
    · rename_i he
      rw [payAmt_none day xs (fun z hz => by
        obtain ⟨j, hj⟩ := List.getElem?_of_mem hz
        have := hup 0 (j + 1) x z rfl (by simpa using hj) (by omega)
        omega)]
      omega
    · omega
/-- The last one that is paid on the day is the only one. -/
theorem payAmt_hit {b : Bond} (h : OkBond b) (day : Int) (k : Nat) (f : Flow) (hf : (flowsL b)[k]? = some f) (he : f.day = day) : payAmt day ((flowsL b).take k) = 0 ∧ payAmt day ((flowsL b).take (k + 1)) = f.amount := by
  have h0 : payAmt day ((flowsL b).take k) = 0 := payAmt_none _ _ (fun x hx => by
    obtain ⟨i, hi⟩ := List.getElem?_of_mem hx
    have hik : i < k := by have := lt_of_at hi; rw [List.length_take] at this; omega
    rw [List.getElem?_take_of_lt hik] at hi
    have := flows_up h i k x f hi hf hik
    omega)
  refine ⟨h0, ?_⟩
  rw [take_snoc _ _ _ hf, payAmt_snoc, h0, if_pos he]; omega

end Go.Proofs.YtkgjciacdjhhfaaDoor
