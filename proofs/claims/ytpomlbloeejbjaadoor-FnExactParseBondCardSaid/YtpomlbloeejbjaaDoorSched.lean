/- Schedules, coupons and payments in plain Lean. No program in sight. -/
import Derived.Test.YtpomlbloeejbjaaDoorRows
import Derived.Test.YtpomlbloeejbjaaDoorBase
import Derived.Test.YtpomlbloeejbjaaDoorDates
namespace Go.Proofs.YtpomlbloeejbjaaDoor
open Go.RowKit

structure Per where
  frm : Int
  till : Int
  whole : Bool
deriving DecidableEq

/-- The day k periods before the end. -/
def backA (e m : Int) (k : Nat) : Int := addM e (-(k * m))
def perOf (s e m : Int) (k : Nat) : Per := ⟨max (backA e m (k + 1)) s, backA e m k, decide (s ≤ backA e m (k + 1))⟩
/-- How many periods' ends lie behind the start, counted from k on, at most that many more. -/
def cntF (s e m : Int) : Nat → Nat → Nat
  | 0, k => k
  | f + 1, k => if s < backA e m k then cntF s e m f (k + 1) else k
def cnt (s e m : Int) : Nat := cntF s e m 41 0

def spanB (s e m : Int) : Bool := decide (0 ≤ s) && decide (s ≤ 36524) && decide (s < e) && decide (e ≤ 36524) && (decide (m = 1) || decide (m = 3) || decide (m = 6) || decide (m = 12))
def schedOk (s e m : Int) : Bool := spanB s e m && decide (cnt s e m ≤ 40)
def schedL (s e m : Int) : List Per := ((List.range (cnt s e m)).map (perOf s e m)).reverse
def schedF (s e m : Int) : List Per := if schedOk s e m = true then schedL s e m else []

theorem span_facts {s e m : Int} (h : spanB s e m = true) : 0 ≤ s ∧ s < e ∧ e ≤ 36524 ∧ (m = 1 ∨ m = 3 ∨ m = 6 ∨ m = 12) := by
  unfold spanB at h
  simp only [Bool.and_eq_true, Bool.or_eq_true, decide_eq_true_eq] at h
  omega

theorem back_zero (e m : Int) (h1 : 0 ≤ e) (h2 : e ≤ 36524) : backA e m 0 = e := by
  unfold backA; simpa using addM_zero e h1 h2

theorem back_lt (e m : Int) (k j : Nat) (h1 : 0 ≤ e) (h2 : e ≤ 36524) (hm : 1 ≤ m) (hj : j < k) (h0 : 0 ≤ backA e m j) : backA e m k < backA e m j := by
  unfold backA at *
  refine addM_lt e _ _ h1 h2 ?_ (addM_ge e _ h0)
  have : ((j : Int) + 1) * m ≤ k * m := Int.mul_le_mul_of_nonneg_right (by omega) (by omega)
  rw [Int.add_mul] at this
  omega

theorem back_bd (e m : Int) (k : Nat) (h1 : 0 ≤ e) (h2 : e ≤ 36524) : -1 ≤ backA e m k ∧ backA e m k ≤ 36524 := addM_bd e _ h1 h2

theorem cntF_spec (s e m : Int) (f k : Nat) : k ≤ cntF s e m f k ∧ cntF s e m f k ≤ k + f ∧ (∀ j, k ≤ j → j < cntF s e m f k → s < backA e m j) ∧ (cntF s e m f k < k + f → backA e m (cntF s e m f k) ≤ s) := by
  induction f generalizing k with
  | zero => simp only [cntF]; exact ⟨by omega, by omega, fun j h1 h2 => by omega, fun h => by omega⟩
  | succ f ih =>
    simp only [cntF]
    split
    · rename_i h
      obtain ⟨a, b, c, d⟩ := ih (k + 1)
      refine ⟨by omega, by omega, fun j h1 h2 => ?_, fun h => d (by omega)⟩
      by_cases hj : j = k
      · subst hj; exact h
      · exact c j (by omega) h2
    · rename_i h
      exact ⟨by omega, by omega, fun j h1 h2 => by omega, fun _ => by omega⟩

theorem cnt_le (s e m : Int) : cnt s e m ≤ 41 := by have := (cntF_spec s e m 41 0).2.1; unfold cnt; omega
theorem cnt_in (s e m : Int) (j : Nat) (h : j < cnt s e m) : s < backA e m j := (cntF_spec s e m 41 0).2.2.1 j (by omega) h
theorem cnt_out (s e m : Int) (h : cnt s e m ≤ 40) : backA e m (cnt s e m) ≤ s := (cntF_spec s e m 41 0).2.2.2 (by unfold cnt at h; omega)
theorem cnt_pos {s e m : Int} (h : spanB s e m = true) : 1 ≤ cnt s e m := by
  obtain ⟨h1, h2, h3, h4⟩ := span_facts h
  have e0 := back_zero e m (by omega) h3
  unfold cnt
  rw [show (41 : Nat) = 40 + 1 by rfl, cntF, e0, if_pos h2]
  have := (cntF_spec s e m 40 1).1
  omega
/-- Counted from k on, all before k being behind the start. -/
theorem cnt_of (s e m : Int) (k : Nat) (hk : k ≤ 41) (h : ∀ j, j < k → s < backA e m j) (hs : k = 41 ∨ backA e m k ≤ s) : cnt s e m = k := by
  have h1 := cnt_le s e m
  by_cases hlt : cnt s e m < k
  · have := cnt_out s e m (by omega)
    have := h _ hlt
    omega
  · by_cases hgt : k < cnt s e m
    · have := cnt_in s e m k hgt
      omega
    · omega

theorem sched_len (s e m : Int) : (schedL s e m).length = cnt s e m := by unfold schedL; simp
theorem sched_at (s e m : Int) (i : Nat) (h : i < cnt s e m) : (schedL s e m)[i]? = some (perOf s e m (cnt s e m - 1 - i)) := by
  unfold schedL
  rw [List.getElem?_reverse (by simpa using h)]
  simp only [List.length_map, List.length_range, List.getElem?_map]
  rw [List.getElem?_range (by omega)]; rfl

structure Span (s e m : Int) : Prop where
  s0 : 0 ≤ s
  se : s < e
  e1 : e ≤ 36524
  mm : m = 1 ∨ m = 3 ∨ m = 6 ∨ m = 12
  q1 : 1 ≤ cnt s e m
  q2 : cnt s e m ≤ 40

theorem ok_span {s e m : Int} (h : schedOk s e m = true) : Span s e m := by
  unfold schedOk at h
  simp only [Bool.and_eq_true, decide_eq_true_eq] at h
  obtain ⟨h1, h2, h3, h4⟩ := span_facts h.1
  exact ⟨h1, h2, h3, h4, cnt_pos h.1, h.2⟩

theorem Span.mpos {s e m : Int} (h : Span s e m) : 1 ≤ m ∧ m ≤ 12 := by have := h.mm; omega

/-- What a period of a schedule is like. -/
theorem per_facts {s e m : Int} (h : Span s e m) (k : Nat) (hk : k < cnt s e m) :
    s ≤ (perOf s e m k).frm ∧ (perOf s e m k).frm < (perOf s e m k).till ∧ (perOf s e m k).till ≤ e ∧ ((perOf s e m k).whole = true → (perOf s e m k).frm = backA e m (k + 1)) ∧ ((perOf s e m k).whole = false → (perOf s e m k).frm = s ∧ k + 1 = cnt s e m) ∧ (perOf s e m k).till = backA e m k := by
  have hs := cnt_in s e m k hk
  have h1 := back_lt e m (k + 1) k (by have := h.s0; have := h.se; omega) h.e1 h.mpos.1 (by omega) (by have := h.s0; omega)
  have h2 : backA e m k ≤ e := by
    by_cases h0 : k = 0
    · subst h0; rw [back_zero e m (by have := h.s0; have := h.se; omega) h.e1]; omega
    · have h3 := back_zero e m (by have := h.s0; have := h.se; omega) h.e1
      have := back_lt e m k 0 (by have := h.s0; have := h.se; omega) h.e1 h.mpos.1 (by omega) (by rw [h3]; have := h.s0; have := h.se; omega)
      omega
  unfold perOf
  refine ⟨by simp only; omega, by simp only; omega, h2, fun hw => ?_, fun hw => ?_, rfl⟩
  · simp only [decide_eq_true_eq] at hw; simp only; omega
  · simp only [decide_eq_false_iff_not] at hw
    refine ⟨by simp only; omega, ?_⟩
    by_cases hlt : k + 1 < cnt s e m
    · have := cnt_in s e m (k + 1) hlt; omega
    · omega

theorem per_next {s e m : Int} (_h : Span s e m) (k : Nat) (hk : k + 1 < cnt s e m) : (perOf s e m k).frm = (perOf s e m (k + 1)).till := by
  have hs := cnt_in s e m (k + 1) hk
  unfold perOf
  simp only; omega

theorem per_first {s e m : Int} (h : Span s e m) : (perOf s e m (cnt s e m - 1)).frm = s := by
  have h1 := cnt_out s e m h.q2
  have := h.q1
  unfold perOf
  rw [show cnt s e m - 1 + 1 = cnt s e m by omega]
  simp only; omega

theorem per_last {s e m : Int} (h : Span s e m) : (perOf s e m 0).till = e := by
  unfold perOf; simp only; exact back_zero e m (by have := h.s0; have := h.se; omega) h.e1

/-- A list of periods that follow each other, from a day to another. -/
structure Chain (L : List Per) (s e : Int) : Prop where
  ne : 1 ≤ L.length
  first : ∀ p : Per, L[0]? = some p → p.frm = s
  last : ∀ p : Per, L[L.length - 1]? = some p → p.till = e
  next : ∀ (i : Nat) (p q : Per), L[i]? = some p → L[i + 1]? = some q → p.till = q.frm
  up : ∀ (i : Nat) (p : Per), L[i]? = some p → s ≤ p.frm ∧ p.frm < p.till ∧ p.till ≤ e

theorem sched_chain {s e m : Int} (h : Span s e m) : Chain (schedL s e m) s e := by
  have hq := h.q1
  refine ⟨by rw [sched_len]; exact hq, fun p hp => ?_, fun p hp => ?_, fun i p q hp hq2 => ?_, fun i p hp => ?_⟩
  · rw [sched_at s e m 0 (by omega)] at hp
    obtain rfl := Option.some.inj hp
    simpa using per_first h
  · rw [sched_len, sched_at s e m (cnt s e m - 1) (by omega)] at hp
    obtain rfl := Option.some.inj hp
    rw [show cnt s e m - 1 - (cnt s e m - 1) = 0 by omega]; exact per_last h
  · have hi := lt_of_at hq2
    rw [sched_len] at hi
    rw [sched_at s e m i (by omega)] at hp
    rw [sched_at s e m (i + 1) hi] at hq2
    obtain rfl := Option.some.inj hp
    obtain rfl := Option.some.inj hq2
    have := per_next h (cnt s e m - 1 - (i + 1)) (by omega)
    rw [show cnt s e m - 1 - (i + 1) + 1 = cnt s e m - 1 - i by omega] at this
    exact this.symm
  · have hi := lt_of_at hp
    rw [sched_len] at hi
    rw [sched_at s e m i hi] at hp
    obtain rfl := Option.some.inj hp
    have := per_facts h (cnt s e m - 1 - i) (by omega)
    exact ⟨this.1, this.2.1, this.2.2.1⟩

theorem Chain.up_till {L : List Per} {s e : Int} (h : Chain L s e) (i j : Nat) (p q : Per) (hp : L[i]? = some p) (hq : L[j]? = some q) (hij : i < j) : p.till ≤ q.frm := by
  induction j generalizing q with
  | zero => omega
  | succ j ih =>
    have hj : j < L.length := by have := lt_of_at hq; omega
    have hx : L[j]? = some L[j] := by simp [hj]
    have hn := h.next j _ q hx hq
    by_cases he : i = j
    · subst he
      rw [hx] at hp
      obtain rfl := Option.some.inj hp
      omega
    · have := ih L[j] hx (by omega)
      have := (h.up j _ hx).2.1
      omega

/-- The period that has a day. -/
def atF (L : List Per) (day : Int) : Nat := L.findIdx fun p => decide (day < p.till)

theorem Chain.at_spec {L : List Per} {s e : Int} (h : Chain L s e) (day : Int) (h1 : s ≤ day) (h2 : day < e) :
    ∃ p, L[atF L day]? = some p ∧ p.frm ≤ day ∧ day < p.till ∧ (∀ i q, i < atF L day → L[i]? = some q → q.till ≤ day) ∧ atF L day < L.length := by
  have hne := h.ne
  have hl : atF L day < L.length := by
    unfold atF
    refine List.findIdx_lt_length_of_exists ⟨L[L.length - 1], List.getElem_mem _, ?_⟩
    have := h.last L[L.length - 1] (by simp)
    simp only [decide_eq_true_eq]; omega
  have hp : L[atF L day]? = some L[atF L day] := by simp [hl]
  have hin : day < L[atF L day].till := by
    have := List.findIdx_getElem (xs := L) (p := fun p : Per => decide (day < p.till)) (w := hl)
    exact of_decide_eq_true this
  have hbef : ∀ i q, i < atF L day → L[i]? = some q → q.till ≤ day := by
    intro i q hi hq
    have hil := lt_of_at hq
    have := List.not_of_lt_findIdx (p := fun p : Per => decide (day < p.till)) (xs := L) (i := i) hi
    have e : L[i] = q := by rw [List.getElem?_eq_getElem hil] at hq; exact Option.some.inj hq
    rw [e] at this
    simpa using this
  refine ⟨_, hp, ?_, hin, hbef, hl⟩
  by_cases h0 : atF L day = 0
  · have e0 : L[0]? = L[atF L day]? := by rw [h0]
    have := h.first _ (e0.trans hp)
    omega
  · obtain ⟨i, hi⟩ : ∃ i, atF L day = i + 1 := ⟨atF L day - 1, by omega⟩
    have hil : i < L.length := by omega
    have h3 := h.next i L[i] L[atF L day] (by simp [hil]) (by rw [← hi]; exact hp)
    have h4 := hbef i L[i] (by omega) (by simp [hil])
    omega

/-- No other period has the day. -/
theorem Chain.at_uniq {L : List Per} {s e : Int} (h : Chain L s e) (day : Int) (i : Nat) (p : Per) (hp : L[i]? = some p) (h1 : p.frm ≤ day) (h2 : day < p.till) : atF L day = i := by
  have hs : s ≤ day := by have := (h.up i p hp).1; omega
  have he : day < e := by have := (h.up i p hp).2.2; omega
  obtain ⟨q, hq, a, b, c, d⟩ := h.at_spec day hs he
  by_cases hlt : atF L day < i
  · have := h.up_till _ _ q p hq hp hlt; omega
  · by_cases hgt : i < atF L day
    · have := c i p hgt hp; omega
    · omega

/- Coupons. -/
def nearF (n b : Int) : Int := (2 * n + b) / (2 * b)
def wholeC (r m : Int) : Int := nearF (10000 * r * m) 120000
def beginC (m : Int) (p : Per) : Int := if addM p.till (-m) < 0 then p.frm else addM p.till (-m)
def couponF (r m : Int) (p : Per) : Int := if p.whole = true then wholeC r m else nearF (wholeC r m * (p.till - p.frm)) (p.till - beginC m p)

theorem near_bd (n b : Int) (hn : 0 ≤ n) (hb : 1 ≤ b) : 0 ≤ nearF n b ∧ 2 * b * nearF n b ≤ 2 * n + b ∧ 2 * n + b < 2 * b * nearF n b + 2 * b := by
  unfold nearF
  refine ⟨Int.ediv_nonneg (by omega) (by omega), ?_, ?_⟩
  · have := Int.mul_ediv_add_emod (2 * n + b) (2 * b)
    have := Int.emod_nonneg (2 * n + b) (b := 2 * b) (by omega)
    omega
  · have := Int.mul_ediv_add_emod (2 * n + b) (2 * b)
    have := Int.emod_lt_of_pos (2 * n + b) (b := 2 * b) (by omega)
    omega

theorem near_mono (a c b : Int) (h : a ≤ c) (hb : 1 ≤ b) : nearF a b ≤ nearF c b := by
  unfold nearF; exact Int.ediv_le_ediv (by omega) (by omega)

/-- A part of a number is not more than it. -/
theorem near_part (w x b : Int) (hw : 0 ≤ w) (hx : 0 ≤ x) (hxb : x ≤ b) (hb : 1 ≤ b) : 0 ≤ nearF (w * x) b ∧ nearF (w * x) b ≤ w := by
  refine ⟨(near_bd _ _ (Int.mul_nonneg hw hx) hb).1, ?_⟩
  have h1 : w * x ≤ w * b := Int.mul_le_mul_of_nonneg_left hxb hw
  have h2 := near_mono _ _ b h1 hb
  have h3 : nearF (w * b) b = w := by
    unfold nearF
    have : 2 * (w * b) + b = b + w * (2 * b) := by
      rw [show w * (2 * b) = 2 * (w * b) by rw [← Int.mul_assoc, Int.mul_comm w 2, Int.mul_assoc]]; omega
    rw [this, Int.add_mul_ediv_right _ _ (by omega), Int.ediv_eq_zero_of_lt (by omega) (by omega)]
    omega
  omega

theorem near_zero (b : Int) (hb : 1 ≤ b) : nearF 0 b = 0 := by
  unfold nearF; exact Int.ediv_eq_zero_of_lt (by omega) (by omega)

def rateB (r : Int) : Bool := decide (0 ≤ r) && decide (r ≤ 3000)

theorem wholeC_bd (r m : Int) (h1 : 0 ≤ r) (h2 : r ≤ 3000) (h3 : 1 ≤ m) (h4 : m ≤ 12) : 0 ≤ wholeC r m ∧ wholeC r m ≤ 3000 := by
  have h : m = 1 ∨ m = 2 ∨ m = 3 ∨ m = 4 ∨ m = 5 ∨ m = 6 ∨ m = 7 ∨ m = 8 ∨ m = 9 ∨ m = 10 ∨ m = 11 ∨ m = 12 := by omega
  unfold wholeC nearF
  rcases h with rfl | rfl | rfl | rfl | rfl | rfl | rfl | rfl | rfl | rfl | rfl | rfl <;> omega

end Go.Proofs.YtpomlbloeejbjaaDoor
