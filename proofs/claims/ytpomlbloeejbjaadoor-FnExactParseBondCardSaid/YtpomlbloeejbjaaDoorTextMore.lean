/- Texts in plain Lean, second part: dates by fixed places, the order of texts, words, bonds. No program in sight. -/
import Derived.Test.YtpomlbloeejbjaaDoorRows
import Derived.Test.YtpomlbloeejbjaaDoorBase
import Derived.Test.YtpomlbloeejbjaaDoorTexts
import Derived.Test.YtpomlbloeejbjaaDoorFlows
namespace Go.Proofs.YtpomlbloeejbjaaDoor
open Go.RowKit
open Go.Lib (decDigits nDigits decDigits_one decDigits_two decDigits_length nDigits_unique)

def dateB (y m d : Int) : Bool := (decide (1990 ≤ y) && decide (y ≤ 2089)) && ((decide (1 ≤ m) && decide (m ≤ 12)) && (decide (1 ≤ d) && decide (d ≤ dim y m)))
theorem dateB_iff (y m d : Int) : dateB y m d = true ↔ ValidYMD y m d := by
  unfold dateB ValidYMD; simp only [Bool.and_eq_true, decide_eq_true_eq]
def fmtDate (y m d : Int) : List UInt8 := if dateB y m d = true then dateT y m d else []
def dayOfF (y m d : Int) : Int := if dateB y m d = true then numF y m d else -1

/- The program's ParseDate. -/
def pdOk (l : List UInt8) : Bool := dateB (dY l 0) (dM l 0) (dD l 0) && decide (dateT (dY l 0) (dM l 0) (dD l 0) = l)
theorem pd_of {l : List UInt8} {y m d : Int} (hv : dateB y m d = true) (h : dateT y m d = l) : pdOk l = true ∧ dY l 0 = y ∧ dM l 0 = m ∧ dD l 0 = d := by
  obtain ⟨a, b, c⟩ := date_unique l y m d ((dateB_iff _ _ _).1 hv) h
  refine ⟨?_, a, b, c⟩
  unfold pdOk
  rw [a, b, c, hv, decide_eq_true h]; rfl
theorem pd_is {l : List UInt8} (h : pdOk l = true) : dateB (dY l 0) (dM l 0) (dD l 0) = true ∧ dateT (dY l 0) (dM l 0) (dD l 0) = l := by
  unfold pdOk at h; simpa using h
theorem dateT_ne (y m d : Int) : dateT y m d ≠ [] := by unfold dateT; simp

/- A number between two places. -/
def numS (l : List UInt8) (a n : Nat) : Int := if ((l.drop a).take n).length = n ∧ ((l.drop a).take n).all isDig = true then valD ((l.drop a).take n) else -1
theorem numS_of {l : List UInt8} {a : Nat} {ds rest : List UInt8} (h : l.drop a = ds ++ rest) (hd : ∀ c ∈ ds, isDig c = true) : numS l a ds.length = valD ds := by
  unfold numS
  rw [h, List.take_left, if_pos ⟨rfl, by rw [List.all_eq_true]; exact hd⟩]
theorem dateT_places {l : List UInt8} {y m d : Int} (hv : ValidYMD y m d) (h : dateT y m d = l) : l.length = 10 ∧ numS l 0 4 = y ∧ numS l 5 2 = m ∧ numS l 8 2 = d := by
  obtain ⟨⟨a1, a2⟩, ⟨b1, b2⟩, c1, c2⟩ := ymd_bd hv
  have l4 := dec_len4 y (by omega) (by omega)
  have l2 := twoT_len m (by omega) (by omega)
  have l3 := twoT_len d (by omega) (by omega)
  subst h
  refine ⟨dateT_len hv, ?_, ?_, ?_⟩
  · have := numS_of (l := dateT y m d) (a := 0) (ds := dec y) (rest := 45 :: (twoT m ++ 45 :: twoT d)) rfl (dec_dig y)
    rwa [l4, valD_dec y (by omega)] at this
  · have e : (dateT y m d).drop 5 = twoT m ++ (45 :: twoT d) := by
      unfold dateT
      rw [List.drop_append, l4, List.drop_eq_nil_of_le (by omega)]; rfl
    have := numS_of e (twoT_dig m)
    rwa [l2, twoT_val m (by omega) (by omega)] at this
  · have e : (dateT y m d).drop 8 = twoT d ++ [] := by
      unfold dateT
      rw [List.drop_append, l4, List.drop_eq_nil_of_le (by omega)]
      show ((twoT m ++ 45 :: twoT d).drop 3) = _
      rw [List.drop_append, l2, List.drop_eq_nil_of_le (by omega)]; simp
    have := numS_of e (twoT_dig d)
    rwa [l3, twoT_val d (by omega) (by omega)] at this
/-- The reference's ParseDate is the program's. -/
theorem specDate_yes {l : List UInt8} (h : pdOk l = true) : l.length = 10 ∧ numS l 0 4 = dY l 0 ∧ numS l 5 2 = dM l 0 ∧ numS l 8 2 = dD l 0 := by
  obtain ⟨a, b⟩ := pd_is h
  exact dateT_places ((dateB_iff _ _ _).1 a) b
theorem specDate_no {l : List UInt8} (h : pdOk l = false) (hv : dateB (numS l 0 4) (numS l 5 2) (numS l 8 2) = true) : dateT (numS l 0 4) (numS l 5 2) (numS l 8 2) ≠ l := by
  intro he
  rw [(pd_of hv he).1] at h; cases h

/- The order of texts. -/
theorem less_cons (a : UInt8) (x y : List UInt8) : Op.bytesLess (a :: x) (a :: y) = Op.bytesLess x y := by simp [Op.bytesLess]
theorem less_app (x y z : List UInt8) : Op.bytesLess (x ++ y) (x ++ z) = Op.bytesLess y z := by
  induction x with
  | nil => rfl
  | cons a x ih => rw [List.cons_append, List.cons_append, less_cons, ih]
theorem less_first {a b : UInt8} (h : a < b) (x y : List UInt8) : Op.bytesLess (a :: x) (b :: y) = true := by simp [Op.bytesLess, h]
/-- Texts of one length: the first difference decides. -/
theorem less_of_prefix {x y : List UInt8} (hl : x.length = y.length) (h : Op.bytesLess x y = true) (u v : List UInt8) : Op.bytesLess (x ++ u) (y ++ v) = true := by
  induction x generalizing y with
  | nil => cases y with
    | nil => simp [Op.bytesLess] at h
    | cons b y => simp at hl
  | cons a x ih => cases y with
    | nil => simp at hl
    | cons b y =>
      simp only [List.cons_append, Op.bytesLess, Bool.or_eq_true, Bool.and_eq_true, decide_eq_true_eq, beq_iff_eq] at h ⊢
      rcases h with h | ⟨h1, h2⟩
      · exact .inl h
      · exact .inr ⟨h1, ih (by simpa using hl) h2⟩
theorem dig_lt (i j : Nat) (hi : i < 10) (hj : j < 10) (h : i < j) : (UInt8.ofNat (48 + i)) < (UInt8.ofNat (48 + j)) := by
  rw [UInt8.lt_iff_toNat_lt, dig_toNat i hi, dig_toNat j hj]; omega
theorem less_two (a b : Int) (ha : 0 ≤ a) (h : a < b) (hb : b ≤ 99) : Op.bytesLess (twoT a) (twoT b) = true := by
  rw [twoT_is a ha (by omega), twoT_is b (by omega) hb]
  by_cases h1 : a.toNat / 10 < b.toNat / 10
  · exact less_first (dig_lt _ _ (by omega) (by omega) h1) _ _
  · rw [show a.toNat / 10 = b.toNat / 10 by omega, less_cons]
    exact less_first (dig_lt _ _ (by omega) (by omega) (by omega)) _ _
theorem dec_four (n : Nat) (h1 : 1000 ≤ n) (h2 : n ≤ 9999) : decDigits n = twoT ((n / 100 : Nat) : Int) ++ twoT ((n % 100 : Nat) : Int) := by
  rw [twoT_is _ (by omega) (by omega), twoT_is _ (by omega) (by omega)]
  rw [Go.Lib.decDigits, dif_neg (by omega), Go.Lib.decDigits, dif_neg (by omega), decDigits_two (by omega) (by omega)]
  simp only [List.cons_append, List.nil_append, Int.toNat_natCast]
  have e1 : n / 10 / 10 / 10 = n / 100 / 10 := by omega
  have e2 : n / 10 / 10 % 10 = n / 100 % 10 := by omega
  have e3 : n / 10 % 10 = n % 100 / 10 := by omega
  have e4 : n % 10 = n % 100 % 10 := by omega
  rw [e1, e2, e3, e4]
theorem less_dec4 (a b : Int) (ha : 1000 ≤ a) (h : a < b) (hb : b ≤ 9999) : Op.bytesLess (dec a) (dec b) = true := by
  unfold dec
  rw [dec_four _ (by omega) (by omega), dec_four _ (by omega) (by omega)]
  by_cases h1 : a.toNat / 100 < b.toNat / 100
  · exact less_of_prefix (by rw [twoT_len _ (by omega) (by omega), twoT_len _ (by omega) (by omega)]) (less_two _ _ (by omega) (by omega) (by omega)) _ _
  · rw [show a.toNat / 100 = b.toNat / 100 by omega, less_app]
    exact less_two _ _ (by omega) (by omega) (by omega)
theorem less_date {y m d y' m' d' : Int} (hv : ValidYMD y m d) (hw : ValidYMD y' m' d') (h : numF y m d < numF y' m' d') : Op.bytesLess (dateT y m d) (dateT y' m' d') = true := by
  obtain ⟨⟨a1, a2⟩, ⟨b1, b2⟩, c1, c2⟩ := ymd_bd hv
  obtain ⟨⟨a3, a4⟩, ⟨b3, b4⟩, c3, c4⟩ := ymd_bd hw
  have n1 := num_bd y m d hv
  have n2 := num_bd y' m' d' hw
  have l1 := dec_len4 y (by omega) (by omega)
  have l2 := dec_len4 y' (by omega) (by omega)
  unfold dateT
  by_cases hy : y < y'
  · exact less_of_prefix (by rw [l1, l2]) (less_dec4 y y' (by omega) hy (by omega)) _ _
  · have hyy : y = y' := by
      have h1 : ¬ y' < y := by
        intro hlt
        have h2 := dby_succ y' (by omega) (by omega)
        have h3 := dby_mono (y' + 1) y (by omega)
        have h4 := cum_mono y 1 m (by omega) (by omega) (by omega)
        rw [cum_start] at h4
        omega
      omega
    subst hyy
    rw [less_app, less_cons]
    have l3 := twoT_len m (by omega) (by omega)
    have l4 := twoT_len m' (by omega) (by omega)
    by_cases hm : m < m'
    · exact less_of_prefix (by rw [l3, l4]) (less_two m m' (by omega) hm (by omega)) _ _
    · have hmm : m = m' := by
        have h1 : ¬ m' < m := by
          intro hlt
          have h3 := cum_mono y (m' + 1) m (by omega) (by omega) (by omega)
          omega
        omega
      subst hmm
      rw [less_app, less_cons]
      have hd : d < d' := by unfold numF at h; omega
      exact less_two d d' (by omega) hd (by omega)

/- Words. -/
def spl : List UInt8 → List UInt8 → List (List UInt8)
  | cur, [] => [cur]
  | cur, c :: cs => if c = 32 then cur :: spl [] cs else spl (cur ++ [c]) cs
theorem spl_plain (cur xs : List UInt8) (h : ∀ c ∈ xs, c ≠ 32) : spl cur xs = [cur ++ xs] := by
  induction xs generalizing cur with
  | nil => simp [spl]
  | cons c xs ih => rw [spl, if_neg (h c (by simp)), ih _ (fun z hz => h z (by simp [hz]))]; simp
theorem spl_cut (cur xs ys : List UInt8) (h : ∀ c ∈ xs, c ≠ 32) : spl cur (xs ++ 32 :: ys) = (cur ++ xs) :: spl [] ys := by
  induction xs generalizing cur with
  | nil => rw [List.nil_append, spl, if_pos rfl]; simp
  | cons c xs ih => rw [List.cons_append, spl, if_neg (h c (by simp)), ih _ (fun z hz => h z (by simp [hz]))]; simp
theorem spl_pos (cur xs : List UInt8) : 1 ≤ (spl cur xs).length := by
  induction xs generalizing cur with
  | nil => simp [spl]
  | cons c xs ih =>
    rw [spl]
    split
    · simp
    · exact ih _
theorem dig_ne {c : UInt8} (h : isDig c = true) : c ≠ 32 ∧ c ≠ 45 ∧ c ≠ 46 := by
  refine ⟨?_, ?_, ?_⟩ <;> (rintro rfl; revert h; decide)
theorem dateT_ne32 (y m d : Int) : ∀ c ∈ dateT y m d, c ≠ 32 := by
  intro c hc
  unfold dateT at hc
  simp only [List.mem_append, List.mem_cons] at hc
  rcases hc with hc | rfl | hc | rfl | hc
  · exact (dig_ne (dec_dig y c hc)).1
  · decide
  · exact (dig_ne (twoT_dig m c hc)).1
  · decide
  · exact (dig_ne (twoT_dig d c hc)).1

/- Texts of bonds. -/
def dayT (n : Int) : List UInt8 := dateT (yF n) (mF n) (dF n)
def rateT (r : Int) : List UInt8 := dec (r / 100) ++ 46 :: twoT (r % 100)
def bondT (b : Bond) : List UInt8 := rateT b.rate ++ 32 :: (dayT b.start ++ 32 :: (dayT b.stop ++ 32 :: dec b.months))
def fmtBond (b : Bond) : List UInt8 := if bondB b = true then bondT b else []
theorem bondT_ne (b : Bond) : bondT b ≠ [] := by unfold bondT rateT; simp
theorem rateT_ne32 (r : Int) : ∀ c ∈ rateT r, c ≠ 32 := by
  intro c hc
  unfold rateT at hc
  simp only [List.mem_append, List.mem_cons] at hc
  rcases hc with hc | rfl | hc
  · exact (dig_ne (dec_dig _ c hc)).1
  · decide
  · exact (dig_ne (twoT_dig _ c hc)).1
/-- What the cursor reads of a bond: the places, and the bond. -/
def bP1 (l : List UInt8) : Nat := skipAt l 46 (endAt l 0)
def bP2 (l : List UInt8) : Nat := skipAt l 32 (endAt l (bP1 l))
def bP3 (l : List UInt8) : Nat := skipAt l 32 (dEnd l (bP2 l))
def bP4 (l : List UInt8) : Nat := skipAt l 32 (dEnd l (bP3 l))
def curB (l : List UInt8) : Bond := ⟨dayOfF (dY l (bP2 l)) (dM l (bP2 l)) (dD l (bP2 l)), dayOfF (dY l (bP3 l)) (dM l (bP3 l)) (dD l (bP3 l)), numAt l (bP4 l), 100 * numAt l 0 + numAt l (bP1 l)⟩
def pbOk (l : List UInt8) : Bool := bondB (curB l) && decide (bondT (curB l) = l)

theorem dayOf_date (n : Int) (h1 : 0 ≤ n) (h2 : n ≤ 36524) : dayOfF (yF n) (mF n) (dF n) = n := by
  unfold dayOfF
  rw [if_pos ((dateB_iff _ _ _).2 (date_valid n h1 h2)), num_date]
theorem bond_days {b : Bond} (h : bondB b = true) : (0 ≤ b.start ∧ b.start ≤ 36524) ∧ (0 ≤ b.stop ∧ b.stop ≤ 36524) ∧ (0 ≤ b.rate ∧ b.rate ≤ 3000) ∧ 1 ≤ b.months ∧ b.months ≤ 12 := by
  have k := ok_bond h
  have s := k.span
  exact ⟨⟨s.s0, by have := s.se; have := s.e1; omega⟩, ⟨by have := s.se; have := s.s0; omega, s.e1⟩, ⟨k.r0, k.r1⟩, s.mpos⟩
theorem bond_unique {l : List UInt8} {b : Bond} (hb : bondB b = true) (h : bondT b = l) : curB l = b := by
  obtain ⟨⟨s0, s1⟩, ⟨e0, e1⟩, ⟨r0, r1⟩, m0, m1⟩ := bond_days hb
  have n46 : isDig 46 = false := by decide
  have n32 : isDig 32 = false := by decide
  have d0 : l.drop 0 = dec (b.rate / 100) ++ 46 :: (twoT (b.rate % 100) ++ 32 :: (dayT b.start ++ 32 :: (dayT b.stop ++ 32 :: dec b.months))) := by
    rw [List.drop_zero, ← h]; unfold bondT rateT; simp
  obtain ⟨v1, q1⟩ := read_dec l 0 _ _ (by omega) (by omega) d0 (by intro c hc; simp at hc; rw [← hc]; exact n46)
  obtain ⟨_, q2⟩ := read_skip l 46 _ _ q1
  obtain ⟨v2, q3⟩ := read_two l (bP1 l) _ _ (by omega) (by omega) q2 (by intro c hc; simp at hc; rw [← hc]; exact n32)
  obtain ⟨_, q4⟩ := read_skip l 32 _ _ q3
  obtain ⟨v3, v4, v5, q5⟩ := read_date l (bP2 l) _ _ _ _ (date_valid b.start s0 s1) q4 (by intro c hc; simp at hc; rw [← hc]; exact n32)
  obtain ⟨_, q6⟩ := read_skip l 32 _ _ q5
  obtain ⟨v6, v7, v8, q7⟩ := read_date l (bP3 l) _ _ _ _ (date_valid b.stop e0 e1) q6 (by intro c hc; simp at hc; rw [← hc]; exact n32)
  obtain ⟨_, q8⟩ := read_skip l 32 _ _ q7
  have q9 : l.drop (bP4 l) = dec b.months ++ [] := by rw [List.append_nil]; exact q8
  obtain ⟨v9, _⟩ := read_dec l (bP4 l) _ _ (by omega) (by omega) q9 (by simp)
  unfold curB
  rw [v1, v2, v3, v4, v5, v6, v7, v8, v9, dayOf_date _ s0 s1, dayOf_date _ e0 e1, show 100 * (b.rate / 100) + b.rate % 100 = b.rate by omega]
theorem pb_of {l : List UInt8} {b : Bond} (hb : bondB b = true) (h : bondT b = l) : pbOk l = true ∧ curB l = b := by
  have e := bond_unique hb h
  refine ⟨?_, e⟩
  unfold pbOk
  rw [e, hb, decide_eq_true h]; rfl
theorem pb_is {l : List UInt8} (h : pbOk l = true) : bondB (curB l) = true ∧ bondT (curB l) = l := by
  unfold pbOk at h; simpa using h

/- What the reference's ParseBond meets at a bond's text. -/
theorem bond_words {l : List UInt8} {b : Bond} (h : bondT b = l) : spl [] l = [rateT b.rate, dayT b.start, dayT b.stop, dec b.months] := by
  subst h
  unfold bondT dayT
  rw [spl_cut [] _ _ (rateT_ne32 _), spl_cut [] _ _ (dateT_ne32 _ _ _), spl_cut [] _ _ (dateT_ne32 _ _ _), spl_plain [] _ (fun c hc => (dig_ne (dec_dig _ c hc)).1)]
  rfl
theorem rate_word {r : Int} (h0 : 0 ≤ r) (h1 : r ≤ 3000) : 4 ≤ (rateT r).length ∧ (rateT r).length ≤ 5 ∧ numS (rateT r) 0 ((rateT r).length - 3) = r / 100 ∧ numS (rateT r) ((rateT r).length - 2) 2 = r % 100 := by
  have a := dec_len12 (r / 100) (by omega) (by omega)
  have c := twoT_len (r % 100) (by omega) (by omega)
  have hl : (rateT r).length = (dec (r / 100)).length + 3 := by unfold rateT; simp only [List.length_append, List.length_cons]; omega
  refine ⟨by omega, by omega, ?_, ?_⟩
  · have := numS_of (l := rateT r) (a := 0) (ds := dec (r / 100)) (rest := 46 :: twoT (r % 100)) rfl (dec_dig _)
    rw [hl, show (dec (r / 100)).length + 3 - 3 = (dec (r / 100)).length by omega, this, valD_dec _ (by omega)]
  · have e : (rateT r).drop ((rateT r).length - 2) = twoT (r % 100) ++ [] := by
      rw [hl]
      unfold rateT
      rw [List.drop_append, List.drop_eq_nil_of_le (by omega), show (dec (r / 100)).length + 3 - 2 - (dec (r / 100)).length = 1 by omega]; simp
    have := numS_of e (twoT_dig _)
    rwa [c, twoT_val _ (by omega) (by omega)] at this
end Go.Proofs.YtpomlbloeejbjaaDoor
