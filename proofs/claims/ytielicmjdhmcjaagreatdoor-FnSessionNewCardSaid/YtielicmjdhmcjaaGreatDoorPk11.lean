/- Packed: TextMore, ReadMore. -/
import Derived.Test.YtielicmjdhmcjaaGreatDoorRows
import Derived.Test.YtielicmjdhmcjaaGreatDoorPk06
import Derived.Test.YtielicmjdhmcjaaGreatDoorPk07
/- Texts in plain Lean, second part: dates by fixed places, the order of texts, words, bonds. No program in sight. -/
namespace Go.Proofs.YtielicmjdhmcjaaGreatDoor
open Go.RowKit
open Go.Lib (decDigits nDigits decDigits_one decDigits_two decDigits_length nDigits_unique)

def dateB (y m d : Int) : Bool := (decide (1990 ≤ y) && decide (y ≤ 2089)) && ((decide (1 ≤ m) && decide (m ≤ 12)) && (decide (1 ≤ d) && decide (d ≤ dim y m)))
theorem dateB_iff (y m d : Int) : dateB y m d = true ↔ ValidYMD y m d := by
  unfold dateB ValidYMD; simp only [Bool.and_eq_true, decide_eq_true_eq]
def fmtDate (y m d : Int) : List UInt8 := if dateB y m d = true then dateT y m d else []
def dayOfF (y m d : Int) : Int := if dateB y m d = true then numF y m d else -1

/- The program's ParseDate. -/
def pdOk (l : List UInt8) : Bool := dateB (dY l 0) (dM l 0) (dD l 0) && decide (dateT (dY l 0) (dM l 0) (dD l 0) = l)
theorem pd_of {l : List UInt8} {y m d : Int} (hv : dateB y m d = true) (h : dateT y m d = l) : pdOk l = true ∧ dY l 0 = y ∧ dM l 0 = m ∧ dD l 0 = d := by
  obtain ⟨a, b, c⟩ := date_unique l y m d ((dateB_iff _ _ _).1 hv) h
  refine ⟨?_, a, b, c⟩
  unfold pdOk
  rw [a, b, c, hv, decide_eq_true h]; rfl
theorem pd_is {l : List UInt8} (h : pdOk l = true) : dateB (dY l 0) (dM l 0) (dD l 0) = true ∧ dateT (dY l 0) (dM l 0) (dD l 0) = l := by
  unfold pdOk at h; simpa using h
theorem dateT_ne (y m d : Int) : dateT y m d ≠ [] := by unfold dateT; simp

/- A number between two places. -/
def numS (l : List UInt8) (a n : Nat) : Int := if ((l.drop a).take n).length = n ∧ ((l.drop a).take n).all isDig = true then valD ((l.drop a).take n) else -1
theorem numS_of {l : List UInt8} {a : Nat} {ds rest : List UInt8} (h : l.drop a = ds ++ rest) (hd : ∀ c ∈ ds, isDig c = true) : numS l a ds.length = valD ds := by
  unfold numS
  rw [h, List.take_left, if_pos ⟨rfl, by rw [List.all_eq_true]; exact hd⟩]
theorem dateT_places {l : List UInt8} {y m d : Int} (hv : ValidYMD y m d) (h : dateT y m d = l) : l.length = 10 ∧ numS l 0 4 = y ∧ numS l 5 2 = m ∧ numS l 8 2 = d := by
  obtain ⟨⟨a1, a2⟩, ⟨b1, b2⟩, c1, c2⟩ := ymd_bd hv
  have l4 := dec_len4 y (by omega) (by omega)
  have l2 := twoT_len m (by omega) (by omega)
  have l3 := twoT_len d (by omega) (by omega)
  subst h
  refine ⟨dateT_len hv, ?_, ?_, ?_⟩
  · have := numS_of (l := dateT y m d) (a := 0) (ds := dec y) (rest := 45 :: (twoT m ++ 45 :: twoT d)) rfl (dec_dig y)
    rwa [l4, valD_dec y (by omega)] at this
  · have e : (dateT y m d).drop 5 = twoT m ++ (45 :: twoT d) := by
      unfold dateT
      rw [List.drop_append, l4, List.drop_eq_nil_of_le (by omega)]; rfl
    have := numS_of e (twoT_dig m)
    rwa [l2, twoT_val m (by omega) (by omega)] at this
  · have e : (dateT y m d).drop 8 = twoT d ++ [] := by
      unfold dateT
      rw [List.drop_append, l4, List.drop_eq_nil_of_le (by omega)]
      show ((twoT m ++ 45 :: twoT d).drop 3) = _
      rw [List.drop_append, l2, List.drop_eq_nil_of_le (by omega)]; simp
    have := numS_of e (twoT_dig d)
    rwa [l3, twoT_val d (by omega) (by omega)] at this
theorem specDate_yes {l : List UInt8} (h : pdOk l = true) : l.length = 10 ∧ numS l 0 4 = dY l 0 ∧ numS l 5 2 = dM l 0 ∧ numS l 8 2 = dD l 0 := by
  obtain ⟨a, b⟩ := pd_is h
  exact dateT_places ((dateB_iff _ _ _).1 a) b
theorem specDate_no {l : List UInt8} (h : pdOk l = false) (hv : dateB (numS l 0 4) (numS l 5 2) (numS l 8 2) = true) : dateT (numS l 0 4) (numS l 5 2) (numS l 8 2) ≠ l := by
  intro he
  rw [(pd_of hv he).1] at h; cases h

/- The order of texts. -/
theorem less_cons (a : UInt8) (x y : List UInt8) : Op.bytesLess (a :: x) (a :: y) = Op.bytesLess x y := by simp [Op.bytesLess]
theorem less_app (x y z : List UInt8) : Op.bytesLess (x ++ y) (x ++ z) = Op.bytesLess y z := by
  induction x with
  | nil => rfl
  | cons a x ih => rw [List.cons_append, List.cons_append, less_cons, ih]
theorem less_first {a b : UInt8} (h : a < b) (x y : List UInt8) : Op.bytesLess (a :: x) (b :: y) = true := by simp [Op.bytesLess, h]
theorem less_of_prefix {x y : List UInt8} (hl : x.length = y.length) (h : Op.bytesLess x y = true) (u v : List UInt8) : Op.bytesLess (x ++ u) (y ++ v) = true := by
  induction x generalizing y with
  | nil => cases y with
    | nil => simp [Op.bytesLess] at h
    | cons b y => simp at hl
  | cons a x ih => cases y with
    | nil => simp at hl
    | cons b y =>
      simp only [List.cons_append, Op.bytesLess, Bool.or_eq_true, Bool.and_eq_true, decide_eq_true_eq, beq_iff_eq] at h ⊢
      rcases h with h | ⟨h1, h2⟩
      · exact .inl h
      · exact .inr ⟨h1, ih (by simpa using hl) h2⟩
theorem dig_lt (i j : Nat) (hi : i < 10) (hj : j < 10) (h : i < j) : (UInt8.ofNat (48 + i)) < (UInt8.ofNat (48 + j)) := by
  rw [UInt8.lt_iff_toNat_lt, dig_toNat i hi, dig_toNat j hj]; omega
theorem less_two (a b : Int) (ha : 0 ≤ a) (h : a < b) (hb : b ≤ 99) : Op.bytesLess (twoT a) (twoT b) = true := by
  rw [twoT_is a ha (by omega), twoT_is b (by omega) hb]
  by_cases h1 : a.toNat / 10 < b.toNat / 10
  · exact less_first (dig_lt _ _ (by omega) (by omega) h1) _ _
  · rw [show a.toNat / 10 = b.toNat / 10 by omega, less_cons]
    exact less_first (dig_lt _ _ (by omega) (by omega) (by omega)) _ _
theorem dec_four (n : Nat) (h1 : 1000 ≤ n) (h2 : n ≤ 9999) : decDigits n = twoT ((n / 100 : Nat) : Int) ++ twoT ((n % 100 : Nat) : Int) := by
  rw [twoT_is _ (by omega) (by omega), twoT_is _ (by omega) (by omega)]
  rw [Go.Lib.decDigits, dif_neg (by omega), Go.Lib.decDigits, dif_neg (by omega), decDigits_two (by omega) (by omega)]
  simp only [List.cons_append, List.nil_append, Int.toNat_natCast]
  have e1 : n / 10 / 10 / 10 = n / 100 / 10 := by omega
  have e2 : n / 10 / 10 % 10 = n / 100 % 10 := by omega
  have e3 : n / 10 % 10 = n % 100 / 10 := by omega
  have e4 : n % 10 = n % 100 % 10 := by omega
  rw [e1, e2, e3, e4]
theorem less_dec4 (a b : Int) (ha : 1000 ≤ a) (h : a < b) (hb : b ≤ 9999) : Op.bytesLess (dec a) (dec b) = true := by
  unfold dec
  rw [dec_four _ (by omega) (by omega), dec_four _ (by omega) (by omega)]
  by_cases h1 : a.toNat / 100 < b.toNat / 100
  · exact less_of_prefix (by rw [twoT_len _ (by omega) (by omega), twoT_len _ (by omega) (by omega)]) (less_two _ _ (by omega) (by omega) (by omega)) _ _
  · rw [show a.toNat / 100 = b.toNat / 100 by omega, less_app]
    exact less_two _ _ (by omega) (by omega) (by omega)
theorem less_date {y m d y' m' d' : Int} (hv : ValidYMD y m d) (hw : ValidYMD y' m' d') (h : numF y m d < numF y' m' d') : Op.bytesLess (dateT y m d) (dateT y' m' d') = true := by
  obtain ⟨⟨a1, a2⟩, ⟨b1, b2⟩, c1, c2⟩ := ymd_bd hv
  obtain ⟨⟨a3, a4⟩, ⟨b3, b4⟩, c3, c4⟩ := ymd_bd hw
  have n1 := num_bd y m d hv
  have n2 := num_bd y' m' d' hw
  have l1 := dec_len4 y (by omega) (by omega)
  have l2 := dec_len4 y' (by omega) (by omega)
  unfold dateT
  by_cases hy : y < y'
  · exact less_of_prefix (by rw [l1, l2]) (less_dec4 y y' (by omega) hy (by omega)) _ _
  · have hyy : y = y' := by
      have h1 : ¬ y' < y := by
        intro hlt
        have h2 := dby_succ y' (by omega) (by omega)
        have h3 := dby_mono (y' + 1) y (by omega)
        have h4 := cum_mono y 1 m (by omega) (by omega) (by omega)
        rw [cum_start] at h4
        omega
      omega
    subst hyy
    rw [less_app, less_cons]
    have l3 := twoT_len m (by omega) (by omega)
    have l4 := twoT_len m' (by omega) (by omega)
    by_cases hm : m < m'
    · exact less_of_prefix (by rw [l3, l4]) (less_two m m' (by omega) hm (by omega)) _ _
    · have hmm : m = m' := by
        have h1 : ¬ m' < m := by
          intro hlt
          have h3 := cum_mono y (m' + 1) m (by omega) (by omega) (by omega)
          omega
        omega
      subst hmm
      rw [less_app, less_cons]
      have hd : d < d' := by unfold numF at h; omega
      exact less_two d d' (by omega) hd (by omega)

/- Words. -/
def spl : List UInt8 → List UInt8 → List (List UInt8)
  | cur, [] => [cur]
  | cur, c :: cs => if c = 32 then cur :: spl [] cs else spl (cur ++ [c]) cs
theorem spl_plain (cur xs : List UInt8) (h : ∀ c ∈ xs, c ≠ 32) : spl cur xs = [cur ++ xs] := by
  induction xs generalizing cur with
  | nil => simp [spl]
  | cons c xs ih => rw [spl, if_neg (h c (by simp)), ih _ (fun z hz => h z (by simp [hz]))]; simp
theorem spl_cut (cur xs ys : List UInt8) (h : ∀ c ∈ xs, c ≠ 32) : spl cur (xs ++ 32 :: ys) = (cur ++ xs) :: spl [] ys := by
  induction xs generalizing cur with
  | nil => rw [List.nil_append, spl, if_pos rfl]; simp
  | cons c xs ih => rw [List.cons_append, spl, if_neg (h c (by simp)), ih _ (fun z hz => h z (by simp [hz]))]; simp
theorem spl_pos (cur xs : List UInt8) : 1 ≤ (spl cur xs).length := by
  induction xs generalizing cur with
  | nil => simp [spl]
  | cons c xs ih =>
    rw [spl]
    split
    · simp
    · exact ih _
theorem dig_ne {c : UInt8} (h : isDig c = true) : c ≠ 32 ∧ c ≠ 45 ∧ c ≠ 46 := by
  refine ⟨?_, ?_, ?_⟩ <;> (rintro rfl; revert h; decide)
theorem dateT_ne32 (y m d : Int) : ∀ c ∈ dateT y m d, c ≠ 32 := by
  intro c hc
  unfold dateT at hc
  simp only [List.mem_append, List.mem_cons] at hc
  rcases hc with hc | rfl | hc | rfl | hc
  · exact (dig_ne (dec_dig y c hc)).1
  · decide
  · exact (dig_ne (twoT_dig m c hc)).1
  · decide
  · exact (dig_ne (twoT_dig d c hc)).1

/- Texts of bonds. -/
def dayT (n : Int) : List UInt8 := dateT (yF n) (mF n) (dF n)
def rateT (r : Int) : List UInt8 := dec (r / 100) ++ 46 :: twoT (r % 100)
def bondT (b : Bond) : List UInt8 := rateT b.rate ++ 32 :: (dayT b.start ++ 32 :: (dayT b.stop ++ 32 :: dec b.months))
def fmtBond (b : Bond) : List UInt8 := if bondB b = true then bondT b else []
theorem bondT_ne (b : Bond) : bondT b ≠ [] := by unfold bondT rateT; simp
theorem rateT_ne32 (r : Int) : ∀ c ∈ rateT r, c ≠ 32 := by
  intro c hc
  unfold rateT at hc
  simp only [List.mem_append, List.mem_cons] at hc
  rcases hc with hc | rfl | hc
  · exact (dig_ne (dec_dig _ c hc)).1
  · decide
  · exact (dig_ne (twoT_dig _ c hc)).1
def bP1 (l : List UInt8) : Nat := skipAt l 46 (endAt l 0)
def bP2 (l : List UInt8) : Nat := skipAt l 32 (endAt l (bP1 l))
def bP3 (l : List UInt8) : Nat := skipAt l 32 (dEnd l (bP2 l))
def bP4 (l : List UInt8) : Nat := skipAt l 32 (dEnd l (bP3 l))
def curB (l : List UInt8) : Bond := ⟨dayOfF (dY l (bP2 l)) (dM l (bP2 l)) (dD l (bP2 l)), dayOfF (dY l (bP3 l)) (dM l (bP3 l)) (dD l (bP3 l)), numAt l (bP4 l), 100 * numAt l 0 + numAt l (bP1 l)⟩
def pbOk (l : List UInt8) : Bool := bondB (curB l) && decide (bondT (curB l) = l)

theorem dayOf_date (n : Int) (h1 : 0 ≤ n) (h2 : n ≤ 36524) : dayOfF (yF n) (mF n) (dF n) = n := by
  unfold dayOfF
  rw [if_pos ((dateB_iff _ _ _).2 (date_valid n h1 h2)), num_date]
theorem bond_days {b : Bond} (h : bondB b = true) : (0 ≤ b.start ∧ b.start ≤ 36524) ∧ (0 ≤ b.stop ∧ b.stop ≤ 36524) ∧ (0 ≤ b.rate ∧ b.rate ≤ 3000) ∧ 1 ≤ b.months ∧ b.months ≤ 12 := by
  have k := ok_bond h
  have s := k.span
  exact ⟨⟨s.s0, by have := s.se; have := s.e1; omega⟩, ⟨by have := s.se; have := s.s0; omega, s.e1⟩, ⟨k.r0, k.r1⟩, s.mpos⟩
theorem bond_unique {l : List UInt8} {b : Bond} (hb : bondB b = true) (h : bondT b = l) : curB l = b := by
  obtain ⟨⟨s0, s1⟩, ⟨e0, e1⟩, ⟨r0, r1⟩, m0, m1⟩ := bond_days hb
  have n46 : isDig 46 = false := by decide
  have n32 : isDig 32 = false := by decide
  have d0 : l.drop 0 = dec (b.rate / 100) ++ 46 :: (twoT (b.rate % 100) ++ 32 :: (dayT b.start ++ 32 :: (dayT b.stop ++ 32 :: dec b.months))) := by
    rw [List.drop_zero, ← h]; unfold bondT rateT; simp
  obtain ⟨v1, q1⟩ := read_dec l 0 _ _ (by omega) (by omega) d0 (by intro c hc; simp at hc; rw [← hc]; exact n46)
  obtain ⟨_, q2⟩ := read_skip l 46 _ _ q1
  obtain ⟨v2, q3⟩ := read_two l (bP1 l) _ _ (by omega) (by omega) q2 (by intro c hc; simp at hc; rw [← hc]; exact n32)
  obtain ⟨_, q4⟩ := read_skip l 32 _ _ q3
  obtain ⟨v3, v4, v5, q5⟩ := read_date l (bP2 l) _ _ _ _ (date_valid b.start s0 s1) q4 (by intro c hc; simp at hc; rw [← hc]; exact n32)
  obtain ⟨_, q6⟩ := read_skip l 32 _ _ q5
  obtain ⟨v6, v7, v8, q7⟩ := read_date l (bP3 l) _ _ _ _ (date_valid b.stop e0 e1) q6 (by intro c hc; simp at hc; rw [← hc]; exact n32)
  obtain ⟨_, q8⟩ := read_skip l 32 _ _ q7
  have q9 : l.drop (bP4 l) = dec b.months ++ [] := by rw [List.append_nil]; exact q8
  obtain ⟨v9, _⟩ := read_dec l (bP4 l) _ _ (by omega) (by omega) q9 (by simp)
  unfold curB
  rw [v1, v2, v3, v4, v5, v6, v7, v8, v9, dayOf_date _ s0 s1, dayOf_date _ e0 e1, show 100 * (b.rate / 100) + b.rate % 100 = b.rate by omega]
theorem pb_of {l : List UInt8} {b : Bond} (hb : bondB b = true) (h : bondT b = l) : pbOk l = true ∧ curB l = b := by
  have e := bond_unique hb h
  refine ⟨?_, e⟩
  unfold pbOk
  rw [e, hb, decide_eq_true h]; rfl
theorem pb_is {l : List UInt8} (h : pbOk l = true) : bondB (curB l) = true ∧ bondT (curB l) = l := by
  unfold pbOk at h; simpa using h

/- What the reference's ParseBond meets at a bond's text. -/
theorem bond_words {l : List UInt8} {b : Bond} (h : bondT b = l) : spl [] l = [rateT b.rate, dayT b.start, dayT b.stop, dec b.months] := by
  subst h
  unfold bondT dayT
  rw [spl_cut [] _ _ (rateT_ne32 _), spl_cut [] _ _ (dateT_ne32 _ _ _), spl_cut [] _ _ (dateT_ne32 _ _ _), spl_plain [] _ (fun c hc => (dig_ne (dec_dig _ c hc)).1)]
  rfl
theorem rate_word {r : Int} (h0 : 0 ≤ r) (h1 : r ≤ 3000) : 4 ≤ (rateT r).length ∧ (rateT r).length ≤ 5 ∧ numS (rateT r) 0 ((rateT r).length - 3) = r / 100 ∧ numS (rateT r) ((rateT r).length - 2) 2 = r % 100 := by
  have a := dec_len12 (r / 100) (by omega) (by omega)
  have c := twoT_len (r % 100) (by omega) (by omega)
  have hl : (rateT r).length = (dec (r / 100)).length + 3 := by unfold rateT; simp only [List.length_append, List.length_cons]; omega
  refine ⟨by omega, by omega, ?_, ?_⟩
  · have := numS_of (l := rateT r) (a := 0) (ds := dec (r / 100)) (rest := 46 :: twoT (r % 100)) rfl (dec_dig _)
    rw [hl, show (dec (r / 100)).length + 3 - 3 = (dec (r / 100)).length by omega, this, valD_dec _ (by omega)]
  · have e : (rateT r).drop ((rateT r).length - 2) = twoT (r % 100) ++ [] := by
      rw [hl]
      unfold rateT
      rw [List.drop_append, List.drop_eq_nil_of_le (by omega), show (dec (r / 100)).length + 3 - 2 - (dec (r / 100)).length = 1 by omega]; simp
    have := numS_of e (twoT_dig _)
    rwa [c, twoT_val _ (by omega) (by omega)] at this
end Go.Proofs.YtielicmjdhmcjaaGreatDoor

/- Reading texts in plain Lean: what a cursor has read after some rounds, numbers between places, words. No program in sight. -/
namespace Go.Proofs.YtielicmjdhmcjaaGreatDoor
open Go.RowKit

def part (l : List UInt8) (p k : Nat) : List UInt8 := (l.drop p).take k
theorem part_zero (l : List UInt8) (p : Nat) : part l p 0 = [] := by unfold part; simp
theorem part_snoc {l : List UInt8} {p k : Nat} {c : UInt8} (h : l[p + k]? = some c) : part l p (k + 1) = part l p k ++ [c] := by
  unfold part
  exact take_snoc _ _ _ (by rw [List.getElem?_drop]; exact h)
theorem part_len {l : List UInt8} {p k : Nat} (h : p + k ≤ l.length) : (part l p k).length = k := by
  unfold part; rw [List.length_take, List.length_drop]; omega
theorem part_all {l : List UInt8} {p k : Nat} {c : UInt8} (h : l[p + k]? = some c) (hd : isDig c = true) (ha : (part l p k).all isDig = true) : (part l p (k + 1)).all isDig = true := by
  rw [part_snoc h, List.all_append, ha]; simp [hd]
theorem part_val {l : List UInt8} {p k : Nat} {c : UInt8} (h : l[p + k]? = some c) : valD (part l p (k + 1)) = 10 * valD (part l p k) + ((c.toNat : Int) - 48) := by
  rw [part_snoc h, valD_snoc]

theorem fold_bd (ds : List UInt8) (h : ds.all isDig = true) : ∀ n m : Int, 0 ≤ n → n < m → 0 ≤ ds.foldl (fun n c => 10 * n + ((c.toNat : Int) - 48)) n ∧ ds.foldl (fun n c => 10 * n + ((c.toNat : Int) - 48)) n < m * 10 ^ ds.length := by
  induction ds with
  | nil => intro n m h0 h1; simpa using ⟨h0, h1⟩
  | cons c ds ih =>
    intro n m h0 h1
    rw [List.all_cons, Bool.and_eq_true] at h
    obtain ⟨hc, hd⟩ := h
    unfold isDig at hc
    simp only [Bool.and_eq_true, decide_eq_true_eq] at hc
    have := ih hd (10 * n + ((c.toNat : Int) - 48)) (10 * m) (by omega) (by omega)
    rw [List.foldl_cons, List.length_cons]
    refine ⟨this.1, ?_⟩
    have e : m * (10 : Int) ^ (ds.length + 1) = 10 * m * 10 ^ ds.length := by rw [Int.pow_succ, Int.mul_comm _ 10, ← Int.mul_assoc, Int.mul_comm m 10]
    rw [e]; exact this.2
theorem valD_bd {ds : List UInt8} (h : ds.all isDig = true) (hl : ds.length ≤ 6) : 0 ≤ valD ds ∧ valD ds < 1000000 := by
  have := fold_bd ds h 0 1 (by omega) (by omega)
  refine ⟨this.1, Int.lt_of_lt_of_le this.2 ?_⟩
  have e : ds.length = 0 ∨ ds.length = 1 ∨ ds.length = 2 ∨ ds.length = 3 ∨ ds.length = 4 ∨ ds.length = 5 ∨ ds.length = 6 := by omega
  rcases e with e | e | e | e | e | e | e <;> rw [e] <;> decide
theorem valD_bd2 {ds : List UInt8} (h : ds.all isDig = true) (hl : ds.length ≤ 5) : 0 ≤ valD ds ∧ valD ds < 100000 := by
  have := fold_bd ds h 0 1 (by omega) (by omega)
  refine ⟨this.1, Int.lt_of_lt_of_le this.2 ?_⟩
  have e : ds.length = 0 ∨ ds.length = 1 ∨ ds.length = 2 ∨ ds.length = 3 ∨ ds.length = 4 ∨ ds.length = 5 := by omega
  rcases e with e | e | e | e | e | e <;> rw [e] <;> decide

theorem digs_end {l : List UInt8} {p k : Nat} (ha : (part l p k).all isDig = true) (hk : k ≤ 6) (hp : p + k ≤ l.length) (hs : k = 6 ∨ p + k = l.length ∨ ∃ c, l[p + k]? = some c ∧ isDig c = false) : digsAt l p = part l p k := by
  have e : (l.drop p).take 6 = part l p k ++ ((l.drop p).take 6).drop k := by
    have h1 := (List.take_append_drop k ((l.drop p).take 6)).symm
    rw [List.take_take, Nat.min_eq_left hk] at h1
    exact h1
  unfold digsAt
  rw [e]
  refine takeWhile_stop isDig _ _ (List.all_eq_true.1 ha) (fun c hc => ?_)
  rw [List.getElem?_drop, Nat.add_zero] at hc
  by_cases h6 : k < 6
  · rw [List.getElem?_take_of_lt h6, List.getElem?_drop] at hc
    rcases hs with hs | hs | ⟨c', h1, h2⟩
    · omega
    · rw [List.getElem?_eq_none (by omega)] at hc; cases hc
    · rw [h1] at hc; cases hc; exact h2
  · rw [List.getElem?_eq_none (by rw [List.length_take]; omega)] at hc; cases hc
theorem digs_bd (l : List UInt8) (p : Nat) : (digsAt l p).all isDig = true ∧ (digsAt l p).length ≤ 6 := by
  unfold digsAt
  refine ⟨List.all_eq_true.2 (fun c hc => ?_), ?_⟩
  · exact List.all_eq_true.1 (List.all_takeWhile) c hc
  · have := (List.takeWhile_sublist isDig (l := (l.drop p).take 6)).length_le
    rw [List.length_take] at this; omega
theorem num_at_bd (l : List UInt8) (p : Nat) : 0 ≤ numAt l p ∧ numAt l p < 1000000 := valD_bd (digs_bd l p).1 (digs_bd l p).2
theorem num_end {l : List UInt8} {p k : Nat} (ha : (part l p k).all isDig = true) (hk : k ≤ 6) (hp : p + k ≤ l.length) (hs : k = 6 ∨ p + k = l.length ∨ ∃ c, l[p + k]? = some c ∧ isDig c = false) : numAt l p = valD (part l p k) ∧ endAt l p = p + k := by
  have e := digs_end ha hk hp hs
  refine ⟨by unfold numAt; rw [e], by unfold endAt; rw [e, part_len hp]⟩
theorem end_le {l : List UInt8} {p : Nat} (h : p ≤ l.length) : endAt l p ≤ l.length := by
  unfold endAt digsAt
  have := (List.takeWhile_sublist isDig (l := (l.drop p).take 6)).length_le
  rw [List.length_take, List.length_drop] at this
  omega
theorem skip_le {l : List UInt8} {b : UInt8} {p : Nat} (h : p ≤ l.length) : skipAt l b p ≤ l.length := by
  unfold skipAt
  split
  · rename_i h1; have := lt_of_at h1; omega
  · exact h
theorem dend_le {l : List UInt8} {p : Nat} (h : p ≤ l.length) : dP1 l p ≤ l.length ∧ dP2 l p ≤ l.length ∧ dEnd l p ≤ l.length := by
  have a := skip_le (b := 45) (end_le h)
  have b := skip_le (b := 45) (end_le a)
  exact ⟨a, b, end_le b⟩

/- Numbers between two places. -/
theorem numS_all {l : List UInt8} {p k : Nat} (ha : (part l p k).all isDig = true) (hp : p + k ≤ l.length) : numS l p k = valD (part l p k) := by
  unfold numS
  rw [if_pos ⟨part_len hp, ha⟩]; rfl
theorem numS_out {l : List UInt8} {p k j : Nat} (h : p + j = l.length) (hj : j < k) : numS l p k = -1 := by
  unfold numS
  rw [if_neg]
  rintro ⟨h1, _⟩
  rw [List.length_take, List.length_drop] at h1; omega
theorem numS_bad {l : List UInt8} {p k j : Nat} {c : UInt8} (h : l[p + j]? = some c) (hj : j < k) (hc : isDig c = false) : numS l p k = -1 := by
  unfold numS
  rw [if_neg]
  rintro ⟨_, h2⟩
  have hm : c ∈ (l.drop p).take k := by
    refine List.mem_of_getElem? (i := j) ?_
    rw [List.getElem?_take_of_lt hj, List.getElem?_drop]; exact h
  have := List.all_eq_true.1 h2 c hm
  rw [hc] at this; cases this
theorem numS_bd (l : List UInt8) (p k : Nat) (hk : k ≤ 5) : -1 ≤ numS l p k ∧ numS l p k < 100000 := by
  unfold numS
  split
  · rename_i h
    have := valD_bd2 h.2 (by rw [h.1]; exact hk)
    omega
  · omega

/- Words. -/
theorem spl_at_space {l : List UInt8} {a i : Nat} (ha : a ≤ i) (h : l[i]? = some 32) : spl (part l a (i - a)) (l.drop i) = part l a (i - a) :: spl [] (l.drop (i + 1)) := by
  have hl := lt_of_at h
  rw [List.drop_eq_getElem_cons hl]
  have e : l[i] = 32 := by
    have := List.getElem?_eq_getElem hl
    rw [h] at this; exact (Option.some.inj this).symm
  rw [e, spl, if_pos rfl]
theorem spl_at_other {l : List UInt8} {a i : Nat} {c : UInt8} (ha : a ≤ i) (h : l[i]? = some c) (hc : c ≠ 32) : spl (part l a (i - a)) (l.drop i) = spl (part l a (i + 1 - a)) (l.drop (i + 1)) := by
  have hl := lt_of_at h
  rw [List.drop_eq_getElem_cons hl]
  have e : l[i] = c := by
    have := List.getElem?_eq_getElem hl
    rw [h] at this; exact (Option.some.inj this).symm
  rw [e, spl, if_neg hc, show i + 1 - a = (i - a) + 1 by omega, part_snoc (c := c) (by rw [show a + (i - a) = i by omega]; exact h)]
theorem spl_at_end {l : List UInt8} {a : Nat} : spl (part l a (l.length - a)) (l.drop l.length) = [part l a (l.length - a)] := by
  rw [List.drop_length, spl]

/- What ParseDate and ParseBond return. -/
def pdY (l : List UInt8) : Int := if pdOk l = true then dY l 0 else 0
def pdM (l : List UInt8) : Int := if pdOk l = true then dM l 0 else 0
def pdD (l : List UInt8) : Int := if pdOk l = true then dD l 0 else 0
theorem pd_len {l : List UInt8} (h : pdOk l = true) : l.length = 10 := by
  obtain ⟨a, b⟩ := pd_is h
  rw [← b]; exact dateT_len ((dateB_iff _ _ _).1 a)
theorem pd_fmt {l : List UInt8} (h : pdOk l = true) : fmtDate (dY l 0) (dM l 0) (dD l 0) = l := by
  obtain ⟨a, b⟩ := pd_is h
  unfold fmtDate; rw [if_pos a]; exact b
theorem pd_fmt_no {l : List UInt8} (h : pdOk l = false) (h0 : l ≠ []) : fmtDate (dY l 0) (dM l 0) (dD l 0) ≠ l := by
  intro he
  unfold fmtDate at he
  split at he
  · rename_i hv
    rw [(pd_of hv he).1] at h; cases h
  · exact h0 he.symm
theorem pd_nil : pdOk [] = false := by
  cases h : pdOk [] with
  | false => rfl
  | true => have := pd_len h; simp at this

def zeroB : Bond := ⟨0, 0, 0, 0⟩
def pbV (l : List UInt8) : Bond := if pbOk l = true then curB l else zeroB
theorem pb_fmt {l : List UInt8} (h : pbOk l = true) : fmtBond (curB l) = l := by
  obtain ⟨a, b⟩ := pb_is h
  unfold fmtBond; rw [if_pos a]; exact b
theorem pb_fmt_no {l : List UInt8} (h : pbOk l = false) (h0 : l ≠ []) : fmtBond (curB l) ≠ l := by
  intro he
  unfold fmtBond at he
  split at he
  · rename_i hv
    rw [(pb_of hv he).1] at h; cases h
  · exact h0 he.symm
theorem pb_no {l : List UInt8} {b : Bond} (h : pbOk l = false) (hb : bondB b = true) : bondT b ≠ l := by
  intro he
  rw [(pb_of hb he).1] at h; cases h
theorem pb_nil : pbOk [] = false := by
  cases h : pbOk [] with
  | false => rfl
  | true => exact (bondT_ne _ (pb_is h).2).elim
theorem day_word {n : Int} (h0 : 0 ≤ n) (h1 : n ≤ 36524) : pdOk (dayT n) = true ∧ dY (dayT n) 0 = yF n ∧ dM (dayT n) 0 = mF n ∧ dD (dayT n) 0 = dF n ∧ numF (yF n) (mF n) (dF n) = n := by
  have hv := date_valid n h0 h1
  obtain ⟨a, b, c, d⟩ := pd_of (l := dayT n) ((dateB_iff _ _ _).2 hv) rfl
  exact ⟨a, b, c, d, num_date n⟩
theorem pb_yes {l a b c d : List UInt8} (h : pbOk l = true) (hw : spl [] l = [a, b, c, d]) :
    (4 ≤ a.length ∧ a.length ≤ 5 ∧ d.length ≤ 2) ∧ (pdOk b = true ∧ pdOk c = true) ∧ (numF (dY b 0) (dM b 0) (dD b 0) = (curB l).start ∧ numF (dY c 0) (dM c 0) (dD c 0) = (curB l).stop) ∧
    (numS a 0 (a.length - 3) = (curB l).rate / 100 ∧ numS a (a.length - 2) 2 = (curB l).rate % 100) ∧ numS d 0 d.length = (curB l).months := by
  obtain ⟨hb, ht⟩ := pb_is h
  obtain ⟨⟨s0, s1⟩, ⟨e0, e1⟩, ⟨r0, r1⟩, m0, m1⟩ := bond_days hb
  have h4 := bond_words ht
  rw [hw] at h4
  simp only [List.cons.injEq, and_true] at h4
  obtain ⟨rfl, rfl, rfl, rfl⟩ := h4
  obtain ⟨w1, w2, w3, w4⟩ := rate_word r0 r1
  obtain ⟨a1, a2, a3, a4, a5⟩ := day_word s0 s1
  obtain ⟨b1, b2, b3, b4, b5⟩ := day_word e0 e1
  have hd := dec_len12 (curB l).months (by omega) (by omega)
  refine ⟨⟨w1, w2, hd.2⟩, ⟨a1, b1⟩, ⟨by rw [a2, a3, a4, a5], by rw [b2, b3, b4, b5]⟩, ⟨w3, w4⟩, ?_⟩
  have := numS_of (l := dec (curB l).months) (a := 0) (ds := dec (curB l).months) (rest := []) (by simp) (dec_dig _)
  rw [this, valD_dec _ (by omega)]
theorem pb_words {l : List UInt8} (h : pbOk l = true) : (spl [] l).length = 4 := by
  rw [bond_words (pb_is h).2]; rfl
theorem pb_bond {l : List UInt8} : (⟨(curB l).start, (curB l).stop, (curB l).months, 100 * ((curB l).rate / 100) + (curB l).rate % 100⟩ : Bond) = curB l := by
  rw [show 100 * ((curB l).rate / 100) + (curB l).rate % 100 = (curB l).rate by omega]

/- The order of dates. -/
theorem order_next {y m d k : Int} (h : dateB y m d = true) (hk : 0 ≤ k) (hn : 0 ≤ numF y m d + 1 + k) (hn2 : numF y m d + 1 + k ≤ 36524) : Op.bytesLess (fmtDate y m d) (fmtDate (yF (numF y m d + 1 + k)) (mF (numF y m d + 1 + k)) (dF (numF y m d + 1 + k))) = true := by
  have hv := (dateB_iff _ _ _).1 h
  have hw := date_valid _ hn hn2
  unfold fmtDate
  rw [if_pos h, if_pos ((dateB_iff _ _ _).2 hw)]
  exact less_date hv hw (by rw [num_date]; omega)
end Go.Proofs.YtielicmjdhmcjaaGreatDoor
