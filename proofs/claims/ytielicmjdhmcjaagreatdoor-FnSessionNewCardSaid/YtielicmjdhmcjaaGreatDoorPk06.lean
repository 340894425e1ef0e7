/- Packed: Texts. -/
import Derived.Test.YtielicmjdhmcjaaGreatDoorRows
import Derived.Test.YtielicmjdhmcjaaGreatDoorPk05
import Derived.Lib.ItoaNum
/- Texts of numbers and dates in plain Lean: how they are written, how a cursor reads them. No program in sight. -/
namespace Go.Proofs.YtielicmjdhmcjaaGreatDoor
open Go.RowKit
open Go.Lib (decDigits nDigits decDigits_one decDigits_two decDigits_length nDigits_unique)

def isDig (c : UInt8) : Bool := decide (48 ≤ c.toNat) && decide (c.toNat ≤ 57)
def dec (n : Int) : List UInt8 := decDigits n.toNat
def twoT (n : Int) : List UInt8 := if n < 10 then 48 :: dec n else dec n
def dateT (y m d : Int) : List UInt8 := dec y ++ 45 :: (twoT m ++ 45 :: twoT d)

def valD (ds : List UInt8) : Int := ds.foldl (fun n c => 10 * n + ((c.toNat : Int) - 48)) 0
theorem valD_nil : valD [] = 0 := rfl
theorem valD_snoc (ds : List UInt8) (c : UInt8) : valD (ds ++ [c]) = 10 * valD ds + ((c.toNat : Int) - 48) := by
  unfold valD; rw [List.foldl_append]; rfl

theorem dig_toNat (k : Nat) (h : k < 10) : (UInt8.ofNat (48 + k)).toNat = 48 + k := by
  rw [UInt8.toNat_ofNat']; omega
theorem dig_isDig (k : Nat) (h : k < 10) : isDig (UInt8.ofNat (48 + k)) = true := by
  unfold isDig; rw [dig_toNat k h]; simp; omega

theorem decDigits_dig (n : Nat) : ∀ c ∈ decDigits n, isDig c = true := by
  induction n using Nat.strongRecOn with
  | _ n ih =>
    by_cases h : n < 10
    · rw [decDigits_one h]; intro c hc; rw [List.mem_singleton.1 hc]; exact dig_isDig n h
    · rw [Go.Lib.decDigits, dif_neg h]
      intro c hc
      rcases List.mem_append.1 hc with hc | hc
      · exact ih (n / 10) (by omega) c hc
      · rw [List.mem_singleton.1 hc]; exact dig_isDig _ (Nat.mod_lt _ (by decide))
theorem valD_decDigits (n : Nat) : valD (decDigits n) = n := by
  induction n using Nat.strongRecOn with
  | _ n ih =>
    by_cases h : n < 10
    · rw [decDigits_one h]
      show 10 * (0 : Int) + (((UInt8.ofNat (48 + n)).toNat : Int) - 48) = n
      rw [dig_toNat n h]; omega
    · rw [Go.Lib.decDigits, dif_neg h, valD_snoc, ih (n / 10) (by omega), dig_toNat _ (Nat.mod_lt _ (by decide))]
      omega

theorem dec_dig (n : Int) : ∀ c ∈ dec n, isDig c = true := decDigits_dig _
theorem valD_dec (n : Int) (h : 0 ≤ n) : valD (dec n) = n := by unfold dec; rw [valD_decDigits]; omega
theorem dec_len4 (n : Int) (h1 : 1000 ≤ n) (h2 : n ≤ 9999) : (dec n).length = 4 := by
  unfold dec; rw [decDigits_length]; exact nDigits_unique 3 _ (by omega) (by omega)
theorem dec_len1 (n : Int) (h1 : 0 ≤ n) (h2 : n ≤ 9) : (dec n).length = 1 := by
  unfold dec; rw [decDigits_one (by omega)]; rfl
theorem dec_len2 (n : Int) (h1 : 10 ≤ n) (h2 : n ≤ 99) : (dec n).length = 2 := by
  unfold dec; rw [decDigits_two (by omega) (by omega)]; rfl
theorem dec_len12 (n : Int) (h1 : 0 ≤ n) (h2 : n ≤ 99) : 1 ≤ (dec n).length ∧ (dec n).length ≤ 2 := by
  by_cases h : n ≤ 9
  · rw [dec_len1 n h1 h]; omega
  · rw [dec_len2 n (by omega) h2]; omega

theorem twoT_is (n : Int) (h1 : 0 ≤ n) (h2 : n ≤ 99) : twoT n = [UInt8.ofNat (48 + n.toNat / 10), UInt8.ofNat (48 + n.toNat % 10)] := by
  unfold twoT dec
  by_cases h : n < 10
  · rw [if_pos h, decDigits_one (by omega), Nat.div_eq_of_lt (by omega), Nat.mod_eq_of_lt (by omega)]; rfl
  · rw [if_neg h, decDigits_two (by omega) (by omega)]
theorem twoT_len (n : Int) (h1 : 0 ≤ n) (h2 : n ≤ 99) : (twoT n).length = 2 := by rw [twoT_is n h1 h2]; rfl
theorem twoT_dig (n : Int) : ∀ c ∈ twoT n, isDig c = true := by
  unfold twoT
  split
  · intro c hc
    rcases List.mem_cons.1 hc with hc | hc
    · subst hc; decide
    · exact dec_dig n c hc
  · exact dec_dig n
theorem twoT_val (n : Int) (h1 : 0 ≤ n) (h2 : n ≤ 99) : valD (twoT n) = n := by
  rw [twoT_is n h1 h2]
  show 10 * (10 * (0 : Int) + (((UInt8.ofNat (48 + n.toNat / 10)).toNat : Int) - 48)) + (((UInt8.ofNat (48 + n.toNat % 10)).toNat : Int) - 48) = n
  rw [dig_toNat _ (by omega), dig_toNat _ (by omega)]
  omega

/- The cursor. -/
def digsAt (l : List UInt8) (p : Nat) : List UInt8 := ((l.drop p).take 6).takeWhile isDig
def numAt (l : List UInt8) (p : Nat) : Int := valD (digsAt l p)
def endAt (l : List UInt8) (p : Nat) : Nat := p + (digsAt l p).length
def skipAt (l : List UInt8) (b : UInt8) (p : Nat) : Nat := if l[p]? = some b then p + 1 else p

theorem takeWhile_all {α : Type} (p : α → Bool) (xs : List α) (h : ∀ x ∈ xs, p x = true) : xs.takeWhile p = xs := by
  induction xs with
  | nil => rfl
  | cons x xs ih => rw [List.takeWhile_cons, if_pos (h x (by simp)), ih (fun z hz => h z (by simp [hz]))]
theorem takeWhile_stop {α : Type} (p : α → Bool) (xs ys : List α) (h : ∀ x ∈ xs, p x = true) (hy : ∀ c, ys[0]? = some c → p c = false) : (xs ++ ys).takeWhile p = xs := by
  rw [List.takeWhile_append_of_pos h]
  cases ys with
  | nil => simp
  | cons c ys => rw [List.takeWhile_cons, if_neg (by rw [hy c rfl]; simp)]; simp

theorem read_digs (l : List UInt8) (p : Nat) (ds rest : List UInt8) (h : l.drop p = ds ++ rest) (hd : ∀ c ∈ ds, isDig c = true) (h6 : ds.length ≤ 6) (hr : ∀ c, rest[0]? = some c → isDig c = false) :
    numAt l p = valD ds ∧ endAt l p = p + ds.length ∧ l.drop (endAt l p) = rest := by
  have e : digsAt l p = ds := by
    unfold digsAt
    rw [h, List.take_append, List.take_of_length_le h6]
    refine takeWhile_stop isDig ds _ hd (fun c hc => ?_)
    by_cases h0 : 0 < 6 - ds.length
    · rw [List.getElem?_take_of_lt h0] at hc; exact hr c hc
    · rw [show 6 - ds.length = 0 by omega, List.take_zero] at hc; simp at hc
  refine ⟨by unfold numAt; rw [e], by unfold endAt; rw [e], ?_⟩
  unfold endAt
  rw [e, ← List.drop_drop, h, List.drop_left]
theorem read_dec (l : List UInt8) (p : Nat) (n : Int) (rest : List UInt8) (h0 : 0 ≤ n) (h1 : n ≤ 9999) (h : l.drop p = dec n ++ rest) (hr : ∀ c, rest[0]? = some c → isDig c = false) :
    numAt l p = n ∧ l.drop (endAt l p) = rest := by
  have hl : (dec n).length ≤ 6 := by
    unfold dec; rw [decDigits_length]
    by_cases h3 : n ≤ 99
    · have := dec_len12 n h0 h3; unfold dec at this; rw [decDigits_length] at this; omega
    · by_cases h4 : n ≤ 999
      · rw [nDigits_unique 2 _ (by omega) (by omega)]; omega
      · rw [nDigits_unique 3 _ (by omega) (by omega)]; omega
  obtain ⟨a, _, c⟩ := read_digs l p (dec n) rest h (dec_dig n) hl hr
  exact ⟨by rw [a, valD_dec n h0], c⟩
theorem read_two (l : List UInt8) (p : Nat) (n : Int) (rest : List UInt8) (h0 : 0 ≤ n) (h1 : n ≤ 99) (h : l.drop p = twoT n ++ rest) (hr : ∀ c, rest[0]? = some c → isDig c = false) :
    numAt l p = n ∧ l.drop (endAt l p) = rest := by
  obtain ⟨a, _, c⟩ := read_digs l p (twoT n) rest h (twoT_dig n) (by rw [twoT_len n h0 h1]; omega) hr
  exact ⟨by rw [a, twoT_val n h0 h1], c⟩
theorem read_skip (l : List UInt8) (b : UInt8) (p : Nat) (rest : List UInt8) (h : l.drop p = b :: rest) : skipAt l b p = p + 1 ∧ l.drop (skipAt l b p) = rest := by
  have e : l[p]? = some b := by
    have := congrArg (fun z => z[0]?) h
    simpa [List.getElem?_drop] using this
  have e2 : skipAt l b p = p + 1 := by unfold skipAt; rw [if_pos e]
  refine ⟨e2, ?_⟩
  rw [e2, ← List.drop_drop, h]; rfl

def dY (l : List UInt8) (p : Nat) : Int := numAt l p
def dP1 (l : List UInt8) (p : Nat) : Nat := skipAt l 45 (endAt l p)
def dM (l : List UInt8) (p : Nat) : Int := numAt l (dP1 l p)
def dP2 (l : List UInt8) (p : Nat) : Nat := skipAt l 45 (endAt l (dP1 l p))
def dD (l : List UInt8) (p : Nat) : Int := numAt l (dP2 l p)
def dEnd (l : List UInt8) (p : Nat) : Nat := endAt l (dP2 l p)

theorem ymd_bd {y m d : Int} (h : ValidYMD y m d) : (1990 ≤ y ∧ y ≤ 2089) ∧ (1 ≤ m ∧ m ≤ 12) ∧ 1 ≤ d ∧ d ≤ 31 := by
  obtain ⟨h1, h2, h3, h4⟩ := h
  have := (dim_bd y m).2
  exact ⟨h1, h2, h3, by omega⟩
theorem read_date (l : List UInt8) (p : Nat) (y m d : Int) (rest : List UInt8) (hv : ValidYMD y m d) (h : l.drop p = dateT y m d ++ rest) (hr : ∀ c, rest[0]? = some c → isDig c = false) :
    dY l p = y ∧ dM l p = m ∧ dD l p = d ∧ l.drop (dEnd l p) = rest := by
  obtain ⟨⟨a1, a2⟩, ⟨b1, b2⟩, c1, c2⟩ := ymd_bd hv
  have n45 : isDig 45 = false := by decide
  have e1 : l.drop p = dec y ++ 45 :: (twoT m ++ 45 :: (twoT d ++ rest)) := by rw [h]; unfold dateT; simp
  obtain ⟨r1, s1⟩ := read_dec l p y _ (by omega) (by omega) e1 (by intro c hc; simp at hc; rw [← hc]; exact n45)
  obtain ⟨_, s2⟩ := read_skip l 45 _ _ s1
  obtain ⟨r3, s3⟩ := read_two l (dP1 l p) m _ (by omega) (by omega) s2 (by intro c hc; simp at hc; rw [← hc]; exact n45)
  obtain ⟨_, s4⟩ := read_skip l 45 _ _ s3
  obtain ⟨r5, s5⟩ := read_two l (dP2 l p) d _ (by omega) (by omega) s4 hr
  exact ⟨r1, r3, r5, s5⟩

theorem dateT_len {y m d : Int} (hv : ValidYMD y m d) : (dateT y m d).length = 10 := by
  obtain ⟨⟨a1, a2⟩, ⟨b1, b2⟩, c1, c2⟩ := ymd_bd hv
  unfold dateT
  simp only [List.length_append, List.length_cons]
  rw [dec_len4 y (by omega) (by omega), twoT_len m (by omega) (by omega), twoT_len d (by omega) (by omega)]

theorem date_unique (l : List UInt8) (y m d : Int) (hv : ValidYMD y m d) (h : dateT y m d = l) : dY l 0 = y ∧ dM l 0 = m ∧ dD l 0 = d := by
  obtain ⟨a, b, c, _⟩ := read_date l 0 y m d [] hv (by rw [h]; simp) (by simp)
  exact ⟨a, b, c⟩
end Go.Proofs.YtielicmjdhmcjaaGreatDoor
