/- Packed: Session, SplitB. -/
import Derived.Test.YtielicmjdhmcjaaGreatDoorRows
import Derived.Test.YtielicmjdhmcjaaGreatDoorPk11
import Derived.Test.YtielicmjdhmcjaaGreatDoorPk21
import Derived.Test.YtielicmjdhmcjaaGreatDoorPk23
import Derived.Lib.IndexMore
import Derived.Lib.Split
/- Sessions in plain Lean: what a line does to a desk and what it answers; texts of sessions. No program in sight. -/
namespace Go.Proofs.YtielicmjdhmcjaaGreatDoor
open Go.RowKit
open Go.Lib (decDigits nDigits decDigits_one decDigits_two decDigits_length nDigits_unique)

/- Words of numbers. -/
def impN : Int := -1099511627776
def numW (w : List UInt8) : Int :=
  if w.length < 1 ∨ 5 < w.length ∨ (1 < w.length ∧ w[0]? = some 48) then impN else if w.all isDig = true then valD w else impN

theorem dig_bd {c : UInt8} (h : isDig c = true) : 48 ≤ c.toNat ∧ c.toNat ≤ 57 := by unfold isDig at h; simpa using h
theorem dig_of {c : UInt8} (h : isDig c = true) : UInt8.ofNat (48 + (c.toNat - 48)) = c := by
  have := dig_bd h
  rw [show 48 + (c.toNat - 48) = c.toNat by omega]
  exact UInt8.ofNat_toNat
theorem valD_pow : ∀ (n : Nat) (ds : List UInt8), ds.length = n → (∀ c ∈ ds, isDig c = true) → 0 ≤ valD ds ∧ valD ds < 10 ^ n
  | 0, ds, hl, _ => by obtain rfl := List.eq_nil_of_length_eq_zero hl; simp [valD_nil]
  | n + 1, ds, hl, hd => by
    have hne : ds ≠ [] := by rintro rfl; simp at hl
    obtain ⟨xs, c, rfl⟩ : ∃ xs c, ds = xs ++ [c] := ⟨ds.dropLast, ds.getLast hne, (List.dropLast_concat_getLast hne).symm⟩
    have ih := valD_pow n xs (by simpa using hl) (fun z hz => hd z (by simp [hz]))
    have hc := dig_bd (hd c (by simp))
    rw [valD_snoc, Int.pow_succ]
    omega
theorem dec_val : ∀ (n : Nat) (ds : List UInt8), ds.length = n + 1 → (∀ c ∈ ds, isDig c = true) → (n = 0 ∨ ds[0]? ≠ some 48) → dec (valD ds) = ds
  | 0, ds, hl, hd, _ => by
    match ds, hl with
    | [c], _ =>
      have hc := dig_bd (hd c (by simp))
      have : valD [c] = ((c.toNat - 48 : Nat) : Int) := by show 10 * (0 : Int) + ((c.toNat : Int) - 48) = _; omega
      rw [this]
      unfold dec
      rw [Int.toNat_natCast, decDigits_one (by omega), dig_of (hd c (by simp))]
  | n + 1, ds, hl, hd, h0 => by
    have hne : ds ≠ [] := by rintro rfl; simp at hl
    obtain ⟨xs, c, rfl⟩ : ∃ xs c, ds = xs ++ [c] := ⟨ds.dropLast, ds.getLast hne, (List.dropLast_concat_getLast hne).symm⟩
    have hxl : xs.length = n + 1 := by simpa using hl
    have hxd : ∀ z ∈ xs, isDig z = true := fun z hz => hd z (by simp [hz])
    have hx0 : xs[0]? ≠ some 48 := by
      rcases h0 with h0 | h0
      · omega
      · rwa [List.getElem?_append_left (by omega)] at h0
    have ih := dec_val n xs hxl hxd (.inr hx0)
    have hc := dig_bd (hd c (by simp))
    have hb := (valD_pow _ xs hxl hxd).1
    have hpos : 0 < valD xs := by
      by_cases hz : valD xs = 0
      · exfalso
        rw [hz] at ih
        have e : dec 0 = [48] := by unfold dec; rw [show (0 : Int).toNat = 0 from rfl, decDigits_one (by decide)]; rfl
        rw [e] at ih
        apply hx0; rw [← ih]; rfl
      · omega
    rw [valD_snoc]
    unfold dec at ih ⊢
    rw [show (10 * valD xs + ((c.toNat : Int) - 48)).toNat = 10 * (valD xs).toNat + (c.toNat - 48) by omega]
    rw [Go.Lib.decDigits, dif_neg (by omega), show (10 * (valD xs).toNat + (c.toNat - 48)) / 10 = (valD xs).toNat by omega, show (10 * (valD xs).toNat + (c.toNat - 48)) % 10 = c.toNat - 48 by omega, ih, dig_of (hd c (by simp))]
theorem dec_short : ∀ (ds : List UInt8), ds ≠ [] → (∀ c ∈ ds, isDig c = true) → (dec (valD ds)).length ≤ ds.length
  | [], h, _ => (h rfl).elim
  | [c], _, hd => by rw [dec_val 0 [c] rfl hd (.inl rfl)]; exact Nat.le_refl _
  | c :: d :: ds, _, hd => by
    by_cases hc : c = 48
    · subst hc
      have ih := dec_short (d :: ds) (by simp) (fun z hz => hd z (by simp [List.mem_cons.1 hz]))
      have e : valD (48 :: d :: ds) = valD (d :: ds) := rfl
      rw [e]; simp only [List.length_cons] at ih ⊢; omega
    · rw [dec_val (ds.length + 1) (c :: d :: ds) rfl hd (.inr (by simpa using hc))]; exact Nat.le_refl _
theorem dec_zero_ne (d : UInt8) (ds : List UInt8) (hd : ∀ c ∈ d :: ds, isDig c = true) : dec (valD (48 :: d :: ds)) ≠ 48 :: d :: ds := by
  intro h
  have h1 := dec_short (d :: ds) (by simp) hd
  have e : valD (48 :: d :: ds) = valD (d :: ds) := rfl
  rw [e] at h
  rw [h] at h1
  simp only [List.length_cons] at h1; omega

theorem numW_bd (w : List UInt8) : numW w = impN ∨ (0 ≤ numW w ∧ numW w ≤ 99999) := by
  unfold numW
  split
  · exact .inl rfl
  · rename_i h
    split
    · rename_i hd
      have := valD_pow w.length w rfl (by rwa [List.all_eq_true] at hd)
      have hl : w.length ≤ 5 := by omega
      have : (10 : Int) ^ w.length ≤ 10 ^ 5 := by
        have := Nat.pow_le_pow_right (n := 10) (by decide) hl
        exact_mod_cast this
      right; omega
    · exact .inl rfl

/- Texts of answers. -/
def okT : List UInt8 := [111, 107]
def noT : List UInt8 := [110, 111]
def whatT : List UInt8 := [119, 104, 97, 116]
def bondW : List UInt8 := [98, 111, 110, 100]
def dayW : List UInt8 := [100, 97, 121]
def accW : List UInt8 := [97, 99, 99, 114, 117, 101, 100]
def totW : List UInt8 := [116, 111, 116, 97, 108]
def buyW : List UInt8 := [98, 117, 121]
def sellW : List UInt8 := [115, 101, 108, 108]
def posW : List UInt8 := [112, 111, 115, 105, 116, 105, 111, 110]
def gainW : List UInt8 := [103, 97, 105, 110]
def priceW : List UInt8 := [112, 114, 105, 99, 101]
def amtT (n : Int) : List UInt8 := if n < 0 then noT else dec n
def sigT (n : Int) : List UInt8 := if n < 0 then 45 :: dec (-n) else dec n

structure Desk where
  bond : Bond
  day : Int
  trades : List Trade
def desk0 : Desk := ⟨⟨0, 0, 0, 0⟩, 0, []⟩

def totS : List Flow → Int
  | [] => 0
  | f :: fs => f.amount + totS fs
def totF (b : Bond) : Int := if bondB b = true then totS (flowsL b) else -1
def tradeD (s : Desk) (m p : Int) : Desk × List UInt8 :=
  if tradesB (s.trades ++ [⟨s.day, m, p⟩]) = true then (⟨s.bond, s.day, s.trades ++ [⟨s.day, m, p⟩]⟩, okT) else (s, noT)
def bondD (s : Desk) (t : List UInt8) : Desk × List UInt8 := if pbOk t = true then (⟨curB t, s.day, s.trades⟩, okT) else (s, noT)
def dayD (s : Desk) (t : List UInt8) : Desk × List UInt8 := if pdOk t = true then (⟨s.bond, dayOfF (dY t 0) (dM t 0) (dD t 0), s.trades⟩, okT) else (s, noT)
def priceT (s : Desk) (y : Int) : List UInt8 := if priceB s.bond s.day y = true then dec (priceLo s.bond s.day y) ++ 32 :: dec (priceHi s.bond s.day y) else noT
def wordsD (s : Desk) : List (List UInt8) → Desk × List UInt8
  | [w] => if w = accW then (s, amtT (accF s.bond s.day)) else if w = totW then (s, amtT (totF s.bond)) else if w = posW then (s, sigT (posF s.trades s.day)) else if w = gainW then (s, sigT (gainF s.trades)) else (s, whatT)
  | [w, a] => if w = priceW then (s, priceT s (numW a)) else (s, whatT)
  | [w, a, b] => if w = buyW then tradeD s (numW a) (numW b) else if w = sellW then tradeD s (-numW a) (numW b) else (s, whatT)
  | _ => (s, whatT)
def bondP (l : List UInt8) : Bool := decide (5 < l.length) && decide (l.take 5 = bondW ++ [32])
def dayP (l : List UInt8) : Bool := decide (4 < l.length) && decide (l.take 4 = dayW ++ [32])
def lineD (s : Desk) (l : List UInt8) : Desk × List UInt8 :=
  if bondP l = true then bondD s (l.drop 5) else if dayP l = true then dayD s (l.drop 4) else wordsD s (spl [] l)

def runL : Desk → List (List UInt8) → List UInt8
  | _, [] => []
  | s, l :: ls => (lineD s l).2 ++ 10 :: runL (lineD s l).1 ls
def deskL : Desk → List (List UInt8) → Desk
  | s, [] => s
  | s, l :: ls => deskL (lineD s l).1 ls
theorem runL_append (a b : List (List UInt8)) : ∀ s, runL s (a ++ b) = runL s a ++ runL (deskL s a) b := by
  induction a with
  | nil => intro s; rfl
  | cons l ls ih => intro s; rw [List.cons_append, runL, ih, runL, deskL]; simp
theorem deskL_append (a b : List (List UInt8)) : ∀ s, deskL s (a ++ b) = deskL (deskL s a) b := by
  induction a with
  | nil => intro s; rfl
  | cons l ls ih => intro s; rw [List.cons_append, deskL, ih, deskL]
def sessT (ls : List (List UInt8)) : List UInt8 := runL desk0 (ls.take 20)
theorem runL_snoc (ls : List (List UInt8)) (l : List UInt8) (s : Desk) : runL s (ls ++ [l]) = runL s ls ++ ((lineD (deskL s ls) l).2 ++ [10]) := by
  rw [runL_append]; rfl
theorem deskL_snoc (ls : List (List UInt8)) (l : List UInt8) (s : Desk) : deskL s (ls ++ [l]) = (lineD (deskL s ls) l).1 := by
  rw [deskL_append]; rfl

/- What is kept of a desk. -/
structure OkDesk (s : Desk) : Prop where
  tr : tradesB s.trades = true
  d0 : 0 ≤ s.day
  d1 : s.day ≤ 36524
theorem desk0_ok : OkDesk desk0 := ⟨by decide, by decide, by decide⟩
theorem dayOfF_pos {y m d : Int} (h : dateB y m d = true) : 0 ≤ dayOfF y m d ∧ dayOfF y m d ≤ 36524 := by
  have := num_bd y m d ((dateB_iff _ _ _).1 h)
  unfold dayOfF; rw [if_pos h]; omega
theorem OkDesk.tradeD {s : Desk} (h : OkDesk s) (m p : Int) : OkDesk (tradeD s m p).1 := by
  unfold Go.Proofs.YtielicmjdhmcjaaGreatDoor.tradeD
  split
  · rename_i ht; exact ⟨ht, h.d0, h.d1⟩
  · exact h
theorem OkDesk.line {s : Desk} (h : OkDesk s) (l : List UInt8) : OkDesk (lineD s l).1 := by
  unfold lineD
  split
  · unfold bondD; split
    · exact ⟨h.tr, h.d0, h.d1⟩
    · exact h
  · split
    · unfold dayD; split
      · rename_i hp
        have := dayOfF_pos (pd_is hp).1
        exact ⟨h.tr, this.1, this.2⟩
      · exact h
    · unfold wordsD
      split
      · repeat' split
        all_goals exact h
      · split <;> exact h
      · split
        · exact h.tradeD _ _
        · split
          · exact h.tradeD _ _
          · exact h
      · exact h
theorem OkDesk.lines {s : Desk} (h : OkDesk s) (ls : List (List UInt8)) : OkDesk (deskL s ls) := by
  induction ls generalizing s with
  | nil => exact h
  | cons l ls ih => rw [deskL]; exact ih (h.line l)

/- Lengths of answers. -/
theorem decDigits_le : ∀ (k n : Nat), n < 10 ^ (k + 1) → (decDigits n).length ≤ k + 1
  | 0, n, h => by rw [decDigits_one (by simpa using h)]; simp
  | k + 1, n, h => by
    by_cases h1 : n < 10
    · rw [decDigits_one h1]; simp
    · rw [Go.Lib.decDigits, dif_neg h1, List.length_append]
      have := decDigits_le k (n / 10) (by rw [Nat.pow_succ] at h; omega)
      simp only [List.length_singleton]; omega
theorem dec_le (n : Int) (h : n ≤ 8000000000) : (dec n).length ≤ 10 := by
  unfold dec; exact decDigits_le 9 _ (by omega)
theorem amt_le (n : Int) (h : n ≤ 8000000000) : (amtT n).length ≤ 10 := by
  unfold amtT; split
  · decide
  · exact dec_le n h
theorem sig_le (n : Int) (h : n ≤ 8000000000) (h2 : -8000000000 ≤ n) : (sigT n).length ≤ 11 := by
  unfold sigT; split
  · have := dec_le (-n) (by omega); simp only [List.length_cons]; omega
  · have := dec_le n h; omega
theorem accF_le (b : Bond) (day : Int) : -1 ≤ accF b day ∧ accF b day ≤ 3000 := by
  unfold accF
  split
  · rename_i h
    obtain ⟨ok, h1, h2⟩ := run_facts h
    have := acc_bd ok day h1 h2
    have h3 := (perAt_spec ok day h1 h2)
    have h4 : coupF b (perAt b day) ≤ 3000 := (coup_bd ok _ (pers_okPer ok _ h3.2.2.2.1)).2
    omega
  · omega
theorem totS_bd (xs : List Flow) (h : ∀ f ∈ xs, 0 ≤ f.amount ∧ f.amount ≤ 13000) : 0 ≤ totS xs ∧ totS xs ≤ 13000 * (xs.length : Int) := by
  induction xs with
  | nil => simp [totS]
  | cons f xs ih =>
    have h1 := h f (by simp)
    have h2 := ih (fun z hz => h z (by simp [hz]))
    rw [totS, List.length_cons]; omega
theorem totF_bd (b : Bond) : -1 ≤ totF b ∧ totF b ≤ 520000 := by
  unfold totF
  split
  · rename_i h
    have ok := ok_bond h
    have h1 := totS_bd (flowsL b) (fun f hf => ⟨(flows_bd ok f hf).1, (flows_bd ok f hf).2.1⟩)
    have h2 : (flowsL b).length ≤ 40 := by rw [flows_len]; unfold persF; rw [sched_len]; exact ok.span.q2
    omega
  · omega
theorem priceT_le (s : Desk) (y : Int) : (priceT s y).length ≤ 21 := by
  unfold priceT
  split
  · rename_i h
    unfold priceB at h
    simp only [Bool.and_eq_true] at h
    obtain ⟨y0, y1⟩ := yield_facts h.2
    have hb := (run_of h.1).price_bd y0 y1
    have hl := (run_of h.1).price_le y0 y1
    have h1 := dec_le (priceLo s.bond s.day y) (by omega)
    have h2 := dec_le (priceHi s.bond s.day y) (by omega)
    simp only [List.length_append, List.length_cons]; omega
  · decide
theorem tradeD_le (s : Desk) (m p : Int) : (tradeD s m p).2.length ≤ 2 := by unfold tradeD; split <;> simp [okT, noT]
theorem line_le (s : Desk) (l : List UInt8) : (lineD s l).2.length ≤ 21 := by
  unfold lineD
  split
  · unfold bondD; split <;> simp [okT, noT]
  · split
    · unfold dayD; split <;> simp [okT, noT]
    · unfold wordsD
      split
      · have h1 := amt_le (accF s.bond s.day) (by have := accF_le s.bond s.day; omega)
        have h2 := amt_le (totF s.bond) (by have := totF_bd s.bond; omega)
        have h3 := sig_le (posF s.trades s.day) (by have := posF_bd s.trades s.day; omega) (by have := posF_bd s.trades s.day; omega)
        have h4 := sig_le (gainF s.trades) (by have := gainF_bd s.trades; omega) (by have := gainF_bd s.trades; omega)
        repeat' split
        all_goals first | (simp only; omega) | simp [whatT]
      · split
        · exact priceT_le s _
        · simp [whatT]
      · split
        · have := tradeD_le s (numW ‹_›) (numW ‹_›)
          exact Nat.le_trans (tradeD_le s _ _) (by decide)
        · split
          · exact Nat.le_trans (tradeD_le s _ _) (by decide)
          · simp [whatT]
      · simp [whatT]
theorem runL_le (ls : List (List UInt8)) : ∀ s, (runL s ls).length ≤ 22 * ls.length := by
  induction ls with
  | nil => intro s; simp [runL]
  | cons l ls ih =>
    intro s
    have h1 := line_le s l
    have h2 := ih (lineD s l).1
    rw [runL]
    simp only [List.length_append, List.length_cons]; omega

/- The first space. -/
theorem spl_one : ∀ (xs cur : List UInt8) (w : List UInt8), spl cur xs = [w] → w = cur ++ xs
  | [], cur, w, h => by rw [spl] at h; simpa using h.symm
  | c :: cs, cur, w, h => by
    rw [spl] at h
    split at h
    · have := spl_pos [] cs
      simp only [List.cons.injEq] at h
      rw [h.2] at this; simp at this
    · have := spl_one cs _ w h
      simpa using this
theorem first_space (l : List UInt8) : (∀ c ∈ l, c ≠ 32) ∨ ∃ a r, l = a ++ 32 :: r ∧ ∀ c ∈ a, c ≠ 32 := by
  induction l with
  | nil => exact .inl (by simp)
  | cons c l ih =>
    by_cases hc : c = 32
    · exact .inr ⟨[], l, by simp [hc], by simp⟩
    · rcases ih with ih | ⟨a, r, rfl, ha⟩
      · exact .inl (by
          intro z hz
          rcases List.mem_cons.1 hz with rfl | hz
          · exact hc
          · exact ih z hz)
      · exact .inr ⟨c :: a, r, rfl, by
          intro z hz
          rcases List.mem_cons.1 hz with rfl | hz
          · exact hc
          · exact ha z hz⟩
theorem index_none32 (l : List UInt8) (h : ∀ c ∈ l, c ≠ 32) : Lib.index l [32] = -1 := by
  induction l with
  | nil => rfl
  | cons c l ih =>
    unfold Lib.index
    have hc : ([32] : List UInt8).isPrefixOf (c :: l) = false := by
      have := h c (by simp)
      simp [List.isPrefixOf, Ne.symm this]
    rw [hc, ih (fun z hz => h z (by simp [hz]))]; rfl
theorem index_at32 (a r : List UInt8) (h : ∀ c ∈ a, c ≠ 32) : Lib.index (a ++ 32 :: r) [32] = a.length := by
  induction a with
  | nil => simp [Lib.index, List.isPrefixOf]
  | cons c a ih =>
    rw [List.cons_append]
    unfold Lib.index
    have hc : ([32] : List UInt8).isPrefixOf (c :: (a ++ 32 :: r)) = false := by
      have := h c (by simp)
      simp [List.isPrefixOf, Ne.symm this]
    rw [hc, ih (fun z hz => h z (by simp [hz]))]
    have : ((a.length : Int) == -1) = false := by simp
    rw [this]; simp
theorem cut_none (l : List UInt8) (h : ∀ c ∈ l, c ≠ 32) : Lib.cut l [32] = (l, [], false) := by
  unfold Lib.cut; rw [index_none32 l h]; rfl
theorem cut_at (a r : List UInt8) (h : ∀ c ∈ a, c ≠ 32) : Lib.cut (a ++ 32 :: r) [32] = (a, r, true) := by
  unfold Lib.cut
  rw [index_at32 a r h, if_pos (by omega)]
  simp [List.drop_append]
theorem take_word {a r w : List UInt8} (h : ∀ c ∈ a, c ≠ 32) (hw : ∀ c ∈ w, c ≠ 32) (k : Nat) (_ : k = w.length + 1) (ht : (a ++ 32 :: r).take k = w ++ [32]) : a = w := by
  have e : a ++ 32 :: r = (w ++ [32]) ++ (a ++ 32 :: r).drop k := by rw [← ht, List.take_append_drop]
  have e1 := takeWhile_stop (fun c => c != 32) a (32 :: r) (fun c hc => by simpa using h c hc) (fun c hc => by simp at hc; rw [← hc]; rfl)
  have e2 := takeWhile_stop (fun c => c != 32) w (32 :: (a ++ 32 :: r).drop k) (fun c hc => by simpa using hw c hc) (fun c hc => by simp at hc; rw [← hc]; rfl)
  rw [← e1, e, List.append_assoc]
  exact e2
theorem head_none {l w : List UInt8} (h : ∀ c ∈ l, c ≠ 32) (k : Nat) : l.take k ≠ w ++ [32] := by
  intro e
  exact h 32 (List.mem_of_mem_take (i := k) (by rw [e]; simp)) rfl
theorem bondP_none {l : List UInt8} (h : ∀ c ∈ l, c ≠ 32) : bondP l = false ∧ dayP l = false := by
  unfold bondP dayP
  rw [decide_eq_false (head_none h 5), decide_eq_false (head_none h 4)]; simp
theorem bondP_at {a r : List UInt8} (h : ∀ c ∈ a, c ≠ 32) : bondP (a ++ 32 :: r) = (decide (a = bondW) && decide (r ≠ [])) := by
  unfold bondP
  by_cases ha : a = bondW
  · subst ha
    have : ((bondW ++ 32 :: r).take 5) = bondW ++ [32] := by simp [bondW]
    rw [this]
    cases r <;> simp [bondW]
  · rw [decide_eq_false (p := a = bondW) ha, decide_eq_false (fun e => ha (take_word h (by decide) 5 rfl e))]; simp
theorem dayP_at {a r : List UInt8} (h : ∀ c ∈ a, c ≠ 32) : dayP (a ++ 32 :: r) = (decide (a = dayW) && decide (r ≠ [])) := by
  unfold dayP
  by_cases ha : a = dayW
  · subst ha
    have : ((dayW ++ 32 :: r).take 4) = dayW ++ [32] := by simp [dayW]
    rw [this]
    cases r <;> simp [dayW]
  · rw [decide_eq_false (p := a = dayW) ha, decide_eq_false (fun e => ha (take_word h (by decide) 4 rfl e))]; simp
theorem spl_at {a r : List UInt8} (h : ∀ c ∈ a, c ≠ 32) : spl [] (a ++ 32 :: r) = a :: spl [] r := by
  rw [spl_cut [] a r h]; rfl
theorem spl_none {l : List UInt8} (h : ∀ c ∈ l, c ≠ 32) : spl [] l = [l] := by rw [spl_plain [] l h]; rfl
end Go.Proofs.YtielicmjdhmcjaaGreatDoor

/- Split of the library at a space is spl. -/
namespace Go.Proofs.YtielicmjdhmcjaaGreatDoor
open Go.RowKit

def mkB (x : List UInt8) : ByteArray := ⟨x.toArray⟩
theorem indexB_mk (l : List UInt8) : Lib.indexB ⟨l.toArray⟩ ⟨#[32]⟩ = Lib.index l [32] := rfl
theorem splitB_spl : ∀ (n : Nat) (l : List UInt8), l.length ≤ n → ∀ k, (spl [] l).length ≤ k + 1 → Lib.splitB ⟨#[32]⟩ 0 k ⟨l.toArray⟩ = (spl [] l).map mkB
  | n, l, hn, k, hk => by
    rcases first_space l with h | ⟨a, r, rfl, ha⟩
    · rw [Lib.splitB_miss _ _ _ _ (by rw [indexB_mk, index_none32 l h]), spl_none h]; rfl
    · rw [spl_at ha] at hk ⊢
      have hp := spl_pos [] r
      simp only [List.length_cons] at hk
      match n, k with
      | n, 0 => omega
      | 0, k + 1 => simp at hn
      | n + 1, k + 1 =>
        have ih := splitB_spl n r (by simp at hn; omega) k (by omega)
        have hi : Lib.indexB ⟨(a ++ 32 :: r).toArray⟩ ⟨#[32]⟩ = a.length := by rw [indexB_mk, index_at32 a r ha]
        unfold Lib.splitB
        rw [hi, if_neg (by simp), List.map_cons]
        have e1 : ByteArray.extract ⟨(a ++ 32 :: r).toArray⟩ 0 ((a.length : Int).toNat + 0) = mkB a := by
          rw [ByteArray.extract_mk]; simp [mkB]
        have e2 : ByteArray.extract ⟨(a ++ 32 :: r).toArray⟩ ((a.length : Int).toNat + ByteArray.size ⟨#[32]⟩) (ByteArray.size ⟨(a ++ 32 :: r).toArray⟩) = ⟨r.toArray⟩ := by
          rw [ByteArray.extract_mk]
          have : ByteArray.size ⟨(a ++ 32 :: r).toArray⟩ = a.length + 1 + r.length := by show (a ++ 32 :: r).toArray.size = _; simp; omega
          rw [this]
          have h1 : ByteArray.size ⟨#[32]⟩ = 1 := rfl
          rw [h1]
          congr 1
          simp [List.take_of_length_le, List.drop_append]
        rw [e1, e2, ih]
theorem count_spl : ∀ (n : Nat) (l : List UInt8), l.length < n → Lib.countFrom [32] n l + 1 = (spl [] l).length
  | 0, l, h => by omega
  | n + 1, l, h => by
    unfold Lib.countFrom
    rcases first_space l with h1 | ⟨a, r, rfl, ha⟩
    · rw [index_none32 l h1, spl_none h1]; rfl
    · rw [index_at32 a r ha, spl_at ha, if_neg (by simp)]
      have e : (a ++ 32 :: r).drop ((a.length : Int).toNat + ([32] : List UInt8).length) = r := by simp [List.drop_append]
      rw [e]
      have := count_spl n r (by simp at h; omega)
      rw [List.length_cons]; omega
end Go.Proofs.YtielicmjdhmcjaaGreatDoor
