/- Reading texts in plain Lean: what a cursor has read after some rounds, numbers between places, words. No program in sight. -/
import Derived.Test.YtpomlbloeejbjaaDoorRows
import Derived.Test.YtpomlbloeejbjaaDoorBase
import Derived.Test.YtpomlbloeejbjaaDoorTextMore
namespace Go.Proofs.YtpomlbloeejbjaaDoor
open Go.RowKit

/-- The digits from a place on, k of them. -/
def part (l : List UInt8) (p k : Nat) : List UInt8 := (l.drop p).take k
theorem part_zero (l : List UInt8) (p : Nat) : part l p 0 = [] := by unfold part; simp
theorem part_snoc {l : List UInt8} {p k : Nat} {c : UInt8} (h : l[p + k]? = some c) : part l p (k + 1) = part l p k ++ [c] := by
  unfold part
  exact take_snoc _ _ _ (by rw [List.getElem?_drop]; exact h)
theorem part_len {l : List UInt8} {p k : Nat} (h : p + k ≤ l.length) : (part l p k).length = k := by
  unfold part; rw [List.length_take, List.length_drop]; omega
theorem part_all {l : List UInt8} {p k : Nat} {c : UInt8} (h : l[p + k]? = some c) (hd : isDig c = true) (ha : (part l p k).all isDig = true) : (part l p (k + 1)).all isDig = true := by
  rw [part_snoc h, List.all_append, ha]; simp [hd]
theorem part_val {l : List UInt8} {p k : Nat} {c : UInt8} (h : l[p + k]? = some c) : valD (part l p (k + 1)) = 10 * valD (part l p k) + ((c.toNat : Int) - 48) := by
  rw [part_snoc h, valD_snoc]

theorem fold_bd (ds : List UInt8) (h : ds.all isDig = true) : ∀ n m : Int, 0 ≤ n → n < m → 0 ≤ ds.foldl (fun n c => 10 * n + ((c.toNat : Int) - 48)) n ∧ ds.foldl (fun n c => 10 * n + ((c.toNat : Int) - 48)) n < m * 10 ^ ds.length := by
  induction ds with
  | nil => intro n m h0 h1; simpa using ⟨h0, h1⟩
  | cons c ds ih =>
    intro n m h0 h1
    rw [List.all_cons, Bool.and_eq_true] at h
    obtain ⟨hc, hd⟩ := h
    unfold isDig at hc
    simp only [Bool.and_eq_true, decide_eq_true_eq] at hc
    have := ih hd (10 * n + ((c.toNat : Int) - 48)) (10 * m) (by omega) (by omega)
    rw [List.foldl_cons, List.length_cons]
    refine ⟨this.1, ?_⟩
    have e : m * (10 : Int) ^ (ds.length + 1) = 10 * m * 10 ^ ds.length := by rw [Int.pow_succ, Int.mul_comm _ 10, ← Int.mul_assoc, Int.mul_comm m 10]
    rw [e]; exact this.2
theorem valD_bd {ds : List UInt8} (h : ds.all isDig = true) (hl : ds.length ≤ 6) : 0 ≤ valD ds ∧ valD ds < 1000000 := by
  have := fold_bd ds h 0 1 (by omega) (by omega)
  refine ⟨this.1, Int.lt_of_lt_of_le this.2 ?_⟩
  have e : ds.length = 0 ∨ ds.length = 1 ∨ ds.length = 2 ∨ ds.length = 3 ∨ ds.length = 4 ∨ ds.length = 5 ∨ ds.length = 6 := by omega
  rcases e with e | e | e | e | e | e | e <;> rw [e] <;> decide
theorem valD_bd2 {ds : List UInt8} (h : ds.all isDig = true) (hl : ds.length ≤ 5) : 0 ≤ valD ds ∧ valD ds < 100000 := by
  have := fold_bd ds h 0 1 (by omega) (by omega)
  refine ⟨this.1, Int.lt_of_lt_of_le this.2 ?_⟩
  have e : ds.length = 0 ∨ ds.length = 1 ∨ ds.length = 2 ∨ ds.length = 3 ∨ ds.length = 4 ∨ ds.length = 5 := by omega
  rcases e with e | e | e | e | e | e <;> rw [e] <;> decide

theorem digs_end {l : List UInt8} {p k : Nat} (ha : (part l p k).all isDig = true) (hk : k ≤ 6) (hp : p + k ≤ l.length) (hs : k = 6 ∨ p + k = l.length ∨ ∃ c, l[p + k]? = some c ∧ isDig c = false) : digsAt l p = part l p k := by
  have e : (l.drop p).take 6 = part l p k ++ ((l.drop p).take 6).drop k := by
    have h1 := (List.take_append_drop k ((l.drop p).take 6)).symm
    rw [List.take_take, Nat.min_eq_left hk] at h1
    exact h1
  unfold digsAt
  rw [e]
  refine takeWhile_stop isDig _ _ (List.all_eq_true.1 ha) (fun c hc => ?_)
  rw [List.getElem?_drop, Nat.add_zero] at hc
  by_cases h6 : k < 6
  · rw [List.getElem?_take_of_lt h6, List.getElem?_drop] at hc
    rcases hs with hs | hs | ⟨c', h1, h2⟩
    · omega
    · rw [List.getElem?_eq_none (by omega)] at hc; cases hc
    · rw [h1] at hc; cases hc; exact h2
  · rw [List.getElem?_eq_none (by rw [List.length_take]; omega)] at hc; cases hc
theorem digs_bd (l : List UInt8) (p : Nat) : (digsAt l p).all isDig = true ∧ (digsAt l p).length ≤ 6 := by
  unfold digsAt
  refine ⟨List.all_eq_true.2 (fun c hc => ?_), ?_⟩
  · exact List.all_eq_true.1 (List.all_takeWhile) c hc
  · have := (List.takeWhile_sublist isDig (l := (l.drop p).take 6)).length_le
    rw [List.length_take] at this; omega
theorem num_at_bd (l : List UInt8) (p : Nat) : 0 ≤ numAt l p ∧ numAt l p < 1000000 := valD_bd (digs_bd l p).1 (digs_bd l p).2
theorem num_end {l : List UInt8} {p k : Nat} (ha : (part l p k).all isDig = true) (hk : k ≤ 6) (hp : p + k ≤ l.length) (hs : k = 6 ∨ p + k = l.length ∨ ∃ c, l[p + k]? = some c ∧ isDig c = false) : numAt l p = valD (part l p k) ∧ endAt l p = p + k := by
  have e := digs_end ha hk hp hs
  refine ⟨by unfold numAt; rw [e], by unfold endAt; rw [e, part_len hp]⟩
theorem end_le {l : List UInt8} {p : Nat} (h : p ≤ l.length) : endAt l p ≤ l.length := by
  unfold endAt digsAt
  have := (List.takeWhile_sublist isDig (l := (l.drop p).take 6)).length_le
  rw [List.length_take, List.length_drop] at this
  omega
theorem skip_le {l : List UInt8} {b : UInt8} {p : Nat} (h : p ≤ l.length) : skipAt l b p ≤ l.length := by
  unfold skipAt
  split
  · rename_i h1; have := lt_of_at h1; omega
  · exact h
theorem dend_le {l : List UInt8} {p : Nat} (h : p ≤ l.length) : dP1 l p ≤ l.length ∧ dP2 l p ≤ l.length ∧ dEnd l p ≤ l.length := by
  have a := skip_le (b := 45) (end_le h)
  have b := skip_le (b := 45) (end_le a)
  exact ⟨a, b, end_le b⟩

/- Numbers between two places. -/
theorem numS_all {l : List UInt8} {p k : Nat} (ha : (part l p k).all isDig = true) (hp : p + k ≤ l.length) : numS l p k = valD (part l p k) := by
  unfold numS
  rw [if_pos ⟨part_len hp, ha⟩]; rfl
theorem numS_out {l : List UInt8} {p k j : Nat} (h : p + j = l.length) (hj : j < k) : numS l p k = -1 := by
  unfold numS
  rw [if_neg]
  rintro ⟨h1, _⟩
  rw [List.length_take, List.length_drop] at h1; omega
theorem numS_bad {l : List UInt8} {p k j : Nat} {c : UInt8} (h : l[p + j]? = some c) (hj : j < k) (hc : isDig c = false) : numS l p k = -1 := by
  unfold numS
  rw [if_neg]
  rintro ⟨_, h2⟩
  have hm : c ∈ (l.drop p).take k := by
    refine List.mem_of_getElem? (i := j) ?_
    rw [List.getElem?_take_of_lt hj, List.getElem?_drop]; exact h
  have := List.all_eq_true.1 h2 c hm
  rw [hc] at this; cases this
theorem numS_bd (l : List UInt8) (p k : Nat) (hk : k ≤ 5) : -1 ≤ numS l p k ∧ numS l p k < 100000 := by
  unfold numS
  split
  · rename_i h
    have := valD_bd2 h.2 (by rw [h.1]; exact hk)
    omega
  · omega

/- Words. -/
theorem spl_at_space {l : List UInt8} {a i : Nat} (ha : a ≤ i) (h : l[i]? = some 32) : spl (part l a (i - a)) (l.drop i) = part l a (i - a) :: spl [] (l.drop (i + 1)) := by
  have hl := lt_of_at h
  rw [List.drop_eq_getElem_cons hl]
  have e : l[i] = 32 := by
    have := List.getElem?_eq_getElem hl
    rw [h] at this; exact (Option.some.inj this).symm
  rw [e, spl, if_pos rfl]
theorem spl_at_other {l : List UInt8} {a i : Nat} {c : UInt8} (ha : a ≤ i) (h : l[i]? = some c) (hc : c ≠ 32) : spl (part l a (i - a)) (l.drop i) = spl (part l a (i + 1 - a)) (l.drop (i + 1)) := by
  have hl := lt_of_at h
  rw [List.drop_eq_getElem_cons hl]
  have e : l[i] = c := by
    have := List.getElem?_eq_getElem hl
    rw [h] at this; exact (Option.some.inj this).symm
  rw [e, spl, if_neg hc, show i + 1 - a = (i - a) + 1 by omega, part_snoc (c := c) (by rw [show a + (i - a) = i by omega]; exact h)]
theorem spl_at_end {l : List UInt8} {a : Nat} : spl (part l a (l.length - a)) (l.drop l.length) = [part l a (l.length - a)] := by
  rw [List.drop_length, spl]

/- What ParseDate and ParseBond return. -/
def pdY (l : List UInt8) : Int := if pdOk l = true then dY l 0 else 0
def pdM (l : List UInt8) : Int := if pdOk l = true then dM l 0 else 0
def pdD (l : List UInt8) : Int := if pdOk l = true then dD l 0 else 0
theorem pd_len {l : List UInt8} (h : pdOk l = true) : l.length = 10 := by
  obtain ⟨a, b⟩ := pd_is h
  rw [← b]; exact dateT_len ((dateB_iff _ _ _).1 a)
theorem pd_fmt {l : List UInt8} (h : pdOk l = true) : fmtDate (dY l 0) (dM l 0) (dD l 0) = l := by
  obtain ⟨a, b⟩ := pd_is h
  unfold fmtDate; rw [if_pos a]; exact b
theorem pd_fmt_no {l : List UInt8} (h : pdOk l = false) (h0 : l ≠ []) : fmtDate (dY l 0) (dM l 0) (dD l 0) ≠ l := by
  intro he
  unfold fmtDate at he
  split at he
  · rename_i hv
    rw [(pd_of hv he).1] at h; cases h
  · exact h0 he.symm
theorem pd_nil : pdOk [] = false := by
  cases h : pdOk [] with
  | false => rfl
  | true => have := pd_len h; simp at this

def zeroB : Bond := ⟨0, 0, 0, 0⟩
def pbV (l : List UInt8) : Bond := if pbOk l = true then curB l else zeroB
theorem pb_fmt {l : List UInt8} (h : pbOk l = true) : fmtBond (curB l) = l := by
  obtain ⟨a, b⟩ := pb_is h
  unfold fmtBond; rw [if_pos a]; exact b
theorem pb_fmt_no {l : List UInt8} (h : pbOk l = false) (h0 : l ≠ []) : fmtBond (curB l) ≠ l := by
  intro he
  unfold fmtBond at he
  split at he
  · rename_i hv
    rw [(pb_of hv he).1] at h; cases h
  · exact h0 he.symm
theorem pb_no {l : List UInt8} {b : Bond} (h : pbOk l = false) (hb : bondB b = true) : bondT b ≠ l := by
  intro he
  rw [(pb_of hb he).1] at h; cases h
theorem pb_nil : pbOk [] = false := by
  cases h : pbOk [] with
  | false => rfl
  | true => exact (bondT_ne _ (pb_is h).2).elim
theorem day_word {n : Int} (h0 : 0 ≤ n) (h1 : n ≤ 36524) : pdOk (dayT n) = true ∧ dY (dayT n) 0 = yF n ∧ dM (dayT n) 0 = mF n ∧ dD (dayT n) 0 = dF n ∧ numF (yF n) (mF n) (dF n) = n := by
  have hv := date_valid n h0 h1
  obtain ⟨a, b, c, d⟩ := pd_of (l := dayT n) ((dateB_iff _ _ _).2 hv) rfl
  exact ⟨a, b, c, d, num_date n⟩
/-- What the reference meets at a bond's text. -/
theorem pb_yes {l a b c d : List UInt8} (h : pbOk l = true) (hw : spl [] l = [a, b, c, d]) :
    (4 ≤ a.length ∧ a.length ≤ 5 ∧ d.length ≤ 2) ∧ (pdOk b = true ∧ pdOk c = true) ∧ (numF (dY b 0) (dM b 0) (dD b 0) = (curB l).start ∧ numF (dY c 0) (dM c 0) (dD c 0) = (curB l).stop) ∧
    (numS a 0 (a.length - 3) = (curB l).rate / 100 ∧ numS a (a.length - 2) 2 = (curB l).rate % 100) ∧ numS d 0 d.length = (curB l).months := by
  obtain ⟨hb, ht⟩ := pb_is h
  obtain ⟨⟨s0, s1⟩, ⟨e0, e1⟩, ⟨r0, r1⟩, m0, m1⟩ := bond_days hb
  have h4 := bond_words ht
  rw [hw] at h4
  simp only [List.cons.injEq, and_true] at h4
  obtain ⟨rfl, rfl, rfl, rfl⟩ := h4
  obtain ⟨w1, w2, w3, w4⟩ := rate_word r0 r1
  obtain ⟨a1, a2, a3, a4, a5⟩ := day_word s0 s1
  obtain ⟨b1, b2, b3, b4, b5⟩ := day_word e0 e1
  have hd := dec_len12 (curB l).months (by omega) (by omega)
  refine ⟨⟨w1, w2, hd.2⟩, ⟨a1, b1⟩, ⟨by rw [a2, a3, a4, a5], by rw [b2, b3, b4, b5]⟩, ⟨w3, w4⟩, ?_⟩
  have := numS_of (l := dec (curB l).months) (a := 0) (ds := dec (curB l).months) (rest := []) (by simp) (dec_dig _)
  rw [this, valD_dec _ (by omega)]
theorem pb_words {l : List UInt8} (h : pbOk l = true) : (spl [] l).length = 4 := by
  rw [bond_words (pb_is h).2]; rfl
theorem pb_bond {l : List UInt8} : (⟨(curB l).start, (curB l).stop, (curB l).months, 100 * ((curB l).rate / 100) + (curB l).rate % 100⟩ : Bond) = curB l := by
  rw [show 100 * ((curB l).rate / 100) + (curB l).rate % 100 = (curB l).rate by omega]

/- The order of dates. -/
theorem order_next {y m d k : Int} (h : dateB y m d = true) (hk : 0 ≤ k) (hn : 0 ≤ numF y m d + 1 + k) (hn2 : numF y m d + 1 + k ≤ 36524) : Op.bytesLess (fmtDate y m d) (fmtDate (yF (numF y m d + 1 + k)) (mF (numF y m d + 1 + k)) (dF (numF y m d + 1 + k))) = true := by
  have hv := (dateB_iff _ _ _).1 h
  have hw := date_valid _ hn hn2
  unfold fmtDate
  rw [if_pos h, if_pos ((dateB_iff _ _ _).2 hw)]
  exact less_date hv hw (by rw [num_date]; omega)
end Go.Proofs.YtpomlbloeejbjaaDoor
