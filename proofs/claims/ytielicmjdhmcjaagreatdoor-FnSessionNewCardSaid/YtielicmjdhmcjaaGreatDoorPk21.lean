/- Packed: Trades, Lots. -/
import Derived.Test.YtielicmjdhmcjaaGreatDoorRows
import Derived.Test.YtielicmjdhmcjaaGreatDoorPk07
import Derived.ArgAppend
/- Trades in plain Lean: when they are valid, which position and which gain they leave. No program in sight. -/
namespace Go.Proofs.YtielicmjdhmcjaaGreatDoor
open Go.RowKit

def trB (x : Trade) : Bool := withinB x.day 0 36524 && ((x.many != 0) && (withinB x.many (-9999) 9999 && withinB x.price 1 50000))
def okAt (xs : List Trade) (i : Nat) : Bool := trB (xs.getD i ⟨0, 0, 0⟩) && ((i == 0) || decide ((xs.getD (i - 1) ⟨0, 0, 0⟩).day ≤ (xs.getD i ⟨0, 0, 0⟩).day))
def upto (xs : List Trade) (k : Nat) : Bool := (List.range k).all (okAt xs)
def tradesB (xs : List Trade) : Bool := decide (xs.length ≤ 16) && upto xs xs.length
theorem upto_zero (xs : List Trade) : upto xs 0 = true := rfl
theorem upto_succ (xs : List Trade) (k : Nat) : upto xs (k + 1) = (upto xs k && okAt xs k) := by
  unfold upto; rw [List.range_succ, List.all_append]; simp
theorem upto_of (xs : List Trade) (n k : Nat) (h : k < n) (hu : upto xs n = true) : okAt xs k = true := by
  unfold upto at hu; rw [List.all_eq_true] at hu; exact hu k (List.mem_range.2 h)
theorem trades_big {xs : List Trade} (h : 16 < xs.length) : tradesB xs = false := by
  unfold tradesB; rw [decide_eq_false (by omega)]; rfl
theorem trades_bad {xs : List Trade} (k : Nat) (hk : k < xs.length) (h : okAt xs k = false) : tradesB xs = false := by
  cases hu : upto xs xs.length with
  | false => unfold tradesB; rw [hu]; simp
  | true => have := upto_of xs _ k hk hu; rw [h] at this; cases this
theorem trades_all {xs : List Trade} (h : xs.length ≤ 16) (hu : upto xs xs.length = true) : tradesB xs = true := by
  unfold tradesB; rw [hu, decide_eq_true h]; rfl
theorem trades_len {xs : List Trade} (h : tradesB xs = true) : xs.length ≤ 16 := by
  unfold tradesB at h; simp at h; exact h.1
theorem trades_at {xs : List Trade} (h : tradesB xs = true) (k : Nat) (x : Trade) (hx : xs[k]? = some x) : trB x = true := by
  unfold tradesB at h
  simp only [Bool.and_eq_true, decide_eq_true_eq] at h
  have hk : k < xs.length := by
    by_cases hlt : k < xs.length
    · exact hlt
    · rw [List.getElem?_eq_none (by omega)] at hx; cases hx
  have := upto_of xs _ k hk h.2
  unfold okAt at this
  rw [List.getD_eq_getElem?_getD, hx] at this
  simp only [Option.getD_some, Bool.and_eq_true] at this
  exact this.1
theorem okAt_eq {xs : List Trade} {k : Nat} {x : Trade} (hx : xs[k]? = some x) (y : Trade) (hy : 0 < k → xs[k - 1]? = some y) :
    okAt xs k = (trB x && ((k == 0) || decide (y.day ≤ x.day))) := by
  unfold okAt
  rw [List.getD_eq_getElem?_getD, List.getD_eq_getElem?_getD, hx]
  by_cases h0 : k = 0
  · subst h0; simp
  · rw [hy (by omega)]; rfl
theorem trB_bd {x : Trade} (h : trB x = true) : (0 ≤ x.day ∧ x.day ≤ 36524) ∧ x.many ≠ 0 ∧ (-9999 ≤ x.many ∧ x.many ≤ 9999) ∧ 1 ≤ x.price ∧ x.price ≤ 50000 := by
  unfold trB withinB at h; simp at h; omega

/- Positions. -/
def posS (day : Int) (s : Int) (x : Trade) : Int := if x.day ≤ day then s + x.many else s
def posL (day : Int) (xs : List Trade) : Int := xs.foldl (posS day) 0
def posF (xs : List Trade) (day : Int) : Int := if tradesB xs = true then posL day xs else 0
theorem pos_snoc (day : Int) (xs : List Trade) (x : Trade) : posL day (xs ++ [x]) = posS day (posL day xs) x := by unfold posL; rw [List.foldl_append]; rfl
theorem pos_from (day : Int) (xs : List Trade) (h : ∀ x ∈ xs, -9999 ≤ x.many ∧ x.many ≤ 9999) : ∀ s : Int, s - 9999 * (xs.length : Int) ≤ xs.foldl (posS day) s ∧ xs.foldl (posS day) s ≤ s + 9999 * (xs.length : Int) := by
  induction xs with
  | nil => intro s; simp
  | cons x xs ih =>
    intro s
    have h1 := ih (fun z hz => h z (by simp [hz])) (posS day s x)
    have h2 := h x (by simp)
    have h3 : s - 9999 ≤ posS day s x ∧ posS day s x ≤ s + 9999 := by unfold posS; split <;> omega
    rw [List.foldl_cons, List.length_cons]
    omega
theorem pos_bd (day : Int) (xs : List Trade) (h : ∀ x ∈ xs, -9999 ≤ x.many ∧ x.many ≤ 9999) : -(9999 * (xs.length : Int)) ≤ posL day xs ∧ posL day xs ≤ 9999 * (xs.length : Int) := by
  have := pos_from day xs h 0
  unfold posL
  omega
theorem posF_bd (xs : List Trade) (day : Int) : -200000 ≤ posF xs day ∧ posF xs day ≤ 200000 := by
  unfold posF
  split
  · rename_i h
    have hl := trades_len h
    have := pos_bd day xs (fun x hx => by
      obtain ⟨k, hk, rfl⟩ := List.getElem_of_mem hx
      exact (trB_bd (trades_at h k _ (List.getElem?_eq_getElem hk))).2.2.1)
    omega
  · omega

/- Gains. -/
def lotN (left : Int) (l : Lot) : Int := min (max l.many (-l.many)) (max left (-left))
def lotG (p left : Int) (l : Lot) : Int := if 0 < left then lotN left l * (l.price - p) else lotN left l * (p - l.price)
def lotR (left : Int) (l : Lot) : Int := if 0 < left then left - lotN left l else left + lotN left l
def lotM (left : Int) (l : Lot) : Int := if 0 < left then l.many + lotN left l else l.many - lotN left l
def meets (left : Int) (l : Lot) : Bool := (left != 0) && (decide (0 < l.many) != decide (0 < left))
def closeF (p : Int) : Int → List Lot → Int → List Lot × Int × Int
  | left, [], g => ([], left, g)
  | left, l :: ls, g => if meets left l = true then (if lotM left l = 0 then closeF p (lotR left l) ls (g + lotG p left l) else (⟨lotM left l, l.price⟩ :: ls, lotR left l, g + lotG p left l)) else (l :: ls, left, g)
def takeF (s : List Lot × Int) (t : Trade) : List Lot × Int :=
  if (closeF t.price t.many s.1 s.2).2.1 = 0 then ((closeF t.price t.many s.1 s.2).1, (closeF t.price t.many s.1 s.2).2.2)
  else ((closeF t.price t.many s.1 s.2).1 ++ [⟨(closeF t.price t.many s.1 s.2).2.1, t.price⟩], (closeF t.price t.many s.1 s.2).2.2)
def gainL (xs : List Trade) : List Lot × Int := xs.foldl takeF ([], 0)
def gainF (xs : List Trade) : Int := if tradesB xs = true then (gainL xs).2 else 0
theorem gain_snoc (xs : List Trade) (x : Trade) : gainL (xs ++ [x]) = takeF (gainL xs) x := by unfold gainL; rw [List.foldl_append]; rfl

structure OkLot (l : Lot) : Prop where
  n0 : l.many ≠ 0
  lo : -9999 ≤ l.many
  hi : l.many ≤ 9999
  p0 : 1 ≤ l.price
  p1 : l.price ≤ 50000
def pot (left : Int) (ls : List Lot) (g : Int) : Int := max g (-g) + 500000000 * (ls.length : Int) + (if left = 0 then 0 else 500000000)

theorem meets_facts {left : Int} {l : Lot} (h : meets left l = true) (hl : OkLot l) (h0 : -9999 ≤ left) (h1 : left ≤ 9999) :
    left ≠ 0 ∧ (1 ≤ lotN left l ∧ lotN left l ≤ 9999) ∧ (lotM left l ≠ 0 → lotR left l = 0) ∧ (lotR left l ≤ 9999 ∧ -9999 ≤ lotR left l) ∧ (lotM left l ≤ 9999 ∧ -9999 ≤ lotM left l) := by
  unfold meets at h
  have hn0 := hl.n0; have hlo := hl.lo; have hhi := hl.hi
  unfold lotM lotR lotN
  simp only [Bool.and_eq_true, bne_iff_ne, ne_eq] at h
  obtain ⟨a, b⟩ := h
  have b2 : ¬ (0 < l.many ↔ 0 < left) := fun e => b (by simp [e])
  refine ⟨a, ?_, ?_, ?_, ?_⟩ <;> (repeat' split) <;> omega
theorem mul_in (n d : Int) (h0 : 0 ≤ n) (h1 : n ≤ 9999) (d0 : -50000 ≤ d) (d1 : d ≤ 50000) : -500000000 ≤ n * d ∧ n * d ≤ 500000000 := by
  have a : n * d ≤ n * 50000 := Int.mul_le_mul_of_nonneg_left d1 h0
  have b : n * (-50000) ≤ n * d := Int.mul_le_mul_of_nonneg_left d0 h0
  omega
theorem lotG_bd {p left : Int} {l : Lot} (h : meets left l = true) (hl : OkLot l) (h0 : -9999 ≤ left) (h1 : left ≤ 9999) (p0 : 1 ≤ p) (p1 : p ≤ 50000) : -500000000 ≤ lotG p left l ∧ lotG p left l ≤ 500000000 := by
  obtain ⟨_, hn, _⟩ := meets_facts h hl h0 h1
  have := hl.p0; have := hl.p1
  unfold lotG
  split
  · exact mul_in _ _ (by omega) (by omega) (by omega) (by omega)
  · exact mul_in _ _ (by omega) (by omega) (by omega) (by omega)
theorem close_zero (p : Int) (ls : List Lot) (g : Int) : closeF p 0 ls g = (ls, 0, g) := by
  cases ls with
  | nil => rfl
  | cons l ls => rw [closeF, if_neg (by simp [meets])]
theorem close_nil (p left g : Int) : closeF p left [] g = ([], left, g) := rfl
theorem close_stop {p left g : Int} {l : Lot} {ls : List Lot} (h : meets left l = false) : closeF p left (l :: ls) g = (l :: ls, left, g) := by
  rw [closeF, if_neg (by rw [h]; simp)]
theorem close_drop {p left g : Int} {l : Lot} {ls : List Lot} (h : meets left l = true) (hm : lotM left l = 0) : closeF p left (l :: ls) g = closeF p (lotR left l) ls (g + lotG p left l) := by
  rw [closeF, if_pos h, if_pos hm]
theorem close_part {p left g : Int} {l : Lot} {ls : List Lot} (h : meets left l = true) (hm : lotM left l ≠ 0) (hl : OkLot l) (h0 : -9999 ≤ left) (h1 : left ≤ 9999) :
    closeF p left (l :: ls) g = closeF p (lotR left l) (⟨lotM left l, l.price⟩ :: ls) (g + lotG p left l) := by
  obtain ⟨_, _, h3, _⟩ := meets_facts h hl h0 h1
  rw [closeF, if_pos h, if_neg hm, h3 hm, close_zero]

theorem pot_drop {p left g : Int} {l : Lot} {ls : List Lot} (h : meets left l = true) (hl : OkLot l) (h0 : -9999 ≤ left) (h1 : left ≤ 9999) (p0 : 1 ≤ p) (p1 : p ≤ 50000) :
    pot (lotR left l) ls (g + lotG p left l) ≤ pot left (l :: ls) g := by
  obtain ⟨a, _, _⟩ := meets_facts h hl h0 h1
  have := lotG_bd h hl h0 h1 p0 p1
  generalize lotG p left l = G at *
  generalize lotR left l = R at *
  unfold pot
  rw [if_neg a, List.length_cons]
  split <;> omega
theorem pot_part {p left g : Int} {l l2 : Lot} {ls : List Lot} (h : meets left l = true) (hm : lotM left l ≠ 0) (hl : OkLot l) (h0 : -9999 ≤ left) (h1 : left ≤ 9999) (p0 : 1 ≤ p) (p1 : p ≤ 50000) :
    pot (lotR left l) (l2 :: ls) (g + lotG p left l) ≤ pot left (l :: ls) g := by
  obtain ⟨a, _, h3, _⟩ := meets_facts h hl h0 h1
  have := lotG_bd h hl h0 h1 p0 p1
  rw [h3 hm]
  generalize lotG p left l = G at *
  unfold pot
  rw [if_neg a, if_pos rfl, List.length_cons, List.length_cons]
  omega
theorem pot_bd {left g c : Int} {ls : List Lot} (h : pot left ls g ≤ 500000000 * c) : -(500000000 * c) ≤ g ∧ g ≤ 500000000 * c ∧ (ls.length : Int) ≤ c := by
  unfold pot at h
  split at h <;> omega
structure Lots (k : Nat) (s : List Lot × Int) : Prop where
  ok : ∀ l ∈ s.1, OkLot l
  bd : pot 0 s.1 s.2 ≤ 500000000 * (k : Int)
theorem lots_nil : Lots 0 ([], 0) := ⟨by simp, by simp [pot]⟩
theorem Lots.start {k : Nat} {s : List Lot × Int} (h : Lots k s) (left : Int) : pot left s.1 s.2 ≤ 500000000 * ((k : Int) + 1) := by
  have := h.bd
  unfold pot at *
  split <;> simp at this <;> omega
theorem lots_end {k : Nat} {left g : Int} {ls : List Lot} {t : Trade} (hls : ∀ l ∈ ls, OkLot l) (h : pot left ls g ≤ 500000000 * ((k : Int) + 1)) (h0 : -9999 ≤ left) (h1 : left ≤ 9999) (p0 : 1 ≤ t.price) (p1 : t.price ≤ 50000) :
    Lots (k + 1) (if left = 0 then (ls, g) else (ls ++ [⟨left, t.price⟩], g)) := by
  by_cases hz : left = 0
  · rw [if_pos hz]
    refine ⟨hls, ?_⟩
    unfold pot at *
    rw [if_pos hz] at h
    simp only [if_true]
    omega
  · rw [if_neg hz]
    refine ⟨fun l hl => ?_, ?_⟩
    · rcases List.mem_append.1 hl with hl | hl
      · exact hls l hl
      · rw [List.mem_singleton.1 hl]; exact ⟨hz, h0, h1, p0, p1⟩
    · unfold pot at *
      rw [if_neg hz] at h
      simp only [if_true, List.length_append, List.length_singleton]
      omega
theorem close_ok {p : Int} (p0 : 1 ≤ p) (p1 : p ≤ 50000) : ∀ (ls : List Lot) (left g : Int), (∀ l ∈ ls, OkLot l) → -9999 ≤ left → left ≤ 9999 →
    (∀ l ∈ (closeF p left ls g).1, OkLot l) ∧ (-9999 ≤ (closeF p left ls g).2.1 ∧ (closeF p left ls g).2.1 ≤ 9999) ∧ pot (closeF p left ls g).2.1 (closeF p left ls g).1 (closeF p left ls g).2.2 ≤ pot left ls g
  | [], left, g, hl, h0, h1 => ⟨hl, ⟨h0, h1⟩, Int.le_refl _⟩
  | l :: ls, left, g, hl, h0, h1 => by
    have hll := hl l (by simp)
    cases hm : meets left l with
    | false => rw [close_stop hm]; exact ⟨hl, ⟨h0, h1⟩, Int.le_refl _⟩
    | true =>
      obtain ⟨_, _, h3, h4, h5⟩ := meets_facts hm hll h0 h1
      by_cases hz : lotM left l = 0
      · rw [close_drop hm hz]
        obtain ⟨a, b, c⟩ := close_ok p0 p1 ls (lotR left l) (g + lotG p left l) (fun z hz => hl z (by simp [hz])) (by omega) (by omega)
        exact ⟨a, b, Int.le_trans c (pot_drop hm hll h0 h1 p0 p1)⟩
      · rw [closeF, if_pos hm, if_neg hz]
        refine ⟨fun z hz2 => ?_, by simp only; omega, pot_part hm hz hll h0 h1 p0 p1⟩
        rcases List.mem_cons.1 hz2 with rfl | hz2
        · exact ⟨hz, h5.2, h5.1, hll.p0, hll.p1⟩
        · exact hl z (by simp [hz2])
theorem take_ok {k : Nat} {s : List Lot × Int} {t : Trade} (h : Lots k s) (ht : trB t = true) : Lots (k + 1) (takeF s t) := by
  obtain ⟨_, _, ⟨m0, m1⟩, p0, p1⟩ := trB_bd ht
  obtain ⟨a, b, c⟩ := close_ok p0 p1 s.1 t.many s.2 h.ok m0 m1
  have := lots_end (t := t) a (Int.le_trans c (h.start t.many)) b.1 b.2 p0 p1
  unfold takeF
  exact this
theorem gain_ok {xs : List Trade} (h : tradesB xs = true) : ∀ k, k ≤ xs.length → Lots k (gainL (xs.take k))
  | 0, _ => by rw [List.take_zero]; exact lots_nil
  | k + 1, hk => by
    have ih := gain_ok h k (by omega)
    have hx : xs[k]? = some xs[k] := List.getElem?_eq_getElem (by omega)
    rw [take_snoc _ _ _ hx, gain_snoc]
    exact take_ok ih (trades_at h k _ hx)
theorem gainF_bd (xs : List Trade) : -8000000000 ≤ gainF xs ∧ gainF xs ≤ 8000000000 := by
  unfold gainF
  split
  · rename_i h
    have hl := trades_len h
    have := pot_bd (gain_ok h xs.length (Nat.le_refl _)).bd
    rw [List.take_length] at this
    omega
  · omega
end Go.Proofs.YtielicmjdhmcjaaGreatDoor

/- A slice of lots that the call has made, at whatever place of its block, with the room behind it: how it reads, how it is written, cut and appended to. -/
namespace Go.Proofs.YtielicmjdhmcjaaGreatDoor
open Go.RowKit

structure Qs (w : World) (base : Nat) (a : Option Addr) (n cap : Nat) (xs : List Lot) : Prop where
  len : xs.length = n
  nc : n ≤ cap
  cm : cap ≤ maxLen
  nil : a = none → cap = 0
  mem : 0 < cap → ∃ b off, a = some ⟨b, off, none⟩ ∧ base ≤ b ∧ b < w.heap.size ∧ (∀ o, w.frozen? ⟨b, o, none⟩ = false) ∧ (∀ j, j < cap * 2 → (w.cell? ⟨b, off + j, none⟩).isSome = true) ∧
    ∀ (k : Nat) (x : Lot), xs[k]? = some x → w.cell? ⟨b, off + k * 2, none⟩ = some (.int .i64 x.many) ∧ w.cell? ⟨b, off + k * 2 + 1, none⟩ = some (.int .i64 x.price)

theorem Qs.none0 (w : World) (base : Nat) : Qs w base none 0 0 [] := ⟨rfl, Nat.le_refl _, by simp [maxLen], fun _ => rfl, fun h => by omega⟩
theorem Qs.some0 (w : World) (base : Nat) (a : Addr) : Qs w base (some a) 0 0 [] := ⟨rfl, Nat.le_refl _, by simp [maxLen], fun _ => rfl, fun h => by omega⟩
theorem Qs.mono {w : World} {base base' : Nat} {a : Option Addr} {n cap : Nat} {xs : List Lot} (h : Qs w base a n cap xs) (hb : base' ≤ base) : Qs w base' a n cap xs :=
  ⟨h.len, h.nc, h.cm, h.nil, fun h0 => by
    obtain ⟨b, off, e, h1, h2⟩ := h.mem h0
    exact ⟨b, off, e, by omega, h2⟩⟩
theorem Qs.keep {w w' : World} {base : Nat} {a : Option Addr} {n cap : Nat} {xs : List Lot} {r : Option Nat} (h : Qs w base a n cap xs) (g : w.grownBy w' r) (hr : 0 < cap → ∀ b off, a = some ⟨b, off, none⟩ → r ≠ some b) : Qs w' base a n cap xs := by
  refine ⟨h.len, h.nc, h.cm, h.nil, fun h0 => ?_⟩
  obtain ⟨b, off, e, h1, h2, h3, h4, h5⟩ := h.mem h0
  have hne : some b ≠ r := fun he => hr h0 b off e he.symm
  have hb := g.block b h2 hne
  refine ⟨b, off, e, h1, Nat.lt_of_lt_of_le h2 g.size, fun o => ?_, fun j hj => ?_, fun k x hx => ?_⟩
  · rw [World.frozen?_of_block (w := w) hb]; exact h3 o
  · rw [World.cell?_of_block (a := ⟨b, off + j, none⟩) hb]; exact h4 j hj
  · rw [World.cell?_of_block (a := ⟨b, off + k * 2, none⟩) hb, World.cell?_of_block (a := ⟨b, off + k * 2 + 1, none⟩) hb]; exact h5 k x hx
theorem Qs.keep0 {w w' : World} {base : Nat} {a : Option Addr} {n cap : Nat} {xs : List Lot} (h : Qs w base a n cap xs) (g : w.grownBy w' none) : Qs w' base a n cap xs := h.keep g (fun _ _ _ _ => by simp)
theorem Qs.head {w : World} {base : Nat} {a : Option Addr} {n cap : Nat} {l : Lot} {ls : List Lot} (h : Qs w base a n cap (l :: ls)) :
    ∃ b off, a = some ⟨b, off, none⟩ ∧ base ≤ b ∧ b < w.heap.size ∧ (∀ o, w.frozen? ⟨b, o, none⟩ = false) ∧ w.cell? ⟨b, off, none⟩ = some (.int .i64 l.many) ∧ w.cell? ⟨b, off + 1, none⟩ = some (.int .i64 l.price) := by
  have hl := h.len
  have hn := h.nc
  simp only [List.length_cons] at hl
  obtain ⟨b, off, e, h1, h2, h3, h4, h5⟩ := h.mem (by omega)
  obtain ⟨c0, c1⟩ := h5 0 l rfl
  exact ⟨b, off, e, h1, h2, h3, by simpa using c0, by simpa using c1⟩
theorem isSome_setCell {w : World} {p q : Addr} {v : Value} (h : (w.cell? q).isSome = true) : ((w.setCell p v).cell? q).isSome = true := by
  by_cases e : p = q
  · subst e
    cases hc : w.cell? p with
    | none => rw [hc] at h; cases h
    | some u => rw [World.cell?_setCell_same _ _ _ hc]; rfl
  · rw [World.cell?_setCell_other _ _ _ _ e]; exact h
theorem Qs.setHead {w : World} {base b off n cap : Nat} {l : Lot} {ls : List Lot} (h : Qs w base (some ⟨b, off, none⟩) n cap (l :: ls)) (m : Int) : Qs (w.setCell ⟨b, off, none⟩ (.int .i64 m)) base (some ⟨b, off, none⟩) n cap (⟨m, l.price⟩ :: ls) := by
  refine ⟨by simpa using h.len, h.nc, h.cm, h.nil, fun h0 => ?_⟩
  obtain ⟨b', off', e, h1, h2, h3, h4, h5⟩ := h.mem h0
  cases e
  refine ⟨b, off, rfl, h1, by simpa [World.setCell] using h2, fun o => by rw [frozen_setCell]; exact h3 o, fun j hj => isSome_setCell (h4 j hj), fun k x hx => ?_⟩
  cases k with
  | zero =>
    obtain rfl : (⟨m, l.price⟩ : Lot) = x := by simpa using hx
    obtain ⟨c0, c1⟩ := h5 0 l rfl
    simp only [Nat.zero_mul, Nat.add_zero] at c0 c1 ⊢
    exact ⟨cell_set_same c0 _, by rw [cell_set_other (by omega)]; exact c1⟩
  | succ k =>
    obtain ⟨c0, c1⟩ := h5 (k + 1) x (by simpa using hx)
    exact ⟨by rw [cell_set_other (by omega)]; exact c0, by rw [cell_set_other (by omega)]; exact c1⟩
def tailOff (off cap : Nat) : Nat := if cap = 1 then off else off + 2
theorem Qs.tail {w : World} {base b off n cap : Nat} {l : Lot} {ls : List Lot} (h : Qs w base (some ⟨b, off, none⟩) n cap (l :: ls)) :
    (∀ wx, (Instr.slice 99 (.slice (some ⟨b, off, none⟩) n cap) (some (.int .i64 1)) none none).run Tryz.prog wx = .ok (.slice (some ⟨b, tailOff off cap, none⟩) (n - 1) (cap - 1)) wx) ∧ Qs w base (some ⟨b, tailOff off cap, none⟩) (n - 1) (cap - 1) ls := by
  have hl := h.len
  have hn := h.nc
  simp only [List.length_cons] at hl
  have he : Tryz.prog.elem 99 = 133 := by kernel_rfl
  have hu : Tryz.prog.underlying 99 = some (.slice (Tryz.prog.elem 99)) := by rw [he]; exact Tryz.underlying99
  have hrun : ∀ wx, (Instr.slice 99 (.slice (some ⟨b, off, none⟩) n cap) (some (.int .i64 1)) none none).run Tryz.prog wx = .ok (sliced (some ⟨b, off, none⟩) 1 n cap 2) wx := by
    intro wx
    rw [run_slice_l (P := Tryz.prog) (w := wx) 99 (some ⟨b, off, none⟩) n cap hu .i64 1 (by decide) (by omega)]
    rw [he, Tryz.sizeOf133]
    rfl
  by_cases hc : cap = 1
  · subst hc
    refine ⟨fun wx => ?_, ?_⟩
    · rw [hrun wx]; simp [sliced, tailOff]
    · exact ⟨by omega, by omega, by simp [maxLen], fun h => (by cases h), fun h0 => by omega⟩
  · refine ⟨fun wx => ?_, ?_⟩
    · rw [hrun wx]; simp [sliced, hc, Addr.add, tailOff]
    · refine ⟨by omega, by omega, by have := h.cm; omega, fun h => (by cases h), fun h0 => ?_⟩
      obtain ⟨b', off', e, h1, h2, h3, h4, h5⟩ := h.mem (by omega)
      cases e
      refine ⟨b, off + 2, by simp [tailOff, hc], h1, h2, h3, fun j hj => ?_, fun k x hx => ?_⟩
      · have := h4 (j + 2) (by omega)
        rwa [show off + (j + 2) = off + 2 + j by omega] at this
      · have := h5 (k + 1) x (by simpa using hx)
        rwa [show off + (k + 1) * 2 = off + 2 + k * 2 by omega] at this
theorem Qs.push {w : World} {base b off n cap : Nat} {ls : List Lot} (h : Qs w base (some ⟨b, off, none⟩) n cap ls) (hr : n + 1 ≤ cap) (l : Lot) :
    Qs (w.setCells b (off + n * 2) [.int .i64 l.many, .int .i64 l.price]) base (some ⟨b, off, none⟩) (n + 1) cap (ls ++ [l]) := by
  have hl := h.len
  have e : w.setCells b (off + n * 2) [.int .i64 l.many, .int .i64 l.price] = (w.setCell ⟨b, off + n * 2, none⟩ (.int .i64 l.many)).setCell ⟨b, off + n * 2 + 1, none⟩ (.int .i64 l.price) := rfl
  rw [e]
  refine ⟨by simp [hl], by omega, h.cm, h.nil, fun h0 => ?_⟩
  obtain ⟨b', off', e, h1, h2, h3, h4, h5⟩ := h.mem h0
  cases e
  have s0 := h4 (n * 2) (by omega)
  have s1 := h4 (n * 2 + 1) (by omega)
  obtain ⟨u0, hu0⟩ := Option.isSome_iff_exists.1 s0
  obtain ⟨u1, hu1⟩ := Option.isSome_iff_exists.1 s1
  refine ⟨b, off, rfl, h1, by simpa [World.setCell] using h2, fun o => by rw [frozen_setCell, frozen_setCell]; exact h3 o, fun j hj => isSome_setCell (isSome_setCell (h4 j hj)), fun k x hx => ?_⟩
  by_cases hk : k < n
  · rw [List.getElem?_append_left (by omega)] at hx
    obtain ⟨c0, c1⟩ := h5 k x hx
    exact ⟨by rw [cell_set_other (by omega), cell_set_other (by omega)]; exact c0, by rw [cell_set_other (by omega), cell_set_other (by omega)]; exact c1⟩
  · have hk2 : k = n := by have := lt_of_at hx; simp at this; omega
    subst hk2
    rw [List.getElem?_append_right (by omega), hl, Nat.sub_self] at hx
    obtain rfl : l = x := by simpa using hx
    exact ⟨by rw [cell_set_other (by omega)]; exact cell_set_same hu0 _, cell_set_same (by rw [cell_set_other (by omega)]; rw [show off + k * 2 + 1 = off + (k * 2 + 1) by omega]; exact hu1) _⟩
theorem Qs.of_own {w : World} {base e : Nat} {v : Value} {n : Nat} {xs : List Lot} (h : w.ownsRow base e 2 v n (xs.flatMap lotL.cells)) (hl : xs.length = n) (hn : 0 < n) (hf : 0 < w.heap.size) :
    ∃ g cap, v = .slice (some ⟨g, 0, none⟩) n cap ∧ base ≤ g ∧ Qs w base (some ⟨g, 0, none⟩) n cap xs := by
  have hown := h
  rcases h.2 with ⟨_, h0⟩ | ⟨g, cap, cur, rfl, hb, hg, h1, h2, h3, h4⟩
  · omega
  · refine ⟨g, cap, rfl, hb, hl, h1, h2, fun e => (by cases e), fun _ => ?_⟩
    have hlt := blk_lt hg
    refine ⟨g, 0, rfl, hb, hlt, fun o => hown.frozenAt o, fun j hj => ?_, fun k x hx => ?_⟩
    · have : j < cur.size := by omega
      rw [Nat.zero_add, blk_cell hg j cur[j] (by simp [this])]; rfl
    · have hs := Sl.of_own (L := lotL) hown hl (by omega)
      obtain ⟨b', off', y, e, hy, c0, c1⟩ := lot_at hs k (by have := lt_of_at hx; omega)
      cases e
      rw [hx] at hy; cases hy
      exact ⟨c0, c1⟩
theorem Qs.olds {w : World} {base : Nat} {a : Option Addr} {n cap : Nat} {ls : List Lot} (h : Qs w base a n cap ls) : ∀ b, a = some b → ∀ (j : Nat) (u : Value), (ls.flatMap lotL.cells)[j]? = some u → w.cell? (b.add j) = some u := by
  intro b hb j u hj
  have hjl : j < n * 2 := by
    have := lt_of_at hj
    rw [flat_len, h.len] at this
    exact this
  have hn := h.nc
  obtain ⟨b', off, e, _, _, _, _, h5⟩ := h.mem (by omega)
  rw [hb] at e; cases e
  have hk : j / 2 < ls.length := by rw [h.len]; omega
  obtain ⟨c0, c1⟩ := h5 (j / 2) ls[j / 2] (by simp)
  have e := flat_at lotL ls (j / 2) ls[j / 2] (by simp)
  rcases Nat.mod_two_eq_zero_or_one j with hr | hr
  · have := e 0 _ rfl
    rw [show j / 2 * lotL.sz + 0 = j by show j / 2 * 2 + 0 = j; omega, hj] at this
    cases this
    rw [Addr.add_lit, show off + j = off + j / 2 * 2 by omega]; exact c0
  · have := e 1 _ rfl
    rw [show j / 2 * lotL.sz + 1 = j by show j / 2 * 2 + 1 = j; omega, hj] at this
    cases this
    rw [Addr.add_lit, show off + j = off + j / 2 * 2 + 1 by omega]; exact c1
theorem infoLotQ : (Tryz.prog.info? 133).map (fun i => (i.zero, i.size, i.bytes)) = some (some (.agg #[.int .i64 0, .int .i64 0]), 2, 16) := by kernel_rfl
theorem lot_news (w : World) (e N : Nat) (hN : w.heap.size = N) (m p : Int) : ∀ (j : Nat) (u : Value), [Value.int .i64 m, .int .i64 p][j]? = some u → (w.alloc (.cells #[.int .i64 m, .int .i64 p] e)).cell? ((⟨N, 0, none⟩ : Addr).add j) = some u := fun j u h => cells_new w [.int .i64 m, .int .i64 p] e N hN j u h
end Go.Proofs.YtielicmjdhmcjaaGreatDoor
