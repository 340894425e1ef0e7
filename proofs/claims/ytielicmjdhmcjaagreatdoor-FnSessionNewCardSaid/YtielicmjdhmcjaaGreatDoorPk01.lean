/- Packed: Base. -/
import Derived.WalkKit
import Derived.WalkSpells
import Derived.WalkLawsBesides
namespace Go.Proofs.YtielicmjdhmcjaaGreatDoor
theorem gA {α : Type} {xs : List α} {i : Nat} (h : i < xs.toArray.size) : xs.toArray[i] = xs[i]'(by simpa using h) := rfl
theorem gB {α : Type} (a : α) (xs : List α) (i : Nat) (h : i + 1 < (a :: xs).length) : (a :: xs)[i + 1] = xs[i]'(Nat.lt_of_succ_lt_succ h) := rfl
theorem gC {α : Type} (a : α) (xs : List α) (h : 0 < (a :: xs).length) : (a :: xs)[0] = a := rfl
theorem gD {α : Type} (l : List α) (i : Nat) (a : α) : l.toArray.setIfInBounds i a = (l.set i a).toArray := by simp
theorem gE {α : Type} (x : α) (xs : List α) (n : Nat) (a : α) : (x :: xs).set (n + 1) a = x :: xs.set n a := rfl
theorem gF {α : Type} (x : α) (xs : List α) (a : α) : (x :: xs).set 0 a = a :: xs := rfl
end Go.Proofs.YtielicmjdhmcjaaGreatDoor
/- Ground for all proofs of this seat: how a slice of rows reads in a world (Sl), what a call may have changed (grownBy), the reader of the generators. Plain lemmas, no statement of the seat. -/
namespace Go.Proofs.YtielicmjdhmcjaaGreatDoor
open Go.RowKit

theorem hid {p : Prop} (h : p) : Hid p := h

theorem ret_int {k : IntKind} {a b : Int} (h : a = b) : Ending.returned (.int k a) = .returned (.int k b) := by rw [h]
theorem ret_bool {a b : Bool} (h : a = b) : Ending.returned (.bool a) = .returned (.bool b) := by rw [h]

structure Lay (α : Type) where
  sz : Nat
  cells : α → List Value
  len : ∀ x, (cells x).length = sz

def intL : Lay Int := ⟨1, fun x => [.int .i64 x], fun _ => rfl⟩
def u8L : Lay Int := ⟨1, fun x => [.int .u8 x], fun _ => rfl⟩

structure Sl {α : Type} (L : Lay α) (w : World) (a : Option Addr) (n : Nat) (xs : List α) : Prop where
  len : xs.length = n
  big : n ≤ maxLen
  mem : 0 < n → ∃ b off, a = some ⟨b, off, none⟩ ∧ b < w.heap.size ∧ ∀ (k : Nat) (x : α), xs[k]? = some x → ∀ (j : Nat) (c : Value), (L.cells x)[j]? = some c → w.cell? ⟨b, off + (k * L.sz + j), none⟩ = some c

section
variable {α : Type} {L : Lay α} {w w1 w2 : World} {a : Option Addr} {n : Nat} {xs : List α} {r r' : Option Nat}

theorem gr_refl (w : World) (r : Option Nat) : w.grownBy w r := ⟨rfl, rfl, rfl, Nat.le_refl _, fun _ _ _ => rfl⟩

theorem gr0 (w : World) : w.grownBy w none := gr_refl w none

theorem gr_trans (h : w.grownBy w1 r) (k : w1.grownBy w2 r') (hr : ∀ g, r' = some g → r = some g ∨ w.heap.size ≤ g) : w.grownBy w2 r := by
  refine ⟨k.os.trans h.os, k.tape.trans h.tape, k.output.trans h.output, Nat.le_trans h.size k.size, fun i hi hne => ?_⟩
  refine (k.block i (Nat.lt_of_lt_of_le hi h.size) (fun e => ?_)).trans (h.block i hi hne)
  rcases hr i e.symm with hh | hh
  · exact hne hh.symm
  · omega

theorem gr_trans0 (h : w.grownBy w1 r) (k : w1.grownBy w2 none) : w.grownBy w2 r := gr_trans h k (fun _ e => by cases e)
theorem gr_transS (h : w.grownBy w1 r) (k : w1.grownBy w2 r) : w.grownBy w2 r := gr_trans h k (fun _ e => .inl e)
theorem gr_any (h : w.grownBy w1 none) (r : Option Nat) : w.grownBy w1 r := ⟨h.os, h.tape, h.output, h.size, fun i hi _ => h.block i hi (by simp)⟩
theorem gr_own (h : w.grownBy w1 r) (k : w1.grownBy w2 r') (hr : ∀ g, r' = some g → w.heap.size ≤ g) : w.grownBy w2 r := gr_trans h k (fun g e => .inr (hr g e))

theorem gr_alloc (h : w.grownBy w1 r) (o : Obj) : w.grownBy (w1.alloc o) r :=
  gr_trans0 h ⟨rfl, rfl, rfl, by simp, fun i hi _ => Below.heap_alloc _ _ _ hi⟩

theorem gr_drew (h : w.grownBy w1 r) : w.grownBy w1.drew r := ⟨h.os, h.tape, h.output, h.size, h.block⟩
theorem gr_drewN (h : w.grownBy w1 r) (k : Nat) : w.grownBy (w1.drewN k) r := ⟨h.os, h.tape, h.output, h.size, h.block⟩

theorem gr_setCell (h : w.grownBy w1 r) {p : Addr} (hp : r = some p.block ∨ w.heap.size ≤ p.block) (u : Value) : w.grownBy (w1.setCell p u) r := by
  refine gr_trans h (r' := some p.block) ⟨rfl, rfl, rfl, by simp [World.setCell], fun i _ hne => Below.heap_setCell _ _ _ _ (fun e => hne (by rw [e]))⟩ (fun g e => ?_)
  obtain rfl : p.block = g := by simpa using e
  exact hp

theorem gr_of_below (h : Below w.heap.size w w1) : w.grownBy w1 none := ⟨h.os, h.tape, h.output, h.size, fun i hi _ => h.block i hi⟩
theorem below_of_gr (h : w.grownBy w1 none) : Below w.heap.size w w1 := ⟨h.os, h.tape, h.output, h.size, fun i hi => h.block i hi (by simp)⟩
theorem gr_le (h : w.grownBy w1 r) : w.heap.size ≤ w1.heap.size := h.size

theorem block_lt {w : World} {b o : Nat} {v : Value} (h : w.cell? ⟨b, o, none⟩ = some v) : b < w.heap.size := World.block_lt_of_cell? w ⟨b, o, none⟩ h

theorem Sl.keep (h : Sl L w a n xs) (g : w.grownBy w1 r) (hr : 0 < n → ∀ b off, a = some ⟨b, off, none⟩ → r ≠ some b) : Sl L w1 a n xs := by
  refine ⟨h.len, h.big, fun hn => ?_⟩
  obtain ⟨b, off, e, hlt, hc⟩ := h.mem hn
  exact ⟨b, off, e, Nat.lt_of_lt_of_le hlt g.size, fun k x hx j c hj => g.cell (hc k x hx j c hj) (fun he => hr hn b off e he.symm)⟩

theorem Sl.keep0 (h : Sl L w a n xs) (g : w.grownBy w1 none) : Sl L w1 a n xs := h.keep g (fun _ _ _ _ => by simp)

theorem Sl.nil (L : Lay α) (w : World) (a : Option Addr) : Sl L w a 0 [] := ⟨rfl, by simp [maxLen], fun h => by omega⟩

theorem Sl.at (h : Sl L w a n xs) (k : Nat) (hk : k < n) : ∃ b off x, a = some ⟨b, off, none⟩ ∧ xs[k]? = some x ∧ b < w.heap.size ∧ ∀ (j : Nat) (c : Value), (L.cells x)[j]? = some c → w.cell? ⟨b, off + (k * L.sz + j), none⟩ = some c := by
  obtain ⟨b, off, e, hlt, hc⟩ := h.mem (by omega)
  have hk' : k < xs.length := by rw [h.len]; exact hk
  exact ⟨b, off, xs[k], e, by simp, hlt, fun j c hj => hc k xs[k] (by simp) j c hj⟩

theorem Sl.take (h : Sl L w a n xs) (k : Nat) (hk : k ≤ n) : Sl L w a k (xs.take k) := by
  refine ⟨by rw [List.length_take, h.len]; omega, Nat.le_trans hk h.big, fun h0 => ?_⟩
  obtain ⟨b, off, e, hlt, hc⟩ := h.mem (by omega)
  refine ⟨b, off, e, hlt, fun i x hx j c hj => hc i x ?_ j c hj⟩
  by_cases hik : i < k
  · rw [List.getElem?_take_of_lt hik] at hx; exact hx
  · rw [List.getElem?_eq_none (by rw [List.length_take]; omega)] at hx; cases hx

theorem Sl.drop {b off : Nat} (h : Sl L w (some ⟨b, off, none⟩) n xs) (k : Nat) (o : Nat) (ho : o = off + k * L.sz) : Sl L w (some ⟨b, o, none⟩) (n - k) (xs.drop k) := by
  subst ho
  refine ⟨by rw [List.length_drop, h.len], Nat.le_trans (Nat.sub_le _ _) h.big, fun h0 => ?_⟩
  obtain ⟨b', off', e, hlt, hc⟩ := h.mem (by omega)
  simp only [Option.some.injEq, Addr.mk.injEq, and_true] at e
  obtain ⟨rfl, rfl⟩ := e
  refine ⟨b, off + k * L.sz, rfl, hlt, fun i x hx j c hj => ?_⟩
  rw [List.getElem?_drop] at hx
  have := hc (k + i) x hx j c hj
  rwa [Nat.add_mul, Nat.add_assoc, ← Nat.add_assoc off] at this

theorem flat_at (L : Lay α) (xs : List α) (k : Nat) (x : α) (hx : xs[k]? = some x) (j : Nat) (c : Value) (hj : (L.cells x)[j]? = some c) : (xs.flatMap L.cells)[k * L.sz + j]? = some c := by
  induction xs generalizing k with
  | nil => simp at hx
  | cons y ys ih =>
    rw [List.flatMap_cons]
    cases k with
    | zero =>
      obtain rfl : y = x := by simpa using hx
      have hlt : j < (L.cells y).length := by
        by_cases h : j < (L.cells y).length
        · exact h
        · rw [List.getElem?_eq_none (by omega)] at hj; cases hj
      rw [Nat.zero_mul, Nat.zero_add, List.getElem?_append_left hlt]; exact hj
    | succ k =>
      rw [List.getElem?_append_right (by rw [L.len, Nat.succ_mul]; omega), L.len, show (k + 1) * L.sz + j - L.sz = k * L.sz + j by rw [Nat.succ_mul]; omega]
      exact ih k (by simpa using hx)

theorem flat_len (L : Lay α) (xs : List α) : (xs.flatMap L.cells).length = xs.length * L.sz := by
  induction xs with
  | nil => simp
  | cons y ys ih => rw [List.flatMap_cons, List.length_append, L.len, ih, List.length_cons, Nat.succ_mul]; omega

theorem Sl.of_own {base e n cap : Nat} (h : w.ownsRow base e L.sz (.slice a n cap) n (xs.flatMap L.cells)) (hl : xs.length = n) (hm : n ≤ maxLen) : Sl L w a n xs := by
  refine ⟨hl, hm, fun h0 => ?_⟩
  have hown := h
  obtain ⟨_, h | ⟨g, cap', cur, hv, hg, hh, hn, hc, hs, ht⟩⟩ := h
  · omega
  · simp only [Value.slice.injEq] at hv
    obtain ⟨rfl, _, rfl⟩ := hv
    refine ⟨g, 0, rfl, ?_, fun k x hx j c hj => ?_⟩
    · by_cases hlt : g < w.heap.size
      · exact hlt
      · rw [Array.getElem?_eq_none (by omega)] at hh; cases hh
    · have h1 := flat_at L xs k x hx j c hj
      rw [Nat.zero_add, hown.cellAt (k * L.sz + j), h1]
      by_cases hlt : k * L.sz + j < (xs.flatMap L.cells).length
      · rw [flat_len, hl] at hlt; exact hlt
      · rw [List.getElem?_eq_none (by omega)] at h1; cases h1

end

theorem int_at {w : World} {a : Option Addr} {n : Nat} {xs : List Int} (h : Sl intL w a n xs) (k : Nat) (hk : k < n) :
    ∃ b off x, a = some ⟨b, off, none⟩ ∧ xs[k]? = some x ∧ w.cell? ⟨b, off + k, none⟩ = some (.int .i64 x) := by
  obtain ⟨b, off, x, ha, hx, _, hc⟩ := h.at k hk
  exact ⟨b, off, x, ha, hx, by have := hc 0 _ rfl; simpa [intL] using this⟩

theorem u8_at {w : World} {a : Option Addr} {n : Nat} {xs : List Int} (h : Sl u8L w a n xs) (k : Nat) (hk : k < n) :
    ∃ b off x, a = some ⟨b, off, none⟩ ∧ xs[k]? = some x ∧ w.cell? ⟨b, off + k, none⟩ = some (.int .u8 x) := by
  obtain ⟨b, off, x, ha, hx, _, hc⟩ := h.at k hk
  exact ⟨b, off, x, ha, hx, by have := hc 0 _ rfl; simpa [u8L] using this⟩

section
variable {α : Type}
theorem take_all (p : α → Bool) (xs : List α) (k : Nat) (x : α) (hx : xs[k]? = some x) : (xs.take (k + 1)).all p = ((xs.take k).all p && p x) := by
  rw [List.take_add_one, hx]; simp
theorem take_any (p : α → Bool) (xs : List α) (k : Nat) (x : α) (hx : xs[k]? = some x) : (xs.take (k + 1)).any p = ((xs.take k).any p || p x) := by
  rw [List.take_add_one, hx]; simp
theorem all_false (p : α → Bool) (xs : List α) (k : Nat) (h : (xs.take k).all p = false) : xs.all p = false := by
  rw [← List.take_append_drop k xs, List.all_append, h, Bool.false_and]
theorem any_true (p : α → Bool) (xs : List α) (k : Nat) (h : (xs.take k).any p = true) : xs.any p = true := by
  rw [← List.take_append_drop k xs, List.any_append, h, Bool.true_or]
theorem any_not (p : α → Bool) (xs : List α) : xs.any (fun x => !p x) = !xs.all p := by
  induction xs with
  | nil => rfl
  | cons x xs ih => simp only [List.any_cons, List.all_cons, ih, Bool.not_and]
theorem take_len (xs : List α) (n : Nat) (h : xs.length = n) : xs.take n = xs := List.take_of_length_le (by omega)
theorem take_snoc (xs : List α) (k : Nat) (x : α) (hx : xs[k]? = some x) : xs.take (k + 1) = xs.take k ++ [x] := by rw [List.take_add_one, hx]; rfl
theorem lt_of_at {xs : List α} {k : Nat} {x : α} (hx : xs[k]? = some x) : k < xs.length := by
  by_cases h : k < xs.length
  · exact h
  · rw [List.getElem?_eq_none (by omega)] at hx; cases hx
end

structure Rdr (R : Nat) (w : World) (rb : Nat) (m : Nat) : Prop where
  ex : ∃ a n cap p xs, w.heap[rb]? = some (.cells #[.slice a n cap, .int .i64 p] R (0, 0)) ∧ 0 ≤ p ∧ p ≤ (m : Int) ∧ Sl u8L w a n xs ∧ (∀ x ∈ xs, 0 ≤ x ∧ x ≤ 255) ∧ (0 < n → ∀ b off, a = some ⟨b, off, none⟩ → b < rb) ∧ n ≤ 2000

theorem Rdr.mono {R : Nat} {w : World} {rb m m' : Nat} (h : Rdr R w rb m) (hm : m ≤ m') : Rdr R w rb m' := by
  obtain ⟨a, n, cap, p, xs, h1, h2, h3, h4⟩ := h
  exact ⟨a, n, cap, p, xs, h1, h2, by omega, h4⟩

theorem Rdr.lt {R : Nat} {w : World} {rb m : Nat} (h : Rdr R w rb m) : rb < w.heap.size := by
  obtain ⟨a, n, cap, p, xs, h1, h2⟩ := h
  by_cases hlt : rb < w.heap.size
  · exact hlt
  · rw [Array.getElem?_eq_none (by omega)] at h1; cases h1

theorem Rdr.keep {R : Nat} {w w1 : World} {rb m : Nat} {r : Option Nat} (h : Rdr R w rb m) (g : w.grownBy w1 r) (hr : ∀ k, r = some k → rb < k) : Rdr R w1 rb m := by
  have hlt := h.lt
  obtain ⟨a, n, cap, p, xs, h1, h2, h3, h4, h5, h6, h7⟩ := h
  refine ⟨a, n, cap, p, xs, (g.block rb hlt (fun e => ?_)).trans h1, h2, h3, h4.keep g (fun h0 b off e1 e2 => ?_), h5, h6, h7⟩
  · have := hr rb e.symm; omega
  · have h9 := hr b e2; have h8 := h6 h0 b off e1; omega

theorem Rdr.keep0 {R : Nat} {w w1 : World} {rb m : Nat} (h : Rdr R w rb m) (g : w.grownBy w1 none) : Rdr R w1 rb m := h.keep g (fun _ e => by cases e)

theorem own_form {w : World} {base : Nat} {e : TypeId} {size : Nat} {v : Value} {n : Nat} {xs : List Value} (h : w.ownsRow base e size v n xs) : ∃ a cap, v = .slice a n cap ∧ n ≤ cap := by
  rcases h.2 with ⟨rfl, rfl⟩ | ⟨g, cap, cur, rfl, _, _, hn, _⟩
  · exact ⟨none, 0, rfl, Nat.le_refl _⟩
  · exact ⟨_, cap, rfl, hn⟩

theorem gr_append {w w1 w2 : World} {r : Option Nat} {base : Nat} {e : TypeId} {size : Nat} {v : Value} {n : Nat} {xs : List Value} (h : w.grownBy w1 r) (ho : w1.ownsRow base e size v n xs) (hb : w.heap.size ≤ base) (k : w1.grownBy w2 v.ownBlock) : w.grownBy w2 r :=
  gr_own h k (fun g hg => Nat.le_trans hb (ho.lt g hg).1)

theorem Rdr.append {R : Nat} {w1 w2 : World} {rb m base : Nat} {e : TypeId} {size : Nat} {v : Value} {n : Nat} {xs : List Value} (h : Rdr R w1 rb m) (ho : w1.ownsRow base e size v n xs) (hb : rb < base) (k : w1.grownBy w2 v.ownBlock) : Rdr R w2 rb m :=
  h.keep k (fun g hg => Nat.lt_of_lt_of_le hb (ho.lt g hg).1)

theorem own_pick {w1 w2 : World} {rb base : Nat} {e : TypeId} {size : Nat} {v : Value} {n : Nat} {xs : List Value} (ho : w1.ownsRow base e size v n xs) (hb : rb < base) (k : w1.grownBy w2 (some rb)) : w2.ownsRow base e size v n xs :=
  ho.kept k (by
    cases hv : v.ownBlock with
    | none => exact .inl rfl
    | some g => right; intro h; have := (ho.lt g hv).1; cases h; omega)

theorem below_gr {B : Nat} {w w' : World} {r : Option Nat} (g : w.grownBy w' r) (hr : ∀ k, r = some k → B ≤ k) (hB : B ≤ w.heap.size) : Below B w w' :=
  ⟨g.os, g.tape, g.output, g.size, fun k hk => g.block k (by omega) (fun e => by have := hr k e.symm; omega)⟩

theorem gr_below {B : Nat} {w w' : World} (g : Below B w w') (hB : w.heap.size ≤ B) : w.grownBy w' none :=
  ⟨g.os, g.tape, g.output, g.size, fun k hk _ => g.block k (by omega)⟩

theorem Sl.keepB {α : Type} {L : Lay α} {w w' : World} {a : Option Addr} {n B : Nat} {xs : List α} (h : Sl L w a n xs) (g : Below B w w') (hb : 0 < n → ∀ b off, a = some ⟨b, off, none⟩ → b < B) : Sl L w' a n xs := by
  refine ⟨h.len, h.big, fun hn => ?_⟩
  obtain ⟨b, off, e, hlt, hc⟩ := h.mem hn
  have := hb hn b off e
  exact ⟨b, off, e, Nat.lt_of_lt_of_le hlt g.size, fun k x hx j c hj => by rw [g.cell (p := ⟨b, off + (k * L.sz + j), none⟩) this]; exact hc k x hx j c hj⟩

theorem own_keep0 {w1 w2 : World} {base : Nat} {e : TypeId} {size : Nat} {v : Value} {n : Nat} {xs : List Value} (ho : w1.ownsRow base e size v n xs) (k : w1.grownBy w2 none) : w2.ownsRow base e size v n xs :=
  ho.kept k (by
    cases hv : v.ownBlock with
    | none => exact .inl rfl
    | some g => right; simp)

theorem cells_new (w : World) (cs : List Value) (e : TypeId) (N : Nat) (hN : w.heap.size = N) (j : Nat) (u : Value) (h : cs[j]? = some u) : (w.alloc (.cells cs.toArray e)).cell? ((⟨N, 0, none⟩ : Addr).add j) = some u := by
  subst hN
  unfold Addr.add
  by_cases hj : j = 0
  · subst hj
    simp only [if_true, World.cell?, heap_alloc_new]
    simpa using h
  · simp only [if_neg hj, World.cell?, heap_alloc_new]
    simpa using h

theorem heap_set1 {w : World} {b : Nat} {c : Array Value} {e : TypeId} {f : Nat × Nat} (h : w.heap[b]? = some (.cells c e f)) (o : Nat) (v : Value) : (w.setCell ⟨b, o, none⟩ v).heap[b]? = some (.cells (c.setIfInBounds o v) e f) := by
  simp only [World.setCell, Array.getElem?_modify, if_true, h, Option.map_some]; rfl

theorem Rdr.step {R : Nat} {w : World} {rb m : Nat} {a : Option Addr} {n cap : Nat} {p : Int} {xs : List Int} (hh : w.heap[rb]? = some (.cells #[.slice a n cap, .int .i64 p] R (0, 0))) (hp : 0 ≤ p) (hm : p ≤ (m : Int))
    (hs : Sl u8L w a n xs) (hx : ∀ x ∈ xs, 0 ≤ x ∧ x ≤ 255) (hb : 0 < n → ∀ b off, a = some ⟨b, off, none⟩ → b < rb) (hn : n ≤ 2000) : Rdr R (w.setCell ⟨rb, 1, none⟩ (.int .i64 (p + 1))) rb (m + 1) :=
  ⟨a, n, cap, p + 1, xs, by rw [heap_set1 hh]; rfl, by omega, by omega, hs.keep (gr_setCell (r := some rb) (gr_refl _ _) (.inl rfl) _) (fun h0 b off e e2 => by have := hb h0 b off e; cases e2; omega), hx, hb, hn⟩

structure Ow {α : Type} (L : Lay α) (w : World) (base : Nat) (a : Option Addr) (n : Nat) (xs : List α) : Prop where
  len : xs.length = n
  big : n ≤ maxLen
  mem : 0 < n → ∃ b off, a = some ⟨b, off, none⟩ ∧ base ≤ b ∧ b < w.heap.size ∧ (∀ o, w.frozen? ⟨b, o, none⟩ = false) ∧ ∀ (k : Nat) (x : α), xs[k]? = some x → ∀ (j : Nat) (c : Value), (L.cells x)[j]? = some c → w.cell? ⟨b, off + (k * L.sz + j), none⟩ = some c

section
variable {α : Type} {L : Lay α} {w w1 w2 : World} {a : Option Addr} {n base : Nat} {xs : List α} {r : Option Nat}

theorem Ow.sl (h : Ow L w base a n xs) : Sl L w a n xs := ⟨h.len, h.big, fun h0 => by
  obtain ⟨b, off, e, _, hlt, _, hc⟩ := h.mem h0
  exact ⟨b, off, e, hlt, hc⟩⟩

theorem Ow.mono (h : Ow L w base a n xs) {base' : Nat} (hb : base' ≤ base) : Ow L w base' a n xs := ⟨h.len, h.big, fun h0 => by
  obtain ⟨b, off, e, h1, h2⟩ := h.mem h0
  exact ⟨b, off, e, by omega, h2⟩⟩

theorem Ow.keep (h : Ow L w base a n xs) (g : w.grownBy w1 r) (hr : 0 < n → ∀ b off, a = some ⟨b, off, none⟩ → r ≠ some b) : Ow L w1 base a n xs := by
  refine ⟨h.len, h.big, fun hn => ?_⟩
  obtain ⟨b, off, e, hb, hlt, hf, hc⟩ := h.mem hn
  have hne : some b ≠ r := fun he => hr hn b off e he.symm
  refine ⟨b, off, e, hb, Nat.lt_of_lt_of_le hlt g.size, fun o => ?_, fun k x hx j c hj => g.cell (hc k x hx j c hj) hne⟩
  rw [World.frozen?_of_block (w := w) (g.block b hlt hne)]; exact hf o

theorem Ow.keep0 (h : Ow L w base a n xs) (g : w.grownBy w1 none) : Ow L w1 base a n xs := h.keep g (fun _ _ _ _ => by simp)

theorem Ow.nil (L : Lay α) (w : World) (base : Nat) (a : Option Addr) : Ow L w base a 0 [] := ⟨rfl, by simp [maxLen], fun h => by omega⟩

theorem Ow.of_own {e cap : Nat} (h : w.ownsRow base e L.sz (.slice a n cap) n (xs.flatMap L.cells)) (hl : xs.length = n) (hm : n ≤ maxLen) : Ow L w base a n xs := by
  refine ⟨hl, hm, fun h0 => ?_⟩
  have hs := Sl.of_own h hl hm
  have hown := h
  obtain ⟨_, h | ⟨g, cap', cur, hv, hg, hh, hn, hc, hz, ht⟩⟩ := h
  · omega
  · simp only [Value.slice.injEq] at hv
    obtain ⟨rfl, _, rfl⟩ := hv
    obtain ⟨b, off, e1, hlt, hc⟩ := hs.mem h0
    simp only [Option.some.injEq, Addr.mk.injEq, and_true] at e1
    obtain ⟨rfl, rfl⟩ := e1
    exact ⟨g, 0, rfl, hg, hlt, fun o => hown.frozenAt o, hc⟩

theorem Ow.apart {β : Type} {M : Lay β} {base2 m : Nat} {a2 : Option Addr} {ys : List β} (h : Sl L w a n xs) (h2 : Ow M w2 base2 a2 m ys) (hb : w.heap.size ≤ base2) (h0 : 0 < n) (m0 : 0 < m) :
    ∀ b off b2 off2, a = some ⟨b, off, none⟩ → a2 = some ⟨b2, off2, none⟩ → b ≠ b2 := by
  intro b off b2 off2 e1 e2
  obtain ⟨b', off', e, hlt, _⟩ := h.mem h0
  rw [e1] at e; cases e
  obtain ⟨b', off', e, hge, _⟩ := h2.mem m0
  rw [e2] at e; cases e
  omega

theorem Ow.at (h : Ow L w base a n xs) (k : Nat) (hk : k < n) : ∃ b off x, a = some ⟨b, off, none⟩ ∧ xs[k]? = some x ∧ base ≤ b ∧ b < w.heap.size ∧ (∀ o, w.frozen? ⟨b, o, none⟩ = false) ∧ ∀ (j : Nat) (c : Value), (L.cells x)[j]? = some c → w.cell? ⟨b, off + (k * L.sz + j), none⟩ = some c := by
  obtain ⟨b, off, e, hb, hlt, hf, hc⟩ := h.mem (by omega)
  have hk' : k < xs.length := by rw [h.len]; exact hk
  exact ⟨b, off, xs[k], e, by simp, hb, hlt, hf, fun j c hj => hc k xs[k] (by simp) j c hj⟩

theorem frozen_setCell (w : World) (p q : Addr) (v : Value) : (w.setCell p v).frozen? q = w.frozen? q := by
  unfold World.frozen? World.setCell
  simp only [Array.getElem?_modify]
  by_cases h : p.block = q.block
  · rw [if_pos h]
    cases hh : w.heap[q.block]? with
    | none => rfl
    | some o => cases o <;> rfl
  · rw [if_neg h]

theorem cell_set_same {w : World} {b o : Nat} {u : Value} (h : w.cell? ⟨b, o, none⟩ = some u) (v : Value) : (w.setCell ⟨b, o, none⟩ v).cell? ⟨b, o, none⟩ = some v := by
  unfold World.cell? World.setCell at *
  simp only [Array.getElem?_modify, if_true] at *
  cases hh : w.heap[b]? with
  | none => rw [hh] at h; simp at h
  | some ob =>
    rw [hh] at h
    cases ob <;> simp at h ⊢
    rename_i c e f
    have : o < c.size := by
      by_cases hlt : o < c.size
      · exact hlt
      · rw [Array.getElem?_eq_none (by omega)] at h; cases h
    simp [this]

theorem cell_set_other {w : World} {b o b' o' : Nat} (hne : ¬ (b = b' ∧ o = o')) (v : Value) : (w.setCell ⟨b, o, none⟩ v).cell? ⟨b', o', none⟩ = w.cell? ⟨b', o', none⟩ := by
  unfold World.cell? World.setCell
  simp only [Array.getElem?_modify]
  by_cases hb : b = b'
  · subst hb
    rw [if_pos rfl]
    cases hh : w.heap[b]? with
    | none => rfl
    | some ob =>
      cases ob <;> simp
      rename_i c e f
      have : o ≠ o' := fun h => hne ⟨rfl, h⟩
      rw [Array.getElem?_setIfInBounds, if_neg this]
  · rw [if_neg hb]

theorem Ow.set {b off : Nat} (h : Ow L w base (some ⟨b, off, none⟩) n xs) (k j : Nat) (x x' : α) (v : Value) (hx : xs[k]? = some x) (hj : j < L.sz) (hx' : L.cells x' = (L.cells x).set j v) (o : Nat) (ho : o = off + (k * L.sz + j)) :
    Ow L (w.setCell ⟨b, o, none⟩ v) base (some ⟨b, off, none⟩) n (xs.set k x') := by
  subst ho
  have hk := lt_of_at hx
  refine ⟨by rw [List.length_set]; exact h.len, h.big, fun h0 => ?_⟩
  obtain ⟨b', off', e, hb, hlt, hf, hc⟩ := h.mem h0
  simp only [Option.some.injEq, Addr.mk.injEq, and_true] at e
  obtain ⟨rfl, rfl⟩ := e
  refine ⟨b, off, rfl, hb, by simpa [World.setCell] using hlt, fun o => by rw [frozen_setCell]; exact hf o, fun i y hy m c hm => ?_⟩
  have hcell : ∃ u, w.cell? ⟨b, off + (k * L.sz + j), none⟩ = some u := by
    have : j < (L.cells x).length := by rw [L.len]; exact hj
    exact ⟨_, hc k x hx j (L.cells x)[j] (by simp)⟩
  obtain ⟨u, hu⟩ := hcell
  have hm' : m < L.sz := by
    have := L.len y
    by_cases hlt : m < L.sz
    · exact hlt
    · rw [List.getElem?_eq_none (by omega)] at hm; cases hm
  by_cases hik : i = k
  · subst hik
    rw [List.getElem?_set_self hk] at hy
    obtain rfl : x' = y := by simpa using hy
    rw [hx'] at hm
    by_cases hmj : m = j
    · subst hmj
      rw [List.getElem?_set_self (by rw [L.len]; exact hm')] at hm
      obtain rfl : v = c := by simpa using hm
      exact cell_set_same hu v
    · rw [List.getElem?_set_ne (by omega)] at hm
      rw [cell_set_other (by omega)]
      exact hc i x hx m c hm
  · rw [List.getElem?_set_ne (by omega)] at hy
    have hne : ¬ (k * L.sz + j = i * L.sz + m) := by
      intro he
      rcases Nat.lt_or_gt_of_ne hik with hlt | hgt
      · have : (i + 1) * L.sz ≤ k * L.sz := Nat.mul_le_mul_right _ hlt
        rw [Nat.succ_mul] at this; omega
      · have : (k + 1) * L.sz ≤ i * L.sz := Nat.mul_le_mul_right _ hgt
        rw [Nat.succ_mul] at this; omega
    rw [cell_set_other (by omega)]
    exact hc i y hy m c hm


theorem made_flat (L : Lay α) (x0 : α) (n : Nat) : (madeCells (L.cells x0).toArray (n * L.sz)).toList = (List.replicate n x0).flatMap L.cells := by
  apply List.ext_getElem?
  intro i
  by_cases hi : i < n * L.sz
  · have hs : 0 < L.sz := by rcases Nat.eq_zero_or_pos L.sz with h | h; · rw [h, Nat.mul_zero] at hi; omega
                             · exact h
    have hk : i / L.sz < n := (Nat.div_lt_iff_lt_mul hs).2 hi
    have hj : i % L.sz < L.sz := Nat.mod_lt _ hs
    have hj' : i % L.sz < (L.cells x0).length := by rw [L.len]; exact hj
    have h1 := flat_at L (List.replicate n x0) (i / L.sz) x0 (by rw [List.getElem?_replicate, if_pos hk]) (i % L.sz) (L.cells x0)[i % L.sz] (by simp)
    rw [Nat.div_add_mod'] at h1
    rw [h1]
    simp only [madeCells, Array.toList_map, List.getElem?_map, Array.toList_range, List.getElem?_range hi, Option.map_some]
    congr 1
    have : (L.cells x0).toArray.size = L.sz := by simp [L.len]
    rw [this, getElem!_pos _ _ (by rw [this]; exact hj)]
    simp
  · rw [List.getElem?_eq_none (by rw [Array.length_toList, size_madeCells]; omega), List.getElem?_eq_none (by rw [flat_len, List.length_replicate]; omega)]

theorem Ow.of_made {e cap : Nat} {x0 : α} (h : w.ownsRow base e L.sz (.slice a n cap) n (madeCells (L.cells x0).toArray (n * L.sz)).toList) (hm : n ≤ maxLen) : Ow L w base a n (List.replicate n x0) :=
  Ow.of_own (by rw [made_flat] at h; exact h) (by simp) hm

theorem fill_step (xs : List α) (n k : Nat) (x z : α) (hx : xs[k]? = some x) (hn : xs.length = n) : (xs.take k ++ List.replicate (n - k) z).set k x = xs.take (k + 1) ++ List.replicate (n - (k + 1)) z := by
  have hk := lt_of_at hx
  obtain ⟨m, hm⟩ : ∃ m, n - k = m + 1 := ⟨n - k - 1, by omega⟩
  rw [hm, show n - (k + 1) = m by omega, take_snoc _ _ _ hx, List.replicate_succ, List.set_append_right _ _ (by rw [List.length_take]; omega)]
  have : k - (xs.take k).length = 0 := by rw [List.length_take]; omega
  rw [this, List.set_cons_zero, List.append_assoc]; rfl

theorem fill_at (xs : List α) (n k : Nat) (z : α) (hk : k < n) (hn : xs.length = n) : (xs.take k ++ List.replicate (n - k) z)[k]? = some z := by
  rw [List.getElem?_append_right (by rw [List.length_take]; omega)]
  have : k - (xs.take k).length = 0 := by rw [List.length_take]; omega
  rw [this, List.getElem?_replicate, if_pos (by omega)]

theorem fill_end (xs : List α) (n : Nat) (z : α) (hn : xs.length = n) : xs.take n ++ List.replicate (n - n) z = xs := by
  rw [take_len _ _ hn, Nat.sub_self]; simp

theorem list_eq_take (xs ys : List α) (n : Nat) (hx : xs.length = n) (hy : ys.length = n) (h : xs.take n = ys.take n) : xs = ys := by
  rwa [take_len _ _ hx, take_len _ _ hy] at h

theorem take_ne (xs ys : List α) (k : Nat) (x y : α) (hx : xs[k]? = some x) (hy : ys[k]? = some y) (hne : x ≠ y) : xs ≠ ys := by
  rintro rfl
  rw [hx] at hy; cases hy; exact hne rfl

end

/- A block that is known whole. -/
theorem blk_cell {w : World} {b : Nat} {cs : Array Value} {e : TypeId} {fr : Nat × Nat} (h : w.heap[b]? = some (.cells cs e fr)) (o : Nat) (v : Value) (hv : cs[o]? = some v) : w.cell? ⟨b, o, none⟩ = some v := by
  simp [World.cell?, h, hv]

theorem blk_frozen {w : World} {b : Nat} {cs : Array Value} {e : TypeId} (h : w.heap[b]? = some (.cells cs e (0, 0))) (o : Nat) : w.frozen? ⟨b, o, none⟩ = false := by
  simp [World.frozen?, h]

theorem blk_lt {w : World} {b : Nat} {o : Obj} (h : w.heap[b]? = some o) : b < w.heap.size := by
  by_cases hlt : b < w.heap.size
  · exact hlt
  · rw [Array.getElem?_eq_none (by omega)] at h; cases h

theorem blk_keep {w w' : World} {b : Nat} {o : Obj} {r : Option Nat} (h : w.heap[b]? = some o) (g : w.grownBy w' r) (hr : ∀ k, r = some k → k ≠ b) : w'.heap[b]? = some o :=
  (g.block b (blk_lt h) (fun e => hr b e.symm rfl)).trans h

theorem blk_set {w : World} {b : Nat} {cs : Array Value} {e : TypeId} {fr : Nat × Nat} (h : w.heap[b]? = some (.cells cs e fr)) (o : Nat) (v : Value) : (w.setCell ⟨b, o, none⟩ v).heap[b]? = some (.cells (cs.setIfInBounds o v) e fr) := heap_set1 h o v

theorem blk_set_other {w : World} {b : Nat} {ob : Obj} (h : w.heap[b]? = some ob) (p : Addr) (hp : p.block ≠ b) (v : Value) : (w.setCell p v).heap[b]? = some ob := by
  rw [Below.heap_setCell _ _ _ _ (fun e => hp e.symm)]; exact h

theorem blk_alloc {w : World} {b : Nat} {ob : Obj} (h : w.heap[b]? = some ob) (o : Obj) : (w.alloc o).heap[b]? = some ob := by
  rw [Below.heap_alloc _ _ _ (blk_lt h)]; exact h

theorem Rdr.setCell {R : Nat} {w : World} {rb m : Nat} (h : Rdr R w rb m) {p : Addr} (hp : rb < p.block) (v : Value) : Rdr R (w.setCell p v) rb m :=
  h.keep (gr_setCell (r := some p.block) (gr_refl _ _) (.inl rfl) v) (fun k e => by cases e; exact hp)

theorem Sl.lit {α : Type} (L : Lay α) (w : World) (cs : Array Value) (e : TypeId) (n : Nat) (xs : List α) (hcs : cs = (xs.flatMap L.cells).toArray) (hn : xs.length = n) (hm : n ≤ 1000) : Sl L (w.alloc (.cells cs e)) (some ⟨w.heap.size, 0, none⟩) n xs := by
  subst hcs
  have hm' : n ≤ maxLen := by unfold maxLen; omega
  have h := World.ownsRow_lit (base := w.heap.size) (e := e) (size := L.sz) w (xs.flatMap L.cells).toArray n (Nat.le_refl _) hm' (by rw [List.size_toArray, flat_len, hn])
  exact Sl.of_own (cap := n) (by simpa using h) hn hm'

end Go.Proofs.YtielicmjdhmcjaaGreatDoor
