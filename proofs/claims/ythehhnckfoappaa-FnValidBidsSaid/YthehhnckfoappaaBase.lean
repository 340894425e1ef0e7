/- Ground for all proofs of this seat: how a slice of rows reads in a world (Sl), what a call may have changed (grownBy), the reader of the generators. Plain lemmas, no statement of the seat. -/
import Derived.WalkKit
import Derived.WalkSpells
import Derived.WalkLawsBesides
namespace Go.Proofs.Ythehhnckfoappaa
open Go.RowKit

theorem hid {p : Prop} (h : p) : Hid p := h

theorem ret_int {k : IntKind} {a b : Int} (h : a = b) : Ending.returned (.int k a) = .returned (.int k b) := by rw [h]
theorem ret_bool {a b : Bool} (h : a = b) : Ending.returned (.bool a) = .returned (.bool b) := by rw [h]

/-- An element's cells in memory. -/
structure Lay (α : Type) where
  sz : Nat
  cells : α → List Value
  len : ∀ x, (cells x).length = sz

def intL : Lay Int := ⟨1, fun x => [.int .i64 x], fun _ => rfl⟩
def u8L : Lay Int := ⟨1, fun x => [.int .u8 x], fun _ => rfl⟩

/-- The slice value with address a and length n reads in w as the list xs. -/
structure Sl {α : Type} (L : Lay α) (w : World) (a : Option Addr) (n : Nat) (xs : List α) : Prop where
  len : xs.length = n
  big : n ≤ maxLen
  mem : 0 < n → ∃ b off, a = some ⟨b, off, none⟩ ∧ b < w.heap.size ∧ ∀ (k : Nat) (x : α), xs[k]? = some x → ∀ (j : Nat) (c : Value), (L.cells x)[j]? = some c → w.cell? ⟨b, off + (k * L.sz + j), none⟩ = some c

section
variable {α : Type} {L : Lay α} {w w1 w2 : World} {a : Option Addr} {n : Nat} {xs : List α} {r r' : Option Nat}

theorem gr_refl (w : World) (r : Option Nat) : w.grownBy w r := ⟨rfl, rfl, rfl, Nat.le_refl _, fun _ _ _ => rfl⟩

theorem gr_trans (h : w.grownBy w1 r) (k : w1.grownBy w2 r') (hr : ∀ g, r' = some g → r = some g ∨ w.heap.size ≤ g) : w.grownBy w2 r := by
  refine ⟨k.os.trans h.os, k.tape.trans h.tape, k.output.trans h.output, Nat.le_trans h.size k.size, fun i hi hne => ?_⟩
  refine (k.block i (Nat.lt_of_lt_of_le hi h.size) (fun e => ?_)).trans (h.block i hi hne)
  rcases hr i e.symm with hh | hh
  · exact hne hh.symm
  · omega

theorem gr_trans0 (h : w.grownBy w1 r) (k : w1.grownBy w2 none) : w.grownBy w2 r := gr_trans h k (fun _ e => by cases e)
theorem gr_transS (h : w.grownBy w1 r) (k : w1.grownBy w2 r) : w.grownBy w2 r := gr_trans h k (fun _ e => .inl e)
theorem gr_any (h : w.grownBy w1 none) (r : Option Nat) : w.grownBy w1 r := ⟨h.os, h.tape, h.output, h.size, fun i hi _ => h.block i hi (by simp)⟩
theorem gr_own (h : w.grownBy w1 r) (k : w1.grownBy w2 r') (hr : ∀ g, r' = some g → w.heap.size ≤ g) : w.grownBy w2 r := gr_trans h k (fun g e => .inr (hr g e))

theorem gr_alloc (h : w.grownBy w1 r) (o : Obj) : w.grownBy (w1.alloc o) r :=
  gr_trans0 h ⟨rfl, rfl, rfl, by simp, fun i hi _ => Below.heap_alloc _ _ _ hi⟩

theorem gr_drew (h : w.grownBy w1 r) : w.grownBy w1.drew r := ⟨h.os, h.tape, h.output, h.size, h.block⟩
theorem gr_drewN (h : w.grownBy w1 r) (k : Nat) : w.grownBy (w1.drewN k) r := ⟨h.os, h.tape, h.output, h.size, h.block⟩

theorem gr_setCell (h : w.grownBy w1 r) {p : Addr} (hp : r = some p.block ∨ w.heap.size ≤ p.block) (u : Value) : w.grownBy (w1.setCell p u) r := by
  refine gr_trans h (r' := some p.block) ⟨rfl, rfl, rfl, by simp [World.setCell], fun i _ hne => Below.heap_setCell _ _ _ _ (fun e => hne (by rw [e]))⟩ (fun g e => ?_)
  obtain rfl : p.block = g := by simpa using e
  exact hp

theorem gr_of_below (h : Below w.heap.size w w1) : w.grownBy w1 none := ⟨h.os, h.tape, h.output, h.size, fun i hi _ => h.block i hi⟩
theorem below_of_gr (h : w.grownBy w1 none) : Below w.heap.size w w1 := ⟨h.os, h.tape, h.output, h.size, fun i hi => h.block i hi (by simp)⟩
theorem gr_le (h : w.grownBy w1 r) : w.heap.size ≤ w1.heap.size := h.size

theorem block_lt {w : World} {b o : Nat} {v : Value} (h : w.cell? ⟨b, o, none⟩ = some v) : b < w.heap.size := World.block_lt_of_cell? w ⟨b, o, none⟩ h

theorem Sl.keep (h : Sl L w a n xs) (g : w.grownBy w1 r) (hr : 0 < n → ∀ b off, a = some ⟨b, off, none⟩ → r ≠ some b) : Sl L w1 a n xs := by
  refine ⟨h.len, h.big, fun hn => ?_⟩
  obtain ⟨b, off, e, hlt, hc⟩ := h.mem hn
  exact ⟨b, off, e, Nat.lt_of_lt_of_le hlt g.size, fun k x hx j c hj => g.cell (hc k x hx j c hj) (fun he => hr hn b off e he.symm)⟩

theorem Sl.keep0 (h : Sl L w a n xs) (g : w.grownBy w1 none) : Sl L w1 a n xs := h.keep g (fun _ _ _ _ => by simp)

theorem Sl.nil (L : Lay α) (w : World) (a : Option Addr) : Sl L w a 0 [] := ⟨rfl, by simp [maxLen], fun h => by omega⟩

/-- The cells of element k. -/
theorem Sl.at (h : Sl L w a n xs) (k : Nat) (hk : k < n) : ∃ b off x, a = some ⟨b, off, none⟩ ∧ xs[k]? = some x ∧ b < w.heap.size ∧ ∀ (j : Nat) (c : Value), (L.cells x)[j]? = some c → w.cell? ⟨b, off + (k * L.sz + j), none⟩ = some c := by
  obtain ⟨b, off, e, hlt, hc⟩ := h.mem (by omega)
  have hk' : k < xs.length := by rw [h.len]; exact hk
  exact ⟨b, off, xs[k], e, by simp, hlt, fun j c hj => hc k xs[k] (by simp) j c hj⟩

/-- The first part of a slice. -/
theorem Sl.take (h : Sl L w a n xs) (k : Nat) (hk : k ≤ n) : Sl L w a k (xs.take k) := by
  refine ⟨by rw [List.length_take, h.len]; omega, Nat.le_trans hk h.big, fun h0 => ?_⟩
  obtain ⟨b, off, e, hlt, hc⟩ := h.mem (by omega)
  refine ⟨b, off, e, hlt, fun i x hx j c hj => hc i x ?_ j c hj⟩
  by_cases hik : i < k
  · rw [List.getElem?_take_of_lt hik] at hx; exact hx
  · rw [List.getElem?_eq_none (by rw [List.length_take]; omega)] at hx; cases hx

theorem flat_at (L : Lay α) (xs : List α) (k : Nat) (x : α) (hx : xs[k]? = some x) (j : Nat) (c : Value) (hj : (L.cells x)[j]? = some c) : (xs.flatMap L.cells)[k * L.sz + j]? = some c := by
  induction xs generalizing k with
  | nil => simp at hx
  | cons y ys ih =>
    rw [List.flatMap_cons]
    cases k with
    | zero =>
      obtain rfl : y = x := by simpa using hx
      have hlt : j < (L.cells y).length := by
        by_cases h : j < (L.cells y).length
        · exact h
        · rw [List.getElem?_eq_none (by omega)] at hj; cases hj
      rw [Nat.zero_mul, Nat.zero_add, List.getElem?_append_left hlt]; exact hj
    | succ k =>
      rw [List.getElem?_append_right (by rw [L.len, Nat.succ_mul]; omega), L.len, show (k + 1) * L.sz + j - L.sz = k * L.sz + j by rw [Nat.succ_mul]; omega]
      exact ih k (by simpa using hx)

theorem flat_len (L : Lay α) (xs : List α) : (xs.flatMap L.cells).length = xs.length * L.sz := by
  induction xs with
  | nil => simp
  | cons y ys ih => rw [List.flatMap_cons, List.length_append, L.len, ih, List.length_cons, Nat.succ_mul]; omega

/-- What the call owns reads. -/
theorem Sl.of_own {base e n cap : Nat} (h : w.ownsRow base e L.sz (.slice a n cap) n (xs.flatMap L.cells)) (hl : xs.length = n) (hm : n ≤ maxLen) : Sl L w a n xs := by
  refine ⟨hl, hm, fun h0 => ?_⟩
  have hown := h
  obtain ⟨_, h | ⟨g, cap', cur, hv, hg, hh, hn, hc, hs, ht⟩⟩ := h
  · omega
  · simp only [Value.slice.injEq] at hv
    obtain ⟨rfl, _, rfl⟩ := hv
    refine ⟨g, 0, rfl, ?_, fun k x hx j c hj => ?_⟩
    · by_cases hlt : g < w.heap.size
      · exact hlt
      · rw [Array.getElem?_eq_none (by omega)] at hh; cases hh
    · have h1 := flat_at L xs k x hx j c hj
      rw [Nat.zero_add, hown.cellAt (k * L.sz + j), h1]
      by_cases hlt : k * L.sz + j < (xs.flatMap L.cells).length
      · rw [flat_len, hl] at hlt; exact hlt
      · rw [List.getElem?_eq_none (by omega)] at h1; cases h1

end

/-- An int at a place of a slice of ints. -/
theorem int_at {w : World} {a : Option Addr} {n : Nat} {xs : List Int} (h : Sl intL w a n xs) (k : Nat) (hk : k < n) :
    ∃ b off x, a = some ⟨b, off, none⟩ ∧ xs[k]? = some x ∧ w.cell? ⟨b, off + k, none⟩ = some (.int .i64 x) := by
  obtain ⟨b, off, x, ha, hx, _, hc⟩ := h.at k hk
  exact ⟨b, off, x, ha, hx, by have := hc 0 _ rfl; simpa [intL] using this⟩

/-- A byte at a place of a slice of bytes. -/
theorem u8_at {w : World} {a : Option Addr} {n : Nat} {xs : List Int} (h : Sl u8L w a n xs) (k : Nat) (hk : k < n) :
    ∃ b off x, a = some ⟨b, off, none⟩ ∧ xs[k]? = some x ∧ w.cell? ⟨b, off + k, none⟩ = some (.int .u8 x) := by
  obtain ⟨b, off, x, ha, hx, _, hc⟩ := h.at k hk
  exact ⟨b, off, x, ha, hx, by have := hc 0 _ rfl; simpa [u8L] using this⟩

section
variable {α : Type}
theorem take_all (p : α → Bool) (xs : List α) (k : Nat) (x : α) (hx : xs[k]? = some x) : (xs.take (k + 1)).all p = ((xs.take k).all p && p x) := by
  rw [List.take_add_one, hx]; simp
theorem take_any (p : α → Bool) (xs : List α) (k : Nat) (x : α) (hx : xs[k]? = some x) : (xs.take (k + 1)).any p = ((xs.take k).any p || p x) := by
  rw [List.take_add_one, hx]; simp
theorem all_false (p : α → Bool) (xs : List α) (k : Nat) (h : (xs.take k).all p = false) : xs.all p = false := by
  rw [← List.take_append_drop k xs, List.all_append, h, Bool.false_and]
theorem any_true (p : α → Bool) (xs : List α) (k : Nat) (h : (xs.take k).any p = true) : xs.any p = true := by
  rw [← List.take_append_drop k xs, List.any_append, h, Bool.true_or]
theorem any_not (p : α → Bool) (xs : List α) : xs.any (fun x => !p x) = !xs.all p := by
  induction xs with
  | nil => rfl
  | cons x xs ih => simp only [List.any_cons, List.all_cons, ih, Bool.not_and]
theorem take_len (xs : List α) (n : Nat) (h : xs.length = n) : xs.take n = xs := List.take_of_length_le (by omega)
theorem take_snoc (xs : List α) (k : Nat) (x : α) (hx : xs[k]? = some x) : xs.take (k + 1) = xs.take k ++ [x] := by rw [List.take_add_one, hx]; rfl
theorem lt_of_at {xs : List α} {k : Nat} {x : α} (hx : xs[k]? = some x) : k < xs.length := by
  by_cases h : k < xs.length
  · exact h
  · rw [List.getElem?_eq_none (by omega)] at hx; cases hx
end

/-- The reader at block rb: its bytes, and its place, which is at most m. R: the type's number. -/
structure Rdr (R : Nat) (w : World) (rb : Nat) (m : Nat) : Prop where
  ex : ∃ a n cap p xs, w.heap[rb]? = some (.cells #[.slice a n cap, .int .i64 p] R (0, 0)) ∧ 0 ≤ p ∧ p ≤ (m : Int) ∧ Sl u8L w a n xs ∧ (∀ x ∈ xs, 0 ≤ x ∧ x ≤ 255) ∧ (0 < n → ∀ b off, a = some ⟨b, off, none⟩ → b < rb) ∧ n ≤ 2000

theorem Rdr.mono {R : Nat} {w : World} {rb m m' : Nat} (h : Rdr R w rb m) (hm : m ≤ m') : Rdr R w rb m' := by
  obtain ⟨a, n, cap, p, xs, h1, h2, h3, h4⟩ := h
  exact ⟨a, n, cap, p, xs, h1, h2, by omega, h4⟩

theorem Rdr.lt {R : Nat} {w : World} {rb m : Nat} (h : Rdr R w rb m) : rb < w.heap.size := by
  obtain ⟨a, n, cap, p, xs, h1, h2⟩ := h
  by_cases hlt : rb < w.heap.size
  · exact hlt
  · rw [Array.getElem?_eq_none (by omega)] at h1; cases h1

/-- The reader stays where a later block changes. -/
theorem Rdr.keep {R : Nat} {w w1 : World} {rb m : Nat} {r : Option Nat} (h : Rdr R w rb m) (g : w.grownBy w1 r) (hr : ∀ k, r = some k → rb < k) : Rdr R w1 rb m := by
  have hlt := h.lt
  obtain ⟨a, n, cap, p, xs, h1, h2, h3, h4, h5, h6, h7⟩ := h
  refine ⟨a, n, cap, p, xs, (g.block rb hlt (fun e => ?_)).trans h1, h2, h3, h4.keep g (fun h0 b off e1 e2 => ?_), h5, h6, h7⟩
  · have := hr rb e.symm; omega
  · have h9 := hr b e2; have h8 := h6 h0 b off e1; omega

theorem Rdr.keep0 {R : Nat} {w w1 : World} {rb m : Nat} (h : Rdr R w rb m) (g : w.grownBy w1 none) : Rdr R w1 rb m := h.keep g (fun _ e => by cases e)

theorem own_form {w : World} {base : Nat} {e : TypeId} {size : Nat} {v : Value} {n : Nat} {xs : List Value} (h : w.ownsRow base e size v n xs) : ∃ a cap, v = .slice a n cap ∧ n ≤ cap := by
  rcases h.2 with ⟨rfl, rfl⟩ | ⟨g, cap, cur, rfl, _, _, hn, _⟩
  · exact ⟨none, 0, rfl, Nat.le_refl _⟩
  · exact ⟨_, cap, rfl, hn⟩

theorem gr_append {w w1 w2 : World} {r : Option Nat} {base : Nat} {e : TypeId} {size : Nat} {v : Value} {n : Nat} {xs : List Value} (h : w.grownBy w1 r) (ho : w1.ownsRow base e size v n xs) (hb : w.heap.size ≤ base) (k : w1.grownBy w2 v.ownBlock) : w.grownBy w2 r :=
  gr_own h k (fun g hg => Nat.le_trans hb (ho.lt g hg).1)

theorem Rdr.append {R : Nat} {w1 w2 : World} {rb m base : Nat} {e : TypeId} {size : Nat} {v : Value} {n : Nat} {xs : List Value} (h : Rdr R w1 rb m) (ho : w1.ownsRow base e size v n xs) (hb : rb < base) (k : w1.grownBy w2 v.ownBlock) : Rdr R w2 rb m :=
  h.keep k (fun g hg => Nat.lt_of_lt_of_le hb (ho.lt g hg).1)

/-- What is owned above the reader stays owned where only the reader changes. -/
theorem own_pick {w1 w2 : World} {rb base : Nat} {e : TypeId} {size : Nat} {v : Value} {n : Nat} {xs : List Value} (ho : w1.ownsRow base e size v n xs) (hb : rb < base) (k : w1.grownBy w2 (some rb)) : w2.ownsRow base e size v n xs :=
  ho.kept k (by
    cases hv : v.ownBlock with
    | none => exact .inl rfl
    | some g => right; intro h; have := (ho.lt g hv).1; cases h; omega)

theorem cells_new (w : World) (cs : List Value) (e : TypeId) (N : Nat) (hN : w.heap.size = N) (j : Nat) (u : Value) (h : cs[j]? = some u) : (w.alloc (.cells cs.toArray e)).cell? ((⟨N, 0, none⟩ : Addr).add j) = some u := by
  subst hN
  unfold Addr.add
  by_cases hj : j = 0
  · subst hj
    simp only [if_true, World.cell?, heap_alloc_new]
    simpa using h
  · simp only [if_neg hj, World.cell?, heap_alloc_new]
    simpa using h

theorem heap_set1 {w : World} {b : Nat} {c : Array Value} {e : TypeId} {f : Nat × Nat} (h : w.heap[b]? = some (.cells c e f)) (o : Nat) (v : Value) : (w.setCell ⟨b, o, none⟩ v).heap[b]? = some (.cells (c.setIfInBounds o v) e f) := by
  simp only [World.setCell, Array.getElem?_modify, if_true, h, Option.map_some]; rfl

theorem Rdr.step {R : Nat} {w : World} {rb m : Nat} {a : Option Addr} {n cap : Nat} {p : Int} {xs : List Int} (hh : w.heap[rb]? = some (.cells #[.slice a n cap, .int .i64 p] R (0, 0))) (hp : 0 ≤ p) (hm : p ≤ (m : Int))
    (hs : Sl u8L w a n xs) (hx : ∀ x ∈ xs, 0 ≤ x ∧ x ≤ 255) (hb : 0 < n → ∀ b off, a = some ⟨b, off, none⟩ → b < rb) (hn : n ≤ 2000) : Rdr R (w.setCell ⟨rb, 1, none⟩ (.int .i64 (p + 1))) rb (m + 1) :=
  ⟨a, n, cap, p + 1, xs, by rw [heap_set1 hh]; rfl, by omega, by omega, hs.keep (gr_setCell (r := some rb) (gr_refl _ _) (.inl rfl) _) (fun h0 b off e e2 => by have := hb h0 b off e; cases e2; omega), hx, hb, hn⟩

end Go.Proofs.Ythehhnckfoappaa
