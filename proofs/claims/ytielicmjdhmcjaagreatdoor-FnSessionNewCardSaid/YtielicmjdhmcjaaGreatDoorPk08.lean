/- Packed: Prices. -/
import Derived.Test.YtielicmjdhmcjaaGreatDoorRows
import Derived.Test.YtielicmjdhmcjaaGreatDoorPk07
/- Prices, yields, risks and shocks in plain Lean. No program in sight. -/
namespace Go.Proofs.YtielicmjdhmcjaaGreatDoor
open Go.RowKit

def flr (a b : Int) : Int := a / b
def cei (a b : Int) : Int := -((-a) / b)

theorem flr_lo (a b : Int) (hb : 0 < b) : flr a b * b ≤ a ∧ a < flr a b * b + b := by
  unfold flr
  have h1 := Int.mul_ediv_add_emod a b
  have h2 := Int.emod_nonneg a (b := b) (by omega)
  have h3 := Int.emod_lt_of_pos a hb
  rw [Int.mul_comm] at h1
  omega
theorem cei_hi (a b : Int) (hb : 0 < b) : a ≤ cei a b * b ∧ cei a b * b < a + b := by
  have h := flr_lo (-a) b hb
  unfold flr at h
  unfold cei
  rw [Int.neg_mul]
  omega
theorem le_of_mul (a c b : Int) (hb : 0 < b) (h : a * b < c * b + b) : a ≤ c := by
  have h2 : a * b < (c + 1) * b := by rw [Int.add_mul]; omega
  have := Int.lt_of_mul_lt_mul_right h2 (by omega)
  omega
theorem le_flr (a b c : Int) (hb : 0 < b) (h : c * b ≤ a) : c ≤ flr a b := by
  have := flr_lo a b hb
  exact le_of_mul _ _ b hb (by omega)
theorem flr_le (a b c : Int) (hb : 0 < b) (h : a < c * b + b) : flr a b ≤ c := by
  have := flr_lo a b hb
  exact le_of_mul _ _ b hb (by omega)
theorem cei_le (a b c : Int) (hb : 0 < b) (h : a ≤ c * b) : cei a b ≤ c := by
  have := cei_hi a b hb
  exact le_of_mul _ _ b hb (by omega)
theorem le_cei (a b c : Int) (hb : 0 < b) (h : c * b < a + b) : c ≤ cei a b := by
  have := cei_hi a b hb
  exact le_of_mul _ _ b hb (by omega)
theorem flr_mono (a c b : Int) (hb : 0 < b) (h : a ≤ c) : flr a b ≤ flr c b := by
  have := flr_lo a b hb
  exact le_flr _ _ _ hb (by omega)
theorem cei_mono (a c b : Int) (hb : 0 < b) (h : a ≤ c) : cei a b ≤ cei c b := by
  have := cei_hi c b hb
  exact cei_le _ _ _ hb (by omega)
theorem flr_cei (a b : Int) (hb : 0 < b) : flr a b ≤ cei a b := by
  have h1 := flr_lo a b hb
  exact le_cei _ _ _ hb (by omega)
theorem mul_le {a b c d : Int} (h1 : a ≤ b) (h2 : c ≤ d) (h3 : 0 ≤ a) (h4 : 0 ≤ c) : a * c ≤ b * d :=
  Int.le_trans (Int.mul_le_mul_of_nonneg_left h2 h3) (Int.mul_le_mul_of_nonneg_right h1 (by omega))

def growL (y l d : Int) : Nat → Int
  | 0 => 1000000 + flr (y * l) d
  | k + 1 => flr (growL y l d k * (1000000 + y)) 1000000
def growH (y l d : Int) : Nat → Int
  | 0 => 1000000 + cei (y * l) d
  | k + 1 => cei (growH y l d k * (1000000 + y)) 1000000
def discL (y l d : Int) (k : Nat) : Int := flr 1000000000000 (growH y l d k)
def discH (y l d : Int) (k : Nat) : Int := cei 1000000000000 (growL y l d k)

structure OkY (y l d : Int) : Prop where
  y0 : 0 ≤ y
  y1 : y ≤ 100000
  l0 : 1 ≤ l
  ld : l ≤ d
  d1 : d ≤ 36524

def growB : Nat → Int
  | 0 => 1100000
  | k + 1 => growB k * 11 / 10 + 1

theorem growB_mono (k : Nat) : growB k ≤ growB (k + 1) ∧ 0 ≤ growB k := by
  induction k with
  | zero => decide
  | succ k ih =>
    have e : growB (k + 1) = growB k * 11 / 10 + 1 := rfl
    have e2 : growB (k + 1 + 1) = growB (k + 1) * 11 / 10 + 1 := rfl
    omega
set_option maxRecDepth 10000 in
theorem growB_le (k : Nat) (h : k ≤ 41) : growB k ≤ 100000000 := by
  have hm : ∀ j i : Nat, growB i ≤ growB (i + j) := by
    intro j
    induction j with
    | zero => intro i; exact Int.le_refl _
    | succ j ih => intro i; exact Int.le_trans (ih i) (growB_mono (i + j)).1
  have h1 := hm (41 - k) k
  rw [show k + (41 - k) = 41 by omega] at h1
  have h2 : growB 41 ≤ 100000000 := by decide
  omega

theorem grow_lo {y l d : Int} (h : OkY y l d) (k : Nat) : 1000000 ≤ growL y l d k ∧ growL y l d k ≤ growH y l d k := by
  have hl := h.l0; have hd := h.ld; have hy := h.y0
  induction k with
  | zero =>
    have h1 : 0 ≤ y * l := Int.mul_nonneg hy (by omega)
    have h2 := le_flr (y * l) d 0 (by omega) (by omega)
    have h3 := flr_cei (y * l) d (by omega)
    simp only [growL, growH]; omega
  | succ k ih =>
    simp only [growL, growH]
    have h1 : growL y l d k * 1000000 ≤ growL y l d k * (1000000 + y) := Int.mul_le_mul_of_nonneg_left (by omega) (by omega)
    have h2 : growL y l d k * (1000000 + y) ≤ growH y l d k * (1000000 + y) := Int.mul_le_mul_of_nonneg_right ih.2 (by omega)
    refine ⟨le_flr _ _ _ (by omega) (by omega), ?_⟩
    exact Int.le_trans (flr_mono _ _ _ (by omega) h2) (flr_cei _ _ (by omega))

theorem grow_hi {y l d : Int} (h : OkY y l d) (k : Nat) : growH y l d k ≤ growB k := by
  have hl := h.l0; have hd := h.ld; have hy := h.y0; have hy1 := h.y1
  induction k with
  | zero =>
    simp only [growH, growB]
    have h1 : y * l ≤ 100000 * d := mul_le hy1 hd hy (by omega)
    have := cei_le (y * l) d 100000 (by omega) h1
    omega
  | succ k ih =>
    have h0 := (grow_lo h k)
    simp only [growH]
    have e : growB (k + 1) = growB k * 11 / 10 + 1 := rfl
    rw [e]
    have h1 : growH y l d k * (1000000 + y) ≤ growB k * 1100000 := mul_le ih (by omega) (by omega) (by omega)
    exact cei_le _ _ _ (by omega) (by omega)

theorem grow_max {y l d : Int} (h : OkY y l d) (k : Nat) (hk : k ≤ 41) : growH y l d k ≤ 100000000 := Int.le_trans (grow_hi h k) (growB_le k hk)

theorem grow_mono {y z l d : Int} (h : OkY y l d) (_ : OkY z l d) (hyz : y ≤ z) (k : Nat) : growL y l d k ≤ growL z l d k ∧ growH y l d k ≤ growH z l d k := by
  have hl := h.l0; have hd := h.ld; have hy := h.y0
  induction k with
  | zero =>
    have h1 : y * l ≤ z * l := Int.mul_le_mul_of_nonneg_right hyz (by omega)
    have h2 := flr_mono (y * l) (z * l) d (by omega) h1
    have h3 := cei_mono (y * l) (z * l) d (by omega) h1
    simp only [growL, growH]; omega
  | succ k ih =>
    have h0 := grow_lo h k
    simp only [growL, growH]
    exact ⟨flr_mono _ _ _ (by omega) (mul_le ih.1 (by omega) (by omega) (by omega)), cei_mono _ _ _ (by omega) (mul_le ih.2 (by omega) (by omega) (by omega))⟩

theorem grow_zero (l d : Int) (_ : 0 < d) (k : Nat) : growL 0 l d k = 1000000 ∧ growH 0 l d k = 1000000 := by
  induction k with
  | zero => simp [growL, growH, flr, cei]
  | succ k ih => simp only [growL, growH]; rw [ih.1, ih.2]; decide

theorem disc_lo {y l d : Int} (h : OkY y l d) (k : Nat) (hk : k ≤ 41) : 10000 ≤ discL y l d k ∧ discL y l d k ≤ discH y l d k ∧ discH y l d k ≤ 1000000 := by
  have h1 := grow_lo h k
  have h2 := grow_max h k hk
  unfold discL discH
  refine ⟨le_flr _ _ _ (by omega) (by omega), ?_, cei_le _ _ _ (by omega) (by omega)⟩
  have h3 := flr_lo 1000000000000 (growH y l d k) (by omega)
  have h5 : 0 ≤ flr 1000000000000 (growH y l d k) := le_flr _ _ _ (by omega) (by omega)
  have h4 : flr 1000000000000 (growH y l d k) * growL y l d k ≤ flr 1000000000000 (growH y l d k) * growH y l d k := Int.mul_le_mul_of_nonneg_left h1.2 h5
  exact le_cei _ _ _ (by omega) (by omega)

theorem disc_mono {y z l d : Int} (h : OkY y l d) (hz : OkY z l d) (hyz : y ≤ z) (k : Nat) (hk : k ≤ 41) : discL z l d k ≤ discL y l d k ∧ discH z l d k ≤ discH y l d k := by
  have g := grow_mono h hz hyz k
  have hy1 := grow_lo h k
  have hz1 := grow_lo hz k
  have a := disc_lo h k hk
  have b := disc_lo hz k hk
  constructor
  · have h3 := flr_lo 1000000000000 (growH z l d k) (by omega)
    have h4 : discL z l d k * growH y l d k ≤ discL z l d k * growH z l d k := Int.mul_le_mul_of_nonneg_left g.2 (by omega)
    unfold discL at h4 ⊢
    exact le_flr _ _ _ (by omega) (by omega)
  · have h3 := cei_hi 1000000000000 (growL y l d k) (by omega)
    have h4 : discH y l d k * growL y l d k ≤ discH y l d k * growL z l d k := Int.mul_le_mul_of_nonneg_left g.1 (by omega)
    unfold discH at h4 ⊢
    exact cei_le _ _ _ (by omega) (by omega)

theorem disc_zero (l d : Int) (hd : 0 < d) (k : Nat) : discL 0 l d k = 1000000 ∧ discH 0 l d k = 1000000 := by
  unfold discL discH
  rw [(grow_zero l d hd k).1, (grow_zero l d hd k).2]; decide

/- The exact growth: numerator and denominator. -/
def growN (y l d : Int) (k : Nat) : Int := (1000000 * d + y * l) * (1000000 + y) ^ k
def growT (d : Int) (k : Nat) : Int := d * 1000000 ^ k

theorem growT_pos (d : Int) (hd : 0 < d) (k : Nat) : 0 < growT d k := Int.mul_pos hd (Int.pow_pos (by omega))
theorem growN_pos {y l d : Int} (h : OkY y l d) (k : Nat) : 0 < growN y l d k := by
  have h1 := h.y0; have h2 := h.l0; have h3 := h.ld
  have : 0 ≤ y * l := Int.mul_nonneg h1 (by omega)
  exact Int.mul_pos (by omega) (Int.pow_pos (by omega))
theorem growN_succ (y l d : Int) (k : Nat) : growN y l d (k + 1) = growN y l d k * (1000000 + y) := by unfold growN; rw [Int.pow_succ, Int.mul_assoc]
theorem growT_succ (d : Int) (k : Nat) : growT d (k + 1) = growT d k * 1000000 := by unfold growT; rw [Int.pow_succ, Int.mul_assoc]

theorem grow_exact {y l d : Int} (h : OkY y l d) (k : Nat) : growL y l d k * growT d k ≤ growN y l d k ∧ growN y l d k ≤ growH y l d k * growT d k := by
  have h1 := h.y0; have h2 := h.l0; have h3 := h.ld
  induction k with
  | zero =>
    have a := flr_lo (y * l) d (by omega)
    have b := cei_hi (y * l) d (by omega)
    simp only [growL, growH, growN, growT, Int.pow_zero, Int.mul_one, Int.add_mul]
    omega
  | succ k ih =>
    rw [growN_succ, growT_succ]
    have hT := growT_pos d (by omega) k
    have a := flr_lo (growL y l d k * (1000000 + y)) 1000000 (by omega)
    have b := cei_hi (growH y l d k * (1000000 + y)) 1000000 (by omega)
    simp only [growL, growH]
    constructor
    · have e1 : flr (growL y l d k * (1000000 + y)) 1000000 * (growT d k * 1000000) = flr (growL y l d k * (1000000 + y)) 1000000 * 1000000 * growT d k := by
        rw [Int.mul_assoc, Int.mul_comm 1000000]
      have e2 : growL y l d k * (1000000 + y) * growT d k = growL y l d k * growT d k * (1000000 + y) := by rw [Int.mul_assoc, Int.mul_comm (1000000 + y), Int.mul_assoc]
      have c1 : flr (growL y l d k * (1000000 + y)) 1000000 * 1000000 * growT d k ≤ growL y l d k * (1000000 + y) * growT d k := Int.mul_le_mul_of_nonneg_right a.1 (by omega)
      have c2 : growL y l d k * growT d k * (1000000 + y) ≤ growN y l d k * (1000000 + y) := Int.mul_le_mul_of_nonneg_right ih.1 (by omega)
      rw [e1]; rw [e2] at c1; omega
    · have e1 : cei (growH y l d k * (1000000 + y)) 1000000 * (growT d k * 1000000) = cei (growH y l d k * (1000000 + y)) 1000000 * 1000000 * growT d k := by
        rw [Int.mul_assoc, Int.mul_comm 1000000]
      have e2 : growH y l d k * (1000000 + y) * growT d k = growH y l d k * growT d k * (1000000 + y) := by rw [Int.mul_assoc, Int.mul_comm (1000000 + y), Int.mul_assoc]
      have c1 : growH y l d k * (1000000 + y) * growT d k ≤ cei (growH y l d k * (1000000 + y)) 1000000 * 1000000 * growT d k := Int.mul_le_mul_of_nonneg_right b.1 (by omega)
      have c2 : growN y l d k * (1000000 + y) ≤ growH y l d k * growT d k * (1000000 + y) := Int.mul_le_mul_of_nonneg_right ih.2 (by omega)
      rw [e1]; rw [e2] at c1; omega

theorem disc_exact {y l d : Int} (h : OkY y l d) (k : Nat) (hk : k ≤ 41) : discL y l d k * growN y l d k ≤ 1000000000000 * growT d k ∧ 1000000000000 * growT d k ≤ discH y l d k * growN y l d k := by
  have hT := growT_pos d (by have := h.l0; have := h.ld; omega) k
  have g := grow_lo h k
  have e := grow_exact h k
  have dl := disc_lo h k hk
  constructor
  · have a : discL y l d k * growH y l d k ≤ 1000000000000 := (flr_lo _ _ (by omega)).1
    have b : discL y l d k * growN y l d k ≤ discL y l d k * (growH y l d k * growT d k) := Int.mul_le_mul_of_nonneg_left e.2 (by omega)
    rw [← Int.mul_assoc] at b
    have c : discL y l d k * growH y l d k * growT d k ≤ 1000000000000 * growT d k := Int.mul_le_mul_of_nonneg_right a (by omega)
    omega
  · have a : 1000000000000 ≤ discH y l d k * growL y l d k := (cei_hi _ _ (by omega)).1
    have b : discH y l d k * (growL y l d k * growT d k) ≤ discH y l d k * growN y l d k := Int.mul_le_mul_of_nonneg_left e.1 (by omega)
    rw [← Int.mul_assoc] at b
    have c : 1000000000000 * growT d k ≤ discH y l d k * growL y l d k * growT d k := Int.mul_le_mul_of_nonneg_right a (by omega)
    omega

theorem growN_mono {y z l d : Int} (h : OkY y l d) (hyz : y < z) (k : Nat) : growN y l d k < growN z l d k := by
  have h1 := h.y0; have h2 := h.l0; have h3 := h.ld
  induction k with
  | zero =>
    simp only [growN, Int.pow_zero, Int.mul_one]
    have : (y + 1) * l ≤ z * l := Int.mul_le_mul_of_nonneg_right (by omega) (by omega)
    rw [Int.add_mul] at this
    omega
  | succ k ih =>
    rw [growN_succ, growN_succ]
    have hp := growN_pos h k
    have a : growN y l d k * (1000000 + y) < growN z l d k * (1000000 + y) := Int.mul_lt_mul_of_pos_right ih (by omega)
    have b : growN z l d k * (1000000 + y) ≤ growN z l d k * (1000000 + z) := Int.mul_le_mul_of_nonneg_left (by omega) (by omega)
    omega

theorem disc_strict {y z l d : Int} (h : OkY y l d) (hz : OkY z l d) (hyz : y < z) (k : Nat) (hk : k ≤ 41) : discL z l d k < discH y l d k := by
  have a := (disc_exact h k hk).2
  have b := (disc_exact hz k hk).1
  have c := growN_mono h hyz k
  have dl := disc_lo hz k hk
  have e : discL z l d k * growN y l d k < discL z l d k * growN z l d k := Int.mul_lt_mul_of_pos_left c (by omega)
  have f : discL z l d k * growN y l d k < discH y l d k * growN y l d k := by omega
  exact Int.lt_of_mul_lt_mul_right f (by have := growN_pos h k; omega)

theorem sq_le (a b : Int) (hb : 0 ≤ b) (h : a * a ≤ b * b) : a ≤ b := by
  by_cases hlt : a ≤ b
  · exact hlt
  · have h1 : b * b < a * a := by
      have h2 : b * b ≤ b * a := Int.mul_le_mul_of_nonneg_left (by omega) hb
      have h3 : b * a < a * a := Int.mul_lt_mul_of_pos_right (by omega) (by omega)
      omega
    omega

theorem growN_convex {x y z l d : Int} (hx : OkY x l d) (_ : OkY y l d) (hz : OkY z l d) (hm : x + z = 2 * y) (k : Nat) : growN x l d k * growN z l d k ≤ growN y l d k * growN y l d k := by
  induction k with
  | zero =>
    simp only [growN, Int.pow_zero, Int.mul_one]
    obtain ⟨t, ht⟩ : ∃ t, t = y - x := ⟨_, rfl⟩
    obtain rfl : x = y - t := by omega
    obtain rfl : z = y + t := by omega
    have e1 : 1000000 * d + (y - t) * l = (1000000 * d + y * l) - t * l := by rw [Int.sub_mul]; omega
    have e2 : 1000000 * d + (y + t) * l = (1000000 * d + y * l) + t * l := by rw [Int.add_mul]; omega
    rw [e1, e2]
    generalize 1000000 * d + y * l = A
    generalize t * l = B
    rw [Int.mul_add, Int.sub_mul, Int.sub_mul, Int.mul_comm B A]
    have : 0 ≤ B * B := by
      rcases Int.le_total 0 B with h | h
      · exact Int.mul_nonneg h h
      · exact Int.mul_nonneg_of_nonpos_of_nonpos h h
    omega
  | succ k ih =>
    rw [growN_succ, growN_succ, growN_succ]
    have px := growN_pos hx k
    have pz := growN_pos hz k
    have hx0 := hx.y0; have hz0 := hz.y0
    have e1 : growN x l d k * (1000000 + x) * (growN z l d k * (1000000 + z)) = growN x l d k * growN z l d k * ((1000000 + x) * (1000000 + z)) := by
      rw [Int.mul_assoc, Int.mul_assoc, ← Int.mul_assoc (1000000 + x), Int.mul_comm (1000000 + x) (growN z l d k), Int.mul_assoc]
    have e2 : growN y l d k * (1000000 + y) * (growN y l d k * (1000000 + y)) = growN y l d k * growN y l d k * ((1000000 + y) * (1000000 + y)) := by
      rw [Int.mul_assoc, Int.mul_assoc, ← Int.mul_assoc (1000000 + y), Int.mul_comm (1000000 + y) (growN y l d k), Int.mul_assoc]
    rw [e1, e2]
    refine mul_le ih ?_ (Int.mul_nonneg (by omega) (by omega)) (Int.mul_nonneg (by omega) (by omega))
    obtain ⟨t, ht⟩ : ∃ t, t = y - x := ⟨_, rfl⟩
    obtain rfl : x = y - t := by omega
    obtain rfl : z = y + t := by omega
    have e3 : (1000000 : Int) + (y - t) = (1000000 + y) - t := by omega
    have e4 : (1000000 : Int) + (y + t) = (1000000 + y) + t := by omega
    rw [e3, e4]
    generalize (1000000 : Int) + y = A
    rw [Int.mul_add, Int.sub_mul, Int.sub_mul, Int.mul_comm t A]
    have : 0 ≤ t * t := by
      rcases Int.le_total 0 t with h | h
      · exact Int.mul_nonneg h h
      · exact Int.mul_nonneg_of_nonpos_of_nonpos h h
    omega

theorem disc_convex {x y z l d : Int} (hx : OkY x l d) (hy : OkY y l d) (hz : OkY z l d) (hm : x + z = 2 * y) (k : Nat) (hk : k ≤ 41) : 2 * discL y l d k ≤ discH x l d k + discH z l d k := by
  have a := (disc_exact hx k hk).2
  have b := (disc_exact hz k hk).2
  have c := (disc_exact hy k hk).1
  have dx := disc_lo hx k hk
  have dy := disc_lo hy k hk
  have dz := disc_lo hz k hk
  have px := growN_pos hx k
  have py := growN_pos hy k
  have pz := growN_pos hz k
  have cv := growN_convex hx hy hz hm k
  have pT := growT_pos d (by have := hx.l0; have := hx.ld; omega) k
  generalize discL y l d k = L at *
  generalize discH x l d k = X at *
  generalize discH z l d k = Z at *
  generalize growN x l d k = p at *
  generalize growN y l d k = q at *
  generalize growN z l d k = r at *
  generalize 1000000000000 * growT d k = C at *
  -- L q ≤ C ≤ X p, Z r; p r ≤ q q
  have s1 : L * q * (L * q) ≤ X * p * (Z * r) := mul_le (by omega) (by omega) (Int.mul_nonneg (by omega) (by omega)) (Int.mul_nonneg (by omega) (by omega))
  have s2 : L * L * (p * r) ≤ L * L * (q * q) := Int.mul_le_mul_of_nonneg_left cv (Int.mul_nonneg (by omega) (by omega))
  have e1 : L * q * (L * q) = L * L * (q * q) := by rw [Int.mul_assoc, Int.mul_assoc, ← Int.mul_assoc q, Int.mul_comm q L, Int.mul_assoc]
  have e2 : X * p * (Z * r) = X * Z * (p * r) := by rw [Int.mul_assoc, Int.mul_assoc, ← Int.mul_assoc p, Int.mul_comm p Z, Int.mul_assoc]
  have s3 : L * L * (p * r) ≤ X * Z * (p * r) := by omega
  have s4 : L * L ≤ X * Z := Int.le_of_mul_le_mul_right s3 (Int.mul_pos px pz)
  refine sq_le _ _ (by omega) ?_
  have e3 : 2 * L * (2 * L) = 4 * (L * L) := by rw [show 2 * L = L + L by omega, Int.add_mul, Int.mul_add]; omega
  have e4 : (X + Z) * (X + Z) = X * X + 2 * (X * Z) + Z * Z := by rw [Int.add_mul, Int.mul_add, Int.mul_add, Int.mul_comm Z X]; omega
  have e5 : 0 ≤ (X - Z) * (X - Z) := by
    rcases Int.le_total 0 (X - Z) with h | h
    · exact Int.mul_nonneg h h
    · exact Int.mul_nonneg_of_nonpos_of_nonpos h h
  have e6 : (X - Z) * (X - Z) = X * X - 2 * (X * Z) + Z * Z := by rw [Int.sub_mul, Int.mul_sub, Int.mul_sub, Int.mul_comm Z X]; omega
  omega

theorem grow_width {y l d : Int} (h : OkY y l d) (k : Nat) (hk : k ≤ 41) : 1000000000 * (growH y l d k - growL y l d k) ≤ (2001 * k + 1000) * growL y l d k := by
  have h1 := h.y0; have h2 := h.l0; have h3 := h.ld
  induction k with
  | zero =>
    have a := flr_lo (y * l) d (by omega)
    have b := cei_hi (y * l) d (by omega)
    have c : cei (y * l) d ≤ flr (y * l) d + 1 := cei_le _ _ _ (by omega) (by rw [Int.add_mul]; omega)
    have g := (grow_lo h 0).1
    simp only [growL, growH] at g ⊢
    omega
  | succ k ih =>
    have ih := ih (by omega)
    have g := grow_lo h k
    have g1 := grow_lo h (k + 1)
    have a := flr_lo (growL y l d k * (1000000 + y)) 1000000 (by omega)
    have b := cei_hi (growH y l d k * (1000000 + y)) 1000000 (by omega)
    have eL : growL y l d (k + 1) = flr (growL y l d k * (1000000 + y)) 1000000 := rfl
    have eH : growH y l d (k + 1) = cei (growH y l d k * (1000000 + y)) 1000000 := rfl
    rw [← eL] at a
    rw [← eH] at b
    have s1 : 1000000000 * (growH y l d k - growL y l d k) * (1000000 + y) ≤ (2001 * k + 1000) * growL y l d k * (1000000 + y) := Int.mul_le_mul_of_nonneg_right ih (by omega)
    have e1 : 1000000000 * (growH y l d k - growL y l d k) * (1000000 + y) = 1000000000 * (growH y l d k * (1000000 + y)) - 1000000000 * (growL y l d k * (1000000 + y)) := by
      rw [Int.mul_assoc, Int.sub_mul]; omega
    have e2 : (2001 * (k : Int) + 1000) * growL y l d k * (1000000 + y) = (2001 * k + 1000) * (growL y l d k * (1000000 + y)) := Int.mul_assoc _ _ _
    have s2 : growL y l d k * 1000000 ≤ growL y l d k * (1000000 + y) := Int.mul_le_mul_of_nonneg_left (by omega) (by omega)
    rw [e1, e2] at s1
    generalize growL y l d k * (1000000 + y) = P at *
    generalize growH y l d k * (1000000 + y) = Q at *
    generalize growL y l d (k + 1) = L1 at *
    generalize growH y l d (k + 1) = H1 at *
    have s3 : (2001 * (k : Int) + 1000) * P ≤ (2001 * k + 1000) * (L1 * 1000000 + 1000000) := Int.mul_le_mul_of_nonneg_left (by omega) (by omega)
    have e3 : (2001 * (k : Int) + 1000) * (L1 * 1000000 + 1000000) = ((2001 * k + 1000) * L1) * 1000000 + (2001 * k + 1000) * 1000000 := by rw [Int.mul_add, ← Int.mul_assoc]
    have e4 : (2001 * ((k + 1 : Nat) : Int) + 1000) * L1 = (2001 * k + 1000) * L1 + 2001 * L1 := by push_cast; rw [← Int.add_mul]; congr 1
    rw [e4]
    rw [e3] at s3
    generalize (2001 * (k : Int) + 1000) * L1 = W at *
    omega

theorem disc_width {y l d : Int} (h : OkY y l d) (k : Nat) (hk : k ≤ 41) : discH y l d k - discL y l d k ≤ 2 * k + 3 := by
  have g := grow_lo h k
  have w := grow_width h k hk
  have hL := disc_lo h k hk
  have b := cei_hi 1000000000000 (growL y l d k) (by omega)
  have a := flr_lo 1000000000000 (growH y l d k) (by omega)
  have e1 : cei 1000000000000 (growL y l d k) = discH y l d k := rfl
  have e2 : flr 1000000000000 (growH y l d k) = discL y l d k := rfl
  rw [e1] at b
  rw [e2] at a
  have hm := grow_max h k hk
  generalize growL y l d k = L at *
  generalize growH y l d k = H at *
  generalize discH y l d k = X at *
  generalize discL y l d k = Z at *
  -- X L < 10^12 + L, 10^12 < Z H + H, 10^9 (H - L) ≤ (2001 k + 1000) L
  have s1 : (X - 1) * L < 1000000000000 := by rw [Int.sub_mul]; omega
  have s2 : 1000000000000 < (Z + 1) * H := by rw [Int.add_mul]; omega
  -- (Z + 1) (H - L) ≤ 10^6 (2001 k + 1000) / 1000 ..
  have s3 : Z * (1000000000 * (H - L)) ≤ Z * ((2001 * k + 1000) * L) := Int.mul_le_mul_of_nonneg_left w (by omega)
  have s4 : Z * H ≤ 1000000000000 := a.1
  have s5 : Z * L ≤ Z * H := Int.mul_le_mul_of_nonneg_left g.2 (by omega)
  have e3 : Z * ((2001 * (k : Int) + 1000) * L) = (2001 * k + 1000) * (Z * L) := by rw [← Int.mul_assoc, Int.mul_comm Z, Int.mul_assoc]
  have s6 : (2001 * (k : Int) + 1000) * (Z * L) ≤ (2001 * k + 1000) * 1000000000000 := Int.mul_le_mul_of_nonneg_left (by omega) (by omega)
  have e4 : Z * (1000000000 * (H - L)) = 1000000000 * (Z * H) - 1000000000 * (Z * L) := by rw [← Int.mul_assoc, Int.mul_comm Z, Int.mul_assoc, Int.mul_sub]; omega
  -- so Z H - Z L ≤ (2001 k + 1000) 1000
  have s7 : Z * H - Z * L ≤ (2001 * k + 1000) * 1000 := by omega
  -- (X - 1 - Z) L < 10^12 - Z L ≤ Z H + H - Z L
  have s8 : (X - 1 - Z) * L < (2001 * k + 1000) * 1000 + H := by
    have e5 : (X - 1 - Z) * L = (X - 1) * L - Z * L := by rw [Int.sub_mul]
    have e6 : (Z + 1) * H = Z * H + H := by rw [Int.add_mul]; omega
    omega
  -- H ≤ L + (2001 k + 1000) L / 10^9
  by_cases hx : X - 1 - Z ≤ 2 * k + 2
  · omega
  · exfalso
    have s9 : (2 * (k : Int) + 3) * L ≤ (X - 1 - Z) * L := Int.mul_le_mul_of_nonneg_right (by omega) (by omega)
    have e7 : (2 * (k : Int) + 3) * L = 2 * (k * L) + 3 * L := by rw [Int.add_mul, Int.mul_assoc]
    have e8 : (2001 * (k : Int) + 1000) * L = 2001 * (k * L) + 1000 * L := by rw [Int.add_mul, Int.mul_assoc]
    rw [e8] at w
    rw [e7] at s9
    have s10 : (k : Int) * 1000000 ≤ k * L := Int.mul_le_mul_of_nonneg_left (by omega) (by omega)
    omega

end Go.Proofs.YtielicmjdhmcjaaGreatDoor
