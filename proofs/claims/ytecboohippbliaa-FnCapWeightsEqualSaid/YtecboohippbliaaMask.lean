/- Weights of zero among the others: the reference's shares with them are the program's shares without them. No program in sight. -/
import Derived.Test.YtecboohippbliaaRows
import Derived.Test.YtecboohippbliaaSharesFacts
namespace Go.Proofs.Ytecboohippbliaa
open Go.RowKit

/-- The numbers at the places that are marked, 0 at the others. -/
def expand : List Bool → List Int → List Int
  | [], _ => []
  | false :: m, xs => 0 :: expand m xs
  | true :: m, [] => 0 :: expand m []
  | true :: m, x :: xs => x :: expand m xs

def posOf : List Bool → Nat → Nat
  | [], k => k
  | false :: m, k => posOf m k + 1
  | true :: _, 0 => 0
  | true :: m, k + 1 => posOf m k + 1

def marks (m : List Bool) : Nat := m.count true

theorem expand_len (m : List Bool) (xs : List Int) : (expand m xs).length = m.length := by
  induction m generalizing xs with
  | nil => rfl
  | cons b m ih =>
    cases b with
    | false => simp [expand, ih]
    | true => cases xs <;> simp [expand, ih]

theorem marks_cons_true (m : List Bool) : marks (true :: m) = marks m + 1 := by unfold marks; simp
theorem marks_cons_false (m : List Bool) : marks (false :: m) = marks m := by unfold marks; simp

theorem expand_sum (m : List Bool) (xs : List Int) (h : marks m = xs.length) : sumI (expand m xs) = sumI xs := by
  induction m generalizing xs with
  | nil =>
    have : xs = [] := List.eq_nil_of_length_eq_zero (by rw [← h]; rfl)
    subst this; rfl
  | cons b m ih =>
    cases b with
    | false => rw [marks_cons_false] at h; simp only [expand, sumI]; rw [ih xs h]; omega
    | true =>
      rw [marks_cons_true] at h
      cases xs with
      | nil => simp at h
      | cons x xs => simp only [expand, sumI]; rw [ih xs (by simpa using h)]

theorem posOf_lt (m : List Bool) (k : Nat) (h : k < marks m) : posOf m k < m.length := by
  induction m generalizing k with
  | nil => simp [marks] at h
  | cons b m ih =>
    cases b with
    | false => rw [marks_cons_false] at h; have := ih k h; simp only [posOf, List.length_cons]; omega
    | true =>
      rw [marks_cons_true] at h
      cases k with
      | zero => simp [posOf]
      | succ k => have := ih k (by omega); simp only [posOf, List.length_cons]; omega

theorem posOf_mono (m : List Bool) (i k : Nat) (h : i < k) (hk : k < marks m) : posOf m i < posOf m k := by
  induction m generalizing i k with
  | nil => simp [marks] at hk
  | cons b m ih =>
    cases b with
    | false => rw [marks_cons_false] at hk; have := ih i k h hk; simp only [posOf]; omega
    | true =>
      rw [marks_cons_true] at hk
      cases k with
      | zero => omega
      | succ k =>
        cases i with
        | zero => simp [posOf]
        | succ i => have := ih i k (by omega) (by omega); simp only [posOf]; omega

theorem expand_at (m : List Bool) (xs : List Int) (h : marks m = xs.length) (k : Nat) (hk : k < xs.length) : (expand m xs).getD (posOf m k) 0 = xs.getD k 0 := by
  induction m generalizing xs k with
  | nil => simp [marks] at h; omega
  | cons b m ih =>
    cases b with
    | false => rw [marks_cons_false] at h; simp only [expand, posOf, List.getD_cons_succ]; exact ih xs h k hk
    | true =>
      rw [marks_cons_true] at h
      cases xs with
      | nil => simp at hk
      | cons x xs =>
        cases k with
        | zero => rfl
        | succ k => simp only [expand, posOf, List.getD_cons_succ]; exact ih xs (by simpa using h) k (by simpa using hk)

theorem expand_off (m : List Bool) (xs : List Int) (h : marks m = xs.length) (i : Nat) (hi : ∀ k, k < xs.length → posOf m k ≠ i) : (expand m xs).getD i 0 = 0 := by
  induction m generalizing xs i with
  | nil => simp [expand]
  | cons b m ih =>
    cases b with
    | false =>
      rw [marks_cons_false] at h
      cases i with
      | zero => rfl
      | succ i => simp only [expand, List.getD_cons_succ]; exact ih xs h i (fun k hk e => hi k hk (by simp only [posOf]; omega))
    | true =>
      rw [marks_cons_true] at h
      cases xs with
      | nil => simp at h
      | cons x xs =>
        cases i with
        | zero => exact absurd rfl (hi 0 (by simp))
        | succ i => simp only [expand, List.getD_cons_succ]; exact ih xs (by simpa using h) i (fun k hk e => hi (k + 1) (by simpa using hk) (by simp only [posOf]; omega))

theorem expand_set (m : List Bool) (xs : List Int) (h : marks m = xs.length) (k : Nat) (hk : k < xs.length) (v : Int) : expand m (xs.set k v) = (expand m xs).set (posOf m k) v := by
  induction m generalizing xs k with
  | nil => simp [marks] at h; omega
  | cons b m ih =>
    cases b with
    | false => rw [marks_cons_false] at h; simp only [expand, posOf, List.set_cons_succ]; rw [ih xs h k hk]
    | true =>
      rw [marks_cons_true] at h
      cases xs with
      | nil => simp at hk
      | cons x xs =>
        cases k with
        | zero => rfl
        | succ k => simp only [expand, posOf, List.set_cons_succ]; rw [ih xs (by simpa using h) k (by simpa using hk)]

theorem expand_map (m : List Bool) (xs : List Int) (f : Int → Int) (hf : f 0 = 0) : expand m (xs.map f) = (expand m xs).map f := by
  induction m generalizing xs with
  | nil => rfl
  | cons b m ih =>
    cases b with
    | false => simp only [expand, List.map_cons, hf]; rw [ih]
    | true =>
      cases xs with
      | nil => simp only [expand, List.map_cons, List.map_nil, hf]; rw [← ih]; rfl
      | cons x xs => simp only [expand, List.map_cons]; rw [ih]

def posI (m : List Bool) (x : Int) : Int := (posOf m x.toNat : Nat)

theorem expand_bumps (m : List Bool) (L xs : List Int) (h : marks m = xs.length) (hr : ∀ x ∈ L, 0 ≤ x ∧ x < xs.length) : expand m (L.foldl bump xs) = (L.map (posI m)).foldl bump (expand m xs) := by
  induction L generalizing xs with
  | nil => rfl
  | cons x L ih =>
    have hx := hr x (by simp)
    rw [List.foldl_cons, List.map_cons, List.foldl_cons, ih (bump xs x) (by rw [bump_len]; exact h) (fun y hy => by rw [bump_len]; exact hr y (List.mem_cons_of_mem _ hy))]
    congr 1
    unfold bump posI
    rw [expand_set m xs h _ (by omega), Int.toNat_natCast, expand_at m xs h _ (by omega)]

/-- The greatest rest again and again, where the others are not positive. -/
theorem specIter_is2 (rs0 : List Int) (n : Nat) (L : List Int) (hL : L.Pairwise (beforeR rs0)) (hr : ∀ x ∈ L, 0 ≤ x ∧ x < n) (out rs : List Int) (hlen : rs.length = n)
    (hin : ∀ i : Nat, i < n → (i : Int) ∈ L → rs.getD i 0 = rs0.getD i 0) (hout : ∀ i : Nat, i < n → (i : Int) ∉ L → rs.getD i 0 ≤ 0) (j : Nat) (hj : j ≤ L.length) (hpos : ∀ x ∈ L.take j, 0 < rs0.getD x.toNat 0) :
    (specIter j (out, rs)).1 = (L.take j).foldl bump out := by
  induction j generalizing L out rs with
  | zero => simp [specIter]
  | succ j ih =>
    cases L with
    | nil => simp at hj
    | cons x L =>
      obtain ⟨hx, hL'⟩ := List.pairwise_cons.1 hL
      have hxb := hr x (by simp)
      obtain ⟨xn, rfl⟩ := Int.eq_ofNat_of_zero_le hxb.1
      have hxn : xn < n := by omega
      have hrx : rs.getD xn 0 = rs0.getD xn 0 := hin xn hxn (by simp)
      have hx0 : 0 < rs0.getD xn 0 := by have := hpos xn (by simp); simpa using this
      have hbef : ∀ i : Nat, i < n → i ≠ xn → rs.getD i 0 < rs.getD xn 0 ∨ (rs.getD i 0 = rs.getD xn 0 ∧ xn < i) := by
        intro i hi hne
        by_cases hm : (i : Int) ∈ L
        · have hb := hx _ hm
          rw [hin i hi (List.mem_cons_of_mem _ hm), hrx]
          unfold beforeR at hb
          simp only [Int.toNat_natCast] at hb
          omega
        · left
          have := hout i hi (by intro h; rcases List.mem_cons.1 h with h | h; · exact hne (by omega)
                                · exact hm h)
          rw [hrx]; omega
      have ham : amax rs n = xn := amax_is rs n xn hxn (fun i hi => by
        by_cases hne : i = xn
        · subst hne; omega
        · have := hbef i hi hne; omega) (fun i hi => by have := hbef i (by omega) (by omega); omega)
      have hnx : (xn : Int) ∉ L := fun h => by
        have hb := hx _ h
        unfold beforeR at hb
        omega
      show (specIter j (specStep (out, rs))).1 = _
      unfold specStep
      simp only [hlen, ham, List.take_succ_cons, List.foldl_cons]
      refine ih L hL' (fun z hz => hr z (List.mem_cons_of_mem _ hz)) _ _ (by rw [List.length_set]; exact hlen) (fun i hi hm => ?_) (fun i hi hm => ?_) (by simp at hj; omega) (fun z hz => hpos z (by rw [List.take_succ_cons]; exact List.mem_cons_of_mem _ hz))
      · have hne : xn ≠ i := fun e => hnx (by rw [e]; exact hm)
        rw [List.getD_eq_getElem?_getD, List.getElem?_set_ne hne, ← List.getD_eq_getElem?_getD]
        exact hin i hi (List.mem_cons_of_mem _ hm)
      · by_cases hne : xn = i
        · subst hne
          rw [List.getD_eq_getElem?_getD, List.getElem?_set_self (by omega)]; simp
        · rw [List.getD_eq_getElem?_getD, List.getElem?_set_ne hne, ← List.getD_eq_getElem?_getD]
          exact hout i hi (by intro h; rcases List.mem_cons.1 h with h | h; · exact hne (by omega)
                              · exact hm h)

theorem shares_mask (amount : Int) (m : List Bool) (ws : List Int) (h : marks m = ws.length) (hs : 0 < sumI ws) (hl0 : 0 ≤ amount - sumI (quos amount ws)) (hl : leftOf amount ws ≤ ws.length) :
    specF amount (expand m ws) = expand m (sharesF amount ws) := by
  have hsum := expand_sum m ws h
  have hq : quos amount (expand m ws) = expand m (quos amount ws) := by
    unfold quos
    rw [hsum, expand_map m ws _ (by simp)]
  have hrs : restsL amount (expand m ws) = expand m (restsL amount ws) := by
    unfold restsL
    rw [hsum, expand_map m ws _ (by simp)]
  have hql : (quos amount ws).length = ws.length := by unfold quos; rw [List.length_map]
  have hrl : (restsL amount ws).length = ws.length := by unfold restsL; rw [List.length_map]
  have hleft : leftOf amount (expand m ws) = leftOf amount ws := by
    unfold leftOf
    rw [hq, expand_sum m _ (by rw [hql]; exact h)]
  have hrng := order_range amount ws
  unfold specF sharesF
  rw [hq, hrs, hleft, expand_bumps m _ _ (by rw [hql]; exact h) (fun x hx => by rw [hql]; exact hrng x (List.mem_of_mem_take hx)), List.map_take]
  refine specIter_is2 (expand m (restsL amount ws)) m.length _ ?_ (fun x hx => ?_) _ _ (expand_len _ _) (fun _ _ _ => rfl) (fun i hi hm => ?_) _ (by rw [List.length_map, order_len]; exact hl) (fun x hx => ?_)
  · rw [List.pairwise_map]
    refine (order_pw amount ws).imp_of_mem ?_
    intro a b ha hb hab
    have ha1 := hrng a ha
    have hb1 := hrng b hb
    unfold beforeR at *
    unfold posI
    rw [Int.toNat_natCast, Int.toNat_natCast, expand_at m _ (by rw [hrl]; exact h) _ (by omega), expand_at m _ (by rw [hrl]; exact h) _ (by omega)]
    rcases hab with hab | ⟨hab, hlt⟩
    · exact .inl hab
    · refine .inr ⟨hab, ?_⟩
      have := posOf_mono m a.toNat b.toNat (by omega) (by omega)
      omega
  · obtain ⟨y, hy, rfl⟩ := List.mem_map.1 hx
    have := hrng y hy
    have := posOf_lt m y.toNat (by omega)
    unfold posI; omega
  · rw [expand_off m _ (by rw [hrl]; exact h) i (fun k hk e => ?_)]
    · exact Int.le_refl _
    · apply hm
      rw [hrl] at hk
      refine List.mem_map.2 ⟨(k : Int), order_mem amount ws k hk, ?_⟩
      unfold posI; rw [Int.toNat_natCast, e]
  · rw [← List.map_take] at hx
    obtain ⟨y, hy, rfl⟩ := List.mem_map.1 hx
    have hyr := hrng y (List.mem_of_mem_take hy)
    obtain ⟨yn, rfl⟩ := Int.eq_ofNat_of_zero_le hyr.1
    have := picked_pos amount ws hs hl0 yn hy
    unfold posI
    rw [Int.toNat_natCast, Int.toNat_natCast, expand_at m _ (by rw [hrl]; exact h) _ (by omega), rest_at]
    exact this

end Go.Proofs.Ytecboohippbliaa
