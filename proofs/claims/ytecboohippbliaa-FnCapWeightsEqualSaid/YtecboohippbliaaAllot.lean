/- How an auction is allotted: the plain values and their laws. No program in sight. -/
import Derived.Test.YtecboohippbliaaRows
import Derived.Test.YtecboohippbliaaBase
import Derived.Test.YtecboohippbliaaStop
import Derived.Test.YtecboohippbliaaMask
namespace Go.Proofs.Ytecboohippbliaa
open Go.RowKit

def caseA (y : Int) (b : Bid) : Bool := decide (y < 0) || decide (b.yield < y)
def atStop (y : Int) (b : Bid) : Bool := decide (0 ≤ y) && decide (b.yield = y)
def baseOf (y : Int) (b : Bid) : Int := if caseA y b = true then b.many else 0
def baseL (xs : List Bid) (y : Int) : List Int := xs.map (baseOf y)
def maskL (xs : List Bid) (y : Int) : List Bool := xs.map (atStop y)
def subW (xs : List Bid) (y : Int) : List Int := (xs.filter (atStop y)).map (·.many)
def leftA (xs : List Bid) (y m : Int) : Int := m - sumI (baseL xs y)
def addL (xs ys : List Int) : List Int := List.zipWith (· + ·) xs ys
def allotF (xs : List Bid) (m : Int) : List Int := addL (baseL xs (stopF xs m)) (expand (maskL xs (stopF xs m)) (sharesF (leftA xs (stopF xs m) m) (subW xs (stopF xs m))))
def allotBidsF (xs : List Bid) (m : Int) : List Int := if auctionOk xs m = true then allotF xs m else []

def placesL : Nat → List Bool → List Int
  | _, [] => []
  | i, false :: m => placesL (i + 1) m
  | i, true :: m => (i : Int) :: placesL (i + 1) m

theorem placesL_snoc (i : Nat) (m : List Bool) (b : Bool) : placesL i (m ++ [b]) = placesL i m ++ (if b = true then [((i + m.length : Nat) : Int)] else []) := by
  induction m generalizing i with
  | nil => cases b <;> simp [placesL]
  | cons c m ih =>
    cases c with
    | false =>
      simp only [List.cons_append, placesL, List.length_cons]
      rw [ih (i + 1), show i + 1 + m.length = i + (m.length + 1) by omega]
    | true =>
      simp only [List.cons_append, placesL, List.length_cons]
      rw [ih (i + 1), show i + 1 + m.length = i + (m.length + 1) by omega]

theorem placesL_len (i : Nat) (m : List Bool) : (placesL i m).length = marks m := by
  induction m generalizing i with
  | nil => rfl
  | cons c m ih =>
    cases c with
    | false => rw [marks_cons_false]; simp only [placesL]; exact ih (i + 1)
    | true => rw [marks_cons_true]; simp only [placesL, List.length_cons]; rw [ih (i + 1)]

theorem placesL_at (i : Nat) (m : List Bool) (k : Nat) (h : k < marks m) : (placesL i m)[k]? = some ((i + posOf m k : Nat) : Int) := by
  induction m generalizing i k with
  | nil => simp [marks] at h
  | cons c m ih =>
    cases c with
    | false =>
      rw [marks_cons_false] at h
      simp only [placesL, posOf]
      rw [ih (i + 1) k h]
      congr 2; omega
    | true =>
      rw [marks_cons_true] at h
      cases k with
      | zero => simp [placesL, posOf]
      | succ k =>
        simp only [placesL, posOf, List.getElem?_cons_succ]
        rw [ih (i + 1) k (by omega)]
        congr 2; omega

theorem marks_sub (xs : List Bid) (y : Int) : marks (maskL xs y) = (subW xs y).length := by
  unfold maskL subW
  rw [List.length_map]
  induction xs with
  | nil => rfl
  | cons x xs ih =>
    rw [List.map_cons]
    cases h : atStop y x with
    | false => rw [marks_cons_false, List.filter_cons_of_neg (by rw [h]; simp)]; exact ih
    | true => rw [marks_cons_true, List.filter_cons_of_pos h, List.length_cons, ih]

theorem expand_sub (xs : List Bid) (y : Int) : expand (maskL xs y) (subW xs y) = xs.map fun b => if atStop y b = true then b.many else 0 := by
  unfold maskL subW
  induction xs with
  | nil => rfl
  | cons x xs ih =>
    rw [List.map_cons, List.map_cons]
    cases h : atStop y x with
    | false => rw [List.filter_cons_of_neg (by rw [h]; simp)]; simp only [expand]; rw [ih]; simp
    | true => rw [List.filter_cons_of_pos h, List.map_cons]; simp only [expand]; rw [ih]; simp

theorem sub_sum (xs : List Bid) (y : Int) : sumI (subW xs y) = sumI (xs.map fun b => if atStop y b = true then b.many else 0) := by
  rw [← expand_sub, expand_sum _ _ (marks_sub xs y)]

theorem base_len (xs : List Bid) (y : Int) : (baseL xs y).length = xs.length := by unfold baseL; rw [List.length_map]
theorem mask_len (xs : List Bid) (y : Int) : (maskL xs y).length = xs.length := by unfold maskL; rw [List.length_map]
theorem allot_len (xs : List Bid) (m : Int) : (allotF xs m).length = xs.length := by
  unfold allotF addL
  rw [List.length_zipWith, base_len, expand_len, mask_len, Nat.min_self]
theorem allotBids_len (xs : List Bid) (m : Int) : (allotBidsF xs m).length ≤ 8 := by
  unfold allotBidsF
  by_cases h : auctionOk xs m = true
  · rw [if_pos h, allot_len]; exact (auction_facts xs m h).1
  · rw [if_neg h]; simp

/-- A sum over the bids, term by term. -/
theorem sum_add (xs : List Bid) (f g : Bid → Int) : sumI (xs.map fun b => f b + g b) = sumI (xs.map f) + sumI (xs.map g) := by
  induction xs with
  | nil => rfl
  | cons x xs ih => simp only [List.map_cons, sumI]; rw [ih]; omega

theorem base_lt (xs : List Bid) (y : Int) (h : 0 ≤ y) : sumI (baseL xs y) = belowLtF xs y := by
  unfold baseL belowLtF
  congr 1
  apply List.map_congr_left
  intro b _
  unfold baseOf caseA
  have : ¬ y < 0 := by omega
  simp [this]

theorem below_split (xs : List Bid) (y : Int) (h : 0 ≤ y) : belowF xs y = belowLtF xs y + sumI (subW xs y) := by
  rw [sub_sum]
  unfold belowF belowLtF
  rw [← sum_add]
  congr 1
  apply List.map_congr_left
  intro b _
  unfold atStop
  by_cases h1 : b.yield < y
  · have h2 : ¬ b.yield = y := by omega
    have h3 : b.yield ≤ y := by omega
    simp [h1, h2, h3]
  · by_cases h2 : b.yield = y
    · have h3 : b.yield ≤ y := by omega
      simp [h, h2]
    · have h3 : ¬ b.yield ≤ y := by omega
      simp [h1, h2, h3]

/-- All that the walks want to know of a valid auction. -/
theorem allot_facts (xs : List Bid) (m : Int) (h : auctionOk xs m = true) :
    (∀ x ∈ subW xs (stopF xs m), 1 ≤ x ∧ x ≤ 9999) ∧ (subW xs (stopF xs m)).length ≤ 8 ∧
    ((stopF xs m = -1 ∧ subW xs (stopF xs m) = [] ∧ manyF xs < m ∧ maskL xs (stopF xs m) = xs.map fun _ => false) ∨
     (0 ≤ stopF xs m ∧ 0 < (subW xs (stopF xs m)).length ∧ holdersOk (subW xs (stopF xs m)) = true ∧ 0 < sumI (subW xs (stopF xs m)) ∧ 1 ≤ leftA xs (stopF xs m) m ∧ leftA xs (stopF xs m) m ≤ 1000000000 ∧ leftA xs (stopF xs m) m ≤ sumI (subW xs (stopF xs m)) ∧ m ≤ manyF xs)) := by
  obtain ⟨f1, f2, f3, f4, f5⟩ := auction_facts xs m h
  have hm : ∀ x ∈ xs, 1 ≤ x.many := fun x hx => (f5 x hx).1
  have hsub : ∀ x ∈ subW xs (stopF xs m), 1 ≤ x ∧ x ≤ 9999 := by
    intro z hz
    unfold subW at hz
    obtain ⟨b, hb, rfl⟩ := List.mem_map.1 hz
    exact f5 b (List.mem_filter.1 hb).1
  have hlen : (subW xs (stopF xs m)).length ≤ 8 := by
    unfold subW
    rw [List.length_map]
    exact Nat.le_trans (List.length_filter_le _ _) f1
  refine ⟨hsub, hlen, ?_⟩
  rcases stopF_spec xs m hm f2 with ⟨b, hb, e1, e2, e3⟩ | ⟨e1, e2⟩
  · right
    have hb0 := (f4 b hb).1
    rw [e1] at hb0 e2 e3
    generalize hy : stopF xs m = y at *
    have hmem : b.many ∈ subW xs y := by
      unfold subW
      refine List.mem_map.2 ⟨b, List.mem_filter.2 ⟨hb, ?_⟩, rfl⟩
      unfold atStop
      simp [hb0, e1]
    have hpos : 0 < (subW xs y).length := List.length_pos_of_mem hmem
    have hok : holdersOk (subW xs y) = true := by
      unfold holdersOk intsIn
      simp only [Bool.and_eq_true, within_iff', List.all_eq_true]
      exact ⟨by omega, fun x hx => by have := hsub x hx; omega⟩
    have hbl := base_lt xs y hb0
    have hsp := below_split xs y hb0
    have h0 : 0 ≤ belowLtF xs y := by
      have := sumI_bound (xs.map fun b => if b.yield < y then b.many else 0) 0 9999 (fun z hz => by
        obtain ⟨b, hb, rfl⟩ := List.mem_map.1 hz
        have := f5 b hb
        (try dsimp only)
        split <;> omega)
      unfold belowLtF; omega
    have hbm := below_many xs y hm
    unfold leftA
    rw [hbl]
    exact ⟨hb0, hpos, hok, by omega, by omega, by omega, by omega, by omega⟩
  · left
    rw [e1]
    have hns : ∀ b : Bid, atStop (-1) b = false := fun b => by unfold atStop; simp
    refine ⟨rfl, ?_, e2, ?_⟩
    · unfold subW
      rw [List.filter_eq_nil_iff.2 (fun b _ => by rw [hns b]; simp)]; rfl
    · unfold maskL
      exact List.map_congr_left (fun b _ => hns b)

theorem expand_none (xs : List Bid) (ws : List Int) : expand (xs.map fun _ => false) ws = xs.map fun _ => (0 : Int) := by
  induction xs with
  | nil => rfl
  | cons x xs ih => simp only [List.map_cons, expand]; rw [ih]

theorem add_zeros (xs : List Bid) (f : Bid → Int) : addL (xs.map f) (xs.map fun _ => (0 : Int)) = xs.map f := by
  unfold addL
  induction xs with
  | nil => rfl
  | cons x xs ih => simp only [List.map_cons, List.zipWith_cons_cons]; rw [ih, Int.add_zero]

/-- Where nobody marks the stop, the base is all. -/
theorem allot_none (xs : List Bid) (m : Int) (h : maskL xs (stopF xs m) = xs.map fun _ => false) : allotF xs m = baseL xs (stopF xs m) := by
  unfold allotF
  rw [h, expand_none]
  exact add_zeros xs _

/-- The number that bid i gets. -/
theorem allot_at (xs : List Bid) (m : Int) (i : Nat) (x : Bid) (hx : xs[i]? = some x) :
    (allotF xs m)[i]? = some (baseOf (stopF xs m) x + (expand (maskL xs (stopF xs m)) (sharesF (leftA xs (stopF xs m) m) (subW xs (stopF xs m)))).getD i 0) := by
  have hi := lt_of_at hx
  unfold allotF addL
  rw [List.getElem?_zipWith]
  have h1 : (baseL xs (stopF xs m))[i]? = some (baseOf (stopF xs m) x) := by unfold baseL; rw [List.getElem?_map, hx]; rfl
  have h2 : (expand (maskL xs (stopF xs m)) (sharesF (leftA xs (stopF xs m) m) (subW xs (stopF xs m))))[i]? = some ((expand (maskL xs (stopF xs m)) (sharesF (leftA xs (stopF xs m) m) (subW xs (stopF xs m)))).getD i 0) := by
    rw [List.getD_eq_getElem?_getD, List.getElem?_eq_getElem (by rw [expand_len, mask_len]; exact hi)]; rfl
  rw [h1, h2]

/-- A place that is marked is the place of one of the weights. -/
theorem posOf_of (m : List Bool) (i : Nat) (h : m[i]? = some true) : ∃ k, k < marks m ∧ posOf m k = i := by
  induction m generalizing i with
  | nil => simp at h
  | cons c m ih =>
    cases c with
    | false =>
      cases i with
      | zero => simp at h
      | succ i =>
        obtain ⟨k, hk, e⟩ := ih i (by simpa using h)
        exact ⟨k, by rw [marks_cons_false]; exact hk, by simp only [posOf]; omega⟩
    | true =>
      cases i with
      | zero => exact ⟨0, by rw [marks_cons_true]; omega, rfl⟩
      | succ i =>
        obtain ⟨k, hk, e⟩ := ih i (by simpa using h)
        exact ⟨k + 1, by rw [marks_cons_true]; omega, by simp only [posOf]; omega⟩

theorem expand_unmarked (m : List Bool) (xs : List Int) (i : Nat) (h : m[i]? = some false) : (expand m xs).getD i 0 = 0 := by
  induction m generalizing xs i with
  | nil => simp at h
  | cons c m ih =>
    cases c with
    | false =>
      cases i with
      | zero => rfl
      | succ i => simp only [expand, List.getD_cons_succ]; exact ih xs i (by simpa using h)
    | true =>
      cases i with
      | zero => simp at h
      | succ i =>
        cases xs with
        | nil => simp only [expand, List.getD_cons_succ]; exact ih [] i (by simpa using h)
        | cons x xs => simp only [expand, List.getD_cons_succ]; exact ih xs i (by simpa using h)

theorem expand_marked (xs : List Bid) (y : Int) (vs : List Int) (hv : vs.length = (subW xs y).length) (i : Nat) (x : Bid) (hx : xs[i]? = some x) (ha : atStop y x = true) :
    ∃ k, k < vs.length ∧ (expand (maskL xs y) vs).getD i 0 = vs.getD k 0 ∧ (subW xs y).getD k 0 = x.many := by
  obtain ⟨k, hk, e⟩ := posOf_of (maskL xs y) i (by unfold maskL; rw [List.getElem?_map, hx, Option.map_some, ha])
  have hm := marks_sub xs y
  refine ⟨k, by omega, ?_, ?_⟩
  · rw [← e, expand_at _ _ (by omega) k (by omega)]
  · rw [← expand_at _ _ hm k (by omega), e, expand_sub, List.getD_eq_getElem?_getD, List.getElem?_map, hx]
    simp [ha]

/-- What each bid gets: all, a share of at most what it wants, or nothing. -/
theorem allot_each (xs : List Bid) (m : Int) (h : auctionOk xs m = true) (i : Nat) (x : Bid) (hx : xs[i]? = some x) :
    ∃ z, (allotF xs m)[i]? = some z ∧ 0 ≤ z ∧ z ≤ x.many ∧ (caseA (stopF xs m) x = true → z = x.many) ∧ (caseA (stopF xs m) x = false → atStop (stopF xs m) x = false → z = 0) := by
  obtain ⟨f1, f2, f3, f4, f5⟩ := auction_facts xs m h
  obtain ⟨g1, g2, g3⟩ := allot_facts xs m h
  have hxm := f5 x (List.mem_of_getElem? hx)
  refine ⟨_, allot_at xs m i x hx, ?_⟩
  generalize hy : stopF xs m = y at *
  have hex : ∀ vs : List Int, atStop y x = false → (expand (maskL xs y) vs).getD i 0 = 0 := fun vs ha =>
    expand_unmarked _ _ i (by unfold maskL; rw [List.getElem?_map, hx, Option.map_some, ha])
  by_cases hA : caseA y x = true
  · have hnot : atStop y x = false := by
      unfold caseA at hA
      unfold atStop
      simp only [Bool.or_eq_true, decide_eq_true_eq] at hA
      simp only [Bool.and_eq_false_iff, decide_eq_false_iff_not]
      omega
    rw [hex _ hnot]
    unfold baseOf
    rw [if_pos hA]
    exact ⟨by omega, by omega, fun _ => by omega, fun hc => by rw [hA] at hc; cases hc⟩
  · have hA' : caseA y x = false := by simpa using hA
    have hb : baseOf y x = 0 := by unfold baseOf; rw [if_neg hA]
    rw [hb]
    by_cases ha : atStop y x = true
    · rcases g3 with ⟨e1, _⟩ | ⟨q1, q2, q3, q4, q5, q6, q7, q8⟩
      · subst e1
        unfold atStop at ha
        simp at ha
      · obtain ⟨s1, s2, s3⟩ := quos_facts (leftA xs y m) (subW xs y) q3 q4 (by omega) q6
        have hsl := shares_len (leftA xs y m) (subW xs y)
        obtain ⟨k, hk, e1, e2⟩ := expand_marked xs y (sharesF (leftA xs y m) (subW xs y)) hsl i x hx ha
        have := shares_le (leftA xs y m) (subW xs y) q4 (by omega) q7 s1 k (by omega) (by rw [e2]; omega)
        rw [e1]
        rw [e2] at this
        exact ⟨by omega, by omega, fun hc => (by rw [hA'] at hc; cases hc), fun _ hc => (by rw [ha] at hc; cases hc)⟩
    · have ha' : atStop y x = false := by simpa using ha
      rw [hex _ ha']
      exact ⟨by omega, by omega, fun hc => (by rw [hA'] at hc; cases hc), fun _ _ => rfl⟩

theorem addL_sum (xs ys : List Int) (h : xs.length = ys.length) : sumI (addL xs ys) = sumI xs + sumI ys := by
  unfold addL
  induction xs generalizing ys with
  | nil => cases ys with
    | nil => rfl
    | cons y ys => simp at h
  | cons x xs ih => cases ys with
    | nil => simp at h
    | cons y ys => simp only [List.zipWith_cons_cons, sumI]; rw [ih ys (by simpa using h)]; omega

theorem base_all (xs : List Bid) : baseL xs (-1) = xs.map (·.many) := by
  unfold baseL
  apply List.map_congr_left
  intro b _
  unfold baseOf caseA
  simp

theorem allot_sum (xs : List Bid) (m : Int) (h : auctionOk xs m = true) : sumI (allotF xs m) = min m (manyF xs) := by
  obtain ⟨g1, g2, g3⟩ := allot_facts xs m h
  rcases g3 with ⟨e1, e2, e3, e4⟩ | ⟨q1, q2, q3, q4, q5, q6, q7, q8⟩
  · rw [allot_none xs m e4, e1, base_all, Int.min_eq_right (by omega)]; rfl
  · obtain ⟨s1, s2, s3⟩ := quos_facts _ _ q3 q4 (by omega) q6
    have hs := shares_sum _ _ s1 (by unfold leftOf; omega)
    unfold allotF
    rw [addL_sum _ _ (by rw [base_len, expand_len, mask_len]), expand_sum _ _ (by rw [shares_len]; exact marks_sub _ _), hs, Int.min_eq_left q8]
    unfold leftA
    omega

theorem many_bounds (xs : List Bid) (h : ∀ x ∈ xs, 1 ≤ x.many ∧ x.many ≤ 9999) : (xs.length : Int) ≤ manyF xs ∧ manyF xs ≤ 9999 * xs.length := by
  have := sumI_bound (xs.map (·.many)) 1 9999 (fun z hz => by obtain ⟨b, hb, rfl⟩ := List.mem_map.1 hz; exact h b hb)
  rw [List.length_map] at this
  unfold manyF
  omega

/-- As many as all want, or more: each gets what it wants. -/
theorem allot_all (xs : List Bid) (m : Int) (h : auctionOk xs m = true) (hm : manyF xs ≤ m) : allotF xs m = xs.map (·.many) := by
  obtain ⟨f1, f2, f3, f4, f5⟩ := auction_facts xs m h
  apply List.ext_getElem?
  intro i
  by_cases hi : i < xs.length
  · obtain ⟨x, hx⟩ : ∃ x, xs[i]? = some x := ⟨xs[i], by simp⟩
    rw [List.getElem?_map, hx, Option.map_some]
    -- every bid gets at most what it wants; together they get all
    have hz : ∀ (j : Nat) (b : Bid), xs[j]? = some b → (allotF xs m)[j]? = some b.many := by
      have hsum := allot_sum xs m h
      rw [Int.min_eq_right hm] at hsum
      unfold manyF at hsum
      have hlen := allot_len xs m
      have hle : ∀ (j : Nat) (b : Bid), xs[j]? = some b → ∃ z, (allotF xs m)[j]? = some z ∧ z ≤ b.many := fun j b hb => by
        obtain ⟨z, h1, _, h2, _⟩ := allot_each xs m h j b hb
        exact ⟨z, h1, h2⟩
      clear hx hi f1 f2 f3 f4 f5 h hm
      generalize allotF xs m = L at *
      clear x i
      induction xs generalizing L with
      | nil => intro j b hb; simp at hb
      | cons y ys ih =>
        cases L with
        | nil => simp at hlen
        | cons l L =>
          obtain ⟨z, h1, h2⟩ := hle 0 y rfl
          obtain rfl : l = z := by simpa using h1
          have hle' : ∀ (j : Nat) (b : Bid), ys[j]? = some b → ∃ z, L[j]? = some z ∧ z ≤ b.many := fun j b hb => by
            obtain ⟨z, h1, h2⟩ := hle (j + 1) b (by simpa using hb)
            exact ⟨z, by simpa using h1, h2⟩
          have hlen' : L.length = ys.length := by simpa using hlen
          have hrest : sumI L ≤ sumI (ys.map (·.many)) := by
            clear ih hsum hle
            induction ys generalizing L with
            | nil => cases L with
              | nil => exact Int.le_refl _
              | cons _ _ => simp at hlen'
            | cons b bs ih2 =>
              cases L with
              | nil => simp at hlen'
              | cons t T =>
                obtain ⟨z, g1, g2⟩ := hle' 0 b rfl
                obtain rfl : t = z := by simpa using g1
                have := ih2 T (by simp only [List.length_cons] at hlen' ⊢; omega) (by simp) (fun j b hb => by
                  obtain ⟨z, g1, g2⟩ := hle' (j + 1) b (by simpa using hb)
                  exact ⟨z, by simpa using g1, g2⟩) (by simpa using hlen')
                simp only [List.map_cons, sumI]
                omega
          simp only [List.map_cons, sumI] at hsum
          have e1 : l = y.many := by omega
          have e2 := ih L (by omega) hlen' hle'
          intro j b hb
          cases j with
          | zero => obtain rfl : y = b := by simpa using hb
                    simp [e1]
          | succ j => simp only [List.getElem?_cons_succ] at hb ⊢; exact e2 j b hb
    exact hz i x hx
  · rw [List.getElem?_eq_none (by rw [allot_len]; omega), List.getElem?_eq_none (by rw [List.length_map]; omega)]

end Go.Proofs.Ytecboohippbliaa
