/- CapWeights in plain Lean: the rounds, what each leaves, and that they end. No program in sight. -/
import Derived.Test.YtecboohippbliaaRows
import Derived.Test.YtecboohippbliaaAllot
namespace Go.Proofs.Ytecboohippbliaa
open Go.RowKit

def capX (lim x : Int) : Int := if lim < x then lim else x
def exX (lim x : Int) : Int := if lim < x then x - lim else 0
def capL (lim : Int) (xs : List Int) : List Int := xs.map (capX lim)
def overL (lim : Int) (xs : List Int) : Int := sumI (xs.map (exX lim))
def fixL (lim : Int) (xs : List Int) (fx : List Bool) : List Bool := List.zipWith (fun x f => f || decide (lim < x)) xs fx
def freeL (fx : List Bool) : List Bool := fx.map fun f => !f
/-- The numbers at the marked places. -/
def pick : List Bool → List Int → List Int
  | true :: m, x :: xs => x :: pick m xs
  | false :: m, _ :: xs => pick m xs
  | _, _ => []
def onesIf (ws : List Int) : List Int := if sumI ws = 0 then List.replicate ws.length 1 else ws
def partsF (lim : Int) (xs : List Int) (fx : List Bool) : List Int := sharesF (overL lim xs) (onesIf (pick (freeL (fixL lim xs fx)) (capL lim xs)))
def roundF (lim : Int) (xs : List Int) (fx : List Bool) : List Int := addL (capL lim xs) (expand (freeL (fixL lim xs fx)) (partsF lim xs fx))
def capN (lim : Int) : Nat → List Int → List Bool → List Int
  | 0, xs, _ => xs
  | k + 1, xs, fx => if overL lim xs = 0 then xs else capN lim k (roundF lim xs fx) (fixL lim xs fx)

/-- A place that is fixed holds the limit. -/
def okFx (lim : Int) : List Int → List Bool → Prop
  | [], [] => True
  | x :: xs, f :: fs => (f = true → x = lim) ∧ okFx lim xs fs
  | _, _ => False

theorem okFx_len (lim : Int) (xs : List Int) (fx : List Bool) (h : okFx lim xs fx) : xs.length = fx.length := by
  induction xs generalizing fx with
  | nil => cases fx with
    | nil => rfl
    | cons f fs => exact absurd h (by simp [okFx])
  | cons x xs ih => cases fx with
    | nil => exact absurd h (by simp [okFx])
    | cons f fs => simp only [okFx] at h; simp [ih fs h.2]

theorem okFx_start (lim : Int) (xs : List Int) : okFx lim xs (List.replicate xs.length false) := by
  induction xs with
  | nil => simp [okFx]
  | cons x xs ih => simp only [List.length_cons, List.replicate_succ, okFx]; exact ⟨fun h => (by cases h), ih⟩

theorem okFx_cap (lim : Int) (xs : List Int) (fx : List Bool) (h : okFx lim xs fx) : okFx lim (capL lim xs) (fixL lim xs fx) := by
  induction xs generalizing fx with
  | nil => cases fx with
    | nil => simp [okFx, capL, fixL]
    | cons f fs => exact absurd h (by simp [okFx])
  | cons x xs ih => cases fx with
    | nil => exact absurd h (by simp [okFx])
    | cons f fs =>
      simp only [okFx] at h
      have := ih fs h.2
      simp only [capL, fixL, List.map_cons, List.zipWith_cons_cons, okFx] at this ⊢
      refine ⟨fun hf => ?_, this⟩
      unfold capX
      split
      · rfl
      · rename_i hx
        simp only [Bool.or_eq_true, decide_eq_true_eq] at hf
        rcases hf with hf | hf
        · exact h.1 hf
        · exact absurd hf hx

theorem okFx_add (lim : Int) (xs ys : List Int) (fx : List Bool) (h : okFx lim xs fx) : okFx lim (addL xs (expand (freeL fx) ys)) fx := by
  induction xs generalizing fx ys with
  | nil => cases fx with
    | nil => simp [okFx, addL]
    | cons f fs => exact absurd h (by simp [okFx])
  | cons x xs ih => cases fx with
    | nil => exact absurd h (by simp [okFx])
    | cons f fs =>
      simp only [okFx] at h
      cases f with
      | true =>
        have h1 : freeL (true :: fs) = false :: freeL fs := rfl
        rw [h1]
        have := ih ys fs h.2
        simp only [expand, addL, List.zipWith_cons_cons, okFx] at this ⊢
        exact ⟨fun _ => by rw [h.1 rfl]; omega, this⟩
      | false =>
        have h1 : freeL (false :: fs) = true :: freeL fs := rfl
        rw [h1]
        cases ys with
        | nil =>
          have := ih [] fs h.2
          simp only [expand, addL, List.zipWith_cons_cons, okFx] at this ⊢
          exact ⟨fun h => (by cases h), this⟩
        | cons y ys =>
          have := ih ys fs h.2
          simp only [expand, addL, List.zipWith_cons_cons, okFx] at this ⊢
          exact ⟨fun h => (by cases h), this⟩

theorem cap_len (lim : Int) (xs : List Int) : (capL lim xs).length = xs.length := by unfold capL; rw [List.length_map]
theorem fix_len (lim : Int) (xs : List Int) (fx : List Bool) (h : xs.length = fx.length) : (fixL lim xs fx).length = fx.length := by unfold fixL; rw [List.length_zipWith]; omega
theorem free_len (fx : List Bool) : (freeL fx).length = fx.length := by unfold freeL; rw [List.length_map]

theorem cap_sum (lim : Int) (xs : List Int) : sumI (capL lim xs) + overL lim xs = sumI xs := by
  unfold capL overL
  induction xs with
  | nil => rfl
  | cons x xs ih =>
    simp only [List.map_cons, sumI]
    have : capX lim x + exX lim x = x := by unfold capX exX; split <;> omega
    omega

theorem over_nonneg (lim : Int) (xs : List Int) : 0 ≤ overL lim xs := by
  unfold overL
  induction xs with
  | nil => simp [sumI]
  | cons x xs ih =>
    simp only [List.map_cons, sumI]
    have : 0 ≤ exX lim x := by unfold exX; split <;> omega
    omega

theorem over_zero (lim : Int) (xs : List Int) (h : overL lim xs = 0) : (∀ x ∈ xs, x ≤ lim) ∧ capL lim xs = xs := by
  induction xs with
  | nil => simp [capL]
  | cons x xs ih =>
    have h1 := over_nonneg lim xs
    have h2 : overL lim (x :: xs) = exX lim x + overL lim xs := by simp [overL, sumI]
    have h3 : 0 ≤ exX lim x := by unfold exX; split <;> omega
    have h4 : exX lim x = 0 := by omega
    obtain ⟨i1, i2⟩ := ih (by omega)
    have h5 : x ≤ lim := by unfold exX at h4; split at h4 <;> omega
    refine ⟨fun z hz => ?_, ?_⟩
    · rcases List.mem_cons.1 hz with rfl | hz
      · exact h5
      · exact i1 z hz
    · unfold capL at i2 ⊢
      rw [List.map_cons, i2]
      congr 1
      unfold capX; rw [if_neg (by omega)]

theorem over_none (lim : Int) (xs : List Int) (h : ∀ x ∈ xs, x ≤ lim) : overL lim xs = 0 := by
  unfold overL
  induction xs with
  | nil => rfl
  | cons x xs ih =>
    simp only [List.map_cons, sumI]
    rw [ih (fun z hz => h z (List.mem_cons_of_mem _ hz))]
    have := h x (by simp)
    unfold exX; rw [if_neg (by omega)]; rfl

theorem count_le (lim : Int) (xs : List Int) (fx : List Bool) (h : okFx lim xs fx) : (fixL lim xs fx).count false ≤ fx.count false ∧ (overL lim xs ≠ 0 → (fixL lim xs fx).count false < fx.count false) := by
  induction xs generalizing fx with
  | nil => cases fx with
    | nil => simp [fixL, overL, sumI]
    | cons f fs => exact absurd h (by simp [okFx])
  | cons x xs ih => cases fx with
    | nil => exact absurd h (by simp [okFx])
    | cons f fs =>
      simp only [okFx] at h
      obtain ⟨i1, i2⟩ := ih fs h.2
      have e1 : overL lim (x :: xs) = exX lim x + overL lim xs := by simp [overL, sumI]
      have e2 : fixL lim (x :: xs) (f :: fs) = (f || decide (lim < x)) :: fixL lim xs fs := rfl
      rw [e1, e2]
      cases f with
      | true =>
        have hx := h.1 rfl
        have e3 : exX lim x = 0 := by unfold exX; rw [if_neg (by omega)]
        simp only [Bool.true_or, List.count_cons]
        simp only [beq_iff_eq, Bool.true_eq_false, if_false, Nat.add_zero]
        exact ⟨i1, fun ho => i2 (by omega)⟩
      | false =>
        by_cases hx : lim < x
        · simp only [Bool.false_or, decide_eq_true hx, List.count_cons]
          simp only [beq_iff_eq, Bool.true_eq_false, if_false, Nat.add_zero, if_true]
          exact ⟨by omega, fun _ => by omega⟩
        · have e3 : exX lim x = 0 := by unfold exX; rw [if_neg hx]
          simp only [Bool.false_or, decide_eq_false hx, List.count_cons]
          simp only [beq_self_eq_true, if_true]
          exact ⟨by omega, fun ho => by have := i2 (by omega); omega⟩

theorem pick_len (m : List Bool) (xs : List Int) (h : m.length = xs.length) : (pick m xs).length = marks m := by
  induction m generalizing xs with
  | nil => simp [pick, marks]
  | cons b m ih =>
    cases xs with
    | nil => simp at h
    | cons x xs =>
      cases b with
      | false => rw [marks_cons_false]; simp only [pick]; exact ih xs (by simpa using h)
      | true => rw [marks_cons_true]; simp only [pick, List.length_cons]; rw [ih xs (by simpa using h)]

theorem pick_mem (m : List Bool) (xs : List Int) (z : Int) (h : z ∈ pick m xs) : z ∈ xs := by
  induction m generalizing xs with
  | nil => simp [pick] at h
  | cons b m ih =>
    cases xs with
    | nil => cases b <;> simp [pick] at h
    | cons x xs =>
      cases b with
      | false => exact List.mem_cons_of_mem _ (ih xs h)
      | true =>
        simp only [pick, List.mem_cons] at h
        rcases h with rfl | h
        · simp
        · exact List.mem_cons_of_mem _ (ih xs h)

theorem pick_snoc (m : List Bool) (xs : List Int) (b : Bool) (x : Int) (h : m.length = xs.length) : pick (m ++ [b]) (xs ++ [x]) = pick m xs ++ (if b = true then [x] else []) := by
  induction m generalizing xs with
  | nil =>
    obtain rfl : xs = [] := List.eq_nil_of_length_eq_zero h.symm
    cases b <;> rfl
  | cons c m ih =>
    cases xs with
    | nil => simp at h
    | cons z xs =>
      have := ih xs (by simpa using h)
      cases c with
      | false => simpa only [List.cons_append, pick] using this
      | true => simp only [List.cons_append, pick]; rw [this]

theorem expand_pick (fx : List Bool) (xs : List Int) (h : fx.length = xs.length) : expand (freeL fx) (pick (freeL fx) xs) = List.zipWith (fun x f => x * (if (!f) = true then 1 else 0)) xs fx := by
  induction fx generalizing xs with
  | nil => cases xs <;> rfl
  | cons f fx ih =>
    cases xs with
    | nil => simp at h
    | cons x xs =>
      have := ih xs (by simpa using h)
      cases f with
      | true =>
        have h1 : freeL (true :: fx) = false :: freeL fx := rfl
        rw [h1]; simp only [pick, expand, List.zipWith_cons_cons]; rw [this]; simp
      | false =>
        have h1 : freeL (false :: fx) = true :: freeL fx := rfl
        rw [h1]; simp only [pick, expand, List.zipWith_cons_cons]; rw [this]; simp

theorem expand_ones (fx : List Bool) : expand (freeL fx) (List.replicate (marks (freeL fx)) 1) = fx.map fun f => if (!f) = true then (1 : Int) else 0 := by
  induction fx with
  | nil => rfl
  | cons f fx ih =>
    cases f with
    | true =>
      have h1 : freeL (true :: fx) = false :: freeL fx := rfl
      rw [h1, marks_cons_false]; simp only [expand, List.map_cons]; rw [ih]; simp
    | false =>
      have h1 : freeL (false :: fx) = true :: freeL fx := rfl
      rw [h1, marks_cons_true, List.replicate_succ]; simp only [expand, List.map_cons]; rw [ih]; simp

/-- What the reference gives to its shares: a zero for each that is fixed. -/
def maskW (xs : List Int) (fx : List Bool) : List Int :=
  if sumI (List.zipWith (fun x f => x * (if (!f) = true then 1 else 0)) xs fx) = 0 then fx.map fun f => if (!f) = true then (1 : Int) else 0
  else List.zipWith (fun x f => x * (if (!f) = true then 1 else 0)) xs fx

theorem mask_expand (xs : List Int) (fx : List Bool) (h : fx.length = xs.length) : maskW xs fx = expand (freeL fx) (onesIf (pick (freeL fx) xs)) := by
  have hl := pick_len (freeL fx) xs (by rw [free_len]; exact h)
  unfold maskW onesIf
  rw [← expand_pick fx xs h, expand_sum _ _ hl.symm]
  split
  · rw [hl, expand_ones]
  · rfl

theorem sum_repl (n : Nat) (z : Int) : sumI (List.replicate n z) = n * z := by
  induction n with
  | zero => simp [sumI]
  | succ n ih => simp only [List.replicate_succ, sumI]; rw [ih]; push_cast; rw [Int.add_mul]; omega

theorem all_fixed (lim : Int) (xs : List Int) (fx : List Bool) (h : okFx lim xs fx) (hm : marks (freeL fx) = 0) : sumI xs = xs.length * lim := by
  induction xs generalizing fx with
  | nil => simp [sumI]
  | cons x xs ih => cases fx with
    | nil => exact absurd h (by simp [okFx])
    | cons f fs =>
      simp only [okFx] at h
      cases f with
      | false =>
        have h1 : freeL (false :: fs) = true :: freeL fs := rfl
        rw [h1, marks_cons_true] at hm; omega
      | true =>
        have h1 : freeL (true :: fs) = false :: freeL fs := rfl
        rw [h1, marks_cons_false] at hm
        simp only [sumI, List.length_cons]
        rw [ih fs h.2 hm, h.1 rfl]; push_cast; rw [Int.add_mul]; omega

structure CapInv (lim : Int) (n : Nat) (xs : List Int) (fx : List Bool) : Prop where
  len : xs.length = n
  lo : 1 ≤ n
  hi : n ≤ 8
  lim0 : 0 ≤ lim
  lim1 : lim ≤ 1000
  room : 1000 ≤ lim * n
  sum : sumI xs = 1000
  pos : ∀ x ∈ xs, 0 ≤ x
  ok : okFx lim xs fx

theorem CapInv.flen {lim : Int} {n : Nat} {xs : List Int} {fx : List Bool} (h : CapInv lim n xs fx) : fx.length = n := by rw [← okFx_len _ _ _ h.ok]; exact h.len
theorem CapInv.le {lim : Int} {n : Nat} {xs : List Int} {fx : List Bool} (h : CapInv lim n xs fx) : ∀ x ∈ xs, 0 ≤ x ∧ x ≤ 1000 := fun x hx => ⟨h.pos x hx, by have := mem_le_sum xs h.pos x hx; rw [h.sum] at this; exact this⟩

theorem expand_mem' (m : List Bool) (xs : List Int) (z : Int) (h : z ∈ expand m xs) : z = 0 ∨ z ∈ xs := by
  induction m generalizing xs with
  | nil => simp [expand] at h
  | cons b m ih =>
    cases b with
    | false =>
      simp only [expand, List.mem_cons] at h
      rcases h with h | h
      · exact .inl h
      · exact ih xs h
    | true =>
      cases xs with
      | nil =>
        simp only [expand, List.mem_cons] at h
        rcases h with h | h
        · exact .inl h
        · exact ih [] h
      | cons x xs =>
        simp only [expand, List.mem_cons] at h
        rcases h with h | h
        · exact .inr (by simp [h])
        · rcases ih xs h with h | h
          · exact .inl h
          · exact .inr (List.mem_cons_of_mem _ h)

theorem shares_pos (amount : Int) (ws : List Int) (ha : 0 ≤ amount) (hw : ∀ x ∈ ws, 0 ≤ x) (hs : 0 < sumI ws) : ∀ x ∈ sharesF amount ws, 0 ≤ x := by
  intro x hx
  obtain ⟨k, hk, rfl⟩ := List.mem_iff_getElem.1 hx
  have hk2 : k < ws.length := by rw [← shares_len amount ws]; exact hk
  have h := shares_at amount ws k hk2
  have hw2 : 0 ≤ ws.getD k 0 := by rw [List.getD_eq_getElem?_getD, List.getElem?_eq_getElem hk2]; exact hw _ (List.getElem_mem hk2)
  have hd : 0 ≤ amount * ws.getD k 0 / sumI ws := Int.ediv_nonneg (Int.mul_nonneg ha hw2) (by omega)
  have he : (sharesF amount ws).getD k 0 = (sharesF amount ws)[k] := by rw [List.getD_eq_getElem?_getD, List.getElem?_eq_getElem hk]; rfl
  rw [he] at h
  rcases h with h | h <;> omega

theorem sum_nonneg (ws : List Int) (h : ∀ x ∈ ws, 0 ≤ x) : 0 ≤ sumI ws := by
  induction ws with
  | nil => simp [sumI]
  | cons x xs ih =>
    have h1 := h x (by simp)
    have h2 := ih (fun z hz => h z (List.mem_cons_of_mem _ hz))
    simp only [sumI]; omega

/-- All that a round asks and leaves, where something lies above the limit. -/
theorem cap_round (lim : Int) (n : Nat) (xs : List Int) (fx : List Bool) (h : CapInv lim n xs fx) (ho : overL lim xs ≠ 0) :
    0 < overL lim xs ∧ overL lim xs ≤ 1000 ∧ 1 ≤ marks (freeL (fixL lim xs fx)) ∧ marks (freeL (fixL lim xs fx)) ≤ n ∧
    (∀ x ∈ pick (freeL (fixL lim xs fx)) (capL lim xs), 0 ≤ x ∧ x ≤ 1000) ∧ (onesIf (pick (freeL (fixL lim xs fx)) (capL lim xs))).length = marks (freeL (fixL lim xs fx)) ∧
    holdersOk (onesIf (pick (freeL (fixL lim xs fx)) (capL lim xs))) = true ∧ 0 < sumI (onesIf (pick (freeL (fixL lim xs fx)) (capL lim xs))) ∧
    CapInv lim n (roundF lim xs fx) (fixL lim xs fx) ∧ (fixL lim xs fx).count false < fx.count false := by
  have o0 := over_nonneg lim xs
  have cs := cap_sum lim xs
  have hfl := h.flen
  have hxl := h.len
  have hfix := fix_len lim xs fx (by omega)
  have hok1 := okFx_cap lim xs fx h.ok
  have hcl := cap_len lim xs
  have hcpos : ∀ x ∈ capL lim xs, 0 ≤ x := by
    intro x hx
    unfold capL at hx
    obtain ⟨z, hz, rfl⟩ := List.mem_map.1 hx
    have h1 := h.pos z hz
    have h2 := h.lim0
    unfold capX; split <;> omega
  have hcs := sum_nonneg _ hcpos
  have hsum := h.sum
  have hmk : 1 ≤ marks (freeL (fixL lim xs fx)) := by
    rcases Nat.eq_zero_or_pos (marks (freeL (fixL lim xs fx))) with h0 | h0
    · exfalso
      have h1 := all_fixed lim _ _ hok1 h0
      rw [hcl, hxl, Int.mul_comm] at h1
      have h2 := h.room
      omega
    · exact h0
  have hml : (freeL (fixL lim xs fx)).length = (capL lim xs).length := by rw [free_len, hfix, hcl]; omega
  have hmn : marks (freeL (fixL lim xs fx)) ≤ n := by
    have : marks (freeL (fixL lim xs fx)) ≤ (freeL (fixL lim xs fx)).length := List.count_le_length
    omega
  have hpl := pick_len _ _ hml
  have hpm : ∀ x ∈ pick (freeL (fixL lim xs fx)) (capL lim xs), 0 ≤ x ∧ x ≤ 1000 := by
    intro x hx
    have hx2 := pick_mem _ _ _ hx
    refine ⟨hcpos x hx2, ?_⟩
    have := mem_le_sum _ hcpos x hx2
    omega
  have hps := sum_nonneg _ (fun x hx => (hpm x hx).1)
  generalize hws : pick (freeL (fixL lim xs fx)) (capL lim xs) = ws at *
  have hol : (onesIf ws).length = marks (freeL (fixL lim xs fx)) := by
    unfold onesIf
    split
    · rw [List.length_replicate]; exact hpl
    · exact hpl
  have hom : ∀ x ∈ onesIf ws, 0 ≤ x ∧ x ≤ 9999 := by
    intro x hx
    unfold onesIf at hx
    split at hx
    · have := List.eq_of_mem_replicate hx; omega
    · have := hpm x hx; omega
  have hos : 0 < sumI (onesIf ws) := by
    unfold onesIf
    split
    · rw [sum_repl]; omega
    · omega
  have hok : holdersOk (onesIf ws) = true := by
    unfold holdersOk intsIn
    simp only [Bool.and_eq_true, within_iff', List.all_eq_true]
    have := h.hi
    exact ⟨by omega, hom⟩
  have hov : 0 < overL lim xs := by omega
  have hov1 : overL lim xs ≤ 1000 := by omega
  obtain ⟨q1, q2, q3⟩ := quos_facts (overL lim xs) (onesIf ws) hok hos (by omega) (by omega)
  have hsh : partsF lim xs fx = sharesF (overL lim xs) (onesIf ws) := by unfold partsF; rw [hws]
  have hss := shares_sum (overL lim xs) (onesIf ws) q1 (by unfold leftOf; omega)
  have hsl := shares_len (overL lim xs) (onesIf ws)
  have hsp := shares_pos (overL lim xs) (onesIf ws) (by omega) (fun x hx => (hom x hx).1) hos
  refine ⟨hov, hov1, hmk, hmn, hpm, hol, hok, hos, ⟨?_, h.lo, h.hi, h.lim0, h.lim1, h.room, ?_, ?_, okFx_add _ _ _ _ hok1⟩, (count_le lim xs fx h.ok).2 ho⟩
  · unfold roundF addL; rw [List.length_zipWith, expand_len]; omega
  · unfold roundF
    rw [addL_sum _ _ (by rw [expand_len]; omega), hsh, expand_sum _ _ (by omega), hss]
    omega
  · intro x hx
    unfold roundF addL at hx
    rw [hsh] at hx
    obtain ⟨k, hk, rfl⟩ := List.mem_iff_getElem.1 hx
    rw [List.getElem_zipWith]
    have h1 := hcpos _ (List.getElem_mem (l := capL lim xs) (n := k) (by rw [List.length_zipWith] at hk; omega))
    have h2 : 0 ≤ (expand (freeL (fixL lim xs fx)) (sharesF (overL lim xs) (onesIf ws)))[k]'(by rw [List.length_zipWith] at hk; omega) := by
      rcases expand_mem' _ _ _ (List.getElem_mem (l := expand (freeL (fixL lim xs fx)) (sharesF (overL lim xs) (onesIf ws))) (n := k) (by rw [List.length_zipWith] at hk; omega)) with h | h
      · omega
      · exact hsp _ h
    omega

theorem capN_succ (lim : Int) (k : Nat) (xs : List Int) (fx : List Bool) : capN lim (k + 1) xs fx = if overL lim xs = 0 then xs else capN lim k (roundF lim xs fx) (fixL lim xs fx) := rfl

/-- The whole. -/
def capOk (xs : List Int) (lim : Int) : Bool := withinB xs.length 1 8 && withinB lim 0 1000 && decide (sumI xs = 1000) && decide (1000 ≤ lim * xs.length) && intsIn 0 1000 xs
def capF (xs : List Int) (lim : Int) : List Int := capN lim (xs.length + 1) xs (List.replicate xs.length false)
def capWeightsF (xs : List Int) (lim : Int) : List Int := if capOk xs lim = true then capF xs lim else []

theorem capOk_facts (xs : List Int) (lim : Int) (h : capOk xs lim = true) : CapInv lim xs.length xs (List.replicate xs.length false) := by
  unfold capOk intsIn at h
  simp only [Bool.and_eq_true, within_iff', List.all_eq_true, decide_eq_true_eq] at h
  exact ⟨rfl, by omega, by omega, by omega, by omega, by omega, by omega, fun x hx => (h.2 x hx).1, okFx_start lim xs⟩

/-- What the rounds leave: an induction on what the invariant and a property keep. -/
theorem capN_ind (lim : Int) (n : Nat) (P : List Int → List Bool → Prop) (hP : ∀ xs fx, CapInv lim n xs fx → P xs fx → overL lim xs ≠ 0 → P (roundF lim xs fx) (fixL lim xs fx)) (k : Nat) (xs : List Int) (fx : List Bool) (h : CapInv lim n xs fx) (hp : P xs fx) (hk : fx.count false < k) :
    ∃ gx, CapInv lim n (capN lim k xs fx) gx ∧ P (capN lim k xs fx) gx ∧ overL lim (capN lim k xs fx) = 0 := by
  induction k generalizing xs fx with
  | zero => omega
  | succ k ih =>
    rw [capN_succ]
    split
    · rename_i h0; exact ⟨fx, h, hp, h0⟩
    · rename_i h0
      obtain ⟨_, _, _, _, _, _, _, _, hi, hc⟩ := cap_round lim n xs fx h h0
      exact ih _ _ hi (hP xs fx h hp h0) (by omega)

end Go.Proofs.Ytecboohippbliaa
