/- What the shares are: plain laws, no program in sight. -/
import Derived.Test.YtecboohippbliaaRows
import Derived.Test.YtecboohippbliaaSharesLaw
namespace Go.Proofs.Ytecboohippbliaa
open Go.RowKit

theorem insR_perm {α : Type} (lt : α → α → Bool) (x : α) (p : List α) : (insR lt x p).Perm (x :: p) := by
  induction p with
  | nil => exact List.Perm.refl _
  | cons y ys ih =>
    unfold insR
    split
    · exact (List.Perm.cons y ih).trans (List.Perm.swap x y ys)
    · exact List.Perm.refl _

theorem ins_perm {α : Type} (lt : α → α → Bool) (x : α) (p : List α) : (ins lt x p).Perm (x :: p) := by
  unfold ins
  exact (List.reverse_perm _).trans ((insR_perm lt x _).trans (List.Perm.cons x (List.reverse_perm p)))

theorem isort_perm {α : Type} (lt : α → α → Bool) (p : List α) : (isort lt p).Perm p := by
  refine snoc_ind (P := fun p => (isort lt p).Perm p) (List.Perm.refl _) (fun p x ih => ?_) p
  rw [isort_snoc]
  exact (ins_perm lt x _).trans ((List.Perm.cons x ih).trans (List.perm_append_singleton x p).symm)

theorem sumI_perm {xs ys : List Int} (h : xs.Perm ys) : sumI xs = sumI ys := by
  induction h with
  | nil => rfl
  | cons x _ ih => simp only [sumI, ih]
  | swap x y l => simp only [sumI]; omega
  | trans _ _ i1 i2 => rw [i1, i2]

theorem bump_len (l : List Int) (i : Int) : (bump l i).length = l.length := by unfold bump; rw [List.length_set]

theorem foldl_bump_len (L l : List Int) : (L.foldl bump l).length = l.length := by
  induction L generalizing l with
  | nil => rfl
  | cons x L ih => rw [List.foldl_cons, ih, bump_len]

theorem sumI_set (l : List Int) (k : Nat) (v : Int) (h : k < l.length) : sumI (l.set k v) = sumI l - l.getD k 0 + v := by
  induction l generalizing k with
  | nil => simp at h
  | cons x l ih =>
    cases k with
    | zero => simp only [List.set_cons_zero, sumI, List.getD_cons_zero]; omega
    | succ k =>
      simp only [List.set_cons_succ, sumI, List.getD_cons_succ]
      rw [ih k (by simpa using h)]; omega

theorem foldl_bump_sum (L l : List Int) (h : ∀ x ∈ L, 0 ≤ x ∧ x < l.length) : sumI (L.foldl bump l) = sumI l + L.length := by
  induction L generalizing l with
  | nil => simp
  | cons x L ih =>
    have hx := h x (by simp)
    rw [List.foldl_cons, ih _ (fun y hy => by rw [bump_len]; exact h y (List.mem_cons_of_mem _ hy))]
    unfold bump
    rw [sumI_set _ _ _ (by omega)]
    simp only [List.length_cons]; omega

theorem foldl_bump_at (L l : List Int) (hnd : L.Nodup) (h : ∀ x ∈ L, 0 ≤ x ∧ x < l.length) (k : Nat) (hk : k < l.length) :
    (L.foldl bump l).getD k 0 = l.getD k 0 + if (k : Int) ∈ L then 1 else 0 := by
  induction L generalizing l with
  | nil => simp
  | cons x L ih =>
    obtain ⟨hx, hnd'⟩ := List.nodup_cons.1 hnd
    have hx0 := h x (by simp)
    rw [List.foldl_cons, ih _ hnd' (fun y hy => by rw [bump_len]; exact h y (List.mem_cons_of_mem _ hy)) (by rw [bump_len]; exact hk)]
    obtain ⟨xn, rfl⟩ := Int.eq_ofNat_of_zero_le hx0.1
    by_cases hkx : xn = k
    · subst hkx
      rw [if_neg hx, if_pos (by simp)]
      unfold bump
      rw [List.getD_eq_getElem?_getD, Int.toNat_natCast, List.getElem?_set_self (by omega)]
      simp
    · have e : (bump l xn).getD k 0 = l.getD k 0 := by
        unfold bump
        rw [List.getD_eq_getElem?_getD, Int.toNat_natCast, List.getElem?_set_ne hkx, ← List.getD_eq_getElem?_getD]
      rw [e]
      have : ((k : Int) ∈ (xn : Int) :: L) ↔ (k : Int) ∈ L := by
        rw [List.mem_cons]
        constructor
        · rintro (h | h)
          · omega
          · exact h
        · exact Or.inr
      by_cases hm : (k : Int) ∈ L
      · rw [if_pos hm, if_pos (this.2 hm)]
      · rw [if_neg hm, if_neg (fun h => hm (this.1 h))]

theorem order_pw (amount : Int) (ws : List Int) : (orderOf amount ws).Pairwise (beforeR (restsL amount ws)) := by
  unfold orderOf
  refine isort_pw _ (beforeR_trans _) _ _ ((upFrom_pw 0 ws.length).imp ?_)
  intro y x hyx
  unfold ltR cmpI beforeR
  rw [rest_eq, rest_eq]
  constructor
  · intro h
    have h := of_decide_eq_true h
    split at h
    · left; assumption
    · split at h <;> omega
  · intro h
    have h := of_decide_eq_false h
    split at h
    · omega
    · omega

theorem order_mem (amount : Int) (ws : List Int) (k : Nat) (hk : k < ws.length) : (k : Int) ∈ orderOf amount ws := by
  unfold orderOf
  rw [isort_mem]
  have := upFrom_at 0 ws.length k hk
  rw [Int.zero_add] at this
  exact List.mem_of_getElem? this

theorem order_range (amount : Int) (ws : List Int) (x : Int) (hx : x ∈ orderOf amount ws) : 0 ≤ x ∧ x < ws.length := by
  unfold orderOf at hx
  have := upFrom_ge 0 ws.length x ((isort_mem _ _ _).1 hx)
  omega

theorem order_len (amount : Int) (ws : List Int) : (orderOf amount ws).length = ws.length := by unfold orderOf; rw [isort_len, upFrom_len]

theorem order_nodup (amount : Int) (ws : List Int) : (orderOf amount ws).Nodup := by
  refine (order_pw amount ws).imp ?_
  intro a b h e
  subst e
  unfold beforeR at h
  omega

theorem sum_upTo (f : Int → Int) (g : List Int) (h : ∀ k : Nat, k < g.length → f k = g.getD k 0) : sumI ((upFrom 0 g.length).map f) = sumI g := by
  have : (upFrom 0 g.length).map f = g := by
    apply List.ext_getElem?
    intro i
    rw [List.getElem?_map]
    by_cases hi : i < g.length
    · rw [upFrom_at 0 _ i hi, Int.zero_add, Option.map_some, h i hi, List.getD_eq_getElem?_getD, List.getElem?_eq_getElem hi]; rfl
    · rw [List.getElem?_eq_none (by rw [upFrom_len]; omega), List.getElem?_eq_none (by omega)]; rfl
  rw [this]

theorem rests_sum (amount : Int) (ws : List Int) : sumI ((orderOf amount ws).map fun x => (restsL amount ws).getD x.toNat 0) = sumI (restsL amount ws) := by
  have hp : ((orderOf amount ws).map fun x => (restsL amount ws).getD x.toNat 0).Perm ((upFrom 0 ws.length).map fun x => (restsL amount ws).getD x.toNat 0) := (isort_perm _ _).map _
  rw [sumI_perm hp]
  have hl : (restsL amount ws).length = ws.length := by unfold restsL; rw [List.length_map]
  have := sum_upTo (fun x => (restsL amount ws).getD x.toNat 0) (restsL amount ws) (fun k _ => by simp)
  rw [hl] at this
  exact this

/-- Whether the weight k gets one more. -/
def picked (amount : Int) (ws : List Int) (k : Nat) : Prop := (k : Int) ∈ (orderOf amount ws).take (leftOf amount ws)

theorem rest_at (amount : Int) (ws : List Int) (k : Nat) : (restsL amount ws).getD k 0 = amount * ws.getD k 0 % sumI ws := by rw [← rest_eq]; rfl

theorem picked_before (amount : Int) (ws : List Int) (i k : Nat) (hi : i < ws.length) (hb : amount * ws.getD k 0 % sumI ws < amount * ws.getD i 0 % sumI ws ∨ (amount * ws.getD k 0 % sumI ws = amount * ws.getD i 0 % sumI ws ∧ i < k)) (hk : picked amount ws k) : picked amount ws i := by
  unfold picked at *
  have hm := order_mem amount ws i hi
  rw [← List.take_append_drop (leftOf amount ws) (orderOf amount ws), List.mem_append] at hm
  rcases hm with hm | hm
  · exact hm
  · exfalso
    have hp := order_pw amount ws
    rw [← List.take_append_drop (leftOf amount ws) (orderOf amount ws), List.pairwise_append] at hp
    have := hp.2.2 _ hk _ hm
    unfold beforeR at this
    rw [Int.toNat_natCast, Int.toNat_natCast, rest_at, rest_at] at this
    omega

theorem sum_zero_of (xs : List Int) (h : ∀ x ∈ xs, x = 0) : sumI xs = 0 := by
  have := sumI_bound xs 0 0 (fun x hx => by rw [h x hx]; omega)
  omega

theorem picked_pos (amount : Int) (ws : List Int) (hs : 0 < sumI ws) (hl0 : 0 ≤ amount - sumI (quos amount ws)) (k : Nat) (hk : picked amount ws k) : 0 < amount * ws.getD k 0 % sumI ws := by
  have hnn := Int.emod_nonneg (amount * ws.getD k 0) (show sumI ws ≠ 0 by omega)
  by_cases h0 : amount * ws.getD k 0 % sumI ws = 0
  · exfalso
    unfold picked at hk
    obtain ⟨j, hj⟩ := List.getElem?_of_mem hk
    have hjl := lt_of_at hj
    rw [List.length_take] at hjl
    rw [List.getElem?_take_of_lt (by omega)] at hj
    have hp := order_pw amount ws
    have hsplit := split_at _ _ _ hj
    rw [hsplit] at hp
    obtain ⟨_, hp2, _⟩ := List.pairwise_append.1 hp
    obtain ⟨hp3, _⟩ := List.pairwise_cons.1 hp2
    have hsum := rests_sum amount ws
    rw [hsplit, List.map_append, sumI_append, List.map_cons] at hsum
    simp only [sumI] at hsum
    rw [Int.toNat_natCast, rest_at, h0] at hsum
    have hz : sumI (((orderOf amount ws).drop (j + 1)).map fun x => (restsL amount ws).getD x.toNat 0) = 0 := by
      refine sum_zero_of _ (fun y hy => ?_)
      obtain ⟨x, hx, rfl⟩ := List.mem_map.1 hy
      have hb := hp3 x hx
      unfold beforeR at hb
      rw [Int.toNat_natCast, rest_at, rest_at, h0] at hb
      have := Int.emod_nonneg (amount * ws.getD x.toNat 0) (show sumI ws ≠ 0 by omega)
      rw [rest_at]; omega
    have hb := sumI_bound (((orderOf amount ws).take j).map fun x => (restsL amount ws).getD x.toNat 0) 0 (sumI ws - 1) (fun y hy => by
      obtain ⟨x, hx, rfl⟩ := List.mem_map.1 hy
      show 0 ≤ (restsL amount ws).getD x.toNat 0 ∧ (restsL amount ws).getD x.toNat 0 ≤ sumI ws - 1
      rw [rest_at]
      have h1 := Int.emod_nonneg (amount * ws.getD x.toNat 0) (show sumI ws ≠ 0 by omega)
      have h2 := Int.emod_lt_of_pos (amount * ws.getD x.toNat 0) hs
      omega)
    rw [List.length_map, List.length_take] at hb
    have hq := quos_sum amount (sumI ws) hs ws
    have e1 : sumI (ws.map fun w => amount * w / sumI ws) = sumI (quos amount ws) := rfl
    have e2 : sumI (ws.map fun w => amount * w % sumI ws) = sumI (restsL amount ws) := rfl
    rw [e1, e2] at hq
    have hL : (leftOf amount ws : Int) = amount - sumI (quos amount ws) := by unfold leftOf; omega
    have hmin : min j (orderOf amount ws).length ≤ j := Nat.min_le_left _ _
    have h5 : sumI ws * (leftOf amount ws : Int) = sumI (restsL amount ws) := by
      rw [hL, Int.mul_sub, Int.mul_comm (sumI ws) amount]; omega
    have h6 : (sumI ws - 1) * ((min j (orderOf amount ws).length : Nat) : Int) ≤ (sumI ws - 1) * j := Int.mul_le_mul_of_nonneg_left (by omega) (by omega)
    have h7 : sumI ws * ((j : Int) + 1) ≤ sumI ws * (leftOf amount ws : Int) := Int.mul_le_mul_of_nonneg_left (by omega) (by omega)
    rw [Int.mul_add, Int.mul_one] at h7
    rw [Int.sub_mul (sumI ws) 1 (j : Int), Int.one_mul] at h6
    omega
  · omega

theorem shares_len (amount : Int) (ws : List Int) : (sharesF amount ws).length = ws.length := by
  unfold sharesF; rw [foldl_bump_len]; unfold quos; rw [List.length_map]

theorem quo_at (amount : Int) (ws : List Int) (k : Nat) : (quos amount ws).getD k 0 = amount * ws.getD k 0 / sumI ws := by
  unfold quos
  rw [List.getD_eq_getElem?_getD, List.getD_eq_getElem?_getD, List.getElem?_map]
  cases ws[k]? <;> simp

theorem shares_at (amount : Int) (ws : List Int) (k : Nat) (hk : k < ws.length) : (sharesF amount ws).getD k 0 = amount * ws.getD k 0 / sumI ws ∧ ¬ picked amount ws k ∨ (sharesF amount ws).getD k 0 = amount * ws.getD k 0 / sumI ws + 1 ∧ picked amount ws k := by
  have hq : (quos amount ws).length = ws.length := by unfold quos; rw [List.length_map]
  have h := foldl_bump_at ((orderOf amount ws).take (leftOf amount ws)) (quos amount ws) ((order_nodup amount ws).sublist (List.take_sublist _ _)) (fun x hx => by
    rw [hq]; exact order_range amount ws x (List.mem_of_mem_take hx)) k (by rw [hq]; exact hk)
  rw [quo_at] at h
  unfold sharesF
  rw [h]
  unfold picked
  by_cases hm : (k : Int) ∈ (orderOf amount ws).take (leftOf amount ws)
  · rw [if_pos hm]; exact .inr ⟨rfl, hm⟩
  · rw [if_neg hm]; exact .inl ⟨by omega, hm⟩

theorem shares_sum (amount : Int) (ws : List Int) (hl0 : 0 ≤ amount - sumI (quos amount ws)) (hl : leftOf amount ws ≤ ws.length) : sumI (sharesF amount ws) = amount := by
  have hq : (quos amount ws).length = ws.length := by unfold quos; rw [List.length_map]
  unfold sharesF
  rw [foldl_bump_sum _ _ (fun x hx => by rw [hq]; exact order_range amount ws x (List.mem_of_mem_take hx)), List.length_take, order_len, Nat.min_eq_left hl]
  unfold leftOf
  omega

/-- Greater weights get more. -/
theorem shares_mono (amount : Int) (ws : List Int) (hs : 0 < sumI ws) (ha : 0 ≤ amount) (hl0 : 0 ≤ amount - sumI (quos amount ws)) (i k : Nat) (hi : i < ws.length) (hk : k < ws.length) (hw : ws.getD k 0 < ws.getD i 0) :
    (sharesF amount ws).getD k 0 ≤ (sharesF amount ws).getD i 0 := by
  have hm : amount * ws.getD k 0 ≤ amount * ws.getD i 0 := Int.mul_le_mul_of_nonneg_left (by omega) ha
  have hq : amount * ws.getD k 0 / sumI ws ≤ amount * ws.getD i 0 / sumI ws := Int.ediv_le_ediv hs hm
  have e1 := Int.mul_ediv_add_emod (amount * ws.getD k 0) (sumI ws)
  have e2 := Int.mul_ediv_add_emod (amount * ws.getD i 0) (sumI ws)
  rcases shares_at amount ws k hk with ⟨hk1, hk2⟩ | ⟨hk1, hk2⟩
  · rcases shares_at amount ws i hi with ⟨hi1, hi2⟩ | ⟨hi1, hi2⟩ <;> omega
  · have hpos := picked_pos amount ws hs hl0 k hk2
    rcases shares_at amount ws i hi with ⟨hi1, hi2⟩ | ⟨hi1, hi2⟩
    · by_cases he : amount * ws.getD k 0 / sumI ws = amount * ws.getD i 0 / sumI ws
      · exfalso
        apply hi2
        refine picked_before amount ws i k hi (.inl ?_) hk2
        have ha0 : amount ≠ 0 := by rintro rfl; simp at hpos
        have hlt : amount * ws.getD k 0 < amount * ws.getD i 0 := by
          have : 1 ≤ amount := by omega
          have h1 : amount * (ws.getD k 0 + 1) ≤ amount * ws.getD i 0 := Int.mul_le_mul_of_nonneg_left (by omega) ha
          rw [Int.mul_add, Int.mul_one] at h1
          omega
        rw [← he] at e2
        omega
      · omega
    · omega

/-- The share of a weight of which not more is asked. -/
theorem shares_le (amount : Int) (ws : List Int) (hs : 0 < sumI ws) (ha : 0 ≤ amount) (hle : amount ≤ sumI ws) (hl0 : 0 ≤ amount - sumI (quos amount ws)) (k : Nat) (hk : k < ws.length) (hw : 0 ≤ ws.getD k 0) :
    0 ≤ (sharesF amount ws).getD k 0 ∧ (sharesF amount ws).getD k 0 ≤ ws.getD k 0 := by
  have hm0 : 0 ≤ amount * ws.getD k 0 := Int.mul_nonneg ha hw
  have hm : amount * ws.getD k 0 ≤ sumI ws * ws.getD k 0 := Int.mul_le_mul_of_nonneg_right hle hw
  have e1 := Int.mul_ediv_add_emod (amount * ws.getD k 0) (sumI ws)
  have hq0 : 0 ≤ amount * ws.getD k 0 / sumI ws := Int.ediv_nonneg hm0 (by omega)
  have hq1 : amount * ws.getD k 0 / sumI ws ≤ ws.getD k 0 := by
    have := Int.ediv_le_ediv hs hm
    rwa [Int.mul_ediv_cancel_left _ (by omega)] at this
  rcases shares_at amount ws k hk with ⟨hk1, hk2⟩ | ⟨hk1, hk2⟩
  · omega
  · have hpos := picked_pos amount ws hs hl0 k hk2
    by_cases he : amount * ws.getD k 0 / sumI ws = ws.getD k 0
    · rw [he] at e1; omega
    · omega

theorem shares_all (ws : List Int) (hs : 0 < sumI ws) : sharesF (sumI ws) ws = ws := by
  have hq : quos (sumI ws) ws = ws := by
    unfold quos
    conv => rhs; rw [← List.map_id ws]
    apply List.map_congr_left
    intro x _
    rw [Int.mul_ediv_cancel_left _ (by omega)]; rfl
  have hl : leftOf (sumI ws) ws = 0 := by unfold leftOf; rw [hq]; simp
  unfold sharesF
  rw [hl, hq]; rfl

theorem proRate_len (amount : Int) (ws : List Int) : (proRateF amount ws).length ≤ 8 := by
  unfold proRateF
  split
  · rename_i h
    unfold proOk at h
    simp only [Bool.and_eq_true] at h
    rw [shares_len]
    exact (holders_facts ws h.1.2).2.1
  · simp

theorem drawLots_len (amount : Int) (ws : List Int) : (drawLotsF amount ws).length ≤ 8 := by
  unfold drawLotsF
  split
  · exact proRate_len _ _
  · simp

/-- What a list that is not empty says. -/
theorem proRate_open (amount : Int) (ws : List Int) (h : 0 < (proRateF amount ws).length) :
    proRateF amount ws = sharesF amount ws ∧ 0 ≤ amount ∧ amount ≤ 1000000000 ∧ holdersOk ws = true ∧ 0 < sumI ws ∧ 0 ≤ amount - sumI (quos amount ws) ∧ leftOf amount ws ≤ ws.length := by
  unfold proRateF at *
  by_cases hp : proOk amount ws = true
  · rw [if_pos hp]
    unfold proOk at hp
    simp only [Bool.and_eq_true, decide_eq_true_eq] at hp
    obtain ⟨⟨h1, h2⟩, h3⟩ := hp
    have ha := (within_iff' _ _ _).1 h1
    obtain ⟨f1, f2, f3, f4, f5, f6⟩ := holders_facts ws h2
    obtain ⟨q1, q2, q3⟩ := quos_facts amount ws h2 (by omega) ha.1 ha.2
    exact ⟨rfl, ha.1, ha.2, h2, by omega, q1, by unfold leftOf; omega⟩
  · rw [if_neg hp] at h; simp at h

end Go.Proofs.Ytecboohippbliaa
