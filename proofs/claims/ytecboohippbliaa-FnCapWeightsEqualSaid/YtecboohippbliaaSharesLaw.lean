/- The program's shares are the reference's: no program in sight. -/
import Derived.Test.YtecboohippbliaaRows
import Derived.Test.YtecboohippbliaaBase
import Derived.Test.YtecboohippbliaaSpecProRate2
namespace Go.Proofs.Ytecboohippbliaa
open Go.RowKit

theorem insR_pw {α : Type} (R : α → α → Prop) (htr : ∀ a b c, R a b → R b c → R a c) (lt : α → α → Bool) (x : α) (p : List α)
    (h1 : ∀ y ∈ p, lt x y = true → R x y) (h2 : ∀ y ∈ p, lt x y = false → R y x) (hp : p.Pairwise fun a b => R b a) : (insR lt x p).Pairwise fun a b => R b a := by
  induction p with
  | nil => simp [insR]
  | cons y ys ih =>
    obtain ⟨hy, hys⟩ := List.pairwise_cons.1 hp
    unfold insR
    by_cases hlt : lt x y = true
    · rw [if_pos hlt]
      refine List.pairwise_cons.2 ⟨fun z hz => ?_, ih (fun z hz => h1 z (List.mem_cons_of_mem _ hz)) (fun z hz => h2 z (List.mem_cons_of_mem _ hz)) hys⟩
      rcases (insR_mem lt x z ys).1 hz with rfl | hz
      · exact h1 y (by simp) hlt
      · exact hy z hz
    · rw [if_neg hlt]
      have hyx := h2 y (by simp) (by simpa using hlt)
      refine List.pairwise_cons.2 ⟨fun z hz => ?_, hp⟩
      rcases List.mem_cons.1 hz with rfl | hz
      · exact hyx
      · exact htr _ _ _ (hy z hz) hyx

theorem isort_pw {α : Type} (R : α → α → Prop) (htr : ∀ a b c, R a b → R b c → R a c) (lt : α → α → Bool) (p : List α)
    (hp : p.Pairwise fun y x => (lt x y = true → R x y) ∧ (lt x y = false → R y x)) : (isort lt p).Pairwise R := by
  revert hp
  refine snoc_ind (P := fun p => (p.Pairwise fun y x => (lt x y = true → R x y) ∧ (lt x y = false → R y x)) → (isort lt p).Pairwise R) (fun _ => by simp [isort]) (fun p x ih hp => ?_) p
  obtain ⟨hp1, _, hp2⟩ := List.pairwise_append.1 hp
  rw [isort_snoc]
  unfold ins
  rw [List.pairwise_reverse]
  refine insR_pw R htr lt x _ (fun y hy => ?_) (fun y hy => ?_) ?_
  · rw [List.mem_reverse, isort_mem] at hy; exact (hp2 y hy x (by simp)).1
  · rw [List.mem_reverse, isort_mem] at hy; exact (hp2 y hy x (by simp)).2
  · rw [List.pairwise_reverse]; exact ih hp1

theorem amax_is (rs : List Int) (k x : Nat) (hx : x < k) (h1 : ∀ i, i < k → rs.getD i 0 ≤ rs.getD x 0) (h2 : ∀ i, i < x → rs.getD i 0 < rs.getD x 0) : amax rs k = x := by
  induction k with
  | zero => omega
  | succ k ih =>
    unfold amax
    by_cases hxk : x = k
    · subst hxk
      by_cases h0 : x = 0
      · subst h0; simp [amax]
      · rw [if_pos (h2 _ (amax_lt rs x (by omega)))]
    · rw [ih (by omega) (fun i hi => h1 i (by omega)), if_neg (by have := h1 k (by omega); omega)]

/-- x comes before y: the greater rest, then the smaller place. -/
def beforeR (rs0 : List Int) (x y : Int) : Prop := rs0.getD y.toNat 0 < rs0.getD x.toNat 0 ∨ (rs0.getD y.toNat 0 = rs0.getD x.toNat 0 ∧ x < y)

theorem beforeR_trans (rs0 : List Int) (a b c : Int) (h1 : beforeR rs0 a b) (h2 : beforeR rs0 b c) : beforeR rs0 a c := by
  unfold beforeR at *; omega

theorem specIter_is (rs0 : List Int) (n : Nat) (h0 : ∀ i, i < n → 0 ≤ rs0.getD i 0) (L : List Int) (hL : L.Pairwise (beforeR rs0)) (hr : ∀ x ∈ L, 0 ≤ x ∧ x < n) (out rs : List Int) (hlen : rs.length = n)
    (hin : ∀ i : Nat, i < n → (i : Int) ∈ L → rs.getD i 0 = rs0.getD i 0) (hout : ∀ i : Nat, i < n → (i : Int) ∉ L → rs.getD i 0 = -1) (j : Nat) (hj : j ≤ L.length) :
    (specIter j (out, rs)).1 = (L.take j).foldl bump out := by
  induction j generalizing L out rs with
  | zero => simp [specIter]
  | succ j ih =>
    cases L with
    | nil => simp at hj
    | cons x L =>
      obtain ⟨hx, hL'⟩ := List.pairwise_cons.1 hL
      have hxb := hr x (by simp)
      obtain ⟨xn, rfl⟩ := Int.eq_ofNat_of_zero_le hxb.1
      have hxn : xn < n := by omega
      have hrx : rs.getD xn 0 = rs0.getD xn 0 := hin xn hxn (by simp)
      have hx0 := h0 xn hxn
      have hbef : ∀ i : Nat, i < n → i ≠ xn → rs.getD i 0 < rs.getD xn 0 ∨ (rs.getD i 0 = rs.getD xn 0 ∧ xn < i) := by
        intro i hi hne
        by_cases hm : (i : Int) ∈ L
        · have hb := hx _ hm
          rw [hin i hi (List.mem_cons_of_mem _ hm), hrx]
          unfold beforeR at hb
          simp only [Int.toNat_natCast] at hb
          omega
        · left
          rw [hout i hi (by intro h; rcases List.mem_cons.1 h with h | h; · exact hne (by omega)
                            · exact hm h), hrx]; omega
      have ham : amax rs n = xn := amax_is rs n xn hxn (fun i hi => by
        by_cases hne : i = xn
        · subst hne; omega
        · have := hbef i hi hne; omega) (fun i hi => by have := hbef i (by omega) (by omega); omega)
      have hnx : (xn : Int) ∉ L := fun h => by
        have hb := hx _ h
        unfold beforeR at hb
        omega
      show (specIter j (specStep (out, rs))).1 = _
      unfold specStep
      simp only [hlen, ham, List.take_succ_cons, List.foldl_cons]
      refine ih L hL' (fun z hz => hr z (List.mem_cons_of_mem _ hz)) _ _ (by rw [List.length_set]; exact hlen) (fun i hi hm => ?_) (fun i hi hm => ?_) (by simp at hj; omega)
      · have hne : xn ≠ i := fun e => hnx (by rw [e]; exact hm)
        rw [List.getD_eq_getElem?_getD, List.getElem?_set_ne hne, ← List.getD_eq_getElem?_getD]
        exact hin i hi (List.mem_cons_of_mem _ hm)
      · by_cases hne : xn = i
        · subst hne
          rw [List.getD_eq_getElem?_getD, List.getElem?_set_self (by omega)]; rfl
        · rw [List.getD_eq_getElem?_getD, List.getElem?_set_ne hne, ← List.getD_eq_getElem?_getD]
          exact hout i hi (by intro h; rcases List.mem_cons.1 h with h | h; · exact hne (by omega)
                              · exact hm h)

theorem upFrom_ge (m : Int) (n : Nat) (x : Int) (hx : x ∈ upFrom m n) : m ≤ x ∧ x < m + n := by
  obtain ⟨i, hi⟩ := List.getElem?_of_mem hx
  have hik := lt_of_at hi
  rw [upFrom_len] at hik
  rw [upFrom_at m n i hik] at hi
  cases hi; omega

theorem upFrom_pw (m : Int) (n : Nat) : (upFrom m n).Pairwise (· < ·) := by
  induction n generalizing m with
  | zero => simp [upFrom]
  | succ n ih =>
    rw [upFrom]
    refine List.pairwise_cons.2 ⟨fun x hx => ?_, ih (m + 1)⟩
    have := upFrom_ge (m + 1) n x hx; omega

theorem rest_eq (amount : Int) (ws : List Int) (k : Nat) : restOf amount (sumI ws) ws k = (restsL amount ws).getD k 0 := by
  unfold restOf restsL
  rw [List.getD_eq_getElem?_getD, List.getD_eq_getElem?_getD, List.getElem?_map]
  cases ws[k]? <;> simp

theorem shares_eq (amount : Int) (ws : List Int) (hs : 0 < sumI ws) (hl : leftOf amount ws ≤ ws.length) : sharesF amount ws = specF amount ws := by
  have h0 : ∀ i, i < ws.length → 0 ≤ (restsL amount ws).getD i 0 := by
    intro i _
    rw [← rest_eq]
    exact Int.emod_nonneg _ (by omega)
  have hmem : ∀ x, x ∈ orderOf amount ws ↔ x ∈ upFrom 0 ws.length := fun x => isort_mem _ _ _
  have hpw : (orderOf amount ws).Pairwise (beforeR (restsL amount ws)) := by
    unfold orderOf
    refine isort_pw _ (beforeR_trans _) _ _ ((upFrom_pw 0 ws.length).imp ?_)
    intro y x hyx
    unfold ltR cmpI beforeR
    rw [rest_eq, rest_eq]
    constructor
    · intro h
      have h := of_decide_eq_true h
      split at h
      · left; assumption
      · split at h <;> omega
    · intro h
      have h := of_decide_eq_false h
      split at h
      · omega
      · omega
  unfold sharesF specF
  refine (specIter_is (restsL amount ws) ws.length h0 _ hpw (fun x hx => ?_) _ _ (by unfold restsL; rw [List.length_map]) (fun _ _ _ => rfl) (fun i hi hm => ?_) _ (by unfold orderOf; rw [isort_len, upFrom_len]; exact hl)).symm
  · have := upFrom_ge 0 ws.length x ((hmem x).1 hx); omega
  · exfalso
    apply hm
    rw [hmem]
    have := upFrom_at 0 ws.length i hi
    rw [Int.zero_add] at this
    exact List.mem_of_getElem? this


theorem proRate_eq (amount : Int) (ws : List Int) : proRateF amount ws = specProRateF amount ws := by
  unfold proRateF specProRateF
  by_cases h : proOk amount ws = true
  · rw [if_pos h, if_pos h]
    unfold proOk at h
    simp only [Bool.and_eq_true, decide_eq_true_eq] at h
    obtain ⟨⟨h1, h2⟩, h3⟩ := h
    have ha := (within_iff' _ _ _).1 h1
    obtain ⟨f1, f2, f3, f4, f5, f6⟩ := holders_facts ws h2
    obtain ⟨q1, q2, q3⟩ := quos_facts amount ws h2 (by omega) ha.1 ha.2
    exact shares_eq amount ws (by omega) (by unfold leftOf; omega)
  · rw [if_neg h, if_neg h]

theorem drawLots_eq (amount : Int) (ws : List Int) : drawLotsF amount ws = specDrawLotsF amount ws := by
  unfold drawLotsF specDrawLotsF
  by_cases h2 : holdersOk ws = true
  · obtain ⟨f1, f2, f3, f4, f5, f6⟩ := holders_facts ws h2
    by_cases h3 : sumI ws ≠ 0 ∧ withinB amount 0 (sumI ws) = true
    · have ha := (within_iff' _ _ _).1 h3.2
      rw [if_pos ⟨h2, ha.2⟩, if_pos ⟨h2, h3⟩, proRate_eq]
      unfold specProRateF
      rw [if_pos]
      unfold proOk
      rw [h2, (within_iff' _ _ _).2 ⟨ha.1, show amount ≤ 1000000000 by omega⟩]
      simp [h3.1]
    · rw [if_neg (show ¬ (holdersOk ws = true ∧ sumI ws ≠ 0 ∧ withinB amount 0 (sumI ws) = true) from fun h => h3 h.2)]
      by_cases h4 : amount ≤ sumI ws
      · rw [if_pos ⟨h2, h4⟩]
        unfold proRateF
        rw [if_neg]
        intro h
        unfold proOk at h
        simp only [Bool.and_eq_true, decide_eq_true_eq] at h
        exact h3 ⟨h.2, (within_iff' _ _ _).2 ⟨((within_iff' _ _ _).1 h.1.1).1, h4⟩⟩
      · rw [if_neg (fun h => h4 h.2)]
  · rw [if_neg (fun h => h2 h.1), if_neg (fun h => h2 h.1)]

end Go.Proofs.Ytecboohippbliaa
