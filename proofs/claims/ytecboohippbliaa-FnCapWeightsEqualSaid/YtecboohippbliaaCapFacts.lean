/- What the laws of CapWeights ask of its values, in plain Lean. -/
import Derived.Test.YtecboohippbliaaRows
import Derived.Test.YtecboohippbliaaCap
namespace Go.Proofs.Ytecboohippbliaa
open Go.RowKit

theorem cap_low_step (lim : Int) (n : Nat) (xs ys : List Int) (gx : List Bool) (h : CapInv lim n ys gx) (ho : overL lim ys ≠ 0) (hp : ∀ (i : Nat) (y x : Int), ys[i]? = some y → xs[i]? = some x → min x lim ≤ y) :
    ∀ (i : Nat) (y x : Int), (roundF lim ys gx)[i]? = some y → xs[i]? = some x → min x lim ≤ y := by
  obtain ⟨r1, r2, r3, r4, r5, r6, r7, r8, r9, r10⟩ := cap_round lim n ys gx h ho
  have hsp := shares_pos (overL lim ys) _ (by omega) (fun x hx => ((holders_facts _ r7).2.2.1 x hx).1) r8
  intro i y x hy hx
  unfold roundF addL at hy
  rw [List.getElem?_zipWith] at hy
  cases h1 : (capL lim ys)[i]? with
  | none => rw [h1] at hy; simp at hy
  | some c =>
    cases h2 : (expand (freeL (fixL lim ys gx)) (partsF lim ys gx))[i]? with
    | none => rw [h1, h2] at hy; simp at hy
    | some p =>
      rw [h1, h2] at hy
      obtain rfl : c + p = y := by simpa using hy
      have hp0 : 0 ≤ p := by
        rcases expand_mem' _ _ _ (List.mem_of_getElem? h2) with h | h
        · omega
        · exact hsp p h
      unfold capL at h1
      rw [List.getElem?_map] at h1
      cases h3 : ys[i]? with
      | none => rw [h3] at h1; simp at h1
      | some y0 =>
        rw [h3] at h1
        obtain rfl : capX lim y0 = c := by simpa using h1
        have := hp i y0 x h3 hx
        unfold capX; split <;> omega

theorem cap_fix (xs : List Int) (lim : Int) (h : capOk xs lim = true) (hle : ∀ x ∈ xs, x ≤ lim) : capWeightsF xs lim = xs := by
  unfold capWeightsF capF
  rw [if_pos h, capN_succ, if_pos (over_none lim xs hle)]

theorem cap_whole (xs : List Int) (lim : Int) (h : capOk xs lim = true) :
    capWeightsF xs lim = capF xs lim ∧ (capF xs lim).length = xs.length ∧ sumI (capF xs lim) = 1000 ∧ (∀ v ∈ capF xs lim, 0 ≤ v ∧ v ≤ 1000 ∧ v ≤ lim) ∧ (∀ (i : Nat) (v x : Int), (capF xs lim)[i]? = some v → xs[i]? = some x → min x lim ≤ v) ∧ capWeightsF (capF xs lim) lim = capF xs lim ∧ ((∀ x ∈ xs, x ≤ lim) → capF xs lim = xs) := by
  have hc := capOk_facts xs lim h
  obtain ⟨gx, h1, h2, h3⟩ := capN_ind lim xs.length (fun ys _ => ∀ (i : Nat) (y x : Int), ys[i]? = some y → xs[i]? = some x → min x lim ≤ y)
    (fun ys gx hi hp ho => cap_low_step lim xs.length xs ys gx hi ho hp) (xs.length + 1) xs _ hc (fun i y x hy hx => by rw [hx] at hy; obtain rfl := Option.some.inj hy; omega) (by simp)
  have e : capN lim (xs.length + 1) xs (List.replicate xs.length false) = capF xs lim := rfl
  rw [e] at h1 h2 h3
  have hle := (over_zero lim _ h3).1
  have hok : capOk (capF xs lim) lim = true := by
    unfold capOk intsIn
    simp only [Bool.and_eq_true, within_iff', List.all_eq_true, decide_eq_true_eq]
    have := h1.lo; have := h1.hi; have := h1.lim0; have := h1.lim1; have := h1.len
    rw [h1.len]
    exact ⟨⟨⟨⟨by omega, by omega⟩, h1.sum⟩, h1.room⟩, h1.le⟩
  exact ⟨by unfold capWeightsF; rw [if_pos h], h1.len, h1.sum, fun v hv => ⟨(h1.le v hv).1, (h1.le v hv).2, hle v hv⟩, h2, cap_fix _ _ hok hle, fun hx => by have := cap_fix xs lim h hx; unfold capWeightsF at this; rwa [if_pos h] at this⟩

theorem cap_open (xs : List Int) (lim : Int) (h : 0 < (capWeightsF xs lim).length) : capOk xs lim = true := by
  unfold capWeightsF at h
  by_cases h1 : capOk xs lim = true
  · exact h1
  · rw [if_neg h1] at h; simp at h

theorem cap_four (x : Int) (h0 : 0 ≤ x) (h1 : x < 500) : capWeightsF [1000 - x, x, 0, 0] 250 = [250, 250, 250, 250] := by
  have hok : capOk [1000 - x, x, 0, 0] 250 = true := by
    unfold capOk intsIn withinB
    simp [sumI]; omega
  obtain ⟨e, hl, hs, hb, _⟩ := cap_whole _ _ hok
  rw [e]
  generalize capF [1000 - x, x, 0, 0] 250 = V at *
  match V, hl with
  | [a, b, c, d], _ =>
    have ha := hb a (by simp); have hb1 := hb b (by simp); have hc := hb c (by simp); have hd := hb d (by simp)
    simp only [sumI] at hs
    have : a = 250 ∧ b = 250 ∧ c = 250 ∧ d = 250 := by omega
    rw [this.1, this.2.1, this.2.2.1, this.2.2.2]

end Go.Proofs.Ytecboohippbliaa
