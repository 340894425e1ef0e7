/- For every input, FnWeightsOf returns true: the program's WeightsOf agrees with the reference's, the weights add up to at most 1000 and to more than 1000 less their number, unless the book is worth nothing. No condition. -/
import Derived.Test.YthehhnckfoappaaRows
import Derived.Test.YthehhnckfoappaaBooks
import Derived.Test.YthehhnckfoappaaDrawBooks
import Derived.Test.YthehhnckfoappaaFrame
import Derived.ProofKit
namespace Go.Proofs.Ythehhnckfoappaa
open Go.ChangeShapes Go.WideShapes Go.ChangeAt Go.RowKit
namespace FnWeightsOf

theorem nonneg_sum (xs : List Int) (h : ∀ x ∈ xs, 0 ≤ x) : 0 ≤ sumI xs := by
  induction xs with
  | nil => simp [sumI]
  | cons x xs ih =>
    have h1 := h x (by simp)
    have h2 := ih (fun y hy => h y (List.mem_cons_of_mem _ hy))
    simp only [sumI]; omega

theorem weights_sum (s : Int) (hs : 1 ≤ s) (xs : List Mark) (h : ∀ x ∈ xs, 0 ≤ x.worth) :
    s * sumI (xs.map (weight s)) ≤ 1000 * bookWorth xs ∧ 1000 * bookWorth xs ≤ s * sumI (xs.map (weight s)) + (s - 1) * xs.length ∧ 0 ≤ sumI (xs.map (weight s)) := by
  unfold bookWorth
  induction xs with
  | nil => simp [sumI]
  | cons x xs ih =>
    obtain ⟨i1, i2, i3⟩ := ih (fun y hy => h y (List.mem_cons_of_mem _ hy))
    have hx := h x (by simp)
    have e : weight s x = 1000 * x.worth / s := by unfold weight; rw [if_neg (by omega)]
    have h1 := Int.mul_ediv_add_emod (1000 * x.worth) s
    have h2 := Int.emod_nonneg (1000 * x.worth) (show s ≠ 0 by omega)
    have h3 := Int.emod_lt_of_pos (1000 * x.worth) (show 0 < s by omega)
    have h4 : 0 ≤ 1000 * x.worth / s := Int.ediv_nonneg (by omega) (by omega)
    simp only [List.map_cons, sumI, List.length_cons, e]
    generalize 1000 * x.worth / s = q at *
    push_cast
    rw [Int.mul_add, Int.mul_add, Int.mul_add, Int.mul_one]
    omega

theorem facts (xs : List Mark) (n : Nat) (hl : xs.length = n) (hn : 0 < (weightsOf xs).length) :
    bookOk xs = true ∧ (weightsOf xs).length = n ∧ 1 ≤ n ∧ n ≤ 8 ∧ sumI (weightsOf xs) ≤ 1000 ∧ 0 ≤ sumI (weightsOf xs) ∧ 0 ≤ bookVal xs ∧ (bookVal xs = 0 → sumI (weightsOf xs) = 0) ∧ (0 < bookVal xs → 1000 - (n : Int) < sumI (weightsOf xs)) ∧ (∀ x ∈ weightsOf xs, 0 ≤ x) := by
  unfold weightsOf at *
  by_cases hok : weightsOk xs = true
  · rw [if_pos hok] at *
    rw [List.length_map] at *
    have h := hok
    unfold weightsOk at h
    simp only [Bool.and_eq_true, Bool.not_eq_true'] at h
    obtain ⟨hb, hneg⟩ := h
    have hx : ∀ x ∈ xs, 0 ≤ x.worth := by
      intro x hx
      have h1 : x.ok = true := by
        have h := hb
        unfold bookOk at h
        simp only [Bool.and_eq_true, List.all_eq_true] at h
        exact h.2 x hx
      have h2 : 0 ≤ x.many := by
        have := List.any_eq_false.1 hneg x hx
        simpa using this
      exact (weight_bound x h1 h2).1
    have h8 : n ≤ 8 := by
      have h := hb
      unfold bookOk at h
      simp only [Bool.and_eq_true, decide_eq_true_eq] at h
      omega
    obtain ⟨hz0, hz1⟩ := sum_zero xs hx
    rw [bookVal_ok hb]
    by_cases h0 : bookWorth xs = 0
    · have hall : ∀ x ∈ xs.map (weight (bookWorth xs)), x = 0 := by
        intro y hy
        obtain ⟨x, hx', rfl⟩ := List.mem_map.1 hy
        unfold weight
        rw [hz1 h0 x hx', h0]; rfl
      have hsum : sumI (xs.map (weight (bookWorth xs))) = 0 := by
        have := sumI_bound (xs.map (weight (bookWorth xs))) 0 0 (fun x hx => by rw [hall x hx]; omega)
        omega
      exact ⟨hb, hl, by omega, h8, by omega, by omega, by omega, fun _ => hsum, fun h => by omega, fun x hx => by rw [hall x hx]; omega⟩
    · have hp : 1 ≤ bookWorth xs := by omega
      obtain ⟨w1, w2, w3⟩ := weights_sum (bookWorth xs) hp xs hx
      generalize hS : sumI (xs.map (weight (bookWorth xs))) = S at *
      generalize bookWorth xs = s at *
      refine ⟨hb, hl, by omega, h8, ?_, w3, by omega, fun h => by omega, fun _ => ?_, ?_⟩
      · have : s * S ≤ s * 1000 := by rw [Int.mul_comm s 1000]; exact w1
        exact Int.le_of_mul_le_mul_left this (by omega)
      · rw [hl] at w2
        have h1 : s * 1000 < s * (S + n) := by
          rw [Int.mul_add]
          have e1 : (s - 1) * (n : Int) = s * n - n := by rw [Int.sub_mul, Int.one_mul]
          rw [e1] at w2
          omega
        have := Int.lt_of_mul_lt_mul_left h1 (by omega)
        omega
      · intro y hy
        obtain ⟨x, hx', rfl⟩ := List.mem_map.1 hy
        unfold weight
        have := hx x hx'
        exact Int.ediv_nonneg (by omega) (by split <;> omega)
  · rw [if_neg hok] at hn
    simp at hn

set_option maxHeartbeats 1000000 in
theorem walk (a : Option Addr) (n cap : Nat) (xs : List Int) (w : World) (hs : Sl u8L w a n xs) (hcap : n ≤ cap) (hx : ∀ x ∈ xs, 0 ≤ x ∧ x ≤ 255) :
    Calls Try.prog 8 #[.slice a n cap] w fun e w' => e = .returned (.bool true) ∧ w.grownBy w' none := by
  have Hx := hid hx; clear hx
  have Hs := hid hs; clear hs
  by_cases hn : 1048576 < n
  · go_enter Try.func8, Try.ntmps8
    go_wp2_with fail
    go_ret
    exact ⟨rfl, gr_refl _ _⟩
  · go_enter Try.func8, Try.ntmps8
    go_wp2_with fail
    refine (DrawWeightsOf_any a n cap xs w Hs.out hcap Hx.out).mono ?_
    rintro e w1 ⟨b, l, c, ys, rfl, hy, hc, hl, hg⟩
    have hd : decide (weightsOf ys = weightsOf ys) = true := by simp
    have Hy := hid hy; clear hy
    have Hg := hid hg; clear hg
    go_wp2_with fail
    refine (WeightsOf_any b l c ys w1 Hy.out).mono ?_
    rintro e w2 ⟨aw, nw, cw, rfl, how, hcw, hg2⟩
    have How := hid how; clear how
    have Hy2 := hid (Hy.out.keep0 hg2)
    have Hg2 := hid (gr_trans0 Hg.out hg2); clear hg2
    go_wp2_with fail
    refine (SpecWeightsOf_any b l c ys w2 Hy2.out).mono ?_
    rintro e w3 ⟨a3, ns, cs, rfl, hos, hcs, hg3⟩
    have Hos := hid hos; clear hos
    have How3 := hid (How.out.keep0 hg3)
    have Hy3 := hid (Hy2.out.keep0 hg3)
    have Hg3 := hid (gr_trans0 Hg2.out hg3); clear hg3
    go_wp2_with fail
    refine (equalInts_any aw a3 nw ns cw cs _ _ w3 How3.out.sl Hos.out.sl).mono ?_
    rintro e w4 ⟨rfl, hg4⟩
    have How4 := hid (How3.out.keep0 hg4)
    have Hy4 := hid (Hy3.out.keep0 hg4)
    have Hg4 := hid (gr_trans0 Hg3.out hg4); clear hg4
    by_cases h0 : nw = 0
    · subst h0
      go_wp2_with fail
      refine (SpecWeightsOf_any b l c ys w4 Hy4.out).mono ?_
      rintro e w5 ⟨a3', ns', cs', rfl, hos', hcs', hg5⟩
      have Hos5 := hid hos'; clear hos'
      have How5 := hid (How4.out.keep0 hg5)
      have Hg5 := hid (gr_trans0 Hg4.out hg5); clear hg5
      go_wp2_with fail
      refine (equalInts_any aw a3' 0 ns' cw cs' _ _ w5 How5.out.sl Hos5.out.sl).mono ?_
      rintro e w6 ⟨rfl, hg6⟩
      have Hg6 := hid (gr_trans0 Hg5.out hg6); clear hg6
      go_wp2_with fail
      go_ret
      exact ⟨rfl, Hg6.out⟩
    · have hnl := How.out.len
      obtain ⟨f1, f2, f3, f4, f5, f6, f7, f8, f9, f10⟩ := facts ys l Hy.out.len (by omega)
      have hnw : nw = l := by omega
      subst hnw
      have hb0 : ((nw : Int) == 0) = false := by simp; omega
      have Hsb : Hid (∀ k, -9223372036854775808 ≤ sumI ((weightsOf ys).take k) ∧ sumI ((weightsOf ys).take k) ≤ 9223372036854775807) := by
        refine hid (fun k => ?_)
        have h1 : sumI ((weightsOf ys).take k) + sumI ((weightsOf ys).drop k) = sumI (weightsOf ys) := by rw [← sumI_append, List.take_append_drop]
        have h3 : 0 ≤ sumI ((weightsOf ys).take k) := nonneg_sum _ (fun x hx => f10 x (List.mem_of_mem_take hx))
        have h4 : 0 ≤ sumI ((weightsOf ys).drop k) := nonneg_sum _ (fun x hx => f10 x (List.mem_of_mem_drop hx))
        omega
      have F8 := hid f8
      have F9 := hid f9
      clear f8 f9 f10 hnl f2
      go_wp2_with fail
      refine (BookWorth_any b nw c ys w4 Hy4.out).mono ?_
      rintro e w5 ⟨rfl, hg5⟩
      have How5 := hid (How4.out.keep0 hg5)
      have Hg5 := hid (gr_trans0 Hg4.out hg5); clear hg5
      by_cases hv : bookVal ys = 0
      · have hz := F8.out hv
        have hze : (sumI (weightsOf ys) == 0) = true := by simpa using hz
        have Hz := hid hz; clear hz
        go_wp2_with (go_at_call 27; refine (sum_any aw nw cw _ _ How5.out.sl Hsb.out).mono ?_; rintro e w6 ⟨rfl, rfl⟩)
        all_goals (go_ret; exact ⟨ret_bool (by first | rfl | exact hze), Hg5.out⟩)
      · have hvb : (bookVal ys == 0) = false := by simpa using hv
        have hv1 : 0 < bookVal ys := by omega
        have hf := F9.out hv1
        go_wp2_with (go_at_call 27; refine (sum_any aw nw cw _ _ How5.out.sl Hsb.out).mono ?_; rintro e w6 ⟨rfl, rfl⟩)
        all_goals (go_ret; exact ⟨ret_bool (by first | rfl | exact decide_eq_true hf), Hg5.out⟩)

set_option maxRecDepth 100000 in
theorem lifted (os : Os) (started : os.Started) (H : Type) (enc : TypeId × Value → H) :
    ReturnsInHanded {} Try.checked os 8 .any (Rows.fnWeightsOfSpec.pre6 enc Try.prog Try.f8 Rows.fnWeightsOfRow.domain false) (Rows.fnWeightsOfSpec.post enc Try.prog Try.f8 false true false false) := by
  refine returnsInHanded_of_change (C := Try.checked) Try.own started (by kernel_rfl) Try.func8
    (ChangeSpec.witness6 (enc := enc) (C := Try.checked) false ⟨#[], #[.slice none 0 0], []⟩ 8 (by kernel_rfl) (by kernel_rfl) (by kernel_rfl) (by kernel_rfl)) ?_
  intro W base args ds gs before hval0 hW _ _
  have hval : ∀ (j : Nat) t v, Try.f8.params[j]? = some t → args[j]? = some v → Value.okWide Try.prog W .any base t v := hval0
  have hW' := hW
  obtain ⟨p, q, hA0, hV, rfl, hfz, hnd⟩ := hW
  have hA : DataW.TrodAll enc Try.prog W 0 (fun _ => true) true Try.f8.params.toList args.toList ds p := hA0
  rw [Try.params8] at hA hval
  have hA2 := hA
  obtain ⟨v0, vs0, d0, ds0, p0, q0, hargs, rfl, rfl, h0, r0⟩ := trodAll_cons hA
  obtain ⟨rfl, rfl, rfl⟩ := trodAll_nil r0
  obtain rfl : args = #[v0] := by cases args; simp_all
  obtain ⟨rfl, rfl⟩ := trodVars_none hV
  have hlt : ∀ x ∈ (p0 ++ []) ++ [], x.block < W.heap.size := fun x hx => hW'.lt x hx
  obtain ⟨a0, n0, cap0, rfl⟩ := okWide_slice Try.underlying22 (hval 0 22 v0 rfl rfl)
  obtain ⟨fuel0, hf0⟩ := h0
  obtain ⟨xs0, hs0, hc0, hw0⟩ := sl_ints u8L (fun _ => rfl) rfl Try.underlying22 Try.underlying5 Try.cellsU8 hf0
  refine (walk a0 n0 cap0 xs0 W hs0 hc0 (fun z hz => u8_range (hw0 z hz))).mono fun e W' ⟨he, hg⟩ => ?_
  subst he
  have hb := below_of_gr hg
  refine ⟨_, rfl, _, _, _, [], p0 ++ [], [], hW', ?_, ?_, rfl, hb.frame _, fun h => by cases h⟩
  · exact trodAll_mk1 (shut_bool Try.underlying4 _)
  · exact args_stay hb _ _ _ _ hA2 (fun x hx => hlt x (by simpa using hx)) (by intro t ht; simp at ht; subst ht; exact ⟨by kernel_rfl, of_decide_eq_true (by kernel_rfl)⟩)

theorem holds : Rows.FnWeightsOfSaid :=
  OpenClaim.holds_of_wide 8 Try.f8 rfl rfl rfl rfl rfl rfl rfl ⟨rfl, rfl, rfl, rfl, rfl⟩ rfl rfl rfl rfl rfl (by kernel_rfl) Try.func8 (by kernel_rfl)
    (of_decide_eq_true (by kernel_rfl)) (by unfold Func.isWrapper; first | (rw [if_pos (by decide +kernel)]; kernel_rfl) | (rw [if_neg (by decide +kernel)]; exact ⟨rfl, rfl⟩))
    (fun os started H enc _ => lifted os started H enc)

end FnWeightsOf
end Go.Proofs.Ythehhnckfoappaa
