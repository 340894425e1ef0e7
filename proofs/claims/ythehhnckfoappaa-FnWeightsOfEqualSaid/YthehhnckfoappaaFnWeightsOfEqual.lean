/- For every input, FnWeightsOfEqual returns true: the program's WeightsOf agrees with the reference's, and a position three times weighs 333 each time, or 0 if it is worth nothing. No condition. -/
import Derived.Test.YthehhnckfoappaaRows
import Derived.Test.YthehhnckfoappaaBooks
import Derived.Test.YthehhnckfoappaaDrawBooks
import Derived.Test.YthehhnckfoappaaFrame
import Derived.ProofKit
import Derived.StillTailTactics
import Derived.Deep.QuietTactic
import Derived.BigQuiet
namespace Go.Proofs.Ythehhnckfoappaa
open Go.ChangeShapes Go.WideShapes Go.ChangeAt Go.RowKit
namespace FnWeightsOfEqual

theorem first (xs : List Mark) (hn : 0 < (weightsOf xs).length) : 0 < xs.length ∧ ∀ x ∈ xs, x.ok = true ∧ 0 ≤ x.many ∧ 0 ≤ x.worth ∧ x.worth ≤ 1000000000 := by
  unfold weightsOf at hn
  by_cases hok : weightsOk xs = true
  · rw [if_pos hok, List.length_map] at hn
    refine ⟨hn, fun x hx => ?_⟩
    unfold weightsOk at hok
    simp only [Bool.and_eq_true, Bool.not_eq_true'] at hok
    obtain ⟨hb, hneg⟩ := hok
    have h1 : x.ok = true := by
      unfold bookOk at hb
      simp only [Bool.and_eq_true, List.all_eq_true] at hb
      exact hb.2 x hx
    have h2 : 0 ≤ x.many := by
      have := List.any_eq_false.1 hneg x hx
      simpa using this
    have h3 := weight_bound x h1 h2
    have h4 := x.worth_bound h1
    exact ⟨h1, h2, by omega, by omega⟩
  · rw [if_neg hok] at hn; simp at hn

theorem three (x : Mark) (h1 : x.ok = true) (h2 : 0 ≤ x.many) : weightsOf [x, x, x] = (if x.worth = 0 then [0, 0, 0] else [333, 333, 333]) := by
  have hw := (weight_bound x h1 h2).1
  have hok : weightsOk [x, x, x] = true := by
    unfold weightsOk bookOk
    simp [h1]; omega
  have hs : bookWorth [x, x, x] = 3 * x.worth := by
    unfold bookWorth; simp only [List.map_cons, List.map_nil, sumI]; omega
  unfold weightsOf
  rw [if_pos hok, hs]
  have e : weight (3 * x.worth) x = if x.worth = 0 then 0 else 333 := by
    unfold weight
    by_cases h0 : x.worth = 0
    · rw [if_pos h0, h0]; rfl
    · rw [if_neg h0, if_neg (by omega)]
      have h3 : 0 < 3 * x.worth := by omega
      have : 1000 * x.worth = x.worth + 333 * (3 * x.worth) := by omega
      rw [this, Int.add_mul_ediv_right _ _ (by omega), Int.ediv_eq_zero_of_lt hw (by omega)]; rfl
  simp only [List.map_cons, List.map_nil, e]
  split <;> rfl

theorem WorthOf_any (x : Mark) (w : World) (h : x.ok = true) :
    Calls Try.prog 26 #[.agg #[.int .i64 x.many, .int .i64 x.clean, .int .i64 x.accrued]] w fun e w' => e = .returned (.tuple #[.int .i64 x.worth, .bool true]) ∧ w.grownBy w' none := by
  go_enter Try.func26, Try.ntmps26
  go_wp2_with fail
  refine (Markvalid_any x _).mono ?_
  rintro e w1 ⟨rfl, hg⟩
  have hM := blk_keep (heap_alloc_new w _) hg (fun k e => by cases e)
  have c0 := blk_cell hM 0 _ rfl
  have c1 := blk_cell hM 1 _ rfl
  have c2 := blk_cell hM 2 _ rfl
  have Hg := hid (gr_trans0 (gr_alloc (gr0 _) _) hg); clear hg hM
  go_wp2_with fail
  refine (Markworth_any x _ h).mono ?_
  rintro e w2 ⟨rfl, hg⟩
  have Hg2 := hid (gr_trans0 Hg.out hg); clear hg
  go_wp2
  go_ret2
  exact ⟨rfl, Hg2.out⟩

set_option maxHeartbeats 1000000 in
theorem walk (a : Option Addr) (n cap : Nat) (xs : List Int) (w : World) (hs : Sl u8L w a n xs) (hcap : n ≤ cap) (hx : ∀ x ∈ xs, 0 ≤ x ∧ x ≤ 255) :
    Calls Try.prog 7 #[.slice a n cap] w fun e w' => e = .returned (.bool true) ∧ w.grownBy w' none := by
  have Hx := hid hx; clear hx
  have Hs := hid hs; clear hs
  by_cases hn : 1048576 < n
  · go_enter Try.func7, Try.ntmps7
    go_wp2_with fail
    go_ret
    exact ⟨rfl, gr_refl _ _⟩
  · go_enter Try.func7, Try.ntmps7
    go_wp2_with fail
    refine (DrawWeightsOf_any a n cap xs w Hs.out hcap Hx.out).mono ?_
    rintro e w1 ⟨b, l, c, ys, rfl, hy, hc, hl, hg⟩
    have hd : decide (weightsOf ys = weightsOf ys) = true := by simp
    have Hy := hid hy; clear hy
    have Hg := hid hg; clear hg
    go_wp2_with fail
    refine (WeightsOf_any b l c ys w1 Hy.out).mono ?_
    rintro e w2 ⟨aw, nw, cw, rfl, how, hcw, hg2⟩
    have How := hid how; clear how
    have Hy2 := hid (Hy.out.keep0 hg2)
    have Hg2 := hid (gr_trans0 Hg.out hg2); clear hg2
    go_wp2_with fail
    refine (SpecWeightsOf_any b l c ys w2 Hy2.out).mono ?_
    rintro e w3 ⟨a3, ns, cs, rfl, hos, hcs, hg3⟩
    have Hos := hid hos; clear hos
    have How3 := hid (How.out.keep0 hg3)
    have Hy3 := hid (Hy2.out.keep0 hg3)
    have Hg3 := hid (gr_trans0 Hg2.out hg3); clear hg3
    go_wp2_with fail
    refine (equalInts_any aw a3 nw ns cw cs _ _ w3 How3.out.sl Hos.out.sl).mono ?_
    rintro e w4 ⟨rfl, hg4⟩
    have How4 := hid (How3.out.keep0 hg4)
    have Hy4 := hid (Hy3.out.keep0 hg4)
    have Hg4 := hid (gr_trans0 Hg3.out hg4); clear hg4
    by_cases h0 : nw = 0
    · subst h0
      go_wp2_with fail
      refine (SpecWeightsOf_any b l c ys w4 Hy4.out).mono ?_
      rintro e w5 ⟨a3', ns', cs', rfl, hos', hcs', hg5⟩
      have Hos5 := hid hos'; clear hos'
      have How5 := hid (How4.out.keep0 hg5)
      have Hg5 := hid (gr_trans0 Hg4.out hg5); clear hg5
      go_wp2_with fail
      refine (equalInts_any aw a3' 0 ns' cw cs' _ _ w5 How5.out.sl Hos5.out.sl).mono ?_
      rintro e w6 ⟨rfl, hg6⟩
      have Hg6 := hid (gr_trans0 Hg5.out hg6); clear hg6
      go_wp2_with fail
      go_ret
      exact ⟨rfl, Hg6.out⟩
    · obtain ⟨hl0, hall⟩ := first ys (by have := How.out.len; omega)
      rw [Hy.out.len] at hl0
      have hb0 : ((nw : Int) == 0) = false := by simp; omega
      obtain ⟨g, o, x, rfl, hx0, h1, h2, h3⟩ := mark_at Hy4.out 0 hl0
      simp only [Nat.zero_mul, Nat.add_zero] at h1 h2 h3
      obtain ⟨ok1, ok2, ok3, ok4⟩ := hall x (List.mem_of_getElem? hx0)
      have Hth := hid (three x ok1 ok2)
      have Hx0 := hid hx0
      clear hall hx0
      go_wp2_with fail
      go_still_tail 9, (by kernel_rfl)
      change wpList _ _ _ _ _ w4.drew
      go_wp2_with fail
      refine (WeightsOf_any _ 3 3 [x, x, x] _ ((Sl.lit markL w4 _ 45 3 [x, x, x] rfl rfl (by decide)).keep0 (gr_drew (gr_refl _ _)))).mono ?_
      rintro e w5 ⟨a5, n5, c5, rfl, ho5, hc5, hg5⟩
      rw [Hth.out] at ho5
      have hn5 : n5 = 3 := by have := ho5.len; rw [← this]; split <;> rfl
      subst hn5
      have Hg5 := hid (gr_trans0 (gr_drew (gr_alloc Hg4.out _)) hg5)
      have hx5 := Hy4.out.keep0 (gr_trans0 (gr_drew (gr_alloc (gr0 _) _)) hg5)
      obtain ⟨g', o', x', e', hx', p1, p2, p3⟩ := mark_at hx5 0 hl0
      simp only [Option.some.injEq, Addr.mk.injEq, and_true] at e'
      obtain ⟨rfl, rfl⟩ := e'
      simp only [Nat.zero_mul, Nat.add_zero] at p1 p2 p3
      have hxx : x' = x := by rw [Hx0.out] at hx'; cases hx'; rfl
      subst hxx
      clear hg5 hx5 hx' h1 h2 h3
      have H5 := hid ho5; clear ho5
      go_wp2_with fail
      refine (WorthOf_any x' w5 ok1).mono ?_
      rintro e w6 ⟨rfl, hg6⟩
      have hs6 := (H5.out.keep0 hg6).sl
      have Hg6 := hid (gr_trans0 Hg5.out hg6); clear hg6
      by_cases hw : x'.worth = 0
      · rw [if_pos hw] at hs6
        obtain ⟨g, o, v0, rfl, e0, q0⟩ := int_at hs6 0 (by omega)
        obtain ⟨g1, o1, v1, e1', e1, q1⟩ := int_at hs6 1 (by omega)
        obtain ⟨g2, o2, v2, e2', e2, q2⟩ := int_at hs6 2 (by omega)
        simp only [Option.some.injEq, Addr.mk.injEq, and_true] at e1' e2'
        obtain ⟨rfl, rfl⟩ := e1'
        obtain ⟨rfl, rfl⟩ := e2'
        simp at e0 e1 e2
        subst e0 e1 e2
        simp only [Nat.add_zero] at q0
        rw [hw]
        clear hs6 hw
        go_wp2_with fail
        go_quiet (fail)
        go_wp2
        go_ret
        exact ⟨rfl, gr_drewN Hg6.out _⟩
      · rw [if_neg hw] at hs6
        obtain ⟨g, o, v0, rfl, e0, q0⟩ := int_at hs6 0 (by omega)
        obtain ⟨g1, o1, v1, e1', e1, q1⟩ := int_at hs6 1 (by omega)
        obtain ⟨g2, o2, v2, e2', e2, q2⟩ := int_at hs6 2 (by omega)
        simp only [Option.some.injEq, Addr.mk.injEq, and_true] at e1' e2'
        obtain ⟨rfl, rfl⟩ := e1'
        obtain ⟨rfl, rfl⟩ := e2'
        simp at e0 e1 e2
        subst e0 e1 e2
        simp only [Nat.add_zero] at q0
        clear hs6
        go_wp2_with fail
        go_quiet (fail)
        go_wp2
        go_ret
        exact ⟨rfl, gr_drewN Hg6.out _⟩

set_option maxRecDepth 100000 in
theorem lifted (os : Os) (started : os.Started) (H : Type) (enc : TypeId × Value → H) :
    ReturnsInHanded {} Try.checked os 7 .any (Rows.fnWeightsOfEqualSpec.pre6 enc Try.prog Try.f7 Rows.fnWeightsOfEqualRow.domain false) (Rows.fnWeightsOfEqualSpec.post enc Try.prog Try.f7 false true false false) := by
  refine returnsInHanded_of_change (C := Try.checked) Try.own started (by kernel_rfl) Try.func7
    (ChangeSpec.witness6 (enc := enc) (C := Try.checked) false ⟨#[], #[.slice none 0 0], []⟩ 8 (by kernel_rfl) (by kernel_rfl) (by kernel_rfl) (by kernel_rfl)) ?_
  intro W base args ds gs before hval0 hW _ _
  have hval : ∀ (j : Nat) t v, Try.f7.params[j]? = some t → args[j]? = some v → Value.okWide Try.prog W .any base t v := hval0
  have hW' := hW
  obtain ⟨p, q, hA0, hV, rfl, hfz, hnd⟩ := hW
  have hA : DataW.TrodAll enc Try.prog W 0 (fun _ => true) true Try.f7.params.toList args.toList ds p := hA0
  rw [Try.params7] at hA hval
  have hA2 := hA
  obtain ⟨v0, vs0, d0, ds0, p0, q0, hargs, rfl, rfl, h0, r0⟩ := trodAll_cons hA
  obtain ⟨rfl, rfl, rfl⟩ := trodAll_nil r0
  obtain rfl : args = #[v0] := by cases args; simp_all
  obtain ⟨rfl, rfl⟩ := trodVars_none hV
  have hlt : ∀ x ∈ (p0 ++ []) ++ [], x.block < W.heap.size := fun x hx => hW'.lt x hx
  obtain ⟨a0, n0, cap0, rfl⟩ := okWide_slice Try.underlying22 (hval 0 22 v0 rfl rfl)
  obtain ⟨fuel0, hf0⟩ := h0
  obtain ⟨xs0, hs0, hc0, hw0⟩ := sl_ints u8L (fun _ => rfl) rfl Try.underlying22 Try.underlying5 Try.cellsU8 hf0
  refine (walk a0 n0 cap0 xs0 W hs0 hc0 (fun z hz => u8_range (hw0 z hz))).mono fun e W' ⟨he, hg⟩ => ?_
  subst he
  have hb := below_of_gr hg
  refine ⟨_, rfl, _, _, _, [], p0 ++ [], [], hW', ?_, ?_, rfl, hb.frame _, fun h => by cases h⟩
  · exact trodAll_mk1 (shut_bool Try.underlying4 _)
  · exact args_stay hb _ _ _ _ hA2 (fun x hx => hlt x (by simpa using hx)) (by intro t ht; simp at ht; subst ht; exact ⟨by kernel_rfl, of_decide_eq_true (by kernel_rfl)⟩)

theorem holds : Rows.FnWeightsOfEqualSaid :=
  OpenClaim.holds_of_wide 7 Try.f7 rfl rfl rfl rfl rfl rfl rfl ⟨rfl, rfl, rfl, rfl, rfl⟩ rfl rfl rfl rfl rfl (by kernel_rfl) Try.func7 (by kernel_rfl)
    (of_decide_eq_true (by kernel_rfl)) (by unfold Func.isWrapper; first | (rw [if_pos (by decide +kernel)]; kernel_rfl) | (rw [if_neg (by decide +kernel)]; exact ⟨rfl, rfl⟩))
    (fun os started H enc _ => lifted os started H enc)

end FnWeightsOfEqual
end Go.Proofs.Ythehhnckfoappaa
