/- For every input, FnExactBookWorth returns true: the program's BookWorth returns what the reference's returns and leaves its argument alone. No condition. -/
import Derived.Test.YthehhnckfoappaaRows
import Derived.Test.YthehhnckfoappaaBooks
import Derived.Test.YthehhnckfoappaaRowMark
import Derived.Test.YthehhnckfoappaaFrame
import Derived.ProofKit
namespace Go.Proofs.Ythehhnckfoappaa
open Go.ChangeShapes Go.WideShapes Go.ChangeAt Go.RowKit
namespace FnExactBookWorth

theorem walk (a : Option Addr) (n cap : Nat) (xs : List Mark) (w : World) (hs : Sl markL w a n xs) (_hcap : n ≤ cap) (_hx : ∀ x ∈ xs, (Lit.int .i64 x.many).wf = true ∧ (Lit.int .i64 x.clean).wf = true ∧ (Lit.int .i64 x.accrued).wf = true) :
    Calls Try.prog 5 #[.slice a n cap] w fun e w' => e = .returned (.bool true) ∧ w.grownBy w' none := by
  have hbig := hs.big
  have Hs := hid hs; clear hs
  by_cases hn : (1048576 : Int) < n
  · go_enter Try.func5, Try.ntmps5
    go_wp2_with fail
    refine (szMarkS_any a n cap _ w hbig (by decide) (by decide)).mono ?_
    rintro e w1 ⟨rfl, rfl⟩
    rw [if_pos hn]
    go_wp2
    go_ret
    exact ⟨rfl, gr_refl _ _⟩
  · have hn2 : n ≤ 1048576 := by omega
    go_enter Try.func5, Try.ntmps5
    go_wp2_with fail
    refine (szMarkS_any a n cap _ w hbig (by decide) (by decide)).mono ?_
    rintro e w1 ⟨rfl, rfl⟩
    rw [if_neg (by omega)]
    go_wp2_with fail
    refine (toMarkS_any a n cap xs w Hs.out hn2).mono ?_
    rintro e w1 ⟨a1, rfl, ho1, hg1⟩
    have Ho1 := hid ho1; clear ho1
    have Hg1 := hid hg1; clear hg1
    go_wp2_with fail
    refine (SpecBookWorth_any a1 n n xs w1 Ho1.out.sl).mono ?_
    rintro e w2 ⟨rfl, hg2⟩
    have Hg2 := hid (gr_trans0 Hg1.out hg2); clear hg2
    go_wp2_with fail
    refine (toMarkS_any a n cap xs w2 (Hs.out.keep0 Hg2.out) hn2).mono ?_
    rintro e w3 ⟨a2, rfl, ho2, hg3⟩
    have Ho2 := hid ho2; clear ho2
    have Hg3 := hid (gr_trans0 Hg2.out hg3); clear hg3
    go_wp2_with fail
    refine (BookWorth_any a2 n n xs w3 Ho2.out.sl).mono ?_
    rintro e w4 ⟨rfl, hg4⟩
    have Hs4 := hid (Ho2.out.sl.keep0 hg4)
    have Hg4 := hid (gr_trans0 Hg3.out hg4); clear hg4
    go_wp2_with fail
    refine (toMarkS_any a n cap xs w4 (Hs.out.keep0 Hg4.out) hn2).mono ?_
    rintro e w5 ⟨a4, rfl, ho4, hg5⟩
    have Ho4 := hid ho4; clear ho4
    have Hs5 := hid (Hs4.out.keep0 hg5)
    have Hg5 := hid (gr_trans0 Hg4.out hg5); clear hg5
    go_wp2_with fail
    refine (eqMarkS_any a2 a4 n n n n xs xs w5 Hs5.out Ho4.out.sl).mono ?_
    rintro e w6 ⟨rfl, hg6⟩
    have Hg6 := hid (gr_trans0 Hg5.out hg6); clear hg6
    have hd : decide (xs = xs) = true := by simp
    go_wp2
    go_ret
    exact ⟨rfl, Hg6.out⟩

set_option maxRecDepth 100000 in
theorem lifted (os : Os) (started : os.Started) (H : Type) (enc : TypeId × Value → H) :
    ReturnsInHanded {} Try.checked os 5 .any (Rows.fnExactBookWorthSpec.pre6 enc Try.prog Try.f5 Rows.fnExactBookWorthRow.domain false) (Rows.fnExactBookWorthSpec.post enc Try.prog Try.f5 false true false false) := by
  refine returnsInHanded_of_change (C := Try.checked) Try.own started (by kernel_rfl) Try.func5
    (ChangeSpec.witness6 (enc := enc) (C := Try.checked) false ⟨#[], #[.slice none 0 0], []⟩ 8 (by kernel_rfl) (by kernel_rfl) (by kernel_rfl) (by kernel_rfl)) ?_
  intro W base args ds gs before hval0 hW _ _
  have hval : ∀ (j : Nat) t v, Try.f5.params[j]? = some t → args[j]? = some v → Value.okWide Try.prog W .any base t v := hval0
  have hW' := hW
  obtain ⟨p, q, hA0, hV, rfl, hfz, hnd⟩ := hW
  have hA : DataW.TrodAll enc Try.prog W 0 (fun _ => true) true Try.f5.params.toList args.toList ds p := hA0
  rw [Try.params5] at hA hval
  have hA2 := hA
  obtain ⟨v0, vs0, d0, ds0, p0, q0, hargs, rfl, rfl, h0, r0⟩ := trodAll_cons hA
  obtain ⟨rfl, rfl, rfl⟩ := trodAll_nil r0
  obtain rfl : args = #[v0] := by cases args; simp_all
  obtain ⟨rfl, rfl⟩ := trodVars_none hV
  have hlt : ∀ x ∈ (p0 ++ []) ++ [], x.block < W.heap.size := fun x hx => hW'.lt x hx
  obtain ⟨a0, n0, cap0, rfl⟩ := okWide_slice Try.underlying32 (hval 0 32 v0 rfl rfl)
  obtain ⟨fuel0, hf0⟩ := h0
  obtain ⟨xs0, hs0, hc0, hw0⟩ := sl_rows markL _ (by decide) Try.underlying32 cells_lawsMark (fun f cs y h => row_lawsMark f cs y h) hf0
  refine (walk a0 n0 cap0 xs0 W hs0 hc0 hw0).mono fun e W' ⟨he, hg⟩ => ?_
  subst he
  have hb := below_of_gr hg
  refine ⟨_, rfl, _, _, _, [], p0 ++ [], [], hW', ?_, ?_, rfl, hb.frame _, fun h => by cases h⟩
  · exact trodAll_mk1 (shut_bool Try.underlying4 _)
  · exact args_stay hb _ _ _ _ hA2 (fun x hx => hlt x (by simpa using hx)) (by intro t ht; simp at ht; subst ht; exact ⟨by kernel_rfl, of_decide_eq_true (by kernel_rfl)⟩)

theorem holds : Rows.FnExactBookWorthSaid :=
  OpenClaim.holds_of_wide 5 Try.f5 rfl rfl rfl rfl rfl rfl rfl ⟨rfl, rfl, rfl, rfl, rfl⟩ rfl rfl rfl rfl rfl (by kernel_rfl) Try.func5 (by kernel_rfl)
    (of_decide_eq_true (by kernel_rfl)) (by unfold Func.isWrapper; first | (rw [if_pos (by decide +kernel)]; kernel_rfl) | (rw [if_neg (by decide +kernel)]; exact ⟨rfl, rfl⟩))
    (fun os started H enc _ => lifted os started H enc)

end FnExactBookWorth
end Go.Proofs.Ythehhnckfoappaa
