/- For every input, FnExactStopYield returns true: the program's StopYield returns what the reference's returns and leaves its argument alone. No condition. -/
import Derived.Test.YtecboohippbliaaRows
import Derived.Test.YtecboohippbliaaStop
import Derived.Test.YtecboohippbliaaRowBid
import Derived.Test.YtecboohippbliaaFrame
import Derived.ProofKit
namespace Go.Proofs.Ytecboohippbliaa
open Go.ChangeShapes Go.WideShapes Go.ChangeAt Go.RowKit
namespace FnExactStopYield

set_option maxRecDepth 100000 in
set_option maxHeartbeats 1000000 in
theorem walk (a : Option Addr) (n cap : Nat) (xs : List Bid) (m : Int) (w : World) (hs : Sl bidL w a n xs) (_hcap : n ≤ cap) (_hx : ∀ x ∈ xs, (Lit.int .i64 x.yield).wf = true ∧ (Lit.int .i64 x.many).wf = true) (_hm : -9223372036854775808 ≤ m ∧ m ≤ 9223372036854775807) :
    Calls Try.prog 14 #[.slice a n cap, .int .i64 m] w fun e w' => e = .returned (.bool true) ∧ w.grownBy w' none := by
  have hbig := hs.big
  have Hs := hid hs; clear hs
  by_cases hn : (1048576 : Int) < n
  · go_enter Try.func14, Try.ntmps14
    go_wp2_with fail
    refine (szBidS_any a n cap _ w hbig (by decide) (by decide)).mono ?_
    rintro e w1 ⟨rfl, rfl⟩
    rw [if_pos hn]
    go_wp2
    go_ret
    exact ⟨rfl, gr_refl _ _⟩
  · have hn2 : n ≤ 1048576 := by omega
    have hdx : decide (xs = xs) = true := by simp
    have Heq := hid (stopYield_eq xs m)
    go_enter Try.func14, Try.ntmps14
    go_wp2_with fail
    refine (szBidS_any a n cap _ w hbig (by decide) (by decide)).mono ?_
    rintro e w1 ⟨rfl, rfl⟩
    rw [if_neg (by omega)]
    go_wp2_with fail
    refine (toBidS_any a n cap xs w Hs.out hn2).mono ?_
    rintro e w1 ⟨a1, rfl, ho1, hg1⟩
    have Ho1 := hid ho1; clear ho1
    have Hg1 := hid hg1; clear hg1
    go_wp2_with fail
    refine (SpecStopYield_any a1 n n xs m w1 Ho1.out.sl).mono ?_
    rintro e w2 ⟨rfl, rfl⟩
    rw [← Heq.out]
    go_wp2_with fail
    refine (toBidS_any a n cap xs w1 (Hs.out.keep0 Hg1.out) hn2).mono ?_
    rintro e w3 ⟨ax, rfl, hox, hg3⟩
    have Hox := hid hox; clear hox
    have Hg3 := hid (gr_trans0 Hg1.out hg3); clear hg3
    go_wp2_with fail
    refine (StopYield_any ax n n xs m w3 Hox.out.sl).mono ?_
    rintro e w4 ⟨rfl, hg4⟩
    generalize stopYieldF xs m = v at *
    have hvb : (v != v) = false := by simp
    have Hx4 := hid (Hox.out.keep0 hg4)
    have Hg4 := hid (gr_trans0 Hg3.out hg4); clear hg4
    go_wp2_with fail
    refine (toBidS_any a n cap xs w4 (Hs.out.keep0 Hg4.out) hn2).mono ?_
    rintro e w6 ⟨a6, rfl, ho6, hg6⟩
    have Ho6 := hid ho6; clear ho6
    have Hx6 := hid (Hx4.out.keep0 hg6)
    have Hg6 := hid (gr_trans0 Hg4.out hg6); clear hg6
    go_wp2_with fail
    refine (eqBidS_any ax a6 n n n n xs xs w6 Hx6.out.sl Ho6.out.sl).mono ?_
    rintro e w7 ⟨rfl, hg7⟩
    have Hg7 := hid (gr_trans0 Hg6.out hg7); clear hg7
    go_wp2_with fail
    go_ret
    exact ⟨rfl, Hg7.out⟩

set_option maxRecDepth 100000 in
theorem lifted (os : Os) (started : os.Started) (H : Type) (enc : TypeId × Value → H) :
    ReturnsInHanded {} Try.checked os 14 .any (Rows.fnExactStopYieldSpec.pre6 enc Try.prog Try.f14 Rows.fnExactStopYieldRow.domain false) (Rows.fnExactStopYieldSpec.post enc Try.prog Try.f14 false true false false) := by
  refine returnsInHanded_of_change (C := Try.checked) Try.own started (by kernel_rfl) Try.func14
    (ChangeSpec.witness6 (enc := enc) (C := Try.checked) false ⟨#[], #[.slice none 0 0, .int .i64 0], []⟩ 8 (by kernel_rfl) (by kernel_rfl) (by kernel_rfl) (by kernel_rfl)) ?_
  intro W base args ds gs before hval0 hW _ _
  have hval : ∀ (j : Nat) t v, Try.f14.params[j]? = some t → args[j]? = some v → Value.okWide Try.prog W .any base t v := hval0
  have hW' := hW
  obtain ⟨p, q, hA0, hV, rfl, hfz, hnd⟩ := hW
  have hA : DataW.TrodAll enc Try.prog W 0 (fun _ => true) true Try.f14.params.toList args.toList ds p := hA0
  rw [Try.params14] at hA hval
  have hA2 := hA
  obtain ⟨v0, vs0, d0, ds0, p0, q0, hargs, rfl, rfl, h0, r0⟩ := trodAll_cons hA
  obtain ⟨v1, vs1, d1, ds1, p1, q1, rfl, rfl, rfl, h1, r1⟩ := trodAll_cons r0
  obtain ⟨rfl, rfl, rfl⟩ := trodAll_nil r1
  obtain rfl : args = #[v0, v1] := by cases args; simp_all
  obtain ⟨rfl, rfl⟩ := trodVars_none hV
  have hlt : ∀ x ∈ (p0 ++ (p1 ++ [])) ++ [], x.block < W.heap.size := fun x hx => hW'.lt x hx
  obtain ⟨a0, n0, cap0, rfl⟩ := okWide_slice Try.underlying43 (hval 0 43 v0 rfl rfl)
  obtain ⟨fuel0, hf0⟩ := h0
  obtain ⟨xs0, hs0, hc0, hw0⟩ := sl_rows bidL _ (by decide) Try.underlying43 cells_lawsBid (fun f cs y h => row_lawsBid f cs y h) hf0
  obtain ⟨x1, rfl, rfl, rfl, w1⟩ := open_int Try.underlying3 (hval 1 3 v1 rfl rfl) h1
  refine (walk a0 n0 cap0 xs0 x1 W hs0 hc0 hw0 (i64_range w1)).mono fun e W' ⟨he, hg⟩ => ?_
  subst he
  have hb := below_of_gr hg
  refine ⟨_, rfl, _, _, _, [], p0 ++ ([] ++ []), [], hW', ?_, ?_, rfl, hb.frame _, fun h => by cases h⟩
  · exact trodAll_mk1 (shut_bool Try.underlying4 _)
  · exact args_stay hb _ _ _ _ hA2 (fun x hx => hlt x (by simpa using hx)) (by intro t ht; simp at ht; rcases ht with rfl | rfl <;> exact ⟨by kernel_rfl, of_decide_eq_true (by kernel_rfl)⟩)

set_option maxRecDepth 100000 in
theorem closed : joinedFacts Try.pinned.checked.prog 14 Try.f14 Rows.fnExactStopYieldSpec Rows.fnExactStopYieldRow = true := by
  rw [joinedFacts, show Try.pinned.checked.prog.mayEnter = true from Try.enters, show Try.pinned.checked.prog.liftsFinal = false from Try.lifts, show Try.pinned.checked.prog.make = some .cut from Try.cut]
  kernel_rfl

theorem holds : Rows.FnExactStopYieldSaid :=
  OpenClaim.holds_of_wide 14 Try.f14 rfl rfl rfl rfl rfl rfl rfl ⟨rfl, rfl, rfl, rfl, rfl⟩ rfl rfl rfl rfl rfl (by kernel_rfl) Try.func14 closed
    (of_decide_eq_true (by kernel_rfl)) (by unfold Func.isWrapper; first | (rw [if_pos (by decide +kernel)]; kernel_rfl) | (rw [if_neg (by decide +kernel)]; exact ⟨rfl, rfl⟩))
    (fun os started H enc _ => lifted os started H enc)

end FnExactStopYield
end Go.Proofs.Ytecboohippbliaa
