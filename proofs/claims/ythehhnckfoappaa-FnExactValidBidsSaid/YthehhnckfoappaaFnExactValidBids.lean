/- For every input, FnExactValidBids returns true: the program's ValidBids returns what the reference's returns and leaves its argument alone. No condition. -/
import Derived.Test.YthehhnckfoappaaRows
import Derived.Test.YthehhnckfoappaaBids
import Derived.Test.YthehhnckfoappaaFamBid
import Derived.Test.YthehhnckfoappaaRowBid
import Derived.Test.YthehhnckfoappaaFrame
import Derived.ProofKit
namespace Go.Proofs.Ythehhnckfoappaa
open Go.ChangeShapes Go.WideShapes Go.ChangeAt Go.RowKit
namespace FnExactValidBids

theorem walk (a : Option Addr) (n cap : Nat) (xs : List Bid) (w : World) (hs : Sl bidL w a n xs) (_hcap : n ≤ cap) (_hx : ∀ x ∈ xs, (Lit.int .i64 x.yield).wf = true ∧ (Lit.int .i64 x.many).wf = true) :
    Calls Try.prog 4 #[.slice a n cap] w fun e w' => e = .returned (.bool true) ∧ w.grownBy w' none := by
  have hbig := hs.big
  have Hs := hid hs; clear hs
  by_cases hn : (1048576 : Int) < n
  · go_enter Try.func4, Try.ntmps4
    go_wp2_with fail
    refine (szBidS_any a n cap _ w hbig (by decide) (by decide)).mono ?_
    rintro e w1 ⟨rfl, rfl⟩
    rw [if_pos hn]
    go_wp2
    go_ret
    exact ⟨rfl, gr_refl _ _⟩
  · have hn2 : n ≤ 1048576 := by omega
    go_enter Try.func4, Try.ntmps4
    go_wp2_with fail
    refine (szBidS_any a n cap _ w hbig (by decide) (by decide)).mono ?_
    rintro e w1 ⟨rfl, rfl⟩
    rw [if_neg (by omega)]
    go_wp2_with fail
    refine (toBidS_any a n cap xs w Hs.out hn2).mono ?_
    rintro e w1 ⟨a1, rfl, ho1, hg1⟩
    have Ho1 := hid ho1; clear ho1
    have Hg1 := hid hg1; clear hg1
    go_wp2_with fail
    refine (SpecValidBids_any a1 n n xs w1 Ho1.out.sl).mono ?_
    rintro e w2 ⟨rfl, rfl⟩
    go_wp2_with fail
    refine (toBidS_any a n cap xs w1 (Hs.out.keep0 Hg1.out) hn2).mono ?_
    rintro e w2 ⟨a2, rfl, ho2, hg2⟩
    have Ho2 := hid ho2; clear ho2
    have Hg2 := hid (gr_trans0 Hg1.out hg2); clear hg2
    go_wp2_with fail
    refine (ValidBids_any a2 n n xs w2 Ho2.out.sl).mono ?_
    rintro e w3 ⟨rfl, hg3⟩
    have Hs3 := hid (Ho2.out.sl.keep0 hg3)
    have Hg3 := hid (gr_trans0 Hg2.out hg3); clear hg3
    generalize bidsOk xs = ok at *
    go_wp2_with fail
    refine (toBidS_any a n cap xs w3 (Hs.out.keep0 Hg3.out) hn2).mono ?_
    rintro e w4 ⟨a4, rfl, ho4, hg4⟩
    have Ho4 := hid ho4; clear ho4
    have Hs4 := hid (Hs3.out.keep0 hg4)
    have Hg4 := hid (gr_trans0 Hg3.out hg4); clear hg4
    go_wp2_with fail
    refine (eqBidS_any a2 a4 n n n n xs xs w4 Hs4.out Ho4.out.sl).mono ?_
    rintro e w5 ⟨rfl, hg5⟩
    have Hg5 := hid (gr_trans0 Hg4.out hg5); clear hg5
    have hd : decide (xs = xs) = true := by simp
    go_wp2
    go_ret
    exact ⟨rfl, Hg5.out⟩

set_option maxRecDepth 100000 in
theorem lifted (os : Os) (started : os.Started) (H : Type) (enc : TypeId × Value → H) :
    ReturnsInHanded {} Try.checked os 4 .any (Rows.fnExactValidBidsSpec.pre6 enc Try.prog Try.f4 Rows.fnExactValidBidsRow.domain false) (Rows.fnExactValidBidsSpec.post enc Try.prog Try.f4 false true false false) := by
  refine returnsInHanded_of_change (C := Try.checked) Try.own started (by kernel_rfl) Try.func4
    (ChangeSpec.witness6 (enc := enc) (C := Try.checked) false ⟨#[], #[.slice none 0 0], []⟩ 8 (by kernel_rfl) (by kernel_rfl) (by kernel_rfl) (by kernel_rfl)) ?_
  intro W base args ds gs before hval0 hW _ _
  have hval : ∀ (j : Nat) t v, Try.f4.params[j]? = some t → args[j]? = some v → Value.okWide Try.prog W .any base t v := hval0
  have hW' := hW
  obtain ⟨p, q, hA0, hV, rfl, hfz, hnd⟩ := hW
  have hA : DataW.TrodAll enc Try.prog W 0 (fun _ => true) true Try.f4.params.toList args.toList ds p := hA0
  rw [Try.params4] at hA hval
  have hA2 := hA
  obtain ⟨v0, vs0, d0, ds0, p0, q0, hargs, rfl, rfl, h0, r0⟩ := trodAll_cons hA
  obtain ⟨rfl, rfl, rfl⟩ := trodAll_nil r0
  obtain rfl : args = #[v0] := by cases args; simp_all
  obtain ⟨rfl, rfl⟩ := trodVars_none hV
  have hlt : ∀ x ∈ (p0 ++ []) ++ [], x.block < W.heap.size := fun x hx => hW'.lt x hx
  obtain ⟨a0, n0, cap0, rfl⟩ := okWide_slice Try.underlying27 (hval 0 27 v0 rfl rfl)
  obtain ⟨fuel0, hf0⟩ := h0
  obtain ⟨xs0, hs0, hc0, hw0⟩ := sl_rows bidL _ (by decide) Try.underlying27 cells_lawsBid (fun f cs y h => row_lawsBid f cs y h) hf0
  refine (walk a0 n0 cap0 xs0 W hs0 hc0 hw0).mono fun e W' ⟨he, hg⟩ => ?_
  subst he
  have hb := below_of_gr hg
  refine ⟨_, rfl, _, _, _, [], p0 ++ [], [], hW', ?_, ?_, rfl, hb.frame _, fun h => by cases h⟩
  · exact trodAll_mk1 (shut_bool Try.underlying4 _)
  · exact args_stay hb _ _ _ _ hA2 (fun x hx => hlt x (by simpa using hx)) (by intro t ht; simp at ht; subst ht; exact ⟨by kernel_rfl, of_decide_eq_true (by kernel_rfl)⟩)

theorem holds : Rows.FnExactValidBidsSaid :=
  OpenClaim.holds_of_wide 4 Try.f4 rfl rfl rfl rfl rfl rfl rfl ⟨rfl, rfl, rfl, rfl, rfl⟩ rfl rfl rfl rfl rfl (by kernel_rfl) Try.func4 (by kernel_rfl)
    (of_decide_eq_true (by kernel_rfl)) (by unfold Func.isWrapper; first | (rw [if_pos (by decide +kernel)]; kernel_rfl) | (rw [if_neg (by decide +kernel)]; exact ⟨rfl, rfl⟩))
    (fun os started H enc _ => lifted os started H enc)

end FnExactValidBids
end Go.Proofs.Ythehhnckfoappaa
