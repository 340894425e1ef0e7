/- For every input, FnValidBids returns true: the program's ValidBids agrees with the reference's, and valid bids without the last one are valid. No condition. -/
import Derived.Test.YthehhnckfoappaaRows
import Derived.Test.YthehhnckfoappaaDrawBids
import Derived.Test.YthehhnckfoappaaFrame
import Derived.ProofKit
namespace Go.Proofs.Ythehhnckfoappaa
open Go.ChangeShapes Go.WideShapes Go.ChangeAt Go.RowKit
namespace FnValidBids

theorem take_ok (xs : List Bid) (k : Nat) (h : bidsOk xs = true) : bidsOk (xs.take k) = true := by
  unfold bidsOk at *
  simp only [Bool.and_eq_true, decide_eq_true_eq, List.all_eq_true] at *
  exact ⟨by rw [List.length_take]; omega, fun x hx => h.2 x (List.mem_of_mem_take hx)⟩

theorem walk (a : Option Addr) (n cap : Nat) (xs : List Int) (w : World) (hs : Sl u8L w a n xs) (hcap : n ≤ cap) (hx : ∀ x ∈ xs, 0 ≤ x ∧ x ≤ 255) :
    Calls Try.prog 3 #[.slice a n cap] w fun e w' => e = .returned (.bool true) ∧ w.grownBy w' none := by
  have Hx := hid hx; clear hx
  have Hs := hid hs; clear hs
  by_cases hn : 1048576 < n
  · go_enter Try.func3, Try.ntmps3
    go_wp2_with fail
    go_ret
    exact ⟨rfl, gr_refl _ _⟩
  · go_enter Try.func3, Try.ntmps3
    go_wp2_with fail
    refine (DrawValidBids_any a n cap xs w Hs.out hcap Hx.out).mono ?_
    rintro e w1 ⟨b, l, c, ys, rfl, hy, hc, hl, hg⟩
    have Hy := hid hy; clear hy
    have Hg := hid hg; clear hg
    go_wp2_with fail
    refine (ValidBids_any b l c ys w1 Hy.out).mono ?_
    rintro e w2 ⟨rfl, hg2⟩
    have Hy2 := hid (Hy.out.keep0 hg2)
    have Hg2 := hid hg2; clear hg2
    by_cases hok : bidsOk ys = true
    · have Htake := hid (take_ok ys (l - 1) hok)
      by_cases h0 : l = 0
      · subst h0
        go_wp2_with (go_at_call 12; refine (SpecValidBids_any b 0 c ys _ Hy2.out).mono ?_; rintro e w3 ⟨rfl, rfl⟩)
        all_goals (go_ret; exact ⟨ret_bool (by simp [*]), gr_trans0 Hg.out Hg2.out⟩)
      · have h0b : ((l : Int) == 0) = false := by simp; omega
        go_wp2_with (go_at_call 12; refine (SpecValidBids_any b l c ys _ Hy2.out).mono ?_; rintro e w3 ⟨rfl, rfl⟩)
        refine (ValidBids_any b (l - 1) c _ w2 (Hy2.out.take (l - 1) (by omega))).mono ?_
        rintro e w4 ⟨rfl, hg4⟩
        have Hg4 := hid hg4; clear hg4
        go_wp2_with fail
        go_ret
        exact ⟨ret_bool Htake.out, gr_trans0 (gr_trans0 Hg.out Hg2.out) Hg4.out⟩
    · have hok' : bidsOk ys = false := by simpa using hok
      clear hok
      go_wp2_with (go_at_call 12; refine (SpecValidBids_any b l c ys _ Hy2.out).mono ?_; rintro e w3 ⟨rfl, rfl⟩)
      all_goals (go_ret; exact ⟨ret_bool (by simp [*]), gr_trans0 Hg.out Hg2.out⟩)

set_option maxRecDepth 100000 in
theorem lifted (os : Os) (started : os.Started) (H : Type) (enc : TypeId × Value → H) :
    ReturnsInHanded {} Try.checked os 3 .any (Rows.fnValidBidsSpec.pre6 enc Try.prog Try.f3 Rows.fnValidBidsRow.domain false) (Rows.fnValidBidsSpec.post enc Try.prog Try.f3 false true false false) := by
  refine returnsInHanded_of_change (C := Try.checked) Try.own started (by kernel_rfl) Try.func3
    (ChangeSpec.witness6 (enc := enc) (C := Try.checked) false ⟨#[], #[.slice none 0 0], []⟩ 8 (by kernel_rfl) (by kernel_rfl) (by kernel_rfl) (by kernel_rfl)) ?_
  intro W base args ds gs before hval0 hW _ _
  have hval : ∀ (j : Nat) t v, Try.f3.params[j]? = some t → args[j]? = some v → Value.okWide Try.prog W .any base t v := hval0
  have hW' := hW
  obtain ⟨p, q, hA0, hV, rfl, hfz, hnd⟩ := hW
  have hA : DataW.TrodAll enc Try.prog W 0 (fun _ => true) true Try.f3.params.toList args.toList ds p := hA0
  rw [Try.params3] at hA hval
  have hA2 := hA
  obtain ⟨v0, vs0, d0, ds0, p0, q0, hargs, rfl, rfl, h0, r0⟩ := trodAll_cons hA
  obtain ⟨rfl, rfl, rfl⟩ := trodAll_nil r0
  obtain rfl : args = #[v0] := by cases args; simp_all
  obtain ⟨rfl, rfl⟩ := trodVars_none hV
  have hlt : ∀ x ∈ (p0 ++ []) ++ [], x.block < W.heap.size := fun x hx => hW'.lt x hx
  obtain ⟨a0, n0, cap0, rfl⟩ := okWide_slice Try.underlying22 (hval 0 22 v0 rfl rfl)
  obtain ⟨fuel0, hf0⟩ := h0
  obtain ⟨xs0, hs0, hc0, hw0⟩ := sl_ints u8L (fun _ => rfl) rfl Try.underlying22 Try.underlying5 Try.cellsU8 hf0
  refine (walk a0 n0 cap0 xs0 W hs0 hc0 (fun z hz => u8_range (hw0 z hz))).mono fun e W' ⟨he, hg⟩ => ?_
  subst he
  have hb := below_of_gr hg
  refine ⟨_, rfl, _, _, _, [], p0 ++ [], [], hW', ?_, ?_, rfl, hb.frame _, fun h => by cases h⟩
  · exact trodAll_mk1 (shut_bool Try.underlying4 _)
  · exact args_stay hb _ _ _ _ hA2 (fun x hx => hlt x (by simpa using hx)) (by intro t ht; simp at ht; subst ht; exact ⟨by kernel_rfl, of_decide_eq_true (by kernel_rfl)⟩)

theorem holds : Rows.FnValidBidsSaid :=
  OpenClaim.holds_of_wide 3 Try.f3 rfl rfl rfl rfl rfl rfl rfl ⟨rfl, rfl, rfl, rfl, rfl⟩ rfl rfl rfl rfl rfl (by kernel_rfl) Try.func3 (by kernel_rfl)
    (of_decide_eq_true (by kernel_rfl)) (by unfold Func.isWrapper; first | (rw [if_pos (by decide +kernel)]; kernel_rfl) | (rw [if_neg (by decide +kernel)]; exact ⟨rfl, rfl⟩))
    (fun os started H enc _ => lifted os started H enc)

end FnValidBids
end Go.Proofs.Ythehhnckfoappaa
