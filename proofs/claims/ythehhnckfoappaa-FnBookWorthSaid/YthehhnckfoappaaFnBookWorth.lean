/- For every input, FnBookWorth returns true: the program's BookWorth agrees with the reference's, and it is that of the first positions plus that of the others. No condition. -/
import Derived.Test.YthehhnckfoappaaRows
import Derived.Test.YthehhnckfoappaaBooks
import Derived.Test.YthehhnckfoappaaDrawBooks
import Derived.Test.YthehhnckfoappaaFrame
import Derived.ProofKit
namespace Go.Proofs.Ythehhnckfoappaa
open Go.ChangeShapes Go.WideShapes Go.ChangeAt Go.RowKit
namespace FnBookWorth

theorem parts (xs : List Mark) (k : Nat) (h : bookOk xs = true) : bookOk (xs.take k) = true ∧ bookOk (xs.drop k) = true ∧ bookWorth (xs.take k) + bookWorth (xs.drop k) = bookWorth xs := by
  unfold bookOk at *
  simp only [Bool.and_eq_true, decide_eq_true_eq, List.all_eq_true] at *
  refine ⟨⟨by rw [List.length_take]; omega, fun x hx => h.2 x (List.mem_of_mem_take hx)⟩, ⟨by rw [List.length_drop]; omega, fun x hx => h.2 x (List.mem_of_mem_drop hx)⟩, ?_⟩
  unfold bookWorth
  rw [← sumI_append, ← List.map_append, List.take_append_drop]

set_option maxHeartbeats 1000000 in
theorem walk (a : Option Addr) (n cap : Nat) (xs : List Int) (w : World) (hs : Sl u8L w a n xs) (hcap : n ≤ cap) (hx : ∀ x ∈ xs, 0 ≤ x ∧ x ≤ 255) :
    Calls Try.prog 6 #[.slice a n cap] w fun e w' => e = .returned (.bool true) ∧ w.grownBy w' none := by
  have Hx := hid hx; clear hx
  have Hs := hid hs; clear hs
  by_cases hn : 1048576 < n
  · go_enter Try.func6, Try.ntmps6
    go_wp2_with fail
    go_ret
    exact ⟨rfl, gr_refl _ _⟩
  · go_enter Try.func6, Try.ntmps6
    go_wp2_with fail
    refine (DrawBookWorth_any a n cap xs w Hs.out hcap Hx.out).mono ?_
    rintro e w1 ⟨b, l, c, ys, rfl, hy, hc, hl, hg⟩
    have Hy := hid hy; clear hy
    have Hg := hid hg; clear hg
    go_wp2_with fail
    refine (BookWorth_any b l c ys w1 Hy.out).mono ?_
    rintro e w2 ⟨rfl, hg2⟩
    have Hy2 := hid (Hy.out.keep0 hg2)
    have Hg2 := hid (gr_trans0 Hg.out hg2); clear hg2
    go_wp2_with fail
    refine (SpecBookWorth_any b l c ys w2 Hy2.out).mono ?_
    rintro e w3 ⟨rfl, hg3⟩
    have Hy3 := hid (Hy2.out.keep0 hg3)
    have Hg3 := hid (gr_trans0 Hg2.out hg3); clear hg3
    by_cases hok : bookOk ys = true
    · obtain ⟨h1, h2, h3⟩ := parts ys (l / 2) hok
      have e0 := bookVal_ok hok
      have e1 := bookVal_ok h1
      have e2 := bookVal_ok h2
      have hbd := bookWorth_bound ys hok l
      have hb1 := bookWorth_bound (ys.take (l / 2)) h1 l
      have hb2 := bookWorth_bound (ys.drop (l / 2)) h2 l
      rw [take_len _ _ Hy3.out.len] at hbd
      rw [List.take_of_length_le (by rw [List.length_take, Hy3.out.len]; omega)] at hb1
      rw [List.take_of_length_le (by rw [List.length_drop, Hy3.out.len]; omega)] at hb2
      rw [← e0] at h3 hbd
      rw [← e1] at h3 hb1
      rw [← e2] at h3 hb2
      have H3 := hid h3
      have Hsum := hid (show (bookVal (ys.take (l / 2)) + bookVal (ys.drop (l / 2)) == bookVal ys) = true by simpa using h3)
      clear h3 e0 e1 e2
      by_cases hl0 : l = 0
      · subst hl0
        obtain rfl : ys = [] := List.eq_nil_of_length_eq_zero Hy3.out.len
        have b0 : bookVal [] = 0 := rfl
        have b1 : bookOk [] = true := rfl
        go_wp2_with fail
        refine (BookWorth_any b 0 c [] w3 Hy3.out).mono ?_
        rintro e w4 ⟨rfl, hg4⟩
        have Hy4 := hid (Hy3.out.keep0 hg4)
        have Hg4 := hid (gr_trans0 Hg3.out hg4); clear hg4
        go_wp2_with fail
        refine (BookWorth_any b 0 c [] w4 Hy4.out).mono ?_
        rintro e w5 ⟨rfl, hg5⟩
        have Hg5 := hid (gr_trans0 Hg4.out hg5); clear hg5
        go_wp2_with fail
        go_ret
        exact ⟨rfl, Hg5.out⟩
      · obtain ⟨g, o, x0, rfl, _⟩ := mark_at Hy3.out 0 (by omega)
        go_wp2_with fail
        refine (BookWorth_any _ (l / 2) c (ys.take (l / 2)) w3 (Hy3.out.take _ (by omega))).mono ?_
        rintro e w4 ⟨rfl, hg4⟩
        have Hy4 := hid (Hy3.out.keep0 hg4)
        have Hg4 := hid (gr_trans0 Hg3.out hg4); clear hg4
        have hlc : ¬ c = l / 2 := by omega
        go_wp2_with fail
        refine (BookWorth_any _ (l - l / 2) (c - l / 2) (ys.drop (l / 2)) w4 (Hy4.out.drop (l / 2) _ rfl)).mono ?_
        rintro e w5 ⟨rfl, hg5⟩
        have Hg5 := hid (gr_trans0 Hg4.out hg5); clear hg5
        have hs' := Hsum.out
        have Hs2 := hid hs'
        go_wp2_with fail
        go_ret
        exact ⟨rfl, Hg5.out⟩
    · have hok' : bookOk ys = false := by simpa using hok
      clear hok
      go_wp2_with fail
      go_ret
      exact ⟨rfl, Hg3.out⟩

set_option maxRecDepth 100000 in
theorem lifted (os : Os) (started : os.Started) (H : Type) (enc : TypeId × Value → H) :
    ReturnsInHanded {} Try.checked os 6 .any (Rows.fnBookWorthSpec.pre6 enc Try.prog Try.f6 Rows.fnBookWorthRow.domain false) (Rows.fnBookWorthSpec.post enc Try.prog Try.f6 false true false false) := by
  refine returnsInHanded_of_change (C := Try.checked) Try.own started (by kernel_rfl) Try.func6
    (ChangeSpec.witness6 (enc := enc) (C := Try.checked) false ⟨#[], #[.slice none 0 0], []⟩ 8 (by kernel_rfl) (by kernel_rfl) (by kernel_rfl) (by kernel_rfl)) ?_
  intro W base args ds gs before hval0 hW _ _
  have hval : ∀ (j : Nat) t v, Try.f6.params[j]? = some t → args[j]? = some v → Value.okWide Try.prog W .any base t v := hval0
  have hW' := hW
  obtain ⟨p, q, hA0, hV, rfl, hfz, hnd⟩ := hW
  have hA : DataW.TrodAll enc Try.prog W 0 (fun _ => true) true Try.f6.params.toList args.toList ds p := hA0
  rw [Try.params6] at hA hval
  have hA2 := hA
  obtain ⟨v0, vs0, d0, ds0, p0, q0, hargs, rfl, rfl, h0, r0⟩ := trodAll_cons hA
  obtain ⟨rfl, rfl, rfl⟩ := trodAll_nil r0
  obtain rfl : args = #[v0] := by cases args; simp_all
  obtain ⟨rfl, rfl⟩ := trodVars_none hV
  have hlt : ∀ x ∈ (p0 ++ []) ++ [], x.block < W.heap.size := fun x hx => hW'.lt x hx
  obtain ⟨a0, n0, cap0, rfl⟩ := okWide_slice Try.underlying22 (hval 0 22 v0 rfl rfl)
  obtain ⟨fuel0, hf0⟩ := h0
  obtain ⟨xs0, hs0, hc0, hw0⟩ := sl_ints u8L (fun _ => rfl) rfl Try.underlying22 Try.underlying5 Try.cellsU8 hf0
  refine (walk a0 n0 cap0 xs0 W hs0 hc0 (fun z hz => u8_range (hw0 z hz))).mono fun e W' ⟨he, hg⟩ => ?_
  subst he
  have hb := below_of_gr hg
  refine ⟨_, rfl, _, _, _, [], p0 ++ [], [], hW', ?_, ?_, rfl, hb.frame _, fun h => by cases h⟩
  · exact trodAll_mk1 (shut_bool Try.underlying4 _)
  · exact args_stay hb _ _ _ _ hA2 (fun x hx => hlt x (by simpa using hx)) (by intro t ht; simp at ht; subst ht; exact ⟨by kernel_rfl, of_decide_eq_true (by kernel_rfl)⟩)

theorem holds : Rows.FnBookWorthSaid :=
  OpenClaim.holds_of_wide 6 Try.f6 rfl rfl rfl rfl rfl rfl rfl ⟨rfl, rfl, rfl, rfl, rfl⟩ rfl rfl rfl rfl rfl (by kernel_rfl) Try.func6 (by kernel_rfl)
    (of_decide_eq_true (by kernel_rfl)) (by unfold Func.isWrapper; first | (rw [if_pos (by decide +kernel)]; kernel_rfl) | (rw [if_neg (by decide +kernel)]; exact ⟨rfl, rfl⟩))
    (fun os started H enc _ => lifted os started H enc)

end FnBookWorth
end Go.Proofs.Ythehhnckfoappaa
