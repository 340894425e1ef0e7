/- For every input, FnDrawLots returns true: the program's DrawLots agrees with the reference's, nobody loses more than they hold, all together are the number, and the sum of all holdings draws everything. No condition. -/
import Derived.Test.YtecboohippbliaaRows
import Derived.Test.YtecboohippbliaaDrawInts
import Derived.Test.YtecboohippbliaaSharesFacts
import Derived.Test.YtecboohippbliaaInts
import Derived.Test.YtecboohippbliaaFrame
import Derived.ProofKit
namespace Go.Proofs.Ytecboohippbliaa
open Go.ChangeShapes Go.WideShapes Go.ChangeAt Go.RowKit
namespace FnDrawLots

theorem specC (x : Int) (a : Option Addr) (n cap : Nat) (xs : List Int) (w : World) (hs : Sl intL w a n xs) :
    Calls Try.prog 25 #[.int .i64 x, .slice a n cap] w fun e w' => ∃ a' n' cap', e = .returned (.slice a' n' cap') ∧ Ow intL w' w.heap.size a' n' (drawLotsF x xs) ∧ n' ≤ cap' ∧ w.grownBy w' none := by
  rw [drawLots_eq]; exact specDrawLots_any x a n cap xs w hs

theorem facts (u : Int) (ys : List Int) (h : 0 < (drawLotsF u ys).length) : (drawLotsF u ys).length = ys.length ∧ ys.length ≤ 8 ∧ sumI (drawLotsF u ys) = u ∧ (∀ x ∈ ys, 0 ≤ x ∧ x ≤ 9999) ∧ drawLotsF (sumI ys) ys = ys
    ∧ (∀ (i : Nat) (xi zi : Int), ys[i]? = some xi → (drawLotsF u ys)[i]? = some zi → ¬ zi < 0 ∧ ¬ xi < zi) := by
  have hc : holdersOk ys = true ∧ u ≤ sumI ys := by
    unfold drawLotsF at h
    by_cases hc : holdersOk ys = true ∧ u ≤ sumI ys
    · exact hc
    · rw [if_neg hc] at h; simp at h
  have e0 : drawLotsF u ys = proRateF u ys := by unfold drawLotsF; rw [if_pos hc]
  rw [e0] at h ⊢
  obtain ⟨e, h1, h2, h3, h4, h5, h6⟩ := proRate_open u ys h
  obtain ⟨f1, f2, f3, f4, f5, f6⟩ := holders_facts ys h3
  rw [e]
  refine ⟨shares_len _ _, f2, shares_sum u ys h5 h6, f3, ?_, fun i xi zi hx hz => ?_⟩
  · unfold drawLotsF
    rw [if_pos ⟨h3, Int.le_refl _⟩]
    unfold proRateF
    rw [if_pos, shares_all ys h4]
    unfold proOk
    rw [h3, (within_iff' _ _ _).2 ⟨show 0 ≤ sumI ys by omega, show sumI ys ≤ 1000000000 by omega⟩]
    simp; omega
  · have hi := lt_of_at hx
    have g1 : ys.getD i 0 = xi := by rw [List.getD_eq_getElem?_getD, hx]; rfl
    have g3 : (sharesF u ys).getD i 0 = zi := by rw [List.getD_eq_getElem?_getD, hz]; rfl
    have := shares_le u ys h4 h1 hc.2 h5 i hi (by rw [g1]; exact (f3 xi (List.mem_of_getElem? hx)).1)
    omega

set_option maxRecDepth 100000 in
set_option maxHeartbeats 1000000 in
theorem walk (a : Option Addr) (n cap : Nat) (xs : List Int) (w : World) (hs : Sl u8L w a n xs) (hcap : n ≤ cap) (hx : ∀ x ∈ xs, 0 ≤ x ∧ x ≤ 255) :
    Calls Try.prog 8 #[.slice a n cap] w fun e w' => e = .returned (.bool true) ∧ w.grownBy w' none := by
  have Hx := hid hx; clear hx
  have Hs := hid hs; clear hs
  by_cases hn : 1048576 < n
  · go_enter Try.func8, Try.ntmps8
    go_wp2_with fail
    go_ret
    exact ⟨rfl, gr_refl _ _⟩
  · go_enter Try.func8, Try.ntmps8
    go_wp2_with fail
    refine (DrawDrawLots_any a n cap xs w Hs.out hcap Hx.out).mono ?_
    rintro e w1 ⟨u, b, l, c, ys, rfl, hu, hy, hc, hl, hyb, hg⟩
    have hd : decide (drawLotsF u ys = drawLotsF u ys) = true := by simp
    have Hyb := hid hyb; clear hyb
    have Hy := hid hy; clear hy
    have Hg := hid hg; clear hg
    go_wp2_with fail
    refine (DrawLots_any u b l c ys w1 Hy.out).mono ?_
    rintro e w2 ⟨aw, nw, cw, rfl, how, hcw, hg2⟩
    have How := hid how; clear how
    have Hy2 := hid (Hy.out.keep0 hg2)
    have Hg2 := hid (gr_trans0 Hg.out hg2); clear hg2
    go_wp2_with fail
    refine (specC u b l c ys w2 Hy2.out).mono ?_
    rintro e w3 ⟨a3, ns, cs, rfl, hos, hcs, hg3⟩
    have Hos := hid hos; clear hos
    have How3 := hid (How.out.keep0 hg3)
    have Hy3 := hid (Hy2.out.keep0 hg3)
    have Hg3 := hid (gr_trans0 Hg2.out hg3); clear hg3
    go_wp2_with fail
    refine (equalInts_any aw a3 nw ns cw cs _ _ w3 How3.out.sl Hos.out.sl).mono ?_
    rintro e w4 ⟨rfl, hg4⟩
    have How4 := hid (How3.out.keep0 hg4)
    have Hy4 := hid (Hy3.out.keep0 hg4)
    have Hg4 := hid (gr_trans0 Hg3.out hg4); clear hg4
    clear How How3 Hy Hy2 Hy3 Hg Hg2 Hg3 Hos
    by_cases h0 : nw = 0
    · subst h0
      go_wp2_with fail
      refine (specC u b l c ys w4 Hy4.out).mono ?_
      rintro e w5 ⟨a3', ns', cs', rfl, hos', hcs', hg5⟩
      have Hos5 := hid hos'; clear hos'
      have How5 := hid (How4.out.keep0 hg5)
      have Hg5 := hid (gr_trans0 Hg4.out hg5); clear hg5
      go_wp2_with fail
      refine (equalInts_any aw a3' 0 ns' cw cs' _ _ w5 How5.out.sl Hos5.out.sl).mono ?_
      rintro e w6 ⟨rfl, hg6⟩
      have Hg6 := hid (gr_trans0 Hg5.out hg6); clear hg6
      go_wp2_with fail
      go_ret
      exact ⟨rfl, Hg6.out⟩
    · have hb0 : ((nw : Int) == 0) = false := by simp; omega
      have hnl := How4.out.len
      have hyl := Hy4.out.len
      obtain ⟨f1, f2, f7, f8, f9, f10⟩ := facts u ys (by omega)
      obtain rfl : nw = l := by omega
      have Hsb1 : Hid (∀ k, -9223372036854775808 ≤ sumI (ys.take k) ∧ sumI (ys.take k) ≤ 9223372036854775807) := hid (fun k => by
        have h := sumI_bound (ys.take k) 0 9999 (fun x hx => f8 x (List.mem_of_mem_take hx))
        have h2 : (ys.take k).length ≤ ys.length := by rw [List.length_take]; omega
        omega)
      have Hsb2 : Hid (∀ k, -9223372036854775808 ≤ sumI ((drawLotsF u ys).take k) ∧ sumI ((drawLotsF u ys).take k) ≤ 9223372036854775807) := hid (fun k => by
        have h := sumI_bound ((drawLotsF u ys).take k) 0 9999 (fun z hz => by
          obtain ⟨i, hi⟩ := List.getElem?_of_mem (List.mem_of_mem_take hz)
          have hil := lt_of_at hi
          have hx : ys[i]? = some (ys[i]'(by omega)) := by simp
          have h1 := f10 i _ z hx hi
          have h2 := f8 _ (List.mem_of_getElem? hx)
          omega)
        have h2 : ((drawLotsF u ys).take k).length ≤ (drawLotsF u ys).length := by rw [List.length_take]; omega
        omega)
      have F10 := hid f10; have F7 := hid f7; have F9 := hid f9
      clear f7 f8 f9 f10 Hyb hu hd f1 hnl hyl
      have hbu : ((u : Int) == u) = true := by simp
      have hdy : decide (ys = ys) = true := by simp
      go_wp2_with fail
      go_loopw [6] (fun i wr => ∃ k : Nat, k ≤ nw ∧ i = .int .i64 k ∧ w4.grownBy wr none) (fun i _ => nw - (intOf i).toNat)
      case atStart => exact ⟨0, by omega, rfl, gr_refl _ _⟩
      case round =>
        obtain ⟨i, hi, rfl, hgi⟩ := hrel
        by_cases hlt : i < nw
        · have hi2 : (i : Int) < nw := by omega
          have hi3 : (0 : Int) ≤ i := by omega
          obtain ⟨b1, o1, xi, rfl, hxi, ci⟩ := int_at (Hy4.out.keep0 hgi) i hlt
          obtain ⟨b3, o3, zi, rfl, hzi, di⟩ := int_at (How4.out.sl.keep0 hgi) i hlt
          obtain ⟨t1, t2⟩ := F10.out i xi zi hxi hzi
          have t1b : decide (zi < 0) = false := by simpa using t1
          have t2b : decide (xi < zi) = false := by simpa using t2
          have Hgi := hid hgi; clear hgi hxi hzi t1 t2
          go_wp2_with fail
          go_quiet (fail)
          have Hg9 := hid (gr_drewN Hgi.out nq)
          go_wp2
          go_roundw
          case rel => exact ⟨i + 1, by omega, by go_num, Hg9.out⟩
          case measure => simp [intOf]; omega
        · have Hgi := hid hgi; clear hgi
          have Hyr := hid (Hy4.out.keep0 Hgi.out)
          go_wp2_with fail
          refine (sum_any aw nw cw _ wr (How4.out.sl.keep0 Hgi.out) Hsb2.out).mono ?_
          rintro e w6 ⟨rfl, rfl⟩
          rw [F7.out]
          go_wp2_with fail
          refine (sum_any b nw c _ wr Hyr.out Hsb1.out).mono ?_
          rintro e w6 ⟨rfl, rfl⟩
          go_wp2_with fail
          refine (DrawLots_any (sumI ys) b nw c ys wr Hyr.out).mono ?_
          rintro e w7 ⟨ap, np, cp, rfl, hop, hcp, hg7⟩
          rw [F9.out] at hop
          have Hop := hid hop; clear hop
          have Hyr7 := hid (Hyr.out.keep0 hg7)
          have Hg7 := hid (gr_trans0 (gr_trans0 Hg4.out Hgi.out) hg7); clear hg7
          go_wp2_with fail
          refine (equalInts_any ap b np nw cp c _ _ w7 Hop.out.sl Hyr7.out).mono ?_
          rintro e w8 ⟨rfl, hg8⟩
          have Hg8 := hid (gr_trans0 Hg7.out hg8); clear hg8
          go_wp2_with fail
          go_ret
          exact ⟨rfl, Hg8.out⟩

set_option maxRecDepth 100000 in
theorem lifted (os : Os) (started : os.Started) (H : Type) (enc : TypeId × Value → H) :
    ReturnsInHanded {} Try.checked os 8 .any (Rows.fnDrawLotsSpec.pre6 enc Try.prog Try.f8 Rows.fnDrawLotsRow.domain false) (Rows.fnDrawLotsSpec.post enc Try.prog Try.f8 false true false false) := by
  refine returnsInHanded_of_change (C := Try.checked) Try.own started (by kernel_rfl) Try.func8
    (ChangeSpec.witness6 (enc := enc) (C := Try.checked) false ⟨#[], #[.slice none 0 0], []⟩ 8 (by kernel_rfl) (by kernel_rfl) (by kernel_rfl) (by kernel_rfl)) ?_
  intro W base args ds gs before hval0 hW _ _
  have hval : ∀ (j : Nat) t v, Try.f8.params[j]? = some t → args[j]? = some v → Value.okWide Try.prog W .any base t v := hval0
  have hW' := hW
  obtain ⟨p, q, hA0, hV, rfl, hfz, hnd⟩ := hW
  have hA : DataW.TrodAll enc Try.prog W 0 (fun _ => true) true Try.f8.params.toList args.toList ds p := hA0
  rw [Try.params8] at hA hval
  have hA2 := hA
  obtain ⟨v0, vs0, d0, ds0, p0, q0, hargs, rfl, rfl, h0, r0⟩ := trodAll_cons hA
  obtain ⟨rfl, rfl, rfl⟩ := trodAll_nil r0
  obtain rfl : args = #[v0] := by cases args; simp_all
  obtain ⟨rfl, rfl⟩ := trodVars_none hV
  have hlt : ∀ x ∈ (p0 ++ []) ++ [], x.block < W.heap.size := fun x hx => hW'.lt x hx
  obtain ⟨a0, n0, cap0, rfl⟩ := okWide_slice Try.underlying28 (hval 0 28 v0 rfl rfl)
  obtain ⟨fuel0, hf0⟩ := h0
  obtain ⟨xs0, hs0, hc0, hw0⟩ := sl_ints u8L (fun _ => rfl) rfl Try.underlying28 Try.underlying5 Try.cellsU8 hf0
  refine (walk a0 n0 cap0 xs0 W hs0 hc0 (fun z hz => u8_range (hw0 z hz))).mono fun e W' ⟨he, hg⟩ => ?_
  subst he
  have hb := below_of_gr hg
  refine ⟨_, rfl, _, _, _, [], p0 ++ [], [], hW', ?_, ?_, rfl, hb.frame _, fun h => by cases h⟩
  · exact trodAll_mk1 (shut_bool Try.underlying4 _)
  · exact args_stay hb _ _ _ _ hA2 (fun x hx => hlt x (by simpa using hx)) (by intro t ht; simp at ht; subst ht; exact ⟨by kernel_rfl, of_decide_eq_true (by kernel_rfl)⟩)

set_option maxRecDepth 100000 in
theorem closed : joinedFacts Try.pinned.checked.prog 8 Try.f8 Rows.fnDrawLotsSpec Rows.fnDrawLotsRow = true := by
  rw [joinedFacts, show Try.pinned.checked.prog.mayEnter = true from Try.enters, show Try.pinned.checked.prog.liftsFinal = false from Try.lifts, show Try.pinned.checked.prog.make = some .cut from Try.cut]
  kernel_rfl

theorem holds : Rows.FnDrawLotsSaid :=
  OpenClaim.holds_of_wide 8 Try.f8 rfl rfl rfl rfl rfl rfl rfl ⟨rfl, rfl, rfl, rfl, rfl⟩ rfl rfl rfl rfl rfl (by kernel_rfl) Try.func8 closed
    (of_decide_eq_true (by kernel_rfl)) (by unfold Func.isWrapper; first | (rw [if_pos (by decide +kernel)]; kernel_rfl) | (rw [if_neg (by decide +kernel)]; exact ⟨rfl, rfl⟩))
    (fun os started H enc _ => lifted os started H enc)

end FnDrawLots
end Go.Proofs.Ytecboohippbliaa
