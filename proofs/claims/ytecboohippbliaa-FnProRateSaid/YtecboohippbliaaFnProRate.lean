/- For every input, FnProRate returns true: the program's ProRate agrees with the reference's, its shares add up to the amount, and each is less than 1 away from the exact one. No condition. -/
import Derived.Test.YtecboohippbliaaRows
import Derived.Test.YtecboohippbliaaDrawInts
import Derived.Test.YtecboohippbliaaSharesFacts
import Derived.Test.YtecboohippbliaaInts
import Derived.Test.YtecboohippbliaaFrame
import Derived.ProofKit
namespace Go.Proofs.Ytecboohippbliaa
open Go.ChangeShapes Go.WideShapes Go.ChangeAt Go.RowKit
namespace FnProRate

theorem specC (x : Int) (a : Option Addr) (n cap : Nat) (xs : List Int) (w : World) (hs : Sl intL w a n xs) :
    Calls Try.prog 19 #[.int .i64 x, .slice a n cap] w fun e w' => ∃ a' n' cap', e = .returned (.slice a' n' cap') ∧ Ow intL w' w.heap.size a' n' (proRateF x xs) ∧ n' ≤ cap' ∧ w.grownBy w' none := by
  rw [proRate_eq]; exact specProRate_any x a n cap xs w hs

theorem facts (u : Int) (ys : List Int) (h : 0 < (proRateF u ys).length) : (proRateF u ys).length = ys.length ∧ ys.length ≤ 8 ∧ 0 < sumI ys ∧ sumI ys ≤ 79992 ∧ 0 ≤ u ∧ u ≤ 1000000000 ∧ sumI (proRateF u ys) = u ∧ (∀ x ∈ ys, 0 ≤ x ∧ x ≤ 9999) ∧ (∀ z ∈ proRateF u ys, 0 ≤ z ∧ z ≤ 1000000001)
    ∧ (∀ (i : Nat) (xi zi : Int), ys[i]? = some xi → (proRateF u ys)[i]? = some zi → zi * sumI ys - u * xi < sumI ys ∧ -(zi * sumI ys - u * xi) < sumI ys) := by
  obtain ⟨e, h1, h2, h3, h4, h5, h6⟩ := proRate_open u ys h
  obtain ⟨f1, f2, f3, f4, f5, f6⟩ := holders_facts ys h3
  obtain ⟨q1, q2, q3⟩ := quos_facts u ys h3 h4 h1 h2
  rw [e]
  have hat : ∀ (i : Nat) (zi : Int), (sharesF u ys)[i]? = some zi → ∃ xi, ys[i]? = some xi ∧ (zi = u * xi / sumI ys ∨ (zi = u * xi / sumI ys + 1 ∧ 0 < u * xi % sumI ys)) ∧ 0 ≤ u * xi / sumI ys ∧ u * xi / sumI ys ≤ 1000000000 := by
    intro i zi hz
    have hi := lt_of_at hz
    rw [shares_len] at hi
    have hxi : ys[i]? = some (ys[i]) := by simp
    refine ⟨ys[i], hxi, ?_, ?_⟩
    · have g1 : ys.getD i 0 = ys[i] := by rw [List.getD_eq_getElem?_getD, hxi]; rfl
      have g3 : (sharesF u ys).getD i 0 = zi := by rw [List.getD_eq_getElem?_getD, hz]; rfl
      have hs := shares_at u ys i hi
      rw [g1, g3] at hs
      rcases hs with ⟨a, _⟩ | ⟨a, b⟩
      · exact .inl a
      · have := picked_pos u ys h4 h5 i b
        rw [g1] at this
        exact .inr ⟨a, this⟩
    · exact q3 _ (by unfold quos; exact List.mem_map.2 ⟨ys[i], List.mem_of_getElem? hxi, rfl⟩)
  refine ⟨shares_len _ _, f2, h4, f6, h1, h2, shares_sum u ys h5 h6, f3, fun z hz => ?_, fun i xi zi hx hz => ?_⟩
  · obtain ⟨i, hi⟩ := List.getElem?_of_mem hz
    obtain ⟨xi, _, ho, b1, b2⟩ := hat i z hi
    omega
  · obtain ⟨xi', hx', ho, b1, b2⟩ := hat i zi hz
    rw [hx] at hx'
    obtain rfl : xi = xi' := Option.some.inj hx'
    have e1 := Int.mul_ediv_add_emod (u * xi) (sumI ys)
    have e2 := Int.emod_nonneg (u * xi) (show sumI ys ≠ 0 by omega)
    have e3 := Int.emod_lt_of_pos (u * xi) h4
    rcases ho with rfl | ⟨rfl, hp⟩
    · rw [Int.mul_comm (u * xi / sumI ys)]; omega
    · rw [Int.add_mul, Int.one_mul, Int.mul_comm (u * xi / sumI ys)]; omega

set_option maxRecDepth 100000 in
set_option maxHeartbeats 1000000 in
theorem walk (a : Option Addr) (n cap : Nat) (xs : List Int) (w : World) (hs : Sl u8L w a n xs) (hcap : n ≤ cap) (hx : ∀ x ∈ xs, 0 ≤ x ∧ x ≤ 255) :
    Calls Try.prog 6 #[.slice a n cap] w fun e w' => e = .returned (.bool true) ∧ w.grownBy w' none := by
  have Hx := hid hx; clear hx
  have Hs := hid hs; clear hs
  by_cases hn : 1048576 < n
  · go_enter Try.func6, Try.ntmps6
    go_wp2_with fail
    go_ret
    exact ⟨rfl, gr_refl _ _⟩
  · go_enter Try.func6, Try.ntmps6
    go_wp2_with fail
    refine (DrawProRate_any a n cap xs w Hs.out hcap Hx.out).mono ?_
    rintro e w1 ⟨u, b, l, c, ys, rfl, hu, hy, hc, hl, hyb, hg⟩
    have hd : decide (proRateF u ys = proRateF u ys) = true := by simp
    have Hyb := hid hyb; clear hyb
    have Hy := hid hy; clear hy
    have Hg := hid hg; clear hg
    go_wp2_with fail
    refine (ProRate_any u b l c ys w1 Hy.out).mono ?_
    rintro e w2 ⟨aw, nw, cw, rfl, how, hcw, hg2⟩
    have How := hid how; clear how
    have Hy2 := hid (Hy.out.keep0 hg2)
    have Hg2 := hid (gr_trans0 Hg.out hg2); clear hg2
    go_wp2_with fail
    refine (specC u b l c ys w2 Hy2.out).mono ?_
    rintro e w3 ⟨a3, ns, cs, rfl, hos, hcs, hg3⟩
    have Hos := hid hos; clear hos
    have How3 := hid (How.out.keep0 hg3)
    have Hy3 := hid (Hy2.out.keep0 hg3)
    have Hg3 := hid (gr_trans0 Hg2.out hg3); clear hg3
    go_wp2_with fail
    refine (equalInts_any aw a3 nw ns cw cs _ _ w3 How3.out.sl Hos.out.sl).mono ?_
    rintro e w4 ⟨rfl, hg4⟩
    have How4 := hid (How3.out.keep0 hg4)
    have Hy4 := hid (Hy3.out.keep0 hg4)
    have Hg4 := hid (gr_trans0 Hg3.out hg4); clear hg4
    clear How How3 Hy Hy2 Hy3 Hg Hg2 Hg3 Hos
    by_cases h0 : nw = 0
    · subst h0
      go_wp2_with fail
      refine (specC u b l c ys w4 Hy4.out).mono ?_
      rintro e w5 ⟨a3', ns', cs', rfl, hos', hcs', hg5⟩
      have Hos5 := hid hos'; clear hos'
      have How5 := hid (How4.out.keep0 hg5)
      have Hg5 := hid (gr_trans0 Hg4.out hg5); clear hg5
      go_wp2_with fail
      refine (equalInts_any aw a3' 0 ns' cw cs' _ _ w5 How5.out.sl Hos5.out.sl).mono ?_
      rintro e w6 ⟨rfl, hg6⟩
      have Hg6 := hid (gr_trans0 Hg5.out hg6); clear hg6
      go_wp2_with fail
      go_ret
      exact ⟨rfl, Hg6.out⟩
    · have hb0 : ((nw : Int) == 0) = false := by simp; omega
      have hnl := How4.out.len
      have hyl := Hy4.out.len
      obtain ⟨f1, f2, f3, f4, f5, f6, f7, f8, f9, f10⟩ := facts u ys (by omega)
      obtain rfl : nw = l := by omega
      have Hsb1 : Hid (∀ k, -9223372036854775808 ≤ sumI (ys.take k) ∧ sumI (ys.take k) ≤ 9223372036854775807) := hid (fun k => by
        have h := sumI_bound (ys.take k) 0 9999 (fun x hx => f8 x (List.mem_of_mem_take hx))
        have h2 : (ys.take k).length ≤ ys.length := by rw [List.length_take]; omega
        omega)
      have Hsb2 : Hid (∀ k, -9223372036854775808 ≤ sumI ((proRateF u ys).take k) ∧ sumI ((proRateF u ys).take k) ≤ 9223372036854775807) := hid (fun k => by
        have h := sumI_bound ((proRateF u ys).take k) 0 1000000001 (fun x hx => f9 x (List.mem_of_mem_take hx))
        have h2 : ((proRateF u ys).take k).length ≤ (proRateF u ys).length := by rw [List.length_take]; omega
        omega)
      have F8 := hid f8; have F9 := hid f9; have F10 := hid f10; have F7 := hid f7
      clear f7 f8 f9 f10 Hyb hu hd f1 hnl hyl
      go_wp2_with fail
      refine (sum_any b nw c ys w4 Hy4.out Hsb1.out).mono ?_
      rintro e w5 ⟨rfl, rfl⟩
      generalize sumI ys = s at *
      have hbu : ((u : Int) == u) = true := by simp
      go_wp2_with fail
      go_loopw [7] (fun i wr => ∃ k : Nat, k ≤ nw ∧ i = .int .i64 k ∧ w4.grownBy wr none) (fun i _ => nw - (intOf i).toNat)
      case atStart => exact ⟨0, by omega, rfl, gr_refl _ _⟩
      case round =>
        obtain ⟨i, hi, rfl, hgi⟩ := hrel
        by_cases hlt : i < nw
        · have hi2 : (i : Int) < nw := by omega
          have hi3 : (0 : Int) ≤ i := by omega
          obtain ⟨b1, o1, xi, rfl, hxi, ci⟩ := int_at (Hy4.out.keep0 hgi) i hlt
          obtain ⟨b3, o3, zi, rfl, hzi, di⟩ := int_at (How4.out.sl.keep0 hgi) i hlt
          have hxb := F8.out xi (List.mem_of_getElem? hxi)
          have hzb := F9.out zi (List.mem_of_getElem? hzi)
          obtain ⟨t1, t2⟩ := F10.out i xi zi hxi hzi
          have p1 : 0 ≤ zi * s := Int.mul_nonneg hzb.1 (by omega)
          have p2 : zi * s ≤ 1000000001 * 79992 := Int.mul_le_mul hzb.2 f4 (by omega) (by omega)
          have p3 : 0 ≤ u * xi := Int.mul_nonneg f5 hxb.1
          have p4 : u * xi ≤ 1000000000 * 9999 := Int.mul_le_mul f6 hxb.2 hxb.1 (by omega)
          have u1 : IntKind.i64.wrap (zi * s) = zi * s := IntWalk.i64_in _ (by omega)
          have u2 : IntKind.i64.wrap (u * xi) = u * xi := IntWalk.i64_in _ (by omega)
          have u3 : IntKind.i64.wrap (zi * s - u * xi) = zi * s - u * xi := IntWalk.i64_in _ (by omega)
          have Hgi := hid hgi; clear hgi hxi hzi
          go_wp2_with fail
          go_quiet (fail)
          have Hg9 := hid (gr_drewN Hgi.out nq)
          clear u1 u2 u3
          generalize zi * s = p at *
          generalize u * xi = q at *
          go_wp2
          go_roundw
          case rel => exact ⟨i + 1, by omega, by go_num, Hg9.out⟩
          case measure => simp [intOf]; omega
        · have Hgi := hid hgi; clear hgi
          go_wp2_with fail
          refine (sum_any aw nw cw _ wr (How4.out.sl.keep0 Hgi.out) Hsb2.out).mono ?_
          rintro e w6 ⟨rfl, rfl⟩
          rw [F7.out]
          go_wp2_with fail
          go_ret
          exact ⟨rfl, gr_trans0 Hg4.out Hgi.out⟩

set_option maxRecDepth 100000 in
theorem lifted (os : Os) (started : os.Started) (H : Type) (enc : TypeId × Value → H) :
    ReturnsInHanded {} Try.checked os 6 .any (Rows.fnProRateSpec.pre6 enc Try.prog Try.f6 Rows.fnProRateRow.domain false) (Rows.fnProRateSpec.post enc Try.prog Try.f6 false true false false) := by
  refine returnsInHanded_of_change (C := Try.checked) Try.own started (by kernel_rfl) Try.func6
    (ChangeSpec.witness6 (enc := enc) (C := Try.checked) false ⟨#[], #[.slice none 0 0], []⟩ 8 (by kernel_rfl) (by kernel_rfl) (by kernel_rfl) (by kernel_rfl)) ?_
  intro W base args ds gs before hval0 hW _ _
  have hval : ∀ (j : Nat) t v, Try.f6.params[j]? = some t → args[j]? = some v → Value.okWide Try.prog W .any base t v := hval0
  have hW' := hW
  obtain ⟨p, q, hA0, hV, rfl, hfz, hnd⟩ := hW
  have hA : DataW.TrodAll enc Try.prog W 0 (fun _ => true) true Try.f6.params.toList args.toList ds p := hA0
  rw [Try.params6] at hA hval
  have hA2 := hA
  obtain ⟨v0, vs0, d0, ds0, p0, q0, hargs, rfl, rfl, h0, r0⟩ := trodAll_cons hA
  obtain ⟨rfl, rfl, rfl⟩ := trodAll_nil r0
  obtain rfl : args = #[v0] := by cases args; simp_all
  obtain ⟨rfl, rfl⟩ := trodVars_none hV
  have hlt : ∀ x ∈ (p0 ++ []) ++ [], x.block < W.heap.size := fun x hx => hW'.lt x hx
  obtain ⟨a0, n0, cap0, rfl⟩ := okWide_slice Try.underlying28 (hval 0 28 v0 rfl rfl)
  obtain ⟨fuel0, hf0⟩ := h0
  obtain ⟨xs0, hs0, hc0, hw0⟩ := sl_ints u8L (fun _ => rfl) rfl Try.underlying28 Try.underlying5 Try.cellsU8 hf0
  refine (walk a0 n0 cap0 xs0 W hs0 hc0 (fun z hz => u8_range (hw0 z hz))).mono fun e W' ⟨he, hg⟩ => ?_
  subst he
  have hb := below_of_gr hg
  refine ⟨_, rfl, _, _, _, [], p0 ++ [], [], hW', ?_, ?_, rfl, hb.frame _, fun h => by cases h⟩
  · exact trodAll_mk1 (shut_bool Try.underlying4 _)
  · exact args_stay hb _ _ _ _ hA2 (fun x hx => hlt x (by simpa using hx)) (by intro t ht; simp at ht; subst ht; exact ⟨by kernel_rfl, of_decide_eq_true (by kernel_rfl)⟩)

set_option maxRecDepth 100000 in
theorem closed : joinedFacts Try.pinned.checked.prog 6 Try.f6 Rows.fnProRateSpec Rows.fnProRateRow = true := by
  rw [joinedFacts, show Try.pinned.checked.prog.mayEnter = true from Try.enters, show Try.pinned.checked.prog.liftsFinal = false from Try.lifts, show Try.pinned.checked.prog.make = some .cut from Try.cut]
  kernel_rfl

theorem holds : Rows.FnProRateSaid :=
  OpenClaim.holds_of_wide 6 Try.f6 rfl rfl rfl rfl rfl rfl rfl ⟨rfl, rfl, rfl, rfl, rfl⟩ rfl rfl rfl rfl rfl (by kernel_rfl) Try.func6 closed
    (of_decide_eq_true (by kernel_rfl)) (by unfold Func.isWrapper; first | (rw [if_pos (by decide +kernel)]; kernel_rfl) | (rw [if_neg (by decide +kernel)]; exact ⟨rfl, rfl⟩))
    (fun os started H enc _ => lifted os started H enc)

end FnProRate
end Go.Proofs.Ytecboohippbliaa
