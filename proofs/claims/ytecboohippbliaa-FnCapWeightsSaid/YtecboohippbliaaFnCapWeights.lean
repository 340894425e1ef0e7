/- For every input, FnCapWeights returns true: the program's CapWeights agrees with the reference's, keeps the cap, adds up to 1000, and leaves weights alone that need no cap. No condition. -/
import Derived.Test.YtecboohippbliaaRows
import Derived.Test.YtecboohippbliaaCapWalk
import Derived.Test.YtecboohippbliaaSpecCap2
import Derived.Test.YtecboohippbliaaDrawCap
import Derived.Test.YtecboohippbliaaCapFacts
import Derived.Test.YtecboohippbliaaInts
import Derived.Test.YtecboohippbliaaFrame
import Derived.ProofKit
namespace Go.Proofs.Ytecboohippbliaa
open Go.ChangeShapes Go.WideShapes Go.ChangeAt Go.RowKit
namespace FnCapWeights

abbrev val (x : Int) (xs : List Int) : List Int := capWeightsF xs x

theorem implC (x : Int) (a : Option Addr) (n cap : Nat) (xs : List Int) (w : World) (hs : Sl intL w a n xs) :
    Calls Try.prog 32 #[.slice a n cap, .int .i64 x] w fun e w' => ∃ a' n' cap', e = .returned (.slice a' n' cap') ∧ Ow intL w' w.heap.size a' n' (val x xs) ∧ n' ≤ cap' ∧ w.grownBy w' none := CapWeights_any a n cap xs x w hs

theorem specC (x : Int) (a : Option Addr) (n cap : Nat) (xs : List Int) (w : World) (hs : Sl intL w a n xs) :
    Calls Try.prog 31 #[.slice a n cap, .int .i64 x] w fun e w' => ∃ a' n' cap', e = .returned (.slice a' n' cap') ∧ Ow intL w' w.heap.size a' n' (val x xs) ∧ n' ≤ cap' ∧ w.grownBy w' none := SpecCapWeights_any a n cap xs x w hs

def freeB (u : Int) (ys : List Int) : Bool := ys.all fun x => decide (x ≤ u)
theorem free_snoc (u : Int) (ys : List Int) (k : Nat) (x : Int) (hx : ys[k]? = some x) : freeB u (ys.take (k + 1)) = (freeB u (ys.take k) && decide (x ≤ u)) := by
  unfold freeB; rw [take_snoc _ _ _ hx, List.all_append]; simp

set_option maxRecDepth 100000 in
set_option maxHeartbeats 2000000 in
theorem walk (a : Option Addr) (n cap : Nat) (xs : List Int) (w : World) (hs : Sl u8L w a n xs) (hcap : n ≤ cap) (hx : ∀ x ∈ xs, 0 ≤ x ∧ x ≤ 255) :
    Calls Try.prog 11 #[.slice a n cap] w fun e w' => e = .returned (.bool true) ∧ w.grownBy w' none := by
  have Hx := hid hx; clear hx
  have Hs := hid hs; clear hs
  by_cases hn : 1048576 < n
  · go_enter Try.func11, Try.ntmps11
    go_wp2_with fail
    go_ret
    exact ⟨rfl, gr_refl _ _⟩
  · go_enter Try.func11, Try.ntmps11
    go_wp2_with fail
    refine (DrawCapWeights_any a n cap xs w Hs.out hcap Hx.out).mono ?_
    rintro e w1 ⟨u, b, l, c, ys, rfl, hu, hy, hc, hl, hyb, hg⟩
    have hd : decide (val u ys = val u ys) = true := by simp
    have Hyb := hid hyb; clear hyb
    have Hy := hid hy; clear hy
    have Hg := hid hg; clear hg
    go_wp2_with fail
    refine (implC u b l c ys w1 Hy.out).mono ?_
    rintro e w2 ⟨aw, nw, cw, rfl, how, hcw, hg2⟩
    have How := hid how; clear how
    have Hy2 := hid (Hy.out.keep0 hg2)
    have Hg2 := hid (gr_trans0 Hg.out hg2); clear hg2
    go_wp2_with fail
    refine (specC u b l c ys w2 Hy2.out).mono ?_
    rintro e w3 ⟨a3, ns, cs, rfl, hos, hcs, hg3⟩
    have Hos := hid hos; clear hos
    have How3 := hid (How.out.keep0 hg3)
    have Hy3 := hid (Hy2.out.keep0 hg3)
    have Hg3 := hid (gr_trans0 Hg2.out hg3); clear hg3
    go_wp2_with fail
    refine (equalInts_any aw a3 nw ns cw cs _ _ w3 How3.out.sl Hos.out.sl).mono ?_
    rintro e w4 ⟨rfl, hg4⟩
    have How4 := hid (How3.out.keep0 hg4)
    have Hy4 := hid (Hy3.out.keep0 hg4)
    have Hg4 := hid (gr_trans0 Hg3.out hg4); clear hg4
    clear How How3 Hy Hy2 Hy3 Hg Hg2 Hg3 Hos
    by_cases h0 : nw = 0
    · subst h0
      go_wp2_with fail
      refine (specC u b l c ys w4 Hy4.out).mono ?_
      rintro e w5 ⟨a3', ns', cs', rfl, hos', hcs', hg5⟩
      have Hos5 := hid hos'; clear hos'
      have How5 := hid (How4.out.keep0 hg5)
      have Hg5 := hid (gr_trans0 Hg4.out hg5); clear hg5
      go_wp2_with fail
      refine (equalInts_any aw a3' 0 ns' cw cs' _ _ w5 How5.out.sl Hos5.out.sl).mono ?_
      rintro e w6 ⟨rfl, hg6⟩
      have Hg6 := hid (gr_trans0 Hg5.out hg6); clear hg6
      go_wp2_with fail
      go_ret
      exact ⟨rfl, Hg6.out⟩
    · have hb0 : ((nw : Int) == 0) = false := by simp; omega
      have hnl : (capWeightsF ys u).length = nw := How4.out.len
      have hyl := Hy4.out.len
      have hok := cap_open ys u (by omega)
      obtain ⟨f1, f2, f3, f4, f5, f6, f7⟩ := cap_whole ys u hok
      have How5 : Hid (Ow intL w4 w1.heap.size aw nw (capF ys u)) := hid (by have := How4.out; unfold val at this; rwa [f1] at this)
      obtain rfl : nw = l := by have := How5.out.len; omega
      have F4 := hid f4; have F5 := hid f5; have F6 := hid f6; have F7 := hid f7; have F3 := hid f3; have F1 := hid f1
      have hn10 : nw ≤ 10 := by omega
      have Hsb2 : Hid (∀ k, -9223372036854775808 ≤ sumI ((capF ys u).take k) ∧ sumI ((capF ys u).take k) ≤ 9223372036854775807) := hid (fun k => by
        have h := sumI_bound ((capF ys u).take k) 0 1000 (fun x hx => ⟨(f4 x (List.mem_of_mem_take hx)).1, (f4 x (List.mem_of_mem_take hx)).2.1⟩)
        have h2 : ((capF ys u).take k).length ≤ (capF ys u).length := by rw [List.length_take]; omega
        omega)
      have Hyl := hid hyl
      clear f1 f2 f3 f4 f5 f6 f7 Hyb hd hnl hyl How4 hok
      go_wp2_with fail
      go_loopw [6, 7] (fun f i wr => ∃ k : Nat, k ≤ nw ∧ i = .int .i64 k ∧ f = .bool (freeB u (ys.take k)) ∧ w4.grownBy wr none) (fun _ i _ => nw - (intOf i).toNat)
      case atStart => exact ⟨0, by omega, rfl, rfl, gr_refl _ _⟩
      case round =>
        obtain ⟨i, hi, rfl, rfl, hgi⟩ := hrel
        by_cases hlt : i < nw
        · have hi2 : (i : Int) < nw := by omega
          have hi3 : (0 : Int) ≤ i := by omega
          obtain ⟨b1, o1, xi, rfl, hxi, ci⟩ := int_at (Hy4.out.keep0 hgi) i hlt
          obtain ⟨b3, o3, zi, rfl, hzi, di⟩ := int_at (How5.out.sl.keep0 hgi) i hlt
          have hzb := F4.out zi (List.mem_of_getElem? hzi)
          have hmb := F5.out i zi xi hzi hxi
          have hd1 : decide (u < zi) = false := by simp; omega
          have hfs := free_snoc u ys i xi hxi
          have Hfs := hid hfs
          have Hgi := hid hgi; clear hgi hxi hzi hfs
          generalize freeB u (ys.take i) = fb at *
          by_cases hxu : xi ≤ u
          · have hxd : decide (xi ≤ u) = true := by simpa using hxu
            have hd2 : decide (zi < xi) = false := by simp; omega
            have Hxd := hid hxd
            cases fb with
            | false =>
              go_wp2_with fail
              go_quiet (fail)
              have Hg9 := hid (gr_drewN Hgi.out nq)
              go_wp2_with fail
              go_roundw
              case rel => exact ⟨i + 1, by omega, by go_num, by rw [Hfs.out]; rfl, Hg9.out⟩
              case measure => simp [intOf]; omega
            | true =>
              go_wp2_with fail
              go_quiet (fail)
              have Hg9 := hid (gr_drewN Hgi.out nq)
              go_wp2_with fail
              go_roundw
              case rel => exact ⟨i + 1, by omega, by go_num, by rw [Hfs.out, Hxd.out]; rfl, Hg9.out⟩
              case measure => simp [intOf]; omega
          · have hxd : decide (xi ≤ u) = false := by simpa using hxu
            have hd2 : decide (zi < u) = false := by simp; omega
            have Hxd := hid hxd
            cases fb with
            | false =>
              go_wp2_with fail
              go_quiet (fail)
              have Hg9 := hid (gr_drewN Hgi.out nq)
              go_wp2_with fail
              go_roundw
              case rel => exact ⟨i + 1, by omega, by go_num, by rw [Hfs.out]; rfl, Hg9.out⟩
              case measure => simp [intOf]; omega
            | true =>
              go_wp2_with fail
              go_quiet (fail)
              have Hg9 := hid (gr_drewN Hgi.out nq)
              go_wp2_with fail
              go_roundw
              case rel => exact ⟨i + 1, by omega, by go_num, by rw [Hfs.out, Hxd.out]; rfl, Hg9.out⟩
              case measure => simp [intOf]; omega
        · obtain rfl : i = nw := by omega
          have tk : ys.take i = ys := List.take_of_length_le (by have := Hyl.out; omega)
          rw [tk]
          have How6 := hid (How5.out.keep0 hgi)
          have Hy6 := hid (Hy4.out.keep0 hgi)
          have Hg6 := hid (gr_trans0 Hg4.out hgi)
          clear hgi tk
          have hd9 : decide (capF ys u = capF ys u) = true := by simp
          cases hfb : freeB u ys with
          | false =>
            go_wp2_with fail
            refine (sum_any aw i cw _ wr How6.out.sl Hsb2.out).mono ?_
            rintro e w6 ⟨rfl, rfl⟩
            rw [F3.out]
            go_wp2_with fail
            refine (implC u aw i cw _ wr How6.out.sl).mono ?_
            rintro e w7 ⟨a7, n7, c7, rfl, ho7, hc7, hg7⟩
            unfold val at ho7
            rw [F6.out] at ho7
            have Ho7 := hid ho7
            have How7 := hid (How6.out.keep0 hg7)
            have Hg7 := hid (gr_trans0 Hg6.out hg7)
            clear ho7 hg7
            go_wp2_with fail
            refine (equalInts_any a7 aw n7 i c7 cw _ _ w7 Ho7.out.sl How7.out.sl).mono ?_
            rintro e w8 ⟨rfl, hg8⟩
            have Hg8 := hid (gr_trans0 Hg7.out hg8)
            clear hg8
            go_wp2_with fail
            go_ret
            exact ⟨rfl, Hg8.out⟩
          | true =>
            have hys : capF ys u = ys := F7.out (by unfold freeB at hfb; simpa using hfb)
            have hdy : decide (capF ys u = ys) = true := by simpa using hys
            clear hys
            go_wp2_with fail
            refine (sum_any aw i cw _ wr How6.out.sl Hsb2.out).mono ?_
            rintro e w6 ⟨rfl, rfl⟩
            rw [F3.out]
            go_wp2_with fail
            refine (equalInts_any aw b i i cw c _ _ wr How6.out.sl Hy6.out).mono ?_
            rintro e w6 ⟨rfl, hg6⟩
            have How9 := hid (How6.out.keep0 hg6)
            have Hg9 := hid (gr_trans0 Hg6.out hg6)
            clear hg6
            go_wp2_with fail
            refine (implC u aw i cw _ w6 How9.out.sl).mono ?_
            rintro e w7 ⟨a7, n7, c7, rfl, ho7, hc7, hg7⟩
            unfold val at ho7
            rw [F6.out] at ho7
            have Ho7 := hid ho7
            have How7 := hid (How9.out.keep0 hg7)
            have Hg7 := hid (gr_trans0 Hg9.out hg7)
            clear ho7 hg7
            go_wp2_with fail
            refine (equalInts_any a7 aw n7 i c7 cw _ _ w7 Ho7.out.sl How7.out.sl).mono ?_
            rintro e w8 ⟨rfl, hg8⟩
            have Hg8 := hid (gr_trans0 Hg7.out hg8)
            clear hg8
            go_wp2_with fail
            go_ret
            exact ⟨rfl, Hg8.out⟩

set_option maxRecDepth 100000 in
theorem lifted (os : Os) (started : os.Started) (H : Type) (enc : TypeId × Value → H) :
    ReturnsInHanded {} Try.checked os 11 .any (Rows.fnCapWeightsSpec.pre6 enc Try.prog Try.f11 Rows.fnCapWeightsRow.domain false) (Rows.fnCapWeightsSpec.post enc Try.prog Try.f11 false true false false) := by
  refine returnsInHanded_of_change (C := Try.checked) Try.own started (by kernel_rfl) Try.func11
    (ChangeSpec.witness6 (enc := enc) (C := Try.checked) false ⟨#[], #[.slice none 0 0], []⟩ 8 (by kernel_rfl) (by kernel_rfl) (by kernel_rfl) (by kernel_rfl)) ?_
  intro W base args ds gs before hval0 hW _ _
  have hval : ∀ (j : Nat) t v, Try.f11.params[j]? = some t → args[j]? = some v → Value.okWide Try.prog W .any base t v := hval0
  have hW' := hW
  obtain ⟨p, q, hA0, hV, rfl, hfz, hnd⟩ := hW
  have hA : DataW.TrodAll enc Try.prog W 0 (fun _ => true) true Try.f11.params.toList args.toList ds p := hA0
  rw [Try.params11] at hA hval
  have hA2 := hA
  obtain ⟨v0, vs0, d0, ds0, p0, q0, hargs, rfl, rfl, h0, r0⟩ := trodAll_cons hA
  obtain ⟨rfl, rfl, rfl⟩ := trodAll_nil r0
  obtain rfl : args = #[v0] := by cases args; simp_all
  obtain ⟨rfl, rfl⟩ := trodVars_none hV
  have hlt : ∀ x ∈ (p0 ++ []) ++ [], x.block < W.heap.size := fun x hx => hW'.lt x hx
  obtain ⟨a0, n0, cap0, rfl⟩ := okWide_slice Try.underlying28 (hval 0 28 v0 rfl rfl)
  obtain ⟨fuel0, hf0⟩ := h0
  obtain ⟨xs0, hs0, hc0, hw0⟩ := sl_ints u8L (fun _ => rfl) rfl Try.underlying28 Try.underlying5 Try.cellsU8 hf0
  refine (walk a0 n0 cap0 xs0 W hs0 hc0 (fun z hz => u8_range (hw0 z hz))).mono fun e W' ⟨he, hg⟩ => ?_
  subst he
  have hb := below_of_gr hg
  refine ⟨_, rfl, _, _, _, [], p0 ++ [], [], hW', ?_, ?_, rfl, hb.frame _, fun h => by cases h⟩
  · exact trodAll_mk1 (shut_bool Try.underlying4 _)
  · exact args_stay hb _ _ _ _ hA2 (fun x hx => hlt x (by simpa using hx)) (by intro t ht; simp at ht; subst ht; exact ⟨by kernel_rfl, of_decide_eq_true (by kernel_rfl)⟩)

set_option maxRecDepth 100000 in
theorem closed : joinedFacts Try.pinned.checked.prog 11 Try.f11 Rows.fnCapWeightsSpec Rows.fnCapWeightsRow = true := by
  rw [joinedFacts, show Try.pinned.checked.prog.mayEnter = true from Try.enters, show Try.pinned.checked.prog.liftsFinal = false from Try.lifts, show Try.pinned.checked.prog.make = some .cut from Try.cut]
  kernel_rfl

theorem holds : Rows.FnCapWeightsSaid :=
  OpenClaim.holds_of_wide 11 Try.f11 rfl rfl rfl rfl rfl rfl rfl ⟨rfl, rfl, rfl, rfl, rfl⟩ rfl rfl rfl rfl rfl (by kernel_rfl) Try.func11 closed
    (of_decide_eq_true (by kernel_rfl)) (by unfold Func.isWrapper; first | (rw [if_pos (by decide +kernel)]; kernel_rfl) | (rw [if_neg (by decide +kernel)]; exact ⟨rfl, rfl⟩))
    (fun os started H enc _ => lifted os started H enc)

end FnCapWeights
end Go.Proofs.Ytecboohippbliaa
