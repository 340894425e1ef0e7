/- For every input, FnCapWeightsEqual returns true: the program's CapWeights agrees with the reference's, four weights with the cap 250 become 250 each, and capped weights stay as they are. No condition. -/
import Derived.Test.YtecboohippbliaaRows
import Derived.Test.YtecboohippbliaaCapWalk
import Derived.Test.YtecboohippbliaaSpecCap2
import Derived.Test.YtecboohippbliaaDrawCap
import Derived.Test.YtecboohippbliaaCapFacts
import Derived.Test.YtecboohippbliaaInts
import Derived.Test.YtecboohippbliaaFrame
import Derived.ProofKit
namespace Go.Proofs.Ytecboohippbliaa
open Go.ChangeShapes Go.WideShapes Go.ChangeAt Go.RowKit
namespace FnCapWeightsEqual

abbrev val (x : Int) (xs : List Int) : List Int := capWeightsF xs x

theorem implC (x : Int) (a : Option Addr) (n cap : Nat) (xs : List Int) (w : World) (hs : Sl intL w a n xs) :
    Calls Try.prog 32 #[.slice a n cap, .int .i64 x] w fun e w' => ∃ a' n' cap', e = .returned (.slice a' n' cap') ∧ Ow intL w' w.heap.size a' n' (val x xs) ∧ n' ≤ cap' ∧ w.grownBy w' none := CapWeights_any a n cap xs x w hs

theorem specC (x : Int) (a : Option Addr) (n cap : Nat) (xs : List Int) (w : World) (hs : Sl intL w a n xs) :
    Calls Try.prog 31 #[.slice a n cap, .int .i64 x] w fun e w' => ∃ a' n' cap', e = .returned (.slice a' n' cap') ∧ Ow intL w' w.heap.size a' n' (val x xs) ∧ n' ≤ cap' ∧ w.grownBy w' none := SpecCapWeights_any a n cap xs x w hs

set_option maxRecDepth 100000 in
set_option maxHeartbeats 2000000 in
theorem walk (a : Option Addr) (n cap : Nat) (xs : List Int) (w : World) (hs : Sl u8L w a n xs) (hcap : n ≤ cap) (hx : ∀ x ∈ xs, 0 ≤ x ∧ x ≤ 255) :
    Calls Try.prog 10 #[.slice a n cap] w fun e w' => e = .returned (.bool true) ∧ w.grownBy w' none := by
  have Hx := hid hx; clear hx
  have Hs := hid hs; clear hs
  by_cases hn : 1048576 < n
  · go_enter Try.func10, Try.ntmps10
    go_wp2_with fail
    go_ret
    exact ⟨rfl, gr_refl _ _⟩
  · go_enter Try.func10, Try.ntmps10
    go_wp2_with fail
    refine (DrawCapWeights_any a n cap xs w Hs.out hcap Hx.out).mono ?_
    rintro e w1 ⟨u, b, l, c, ys, rfl, hu, hy, hc, hl, hyb, hg⟩
    have hd : decide (val u ys = val u ys) = true := by simp
    have Hyb := hid hyb; clear hyb
    have Hy := hid hy; clear hy
    have Hg := hid hg; clear hg
    go_wp2_with fail
    refine (implC u b l c ys w1 Hy.out).mono ?_
    rintro e w2 ⟨aw, nw, cw, rfl, how, hcw, hg2⟩
    have How := hid how; clear how
    have Hy2 := hid (Hy.out.keep0 hg2)
    have Hg2 := hid (gr_trans0 Hg.out hg2); clear hg2
    go_wp2_with fail
    refine (specC u b l c ys w2 Hy2.out).mono ?_
    rintro e w3 ⟨a3, ns, cs, rfl, hos, hcs, hg3⟩
    have Hos := hid hos; clear hos
    have How3 := hid (How.out.keep0 hg3)
    have Hy3 := hid (Hy2.out.keep0 hg3)
    have Hg3 := hid (gr_trans0 Hg2.out hg3); clear hg3
    go_wp2_with fail
    refine (equalInts_any aw a3 nw ns cw cs _ _ w3 How3.out.sl Hos.out.sl).mono ?_
    rintro e w4 ⟨rfl, hg4⟩
    have How4 := hid (How3.out.keep0 hg4)
    have Hy4 := hid (Hy3.out.keep0 hg4)
    have Hg4 := hid (gr_trans0 Hg3.out hg4); clear hg4
    clear How How3 Hy Hy2 Hy3 Hg Hg2 Hg3 Hos
    by_cases h0 : nw = 0
    · subst h0
      go_wp2_with fail
      refine (specC u b l c ys w4 Hy4.out).mono ?_
      rintro e w5 ⟨a3', ns', cs', rfl, hos', hcs', hg5⟩
      have Hos5 := hid hos'; clear hos'
      have How5 := hid (How4.out.keep0 hg5)
      have Hg5 := hid (gr_trans0 Hg4.out hg5); clear hg5
      go_wp2_with fail
      refine (equalInts_any aw a3' 0 ns' cw cs' _ _ w5 How5.out.sl Hos5.out.sl).mono ?_
      rintro e w6 ⟨rfl, hg6⟩
      have Hg6 := hid (gr_trans0 Hg5.out hg6); clear hg6
      go_wp2_with fail
      go_ret
      exact ⟨rfl, Hg6.out⟩
    · have hb0 : ((nw : Int) == 0) = false := by simp; omega
      have hnl : (capWeightsF ys u).length = nw := How4.out.len
      have hyl := Hy4.out.len
      have hok := cap_open ys u (by omega)
      obtain ⟨f1, f2, f3, f4, f5, f6, f7⟩ := cap_whole ys u hok
      have How5 : Hid (Ow intL w4 w1.heap.size aw nw (capF ys u)) := hid (by have := How4.out; unfold val at this; rwa [f1] at this)
      obtain rfl : nw = l := by have := How5.out.len; omega
      have F6 := hid f6
      have hc := (capOk_facts ys u hok)
      have hu0 := hc.lim0; have hu1 := hc.lim1
      have hn8 : nw ≤ 8 := by have := hc.hi; omega
      have hp1 : 0 ≤ u * (nw : Int) := Int.mul_nonneg hu0 (by omega)
      have hp2 : u * (nw : Int) ≤ 1000 * nw := Int.mul_le_mul_of_nonneg_right hu1 (by omega)
      have hp3 : u * (nw : Int) ≤ 8000 := by omega
      clear f1 f2 f3 f4 f5 f6 f7 Hyb hd hnl hyl How4 hok hc hp2
      obtain ⟨t, ht⟩ : ∃ t : Int, t = (n : Int) % 500 := ⟨_, rfl⟩
      have ht0 : 0 ≤ t := by omega
      have ht1 : t < 500 := by omega
      have Hfour := hid (cap_four t ht0 ht1)
      have hs4 : Sl intL (w4.alloc (.cells #[.int .i64 (1000 - t), .int .i64 t, .int .i64 0, .int .i64 0] 3)) (some ⟨w4.heap.size, 0, none⟩) 4 [1000 - t, t, 0, 0] := Sl.lit intL w4 _ _ 4 _ (by simp [intL]) rfl (by omega)
      have Hs4 := hid hs4
      have hd9 : decide (capF ys u = capF ys u) = true := by simp
      have hda : decide (([250, 250, 250, 250] : List Int) = [250, 250, 250, 250]) = true := by simp
      have hm : ((n : Int) % 500) = t := ht.symm
      have Hm := hid hm
      have hrem : (n : Int).tmod 500 = t := by rw [Int.tmod_eq_emod_of_nonneg (by omega)]; exact hm
      clear hs4 ht
      go_wp2_with fail
      refine (implC 250 _ 4 4 _ _ Hs4.out).mono ?_
      rintro e w5 ⟨a5, n5, c5, rfl, ho5, hc5, hg5⟩
      unfold val at ho5
      rw [Hfour.out] at ho5
      have Ho5 := hid ho5
      have Hg5 := hid (gr_trans0 (gr_alloc Hg4.out _) hg5)
      have How6 := hid (How5.out.keep0 (gr_trans0 (gr_alloc (gr0 _) _) hg5))
      have Hl5 := hid (Sl.lit intL w5 #[.int .i64 250, .int .i64 250, .int .i64 250, .int .i64 250] 3 4 [250, 250, 250, 250] (by simp [intL]) rfl (by omega))
      clear ho5 hg5 hm hrem Hs4
      go_wp2_with fail
      refine (equalInts_any a5 _ n5 4 c5 4 _ _ _ (Ho5.out.sl.keep0 (gr_alloc (gr0 _) _)) Hl5.out).mono ?_
      rintro e w6 ⟨rfl, hg6⟩
      have Hg6 := hid (gr_trans0 (gr_alloc Hg5.out _) hg6)
      have How7 := hid (How6.out.keep0 (gr_trans0 (gr_alloc (gr0 _) _) hg6))
      clear hg6
      by_cases hb : 1000 < u * (nw : Int)
      · have hbd : decide (1000 < u * (nw : Int)) = true := by simpa using hb
        go_wp2_with fail
        go_ret
        exact ⟨rfl, Hg6.out⟩
      · have hbd : decide (1000 < u * (nw : Int)) = false := by simpa using hb
        clear hb
        go_wp2_with fail
        refine (implC u aw nw cw _ w6 How7.out.sl).mono ?_
        rintro e w7 ⟨a7, n7, c7, rfl, ho7, hc7, hg7⟩
        unfold val at ho7
        rw [F6.out] at ho7
        have Ho7 := hid ho7
        have How8 := hid (How7.out.keep0 hg7)
        have Hg7 := hid (gr_trans0 Hg6.out hg7)
        clear ho7 hg7
        go_wp2_with fail
        refine (equalInts_any aw a7 nw n7 cw c7 _ _ w7 How8.out.sl Ho7.out.sl).mono ?_
        rintro e w8 ⟨rfl, hg8⟩
        have Hg8 := hid (gr_trans0 Hg7.out hg8)
        clear hg8
        go_wp2_with fail
        go_ret
        exact ⟨rfl, Hg8.out⟩

set_option maxRecDepth 100000 in
theorem lifted (os : Os) (started : os.Started) (H : Type) (enc : TypeId × Value → H) :
    ReturnsInHanded {} Try.checked os 10 .any (Rows.fnCapWeightsEqualSpec.pre6 enc Try.prog Try.f10 Rows.fnCapWeightsEqualRow.domain false) (Rows.fnCapWeightsEqualSpec.post enc Try.prog Try.f10 false true false false) := by
  refine returnsInHanded_of_change (C := Try.checked) Try.own started (by kernel_rfl) Try.func10
    (ChangeSpec.witness6 (enc := enc) (C := Try.checked) false ⟨#[], #[.slice none 0 0], []⟩ 8 (by kernel_rfl) (by kernel_rfl) (by kernel_rfl) (by kernel_rfl)) ?_
  intro W base args ds gs before hval0 hW _ _
  have hval : ∀ (j : Nat) t v, Try.f10.params[j]? = some t → args[j]? = some v → Value.okWide Try.prog W .any base t v := hval0
  have hW' := hW
  obtain ⟨p, q, hA0, hV, rfl, hfz, hnd⟩ := hW
  have hA : DataW.TrodAll enc Try.prog W 0 (fun _ => true) true Try.f10.params.toList args.toList ds p := hA0
  rw [Try.params10] at hA hval
  have hA2 := hA
  obtain ⟨v0, vs0, d0, ds0, p0, q0, hargs, rfl, rfl, h0, r0⟩ := trodAll_cons hA
  obtain ⟨rfl, rfl, rfl⟩ := trodAll_nil r0
  obtain rfl : args = #[v0] := by cases args; simp_all
  obtain ⟨rfl, rfl⟩ := trodVars_none hV
  have hlt : ∀ x ∈ (p0 ++ []) ++ [], x.block < W.heap.size := fun x hx => hW'.lt x hx
  obtain ⟨a0, n0, cap0, rfl⟩ := okWide_slice Try.underlying28 (hval 0 28 v0 rfl rfl)
  obtain ⟨fuel0, hf0⟩ := h0
  obtain ⟨xs0, hs0, hc0, hw0⟩ := sl_ints u8L (fun _ => rfl) rfl Try.underlying28 Try.underlying5 Try.cellsU8 hf0
  refine (walk a0 n0 cap0 xs0 W hs0 hc0 (fun z hz => u8_range (hw0 z hz))).mono fun e W' ⟨he, hg⟩ => ?_
  subst he
  have hb := below_of_gr hg
  refine ⟨_, rfl, _, _, _, [], p0 ++ [], [], hW', ?_, ?_, rfl, hb.frame _, fun h => by cases h⟩
  · exact trodAll_mk1 (shut_bool Try.underlying4 _)
  · exact args_stay hb _ _ _ _ hA2 (fun x hx => hlt x (by simpa using hx)) (by intro t ht; simp at ht; subst ht; exact ⟨by kernel_rfl, of_decide_eq_true (by kernel_rfl)⟩)

set_option maxRecDepth 100000 in
theorem closed : joinedFacts Try.pinned.checked.prog 10 Try.f10 Rows.fnCapWeightsEqualSpec Rows.fnCapWeightsEqualRow = true := by
  rw [joinedFacts, show Try.pinned.checked.prog.mayEnter = true from Try.enters, show Try.pinned.checked.prog.liftsFinal = false from Try.lifts, show Try.pinned.checked.prog.make = some .cut from Try.cut]
  kernel_rfl

theorem holds : Rows.FnCapWeightsEqualSaid :=
  OpenClaim.holds_of_wide 10 Try.f10 rfl rfl rfl rfl rfl rfl rfl ⟨rfl, rfl, rfl, rfl, rfl⟩ rfl rfl rfl rfl rfl (by kernel_rfl) Try.func10 closed
    (of_decide_eq_true (by kernel_rfl)) (by unfold Func.isWrapper; first | (rw [if_pos (by decide +kernel)]; kernel_rfl) | (rw [if_neg (by decide +kernel)]; exact ⟨rfl, rfl⟩))
    (fun os started H enc _ => lifted os started H enc)

end FnCapWeightsEqual
end Go.Proofs.Ytecboohippbliaa
