/- For every input, FnAllotBids returns true: the program's AllotBids agrees with the reference's, no bid gets more than it wants, and together they get the bonds, or all that they want. No condition. -/
import Derived.Test.YtecboohippbliaaRows
import Derived.Test.YtecboohippbliaaSpecAllot2
import Derived.Test.YtecboohippbliaaDrawBids
import Derived.Test.YtecboohippbliaaInts
import Derived.Test.YtecboohippbliaaFrame
import Derived.ProofKit
namespace Go.Proofs.Ytecboohippbliaa
open Go.ChangeShapes Go.WideShapes Go.ChangeAt Go.RowKit
namespace FnAllotBids

set_option maxRecDepth 100000 in
set_option maxHeartbeats 1000000 in
theorem walk (a : Option Addr) (n cap : Nat) (xs : List Int) (w : World) (hs : Sl u8L w a n xs) (hcap : n ≤ cap) (hx : ∀ x ∈ xs, 0 ≤ x ∧ x ≤ 255) :
    Calls Try.prog 16 #[.slice a n cap] w fun e w' => e = .returned (.bool true) ∧ w.grownBy w' none := by
  have Hx := hid hx; clear hx
  have Hs := hid hs; clear hs
  by_cases hn : 1048576 < n
  · go_enter Try.func16, Try.ntmps16
    go_wp2_with fail
    go_ret
    exact ⟨rfl, gr_refl _ _⟩
  · go_enter Try.func16, Try.ntmps16
    go_wp2_with fail
    refine (DrawAllotBids_any a n cap xs w Hs.out hcap Hx.out).mono ?_
    rintro e w1 ⟨b, l, c, ys, u, rfl, hu, hy, hc, hl, hg⟩
    have hd : decide (allotBidsF ys u = allotBidsF ys u) = true := by simp
    have Hy := hid hy; clear hy
    have Hg := hid hg; clear hg
    go_wp2_with fail
    refine (AllotBids_any b l c ys u w1 Hy.out).mono ?_
    rintro e w2 ⟨aw, nw, cw, rfl, how, hcw, hg2⟩
    have How := hid how; clear how
    have Hy2 := hid (Hy.out.keep0 hg2)
    have Hg2 := hid (gr_trans0 Hg.out hg2); clear hg2
    go_wp2_with fail
    refine (SpecAllotBids_any b l c ys u w2 Hy2.out).mono ?_
    rintro e w3 ⟨a3, ns, cs, rfl, hos, hcs, hg3⟩
    have Hos := hid hos; clear hos
    have How3 := hid (How.out.keep0 hg3)
    have Hy3 := hid (Hy2.out.keep0 hg3)
    have Hg3 := hid (gr_trans0 Hg2.out hg3); clear hg3
    go_wp2_with fail
    refine (equalInts_any aw a3 nw ns cw cs _ _ w3 How3.out.sl Hos.out.sl).mono ?_
    rintro e w4 ⟨rfl, hg4⟩
    have How4 := hid (How3.out.keep0 hg4)
    have Hy4 := hid (Hy3.out.keep0 hg4)
    have Hg4 := hid (gr_trans0 Hg3.out hg4); clear hg4
    clear How How3 Hy Hy2 Hy3 Hg Hg2 Hg3 Hos
    by_cases h0 : nw = 0
    · subst h0
      go_wp2_with fail
      refine (SpecAllotBids_any b l c ys u w4 Hy4.out).mono ?_
      rintro e w5 ⟨a3', ns', cs', rfl, hos', hcs', hg5⟩
      have Hos5 := hid hos'; clear hos'
      have How5 := hid (How4.out.keep0 hg5)
      have Hg5 := hid (gr_trans0 Hg4.out hg5); clear hg5
      go_wp2_with fail
      refine (equalInts_any aw a3' 0 ns' cw cs' _ _ w5 How5.out.sl Hos5.out.sl).mono ?_
      rintro e w6 ⟨rfl, hg6⟩
      have Hg6 := hid (gr_trans0 Hg5.out hg6); clear hg6
      go_wp2_with fail
      go_ret
      exact ⟨rfl, Hg6.out⟩
    · have hb0 : ((nw : Int) == 0) = false := by simp; omega
      have hnl := How4.out.len
      have hyl := Hy4.out.len
      obtain ⟨f1, f2, f3⟩ := allotBids_open ys u (by omega)
      obtain rfl : nw = l := by omega
      obtain ⟨g1, g2, g3, g4, g5⟩ := auction_facts ys u f1
      have Heach : Hid (∀ (i : Nat) (x : Bid) (z : Int), ys[i]? = some x → (allotBidsF ys u)[i]? = some z → 0 ≤ z ∧ z ≤ x.many) := hid (fun i x z hx hz => by
        obtain ⟨z', h1, h2, h3, _⟩ := allot_each ys u f1 i x hx
        rw [f2, h1] at hz
        obtain rfl := Option.some.inj hz
        exact ⟨h2, h3⟩)
      have Hsum : Hid (sumI (allotBidsF ys u) = min u (manyF ys)) := hid (by rw [f2]; exact allot_sum ys u f1)
      have Hsb2 : Hid (∀ k, -9223372036854775808 ≤ sumI ((allotBidsF ys u).take k) ∧ sumI ((allotBidsF ys u).take k) ≤ 9223372036854775807) := hid (fun k => by
        have h := sumI_bound ((allotBidsF ys u).take k) 0 9999 (fun z hz => by
          obtain ⟨i, hi⟩ := List.getElem?_of_mem (List.mem_of_mem_take hz)
          have hil := lt_of_at hi
          have hx : ys[i]? = some (ys[i]'(by omega)) := by simp
          have h1 := Heach.out i _ z hx hi
          have h2 := g5 _ (List.mem_of_getElem? hx)
          omega)
        have h2 : ((allotBidsF ys u).take k).length ≤ (allotBidsF ys u).length := by rw [List.length_take]; omega
        omega)
      have G5 := hid g5
      have hmin : ∀ v : Int, (min u v == min u v) = true := fun v => by simp
      clear f1 f2 f3 g4 g5 hd hnl
      go_wp2_with fail
      go_loopw [6, 7] (fun q i wr => ∃ (k : Nat) (s : Int), k ≤ nw ∧ i = .int .i64 k ∧ q = .int .i64 s ∧ s = manyF (ys.take k) ∧ 0 ≤ s ∧ s ≤ 9999 * k ∧ w4.grownBy wr none) (fun _ i _ => nw - (intOf i).toNat)
      case atStart => exact ⟨0, 0, by omega, rfl, rfl, rfl, by omega, by omega, gr_refl _ _⟩
      case round =>
        obtain ⟨i, s, hi, rfl, rfl, hsum, hs0, hs1, hgi⟩ := hrel
        by_cases hlt : i < nw
        · have hi2 : (i : Int) < nw := by omega
          have hi3 : (0 : Int) ≤ i := by omega
          obtain ⟨b1, o1, x, rfl, hxi, c0, c1⟩ := bid_at (Hy4.out.keep0 hgi) i hlt
          obtain ⟨b3, o3, zi, rfl, hzi, di⟩ := int_at (How4.out.sl.keep0 hgi) i hlt
          have hxb := G5.out x (List.mem_of_getElem? hxi)
          obtain ⟨t1, t2⟩ := Heach.out i x zi hxi hzi
          have Hs1 : Hid (s + x.many = manyF (ys.take (i + 1))) := hid (by rw [hsum]; unfold manyF; rw [take_snoc _ _ _ hxi, List.map_append, sumI_append]; simp [sumI])
          have t1b : decide (zi < 0) = false := by simp; omega
          have t2b : decide (x.many < zi) = false := by simp; omega
          have Hgi := hid hgi; clear hgi hxi hzi hsum t1 t2
          go_wp2_with fail
          go_quiet (fail)
          have Hg9 := hid (gr_drewN Hgi.out nq)
          go_wp2
          go_roundw
          case rel => exact ⟨i + 1, s + x.many, by omega, by go_num, rfl, Hs1.out, by omega, by push_cast; omega, Hg9.out⟩
          case measure => simp [intOf]; omega
        · have Hgi := hid hgi; clear hgi
          have hsm : s = manyF ys := by
            obtain rfl : i = nw := by omega
            rw [take_len _ _ hyl] at hsum
            exact hsum
          have Hsm := hid hsm; clear hsm hsum
          go_wp2_with fail
          refine (sum_any aw nw cw _ wr (How4.out.sl.keep0 Hgi.out) Hsb2.out).mono ?_
          rintro e w6 ⟨rfl, rfl⟩
          rw [Hsum.out, ← Hsm.out]
          have hm2 := hmin s
          go_wp2_with fail
          all_goals (go_ret; exact ⟨rfl, gr_trans0 Hg4.out Hgi.out⟩)

set_option maxRecDepth 100000 in
theorem lifted (os : Os) (started : os.Started) (H : Type) (enc : TypeId × Value → H) :
    ReturnsInHanded {} Try.checked os 16 .any (Rows.fnAllotBidsSpec.pre6 enc Try.prog Try.f16 Rows.fnAllotBidsRow.domain false) (Rows.fnAllotBidsSpec.post enc Try.prog Try.f16 false true false false) := by
  refine returnsInHanded_of_change (C := Try.checked) Try.own started (by kernel_rfl) Try.func16
    (ChangeSpec.witness6 (enc := enc) (C := Try.checked) false ⟨#[], #[.slice none 0 0], []⟩ 8 (by kernel_rfl) (by kernel_rfl) (by kernel_rfl) (by kernel_rfl)) ?_
  intro W base args ds gs before hval0 hW _ _
  have hval : ∀ (j : Nat) t v, Try.f16.params[j]? = some t → args[j]? = some v → Value.okWide Try.prog W .any base t v := hval0
  have hW' := hW
  obtain ⟨p, q, hA0, hV, rfl, hfz, hnd⟩ := hW
  have hA : DataW.TrodAll enc Try.prog W 0 (fun _ => true) true Try.f16.params.toList args.toList ds p := hA0
  rw [Try.params16] at hA hval
  have hA2 := hA
  obtain ⟨v0, vs0, d0, ds0, p0, q0, hargs, rfl, rfl, h0, r0⟩ := trodAll_cons hA
  obtain ⟨rfl, rfl, rfl⟩ := trodAll_nil r0
  obtain rfl : args = #[v0] := by cases args; simp_all
  obtain ⟨rfl, rfl⟩ := trodVars_none hV
  have hlt : ∀ x ∈ (p0 ++ []) ++ [], x.block < W.heap.size := fun x hx => hW'.lt x hx
  obtain ⟨a0, n0, cap0, rfl⟩ := okWide_slice Try.underlying28 (hval 0 28 v0 rfl rfl)
  obtain ⟨fuel0, hf0⟩ := h0
  obtain ⟨xs0, hs0, hc0, hw0⟩ := sl_ints u8L (fun _ => rfl) rfl Try.underlying28 Try.underlying5 Try.cellsU8 hf0
  refine (walk a0 n0 cap0 xs0 W hs0 hc0 (fun z hz => u8_range (hw0 z hz))).mono fun e W' ⟨he, hg⟩ => ?_
  subst he
  have hb := below_of_gr hg
  refine ⟨_, rfl, _, _, _, [], p0 ++ [], [], hW', ?_, ?_, rfl, hb.frame _, fun h => by cases h⟩
  · exact trodAll_mk1 (shut_bool Try.underlying4 _)
  · exact args_stay hb _ _ _ _ hA2 (fun x hx => hlt x (by simpa using hx)) (by intro t ht; simp at ht; subst ht; exact ⟨by kernel_rfl, of_decide_eq_true (by kernel_rfl)⟩)

set_option maxRecDepth 100000 in
theorem closed : joinedFacts Try.pinned.checked.prog 16 Try.f16 Rows.fnAllotBidsSpec Rows.fnAllotBidsRow = true := by
  rw [joinedFacts, show Try.pinned.checked.prog.mayEnter = true from Try.enters, show Try.pinned.checked.prog.liftsFinal = false from Try.lifts, show Try.pinned.checked.prog.make = some .cut from Try.cut]
  kernel_rfl

theorem holds : Rows.FnAllotBidsSaid :=
  OpenClaim.holds_of_wide 16 Try.f16 rfl rfl rfl rfl rfl rfl rfl ⟨rfl, rfl, rfl, rfl, rfl⟩ rfl rfl rfl rfl rfl (by kernel_rfl) Try.func16 closed
    (of_decide_eq_true (by kernel_rfl)) (by unfold Func.isWrapper; first | (rw [if_pos (by decide +kernel)]; kernel_rfl) | (rw [if_neg (by decide +kernel)]; exact ⟨rfl, rfl⟩))
    (fun os started H enc _ => lifted os started H enc)

end FnAllotBids
end Go.Proofs.Ytecboohippbliaa
