/- For every input, FnAllotBidsOrder returns true: the program's AllotBids agrees with the reference's, and while a bid does not get all that it wants, no bid with a greater yield gets anything. No condition. -/
import Derived.Test.YtecboohippbliaaRows
import Derived.Test.YtecboohippbliaaSpecAllot2
import Derived.Test.YtecboohippbliaaDrawBids
import Derived.Test.YtecboohippbliaaInts
import Derived.Test.YtecboohippbliaaFrame
import Derived.ProofKit
namespace Go.Proofs.Ytecboohippbliaa
open Go.ChangeShapes Go.WideShapes Go.ChangeAt Go.RowKit
namespace FnAllotBidsOrder

theorem order_law (ys : List Bid) (u : Int) (i k : Nat) (x y : Bid) (zi zk : Int) (hx : ys[i]? = some x) (hy : ys[k]? = some y) (hzi : (allotBidsF ys u)[i]? = some zi) (hzk : (allotBidsF ys u)[k]? = some zk) (h1 : zi < x.many) (h2 : x.yield < y.yield) : ¬ 0 < zk := by
  obtain ⟨f1, f2, f3⟩ := allotBids_open ys u (by have := lt_of_at hzi; omega)
  obtain ⟨z1, a1, a2, a3, a4, a5⟩ := allot_each ys u f1 i x hx
  obtain ⟨z2, b1, b2, b3, b4, b5⟩ := allot_each ys u f1 k y hy
  rw [f2] at hzi hzk
  rw [a1] at hzi; rw [b1] at hzk
  obtain rfl := Option.some.inj hzi
  obtain rfl := Option.some.inj hzk
  have hA : ¬ caseA (stopF ys u) x = true := fun h => by have := a4 h; omega
  have hB : caseA (stopF ys u) y = false ∧ atStop (stopF ys u) y = false := by
    unfold caseA at hA
    unfold caseA atStop
    simp only [Bool.or_eq_true, decide_eq_true_eq] at hA
    simp only [Bool.or_eq_false_iff, Bool.and_eq_false_iff, decide_eq_false_iff_not]
    omega
  have := b5 hB.1 hB.2
  omega

set_option maxRecDepth 100000 in
set_option maxHeartbeats 1000000 in
theorem walk (a : Option Addr) (n cap : Nat) (xs : List Int) (w : World) (hs : Sl u8L w a n xs) (hcap : n ≤ cap) (hx : ∀ x ∈ xs, 0 ≤ x ∧ x ≤ 255) :
    Calls Try.prog 15 #[.slice a n cap] w fun e w' => e = .returned (.bool true) ∧ w.grownBy w' none := by
  have Hx := hid hx; clear hx
  have Hs := hid hs; clear hs
  by_cases hn : 1048576 < n
  · go_enter Try.func15, Try.ntmps15
    go_wp2_with fail
    go_ret
    exact ⟨rfl, gr_refl _ _⟩
  · go_enter Try.func15, Try.ntmps15
    go_wp2_with fail
    refine (DrawAllotBids_any a n cap xs w Hs.out hcap Hx.out).mono ?_
    rintro e w1 ⟨b, l, c, ys, u, rfl, hu, hy, hc, hl, hg⟩
    have hd : decide (allotBidsF ys u = allotBidsF ys u) = true := by simp
    have Hy := hid hy; clear hy
    have Hg := hid hg; clear hg
    go_wp2_with fail
    refine (AllotBids_any b l c ys u w1 Hy.out).mono ?_
    rintro e w2 ⟨aw, nw, cw, rfl, how, hcw, hg2⟩
    have How := hid how; clear how
    have Hy2 := hid (Hy.out.keep0 hg2)
    have Hg2 := hid (gr_trans0 Hg.out hg2); clear hg2
    go_wp2_with fail
    refine (SpecAllotBids_any b l c ys u w2 Hy2.out).mono ?_
    rintro e w3 ⟨a3, ns, cs, rfl, hos, hcs, hg3⟩
    have Hos := hid hos; clear hos
    have How3 := hid (How.out.keep0 hg3)
    have Hy3 := hid (Hy2.out.keep0 hg3)
    have Hg3 := hid (gr_trans0 Hg2.out hg3); clear hg3
    go_wp2_with fail
    refine (equalInts_any aw a3 nw ns cw cs _ _ w3 How3.out.sl Hos.out.sl).mono ?_
    rintro e w4 ⟨rfl, hg4⟩
    have How4 := hid (How3.out.keep0 hg4)
    have Hy4 := hid (Hy3.out.keep0 hg4)
    have Hg4 := hid (gr_trans0 Hg3.out hg4); clear hg4
    clear How How3 Hy Hy2 Hy3 Hg Hg2 Hg3 Hos
    by_cases hll : nw = l
    · subst hll
      clear hu hd
      have hb1 : ((nw : Int) != nw) = false := by simp
      go_wp2_with fail
      go_loopw [6] (fun i wr => ∃ k : Nat, k ≤ nw ∧ i = .int .i64 k ∧ w4.grownBy wr none) (fun i _ => nw - (intOf i).toNat)
      case atStart => exact ⟨0, by omega, rfl, gr_refl _ _⟩
      case round =>
        obtain ⟨i, hi, rfl, hgi⟩ := hrel
        have Hgi := hid hgi; clear hgi
        by_cases hlt : i < nw
        · have hi2 : (i : Int) < nw := by omega
          have hi3 : (0 : Int) ≤ i := by omega
          go_wp2_with fail
          go_loopw [7] (fun j wr => ∃ k : Nat, k ≤ nw ∧ j = .int .i64 k ∧ w4.grownBy wr none) (fun j _ => nw - (intOf j).toNat)
          case atStart => exact ⟨0, by omega, rfl, Hgi.out⟩
          case round =>
            obtain ⟨k, hk, rfl, hgk⟩ := hrel
            by_cases hlk : k < nw
            · have hk2 : (k : Int) < nw := by omega
              have hk3 : (0 : Int) ≤ k := by omega
              obtain ⟨b1, o1, x, rfl, hx1, cx0, cx1⟩ := bid_at (Hy4.out.keep0 hgk) i hlt
              obtain ⟨b2, o2, y, e2, hy1, cy0, cy1⟩ := bid_at (Hy4.out.keep0 hgk) k hlk
              simp only [Option.some.injEq, Addr.mk.injEq, and_true] at e2
              obtain ⟨rfl, rfl⟩ := e2
              obtain ⟨b3, o3, zi, rfl, hzi, di⟩ := int_at (How4.out.sl.keep0 hgk) i hlt
              obtain ⟨b4, o4, zk, e4, hzk, dk⟩ := int_at (How4.out.sl.keep0 hgk) k hlk
              simp only [Option.some.injEq, Addr.mk.injEq, and_true] at e4
              obtain ⟨rfl, rfl⟩ := e4
              have Hm := hid (order_law ys u i k x y zi zk hx1 hy1 hzi hzk)
              have Hgk := hid hgk; clear hgk
              clear hx1 hy1 hzi hzk
              by_cases h1 : zi < x.many
              · by_cases h2 : x.yield < y.yield
                · have h3 := Hm.out h1 h2
                  have h3b : decide (0 < zk) = false := by simp; omega
                  go_wp2_with fail
                  go_quiet (fail)
                  have Hg9 := hid (gr_drewN Hgk.out nq)
                  go_wp2
                  go_roundw
                  case rel => exact ⟨k + 1, by omega, by go_num, Hg9.out⟩
                  case measure => simp [intOf]; omega
                · have h2b : decide (x.yield < y.yield) = false := by simpa using h2
                  go_wp2_with fail
                  go_quiet (fail)
                  have Hg9 := hid (gr_drewN Hgk.out nq)
                  go_wp2
                  go_roundw
                  case rel => exact ⟨k + 1, by omega, by go_num, Hg9.out⟩
                  case measure => simp [intOf]; omega
              · have h1b : decide (zi < x.many) = false := by simpa using h1
                go_wp2_with fail
                go_quiet (fail)
                have Hg9 := hid (gr_drewN Hgk.out nq)
                go_wp2
                go_roundw
                case rel => exact ⟨k + 1, by omega, by go_num, Hg9.out⟩
                case measure => simp [intOf]; omega
            · have Hgk := hid hgk; clear hgk
              go_wp2
              go_roundw
              case rel => exact ⟨i + 1, by omega, by go_num, Hgk.out⟩
              case measure => simp [intOf]; omega
        · go_wp2
          go_ret
          exact ⟨rfl, gr_trans0 Hg4.out Hgi.out⟩
    · have hb1 : ((nw : Int) != l) = true := by simp; omega
      go_wp2_with fail
      refine (SpecAllotBids_any b l c ys u w4 Hy4.out).mono ?_
      rintro e w5 ⟨a3', ns', cs', rfl, hos', hcs', hg5⟩
      have Hos5 := hid hos'; clear hos'
      have How5 := hid (How4.out.keep0 hg5)
      have Hg5 := hid (gr_trans0 Hg4.out hg5); clear hg5
      go_wp2_with fail
      refine (equalInts_any aw a3' nw ns' cw cs' _ _ w5 How5.out.sl Hos5.out.sl).mono ?_
      rintro e w6 ⟨rfl, hg6⟩
      have Hg6 := hid (gr_trans0 Hg5.out hg6); clear hg6
      go_wp2_with fail
      go_ret
      exact ⟨rfl, Hg6.out⟩

set_option maxRecDepth 100000 in
theorem lifted (os : Os) (started : os.Started) (H : Type) (enc : TypeId × Value → H) :
    ReturnsInHanded {} Try.checked os 15 .any (Rows.fnAllotBidsOrderSpec.pre6 enc Try.prog Try.f15 Rows.fnAllotBidsOrderRow.domain false) (Rows.fnAllotBidsOrderSpec.post enc Try.prog Try.f15 false true false false) := by
  refine returnsInHanded_of_change (C := Try.checked) Try.own started (by kernel_rfl) Try.func15
    (ChangeSpec.witness6 (enc := enc) (C := Try.checked) false ⟨#[], #[.slice none 0 0], []⟩ 8 (by kernel_rfl) (by kernel_rfl) (by kernel_rfl) (by kernel_rfl)) ?_
  intro W base args ds gs before hval0 hW _ _
  have hval : ∀ (j : Nat) t v, Try.f15.params[j]? = some t → args[j]? = some v → Value.okWide Try.prog W .any base t v := hval0
  have hW' := hW
  obtain ⟨p, q, hA0, hV, rfl, hfz, hnd⟩ := hW
  have hA : DataW.TrodAll enc Try.prog W 0 (fun _ => true) true Try.f15.params.toList args.toList ds p := hA0
  rw [Try.params15] at hA hval
  have hA2 := hA
  obtain ⟨v0, vs0, d0, ds0, p0, q0, hargs, rfl, rfl, h0, r0⟩ := trodAll_cons hA
  obtain ⟨rfl, rfl, rfl⟩ := trodAll_nil r0
  obtain rfl : args = #[v0] := by cases args; simp_all
  obtain ⟨rfl, rfl⟩ := trodVars_none hV
  have hlt : ∀ x ∈ (p0 ++ []) ++ [], x.block < W.heap.size := fun x hx => hW'.lt x hx
  obtain ⟨a0, n0, cap0, rfl⟩ := okWide_slice Try.underlying28 (hval 0 28 v0 rfl rfl)
  obtain ⟨fuel0, hf0⟩ := h0
  obtain ⟨xs0, hs0, hc0, hw0⟩ := sl_ints u8L (fun _ => rfl) rfl Try.underlying28 Try.underlying5 Try.cellsU8 hf0
  refine (walk a0 n0 cap0 xs0 W hs0 hc0 (fun z hz => u8_range (hw0 z hz))).mono fun e W' ⟨he, hg⟩ => ?_
  subst he
  have hb := below_of_gr hg
  refine ⟨_, rfl, _, _, _, [], p0 ++ [], [], hW', ?_, ?_, rfl, hb.frame _, fun h => by cases h⟩
  · exact trodAll_mk1 (shut_bool Try.underlying4 _)
  · exact args_stay hb _ _ _ _ hA2 (fun x hx => hlt x (by simpa using hx)) (by intro t ht; simp at ht; subst ht; exact ⟨by kernel_rfl, of_decide_eq_true (by kernel_rfl)⟩)

set_option maxRecDepth 100000 in
theorem closed : joinedFacts Try.pinned.checked.prog 15 Try.f15 Rows.fnAllotBidsOrderSpec Rows.fnAllotBidsOrderRow = true := by
  rw [joinedFacts, show Try.pinned.checked.prog.mayEnter = true from Try.enters, show Try.pinned.checked.prog.liftsFinal = false from Try.lifts, show Try.pinned.checked.prog.make = some .cut from Try.cut]
  kernel_rfl

theorem holds : Rows.FnAllotBidsOrderSaid :=
  OpenClaim.holds_of_wide 15 Try.f15 rfl rfl rfl rfl rfl rfl rfl ⟨rfl, rfl, rfl, rfl, rfl⟩ rfl rfl rfl rfl rfl (by kernel_rfl) Try.func15 closed
    (of_decide_eq_true (by kernel_rfl)) (by unfold Func.isWrapper; first | (rw [if_pos (by decide +kernel)]; kernel_rfl) | (rw [if_neg (by decide +kernel)]; exact ⟨rfl, rfl⟩))
    (fun os started H enc _ => lifted os started H enc)

end FnAllotBidsOrder
end Go.Proofs.Ytecboohippbliaa
