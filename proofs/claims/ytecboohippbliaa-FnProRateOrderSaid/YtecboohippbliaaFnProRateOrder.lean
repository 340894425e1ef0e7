/- For every input, FnProRateOrder returns true: the program's ProRate agrees with the reference's, and a greater weight gets no smaller share. No condition. -/
import Derived.Test.YtecboohippbliaaRows
import Derived.Test.YtecboohippbliaaDrawInts
import Derived.Test.YtecboohippbliaaSharesFacts
import Derived.Test.YtecboohippbliaaInts
import Derived.Test.YtecboohippbliaaFrame
import Derived.ProofKit
namespace Go.Proofs.Ytecboohippbliaa
open Go.ChangeShapes Go.WideShapes Go.ChangeAt Go.RowKit
namespace FnProRateOrder

theorem specC (x : Int) (a : Option Addr) (n cap : Nat) (xs : List Int) (w : World) (hs : Sl intL w a n xs) :
    Calls Try.prog 19 #[.int .i64 x, .slice a n cap] w fun e w' => ∃ a' n' cap', e = .returned (.slice a' n' cap') ∧ Ow intL w' w.heap.size a' n' (proRateF x xs) ∧ n' ≤ cap' ∧ w.grownBy w' none := by
  rw [proRate_eq]; exact specProRate_any x a n cap xs w hs

theorem mono_law (u : Int) (ys : List Int) (i k : Nat) (xi xk zi zk : Int) (hxi : ys[i]? = some xi) (hxk : ys[k]? = some xk) (hzi : (proRateF u ys)[i]? = some zi) (hzk : (proRateF u ys)[k]? = some zk) (h : xk < xi) : ¬ zi < zk := by
  obtain ⟨e, h1, h2, h3, h4, h5, h6⟩ := proRate_open u ys (by have := lt_of_at hzi; omega)
  rw [e] at hzi hzk
  have hi := lt_of_at hxi
  have hk := lt_of_at hxk
  have g1 : ys.getD i 0 = xi := by rw [List.getD_eq_getElem?_getD, hxi]; rfl
  have g2 : ys.getD k 0 = xk := by rw [List.getD_eq_getElem?_getD, hxk]; rfl
  have g3 : (sharesF u ys).getD i 0 = zi := by rw [List.getD_eq_getElem?_getD, hzi]; rfl
  have g4 : (sharesF u ys).getD k 0 = zk := by rw [List.getD_eq_getElem?_getD, hzk]; rfl
  have := shares_mono u ys h4 h1 h5 i k hi hk (by omega)
  omega

set_option maxRecDepth 100000 in
set_option maxHeartbeats 1000000 in
theorem walk (a : Option Addr) (n cap : Nat) (xs : List Int) (w : World) (hs : Sl u8L w a n xs) (hcap : n ≤ cap) (hx : ∀ x ∈ xs, 0 ≤ x ∧ x ≤ 255) :
    Calls Try.prog 5 #[.slice a n cap] w fun e w' => e = .returned (.bool true) ∧ w.grownBy w' none := by
  have Hx := hid hx; clear hx
  have Hs := hid hs; clear hs
  by_cases hn : 1048576 < n
  · go_enter Try.func5, Try.ntmps5
    go_wp2_with fail
    go_ret
    exact ⟨rfl, gr_refl _ _⟩
  · go_enter Try.func5, Try.ntmps5
    go_wp2_with fail
    refine (DrawProRate_any a n cap xs w Hs.out hcap Hx.out).mono ?_
    rintro e w1 ⟨u, b, l, c, ys, rfl, hu, hy, hc, hl, hyb, hg⟩
    have hd : decide (proRateF u ys = proRateF u ys) = true := by simp
    have Hyb := hid hyb; clear hyb
    have Hy := hid hy; clear hy
    have Hg := hid hg; clear hg
    go_wp2_with fail
    refine (ProRate_any u b l c ys w1 Hy.out).mono ?_
    rintro e w2 ⟨aw, nw, cw, rfl, how, hcw, hg2⟩
    have How := hid how; clear how
    have Hy2 := hid (Hy.out.keep0 hg2)
    have Hg2 := hid (gr_trans0 Hg.out hg2); clear hg2
    go_wp2_with fail
    refine (specC u b l c ys w2 Hy2.out).mono ?_
    rintro e w3 ⟨a3, ns, cs, rfl, hos, hcs, hg3⟩
    have Hos := hid hos; clear hos
    have How3 := hid (How.out.keep0 hg3)
    have Hy3 := hid (Hy2.out.keep0 hg3)
    have Hg3 := hid (gr_trans0 Hg2.out hg3); clear hg3
    go_wp2_with fail
    refine (equalInts_any aw a3 nw ns cw cs _ _ w3 How3.out.sl Hos.out.sl).mono ?_
    rintro e w4 ⟨rfl, hg4⟩
    have How4 := hid (How3.out.keep0 hg4)
    have Hy4 := hid (Hy3.out.keep0 hg4)
    have Hg4 := hid (gr_trans0 Hg3.out hg4); clear hg4
    clear How How3 Hy Hy2 Hy3 Hg Hg2 Hg3 Hos
    by_cases hll : nw = l
    · subst hll
      clear Hyb hu hd
      have hb1 : ((nw : Int) != nw) = false := by simp
      go_wp2_with fail
      go_loopw [6] (fun i wr => ∃ k : Nat, k ≤ nw ∧ i = .int .i64 k ∧ w4.grownBy wr none) (fun i _ => nw - (intOf i).toNat)
      case atStart => exact ⟨0, by omega, rfl, gr_refl _ _⟩
      case round =>
        obtain ⟨i, hi, rfl, hgi⟩ := hrel
        have Hgi := hid hgi; clear hgi
        by_cases hlt : i < nw
        · have hi2 : (i : Int) < nw := by omega
          have hi3 : (0 : Int) ≤ i := by omega
          go_wp2_with fail
          go_loopw [7] (fun j wr => ∃ k : Nat, k ≤ nw ∧ j = .int .i64 k ∧ w4.grownBy wr none) (fun j _ => nw - (intOf j).toNat)
          case atStart => exact ⟨0, by omega, rfl, Hgi.out⟩
          case round =>
            obtain ⟨k, hk, rfl, hgk⟩ := hrel
            by_cases hlk : k < nw
            · have hk2 : (k : Int) < nw := by omega
              have hk3 : (0 : Int) ≤ k := by omega
              obtain ⟨b1, o1, xi, rfl, hxi, ci⟩ := int_at (Hy4.out.keep0 hgk) i hlt
              obtain ⟨b2, o2, xk, e2, hxk, ck⟩ := int_at (Hy4.out.keep0 hgk) k hlk
              simp only [Option.some.injEq, Addr.mk.injEq, and_true] at e2
              obtain ⟨rfl, rfl⟩ := e2
              obtain ⟨b3, o3, zi, rfl, hzi, di⟩ := int_at (How4.out.sl.keep0 hgk) i hlt
              obtain ⟨b4, o4, zk, e4, hzk, dk⟩ := int_at (How4.out.sl.keep0 hgk) k hlk
              simp only [Option.some.injEq, Addr.mk.injEq, and_true] at e4
              obtain ⟨rfl, rfl⟩ := e4
              have Hm := hid (mono_law u ys i k xi xk zi zk hxi hxk hzi hzk)
              have Hgk := hid hgk; clear hgk
              clear hxi hxk hzi hzk
              by_cases hgt : xk < xi
              · have hle := Hm.out hgt
                have hleb : decide (zi < zk) = false := by simpa using hle
                go_wp2_with fail
                go_quiet (fail)
                have Hg9 := hid (gr_drewN Hgk.out nq)
                go_wp2
                go_roundw
                case rel => exact ⟨k + 1, by omega, by go_num, Hg9.out⟩
                case measure => simp [intOf]; omega
              · have hgb : decide (xk < xi) = false := by simpa using hgt
                go_wp2_with fail
                go_quiet (fail)
                have Hg9 := hid (gr_drewN Hgk.out nq)
                go_wp2
                go_roundw
                case rel => exact ⟨k + 1, by omega, by go_num, Hg9.out⟩
                case measure => simp [intOf]; omega
            · have Hgk := hid hgk; clear hgk
              go_wp2
              go_roundw
              case rel => exact ⟨i + 1, by omega, by go_num, Hgk.out⟩
              case measure => simp [intOf]; omega
        · go_wp2
          go_ret
          exact ⟨rfl, gr_trans0 Hg4.out Hgi.out⟩
    · have hb1 : ((nw : Int) != l) = true := by simp; omega
      go_wp2_with fail
      refine (specC u b l c ys w4 Hy4.out).mono ?_
      rintro e w5 ⟨a3', ns', cs', rfl, hos', hcs', hg5⟩
      have Hos5 := hid hos'; clear hos'
      have How5 := hid (How4.out.keep0 hg5)
      have Hg5 := hid (gr_trans0 Hg4.out hg5); clear hg5
      go_wp2_with fail
      refine (equalInts_any aw a3' nw ns' cw cs' _ _ w5 How5.out.sl Hos5.out.sl).mono ?_
      rintro e w6 ⟨rfl, hg6⟩
      have Hg6 := hid (gr_trans0 Hg5.out hg6); clear hg6
      go_wp2_with fail
      go_ret
      exact ⟨rfl, Hg6.out⟩

set_option maxRecDepth 100000 in
theorem lifted (os : Os) (started : os.Started) (H : Type) (enc : TypeId × Value → H) :
    ReturnsInHanded {} Try.checked os 5 .any (Rows.fnProRateOrderSpec.pre6 enc Try.prog Try.f5 Rows.fnProRateOrderRow.domain false) (Rows.fnProRateOrderSpec.post enc Try.prog Try.f5 false true false false) := by
  refine returnsInHanded_of_change (C := Try.checked) Try.own started (by kernel_rfl) Try.func5
    (ChangeSpec.witness6 (enc := enc) (C := Try.checked) false ⟨#[], #[.slice none 0 0], []⟩ 8 (by kernel_rfl) (by kernel_rfl) (by kernel_rfl) (by kernel_rfl)) ?_
  intro W base args ds gs before hval0 hW _ _
  have hval : ∀ (j : Nat) t v, Try.f5.params[j]? = some t → args[j]? = some v → Value.okWide Try.prog W .any base t v := hval0
  have hW' := hW
  obtain ⟨p, q, hA0, hV, rfl, hfz, hnd⟩ := hW
  have hA : DataW.TrodAll enc Try.prog W 0 (fun _ => true) true Try.f5.params.toList args.toList ds p := hA0
  rw [Try.params5] at hA hval
  have hA2 := hA
  obtain ⟨v0, vs0, d0, ds0, p0, q0, hargs, rfl, rfl, h0, r0⟩ := trodAll_cons hA
  obtain ⟨rfl, rfl, rfl⟩ := trodAll_nil r0
  obtain rfl : args = #[v0] := by cases args; simp_all
  obtain ⟨rfl, rfl⟩ := trodVars_none hV
  have hlt : ∀ x ∈ (p0 ++ []) ++ [], x.block < W.heap.size := fun x hx => hW'.lt x hx
  obtain ⟨a0, n0, cap0, rfl⟩ := okWide_slice Try.underlying28 (hval 0 28 v0 rfl rfl)
  obtain ⟨fuel0, hf0⟩ := h0
  obtain ⟨xs0, hs0, hc0, hw0⟩ := sl_ints u8L (fun _ => rfl) rfl Try.underlying28 Try.underlying5 Try.cellsU8 hf0
  refine (walk a0 n0 cap0 xs0 W hs0 hc0 (fun z hz => u8_range (hw0 z hz))).mono fun e W' ⟨he, hg⟩ => ?_
  subst he
  have hb := below_of_gr hg
  refine ⟨_, rfl, _, _, _, [], p0 ++ [], [], hW', ?_, ?_, rfl, hb.frame _, fun h => by cases h⟩
  · exact trodAll_mk1 (shut_bool Try.underlying4 _)
  · exact args_stay hb _ _ _ _ hA2 (fun x hx => hlt x (by simpa using hx)) (by intro t ht; simp at ht; subst ht; exact ⟨by kernel_rfl, of_decide_eq_true (by kernel_rfl)⟩)

set_option maxRecDepth 100000 in
theorem closed : joinedFacts Try.pinned.checked.prog 5 Try.f5 Rows.fnProRateOrderSpec Rows.fnProRateOrderRow = true := by
  rw [joinedFacts, show Try.pinned.checked.prog.mayEnter = true from Try.enters, show Try.pinned.checked.prog.liftsFinal = false from Try.lifts, show Try.pinned.checked.prog.make = some .cut from Try.cut]
  kernel_rfl

theorem holds : Rows.FnProRateOrderSaid :=
  OpenClaim.holds_of_wide 5 Try.f5 rfl rfl rfl rfl rfl rfl rfl ⟨rfl, rfl, rfl, rfl, rfl⟩ rfl rfl rfl rfl rfl (by kernel_rfl) Try.func5 closed
    (of_decide_eq_true (by kernel_rfl)) (by unfold Func.isWrapper; first | (rw [if_pos (by decide +kernel)]; kernel_rfl) | (rw [if_neg (by decide +kernel)]; exact ⟨rfl, rfl⟩))
    (fun os started H enc _ => lifted os started H enc)

end FnProRateOrder
end Go.Proofs.Ytecboohippbliaa
