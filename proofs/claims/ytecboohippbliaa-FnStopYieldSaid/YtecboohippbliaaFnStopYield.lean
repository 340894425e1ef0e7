/- For every input, FnStopYield returns true: the program's StopYield agrees with the reference's; the bids up to it have enough bonds, and those below it have not. No condition. -/
import Derived.Test.YtecboohippbliaaRows
import Derived.Test.YtecboohippbliaaStop
import Derived.Test.YtecboohippbliaaDrawBids
import Derived.Test.YtecboohippbliaaFrame
import Derived.ProofKit
namespace Go.Proofs.Ytecboohippbliaa
open Go.ChangeShapes Go.WideShapes Go.ChangeAt Go.RowKit
namespace FnStopYield

theorem stop_law (ys : List Bid) (m : Int) (h0 : 0 ≤ stopYieldF ys m) : (∀ x ∈ ys, 1 ≤ x.many ∧ x.many ≤ 9999) ∧ ys.length ≤ 8 ∧ m ≤ belowF ys (stopYieldF ys m) ∧ belowLtF ys (stopYieldF ys m) < m := by
  by_cases ha : auctionOk ys m = true
  · obtain ⟨f1, f2, f3, f4, f5⟩ := auction_facts ys m ha
    refine ⟨f5, f1, ?_⟩
    unfold stopYieldF at *
    rw [if_pos ha] at *
    rcases stopF_spec ys m (fun x hx => (f5 x hx).1) f2 with ⟨b, hb, e1, e2, e3⟩ | ⟨e1, e2⟩
    · rw [← e1]; exact ⟨e2, e3⟩
    · omega
  · unfold stopYieldF at h0
    rw [if_neg ha] at h0; omega

theorem belowLt_take (xs : List Bid) (y : Int) (k : Nat) (x : Bid) (hx : xs[k]? = some x) : belowLtF (xs.take (k + 1)) y = belowLtF (xs.take k) y + if x.yield < y then x.many else 0 := by
  unfold belowLtF
  rw [take_snoc _ _ _ hx, List.map_append, sumI_append]
  simp [sumI]

set_option maxRecDepth 100000 in
set_option maxHeartbeats 1000000 in
theorem walk (a : Option Addr) (n cap : Nat) (xs : List Int) (w : World) (hs : Sl u8L w a n xs) (hcap : n ≤ cap) (hx : ∀ x ∈ xs, 0 ≤ x ∧ x ≤ 255) :
    Calls Try.prog 12 #[.slice a n cap] w fun e w' => e = .returned (.bool true) ∧ w.grownBy w' none := by
  have Hx := hid hx; clear hx
  have Hs := hid hs; clear hs
  by_cases hn : 1048576 < n
  · go_enter Try.func12, Try.ntmps12
    go_wp2_with fail
    go_ret
    exact ⟨rfl, gr_refl _ _⟩
  · go_enter Try.func12, Try.ntmps12
    go_wp2_with fail
    refine (DrawStopYield_any a n cap xs w Hs.out hcap Hx.out).mono ?_
    rintro e w1 ⟨b, l, c, ys, m, rfl, hu, hy, hc, hl, hg⟩
    have Hy := hid hy; clear hy
    have Hg := hid hg; clear hg
    have Heq := hid (stopYield_eq ys m)
    go_wp2_with fail
    refine (StopYield_any b l c ys m w1 Hy.out).mono ?_
    rintro e w2 ⟨rfl, hg2⟩
    have Hy2 := hid (Hy.out.keep0 hg2)
    have Hg2 := hid (gr_trans0 Hg.out hg2); clear hg2 Hy Hg
    go_wp2_with fail
    refine (SpecStopYield_any b l c ys m w2 Hy2.out).mono ?_
    rintro e w3 ⟨rfl, rfl⟩
    rw [← Heq.out]
    obtain ⟨v, hv⟩ : ∃ v, stopYieldF ys m = v := ⟨_, rfl⟩
    rw [hv]
    have Hv := hid hv; clear hv
    have hvb : (v != v) = false := by simp
    have hve : (v == v) = true := by simp
    by_cases h0 : v < 0
    ·
      go_wp2_with fail
      refine (SpecStopYield_any b l c ys m w2 Hy2.out).mono ?_
      rintro e w3 ⟨rfl, rfl⟩
      rw [← Heq.out, Hv.out]
      go_wp2_with fail
      go_ret
      exact ⟨rfl, Hg2.out⟩
    · obtain ⟨f1, f2, f3, f4⟩ := stop_law ys m (by rw [Hv.out]; omega)
      rw [Hv.out] at f3 f4
      have hyl := Hy2.out.len
      have F1 := hid f1; have F3 := hid f3; have F4 := hid f4
      clear f1 f3 f4
      go_wp2_with fail
      go_loop [6, 7, 8] (fun p q i => ∃ (k : Nat) (s t : Int), k ≤ l ∧ i = .int .i64 k ∧ p = .int .i64 s ∧ q = .int .i64 t ∧ s = belowF (ys.take k) v ∧ t = belowLtF (ys.take k) v ∧ 0 ≤ s ∧ s ≤ 9999 * k ∧ 0 ≤ t ∧ t ≤ 9999 * k) (fun _ _ i => l - (intOf i).toNat)
      case atStart => exact ⟨0, 0, 0, by omega, rfl, rfl, rfl, rfl, rfl, by omega, by omega, by omega, by omega⟩
      case round =>
        obtain ⟨k, s, t, hk, rfl, rfl, rfl, hs, ht, b1, b2, b3, b4⟩ := hrel
        by_cases hlt : k < l
        · obtain ⟨b, off, x, rfl, hxk, c0, c1⟩ := bid_at Hy2.out k hlt
          have hxb := F1.out x (List.mem_of_getElem? hxk)
          have e1 := below_take ys v k x hxk
          have e2 := belowLt_take ys v k x hxk
          rw [← hs] at e1
          rw [← ht] at e2
          clear hxk hs ht
          by_cases hy1 : x.yield ≤ v
          · rw [if_pos hy1] at e1
            by_cases hy2 : x.yield < v
            · rw [if_pos hy2] at e2
              have E1 := hid e1; have E2 := hid e2; clear e1 e2
              go_wp2
              go_round
              case rel => exact ⟨k + 1, s + x.many, t + x.many, by omega, by go_num, rfl, rfl, E1.out.symm, E2.out.symm, by omega, by push_cast; omega, by omega, by push_cast; omega⟩
              case measure => simp [intOf]; omega
            · rw [if_neg hy2] at e2
              have E1 := hid e1; have E2 := hid e2; clear e1 e2
              go_wp2
              go_round
              case rel => exact ⟨k + 1, s + x.many, t, by omega, by go_num, rfl, rfl, E1.out.symm, by rw [E2.out, Int.add_zero], by omega, by push_cast; omega, by omega, by push_cast; omega⟩
              case measure => simp [intOf]; omega
          · rw [if_neg hy1] at e1
            rw [if_neg (by omega)] at e2
            have hy2 : ¬ x.yield < v := by omega
            have E1 := hid e1; have E2 := hid e2; clear e1 e2
            go_wp2
            go_round
            case rel => exact ⟨k + 1, s, t, by omega, by go_num, rfl, rfl, by rw [E1.out, Int.add_zero], by rw [E2.out, Int.add_zero], by omega, by push_cast; omega, by omega, by push_cast; omega⟩
            case measure => simp [intOf]; omega
        · have hF : m ≤ s ∧ t < m := by
            obtain rfl : k = l := by omega
            rw [take_len _ _ hyl] at hs ht
            rw [hs, ht]
            exact ⟨F3.out, F4.out⟩
          obtain ⟨g1, g2⟩ := hF
          clear hs ht
          go_wp2
          go_ret
          exact ⟨rfl, Hg2.out⟩

set_option maxRecDepth 100000 in
theorem lifted (os : Os) (started : os.Started) (H : Type) (enc : TypeId × Value → H) :
    ReturnsInHanded {} Try.checked os 12 .any (Rows.fnStopYieldSpec.pre6 enc Try.prog Try.f12 Rows.fnStopYieldRow.domain false) (Rows.fnStopYieldSpec.post enc Try.prog Try.f12 false true false false) := by
  refine returnsInHanded_of_change (C := Try.checked) Try.own started (by kernel_rfl) Try.func12
    (ChangeSpec.witness6 (enc := enc) (C := Try.checked) false ⟨#[], #[.slice none 0 0], []⟩ 8 (by kernel_rfl) (by kernel_rfl) (by kernel_rfl) (by kernel_rfl)) ?_
  intro W base args ds gs before hval0 hW _ _
  have hval : ∀ (j : Nat) t v, Try.f12.params[j]? = some t → args[j]? = some v → Value.okWide Try.prog W .any base t v := hval0
  have hW' := hW
  obtain ⟨p, q, hA0, hV, rfl, hfz, hnd⟩ := hW
  have hA : DataW.TrodAll enc Try.prog W 0 (fun _ => true) true Try.f12.params.toList args.toList ds p := hA0
  rw [Try.params12] at hA hval
  have hA2 := hA
  obtain ⟨v0, vs0, d0, ds0, p0, q0, hargs, rfl, rfl, h0, r0⟩ := trodAll_cons hA
  obtain ⟨rfl, rfl, rfl⟩ := trodAll_nil r0
  obtain rfl : args = #[v0] := by cases args; simp_all
  obtain ⟨rfl, rfl⟩ := trodVars_none hV
  have hlt : ∀ x ∈ (p0 ++ []) ++ [], x.block < W.heap.size := fun x hx => hW'.lt x hx
  obtain ⟨a0, n0, cap0, rfl⟩ := okWide_slice Try.underlying28 (hval 0 28 v0 rfl rfl)
  obtain ⟨fuel0, hf0⟩ := h0
  obtain ⟨xs0, hs0, hc0, hw0⟩ := sl_ints u8L (fun _ => rfl) rfl Try.underlying28 Try.underlying5 Try.cellsU8 hf0
  refine (walk a0 n0 cap0 xs0 W hs0 hc0 (fun z hz => u8_range (hw0 z hz))).mono fun e W' ⟨he, hg⟩ => ?_
  subst he
  have hb := below_of_gr hg
  refine ⟨_, rfl, _, _, _, [], p0 ++ [], [], hW', ?_, ?_, rfl, hb.frame _, fun h => by cases h⟩
  · exact trodAll_mk1 (shut_bool Try.underlying4 _)
  · exact args_stay hb _ _ _ _ hA2 (fun x hx => hlt x (by simpa using hx)) (by intro t ht; simp at ht; subst ht; exact ⟨by kernel_rfl, of_decide_eq_true (by kernel_rfl)⟩)

set_option maxRecDepth 100000 in
theorem closed : joinedFacts Try.pinned.checked.prog 12 Try.f12 Rows.fnStopYieldSpec Rows.fnStopYieldRow = true := by
  rw [joinedFacts, show Try.pinned.checked.prog.mayEnter = true from Try.enters, show Try.pinned.checked.prog.liftsFinal = false from Try.lifts, show Try.pinned.checked.prog.make = some .cut from Try.cut]
  kernel_rfl

theorem holds : Rows.FnStopYieldSaid :=
  OpenClaim.holds_of_wide 12 Try.f12 rfl rfl rfl rfl rfl rfl rfl ⟨rfl, rfl, rfl, rfl, rfl⟩ rfl rfl rfl rfl rfl (by kernel_rfl) Try.func12 closed
    (of_decide_eq_true (by kernel_rfl)) (by unfold Func.isWrapper; first | (rw [if_pos (by decide +kernel)]; kernel_rfl) | (rw [if_neg (by decide +kernel)]; exact ⟨rfl, rfl⟩))
    (fun os started H enc _ => lifted os started H enc)

end FnStopYield
end Go.Proofs.Ytecboohippbliaa
