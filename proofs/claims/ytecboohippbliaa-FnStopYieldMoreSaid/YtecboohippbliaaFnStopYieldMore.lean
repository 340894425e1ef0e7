/- For every input, FnStopYieldMore returns true: the program's StopYield agrees with the reference's and does not fall with the number of bonds. No condition. -/
import Derived.Test.YtecboohippbliaaRows
import Derived.Test.YtecboohippbliaaStop
import Derived.Test.YtecboohippbliaaDrawBids
import Derived.Test.YtecboohippbliaaFrame
import Derived.ProofKit
namespace Go.Proofs.Ytecboohippbliaa
open Go.ChangeShapes Go.WideShapes Go.ChangeAt Go.RowKit
namespace FnStopYieldMore

theorem more_law (ys : List Bid) (m : Int) (h0 : 0 ≤ stopYieldF ys m) (_h1 : ¬ stopYieldF ys (m + 1) < 0) : stopYieldF ys m ≤ stopYieldF ys (m + 1) := by
  by_cases ha : auctionOk ys m = true
  · by_cases hb : auctionOk ys (m + 1) = true
    · obtain ⟨f1, f2, f3, f4, f5⟩ := auction_facts ys m ha
      unfold stopYieldF at *
      rw [if_pos ha] at *
      rw [if_pos hb] at *
      have hm : ∀ x ∈ ys, 1 ≤ x.many := fun x hx => (f5 x hx).1
      rcases stopF_spec ys m hm f2 with ⟨b, hb, e1, e2, e3⟩ | ⟨e1, e2⟩
      · rcases stopF_spec ys (m + 1) hm (by omega) with ⟨c, hc, g1, g2, g3⟩ | ⟨g1, g2⟩
        · rw [← e1, ← g1]
          by_cases hlt : c.yield < b.yield
          · have := below_lt ys c.yield b.yield hm hlt; omega
          · omega
        · omega
      · omega
    · unfold stopYieldF at _h1
      rw [if_neg hb] at _h1; omega
  · unfold stopYieldF at h0
    rw [if_neg ha] at h0; omega

theorem max_law (ys : List Bid) (m : Int) (h0 : 0 ≤ stopYieldF ys m) : 1 ≤ m ∧ m ≤ 1000000000 := by
  by_cases ha : auctionOk ys m = true
  · obtain ⟨f1, f2, f3, f4, f5⟩ := auction_facts ys m ha
    exact ⟨f2, f3⟩
  · unfold stopYieldF at h0
    rw [if_neg ha] at h0; omega

set_option maxRecDepth 100000 in
set_option maxHeartbeats 1000000 in
theorem walk (a : Option Addr) (n cap : Nat) (xs : List Int) (w : World) (hs : Sl u8L w a n xs) (hcap : n ≤ cap) (hx : ∀ x ∈ xs, 0 ≤ x ∧ x ≤ 255) :
    Calls Try.prog 13 #[.slice a n cap] w fun e w' => e = .returned (.bool true) ∧ w.grownBy w' none := by
  have Hx := hid hx; clear hx
  have Hs := hid hs; clear hs
  by_cases hn : 1048576 < n
  · go_enter Try.func13, Try.ntmps13
    go_wp2_with fail
    go_ret
    exact ⟨rfl, gr_refl _ _⟩
  · go_enter Try.func13, Try.ntmps13
    go_wp2_with fail
    refine (DrawStopYield_any a n cap xs w Hs.out hcap Hx.out).mono ?_
    rintro e w1 ⟨b, l, c, ys, m, rfl, hu, hy, hc, hl, hg⟩
    have Hy := hid hy; clear hy
    have Hg := hid hg; clear hg
    have Heq := hid (stopYield_eq ys m)
    go_wp2_with fail
    refine (StopYield_any b l c ys m w1 Hy.out).mono ?_
    rintro e w2 ⟨rfl, hg2⟩
    have Hy2 := hid (Hy.out.keep0 hg2)
    have Hg2 := hid (gr_trans0 Hg.out hg2); clear hg2 Hy Hg
    go_wp2_with fail
    refine (SpecStopYield_any b l c ys m w2 Hy2.out).mono ?_
    rintro e w3 ⟨rfl, rfl⟩
    rw [← Heq.out]
    obtain ⟨v, hv⟩ : ∃ v, stopYieldF ys m = v := ⟨_, rfl⟩
    rw [hv]
    have Hv := hid hv; clear hv
    have hvb : (v != v) = false := by simp
    have hve : (v == v) = true := by simp
    by_cases h0 : v < 0
    ·
      go_wp2_with fail
      refine (SpecStopYield_any b l c ys m w2 Hy2.out).mono ?_
      rintro e w3 ⟨rfl, rfl⟩
      rw [← Heq.out, Hv.out]
      go_wp2_with fail
      go_ret
      exact ⟨rfl, Hg2.out⟩
    · by_cases hmx : m = 1000000000
      · subst hmx
        go_wp2_with fail
        refine (SpecStopYield_any b l c ys _ w2 Hy2.out).mono ?_
        rintro e w3 ⟨rfl, rfl⟩
        rw [← Heq.out, Hv.out]
        go_wp2_with fail
        go_ret
        exact ⟨rfl, Hg2.out⟩
      · have hb1 : (m == 1000000000) = false := by simpa using hmx
        obtain ⟨f1, f2⟩ := max_law ys m (by rw [Hv.out]; omega)
        have Hm := hid (more_law ys m (by rw [Hv.out]; omega))
        have hwm : IntKind.i64.wrap (m + 1) = m + 1 := IntWalk.i64_in _ (by omega)
        go_wp2_with fail
        refine (StopYield_any b l c ys (m + 1) w2 Hy2.out).mono ?_
        rintro e w4 ⟨rfl, hg4⟩
        rw [Hv.out] at Hm
        generalize stopYieldF ys (m + 1) = z at *
        have Hg4 := hid (gr_trans0 Hg2.out hg4); clear hg4
        clear hwm
        by_cases hz : z < 0
        · go_wp2_with fail
          go_ret
          exact ⟨rfl, Hg4.out⟩
        · have hle := Hm.out (by omega)
          go_wp2_with fail
          go_ret
          exact ⟨rfl, Hg4.out⟩

set_option maxRecDepth 100000 in
theorem lifted (os : Os) (started : os.Started) (H : Type) (enc : TypeId × Value → H) :
    ReturnsInHanded {} Try.checked os 13 .any (Rows.fnStopYieldMoreSpec.pre6 enc Try.prog Try.f13 Rows.fnStopYieldMoreRow.domain false) (Rows.fnStopYieldMoreSpec.post enc Try.prog Try.f13 false true false false) := by
  refine returnsInHanded_of_change (C := Try.checked) Try.own started (by kernel_rfl) Try.func13
    (ChangeSpec.witness6 (enc := enc) (C := Try.checked) false ⟨#[], #[.slice none 0 0], []⟩ 8 (by kernel_rfl) (by kernel_rfl) (by kernel_rfl) (by kernel_rfl)) ?_
  intro W base args ds gs before hval0 hW _ _
  have hval : ∀ (j : Nat) t v, Try.f13.params[j]? = some t → args[j]? = some v → Value.okWide Try.prog W .any base t v := hval0
  have hW' := hW
  obtain ⟨p, q, hA0, hV, rfl, hfz, hnd⟩ := hW
  have hA : DataW.TrodAll enc Try.prog W 0 (fun _ => true) true Try.f13.params.toList args.toList ds p := hA0
  rw [Try.params13] at hA hval
  have hA2 := hA
  obtain ⟨v0, vs0, d0, ds0, p0, q0, hargs, rfl, rfl, h0, r0⟩ := trodAll_cons hA
  obtain ⟨rfl, rfl, rfl⟩ := trodAll_nil r0
  obtain rfl : args = #[v0] := by cases args; simp_all
  obtain ⟨rfl, rfl⟩ := trodVars_none hV
  have hlt : ∀ x ∈ (p0 ++ []) ++ [], x.block < W.heap.size := fun x hx => hW'.lt x hx
  obtain ⟨a0, n0, cap0, rfl⟩ := okWide_slice Try.underlying28 (hval 0 28 v0 rfl rfl)
  obtain ⟨fuel0, hf0⟩ := h0
  obtain ⟨xs0, hs0, hc0, hw0⟩ := sl_ints u8L (fun _ => rfl) rfl Try.underlying28 Try.underlying5 Try.cellsU8 hf0
  refine (walk a0 n0 cap0 xs0 W hs0 hc0 (fun z hz => u8_range (hw0 z hz))).mono fun e W' ⟨he, hg⟩ => ?_
  subst he
  have hb := below_of_gr hg
  refine ⟨_, rfl, _, _, _, [], p0 ++ [], [], hW', ?_, ?_, rfl, hb.frame _, fun h => by cases h⟩
  · exact trodAll_mk1 (shut_bool Try.underlying4 _)
  · exact args_stay hb _ _ _ _ hA2 (fun x hx => hlt x (by simpa using hx)) (by intro t ht; simp at ht; subst ht; exact ⟨by kernel_rfl, of_decide_eq_true (by kernel_rfl)⟩)

set_option maxRecDepth 100000 in
theorem closed : joinedFacts Try.pinned.checked.prog 13 Try.f13 Rows.fnStopYieldMoreSpec Rows.fnStopYieldMoreRow = true := by
  rw [joinedFacts, show Try.pinned.checked.prog.mayEnter = true from Try.enters, show Try.pinned.checked.prog.liftsFinal = false from Try.lifts, show Try.pinned.checked.prog.make = some .cut from Try.cut]
  kernel_rfl

theorem holds : Rows.FnStopYieldMoreSaid :=
  OpenClaim.holds_of_wide 13 Try.f13 rfl rfl rfl rfl rfl rfl rfl ⟨rfl, rfl, rfl, rfl, rfl⟩ rfl rfl rfl rfl rfl (by kernel_rfl) Try.func13 closed
    (of_decide_eq_true (by kernel_rfl)) (by unfold Func.isWrapper; first | (rw [if_pos (by decide +kernel)]; kernel_rfl) | (rw [if_neg (by decide +kernel)]; exact ⟨rfl, rfl⟩))
    (fun os started H enc _ => lifted os started H enc)

end FnStopYieldMore
end Go.Proofs.Ytecboohippbliaa
