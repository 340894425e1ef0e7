/- For every input, FnBondRoundTrip returns true: texts of bonds lose nothing. No condition. -/
import Derived.Test.YtpomlbloeejbjaaDoorRows
import Derived.Test.YtpomlbloeejbjaaDoorCards
import Derived.Test.YtpomlbloeejbjaaDoorTie
import Derived.Test.YtpomlbloeejbjaaDoorParseBond
import Derived.Test.YtpomlbloeejbjaaDoorDrawTextB
import Derived.Test.YtpomlbloeejbjaaDoorFrame
import Derived.Test.YtpomlbloeejbjaaDoorFrameL
import Derived.ProofKit
namespace Go.Proofs.YtpomlbloeejbjaaDoor
open Go.ChangeShapes Go.WideShapes Go.ChangeAt Go.RowKit
namespace FnBondRoundTrip

set_option maxRecDepth 100000 in
set_option maxHeartbeats 2000000 in
theorem walk (a : Option Addr) (n cap : Nat) (xs : List Int) (w : World) (hm : Laid4 w) (hs : Sl u8L w a n xs) (hcap : n ≤ cap) (hx : ∀ x ∈ xs, 0 ≤ x ∧ x ≤ 255) :
    Calls Tryd.prog 7 #[.slice a n cap] w fun e w' => e = .returned (.bool true) ∧ w.grownBy w' none := by
  have Hx := hid hx
  have Hs := hid hs
  have Hm := hid hm
  have hbig := hs.big
  unfold maxLen at hbig
  clear hx hs hm
  by_cases hn : 1048576 < n
  · go_enter Tryd.func7, Tryd.ntmps7
    go_wp2_with fail
    go_ret
    exact ⟨rfl, gr_refl _ _⟩
  clear hbig
  go_enter Tryd.func7, Tryd.ntmps7
  go_wp2_with fail
  refine (DrawFormatBond_any a n cap xs w Hs.out hcap Hx.out).mono ?_
  rintro e w1 ⟨b, rfl, hB, hg⟩
  have Hb1 := hid (heap_alloc_new w1 (Obj.cells #[.int .i64 b.start, .int .i64 b.stop, .int .i64 b.months, .int .i64 b.rate] 37))
  have Hg1 := hid (gr_alloc hg (Obj.cells #[.int .i64 b.start, .int .i64 b.stop, .int .i64 b.months, .int .i64 b.rate] 37))
  clear hg hB
  have HA := hid (fun wx (h : Laid4 wx) => FormatBond_any b wx h)
  have HSp := hid (fun wx => specFormatBond_any b wx)
  have HP := hid (fun l wx (h : Laid4 wx) (hl : l.length ≤ 2000000) => ParseBond_any l wx h hl)
  have hlen := fmtBond_len b
  cases hv : bondB b with
  | false =>
    have hF : fmtBond b = [] := by unfold fmtBond; rw [hv]; rfl
    rw [hF] at HA HSp
    clear hv hF HP hlen
    (try clear c0 c1 c2 c3)
    have c0 := blk_cell Hb1.out 0 _ rfl
    have c1 := blk_cell Hb1.out 1 _ rfl
    have c2 := blk_cell Hb1.out 2 _ rfl
    have c3 := blk_cell Hb1.out 3 _ rfl
    go_wp2_with fail
    refine (HA.out _ (Hm.out.keep0 Hg1.out)).mono ?_
    rintro e' w2 ⟨rfl, hg⟩
    have Hgs2 := hid hg
    have Hg2 := hid (gr_trans0 Hg1.out hg)
    have Hb2 := hid (blk_keep Hb1.out hg (by simp))
    clear hg
    (try clear c0 c1 c2 c3)
    have c0 := blk_cell Hb2.out 0 _ rfl
    have c1 := blk_cell Hb2.out 1 _ rfl
    have c2 := blk_cell Hb2.out 2 _ rfl
    have c3 := blk_cell Hb2.out 3 _ rfl
    go_wp2_with fail
    refine (HSp.out _).mono ?_
    rintro e' w3 ⟨rfl, hg⟩
    have Hgs3 := hid hg
    have Hg3 := hid (gr_trans0 Hg2.out hg)
    have Hb3 := hid (blk_keep Hb2.out hg (by simp))
    clear hg
    (try clear c0 c1 c2 c3)
    have c0 := blk_cell Hb3.out 0 _ rfl
    have c1 := blk_cell Hb3.out 1 _ rfl
    have c2 := blk_cell Hb3.out 2 _ rfl
    have c3 := blk_cell Hb3.out 3 _ rfl
    go_wp2_with fail
    refine (HSp.out _).mono ?_
    rintro e' w4 ⟨rfl, hg⟩
    have Hgs4 := hid hg
    have Hg4 := hid (gr_trans0 Hg3.out hg)
    have Hb4 := hid (blk_keep Hb3.out hg (by simp))
    clear hg
    (try clear c0 c1 c2 c3)
    have c0 := blk_cell Hb4.out 0 _ rfl
    have c1 := blk_cell Hb4.out 1 _ rfl
    have c2 := blk_cell Hb4.out 2 _ rfl
    have c3 := blk_cell Hb4.out 3 _ rfl
    go_wp2_with fail
    go_ret
    exact ⟨rfl, Hg4.out⟩
  | true =>
    have hF : fmtBond b = bondT b := by unfold fmtBond; rw [if_pos hv]
    have hp := pb_of hv (l := bondT b) rfl
    have hne := bondT_ne b
    rw [hF] at HA HSp hlen
    have HP2 := hid (fun wx (h : Laid4 wx) => HP.out (bondT b) wx h (by omega))
    have hpv : pbV (bondT b) = b := by unfold pbV; rw [if_pos hp.1, hp.2]
    rw [hpv, hp.1] at HP2
    clear hv hF HP hp hpv
    generalize bondT b = s at *
    have hs1 : (s != s) = false := by simp
    have hs2 : (s == []) = false := by simpa using hne
    clear hne hlen
    (try clear c0 c1 c2 c3)
    have c0 := blk_cell Hb1.out 0 _ rfl
    have c1 := blk_cell Hb1.out 1 _ rfl
    have c2 := blk_cell Hb1.out 2 _ rfl
    have c3 := blk_cell Hb1.out 3 _ rfl
    go_wp2_with fail
    refine (HA.out _ (Hm.out.keep0 Hg1.out)).mono ?_
    rintro e' w2 ⟨rfl, hg⟩
    have Hgs2 := hid hg
    have Hg2 := hid (gr_trans0 Hg1.out hg)
    have Hb2 := hid (blk_keep Hb1.out hg (by simp))
    clear hg
    (try clear c0 c1 c2 c3)
    have c0 := blk_cell Hb2.out 0 _ rfl
    have c1 := blk_cell Hb2.out 1 _ rfl
    have c2 := blk_cell Hb2.out 2 _ rfl
    have c3 := blk_cell Hb2.out 3 _ rfl
    go_wp2_with fail
    refine (HSp.out _).mono ?_
    rintro e' w3 ⟨rfl, hg⟩
    have Hgs3 := hid hg
    have Hg3 := hid (gr_trans0 Hg2.out hg)
    have Hb3 := hid (blk_keep Hb2.out hg (by simp))
    clear hg
    (try clear c0 c1 c2 c3)
    have c0 := blk_cell Hb3.out 0 _ rfl
    have c1 := blk_cell Hb3.out 1 _ rfl
    have c2 := blk_cell Hb3.out 2 _ rfl
    have c3 := blk_cell Hb3.out 3 _ rfl
    go_wp2_with fail
    refine (HP2.out _ (Hm.out.keep0 Hg3.out)).mono ?_
    rintro e' w4 ⟨rfl, hg⟩
    have Hg4 := hid (gr_alloc (gr_trans0 Hg3.out hg) (Obj.cells #[.int .i64 b.start, .int .i64 b.stop, .int .i64 b.months, .int .i64 b.rate] 37))
    have hb4 := blk_keep Hb3.out hg (by simp)
    clear c0 c1 c2 c3
    have c0 := blk_cell hb4 0 _ rfl
    have c1 := blk_cell hb4 1 _ rfl
    have c2 := blk_cell hb4 2 _ rfl
    have c3 := blk_cell hb4 3 _ rfl
    have hlt := blk_lt hb4
    have hne4 : ¬ w4.heap.size = w1.heap.size := by omega
    have hne5 : ¬ w1.heap.size = w4.heap.size := by omega
    clear hg hb4
    go_wp2_with fail
    go_ret
    exact ⟨rfl, Hg4.out⟩

set_option maxRecDepth 100000 in
theorem lifted (os : Os) (started : os.Started) (H : Type) (enc : TypeId × Value → H) :
    ReturnsInHanded {} Tryd.checked os 7 .any (fun w args => (Rows.fnBondRoundTripSpec.pre enc Tryd.prog Tryd.f7 Rows.fnBondRoundTripRow.domain false w args ∧ laidMetH Tryd.prog laidMonths w) ∧ sizedMet enc Tryd.prog Tryd.f7 (OpenSpec.ofChange Rows.fnBondRoundTripSpec) false w args) (Rows.fnBondRoundTripSpec.post enc Tryd.prog Tryd.f7 false true false false) := by
  refine returnsInHanded_of_change_and (C := Tryd.checked) (X := fun w _ => laidMetH Tryd.prog laidMonths w) (fun _ _ _ hh h => h.of_heap hh) Tryd.own started (by kernel_rfl) Tryd.func7
    (ChangeSpec.witness_shaped (enc := enc) (C := Tryd.checked) (os := os) (X := fun w _ => laidMetH Tryd.prog laidMonths w) false (World.doorLaid Tryd.prog 400 os) #[.slice none 0 0] 8 rfl (World.shaped_of_RefB (by kernel_rfl) (by kernel_rfl)) (by kernel_rfl) (by kernel_rfl) (by kernel_rfl) (door_met os _)) ?_
  intro W base args ds gs before hval0 hW _ _ hL _
  have hval : ∀ (j : Nat) t v, Tryd.f7.params[j]? = some t → args[j]? = some v → Value.okWide Tryd.prog W .any base t v := hval0
  have hW' := hW
  obtain ⟨p, q, hA0, hV, rfl, hfz, hnd⟩ := hW
  have hA : DataW.TrodAll enc Tryd.prog W 0 (fun _ => true) true Tryd.f7.params.toList args.toList ds p := hA0
  rw [Tryd.params7] at hA hval
  have hA2 := hA
  obtain ⟨v0, vs0, d0, ds0, p0, q0, hargs, rfl, rfl, h0, r0⟩ := trodAll_cons hA
  obtain ⟨rfl, rfl, rfl⟩ := trodAll_nil r0
  obtain rfl : args = #[v0] := by cases args; simp_all
  obtain ⟨g0, rfl⟩ := vars_one hV
  have hlt : ∀ x ∈ (p0 ++ []) ++ q, x.block < W.heap.size := fun x hx => hW'.lt x hx
  obtain ⟨a0, n0, cap0, rfl⟩ := okWide_slice Tryd.underlying22 (hval 0 22 v0 rfl rfl)
  obtain ⟨fuel0, hf0⟩ := h0
  obtain ⟨xs0, hs0, hc0, hw0⟩ := sl_ints u8L (fun _ => rfl) rfl Tryd.underlying22 Tryd.underlying5 Tryd.cellsU8 hf0
  refine (walk a0 n0 cap0 xs0 W (months_of_laid hL) hs0 hc0 (fun z hz => u8_range (hw0 z hz))).mono fun e W' ⟨he, hg⟩ => ?_
  subst he
  have hb := below_of_gr hg
  refine ⟨_, rfl, _, _, _, [], p0 ++ [], q, hW', ?_, ?_, vars_stay hb hV, hb.frame _, fun h => by cases h⟩
  · exact trodAll_mk1 (shut_bool Tryd.underlying4 _)
  · exact args_stay hb _ _ _ _ hA2 (fun x hx => hlt x (List.mem_append_left _ (by simpa using hx))) (by intro t ht; simp at ht; subst ht; exact ⟨by kernel_rfl, of_decide_eq_true (by kernel_rfl)⟩)

set_option maxRecDepth 100000 in
theorem closed : joinedFacts Tryd.pinned.checked.prog 7 Tryd.f7 Rows.fnBondRoundTripSpec Rows.fnBondRoundTripRow = true := by
  rw [joinedFacts, show Tryd.pinned.checked.prog.mayEnter = true from Tryd.enters, show Tryd.pinned.checked.prog.liftsFinal = false from Tryd.lifts, show Tryd.pinned.checked.prog.make = some .cut from Tryd.cut]
  kernel_rfl

theorem row_holds : Rows.FnBondRoundTripSaid :=
  OpenClaim.holds_of_wide 7 Tryd.f7 rfl rfl rfl rfl rfl rfl rfl ⟨rfl, rfl, rfl, rfl, rfl⟩ rfl rfl rfl rfl rfl (by kernel_rfl) Tryd.func7 closed
    (of_decide_eq_true (by kernel_rfl)) (by unfold Func.isWrapper; first | (rw [if_pos (by decide +kernel)]; kernel_rfl) | (rw [if_neg (by decide +kernel)]; exact ⟨rfl, rfl⟩))
    (fun os started H enc _ => lifted os started H enc)

theorem holds : Rows.FnBondRoundTripCardSaid :=
  Claim7.holds_tied_plain_at .later [] [.data, .data, .data, .data] true (true, "4a249f42968783ff868ac7aef013585a266f6e9017edea4d3bdcc2788fba7da4") false
    row_holds (fun _ h => by cases h) (by kernel_rfl) (fun _ h => by cases h) fnBondRoundTrip_row_tie rfl ⟨rfl, rfl⟩ (by kernel_rfl) rfl
    (fun f fn hf hfn => by
      obtain rfl : f = 7 := Option.some.inj ((show Tryd.prog.funcNamed "loop.example/bonddesk/laws.FnBondRoundTrip" = some 7 by kernel_rfl).symm.trans hf) |>.symm
      obtain rfl : fn = Tryd.f7 := (Option.some.inj (Tryd.func7.symm.trans hfn)).symm
      exact ⟨by kernel_rfl, fun j t ht => by
        rw [Tryd.params7] at ht
        have hm : t ∈ [22] := by simpa using Array.mem_of_getElem? ht
        have hall : ([22].all fun u => !Tryd.prog.wantsStandIn u) = true := by kernel_rfl
        exact (show Tryd.prog.wantsStandIn t = false by simpa using List.all_eq_true.1 hall t hm)⟩)
    (by kernel_rfl)
end FnBondRoundTrip
end Go.Proofs.YtpomlbloeejbjaaDoor
