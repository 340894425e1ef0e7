/- For every input, FnDateOrder returns true: texts are ordered like dates. No condition. -/
import Derived.Test.YtpomlbloeejbjaaDoorRows
import Derived.Test.YtpomlbloeejbjaaDoorCards
import Derived.Test.YtpomlbloeejbjaaDoorTie
import Derived.Test.YtpomlbloeejbjaaDoorParseDate
import Derived.Test.YtpomlbloeejbjaaDoorDrawText
import Derived.Test.YtpomlbloeejbjaaDoorFrame
import Derived.Test.YtpomlbloeejbjaaDoorFrameL
import Derived.ProofKit
namespace Go.Proofs.YtpomlbloeejbjaaDoor
open Go.ChangeShapes Go.WideShapes Go.ChangeAt Go.RowKit
namespace FnDateOrder

set_option maxRecDepth 100000 in
set_option maxHeartbeats 2000000 in
theorem walk (a : Option Addr) (n cap : Nat) (xs : List Int) (w : World) (hm : Laid4 w) (hs : Sl u8L w a n xs) (hcap : n ≤ cap) (hx : ∀ x ∈ xs, 0 ≤ x ∧ x ≤ 255) :
    Calls Tryd.prog 4 #[.slice a n cap] w fun e w' => e = .returned (.bool true) ∧ w.grownBy w' none := by
  have Hx := hid hx
  have Hs := hid hs
  have Hm := hid hm
  have hbig := hs.big
  unfold maxLen at hbig
  clear hx hs hm
  by_cases hn : 1048576 < n
  · go_enter Tryd.func4, Tryd.ntmps4
    go_wp2_with fail
    go_ret
    exact ⟨rfl, gr_refl _ _⟩
  clear hbig
  go_enter Tryd.func4, Tryd.ntmps4
  go_wp2_with fail
  refine (DrawFormatDate_any a n cap xs w Hs.out hcap Hx.out).mono ?_
  rintro e w1 ⟨y, m, d, rfl, ⟨y0, y1⟩, ⟨m0, m1⟩, ⟨d0, d1⟩, hg⟩
  have Hb1 := hid (heap_alloc_new w1 (Obj.cells #[.int .i64 y, .int .i64 m, .int .i64 d] 24))
  have Hg1 := hid (gr_alloc hg (Obj.cells #[.int .i64 y, .int .i64 m, .int .i64 d] 24))
  clear hg
  have HA := hid (fun wx (h : Laid4 wx) => FormatDate_any y m d wx h)
  have HSp := hid (fun wx => specFormatDate_any y m d wx)
  have HDa := hid (fun wx (h : Months wx) => DayOf_any y m d wx h)
  cases hv : dateB y m d with
  | false =>
    have hF : fmtDate y m d = [] := by unfold fmtDate; rw [hv]; rfl
    rw [hF] at HA HSp
    clear hv hF HDa
    (try clear c0 c1 c2)
    have c0 := blk_cell Hb1.out 0 _ rfl
    have c1 := blk_cell Hb1.out 1 _ rfl
    have c2 := blk_cell Hb1.out 2 _ rfl
    go_wp2_with fail
    refine (HA.out _ (Hm.out.keep0 Hg1.out)).mono ?_
    rintro e' w2 ⟨rfl, hg⟩
    have Hgs2 := hid hg
    have Hg2 := hid (gr_trans0 Hg1.out hg)
    have Hb2 := hid (blk_keep Hb1.out hg (by simp))
    clear hg
    (try clear c0 c1 c2)
    have c0 := blk_cell Hb2.out 0 _ rfl
    have c1 := blk_cell Hb2.out 1 _ rfl
    have c2 := blk_cell Hb2.out 2 _ rfl
    go_wp2_with fail
    refine (HSp.out _).mono ?_
    rintro e' w3 ⟨rfl, hg⟩
    have Hgs3 := hid hg
    have Hg3 := hid (gr_trans0 Hg2.out hg)
    have Hb3 := hid (blk_keep Hb2.out hg (by simp))
    clear hg
    (try clear c0 c1 c2)
    have c0 := blk_cell Hb3.out 0 _ rfl
    have c1 := blk_cell Hb3.out 1 _ rfl
    have c2 := blk_cell Hb3.out 2 _ rfl
    go_wp2_with fail
    refine (HSp.out _).mono ?_
    rintro e' w4 ⟨rfl, hg⟩
    have Hgs4 := hid hg
    have Hg4 := hid (gr_trans0 Hg3.out hg)
    have Hb4 := hid (blk_keep Hb3.out hg (by simp))
    clear hg
    (try clear c0 c1 c2)
    have c0 := blk_cell Hb4.out 0 _ rfl
    have c1 := blk_cell Hb4.out 1 _ rfl
    have c2 := blk_cell Hb4.out 2 _ rfl
    go_wp2_with fail
    go_ret
    exact ⟨rfl, Hg4.out⟩
  | true =>
    have hne : fmtDate y m d ≠ [] := by unfold fmtDate; rw [hv]; exact dateT_ne y m d
    have hnb := num_bd y m d ((dateB_iff _ _ _).1 hv)
    have hn0 : dayOfF y m d = numF y m d := by unfold dayOfF; rw [hv]; rfl
    have hord := fun k hk => @order_next y m d k hv hk
    rw [hn0] at HDa
    clear hn0 hv
    generalize fmtDate y m d = s at *
    generalize numF y m d = N at *
    have hs1 : (s != s) = false := by simp
    have hs2 : (s == []) = false := by simpa using hne
    obtain ⟨k, hk⟩ : ∃ k : Int, (n : Int) % 50 = k := ⟨_, rfl⟩
    have hk0 : 0 ≤ k := by omega
    have hk1 : k < 50 := by omega
    have hr : IntKind.i64.wrap ((n : Int).tmod 50) = k := by rw [Int.tmod_eq_emod_of_nonneg (by omega), hk]; exact IntWalk.i64_in _ (by omega)
    have hr2 : (n : Int).tmod 50 = k := by rw [Int.tmod_eq_emod_of_nonneg (by omega), hk]
    have HDt := hid (fun z wx (h : Months wx) => DateOf_any z wx h)
    have HZ := hid (hord k hk0)
    have HFt := hid (fun y m d wx (h : Laid4 wx) => FormatDate_any y m d wx h)
    clear hne hord hk
    (try clear c0 c1 c2)
    have c0 := blk_cell Hb1.out 0 _ rfl
    have c1 := blk_cell Hb1.out 1 _ rfl
    have c2 := blk_cell Hb1.out 2 _ rfl
    go_wp2_with fail
    refine (HA.out _ (Hm.out.keep0 Hg1.out)).mono ?_
    rintro e' w2 ⟨rfl, hg⟩
    have Hgs2 := hid hg
    have Hg2 := hid (gr_trans0 Hg1.out hg)
    have Hb2 := hid (blk_keep Hb1.out hg (by simp))
    clear hg
    (try clear c0 c1 c2)
    have c0 := blk_cell Hb2.out 0 _ rfl
    have c1 := blk_cell Hb2.out 1 _ rfl
    have c2 := blk_cell Hb2.out 2 _ rfl
    go_wp2_with fail
    refine (HSp.out _).mono ?_
    rintro e' w3 ⟨rfl, hg⟩
    have Hgs3 := hid hg
    have Hg3 := hid (gr_trans0 Hg2.out hg)
    have Hb3 := hid (blk_keep Hb2.out hg (by simp))
    clear hg
    (try clear c0 c1 c2)
    have c0 := blk_cell Hb3.out 0 _ rfl
    have c1 := blk_cell Hb3.out 1 _ rfl
    have c2 := blk_cell Hb3.out 2 _ rfl
    go_wp2_with fail
    refine (HDa.out _ (Hm.out.mo.keep0 Hg3.out)).mono ?_
    rintro e' w4 ⟨rfl, hg⟩
    have Hgs4 := hid hg
    have Hg4 := hid (gr_trans0 Hg3.out hg)
    have Hb4 := hid (blk_keep Hb3.out hg (by simp))
    clear hg
    (try clear c0 c1 c2)
    have c0 := blk_cell Hb4.out 0 _ rfl
    have c1 := blk_cell Hb4.out 1 _ rfl
    have c2 := blk_cell Hb4.out 2 _ rfl
    clear HA HSp HDa
    go_wp2_with fail
    have HD2 := hid (HDt.out (N + 1 + k) w4 (Hm.out.mo.keep0 Hg4.out))
    cases hz : dateOk (N + 1 + k) with
    | false =>
      rw [hz] at HD2
      simp only [Bool.false_eq_true, if_false] at HD2
      clear HZ hz
      refine HD2.out.mono ?_
      rintro e' w5 ⟨rfl, hg⟩
      have Hg5 := hid (gr_trans0 Hg4.out hg)
      clear hg
      go_wp2_with fail
      go_ret
      exact ⟨rfl, gr_alloc Hg5.out _⟩
    | true =>
      have hz2 := (within_iff' _ _ _).1 (show withinB (N + 1 + k) 0 36524 = true from hz)
      have hless := HZ.out hz2.1 hz2.2
      rw [hz] at HD2
      simp only [if_true] at HD2
      clear HZ hz hz2
      generalize yF (N + 1 + k) = ye at *
      generalize mF (N + 1 + k) = me at *
      generalize dF (N + 1 + k) = de at *
      refine HD2.out.mono ?_
      rintro e' w5 ⟨rfl, hg⟩
      have Hg5 := hid (gr_alloc (gr_trans0 Hg4.out hg) (Obj.cells #[.int .i64 ye, .int .i64 me, .int .i64 de] 24))
      have HF2 := hid (HFt.out ye me de _ (Hm.out.keep0 Hg5.out))
      clear hg
      go_wp2_with fail
      refine HF2.out.mono ?_
      rintro e' w6 ⟨rfl, hg⟩
      have Hg6 := hid (gr_trans0 Hg5.out hg)
      clear hg HF2
      generalize fmtDate ye me de = F at *
      go_wp2_with fail
      go_ret
      exact ⟨rfl, Hg6.out⟩

set_option maxRecDepth 100000 in
theorem lifted (os : Os) (started : os.Started) (H : Type) (enc : TypeId × Value → H) :
    ReturnsInHanded {} Tryd.checked os 4 .any (fun w args => (Rows.fnDateOrderSpec.pre enc Tryd.prog Tryd.f4 Rows.fnDateOrderRow.domain false w args ∧ laidMetH Tryd.prog laidMonths w) ∧ sizedMet enc Tryd.prog Tryd.f4 (OpenSpec.ofChange Rows.fnDateOrderSpec) false w args) (Rows.fnDateOrderSpec.post enc Tryd.prog Tryd.f4 false true false false) := by
  refine returnsInHanded_of_change_and (C := Tryd.checked) (X := fun w _ => laidMetH Tryd.prog laidMonths w) (fun _ _ _ hh h => h.of_heap hh) Tryd.own started (by kernel_rfl) Tryd.func4
    (ChangeSpec.witness_shaped (enc := enc) (C := Tryd.checked) (os := os) (X := fun w _ => laidMetH Tryd.prog laidMonths w) false (World.doorLaid Tryd.prog 400 os) #[.slice none 0 0] 8 rfl (World.shaped_of_RefB (by kernel_rfl) (by kernel_rfl)) (by kernel_rfl) (by kernel_rfl) (by kernel_rfl) (door_met os _)) ?_
  intro W base args ds gs before hval0 hW _ _ hL _
  have hval : ∀ (j : Nat) t v, Tryd.f4.params[j]? = some t → args[j]? = some v → Value.okWide Tryd.prog W .any base t v := hval0
  have hW' := hW
  obtain ⟨p, q, hA0, hV, rfl, hfz, hnd⟩ := hW
  have hA : DataW.TrodAll enc Tryd.prog W 0 (fun _ => true) true Tryd.f4.params.toList args.toList ds p := hA0
  rw [Tryd.params4] at hA hval
  have hA2 := hA
  obtain ⟨v0, vs0, d0, ds0, p0, q0, hargs, rfl, rfl, h0, r0⟩ := trodAll_cons hA
  obtain ⟨rfl, rfl, rfl⟩ := trodAll_nil r0
  obtain rfl : args = #[v0] := by cases args; simp_all
  obtain ⟨g0, rfl⟩ := vars_one hV
  have hlt : ∀ x ∈ (p0 ++ []) ++ q, x.block < W.heap.size := fun x hx => hW'.lt x hx
  obtain ⟨a0, n0, cap0, rfl⟩ := okWide_slice Tryd.underlying22 (hval 0 22 v0 rfl rfl)
  obtain ⟨fuel0, hf0⟩ := h0
  obtain ⟨xs0, hs0, hc0, hw0⟩ := sl_ints u8L (fun _ => rfl) rfl Tryd.underlying22 Tryd.underlying5 Tryd.cellsU8 hf0
  refine (walk a0 n0 cap0 xs0 W (months_of_laid hL) hs0 hc0 (fun z hz => u8_range (hw0 z hz))).mono fun e W' ⟨he, hg⟩ => ?_
  subst he
  have hb := below_of_gr hg
  refine ⟨_, rfl, _, _, _, [], p0 ++ [], q, hW', ?_, ?_, vars_stay hb hV, hb.frame _, fun h => by cases h⟩
  · exact trodAll_mk1 (shut_bool Tryd.underlying4 _)
  · exact args_stay hb _ _ _ _ hA2 (fun x hx => hlt x (List.mem_append_left _ (by simpa using hx))) (by intro t ht; simp at ht; subst ht; exact ⟨by kernel_rfl, of_decide_eq_true (by kernel_rfl)⟩)

set_option maxRecDepth 100000 in
theorem closed : joinedFacts Tryd.pinned.checked.prog 4 Tryd.f4 Rows.fnDateOrderSpec Rows.fnDateOrderRow = true := by
  rw [joinedFacts, show Tryd.pinned.checked.prog.mayEnter = true from Tryd.enters, show Tryd.pinned.checked.prog.liftsFinal = false from Tryd.lifts, show Tryd.pinned.checked.prog.make = some .cut from Tryd.cut]
  kernel_rfl

theorem row_holds : Rows.FnDateOrderSaid :=
  OpenClaim.holds_of_wide 4 Tryd.f4 rfl rfl rfl rfl rfl rfl rfl ⟨rfl, rfl, rfl, rfl, rfl⟩ rfl rfl rfl rfl rfl (by kernel_rfl) Tryd.func4 closed
    (of_decide_eq_true (by kernel_rfl)) (by unfold Func.isWrapper; first | (rw [if_pos (by decide +kernel)]; kernel_rfl) | (rw [if_neg (by decide +kernel)]; exact ⟨rfl, rfl⟩))
    (fun os started H enc _ => lifted os started H enc)

theorem holds : Rows.FnDateOrderCardSaid :=
  Claim7.holds_tied_plain_at .later [] [.data, .data, .data, .data] true (true, "4a249f42968783ff868ac7aef013585a266f6e9017edea4d3bdcc2788fba7da4") false
    row_holds (fun _ h => by cases h) (by kernel_rfl) (fun _ h => by cases h) fnDateOrder_row_tie rfl ⟨rfl, rfl⟩ (by kernel_rfl) rfl
    (fun f fn hf hfn => by
      obtain rfl : f = 4 := Option.some.inj ((show Tryd.prog.funcNamed "loop.example/bonddesk/laws.FnDateOrder" = some 4 by kernel_rfl).symm.trans hf) |>.symm
      obtain rfl : fn = Tryd.f4 := (Option.some.inj (Tryd.func4.symm.trans hfn)).symm
      exact ⟨by kernel_rfl, fun j t ht => by
        rw [Tryd.params4] at ht
        have hm : t ∈ [22] := by simpa using Array.mem_of_getElem? ht
        have hall : ([22].all fun u => !Tryd.prog.wantsStandIn u) = true := by kernel_rfl
        exact (show Tryd.prog.wantsStandIn t = false by simpa using List.all_eq_true.1 hall t hm)⟩)
    (by kernel_rfl)
end FnDateOrder
end Go.Proofs.YtpomlbloeejbjaaDoor
