/- For every input, FnExactParseBond returns true: the program's bond of a text is the reference's. No condition. -/
import Derived.Test.YtpomlbloeejbjaaDoorRows
import Derived.Test.YtpomlbloeejbjaaDoorCards
import Derived.Test.YtpomlbloeejbjaaDoorTie
import Derived.Test.YtpomlbloeejbjaaDoorParseBond
import Derived.Test.YtpomlbloeejbjaaDoorSpecParseBond
import Derived.Test.YtpomlbloeejbjaaDoorFrame
import Derived.Test.YtpomlbloeejbjaaDoorFrameL
import Derived.ProofKit
namespace Go.Proofs.YtpomlbloeejbjaaDoor
open Go.ChangeShapes Go.WideShapes Go.ChangeAt Go.RowKit
namespace FnExactParseBond

set_option maxRecDepth 100000 in
set_option maxHeartbeats 1000000 in
theorem walk (s : ByteArray) (w : World) (hm : Laid4 w) (hsz : s.size ≤ maxLen) :
    Calls Tryd.prog 8 #[.string s] w fun e w' => e = .returned (.bool true) ∧ w.grownBy w' none := by
  obtain ⟨l, rfl⟩ : ∃ l : List UInt8, s = ⟨l.toArray⟩ := ⟨s.data.toList, rfl⟩
  have hl : ByteArray.size ⟨l.toArray⟩ = l.length := by show l.toArray.size = _; rw [List.size_toArray]
  rw [hl] at hsz
  clear hl
  unfold maxLen at hsz
  have Hm := hid hm
  clear hm
  by_cases hn : 1048576 < l.length
  · have hd : decide ((1048576 : Int) < l.length) = true := by simp; omega
    go_enter Tryd.func8, Tryd.ntmps8
    go_wp2_with fail
    go_ret
    exact ⟨rfl, gr_refl _ _⟩
  have hd : decide ((1048576 : Int) < l.length) = false := by simp; omega
  have HP := hid (fun wx (h : Laid4 wx) => ParseBond_any l wx h (by omega))
  have HS := hid (fun wx => specParseBond_any l wx (by omega))
  generalize pbV l = b at *
  generalize pbOk l = ok at *
  have hok : (ok != ok) = false := by simp
  have hbb : decide (b = b) = true := by simp
  clear hn
  go_enter Tryd.func8, Tryd.ntmps8
  go_wp2_with fail
  refine (HS.out _).mono ?_
  rintro e w1 ⟨rfl, hg⟩
  have Hg1 := hid (gr_alloc hg (Obj.cells #[.int .i64 b.start, .int .i64 b.stop, .int .i64 b.months, .int .i64 b.rate] 37))
  have Hb1 := hid (heap_alloc_new w1 (Obj.cells #[.int .i64 b.start, .int .i64 b.stop, .int .i64 b.months, .int .i64 b.rate] 37))
  clear hg
  go_wp2_with fail
  refine (HP.out _ (Hm.out.keep0 Hg1.out)).mono ?_
  rintro e w2 ⟨rfl, hg⟩
  have Hg2 := hid (gr_alloc (gr_trans0 Hg1.out hg) (Obj.cells #[.int .i64 b.start, .int .i64 b.stop, .int .i64 b.months, .int .i64 b.rate] 37))
  have hb2 := blk_keep Hb1.out hg (by simp)
  have hlt := blk_lt hb2
  have c0 := blk_cell hb2 0 _ rfl
  have c1 := blk_cell hb2 1 _ rfl
  have c2 := blk_cell hb2 2 _ rfl
  have c3 := blk_cell hb2 3 _ rfl
  have n1 : ¬ w1.heap.size = w2.heap.size := by omega
  have n2 : ¬ w2.heap.size = w1.heap.size := by omega
  clear hg hb2
  go_wp2_with fail
  refine (eqBond_any b b _).mono ?_
  rintro e w3 ⟨rfl, hg⟩
  have Hg3 := hid (gr_trans0 Hg2.out hg)
  clear hg c0 c1 c2 c3
  go_wp2_with fail
  go_ret
  exact ⟨rfl, Hg3.out⟩

set_option maxRecDepth 100000 in
theorem lifted (os : Os) (started : os.Started) (H : Type) (enc : TypeId × Value → H) :
    ReturnsInHanded {} Tryd.checked os 8 .any (fun w args => (Rows.fnExactParseBondSpec.pre enc Tryd.prog Tryd.f8 Rows.fnExactParseBondRow.domain false w args ∧ laidMetH Tryd.prog laidMonths w) ∧ sizedMet enc Tryd.prog Tryd.f8 (OpenSpec.ofChange Rows.fnExactParseBondSpec) false w args) (Rows.fnExactParseBondSpec.post enc Tryd.prog Tryd.f8 false true false false) := by
  refine returnsInHanded_of_change_and (C := Tryd.checked) (X := fun w _ => laidMetH Tryd.prog laidMonths w) (fun _ _ _ hh h => h.of_heap hh) Tryd.own started (by kernel_rfl) Tryd.func8
    (ChangeSpec.witness_shaped (enc := enc) (C := Tryd.checked) (os := os) (X := fun w _ => laidMetH Tryd.prog laidMonths w) false (World.doorLaid Tryd.prog 400 os) #[.string ByteArray.empty] 8 rfl (World.shaped_of_RefB (by kernel_rfl) (by kernel_rfl)) (by kernel_rfl) (by kernel_rfl) (by kernel_rfl) (door_met os _)) ?_
  intro W base args ds gs before hval0 hW _ _ hL _
  have hval : ∀ (j : Nat) t v, Tryd.f8.params[j]? = some t → args[j]? = some v → Value.okWide Tryd.prog W .any base t v := hval0
  have hW' := hW
  obtain ⟨p, q, hA0, hV, rfl, hfz, hnd⟩ := hW
  have hA : DataW.TrodAll enc Tryd.prog W 0 (fun _ => true) true Tryd.f8.params.toList args.toList ds p := hA0
  rw [Tryd.params8] at hA hval
  have hA2 := hA
  obtain ⟨v0, vs0, d0, ds0, p0, q0, hargs, rfl, rfl, h0, r0⟩ := trodAll_cons hA
  obtain ⟨rfl, rfl, rfl⟩ := trodAll_nil r0
  obtain rfl : args = #[v0] := by cases args; simp_all
  obtain ⟨g0, rfl⟩ := vars_one hV
  have hlt : ∀ x ∈ (p0 ++ []) ++ q, x.block < W.heap.size := fun x hx => hW'.lt x hx
  obtain ⟨s0, rfl, rfl, rfl, w0⟩ := Go.ChangeMaps.open_string Tryd.underlying9 (hval 0 9 v0 rfl rfl) h0
  refine (walk s0 W (months_of_laid hL) w0).mono fun e W' ⟨he, hg⟩ => ?_
  subst he
  have hb := below_of_gr hg
  refine ⟨_, rfl, _, _, _, [], [] ++ [], q, hW', ?_, ?_, vars_stay hb hV, hb.frame _, fun h => by cases h⟩
  · exact trodAll_mk1 (shut_bool Tryd.underlying4 _)
  · exact args_stay hb _ _ _ _ hA2 (fun x hx => hlt x (List.mem_append_left _ (by simp at hx))) (by intro t ht; simp at ht; subst ht; exact ⟨by kernel_rfl, of_decide_eq_true (by kernel_rfl)⟩)

set_option maxRecDepth 100000 in
theorem closed : joinedFacts Tryd.pinned.checked.prog 8 Tryd.f8 Rows.fnExactParseBondSpec Rows.fnExactParseBondRow = true := by
  rw [joinedFacts, show Tryd.pinned.checked.prog.mayEnter = true from Tryd.enters, show Tryd.pinned.checked.prog.liftsFinal = false from Tryd.lifts, show Tryd.pinned.checked.prog.make = some .cut from Tryd.cut]
  kernel_rfl

theorem row_holds : Rows.FnExactParseBondSaid :=
  OpenClaim.holds_of_wide 8 Tryd.f8 rfl rfl rfl rfl rfl rfl rfl ⟨rfl, rfl, rfl, rfl, rfl⟩ rfl rfl rfl rfl rfl (by kernel_rfl) Tryd.func8 closed
    (of_decide_eq_true (by kernel_rfl)) (by unfold Func.isWrapper; first | (rw [if_pos (by decide +kernel)]; kernel_rfl) | (rw [if_neg (by decide +kernel)]; exact ⟨rfl, rfl⟩))
    (fun os started H enc _ => lifted os started H enc)

theorem holds : Rows.FnExactParseBondCardSaid :=
  Claim7.holds_tied_plain_at .later [] [.data, .data, .data, .data] true (true, "4a249f42968783ff868ac7aef013585a266f6e9017edea4d3bdcc2788fba7da4") false
    row_holds (fun _ h => by cases h) (by kernel_rfl) (fun _ h => by cases h) fnExactParseBond_row_tie rfl ⟨rfl, rfl⟩ (by kernel_rfl) rfl
    (fun f fn hf hfn => by
      obtain rfl : f = 8 := Option.some.inj ((show Tryd.prog.funcNamed "loop.example/bonddesk/laws.FnExactParseBond" = some 8 by kernel_rfl).symm.trans hf) |>.symm
      obtain rfl : fn = Tryd.f8 := (Option.some.inj (Tryd.func8.symm.trans hfn)).symm
      exact ⟨by kernel_rfl, fun j t ht => by
        rw [Tryd.params8] at ht
        have hm : t ∈ [9] := by simpa using Array.mem_of_getElem? ht
        have hall : ([9].all fun u => !Tryd.prog.wantsStandIn u) = true := by kernel_rfl
        exact (show Tryd.prog.wantsStandIn t = false by simpa using List.all_eq_true.1 hall t hm)⟩)
    (by kernel_rfl)
end FnExactParseBond
end Go.Proofs.YtpomlbloeejbjaaDoor
