/- For every input, FnYieldOfNear returns true: yields are near each other. No condition. -/
import Derived.Test.YtkgjciacdjhhfaaDoorRows
import Derived.Test.YtkgjciacdjhhfaaDoorCards
import Derived.Test.YtkgjciacdjhhfaaDoorTie
import Derived.Test.YtkgjciacdjhhfaaDoorSpecYield
import Derived.Test.YtkgjciacdjhhfaaDoorDrawYield2
import Derived.Test.YtkgjciacdjhhfaaDoorFrame
import Derived.Test.YtkgjciacdjhhfaaDoorFrameL
import Derived.ProofKit
namespace Go.Proofs.YtkgjciacdjhhfaaDoor
open Go.ChangeShapes Go.WideShapes Go.ChangeAt Go.RowKit
namespace FnYieldOfNear

theorem rgField0 (ql qh : Int) (w : World) : (Instr.field 25 (.agg #[.int .i64 ql, .int .i64 qh]) 0).run Tryd.prog w = .ok (.int .i64 ql) w := by kernel_rfl
theorem rgField1 (ql qh : Int) (w : World) : (Instr.field 25 (.agg #[.int .i64 ql, .int .i64 qh]) 1).run Tryd.prog w = .ok (.int .i64 qh) w := by kernel_rfl

set_option maxRecDepth 100000 in
set_option maxHeartbeats 2000000 in
theorem walk (a : Option Addr) (n cap : Nat) (xs : List Int) (w : World) (hm : Months w) (hs : Sl u8L w a n xs) (hcap : n ≤ cap) (hx : ∀ x ∈ xs, 0 ≤ x ∧ x ≤ 255) :
    Calls Tryd.prog 14 #[.slice a n cap] w fun e w' => e = .returned (.bool true) ∧ w.grownBy w' none := by
  have Hx := hid hx
  have Hs := hid hs
  have Hm := hid hm
  have hbig := hs.big
  unfold maxLen at hbig
  clear hx hs hm
  by_cases hn : 1048576 < n
  · go_enter Tryd.func14, Tryd.ntmps14
    go_wp2_with fail
    go_ret
    exact ⟨rfl, gr_refl _ _⟩
  clear hbig
  go_enter Tryd.func14, Tryd.ntmps14
  go_wp2_with fail
  refine (DrawYieldOf_any a n cap xs w Hs.out hcap Hx.out).mono ?_
  rintro e w1 ⟨b, day, d, rfl, hB, ⟨⟨hd0, hd1⟩, hy0, hy1⟩, hg⟩
  have Hb1 := hid (heap_alloc_new w1 (Obj.cells #[.int .i64 b.start, .int .i64 b.stop, .int .i64 b.months, .int .i64 b.rate] 27))
  have Hg1 := hid (gr_alloc hg (Obj.cells #[.int .i64 b.start, .int .i64 b.stop, .int .i64 b.months, .int .i64 b.rate] 27))
  have hBs0 := hB.s0; have hBs1 := hB.s1; have hBe0 := hB.e0; have hBe1 := hB.e1
  have hBm0 := hB.m0; have hBm1 := hB.m1; have hBr0 := hB.r0; have hBr1 := hB.r1
  clear hg
  have HI := hid (fun wx (h : Months wx) => YieldOf_any b day d wx h)
  have HSp := hid (fun wx => specYieldOf_any b day d wx)
  have HN := hid (yields_near (b := b) (day := day) (d := d))
  obtain ⟨bv0, bv1, bu0, bu1⟩ := yields_bd b day d
  obtain ⟨v, hv⟩ : ∃ v, leastF b day d = v := ⟨_, rfl⟩
  obtain ⟨u, hu⟩ : ∃ u, mostF b day d = u := ⟨_, rfl⟩
  have HV := hid (fun wx (h : Months wx) => PriceOf_any b day (v + 2500) wx h)
  have HU := hid (fun wx (h : Months wx) => PriceOf_any b day (u - 2500) wx h)
  rw [hv] at HI HSp HN bv0 bv1
  rw [hu] at HI HSp HN bu0 bu1
  clear hv hu
  generalize (priceF b day (v + 2500)).low = vl at *
  generalize (priceF b day (v + 2500)).high = vh at *
  generalize (priceF b day (u - 2500)).low = ul at *
  generalize (priceF b day (u - 2500)).high = uh at *
  have e1 : (v != v) = false := by simp
  have e2 : (u != u) = false := by simp
  have e3 : (v == v) = true := by simp
  have e4 : (u == u) = true := by simp
  have w1' : IntKind.i64.wrap (v + 2500) = v + 2500 := IntWalk.i64_in _ (by omega)
  have w2' : IntKind.i64.wrap (u - 2500) = u - 2500 := IntWalk.i64_in _ (by omega)
  (try clear c0 c1 c2 c3)
  have c0 := blk_cell Hb1.out 0 _ rfl
  have c1 := blk_cell Hb1.out 1 _ rfl
  have c2 := blk_cell Hb1.out 2 _ rfl
  have c3 := blk_cell Hb1.out 3 _ rfl
  go_wp2_with fail
  refine (HI.out _ (Hm.out.keep0 Hg1.out)).mono ?_
  rintro e' w2 ⟨rfl, hg⟩
  have Hgs2 := hid hg
  have Hg2 := hid (gr_trans0 Hg1.out hg)
  have Hb2 := hid (blk_keep Hb1.out hg (by simp))
  clear hg
  (try clear c0 c1 c2 c3)
  have c0 := blk_cell Hb2.out 0 _ rfl
  have c1 := blk_cell Hb2.out 1 _ rfl
  have c2 := blk_cell Hb2.out 2 _ rfl
  have c3 := blk_cell Hb2.out 3 _ rfl
  go_wp2_with fail
  refine (HSp.out _).mono ?_
  rintro e' w3 ⟨rfl, hg⟩
  have Hgs3 := hid hg
  have Hg3 := hid (gr_trans0 Hg2.out hg)
  have Hb3 := hid (blk_keep Hb2.out hg (by simp))
  clear hg
  (try clear c0 c1 c2 c3)
  have c0 := blk_cell Hb3.out 0 _ rfl
  have c1 := blk_cell Hb3.out 1 _ rfl
  have c2 := blk_cell Hb3.out 2 _ rfl
  have c3 := blk_cell Hb3.out 3 _ rfl
  by_cases h1 : v < 0
  · have t1 : decide (v < 0) = true := by simpa using h1
    go_wp2_with fail
    go_ret
    exact ⟨rfl, Hg3.out⟩
  have t1 : decide (v < 0) = false := by simpa using h1
  by_cases h2 : u < 0
  · have t2 : decide (u < 0) = true := by simpa using h2
    go_wp2_with fail
    go_ret
    exact ⟨rfl, Hg3.out⟩
  have t2 : decide (u < 0) = false := by simpa using h2
  obtain ⟨n1, n2⟩ := HN.out (by omega) (by omega)
  have N1 := hid n1; have N2 := hid n2
  clear n1 n2
  by_cases h3 : 100000 < v + 2500
  · have t3 : decide (100000 < v + 2500) = true := by simpa using h3
    by_cases h4 : u - 2500 < 0
    · have t4 : decide (u - 2500 < 0) = true := by simpa using h4
      go_wp2_with fail
      go_ret
      exact ⟨rfl, Hg3.out⟩
    · have t4 : decide (u - 2500 < 0) = false := by simpa using h4
      have t5 : decide (d < uh) = true := by simpa using N2.out (by omega)
      have hfl := fun w => rgField1 ul uh w
      clear h3 h4
      go_wp2_with fail
      refine (HU.out _ (Hm.out.keep0 Hg3.out)).mono ?_
      rintro e' w4 ⟨rfl, hg⟩
      have Hgs4 := hid hg
      have Hg4 := hid (gr_trans0 Hg3.out hg)
      have Hb4 := hid (blk_keep Hb3.out hg (by simp))
      clear hg
      (try clear c0 c1 c2 c3)
      have c0 := blk_cell Hb4.out 0 _ rfl
      have c1 := blk_cell Hb4.out 1 _ rfl
      have c2 := blk_cell Hb4.out 2 _ rfl
      have c3 := blk_cell Hb4.out 3 _ rfl
      go_wp2_with fail
      go_ret
      exact ⟨rfl, Hg4.out⟩
  · have t3 : decide (100000 < v + 2500) = false := by simpa using h3
    have t5 : decide (vl < d) = true := by simpa using N1.out (by omega)
    by_cases h4 : u - 2500 < 0
    · have t4 : decide (u - 2500 < 0) = true := by simpa using h4
      have hfl := fun w => rgField0 vl vh w
      clear h3 h4
      go_wp2_with fail
      refine (HV.out _ (Hm.out.keep0 Hg3.out)).mono ?_
      rintro e' w4 ⟨rfl, hg⟩
      have Hgs4 := hid hg
      have Hg4 := hid (gr_trans0 Hg3.out hg)
      have Hb4 := hid (blk_keep Hb3.out hg (by simp))
      clear hg
      (try clear c0 c1 c2 c3)
      have c0 := blk_cell Hb4.out 0 _ rfl
      have c1 := blk_cell Hb4.out 1 _ rfl
      have c2 := blk_cell Hb4.out 2 _ rfl
      have c3 := blk_cell Hb4.out 3 _ rfl
      go_wp2_with fail
      go_ret
      exact ⟨rfl, Hg4.out⟩
    · have t4 : decide (u - 2500 < 0) = false := by simpa using h4
      have t6 : decide (d < uh) = true := by simpa using N2.out (by omega)
      have hfl := fun w => rgField0 vl vh w
      clear h3 h4
      go_wp2_with fail
      refine (HV.out _ (Hm.out.keep0 Hg3.out)).mono ?_
      rintro e' w4 ⟨rfl, hg⟩
      have Hgs4 := hid hg
      have Hg4 := hid (gr_trans0 Hg3.out hg)
      have Hb4 := hid (blk_keep Hb3.out hg (by simp))
      clear hg
      (try clear c0 c1 c2 c3)
      have c0 := blk_cell Hb4.out 0 _ rfl
      have c1 := blk_cell Hb4.out 1 _ rfl
      have c2 := blk_cell Hb4.out 2 _ rfl
      have c3 := blk_cell Hb4.out 3 _ rfl
      have hf2 := fun w => rgField1 ul uh w
      go_wp2_with fail
      refine (HU.out _ (Hm.out.keep0 Hg4.out)).mono ?_
      rintro e' w5 ⟨rfl, hg⟩
      have Hgs5 := hid hg
      have Hg5 := hid (gr_trans0 Hg4.out hg)
      have Hb5 := hid (blk_keep Hb4.out hg (by simp))
      clear hg
      (try clear c0 c1 c2 c3)
      have c0 := blk_cell Hb5.out 0 _ rfl
      have c1 := blk_cell Hb5.out 1 _ rfl
      have c2 := blk_cell Hb5.out 2 _ rfl
      have c3 := blk_cell Hb5.out 3 _ rfl
      go_wp2_with fail
      go_ret
      exact ⟨rfl, Hg5.out⟩

set_option maxRecDepth 100000 in
theorem lifted (os : Os) (started : os.Started) (H : Type) (enc : TypeId × Value → H) :
    ReturnsInHanded {} Tryd.checked os 14 .any (fun w args => (Rows.fnYieldOfNearSpec.pre enc Tryd.prog Tryd.f14 Rows.fnYieldOfNearRow.domain false w args ∧ laidMetH Tryd.prog laidMonths w) ∧ sizedMet enc Tryd.prog Tryd.f14 (OpenSpec.ofChange Rows.fnYieldOfNearSpec) false w args) (Rows.fnYieldOfNearSpec.post enc Tryd.prog Tryd.f14 false true false false) := by
  refine returnsInHanded_of_change_and (C := Tryd.checked) (X := fun w _ => laidMetH Tryd.prog laidMonths w) (fun _ _ _ hh h => h.of_heap hh) Tryd.own started (by kernel_rfl) Tryd.func14
    (ChangeSpec.witness_shaped (enc := enc) (C := Tryd.checked) (os := os) (X := fun w _ => laidMetH Tryd.prog laidMonths w) false (World.doorLaid Tryd.prog 400 os) #[.slice none 0 0] 8 rfl (World.shaped_of_RefB (by kernel_rfl) (by kernel_rfl)) (by kernel_rfl) (by kernel_rfl) (by kernel_rfl) (door_met os _)) ?_
  intro W base args ds gs before hval0 hW _ _ hL _
  have hval : ∀ (j : Nat) t v, Tryd.f14.params[j]? = some t → args[j]? = some v → Value.okWide Tryd.prog W .any base t v := hval0
  have hW' := hW
  obtain ⟨p, q, hA0, hV, rfl, hfz, hnd⟩ := hW
  have hA : DataW.TrodAll enc Tryd.prog W 0 (fun _ => true) true Tryd.f14.params.toList args.toList ds p := hA0
  rw [Tryd.params14] at hA hval
  have hA2 := hA
  obtain ⟨v0, vs0, d0, ds0, p0, q0, hargs, rfl, rfl, h0, r0⟩ := trodAll_cons hA
  obtain ⟨rfl, rfl, rfl⟩ := trodAll_nil r0
  obtain rfl : args = #[v0] := by cases args; simp_all
  obtain ⟨g0, g1, rfl⟩ := vars_two hV
  have hlt : ∀ x ∈ (p0 ++ []) ++ q, x.block < W.heap.size := fun x hx => hW'.lt x hx
  obtain ⟨a0, n0, cap0, rfl⟩ := okWide_slice Tryd.underlying38 (hval 0 38 v0 rfl rfl)
  obtain ⟨fuel0, hf0⟩ := h0
  obtain ⟨xs0, hs0, hc0, hw0⟩ := sl_ints u8L (fun _ => rfl) rfl Tryd.underlying38 Tryd.underlying5 Tryd.cellsU8 hf0
  refine (walk a0 n0 cap0 xs0 W (months_of_laid hL) hs0 hc0 (fun z hz => u8_range (hw0 z hz))).mono fun e W' ⟨he, hg⟩ => ?_
  subst he
  have hb := below_of_gr hg
  refine ⟨_, rfl, _, _, _, [], p0 ++ [], q, hW', ?_, ?_, vars_stay hb hV, hb.frame _, fun h => by cases h⟩
  · exact trodAll_mk1 (shut_bool Tryd.underlying4 _)
  · exact args_stay hb _ _ _ _ hA2 (fun x hx => hlt x (List.mem_append_left _ (by simpa using hx))) (by intro t ht; simp at ht; subst ht; exact ⟨by kernel_rfl, of_decide_eq_true (by kernel_rfl)⟩)

set_option maxRecDepth 100000 in
theorem closed : joinedFacts Tryd.pinned.checked.prog 14 Tryd.f14 Rows.fnYieldOfNearSpec Rows.fnYieldOfNearRow = true := by
  rw [joinedFacts, show Tryd.pinned.checked.prog.mayEnter = true from Tryd.enters, show Tryd.pinned.checked.prog.liftsFinal = false from Tryd.lifts, show Tryd.pinned.checked.prog.make = some .cut from Tryd.cut]
  kernel_rfl

theorem row_holds : Rows.FnYieldOfNearSaid :=
  OpenClaim.holds_of_wide 14 Tryd.f14 rfl rfl rfl rfl rfl rfl rfl ⟨rfl, rfl, rfl, rfl, rfl⟩ rfl rfl rfl rfl rfl (by kernel_rfl) Tryd.func14 closed
    (of_decide_eq_true (by kernel_rfl)) (by unfold Func.isWrapper; first | (rw [if_pos (by decide +kernel)]; kernel_rfl) | (rw [if_neg (by decide +kernel)]; exact ⟨rfl, rfl⟩))
    (fun os started H enc _ => lifted os started H enc)

theorem holds : Rows.FnYieldOfNearCardSaid :=
  Claim7.holds_tied_plain_at .later [] [.data, .sentinel] true (true, "a4f7e9a3a2dd7febb91b59340b975e898b1d35a96e4db750cc7f4ee2cb25401f") false
    row_holds (fun _ h => by cases h) (by kernel_rfl) (fun _ h => by cases h) fnYieldOfNear_row_tie rfl ⟨rfl, rfl⟩ (by kernel_rfl) rfl
    (fun f fn hf hfn => by
      obtain rfl : f = 14 := Option.some.inj ((show Tryd.prog.funcNamed "loop.example/bonddesk/laws.FnYieldOfNear" = some 14 by kernel_rfl).symm.trans hf) |>.symm
      obtain rfl : fn = Tryd.f14 := (Option.some.inj (Tryd.func14.symm.trans hfn)).symm
      exact ⟨by kernel_rfl, fun j t ht => by
        rw [Tryd.params14] at ht
        have hm : t ∈ [38] := by simpa using Array.mem_of_getElem? ht
        have hall : ([38].all fun u => !Tryd.prog.wantsStandIn u) = true := by kernel_rfl
        exact (show Tryd.prog.wantsStandIn t = false by simpa using List.all_eq_true.1 hall t hm)⟩)
    (by kernel_rfl)
end FnYieldOfNear
end Go.Proofs.YtkgjciacdjhhfaaDoor
