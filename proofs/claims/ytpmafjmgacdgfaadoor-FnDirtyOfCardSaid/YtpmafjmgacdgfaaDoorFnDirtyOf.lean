/- For every input, FnDirtyOf returns true: prices can be cleaned. No condition. -/
import Derived.Test.YtpmafjmgacdgfaaDoorRows
import Derived.Test.YtpmafjmgacdgfaaDoorCards
import Derived.Test.YtpmafjmgacdgfaaDoorTie
import Derived.Test.YtpmafjmgacdgfaaDoorDirty2
import Derived.Test.YtpmafjmgacdgfaaDoorDrawPrice
import Derived.Test.YtpmafjmgacdgfaaDoorFrame
import Derived.Test.YtpmafjmgacdgfaaDoorFrameL
import Derived.ProofKit
namespace Go.Proofs.YtpmafjmgacdgfaaDoor
open Go.ChangeShapes Go.WideShapes Go.ChangeAt Go.RowKit
namespace FnDirtyOf

theorem dirty_clean {b : Bond} {day u : Int} (h : 0 ≤ dirtyF b day u) : 0 ≤ u ∧ u ≤ 50000 ∧ 0 ≤ accF b day ∧ accF b day ≤ 3000 ∧ dirtyF b day u = u + accF b day ∧ cleanF b day (dirtyF b day u) = (u, true) := by
  have hr := acc_range b day
  unfold dirtyF at h ⊢
  by_cases hc : accF b day < 0 ∨ withinB u 0 50000 = false
  · rw [if_pos hc] at h; omega
  · rw [if_neg hc]
    have h1 : ¬ accF b day < 0 := fun x => hc (.inl x)
    have h2 : withinB u 0 50000 = true := by
      cases hw : withinB u 0 50000 with
      | true => rfl
      | false => exact (hc (.inr hw)).elim
    obtain ⟨u0, u1⟩ := (within_iff' _ _ _).1 h2
    refine ⟨u0, u1, by omega, hr.2, rfl, ?_⟩
    unfold cleanF
    have h3 : withinB (u + accF b day) (accF b day) (accF b day + 50000) = true := (within_iff' _ _ _).2 (by omega)
    rw [if_neg (by rw [h3]; simp; omega)]
    congr 1; omega

set_option maxRecDepth 100000 in
set_option maxHeartbeats 2000000 in
theorem walk (a : Option Addr) (n cap : Nat) (xs : List Int) (w : World) (hm : Months w) (hs : Sl u8L w a n xs) (hcap : n ≤ cap) (hx : ∀ x ∈ xs, 0 ≤ x ∧ x ≤ 255) :
    Calls Tryd.prog 10 #[.slice a n cap] w fun e w' => e = .returned (.bool true) ∧ w.grownBy w' none := by
  have Hx := hid hx
  have Hs := hid hs
  have Hm := hid hm
  have hbig := hs.big
  unfold maxLen at hbig
  clear hx hs hm
  by_cases hn : 1048576 < n
  · go_enter Tryd.func10, Tryd.ntmps10
    go_wp2_with fail
    go_ret
    exact ⟨rfl, gr_refl _ _⟩
  clear hbig
  go_enter Tryd.func10, Tryd.ntmps10
  go_wp2_with fail
  refine (DrawDirtyOf_any a n cap xs w Hs.out hcap Hx.out).mono ?_
  rintro e w1 ⟨b, day, u, rfl, hB, ⟨⟨hd0, hd1⟩, hu0, hu1⟩, hg⟩
  have Hb1 := hid (heap_alloc_new w1 (Obj.cells #[.int .i64 b.start, .int .i64 b.stop, .int .i64 b.months, .int .i64 b.rate] 25))
  have Hg1 := hid (gr_alloc hg (Obj.cells #[.int .i64 b.start, .int .i64 b.stop, .int .i64 b.months, .int .i64 b.rate] 25))
  have hBs0 := hB.s0; have hBs1 := hB.s1; have hBe0 := hB.e0; have hBe1 := hB.e1
  have hBm0 := hB.m0; have hBm1 := hB.m1; have hBr0 := hB.r0; have hBr1 := hB.r1
  clear hg
  have HA := hid (fun wx (h : Months wx) => DirtyOf_any b day u wx h)
  have HSp := hid (fun wx => specDirtyOf_any b day u wx)
  have HC := hid (fun v wx (h : Months wx) => CleanOf_any b day v wx h)
  have HAc := hid (fun wx (h : Months wx) => AccruedOf_any b day wx h)
  have HL := hid (@dirty_clean b day u)
  generalize hv : dirtyF b day u = v at *
  by_cases hneg : v < 0
  · have hlt : decide (v < 0) = true := by simpa using hneg
    have hne : (v != v) = false := by simp
    have heq : (v == v) = true := by simp
    clear hneg hv HL
    go_wp2_with fail
    refine (HA.out _ (Hm.out.keep0 Hg1.out)).mono ?_
    rintro e' w2 ⟨rfl, hg⟩
    have Hgs2 := hid hg
    have Hg2 := hid (gr_trans0 Hg1.out hg)
    have Hb2 := hid (blk_keep Hb1.out hg (by simp))
    clear hg
    (try clear c0 c1 c2 c3)
    have c0 := blk_cell Hb2.out 0 _ rfl
    have c1 := blk_cell Hb2.out 1 _ rfl
    have c2 := blk_cell Hb2.out 2 _ rfl
    have c3 := blk_cell Hb2.out 3 _ rfl
    go_wp2_with fail
    refine (HSp.out _).mono ?_
    rintro e' w3 ⟨rfl, hg⟩
    have Hgs3 := hid hg
    have Hg3 := hid (gr_trans0 Hg2.out hg)
    have Hb3 := hid (blk_keep Hb2.out hg (by simp))
    clear hg
    (try clear c0 c1 c2 c3)
    have c0 := blk_cell Hb3.out 0 _ rfl
    have c1 := blk_cell Hb3.out 1 _ rfl
    have c2 := blk_cell Hb3.out 2 _ rfl
    have c3 := blk_cell Hb3.out 3 _ rfl
    go_wp2_with fail
    refine (HSp.out _).mono ?_
    rintro e' w4 ⟨rfl, hg⟩
    have Hgs4 := hid hg
    have Hg4 := hid (gr_trans0 Hg3.out hg)
    have Hb4 := hid (blk_keep Hb3.out hg (by simp))
    clear hg
    (try clear c0 c1 c2 c3)
    have c0 := blk_cell Hb4.out 0 _ rfl
    have c1 := blk_cell Hb4.out 1 _ rfl
    have c2 := blk_cell Hb4.out 2 _ rfl
    have c3 := blk_cell Hb4.out 3 _ rfl
    go_wp2_with fail
    go_ret
    exact ⟨rfl, Hg4.out⟩
  · obtain ⟨u0, u1, a0, a1, e1, e2⟩ := HL.out (by omega)
    have HC2 := hid (HC.out v)
    rw [e2] at HC2
    generalize accF b day = ac at *
    have hlt : decide (v < 0) = false := by simpa using hneg
    have hne : (v != v) = false := by simp
    have heq : (u == u) = true := by simp
    have hsub : (v - u == ac) = true := by simp; omega
    have v0 : 0 ≤ v := by omega
    have v1 : v ≤ 53000 := by omega
    clear hneg hv HL HC e1 e2
    simp only at HC2
    go_wp2_with fail
    refine (HA.out _ (Hm.out.keep0 Hg1.out)).mono ?_
    rintro e' w2 ⟨rfl, hg⟩
    have Hgs2 := hid hg
    have Hg2 := hid (gr_trans0 Hg1.out hg)
    have Hb2 := hid (blk_keep Hb1.out hg (by simp))
    clear hg
    (try clear c0 c1 c2 c3)
    have c0 := blk_cell Hb2.out 0 _ rfl
    have c1 := blk_cell Hb2.out 1 _ rfl
    have c2 := blk_cell Hb2.out 2 _ rfl
    have c3 := blk_cell Hb2.out 3 _ rfl
    go_wp2_with fail
    refine (HSp.out _).mono ?_
    rintro e' w3 ⟨rfl, hg⟩
    have Hgs3 := hid hg
    have Hg3 := hid (gr_trans0 Hg2.out hg)
    have Hb3 := hid (blk_keep Hb2.out hg (by simp))
    clear hg
    (try clear c0 c1 c2 c3)
    have c0 := blk_cell Hb3.out 0 _ rfl
    have c1 := blk_cell Hb3.out 1 _ rfl
    have c2 := blk_cell Hb3.out 2 _ rfl
    have c3 := blk_cell Hb3.out 3 _ rfl
    go_wp2_with fail
    refine (HC2.out _ (Hm.out.keep0 Hg3.out)).mono ?_
    rintro e' w4 ⟨rfl, hg⟩
    have Hgs4 := hid hg
    have Hg4 := hid (gr_trans0 Hg3.out hg)
    have Hb4 := hid (blk_keep Hb3.out hg (by simp))
    clear hg
    (try clear c0 c1 c2 c3)
    have c0 := blk_cell Hb4.out 0 _ rfl
    have c1 := blk_cell Hb4.out 1 _ rfl
    have c2 := blk_cell Hb4.out 2 _ rfl
    have c3 := blk_cell Hb4.out 3 _ rfl
    go_wp2_with fail
    refine (HAc.out _ (Hm.out.keep0 Hg4.out)).mono ?_
    rintro e' w5 ⟨rfl, hg⟩
    have Hgs5 := hid hg
    have Hg5 := hid (gr_trans0 Hg4.out hg)
    have Hb5 := hid (blk_keep Hb4.out hg (by simp))
    clear hg
    (try clear c0 c1 c2 c3)
    have c0 := blk_cell Hb5.out 0 _ rfl
    have c1 := blk_cell Hb5.out 1 _ rfl
    have c2 := blk_cell Hb5.out 2 _ rfl
    have c3 := blk_cell Hb5.out 3 _ rfl
    go_wp2_with fail
    go_ret
    exact ⟨rfl, Hg5.out⟩

set_option maxRecDepth 100000 in
theorem lifted (os : Os) (started : os.Started) (H : Type) (enc : TypeId × Value → H) :
    ReturnsInHanded {} Tryd.checked os 10 .any (fun w args => (Rows.fnDirtyOfSpec.pre enc Tryd.prog Tryd.f10 Rows.fnDirtyOfRow.domain false w args ∧ laidMetH Tryd.prog laidMonths w) ∧ sizedMet enc Tryd.prog Tryd.f10 (OpenSpec.ofChange Rows.fnDirtyOfSpec) false w args) (Rows.fnDirtyOfSpec.post enc Tryd.prog Tryd.f10 false true false false) := by
  refine returnsInHanded_of_change_and (C := Tryd.checked) (X := fun w _ => laidMetH Tryd.prog laidMonths w) (fun _ _ _ hh h => h.of_heap hh) Tryd.own started (by kernel_rfl) Tryd.func10
    (ChangeSpec.witness_shaped (enc := enc) (C := Tryd.checked) (os := os) (X := fun w _ => laidMetH Tryd.prog laidMonths w) false (World.doorLaid Tryd.prog 400 os) #[.slice none 0 0] 8 rfl (World.shaped_of_RefB (by kernel_rfl) (by kernel_rfl)) (by kernel_rfl) (by kernel_rfl) (by kernel_rfl) (door_met os _)) ?_
  intro W base args ds gs before hval0 hW _ _ hL _
  have hval : ∀ (j : Nat) t v, Tryd.f10.params[j]? = some t → args[j]? = some v → Value.okWide Tryd.prog W .any base t v := hval0
  have hW' := hW
  obtain ⟨p, q, hA0, hV, rfl, hfz, hnd⟩ := hW
  have hA : DataW.TrodAll enc Tryd.prog W 0 (fun _ => true) true Tryd.f10.params.toList args.toList ds p := hA0
  rw [Tryd.params10] at hA hval
  have hA2 := hA
  obtain ⟨v0, vs0, d0, ds0, p0, q0, hargs, rfl, rfl, h0, r0⟩ := trodAll_cons hA
  obtain ⟨rfl, rfl, rfl⟩ := trodAll_nil r0
  obtain rfl : args = #[v0] := by cases args; simp_all
  obtain ⟨g0, rfl⟩ := vars_one hV
  have hlt : ∀ x ∈ (p0 ++ []) ++ q, x.block < W.heap.size := fun x hx => hW'.lt x hx
  obtain ⟨a0, n0, cap0, rfl⟩ := okWide_slice Tryd.underlying32 (hval 0 32 v0 rfl rfl)
  obtain ⟨fuel0, hf0⟩ := h0
  obtain ⟨xs0, hs0, hc0, hw0⟩ := sl_ints u8L (fun _ => rfl) rfl Tryd.underlying32 Tryd.underlying5 Tryd.cellsU8 hf0
  refine (walk a0 n0 cap0 xs0 W (months_of_laid hL) hs0 hc0 (fun z hz => u8_range (hw0 z hz))).mono fun e W' ⟨he, hg⟩ => ?_
  subst he
  have hb := below_of_gr hg
  refine ⟨_, rfl, _, _, _, [], p0 ++ [], q, hW', ?_, ?_, vars_stay hb hV, hb.frame _, fun h => by cases h⟩
  · exact trodAll_mk1 (shut_bool Tryd.underlying4 _)
  · exact args_stay hb _ _ _ _ hA2 (fun x hx => hlt x (List.mem_append_left _ (by simpa using hx))) (by intro t ht; simp at ht; subst ht; exact ⟨by kernel_rfl, of_decide_eq_true (by kernel_rfl)⟩)

set_option maxRecDepth 100000 in
theorem closed : joinedFacts Tryd.pinned.checked.prog 10 Tryd.f10 Rows.fnDirtyOfSpec Rows.fnDirtyOfRow = true := by
  rw [joinedFacts, show Tryd.pinned.checked.prog.mayEnter = true from Tryd.enters, show Tryd.pinned.checked.prog.liftsFinal = false from Tryd.lifts, show Tryd.pinned.checked.prog.make = some .cut from Tryd.cut]
  kernel_rfl

theorem row_holds : Rows.FnDirtyOfSaid :=
  OpenClaim.holds_of_wide 10 Tryd.f10 rfl rfl rfl rfl rfl rfl rfl ⟨rfl, rfl, rfl, rfl, rfl⟩ rfl rfl rfl rfl rfl (by kernel_rfl) Tryd.func10 closed
    (of_decide_eq_true (by kernel_rfl)) (by unfold Func.isWrapper; first | (rw [if_pos (by decide +kernel)]; kernel_rfl) | (rw [if_neg (by decide +kernel)]; exact ⟨rfl, rfl⟩))
    (fun os started H enc _ => lifted os started H enc)

theorem holds : Rows.FnDirtyOfCardSaid :=
  Claim7.holds_tied_plain_at .later [] [.data] true (true, "22dfc429811bdb46a90c5d9e37b95d9549ab5b19e19d6b6766dabd62dd407f7b") false
    row_holds (fun _ h => by cases h) (by kernel_rfl) (fun _ h => by cases h) fnDirtyOf_row_tie rfl ⟨rfl, rfl⟩ (by kernel_rfl) rfl
    (fun f fn hf hfn => by
      obtain rfl : f = 10 := Option.some.inj ((show Tryd.prog.funcNamed "loop.example/bonddesk/laws.FnDirtyOf" = some 10 by kernel_rfl).symm.trans hf) |>.symm
      obtain rfl : fn = Tryd.f10 := (Option.some.inj (Tryd.func10.symm.trans hfn)).symm
      exact ⟨by kernel_rfl, fun j t ht => by
        rw [Tryd.params10] at ht
        have hm : t ∈ [32] := by simpa using Array.mem_of_getElem? ht
        have hall : ([32].all fun u => !Tryd.prog.wantsStandIn u) = true := by kernel_rfl
        exact (show Tryd.prog.wantsStandIn t = false by simpa using List.all_eq_true.1 hall t hm)⟩)
    (by kernel_rfl)
end FnDirtyOf
end Go.Proofs.YtpmafjmgacdgfaaDoor
