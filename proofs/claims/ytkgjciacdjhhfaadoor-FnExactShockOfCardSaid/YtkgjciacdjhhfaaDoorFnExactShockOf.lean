/- For every input, FnExactShockOf returns true: the program's shocks are the reference's. No condition. -/
import Derived.Test.YtkgjciacdjhhfaaDoorRows
import Derived.Test.YtkgjciacdjhhfaaDoorCards
import Derived.Test.YtkgjciacdjhhfaaDoorTie
import Derived.Test.YtkgjciacdjhhfaaDoorSpecShock
import Derived.Test.YtkgjciacdjhhfaaDoorToInts
import Derived.Test.YtkgjciacdjhhfaaDoorRowBond
import Derived.Test.YtkgjciacdjhhfaaDoorFrame
import Derived.Test.YtkgjciacdjhhfaaDoorFrameL
import Derived.ProofKit
namespace Go.Proofs.YtkgjciacdjhhfaaDoor
open Go.ChangeShapes Go.WideShapes Go.ChangeAt Go.RowKit
namespace FnExactShockOf

set_option maxRecDepth 100000 in
set_option maxHeartbeats 2000000 in
theorem walk (b : Bond) (day y : Int) (a : Option Addr) (n cap : Nat) (xs : List Int) (w : World) (hm : Months w) (_ : (Lit.int .i64 b.start).wf = true ∧ (Lit.int .i64 b.stop).wf = true ∧ (Lit.int .i64 b.months).wf = true ∧ (Lit.int .i64 b.rate).wf = true) (_ : -9223372036854775808 ≤ day ∧ day ≤ 9223372036854775807) (_ : -9223372036854775808 ≤ y ∧ y ≤ 9223372036854775807) (hs : Sl intL w a n xs) (_ : n ≤ cap) (_ : ∀ x ∈ xs, -9223372036854775808 ≤ x ∧ x ≤ 9223372036854775807) :
    Calls Tryd.prog 6 #[.agg #[.int .i64 b.start, .int .i64 b.stop, .int .i64 b.months, .int .i64 b.rate], .int .i64 day, .int .i64 y, .slice a n cap] w fun e w' => e = .returned (.bool true) ∧ w.grownBy w' none := by
  have hbig := hs.big
  have hg0 : w.grownBy (w.alloc (.cells #[.int .i64 b.start, .int .i64 b.stop, .int .i64 b.months, .int .i64 b.rate] 23)) none := gr_alloc (gr0 _) _
  have Hb0 := hid (heap_alloc_new w (.cells #[.int .i64 b.start, .int .i64 b.stop, .int .i64 b.months, .int .i64 b.rate] 23))
  have Hm := hid hm
  have Hs := hid (hs.keep0 hg0)
  have Hg0 := hid hg0
  clear hs hm hg0
  by_cases hn : 1048576 < n
  · unfold maxLen at hbig
    go_enter Tryd.func6, Tryd.ntmps6
    go_wp2_with fail
    go_ret
    exact ⟨rfl, Hg0.out⟩
  · have hn2 : n ≤ 1048576 := by omega
    clear hbig
    have hdx : decide (xs = xs) = true := by simp
    have HSp := hid (fun (a : Option Addr) (n cap : Nat) wx (h : Sl intL wx a n xs) => specShockOf_any b day y a n cap xs wx h)
    have HIm := hid (fun (a : Option Addr) (n cap : Nat) wx (hx : Months wx) (h : Sl intL wx a n xs) => ShockOf_any b day y a n cap xs wx hx h)
    generalize shockF b day y xs = V at *
    have hd : (V != V) = false := by simp
    (try clear c0 c1 c2 c3)
    have c0 := blk_cell Hb0.out 0 _ rfl
    have c1 := blk_cell Hb0.out 1 _ rfl
    have c2 := blk_cell Hb0.out 2 _ rfl
    have c3 := blk_cell Hb0.out 3 _ rfl
    go_enter Tryd.func6, Tryd.ntmps6
    go_wp2_with fail
    refine (toBond_any b _).mono ?_
    rintro e' w1 ⟨rfl, hg⟩
    have Hg1 := hid (gr_trans0 Hg0.out hg)
    have Hb1 := hid (blk_keep Hb0.out hg (by simp))
    (try clear c0 c1 c2 c3)
    have hgs := hid hg
    clear hg
    have Hs1 := hid (Hs.out.keep0 hgs.out)
    go_wp2_with fail
    refine (toIntS_any a n cap xs w1 Hs1.out hn2).mono ?_
    rintro e w2 ⟨a2, rfl, ho2, hg⟩
    have Ho2 := hid ho2.sl
    have Hg2 := hid (gr_trans0 Hg1.out hg)
    have Hb2 := hid (blk_keep Hb1.out hg (by simp))
    have Hs2 := hid (Hs1.out.keep0 hg)
    clear ho2 hg
    go_wp2_with fail
    refine (HSp.out a2 n n w2 Ho2.out).mono ?_
    rintro e w3 ⟨rfl, hg⟩
    have Hg3 := hid (gr_trans0 Hg2.out hg)
    have Hb3 := hid (blk_keep Hb2.out hg (by simp))
    have Hs3 := hid (Hs2.out.keep0 hg)
    clear hg Ho2
    go_wp2_with fail
    refine (toIntS_any a n cap xs w3 Hs3.out hn2).mono ?_
    rintro e w4 ⟨a4, rfl, ho4, hg⟩
    have Ho4 := hid ho4.sl
    have Hg4 := hid (gr_trans0 Hg3.out hg)
    have Hb4 := hid (blk_keep Hb3.out hg (by simp))
    have Hs4 := hid (Hs3.out.keep0 hg)
    clear ho4 hg
    (try clear c0 c1 c2 c3)
    have c0 := blk_cell Hb4.out 0 _ rfl
    have c1 := blk_cell Hb4.out 1 _ rfl
    have c2 := blk_cell Hb4.out 2 _ rfl
    have c3 := blk_cell Hb4.out 3 _ rfl
    go_wp2_with fail
    refine (toBond_any b _).mono ?_
    rintro e' w5 ⟨rfl, hg⟩
    have Hg5 := hid (gr_trans0 Hg4.out hg)
    have Hb5 := hid (blk_keep Hb4.out hg (by simp))
    (try clear c0 c1 c2 c3)
    have hgs := hid hg
    clear hg
    have Ho5 := hid (Ho4.out.keep0 hgs.out)
    have Hs5 := hid (Hs4.out.keep0 hgs.out)
    go_wp2_with fail
    refine (HIm.out a4 n n w5 (Hm.out.keep0 Hg5.out) Ho5.out).mono ?_
    rintro e w6 ⟨rfl, hg⟩
    have Hg6 := hid (gr_trans0 Hg5.out hg)
    have Ho6 := hid (Ho5.out.keep0 hg)
    have Hs6 := hid (Hs5.out.keep0 hg)
    clear hg
    go_wp2_with fail
    refine (toIntS_any a n cap xs w6 Hs6.out hn2).mono ?_
    rintro e w7 ⟨a7, rfl, ho7, hg⟩
    have Hg7 := hid (gr_trans0 Hg6.out hg)
    have Ho7 := hid (Ho6.out.keep0 hg)
    have Hq7 := hid ho7.sl
    clear ho7 hg
    go_wp2_with fail
    refine (eqIntS_any a4 a7 n n n n xs xs w7 Ho7.out Hq7.out).mono ?_
    rintro e w8 ⟨rfl, hg⟩
    have Hg8 := hid (gr_trans0 Hg7.out hg)
    clear hg
    go_wp2_with fail
    go_ret
    exact ⟨rfl, Hg8.out⟩

set_option maxRecDepth 100000 in
theorem lifted (os : Os) (started : os.Started) (H : Type) (enc : TypeId × Value → H) :
    ReturnsInHanded {} Tryd.checked os 6 .any (fun w args => (Rows.fnExactShockOfSpec.pre enc Tryd.prog Tryd.f6 Rows.fnExactShockOfRow.domain false w args ∧ laidMetH Tryd.prog laidMonths w) ∧ sizedMet enc Tryd.prog Tryd.f6 (OpenSpec.ofChange Rows.fnExactShockOfSpec) false w args) (Rows.fnExactShockOfSpec.post enc Tryd.prog Tryd.f6 false true false false) := by
  refine returnsInHanded_of_change_and (C := Tryd.checked) (X := fun w _ => laidMetH Tryd.prog laidMonths w) (fun _ _ _ hh h => h.of_heap hh) Tryd.own started (by kernel_rfl) Tryd.func6
    (ChangeSpec.witness_shaped (enc := enc) (C := Tryd.checked) (os := os) (X := fun w _ => laidMetH Tryd.prog laidMonths w) false (World.doorLaid Tryd.prog 400 os) #[.agg #[.int .i64 0, .int .i64 0, .int .i64 0, .int .i64 0], .int .i64 0, .int .i64 0, .slice none 0 0] 8 rfl (World.shaped_of_RefB (by kernel_rfl) (by kernel_rfl)) (by kernel_rfl) (by kernel_rfl) (by kernel_rfl) (door_met os _)) ?_
  intro W base args ds gs before hval0 hW _ _ hL _
  have hval : ∀ (j : Nat) t v, Tryd.f6.params[j]? = some t → args[j]? = some v → Value.okWide Tryd.prog W .any base t v := hval0
  have hW' := hW
  obtain ⟨p, q, hA0, hV, rfl, hfz, hnd⟩ := hW
  have hA : DataW.TrodAll enc Tryd.prog W 0 (fun _ => true) true Tryd.f6.params.toList args.toList ds p := hA0
  rw [Tryd.params6] at hA hval
  have hA2 := hA
  obtain ⟨v0, vs0, d0, ds0, p0, q0, hargs, rfl, rfl, h0, r0⟩ := trodAll_cons hA
  obtain ⟨v1, vs1, d1, ds1, p1, q1, rfl, rfl, rfl, h1, r1⟩ := trodAll_cons r0
  obtain ⟨v2, vs2, d2, ds2, p2, q2, rfl, rfl, rfl, h2, r2⟩ := trodAll_cons r1
  obtain ⟨v3, vs3, d3, ds3, p3, q3, rfl, rfl, rfl, h3, r3⟩ := trodAll_cons r2
  obtain ⟨rfl, rfl, rfl⟩ := trodAll_nil r3
  obtain rfl : args = #[v0, v1, v2, v3] := by cases args; simp_all
  obtain ⟨g0, g1, rfl⟩ := vars_two hV
  have hlt : ∀ x ∈ (p0 ++ (p1 ++ (p2 ++ (p3 ++ [])))) ++ q, x.block < W.heap.size := fun x hx => hW'.lt x hx
  obtain ⟨x0, rfl, hw0⟩ := open_lawsBond (hval 0 23 v0 rfl rfl) h0
  obtain ⟨x1, rfl, rfl, rfl, w1⟩ := open_int Tryd.underlying3 (hval 1 3 v1 rfl rfl) h1
  obtain ⟨x2, rfl, rfl, rfl, w2⟩ := open_int Tryd.underlying3 (hval 2 3 v2 rfl rfl) h2
  obtain ⟨a3, n3, cap3, rfl⟩ := okWide_slice Tryd.underlying33 (hval 3 33 v3 rfl rfl)
  obtain ⟨fuel3, hf3⟩ := h3
  obtain ⟨xs3, hs3, hc3, hw3⟩ := sl_ints intL (fun _ => rfl) rfl Tryd.underlying33 Tryd.underlying3 Tryd.cellsInt hf3
  refine (walk x0 x1 x2 a3 n3 cap3 xs3 W (months_of_laid hL) hw0 (i64_range w1) (i64_range w2) hs3 hc3 (fun z hz => i64_range (hw3 z hz))).mono fun e W' ⟨he, hg⟩ => ?_
  subst he
  have hb := below_of_gr hg
  refine ⟨_, rfl, _, _, _, [], p0 ++ ([] ++ ([] ++ (p3 ++ []))), q, hW', ?_, ?_, vars_stay hb hV, hb.frame _, fun h => by cases h⟩
  · exact trodAll_mk1 (shut_bool Tryd.underlying4 _)
  · exact args_stay hb _ _ _ _ hA2 (fun x hx => hlt x (List.mem_append_left _ (by simpa using hx))) (by intro t ht; simp at ht; rcases ht with rfl | rfl | rfl | rfl <;> exact ⟨by kernel_rfl, of_decide_eq_true (by kernel_rfl)⟩)

set_option maxRecDepth 100000 in
theorem closed : joinedFacts Tryd.pinned.checked.prog 6 Tryd.f6 Rows.fnExactShockOfSpec Rows.fnExactShockOfRow = true := by
  rw [joinedFacts, show Tryd.pinned.checked.prog.mayEnter = true from Tryd.enters, show Tryd.pinned.checked.prog.liftsFinal = false from Tryd.lifts, show Tryd.pinned.checked.prog.make = some .cut from Tryd.cut]
  kernel_rfl

theorem row_holds : Rows.FnExactShockOfSaid :=
  OpenClaim.holds_of_wide 6 Tryd.f6 rfl rfl rfl rfl rfl rfl rfl ⟨rfl, rfl, rfl, rfl, rfl⟩ rfl rfl rfl rfl rfl (by kernel_rfl) Tryd.func6 closed
    (of_decide_eq_true (by kernel_rfl)) (by unfold Func.isWrapper; first | (rw [if_pos (by decide +kernel)]; kernel_rfl) | (rw [if_neg (by decide +kernel)]; exact ⟨rfl, rfl⟩))
    (fun os started H enc _ => lifted os started H enc)

theorem holds : Rows.FnExactShockOfCardSaid :=
  Claim7.holds_tied_plain_at .later [] [.data, .sentinel] true (true, "a4f7e9a3a2dd7febb91b59340b975e898b1d35a96e4db750cc7f4ee2cb25401f") false
    row_holds (fun _ h => by cases h) (by kernel_rfl) (fun _ h => by cases h) fnExactShockOf_row_tie rfl ⟨rfl, rfl⟩ (by kernel_rfl) rfl
    (fun f fn hf hfn => by
      obtain rfl : f = 6 := Option.some.inj ((show Tryd.prog.funcNamed "loop.example/bonddesk/laws.FnExactShockOf" = some 6 by kernel_rfl).symm.trans hf) |>.symm
      obtain rfl : fn = Tryd.f6 := (Option.some.inj (Tryd.func6.symm.trans hfn)).symm
      exact ⟨by kernel_rfl, fun j t ht => by
        rw [Tryd.params6] at ht
        have hm : t ∈ [23, 3, 3, 33] := by simpa using Array.mem_of_getElem? ht
        have hall : ([23, 3, 3, 33].all fun u => !Tryd.prog.wantsStandIn u) = true := by kernel_rfl
        exact (show Tryd.prog.wantsStandIn t = false by simpa using List.all_eq_true.1 hall t hm)⟩)
    (by kernel_rfl)
end FnExactShockOf
end Go.Proofs.YtkgjciacdjhhfaaDoor
