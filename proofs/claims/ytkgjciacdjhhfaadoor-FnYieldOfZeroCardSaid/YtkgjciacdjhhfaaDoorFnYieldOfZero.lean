/- For every input, FnYieldOfZero returns true: without a yield the price is the sum. No condition. -/
import Derived.Test.YtkgjciacdjhhfaaDoorRows
import Derived.Test.YtkgjciacdjhhfaaDoorCards
import Derived.Test.YtkgjciacdjhhfaaDoorTie
import Derived.Test.YtkgjciacdjhhfaaDoorSpecYield
import Derived.Test.YtkgjciacdjhhfaaDoorDrawYield2
import Derived.Test.YtkgjciacdjhhfaaDoorFlowAfter
import Derived.Test.YtkgjciacdjhhfaaDoorFrame
import Derived.Test.YtkgjciacdjhhfaaDoorFrameL
import Derived.ProofKit
namespace Go.Proofs.YtkgjciacdjhhfaaDoor
open Go.ChangeShapes Go.WideShapes Go.ChangeAt Go.RowKit
namespace FnYieldOfZero

theorem sumA_snoc (xs : List Flow) (x : Flow) : sumA (xs ++ [x]) = sumA xs + x.amount := by
  induction xs with
  | nil => simp [sumA]
  | cons z zs ih => simp only [List.cons_append, sumA, ih]; omega
theorem sumA_take (xs : List Flow) (h : ∀ x ∈ xs, 0 ≤ x.amount ∧ x.amount ≤ 13000) (k : Nat) (hk : k ≤ xs.length) : 0 ≤ sumA (xs.take k) ∧ sumA (xs.take k) ≤ 13000 * k := by
  induction k with
  | zero => simp [sumA]
  | succ k ih =>
    have hx : xs[k]? = some (xs[k]'(by omega)) := by simp [show k < xs.length by omega]
    obtain ⟨i0, i1⟩ := ih (by omega)
    have h1 := h _ (List.mem_of_getElem? hx)
    rw [take_snoc _ _ _ hx, sumA_snoc]
    omega
theorem zero_law {b : Bond} {day : Int} (h : runB b day = true) : 0 ≤ leastF b day (sumA (afterF b day)) ∧ mostF b day (sumA (afterF b day)) = 0 ∧ leastF b day (sumA (afterF b day) + 1) = -1 ∧ (afterF b day).length ≤ 40 ∧ ∀ x ∈ afterF b day, 0 ≤ x.amount ∧ x.amount ≤ 13000 := by
  have R := run_of h
  rw [R.after]
  have z := yields_zero h
  exact ⟨z.1, z.2.1, z.2.2, R.tail_len.2, fun x hx => R.tail_amount x hx⟩

set_option maxRecDepth 100000 in
set_option maxHeartbeats 2000000 in
theorem walk (a : Option Addr) (n cap : Nat) (xs : List Int) (w : World) (hm : Months w) (hs : Sl u8L w a n xs) (hcap : n ≤ cap) (hx : ∀ x ∈ xs, 0 ≤ x ∧ x ≤ 255) :
    Calls Tryd.prog 15 #[.slice a n cap] w fun e w' => e = .returned (.bool true) ∧ w.grownBy w' none := by
  have Hx := hid hx
  have Hs := hid hs
  have Hm := hid hm
  have hbig := hs.big
  unfold maxLen at hbig
  clear hx hs hm
  by_cases hn : 1048576 < n
  · go_enter Tryd.func15, Tryd.ntmps15
    go_wp2_with fail
    go_ret
    exact ⟨rfl, gr_refl _ _⟩
  clear hbig
  go_enter Tryd.func15, Tryd.ntmps15
  go_wp2_with fail
  refine (DrawYieldOf_any a n cap xs w Hs.out hcap Hx.out).mono ?_
  rintro e w1 ⟨b, day, d, rfl, hB, ⟨⟨hd0, hd1⟩, hy0, hy1⟩, hg⟩
  have Hb1 := hid (heap_alloc_new w1 (Obj.cells #[.int .i64 b.start, .int .i64 b.stop, .int .i64 b.months, .int .i64 b.rate] 27))
  have Hg1 := hid (gr_alloc hg (Obj.cells #[.int .i64 b.start, .int .i64 b.stop, .int .i64 b.months, .int .i64 b.rate] 27))
  have hBs0 := hB.s0; have hBs1 := hB.s1; have hBe0 := hB.e0; have hBe1 := hB.e1
  have hBm0 := hB.m0; have hBm1 := hB.m1; have hBr0 := hB.r0; have hBr1 := hB.r1
  clear hg
  have HI := hid (fun wx (h : Months wx) => YieldOf_any b day d wx h)
  have HSp := hid (fun wx => specYieldOf_any b day d wx)
  have HVB := hid (fun wx (h : Months wx) => ValidBond_any b wx h)
  have HN := hid (zero_law (b := b) (day := day))
  obtain ⟨v, hv⟩ : ∃ v, leastF b day d = v := ⟨_, rfl⟩
  obtain ⟨u, hu⟩ : ∃ u, mostF b day d = u := ⟨_, rfl⟩
  rw [hv] at HI HSp
  rw [hu] at HI HSp
  clear hv hu
  have e1 : (v != v) = false := by simp
  have e2 : (u != u) = false := by simp
  have e3 : (v == v) = true := by simp
  have e4 : (u == u) = true := by simp
  (try clear c0 c1 c2 c3)
  have c0 := blk_cell Hb1.out 0 _ rfl
  have c1 := blk_cell Hb1.out 1 _ rfl
  have c2 := blk_cell Hb1.out 2 _ rfl
  have c3 := blk_cell Hb1.out 3 _ rfl
  go_wp2_with fail
  refine (HI.out _ (Hm.out.keep0 Hg1.out)).mono ?_
  rintro e' w2 ⟨rfl, hg⟩
  have Hgs2 := hid hg
  have Hg2 := hid (gr_trans0 Hg1.out hg)
  have Hb2 := hid (blk_keep Hb1.out hg (by simp))
  clear hg
  (try clear c0 c1 c2 c3)
  have c0 := blk_cell Hb2.out 0 _ rfl
  have c1 := blk_cell Hb2.out 1 _ rfl
  have c2 := blk_cell Hb2.out 2 _ rfl
  have c3 := blk_cell Hb2.out 3 _ rfl
  go_wp2_with fail
  refine (HSp.out _).mono ?_
  rintro e' w3 ⟨rfl, hg⟩
  have Hgs3 := hid hg
  have Hg3 := hid (gr_trans0 Hg2.out hg)
  have Hb3 := hid (blk_keep Hb2.out hg (by simp))
  clear hg
  (try clear c0 c1 c2 c3)
  have c0 := blk_cell Hb3.out 0 _ rfl
  have c1 := blk_cell Hb3.out 1 _ rfl
  have c2 := blk_cell Hb3.out 2 _ rfl
  have c3 := blk_cell Hb3.out 3 _ rfl
  go_wp2_with fail
  refine (HVB.out _ (Hm.out.keep0 Hg3.out)).mono ?_
  rintro e' w4 ⟨rfl, hg⟩
  have Hgs4 := hid hg
  have Hg4 := hid (gr_trans0 Hg3.out hg)
  have Hb4 := hid (blk_keep Hb3.out hg (by simp))
  clear hg
  (try clear c0 c1 c2 c3)
  have c0 := blk_cell Hb4.out 0 _ rfl
  have c1 := blk_cell Hb4.out 1 _ rfl
  have c2 := blk_cell Hb4.out 2 _ rfl
  have c3 := blk_cell Hb4.out 3 _ rfl
  cases hbb : bondB b with
  | false =>
    go_wp2_with fail
    go_ret
    exact ⟨rfl, Hg4.out⟩
  | true =>
    by_cases h1 : day < b.start
    · have t1 : decide (day < b.start) = true := by simpa using h1
      go_wp2_with fail
      go_ret
      exact ⟨rfl, Hg4.out⟩
    have t1 : decide (day < b.start) = false := by simpa using h1
    by_cases h2 : b.stop ≤ day
    · have t2 : decide (b.stop ≤ day) = true := by simpa using h2
      go_wp2_with fail
      go_ret
      exact ⟨rfl, Hg4.out⟩
    have t2 : decide (b.stop ≤ day) = false := by simpa using h2
    have HNN := hid (HN.out (by unfold runB; rw [hbb]; simp only [Bool.true_and, Bool.and_eq_true, decide_eq_true_eq]; omega))
    have HF := hid (fun wx (h : Months wx) => FlowsAfter_any b day wx h)
    have HJ := hid (fun d wx (h : Months wx) => YieldOf_any b day d wx h)
    clear h1 h2 hbb HI HSp HVB HN
    generalize afterF b day = L at *
    go_wp2_with fail
    refine (HF.out _ (Hm.out.keep0 Hg4.out)).mono ?_
    rintro e' w5 ⟨fa, fn, fc, rfl, ho, _, hg⟩
    have Hgs5 := hid hg
    have Hg5 := hid (gr_trans0 Hg4.out hg)
    have Hb5 := hid (blk_keep Hb4.out hg (by simp))
    clear hg
    (try clear c0 c1 c2 c3)
    have c0 := blk_cell Hb5.out 0 _ rfl
    have c1 := blk_cell Hb5.out 1 _ rfl
    have c2 := blk_cell Hb5.out 2 _ rfl
    have c3 := blk_cell Hb5.out 3 _ rfl
    have Hs := hid ho.sl
    have hfn : fn ≤ 40 := by have := ho.len; have := HNN.out.2.2.2.1; omega
    clear ho c0 c1 c2 c3 t1 t2
    go_wp2_with fail
    go_loopw [11, 12] (fun s i wr => ∃ k : Nat, k ≤ fn ∧ i = .int .i64 k ∧ s = .int .i64 (sumA (L.take k)) ∧ w5.grownBy wr none) (fun _ i _ => fn - (intOf i).toNat)
    case atStart => exact ⟨0, by omega, rfl, rfl, gr0 _⟩
    case round =>
      obtain ⟨k, hk, rfl, rfl, hgr⟩ := hrel
      have Hgr := hid hgr
      clear hgr
      have hsb := sumA_take L HNN.out.2.2.2.2 k (by have := Hs.out.len; omega)
      by_cases hlt : k < fn
      · obtain ⟨lb, lo, x, rfl, hx, l0, l1⟩ := flow_at (Hs.out.keep0 Hgr.out) k hlt
        have hxa := HNN.out.2.2.2.2 x (List.mem_of_getElem? hx)
        obtain ⟨xa0, xa1⟩ := hxa
        have Hsn := hid (show sumA (L.take (k + 1)) = sumA (L.take k) + x.amount by rw [take_snoc _ _ _ hx, sumA_snoc])
        have hi0 : (0 : Int) ≤ k := by omega
        have hi1 : (k : Int) < fn := by omega
        clear hx
        generalize sumA (L.take k) = s at *
        go_wp2_with fail
        go_roundw
        case rel => exact ⟨k + 1, by omega, by go_num, by rw [Hsn.out], Hgr.out⟩
        case measure => simp [intOf]; omega
      · obtain rfl : k = fn := by omega
        rw [take_len _ _ Hs.out.len] at hsb ⊢
        obtain ⟨n1, n2, n3, _⟩ := HNN.out
        obtain ⟨s, hs⟩ : ∃ s, sumA L = s := ⟨_, rfl⟩
        rw [hs] at n1 n2 n3 hsb ⊢
        have HJ1 := hid (HJ.out s)
        have HJ2 := hid (HJ.out (s + 1))
        rw [n2] at HJ1
        rw [n3] at HJ2
        generalize leastF b day s = q at *
        generalize mostF b day (s + 1) = q2 at *
        have t1 : decide (0 ≤ q) = true := by simpa using n1
        have us : IntKind.i64.wrap (s + 1) = s + 1 := IntWalk.i64_in _ (by omega)
        have Hg6 := hid (gr_trans0 Hg5.out Hgr.out)
        have Hb6 := hid (blk_keep Hb5.out Hgr.out (by simp))
        clear hs n1 n2 n3
        (try clear c0 c1 c2 c3)
        have c0 := blk_cell Hb6.out 0 _ rfl
        have c1 := blk_cell Hb6.out 1 _ rfl
        have c2 := blk_cell Hb6.out 2 _ rfl
        have c3 := blk_cell Hb6.out 3 _ rfl
        go_wp2_with fail
        refine (HJ1.out _ (Hm.out.keep0 Hg6.out)).mono ?_
        rintro e' w7 ⟨rfl, hg⟩
        have Hgs7 := hid hg
        have Hg7 := hid (gr_trans0 Hg6.out hg)
        have Hb7 := hid (blk_keep Hb6.out hg (by simp))
        clear hg
        (try clear c0 c1 c2 c3)
        have c0 := blk_cell Hb7.out 0 _ rfl
        have c1 := blk_cell Hb7.out 1 _ rfl
        have c2 := blk_cell Hb7.out 2 _ rfl
        have c3 := blk_cell Hb7.out 3 _ rfl
        go_wp2_with fail
        refine (HJ2.out _ (Hm.out.keep0 Hg7.out)).mono ?_
        rintro e' w8 ⟨rfl, hg⟩
        have Hgs8 := hid hg
        have Hg8 := hid (gr_trans0 Hg7.out hg)
        have Hb8 := hid (blk_keep Hb7.out hg (by simp))
        clear hg
        (try clear c0 c1 c2 c3)
        have c0 := blk_cell Hb8.out 0 _ rfl
        have c1 := blk_cell Hb8.out 1 _ rfl
        have c2 := blk_cell Hb8.out 2 _ rfl
        have c3 := blk_cell Hb8.out 3 _ rfl
        go_wp2_with fail
        go_ret
        exact ⟨rfl, Hg8.out⟩

set_option maxRecDepth 100000 in
theorem lifted (os : Os) (started : os.Started) (H : Type) (enc : TypeId × Value → H) :
    ReturnsInHanded {} Tryd.checked os 15 .any (fun w args => (Rows.fnYieldOfZeroSpec.pre enc Tryd.prog Tryd.f15 Rows.fnYieldOfZeroRow.domain false w args ∧ laidMetH Tryd.prog laidMonths w) ∧ sizedMet enc Tryd.prog Tryd.f15 (OpenSpec.ofChange Rows.fnYieldOfZeroSpec) false w args) (Rows.fnYieldOfZeroSpec.post enc Tryd.prog Tryd.f15 false true false false) := by
  refine returnsInHanded_of_change_and (C := Tryd.checked) (X := fun w _ => laidMetH Tryd.prog laidMonths w) (fun _ _ _ hh h => h.of_heap hh) Tryd.own started (by kernel_rfl) Tryd.func15
    (ChangeSpec.witness_shaped (enc := enc) (C := Tryd.checked) (os := os) (X := fun w _ => laidMetH Tryd.prog laidMonths w) false (World.doorLaid Tryd.prog 400 os) #[.slice none 0 0] 8 rfl (World.shaped_of_RefB (by kernel_rfl) (by kernel_rfl)) (by kernel_rfl) (by kernel_rfl) (by kernel_rfl) (door_met os _)) ?_
  intro W base args ds gs before hval0 hW _ _ hL _
  have hval : ∀ (j : Nat) t v, Tryd.f15.params[j]? = some t → args[j]? = some v → Value.okWide Tryd.prog W .any base t v := hval0
  have hW' := hW
  obtain ⟨p, q, hA0, hV, rfl, hfz, hnd⟩ := hW
  have hA : DataW.TrodAll enc Tryd.prog W 0 (fun _ => true) true Tryd.f15.params.toList args.toList ds p := hA0
  rw [Tryd.params15] at hA hval
  have hA2 := hA
  obtain ⟨v0, vs0, d0, ds0, p0, q0, hargs, rfl, rfl, h0, r0⟩ := trodAll_cons hA
  obtain ⟨rfl, rfl, rfl⟩ := trodAll_nil r0
  obtain rfl : args = #[v0] := by cases args; simp_all
  obtain ⟨g0, g1, rfl⟩ := vars_two hV
  have hlt : ∀ x ∈ (p0 ++ []) ++ q, x.block < W.heap.size := fun x hx => hW'.lt x hx
  obtain ⟨a0, n0, cap0, rfl⟩ := okWide_slice Tryd.underlying38 (hval 0 38 v0 rfl rfl)
  obtain ⟨fuel0, hf0⟩ := h0
  obtain ⟨xs0, hs0, hc0, hw0⟩ := sl_ints u8L (fun _ => rfl) rfl Tryd.underlying38 Tryd.underlying5 Tryd.cellsU8 hf0
  refine (walk a0 n0 cap0 xs0 W (months_of_laid hL) hs0 hc0 (fun z hz => u8_range (hw0 z hz))).mono fun e W' ⟨he, hg⟩ => ?_
  subst he
  have hb := below_of_gr hg
  refine ⟨_, rfl, _, _, _, [], p0 ++ [], q, hW', ?_, ?_, vars_stay hb hV, hb.frame _, fun h => by cases h⟩
  · exact trodAll_mk1 (shut_bool Tryd.underlying4 _)
  · exact args_stay hb _ _ _ _ hA2 (fun x hx => hlt x (List.mem_append_left _ (by simpa using hx))) (by intro t ht; simp at ht; subst ht; exact ⟨by kernel_rfl, of_decide_eq_true (by kernel_rfl)⟩)

set_option maxRecDepth 100000 in
theorem closed : joinedFacts Tryd.pinned.checked.prog 15 Tryd.f15 Rows.fnYieldOfZeroSpec Rows.fnYieldOfZeroRow = true := by
  rw [joinedFacts, show Tryd.pinned.checked.prog.mayEnter = true from Tryd.enters, show Tryd.pinned.checked.prog.liftsFinal = false from Tryd.lifts, show Tryd.pinned.checked.prog.make = some .cut from Tryd.cut]
  kernel_rfl

theorem row_holds : Rows.FnYieldOfZeroSaid :=
  OpenClaim.holds_of_wide 15 Tryd.f15 rfl rfl rfl rfl rfl rfl rfl ⟨rfl, rfl, rfl, rfl, rfl⟩ rfl rfl rfl rfl rfl (by kernel_rfl) Tryd.func15 closed
    (of_decide_eq_true (by kernel_rfl)) (by unfold Func.isWrapper; first | (rw [if_pos (by decide +kernel)]; kernel_rfl) | (rw [if_neg (by decide +kernel)]; exact ⟨rfl, rfl⟩))
    (fun os started H enc _ => lifted os started H enc)

theorem holds : Rows.FnYieldOfZeroCardSaid :=
  Claim7.holds_tied_plain_at .later [] [.data, .sentinel] true (true, "a4f7e9a3a2dd7febb91b59340b975e898b1d35a96e4db750cc7f4ee2cb25401f") false
    row_holds (fun _ h => by cases h) (by kernel_rfl) (fun _ h => by cases h) fnYieldOfZero_row_tie rfl ⟨rfl, rfl⟩ (by kernel_rfl) rfl
    (fun f fn hf hfn => by
      obtain rfl : f = 15 := Option.some.inj ((show Tryd.prog.funcNamed "loop.example/bonddesk/laws.FnYieldOfZero" = some 15 by kernel_rfl).symm.trans hf) |>.symm
      obtain rfl : fn = Tryd.f15 := (Option.some.inj (Tryd.func15.symm.trans hfn)).symm
      exact ⟨by kernel_rfl, fun j t ht => by
        rw [Tryd.params15] at ht
        have hm : t ∈ [38] := by simpa using Array.mem_of_getElem? ht
        have hall : ([38].all fun u => !Tryd.prog.wantsStandIn u) = true := by kernel_rfl
        exact (show Tryd.prog.wantsStandIn t = false by simpa using List.all_eq_true.1 hall t hm)⟩)
    (by kernel_rfl)
end FnYieldOfZero
end Go.Proofs.YtkgjciacdjhhfaaDoor
