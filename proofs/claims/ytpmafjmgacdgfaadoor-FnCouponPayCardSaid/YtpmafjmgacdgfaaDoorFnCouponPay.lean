/- For every input, FnCouponPay returns true: holders are paid alike. No condition. -/
import Derived.Test.YtpmafjmgacdgfaaDoorRows
import Derived.Test.YtpmafjmgacdgfaaDoorCards
import Derived.Test.YtpmafjmgacdgfaaDoorTie
import Derived.Test.YtpmafjmgacdgfaaDoorSpecPay
import Derived.Test.YtpmafjmgacdgfaaDoorDrawPay
import Derived.Test.YtpmafjmgacdgfaaDoorFrame
import Derived.Test.YtpmafjmgacdgfaaDoorFrameL
import Derived.ProofKit
namespace Go.Proofs.YtpmafjmgacdgfaaDoor
open Go.ChangeShapes Go.WideShapes Go.ChangeAt Go.RowKit
namespace FnCouponPay

theorem sum_mul (hs : List Int) (m : Int) : sumI (hs.map fun h => h * m) = sumI hs * m := by
  induction hs with
  | nil => simp [sumI]
  | cons x xs ih => simp only [List.map_cons, sumI, ih, Int.add_mul]

theorem sum_bd (hs : List Int) (c : Int) (h0 : 0 ≤ c) (h : ∀ x ∈ hs, 0 ≤ x ∧ x ≤ c) (hl : hs.length ≤ 8) (k : Nat) : 0 ≤ sumI (hs.take k) ∧ sumI (hs.take k) ≤ c * 8 := by
  have key : ∀ ys : List Int, (∀ x ∈ ys, 0 ≤ x ∧ x ≤ c) → 0 ≤ sumI ys ∧ sumI ys ≤ c * ys.length := by
    intro ys hy
    induction ys with
    | nil => simp [sumI]
    | cons y ys ih =>
      have h1 := hy y (by simp)
      have h2 := ih (fun z hz => hy z (List.mem_cons_of_mem _ hz))
      simp only [sumI, List.length_cons]
      have h5 : c * ((ys.length + 1 : Nat) : Int) = c * ys.length + c := by push_cast; rw [Int.mul_add, Int.mul_one]
      omega
  have h1 := key (hs.take k) (fun x hx => h x (List.mem_of_mem_take hx))
  have h2 : c * ((hs.take k).length : Int) ≤ c * 8 := Int.mul_le_mul_of_nonneg_left (by rw [List.length_take]; omega) h0
  omega

set_option maxRecDepth 100000 in
set_option maxHeartbeats 2000000 in
theorem walk (a : Option Addr) (n cap : Nat) (xs : List Int) (w : World) (hm : Months w) (hs : Sl u8L w a n xs) (hcap : n ≤ cap) (hx : ∀ x ∈ xs, 0 ≤ x ∧ x ≤ 255) :
    Calls Tryd.prog 16 #[.slice a n cap] w fun e w' => e = .returned (.bool true) ∧ w.grownBy w' none := by
  have Hx := hid hx
  have Hs := hid hs
  have Hm := hid hm
  have hbig := hs.big
  unfold maxLen at hbig
  clear hx hs hm
  by_cases hn : 1048576 < n
  · go_enter Tryd.func16, Tryd.ntmps16
    go_wp2_with fail
    go_ret
    exact ⟨rfl, gr_refl _ _⟩
  clear hbig
  go_enter Tryd.func16, Tryd.ntmps16
  go_wp2_with fail
  refine (DrawCouponPay_any a n cap xs w Hs.out hcap Hx.out).mono ?_
  rintro e w1 ⟨b, ha, hn9, hc, hs, day, rfl, hB, hh, hhc, hh10, hhb, ⟨hd0, hd1⟩, hg⟩
  have Hb1 := hid (heap_alloc_new w1 (Obj.cells #[.int .i64 b.start, .int .i64 b.stop, .int .i64 b.months, .int .i64 b.rate] 25))
  have Hg1 := hid (gr_alloc hg (Obj.cells #[.int .i64 b.start, .int .i64 b.stop, .int .i64 b.months, .int .i64 b.rate] 25))
  have Hh1 := hid (hh.keep0 (gr_alloc (gr0 _) (Obj.cells #[.int .i64 b.start, .int .i64 b.stop, .int .i64 b.months, .int .i64 b.rate] 25)))
  have hhl := hh.len
  clear hg hh hhb hhc
  have HA := hid (fun wx (hx : Months wx) (h : Sl intL wx ha hn9 hs) => CouponPay_any b day ha hn9 hc hs wx hx h)
  have HSp := hid (fun wx (h : Sl intL wx ha hn9 hs) => specCouponPay_any b day ha hn9 hc hs wx h)
  have HF := hid (fun wx (h : Months wx) => FlowsOf_any b wx h)
  have hee : decide (payF b hs day = payF b hs day) = true := by simp
  go_wp2_with fail
  refine (HA.out _ (Hm.out.keep0 Hg1.out) Hh1.out).mono ?_
  rintro e' w2 ⟨na, nn, nc, rfl, ho, _, hg⟩
  have Hgs2 := hid hg
  have Hg2 := hid (gr_trans0 Hg1.out hg)
  have Hb2 := hid (blk_keep Hb1.out hg (by simp))
  have Hh2 := hid (Hh1.out.keep0 hg)
  clear hg
  (try clear c0 c1 c2 c3)
  have c0 := blk_cell Hb2.out 0 _ rfl
  have c1 := blk_cell Hb2.out 1 _ rfl
  have c2 := blk_cell Hb2.out 2 _ rfl
  have c3 := blk_cell Hb2.out 3 _ rfl
  have How2 := hid ho; clear ho
  go_wp2_with fail
  refine (HSp.out _ Hh2.out).mono ?_
  rintro e' w3 ⟨ma, mn, mc, rfl, ho, _, hg⟩
  have Hgs3 := hid hg
  have Hg3 := hid (gr_trans0 Hg2.out hg)
  have Hb3 := hid (blk_keep Hb2.out hg (by simp))
  have Hh3 := hid (Hh2.out.keep0 hg)
  clear hg
  (try clear c0 c1 c2 c3)
  have c0 := blk_cell Hb3.out 0 _ rfl
  have c1 := blk_cell Hb3.out 1 _ rfl
  have c2 := blk_cell Hb3.out 2 _ rfl
  have c3 := blk_cell Hb3.out 3 _ rfl
  have HE := hid (fun wx (hx : w3.grownBy wx none) => equalInts_any na ma nn mn nc mc _ _ wx ((How2.out.keep0 Hgs3.out).sl.keep0 hx) (ho.sl.keep0 hx))
  clear ho
  go_wp2_with fail
  refine (HE.out _ (gr0 _)).mono ?_
  rintro e' w4 ⟨rfl, hg⟩
  have Hgs4 := hid hg
  have Hg4 := hid (gr_trans0 Hg3.out hg)
  have Hb4 := hid (blk_keep Hb3.out hg (by simp))
  have Hh4 := hid (Hh3.out.keep0 hg)
  clear hg
  (try clear c0 c1 c2 c3)
  have c0 := blk_cell Hb4.out 0 _ rfl
  have c1 := blk_cell Hb4.out 1 _ rfl
  have c2 := blk_cell Hb4.out 2 _ rfl
  have c3 := blk_cell Hb4.out 3 _ rfl
  cases hp : payB b hs with
  | false =>
    have hV : payF b hs day = [] := by unfold payF; rw [hp]; rfl
    obtain rfl : nn = 0 := by have := How2.out.len; rw [hV] at this; simpa using this.symm
    clear hp hV
    go_wp2_with fail
    refine (HSp.out _ Hh4.out).mono ?_
    rintro e' w5 ⟨ka, kn, kc, rfl, ho, _, hg⟩
    have Hgs5 := hid hg
    have Hg5 := hid (gr_trans0 Hg4.out hg)
    have Hb5 := hid (blk_keep Hb4.out hg (by simp))
    have Hh5 := hid (Hh4.out.keep0 hg)
    clear hg
    (try clear c0 c1 c2 c3)
    have c0 := blk_cell Hb5.out 0 _ rfl
    have c1 := blk_cell Hb5.out 1 _ rfl
    have c2 := blk_cell Hb5.out 2 _ rfl
    have c3 := blk_cell Hb5.out 3 _ rfl
    have HE2 := hid (fun wx (hx : w5.grownBy wx none) => equalInts_any na ka 0 kn nc kc _ _ wx ((((How2.out.keep0 Hgs3.out).keep0 Hgs4.out).keep0 Hgs5.out).sl.keep0 hx) (ho.sl.keep0 hx))
    clear ho
    go_wp2_with fail
    refine (HE2.out _ (gr0 _)).mono ?_
    rintro e' w6 ⟨rfl, hg⟩
    have Hgs6 := hid hg
    have Hg6 := hid (gr_trans0 Hg5.out hg)
    have Hb6 := hid (blk_keep Hb5.out hg (by simp))
    have Hh6 := hid (Hh5.out.keep0 hg)
    clear hg
    (try clear c0 c1 c2 c3)
    have c0 := blk_cell Hb6.out 0 _ rfl
    have c1 := blk_cell Hb6.out 1 _ rfl
    have c2 := blk_cell Hb6.out 2 _ rfl
    have c3 := blk_cell Hb6.out 3 _ rfl
    go_wp2_with fail
    go_ret
    exact ⟨rfl, Hg6.out⟩
  | true =>
    have hpb := hp
    unfold payB at hpb
    simp only [Bool.and_eq_true] at hpb
    obtain ⟨hb, hho⟩ := hpb
    obtain ⟨hl1, hl8, hbd⟩ := holders_facts hho
    have hok := ok_bond hb
    have hV : payF b hs day = hs.map (fun h => h * payAmt day (flowsL b)) := by unfold payF; rw [hp]; rfl
    have Hbd := hid hbd
    have Hff := hid (flowsF_ok hb)
    have Hhit := hid (fun k f => @payAmt_hit b hok day k f)
    have Hamt := hid (payAmt_bd day (flowsL b) (fun i j f g => flows_up hok i j f g) (fun x hx => by have := flows_bd hok x hx; omega))
    have hfl40 : (flowsL b).length ≤ 40 := by rw [flows_len]; have := hok.span.q2; unfold persF; rw [sched_len]; exact this
    rw [hV] at How2
    obtain rfl : nn = hn9 := by have := How2.out.len; rw [List.length_map] at this; omega
    have hnz : ((nn : Int) == 0) = false := by simp; omega
    have Hsm := hid (sum_mul hs (payAmt day (flowsL b)))
    have HSb := hid (sum_bd hs 9999 (by omega) hbd hl8)
    have HVl := hid (show (hs.map fun h => h * payAmt day (flowsL b)).length = nn by rw [List.length_map]; exact hhl)
    clear hp hb hho hok hV hbd HA HSp HE hee
    go_wp2_with fail
    refine (HF.out _ (Hm.out.keep0 Hg4.out)).mono ?_
    rintro e' w5 ⟨fa, fn, fc, rfl, ho, _, hg⟩
    rw [Hff.out] at ho
    have Hf5 := hid ho.sl
    have hfn : fn ≤ 40 := by have := ho.len; omega
    have How5 := hid ((((How2.out.keep0 Hgs3.out).keep0 Hgs4.out).keep0 hg).sl)
    have Hh5 := hid (Hh4.out.keep0 hg)
    have Hg5 := hid (gr_trans0 Hg4.out hg)
    clear ho hg c0 c1 c2 c3 hfl40 HF
    generalize flowsL b = FL at *
    go_wp2_with fail
    go_loopw [7, 9] (fun q i wr => ∃ k : Nat, k ≤ fn ∧ i = .int .i64 k ∧ q = .int .i64 (payAmt day (FL.take k)) ∧ wr = w5) (fun _ i _ => fn - (intOf i).toNat)
    case atStart => exact ⟨0, by omega, rfl, rfl, by trivial⟩
    case round =>
      obtain ⟨k, hk, rfl, rfl, rfl⟩ := hrel
      by_cases hlt : k < fn
      · obtain ⟨lb, lo, f, rfl, hf, l0, l1⟩ := flow_at Hf5.out k hlt
        have Hf := hid hf
        have ki0 : (0 : Int) ≤ k := by omega
        have ki1 : (k : Int) < fn := by omega
        by_cases hday : f.day = day
        · have hdb : (f.day == day) = true := by simpa using hday
          have Ph := hid (Hhit.out k f hf hday).2
          clear hday hf
          go_wp2_with fail
          go_roundw
          case rel => exact ⟨k + 1, by omega, by go_num, by rw [Ph.out], by trivial⟩
          case measure => simp [intOf]; omega
        · have hdb : (f.day == day) = false := by simpa using hday
          have Ps := hid (show payAmt day (FL.take (k + 1)) = payAmt day (FL.take k) by rw [take_snoc _ _ _ hf, payAmt_snoc, if_neg hday]; omega)
          clear hday hf
          go_wp2_with fail
          go_roundw
          case rel => exact ⟨k + 1, by omega, by go_num, by rw [Ps.out], by trivial⟩
          case measure => simp [intOf]; omega
      · obtain rfl : k = fn := by omega
        rw [take_len FL k Hf5.out.len]
        obtain ⟨am0, am1⟩ := Hamt.out
        generalize payAmt day FL = am at *
        generalize wr = w6 at *
        have hS0 := (HSb.out nn).1
        have hS1 := (HSb.out nn).2
        rw [take_len hs nn hhl] at hS0 hS1
        have hp0 : 0 ≤ sumI hs * am := Int.mul_nonneg hS0 am0
        have hp1 : sumI hs * am ≤ 9999 * 8 * 13000 := Int.le_trans (Int.mul_le_mul_of_nonneg_right hS1 am0) (Int.mul_le_mul_of_nonneg_left am1 (by omega))
        have HS1 := hid (fun wx (h : Sl intL wx na nn (hs.map fun h => h * am)) => sum_any na nn nc _ wx h (fun k => by
          rw [← List.map_take, sum_mul]
          have h1 := HSb.out k
          have h2 : 0 ≤ sumI (hs.take k) * am := Int.mul_nonneg h1.1 am0
          have h3 : sumI (hs.take k) * am ≤ 9999 * 8 * 13000 := Int.le_trans (Int.mul_le_mul_of_nonneg_right h1.2 am0) (Int.mul_le_mul_of_nonneg_left am1 (by omega))
          omega))
        rw [Hsm.out] at HS1
        have HS2 := hid (fun wx (h : Sl intL wx ha nn hs) => sum_any ha nn hc _ wx h (fun k => by have h1 := HSb.out k; omega))
        generalize hSS : sumI hs = SS at *
        clear hSS
        go_wp2_with fail
        go_loopw [10] (fun i wr => ∃ j : Nat, j ≤ nn ∧ i = .int .i64 j ∧ w6.grownBy wr none) (fun i _ => nn - (intOf i).toNat)
        case atStart => exact ⟨0, by omega, rfl, gr0 _⟩
        case round =>
          obtain ⟨j, hj, rfl, hgq⟩ := hrel
          have Hgq := hid hgq
          clear hgq
          by_cases hlj : j < nn
          · obtain ⟨vb, vo, z, rfl, hz, m0⟩ := int_at (How5.out.keep0 Hgq.out) j hlj
            obtain ⟨hb, ho2, h, rfl, hhj, m1⟩ := int_at (Hh5.out.keep0 Hgq.out) j hlj
            rw [List.getElem?_map, hhj, Option.map_some] at hz
            obtain rfl := Option.some.inj hz
            have hhb := Hbd.out h (List.mem_of_getElem? hhj)
            obtain ⟨hh0, hh1⟩ := hhb
            have hq0 : 0 ≤ h * am := Int.mul_nonneg hh0 am0
            have hq1 : h * am ≤ 9999 * 13000 := Int.le_trans (Int.mul_le_mul_of_nonneg_right hh1 am0) (Int.mul_le_mul_of_nonneg_left am1 (by omega))
            have v1 : IntKind.i64.wrap (h * am) = h * am := IntWalk.i64_in _ (by omega)
            have ji0 : (0 : Int) ≤ j := by omega
            have ji1 : (j : Int) < nn := by omega
            clear hz hhj
            go_wp2_with fail
            go_quiet (fail)
            clear v1
            go_wp2_with fail
            go_roundw
            case rel => exact ⟨j + 1, by omega, by go_num, gr_drewN Hgq.out _⟩
            case measure => simp [intOf]; omega
          · obtain rfl : j = nn := by omega
            have HL1 := hid (HS1.out _ (How5.out.keep0 Hgq.out))
            have HL2 := hid (HS2.out _ (Hh5.out.keep0 Hgq.out))
            have v1 : IntKind.i64.wrap (SS * am) = SS * am := IntWalk.i64_in _ (by omega)
            go_wp2_with fail
            refine HL1.out.mono ?_
            rintro e' w7 ⟨rfl, rfl⟩
            go_wp2_with fail
            refine HL2.out.mono ?_
            rintro e' w7 ⟨rfl, rfl⟩
            go_wp2_with fail
            go_ret
            exact ⟨rfl, gr_trans0 Hg5.out Hgq.out⟩

set_option maxRecDepth 100000 in
theorem lifted (os : Os) (started : os.Started) (H : Type) (enc : TypeId × Value → H) :
    ReturnsInHanded {} Tryd.checked os 16 .any (fun w args => (Rows.fnCouponPaySpec.pre enc Tryd.prog Tryd.f16 Rows.fnCouponPayRow.domain false w args ∧ laidMetH Tryd.prog laidMonths w) ∧ sizedMet enc Tryd.prog Tryd.f16 (OpenSpec.ofChange Rows.fnCouponPaySpec) false w args) (Rows.fnCouponPaySpec.post enc Tryd.prog Tryd.f16 false true false false) := by
  refine returnsInHanded_of_change_and (C := Tryd.checked) (X := fun w _ => laidMetH Tryd.prog laidMonths w) (fun _ _ _ hh h => h.of_heap hh) Tryd.own started (by kernel_rfl) Tryd.func16
    (ChangeSpec.witness_shaped (enc := enc) (C := Tryd.checked) (os := os) (X := fun w _ => laidMetH Tryd.prog laidMonths w) false (World.doorLaid Tryd.prog 400 os) #[.slice none 0 0] 8 rfl (World.shaped_of_RefB (by kernel_rfl) (by kernel_rfl)) (by kernel_rfl) (by kernel_rfl) (by kernel_rfl) (door_met os _)) ?_
  intro W base args ds gs before hval0 hW _ _ hL _
  have hval : ∀ (j : Nat) t v, Tryd.f16.params[j]? = some t → args[j]? = some v → Value.okWide Tryd.prog W .any base t v := hval0
  have hW' := hW
  obtain ⟨p, q, hA0, hV, rfl, hfz, hnd⟩ := hW
  have hA : DataW.TrodAll enc Tryd.prog W 0 (fun _ => true) true Tryd.f16.params.toList args.toList ds p := hA0
  rw [Tryd.params16] at hA hval
  have hA2 := hA
  obtain ⟨v0, vs0, d0, ds0, p0, q0, hargs, rfl, rfl, h0, r0⟩ := trodAll_cons hA
  obtain ⟨rfl, rfl, rfl⟩ := trodAll_nil r0
  obtain rfl : args = #[v0] := by cases args; simp_all
  obtain ⟨g0, rfl⟩ := vars_one hV
  have hlt : ∀ x ∈ (p0 ++ []) ++ q, x.block < W.heap.size := fun x hx => hW'.lt x hx
  obtain ⟨a0, n0, cap0, rfl⟩ := okWide_slice Tryd.underlying32 (hval 0 32 v0 rfl rfl)
  obtain ⟨fuel0, hf0⟩ := h0
  obtain ⟨xs0, hs0, hc0, hw0⟩ := sl_ints u8L (fun _ => rfl) rfl Tryd.underlying32 Tryd.underlying5 Tryd.cellsU8 hf0
  refine (walk a0 n0 cap0 xs0 W (months_of_laid hL) hs0 hc0 (fun z hz => u8_range (hw0 z hz))).mono fun e W' ⟨he, hg⟩ => ?_
  subst he
  have hb := below_of_gr hg
  refine ⟨_, rfl, _, _, _, [], p0 ++ [], q, hW', ?_, ?_, vars_stay hb hV, hb.frame _, fun h => by cases h⟩
  · exact trodAll_mk1 (shut_bool Tryd.underlying4 _)
  · exact args_stay hb _ _ _ _ hA2 (fun x hx => hlt x (List.mem_append_left _ (by simpa using hx))) (by intro t ht; simp at ht; subst ht; exact ⟨by kernel_rfl, of_decide_eq_true (by kernel_rfl)⟩)

set_option maxRecDepth 100000 in
theorem closed : joinedFacts Tryd.pinned.checked.prog 16 Tryd.f16 Rows.fnCouponPaySpec Rows.fnCouponPayRow = true := by
  rw [joinedFacts, show Tryd.pinned.checked.prog.mayEnter = true from Tryd.enters, show Tryd.pinned.checked.prog.liftsFinal = false from Tryd.lifts, show Tryd.pinned.checked.prog.make = some .cut from Tryd.cut]
  kernel_rfl

theorem row_holds : Rows.FnCouponPaySaid :=
  OpenClaim.holds_of_wide 16 Tryd.f16 rfl rfl rfl rfl rfl rfl rfl ⟨rfl, rfl, rfl, rfl, rfl⟩ rfl rfl rfl rfl rfl (by kernel_rfl) Tryd.func16 closed
    (of_decide_eq_true (by kernel_rfl)) (by unfold Func.isWrapper; first | (rw [if_pos (by decide +kernel)]; kernel_rfl) | (rw [if_neg (by decide +kernel)]; exact ⟨rfl, rfl⟩))
    (fun os started H enc _ => lifted os started H enc)

theorem holds : Rows.FnCouponPayCardSaid :=
  Claim7.holds_tied_plain_at .later [] [.data] true (true, "22dfc429811bdb46a90c5d9e37b95d9549ab5b19e19d6b6766dabd62dd407f7b") false
    row_holds (fun _ h => by cases h) (by kernel_rfl) (fun _ h => by cases h) fnCouponPay_row_tie rfl ⟨rfl, rfl⟩ (by kernel_rfl) rfl
    (fun f fn hf hfn => by
      obtain rfl : f = 16 := Option.some.inj ((show Tryd.prog.funcNamed "loop.example/bonddesk/laws.FnCouponPay" = some 16 by kernel_rfl).symm.trans hf) |>.symm
      obtain rfl : fn = Tryd.f16 := (Option.some.inj (Tryd.func16.symm.trans hfn)).symm
      exact ⟨by kernel_rfl, fun j t ht => by
        rw [Tryd.params16] at ht
        have hm : t ∈ [32] := by simpa using Array.mem_of_getElem? ht
        have hall : ([32].all fun u => !Tryd.prog.wantsStandIn u) = true := by kernel_rfl
        exact (show Tryd.prog.wantsStandIn t = false by simpa using List.all_eq_true.1 hall t hm)⟩)
    (by kernel_rfl)
end FnCouponPay
end Go.Proofs.YtpmafjmgacdgfaaDoor
