/- Bonds: periods, validity, coupons; the program and the reference, walked. -/
import Derived.Test.YtkgjciacdjhhfaaDoorRows
import Derived.Test.YtkgjciacdjhhfaaDoorBase
import Derived.Test.YtkgjciacdjhhfaaDoorFlows
import Derived.Test.YtkgjciacdjhhfaaDoorSchedWalk
import Derived.Test.YtkgjciacdjhhfaaDoorSpecSched
import Derived.StillTailTactics
namespace Go.Proofs.YtkgjciacdjhhfaaDoor
open Go.RowKit


theorem sched_nonempty (s e m : Int) : decide (0 < (schedF s e m).length) = schedOk s e m := by
  unfold schedF
  by_cases h : schedOk s e m = true
  · rw [if_pos h, sched_len]
    have := (ok_span h).q1
    rw [h]; simp; omega
  · rw [if_neg h]
    have : schedOk s e m = false := by simpa using h
    rw [this]; rfl

theorem periods_any (b : Bond) (w : World) (hw : Months w) :
    Calls Tryd.prog 54 #[.agg #[.int .i64 b.start, .int .i64 b.stop, .int .i64 b.months, .int .i64 b.rate]] w fun e' w' => ∃ a n cap, e' = .returned (.slice a n cap) ∧ Ow perL w' w.heap.size a n (schedF b.start b.stop b.months) ∧ n ≤ cap ∧ w.grownBy w' none := by
  have HS := hid (ScheduleOf_any b.start b.stop b.months _ (hw.keep0 (gr_alloc (gr0 w) (.cells #[.int .i64 b.start, .int .i64 b.stop, .int .i64 b.months, .int .i64 b.rate] 27))))
  go_enter Tryd.func54, Tryd.ntmps54
  go_wp2_with fail
  refine HS.out.mono ?_
  rintro e' w1 ⟨a, n, cap, rfl, ho, hc, hg⟩
  have Ho := hid ho; have Hg := hid hg
  clear ho hg
  go_wp2_with fail
  go_ret
  exact ⟨a, n, cap, rfl, Ho.out.mono (by simp), hc, gr_trans0 (gr_alloc (gr0 _) _) Hg.out⟩

set_option maxHeartbeats 400000 in
theorem ValidBond_any (b : Bond) (w : World) (hw : Months w) :
    Calls Tryd.prog 35 #[.agg #[.int .i64 b.start, .int .i64 b.stop, .int .i64 b.months, .int .i64 b.rate]] w fun e' w' => e' = .returned (.bool (bondB b)) ∧ w.grownBy w' none := by
  have HP := hid (periods_any b _ (hw.keep0 (gr_alloc (gr0 w) (.cells #[.int .i64 b.start, .int .i64 b.stop, .int .i64 b.months, .int .i64 b.rate] 27))))
  have Hn := hid (sched_nonempty b.start b.stop b.months)
  by_cases hr : withinB b.rate 0 3000 = true
  · have H := hid (show bondB b = schedOk b.start b.stop b.months by
      have : rateB b.rate = true := hr
      unfold bondB; rw [this, Bool.true_and])
    go_enter Tryd.func35, Tryd.ntmps35
    go_wp2_with fail
    refine (rateValid_any _ _).mono ?_
    rintro e' w1 ⟨rfl, rfl⟩
    rw [hr]
    go_wp2_with fail
    refine HP.out.mono ?_
    rintro e' w1 ⟨a, n, cap, rfl, ho, hc, hg⟩
    have hl := ho.len
    have hb : decide (0 < n) = bondB b := by rw [H.out, ← Hn.out, hl]
    have Hb := hid hb
    have Hg := hid hg
    clear ho hg hl hb
    go_wp2_with fail
    go_ret
    exact ⟨ret_bool Hb.out, gr_trans0 (gr_alloc (gr0 _) _) Hg.out⟩
  · have hr : withinB b.rate 0 3000 = false := by simpa using hr
    have H := hid (show bondB b = false by
      have : rateB b.rate = false := hr
      unfold bondB; rw [this, Bool.false_and])
    go_enter Tryd.func35, Tryd.ntmps35
    go_wp2_with fail
    refine (rateValid_any _ _).mono ?_
    rintro e' w1 ⟨rfl, rfl⟩
    rw [hr]
    go_wp2_with fail
    go_ret
    exact ⟨ret_bool H.out.symm, gr_alloc (gr0 _) _⟩

set_option maxHeartbeats 400000 in
theorem specvalidBond_any (b : Bond) (w : World) :
    Calls Tryd.prog 56 #[.agg #[.int .i64 b.start, .int .i64 b.stop, .int .i64 b.months, .int .i64 b.rate]] w fun e' w' => e' = .returned (.bool (bondB b)) ∧ w.grownBy w' none := by
  have HP := hid (fun wx => specScheduleOf_any b.start b.stop b.months wx)
  have Hn := hid (sched_nonempty b.start b.stop b.months)
  by_cases hsp : spanB b.start b.stop b.months = true
  · by_cases hr : withinB b.rate 0 3000 = true
    · have H := hid (show bondB b = schedOk b.start b.stop b.months by
        have : rateB b.rate = true := hr
        unfold bondB; rw [this, Bool.true_and])
      go_enter Tryd.func56, Tryd.ntmps56
      go_wp2_with fail
      refine (validSpan_any _ _ _ _).mono ?_
      rintro e' w1 ⟨rfl, rfl⟩
      rw [hsp]
      go_wp2_with fail
      refine (inRange_any _ _ _ _).mono ?_
      rintro e' w1 ⟨rfl, rfl⟩
      rw [hr]
      go_wp2_with fail
      refine (HP.out _).mono ?_
      rintro e' w1 ⟨a, n, cap, rfl, ho, hc, hg⟩
      have hl := ho.len
      have hb : decide (0 < n) = bondB b := by rw [H.out, ← Hn.out, hl]
      have Hb := hid hb
      have Hg := hid hg
      clear ho hg hl hb
      go_wp2_with fail
      go_ret
      exact ⟨ret_bool Hb.out, gr_trans0 (gr_alloc (gr0 _) _) Hg.out⟩
    · have hr : withinB b.rate 0 3000 = false := by simpa using hr
      have H := hid (show bondB b = false by
        have : rateB b.rate = false := hr
        unfold bondB; rw [this, Bool.false_and])
      go_enter Tryd.func56, Tryd.ntmps56
      go_wp2_with fail
      refine (validSpan_any _ _ _ _).mono ?_
      rintro e' w1 ⟨rfl, rfl⟩
      rw [hsp]
      go_wp2_with fail
      refine (inRange_any _ _ _ _).mono ?_
      rintro e' w1 ⟨rfl, rfl⟩
      rw [hr]
      go_wp2_with fail
      go_ret
      exact ⟨ret_bool H.out.symm, gr_alloc (gr0 _) _⟩
  · have hsp : spanB b.start b.stop b.months = false := by simpa using hsp
    have H := hid (show bondB b = false by unfold bondB schedOk; rw [hsp]; simp)
    go_enter Tryd.func56, Tryd.ntmps56
    go_wp2_with fail
    refine (validSpan_any _ _ _ _).mono ?_
    rintro e' w1 ⟨rfl, rfl⟩
    rw [hsp]
    go_wp2_with fail
    go_ret
    exact ⟨ret_bool H.out.symm, gr_alloc (gr0 _) _⟩

set_option maxRecDepth 100000 in
set_option maxHeartbeats 1000000 in
theorem coupon_any (b : Bond) (p : Per) (w : World) (hb : OkBond b) (hp : OkPer b p) (hmo : Months w) :
    Calls Tryd.prog 72 #[.agg #[.int .i64 b.start, .int .i64 b.stop, .int .i64 b.months, .int .i64 b.rate], .agg #[.int .i64 p.frm, .int .i64 p.till, .bool p.whole]] w fun e' w' => e' = .returned (.int .i64 (coupF b p)) ∧ w.grownBy w' none := by
  have hwb := hb.whole_bd
  have hr0 := hb.r0; have hr1 := hb.r1
  have hm1 := hb.span.mpos.1; have hm12 := hb.span.mpos.2
  have hf0 := hp.f0; have hft := hp.ft; have ht1 := hp.t1; have hb0 := hp.b0; have hbt := hp.bt
  have hx0 : 0 ≤ 10000 * b.rate * b.months := Int.mul_nonneg (by omega) (by omega)
  have hx1 : 10000 * b.rate * b.months ≤ 360000000 := by
    have h9 : 10000 * b.rate * b.months ≤ 10000 * b.rate * 12 := Int.mul_le_mul_of_nonneg_left hm12 (by omega)
    omega
  have HW := hid (show (2 * (10000 * b.rate * b.months) + 120000) / (2 * 120000) = wholeC b.rate b.months from rfl)
  have hgw : w.grownBy ((w.alloc (.cells #[.int .i64 b.start, .int .i64 b.stop, .int .i64 b.months, .int .i64 b.rate] 27)).alloc (.cells #[.int .i64 p.frm, .int .i64 p.till, .bool p.whole] 72)) none := gr_alloc (gr_alloc (gr0 _) _) _
  have Hgw := hid hgw; clear hgw
  have Hmo := hid (hmo.keep0 Hgw.out); clear hmo
  obtain ⟨pf, pt, pw⟩ := p
  simp only at hf0 hft ht1 hb0 hbt Hmo ⊢
  cases pw with
  | true =>
    have H := hid (show coupF b ⟨pf, pt, true⟩ = wholeC b.rate b.months by unfold coupF couponF; rw [if_pos rfl])
    clear hb hp
    go_enter Tryd.func72, Tryd.ntmps72
    go_wp2_with fail
    refine (nearest_any _ _ _ (by omega) (by omega) (by omega) (by omega)).mono ?_
    rintro e' w1 ⟨rfl, rfl⟩
    rw [HW.out]
    go_wp2_with fail
    go_ret
    exact ⟨ret_int H.out.symm, Hgw.out⟩
  | false =>
    generalize hwc : wholeC b.rate b.months = wc at *
    have hy0 : 0 ≤ wc * (pt - pf) := Int.mul_nonneg hwb.1 (by omega)
    have hy1 : wc * (pt - pf) ≤ 3000 * 36524 := Int.le_trans (Int.mul_le_mul_of_nonneg_right hwb.2 (by omega)) (Int.mul_le_mul_of_nonneg_left (by omega) (by omega))
    have H := hid (show coupF b ⟨pf, pt, false⟩ = (2 * (wc * (pt - pf)) + (pt - beginC b.months ⟨pf, pt, false⟩)) / (2 * (pt - beginC b.months ⟨pf, pt, false⟩)) by unfold coupF couponF; rw [if_neg (by simp), hwc]; rfl)
    have HB := hid (show beginC b.months ⟨pf, pt, false⟩ = if addM pt (-b.months) < 0 then pf else addM pt (-b.months) from rfl)
    have hab := addM_bd pt (-b.months) (by omega) (by omega)
    generalize beginC b.months ⟨pf, pt, false⟩ = bg at *
    have Hwc := hid hwc
    clear hb hp hwc
    go_enter Tryd.func72, Tryd.ntmps72
    go_wp2_with fail
    refine (nearest_any _ _ _ (by omega) (by omega) (by omega) (by omega)).mono ?_
    rintro e' w1 ⟨rfl, rfl⟩
    rw [HW.out]
    go_wp2_with fail
    refine (AddMonths_any _ _ _ Hmo.out).mono ?_
    rintro e' w1 ⟨rfl, hg1⟩
    rw [show addMF pt (-b.months) = addM pt (-b.months) by unfold addMF; rw [if_pos (by simp only [Bool.and_eq_true, within_iff']; omega)]]
    generalize addM pt (-b.months) = am at *
    have Hg1 := hid (gr_trans0 Hgw.out hg1)
    have hb1 := blk_keep (blk_alloc (heap_alloc_new w (.cells #[.int .i64 b.start, .int .i64 b.stop, .int .i64 b.months, .int .i64 b.rate] 27)) (.cells #[.int .i64 pf, .int .i64 pt, .bool false] 72)) hg1 (by simp)
    have hb2 := blk_keep (heap_alloc_new (w.alloc (.cells #[.int .i64 b.start, .int .i64 b.stop, .int .i64 b.months, .int .i64 b.rate] 27)) (.cells #[.int .i64 pf, .int .i64 pt, .bool false] 72)) hg1 (by simp)
    rw [World.size_alloc] at hb2
    have c0 := blk_cell hb2 0 _ rfl
    have c1 := blk_cell hb2 1 _ rfl
    clear hg1 hb1 hb2
    by_cases hneg : am < 0
    · have hbg : bg = pf := by rw [HB.out, if_pos hneg]
      subst hbg
      go_wp2_with fail
      refine (nearest_any _ _ _ (by omega) (by omega) (by omega) (by omega)).mono ?_
      rintro e' w2 ⟨rfl, rfl⟩
      go_wp2_with fail
      go_ret
      exact ⟨ret_int H.out.symm, Hg1.out⟩
    · have hbg : bg = am := by rw [HB.out, if_neg hneg]
      subst hbg
      go_wp2_with fail
      refine (nearest_any _ _ _ (by omega) (by omega) (by omega) (by omega)).mono ?_
      rintro e' w2 ⟨rfl, rfl⟩
      go_wp2_with fail
      go_ret
      exact ⟨ret_int H.out.symm, Hg1.out⟩

set_option maxRecDepth 100000 in
set_option maxHeartbeats 1000000 in
theorem speccouponOf_any (b : Bond) (p : Per) (w : World) (hb : OkBond b) (hp : OkPer b p)  :
    Calls Tryd.prog 78 #[.agg #[.int .i64 b.start, .int .i64 b.stop, .int .i64 b.months, .int .i64 b.rate], .agg #[.int .i64 p.frm, .int .i64 p.till, .bool p.whole]] w fun e' w' => e' = .returned (.int .i64 (coupF b p)) ∧ w.grownBy w' none := by
  have hwb := hb.whole_bd
  have hr0 := hb.r0; have hr1 := hb.r1
  have hm1 := hb.span.mpos.1; have hm12 := hb.span.mpos.2
  have hf0 := hp.f0; have hft := hp.ft; have ht1 := hp.t1; have hb0 := hp.b0; have hbt := hp.bt
  have hx0 : 0 ≤ 10000 * b.rate * b.months := Int.mul_nonneg (by omega) (by omega)
  have hx1 : 10000 * b.rate * b.months ≤ 360000000 := by
    have h9 : 10000 * b.rate * b.months ≤ 10000 * b.rate * 12 := Int.mul_le_mul_of_nonneg_left hm12 (by omega)
    omega
  have HW := hid (show (2 * (10000 * b.rate * b.months) + 120000) / (2 * 120000) = wholeC b.rate b.months from rfl)
  have hgw : w.grownBy ((w.alloc (.cells #[.int .i64 b.start, .int .i64 b.stop, .int .i64 b.months, .int .i64 b.rate] 27)).alloc (.cells #[.int .i64 p.frm, .int .i64 p.till, .bool p.whole] 72)) none := gr_alloc (gr_alloc (gr0 _) _) _
  have Hgw := hid hgw; clear hgw
  skip
  obtain ⟨pf, pt, pw⟩ := p
  simp only at hf0 hft ht1 hb0 hbt  ⊢
  cases pw with
  | true =>
    have H := hid (show coupF b ⟨pf, pt, true⟩ = wholeC b.rate b.months by unfold coupF couponF; rw [if_pos rfl])
    clear hb hp
    go_enter Tryd.func78, Tryd.ntmps78
    go_wp2_with fail
    refine (specnearest_any _ _ _ (by omega) (by omega) (by omega) (by omega)).mono ?_
    rintro e' w1 ⟨rfl, rfl⟩
    rw [HW.out]
    go_wp2_with fail
    go_ret
    exact ⟨ret_int H.out.symm, Hgw.out⟩
  | false =>
    generalize hwc : wholeC b.rate b.months = wc at *
    have hy0 : 0 ≤ wc * (pt - pf) := Int.mul_nonneg hwb.1 (by omega)
    have hy1 : wc * (pt - pf) ≤ 3000 * 36524 := Int.le_trans (Int.mul_le_mul_of_nonneg_right hwb.2 (by omega)) (Int.mul_le_mul_of_nonneg_left (by omega) (by omega))
    have H := hid (show coupF b ⟨pf, pt, false⟩ = (2 * (wc * (pt - pf)) + (pt - beginC b.months ⟨pf, pt, false⟩)) / (2 * (pt - beginC b.months ⟨pf, pt, false⟩)) by unfold coupF couponF; rw [if_neg (by simp), hwc]; rfl)
    have HB := hid (show beginC b.months ⟨pf, pt, false⟩ = if addM pt (-b.months) < 0 then pf else addM pt (-b.months) from rfl)
    have hab := addM_bd pt (-b.months) (by omega) (by omega)
    generalize beginC b.months ⟨pf, pt, false⟩ = bg at *
    have Hwc := hid hwc
    clear hb hp hwc
    go_enter Tryd.func78, Tryd.ntmps78
    go_wp2_with fail
    refine (specnearest_any _ _ _ (by omega) (by omega) (by omega) (by omega)).mono ?_
    rintro e' w1 ⟨rfl, rfl⟩
    rw [HW.out]
    go_wp2_with fail
    refine (specaddMonths_any _ _ _ (by omega) (by omega) (by omega) (by omega)).mono ?_
    rintro e' w1 ⟨rfl, hg1⟩
    skip
    generalize addM pt (-b.months) = am at *
    have Hg1 := hid (gr_trans0 Hgw.out hg1)
    have hb1 := blk_keep (blk_alloc (heap_alloc_new w (.cells #[.int .i64 b.start, .int .i64 b.stop, .int .i64 b.months, .int .i64 b.rate] 27)) (.cells #[.int .i64 pf, .int .i64 pt, .bool false] 72)) hg1 (by simp)
    have hb2 := blk_keep (heap_alloc_new (w.alloc (.cells #[.int .i64 b.start, .int .i64 b.stop, .int .i64 b.months, .int .i64 b.rate] 27)) (.cells #[.int .i64 pf, .int .i64 pt, .bool false] 72)) hg1 (by simp)
    rw [World.size_alloc] at hb2
    have c0 := blk_cell hb2 0 _ rfl
    have c1 := blk_cell hb2 1 _ rfl
    clear hg1 hb1 hb2
    by_cases hneg : am < 0
    · have hbg : bg = pf := by rw [HB.out, if_pos hneg]
      subst hbg
      go_wp2_with fail
      refine (specnearest_any _ _ _ (by omega) (by omega) (by omega) (by omega)).mono ?_
      rintro e' w2 ⟨rfl, rfl⟩
      go_wp2_with fail
      go_ret
      exact ⟨ret_int H.out.symm, Hg1.out⟩
    · have hbg : bg = am := by rw [HB.out, if_neg hneg]
      subst hbg
      go_wp2_with fail
      refine (specnearest_any _ _ _ (by omega) (by omega) (by omega) (by omega)).mono ?_
      rintro e' w2 ⟨rfl, rfl⟩
      go_wp2_with fail
      go_ret
      exact ⟨ret_int H.out.symm, Hg1.out⟩


end Go.Proofs.YtkgjciacdjhhfaaDoor
