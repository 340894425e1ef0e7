/- Packed: BondWalk, RunWalk, AccWalk. -/
import Derived.Test.YtielicmjdhmcjaaGreatDoorRows
import Derived.Test.YtielicmjdhmcjaaGreatDoorPk07
import Derived.Test.YtielicmjdhmcjaaGreatDoorPk18
import Derived.IntWalk
/- Bonds: periods, validity, coupons; the program and the reference, walked. -/
namespace Go.Proofs.YtielicmjdhmcjaaGreatDoor
open Go.RowKit


theorem sched_nonempty (s e m : Int) : decide (0 < (schedF s e m).length) = schedOk s e m := by
  unfold schedF
  by_cases h : schedOk s e m = true
  · rw [if_pos h, sched_len]
    have := (ok_span h).q1
    rw [h]; simp; omega
  · rw [if_neg h]
    have : schedOk s e m = false := by simpa using h
    rw [this]; rfl

theorem periods_any (b : Bond) (w : World) (hw : Months w) :
    Calls Tryz.prog 117 #[.agg #[.int .i64 b.start, .int .i64 b.stop, .int .i64 b.months, .int .i64 b.rate]] w fun e' w' => ∃ a n cap, e' = .returned (.slice a n cap) ∧ Ow perL w' w.heap.size a n (schedF b.start b.stop b.months) ∧ n ≤ cap ∧ w.grownBy w' none := by
  have HS := hid (ScheduleOf_any b.start b.stop b.months _ (hw.keep0 (gr_alloc (gr0 w) (.cells #[.int .i64 b.start, .int .i64 b.stop, .int .i64 b.months, .int .i64 b.rate] 37))))
  go_enter Tryz.func117, Tryz.ntmps117
  go_wp2_with fail
  refine HS.out.mono ?_
  rintro e' w1 ⟨a, n, cap, rfl, ho, hc, hg⟩
  have Ho := hid ho; have Hg := hid hg
  clear ho hg
  go_wp2_with fail
  go_ret
  exact ⟨a, n, cap, rfl, Ho.out.mono (by simp), hc, gr_trans0 (gr_alloc (gr0 _) _) Hg.out⟩

set_option maxHeartbeats 400000 in
theorem ValidBond_any (b : Bond) (w : World) (hw : Months w) :
    Calls Tryz.prog 83 #[.agg #[.int .i64 b.start, .int .i64 b.stop, .int .i64 b.months, .int .i64 b.rate]] w fun e' w' => e' = .returned (.bool (bondB b)) ∧ w.grownBy w' none := by
  have HP := hid (periods_any b _ (hw.keep0 (gr_alloc (gr0 w) (.cells #[.int .i64 b.start, .int .i64 b.stop, .int .i64 b.months, .int .i64 b.rate] 37))))
  have Hn := hid (sched_nonempty b.start b.stop b.months)
  by_cases hr : withinB b.rate 0 3000 = true
  · have H := hid (show bondB b = schedOk b.start b.stop b.months by
      have : rateB b.rate = true := hr
      unfold bondB; rw [this, Bool.true_and])
    go_enter Tryz.func83, Tryz.ntmps83
    go_wp2_with fail
    refine (rateValid_any _ _).mono ?_
    rintro e' w1 ⟨rfl, rfl⟩
    rw [hr]
    go_wp2_with fail
    refine HP.out.mono ?_
    rintro e' w1 ⟨a, n, cap, rfl, ho, hc, hg⟩
    have hl := ho.len
    have hb : decide (0 < n) = bondB b := by rw [H.out, ← Hn.out, hl]
    have Hb := hid hb
    have Hg := hid hg
    clear ho hg hl hb
    go_wp2_with fail
    go_ret
    exact ⟨ret_bool Hb.out, gr_trans0 (gr_alloc (gr0 _) _) Hg.out⟩
  · have hr : withinB b.rate 0 3000 = false := by simpa using hr
    have H := hid (show bondB b = false by
      have : rateB b.rate = false := hr
      unfold bondB; rw [this, Bool.false_and])
    go_enter Tryz.func83, Tryz.ntmps83
    go_wp2_with fail
    refine (rateValid_any _ _).mono ?_
    rintro e' w1 ⟨rfl, rfl⟩
    rw [hr]
    go_wp2_with fail
    go_ret
    exact ⟨ret_bool H.out.symm, gr_alloc (gr0 _) _⟩

set_option maxHeartbeats 400000 in
theorem specvalidBond_any (b : Bond) (w : World) :
    Calls Tryz.prog 66 #[.agg #[.int .i64 b.start, .int .i64 b.stop, .int .i64 b.months, .int .i64 b.rate]] w fun e' w' => e' = .returned (.bool (bondB b)) ∧ w.grownBy w' none := by
  have HP := hid (fun wx => specScheduleOf_any b.start b.stop b.months wx)
  have Hn := hid (sched_nonempty b.start b.stop b.months)
  by_cases hsp : spanB b.start b.stop b.months = true
  · by_cases hr : withinB b.rate 0 3000 = true
    · have H := hid (show bondB b = schedOk b.start b.stop b.months by
        have : rateB b.rate = true := hr
        unfold bondB; rw [this, Bool.true_and])
      go_enter Tryz.func66, Tryz.ntmps66
      go_wp2_with fail
      refine (validSpan_any _ _ _ _).mono ?_
      rintro e' w1 ⟨rfl, rfl⟩
      rw [hsp]
      go_wp2_with fail
      refine (inRange_any _ _ _ _).mono ?_
      rintro e' w1 ⟨rfl, rfl⟩
      rw [hr]
      go_wp2_with fail
      refine (HP.out _).mono ?_
      rintro e' w1 ⟨a, n, cap, rfl, ho, hc, hg⟩
      have hl := ho.len
      have hb : decide (0 < n) = bondB b := by rw [H.out, ← Hn.out, hl]
      have Hb := hid hb
      have Hg := hid hg
      clear ho hg hl hb
      go_wp2_with fail
      go_ret
      exact ⟨ret_bool Hb.out, gr_trans0 (gr_alloc (gr0 _) _) Hg.out⟩
    · have hr : withinB b.rate 0 3000 = false := by simpa using hr
      have H := hid (show bondB b = false by
        have : rateB b.rate = false := hr
        unfold bondB; rw [this, Bool.false_and])
      go_enter Tryz.func66, Tryz.ntmps66
      go_wp2_with fail
      refine (validSpan_any _ _ _ _).mono ?_
      rintro e' w1 ⟨rfl, rfl⟩
      rw [hsp]
      go_wp2_with fail
      refine (inRange_any _ _ _ _).mono ?_
      rintro e' w1 ⟨rfl, rfl⟩
      rw [hr]
      go_wp2_with fail
      go_ret
      exact ⟨ret_bool H.out.symm, gr_alloc (gr0 _) _⟩
  · have hsp : spanB b.start b.stop b.months = false := by simpa using hsp
    have H := hid (show bondB b = false by unfold bondB schedOk; rw [hsp]; simp)
    go_enter Tryz.func66, Tryz.ntmps66
    go_wp2_with fail
    refine (validSpan_any _ _ _ _).mono ?_
    rintro e' w1 ⟨rfl, rfl⟩
    rw [hsp]
    go_wp2_with fail
    go_ret
    exact ⟨ret_bool H.out.symm, gr_alloc (gr0 _) _⟩

set_option maxRecDepth 100000 in
set_option maxHeartbeats 1000000 in
theorem coupon_any (b : Bond) (p : Per) (w : World) (hb : OkBond b) (hp : OkPer b p) (hmo : Months w) :
    Calls Tryz.prog 82 #[.agg #[.int .i64 b.start, .int .i64 b.stop, .int .i64 b.months, .int .i64 b.rate], .agg #[.int .i64 p.frm, .int .i64 p.till, .bool p.whole]] w fun e' w' => e' = .returned (.int .i64 (coupF b p)) ∧ w.grownBy w' none := by
  have hwb := hb.whole_bd
  have hr0 := hb.r0; have hr1 := hb.r1
  have hm1 := hb.span.mpos.1; have hm12 := hb.span.mpos.2
  have hf0 := hp.f0; have hft := hp.ft; have ht1 := hp.t1; have hb0 := hp.b0; have hbt := hp.bt
  have hx0 : 0 ≤ 10000 * b.rate * b.months := Int.mul_nonneg (by omega) (by omega)
  have hx1 : 10000 * b.rate * b.months ≤ 360000000 := by
    have h9 : 10000 * b.rate * b.months ≤ 10000 * b.rate * 12 := Int.mul_le_mul_of_nonneg_left hm12 (by omega)
    omega
  have HW := hid (show (2 * (10000 * b.rate * b.months) + 120000) / (2 * 120000) = wholeC b.rate b.months from rfl)
  have hgw : w.grownBy ((w.alloc (.cells #[.int .i64 b.start, .int .i64 b.stop, .int .i64 b.months, .int .i64 b.rate] 37)).alloc (.cells #[.int .i64 p.frm, .int .i64 p.till, .bool p.whole] 115)) none := gr_alloc (gr_alloc (gr0 _) _) _
  have Hgw := hid hgw; clear hgw
  have Hmo := hid (hmo.keep0 Hgw.out); clear hmo
  obtain ⟨pf, pt, pw⟩ := p
  simp only at hf0 hft ht1 hb0 hbt Hmo ⊢
  cases pw with
  | true =>
    have H := hid (show coupF b ⟨pf, pt, true⟩ = wholeC b.rate b.months by unfold coupF couponF; rw [if_pos rfl])
    clear hb hp
    go_enter Tryz.func82, Tryz.ntmps82
    go_wp2_with fail
    refine (nearest_any _ _ _ (by omega) (by omega) (by omega) (by omega)).mono ?_
    rintro e' w1 ⟨rfl, rfl⟩
    rw [HW.out]
    go_wp2_with fail
    go_ret
    exact ⟨ret_int H.out.symm, Hgw.out⟩
  | false =>
    generalize hwc : wholeC b.rate b.months = wc at *
    have hy0 : 0 ≤ wc * (pt - pf) := Int.mul_nonneg hwb.1 (by omega)
    have hy1 : wc * (pt - pf) ≤ 3000 * 36524 := Int.le_trans (Int.mul_le_mul_of_nonneg_right hwb.2 (by omega)) (Int.mul_le_mul_of_nonneg_left (by omega) (by omega))
    have H := hid (show coupF b ⟨pf, pt, false⟩ = (2 * (wc * (pt - pf)) + (pt - beginC b.months ⟨pf, pt, false⟩)) / (2 * (pt - beginC b.months ⟨pf, pt, false⟩)) by unfold coupF couponF; rw [if_neg (by simp), hwc]; rfl)
    have HB := hid (show beginC b.months ⟨pf, pt, false⟩ = if addM pt (-b.months) < 0 then pf else addM pt (-b.months) from rfl)
    have hab := addM_bd pt (-b.months) (by omega) (by omega)
    generalize beginC b.months ⟨pf, pt, false⟩ = bg at *
    have Hwc := hid hwc
    clear hb hp hwc
    go_enter Tryz.func82, Tryz.ntmps82
    go_wp2_with fail
    refine (nearest_any _ _ _ (by omega) (by omega) (by omega) (by omega)).mono ?_
    rintro e' w1 ⟨rfl, rfl⟩
    rw [HW.out]
    go_wp2_with fail
    refine (AddMonths_any _ _ _ Hmo.out).mono ?_
    rintro e' w1 ⟨rfl, hg1⟩
    rw [show addMF pt (-b.months) = addM pt (-b.months) by unfold addMF; rw [if_pos (by simp only [Bool.and_eq_true, within_iff']; omega)]]
    generalize addM pt (-b.months) = am at *
    have Hg1 := hid (gr_trans0 Hgw.out hg1)
    have hb1 := blk_keep (blk_alloc (heap_alloc_new w (.cells #[.int .i64 b.start, .int .i64 b.stop, .int .i64 b.months, .int .i64 b.rate] 37)) (.cells #[.int .i64 pf, .int .i64 pt, .bool false] 115)) hg1 (by simp)
    have hb2 := blk_keep (heap_alloc_new (w.alloc (.cells #[.int .i64 b.start, .int .i64 b.stop, .int .i64 b.months, .int .i64 b.rate] 37)) (.cells #[.int .i64 pf, .int .i64 pt, .bool false] 115)) hg1 (by simp)
    rw [World.size_alloc] at hb2
    have c0 := blk_cell hb2 0 _ rfl
    have c1 := blk_cell hb2 1 _ rfl
    clear hg1 hb1 hb2
    by_cases hneg : am < 0
    · have hbg : bg = pf := by rw [HB.out, if_pos hneg]
      subst hbg
      go_wp2_with fail
      refine (nearest_any _ _ _ (by omega) (by omega) (by omega) (by omega)).mono ?_
      rintro e' w2 ⟨rfl, rfl⟩
      go_wp2_with fail
      go_ret
      exact ⟨ret_int H.out.symm, Hg1.out⟩
    · have hbg : bg = am := by rw [HB.out, if_neg hneg]
      subst hbg
      go_wp2_with fail
      refine (nearest_any _ _ _ (by omega) (by omega) (by omega) (by omega)).mono ?_
      rintro e' w2 ⟨rfl, rfl⟩
      go_wp2_with fail
      go_ret
      exact ⟨ret_int H.out.symm, Hg1.out⟩

set_option maxRecDepth 100000 in
set_option maxHeartbeats 1000000 in
theorem speccouponOf_any (b : Bond) (p : Per) (w : World) (hb : OkBond b) (hp : OkPer b p)  :
    Calls Tryz.prog 104 #[.agg #[.int .i64 b.start, .int .i64 b.stop, .int .i64 b.months, .int .i64 b.rate], .agg #[.int .i64 p.frm, .int .i64 p.till, .bool p.whole]] w fun e' w' => e' = .returned (.int .i64 (coupF b p)) ∧ w.grownBy w' none := by
  have hwb := hb.whole_bd
  have hr0 := hb.r0; have hr1 := hb.r1
  have hm1 := hb.span.mpos.1; have hm12 := hb.span.mpos.2
  have hf0 := hp.f0; have hft := hp.ft; have ht1 := hp.t1; have hb0 := hp.b0; have hbt := hp.bt
  have hx0 : 0 ≤ 10000 * b.rate * b.months := Int.mul_nonneg (by omega) (by omega)
  have hx1 : 10000 * b.rate * b.months ≤ 360000000 := by
    have h9 : 10000 * b.rate * b.months ≤ 10000 * b.rate * 12 := Int.mul_le_mul_of_nonneg_left hm12 (by omega)
    omega
  have HW := hid (show (2 * (10000 * b.rate * b.months) + 120000) / (2 * 120000) = wholeC b.rate b.months from rfl)
  have hgw : w.grownBy ((w.alloc (.cells #[.int .i64 b.start, .int .i64 b.stop, .int .i64 b.months, .int .i64 b.rate] 37)).alloc (.cells #[.int .i64 p.frm, .int .i64 p.till, .bool p.whole] 115)) none := gr_alloc (gr_alloc (gr0 _) _) _
  have Hgw := hid hgw; clear hgw
  skip
  obtain ⟨pf, pt, pw⟩ := p
  simp only at hf0 hft ht1 hb0 hbt  ⊢
  cases pw with
  | true =>
    have H := hid (show coupF b ⟨pf, pt, true⟩ = wholeC b.rate b.months by unfold coupF couponF; rw [if_pos rfl])
    clear hb hp
    go_enter Tryz.func104, Tryz.ntmps104
    go_wp2_with fail
    refine (specnearest_any _ _ _ (by omega) (by omega) (by omega) (by omega)).mono ?_
    rintro e' w1 ⟨rfl, rfl⟩
    rw [HW.out]
    go_wp2_with fail
    go_ret
    exact ⟨ret_int H.out.symm, Hgw.out⟩
  | false =>
    generalize hwc : wholeC b.rate b.months = wc at *
    have hy0 : 0 ≤ wc * (pt - pf) := Int.mul_nonneg hwb.1 (by omega)
    have hy1 : wc * (pt - pf) ≤ 3000 * 36524 := Int.le_trans (Int.mul_le_mul_of_nonneg_right hwb.2 (by omega)) (Int.mul_le_mul_of_nonneg_left (by omega) (by omega))
    have H := hid (show coupF b ⟨pf, pt, false⟩ = (2 * (wc * (pt - pf)) + (pt - beginC b.months ⟨pf, pt, false⟩)) / (2 * (pt - beginC b.months ⟨pf, pt, false⟩)) by unfold coupF couponF; rw [if_neg (by simp), hwc]; rfl)
    have HB := hid (show beginC b.months ⟨pf, pt, false⟩ = if addM pt (-b.months) < 0 then pf else addM pt (-b.months) from rfl)
    have hab := addM_bd pt (-b.months) (by omega) (by omega)
    generalize beginC b.months ⟨pf, pt, false⟩ = bg at *
    have Hwc := hid hwc
    clear hb hp hwc
    go_enter Tryz.func104, Tryz.ntmps104
    go_wp2_with fail
    refine (specnearest_any _ _ _ (by omega) (by omega) (by omega) (by omega)).mono ?_
    rintro e' w1 ⟨rfl, rfl⟩
    rw [HW.out]
    go_wp2_with fail
    refine (specaddMonths_any _ _ _ (by omega) (by omega) (by omega) (by omega)).mono ?_
    rintro e' w1 ⟨rfl, hg1⟩
    skip
    generalize addM pt (-b.months) = am at *
    have Hg1 := hid (gr_trans0 Hgw.out hg1)
    have hb1 := blk_keep (blk_alloc (heap_alloc_new w (.cells #[.int .i64 b.start, .int .i64 b.stop, .int .i64 b.months, .int .i64 b.rate] 37)) (.cells #[.int .i64 pf, .int .i64 pt, .bool false] 115)) hg1 (by simp)
    have hb2 := blk_keep (heap_alloc_new (w.alloc (.cells #[.int .i64 b.start, .int .i64 b.stop, .int .i64 b.months, .int .i64 b.rate] 37)) (.cells #[.int .i64 pf, .int .i64 pt, .bool false] 115)) hg1 (by simp)
    rw [World.size_alloc] at hb2
    have c0 := blk_cell hb2 0 _ rfl
    have c1 := blk_cell hb2 1 _ rfl
    clear hg1 hb1 hb2
    by_cases hneg : am < 0
    · have hbg : bg = pf := by rw [HB.out, if_pos hneg]
      subst hbg
      go_wp2_with fail
      refine (specnearest_any _ _ _ (by omega) (by omega) (by omega) (by omega)).mono ?_
      rintro e' w2 ⟨rfl, rfl⟩
      go_wp2_with fail
      go_ret
      exact ⟨ret_int H.out.symm, Hg1.out⟩
    · have hbg : bg = am := by rw [HB.out, if_neg hneg]
      subst hbg
      go_wp2_with fail
      refine (specnearest_any _ _ _ (by omega) (by omega) (by omega) (by omega)).mono ?_
      rintro e' w2 ⟨rfl, rfl⟩
      go_wp2_with fail
      go_ret
      exact ⟨ret_int H.out.symm, Hg1.out⟩


end Go.Proofs.YtielicmjdhmcjaaGreatDoor

/- The period that has a day; accrued interest; the program and the reference, walked. -/
namespace Go.Proofs.YtielicmjdhmcjaaGreatDoor
open Go.RowKit


theorem findIdx_of {α : Type} (L : List α) (p : α → Bool) (i : Nat) (hi : i ≤ L.length) (hb : ∀ (t : Nat) (x : α), t < i → L[t]? = some x → p x = false) (ha : ∀ x, L[i]? = some x → p x = true) : L.findIdx p = i := by
  induction L generalizing i with
  | nil => simp at hi; subst hi; rfl
  | cons x L ih =>
    rw [List.findIdx_cons]
    cases i with
    | zero => rw [ha x rfl]; rfl
    | succ i =>
      rw [hb 0 x (by omega) rfl, ih i (by simpa using hi) (fun t y ht hy => hb (t + 1) y (by omega) (by simpa using hy)) (fun y hy => ha y (by simpa using hy))]; rfl

structure Cap (w : World) (Lb Db : Nat) (a : Option Addr) (n cap : Nat) (L : List Per) (day : Int) : Prop where
  lst : w.heap[Lb]? = some (.cells #[.slice a n cap] 111 (0, 0))
  dy : w.heap[Db]? = some (.cells #[.int .i64 day] 3 (0, 0))
  sl : Sl perL w a n L
theorem Cap.keep0 {w w' : World} {Lb Db : Nat} {a : Option Addr} {n cap : Nat} {L : List Per} {day : Int} (h : Cap w Lb Db a n cap L day) (g : w.grownBy w' none) : Cap w' Lb Db a n cap L day :=
  ⟨blk_keep h.lst g (by simp), blk_keep h.dy g (by simp), h.sl.keep0 g⟩

set_option maxRecDepth 100000 in
theorem runpred_any (Lb Db : Nat) (a : Option Addr) (n cap : Nat) (L : List Per) (day : Int) (i : Nat) (p : Per) (w : World) (hc : Cap w Lb Db a n cap L day) (hi : i < n) (hp : L[i]? = some p) (_ : n ≤ 100) :
    Calls Tryz.prog 119 #[.int .i64 i, .pointer (some ⟨Lb, 0, none⟩), .pointer (some ⟨Db, 0, none⟩)] w fun e' w' => e' = .returned (.bool (decide (day < p.till))) ∧ w.grownBy w' none := by
  obtain ⟨b, o, z, rfl, hz, c0, c1, c2⟩ := per_at hc.sl i hi
  rw [hp] at hz
  obtain rfl := Option.some.inj hz
  have l0 := blk_cell hc.lst 0 _ rfl
  have d0 := blk_cell hc.dy 0 _ rfl
  have hi0 : (0 : Int) ≤ i := by omega
  have hi1 : (i : Int) < n := by omega
  clear hz hp hc c0 c2
  go_enter Tryz.func119, Tryz.ntmps119
  go_wp2_with fail
  go_quiet (fail)
  go_wp2_with fail
  go_ret
  exact ⟨rfl, gr_drewN (gr0 _) _⟩

set_option maxRecDepth 100000 in
set_option maxHeartbeats 1000000 in
theorem Search_any (Lb Db : Nat) (a : Option Addr) (n cap : Nat) (L : List Per) (day : Int) (w : World) (hc : Cap w Lb Db a n cap L day) (hn : n ≤ 100) (hmono : ∀ (i j : Nat) (p q : Per), i < j → L[i]? = some p → L[j]? = some q → p.till ≤ q.till) :
    Calls Tryz.prog 118 #[.int .i64 n, .func (.func 119) #[] #[.pointer (some ⟨Lb, 0, none⟩), .pointer (some ⟨Db, 0, none⟩)]] w fun e' w' => e' = .returned (.int .i64 (atF L day)) ∧ w.grownBy w' none := by
  have hl := hc.sl.len
  have Hc := hid hc; have Hm := hid hmono
  clear hc hmono
  go_enter Tryz.func118, Tryz.ntmps118
  go_wp2_with fail
  go_loopw [5, 6] (fun p q wr => ∃ i j : Nat, i ≤ j ∧ j ≤ n ∧ p = .int .i64 i ∧ q = .int .i64 j ∧ Hid (∀ (t : Nat) (x : Per), t < i → L[t]? = some x → x.till ≤ day) ∧ Hid (∀ x, L[j]? = some x → day < x.till) ∧ w.grownBy wr none) (fun p q _ => (intOf q - intOf p).toNat)
  case atStart => exact ⟨0, n, by omega, by omega, rfl, rfl, hid (fun t x ht => by omega), hid (fun x hx => by have := lt_of_at hx; omega), gr0 _⟩
  case round =>
    obtain ⟨i, j, hij, hjn, rfl, rfl, Hlo, Hhi, hg⟩ := hrel
    have Hg := hid hg
    clear hg
    by_cases hlt : i < j
    · obtain ⟨x, hx⟩ : ∃ x, L[(i + j) / 2]? = some x := ⟨L[(i + j) / 2]'(by omega), by simp [show (i + j) / 2 < L.length by omega]⟩
      have HP := hid (fun wx (h : w.grownBy wx none) => runpred_any Lb Db a n cap L day ((i + j) / 2) x wx (Hc.out.keep0 h) (by omega) hx hn)
      have Hx := hid hx
      clear hx
      go_wp2_with fail
      obtain ⟨h, hh⟩ : ∃ h, h = (i + j) / 2 := ⟨_, rfl⟩
      rw [show ((i : Int) + (j : Int)) / 2 = ((h : Nat) : Int) by omega]
      rw [← hh] at HP Hx
      have hih : i ≤ h ∧ h < j := by omega
      obtain ⟨hih1, hih2⟩ := hih
      clear hh
      refine (HP.out wr Hg.out).mono ?_
      rintro e' w2 ⟨rfl, hg2⟩
      have Hg2 := hid (gr_trans0 Hg.out hg2)
      clear hg2
      by_cases hp : day < x.till
      · have Hhi2 : Hid (∀ y, L[h]? = some y → day < y.till) := hid (fun y hy => by rw [Hx.out] at hy; cases hy; exact hp)
        have hpd : decide (day < x.till) = true := by simpa using hp
        clear hp
        go_wp2_with fail
        go_roundw
        case rel => exact ⟨i, h, hih1, by omega, rfl, rfl, Hlo, Hhi2, Hg2.out⟩
        case measure => simp [intOf]; omega
      · have Hlo2 : Hid (∀ (t : Nat) (y : Per), t < h + 1 → L[t]? = some y → y.till ≤ day) := hid (fun t y ht hy => by
          by_cases hth : t = h
          · subst hth; rw [Hx.out] at hy; cases hy; omega
          · have := Hm.out t h y x (by omega) hy Hx.out; omega)
        have hpd : decide (day < x.till) = false := by simpa using hp
        clear hp
        go_wp2_with fail
        go_roundw
        case rel => exact ⟨h + 1, j, by omega, hjn, by go_num, rfl, Hlo2, Hhi, Hg2.out⟩
        case measure => simp [intOf]; omega
    · obtain rfl : i = j := by omega
      have hf : atF L day = i := findIdx_of L _ i (by omega) (fun t x ht hx => by have := Hlo.out t x ht hx; simp; omega) (fun x hx => by have := Hhi.out x hx; simpa using this)
      have Hf := hid hf
      clear hf
      go_wp2_with fail
      go_ret
      exact ⟨ret_int (by rw [Hf.out]), Hg.out⟩

set_option maxRecDepth 100000 in
set_option maxHeartbeats 1000000 in
theorem runningNo_any (b : Bond) (day : Int) (w : World) (hw : Months w) (h : runB b day = false) :
    Calls Tryz.prog 80 #[.agg #[.int .i64 b.start, .int .i64 b.stop, .int .i64 b.months, .int .i64 b.rate], .int .i64 day] w fun e' w' => e' = .returned (.tuple #[.slice none 0 0, .int .i64 0, .bool false]) ∧ w.grownBy w' none := by
  have hgw : w.grownBy ((w.alloc (.cells #[.int .i64 b.start, .int .i64 b.stop, .int .i64 b.months, .int .i64 b.rate] 37)).alloc (.cells #[.int .i64 day] 3)) none := gr_alloc (gr_alloc (gr0 _) _) _
  have HV := hid (ValidBond_any b _ (hw.keep0 hgw))
  have hb1 := blk_alloc (heap_alloc_new w (.cells #[.int .i64 b.start, .int .i64 b.stop, .int .i64 b.months, .int .i64 b.rate] 37)) (.cells #[.int .i64 day] 3)
  have hb2 := heap_alloc_new (w.alloc (.cells #[.int .i64 b.start, .int .i64 b.stop, .int .i64 b.months, .int .i64 b.rate] 37)) (.cells #[.int .i64 day] 3)
  rw [World.size_alloc] at hb2
  have Hb1 := hid hb1; have Hb2 := hid hb2; have Hgw := hid hgw
  clear hb1 hb2 hgw hw
  cases hv : bondB b with
  | false =>
    rw [hv] at HV
    clear h
    go_enter Tryz.func80, Tryz.ntmps80
    go_wp2_with fail
    refine HV.out.mono ?_
    rintro e' w1 ⟨rfl, hg⟩
    have Hg := hid (gr_trans0 Hgw.out hg)
    clear hg
    go_wp2_with fail
    go_ret3
    exact ⟨rfl, Hg.out⟩
  | true =>
    rw [hv] at HV
    have hd : day < b.start ∨ b.stop ≤ day := by
      unfold runB at h; rw [hv] at h
      simp only [Bool.true_and, Bool.and_eq_false_iff, decide_eq_false_iff_not] at h
      omega
    clear h
    by_cases h1 : day < b.start
    · clear hd
      go_enter Tryz.func80, Tryz.ntmps80
      go_wp2_with fail
      refine HV.out.mono ?_
      rintro e' w1 ⟨rfl, hg⟩
      have Hg := hid (gr_trans0 Hgw.out hg)
      have c0 := blk_cell (blk_keep Hb1.out hg (by simp)) 0 _ rfl
      have d0 := blk_cell (blk_keep Hb2.out hg (by simp)) 0 _ rfl
      clear hg
      go_wp2_with fail
      go_ret3
      exact ⟨rfl, Hg.out⟩
    · have h2 : b.stop ≤ day := by omega
      clear hd
      go_enter Tryz.func80, Tryz.ntmps80
      go_wp2_with fail
      refine HV.out.mono ?_
      rintro e' w1 ⟨rfl, hg⟩
      have Hg := hid (gr_trans0 Hgw.out hg)
      have c0 := blk_cell (blk_keep Hb1.out hg (by simp)) 0 _ rfl
      have c1 := blk_cell (blk_keep Hb1.out hg (by simp)) 1 _ rfl
      have d0 := blk_cell (blk_keep Hb2.out hg (by simp)) 0 _ rfl
      clear hg
      go_wp2_with fail
      go_ret3
      exact ⟨rfl, Hg.out⟩

theorem chain_mono {b : Bond} (hb : OkBond b) : ∀ (i j : Nat) (p q : Per), i < j → (persF b)[i]? = some p → (persF b)[j]? = some q → p.till ≤ q.till := by
  intro i j p q hij hp hq
  have h1 := hb.chain.up_till i j p q hp hq hij
  have h2 := (hb.chain.up j q hq).2.1
  omega

set_option maxRecDepth 100000 in
set_option maxHeartbeats 1000000 in
theorem runningYes_any (b : Bond) (day : Int) (w : World) (hw : Months w) (h : runB b day = true) :
    Calls Tryz.prog 80 #[.agg #[.int .i64 b.start, .int .i64 b.stop, .int .i64 b.months, .int .i64 b.rate], .int .i64 day] w fun e' w' => ∃ a n cap, e' = .returned (.tuple #[.slice a n cap, .int .i64 (atF (persF b) day), .bool true]) ∧ Ow perL w' w.heap.size a n (persF b) ∧ n ≤ cap ∧ w.grownBy w' none := by
  obtain ⟨hok, hd0, hd1⟩ := run_facts h
  have hgw : w.grownBy ((w.alloc (.cells #[.int .i64 b.start, .int .i64 b.stop, .int .i64 b.months, .int .i64 b.rate] 37)).alloc (.cells #[.int .i64 day] 3)) none := gr_alloc (gr_alloc (gr0 _) _) _
  have HV := hid (ValidBond_any b _ (hw.keep0 hgw))
  rw [hok.bool] at HV
  have Hmo := hid (hw.keep0 hgw)
  have hb1 := blk_alloc (heap_alloc_new w (.cells #[.int .i64 b.start, .int .i64 b.stop, .int .i64 b.months, .int .i64 b.rate] 37)) (.cells #[.int .i64 day] 3)
  have hb2 := heap_alloc_new (w.alloc (.cells #[.int .i64 b.start, .int .i64 b.stop, .int .i64 b.months, .int .i64 b.rate] 37)) (.cells #[.int .i64 day] 3)
  rw [World.size_alloc] at hb2
  have Hb1 := hid hb1; have Hb2 := hid hb2; have Hgw := hid hgw
  have Hsf := hid (show schedF b.start b.stop b.months = persF b by unfold schedF persF; rw [if_pos hok.ok])
  have Hmn := hid (chain_mono hok)
  have hpl : (persF b).length ≤ 40 := by unfold persF; rw [sched_len]; exact hok.span.q2
  clear hb1 hb2 hgw hw h hok
  go_enter Tryz.func80, Tryz.ntmps80
  go_wp2_with fail
  refine HV.out.mono ?_
  rintro e' w1 ⟨rfl, hg⟩
  have Hg := hid (gr_trans0 Hgw.out hg)
  have Hm1 := hid (Hmo.out.keep0 hg)
  have Hc1 := hid (blk_keep Hb1.out hg (by simp))
  have Hc2 := hid (blk_keep Hb2.out hg (by simp))
  have c0 := blk_cell Hc1.out 0 _ rfl
  have c1 := blk_cell Hc1.out 1 _ rfl
  have c2 := blk_cell Hc1.out 2 _ rfl
  have c3 := blk_cell Hc1.out 3 _ rfl
  have d0 := blk_cell Hc2.out 0 _ rfl
  clear hg
  go_wp2_with fail
  refine (periods_any b w1 Hm1.out).mono ?_
  rintro e' w2 ⟨a, n, cap, rfl, ho, hcap, hg2⟩
  rw [Hsf.out] at ho
  have hnl : n ≤ 40 := by have := ho.len; omega
  have Ho := hid ho
  have Hg2 := hid (gr_trans0 Hg.out hg2)
  have Hd2 := hid (blk_keep Hc2.out hg2 (by simp))
  clear ho hg2 c0 c1 c2 c3 d0
  go_wp2_with fail
  have hcap0 : Cap (w2.alloc (.cells #[.slice a n cap] 111)) w2.heap.size (w.heap.size + 1) a n cap (persF b) day :=
    ⟨heap_alloc_new _ _, blk_alloc Hd2.out _, Ho.out.sl.keep0 (gr_alloc (gr0 _) _)⟩
  have hgD : w.grownBy (w2.alloc (.cells #[.slice a n cap] 111)) none := gr_alloc Hg2.out _
  have HoW := hid ((Ho.out.mono (gr_le Hg.out)).keep0 (gr_alloc (gr0 w2) (.cells #[.slice a n cap] 111)))
  generalize hVb : w2.heap.size = V at *
  generalize (w2.alloc (.cells #[.slice a n cap] 111)) = W at *
  have hV0 := blk_cell hcap0.lst 0 _ rfl
  have HgD := hid hgD
  clear hVb hgD
  refine wp_region_held_drew (S := fun w' => w'.cell? ⟨V, 0, none⟩ = some (.slice a n cap) ∧ W.grownBy w' none) (by kernel_rfl) ⟨hV0, gr_drew (gr0 _)⟩ (fun hHeld => ?_)
  refine wpAnyH_take (i := 0) (v := ?_) rfl (by kernel_rfl) (by kernel_rfl) (by kernel_rfl) (fun _ _ _ h => h) (Or.inl ⟨by rfl, ?_⟩) hHeld ?_
  rotate_left
  · intro w9 hSw
    obtain ⟨s1, s2⟩ := hSw
    go_simp
    all_goals (try with_reducible rfl)
  (try simp only [Act.put, gA, gC, gD, gE, gF])
  refine wpAnyH_take (i := 1) (v := ?_) rfl (by kernel_rfl) (by kernel_rfl) (by kernel_rfl) (fun _ _ _ h => h) (Or.inl ⟨by rfl, ?_⟩) hHeld ?_
  rotate_left
  · intro w9 hSw
    obtain ⟨s1, s2⟩ := hSw
    go_simp
    all_goals (try with_reducible rfl)
  (try simp only [Act.put, gA, gB, gC, gD, gE, gF])
  refine wpAnyH_take (i := 2) (v := ?_) rfl (by kernel_rfl) (by kernel_rfl) (by kernel_rfl) (fun _ _ _ h => h) (Or.inl ⟨by rfl, ?_⟩) hHeld ?_
  rotate_left
  · intro w9 hSw
    obtain ⟨s1, s2⟩ := hSw
    go_simp
    all_goals (try with_reducible rfl)
  (try simp only [Act.put, gA, gB, gC, gD, gE, gF])
  refine wpAnyH_take (i := 3) (v := ?_) rfl (by kernel_rfl) (by kernel_rfl) (by kernel_rfl) (fun _ _ _ h => h) (Or.inl ⟨by rfl, ?_⟩) hHeld ?_
  rotate_left
  · intro w9 hSw
    obtain ⟨s1, s2⟩ := hSw
    go_simp
    all_goals (try with_reducible rfl)
  (try simp only [Act.put, gA, gB, gC, gD, gE, gF])
  refine wpAnyH_ready (rs := [4]) (by kernel_rfl) (by simp) ?_
  refine AllReadyH.cons rfl (fun K' hK' => ?_) AllReadyH.nil
  go_simp
  refine (Search_any V (w.heap.size + 1) a n cap (persF b) day _ (hcap0.keep0 (gr_drew (gr0 _))) (by omega) Hmn.out).mono ?_
  rintro e' w5 ⟨rfl, hg5⟩
  (try simp only [])
  refine hK'.out _ _ ⟨hg5.cell hHeld.1 (by simp), gr_trans0 hHeld.2 hg5⟩ (fun hHeld2 => ?_)
  clear hK' K'
  (try simp only [Act.put, gA, gB, gC, gD, gE, gF])
  refine wpAnyH_take (i := 5) (v := ?_) rfl (by kernel_rfl) (by kernel_rfl) (by kernel_rfl) (fun _ _ _ h => h) (Or.inl ⟨by rfl, ?_⟩) hHeld2 ?_
  rotate_left
  · intro w9 hSw
    obtain ⟨s1, s2⟩ := hSw
    go_simp
    all_goals (try with_reducible rfl)
  (try simp only [Act.put, gA, gB, gC, gD, gE, gF])
  refine wpAnyH_take (i := 6) (v := ?_) rfl (by kernel_rfl) (by kernel_rfl) (by kernel_rfl) (fun _ _ _ h => h) (Or.inl ⟨by rfl, ?_⟩) hHeld2 ?_
  rotate_left
  · intro w9 hSw
    obtain ⟨s1, s2⟩ := hSw
    go_simp
    all_goals (try with_reducible rfl)
  (try simp only [Act.put, gA, gB, gC, gD, gE, gF])
  refine wpAnyH_take (i := 7) (v := ?_) rfl (by kernel_rfl) (by kernel_rfl) (by kernel_rfl) (fun _ _ _ h => h) (Or.inl ⟨by rfl, ?_⟩) hHeld2 ?_
  rotate_left
  · intro w9 hSw
    obtain ⟨s1, s2⟩ := hSw
    go_simp
    all_goals (try with_reducible rfl)
  (try simp only [Act.put, gA, gB, gC, gD, gE, gF])
  refine wpAnyH_done (by kernel_rfl) ?_ _
  have HgF := hid hHeld2.2
  clear hHeld hHeld2 hg5 hcap0
  go_wp2_with fail
  go_ret3
  exact ⟨a, n, cap, rfl, HoW.out.keep0 HgF.out, hcap, gr_trans0 HgD.out HgF.out⟩

end Go.Proofs.YtielicmjdhmcjaaGreatDoor

/- Accrued interest; the program's AccruedOf, DirtyOf and CleanOf. -/
namespace Go.Proofs.YtielicmjdhmcjaaGreatDoor
open Go.RowKit

set_option maxRecDepth 100000 in
set_option maxHeartbeats 1000000 in
theorem AccruedOf_any (b : Bond) (day : Int) (w : World) (hw : Months w) :
    Calls Tryz.prog 51 #[.agg #[.int .i64 b.start, .int .i64 b.stop, .int .i64 b.months, .int .i64 b.rate], .int .i64 day] w fun e' w' => e' = .returned (.int .i64 (accF b day)) ∧ w.grownBy w' none := by
  have hg0 : w.grownBy (w.alloc (.cells #[.int .i64 b.start, .int .i64 b.stop, .int .i64 b.months, .int .i64 b.rate] 37)) none := gr_alloc (gr0 _) _
  have Hm0 := hid (hw.keep0 hg0)
  have Hb0 := hid (heap_alloc_new w (.cells #[.int .i64 b.start, .int .i64 b.stop, .int .i64 b.months, .int .i64 b.rate] 37))
  have hw0 := hw
  clear hw
  by_cases h : runB b day = true
  · obtain ⟨hok, hd0, hd1⟩ := run_facts h
    have H := hid (show accF b day = accL b day by unfold accF; rw [if_pos h])
    have HR := hid (runningYes_any b day _ Hm0.out h)
    obtain ⟨t1, t2, t3, t4, t5⟩ := perAt_spec hok day hd0 hd1
    have hpp := pers_okPer hok _ t4
    have hcb := coup_bd hok _ hpp
    have HA := hid (show accL b day = (2 * (coupF b (perAt b day) * (day - (perAt b day).frm)) + ((perAt b day).till - (perAt b day).frm)) / (2 * ((perAt b day).till - (perAt b day).frm)) from rfl)
    have hpl : (persF b).length ≤ 40 := by unfold persF; rw [sched_len]; exact hok.span.q2
    generalize hpe : perAt b day = p at *
    have hf0 := hpp.f0; have hft := hpp.ft; have ht1 := hpp.t1
    have hx0 : 0 ≤ coupF b p * (day - p.frm) := Int.mul_nonneg hcb.1 (by omega)
    have hx1 : coupF b p * (day - p.frm) ≤ 3000 * 36524 := Int.le_trans (Int.mul_le_mul_of_nonneg_right hcb.2 (by omega)) (Int.mul_le_mul_of_nonneg_left (by omega) (by omega))
    have Hok := hid hok; have Hpp := hid hpp; have HT1 := hid t1
    clear hok hpp t1 t4 h hpe
    generalize hat : atF (persF b) day = at1 at *
    have Hat := hid hat
    clear hat
    go_enter Tryz.func51, Tryz.ntmps51
    go_wp2_with fail
    refine HR.out.mono ?_
    rintro e' w1 ⟨a, n, cap, rfl, ho, hcap, hg1⟩
    have hnl := ho.len
    obtain ⟨b1, o1, z, rfl, hz, c0, c1, c2⟩ := per_at ho.sl at1 (by omega)
    rw [HT1.out] at hz
    obtain rfl := Option.some.inj hz
    have hi0 : (0 : Int) ≤ at1 := by omega
    have hi1 : (at1 : Int) < n := by omega
    have Hg1 := hid (gr_trans0 hg0 hg1)
    have Hb1 := hid (blk_keep Hb0.out hg1 (by simp))
    clear ho hz hg1 hnl hcap
    go_wp2_with fail
    have hgD : w.grownBy (w1.alloc (.cells #[.int .i64 p.frm, .int .i64 p.till, .bool p.whole] 115)) none := gr_alloc Hg1.out _
    have hb2 := blk_alloc Hb1.out (.cells #[.int .i64 p.frm, .int .i64 p.till, .bool p.whole] 115)
    have hb3 := heap_alloc_new w1 (.cells #[.int .i64 p.frm, .int .i64 p.till, .bool p.whole] 115)
    obtain ⟨P, hP⟩ : ∃ P, P = w1.heap.size := ⟨_, rfl⟩
    rw [← hP] at hb3 ⊢
    obtain ⟨W, hW⟩ : ∃ W, W = (w1.alloc (.cells #[.int .i64 p.frm, .int .i64 p.till, .bool p.whole] 115)) := ⟨_, rfl⟩
    rw [← hW] at hb2 hb3 hgD ⊢
    clear hW hP c0 c1 c2
    have c0 := blk_cell hb2 0 _ rfl
    have c1 := blk_cell hb2 1 _ rfl
    have c2 := blk_cell hb2 2 _ rfl
    have c3 := blk_cell hb2 3 _ rfl
    have q0 := blk_cell hb3 0 _ rfl
    have q1 := blk_cell hb3 1 _ rfl
    have q2 := blk_cell hb3 2 _ rfl
    have HgD := hid hgD
    have HmW : Hid (Months W) := hid (hw0.keep0 hgD)
    have hs1 : IntKind.i64.wrap (day - p.frm) = day - p.frm := IntWalk.i64_in _ (by omega)
    have hs2 : IntKind.i64.wrap (p.till - p.frm) = p.till - p.frm := IntWalk.i64_in _ (by omega)
    have hs3 : IntKind.i64.wrap (coupF b p * (day - p.frm)) = coupF b p * (day - p.frm) := IntWalk.i64_in _ (by omega)
    have HC := hid (fun wx (h : W.grownBy wx none) => coupon_any b p wx Hok.out Hpp.out (HmW.out.keep0 h))
    have HN := hid (fun wx => nearest_any (coupF b p * (day - p.frm)) (p.till - p.frm) wx (by omega) (by omega) (by omega) (by omega))
    clear hb2 hb3 hgD
    refine wp_region_held_drew (S := fun w' => ((w'.cell? ⟨w.heap.size, 0, none⟩ = some (.int .i64 b.start) ∧ w'.cell? ⟨w.heap.size, 1, none⟩ = some (.int .i64 b.stop) ∧ w'.cell? ⟨w.heap.size, 2, none⟩ = some (.int .i64 b.months) ∧ w'.cell? ⟨w.heap.size, 3, none⟩ = some (.int .i64 b.rate)) ∧ w'.cell? ⟨P, 0, none⟩ = some (.int .i64 p.frm) ∧ w'.cell? ⟨P, 1, none⟩ = some (.int .i64 p.till) ∧ w'.cell? ⟨P, 2, none⟩ = some (.bool p.whole)) ∧ W.grownBy w' none) (by kernel_rfl) ⟨⟨⟨c0, c1, c2, c3⟩, q0, q1, q2⟩, gr_drew (gr0 _)⟩ (fun hHeld => ?_)
    refine wpAnyH_take (i := 0) (v := ?_) rfl (by kernel_rfl) (by kernel_rfl) (by kernel_rfl) (fun _ _ _ h => h) (Or.inl ⟨by rfl, ?_⟩) hHeld ?_
    rotate_left
    · intro w9 hSw
      obtain ⟨⟨⟨s0, s1, s2, s3⟩, s4, s5, s6⟩, s7⟩ := hSw
      go_simp
      all_goals (try with_reducible rfl)
    (try simp only [Act.put, gA, gC, gD, gE, gF])
    refine wpAnyH_take (i := 1) (v := ?_) rfl (by kernel_rfl) (by kernel_rfl) (by kernel_rfl) (fun _ _ _ h => h) (Or.inl ⟨by rfl, ?_⟩) hHeld ?_
    rotate_left
    · intro w9 hSw
      obtain ⟨⟨⟨s0, s1, s2, s3⟩, s4, s5, s6⟩, s7⟩ := hSw
      go_simp
      all_goals (try with_reducible rfl)
    (try simp only [Act.put, gA, gB, gC, gD, gE, gF])
    refine wpAnyH_take (i := 3) (v := ?_) rfl (by kernel_rfl) (by kernel_rfl) (by kernel_rfl) (fun _ _ _ h => h) (Or.inl ⟨by rfl, ?_⟩) hHeld ?_
    rotate_left
    · intro w9 hSw
      obtain ⟨⟨⟨s0, s1, s2, s3⟩, s4, s5, s6⟩, s7⟩ := hSw
      go_simp
      all_goals (try with_reducible rfl)
    (try simp only [Act.put, gA, gB, gC, gD, gE, gF])
    refine wpAnyH_take (i := 4) (v := ?_) rfl (by kernel_rfl) (by kernel_rfl) (by kernel_rfl) (fun _ _ _ h => h) (Or.inl ⟨by rfl, ?_⟩) hHeld ?_
    rotate_left
    · intro w9 hSw
      obtain ⟨⟨⟨s0, s1, s2, s3⟩, s4, s5, s6⟩, s7⟩ := hSw
      go_simp
      all_goals (try with_reducible rfl)
    (try simp only [Act.put, gA, gB, gC, gD, gE, gF])
    refine wpAnyH_take (i := 5) (v := ?_) rfl (by kernel_rfl) (by kernel_rfl) (by kernel_rfl) (fun _ _ _ h => h) (Or.inl ⟨by rfl, ?_⟩) hHeld ?_
    rotate_left
    · intro w9 hSw
      obtain ⟨⟨⟨s0, s1, s2, s3⟩, s4, s5, s6⟩, s7⟩ := hSw
      go_simp
      all_goals (try with_reducible rfl)
    (try simp only [Act.put, gA, gB, gC, gD, gE, gF])
    refine wpAnyH_take (i := 6) (v := ?_) rfl (by kernel_rfl) (by kernel_rfl) (by kernel_rfl) (fun _ _ _ h => h) (Or.inl ⟨by rfl, ?_⟩) hHeld ?_
    rotate_left
    · intro w9 hSw
      obtain ⟨⟨⟨s0, s1, s2, s3⟩, s4, s5, s6⟩, s7⟩ := hSw
      go_simp
      all_goals (try with_reducible rfl)
    (try simp only [Act.put, gA, gB, gC, gD, gE, gF])
    (try simp only [hs1])
    refine wpAnyH_take (i := 8) (v := ?_) rfl (by kernel_rfl) (by kernel_rfl) (by kernel_rfl) (fun _ _ _ h => h) (Or.inl ⟨by rfl, ?_⟩) hHeld ?_
    rotate_left
    · intro w9 hSw
      obtain ⟨⟨⟨s0, s1, s2, s3⟩, s4, s5, s6⟩, s7⟩ := hSw
      go_simp
      all_goals (try with_reducible rfl)
    (try simp only [Act.put, gA, gB, gC, gD, gE, gF])
    refine wpAnyH_take (i := 9) (v := ?_) rfl (by kernel_rfl) (by kernel_rfl) (by kernel_rfl) (fun _ _ _ h => h) (Or.inl ⟨by rfl, ?_⟩) hHeld ?_
    rotate_left
    · intro w9 hSw
      obtain ⟨⟨⟨s0, s1, s2, s3⟩, s4, s5, s6⟩, s7⟩ := hSw
      go_simp
      all_goals (try with_reducible rfl)
    (try simp only [Act.put, gA, gB, gC, gD, gE, gF])
    refine wpAnyH_take (i := 10) (v := ?_) rfl (by kernel_rfl) (by kernel_rfl) (by kernel_rfl) (fun _ _ _ h => h) (Or.inl ⟨by rfl, ?_⟩) hHeld ?_
    rotate_left
    · intro w9 hSw
      obtain ⟨⟨⟨s0, s1, s2, s3⟩, s4, s5, s6⟩, s7⟩ := hSw
      go_simp
      all_goals (try with_reducible rfl)
    (try simp only [Act.put, gA, gB, gC, gD, gE, gF])
    refine wpAnyH_take (i := 11) (v := ?_) rfl (by kernel_rfl) (by kernel_rfl) (by kernel_rfl) (fun _ _ _ h => h) (Or.inl ⟨by rfl, ?_⟩) hHeld ?_
    rotate_left
    · intro w9 hSw
      obtain ⟨⟨⟨s0, s1, s2, s3⟩, s4, s5, s6⟩, s7⟩ := hSw
      go_simp
      all_goals (try with_reducible rfl)
    (try simp only [Act.put, gA, gB, gC, gD, gE, gF])
    refine wpAnyH_take (i := 12) (v := ?_) rfl (by kernel_rfl) (by kernel_rfl) (by kernel_rfl) (fun _ _ _ h => h) (Or.inl ⟨by rfl, ?_⟩) hHeld ?_
    rotate_left
    · intro w9 hSw
      obtain ⟨⟨⟨s0, s1, s2, s3⟩, s4, s5, s6⟩, s7⟩ := hSw
      go_simp
      all_goals (try with_reducible rfl)
    (try simp only [Act.put, gA, gB, gC, gD, gE, gF])
    (try simp only [hs2])
    refine wpAnyH_ready (rs := [2]) (by kernel_rfl) (by simp) ?_
    refine AllReadyH.cons rfl (fun K' hK' => ?_) AllReadyH.nil
    go_simp
    refine (HC.out _ (gr_drew (gr0 _))).mono ?_
    rintro e' w5 ⟨rfl, hg5⟩
    (try simp only [])
    have hh2 : ((w5.cell? ⟨w.heap.size, 0, none⟩ = some (.int .i64 b.start) ∧ w5.cell? ⟨w.heap.size, 1, none⟩ = some (.int .i64 b.stop) ∧ w5.cell? ⟨w.heap.size, 2, none⟩ = some (.int .i64 b.months) ∧ w5.cell? ⟨w.heap.size, 3, none⟩ = some (.int .i64 b.rate)) ∧ w5.cell? ⟨P, 0, none⟩ = some (.int .i64 p.frm) ∧ w5.cell? ⟨P, 1, none⟩ = some (.int .i64 p.till) ∧ w5.cell? ⟨P, 2, none⟩ = some (.bool p.whole)) ∧ W.grownBy w5 none :=
      ⟨⟨⟨hg5.cell hHeld.1.1.1 (by simp), hg5.cell hHeld.1.1.2.1 (by simp), hg5.cell hHeld.1.1.2.2.1 (by simp), hg5.cell hHeld.1.1.2.2.2 (by simp)⟩, hg5.cell hHeld.1.2.1 (by simp), hg5.cell hHeld.1.2.2.1 (by simp), hg5.cell hHeld.1.2.2.2 (by simp)⟩, gr_trans0 hHeld.2 hg5⟩
    refine hK'.out _ _ hh2 (fun hHeld2 => ?_)
    clear hK' K' hh2
    (try simp only [Act.put, gA, gB, gC, gD, gE, gF])
    refine wpAnyH_take (i := 7) (v := ?_) rfl (by kernel_rfl) (by kernel_rfl) (by kernel_rfl) (fun _ _ _ h => h) (Or.inl ⟨by rfl, ?_⟩) hHeld2 ?_
    rotate_left
    · intro w9 hSw
      obtain ⟨⟨⟨s0, s1, s2, s3⟩, s4, s5, s6⟩, s7⟩ := hSw
      go_simp
      all_goals (try with_reducible rfl)
    (try simp only [Act.put, gA, gB, gC, gD, gE, gF])
    (try simp only [hs3])
    refine wpAnyH_ready (rs := [13]) (by kernel_rfl) (by simp) ?_
    refine AllReadyH.cons rfl (fun K' hK' => ?_) AllReadyH.nil
    go_simp
    refine (HN.out _).mono ?_
    rintro e' w6 ⟨rfl, rfl⟩
    (try simp only [])
    refine hK'.out _ _ hHeld2 (fun _ => ?_)
    clear hK' K'
    (try simp only [Act.put, gA, gB, gC, gD, gE, gF])
    refine wpAnyH_take (i := 14) (v := ?_) rfl (by kernel_rfl) (by kernel_rfl) (by kernel_rfl) (fun _ _ _ h => h) (Or.inl ⟨by rfl, ?_⟩) hHeld2 ?_
    rotate_left
    · intro w9 hSw
      obtain ⟨⟨⟨s0, s1, s2, s3⟩, s4, s5, s6⟩, s7⟩ := hSw
      go_simp
      all_goals (try with_reducible rfl)
    (try simp only [Act.put, gA, gB, gC, gD, gE, gF])
    refine wpAnyH_done (by kernel_rfl) ?_ _
    have HgF := hid hHeld2.2
    clear hHeld hHeld2 hg5 hs1 hs2 hs3
    go_wp2_with fail
    go_ret
    exact ⟨ret_int (by rw [H.out, HA.out]), gr_trans0 HgD.out HgF.out⟩
  · have h : runB b day = false := by simpa using h
    have H := hid (show accF b day = -1 by unfold accF; rw [if_neg (by rw [h]; simp)])
    have HR := hid (runningNo_any b day _ Hm0.out h)
    clear h
    go_enter Tryz.func51, Tryz.ntmps51
    go_wp2_with fail
    refine HR.out.mono ?_
    rintro e' w1 ⟨rfl, hg1⟩
    have Hg1 := hid (gr_trans0 hg0 hg1)
    clear hg1
    go_wp2_with fail
    go_ret
    exact ⟨ret_int H.out.symm, Hg1.out⟩

end Go.Proofs.YtielicmjdhmcjaaGreatDoor
