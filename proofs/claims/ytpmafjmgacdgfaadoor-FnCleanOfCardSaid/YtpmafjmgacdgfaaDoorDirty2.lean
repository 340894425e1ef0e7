/- DirtyOf of both sides, CleanOf of the program. -/
import Derived.Test.YtpmafjmgacdgfaaDoorRows
import Derived.Test.YtpmafjmgacdgfaaDoorBase
import Derived.Test.YtpmafjmgacdgfaaDoorDirty
namespace Go.Proofs.YtpmafjmgacdgfaaDoor
open Go.RowKit

set_option maxHeartbeats 400000 in
theorem DirtyOf_any (b : Bond) (day c : Int) (w : World) (hm : Months w) :
    Calls Tryd.prog 23 #[.agg #[.int .i64 b.start, .int .i64 b.stop, .int .i64 b.months, .int .i64 b.rate], .int .i64 day, .int .i64 c] w fun e' w' => e' = .returned (.int .i64 (dirtyF b day c)) ∧ w.grownBy w' none := by
  have hg0 : w.grownBy (w.alloc (.cells #[.int .i64 b.start, .int .i64 b.stop, .int .i64 b.months, .int .i64 b.rate] 25)) none := gr_alloc (gr0 _) _
  have Hb0 := hid (heap_alloc_new w (.cells #[.int .i64 b.start, .int .i64 b.stop, .int .i64 b.months, .int .i64 b.rate] 25))
  have HG := hid hg0
  have hr := acc_range b day
  have HA := hid (AccruedOf_any b day _ (hm.keep0 hg0))
  have HD := hid (show dirtyF b day c = if accF b day < 0 ∨ withinB c 0 50000 = false then -1 else c + accF b day from rfl)
  clear hg0 hm
  generalize accF b day = v at *
  by_cases hneg : v < 0
  · have hd : decide (v < 0) = true := by simpa using hneg
    have HR := hid (show dirtyF b day c = -1 by rw [HD.out, if_pos (Or.inl hneg)])
    clear hneg
    go_enter Tryd.func23, Tryd.ntmps23
    go_wp2_with fail
    refine HA.out.mono ?_
    rintro e' w1 ⟨rfl, hg⟩
    have Hg := hid (gr_trans0 HG.out hg)
    clear hg
    go_wp2_with fail
    go_ret
    exact ⟨ret_int HR.out.symm, Hg.out⟩
  · have hd : decide (v < 0) = false := by simpa using hneg
    cases hw : withinB c 0 50000 with
    | false =>
      have HR := hid (show dirtyF b day c = -1 by rw [HD.out, if_pos (Or.inr hw)])
      have HW := hid hw
      clear hneg hw
      go_enter Tryd.func23, Tryd.ntmps23
      go_wp2_with fail
      refine HA.out.mono ?_
      rintro e' w1 ⟨rfl, hg⟩
      have Hg := hid (gr_trans0 HG.out hg)
      clear hg
      go_wp2_with fail
      refine (within_any _ _ _ _).mono ?_
      rintro e' w2 ⟨rfl, rfl⟩
      rw [HW.out]
      go_wp2_with fail
      go_ret
      exact ⟨ret_int HR.out.symm, Hg.out⟩
    | true =>
      have HR := hid (show dirtyF b day c = c + v by rw [HD.out, if_neg (by rw [hw]; simp; omega)])
      have HW := hid hw
      obtain ⟨hc0, hc1⟩ := (within_iff' _ _ _).1 hw
      clear hneg hw
      go_enter Tryd.func23, Tryd.ntmps23
      go_wp2_with fail
      refine HA.out.mono ?_
      rintro e' w1 ⟨rfl, hg⟩
      have Hg := hid (gr_trans0 HG.out hg)
      clear hg
      go_wp2_with fail
      refine (within_any _ _ _ _).mono ?_
      rintro e' w2 ⟨rfl, rfl⟩
      rw [HW.out]
      go_wp2_with fail
      go_ret
      exact ⟨ret_int HR.out.symm, Hg.out⟩

set_option maxHeartbeats 400000 in
theorem CleanOf_any (b : Bond) (day c : Int) (w : World) (hm : Months w) :
    Calls Tryd.prog 21 #[.agg #[.int .i64 b.start, .int .i64 b.stop, .int .i64 b.months, .int .i64 b.rate], .int .i64 day, .int .i64 c] w fun e' w' => e' = .returned (.tuple #[.int .i64 (cleanF b day c).1, .bool (cleanF b day c).2]) ∧ w.grownBy w' none := by
  have hg0 : w.grownBy (w.alloc (.cells #[.int .i64 b.start, .int .i64 b.stop, .int .i64 b.months, .int .i64 b.rate] 25)) none := gr_alloc (gr0 _) _
  have Hb0 := hid (heap_alloc_new w (.cells #[.int .i64 b.start, .int .i64 b.stop, .int .i64 b.months, .int .i64 b.rate] 25))
  have HG := hid hg0
  have hr := acc_range b day
  have HA := hid (AccruedOf_any b day _ (hm.keep0 hg0))
  have HD := hid (show cleanF b day c = if accF b day < 0 ∨ withinB c (accF b day) (accF b day + 50000) = false then (0, false) else (c - accF b day, true) from rfl)
  clear hg0 hm
  generalize accF b day = v at *
  by_cases hneg : v < 0
  · have hd : decide (v < 0) = true := by simpa using hneg
    rw [HD.out, if_pos (Or.inl hneg)]
    clear hneg HD
    go_enter Tryd.func21, Tryd.ntmps21
    go_wp2_with fail
    refine HA.out.mono ?_
    rintro e' w1 ⟨rfl, hg⟩
    have Hg := hid (gr_trans0 HG.out hg)
    clear hg
    go_wp2_with fail
    go_ret2
    exact ⟨rfl, Hg.out⟩
  · have hd : decide (v < 0) = false := by simpa using hneg
    have hs : IntKind.i64.wrap (v + 50000) = v + 50000 := IntWalk.i64_in _ (by omega)
    cases hw : withinB c v (v + 50000) with
    | false =>
      rw [HD.out, if_pos (Or.inr hw)]
      have HW := hid hw
      clear hneg hw HD
      go_enter Tryd.func21, Tryd.ntmps21
      go_wp2_with fail
      refine HA.out.mono ?_
      rintro e' w1 ⟨rfl, hg⟩
      have Hg := hid (gr_trans0 HG.out hg)
      clear hg
      go_wp2_with fail
      refine (within_any _ _ _ _).mono ?_
      rintro e' w2 ⟨rfl, rfl⟩
      rw [HW.out]
      go_wp2_with fail
      go_ret2
      exact ⟨rfl, Hg.out⟩
    | true =>
      rw [HD.out, if_neg (by rw [hw]; simp; omega)]
      have HW := hid hw
      obtain ⟨hc0, hc1⟩ := (within_iff' _ _ _).1 hw
      clear hneg hw HD
      go_enter Tryd.func21, Tryd.ntmps21
      go_wp2_with fail
      refine HA.out.mono ?_
      rintro e' w1 ⟨rfl, hg⟩
      have Hg := hid (gr_trans0 HG.out hg)
      clear hg
      go_wp2_with fail
      refine (within_any _ _ _ _).mono ?_
      rintro e' w2 ⟨rfl, rfl⟩
      rw [HW.out]
      go_wp2_with fail
      go_ret2
      exact ⟨rfl, Hg.out⟩

set_option maxHeartbeats 400000 in
theorem specDirtyOf_any (b : Bond) (day c : Int) (w : World) :
    Calls Tryd.prog 22 #[.agg #[.int .i64 b.start, .int .i64 b.stop, .int .i64 b.months, .int .i64 b.rate], .int .i64 day, .int .i64 c] w fun e' w' => e' = .returned (.int .i64 (dirtyF b day c)) ∧ w.grownBy w' none := by
  have hg0 : w.grownBy (w.alloc (.cells #[.int .i64 b.start, .int .i64 b.stop, .int .i64 b.months, .int .i64 b.rate] 25)) none := gr_alloc (gr0 _) _
  have Hb0 := hid (heap_alloc_new w (.cells #[.int .i64 b.start, .int .i64 b.stop, .int .i64 b.months, .int .i64 b.rate] 25))
  have HG := hid hg0
  have hr := acc_range b day
  have HR := hid (specrunning_any b day (w.alloc (.cells #[.int .i64 b.start, .int .i64 b.stop, .int .i64 b.months, .int .i64 b.rate] 25)))
  have HD := hid (show dirtyF b day c = if accF b day < 0 ∨ withinB c 0 50000 = false then -1 else c + accF b day from rfl)
  clear hg0
  cases h : runB b day with
  | false =>
    have h2 := acc_no h
    rw [h2] at HD
    have HD := hid (show dirtyF b day c = -1 by rw [HD.out, if_pos (by simp)])
    rw [h] at HR
    clear h h2 hr
    go_enter Tryd.func22, Tryd.ntmps22
    go_wp2_with fail
    refine HR.out.mono ?_
    rintro e' w1 ⟨rfl, hg⟩
    have Hg := hid (gr_trans0 HG.out hg)
    have hb1 := blk_keep Hb0.out hg (by simp)
    have c0 := blk_cell hb1 0 _ rfl
    have c1 := blk_cell hb1 1 _ rfl
    have c2 := blk_cell hb1 2 _ rfl
    have c3 := blk_cell hb1 3 _ rfl
    clear hb1 hg
    go_wp2_with fail
    go_ret
    exact ⟨ret_int HD.out.symm, Hg.out⟩
  | true =>
    obtain ⟨h2, h3, h4⟩ := acc_le h
    have HC := hid (fun wx => specaccrued_any b day wx h)
    rw [h] at HR
    rw [h2] at HD hr
    clear h h2
    generalize accL b day = v at *
    cases hw : withinB c 0 50000 with
    | false =>
      have HD := hid (show dirtyF b day c = -1 by rw [HD.out, if_pos (Or.inr hw)])
      have HW := hid hw
      clear hw
      go_enter Tryd.func22, Tryd.ntmps22
      go_wp2_with fail
      refine HR.out.mono ?_
      rintro e' w1 ⟨rfl, hg⟩
      have Hg := hid (gr_trans0 HG.out hg)
      have hb1 := blk_keep Hb0.out hg (by simp)
      have c0 := blk_cell hb1 0 _ rfl
      have c1 := blk_cell hb1 1 _ rfl
      have c2 := blk_cell hb1 2 _ rfl
      have c3 := blk_cell hb1 3 _ rfl
      clear hb1 hg
      go_wp2_with fail
      refine (inRange_any _ _ _ _).mono ?_
      rintro e' w2 ⟨rfl, rfl⟩
      rw [HW.out]
      go_wp2_with fail
      go_ret
      exact ⟨ret_int HD.out.symm, Hg.out⟩
    | true =>
      have HD := hid (show dirtyF b day c = c + v by rw [HD.out, if_neg (by rw [hw]; simp; omega)])
      have HW := hid hw
      obtain ⟨hc0, hc1⟩ := (within_iff' _ _ _).1 hw
      clear hw
      go_enter Tryd.func22, Tryd.ntmps22
      go_wp2_with fail
      refine HR.out.mono ?_
      rintro e' w1 ⟨rfl, hg⟩
      have Hg := hid (gr_trans0 HG.out hg)
      have hb1 := blk_keep Hb0.out hg (by simp)
      have c0 := blk_cell hb1 0 _ rfl
      have c1 := blk_cell hb1 1 _ rfl
      have c2 := blk_cell hb1 2 _ rfl
      have c3 := blk_cell hb1 3 _ rfl
      clear hb1 hg
      go_wp2_with fail
      refine (inRange_any _ _ _ _).mono ?_
      rintro e' w2 ⟨rfl, rfl⟩
      rw [HW.out]
      go_wp2_with fail
      refine (HC.out _).mono ?_
      rintro e' w3 ⟨rfl, hg⟩
      have Hg3 := hid (gr_trans0 Hg.out hg)
      clear hg
      go_wp2_with fail
      go_ret
      exact ⟨ret_int HD.out.symm, Hg3.out⟩

end Go.Proofs.YtpmafjmgacdgfaaDoor
