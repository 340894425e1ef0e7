/- Bonds: periods, validity, coupons; the program and the reference, walked. -/
import Derived.Test.YtpomlbloeejbjaaDoorRows
import Derived.Test.YtpomlbloeejbjaaDoorBase
import Derived.Test.YtpomlbloeejbjaaDoorFlows
import Derived.Test.YtpomlbloeejbjaaDoorSchedWalk
import Derived.Test.YtpomlbloeejbjaaDoorSpecSched
import Derived.StillTailTactics
namespace Go.Proofs.YtpomlbloeejbjaaDoor
open Go.RowKit


theorem sched_nonempty (s e m : Int) : decide (0 < (schedF s e m).length) = schedOk s e m := by
  unfold schedF
  by_cases h : schedOk s e m = true
  · rw [if_pos h, sched_len]
    have := (ok_span h).q1
    rw [h]; simp; omega
  · rw [if_neg h]
    have : schedOk s e m = false := by simpa using h
    rw [this]; rfl

theorem periods_any (b : Bond) (w : World) (hw : Months w) :
    Calls Tryd.prog 52 #[.agg #[.int .i64 b.start, .int .i64 b.stop, .int .i64 b.months, .int .i64 b.rate]] w fun e' w' => ∃ a n cap, e' = .returned (.slice a n cap) ∧ Ow perL w' w.heap.size a n (schedF b.start b.stop b.months) ∧ n ≤ cap ∧ w.grownBy w' none := by
  have HS := hid (ScheduleOf_any b.start b.stop b.months _ (hw.keep0 (gr_alloc (gr0 w) (.cells #[.int .i64 b.start, .int .i64 b.stop, .int .i64 b.months, .int .i64 b.rate] 37))))
  go_enter Tryd.func52, Tryd.ntmps52
  go_wp2_with fail
  refine HS.out.mono ?_
  rintro e' w1 ⟨a, n, cap, rfl, ho, hc, hg⟩
  have Ho := hid ho; have Hg := hid hg
  clear ho hg
  go_wp2_with fail
  go_ret
  exact ⟨a, n, cap, rfl, Ho.out.mono (by simp), hc, gr_trans0 (gr_alloc (gr0 _) _) Hg.out⟩

set_option maxHeartbeats 400000 in
theorem ValidBond_any (b : Bond) (w : World) (hw : Months w) :
    Calls Tryd.prog 27 #[.agg #[.int .i64 b.start, .int .i64 b.stop, .int .i64 b.months, .int .i64 b.rate]] w fun e' w' => e' = .returned (.bool (bondB b)) ∧ w.grownBy w' none := by
  have HP := hid (periods_any b _ (hw.keep0 (gr_alloc (gr0 w) (.cells #[.int .i64 b.start, .int .i64 b.stop, .int .i64 b.months, .int .i64 b.rate] 37))))
  have Hn := hid (sched_nonempty b.start b.stop b.months)
  by_cases hr : withinB b.rate 0 3000 = true
  · have H := hid (show bondB b = schedOk b.start b.stop b.months by
      have : rateB b.rate = true := hr
      unfold bondB; rw [this, Bool.true_and])
    go_enter Tryd.func27, Tryd.ntmps27
    go_wp2_with fail
    refine (rateValid_any _ _).mono ?_
    rintro e' w1 ⟨rfl, rfl⟩
    rw [hr]
    go_wp2_with fail
    refine HP.out.mono ?_
    rintro e' w1 ⟨a, n, cap, rfl, ho, hc, hg⟩
    have hl := ho.len
    have hb : decide (0 < n) = bondB b := by rw [H.out, ← Hn.out, hl]
    have Hb := hid hb
    have Hg := hid hg
    clear ho hg hl hb
    go_wp2_with fail
    go_ret
    exact ⟨ret_bool Hb.out, gr_trans0 (gr_alloc (gr0 _) _) Hg.out⟩
  · have hr : withinB b.rate 0 3000 = false := by simpa using hr
    have H := hid (show bondB b = false by
      have : rateB b.rate = false := hr
      unfold bondB; rw [this, Bool.false_and])
    go_enter Tryd.func27, Tryd.ntmps27
    go_wp2_with fail
    refine (rateValid_any _ _).mono ?_
    rintro e' w1 ⟨rfl, rfl⟩
    rw [hr]
    go_wp2_with fail
    go_ret
    exact ⟨ret_bool H.out.symm, gr_alloc (gr0 _) _⟩

set_option maxHeartbeats 400000 in
theorem specvalidBond_any (b : Bond) (w : World) :
    Calls Tryd.prog 43 #[.agg #[.int .i64 b.start, .int .i64 b.stop, .int .i64 b.months, .int .i64 b.rate]] w fun e' w' => e' = .returned (.bool (bondB b)) ∧ w.grownBy w' none := by
  have HP := hid (fun wx => specScheduleOf_any b.start b.stop b.months wx)
  have Hn := hid (sched_nonempty b.start b.stop b.months)
  by_cases hsp : spanB b.start b.stop b.months = true
  · by_cases hr : withinB b.rate 0 3000 = true
    · have H := hid (show bondB b = schedOk b.start b.stop b.months by
        have : rateB b.rate = true := hr
        unfold bondB; rw [this, Bool.true_and])
      go_enter Tryd.func43, Tryd.ntmps43
      go_wp2_with fail
      refine (validSpan_any _ _ _ _).mono ?_
      rintro e' w1 ⟨rfl, rfl⟩
      rw [hsp]
      go_wp2_with fail
      refine (inRange_any _ _ _ _).mono ?_
      rintro e' w1 ⟨rfl, rfl⟩
      rw [hr]
      go_wp2_with fail
      refine (HP.out _).mono ?_
      rintro e' w1 ⟨a, n, cap, rfl, ho, hc, hg⟩
      have hl := ho.len
      have hb : decide (0 < n) = bondB b := by rw [H.out, ← Hn.out, hl]
      have Hb := hid hb
      have Hg := hid hg
      clear ho hg hl hb
      go_wp2_with fail
      go_ret
      exact ⟨ret_bool Hb.out, gr_trans0 (gr_alloc (gr0 _) _) Hg.out⟩
    · have hr : withinB b.rate 0 3000 = false := by simpa using hr
      have H := hid (show bondB b = false by
        have : rateB b.rate = false := hr
        unfold bondB; rw [this, Bool.false_and])
      go_enter Tryd.func43, Tryd.ntmps43
      go_wp2_with fail
      refine (validSpan_any _ _ _ _).mono ?_
      rintro e' w1 ⟨rfl, rfl⟩
      rw [hsp]
      go_wp2_with fail
      refine (inRange_any _ _ _ _).mono ?_
      rintro e' w1 ⟨rfl, rfl⟩
      rw [hr]
      go_wp2_with fail
      go_ret
      exact ⟨ret_bool H.out.symm, gr_alloc (gr0 _) _⟩
  · have hsp : spanB b.start b.stop b.months = false := by simpa using hsp
    have H := hid (show bondB b = false by unfold bondB schedOk; rw [hsp]; simp)
    go_enter Tryd.func43, Tryd.ntmps43
    go_wp2_with fail
    refine (validSpan_any _ _ _ _).mono ?_
    rintro e' w1 ⟨rfl, rfl⟩
    rw [hsp]
    go_wp2_with fail
    go_ret
    exact ⟨ret_bool H.out.symm, gr_alloc (gr0 _) _⟩


end Go.Proofs.YtpomlbloeejbjaaDoor
