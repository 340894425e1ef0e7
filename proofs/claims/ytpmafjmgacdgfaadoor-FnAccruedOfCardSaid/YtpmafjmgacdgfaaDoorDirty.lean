/- AccruedOf, DirtyOf and CleanOf of both sides. -/
import Derived.Test.YtpmafjmgacdgfaaDoorRows
import Derived.Test.YtpmafjmgacdgfaaDoorBase
import Derived.Test.YtpmafjmgacdgfaaDoorSpecAcc
namespace Go.Proofs.YtpmafjmgacdgfaaDoor
open Go.RowKit

def dirtyF (b : Bond) (day c : Int) : Int := if accF b day < 0 ∨ withinB c 0 50000 = false then -1 else c + accF b day
def cleanF (b : Bond) (day d : Int) : Int × Bool := if accF b day < 0 ∨ withinB d (accF b day) (accF b day + 50000) = false then (0, false) else (d - accF b day, true)

theorem acc_le {b : Bond} {day : Int} (h : runB b day = true) : accF b day = accL b day ∧ 0 ≤ accL b day ∧ accL b day ≤ 3000 := by
  obtain ⟨hok, hd0, hd1⟩ := run_facts h
  have h1 := acc_bd hok day hd0 hd1
  obtain ⟨_, a, c, hm, _⟩ := perAt_spec hok day hd0 hd1
  have hc := coup_bd hok _ (pers_okPer hok _ hm)
  refine ⟨by unfold accF; rw [if_pos h], h1.1, by omega⟩
theorem acc_no {b : Bond} {day : Int} (h : runB b day = false) : accF b day = -1 := by
  unfold accF; rw [if_neg (by rw [h]; simp)]
theorem acc_range (b : Bond) (day : Int) : -1 ≤ accF b day ∧ accF b day ≤ 3000 := by
  cases h : runB b day with
  | true => have := acc_le h; omega
  | false => have := acc_no h; omega

set_option maxHeartbeats 400000 in
theorem specAccruedOf_any (b : Bond) (day : Int) (w : World) :
    Calls Tryd.prog 17 #[.agg #[.int .i64 b.start, .int .i64 b.stop, .int .i64 b.months, .int .i64 b.rate], .int .i64 day] w fun e' w' => e' = .returned (.int .i64 (accF b day)) ∧ w.grownBy w' none := by
  have hg0 : w.grownBy (w.alloc (.cells #[.int .i64 b.start, .int .i64 b.stop, .int .i64 b.months, .int .i64 b.rate] 25)) none := gr_alloc (gr0 _) _
  have Hb0 := hid (heap_alloc_new w (.cells #[.int .i64 b.start, .int .i64 b.stop, .int .i64 b.months, .int .i64 b.rate] 25))
  have HR := hid (specrunning_any b day (w.alloc (.cells #[.int .i64 b.start, .int .i64 b.stop, .int .i64 b.months, .int .i64 b.rate] 25)))
  have HG := hid hg0; clear hg0
  cases h : runB b day with
  | true =>
    have HA := hid (acc_le h).1
    have HC := hid (fun wx => specaccrued_any b day wx h)
    rw [h] at HR
    clear h
    go_enter Tryd.func17, Tryd.ntmps17
    go_wp2_with fail
    refine HR.out.mono ?_
    rintro e' w1 ⟨rfl, hg⟩
    have Hg := hid (gr_trans0 HG.out hg)
    have hb1 := blk_keep Hb0.out hg (by simp)
    have c0 := blk_cell hb1 0 _ rfl
    have c1 := blk_cell hb1 1 _ rfl
    have c2 := blk_cell hb1 2 _ rfl
    have c3 := blk_cell hb1 3 _ rfl
    clear hb1 hg
    go_wp2_with fail
    refine (HC.out _).mono ?_
    rintro e' w2 ⟨rfl, hg2⟩
    have Hg2 := hid (gr_trans0 Hg.out hg2)
    clear hg2
    go_wp2_with fail
    go_ret
    exact ⟨ret_int HA.out.symm, Hg2.out⟩
  | false =>
    have HA := hid (acc_no h)
    rw [h] at HR
    clear h
    go_enter Tryd.func17, Tryd.ntmps17
    go_wp2_with fail
    refine HR.out.mono ?_
    rintro e' w1 ⟨rfl, hg⟩
    have Hg := hid (gr_trans0 HG.out hg)
    clear hg
    go_wp2_with fail
    go_ret
    exact ⟨ret_int HA.out.symm, Hg.out⟩

end Go.Proofs.YtpmafjmgacdgfaaDoor
