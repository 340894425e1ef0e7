/- Risks: RiskOf of the reference. -/
import Derived.Test.YtkgjciacdjhhfaaDoorRows
import Derived.Test.YtkgjciacdjhhfaaDoorBase
import Derived.Test.YtkgjciacdjhhfaaDoorRisk
import Derived.Test.YtkgjciacdjhhfaaDoorSpecPrice
namespace Go.Proofs.YtkgjciacdjhhfaaDoor
open Go.RowKit

set_option maxRecDepth 100000 in
set_option maxHeartbeats 1000000 in
theorem specRiskOf_any (b : Bond) (day y : Int) (w : World) :
    Calls Tryd.prog 22 #[.agg #[.int .i64 b.start, .int .i64 b.stop, .int .i64 b.months, .int .i64 b.rate], .int .i64 day, .int .i64 y] w fun e' w' => e' = .returned (.agg #[.int .i64 (riskF b day y).low, .int .i64 (riskF b day y).high]) ∧ w.grownBy w' none := by
  have hg00 : w.grownBy ((w.alloc (.cells #[.int .i64 b.start, .int .i64 b.stop, .int .i64 b.months, .int .i64 b.rate] 27)).alloc (.cells #[.int .i64 0, .int .i64 0] 25)) none := gr_alloc (gr_alloc (gr0 _) _) _
  have hz := heap_alloc_new (w.alloc (.cells #[.int .i64 b.start, .int .i64 b.stop, .int .i64 b.months, .int .i64 b.rate] 27)) (.cells #[.int .i64 0, .int .i64 0] 25)
  rw [World.size_alloc] at hz
  have Hz0 := hid hz
  have Hb0 := hid (blk_alloc (heap_alloc_new w (.cells #[.int .i64 b.start, .int .i64 b.stop, .int .i64 b.months, .int .i64 b.rate] 27)) (.cells #[.int .i64 0, .int .i64 0] 25))
  have HG := hid hg00
  clear hg00 hz
  have HR := hid (specrunning_any b day ((w.alloc (.cells #[.int .i64 b.start, .int .i64 b.stop, .int .i64 b.months, .int .i64 b.rate] 27)).alloc (.cells #[.int .i64 0, .int .i64 0] 25)))
  cases hr : runB b day with
  | false =>
    have hp : riskB b day y = false := by unfold riskB; rw [hr]; rfl
    rw [risk_no hp]
    rw [hr] at HR
    clear hr hp
    go_enter Tryd.func22, Tryd.ntmps22
    go_wp2_with fail
    refine HR.out.mono ?_
    rintro e' w1 ⟨rfl, hg⟩
    have Hg1 := hid (gr_trans0 HG.out hg)
    have Hz1 := hid (blk_keep Hz0.out hg (by simp))
    clear hg
    have hzz := Hz1.out
    (try clear z0 z1 k0 k1)
    have z0 := blk_cell hzz 0 _ rfl
    have z1 := blk_cell hzz 1 _ rfl
    have k0 := blk_frozen hzz 0
    have k1 := blk_frozen hzz 1
    clear hzz
    go_wp2_with fail
    refine bodyPost_ret (v := .agg #[.int .i64 0, .int .i64 0]) (by simp [results, Tryd.results22, go_sem, *]) rfl ⟨rfl, ?_⟩
    exact gr_setCell (p := ⟨w.heap.size + 1, 1, none⟩) (gr_setCell (p := ⟨w.heap.size + 1, 0, none⟩) Hg1.out (.inr (Nat.le_succ _)) _) (.inr (Nat.le_succ _)) _
  | true =>
    rw [hr] at HR
    cases hp : riskB b day y with
    | false =>
      have HY := hid (show withinB y 0 97500 = false by unfold riskB at hp; rw [hr] at hp; unfold withinB; simpa using hp)
      rw [risk_no hp]
      clear hr hp
      go_enter Tryd.func22, Tryd.ntmps22
      go_wp2_with fail
      refine HR.out.mono ?_
      rintro e' w1 ⟨rfl, hg⟩
      have Hg1 := hid (gr_trans0 HG.out hg)
      have Hz1 := hid (blk_keep Hz0.out hg (by simp))
      clear hg
      have hzz := Hz1.out
      (try clear z0 z1 k0 k1)
      have z0 := blk_cell hzz 0 _ rfl
      have z1 := blk_cell hzz 1 _ rfl
      have k0 := blk_frozen hzz 0
      have k1 := blk_frozen hzz 1
      clear hzz
      go_wp2_with fail
      refine (inRange_any _ _ _ _).mono ?_
      rintro e' w2 ⟨rfl, rfl⟩
      rw [HY.out]
      go_wp2_with fail
      refine bodyPost_ret (v := .agg #[.int .i64 0, .int .i64 0]) (by simp [results, Tryd.results22, go_sem, *]) rfl ⟨rfl, ?_⟩
      exact gr_setCell (p := ⟨w.heap.size + 1, 1, none⟩) (gr_setCell (p := ⟨w.heap.size + 1, 0, none⟩) Hg1.out (.inr (Nat.le_succ _)) _) (.inr (Nat.le_succ _)) _
    | true =>
      obtain ⟨_, y0, y1⟩ := risk_facts hp
      obtain ⟨p1, p2⟩ := risk_both hp
      have bd1 := price_bds p1
      have bd2 := price_bds p2
      have HY := hid (show withinB y 0 97500 = true by unfold withinB; simp only [Bool.and_eq_true, decide_eq_true_eq]; exact ⟨y0, y1⟩)
      have H1 := hid (fun wx => specprice_any b day y wx (run_of hr) y0 (by omega))
      have H2 := hid (fun wx => specprice_any b day (y + 2500) wx (run_of hr) (by omega) (by omega))
      rw [risk_is hp]
      rw [price_in hr y0 (by omega)] at bd1 ⊢
      rw [price_in hr (show 0 ≤ y + 2500 by omega) (by omega)] at bd2 ⊢
      unfold priceR at *
      simp only at bd1 bd2 ⊢
      generalize priceLo b day y = pl at *
      generalize priceHi b day y = ph at *
      generalize priceLo b day (y + 2500) = ql at *
      generalize priceHi b day (y + 2500) = qh at *
      have v1 : IntKind.i64.wrap (y + 2500) = y + 2500 := IntWalk.i64_in _ (by omega)
      have V2 := hid (show IntKind.i64.wrap (pl - qh) = pl - qh from IntWalk.i64_in _ (by omega))
      have V3 := hid (show IntKind.i64.wrap (ph - ql) = ph - ql from IntWalk.i64_in _ (by omega))
      clear hr hp p1 p2 bd1 bd2
      go_enter Tryd.func22, Tryd.ntmps22
      go_wp2_with fail
      refine HR.out.mono ?_
      rintro e' w1 ⟨rfl, hg⟩
      have Hg1 := hid (gr_trans0 HG.out hg)
      have Hz1 := hid (blk_keep Hz0.out hg (by simp))
      have Hb1 := hid (blk_keep Hb0.out hg (by simp))
      clear hg
      (try clear c0 c1 c2 c3)
      have c0 := blk_cell Hb1.out 0 _ rfl
      have c1 := blk_cell Hb1.out 1 _ rfl
      have c2 := blk_cell Hb1.out 2 _ rfl
      have c3 := blk_cell Hb1.out 3 _ rfl
      go_wp2_with fail
      refine (inRange_any _ _ _ _).mono ?_
      rintro e' w2 ⟨rfl, rfl⟩
      rw [HY.out]
      go_wp2_with fail
      refine (H1.out _).mono ?_
      rintro e' w3 ⟨rfl, hg⟩
      have Hg3 := hid (gr_alloc (gr_trans0 Hg1.out hg) (Obj.cells #[.int .i64 (pl), .int .i64 (ph)] 25))
      have hz3 := blk_keep Hz1.out hg (by simp)
      have hl3 := blk_lt hz3
      have Hz3 := hid (blk_alloc hz3 (Obj.cells #[.int .i64 (pl), .int .i64 (ph)] 25))
      have Hb3 := hid (blk_alloc (blk_keep Hb1.out hg (by simp)) (Obj.cells #[.int .i64 (pl), .int .i64 (ph)] 25))
      have Hd3 := hid (heap_alloc_new w3 (Obj.cells #[.int .i64 (pl), .int .i64 (ph)] 25))
      clear hg hz3
      (try clear c0 c1 c2 c3)
      have c0 := blk_cell Hb3.out 0 _ rfl
      have c1 := blk_cell Hb3.out 1 _ rfl
      have c2 := blk_cell Hb3.out 2 _ rfl
      have c3 := blk_cell Hb3.out 3 _ rfl
      go_wp2_with fail
      refine (H2.out _).mono ?_
      rintro e' w4 ⟨rfl, hg⟩
      have Hg4 := hid (gr_alloc (gr_trans0 Hg3.out hg) (Obj.cells #[.int .i64 (ql), .int .i64 (qh)] 25))
      have Hz4 := hid (blk_alloc (blk_keep Hz3.out hg (by simp)) (Obj.cells #[.int .i64 (ql), .int .i64 (qh)] 25))
      have hd4 := blk_keep Hd3.out hg (by simp)
      have hl4 := blk_lt hd4
      have Hd4 := hid (blk_alloc hd4 (Obj.cells #[.int .i64 (ql), .int .i64 (qh)] 25))
      have He4 := hid (heap_alloc_new w4 (Obj.cells #[.int .i64 (ql), .int .i64 (qh)] 25))
      have n1 : ¬ w.heap.size + 1 = w3.heap.size := by omega
      have n2 : ¬ w.heap.size + 1 = w4.heap.size := by omega
      have n3 : ¬ w3.heap.size = w4.heap.size := by omega
      have d0 := blk_cell Hd4.out 0 _ rfl
      have d1 := blk_cell Hd4.out 1 _ rfl
      have e0 := blk_cell He4.out 0 _ rfl
      have e1 := blk_cell He4.out 1 _ rfl
      have v2 := V2.out
      have v3 := V3.out
      clear hg hd4 c0 c1 c2 c3 v1
      have hzz := Hz4.out
      (try clear z0 z1 k0 k1)
      have z0 := blk_cell hzz 0 _ rfl
      have z1 := blk_cell hzz 1 _ rfl
      have k0 := blk_frozen hzz 0
      have k1 := blk_frozen hzz 1
      clear hzz
      go_wp2_with fail
      refine bodyPost_ret (v := .agg #[.int .i64 (pl - qh), .int .i64 (ph - ql)]) (by simp [results, Tryd.results22, go_sem, *]) rfl ⟨rfl, ?_⟩
      exact gr_setCell (p := ⟨w.heap.size + 1, 1, none⟩) (gr_setCell (p := ⟨w.heap.size + 1, 0, none⟩) Hg4.out (.inr (Nat.le_succ _)) _) (.inr (Nat.le_succ _)) _

end Go.Proofs.YtkgjciacdjhhfaaDoor
