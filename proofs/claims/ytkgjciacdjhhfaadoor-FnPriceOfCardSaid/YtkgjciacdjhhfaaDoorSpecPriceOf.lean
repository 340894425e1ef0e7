/- PriceOf of the reference. -/
import Derived.Test.YtkgjciacdjhhfaaDoorRows
import Derived.Test.YtkgjciacdjhhfaaDoorBase
import Derived.Test.YtkgjciacdjhhfaaDoorSpecPrice
namespace Go.Proofs.YtkgjciacdjhhfaaDoor
open Go.RowKit

set_option maxRecDepth 100000 in
set_option maxHeartbeats 1000000 in
theorem specPriceOf_any (b : Bond) (day y : Int) (w : World) :
    Calls Tryd.prog 18 #[.agg #[.int .i64 b.start, .int .i64 b.stop, .int .i64 b.months, .int .i64 b.rate], .int .i64 day, .int .i64 y] w fun e' w' => e' = .returned (.agg #[.int .i64 (priceF b day y).low, .int .i64 (priceF b day y).high]) ∧ w.grownBy w' none := by
  have hg00 : w.grownBy ((w.alloc (.cells #[.int .i64 b.start, .int .i64 b.stop, .int .i64 b.months, .int .i64 b.rate] 27)).alloc (.cells #[.int .i64 0, .int .i64 0] 25)) none := gr_alloc (gr_alloc (gr0 _) _) _
  have hz := heap_alloc_new (w.alloc (.cells #[.int .i64 b.start, .int .i64 b.stop, .int .i64 b.months, .int .i64 b.rate] 27)) (.cells #[.int .i64 0, .int .i64 0] 25)
  rw [World.size_alloc] at hz
  have Hz0 := hid hz
  have Hb0 := hid (blk_alloc (heap_alloc_new w (.cells #[.int .i64 b.start, .int .i64 b.stop, .int .i64 b.months, .int .i64 b.rate] 27)) (.cells #[.int .i64 0, .int .i64 0] 25))
  have HG := hid hg00
  have HR := hid (specrunning_any b day ((w.alloc (.cells #[.int .i64 b.start, .int .i64 b.stop, .int .i64 b.months, .int .i64 b.rate] 27)).alloc (.cells #[.int .i64 0, .int .i64 0] 25)))
  clear hg00 hz
  cases hr : runB b day with
  | false =>
    have hp : priceB b day y = false := by unfold priceB; rw [hr]; rfl
    rw [price_no hp]
    rw [hr] at HR
    clear hr hp
    go_enter Tryd.func18, Tryd.ntmps18
    go_wp2_with fail
    refine HR.out.mono ?_
    rintro e' w1 ⟨rfl, hg⟩
    have Hg1 := hid (gr_trans0 HG.out hg)
    have hz1 := blk_keep Hz0.out hg (by simp)
    (try clear z0 z1 k0 k1)
    have z0 := blk_cell hz1 0 _ rfl
    have z1 := blk_cell hz1 1 _ rfl
    have k0 := blk_frozen hz1 0
    have k1 := blk_frozen hz1 1
    clear hz1 hg
    go_wp2_with fail
    refine bodyPost_ret (v := .agg #[.int .i64 0, .int .i64 0]) (by simp [results, Tryd.results18, go_sem, *]) rfl ⟨rfl, gr_setCell (p := ⟨w.heap.size + 1, 1, none⟩) (gr_setCell (p := ⟨w.heap.size + 1, 0, none⟩) Hg1.out (.inr (Nat.le_succ _)) _) (.inr (Nat.le_succ _)) _⟩
  | true =>
    rw [hr] at HR
    cases hy : yieldB y with
    | false =>
      have hp : priceB b day y = false := by unfold priceB; rw [hy]; simp
      have HY := hid hy
      rw [price_no hp]
      clear hr hp hy
      go_enter Tryd.func18, Tryd.ntmps18
      go_wp2_with fail
      refine HR.out.mono ?_
      rintro e' w1 ⟨rfl, hg⟩
      have Hg1 := hid (gr_trans0 HG.out hg)
      have hz1 := blk_keep Hz0.out hg (by simp)
      (try clear z0 z1 k0 k1)
      have z0 := blk_cell hz1 0 _ rfl
      have z1 := blk_cell hz1 1 _ rfl
      have k0 := blk_frozen hz1 0
      have k1 := blk_frozen hz1 1
      clear hz1 hg
      go_wp2_with fail
      refine (specvalidYield_any _ _).mono ?_
      rintro e' w2 ⟨rfl, rfl⟩
      rw [HY.out]
      go_wp2_with fail
      refine bodyPost_ret (v := .agg #[.int .i64 0, .int .i64 0]) (by simp [results, Tryd.results18, go_sem, *]) rfl ⟨rfl, gr_setCell (p := ⟨w.heap.size + 1, 1, none⟩) (gr_setCell (p := ⟨w.heap.size + 1, 0, none⟩) Hg1.out (.inr (Nat.le_succ _)) _) (.inr (Nat.le_succ _)) _⟩
    | true =>
      obtain ⟨y0, y1⟩ := yield_facts hy
      have HY := hid hy
      have HP := hid (fun wx => specprice_any b day y wx (run_of hr) y0 y1)
      rw [price_in hr y0 y1]
      unfold priceR
      simp only
      generalize priceLo b day y = pl at *
      generalize priceHi b day y = ph at *
      clear hr hy
      go_enter Tryd.func18, Tryd.ntmps18
      go_wp2_with fail
      refine HR.out.mono ?_
      rintro e' w1 ⟨rfl, hg⟩
      have Hg1 := hid (gr_trans0 HG.out hg)
      have Hz1 := hid (blk_keep Hz0.out hg (by simp))
      have hb1 := blk_keep Hb0.out hg (by simp)
      have c0 := blk_cell hb1 0 _ rfl
      have c1 := blk_cell hb1 1 _ rfl
      have c2 := blk_cell hb1 2 _ rfl
      have c3 := blk_cell hb1 3 _ rfl
      clear hg hb1
      go_wp2_with fail
      refine (specvalidYield_any _ _).mono ?_
      rintro e' w2 ⟨rfl, rfl⟩
      rw [HY.out]
      go_wp2_with fail
      refine (HP.out _).mono ?_
      rintro e' w3 ⟨rfl, hg⟩
      have Hg3 := hid (gr_trans0 Hg1.out hg)
      have hz1 := blk_keep Hz1.out hg (by simp)
      (try clear z0 z1 k0 k1)
      have z0 := blk_cell hz1 0 _ rfl
      have z1 := blk_cell hz1 1 _ rfl
      have k0 := blk_frozen hz1 0
      have k1 := blk_frozen hz1 1
      clear hz1 hg c0 c1 c2 c3
      go_wp2_with fail
      exact bodyPost_ret (v := .agg #[.int .i64 pl, .int .i64 ph]) (by simp [results, Tryd.results18, go_sem, *]) rfl ⟨rfl, gr_setCell (p := ⟨w.heap.size + 1, 1, none⟩) (gr_setCell (p := ⟨w.heap.size + 1, 0, none⟩) Hg3.out (.inr (Nat.le_succ _)) _) (.inr (Nat.le_succ _)) _⟩

end Go.Proofs.YtkgjciacdjhhfaaDoor
