/- Risks: apart and RiskOf of the program. -/
import Derived.Test.YtkgjciacdjhhfaaDoorRows
import Derived.Test.YtkgjciacdjhhfaaDoorBase
import Derived.Test.YtkgjciacdjhhfaaDoorPriceWalk
namespace Go.Proofs.YtkgjciacdjhhfaaDoor
open Go.RowKit

theorem apart_any (al ah bl bh : Int) (w : World) (a0 : -1000000000 ≤ al ∧ al ≤ 1000000000) (a1 : -1000000000 ≤ ah ∧ ah ≤ 1000000000) (b0 : -1000000000 ≤ bl ∧ bl ≤ 1000000000) (b1 : -1000000000 ≤ bh ∧ bh ≤ 1000000000) :
    Calls Tryd.prog 42 #[.agg #[.int .i64 al, .int .i64 ah], .agg #[.int .i64 bl, .int .i64 bh]] w fun e w' => e = .returned (.agg #[.int .i64 (al - bh), .int .i64 (ah - bl)]) ∧ w.grownBy w' none := by
  have v1 : IntKind.i64.wrap (al - bh) = al - bh := IntWalk.i64_in _ (by omega)
  have v2 : IntKind.i64.wrap (ah - bl) = ah - bl := IntWalk.i64_in _ (by omega)
  go_enter Tryd.func42, Tryd.ntmps42
  go_wp2_with fail
  exact bodyPost_ret (v := .agg #[.int .i64 (al - bh), .int .i64 (ah - bl)]) (by simp [results, Tryd.results42, go_sem]) rfl ⟨rfl, by repeat (first | exact gr_refl _ _ | apply gr_drewN | apply gr_alloc | refine gr_setCell ?_ (.inr (by simp <;> omega)) _)⟩

theorem risk_cases {b : Bond} {day y : Int} (hy0 : -9223372036854775808 ≤ y) (hy1 : y ≤ 9223372036854775807) (h : riskB b day y = false) (h1 : priceB b day y = true) : priceB b day (IntKind.i64.wrap (y + 2500)) = false := by
  unfold priceB at *
  simp only [Bool.and_eq_true] at h1
  obtain ⟨y0, y1⟩ := yield_facts h1.2
  unfold riskB at h
  rw [h1.1] at h
  simp only [Bool.true_and, Bool.and_eq_false_iff, decide_eq_false_iff_not] at h
  rw [IntWalk.i64_in _ (by omega), h1.1]
  unfold yieldB
  simp only [Bool.true_and, Bool.and_eq_false_iff, decide_eq_false_iff_not]
  omega
theorem risk_both {b : Bond} {day y : Int} (h : riskB b day y = true) : priceB b day y = true ∧ priceB b day (y + 2500) = true := by
  obtain ⟨h1, h2, h3⟩ := risk_facts h
  unfold priceB yieldB
  rw [h1]
  simp only [Bool.true_and, Bool.and_eq_true, decide_eq_true_eq]
  omega
theorem risk_is {b : Bond} {day y : Int} (h : riskB b day y = true) : riskF b day y = ⟨(priceF b day y).low - (priceF b day (y + 2500)).high, (priceF b day y).high - (priceF b day (y + 2500)).low⟩ := by
  obtain ⟨h1, h2, h3⟩ := risk_facts h
  unfold riskF
  rw [if_pos h, price_in h1 h2 (by omega), price_in h1 (by omega) (by omega)]; rfl
theorem price_bds {b : Bond} {day y : Int} (h : priceB b day y = true) : (-1000000000 ≤ (priceF b day y).low ∧ (priceF b day y).low ≤ 1000000000) ∧ (-1000000000 ≤ (priceF b day y).high ∧ (priceF b day y).high ≤ 1000000000) := by
  unfold priceB at h
  simp only [Bool.and_eq_true] at h
  obtain ⟨y0, y1⟩ := yield_facts h.2
  have h1 := (run_of h.1).price_bd y0 y1
  have h2 := (run_of h.1).price_le y0 y1
  rw [price_in h.1 y0 y1]
  unfold priceR
  simp only
  omega

/- the two calls of priceOf: the first in w1, the second in w2 -/
set_option maxRecDepth 100000 in
set_option maxHeartbeats 1000000 in
theorem RiskOf_any (b : Bond) (day y : Int) (w : World) (hmo : Months w) (hy0 : -9223372036854775808 ≤ y) (hy1 : y ≤ 9223372036854775807) :
    Calls Tryd.prog 23 #[.agg #[.int .i64 b.start, .int .i64 b.stop, .int .i64 b.months, .int .i64 b.rate], .int .i64 day, .int .i64 y] w fun e' w' => e' = .returned (.agg #[.int .i64 (riskF b day y).low, .int .i64 (riskF b day y).high]) ∧ w.grownBy w' none := by
  have hg00 : w.grownBy ((w.alloc (.cells #[.int .i64 b.start, .int .i64 b.stop, .int .i64 b.months, .int .i64 b.rate] 27)).alloc (.cells #[.int .i64 0, .int .i64 0] 25)) none := gr_alloc (gr_alloc (gr0 _) _) _
  have hz := heap_alloc_new (w.alloc (.cells #[.int .i64 b.start, .int .i64 b.stop, .int .i64 b.months, .int .i64 b.rate] 27)) (.cells #[.int .i64 0, .int .i64 0] 25)
  rw [World.size_alloc] at hz
  have Hz0 := hid hz
  have Hb0 := hid (blk_alloc (heap_alloc_new w (.cells #[.int .i64 b.start, .int .i64 b.stop, .int .i64 b.months, .int .i64 b.rate] 27)) (.cells #[.int .i64 0, .int .i64 0] 25))
  have HG := hid hg00
  clear hg00 hz
  have Hm := hid hmo
  have hm0 := hmo.keep0 HG.out
  clear hmo
  have H1 := hid (fun wx hx => priceOf_any b day y wx hx)
  have H2 := hid (fun wx hx => priceOf_any b day (IntKind.i64.wrap (y + 2500)) wx hx)
  cases hr : riskB b day y with
  | true =>
    obtain ⟨r1, r2, r3⟩ := risk_facts hr
    obtain ⟨p1, p2⟩ := risk_both hr
    have bd1 := price_bds p1
    have bd2 := price_bds p2
    rw [risk_is hr]
    rw [IntWalk.i64_in (y + 2500) (by omega), p2] at H2
    rw [p1] at H1
    have hz : IntKind.i64.wrap (y + 2500) = y + 2500 := IntWalk.i64_in (y + 2500) (by omega)
    clear hr r1 p1 p2
    obtain ⟨pr, hpr⟩ : ∃ pr, priceF b day y = pr := ⟨_, rfl⟩
    obtain ⟨qr, hqr⟩ : ∃ qr, priceF b day (y + 2500) = qr := ⟨_, rfl⟩
    rw [hpr] at H1 bd1 ⊢
    rw [hqr] at H2 bd2 ⊢
    clear hpr hqr
    obtain ⟨pl, ph⟩ := pr
    obtain ⟨ql, qh⟩ := qr
    simp only at H1 H2 bd1 bd2 ⊢
    have HA := hid (fun wx => apart_any pl ph ql qh wx bd1.1 bd1.2 bd2.1 bd2.2)
    clear bd1 bd2
    go_enter Tryd.func23, Tryd.ntmps23
    go_wp2_with fail
    refine (H1.out _ hm0).mono ?_
    rintro e' w1 ⟨rfl, hg⟩
    have HgA := hid (gr_trans0 HG.out hg)
    have Hg1 := hid (gr_alloc HgA.out (Obj.cells #[.int .i64 (pl), .int .i64 (ph)] 25))
    have Hz1 := hid (blk_alloc (blk_keep Hz0.out hg (by simp)) (Obj.cells #[.int .i64 (pl), .int .i64 (ph)] 25))
    have Hb1 := hid (blk_alloc (blk_keep Hb0.out hg (by simp)) (Obj.cells #[.int .i64 (pl), .int .i64 (ph)] 25))
    have Hd1 := hid (heap_alloc_new w1 (Obj.cells #[.int .i64 (pl), .int .i64 (ph)] 25))
    have hl1 := blk_lt (blk_keep Hz0.out hg (by simp))
    (try clear c0 c1 c2 c3)
    have c0 := blk_cell Hb1.out 0 _ rfl
    have c1 := blk_cell Hb1.out 1 _ rfl
    have c2 := blk_cell Hb1.out 2 _ rfl
    have c3 := blk_cell Hb1.out 3 _ rfl
    clear hg hm0
    go_wp2_with fail
    refine (H2.out _ (Hm.out.keep0 Hg1.out)).mono ?_
    rintro e' w2 ⟨rfl, hg⟩
    have hD1 := blk_keep Hd1.out hg (by simp)
    have hl2 := blk_lt hD1
    have Hg2 := hid (gr_alloc (gr_trans0 Hg1.out hg) (Obj.cells #[.int .i64 (ql), .int .i64 (qh)] 25))
    have Hz2 := hid (blk_alloc (blk_keep Hz1.out hg (by simp)) (Obj.cells #[.int .i64 (ql), .int .i64 (qh)] 25))
    have Hd2 := hid (blk_alloc hD1 (Obj.cells #[.int .i64 (ql), .int .i64 (qh)] 25))
    have He2 := hid (heap_alloc_new w2 (Obj.cells #[.int .i64 (ql), .int .i64 (qh)] 25))
    have n1 : ¬ w.heap.size + 1 = w1.heap.size := by omega
    have n2 : ¬ w.heap.size + 1 = w2.heap.size := by omega
    have n3 : ¬ w1.heap.size = w2.heap.size := by omega
    clear hD1 hg c0 c1 c2 c3 hz
    have d0 := blk_cell Hd2.out 0 _ rfl
    have d1 := blk_cell Hd2.out 1 _ rfl
    go_wp2_with fail
    refine (HA.out _).mono ?_
    rintro e' w3 ⟨rfl, hg⟩
    have Hg3 := hid (gr_trans0 Hg2.out hg)
    have Hz3 := hid (blk_keep Hz2.out hg (by simp))
    clear hg d0 d1
    have hzz := Hz3.out
    (try clear z0 z1 k0 k1)
    have z0 := blk_cell hzz 0 _ rfl
    have z1 := blk_cell hzz 1 _ rfl
    have k0 := blk_frozen hzz 0
    have k1 := blk_frozen hzz 1
    clear hzz
    go_wp2_with fail
    refine bodyPost_ret (v := .agg #[.int .i64 (pl - qh), .int .i64 (ph - ql)]) (by simp [results, Tryd.results23, go_sem, *]) rfl ⟨rfl, ?_⟩
    exact gr_setCell (p := ⟨w.heap.size + 1, 1, none⟩) (gr_setCell (p := ⟨w.heap.size + 1, 0, none⟩) Hg3.out (.inr (Nat.le_succ _)) _) (.inr (Nat.le_succ _)) _
  | false =>
    rw [risk_no hr]
    simp only
    cases p1 : priceB b day y with
    | false =>
      rw [p1] at H1
      obtain ⟨z, hz⟩ : ∃ z, IntKind.i64.wrap (y + 2500) = z := ⟨_, rfl⟩
      rw [hz] at H2
      clear hr p1
      generalize priceB b day z = ok2 at *
      generalize (priceF b day y).low = pl at *
      generalize (priceF b day y).high = ph at *
      generalize (priceF b day z).low = ql at *
      generalize (priceF b day z).high = qh at *
      go_enter Tryd.func23, Tryd.ntmps23
      go_wp2_with fail
      refine (H1.out _ hm0).mono ?_
      rintro e' w1 ⟨rfl, hg⟩
      have HgA := hid (gr_trans0 HG.out hg)
      have Hg1 := hid (gr_alloc HgA.out (Obj.cells #[.int .i64 (pl), .int .i64 (ph)] 25))
      have Hz1 := hid (blk_alloc (blk_keep Hz0.out hg (by simp)) (Obj.cells #[.int .i64 (pl), .int .i64 (ph)] 25))
      have Hb1 := hid (blk_alloc (blk_keep Hb0.out hg (by simp)) (Obj.cells #[.int .i64 (pl), .int .i64 (ph)] 25))
      have Hd1 := hid (heap_alloc_new w1 (Obj.cells #[.int .i64 (pl), .int .i64 (ph)] 25))
      have hl1 := blk_lt (blk_keep Hz0.out hg (by simp))
      (try clear c0 c1 c2 c3)
      have c0 := blk_cell Hb1.out 0 _ rfl
      have c1 := blk_cell Hb1.out 1 _ rfl
      have c2 := blk_cell Hb1.out 2 _ rfl
      have c3 := blk_cell Hb1.out 3 _ rfl
      clear hg hm0
      go_wp2_with fail
      refine (H2.out _ (Hm.out.keep0 Hg1.out)).mono ?_
      rintro e' w2 ⟨rfl, hg⟩
      have hD1 := blk_keep Hd1.out hg (by simp)
      have hl2 := blk_lt hD1
      have Hg2 := hid (gr_alloc (gr_trans0 Hg1.out hg) (Obj.cells #[.int .i64 (ql), .int .i64 (qh)] 25))
      have Hz2 := hid (blk_alloc (blk_keep Hz1.out hg (by simp)) (Obj.cells #[.int .i64 (ql), .int .i64 (qh)] 25))
      have Hd2 := hid (blk_alloc hD1 (Obj.cells #[.int .i64 (ql), .int .i64 (qh)] 25))
      have He2 := hid (heap_alloc_new w2 (Obj.cells #[.int .i64 (ql), .int .i64 (qh)] 25))
      have n1 : ¬ w.heap.size + 1 = w1.heap.size := by omega
      have n2 : ¬ w.heap.size + 1 = w2.heap.size := by omega
      have n3 : ¬ w1.heap.size = w2.heap.size := by omega
      clear hD1 hg c0 c1 c2 c3 hz
      have hzz := Hz2.out
      (try clear z0 z1 k0 k1)
      have z0 := blk_cell hzz 0 _ rfl
      have z1 := blk_cell hzz 1 _ rfl
      have k0 := blk_frozen hzz 0
      have k1 := blk_frozen hzz 1
      clear hzz
      go_wp2_with fail
      refine bodyPost_ret (v := .agg #[.int .i64 0, .int .i64 0]) (by simp [results, Tryd.results23, go_sem, *]) rfl ⟨rfl, ?_⟩
      exact gr_setCell (p := ⟨w.heap.size + 1, 1, none⟩) (gr_setCell (p := ⟨w.heap.size + 1, 0, none⟩) Hg2.out (.inr (Nat.le_succ _)) _) (.inr (Nat.le_succ _)) _
    | true =>
      rw [risk_cases hy0 hy1 hr p1] at H2
      rw [p1] at H1
      obtain ⟨z, hz⟩ : ∃ z, IntKind.i64.wrap (y + 2500) = z := ⟨_, rfl⟩
      rw [hz] at H2
      clear hr p1
      generalize (priceF b day y).low = pl at *
      generalize (priceF b day y).high = ph at *
      generalize (priceF b day z).low = ql at *
      generalize (priceF b day z).high = qh at *
      go_enter Tryd.func23, Tryd.ntmps23
      go_wp2_with fail
      refine (H1.out _ hm0).mono ?_
      rintro e' w1 ⟨rfl, hg⟩
      have HgA := hid (gr_trans0 HG.out hg)
      have Hg1 := hid (gr_alloc HgA.out (Obj.cells #[.int .i64 (pl), .int .i64 (ph)] 25))
      have Hz1 := hid (blk_alloc (blk_keep Hz0.out hg (by simp)) (Obj.cells #[.int .i64 (pl), .int .i64 (ph)] 25))
      have Hb1 := hid (blk_alloc (blk_keep Hb0.out hg (by simp)) (Obj.cells #[.int .i64 (pl), .int .i64 (ph)] 25))
      have Hd1 := hid (heap_alloc_new w1 (Obj.cells #[.int .i64 (pl), .int .i64 (ph)] 25))
      have hl1 := blk_lt (blk_keep Hz0.out hg (by simp))
      (try clear c0 c1 c2 c3)
      have c0 := blk_cell Hb1.out 0 _ rfl
      have c1 := blk_cell Hb1.out 1 _ rfl
      have c2 := blk_cell Hb1.out 2 _ rfl
      have c3 := blk_cell Hb1.out 3 _ rfl
      clear hg hm0
      go_wp2_with fail
      refine (H2.out _ (Hm.out.keep0 Hg1.out)).mono ?_
      rintro e' w2 ⟨rfl, hg⟩
      have hD1 := blk_keep Hd1.out hg (by simp)
      have hl2 := blk_lt hD1
      have Hg2 := hid (gr_alloc (gr_trans0 Hg1.out hg) (Obj.cells #[.int .i64 (ql), .int .i64 (qh)] 25))
      have Hz2 := hid (blk_alloc (blk_keep Hz1.out hg (by simp)) (Obj.cells #[.int .i64 (ql), .int .i64 (qh)] 25))
      have Hd2 := hid (blk_alloc hD1 (Obj.cells #[.int .i64 (ql), .int .i64 (qh)] 25))
      have He2 := hid (heap_alloc_new w2 (Obj.cells #[.int .i64 (ql), .int .i64 (qh)] 25))
      have n1 : ¬ w.heap.size + 1 = w1.heap.size := by omega
      have n2 : ¬ w.heap.size + 1 = w2.heap.size := by omega
      have n3 : ¬ w1.heap.size = w2.heap.size := by omega
      clear hD1 hg c0 c1 c2 c3 hz
      have hzz := Hz2.out
      (try clear z0 z1 k0 k1)
      have z0 := blk_cell hzz 0 _ rfl
      have z1 := blk_cell hzz 1 _ rfl
      have k0 := blk_frozen hzz 0
      have k1 := blk_frozen hzz 1
      clear hzz
      go_wp2_with fail
      refine bodyPost_ret (v := .agg #[.int .i64 0, .int .i64 0]) (by simp [results, Tryd.results23, go_sem, *]) rfl ⟨rfl, ?_⟩
      exact gr_setCell (p := ⟨w.heap.size + 1, 1, none⟩) (gr_setCell (p := ⟨w.heap.size + 1, 0, none⟩) Hg2.out (.inr (Nat.le_succ _)) _) (.inr (Nat.le_succ _)) _

end Go.Proofs.YtkgjciacdjhhfaaDoor
