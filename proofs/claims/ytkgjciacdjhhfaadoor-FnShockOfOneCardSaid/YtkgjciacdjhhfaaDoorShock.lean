/- Shocks: ShockOf of the program. -/
import Derived.Test.YtkgjciacdjhhfaaDoorRows
import Derived.Test.YtkgjciacdjhhfaaDoorBase
import Derived.Test.YtkgjciacdjhhfaaDoorPriceWalk
namespace Go.Proofs.YtkgjciacdjhhfaaDoor
open Go.RowKit

theorem clamp_in {b : Bond} {day y s : Int} (h : runB b day = true) : (priceF b day (clampY (y + s))).high = priceHi b day (clampY (y + s)) := by
  rw [price_in h (clamp_bd _).1 (clamp_bd _).2]; rfl
theorem shock_no {b : Bond} {day y : Int} {ss : List Int} (h : shockB b day y ss = false) : shockF b day y ss = -1 := by
  unfold shockF; rw [h]; rfl

theorem rgField1 (ql qh : Int) (w : World) : (Instr.field 25 (.agg #[.int .i64 ql, .int .i64 qh]) 1).run Tryd.prog w = .ok (.int .i64 qh) w := by kernel_rfl

/-- What the closure has captured. -/
structure ShCap (w : World) (nb bb db yb : Nat) (b : Bond) (day y : Int) (pl ph : Int) : Prop where
  nw : w.heap[nb]? = some (.cells #[.int .i64 pl, .int .i64 ph] 25 (0, 0))
  bd : w.heap[bb]? = some (.cells #[.int .i64 b.start, .int .i64 b.stop, .int .i64 b.months, .int .i64 b.rate] 27 (0, 0))
  dy : w.heap[db]? = some (.cells #[.int .i64 day] 3 (0, 0))
  yl : w.heap[yb]? = some (.cells #[.int .i64 y] 3 (0, 0))
theorem ShCap.keep0 {w w' : World} {nb bb db yb : Nat} {b : Bond} {day y pl ph : Int} (h : ShCap w nb bb db yb b day y pl ph) (g : w.grownBy w' none) : ShCap w' nb bb db yb b day y pl ph :=
  ⟨blk_keep h.nw g (by simp), blk_keep h.bd g (by simp), blk_keep h.dy g (by simp), blk_keep h.yl g (by simp)⟩

set_option maxRecDepth 100000 in
set_option maxHeartbeats 1000000 in
theorem fall_any (nb bb db yb : Nat) (b : Bond) (day y pl s : Int) (w : World) (hmo : Months w) (hc : ShCap w nb bb db yb b day y pl (priceHi b day y)) (hr : runB b day = true) (y0 : 0 ≤ y) (y1 : y ≤ 100000) (s0 : -100000 ≤ s) (s1 : s ≤ 100000) :
    Calls Tryd.prog 45 #[.int .i64 s, .pointer (some ⟨nb, 0, none⟩), .pointer (some ⟨bb, 0, none⟩), .pointer (some ⟨db, 0, none⟩), .pointer (some ⟨yb, 0, none⟩)] w fun e' w' => e' = .returned (.int .i64 (fallF b day y s)) ∧ w.grownBy w' none := by
  have hfb := fall_bd (s := s) hr y0 y1
  have HF := hid (show fallF b day y s = priceHi b day y - priceHi b day (clampY (y + s)) from rfl)
  rw [HF.out] at hfb ⊢
  have HP := hid (fun wx hx => PriceOf_any b day (clampY (y + s)) wx hx)
  rw [clamp_in hr] at HP
  have hcl : clampY (y + s) = (if 100000 < (if y + s < 0 then 0 else y + s) then 100000 else (if y + s < 0 then 0 else y + s)) := by
    unfold clampY; split <;> split <;> omega
  generalize (priceF b day (clampY (y + s))).low = ql at *
  generalize priceHi b day (clampY (y + s)) = qh at *
  generalize priceHi b day y = ph at *
  have u1 : IntKind.i64.wrap (y + s) = y + s := IntWalk.i64_in _ (by omega)
  have U2 := hid (show IntKind.i64.wrap (ph - qh) = ph - qh from IntWalk.i64_in _ (by omega))
  obtain ⟨c1, hc1⟩ : ∃ c1, (if y + s < 0 then 0 else y + s) = c1 := ⟨_, rfl⟩
  rw [hc1] at hcl
  have hc1' : (if 0 > y + s then 0 else y + s) = c1 := hc1
  obtain ⟨c2, hc2⟩ : ∃ c2, (if 100000 < c1 then 100000 else c1) = c2 := ⟨_, rfl⟩
  rw [hc2] at hcl
  rw [hcl] at HP
  have Hmo := hid hmo
  have Hc := hid hc
  clear hmo hc hr hcl hfb
  go_enter Tryd.func45, Tryd.ntmps45
  go_wp2_with fail
  refine wp_region_held_drew (S := fun w' => ShCap w' nb bb db yb b day y pl ph ∧ w.grownBy w' none) (by kernel_rfl) ⟨Hc.out.keep0 (gr_drew (gr0 _)), gr_drew (gr0 _)⟩ (fun hHeld => ?_)
  refine wpAnyH_take (i := 0) (v := ?_) rfl (by kernel_rfl) (by kernel_rfl) (by kernel_rfl) (fun _ _ _ h => h) (Or.inl ⟨by rfl, ?_⟩) hHeld ?_
  rotate_left
  · intro w9 hSw
    (obtain ⟨sc, _⟩ := hSw; have a1 := blk_cell sc.nw 1 _ rfl; have b0 := blk_cell sc.bd 0 _ rfl; have b1 := blk_cell sc.bd 1 _ rfl; have b2 := blk_cell sc.bd 2 _ rfl; have b3 := blk_cell sc.bd 3 _ rfl; have d0 := blk_cell sc.dy 0 _ rfl; have y0 := blk_cell sc.yl 0 _ rfl; clear sc)
    go_simp
    all_goals (try with_reducible rfl)
  (try simp only [Act.put]); (try simp only [List.getElem_toArray]); (try simp only [List.getElem_cons_succ]); (try simp only [List.getElem_cons_zero]); (try simp only [List.setIfInBounds_toArray]); (try simp only [List.set_cons_succ]); (try simp only [List.set_cons_zero])
  refine wpAnyH_take (i := 1) (v := ?_) rfl (by kernel_rfl) (by kernel_rfl) (by kernel_rfl) (fun _ _ _ h => h) (Or.inl ⟨by rfl, ?_⟩) hHeld ?_
  rotate_left
  · intro w9 hSw
    (obtain ⟨sc, _⟩ := hSw; have a1 := blk_cell sc.nw 1 _ rfl; have b0 := blk_cell sc.bd 0 _ rfl; have b1 := blk_cell sc.bd 1 _ rfl; have b2 := blk_cell sc.bd 2 _ rfl; have b3 := blk_cell sc.bd 3 _ rfl; have d0 := blk_cell sc.dy 0 _ rfl; have y0 := blk_cell sc.yl 0 _ rfl; clear sc)
    go_simp
    all_goals (try with_reducible rfl)
  (try simp only [Act.put]); (try simp only [List.getElem_toArray]); (try simp only [List.getElem_cons_succ]); (try simp only [List.getElem_cons_zero]); (try simp only [List.setIfInBounds_toArray]); (try simp only [List.set_cons_succ]); (try simp only [List.set_cons_zero])
  refine wpAnyH_take (i := 2) (v := ?_) rfl (by kernel_rfl) (by kernel_rfl) (by kernel_rfl) (fun _ _ _ h => h) (Or.inl ⟨by rfl, ?_⟩) hHeld ?_
  rotate_left
  · intro w9 hSw
    (obtain ⟨sc, _⟩ := hSw; have a1 := blk_cell sc.nw 1 _ rfl; have b0 := blk_cell sc.bd 0 _ rfl; have b1 := blk_cell sc.bd 1 _ rfl; have b2 := blk_cell sc.bd 2 _ rfl; have b3 := blk_cell sc.bd 3 _ rfl; have d0 := blk_cell sc.dy 0 _ rfl; have y0 := blk_cell sc.yl 0 _ rfl; clear sc)
    go_simp
    all_goals (try with_reducible rfl)
  (try simp only [Act.put]); (try simp only [List.getElem_toArray]); (try simp only [List.getElem_cons_succ]); (try simp only [List.getElem_cons_zero]); (try simp only [List.setIfInBounds_toArray]); (try simp only [List.set_cons_succ]); (try simp only [List.set_cons_zero])
  refine wpAnyH_take (i := 3) (v := ?_) rfl (by kernel_rfl) (by kernel_rfl) (by kernel_rfl) (fun _ _ _ h => h) (Or.inl ⟨by rfl, ?_⟩) hHeld ?_
  rotate_left
  · intro w9 hSw
    (obtain ⟨sc, _⟩ := hSw; have a1 := blk_cell sc.nw 1 _ rfl; have b0 := blk_cell sc.bd 0 _ rfl; have b1 := blk_cell sc.bd 1 _ rfl; have b2 := blk_cell sc.bd 2 _ rfl; have b3 := blk_cell sc.bd 3 _ rfl; have d0 := blk_cell sc.dy 0 _ rfl; have y0 := blk_cell sc.yl 0 _ rfl; clear sc)
    go_simp
    all_goals (try with_reducible rfl)
  (try simp only [Act.put]); (try simp only [List.getElem_toArray]); (try simp only [List.getElem_cons_succ]); (try simp only [List.getElem_cons_zero]); (try simp only [List.setIfInBounds_toArray]); (try simp only [List.set_cons_succ]); (try simp only [List.set_cons_zero])
  refine wpAnyH_take (i := 4) (v := ?_) rfl (by kernel_rfl) (by kernel_rfl) (by kernel_rfl) (fun _ _ _ h => h) (Or.inl ⟨by rfl, ?_⟩) hHeld ?_
  rotate_left
  · intro w9 hSw
    (obtain ⟨sc, _⟩ := hSw; have a1 := blk_cell sc.nw 1 _ rfl; have b0 := blk_cell sc.bd 0 _ rfl; have b1 := blk_cell sc.bd 1 _ rfl; have b2 := blk_cell sc.bd 2 _ rfl; have b3 := blk_cell sc.bd 3 _ rfl; have d0 := blk_cell sc.dy 0 _ rfl; have y0 := blk_cell sc.yl 0 _ rfl; clear sc)
    go_simp
    all_goals (try with_reducible rfl)
  (try simp only [Act.put]); (try simp only [List.getElem_toArray]); (try simp only [List.getElem_cons_succ]); (try simp only [List.getElem_cons_zero]); (try simp only [List.setIfInBounds_toArray]); (try simp only [List.set_cons_succ]); (try simp only [List.set_cons_zero])
  refine wpAnyH_take (i := 5) (v := ?_) rfl (by kernel_rfl) (by kernel_rfl) (by kernel_rfl) (fun _ _ _ h => h) (Or.inl ⟨by rfl, ?_⟩) hHeld ?_
  rotate_left
  · intro w9 hSw
    (obtain ⟨sc, _⟩ := hSw; have a1 := blk_cell sc.nw 1 _ rfl; have b0 := blk_cell sc.bd 0 _ rfl; have b1 := blk_cell sc.bd 1 _ rfl; have b2 := blk_cell sc.bd 2 _ rfl; have b3 := blk_cell sc.bd 3 _ rfl; have d0 := blk_cell sc.dy 0 _ rfl; have y0 := blk_cell sc.yl 0 _ rfl; clear sc)
    go_simp
    all_goals (try with_reducible rfl)
  (try simp only [Act.put]); (try simp only [List.getElem_toArray]); (try simp only [List.getElem_cons_succ]); (try simp only [List.getElem_cons_zero]); (try simp only [List.setIfInBounds_toArray]); (try simp only [List.set_cons_succ]); (try simp only [List.set_cons_zero])
  refine wpAnyH_take (i := 6) (v := ?_) rfl (by kernel_rfl) (by kernel_rfl) (by kernel_rfl) (fun _ _ _ h => h) (Or.inl ⟨by rfl, ?_⟩) hHeld ?_
  rotate_left
  · intro w9 hSw
    clear hSw
    go_simp
    all_goals (try with_reducible rfl)
  (try simp only [Act.put]); (try simp only [List.getElem_toArray]); (try simp only [List.getElem_cons_succ]); (try simp only [List.getElem_cons_zero]); (try simp only [List.setIfInBounds_toArray]); (try simp only [List.set_cons_succ]); (try simp only [List.set_cons_zero])
  (try simp only [u1])
  refine wpAnyH_take (i := 7) (v := ?_) rfl (by kernel_rfl) (by kernel_rfl) (by kernel_rfl) (fun _ _ _ h => h) (Or.inl ⟨by rfl, ?_⟩) hHeld ?_
  rotate_left
  · intro w9 hSw
    clear hSw
    go_simp
    all_goals (try with_reducible rfl)
  (try simp only [Act.put]); (try simp only [List.getElem_toArray]); (try simp only [List.getElem_cons_succ]); (try simp only [List.getElem_cons_zero]); (try simp only [List.setIfInBounds_toArray]); (try simp only [List.set_cons_succ]); (try simp only [List.set_cons_zero])
  refine wpAnyH_take (i := 8) (v := ?_) rfl (by kernel_rfl) (by kernel_rfl) (by kernel_rfl) (fun _ _ _ h => h) (Or.inl ⟨by rfl, ?_⟩) hHeld ?_
  rotate_left
  · intro w9 hSw
    clear hSw
    go_simp
    all_goals (try with_reducible rfl)
  (try simp only [Act.put]); (try simp only [List.getElem_toArray]); (try simp only [List.getElem_cons_succ]); (try simp only [List.getElem_cons_zero]); (try simp only [List.setIfInBounds_toArray]); (try simp only [List.set_cons_succ]); (try simp only [List.set_cons_zero])
  refine wpAnyH_ready (rs := [9]) (by kernel_rfl) (by simp) ?_
  refine AllReadyH.cons rfl (fun K' hK' => ?_) AllReadyH.nil
  go_simp
  refine (HP.out _ (Hmo.out.keep0 (gr_drew (gr0 _)))).mono ?_
  rintro e' w2 ⟨rfl, hg⟩
  (try simp only [])
  refine hK'.out _ _ ⟨hHeld.1.keep0 hg, gr_trans0 hHeld.2 hg⟩ (fun hHeldN => ?_)
  clear hHeld hg
  have hHeld := hHeldN
  clear hK' K' hHeldN
  (try simp only [Act.put]); (try simp only [List.getElem_toArray]); (try simp only [List.getElem_cons_succ]); (try simp only [List.getElem_cons_zero]); (try simp only [List.setIfInBounds_toArray]); (try simp only [List.set_cons_succ]); (try simp only [List.set_cons_zero])
  have hfl := fun w => rgField1 ql qh w
  refine wpAnyH_take (i := 10) (v := ?_) rfl (by kernel_rfl) (by kernel_rfl) (by kernel_rfl) (fun _ _ _ h => h) (Or.inl ⟨by rfl, ?_⟩) hHeld ?_
  rotate_left
  · intro w9 hSw
    clear hSw
    go_simp
    all_goals (try with_reducible rfl)
  (try simp only [Act.put]); (try simp only [List.getElem_toArray]); (try simp only [List.getElem_cons_succ]); (try simp only [List.getElem_cons_zero]); (try simp only [List.setIfInBounds_toArray]); (try simp only [List.set_cons_succ]); (try simp only [List.set_cons_zero])
  clear hfl
  refine wpAnyH_take (i := 11) (v := ?_) rfl (by kernel_rfl) (by kernel_rfl) (by kernel_rfl) (fun _ _ _ h => h) (Or.inl ⟨by rfl, ?_⟩) hHeld ?_
  rotate_left
  · intro w9 hSw
    clear hSw
    go_simp
    all_goals (try with_reducible rfl)
  (try simp only [Act.put]); (try simp only [List.getElem_toArray]); (try simp only [List.getElem_cons_succ]); (try simp only [List.getElem_cons_zero]); (try simp only [List.setIfInBounds_toArray]); (try simp only [List.set_cons_succ]); (try simp only [List.set_cons_zero])
  have u2 := U2.out
  (try simp only [u2])
  refine wpAnyH_take (i := 12) (v := ?_) rfl (by kernel_rfl) (by kernel_rfl) (by kernel_rfl) (fun _ _ _ h => h) (Or.inl ⟨by rfl, ?_⟩) hHeld ?_
  rotate_left
  · intro w9 hSw
    clear hSw
    go_simp
    all_goals (try with_reducible rfl)
  (try simp only [Act.put]); (try simp only [List.getElem_toArray]); (try simp only [List.getElem_cons_succ]); (try simp only [List.getElem_cons_zero]); (try simp only [List.setIfInBounds_toArray]); (try simp only [List.set_cons_succ]); (try simp only [List.set_cons_zero])
  refine wpAnyH_done (by kernel_rfl) ?_ _
  have HgF := hid hHeld.2
  clear hHeld u2 u1
  go_wp2_with fail
  go_ret
  exact ⟨rfl, HgF.out⟩

set_option maxRecDepth 100000 in
set_option maxHeartbeats 2000000 in
theorem ShockOf_any (b : Bond) (day y : Int) (a : Option Addr) (n cap : Nat) (ss : List Int) (w : World) (hmo : Months w) (hs : Sl intL w a n ss) :
    Calls Tryd.prog 28 #[.agg #[.int .i64 b.start, .int .i64 b.stop, .int .i64 b.months, .int .i64 b.rate], .int .i64 day, .int .i64 y, .slice a n cap] w fun e' w' => e' = .returned (.int .i64 (shockF b day y ss)) ∧ w.grownBy w' none := by
  have hg00 : w.grownBy (((w.alloc (.cells #[.int .i64 b.start, .int .i64 b.stop, .int .i64 b.months, .int .i64 b.rate] 27)).alloc (.cells #[.int .i64 day] 3)).alloc (.cells #[.int .i64 y] 3)) none := gr_alloc (gr_alloc (gr_alloc (gr0 _) _) _) _
  have HG := hid hg00
  have hz := heap_alloc_new ((w.alloc (.cells #[.int .i64 b.start, .int .i64 b.stop, .int .i64 b.months, .int .i64 b.rate] 27)).alloc (.cells #[.int .i64 day] 3)) (.cells #[.int .i64 y] 3)
  rw [World.size_alloc, World.size_alloc] at hz
  have Hy0 := hid hz
  have hz := heap_alloc_new (w.alloc (.cells #[.int .i64 b.start, .int .i64 b.stop, .int .i64 b.months, .int .i64 b.rate] 27)) (.cells #[.int .i64 day] 3)
  rw [World.size_alloc] at hz
  have Hd0 := hid (blk_alloc hz (.cells #[.int .i64 y] 3))
  have Hb0 := hid (blk_alloc (blk_alloc (heap_alloc_new w (.cells #[.int .i64 b.start, .int .i64 b.stop, .int .i64 b.months, .int .i64 b.rate] 27)) (.cells #[.int .i64 day] 3)) (.cells #[.int .i64 y] 3))
  have Hm := hid hmo
  have hm0 := hmo.keep0 hg00
  have Hs := hid hs
  have Hl := hid hs.len
  have hbig := hs.big
  unfold maxLen at hbig
  clear hz hg00 hmo hs
  have HP := hid (fun wx hx => priceOf_any b day y wx hx)
  (try clear c0 c1 c2 c3 d0 y0)
  have c0 := blk_cell Hb0.out 0 _ rfl
  have c1 := blk_cell Hb0.out 1 _ rfl
  have c2 := blk_cell Hb0.out 2 _ rfl
  have c3 := blk_cell Hb0.out 3 _ rfl
  have d0 := blk_cell Hd0.out 0 _ rfl
  have e0 := blk_cell Hy0.out 0 _ rfl
  cases hp : priceB b day y with
  | false =>
    have hb : shockB b day y ss = false := by unfold priceB at hp; unfold shockB; rw [hp]; rfl
    rw [shock_no hb]
    rw [hp] at HP
    clear hb hp
    generalize (priceF b day y).low = pl at *
    generalize (priceF b day y).high = ph at *
    go_enter Tryd.func28, Tryd.ntmps28
    go_wp2_with fail
    refine (HP.out _ hm0).mono ?_
    rintro e' w1 ⟨rfl, hg⟩
    have HgA := hid (gr_trans0 HG.out hg)
    have Hg1 := hid (gr_alloc HgA.out (Obj.cells #[.int .i64 (pl), .int .i64 (ph)] 25))
    have Hc1 := hid (show ShCap (w1.alloc (Obj.cells #[.int .i64 (pl), .int .i64 (ph)] 25)) w1.heap.size w.heap.size (w.heap.size + 1) (w.heap.size + 1 + 1) b day y pl ph from ⟨heap_alloc_new _ _, blk_alloc (blk_keep Hb0.out hg (by simp)) _, blk_alloc (blk_keep Hd0.out hg (by simp)) _, blk_alloc (blk_keep Hy0.out hg (by simp)) _⟩)
    clear hg hm0 c0 c1 c2 c3 d0 e0 HP
    go_wp2_with fail
    go_ret
    exact ⟨rfl, Hg1.out⟩
  | true =>
    have hp2 := hp
    unfold priceB at hp2
    simp only [Bool.and_eq_true] at hp2
    obtain ⟨hr, hyB⟩ := hp2
    obtain ⟨y0, y1⟩ := yield_facts hyB
    rw [hp, price_in hr y0 y1] at HP
    unfold priceR at HP
    simp only at HP
    cases hw : withinB n 1 6 with
    | false =>
      have hb : shockB b day y ss = false := by
        unfold shockB
        rw [Hl.out, show (decide (1 ≤ n) && decide (n ≤ 6)) = false by
          unfold withinB at hw
          simp only [Bool.and_eq_false_iff, decide_eq_false_iff_not] at hw ⊢; omega]
        simp
      rw [shock_no hb]
      have Hw := hid hw
      clear hb hp hr hyB y0 y1 hw
      generalize priceLo b day y = pl at *
      generalize priceHi b day y = ph at *
      go_enter Tryd.func28, Tryd.ntmps28
      go_wp2_with fail
      refine (HP.out _ hm0).mono ?_
      rintro e' w1 ⟨rfl, hg⟩
      have HgA := hid (gr_trans0 HG.out hg)
      have Hg1 := hid (gr_alloc HgA.out (Obj.cells #[.int .i64 (pl), .int .i64 (ph)] 25))
      have Hc1 := hid (show ShCap (w1.alloc (Obj.cells #[.int .i64 (pl), .int .i64 (ph)] 25)) w1.heap.size w.heap.size (w.heap.size + 1) (w.heap.size + 1 + 1) b day y pl ph from ⟨heap_alloc_new _ _, blk_alloc (blk_keep Hb0.out hg (by simp)) _, blk_alloc (blk_keep Hd0.out hg (by simp)) _, blk_alloc (blk_keep Hy0.out hg (by simp)) _⟩)
      clear hg hm0 c0 c1 c2 c3 d0 e0 HP
      go_wp2_with fail
      refine (within_any _ _ _ _).mono ?_
      rintro e' w2 ⟨rfl, rfl⟩
      rw [Hw.out]
      go_wp2_with fail
      go_ret
      exact ⟨rfl, Hg1.out⟩
    | true =>
      have hw2 := hw
      unfold withinB at hw2
      simp only [Bool.and_eq_true, decide_eq_true_eq] at hw2
      have hn1 : 1 ≤ n := by omega
      have hn6 : n ≤ 6 := by omega
      have HB := hid (show ∀ s, shocksB ss = s → shockF b day y ss = if s = true then fallsF b day y ss else -1 by
        intro s hs
        unfold shockF shockB
        rw [hs, hr, hyB, Hl.out, show (decide (1 ≤ n) && decide (n ≤ 6)) = true by simp only [Bool.and_eq_true, decide_eq_true_eq]; omega]
        simp)
      have HFa := hid (fun (s pl : Int) (N : Nat) (wx : World) (hx : Months wx) (hc : ShCap wx N w.heap.size (w.heap.size + 1) (w.heap.size + 1 + 1) b day y pl (priceHi b day y)) (s0 : -100000 ≤ s) (s1 : s ≤ 100000) => fall_any N w.heap.size (w.heap.size + 1) (w.heap.size + 1 + 1) b day y pl s wx hx hc hr y0 y1 s0 s1)
      have HFb := hid (fun xs => falls_bd hr y0 y1 xs)
      have Hfb := hid (fun s => fall_bd (s := s) hr y0 y1)
      have Hw := hid hw
      clear hp hr hyB y0 y1 hw hw2
      generalize priceLo b day y = pl at *
      obtain ⟨ph, hph⟩ : ∃ ph, priceHi b day y = ph := ⟨_, rfl⟩
      rw [hph] at HP HFa
      clear hph
      go_enter Tryd.func28, Tryd.ntmps28
      go_wp2_with fail
      refine (HP.out _ hm0).mono ?_
      rintro e' w1 ⟨rfl, hg⟩
      have HgA := hid (gr_trans0 HG.out hg)
      have Hg1 := hid (gr_alloc HgA.out (Obj.cells #[.int .i64 (pl), .int .i64 (ph)] 25))
      have Hc1 := hid (show ShCap (w1.alloc (Obj.cells #[.int .i64 (pl), .int .i64 (ph)] 25)) w1.heap.size w.heap.size (w.heap.size + 1) (w.heap.size + 1 + 1) b day y pl ph from ⟨heap_alloc_new _ _, blk_alloc (blk_keep Hb0.out hg (by simp)) _, blk_alloc (blk_keep Hd0.out hg (by simp)) _, blk_alloc (blk_keep Hy0.out hg (by simp)) _⟩)
      clear hg hm0 c0 c1 c2 c3 d0 e0 HP
      go_wp2_with fail
      refine (within_any _ _ _ _).mono ?_
      rintro e' w2 ⟨rfl, rfl⟩
      rw [Hw.out]
      obtain ⟨N, hN⟩ : ∃ N, w1.heap.size = N := ⟨_, rfl⟩
      rw [hN] at Hc1 ⊢
      have Hs1 := hid (Hs.out.keep0 Hg1.out)
      clear hN
      generalize (w1.alloc (Obj.cells #[.int .i64 (pl), .int .i64 (ph)] 25)) = V at *
      go_wp2_with fail
      go_loopw [12, 33] (fun q i wr => ∃ k : Nat, k ≤ n ∧ i = .int .i64 k ∧ q = .int .i64 (fallsF b day y (ss.take k)) ∧ Hid (shocksB (ss.take k) = true) ∧ V.grownBy wr none) (fun _ i _ => n - (intOf i).toNat)
      case atStart => exact ⟨0, by omega, rfl, rfl, hid rfl, gr0 _⟩
      case round =>
        obtain ⟨k, hk, rfl, rfl, Hin, hgr⟩ := hrel
        have Hgr := hid hgr
        clear hgr
        by_cases hlt : k < n
        · obtain ⟨sb, so, s, rfl, hx, l0⟩ := int_at (Hs1.out.keep0 Hgr.out) k hlt
          have Hx := hid hx
          have hi0 : (0 : Int) ≤ k := by omega
          have hi1 : (k : Int) < n := by omega
          clear hx
          cases hws : withinB s (-100000) 100000 with
          | false =>
            have Hfin := hid (HB.out false (by unfold shocksB; exact all_false _ _ (k + 1) (by rw [take_all _ _ _ _ Hx.out]; have := Hin.out; unfold shocksB at this; rw [this, Bool.true_and]; exact hws)))
            have Hws := hid hws
            clear hws
            generalize fallsF b day y (ss.take k) = q at *
            go_wp2_with fail
            refine (within_any _ _ _ _).mono ?_
            rintro e' w3 ⟨rfl, rfl⟩
            rw [Hws.out]
            go_wp2_with fail
            go_ret
            exact ⟨ret_int (by rw [Hfin.out]; rfl), gr_trans0 Hg1.out Hgr.out⟩
          | true =>
            have hws2 := hws
            unfold withinB at hws2
            simp only [Bool.and_eq_true, decide_eq_true_eq] at hws2
            obtain ⟨s0, s1⟩ := hws2
            have Hin2 : Hid (shocksB (ss.take (k + 1)) = true) := hid (by unfold shocksB; rw [take_all _ _ _ _ Hx.out]; have := Hin.out; unfold shocksB at this; rw [this, Bool.true_and]; exact hws)
            have Hsn : Hid (fallsF b day y (ss.take (k + 1)) = max (fallsF b day y (ss.take k)) (fallF b day y s)) := hid (by rw [take_snoc _ _ _ Hx.out, falls_snoc])
            have HC := hid (HFa.out s pl N wr (Hm.out.keep0 (gr_trans0 Hg1.out Hgr.out)) (Hc1.out.keep0 Hgr.out) s0 s1)
            have hb1 := HFb.out (ss.take k)
            have hb2 := Hfb.out s
            have Hws := hid hws
            clear hws
            generalize fallsF b day y (ss.take k) = q at *
            generalize fallF b day y s = f at *
            obtain ⟨m, hm⟩ : ∃ m, max q f = m := ⟨_, rfl⟩
            have Hmq := hid hm
            have hmm : (if q < f then f else q) = m := by rw [← hm]; split <;> omega
            clear hm
            go_wp2_with fail
            refine (within_any _ _ _ _).mono ?_
            rintro e' w3 ⟨rfl, rfl⟩
            rw [Hws.out]
            go_wp2_with fail
            refine HC.out.mono ?_
            rintro e' w3 ⟨rfl, hg⟩
            have Hg3 := hid (gr_trans0 Hgr.out hg)
            clear hg l0
            go_wp2_with fail
            go_roundw
            case rel => exact ⟨k + 1, by omega, by go_num, by rw [Hsn.out, Hmq.out], Hin2, Hg3.out⟩
            case measure => simp [intOf]; omega
        · obtain rfl : k = n := by omega
          have hin := Hin.out
          rw [take_len _ _ Hl.out] at hin ⊢
          have Hfin := hid (HB.out true hin)
          clear hin
          generalize fallsF b day y ss = q at *
          go_wp2_with fail
          go_ret
          exact ⟨ret_int (by rw [Hfin.out]; rfl), gr_trans0 Hg1.out Hgr.out⟩

end Go.Proofs.YtkgjciacdjhhfaaDoor
