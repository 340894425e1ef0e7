/- For every input, FnPriceOf returns true: prices fall with the yield. No condition. -/
import Derived.Test.YtkgjciacdjhhfaaDoorRows
import Derived.Test.YtkgjciacdjhhfaaDoorCards
import Derived.Test.YtkgjciacdjhhfaaDoorTie
import Derived.Test.YtkgjciacdjhhfaaDoorSpecPriceOf
import Derived.Test.YtkgjciacdjhhfaaDoorPriceHead
import Derived.Test.YtkgjciacdjhhfaaDoorDrawYield
import Derived.Test.YtkgjciacdjhhfaaDoorFlowAfter
import Derived.Test.YtkgjciacdjhhfaaDoorFrame
import Derived.Test.YtkgjciacdjhhfaaDoorFrameL
import Derived.ProofKit
namespace Go.Proofs.YtkgjciacdjhhfaaDoor
open Go.ChangeShapes Go.WideShapes Go.ChangeAt Go.RowKit
namespace FnPriceOf

theorem sumA_snoc (xs : List Flow) (x : Flow) : sumA (xs ++ [x]) = sumA xs + x.amount := by
  induction xs with
  | nil => simp [sumA]
  | cons z zs ih => simp only [List.cons_append, sumA, ih]; omega
theorem sumA_take (xs : List Flow) (h : ∀ x ∈ xs, 0 ≤ x.amount ∧ x.amount ≤ 13000) (k : Nat) (hk : k ≤ xs.length) : 0 ≤ sumA (xs.take k) ∧ sumA (xs.take k) ≤ 13000 * k := by
  induction k with
  | zero => simp [sumA]
  | succ k ih =>
    have hx : xs[k]? = some (xs[k]'(by omega)) := by simp [show k < xs.length by omega]
    obtain ⟨i0, i1⟩ := ih (by omega)
    have h1 := h _ (List.mem_of_getElem? hx)
    rw [take_snoc _ _ _ hx, sumA_snoc]
    omega
theorem fall_law {b : Bond} {day y : Int} (h : (priceF b day y).high ≠ 0) : (priceF b day y).low ≤ (priceF b day y).high ∧ (priceF b day (min (y + 500) 100000)).low ≤ (priceF b day y).low ∧ (priceF b day (min (y + 500) 100000)).high ≤ (priceF b day y).high ∧ (priceF b day 0).low = sumA (afterF b day) ∧ (priceF b day 0).high = sumA (afterF b day) ∧ (afterF b day).length ≤ 40 ∧ ∀ x ∈ afterF b day, 0 ≤ x.amount ∧ x.amount ≤ 13000 := by
  obtain ⟨h1, h2, h3⟩ := price_high h
  have R := run_of h1
  have m := R.price_mono (y := y) (z := min (y + 500) 100000) h2 (by omega) (by omega)
  have z := R.price_zero
  have t := R.tail_len
  rw [(price_pair h1 h2 h3).1, (price_pair h1 h2 h3).2, (price_pair h1 (show 0 ≤ min (y + 500) 100000 by omega) (by omega)).1, (price_pair h1 (show 0 ≤ min (y + 500) 100000 by omega) (by omega)).2, (price_pair h1 (show (0 : Int) ≤ 0 by omega) (by omega)).1, (price_pair h1 (show (0 : Int) ≤ 0 by omega) (by omega)).2, R.after]
  exact ⟨R.price_le h2 h3, m.1, m.2, z.1, z.2, t.2, fun x hx => R.tail_amount x hx⟩

set_option maxRecDepth 100000 in
set_option maxHeartbeats 2000000 in
theorem walk (a : Option Addr) (n cap : Nat) (xs : List Int) (w : World) (hm : Months w) (hs : Sl u8L w a n xs) (hcap : n ≤ cap) (hx : ∀ x ∈ xs, 0 ≤ x ∧ x ≤ 255) :
    Calls Tryd.prog 12 #[.slice a n cap] w fun e w' => e = .returned (.bool true) ∧ w.grownBy w' none := by
  have Hx := hid hx
  have Hs := hid hs
  have Hm := hid hm
  have hbig := hs.big
  unfold maxLen at hbig
  clear hx hs hm
  by_cases hn : 1048576 < n
  · go_enter Tryd.func12, Tryd.ntmps12
    go_wp2_with fail
    go_ret
    exact ⟨rfl, gr_refl _ _⟩
  clear hbig
  go_enter Tryd.func12, Tryd.ntmps12
  go_wp2_with fail
  refine (DrawPriceOf_any a n cap xs w Hs.out hcap Hx.out).mono ?_
  rintro e w1 ⟨b, day, y, rfl, hB, ⟨⟨hd0, hd1⟩, hy0, hy1⟩, hg⟩
  have Hb1 := hid (heap_alloc_new w1 (Obj.cells #[.int .i64 b.start, .int .i64 b.stop, .int .i64 b.months, .int .i64 b.rate] 27))
  have Hg1 := hid (gr_alloc hg (Obj.cells #[.int .i64 b.start, .int .i64 b.stop, .int .i64 b.months, .int .i64 b.rate] 27))
  have hBs0 := hB.s0; have hBs1 := hB.s1; have hBe0 := hB.e0; have hBe1 := hB.e1
  have hBm0 := hB.m0; have hBm1 := hB.m1; have hBr0 := hB.r0; have hBr1 := hB.r1
  clear hg
  have HI := hid (fun wx (h : Months wx) => PriceOf_any b day y wx h)
  have HSp := hid (fun wx => specPriceOf_any b day y wx)
  have HN := hid (fall_law (b := b) (day := day) (y := y))
  obtain ⟨z, hzy⟩ : ∃ z, min (y + 500) 100000 = z := ⟨_, rfl⟩
  rw [hzy] at HN
  have hmin : (if 100000 < y + 500 then 100000 else y + 500) = z := by rw [← hzy]; split <;> omega
  have hmin2 : (if y + 500 < 100000 then y + 500 else 100000) = z := by rw [← hzy]; split <;> omega
  have Hmin := hid hmin
  have Hmin2 := hid hmin2
  clear hzy hmin hmin2
  have HQ := hid (fun wx (h : Months wx) => PriceOf_any b day z wx h)
  have HZ := hid (fun wx (h : Months wx) => PriceOf_any b day 0 wx h)
  have HF := hid (fun wx (h : Months wx) => FlowsAfter_any b day wx h)
  generalize (priceF b day y).low = pl at *
  generalize (priceF b day y).high = ph at *
  generalize (priceF b day z).low = ql at *
  generalize (priceF b day z).high = qh at *
  generalize (priceF b day 0).low = zl at *
  generalize (priceF b day 0).high = zh at *
  (try clear c0 c1 c2 c3)
  have c0 := blk_cell Hb1.out 0 _ rfl
  have c1 := blk_cell Hb1.out 1 _ rfl
  have c2 := blk_cell Hb1.out 2 _ rfl
  have c3 := blk_cell Hb1.out 3 _ rfl
  go_wp2_with fail
  refine (HI.out _ (Hm.out.keep0 Hg1.out)).mono ?_
  rintro e' w2 ⟨rfl, hg⟩
  have hb2 := blk_keep Hb1.out hg (by simp)
  have hBD := blk_lt hb2
  have He0 := hid (heap_alloc_new w2 (Obj.cells #[.int .i64 pl, .int .i64 ph] 25))
  have Hb0 := hid (blk_alloc hb2 (Obj.cells #[.int .i64 pl, .int .i64 ph] 25))
  have Hg0 := hid (gr_alloc (gr_trans0 Hg1.out hg) (Obj.cells #[.int .i64 pl, .int .i64 ph] 25))
  clear hg hb2 c0 c1 c2 c3
  go_wp2_with fail
  obtain ⟨D, hD⟩ : ∃ D, D = w2.heap.size := ⟨_, rfl⟩
  obtain ⟨B, hB⟩ : ∃ B, B = w1.heap.size := ⟨_, rfl⟩
  rw [← hD] at He0 hBD ⊢
  rw [← hB] at Hb0 hBD ⊢
  generalize (w2.alloc (Obj.cells #[.int .i64 pl, .int .i64 ph] 25)) = W at *
  clear hD hB Hb1 Hg1
  refine wp_region_held_drew (S := fun w' => (w'.heap[B]? = some (.cells #[.int .i64 b.start, .int .i64 b.stop, .int .i64 b.months, .int .i64 b.rate] 27 (0, 0)) ∧ w'.heap[D]? = some (.cells #[.int .i64 pl, .int .i64 ph] 25 (0, 0))) ∧ w.grownBy w' none) (by kernel_rfl) ⟨⟨Hb0.out, He0.out⟩, gr_drew Hg0.out⟩ (fun hHeld => ?_)
  refine wpAnyH_take (i := 0) (v := ?_) rfl (by kernel_rfl) (by kernel_rfl) (by kernel_rfl) (fun _ _ _ h => h) (Or.inl ⟨by rfl, ?_⟩) hHeld ?_
  rotate_left
  · intro w9 hSw
    (obtain ⟨⟨sb, sd⟩, _⟩ := hSw; have b0 := blk_cell sb 0 _ rfl; have b1 := blk_cell sb 1 _ rfl; have b2 := blk_cell sb 2 _ rfl; have b3 := blk_cell sb 3 _ rfl; have r0 := blk_cell sd 0 _ rfl; have r1 := blk_cell sd 1 _ rfl; clear sb sd)
    go_simp
    all_goals (try with_reducible rfl)
  (try simp only [Act.put]); (try simp only [List.getElem_toArray]); (try simp only [List.getElem_cons_succ]); (try simp only [List.getElem_cons_zero]); (try simp only [List.setIfInBounds_toArray]); (try simp only [List.set_cons_succ]); (try simp only [List.set_cons_zero])
  refine wpAnyH_take (i := 1) (v := ?_) rfl (by kernel_rfl) (by kernel_rfl) (by kernel_rfl) (fun _ _ _ h => h) (Or.inl ⟨by rfl, ?_⟩) hHeld ?_
  rotate_left
  · intro w9 hSw
    (obtain ⟨⟨sb, sd⟩, _⟩ := hSw; have b0 := blk_cell sb 0 _ rfl; have b1 := blk_cell sb 1 _ rfl; have b2 := blk_cell sb 2 _ rfl; have b3 := blk_cell sb 3 _ rfl; have r0 := blk_cell sd 0 _ rfl; have r1 := blk_cell sd 1 _ rfl; clear sb sd)
    go_simp
    all_goals (try with_reducible rfl)
  (try simp only [Act.put]); (try simp only [List.getElem_toArray]); (try simp only [List.getElem_cons_succ]); (try simp only [List.getElem_cons_zero]); (try simp only [List.setIfInBounds_toArray]); (try simp only [List.set_cons_succ]); (try simp only [List.set_cons_zero])
  refine wpAnyH_take (i := 2) (v := ?_) rfl (by kernel_rfl) (by kernel_rfl) (by kernel_rfl) (fun _ _ _ h => h) (Or.inl ⟨by rfl, ?_⟩) hHeld ?_
  rotate_left
  · intro w9 hSw
    (obtain ⟨⟨sb, sd⟩, _⟩ := hSw; have b0 := blk_cell sb 0 _ rfl; have b1 := blk_cell sb 1 _ rfl; have b2 := blk_cell sb 2 _ rfl; have b3 := blk_cell sb 3 _ rfl; have r0 := blk_cell sd 0 _ rfl; have r1 := blk_cell sd 1 _ rfl; clear sb sd)
    go_simp
    all_goals (try with_reducible rfl)
  (try simp only [Act.put]); (try simp only [List.getElem_toArray]); (try simp only [List.getElem_cons_succ]); (try simp only [List.getElem_cons_zero]); (try simp only [List.setIfInBounds_toArray]); (try simp only [List.set_cons_succ]); (try simp only [List.set_cons_zero])
  refine wpAnyH_take (i := 3) (v := ?_) rfl (by kernel_rfl) (by kernel_rfl) (by kernel_rfl) (fun _ _ _ h => h) (Or.inl ⟨by rfl, ?_⟩) hHeld ?_
  rotate_left
  · intro w9 hSw
    (obtain ⟨⟨sb, sd⟩, _⟩ := hSw; have b0 := blk_cell sb 0 _ rfl; have b1 := blk_cell sb 1 _ rfl; have b2 := blk_cell sb 2 _ rfl; have b3 := blk_cell sb 3 _ rfl; have r0 := blk_cell sd 0 _ rfl; have r1 := blk_cell sd 1 _ rfl; clear sb sd)
    go_simp
    all_goals (try with_reducible rfl)
  (try simp only [Act.put]); (try simp only [List.getElem_toArray]); (try simp only [List.getElem_cons_succ]); (try simp only [List.getElem_cons_zero]); (try simp only [List.setIfInBounds_toArray]); (try simp only [List.set_cons_succ]); (try simp only [List.set_cons_zero])
  refine wpAnyH_ready (rs := [4]) (by kernel_rfl) (by simp) ?_
  refine AllReadyH.cons rfl (fun K' hK' => ?_) AllReadyH.nil
  go_simp
  refine (HSp.out _).mono ?_
  rintro e' w3 ⟨rfl, hg⟩
  (try simp only [])
  refine hK'.out _ _ ⟨⟨blk_keep hHeld.1.1 hg (by simp), blk_keep hHeld.1.2 hg (by simp)⟩, gr_trans0 hHeld.2 hg⟩ (fun hHeldN => ?_)
  have Hb3 := hid hHeldN.1.1
  have He3 := hid hHeldN.1.2
  have Hg3 := hid hHeldN.2
  clear hHeld hg
  have hHeld := hHeldN
  clear hK' K' hHeldN
  (try simp only [Act.put]); (try simp only [List.getElem_toArray]); (try simp only [List.getElem_cons_succ]); (try simp only [List.getElem_cons_zero]); (try simp only [List.setIfInBounds_toArray]); (try simp only [List.set_cons_succ]); (try simp only [List.set_cons_zero])
  refine wpAnyH_take (i := 5) (v := ?_) rfl (by kernel_rfl) (by kernel_rfl) (by kernel_rfl) (fun _ _ _ h => h) (Or.inl ⟨by rfl, ?_⟩) hHeld ?_
  rotate_left
  · intro w9 hSw
    clear hSw
    go_simp
    all_goals (try with_reducible rfl)
  (try simp only [Act.put]); (try simp only [List.getElem_toArray]); (try simp only [List.getElem_cons_succ]); (try simp only [List.getElem_cons_zero]); (try simp only [List.setIfInBounds_toArray]); (try simp only [List.set_cons_succ]); (try simp only [List.set_cons_zero])
  refine wpAnyH_take (i := 6) (v := ?_) rfl (by kernel_rfl) (by kernel_rfl) (by kernel_rfl) (fun _ _ _ h => h) (Or.inl ⟨by rfl, ?_⟩) hHeld ?_
  rotate_left
  · intro w9 hSw
    clear hSw
    go_simp
    all_goals (try with_reducible rfl)
  (try simp only [Act.put]); (try simp only [List.getElem_toArray]); (try simp only [List.getElem_cons_succ]); (try simp only [List.getElem_cons_zero]); (try simp only [List.setIfInBounds_toArray]); (try simp only [List.set_cons_succ]); (try simp only [List.set_cons_zero])
  refine wpAnyH_take (i := 7) (v := ?_) rfl (by kernel_rfl) (by kernel_rfl) (by kernel_rfl) (fun _ _ _ h => h) (Or.inl ⟨by rfl, ?_⟩) hHeld ?_
  rotate_left
  · intro w9 hSw
    (obtain ⟨⟨sb, sd⟩, _⟩ := hSw; have b0 := blk_cell sb 0 _ rfl; have b1 := blk_cell sb 1 _ rfl; have b2 := blk_cell sb 2 _ rfl; have b3 := blk_cell sb 3 _ rfl; have r0 := blk_cell sd 0 _ rfl; have r1 := blk_cell sd 1 _ rfl; clear sb sd)
    go_simp
    all_goals (try with_reducible rfl)
  (try simp only [Act.put]); (try simp only [List.getElem_toArray]); (try simp only [List.getElem_cons_succ]); (try simp only [List.getElem_cons_zero]); (try simp only [List.setIfInBounds_toArray]); (try simp only [List.set_cons_succ]); (try simp only [List.set_cons_zero])
  refine wpAnyH_take (i := 8) (v := ?_) rfl (by kernel_rfl) (by kernel_rfl) (by kernel_rfl) (fun _ _ _ h => h) (Or.inl ⟨by rfl, ?_⟩) hHeld ?_
  rotate_left
  · intro w9 hSw
    (obtain ⟨⟨sb, sd⟩, _⟩ := hSw; have b0 := blk_cell sb 0 _ rfl; have b1 := blk_cell sb 1 _ rfl; have b2 := blk_cell sb 2 _ rfl; have b3 := blk_cell sb 3 _ rfl; have r0 := blk_cell sd 0 _ rfl; have r1 := blk_cell sd 1 _ rfl; clear sb sd)
    go_simp
    all_goals (try with_reducible rfl)
  (try simp only [Act.put]); (try simp only [List.getElem_toArray]); (try simp only [List.getElem_cons_succ]); (try simp only [List.getElem_cons_zero]); (try simp only [List.setIfInBounds_toArray]); (try simp only [List.set_cons_succ]); (try simp only [List.set_cons_zero])
  by_cases hz : ph = 0
  · have z1 : (ph == 0) = true := by simpa using hz
    clear hz HN
    refine wpAnyH_take (i := 9) (v := ?_) rfl (by kernel_rfl) (by kernel_rfl) (by kernel_rfl) (fun _ _ _ h => h) (Or.inl ⟨by rfl, ?_⟩) hHeld ?_
    rotate_left
    · intro w9 hSw
      clear hSw
      go_simp
      all_goals (try with_reducible rfl)
    (try simp only [Act.put]); (try simp only [List.getElem_toArray]); (try simp only [List.getElem_cons_succ]); (try simp only [List.getElem_cons_zero]); (try simp only [List.setIfInBounds_toArray]); (try simp only [List.set_cons_succ]); (try simp only [List.set_cons_zero])
    refine wpAnyH_take (i := 10) (v := ?_) rfl (by kernel_rfl) (by kernel_rfl) (by kernel_rfl) (fun _ _ _ h => h) (Or.inl ⟨by rfl, ?_⟩) hHeld ?_
    rotate_left
    · intro w9 hSw
      clear hSw
      go_simp
      all_goals (try with_reducible rfl)
    (try simp only [Act.put]); (try simp only [List.getElem_toArray]); (try simp only [List.getElem_cons_succ]); (try simp only [List.getElem_cons_zero]); (try simp only [List.setIfInBounds_toArray]); (try simp only [List.set_cons_succ]); (try simp only [List.set_cons_zero])
    refine wpAnyH_done (by kernel_rfl) ?_ _
    clear hHeld
    go_wp2_with fail
    refine wp_region_held_drew (S := fun w' => (w'.heap[B]? = some (.cells #[.int .i64 b.start, .int .i64 b.stop, .int .i64 b.months, .int .i64 b.rate] 27 (0, 0)) ∧ w'.heap[D]? = some (.cells #[.int .i64 pl, .int .i64 ph] 25 (0, 0))) ∧ w.grownBy w' none) (by kernel_rfl) ⟨⟨Hb3.out, He3.out⟩, gr_drew Hg3.out⟩ (fun hHeld => ?_)
    refine wpAnyH_take (i := 0) (v := ?_) rfl (by kernel_rfl) (by kernel_rfl) (by kernel_rfl) (fun _ _ _ h => h) (Or.inl ⟨by rfl, ?_⟩) hHeld ?_
    rotate_left
    · intro w9 hSw
      (obtain ⟨⟨sb, sd⟩, _⟩ := hSw; have b0 := blk_cell sb 0 _ rfl; have b1 := blk_cell sb 1 _ rfl; have b2 := blk_cell sb 2 _ rfl; have b3 := blk_cell sb 3 _ rfl; have r0 := blk_cell sd 0 _ rfl; have r1 := blk_cell sd 1 _ rfl; clear sb sd)
      go_simp
      all_goals (try with_reducible rfl)
    (try simp only [Act.put]); (try simp only [List.getElem_toArray]); (try simp only [List.getElem_cons_succ]); (try simp only [List.getElem_cons_zero]); (try simp only [List.setIfInBounds_toArray]); (try simp only [List.set_cons_succ]); (try simp only [List.set_cons_zero])
    refine wpAnyH_take (i := 1) (v := ?_) rfl (by kernel_rfl) (by kernel_rfl) (by kernel_rfl) (fun _ _ _ h => h) (Or.inl ⟨by rfl, ?_⟩) hHeld ?_
    rotate_left
    · intro w9 hSw
      (obtain ⟨⟨sb, sd⟩, _⟩ := hSw; have b0 := blk_cell sb 0 _ rfl; have b1 := blk_cell sb 1 _ rfl; have b2 := blk_cell sb 2 _ rfl; have b3 := blk_cell sb 3 _ rfl; have r0 := blk_cell sd 0 _ rfl; have r1 := blk_cell sd 1 _ rfl; clear sb sd)
      go_simp
      all_goals (try with_reducible rfl)
    (try simp only [Act.put]); (try simp only [List.getElem_toArray]); (try simp only [List.getElem_cons_succ]); (try simp only [List.getElem_cons_zero]); (try simp only [List.setIfInBounds_toArray]); (try simp only [List.set_cons_succ]); (try simp only [List.set_cons_zero])
    refine wpAnyH_take (i := 2) (v := ?_) rfl (by kernel_rfl) (by kernel_rfl) (by kernel_rfl) (fun _ _ _ h => h) (Or.inl ⟨by rfl, ?_⟩) hHeld ?_
    rotate_left
    · intro w9 hSw
      (obtain ⟨⟨sb, sd⟩, _⟩ := hSw; have b0 := blk_cell sb 0 _ rfl; have b1 := blk_cell sb 1 _ rfl; have b2 := blk_cell sb 2 _ rfl; have b3 := blk_cell sb 3 _ rfl; have r0 := blk_cell sd 0 _ rfl; have r1 := blk_cell sd 1 _ rfl; clear sb sd)
      go_simp
      all_goals (try with_reducible rfl)
    (try simp only [Act.put]); (try simp only [List.getElem_toArray]); (try simp only [List.getElem_cons_succ]); (try simp only [List.getElem_cons_zero]); (try simp only [List.setIfInBounds_toArray]); (try simp only [List.set_cons_succ]); (try simp only [List.set_cons_zero])
    refine wpAnyH_take (i := 3) (v := ?_) rfl (by kernel_rfl) (by kernel_rfl) (by kernel_rfl) (fun _ _ _ h => h) (Or.inl ⟨by rfl, ?_⟩) hHeld ?_
    rotate_left
    · intro w9 hSw
      (obtain ⟨⟨sb, sd⟩, _⟩ := hSw; have b0 := blk_cell sb 0 _ rfl; have b1 := blk_cell sb 1 _ rfl; have b2 := blk_cell sb 2 _ rfl; have b3 := blk_cell sb 3 _ rfl; have r0 := blk_cell sd 0 _ rfl; have r1 := blk_cell sd 1 _ rfl; clear sb sd)
      go_simp
      all_goals (try with_reducible rfl)
    (try simp only [Act.put]); (try simp only [List.getElem_toArray]); (try simp only [List.getElem_cons_succ]); (try simp only [List.getElem_cons_zero]); (try simp only [List.setIfInBounds_toArray]); (try simp only [List.set_cons_succ]); (try simp only [List.set_cons_zero])
    refine wpAnyH_ready (rs := [4]) (by kernel_rfl) (by simp) ?_
    refine AllReadyH.cons rfl (fun K' hK' => ?_) AllReadyH.nil
    go_simp
    refine (HSp.out _).mono ?_
    rintro e' w4 ⟨rfl, hg⟩
    (try simp only [])
    refine hK'.out _ _ ⟨⟨blk_keep hHeld.1.1 hg (by simp), blk_keep hHeld.1.2 hg (by simp)⟩, gr_trans0 hHeld.2 hg⟩ (fun hHeldN => ?_)
    have Hb4 := hid hHeldN.1.1
    have He4 := hid hHeldN.1.2
    have Hg4 := hid hHeldN.2
    clear hHeld hg
    have hHeld := hHeldN
    clear hK' K' hHeldN
    (try simp only [Act.put]); (try simp only [List.getElem_toArray]); (try simp only [List.getElem_cons_succ]); (try simp only [List.getElem_cons_zero]); (try simp only [List.setIfInBounds_toArray]); (try simp only [List.set_cons_succ]); (try simp only [List.set_cons_zero])
    refine wpAnyH_take (i := 5) (v := ?_) rfl (by kernel_rfl) (by kernel_rfl) (by kernel_rfl) (fun _ _ _ h => h) (Or.inl ⟨by rfl, ?_⟩) hHeld ?_
    rotate_left
    · intro w9 hSw
      clear hSw
      go_simp
      all_goals (try with_reducible rfl)
    (try simp only [Act.put]); (try simp only [List.getElem_toArray]); (try simp only [List.getElem_cons_succ]); (try simp only [List.getElem_cons_zero]); (try simp only [List.setIfInBounds_toArray]); (try simp only [List.set_cons_succ]); (try simp only [List.set_cons_zero])
    refine wpAnyH_take (i := 6) (v := ?_) rfl (by kernel_rfl) (by kernel_rfl) (by kernel_rfl) (fun _ _ _ h => h) (Or.inl ⟨by rfl, ?_⟩) hHeld ?_
    rotate_left
    · intro w9 hSw
      clear hSw
      go_simp
      all_goals (try with_reducible rfl)
    (try simp only [Act.put]); (try simp only [List.getElem_toArray]); (try simp only [List.getElem_cons_succ]); (try simp only [List.getElem_cons_zero]); (try simp only [List.setIfInBounds_toArray]); (try simp only [List.set_cons_succ]); (try simp only [List.set_cons_zero])
    refine wpAnyH_done (by kernel_rfl) ?_ _
    clear hHeld
    go_wp2_with fail
    go_ret
    exact ⟨rfl, Hg4.out⟩
  · have z1 : (ph == 0) = false := by simpa using hz
    have HNN := hid (HN.out hz)
    generalize afterF b day = L at *
    refine wpAnyH_take (i := 9) (v := ?_) rfl (by kernel_rfl) (by kernel_rfl) (by kernel_rfl) (fun _ _ _ h => h) (Or.inl ⟨by rfl, ?_⟩) hHeld ?_
    rotate_left
    · intro w9 hSw
      clear hSw
      go_simp
      all_goals (try with_reducible rfl)
    (try simp only [Act.put]); (try simp only [List.getElem_toArray]); (try simp only [List.getElem_cons_succ]); (try simp only [List.getElem_cons_zero]); (try simp only [List.setIfInBounds_toArray]); (try simp only [List.set_cons_succ]); (try simp only [List.set_cons_zero])
    refine wpAnyH_take (i := 10) (v := ?_) rfl (by kernel_rfl) (by kernel_rfl) (by kernel_rfl) (fun _ _ _ h => h) (Or.inl ⟨by rfl, ?_⟩) hHeld ?_
    rotate_left
    · intro w9 hSw
      clear hSw
      go_simp
      all_goals (try with_reducible rfl)
    (try simp only [Act.put]); (try simp only [List.getElem_toArray]); (try simp only [List.getElem_cons_succ]); (try simp only [List.getElem_cons_zero]); (try simp only [List.setIfInBounds_toArray]); (try simp only [List.set_cons_succ]); (try simp only [List.set_cons_zero])
    refine wpAnyH_done (by kernel_rfl) ?_ _
    clear hHeld
    clear HN hz z1
    have uy : IntKind.i64.wrap (y + 500) = y + 500 := IntWalk.i64_in _ (by omega)
    have hmin := Hmin.out
    have hmin2 := Hmin2.out
    (try clear c0 c1 c2 c3)
    have c0 := blk_cell Hb3.out 0 _ rfl
    have c1 := blk_cell Hb3.out 1 _ rfl
    have c2 := blk_cell Hb3.out 2 _ rfl
    have c3 := blk_cell Hb3.out 3 _ rfl
    go_wp2_with fail
    refine (HQ.out _ (Hm.out.keep0 Hg3.out)).mono ?_
    rintro e' w4 ⟨rfl, hg⟩
    have Hg4 := hid (gr_alloc (gr_trans0 Hg3.out hg) (Obj.cells #[.int .i64 ql, .int .i64 qh] 25))
    have hb4 := blk_keep Hb3.out hg (by simp)
    have he4 := blk_keep He3.out hg (by simp)
    have hlt4 := blk_lt he4
    have Hb4 := hid (blk_alloc hb4 (Obj.cells #[.int .i64 ql, .int .i64 qh] 25))
    have He4 := hid (blk_alloc he4 (Obj.cells #[.int .i64 ql, .int .i64 qh] 25))
    have Hn4 := hid (heap_alloc_new w4 (Obj.cells #[.int .i64 ql, .int .i64 qh] 25))
    clear hg hb4 he4 uy hmin hmin2
    (try clear c0 c1 c2 c3)
    have c0 := blk_cell Hb4.out 0 _ rfl
    have c1 := blk_cell Hb4.out 1 _ rfl
    have c2 := blk_cell Hb4.out 2 _ rfl
    have c3 := blk_cell Hb4.out 3 _ rfl
    go_wp2_with fail
    refine (HZ.out _ (Hm.out.keep0 Hg4.out)).mono ?_
    rintro e' w5 ⟨rfl, hg⟩
    have Hg5 := hid (gr_alloc (gr_trans0 Hg4.out hg) (Obj.cells #[.int .i64 zl, .int .i64 zh] 25))
    have hb5 := blk_keep Hb4.out hg (by simp)
    have he5 := blk_keep He4.out hg (by simp)
    have hlt5 := blk_lt he5
    have Hb5 := hid (blk_alloc hb5 (Obj.cells #[.int .i64 zl, .int .i64 zh] 25))
    have He5 := hid (blk_alloc he5 (Obj.cells #[.int .i64 zl, .int .i64 zh] 25))
    have Hn5 := hid (heap_alloc_new w5 (Obj.cells #[.int .i64 zl, .int .i64 zh] 25))
    have hp5 := blk_keep Hn4.out hg (by simp)
    have hlp := blk_lt hp5
    have Hp5 := hid (blk_alloc hp5 (Obj.cells #[.int .i64 zl, .int .i64 zh] 25))
    obtain ⟨E, hE⟩ : ∃ E, E = w4.heap.size := ⟨_, rfl⟩
    obtain ⟨F, hF⟩ : ∃ F, F = w5.heap.size := ⟨_, rfl⟩
    rw [← hE] at Hp5
    rw [← hF] at Hn5
    have HE := hid hE
    have HFF := hid hF
    clear hg hb5 he5 hp5 hE hF
    (try clear c0 c1 c2 c3)
    have c0 := blk_cell Hb5.out 0 _ rfl
    have c1 := blk_cell Hb5.out 1 _ rfl
    have c2 := blk_cell Hb5.out 2 _ rfl
    have c3 := blk_cell Hb5.out 3 _ rfl
    go_wp2_with fail
    refine (HF.out _ (Hm.out.keep0 Hg5.out)).mono ?_
    rintro e' w6 ⟨fa, fn, fc, rfl, ho, _, hg⟩
    have Hg6 := hid (gr_trans0 Hg5.out hg)
    have He6 := hid (blk_keep He5.out hg (by simp))
    have Hp6 := hid (blk_keep Hp5.out hg (by simp))
    have Hz6 := hid (blk_keep Hn5.out hg (by simp))
    have Hs := hid ho.sl
    have hfn : fn ≤ 40 := by have := ho.len; have := HNN.out.2.2.2.2.2.1; omega
    rw [← HE.out, ← HFF.out]
    clear hg ho c0 c1 c2 c3
    go_wp2_with fail
    go_loopw [10, 11] (fun s i wr => ∃ k : Nat, k ≤ fn ∧ i = .int .i64 k ∧ s = .int .i64 (sumA (L.take k)) ∧ w6.grownBy wr none) (fun _ i _ => fn - (intOf i).toNat)
    case atStart => exact ⟨0, by omega, rfl, rfl, gr0 _⟩
    case round =>
      obtain ⟨k, hk, rfl, rfl, hgr⟩ := hrel
      have Hgr := hid hgr
      clear hgr
      have hsb := sumA_take L HNN.out.2.2.2.2.2.2 k (by have := Hs.out.len; omega)
      by_cases hlt : k < fn
      · obtain ⟨lb, lo, x, rfl, hx, l0, l1⟩ := flow_at (Hs.out.keep0 Hgr.out) k hlt
        have hxa := HNN.out.2.2.2.2.2.2 x (List.mem_of_getElem? hx)
        obtain ⟨xa0, xa1⟩ := hxa
        have Hsn := hid (show sumA (L.take (k + 1)) = sumA (L.take k) + x.amount by rw [take_snoc _ _ _ hx, sumA_snoc])
        have hi0 : (0 : Int) ≤ k := by omega
        have hi1 : (k : Int) < fn := by omega
        clear hx
        generalize sumA (L.take k) = s at *
        go_wp2_with fail
        go_roundw
        case rel => exact ⟨k + 1, by omega, by go_num, by rw [Hsn.out], Hgr.out⟩
        case measure => simp [intOf]; omega
      · obtain rfl : k = fn := by omega
        rw [take_len _ _ Hs.out.len] at hsb ⊢
        obtain ⟨n1, n2, n3, n4, n5, _⟩ := HNN.out
        obtain ⟨s, hs⟩ : ∃ s, sumA L = s := ⟨_, rfl⟩
        rw [hs] at n4 n5 ⊢
        have t1 : decide (pl ≤ ph) = true := by simpa using n1
        have t2 : decide (ql ≤ pl) = true := by simpa using n2
        have t3 : decide (qh ≤ ph) = true := by simpa using n3
        have he := blk_keep He6.out Hgr.out (by simp)
        have hp := blk_keep Hp6.out Hgr.out (by simp)
        have hz := blk_keep Hz6.out Hgr.out (by simp)
        have r0 := blk_cell he 0 _ rfl
        have r1 := blk_cell he 1 _ rfl
        have p0 := blk_cell hp 0 _ rfl
        have p1 := blk_cell hp 1 _ rfl
        have q0 := blk_cell hz 0 _ rfl
        have q1 := blk_cell hz 1 _ rfl
        subst n4 n5
        clear hs he hp hz n1 n2 n3
        go_wp2_with fail
        go_ret
        exact ⟨rfl, gr_trans0 Hg6.out Hgr.out⟩

set_option maxRecDepth 100000 in
theorem lifted (os : Os) (started : os.Started) (H : Type) (enc : TypeId × Value → H) :
    ReturnsInHanded {} Tryd.checked os 12 .any (fun w args => (Rows.fnPriceOfSpec.pre enc Tryd.prog Tryd.f12 Rows.fnPriceOfRow.domain false w args ∧ laidMetH Tryd.prog laidMonths w) ∧ sizedMet enc Tryd.prog Tryd.f12 (OpenSpec.ofChange Rows.fnPriceOfSpec) false w args) (Rows.fnPriceOfSpec.post enc Tryd.prog Tryd.f12 false true false false) := by
  refine returnsInHanded_of_change_and (C := Tryd.checked) (X := fun w _ => laidMetH Tryd.prog laidMonths w) (fun _ _ _ hh h => h.of_heap hh) Tryd.own started (by kernel_rfl) Tryd.func12
    (ChangeSpec.witness_shaped (enc := enc) (C := Tryd.checked) (os := os) (X := fun w _ => laidMetH Tryd.prog laidMonths w) false (World.doorLaid Tryd.prog 400 os) #[.slice none 0 0] 8 rfl (World.shaped_of_RefB (by kernel_rfl) (by kernel_rfl)) (by kernel_rfl) (by kernel_rfl) (by kernel_rfl) (door_met os _)) ?_
  intro W base args ds gs before hval0 hW _ _ hL _
  have hval : ∀ (j : Nat) t v, Tryd.f12.params[j]? = some t → args[j]? = some v → Value.okWide Tryd.prog W .any base t v := hval0
  have hW' := hW
  obtain ⟨p, q, hA0, hV, rfl, hfz, hnd⟩ := hW
  have hA : DataW.TrodAll enc Tryd.prog W 0 (fun _ => true) true Tryd.f12.params.toList args.toList ds p := hA0
  rw [Tryd.params12] at hA hval
  have hA2 := hA
  obtain ⟨v0, vs0, d0, ds0, p0, q0, hargs, rfl, rfl, h0, r0⟩ := trodAll_cons hA
  obtain ⟨rfl, rfl, rfl⟩ := trodAll_nil r0
  obtain rfl : args = #[v0] := by cases args; simp_all
  obtain ⟨g0, g1, rfl⟩ := vars_two hV
  have hlt : ∀ x ∈ (p0 ++ []) ++ q, x.block < W.heap.size := fun x hx => hW'.lt x hx
  obtain ⟨a0, n0, cap0, rfl⟩ := okWide_slice Tryd.underlying38 (hval 0 38 v0 rfl rfl)
  obtain ⟨fuel0, hf0⟩ := h0
  obtain ⟨xs0, hs0, hc0, hw0⟩ := sl_ints u8L (fun _ => rfl) rfl Tryd.underlying38 Tryd.underlying5 Tryd.cellsU8 hf0
  refine (walk a0 n0 cap0 xs0 W (months_of_laid hL) hs0 hc0 (fun z hz => u8_range (hw0 z hz))).mono fun e W' ⟨he, hg⟩ => ?_
  subst he
  have hb := below_of_gr hg
  refine ⟨_, rfl, _, _, _, [], p0 ++ [], q, hW', ?_, ?_, vars_stay hb hV, hb.frame _, fun h => by cases h⟩
  · exact trodAll_mk1 (shut_bool Tryd.underlying4 _)
  · exact args_stay hb _ _ _ _ hA2 (fun x hx => hlt x (List.mem_append_left _ (by simpa using hx))) (by intro t ht; simp at ht; subst ht; exact ⟨by kernel_rfl, of_decide_eq_true (by kernel_rfl)⟩)

set_option maxRecDepth 100000 in
theorem closed : joinedFacts Tryd.pinned.checked.prog 12 Tryd.f12 Rows.fnPriceOfSpec Rows.fnPriceOfRow = true := by
  rw [joinedFacts, show Tryd.pinned.checked.prog.mayEnter = true from Tryd.enters, show Tryd.pinned.checked.prog.liftsFinal = false from Tryd.lifts, show Tryd.pinned.checked.prog.make = some .cut from Tryd.cut]
  kernel_rfl

theorem row_holds : Rows.FnPriceOfSaid :=
  OpenClaim.holds_of_wide 12 Tryd.f12 rfl rfl rfl rfl rfl rfl rfl ⟨rfl, rfl, rfl, rfl, rfl⟩ rfl rfl rfl rfl rfl (by kernel_rfl) Tryd.func12 closed
    (of_decide_eq_true (by kernel_rfl)) (by unfold Func.isWrapper; first | (rw [if_pos (by decide +kernel)]; kernel_rfl) | (rw [if_neg (by decide +kernel)]; exact ⟨rfl, rfl⟩))
    (fun os started H enc _ => lifted os started H enc)

theorem holds : Rows.FnPriceOfCardSaid :=
  Claim7.holds_tied_plain_at .later [] [.data, .sentinel] true (true, "a4f7e9a3a2dd7febb91b59340b975e898b1d35a96e4db750cc7f4ee2cb25401f") false
    row_holds (fun _ h => by cases h) (by kernel_rfl) (fun _ h => by cases h) fnPriceOf_row_tie rfl ⟨rfl, rfl⟩ (by kernel_rfl) rfl
    (fun f fn hf hfn => by
      obtain rfl : f = 12 := Option.some.inj ((show Tryd.prog.funcNamed "loop.example/bonddesk/laws.FnPriceOf" = some 12 by kernel_rfl).symm.trans hf) |>.symm
      obtain rfl : fn = Tryd.f12 := (Option.some.inj (Tryd.func12.symm.trans hfn)).symm
      exact ⟨by kernel_rfl, fun j t ht => by
        rw [Tryd.params12] at ht
        have hm : t ∈ [38] := by simpa using Array.mem_of_getElem? ht
        have hall : ([38].all fun u => !Tryd.prog.wantsStandIn u) = true := by kernel_rfl
        exact (show Tryd.prog.wantsStandIn t = false by simpa using List.all_eq_true.1 hall t hm)⟩)
    (by kernel_rfl)
end FnPriceOf
end Go.Proofs.YtkgjciacdjhhfaaDoor
