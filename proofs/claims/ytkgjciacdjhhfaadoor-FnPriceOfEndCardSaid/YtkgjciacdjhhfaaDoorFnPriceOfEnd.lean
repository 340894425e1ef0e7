/- For every input, FnPriceOfEnd returns true: near the end a bond is worth its last payment. No condition. -/
import Derived.Test.YtkgjciacdjhhfaaDoorRows
import Derived.Test.YtkgjciacdjhhfaaDoorCards
import Derived.Test.YtkgjciacdjhhfaaDoorTie
import Derived.Test.YtkgjciacdjhhfaaDoorSpecPriceOf
import Derived.Test.YtkgjciacdjhhfaaDoorPriceHead
import Derived.Test.YtkgjciacdjhhfaaDoorDrawYield
import Derived.Test.YtkgjciacdjhhfaaDoorFlowAfter
import Derived.Test.YtkgjciacdjhhfaaDoorFrame
import Derived.Test.YtkgjciacdjhhfaaDoorFrameL
import Derived.ProofKit
namespace Go.Proofs.YtkgjciacdjhhfaaDoor
open Go.ChangeShapes Go.WideShapes Go.ChangeAt Go.RowKit
namespace FnPriceOfEnd

theorem end_law {b : Bond} {day y : Int} (h : (priceF b day y).high ≠ 0) : ∃ x, (flowsF b)[(flowsF b).length - 1]? = some x ∧ 1 ≤ (flowsF b).length ∧ (flowsF b).length ≤ 40 ∧ 0 ≤ x.amount ∧ x.amount ≤ 13000 ∧ (priceF b (b.stop - 1) y).high ≤ x.amount ∧ x.amount * 1000000 / (1000000 + y) - 1 ≤ (priceF b (b.stop - 1) y).low ∧ 0 ≤ y ∧ y ≤ 100000 ∧ (priceF b (b.stop - 1) y).low ≤ 520000 := by
  obtain ⟨h1, h2, h3⟩ := price_high h
  have R := run_of h1
  obtain ⟨x, e1, e2, e3, e4, e5, e6, e7⟩ := last_ge R.ok h2 h3
  rw [flowsF_ok R.ok.bool, (price_pair e5 h2 h3).1, (price_pair e5 h2 h3).2]
  have q := (run_of e5).price_le h2 h3
  have hl : (flowsL b).length ≤ 40 := by rw [flows_len]; unfold persF; rw [sched_len]; exact R.ok.span.q2
  exact ⟨x, e1, e2, hl, e3, e4, e6, e7, h2, h3, by omega⟩

set_option maxRecDepth 100000 in
set_option maxHeartbeats 2000000 in
theorem walk (a : Option Addr) (n cap : Nat) (xs : List Int) (w : World) (hm : Months w) (hs : Sl u8L w a n xs) (hcap : n ≤ cap) (hx : ∀ x ∈ xs, 0 ≤ x ∧ x ≤ 255) :
    Calls Tryd.prog 9 #[.slice a n cap] w fun e w' => e = .returned (.bool true) ∧ w.grownBy w' none := by
  have Hx := hid hx
  have Hs := hid hs
  have Hm := hid hm
  have hbig := hs.big
  unfold maxLen at hbig
  clear hx hs hm
  by_cases hn : 1048576 < n
  · go_enter Tryd.func9, Tryd.ntmps9
    go_wp2_with fail
    go_ret
    exact ⟨rfl, gr_refl _ _⟩
  clear hbig
  go_enter Tryd.func9, Tryd.ntmps9
  go_wp2_with fail
  refine (DrawPriceOf_any a n cap xs w Hs.out hcap Hx.out).mono ?_
  rintro e w1 ⟨b, day, y, rfl, hB, ⟨⟨hd0, hd1⟩, hy0, hy1⟩, hg⟩
  have Hb1 := hid (heap_alloc_new w1 (Obj.cells #[.int .i64 b.start, .int .i64 b.stop, .int .i64 b.months, .int .i64 b.rate] 27))
  have Hg1 := hid (gr_alloc hg (Obj.cells #[.int .i64 b.start, .int .i64 b.stop, .int .i64 b.months, .int .i64 b.rate] 27))
  have hBs0 := hB.s0; have hBs1 := hB.s1; have hBe0 := hB.e0; have hBe1 := hB.e1
  have hBm0 := hB.m0; have hBm1 := hB.m1; have hBr0 := hB.r0; have hBr1 := hB.r1
  clear hg
  have HI := hid (fun wx (h : Months wx) => PriceOf_any b day y wx h)
  have HSp := hid (fun wx => specPriceOf_any b day y wx)
  have HQ := hid (fun wx (h : Months wx) => PriceOf_any b (b.stop - 1) y wx h)
  have HF := hid (fun wx (h : Months wx) => FlowsOf_any b wx h)
  have HN := hid (end_law (b := b) (day := day) (y := y))
  generalize (priceF b day y).low = pl at *
  generalize (priceF b day y).high = ph at *
  generalize (priceF b (b.stop - 1) y).low = ql at *
  generalize (priceF b (b.stop - 1) y).high = qh at *
  (try clear c0 c1 c2 c3)
  have c0 := blk_cell Hb1.out 0 _ rfl
  have c1 := blk_cell Hb1.out 1 _ rfl
  have c2 := blk_cell Hb1.out 2 _ rfl
  have c3 := blk_cell Hb1.out 3 _ rfl
  go_wp2_with fail
  refine (HI.out _ (Hm.out.keep0 Hg1.out)).mono ?_
  rintro e' w2 ⟨rfl, hg⟩
  have hb2 := blk_keep Hb1.out hg (by simp)
  have hBD := blk_lt hb2
  have He0 := hid (heap_alloc_new w2 (Obj.cells #[.int .i64 pl, .int .i64 ph] 25))
  have Hb0 := hid (blk_alloc hb2 (Obj.cells #[.int .i64 pl, .int .i64 ph] 25))
  have Hg0 := hid (gr_alloc (gr_trans0 Hg1.out hg) (Obj.cells #[.int .i64 pl, .int .i64 ph] 25))
  clear hg hb2 c0 c1 c2 c3
  go_wp2_with fail
  obtain ⟨D, hD⟩ : ∃ D, D = w2.heap.size := ⟨_, rfl⟩
  obtain ⟨B, hB⟩ : ∃ B, B = w1.heap.size := ⟨_, rfl⟩
  rw [← hD] at He0 hBD ⊢
  rw [← hB] at Hb0 hBD ⊢
  generalize (w2.alloc (Obj.cells #[.int .i64 pl, .int .i64 ph] 25)) = W at *
  clear hD hB Hb1 Hg1
  refine wp_region_held_drew (S := fun w' => (w'.heap[B]? = some (.cells #[.int .i64 b.start, .int .i64 b.stop, .int .i64 b.months, .int .i64 b.rate] 27 (0, 0)) ∧ w'.heap[D]? = some (.cells #[.int .i64 pl, .int .i64 ph] 25 (0, 0))) ∧ w.grownBy w' none) (by kernel_rfl) ⟨⟨Hb0.out, He0.out⟩, gr_drew Hg0.out⟩ (fun hHeld => ?_)
  refine wpAnyH_take (i := 0) (v := ?_) rfl (by kernel_rfl) (by kernel_rfl) (by kernel_rfl) (fun _ _ _ h => h) (Or.inl ⟨by rfl, ?_⟩) hHeld ?_
  rotate_left
  · intro w9 hSw
    (obtain ⟨⟨sb, sd⟩, _⟩ := hSw; have b0 := blk_cell sb 0 _ rfl; have b1 := blk_cell sb 1 _ rfl; have b2 := blk_cell sb 2 _ rfl; have b3 := blk_cell sb 3 _ rfl; have r0 := blk_cell sd 0 _ rfl; have r1 := blk_cell sd 1 _ rfl; clear sb sd)
    go_simp
    all_goals (try with_reducible rfl)
  (try simp only [Act.put]); (try simp only [List.getElem_toArray]); (try simp only [List.getElem_cons_succ]); (try simp only [List.getElem_cons_zero]); (try simp only [List.setIfInBounds_toArray]); (try simp only [List.set_cons_succ]); (try simp only [List.set_cons_zero])
  refine wpAnyH_take (i := 1) (v := ?_) rfl (by kernel_rfl) (by kernel_rfl) (by kernel_rfl) (fun _ _ _ h => h) (Or.inl ⟨by rfl, ?_⟩) hHeld ?_
  rotate_left
  · intro w9 hSw
    (obtain ⟨⟨sb, sd⟩, _⟩ := hSw; have b0 := blk_cell sb 0 _ rfl; have b1 := blk_cell sb 1 _ rfl; have b2 := blk_cell sb 2 _ rfl; have b3 := blk_cell sb 3 _ rfl; have r0 := blk_cell sd 0 _ rfl; have r1 := blk_cell sd 1 _ rfl; clear sb sd)
    go_simp
    all_goals (try with_reducible rfl)
  (try simp only [Act.put]); (try simp only [List.getElem_toArray]); (try simp only [List.getElem_cons_succ]); (try simp only [List.getElem_cons_zero]); (try simp only [List.setIfInBounds_toArray]); (try simp only [List.set_cons_succ]); (try simp only [List.set_cons_zero])
  refine wpAnyH_take (i := 2) (v := ?_) rfl (by kernel_rfl) (by kernel_rfl) (by kernel_rfl) (fun _ _ _ h => h) (Or.inl ⟨by rfl, ?_⟩) hHeld ?_
  rotate_left
  · intro w9 hSw
    (obtain ⟨⟨sb, sd⟩, _⟩ := hSw; have b0 := blk_cell sb 0 _ rfl; have b1 := blk_cell sb 1 _ rfl; have b2 := blk_cell sb 2 _ rfl; have b3 := blk_cell sb 3 _ rfl; have r0 := blk_cell sd 0 _ rfl; have r1 := blk_cell sd 1 _ rfl; clear sb sd)
    go_simp
    all_goals (try with_reducible rfl)
  (try simp only [Act.put]); (try simp only [List.getElem_toArray]); (try simp only [List.getElem_cons_succ]); (try simp only [List.getElem_cons_zero]); (try simp only [List.setIfInBounds_toArray]); (try simp only [List.set_cons_succ]); (try simp only [List.set_cons_zero])
  refine wpAnyH_take (i := 3) (v := ?_) rfl (by kernel_rfl) (by kernel_rfl) (by kernel_rfl) (fun _ _ _ h => h) (Or.inl ⟨by rfl, ?_⟩) hHeld ?_
  rotate_left
  · intro w9 hSw
    (obtain ⟨⟨sb, sd⟩, _⟩ := hSw; have b0 := blk_cell sb 0 _ rfl; have b1 := blk_cell sb 1 _ rfl; have b2 := blk_cell sb 2 _ rfl; have b3 := blk_cell sb 3 _ rfl; have r0 := blk_cell sd 0 _ rfl; have r1 := blk_cell sd 1 _ rfl; clear sb sd)
    go_simp
    all_goals (try with_reducible rfl)
  (try simp only [Act.put]); (try simp only [List.getElem_toArray]); (try simp only [List.getElem_cons_succ]); (try simp only [List.getElem_cons_zero]); (try simp only [List.setIfInBounds_toArray]); (try simp only [List.set_cons_succ]); (try simp only [List.set_cons_zero])
  refine wpAnyH_ready (rs := [4]) (by kernel_rfl) (by simp) ?_
  refine AllReadyH.cons rfl (fun K' hK' => ?_) AllReadyH.nil
  go_simp
  refine (HSp.out _).mono ?_
  rintro e' w3 ⟨rfl, hg⟩
  (try simp only [])
  refine hK'.out _ _ ⟨⟨blk_keep hHeld.1.1 hg (by simp), blk_keep hHeld.1.2 hg (by simp)⟩, gr_trans0 hHeld.2 hg⟩ (fun hHeldN => ?_)
  have Hb3 := hid hHeldN.1.1
  have He3 := hid hHeldN.1.2
  have Hg3 := hid hHeldN.2
  clear hHeld hg
  have hHeld := hHeldN
  clear hK' K' hHeldN
  (try simp only [Act.put]); (try simp only [List.getElem_toArray]); (try simp only [List.getElem_cons_succ]); (try simp only [List.getElem_cons_zero]); (try simp only [List.setIfInBounds_toArray]); (try simp only [List.set_cons_succ]); (try simp only [List.set_cons_zero])
  refine wpAnyH_take (i := 5) (v := ?_) rfl (by kernel_rfl) (by kernel_rfl) (by kernel_rfl) (fun _ _ _ h => h) (Or.inl ⟨by rfl, ?_⟩) hHeld ?_
  rotate_left
  · intro w9 hSw
    clear hSw
    go_simp
    all_goals (try with_reducible rfl)
  (try simp only [Act.put]); (try simp only [List.getElem_toArray]); (try simp only [List.getElem_cons_succ]); (try simp only [List.getElem_cons_zero]); (try simp only [List.setIfInBounds_toArray]); (try simp only [List.set_cons_succ]); (try simp only [List.set_cons_zero])
  refine wpAnyH_take (i := 6) (v := ?_) rfl (by kernel_rfl) (by kernel_rfl) (by kernel_rfl) (fun _ _ _ h => h) (Or.inl ⟨by rfl, ?_⟩) hHeld ?_
  rotate_left
  · intro w9 hSw
    clear hSw
    go_simp
    all_goals (try with_reducible rfl)
  (try simp only [Act.put]); (try simp only [List.getElem_toArray]); (try simp only [List.getElem_cons_succ]); (try simp only [List.getElem_cons_zero]); (try simp only [List.setIfInBounds_toArray]); (try simp only [List.set_cons_succ]); (try simp only [List.set_cons_zero])
  refine wpAnyH_take (i := 7) (v := ?_) rfl (by kernel_rfl) (by kernel_rfl) (by kernel_rfl) (fun _ _ _ h => h) (Or.inl ⟨by rfl, ?_⟩) hHeld ?_
  rotate_left
  · intro w9 hSw
    (obtain ⟨⟨sb, sd⟩, _⟩ := hSw; have b0 := blk_cell sb 0 _ rfl; have b1 := blk_cell sb 1 _ rfl; have b2 := blk_cell sb 2 _ rfl; have b3 := blk_cell sb 3 _ rfl; have r0 := blk_cell sd 0 _ rfl; have r1 := blk_cell sd 1 _ rfl; clear sb sd)
    go_simp
    all_goals (try with_reducible rfl)
  (try simp only [Act.put]); (try simp only [List.getElem_toArray]); (try simp only [List.getElem_cons_succ]); (try simp only [List.getElem_cons_zero]); (try simp only [List.setIfInBounds_toArray]); (try simp only [List.set_cons_succ]); (try simp only [List.set_cons_zero])
  refine wpAnyH_take (i := 8) (v := ?_) rfl (by kernel_rfl) (by kernel_rfl) (by kernel_rfl) (fun _ _ _ h => h) (Or.inl ⟨by rfl, ?_⟩) hHeld ?_
  rotate_left
  · intro w9 hSw
    (obtain ⟨⟨sb, sd⟩, _⟩ := hSw; have b0 := blk_cell sb 0 _ rfl; have b1 := blk_cell sb 1 _ rfl; have b2 := blk_cell sb 2 _ rfl; have b3 := blk_cell sb 3 _ rfl; have r0 := blk_cell sd 0 _ rfl; have r1 := blk_cell sd 1 _ rfl; clear sb sd)
    go_simp
    all_goals (try with_reducible rfl)
  (try simp only [Act.put]); (try simp only [List.getElem_toArray]); (try simp only [List.getElem_cons_succ]); (try simp only [List.getElem_cons_zero]); (try simp only [List.setIfInBounds_toArray]); (try simp only [List.set_cons_succ]); (try simp only [List.set_cons_zero])
  by_cases hz : ph = 0
  · have z1 : (ph == 0) = true := by simpa using hz
    clear hz HN
    refine wpAnyH_take (i := 9) (v := ?_) rfl (by kernel_rfl) (by kernel_rfl) (by kernel_rfl) (fun _ _ _ h => h) (Or.inl ⟨by rfl, ?_⟩) hHeld ?_
    rotate_left
    · intro w9 hSw
      clear hSw
      go_simp
      all_goals (try with_reducible rfl)
    (try simp only [Act.put]); (try simp only [List.getElem_toArray]); (try simp only [List.getElem_cons_succ]); (try simp only [List.getElem_cons_zero]); (try simp only [List.setIfInBounds_toArray]); (try simp only [List.set_cons_succ]); (try simp only [List.set_cons_zero])
    refine wpAnyH_take (i := 10) (v := ?_) rfl (by kernel_rfl) (by kernel_rfl) (by kernel_rfl) (fun _ _ _ h => h) (Or.inl ⟨by rfl, ?_⟩) hHeld ?_
    rotate_left
    · intro w9 hSw
      clear hSw
      go_simp
      all_goals (try with_reducible rfl)
    (try simp only [Act.put]); (try simp only [List.getElem_toArray]); (try simp only [List.getElem_cons_succ]); (try simp only [List.getElem_cons_zero]); (try simp only [List.setIfInBounds_toArray]); (try simp only [List.set_cons_succ]); (try simp only [List.set_cons_zero])
    refine wpAnyH_done (by kernel_rfl) ?_ _
    clear hHeld
    go_wp2_with fail
    refine wp_region_held_drew (S := fun w' => (w'.heap[B]? = some (.cells #[.int .i64 b.start, .int .i64 b.stop, .int .i64 b.months, .int .i64 b.rate] 27 (0, 0)) ∧ w'.heap[D]? = some (.cells #[.int .i64 pl, .int .i64 ph] 25 (0, 0))) ∧ w.grownBy w' none) (by kernel_rfl) ⟨⟨Hb3.out, He3.out⟩, gr_drew Hg3.out⟩ (fun hHeld => ?_)
    refine wpAnyH_take (i := 0) (v := ?_) rfl (by kernel_rfl) (by kernel_rfl) (by kernel_rfl) (fun _ _ _ h => h) (Or.inl ⟨by rfl, ?_⟩) hHeld ?_
    rotate_left
    · intro w9 hSw
      (obtain ⟨⟨sb, sd⟩, _⟩ := hSw; have b0 := blk_cell sb 0 _ rfl; have b1 := blk_cell sb 1 _ rfl; have b2 := blk_cell sb 2 _ rfl; have b3 := blk_cell sb 3 _ rfl; have r0 := blk_cell sd 0 _ rfl; have r1 := blk_cell sd 1 _ rfl; clear sb sd)
      go_simp
      all_goals (try with_reducible rfl)
    (try simp only [Act.put]); (try simp only [List.getElem_toArray]); (try simp only [List.getElem_cons_succ]); (try simp only [List.getElem_cons_zero]); (try simp only [List.setIfInBounds_toArray]); (try simp only [List.set_cons_succ]); (try simp only [List.set_cons_zero])
    refine wpAnyH_take (i := 1) (v := ?_) rfl (by kernel_rfl) (by kernel_rfl) (by kernel_rfl) (fun _ _ _ h => h) (Or.inl ⟨by rfl, ?_⟩) hHeld ?_
    rotate_left
    · intro w9 hSw
      (obtain ⟨⟨sb, sd⟩, _⟩ := hSw; have b0 := blk_cell sb 0 _ rfl; have b1 := blk_cell sb 1 _ rfl; have b2 := blk_cell sb 2 _ rfl; have b3 := blk_cell sb 3 _ rfl; have r0 := blk_cell sd 0 _ rfl; have r1 := blk_cell sd 1 _ rfl; clear sb sd)
      go_simp
      all_goals (try with_reducible rfl)
    (try simp only [Act.put]); (try simp only [List.getElem_toArray]); (try simp only [List.getElem_cons_succ]); (try simp only [List.getElem_cons_zero]); (try simp only [List.setIfInBounds_toArray]); (try simp only [List.set_cons_succ]); (try simp only [List.set_cons_zero])
    refine wpAnyH_take (i := 2) (v := ?_) rfl (by kernel_rfl) (by kernel_rfl) (by kernel_rfl) (fun _ _ _ h => h) (Or.inl ⟨by rfl, ?_⟩) hHeld ?_
    rotate_left
    · intro w9 hSw
      (obtain ⟨⟨sb, sd⟩, _⟩ := hSw; have b0 := blk_cell sb 0 _ rfl; have b1 := blk_cell sb 1 _ rfl; have b2 := blk_cell sb 2 _ rfl; have b3 := blk_cell sb 3 _ rfl; have r0 := blk_cell sd 0 _ rfl; have r1 := blk_cell sd 1 _ rfl; clear sb sd)
      go_simp
      all_goals (try with_reducible rfl)
    (try simp only [Act.put]); (try simp only [List.getElem_toArray]); (try simp only [List.getElem_cons_succ]); (try simp only [List.getElem_cons_zero]); (try simp only [List.setIfInBounds_toArray]); (try simp only [List.set_cons_succ]); (try simp only [List.set_cons_zero])
    refine wpAnyH_take (i := 3) (v := ?_) rfl (by kernel_rfl) (by kernel_rfl) (by kernel_rfl) (fun _ _ _ h => h) (Or.inl ⟨by rfl, ?_⟩) hHeld ?_
    rotate_left
    · intro w9 hSw
      (obtain ⟨⟨sb, sd⟩, _⟩ := hSw; have b0 := blk_cell sb 0 _ rfl; have b1 := blk_cell sb 1 _ rfl; have b2 := blk_cell sb 2 _ rfl; have b3 := blk_cell sb 3 _ rfl; have r0 := blk_cell sd 0 _ rfl; have r1 := blk_cell sd 1 _ rfl; clear sb sd)
      go_simp
      all_goals (try with_reducible rfl)
    (try simp only [Act.put]); (try simp only [List.getElem_toArray]); (try simp only [List.getElem_cons_succ]); (try simp only [List.getElem_cons_zero]); (try simp only [List.setIfInBounds_toArray]); (try simp only [List.set_cons_succ]); (try simp only [List.set_cons_zero])
    refine wpAnyH_ready (rs := [4]) (by kernel_rfl) (by simp) ?_
    refine AllReadyH.cons rfl (fun K' hK' => ?_) AllReadyH.nil
    go_simp
    refine (HSp.out _).mono ?_
    rintro e' w4 ⟨rfl, hg⟩
    (try simp only [])
    refine hK'.out _ _ ⟨⟨blk_keep hHeld.1.1 hg (by simp), blk_keep hHeld.1.2 hg (by simp)⟩, gr_trans0 hHeld.2 hg⟩ (fun hHeldN => ?_)
    have Hb4 := hid hHeldN.1.1
    have He4 := hid hHeldN.1.2
    have Hg4 := hid hHeldN.2
    clear hHeld hg
    have hHeld := hHeldN
    clear hK' K' hHeldN
    (try simp only [Act.put]); (try simp only [List.getElem_toArray]); (try simp only [List.getElem_cons_succ]); (try simp only [List.getElem_cons_zero]); (try simp only [List.setIfInBounds_toArray]); (try simp only [List.set_cons_succ]); (try simp only [List.set_cons_zero])
    refine wpAnyH_take (i := 5) (v := ?_) rfl (by kernel_rfl) (by kernel_rfl) (by kernel_rfl) (fun _ _ _ h => h) (Or.inl ⟨by rfl, ?_⟩) hHeld ?_
    rotate_left
    · intro w9 hSw
      clear hSw
      go_simp
      all_goals (try with_reducible rfl)
    (try simp only [Act.put]); (try simp only [List.getElem_toArray]); (try simp only [List.getElem_cons_succ]); (try simp only [List.getElem_cons_zero]); (try simp only [List.setIfInBounds_toArray]); (try simp only [List.set_cons_succ]); (try simp only [List.set_cons_zero])
    refine wpAnyH_take (i := 6) (v := ?_) rfl (by kernel_rfl) (by kernel_rfl) (by kernel_rfl) (fun _ _ _ h => h) (Or.inl ⟨by rfl, ?_⟩) hHeld ?_
    rotate_left
    · intro w9 hSw
      clear hSw
      go_simp
      all_goals (try with_reducible rfl)
    (try simp only [Act.put]); (try simp only [List.getElem_toArray]); (try simp only [List.getElem_cons_succ]); (try simp only [List.getElem_cons_zero]); (try simp only [List.setIfInBounds_toArray]); (try simp only [List.set_cons_succ]); (try simp only [List.set_cons_zero])
    refine wpAnyH_done (by kernel_rfl) ?_ _
    clear hHeld
    go_wp2_with fail
    go_ret
    exact ⟨rfl, Hg4.out⟩
  · have z1 : (ph == 0) = false := by simpa using hz
    obtain ⟨x, hx, hl1, hl2, xa0, xa1, n1, n2, y0, y1, n3⟩ := HN.out hz
    generalize flowsF b = L at *
    refine wpAnyH_take (i := 9) (v := ?_) rfl (by kernel_rfl) (by kernel_rfl) (by kernel_rfl) (fun _ _ _ h => h) (Or.inl ⟨by rfl, ?_⟩) hHeld ?_
    rotate_left
    · intro w9 hSw
      clear hSw
      go_simp
      all_goals (try with_reducible rfl)
    (try simp only [Act.put]); (try simp only [List.getElem_toArray]); (try simp only [List.getElem_cons_succ]); (try simp only [List.getElem_cons_zero]); (try simp only [List.setIfInBounds_toArray]); (try simp only [List.set_cons_succ]); (try simp only [List.set_cons_zero])
    refine wpAnyH_take (i := 10) (v := ?_) rfl (by kernel_rfl) (by kernel_rfl) (by kernel_rfl) (fun _ _ _ h => h) (Or.inl ⟨by rfl, ?_⟩) hHeld ?_
    rotate_left
    · intro w9 hSw
      clear hSw
      go_simp
      all_goals (try with_reducible rfl)
    (try simp only [Act.put]); (try simp only [List.getElem_toArray]); (try simp only [List.getElem_cons_succ]); (try simp only [List.getElem_cons_zero]); (try simp only [List.setIfInBounds_toArray]); (try simp only [List.set_cons_succ]); (try simp only [List.set_cons_zero])
    refine wpAnyH_done (by kernel_rfl) ?_ _
    clear hHeld
    have Hx := hid hx
    clear hx hz z1
    (try clear c0 c1 c2 c3)
    have c0 := blk_cell Hb3.out 0 _ rfl
    have c1 := blk_cell Hb3.out 1 _ rfl
    have c2 := blk_cell Hb3.out 2 _ rfl
    have c3 := blk_cell Hb3.out 3 _ rfl
    go_wp2_with fail
    refine (HF.out _ (Hm.out.keep0 Hg3.out)).mono ?_
    rintro e' w4 ⟨fa, fn, fc, rfl, ho, _, hg⟩
    have Hg4 := hid (gr_trans0 Hg3.out hg)
    have Hb4 := hid (blk_keep Hb3.out hg (by simp))
    obtain ⟨k, hk⟩ : ∃ k, fn = k + 1 := ⟨fn - 1, by have := ho.len; omega⟩
    obtain ⟨lb, lo, z, rfl, hzx, l0, l1⟩ := flow_at ho.sl k (by omega)
    have hzz : z = x := by
      have h1 := Hx.out
      rw [ho.len, hk, show k + 1 - 1 = k by omega] at h1
      rw [h1] at hzx; exact (Option.some.inj hzx).symm
    subst hzz
    have hwk : IntKind.i64.wrap ((fn : Int) - 1) = (k : Int) := by rw [hk]; rw [show ((k + 1 : Nat) : Int) - 1 = k by omega]; exact IntWalk.i64_in _ (by have := ho.len; omega)
    have hi0 : (0 : Int) ≤ k := by omega
    have hi1 : (k : Int) < fn := by omega
    clear hg ho hzx hk
    (try clear c0 c1 c2 c3)
    have c0 := blk_cell Hb4.out 0 _ rfl
    have c1 := blk_cell Hb4.out 1 _ rfl
    have c2 := blk_cell Hb4.out 2 _ rfl
    have c3 := blk_cell Hb4.out 3 _ rfl
    go_wp2_with fail
    have ub : IntKind.i64.wrap (b.stop - 1) = b.stop - 1 := IntWalk.i64_in _ (by omega)
    clear hwk hi0 hi1 l0 l1
    refine (HQ.out _ (Hm.out.keep0 Hg4.out)).mono ?_
    rintro e' w5 ⟨rfl, hg⟩
    have Hg5 := hid (gr_alloc (gr_trans0 Hg4.out hg) (Obj.cells #[.int .i64 ql, .int .i64 qh] 25))
    have Hq5 := hid (heap_alloc_new w5 (Obj.cells #[.int .i64 ql, .int .i64 qh] 25))
    clear hg c0 c1 c2 c3 ub
    have q0 := blk_cell Hq5.out 0 _ rfl
    have q1 := blk_cell Hq5.out 1 _ rfl
    have v1 : IntKind.i64.wrap (z.amount * 1000000) = z.amount * 1000000 := IntWalk.i64_in _ (by omega)
    have v2 : IntKind.i64.wrap (1000000 + y) = 1000000 + y := IntWalk.i64_in _ (by omega)
    have hqb : 0 ≤ z.amount * 1000000 / (1000000 + y) ∧ z.amount * 1000000 / (1000000 + y) ≤ 521001 := ⟨Int.ediv_nonneg (by omega) (by omega), by omega⟩
    obtain ⟨c, hc⟩ : ∃ c, z.amount * 1000000 / (1000000 + y) = c := ⟨_, rfl⟩
    have v3 : IntKind.i64.wrap ((z.amount * 1000000).tdiv (1000000 + y)) = c := by rw [← hc]; exact IntWalk.i64_quo _ _ (by omega)
    rw [hc] at n2 hqb
    have v4 : IntKind.i64.wrap (c - 1) = c - 1 := IntWalk.i64_in _ (by omega)
    have v5 : ¬ (1000000 + y = 0) := by omega
    have t1 : decide (qh ≤ z.amount) = true := by simpa using n1
    have t2 : decide (c - 1 ≤ ql) = true := by simpa using n2
    clear hc hqb n1 n2
    go_wp2_with fail
    go_quiet (fail)
    go_wp2_with fail
    go_ret
    exact ⟨rfl, gr_drewN Hg5.out _⟩

set_option maxRecDepth 100000 in
theorem lifted (os : Os) (started : os.Started) (H : Type) (enc : TypeId × Value → H) :
    ReturnsInHanded {} Tryd.checked os 9 .any (fun w args => (Rows.fnPriceOfEndSpec.pre enc Tryd.prog Tryd.f9 Rows.fnPriceOfEndRow.domain false w args ∧ laidMetH Tryd.prog laidMonths w) ∧ sizedMet enc Tryd.prog Tryd.f9 (OpenSpec.ofChange Rows.fnPriceOfEndSpec) false w args) (Rows.fnPriceOfEndSpec.post enc Tryd.prog Tryd.f9 false true false false) := by
  refine returnsInHanded_of_change_and (C := Tryd.checked) (X := fun w _ => laidMetH Tryd.prog laidMonths w) (fun _ _ _ hh h => h.of_heap hh) Tryd.own started (by kernel_rfl) Tryd.func9
    (ChangeSpec.witness_shaped (enc := enc) (C := Tryd.checked) (os := os) (X := fun w _ => laidMetH Tryd.prog laidMonths w) false (World.doorLaid Tryd.prog 400 os) #[.slice none 0 0] 8 rfl (World.shaped_of_RefB (by kernel_rfl) (by kernel_rfl)) (by kernel_rfl) (by kernel_rfl) (by kernel_rfl) (door_met os _)) ?_
  intro W base args ds gs before hval0 hW _ _ hL _
  have hval : ∀ (j : Nat) t v, Tryd.f9.params[j]? = some t → args[j]? = some v → Value.okWide Tryd.prog W .any base t v := hval0
  have hW' := hW
  obtain ⟨p, q, hA0, hV, rfl, hfz, hnd⟩ := hW
  have hA : DataW.TrodAll enc Tryd.prog W 0 (fun _ => true) true Tryd.f9.params.toList args.toList ds p := hA0
  rw [Tryd.params9] at hA hval
  have hA2 := hA
  obtain ⟨v0, vs0, d0, ds0, p0, q0, hargs, rfl, rfl, h0, r0⟩ := trodAll_cons hA
  obtain ⟨rfl, rfl, rfl⟩ := trodAll_nil r0
  obtain rfl : args = #[v0] := by cases args; simp_all
  obtain ⟨g0, g1, rfl⟩ := vars_two hV
  have hlt : ∀ x ∈ (p0 ++ []) ++ q, x.block < W.heap.size := fun x hx => hW'.lt x hx
  obtain ⟨a0, n0, cap0, rfl⟩ := okWide_slice Tryd.underlying38 (hval 0 38 v0 rfl rfl)
  obtain ⟨fuel0, hf0⟩ := h0
  obtain ⟨xs0, hs0, hc0, hw0⟩ := sl_ints u8L (fun _ => rfl) rfl Tryd.underlying38 Tryd.underlying5 Tryd.cellsU8 hf0
  refine (walk a0 n0 cap0 xs0 W (months_of_laid hL) hs0 hc0 (fun z hz => u8_range (hw0 z hz))).mono fun e W' ⟨he, hg⟩ => ?_
  subst he
  have hb := below_of_gr hg
  refine ⟨_, rfl, _, _, _, [], p0 ++ [], q, hW', ?_, ?_, vars_stay hb hV, hb.frame _, fun h => by cases h⟩
  · exact trodAll_mk1 (shut_bool Tryd.underlying4 _)
  · exact args_stay hb _ _ _ _ hA2 (fun x hx => hlt x (List.mem_append_left _ (by simpa using hx))) (by intro t ht; simp at ht; subst ht; exact ⟨by kernel_rfl, of_decide_eq_true (by kernel_rfl)⟩)

set_option maxRecDepth 100000 in
theorem closed : joinedFacts Tryd.pinned.checked.prog 9 Tryd.f9 Rows.fnPriceOfEndSpec Rows.fnPriceOfEndRow = true := by
  rw [joinedFacts, show Tryd.pinned.checked.prog.mayEnter = true from Tryd.enters, show Tryd.pinned.checked.prog.liftsFinal = false from Tryd.lifts, show Tryd.pinned.checked.prog.make = some .cut from Tryd.cut]
  kernel_rfl

theorem row_holds : Rows.FnPriceOfEndSaid :=
  OpenClaim.holds_of_wide 9 Tryd.f9 rfl rfl rfl rfl rfl rfl rfl ⟨rfl, rfl, rfl, rfl, rfl⟩ rfl rfl rfl rfl rfl (by kernel_rfl) Tryd.func9 closed
    (of_decide_eq_true (by kernel_rfl)) (by unfold Func.isWrapper; first | (rw [if_pos (by decide +kernel)]; kernel_rfl) | (rw [if_neg (by decide +kernel)]; exact ⟨rfl, rfl⟩))
    (fun os started H enc _ => lifted os started H enc)

theorem holds : Rows.FnPriceOfEndCardSaid :=
  Claim7.holds_tied_plain_at .later [] [.data, .sentinel] true (true, "a4f7e9a3a2dd7febb91b59340b975e898b1d35a96e4db750cc7f4ee2cb25401f") false
    row_holds (fun _ h => by cases h) (by kernel_rfl) (fun _ h => by cases h) fnPriceOfEnd_row_tie rfl ⟨rfl, rfl⟩ (by kernel_rfl) rfl
    (fun f fn hf hfn => by
      obtain rfl : f = 9 := Option.some.inj ((show Tryd.prog.funcNamed "loop.example/bonddesk/laws.FnPriceOfEnd" = some 9 by kernel_rfl).symm.trans hf) |>.symm
      obtain rfl : fn = Tryd.f9 := (Option.some.inj (Tryd.func9.symm.trans hfn)).symm
      exact ⟨by kernel_rfl, fun j t ht => by
        rw [Tryd.params9] at ht
        have hm : t ∈ [38] := by simpa using Array.mem_of_getElem? ht
        have hall : ([38].all fun u => !Tryd.prog.wantsStandIn u) = true := by kernel_rfl
        exact (show Tryd.prog.wantsStandIn t = false by simpa using List.all_eq_true.1 hall t hm)⟩)
    (by kernel_rfl)
end FnPriceOfEnd
end Go.Proofs.YtkgjciacdjhhfaaDoor
