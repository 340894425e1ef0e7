/- For every input, FnShockOfOne returns true: shocks are falls of prices. No condition. -/
import Derived.Test.YtkgjciacdjhhfaaDoorRows
import Derived.Test.YtkgjciacdjhhfaaDoorCards
import Derived.Test.YtkgjciacdjhhfaaDoorTie
import Derived.Test.YtkgjciacdjhhfaaDoorShock
import Derived.Test.YtkgjciacdjhhfaaDoorSpecShock
import Derived.Test.YtkgjciacdjhhfaaDoorDrawShock
import Derived.Test.YtkgjciacdjhhfaaDoorFrame
import Derived.Test.YtkgjciacdjhhfaaDoorFrameL
import Derived.ProofKit
namespace Go.Proofs.YtkgjciacdjhhfaaDoor
open Go.ChangeShapes Go.WideShapes Go.ChangeAt Go.RowKit
namespace FnShockOfOne

theorem one_law {b : Bond} {day y : Int} {ss : List Int} (h : 0 ≤ shockF b day y ss) : shockF b day y [5000] = (priceF b day y).high - (priceF b day (min (y + 5000) 100000)).high ∧ -1000000 ≤ (priceF b day y).high - (priceF b day (min (y + 5000) 100000)).high ∧ (priceF b day y).high - (priceF b day (min (y + 5000) 100000)).high ≤ 1000000 := by
  have h1 := shock_one h
  obtain ⟨hr, h2, h3, _⟩ := shock_facts h
  have R := run_of hr
  refine ⟨h1, ?_⟩
  rw [price_in hr h2 h3, price_in hr (show 0 ≤ min (y + 5000) 100000 by omega) (by omega)]
  unfold priceR
  simp only
  have a := R.price_bd h2 h3
  have c := R.price_bd (y := min (y + 5000) 100000) (by omega) (by omega)
  have d := R.price_le h2 h3
  have e := R.price_le (y := min (y + 5000) 100000) (by omega) (by omega)
  omega

set_option maxRecDepth 100000 in
set_option maxHeartbeats 2000000 in
theorem walk (a : Option Addr) (n cap : Nat) (xs : List Int) (w : World) (hm : Months w) (hs : Sl u8L w a n xs) (hcap : n ≤ cap) (hx : ∀ x ∈ xs, 0 ≤ x ∧ x ≤ 255) :
    Calls Tryd.prog 17 #[.slice a n cap] w fun e w' => e = .returned (.bool true) ∧ w.grownBy w' none := by
  have Hx := hid hx
  have Hs := hid hs
  have Hm := hid hm
  have hbig := hs.big
  unfold maxLen at hbig
  clear hx hs hm
  by_cases hn : 1048576 < n
  · go_enter Tryd.func17, Tryd.ntmps17
    go_wp2_with fail
    go_ret
    exact ⟨rfl, gr_refl _ _⟩
  clear hbig
  go_enter Tryd.func17, Tryd.ntmps17
  go_wp2_with fail
  refine (DrawShockOf_any a n cap xs w Hs.out hcap Hx.out).mono ?_
  rintro e w1 ⟨b, day, y, ha, n1, cp, ss, rfl, hB, ⟨⟨hd0, hd1⟩, hy0, hy1⟩, hsl, hnc, hn8, hg⟩
  have Hb1 := hid (heap_alloc_new w1 (Obj.cells #[.int .i64 b.start, .int .i64 b.stop, .int .i64 b.months, .int .i64 b.rate] 27))
  have Hg1 := hid (gr_alloc hg (Obj.cells #[.int .i64 b.start, .int .i64 b.stop, .int .i64 b.months, .int .i64 b.rate] 27))
  have hBs0 := hB.s0; have hBs1 := hB.s1; have hBe0 := hB.e0; have hBe1 := hB.e1
  have hBm0 := hB.m0; have hBm1 := hB.m1; have hBr0 := hB.r0; have hBr1 := hB.r1
  clear hg
  have Hsl1 := hid (hsl.keep0 (gr_alloc (gr0 w1) (Obj.cells #[.int .i64 b.start, .int .i64 b.stop, .int .i64 b.months, .int .i64 b.rate] 27)))
  have HS := hid (fun wx (h : Months wx) (hs : Sl intL wx ha n1 ss) => ShockOf_any b day y ha n1 cp ss wx h hs)
  have HSp := hid (fun wx (hs : Sl intL wx ha n1 ss) => specShockOf_any b day y ha n1 cp ss wx hs)
  have HO := hid (fun (a : Option Addr) wx (h : Months wx) (hs : Sl intL wx a 1 [5000]) => ShockOf_any b day y a 1 1 [5000] wx h hs)
  have HN := hid (one_law (b := b) (day := day) (y := y) (ss := ss))
  obtain ⟨v, hv⟩ : ∃ v, shockF b day y ss = v := ⟨_, rfl⟩
  obtain ⟨z, hzy⟩ : ∃ z, min (y + 5000) 100000 = z := ⟨_, rfl⟩
  rw [hzy] at HN
  have Hmin := hid (show (if 100000 < y + 5000 then 100000 else y + 5000) = z by rw [← hzy]; split <;> omega)
  have Hmin2 := hid (show (if y + 5000 < 100000 then y + 5000 else 100000) = z by rw [← hzy]; split <;> omega)
  clear hzy
  have HP := hid (fun wx (h : Months wx) => PriceOf_any b day y wx h)
  have HQ := hid (fun wx (h : Months wx) => PriceOf_any b day z wx h)
  generalize (priceF b day y).low = pl at *
  generalize (priceF b day y).high = ph at *
  generalize (priceF b day z).low = ql at *
  generalize (priceF b day z).high = qh at *
  rw [hv] at HS HSp HN
  clear hv
  have e1 : (v != v) = false := by simp
  have e2 : (v == v) = true := by simp
  (try clear c0 c1 c2 c3)
  have c0 := blk_cell Hb1.out 0 _ rfl
  have c1 := blk_cell Hb1.out 1 _ rfl
  have c2 := blk_cell Hb1.out 2 _ rfl
  have c3 := blk_cell Hb1.out 3 _ rfl
  go_wp2_with fail
  refine (HS.out _ (Hm.out.keep0 Hg1.out) Hsl1.out).mono ?_
  rintro e' w2 ⟨rfl, hg⟩
  have Hgs2 := hid hg
  have Hg2 := hid (gr_trans0 Hg1.out hg)
  have Hb2 := hid (blk_keep Hb1.out hg (by simp))
  clear hg
  (try clear c0 c1 c2 c3)
  have c0 := blk_cell Hb2.out 0 _ rfl
  have c1 := blk_cell Hb2.out 1 _ rfl
  have c2 := blk_cell Hb2.out 2 _ rfl
  have c3 := blk_cell Hb2.out 3 _ rfl
  have Hsl2 := hid (Hsl1.out.keep0 Hgs2.out)
  go_wp2_with fail
  refine (HSp.out _ Hsl2.out).mono ?_
  rintro e' w3 ⟨rfl, hg⟩
  have Hgs3 := hid hg
  have Hg3 := hid (gr_trans0 Hg2.out hg)
  have Hb3 := hid (blk_keep Hb2.out hg (by simp))
  clear hg
  (try clear c0 c1 c2 c3)
  have c0 := blk_cell Hb3.out 0 _ rfl
  have c1 := blk_cell Hb3.out 1 _ rfl
  have c2 := blk_cell Hb3.out 2 _ rfl
  have c3 := blk_cell Hb3.out 3 _ rfl
  have Hsl3 := hid (Hsl2.out.keep0 Hgs3.out)
  by_cases h1 : v < 0
  · have t1 : decide (v < 0) = true := by simpa using h1
    clear h1 HN
    go_wp2_with fail
    refine (HSp.out _ Hsl3.out).mono ?_
    rintro e' w4 ⟨rfl, hg⟩
    have Hgs4 := hid hg
    have Hg4 := hid (gr_trans0 Hg3.out hg)
    have Hb4 := hid (blk_keep Hb3.out hg (by simp))
    clear hg
    (try clear c0 c1 c2 c3)
    have c0 := blk_cell Hb4.out 0 _ rfl
    have c1 := blk_cell Hb4.out 1 _ rfl
    have c2 := blk_cell Hb4.out 2 _ rfl
    have c3 := blk_cell Hb4.out 3 _ rfl
    go_wp2_with fail
    go_ret
    exact ⟨rfl, Hg4.out⟩
  have t1 : decide (v < 0) = false := by simpa using h1
  have HNN := hid (HN.out (by omega))
  rw [HNN.out.1] at HO
  have uz : IntKind.i64.wrap (ph - qh) = ph - qh := by have := HNN.out.2; exact IntWalk.i64_in _ (by omega)
  have uy : IntKind.i64.wrap (y + 5000) = y + 5000 := IntWalk.i64_in _ (by omega)
  have hmin := Hmin.out
  have hmin2 := Hmin2.out
  have Uz := hid uz
  clear h1 HN uz
  go_wp2_with fail
  refine (HP.out _ (Hm.out.keep0 Hg3.out)).mono ?_
  rintro e' w4 ⟨rfl, hg⟩
  have Hg4 := hid (gr_alloc (gr_trans0 Hg3.out hg) (Obj.cells #[.int .i64 pl, .int .i64 ph] 25))
  have Hb4 := hid (blk_alloc (blk_keep Hb3.out hg (by simp)) (Obj.cells #[.int .i64 pl, .int .i64 ph] 25))
  have Hn4 := hid (heap_alloc_new w4 (Obj.cells #[.int .i64 pl, .int .i64 ph] 25))
  clear hg
  (try clear c0 c1 c2 c3)
  have c0 := blk_cell Hb4.out 0 _ rfl
  have c1 := blk_cell Hb4.out 1 _ rfl
  have c2 := blk_cell Hb4.out 2 _ rfl
  have c3 := blk_cell Hb4.out 3 _ rfl
  go_wp2_with fail
  refine (HQ.out _ (Hm.out.keep0 Hg4.out)).mono ?_
  rintro e' w5 ⟨rfl, hg⟩
  have Hg5 := hid (gr_alloc (gr_trans0 Hg4.out hg) (Obj.cells #[.int .i64 ql, .int .i64 qh] 25))
  have Hb5 := hid (blk_alloc (blk_keep Hb4.out hg (by simp)) (Obj.cells #[.int .i64 ql, .int .i64 qh] 25))
  have Hn5 := hid (blk_alloc (blk_keep Hn4.out hg (by simp)) (Obj.cells #[.int .i64 ql, .int .i64 qh] 25))
  have Hq5 := hid (heap_alloc_new w5 (Obj.cells #[.int .i64 ql, .int .i64 qh] 25))
  clear hg c0 c1 c2 c3 uy hmin hmin2 HP HQ HS HSp
  go_wp2_with fail
  obtain ⟨E, hE⟩ : ∃ E, E = w4.heap.size := ⟨_, rfl⟩
  obtain ⟨F, hF⟩ : ∃ F, F = w5.heap.size := ⟨_, rfl⟩
  obtain ⟨B, hB⟩ : ∃ B, B = w1.heap.size := ⟨_, rfl⟩
  rw [← hE] at Hn5 ⊢
  rw [← hF] at Hq5 ⊢
  rw [← hB] at Hb5 ⊢
  generalize (w5.alloc (Obj.cells #[.int .i64 ql, .int .i64 qh] 25)) = W at *
  clear hE hF hB Hb1 Hb2 Hb3 Hb4 Hn4 Hg1 Hg2 Hg3 Hg4 Hgs2 Hgs3 Hsl1 Hsl2 Hsl3
  refine wp_region_held_drew (S := fun w' => w'.heap[B]? = some (.cells #[.int .i64 b.start, .int .i64 b.stop, .int .i64 b.months, .int .i64 b.rate] 27 (0, 0)) ∧ w'.heap[E]? = some (.cells #[.int .i64 pl, .int .i64 ph] 25 (0, 0)) ∧ w'.heap[F]? = some (.cells #[.int .i64 ql, .int .i64 qh] 25 (0, 0)) ∧ w.grownBy w' none) (by kernel_rfl) ⟨Hb5.out, Hn5.out, Hq5.out, gr_drew Hg5.out⟩ (fun hHeld => ?_)
  refine wpAnyH_take (i := 0) (v := ?_) rfl (by kernel_rfl) (by kernel_rfl) (by kernel_rfl) (fun _ _ _ h => h) (Or.inl ⟨by rfl, ?_⟩) hHeld ?_
  rotate_left
  · intro w9 hSw
    (obtain ⟨sb, sc, sd, _⟩ := hSw; have b0 := blk_cell sb 0 _ rfl; have b1 := blk_cell sb 1 _ rfl; have b2 := blk_cell sb 2 _ rfl; have b3 := blk_cell sb 3 _ rfl; have r1 := blk_cell sc 1 _ rfl; have q1 := blk_cell sd 1 _ rfl; clear sb sc sd)
    go_simp
    all_goals (try with_reducible rfl)
  (try simp only [Act.put]); (try simp only [List.getElem_toArray]); (try simp only [List.getElem_cons_succ]); (try simp only [List.getElem_cons_zero]); (try simp only [List.setIfInBounds_toArray]); (try simp only [List.set_cons_succ]); (try simp only [List.set_cons_zero])
  refine wpAnyH_take (i := 1) (v := ?_) rfl (by kernel_rfl) (by kernel_rfl) (by kernel_rfl) (fun _ _ _ h => h) (Or.inl ⟨by rfl, ?_⟩) hHeld ?_
  rotate_left
  · intro w9 hSw
    (obtain ⟨sb, sc, sd, _⟩ := hSw; have b0 := blk_cell sb 0 _ rfl; have b1 := blk_cell sb 1 _ rfl; have b2 := blk_cell sb 2 _ rfl; have b3 := blk_cell sb 3 _ rfl; have r1 := blk_cell sc 1 _ rfl; have q1 := blk_cell sd 1 _ rfl; clear sb sc sd)
    go_simp
    all_goals (try with_reducible rfl)
  (try simp only [Act.put]); (try simp only [List.getElem_toArray]); (try simp only [List.getElem_cons_succ]); (try simp only [List.getElem_cons_zero]); (try simp only [List.setIfInBounds_toArray]); (try simp only [List.set_cons_succ]); (try simp only [List.set_cons_zero])
  refine wpAnyH_take (i := 2) (v := ?_) rfl (by kernel_rfl) (by kernel_rfl) (by kernel_rfl) (fun _ _ _ h => h) (Or.inl ⟨by rfl, ?_⟩) hHeld ?_
  rotate_left
  · intro w9 hSw
    (obtain ⟨sb, sc, sd, _⟩ := hSw; have b0 := blk_cell sb 0 _ rfl; have b1 := blk_cell sb 1 _ rfl; have b2 := blk_cell sb 2 _ rfl; have b3 := blk_cell sb 3 _ rfl; have r1 := blk_cell sc 1 _ rfl; have q1 := blk_cell sd 1 _ rfl; clear sb sc sd)
    go_simp
    all_goals (try with_reducible rfl)
  (try simp only [Act.put]); (try simp only [List.getElem_toArray]); (try simp only [List.getElem_cons_succ]); (try simp only [List.getElem_cons_zero]); (try simp only [List.setIfInBounds_toArray]); (try simp only [List.set_cons_succ]); (try simp only [List.set_cons_zero])
  refine wpAnyH_take (i := 5) (v := ?_) rfl (by kernel_rfl) (by kernel_rfl) (by kernel_rfl) (fun _ _ _ h => h) (Or.inl ⟨by rfl, ?_⟩) hHeld ?_
  rotate_left
  · intro w9 hSw
    (obtain ⟨sb, sc, sd, _⟩ := hSw; have b0 := blk_cell sb 0 _ rfl; have b1 := blk_cell sb 1 _ rfl; have b2 := blk_cell sb 2 _ rfl; have b3 := blk_cell sb 3 _ rfl; have r1 := blk_cell sc 1 _ rfl; have q1 := blk_cell sd 1 _ rfl; clear sb sc sd)
    go_simp
    all_goals (try with_reducible rfl)
  (try simp only [Act.put]); (try simp only [List.getElem_toArray]); (try simp only [List.getElem_cons_succ]); (try simp only [List.getElem_cons_zero]); (try simp only [List.setIfInBounds_toArray]); (try simp only [List.set_cons_succ]); (try simp only [List.set_cons_zero])
  refine wpAnyH_take (i := 6) (v := ?_) rfl (by kernel_rfl) (by kernel_rfl) (by kernel_rfl) (fun _ _ _ h => h) (Or.inl ⟨by rfl, ?_⟩) hHeld ?_
  rotate_left
  · intro w9 hSw
    (obtain ⟨sb, sc, sd, _⟩ := hSw; have b0 := blk_cell sb 0 _ rfl; have b1 := blk_cell sb 1 _ rfl; have b2 := blk_cell sb 2 _ rfl; have b3 := blk_cell sb 3 _ rfl; have r1 := blk_cell sc 1 _ rfl; have q1 := blk_cell sd 1 _ rfl; clear sb sc sd)
    go_simp
    all_goals (try with_reducible rfl)
  (try simp only [Act.put]); (try simp only [List.getElem_toArray]); (try simp only [List.getElem_cons_succ]); (try simp only [List.getElem_cons_zero]); (try simp only [List.setIfInBounds_toArray]); (try simp only [List.set_cons_succ]); (try simp only [List.set_cons_zero])
  refine wpAnyH_take (i := 7) (v := ?_) rfl (by kernel_rfl) (by kernel_rfl) (by kernel_rfl) (fun _ _ _ h => h) (Or.inl ⟨by rfl, ?_⟩) hHeld ?_
  rotate_left
  · intro w9 hSw
    (obtain ⟨sb, sc, sd, _⟩ := hSw; have b0 := blk_cell sb 0 _ rfl; have b1 := blk_cell sb 1 _ rfl; have b2 := blk_cell sb 2 _ rfl; have b3 := blk_cell sb 3 _ rfl; have r1 := blk_cell sc 1 _ rfl; have q1 := blk_cell sd 1 _ rfl; clear sb sc sd)
    go_simp
    all_goals (try with_reducible rfl)
  (try simp only [Act.put]); (try simp only [List.getElem_toArray]); (try simp only [List.getElem_cons_succ]); (try simp only [List.getElem_cons_zero]); (try simp only [List.setIfInBounds_toArray]); (try simp only [List.set_cons_succ]); (try simp only [List.set_cons_zero])
  refine wpAnyH_take (i := 8) (v := ?_) rfl (by kernel_rfl) (by kernel_rfl) (by kernel_rfl) (fun _ _ _ h => h) (Or.inl ⟨by rfl, ?_⟩) hHeld ?_
  rotate_left
  · intro w9 hSw
    (obtain ⟨sb, sc, sd, _⟩ := hSw; have b0 := blk_cell sb 0 _ rfl; have b1 := blk_cell sb 1 _ rfl; have b2 := blk_cell sb 2 _ rfl; have b3 := blk_cell sb 3 _ rfl; have r1 := blk_cell sc 1 _ rfl; have q1 := blk_cell sd 1 _ rfl; clear sb sc sd)
    go_simp
    all_goals (try with_reducible rfl)
  (try simp only [Act.put]); (try simp only [List.getElem_toArray]); (try simp only [List.getElem_cons_succ]); (try simp only [List.getElem_cons_zero]); (try simp only [List.setIfInBounds_toArray]); (try simp only [List.set_cons_succ]); (try simp only [List.set_cons_zero])
  have uz := Uz.out
  refine wpAnyH_take (i := 9) (v := ?_) rfl (by kernel_rfl) (by kernel_rfl) (by kernel_rfl) (fun _ _ _ h => h) (Or.inl ⟨by rfl, ?_⟩) hHeld ?_
  rotate_left
  · intro w9 hSw
    clear hSw
    go_simp
    all_goals (try with_reducible rfl)
  (try simp only [Act.put]); (try simp only [List.getElem_toArray]); (try simp only [List.getElem_cons_succ]); (try simp only [List.getElem_cons_zero]); (try simp only [List.setIfInBounds_toArray]); (try simp only [List.set_cons_succ]); (try simp only [List.set_cons_zero])
  (try simp only [uz])
  clear uz
  refine wpAnyH_ready (rs := [3]) (by kernel_rfl) (by simp) ?_
  refine AllReadyH.cons rfl (fun K' hK' => ?_) AllReadyH.nil
  go_simp
  refine hK'.out _ _ ⟨blk_alloc hHeld.1 _, blk_alloc hHeld.2.1 _, blk_alloc hHeld.2.2.1 _, gr_alloc hHeld.2.2.2 _⟩ (fun hHeldN => ?_)
  clear hHeld
  have hHeld := hHeldN
  clear hK' K' hHeldN
  (try simp only [Act.put]); (try simp only [List.getElem_toArray]); (try simp only [List.getElem_cons_succ]); (try simp only [List.getElem_cons_zero]); (try simp only [List.setIfInBounds_toArray]); (try simp only [List.set_cons_succ]); (try simp only [List.set_cons_zero])
  refine wpAnyH_ready (rs := [4]) (by kernel_rfl) (by simp) ?_
  refine AllReadyH.cons rfl (fun K' hK' => ?_) AllReadyH.nil
  go_simp
  refine (HO.out _ _ (Hm.out.keep0 hHeld.2.2.2) (Sl.lit intL W.drew _ _ 1 [5000] rfl rfl (by omega))).mono ?_
  rintro e' w6 ⟨rfl, hg⟩
  (try simp only [])
  refine hK'.out _ _ ⟨blk_keep hHeld.1 hg (by simp), blk_keep hHeld.2.1 hg (by simp), blk_keep hHeld.2.2.1 hg (by simp), gr_trans0 hHeld.2.2.2 hg⟩ (fun hHeldN => ?_)
  clear hHeld hg
  have hHeld := hHeldN
  clear hK' K' hHeldN
  (try simp only [Act.put]); (try simp only [List.getElem_toArray]); (try simp only [List.getElem_cons_succ]); (try simp only [List.getElem_cons_zero]); (try simp only [List.setIfInBounds_toArray]); (try simp only [List.set_cons_succ]); (try simp only [List.set_cons_zero])
  refine wpAnyH_take (i := 10) (v := ?_) rfl (by kernel_rfl) (by kernel_rfl) (by kernel_rfl) (fun _ _ _ h => h) (Or.inl ⟨by rfl, ?_⟩) hHeld ?_
  rotate_left
  · intro w9 hSw
    clear hSw
    go_simp
    all_goals (try with_reducible rfl)
  (try simp only [Act.put]); (try simp only [List.getElem_toArray]); (try simp only [List.getElem_cons_succ]); (try simp only [List.getElem_cons_zero]); (try simp only [List.setIfInBounds_toArray]); (try simp only [List.set_cons_succ]); (try simp only [List.set_cons_zero])
  refine wpAnyH_take (i := 11) (v := ?_) rfl (by kernel_rfl) (by kernel_rfl) (by kernel_rfl) (fun _ _ _ h => h) (Or.inl ⟨by rfl, ?_⟩) hHeld ?_
  rotate_left
  · intro w9 hSw
    clear hSw
    go_simp
    all_goals (try with_reducible rfl)
  (try simp only [Act.put]); (try simp only [List.getElem_toArray]); (try simp only [List.getElem_cons_succ]); (try simp only [List.getElem_cons_zero]); (try simp only [List.setIfInBounds_toArray]); (try simp only [List.set_cons_succ]); (try simp only [List.set_cons_zero])
  refine wpAnyH_done (by kernel_rfl) ?_ _
  have HgF := hid hHeld.2.2.2
  clear hHeld
  go_wp2_with fail
  go_ret
  exact ⟨rfl, HgF.out⟩

set_option maxRecDepth 100000 in
theorem lifted (os : Os) (started : os.Started) (H : Type) (enc : TypeId × Value → H) :
    ReturnsInHanded {} Tryd.checked os 17 .any (fun w args => (Rows.fnShockOfOneSpec.pre enc Tryd.prog Tryd.f17 Rows.fnShockOfOneRow.domain false w args ∧ laidMetH Tryd.prog laidMonths w) ∧ sizedMet enc Tryd.prog Tryd.f17 (OpenSpec.ofChange Rows.fnShockOfOneSpec) false w args) (Rows.fnShockOfOneSpec.post enc Tryd.prog Tryd.f17 false true false false) := by
  refine returnsInHanded_of_change_and (C := Tryd.checked) (X := fun w _ => laidMetH Tryd.prog laidMonths w) (fun _ _ _ hh h => h.of_heap hh) Tryd.own started (by kernel_rfl) Tryd.func17
    (ChangeSpec.witness_shaped (enc := enc) (C := Tryd.checked) (os := os) (X := fun w _ => laidMetH Tryd.prog laidMonths w) false (World.doorLaid Tryd.prog 400 os) #[.slice none 0 0] 8 rfl (World.shaped_of_RefB (by kernel_rfl) (by kernel_rfl)) (by kernel_rfl) (by kernel_rfl) (by kernel_rfl) (door_met os _)) ?_
  intro W base args ds gs before hval0 hW _ _ hL _
  have hval : ∀ (j : Nat) t v, Tryd.f17.params[j]? = some t → args[j]? = some v → Value.okWide Tryd.prog W .any base t v := hval0
  have hW' := hW
  obtain ⟨p, q, hA0, hV, rfl, hfz, hnd⟩ := hW
  have hA : DataW.TrodAll enc Tryd.prog W 0 (fun _ => true) true Tryd.f17.params.toList args.toList ds p := hA0
  rw [Tryd.params17] at hA hval
  have hA2 := hA
  obtain ⟨v0, vs0, d0, ds0, p0, q0, hargs, rfl, rfl, h0, r0⟩ := trodAll_cons hA
  obtain ⟨rfl, rfl, rfl⟩ := trodAll_nil r0
  obtain rfl : args = #[v0] := by cases args; simp_all
  obtain ⟨g0, g1, rfl⟩ := vars_two hV
  have hlt : ∀ x ∈ (p0 ++ []) ++ q, x.block < W.heap.size := fun x hx => hW'.lt x hx
  obtain ⟨a0, n0, cap0, rfl⟩ := okWide_slice Tryd.underlying38 (hval 0 38 v0 rfl rfl)
  obtain ⟨fuel0, hf0⟩ := h0
  obtain ⟨xs0, hs0, hc0, hw0⟩ := sl_ints u8L (fun _ => rfl) rfl Tryd.underlying38 Tryd.underlying5 Tryd.cellsU8 hf0
  refine (walk a0 n0 cap0 xs0 W (months_of_laid hL) hs0 hc0 (fun z hz => u8_range (hw0 z hz))).mono fun e W' ⟨he, hg⟩ => ?_
  subst he
  have hb := below_of_gr hg
  refine ⟨_, rfl, _, _, _, [], p0 ++ [], q, hW', ?_, ?_, vars_stay hb hV, hb.frame _, fun h => by cases h⟩
  · exact trodAll_mk1 (shut_bool Tryd.underlying4 _)
  · exact args_stay hb _ _ _ _ hA2 (fun x hx => hlt x (List.mem_append_left _ (by simpa using hx))) (by intro t ht; simp at ht; subst ht; exact ⟨by kernel_rfl, of_decide_eq_true (by kernel_rfl)⟩)

set_option maxRecDepth 100000 in
theorem closed : joinedFacts Tryd.pinned.checked.prog 17 Tryd.f17 Rows.fnShockOfOneSpec Rows.fnShockOfOneRow = true := by
  rw [joinedFacts, show Tryd.pinned.checked.prog.mayEnter = true from Tryd.enters, show Tryd.pinned.checked.prog.liftsFinal = false from Tryd.lifts, show Tryd.pinned.checked.prog.make = some .cut from Tryd.cut]
  kernel_rfl

theorem row_holds : Rows.FnShockOfOneSaid :=
  OpenClaim.holds_of_wide 17 Tryd.f17 rfl rfl rfl rfl rfl rfl rfl ⟨rfl, rfl, rfl, rfl, rfl⟩ rfl rfl rfl rfl rfl (by kernel_rfl) Tryd.func17 closed
    (of_decide_eq_true (by kernel_rfl)) (by unfold Func.isWrapper; first | (rw [if_pos (by decide +kernel)]; kernel_rfl) | (rw [if_neg (by decide +kernel)]; exact ⟨rfl, rfl⟩))
    (fun os started H enc _ => lifted os started H enc)

theorem holds : Rows.FnShockOfOneCardSaid :=
  Claim7.holds_tied_plain_at .later [] [.data, .sentinel] true (true, "a4f7e9a3a2dd7febb91b59340b975e898b1d35a96e4db750cc7f4ee2cb25401f") false
    row_holds (fun _ h => by cases h) (by kernel_rfl) (fun _ h => by cases h) fnShockOfOne_row_tie rfl ⟨rfl, rfl⟩ (by kernel_rfl) rfl
    (fun f fn hf hfn => by
      obtain rfl : f = 17 := Option.some.inj ((show Tryd.prog.funcNamed "loop.example/bonddesk/laws.FnShockOfOne" = some 17 by kernel_rfl).symm.trans hf) |>.symm
      obtain rfl : fn = Tryd.f17 := (Option.some.inj (Tryd.func17.symm.trans hfn)).symm
      exact ⟨by kernel_rfl, fun j t ht => by
        rw [Tryd.params17] at ht
        have hm : t ∈ [38] := by simpa using Array.mem_of_getElem? ht
        have hall : ([38].all fun u => !Tryd.prog.wantsStandIn u) = true := by kernel_rfl
        exact (show Tryd.prog.wantsStandIn t = false by simpa using List.all_eq_true.1 hall t hm)⟩)
    (by kernel_rfl)
end FnShockOfOne
end Go.Proofs.YtkgjciacdjhhfaaDoor
