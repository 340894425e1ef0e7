/- For every input, FnShockOf returns true: more shocks are not milder. No condition. -/
import Derived.Test.YtkgjciacdjhhfaaDoorRows
import Derived.Test.YtkgjciacdjhhfaaDoorCards
import Derived.Test.YtkgjciacdjhhfaaDoorTie
import Derived.Test.YtkgjciacdjhhfaaDoorShock
import Derived.Test.YtkgjciacdjhhfaaDoorSpecShock
import Derived.Test.YtkgjciacdjhhfaaDoorDrawShock
import Derived.Test.YtkgjciacdjhhfaaDoorFrame
import Derived.Test.YtkgjciacdjhhfaaDoorFrameL
import Derived.ProofKit
namespace Go.Proofs.YtkgjciacdjhhfaaDoor
open Go.ChangeShapes Go.WideShapes Go.ChangeAt Go.RowKit
namespace FnShockOf

/- a block of its own is laid at the end of the world U -/
/- the shocks behind an empty slice of the call's own -/
/- the greatest shock behind it; the call; the end -/
theorem more_law {b : Bond} {day y : Int} {ss : List Int} {n : Nat} (hl : ss.length = n) (h : 0 ≤ shockF b day y ss) : (n ≠ 6 → shockF b day y ss ≤ shockF b day y (ss ++ [30000])) ∧ shockF b day y [-20000, 0] = 0 ∧ 1 ≤ n ∧ n ≤ 6 := by
  have h1 := shock_more h
  obtain ⟨_, _, _, h4, h5, _⟩ := shock_facts h
  exact ⟨fun hn => h1.1 (by omega), h1.2, by omega, by omega⟩

set_option maxRecDepth 100000 in
set_option maxHeartbeats 2000000 in
theorem walk (a : Option Addr) (n cap : Nat) (xs : List Int) (w : World) (hm : Months w) (hs : Sl u8L w a n xs) (hcap : n ≤ cap) (hx : ∀ x ∈ xs, 0 ≤ x ∧ x ≤ 255) :
    Calls Tryd.prog 16 #[.slice a n cap] w fun e w' => e = .returned (.bool true) ∧ w.grownBy w' none := by
  have Hx := hid hx
  have Hs := hid hs
  have Hm := hid hm
  have hbig := hs.big
  unfold maxLen at hbig
  clear hx hs hm
  by_cases hn : 1048576 < n
  · go_enter Tryd.func16, Tryd.ntmps16
    go_wp2_with fail
    go_ret
    exact ⟨rfl, gr_refl _ _⟩
  clear hbig
  obtain ⟨i0, hi, hz0, hz1, hz2⟩ := info_parts infoInt
  go_enter Tryd.func16, Tryd.ntmps16
  go_wp2_with fail
  refine (DrawShockOf_any a n cap xs w Hs.out hcap Hx.out).mono ?_
  rintro e w1 ⟨b, day, y, ha, n1, cp, ss, rfl, hB, ⟨⟨hd0, hd1⟩, hy0, hy1⟩, hsl, hnc, hn8, hg⟩
  have Hb1 := hid (heap_alloc_new w1 (Obj.cells #[.int .i64 b.start, .int .i64 b.stop, .int .i64 b.months, .int .i64 b.rate] 27))
  have Hg1 := hid (gr_alloc hg (Obj.cells #[.int .i64 b.start, .int .i64 b.stop, .int .i64 b.months, .int .i64 b.rate] 27))
  have hBs0 := hB.s0; have hBs1 := hB.s1; have hBe0 := hB.e0; have hBe1 := hB.e1
  have hBm0 := hB.m0; have hBm1 := hB.m1; have hBr0 := hB.r0; have hBr1 := hB.r1
  clear hg
  have Hsl1 := hid (hsl.keep0 (gr_alloc (gr0 w1) (Obj.cells #[.int .i64 b.start, .int .i64 b.stop, .int .i64 b.months, .int .i64 b.rate] 27)))
  have HS := hid (fun wx (h : Months wx) (hs : Sl intL wx ha n1 ss) => ShockOf_any b day y ha n1 cp ss wx h hs)
  have HSp := hid (fun wx (hs : Sl intL wx ha n1 ss) => specShockOf_any b day y ha n1 cp ss wx hs)
  have HMo := hid (fun (a : Option Addr) (c : Nat) wx (h : Months wx) (hs : Sl intL wx a (n1 + 1) (ss ++ [30000])) => ShockOf_any b day y a (n1 + 1) c (ss ++ [30000]) wx h hs)
  have HT := hid (fun (a : Option Addr) wx (h : Months wx) (hs : Sl intL wx a 2 [-20000, 0]) => ShockOf_any b day y a 2 2 [-20000, 0] wx h hs)
  have HN := hid (more_law (b := b) (day := day) (y := y) hsl.len)
  have Hfl := hid (show (ss.flatMap intL.cells).length = n1 * 1 by rw [flat_len, hsl.len]; rfl)
  have Hone := hid (show ∀ u ∈ ss.flatMap intL.cells, u.oneCell' = true by
    intro u hu
    obtain ⟨x, _, hx⟩ := List.mem_flatMap.1 hu
    simp only [intL, List.mem_singleton] at hx
    subst hx; rfl)
  obtain ⟨v, hv⟩ : ∃ v, shockF b day y ss = v := ⟨_, rfl⟩
  obtain ⟨mv, hmv⟩ : ∃ mv, shockF b day y (ss ++ [30000]) = mv := ⟨_, rfl⟩
  rw [hmv] at HMo HN
  clear hmv
  rw [hv] at HS HSp HN
  clear hv
  have e1 : (v != v) = false := by simp
  have e2 : (v == v) = true := by simp
  (try clear c0 c1 c2 c3)
  have c0 := blk_cell Hb1.out 0 _ rfl
  have c1 := blk_cell Hb1.out 1 _ rfl
  have c2 := blk_cell Hb1.out 2 _ rfl
  have c3 := blk_cell Hb1.out 3 _ rfl
  go_wp2_with fail
  refine (HS.out _ (Hm.out.keep0 Hg1.out) Hsl1.out).mono ?_
  rintro e' w2 ⟨rfl, hg⟩
  have Hgs2 := hid hg
  have Hg2 := hid (gr_trans0 Hg1.out hg)
  have Hb2 := hid (blk_keep Hb1.out hg (by simp))
  clear hg
  (try clear c0 c1 c2 c3)
  have c0 := blk_cell Hb2.out 0 _ rfl
  have c1 := blk_cell Hb2.out 1 _ rfl
  have c2 := blk_cell Hb2.out 2 _ rfl
  have c3 := blk_cell Hb2.out 3 _ rfl
  have Hsl2 := hid (Hsl1.out.keep0 Hgs2.out)
  go_wp2_with fail
  refine (HSp.out _ Hsl2.out).mono ?_
  rintro e' w3 ⟨rfl, hg⟩
  have Hgs3 := hid hg
  have Hg3 := hid (gr_trans0 Hg2.out hg)
  have Hb3 := hid (blk_keep Hb2.out hg (by simp))
  clear hg
  (try clear c0 c1 c2 c3)
  have c0 := blk_cell Hb3.out 0 _ rfl
  have c1 := blk_cell Hb3.out 1 _ rfl
  have c2 := blk_cell Hb3.out 2 _ rfl
  have c3 := blk_cell Hb3.out 3 _ rfl
  have Hsl3 := hid (Hsl2.out.keep0 Hgs3.out)
  by_cases h1 : v < 0
  · have t1 : decide (v < 0) = true := by simpa using h1
    clear h1 HN
    go_wp2_with fail
    refine (HSp.out _ Hsl3.out).mono ?_
    rintro e' w4 ⟨rfl, hg⟩
    have Hgs4 := hid hg
    have Hg4 := hid (gr_trans0 Hg3.out hg)
    have Hb4 := hid (blk_keep Hb3.out hg (by simp))
    clear hg
    (try clear c0 c1 c2 c3)
    have c0 := blk_cell Hb4.out 0 _ rfl
    have c1 := blk_cell Hb4.out 1 _ rfl
    have c2 := blk_cell Hb4.out 2 _ rfl
    have c3 := blk_cell Hb4.out 3 _ rfl
    go_wp2_with fail
    go_ret
    exact ⟨rfl, Hg4.out⟩
  have t1 : decide (v < 0) = false := by simpa using h1
  have HNN := hid (HN.out (by omega))
  rw [HNN.out.2.1] at HT
  have hn1 := HNN.out.2.2.1
  have hn6 := HNN.out.2.2.2
  obtain ⟨sb, so, rfl, hsb, _⟩ := Hsl1.out.mem (by omega)
  have HcF := hid (show ∀ wx, Sl intL wx (some ⟨sb, so, none⟩) n1 ss → ∀ (j : Nat) (u : Value), (ss.flatMap intL.cells)[j]? = some u → wx.cell? ((⟨sb, so, none⟩ : Addr).add j) = some u from fun wx hs j u hj => by
    have hj2 : j < n1 := by
      have := lt_of_at hj
      rw [Hfl.out] at this; omega
    obtain ⟨b', off', x, e, hx, hc⟩ := int_at hs j hj2
    have hf := flat_at intL ss j x hx 0 (.int .i64 x) rfl
    rw [show j * intL.sz + 0 = j by simp [intL], hj] at hf
    cases hf
    cases e
    have : (⟨sb, so, none⟩ : Addr).add j = ⟨sb, so + j, none⟩ := by unfold Addr.add; split <;> simp_all
    rw [this]; exact hc)
  have hbB := blk_lt Hb1.out
  have hsz := gr_le Hgs2.out
  have hsz3 := gr_le Hgs3.out
  have hwW := gr_le Hg3.out
  clear h1 HN HS HSp Hb1 Hb2 Hg1 Hg2 Hsl1 Hsl2 c0 c1 c2 c3
  go_wp2_with fail
  obtain ⟨B, hB⟩ : ∃ B, B = w1.heap.size := ⟨_, rfl⟩
  rw [← hB] at Hb3 ⊢
  have hBW := blk_lt Hb3.out
  have hsW : sb < w3.heap.size := by omega
  obtain ⟨BS, hBS⟩ : ∃ BS, w3.heap.size = BS := ⟨_, rfl⟩
  rw [hBS] at hBW hsW hwW
  clear hB hbB hsz hsz3 hsb
  refine wp_region_held_drew (S := fun w' => w'.heap[B]? = some (.cells #[.int .i64 b.start, .int .i64 b.stop, .int .i64 b.months, .int .i64 b.rate] 27 (0, 0)) ∧ Sl intL w' (some ⟨sb, so, none⟩) n1 ss ∧ w.grownBy w' none ∧ BS ≤ w'.heap.size) (by kernel_rfl) ⟨Hb3.out, Hsl3.out.keep0 (gr_drew (gr0 _)), gr_drew Hg3.out, by rw [← hBS]; exact Nat.le_refl _⟩ (fun hHeld => ?_)
  refine wpAnyH_take (i := 0) (v := ?_) rfl (by kernel_rfl) (by kernel_rfl) (by kernel_rfl) (fun _ _ _ h => h) (Or.inl ⟨by rfl, ?_⟩) hHeld ?_
  rotate_left
  · intro w9 hSw
    (obtain ⟨sb, _⟩ := hSw; have b0 := blk_cell sb 0 _ rfl; have b1 := blk_cell sb 1 _ rfl; have b2 := blk_cell sb 2 _ rfl; have b3 := blk_cell sb 3 _ rfl; clear sb)
    go_simp
    all_goals (try with_reducible rfl)
  (try simp only [Act.put]); (try simp only [List.getElem_toArray]); (try simp only [List.getElem_cons_succ]); (try simp only [List.getElem_cons_zero]); (try simp only [List.setIfInBounds_toArray]); (try simp only [List.set_cons_succ]); (try simp only [List.set_cons_zero])
  refine wpAnyH_take (i := 1) (v := ?_) rfl (by kernel_rfl) (by kernel_rfl) (by kernel_rfl) (fun _ _ _ h => h) (Or.inl ⟨by rfl, ?_⟩) hHeld ?_
  rotate_left
  · intro w9 hSw
    (obtain ⟨sb, _⟩ := hSw; have b0 := blk_cell sb 0 _ rfl; have b1 := blk_cell sb 1 _ rfl; have b2 := blk_cell sb 2 _ rfl; have b3 := blk_cell sb 3 _ rfl; clear sb)
    go_simp
    all_goals (try with_reducible rfl)
  (try simp only [Act.put]); (try simp only [List.getElem_toArray]); (try simp only [List.getElem_cons_succ]); (try simp only [List.getElem_cons_zero]); (try simp only [List.setIfInBounds_toArray]); (try simp only [List.set_cons_succ]); (try simp only [List.set_cons_zero])
  refine wpAnyH_take (i := 2) (v := ?_) rfl (by kernel_rfl) (by kernel_rfl) (by kernel_rfl) (fun _ _ _ h => h) (Or.inl ⟨by rfl, ?_⟩) hHeld ?_
  rotate_left
  · intro w9 hSw
    (obtain ⟨sb, _⟩ := hSw; have b0 := blk_cell sb 0 _ rfl; have b1 := blk_cell sb 1 _ rfl; have b2 := blk_cell sb 2 _ rfl; have b3 := blk_cell sb 3 _ rfl; clear sb)
    go_simp
    all_goals (try with_reducible rfl)
  (try simp only [Act.put]); (try simp only [List.getElem_toArray]); (try simp only [List.getElem_cons_succ]); (try simp only [List.getElem_cons_zero]); (try simp only [List.setIfInBounds_toArray]); (try simp only [List.set_cons_succ]); (try simp only [List.set_cons_zero])
  refine wpAnyH_take (i := 4) (v := ?_) rfl (by kernel_rfl) (by kernel_rfl) (by kernel_rfl) (fun _ _ _ h => h) (Or.inl ⟨by rfl, ?_⟩) hHeld ?_
  rotate_left
  · intro w9 hSw
    clear hSw
    go_simp
    all_goals (try with_reducible rfl)
  (try simp only [Act.put]); (try simp only [List.getElem_toArray]); (try simp only [List.getElem_cons_succ]); (try simp only [List.getElem_cons_zero]); (try simp only [List.setIfInBounds_toArray]); (try simp only [List.set_cons_succ]); (try simp only [List.set_cons_zero])
  have hownE : (w3.drew.alloc (.cells #[] 3)).ownsRow BS 3 1 (.slice (some ⟨BS, 0, none⟩) 0 0) 0 [] := by rw [← hBS]; exact World.ownsRow_made w3.drew #[] 0 (Nat.le_refl _) (by decide) rfl
  refine wpAnyH_ready (rs := [3, 6]) (by kernel_rfl) (by simp) ?_
  refine AllReadyH.cons rfl (fun K' hK' => ?_) (AllReadyH.cons rfl (fun K' hK' => ?_) AllReadyH.nil)
  · go_simp
    refine hK'.out _ _ ⟨blk_alloc hHeld.1 _, hHeld.2.1.keep0 (gr_alloc (gr0 _) _), gr_alloc hHeld.2.2.1 _, by have := hHeld.2.2.2; simp; omega⟩ (fun hHeldN => ?_)
    clear hHeld
    have hHeld := hHeldN
    clear hK' K' hHeldN
    (try simp only [Act.put]); (try simp only [List.getElem_toArray]); (try simp only [List.getElem_cons_succ]); (try simp only [List.getElem_cons_zero]); (try simp only [List.setIfInBounds_toArray]); (try simp only [List.set_cons_succ]); (try simp only [List.set_cons_zero])
    refine wpAnyH_ready (rs := [5, 6]) (by kernel_rfl) (by simp) ?_
    refine AllReadyH.cons rfl (fun K' hK' => ?_) (AllReadyH.cons rfl (fun K' hK' => ?_) AllReadyH.nil)
    · refine step_append_lies _ (by rfl) _ _ _ (by rfl) BS 3 i0 _ 1 8 Tryd.underlying33 hi hz0 hz1 hz2 (by rfl) (by decide) _ 0 [] (by rfl) (hownE) ⟨sb, so, none⟩ n1 cp (ss.flatMap intL.cells) (by rfl) Hfl.out (fun j u hj => by have := HcF.out _ hHeld.2.1 j u hj; exact this) Hone.out (by omega) (by unfold maxLen; omega) (by omega) (by have := hHeld.2.2.2; first | exact this | (simp at this ⊢; omega)) _ rfl ?_
      intro g gc w9 hown9 hgo9 hat9 hlt9
      have hgn : ∀ k, (Value.slice (some ⟨BS, 0, none⟩) 0 0).ownBlock = some k → BS ≤ k := fun k e => by simp [Value.ownBlock] at e; subst e; exact Nat.le_refl _
      refine hK'.out _ _ ⟨blk_keep hHeld.1 hgo9 (fun k e => by have := hgn k e; omega), hHeld.2.1.keep hgo9 (fun _ b off e er => by cases e; have := hgn _ er; omega), gr_own hHeld.2.2.1 hgo9 (fun k e => by have := hgn k e; omega), Nat.le_trans hHeld.2.2.2 hgo9.size⟩ (fun hHeldN => ?_)
      clear hHeld
      have hHeld := hHeldN
      clear hK' K' hHeldN
      (try simp only [Act.put]); (try simp only [List.getElem_toArray]); (try simp only [List.getElem_cons_succ]); (try simp only [List.getElem_cons_zero]); (try simp only [List.setIfInBounds_toArray]); (try simp only [List.set_cons_succ]); (try simp only [List.set_cons_zero])
      (try simp only [Nat.zero_add])
      have hown : w9.ownsRow BS 3 1 (.slice (some ⟨g, 0, none⟩) n1 gc) n1 (ss.flatMap intL.cells) := by simpa using hown9
      have hgB : BS ≤ g := (hown.lt g rfl).1
      clear hown9
      refine wpAnyH_ready (rs := [6]) (by kernel_rfl) (by simp) ?_
      refine AllReadyH.cons rfl (fun K' hK' => ?_) AllReadyH.nil
      have hMB : BS ≤ w9.heap.size := hHeld.2.2.2
      go_simp
      refine hK'.out _ _ ⟨blk_alloc hHeld.1 _, hHeld.2.1.keep0 (gr_alloc (gr0 _) _), gr_alloc hHeld.2.2.1 _, by have := hHeld.2.2.2; simp; omega⟩ (fun hHeldN => ?_)
      clear hHeld
      have hHeld := hHeldN
      clear hK' K' hHeldN
      (try simp only [Act.put]); (try simp only [List.getElem_toArray]); (try simp only [List.getElem_cons_succ]); (try simp only [List.getElem_cons_zero]); (try simp only [List.setIfInBounds_toArray]); (try simp only [List.set_cons_succ]); (try simp only [List.set_cons_zero])
      have hM : (w9.alloc (.cells #[.int .i64 30000] 3)).cell? ⟨w9.heap.size, 0, none⟩ = some (.int .i64 30000) := blk_cell (heap_alloc_new w9 _) 0 _ rfl
      have hown := hown.alloc (.cells #[.int .i64 30000] 3)
      obtain ⟨M, hMe⟩ : ∃ M, M = w9.heap.size := ⟨_, rfl⟩
      rw [← hMe] at hM ⊢
      clear hMe hMB
      refine wpAnyH_ready (rs := [7]) (by kernel_rfl) (by simp) ?_
      refine AllReadyH.cons rfl (fun K' hK' => ?_) AllReadyH.nil
      refine step_append_lies _ (by rfl) _ _ _ (by rfl) BS 3 i0 _ 1 8 Tryd.underlying33 hi hz0 hz1 hz2 (by rfl) (by decide) _ n1 (ss.flatMap intL.cells) (by rfl) hown ⟨M, 0, none⟩ 1 1 [.int .i64 30000] (by rfl) (by rfl) (fun j u hj => by cases j with
        | zero => simp at hj; subst hj; exact hM
        | succ j => simp at hj) (by simp [Value.oneCell']) (by decide) (by unfold maxLen; omega) (by omega) (by have := hHeld.2.2.2; first | exact this | (simp at this ⊢; omega)) _ rfl ?_
      intro g2 gc2 w8 hown8 hgo8 hat8 hlt8
      have hgn8 : ∀ k, (Value.slice (some ⟨g, 0, none⟩) n1 gc).ownBlock = some k → BS ≤ k := fun k e => by simp [Value.ownBlock] at e; subst e; exact hgB
      have hsl8 : Sl intL w8 (some ⟨g2, 0, none⟩) (n1 + 1) (ss ++ [30000]) := by
        have h9 : ss.flatMap intL.cells ++ [.int .i64 30000] = (ss ++ [30000]).flatMap intL.cells := by simp [intL]
        rw [h9] at hown8
        exact (Ow.own_ints hown8 (by omega)).sl
      refine hK'.out _ _ ⟨blk_keep hHeld.1 hgo8 (fun k e => by have := hgn8 k e; omega), hHeld.2.1.keep hgo8 (fun _ b off e er => by cases e; have := hgn8 _ er; omega), gr_own hHeld.2.2.1 hgo8 (fun k e => by have := hgn8 k e; omega), Nat.le_trans hHeld.2.2.2 hgo8.size⟩ (fun hHeldN => ?_)
      clear hHeld
      have hHeld := hHeldN
      clear hK' K' hHeldN
      (try simp only [Act.put]); (try simp only [List.getElem_toArray]); (try simp only [List.getElem_cons_succ]); (try simp only [List.getElem_cons_zero]); (try simp only [List.setIfInBounds_toArray]); (try simp only [List.set_cons_succ]); (try simp only [List.set_cons_zero])
      refine wpAnyH_ready (rs := [8]) (by kernel_rfl) (by simp) ?_
      refine AllReadyH.cons rfl (fun K' hK' => ?_) AllReadyH.nil
      go_simp
      refine (HMo.out _ _ _ (Hm.out.keep0 hHeld.2.2.1) hsl8).mono ?_
      rintro e' w7 ⟨rfl, hg⟩
      (try simp only [])
      refine hK'.out _ _ ⟨blk_keep hHeld.1 hg (by simp), hHeld.2.1.keep0 hg, gr_trans0 hHeld.2.2.1 hg, Nat.le_trans hHeld.2.2.2 (gr_le hg)⟩ (fun hHeldN => ?_)
      clear hHeld
      have hHeld := hHeldN
      clear hK' K' hHeldN
      (try simp only [Act.put]); (try simp only [List.getElem_toArray]); (try simp only [List.getElem_cons_succ]); (try simp only [List.getElem_cons_zero]); (try simp only [List.setIfInBounds_toArray]); (try simp only [List.set_cons_succ]); (try simp only [List.set_cons_zero])
      refine wpAnyH_take (i := 9) (v := ?_) rfl (by kernel_rfl) (by kernel_rfl) (by kernel_rfl) (fun _ _ _ h => h) (Or.inl ⟨by rfl, ?_⟩) hHeld ?_
      rotate_left
      · intro w9 hSw
        clear hSw
        go_simp
        all_goals (try with_reducible rfl)
      (try simp only [Act.put]); (try simp only [List.getElem_toArray]); (try simp only [List.getElem_cons_succ]); (try simp only [List.getElem_cons_zero]); (try simp only [List.setIfInBounds_toArray]); (try simp only [List.set_cons_succ]); (try simp only [List.set_cons_zero])
      refine wpAnyH_done (by kernel_rfl) ?_ _
      have Hb7 := hid hHeld.1
      have Hg7 := hid hHeld.2.2.1
      clear hHeld
      have b0 := blk_cell Hb7.out 0 _ rfl
      have b1 := blk_cell Hb7.out 1 _ rfl
      have b2 := blk_cell Hb7.out 2 _ rfl
      have b3 := blk_cell Hb7.out 3 _ rfl
      by_cases h6 : n1 = 6
      · have t6 : ((n1 : Int) == 6) = true := by simpa using (by omega : (n1 : Int) = 6)
        clear h6
        go_wp2_with fail
        refine (HT.out _ _ (Hm.out.keep0 (gr_alloc Hg7.out _)) (Sl.lit intL w7 _ _ 2 [-20000, 0] rfl rfl (by omega))).mono ?_
        rintro e' w6 ⟨rfl, hg⟩
        have Hg6 := hid (gr_trans0 (gr_alloc Hg7.out _) hg)
        clear hg
        go_wp2_with fail
        go_ret
        exact ⟨rfl, Hg6.out⟩
      · have t6 : ((n1 : Int) == 6) = false := by simpa using (by omega : ¬ (n1 : Int) = 6)
        have t7 : decide (v ≤ mv) = true := by simpa using HNN.out.1 h6
        clear h6
        go_wp2_with fail
        refine (HT.out _ _ (Hm.out.keep0 (gr_alloc Hg7.out _)) (Sl.lit intL w7 _ _ 2 [-20000, 0] rfl rfl (by omega))).mono ?_
        rintro e' w6 ⟨rfl, hg⟩
        have Hg6 := hid (gr_trans0 (gr_alloc Hg7.out _) hg)
        clear hg
        go_wp2_with fail
        go_ret
        exact ⟨rfl, Hg6.out⟩
    · go_simp
      refine hK'.out _ _ ⟨blk_alloc hHeld.1 _, hHeld.2.1.keep0 (gr_alloc (gr0 _) _), gr_alloc hHeld.2.2.1 _, by have := hHeld.2.2.2; simp; omega⟩ (fun hHeldN => ?_)
      clear hHeld
      have hHeld := hHeldN
      clear hK' K' hHeldN
      (try simp only [Act.put]); (try simp only [List.getElem_toArray]); (try simp only [List.getElem_cons_succ]); (try simp only [List.getElem_cons_zero]); (try simp only [List.setIfInBounds_toArray]); (try simp only [List.set_cons_succ]); (try simp only [List.set_cons_zero])
      have hM : ((w3.drew.alloc (.cells #[] 3)).alloc (.cells #[.int .i64 30000] 3)).cell? ⟨(w3.drew.alloc (.cells #[] 3)).heap.size, 0, none⟩ = some (.int .i64 30000) := blk_cell (heap_alloc_new _ _) 0 _ rfl
      have hownE := hownE.alloc (.cells #[.int .i64 30000] 3)
      have hMs : (w3.drew.alloc (.cells #[] 3)).heap.size = BS + 1 := by rw [World.size_alloc, ← hBS]; rfl
      rw [hMs] at hM
      refine wpAnyH_ready (rs := [5]) (by kernel_rfl) (by simp) ?_
      refine AllReadyH.cons rfl (fun K' hK' => ?_) AllReadyH.nil
      refine step_append_lies _ (by rfl) _ _ _ (by rfl) BS 3 i0 _ 1 8 Tryd.underlying33 hi hz0 hz1 hz2 (by rfl) (by decide) _ 0 [] (by rfl) (hownE) ⟨sb, so, none⟩ n1 cp (ss.flatMap intL.cells) (by rfl) Hfl.out (fun j u hj => by have := HcF.out _ hHeld.2.1 j u hj; exact this) Hone.out (by omega) (by unfold maxLen; omega) (by omega) (by have := hHeld.2.2.2; first | exact this | (simp at this ⊢; omega)) _ rfl ?_
      intro g gc w9 hown9 hgo9 hat9 hlt9
      have hgn : ∀ k, (Value.slice (some ⟨BS, 0, none⟩) 0 0).ownBlock = some k → BS ≤ k := fun k e => by simp [Value.ownBlock] at e; subst e; exact Nat.le_refl _
      refine hK'.out _ _ ⟨blk_keep hHeld.1 hgo9 (fun k e => by have := hgn k e; omega), hHeld.2.1.keep hgo9 (fun _ b off e er => by cases e; have := hgn _ er; omega), gr_own hHeld.2.2.1 hgo9 (fun k e => by have := hgn k e; omega), Nat.le_trans hHeld.2.2.2 hgo9.size⟩ (fun hHeldN => ?_)
      clear hHeld
      have hHeld := hHeldN
      clear hK' K' hHeldN
      (try simp only [Act.put]); (try simp only [List.getElem_toArray]); (try simp only [List.getElem_cons_succ]); (try simp only [List.getElem_cons_zero]); (try simp only [List.setIfInBounds_toArray]); (try simp only [List.set_cons_succ]); (try simp only [List.set_cons_zero])
      (try simp only [Nat.zero_add])
      have hown : w9.ownsRow BS 3 1 (.slice (some ⟨g, 0, none⟩) n1 gc) n1 (ss.flatMap intL.cells) := by simpa using hown9
      have hgB : BS ≤ g := (hown.lt g rfl).1
      clear hown9
      have hM := hgo9.cell hM (by simp [Value.ownBlock])
      obtain ⟨M, hMe⟩ : ∃ M, M = BS + 1 := ⟨_, rfl⟩
      rw [← hMe] at hM ⊢
      clear hMe hMs
      refine wpAnyH_ready (rs := [7]) (by kernel_rfl) (by simp) ?_
      refine AllReadyH.cons rfl (fun K' hK' => ?_) AllReadyH.nil
      refine step_append_lies _ (by rfl) _ _ _ (by rfl) BS 3 i0 _ 1 8 Tryd.underlying33 hi hz0 hz1 hz2 (by rfl) (by decide) _ n1 (ss.flatMap intL.cells) (by rfl) hown ⟨M, 0, none⟩ 1 1 [.int .i64 30000] (by rfl) (by rfl) (fun j u hj => by cases j with
        | zero => simp at hj; subst hj; exact hM
        | succ j => simp at hj) (by simp [Value.oneCell']) (by decide) (by unfold maxLen; omega) (by omega) (by have := hHeld.2.2.2; first | exact this | (simp at this ⊢; omega)) _ rfl ?_
      intro g2 gc2 w8 hown8 hgo8 hat8 hlt8
      have hgn8 : ∀ k, (Value.slice (some ⟨g, 0, none⟩) n1 gc).ownBlock = some k → BS ≤ k := fun k e => by simp [Value.ownBlock] at e; subst e; exact hgB
      have hsl8 : Sl intL w8 (some ⟨g2, 0, none⟩) (n1 + 1) (ss ++ [30000]) := by
        have h9 : ss.flatMap intL.cells ++ [.int .i64 30000] = (ss ++ [30000]).flatMap intL.cells := by simp [intL]
        rw [h9] at hown8
        exact (Ow.own_ints hown8 (by omega)).sl
      refine hK'.out _ _ ⟨blk_keep hHeld.1 hgo8 (fun k e => by have := hgn8 k e; omega), hHeld.2.1.keep hgo8 (fun _ b off e er => by cases e; have := hgn8 _ er; omega), gr_own hHeld.2.2.1 hgo8 (fun k e => by have := hgn8 k e; omega), Nat.le_trans hHeld.2.2.2 hgo8.size⟩ (fun hHeldN => ?_)
      clear hHeld
      have hHeld := hHeldN
      clear hK' K' hHeldN
      (try simp only [Act.put]); (try simp only [List.getElem_toArray]); (try simp only [List.getElem_cons_succ]); (try simp only [List.getElem_cons_zero]); (try simp only [List.setIfInBounds_toArray]); (try simp only [List.set_cons_succ]); (try simp only [List.set_cons_zero])
      refine wpAnyH_ready (rs := [8]) (by kernel_rfl) (by simp) ?_
      refine AllReadyH.cons rfl (fun K' hK' => ?_) AllReadyH.nil
      go_simp
      refine (HMo.out _ _ _ (Hm.out.keep0 hHeld.2.2.1) hsl8).mono ?_
      rintro e' w7 ⟨rfl, hg⟩
      (try simp only [])
      refine hK'.out _ _ ⟨blk_keep hHeld.1 hg (by simp), hHeld.2.1.keep0 hg, gr_trans0 hHeld.2.2.1 hg, Nat.le_trans hHeld.2.2.2 (gr_le hg)⟩ (fun hHeldN => ?_)
      clear hHeld
      have hHeld := hHeldN
      clear hK' K' hHeldN
      (try simp only [Act.put]); (try simp only [List.getElem_toArray]); (try simp only [List.getElem_cons_succ]); (try simp only [List.getElem_cons_zero]); (try simp only [List.setIfInBounds_toArray]); (try simp only [List.set_cons_succ]); (try simp only [List.set_cons_zero])
      refine wpAnyH_take (i := 9) (v := ?_) rfl (by kernel_rfl) (by kernel_rfl) (by kernel_rfl) (fun _ _ _ h => h) (Or.inl ⟨by rfl, ?_⟩) hHeld ?_
      rotate_left
      · intro w9 hSw
        clear hSw
        go_simp
        all_goals (try with_reducible rfl)
      (try simp only [Act.put]); (try simp only [List.getElem_toArray]); (try simp only [List.getElem_cons_succ]); (try simp only [List.getElem_cons_zero]); (try simp only [List.setIfInBounds_toArray]); (try simp only [List.set_cons_succ]); (try simp only [List.set_cons_zero])
      refine wpAnyH_done (by kernel_rfl) ?_ _
      have Hb7 := hid hHeld.1
      have Hg7 := hid hHeld.2.2.1
      clear hHeld
      have b0 := blk_cell Hb7.out 0 _ rfl
      have b1 := blk_cell Hb7.out 1 _ rfl
      have b2 := blk_cell Hb7.out 2 _ rfl
      have b3 := blk_cell Hb7.out 3 _ rfl
      by_cases h6 : n1 = 6
      · have t6 : ((n1 : Int) == 6) = true := by simpa using (by omega : (n1 : Int) = 6)
        clear h6
        go_wp2_with fail
        refine (HT.out _ _ (Hm.out.keep0 (gr_alloc Hg7.out _)) (Sl.lit intL w7 _ _ 2 [-20000, 0] rfl rfl (by omega))).mono ?_
        rintro e' w6 ⟨rfl, hg⟩
        have Hg6 := hid (gr_trans0 (gr_alloc Hg7.out _) hg)
        clear hg
        go_wp2_with fail
        go_ret
        exact ⟨rfl, Hg6.out⟩
      · have t6 : ((n1 : Int) == 6) = false := by simpa using (by omega : ¬ (n1 : Int) = 6)
        have t7 : decide (v ≤ mv) = true := by simpa using HNN.out.1 h6
        clear h6
        go_wp2_with fail
        refine (HT.out _ _ (Hm.out.keep0 (gr_alloc Hg7.out _)) (Sl.lit intL w7 _ _ 2 [-20000, 0] rfl rfl (by omega))).mono ?_
        rintro e' w6 ⟨rfl, hg⟩
        have Hg6 := hid (gr_trans0 (gr_alloc Hg7.out _) hg)
        clear hg
        go_wp2_with fail
        go_ret
        exact ⟨rfl, Hg6.out⟩
  · go_simp
    refine hK'.out _ _ ⟨blk_alloc hHeld.1 _, hHeld.2.1.keep0 (gr_alloc (gr0 _) _), gr_alloc hHeld.2.2.1 _, by have := hHeld.2.2.2; simp; omega⟩ (fun hHeldN => ?_)
    clear hHeld
    have hHeld := hHeldN
    clear hK' K' hHeldN
    (try simp only [Act.put]); (try simp only [List.getElem_toArray]); (try simp only [List.getElem_cons_succ]); (try simp only [List.getElem_cons_zero]); (try simp only [List.setIfInBounds_toArray]); (try simp only [List.set_cons_succ]); (try simp only [List.set_cons_zero])
    have hM : (w3.drew.alloc (.cells #[.int .i64 30000] 3)).cell? ⟨BS, 0, none⟩ = some (.int .i64 30000) := by rw [← hBS]; exact blk_cell (heap_alloc_new w3.drew _) 0 _ rfl
    have hMs : (w3.drew.alloc (.cells #[.int .i64 30000] 3)).heap.size = BS + 1 := by rw [World.size_alloc, ← hBS]; rfl
    have hownE : ((w3.drew.alloc (.cells #[.int .i64 30000] 3)).alloc (.cells #[] 3)).ownsRow BS 3 1 (.slice (some ⟨BS + 1, 0, none⟩) 0 0) 0 [] := by rw [← hMs]; exact World.ownsRow_made _ #[] 0 (by rw [hMs]; omega) (by decide) rfl
    refine wpAnyH_ready (rs := [3]) (by kernel_rfl) (by simp) ?_
    refine AllReadyH.cons rfl (fun K' hK' => ?_) AllReadyH.nil
    go_simp
    refine hK'.out _ _ ⟨blk_alloc hHeld.1 _, hHeld.2.1.keep0 (gr_alloc (gr0 _) _), gr_alloc hHeld.2.2.1 _, by have := hHeld.2.2.2; simp; omega⟩ (fun hHeldN => ?_)
    clear hHeld
    have hHeld := hHeldN
    clear hK' K' hHeldN
    (try simp only [Act.put]); (try simp only [List.getElem_toArray]); (try simp only [List.getElem_cons_succ]); (try simp only [List.getElem_cons_zero]); (try simp only [List.setIfInBounds_toArray]); (try simp only [List.set_cons_succ]); (try simp only [List.set_cons_zero])
    have hM := (gr_alloc (gr0 _) (.cells #[] 3)).cell hM (by simp)
    refine wpAnyH_ready (rs := [5]) (by kernel_rfl) (by simp) ?_
    refine AllReadyH.cons rfl (fun K' hK' => ?_) AllReadyH.nil
    refine step_append_lies _ (by rfl) _ _ _ (by rfl) BS 3 i0 _ 1 8 Tryd.underlying33 hi hz0 hz1 hz2 (by rfl) (by decide) _ 0 [] (by rfl) (hownE) ⟨sb, so, none⟩ n1 cp (ss.flatMap intL.cells) (by rfl) Hfl.out (fun j u hj => by have := HcF.out _ hHeld.2.1 j u hj; exact this) Hone.out (by omega) (by unfold maxLen; omega) (by omega) (by have := hHeld.2.2.2; first | exact this | (simp at this ⊢; omega)) _ rfl ?_
    intro g gc w9 hown9 hgo9 hat9 hlt9
    have hgn : ∀ k, (Value.slice (some ⟨BS + 1, 0, none⟩) 0 0).ownBlock = some k → BS ≤ k := fun k e => by simp [Value.ownBlock] at e; subst e; exact Nat.le_succ _
    refine hK'.out _ _ ⟨blk_keep hHeld.1 hgo9 (fun k e => by have := hgn k e; omega), hHeld.2.1.keep hgo9 (fun _ b off e er => by cases e; have := hgn _ er; omega), gr_own hHeld.2.2.1 hgo9 (fun k e => by have := hgn k e; omega), Nat.le_trans hHeld.2.2.2 hgo9.size⟩ (fun hHeldN => ?_)
    clear hHeld
    have hHeld := hHeldN
    clear hK' K' hHeldN
    (try simp only [Act.put]); (try simp only [List.getElem_toArray]); (try simp only [List.getElem_cons_succ]); (try simp only [List.getElem_cons_zero]); (try simp only [List.setIfInBounds_toArray]); (try simp only [List.set_cons_succ]); (try simp only [List.set_cons_zero])
    (try simp only [Nat.zero_add])
    have hown : w9.ownsRow BS 3 1 (.slice (some ⟨g, 0, none⟩) n1 gc) n1 (ss.flatMap intL.cells) := by simpa using hown9
    have hgB : BS ≤ g := (hown.lt g rfl).1
    clear hown9
    have hM := hgo9.cell hM (by simp [Value.ownBlock])
    refine wpAnyH_ready (rs := [7]) (by kernel_rfl) (by simp) ?_
    refine AllReadyH.cons rfl (fun K' hK' => ?_) AllReadyH.nil
    refine step_append_lies _ (by rfl) _ _ _ (by rfl) BS 3 i0 _ 1 8 Tryd.underlying33 hi hz0 hz1 hz2 (by rfl) (by decide) _ n1 (ss.flatMap intL.cells) (by rfl) hown ⟨BS, 0, none⟩ 1 1 [.int .i64 30000] (by rfl) (by rfl) (fun j u hj => by cases j with
      | zero => simp at hj; subst hj; exact hM
      | succ j => simp at hj) (by simp [Value.oneCell']) (by decide) (by unfold maxLen; omega) (by omega) (by have := hHeld.2.2.2; first | exact this | (simp at this ⊢; omega)) _ rfl ?_
    intro g2 gc2 w8 hown8 hgo8 hat8 hlt8
    have hgn8 : ∀ k, (Value.slice (some ⟨g, 0, none⟩) n1 gc).ownBlock = some k → BS ≤ k := fun k e => by simp [Value.ownBlock] at e; subst e; exact hgB
    have hsl8 : Sl intL w8 (some ⟨g2, 0, none⟩) (n1 + 1) (ss ++ [30000]) := by
      have h9 : ss.flatMap intL.cells ++ [.int .i64 30000] = (ss ++ [30000]).flatMap intL.cells := by simp [intL]
      rw [h9] at hown8
      exact (Ow.own_ints hown8 (by omega)).sl
    refine hK'.out _ _ ⟨blk_keep hHeld.1 hgo8 (fun k e => by have := hgn8 k e; omega), hHeld.2.1.keep hgo8 (fun _ b off e er => by cases e; have := hgn8 _ er; omega), gr_own hHeld.2.2.1 hgo8 (fun k e => by have := hgn8 k e; omega), Nat.le_trans hHeld.2.2.2 hgo8.size⟩ (fun hHeldN => ?_)
    clear hHeld
    have hHeld := hHeldN
    clear hK' K' hHeldN
    (try simp only [Act.put]); (try simp only [List.getElem_toArray]); (try simp only [List.getElem_cons_succ]); (try simp only [List.getElem_cons_zero]); (try simp only [List.setIfInBounds_toArray]); (try simp only [List.set_cons_succ]); (try simp only [List.set_cons_zero])
    refine wpAnyH_ready (rs := [8]) (by kernel_rfl) (by simp) ?_
    refine AllReadyH.cons rfl (fun K' hK' => ?_) AllReadyH.nil
    go_simp
    refine (HMo.out _ _ _ (Hm.out.keep0 hHeld.2.2.1) hsl8).mono ?_
    rintro e' w7 ⟨rfl, hg⟩
    (try simp only [])
    refine hK'.out _ _ ⟨blk_keep hHeld.1 hg (by simp), hHeld.2.1.keep0 hg, gr_trans0 hHeld.2.2.1 hg, Nat.le_trans hHeld.2.2.2 (gr_le hg)⟩ (fun hHeldN => ?_)
    clear hHeld
    have hHeld := hHeldN
    clear hK' K' hHeldN
    (try simp only [Act.put]); (try simp only [List.getElem_toArray]); (try simp only [List.getElem_cons_succ]); (try simp only [List.getElem_cons_zero]); (try simp only [List.setIfInBounds_toArray]); (try simp only [List.set_cons_succ]); (try simp only [List.set_cons_zero])
    refine wpAnyH_take (i := 9) (v := ?_) rfl (by kernel_rfl) (by kernel_rfl) (by kernel_rfl) (fun _ _ _ h => h) (Or.inl ⟨by rfl, ?_⟩) hHeld ?_
    rotate_left
    · intro w9 hSw
      clear hSw
      go_simp
      all_goals (try with_reducible rfl)
    (try simp only [Act.put]); (try simp only [List.getElem_toArray]); (try simp only [List.getElem_cons_succ]); (try simp only [List.getElem_cons_zero]); (try simp only [List.setIfInBounds_toArray]); (try simp only [List.set_cons_succ]); (try simp only [List.set_cons_zero])
    refine wpAnyH_done (by kernel_rfl) ?_ _
    have Hb7 := hid hHeld.1
    have Hg7 := hid hHeld.2.2.1
    clear hHeld
    have b0 := blk_cell Hb7.out 0 _ rfl
    have b1 := blk_cell Hb7.out 1 _ rfl
    have b2 := blk_cell Hb7.out 2 _ rfl
    have b3 := blk_cell Hb7.out 3 _ rfl
    by_cases h6 : n1 = 6
    · have t6 : ((n1 : Int) == 6) = true := by simpa using (by omega : (n1 : Int) = 6)
      clear h6
      go_wp2_with fail
      refine (HT.out _ _ (Hm.out.keep0 (gr_alloc Hg7.out _)) (Sl.lit intL w7 _ _ 2 [-20000, 0] rfl rfl (by omega))).mono ?_
      rintro e' w6 ⟨rfl, hg⟩
      have Hg6 := hid (gr_trans0 (gr_alloc Hg7.out _) hg)
      clear hg
      go_wp2_with fail
      go_ret
      exact ⟨rfl, Hg6.out⟩
    · have t6 : ((n1 : Int) == 6) = false := by simpa using (by omega : ¬ (n1 : Int) = 6)
      have t7 : decide (v ≤ mv) = true := by simpa using HNN.out.1 h6
      clear h6
      go_wp2_with fail
      refine (HT.out _ _ (Hm.out.keep0 (gr_alloc Hg7.out _)) (Sl.lit intL w7 _ _ 2 [-20000, 0] rfl rfl (by omega))).mono ?_
      rintro e' w6 ⟨rfl, hg⟩
      have Hg6 := hid (gr_trans0 (gr_alloc Hg7.out _) hg)
      clear hg
      go_wp2_with fail
      go_ret
      exact ⟨rfl, Hg6.out⟩

set_option maxRecDepth 100000 in
theorem lifted (os : Os) (started : os.Started) (H : Type) (enc : TypeId × Value → H) :
    ReturnsInHanded {} Tryd.checked os 16 .any (fun w args => (Rows.fnShockOfSpec.pre enc Tryd.prog Tryd.f16 Rows.fnShockOfRow.domain false w args ∧ laidMetH Tryd.prog laidMonths w) ∧ sizedMet enc Tryd.prog Tryd.f16 (OpenSpec.ofChange Rows.fnShockOfSpec) false w args) (Rows.fnShockOfSpec.post enc Tryd.prog Tryd.f16 false true false false) := by
  refine returnsInHanded_of_change_and (C := Tryd.checked) (X := fun w _ => laidMetH Tryd.prog laidMonths w) (fun _ _ _ hh h => h.of_heap hh) Tryd.own started (by kernel_rfl) Tryd.func16
    (ChangeSpec.witness_shaped (enc := enc) (C := Tryd.checked) (os := os) (X := fun w _ => laidMetH Tryd.prog laidMonths w) false (World.doorLaid Tryd.prog 400 os) #[.slice none 0 0] 8 rfl (World.shaped_of_RefB (by kernel_rfl) (by kernel_rfl)) (by kernel_rfl) (by kernel_rfl) (by kernel_rfl) (door_met os _)) ?_
  intro W base args ds gs before hval0 hW _ _ hL _
  have hval : ∀ (j : Nat) t v, Tryd.f16.params[j]? = some t → args[j]? = some v → Value.okWide Tryd.prog W .any base t v := hval0
  have hW' := hW
  obtain ⟨p, q, hA0, hV, rfl, hfz, hnd⟩ := hW
  have hA : DataW.TrodAll enc Tryd.prog W 0 (fun _ => true) true Tryd.f16.params.toList args.toList ds p := hA0
  rw [Tryd.params16] at hA hval
  have hA2 := hA
  obtain ⟨v0, vs0, d0, ds0, p0, q0, hargs, rfl, rfl, h0, r0⟩ := trodAll_cons hA
  obtain ⟨rfl, rfl, rfl⟩ := trodAll_nil r0
  obtain rfl : args = #[v0] := by cases args; simp_all
  obtain ⟨g0, g1, rfl⟩ := vars_two hV
  have hlt : ∀ x ∈ (p0 ++ []) ++ q, x.block < W.heap.size := fun x hx => hW'.lt x hx
  obtain ⟨a0, n0, cap0, rfl⟩ := okWide_slice Tryd.underlying38 (hval 0 38 v0 rfl rfl)
  obtain ⟨fuel0, hf0⟩ := h0
  obtain ⟨xs0, hs0, hc0, hw0⟩ := sl_ints u8L (fun _ => rfl) rfl Tryd.underlying38 Tryd.underlying5 Tryd.cellsU8 hf0
  refine (walk a0 n0 cap0 xs0 W (months_of_laid hL) hs0 hc0 (fun z hz => u8_range (hw0 z hz))).mono fun e W' ⟨he, hg⟩ => ?_
  subst he
  have hb := below_of_gr hg
  refine ⟨_, rfl, _, _, _, [], p0 ++ [], q, hW', ?_, ?_, vars_stay hb hV, hb.frame _, fun h => by cases h⟩
  · exact trodAll_mk1 (shut_bool Tryd.underlying4 _)
  · exact args_stay hb _ _ _ _ hA2 (fun x hx => hlt x (List.mem_append_left _ (by simpa using hx))) (by intro t ht; simp at ht; subst ht; exact ⟨by kernel_rfl, of_decide_eq_true (by kernel_rfl)⟩)

set_option maxRecDepth 100000 in
theorem closed : joinedFacts Tryd.pinned.checked.prog 16 Tryd.f16 Rows.fnShockOfSpec Rows.fnShockOfRow = true := by
  rw [joinedFacts, show Tryd.pinned.checked.prog.mayEnter = true from Tryd.enters, show Tryd.pinned.checked.prog.liftsFinal = false from Tryd.lifts, show Tryd.pinned.checked.prog.make = some .cut from Tryd.cut]
  kernel_rfl

theorem row_holds : Rows.FnShockOfSaid :=
  OpenClaim.holds_of_wide 16 Tryd.f16 rfl rfl rfl rfl rfl rfl rfl ⟨rfl, rfl, rfl, rfl, rfl⟩ rfl rfl rfl rfl rfl (by kernel_rfl) Tryd.func16 closed
    (of_decide_eq_true (by kernel_rfl)) (by unfold Func.isWrapper; first | (rw [if_pos (by decide +kernel)]; kernel_rfl) | (rw [if_neg (by decide +kernel)]; exact ⟨rfl, rfl⟩))
    (fun os started H enc _ => lifted os started H enc)

theorem holds : Rows.FnShockOfCardSaid :=
  Claim7.holds_tied_plain_at .later [] [.data, .sentinel] true (true, "a4f7e9a3a2dd7febb91b59340b975e898b1d35a96e4db750cc7f4ee2cb25401f") false
    row_holds (fun _ h => by cases h) (by kernel_rfl) (fun _ h => by cases h) fnShockOf_row_tie rfl ⟨rfl, rfl⟩ (by kernel_rfl) rfl
    (fun f fn hf hfn => by
      obtain rfl : f = 16 := Option.some.inj ((show Tryd.prog.funcNamed "loop.example/bonddesk/laws.FnShockOf" = some 16 by kernel_rfl).symm.trans hf) |>.symm
      obtain rfl : fn = Tryd.f16 := (Option.some.inj (Tryd.func16.symm.trans hfn)).symm
      exact ⟨by kernel_rfl, fun j t ht => by
        rw [Tryd.params16] at ht
        have hm : t ∈ [38] := by simpa using Array.mem_of_getElem? ht
        have hall : ([38].all fun u => !Tryd.prog.wantsStandIn u) = true := by kernel_rfl
        exact (show Tryd.prog.wantsStandIn t = false by simpa using List.all_eq_true.1 hall t hm)⟩)
    (by kernel_rfl)
end FnShockOf
end Go.Proofs.YtkgjciacdjhhfaaDoor
