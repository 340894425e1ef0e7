/- Packed: ParseBond. -/
import Derived.Test.YtielicmjdhmcjaaGreatDoorRows
import Derived.Test.YtielicmjdhmcjaaGreatDoorPk28
/- ParseBond of the program. -/
namespace Go.Proofs.YtielicmjdhmcjaaGreatDoor
open Go.RowKit

theorem pb_ret {l : List UInt8} {b : Bond} {ok : Bool} (h : pbV l = b ∧ pbOk l = ok) : Ending.returned (.tuple #[.agg #[.int .i64 b.start, .int .i64 b.stop, .int .i64 b.months, .int .i64 b.rate], .bool ok]) = .returned (.tuple #[.agg #[.int .i64 (pbV l).start, .int .i64 (pbV l).stop, .int .i64 (pbV l).months, .int .i64 (pbV l).rate], .bool (pbOk l)]) := by
  rw [h.1, h.2]
theorem day_bd (y m d : Int) : -1 ≤ dayOfF y m d ∧ dayOfF y m d ≤ 36524 := by
  unfold dayOfF
  split
  · rename_i h; have := num_bd y m d ((dateB_iff _ _ _).1 h); omega
  · omega

set_option maxRecDepth 100000 in
set_option maxHeartbeats 2000000 in
theorem ParseBond_any (l : List UInt8) (w : World) (hm : Laid4 w) (hl : l.length ≤ 2000000) :
    Calls Tryz.prog 46 #[.string ⟨(l).toArray⟩] w fun e w' => e = .returned (.tuple #[.agg #[.int .i64 (pbV l).start, .int .i64 (pbV l).stop, .int .i64 (pbV l).months, .int .i64 (pbV l).rate], .bool (pbOk l)]) ∧ w.grownBy w' none := by
  have Hm := hid hm
  clear hm
  have HN := hid (fun p wx (hx : CurAt wx (w.heap.size + 1) l p) (hq : p ≤ l.length) => cnumber_any _ p l wx hx hq hl)
  have HS := hid (fun (b : UInt8) p (z : Int) wx (hz : (b.toNat : Int) = z) (hx : CurAt wx (w.heap.size + 1) l p) (hq : p ≤ l.length) => cskip_any _ p l b z wx hz hx hq hl)
  have HD := hid (fun p wx (hx : CurAt wx (w.heap.size + 1) l p) (hq : p ≤ l.length) => cdate_any _ p l wx hx hq hl)
  have hW0 : ∃ W0 : World, W0 = (((w.alloc (Obj.cells #[.int .i64 0, .int .i64 0, .int .i64 0, .int .i64 0] 37)).alloc (Obj.cells #[.string ⟨(l).toArray⟩, .int .i64 0] 104)).alloc (Obj.cells #[.int .i64 0, .int .i64 0, .int .i64 0, .int .i64 0] 37)) := ⟨_, rfl⟩
  obtain ⟨W0, hW0⟩ := hW0
  have HW := hid hW0
  have hg1 : w.grownBy (w.alloc (Obj.cells #[.int .i64 0, .int .i64 0, .int .i64 0, .int .i64 0] 37)) none := gr_alloc (gr0 _) _
  have hz1 := heap_alloc_new w (Obj.cells #[.int .i64 0, .int .i64 0, .int .i64 0, .int .i64 0] 37)
  have hs1 : (w.alloc (Obj.cells #[.int .i64 0, .int .i64 0, .int .i64 0, .int .i64 0] 37)).heap.size = w.heap.size + 1 := by simp
  generalize (w.alloc (Obj.cells #[.int .i64 0, .int .i64 0, .int .i64 0, .int .i64 0] 37)) = V1 at hW0 hg1 hz1 hs1
  have hg2 := gr_alloc hg1 (Obj.cells #[.string ⟨(l).toArray⟩, .int .i64 0] 104)
  have hz2 := blk_alloc hz1 (Obj.cells #[.string ⟨(l).toArray⟩, .int .i64 0] 104)
  have hc2 := curAt_new V1 l
  rw [hs1] at hc2
  have hs2 : (V1.alloc (Obj.cells #[.string ⟨(l).toArray⟩, .int .i64 0] 104)).heap.size = w.heap.size + 2 := by simp; omega
  generalize (V1.alloc (Obj.cells #[.string ⟨(l).toArray⟩, .int .i64 0] 104)) = V2 at hW0 hg2 hz2 hc2 hs2
  have Hg0 := hid (gr_alloc hg2 (Obj.cells #[.int .i64 0, .int .i64 0, .int .i64 0, .int .i64 0] 37))
  have Hz0 := hid (blk_alloc hz2 (Obj.cells #[.int .i64 0, .int .i64 0, .int .i64 0, .int .i64 0] 37))
  have HC0 : Hid (CurAt W0 (w.heap.size + 1) l 0) := hid (by rw [hW0]; exact blk_alloc hc2 _)
  have hy0 := heap_alloc_new V2 (Obj.cells #[.int .i64 0, .int .i64 0, .int .i64 0, .int .i64 0] 37)
  rw [hs2] at hy0
  rw [← hW0] at Hg0 Hz0 hy0
  have Hy0 := hid hy0
  clear hg1 hz1 hs1 hg2 hz2 hc2 hs2 hy0 hW0 V1 V2
  have p1 := end_le (l := l) (p := 0) (by omega)
  have p2 := skip_le (b := 46) p1
  have p3 := end_le (l := l) p2
  have p4 : bP2 l ≤ l.length := skip_le (b := 32) p3
  obtain ⟨_, _, p5⟩ := dend_le (l := l) p4
  have p6 : bP3 l ≤ l.length := skip_le (b := 32) p5
  obtain ⟨_, _, p7⟩ := dend_le (l := l) p6
  have p8 : bP4 l ≤ l.length := skip_le (b := 32) p7
  go_enter Tryz.func46, Tryz.ntmps46
  go_wp2_with fail
  rw [← HW.out]
  clear HW
  obtain ⟨C, hC⟩ : ∃ C, C = w.heap.size + 1 := ⟨_, rfl⟩
  obtain ⟨B, hB⟩ : ∃ B, B = C + 1 := ⟨_, rfl⟩
  rw [← hC] at HC0 HN HS HD ⊢
  rw [show w.heap.size + 2 = B by omega] at Hy0
  rw [← hB]
  have hB1 : B ≠ w.heap.size := by omega
  have hB2 : B ≠ C := by omega
  have hB3 : w.heap.size ≤ B := by omega
  have hC1 : C ≠ w.heap.size := by omega
  have hC3 : w.heap.size ≤ C := by omega
  clear hC hB
  have x0b := num_at_bd l 0
  have x1b := num_at_bd l (bP1 l)
  -- the rate, its first part
  refine (HN.out 0 _ HC0.out (by omega)).mono ?_
  rintro e' w1 ⟨rfl, hc, hg⟩
  obtain ⟨x0, hx0⟩ : ∃ x, numAt l 0 = x := ⟨_, rfl⟩
  rw [hx0] at x0b ⊢
  have Hx0 := hid hx0
  clear hx0
  have u1 : IntKind.i64.wrap (100 * x0) = 100 * x0 := IntWalk.i64_in _ (by omega)
  have hz := blk_keep Hz0.out hg (by simp; omega)
  have hy := blk_keep Hy0.out hg (by simp; omega)
  have hgw := gr_own Hg0.out hg (fun g e => by cases e; omega)
  have k0 := blk_frozen hy 3
  have y0 := blk_cell hy 3 _ rfl
  have Hz1 := hid (blk_set_other hz ⟨B, 3, none⟩ hB1 (.int .i64 (100 * x0)))
  have Hy1 := hid ((blk_set hy 3 (.int .i64 (100 * x0))).trans (show _ = some (Obj.cells #[.int .i64 0, .int .i64 0, .int .i64 0, .int .i64 (100 * x0)] 37 (0, 0)) from rfl))
  have HC1 := hid (CurAt.other hc ⟨B, 3, none⟩ hB2 (.int .i64 (100 * x0)))
  have Hg1 := hid (gr_setCell hgw (p := ⟨B, 3, none⟩) (.inr hB3) (.int .i64 (100 * x0)))
  (try clear hg)
  clear hc hz hy hgw
  go_wp2_with fail
  generalize (w1.setCell ⟨B, 3, none⟩ (.int .i64 (100 * x0))) = W1 at *
  clear k0 y0
  clear u1
  refine (HS.out 46 (endAt l 0) _ _ rfl HC1.out p1).mono ?_
  rintro e' w2 ⟨rfl, hc, hg⟩
  have Hz2 := hid (blk_keep Hz1.out hg (by simp; omega))
  have Hy2 := hid (blk_keep Hy1.out hg (by simp; omega))
  have HC2 := hid hc
  have Hg2 := hid (gr_own Hg1.out hg (fun g e => by cases e; omega))
  clear hg hc
  go_wp2_with fail
  -- its second part
  have y3 := blk_cell Hy2.out 3 _ rfl
  refine wp_region_held_drew (S := fun _ => True) (by kernel_rfl) trivial (fun hHeld => ?_)
  refine wpAnyH_take (i := 0) (v := ?_) rfl (by kernel_rfl) (by kernel_rfl) (by kernel_rfl) (fun _ _ _ h => h) (Or.inl ⟨by rfl, ?_⟩) hHeld ?_
  rotate_left
  · intro w9 hSw
    clear hSw
    go_simp
    all_goals (try with_reducible rfl)
  (try simp only [Act.put, gA, gC, gD, gE, gF])
  refine wpAnyH_take (i := 2) (v := ?_) rfl (by kernel_rfl) (by kernel_rfl) (by kernel_rfl) (fun _ _ _ h => h) (Or.inl ⟨by rfl, ?_⟩) hHeld ?_
  rotate_left
  · intro w9 hSw
    clear hSw
    go_simp
    all_goals (try with_reducible rfl)
  (try simp only [Act.put, gA, gB, gC, gD, gE, gF])
  refine wpAnyH_ready (rs := [1, 3]) (by kernel_rfl) (by simp) ?_
  refine AllReadyH.cons rfl (fun K' hK' => ?_) (AllReadyH.cons rfl (fun K' hK' => ?_) AllReadyH.nil)
  · go_simp
    refine hK'.out _ _ trivial (fun hHeldN => ?_)
    clear hK' K'
    (try simp only [Act.put, gA, gB, gC, gD, gE, gF])
    clear y3
    refine wpAnyH_ready (rs := [3]) (by kernel_rfl) (by simp) ?_
    refine AllReadyH.cons rfl (fun K' hK' => ?_) AllReadyH.nil
    go_simp
    refine (HN.out (skipAt l 46 (endAt l 0)) w2.drew (HC2.out.keep (gr_drew (gr0 _)) (by simp)) p2).mono ?_
    rintro e' w3 ⟨rfl, hc, hg⟩
    have hg2 : w2.grownBy w3 (some C) := gr_transS (gr_drew (gr_refl _ _)) hg
    have hz := blk_keep Hz2.out hg2 (by simp; omega)
    have hy := blk_keep Hy2.out hg2 (by simp; omega)
    have hgw := gr_own Hg2.out hg2 (fun g e => by cases e; omega)
    obtain ⟨x1, hx1⟩ : ∃ x, numAt l (skipAt l 46 (endAt l 0)) = x := ⟨_, rfl⟩
    have x1b := num_at_bd l (skipAt l 46 (endAt l 0))
    rw [hx1] at x1b ⊢
    have Hx1 := hid hx1
    clear hx1 hg hg2
    (try simp only [])
    refine hK'.out _ _ trivial (fun hHeldN => ?_)
    clear hK' K' hHeldN
    (try simp only [Act.put, gA, gB, gC, gD, gE, gF])
    have u2 : IntKind.i64.wrap (100 * x0 + x1) = 100 * x0 + x1 := IntWalk.i64_in _ (by omega)
    refine wpAnyH_take (i := 4) (v := ?_) rfl (by kernel_rfl) (by kernel_rfl) (by kernel_rfl) (fun _ _ _ h => h) (Or.inl ⟨by rfl, ?_⟩) hHeld ?_
    rotate_left
    · intro w9 hSw
      clear hSw
      go_simp
      all_goals (try with_reducible rfl)
    (try simp only [Act.put, gA, gB, gC, gD, gE, gF])
    (try simp only [u2])
    refine wpAnyH_take (i := 5) (v := ?_) rfl (by kernel_rfl) (by kernel_rfl) (by kernel_rfl) (fun _ _ _ h => h) (Or.inl ⟨by rfl, ?_⟩) hHeld ?_
    rotate_left
    · intro w9 hSw
      clear hSw
      go_simp
      all_goals (try with_reducible rfl)
    (try simp only [Act.put, gA, gB, gC, gD, gE, gF])
    have y3 := blk_cell hy 3 _ rfl
    have k3 := blk_frozen hy 3
    refine wpAnyH_ready (rs := [6]) (by kernel_rfl) (by simp) ?_
    refine AllReadyH.cons rfl (fun K' hK' => ?_) AllReadyH.nil
    go_simp
    (try simp only [])
    refine hK'.out _ _ trivial (fun hHeldN => ?_)
    clear hK' K' hHeldN
    (try simp only [Act.put, gA, gB, gC, gD, gE, gF])
    refine wpAnyH_done (by kernel_rfl) ?_ _
    clear y3 k3 u2
    have k0 := blk_frozen hy 3
    have y0 := blk_cell hy 3 _ rfl
    have Hz3 := hid (blk_set_other hz ⟨B, 3, none⟩ hB1 (.int .i64 (100 * x0 + x1)))
    have Hy3 := hid ((blk_set hy 3 (.int .i64 (100 * x0 + x1))).trans (show _ = some (Obj.cells #[.int .i64 0, .int .i64 0, .int .i64 0, .int .i64 (100 * x0 + x1)] 37 (0, 0)) from rfl))
    have HC3 := hid (CurAt.other hc ⟨B, 3, none⟩ hB2 (.int .i64 (100 * x0 + x1)))
    have Hg3 := hid (gr_setCell hgw (p := ⟨B, 3, none⟩) (.inr hB3) (.int .i64 (100 * x0 + x1)))
    (try clear hg)
    clear hc hz hy hgw
    go_wp2_with fail
    generalize (w3.setCell ⟨B, 3, none⟩ (.int .i64 (100 * x0 + x1))) = W3 at *
    clear k0 y0
    refine (HS.out 32 (endAt l (skipAt l 46 (endAt l 0))) _ _ rfl HC3.out p3).mono ?_
    rintro e' w4 ⟨rfl, hc, hg⟩
    have Hz4 := hid (blk_keep Hz3.out hg (by simp; omega))
    have Hy4 := hid (blk_keep Hy3.out hg (by simp; omega))
    have HC4 := hid hc
    have Hg4 := hid (gr_own Hg3.out hg (fun g e => by cases e; omega))
    clear hg hc
    go_wp2_with fail
    refine (HD.out (bP2 l) _ HC4.out p4).mono ?_
    rintro e' w5 ⟨rfl, hc, hg⟩
    have Hz5 := hid (blk_keep Hz4.out hg (by simp; omega))
    have Hy5 := hid (blk_keep Hy4.out hg (by simp; omega))
    have HC5 := hid hc
    have Hg5 := hid (gr_own Hg4.out hg (fun g e => by cases e; omega))
    clear hg hc
    go_wp2_with fail
    refine (DayOf_any (dY l (bP2 l)) (dM l (bP2 l)) (dD l (bP2 l)) _ (Hm.out.mo.keep0 Hg5.out)).mono ?_
    rintro e' w6 ⟨rfl, hg⟩
    have hz := blk_keep Hz5.out hg (by simp)
    have hy := blk_keep Hy5.out hg (by simp)
    have hc := CurAt.keep HC5.out hg (by simp)
    have hgw := gr_trans0 Hg5.out hg
    obtain ⟨xs, hx⟩ : ∃ x, dayOfF (dY l (bP2 l)) (dM l (bP2 l)) (dD l (bP2 l)) = x := ⟨_, rfl⟩
    have Hxs := hid hx
    rw [hx]
    clear hx
    have k0 := blk_frozen hy 0
    have y0 := blk_cell hy 0 _ rfl
    have Hz6 := hid (blk_set_other hz ⟨B, 0, none⟩ hB1 (.int .i64 xs))
    have Hy6 := hid ((blk_set hy 0 (.int .i64 xs)).trans (show _ = some (Obj.cells #[.int .i64 xs, .int .i64 0, .int .i64 0, .int .i64 (100 * x0 + x1)] 37 (0, 0)) from rfl))
    have HC6 := hid (CurAt.other hc ⟨B, 0, none⟩ hB2 (.int .i64 xs))
    have Hg6 := hid (gr_setCell hgw (p := ⟨B, 0, none⟩) (.inr hB3) (.int .i64 xs))
    (try clear hg)
    clear hc hz hy hgw
    go_wp2_with fail
    generalize (w6.setCell ⟨B, 0, none⟩ (.int .i64 xs)) = W6 at *
    clear k0 y0
    refine (HS.out 32 (dEnd l (bP2 l)) _ _ rfl HC6.out p5).mono ?_
    rintro e' w7 ⟨rfl, hc, hg⟩
    have Hz7 := hid (blk_keep Hz6.out hg (by simp; omega))
    have Hy7 := hid (blk_keep Hy6.out hg (by simp; omega))
    have HC7 := hid hc
    have Hg7 := hid (gr_own Hg6.out hg (fun g e => by cases e; omega))
    clear hg hc
    go_wp2_with fail
    refine (HD.out (bP3 l) _ HC7.out p6).mono ?_
    rintro e' w8 ⟨rfl, hc, hg⟩
    have Hz8 := hid (blk_keep Hz7.out hg (by simp; omega))
    have Hy8 := hid (blk_keep Hy7.out hg (by simp; omega))
    have HC8 := hid hc
    have Hg8 := hid (gr_own Hg7.out hg (fun g e => by cases e; omega))
    clear hg hc
    go_wp2_with fail
    refine (DayOf_any (dY l (bP3 l)) (dM l (bP3 l)) (dD l (bP3 l)) _ (Hm.out.mo.keep0 Hg8.out)).mono ?_
    rintro e' w9 ⟨rfl, hg⟩
    have hz := blk_keep Hz8.out hg (by simp)
    have hy := blk_keep Hy8.out hg (by simp)
    have hc := CurAt.keep HC8.out hg (by simp)
    have hgw := gr_trans0 Hg8.out hg
    obtain ⟨xe, hx⟩ : ∃ x, dayOfF (dY l (bP3 l)) (dM l (bP3 l)) (dD l (bP3 l)) = x := ⟨_, rfl⟩
    have Hxe := hid hx
    rw [hx]
    clear hx
    have k0 := blk_frozen hy 1
    have y0 := blk_cell hy 1 _ rfl
    have Hz9 := hid (blk_set_other hz ⟨B, 1, none⟩ hB1 (.int .i64 xe))
    have Hy9 := hid ((blk_set hy 1 (.int .i64 xe)).trans (show _ = some (Obj.cells #[.int .i64 xs, .int .i64 xe, .int .i64 0, .int .i64 (100 * x0 + x1)] 37 (0, 0)) from rfl))
    have HC9 := hid (CurAt.other hc ⟨B, 1, none⟩ hB2 (.int .i64 xe))
    have Hg9 := hid (gr_setCell hgw (p := ⟨B, 1, none⟩) (.inr hB3) (.int .i64 xe))
    (try clear hg)
    clear hc hz hy hgw
    go_wp2_with fail
    generalize (w9.setCell ⟨B, 1, none⟩ (.int .i64 xe)) = W9 at *
    clear k0 y0
    refine (HS.out 32 (dEnd l (bP3 l)) _ _ rfl HC9.out p7).mono ?_
    rintro e' w10 ⟨rfl, hc, hg⟩
    have Hz10 := hid (blk_keep Hz9.out hg (by simp; omega))
    have Hy10 := hid (blk_keep Hy9.out hg (by simp; omega))
    have HC10 := hid hc
    have Hg10 := hid (gr_own Hg9.out hg (fun g e => by cases e; omega))
    clear hg hc
    go_wp2_with fail
    refine (HN.out (bP4 l) _ HC10.out p8).mono ?_
    rintro e' w11 ⟨rfl, hc, hg⟩
    obtain ⟨xm, hxm⟩ : ∃ x, numAt l (bP4 l) = x := ⟨_, rfl⟩
    rw [hxm]
    have Hxm := hid hxm
    clear hxm
    have hz := blk_keep Hz10.out hg (by simp; omega)
    have hy := blk_keep Hy10.out hg (by simp; omega)
    have hgw := gr_own Hg10.out hg (fun g e => by cases e; omega)
    have k2 := blk_frozen hy 2
    have HyF := hid ((blk_set hy 2 (.int .i64 xm)).trans (show _ = some (Obj.cells #[.int .i64 xs, .int .i64 xe, .int .i64 xm, .int .i64 (100 * x0 + x1)] 37 (0, 0)) from rfl))
    have HzF := hid (blk_set_other hz ⟨B, 2, none⟩ hB1 (.int .i64 xm))
    have HgF := hid (gr_setCell hgw (p := ⟨B, 2, none⟩) (.inr hB3) (.int .i64 xm))
    have y0 := blk_cell hy 0 _ rfl
    have y1 := blk_cell hy 1 _ rfl
    have y2 := blk_cell hy 2 _ rfl
    have y3 := blk_cell hy 3 _ rfl
    have z0 := blk_cell hz 0 _ rfl
    have z1 := blk_cell hz 1 _ rfl
    have z2 := blk_cell hz 2 _ rfl
    have z3 := blk_cell hz 3 _ rfl
    have g0 := blk_frozen hz 0
    have g1 := blk_frozen hz 1
    have g2 := blk_frozen hz 2
    have g3 := blk_frozen hz 3
    have hBw : ¬ w.heap.size = B := fun e => hB1 e.symm
    have hcur : curB l = ⟨xs, xe, xm, 100 * x0 + x1⟩ := by unfold curB; rw [Hxs.out, Hxe.out, Hxm.out, Hx0.out]; rw [show numAt l (bP1 l) = x1 from Hx1.out]
    (try clear hg)
    clear hc hz hy hgw
    have hfy : pbOk l = true → fmtBond ⟨xs, xe, xm, 100 * x0 + x1⟩ = l := fun h => by rw [← hcur]; exact pb_fmt h
    have hfn : l ≠ [] → pbOk l = false → fmtBond ⟨xs, xe, xm, 100 * x0 + x1⟩ ≠ l := fun h0 h => by rw [← hcur]; exact pb_fmt_no h h0
    have hno : pbOk l = false → pbV l = zeroB ∧ pbOk l = false := fun h => ⟨by unfold pbV; rw [h]; rfl, h⟩
    have hyes : pbOk l = true → pbV l = ⟨xs, xe, xm, 100 * x0 + x1⟩ ∧ pbOk l = true := fun h => ⟨by unfold pbV; rw [if_pos h, hcur], h⟩
    have HFm := hid (fun wx hx => FormatBond_any ⟨xs, xe, xm, 100 * x0 + x1⟩ wx hx)
    simp only at HFm
    clear hcur
    by_cases h0 : l = []
    · have HE := hid (hno (by rw [h0]; exact pb_nil))
      have h0b : (l == []) = true := by simpa using h0
      clear h0 hno hyes hfy hfn HFm
      go_wp2_with fail
      refine bodyPost_ret (v := .tuple #[.agg #[.int .i64 0, .int .i64 0, .int .i64 0, .int .i64 0], .bool false]) (by simp [results, Tryz.results46, go_sem, *]) rfl ⟨pb_ret HE.out, ?_⟩
      repeat (first | exact HgF.out | refine gr_setCell ?_ (.inr (Nat.le_refl _)) _)
    have h0b : (l == []) = false := by simpa using h0
    go_wp2_with fail
    refine (HFm.out _ (Hm.out.keep0 HgF.out)).mono ?_
    rintro e' w12 ⟨rfl, hg⟩
    have HgG := hid (gr_trans0 HgF.out hg)
    have hz := blk_keep HzF.out hg (by simp)
    have hy := blk_keep HyF.out hg (by simp)
    generalize fmtBond ⟨xs, xe, xm, 100 * x0 + x1⟩ = F at *
    clear hg y0 y1 y2 y3 z0 z1 z2 z3 g0 g1 g2 g3 k2 HFm
    have y0 := blk_cell hy 0 _ rfl
    have y1 := blk_cell hy 1 _ rfl
    have y2 := blk_cell hy 2 _ rfl
    have y3 := blk_cell hy 3 _ rfl
    have z0 := blk_cell hz 0 _ rfl
    have z1 := blk_cell hz 1 _ rfl
    have z2 := blk_cell hz 2 _ rfl
    have z3 := blk_cell hz 3 _ rfl
    have g0 := blk_frozen hz 0
    have g1 := blk_frozen hz 1
    have g2 := blk_frozen hz 2
    have g3 := blk_frozen hz 3
    clear hz hy
    cases hp : pbOk l with
    | false =>
      have HE := hid (hno hp)
      have hF : (F == l) = false := by simpa using hfn h0 hp
      clear h0 hno hyes hfy hfn hp
      go_wp2_with fail
      refine bodyPost_ret (v := .tuple #[.agg #[.int .i64 0, .int .i64 0, .int .i64 0, .int .i64 0], .bool false]) (by simp [results, Tryz.results46, go_sem, *]) rfl ⟨pb_ret HE.out, ?_⟩
      repeat (first | exact HgG.out | refine gr_setCell ?_ (.inr (Nat.le_refl _)) _)
    | true =>
      have HE := hid (hyes hp)
      have hF : (F == l) = true := by simpa using hfy hp
      clear h0 hno hyes hfy hfn hp
      go_wp2_with fail
      refine bodyPost_ret (v := .tuple #[.agg #[.int .i64 xs, .int .i64 xe, .int .i64 xm, .int .i64 (100 * x0 + x1)], .bool true]) (by simp [results, Tryz.results46, go_sem, *]) rfl ⟨pb_ret HE.out, ?_⟩
      repeat (first | exact HgG.out | refine gr_setCell ?_ (.inr (Nat.le_refl _)) _)
  · go_simp
    clear y3
    refine (HN.out (skipAt l 46 (endAt l 0)) w2.drew (HC2.out.keep (gr_drew (gr0 _)) (by simp)) p2).mono ?_
    rintro e' w3 ⟨rfl, hc, hg⟩
    have hg2 : w2.grownBy w3 (some C) := gr_transS (gr_drew (gr_refl _ _)) hg
    have hz := blk_keep Hz2.out hg2 (by simp; omega)
    have hy := blk_keep Hy2.out hg2 (by simp; omega)
    have hgw := gr_own Hg2.out hg2 (fun g e => by cases e; omega)
    obtain ⟨x1, hx1⟩ : ∃ x, numAt l (skipAt l 46 (endAt l 0)) = x := ⟨_, rfl⟩
    have x1b := num_at_bd l (skipAt l 46 (endAt l 0))
    rw [hx1] at x1b ⊢
    have Hx1 := hid hx1
    clear hx1 hg hg2
    (try simp only [])
    refine hK'.out _ _ trivial (fun hHeldN => ?_)
    clear hK' K' hHeldN
    (try simp only [Act.put, gA, gB, gC, gD, gE, gF])
    have u2 : IntKind.i64.wrap (100 * x0 + x1) = 100 * x0 + x1 := IntWalk.i64_in _ (by omega)
    have y3 := blk_cell hy 3 _ rfl
    refine wpAnyH_ready (rs := [1]) (by kernel_rfl) (by simp) ?_
    refine AllReadyH.cons rfl (fun K' hK' => ?_) AllReadyH.nil
    go_simp
    (try simp only [])
    refine hK'.out _ _ trivial (fun hHeldN => ?_)
    clear hK' K' hHeldN
    (try simp only [Act.put, gA, gB, gC, gD, gE, gF])
    clear y3
    refine wpAnyH_take (i := 4) (v := ?_) rfl (by kernel_rfl) (by kernel_rfl) (by kernel_rfl) (fun _ _ _ h => h) (Or.inl ⟨by rfl, ?_⟩) hHeld ?_
    rotate_left
    · intro w9 hSw
      clear hSw
      go_simp
      all_goals (try with_reducible rfl)
    (try simp only [Act.put, gA, gB, gC, gD, gE, gF])
    (try simp only [u2])
    refine wpAnyH_take (i := 5) (v := ?_) rfl (by kernel_rfl) (by kernel_rfl) (by kernel_rfl) (fun _ _ _ h => h) (Or.inl ⟨by rfl, ?_⟩) hHeld ?_
    rotate_left
    · intro w9 hSw
      clear hSw
      go_simp
      all_goals (try with_reducible rfl)
    (try simp only [Act.put, gA, gB, gC, gD, gE, gF])
    have y3 := blk_cell hy 3 _ rfl
    have k3 := blk_frozen hy 3
    refine wpAnyH_ready (rs := [6]) (by kernel_rfl) (by simp) ?_
    refine AllReadyH.cons rfl (fun K' hK' => ?_) AllReadyH.nil
    go_simp
    (try simp only [])
    refine hK'.out _ _ trivial (fun hHeldN => ?_)
    clear hK' K' hHeldN
    (try simp only [Act.put, gA, gB, gC, gD, gE, gF])
    refine wpAnyH_done (by kernel_rfl) ?_ _
    clear y3 k3 u2
    have k0 := blk_frozen hy 3
    have y0 := blk_cell hy 3 _ rfl
    have Hz3 := hid (blk_set_other hz ⟨B, 3, none⟩ hB1 (.int .i64 (100 * x0 + x1)))
    have Hy3 := hid ((blk_set hy 3 (.int .i64 (100 * x0 + x1))).trans (show _ = some (Obj.cells #[.int .i64 0, .int .i64 0, .int .i64 0, .int .i64 (100 * x0 + x1)] 37 (0, 0)) from rfl))
    have HC3 := hid (CurAt.other hc ⟨B, 3, none⟩ hB2 (.int .i64 (100 * x0 + x1)))
    have Hg3 := hid (gr_setCell hgw (p := ⟨B, 3, none⟩) (.inr hB3) (.int .i64 (100 * x0 + x1)))
    (try clear hg)
    clear hc hz hy hgw
    go_wp2_with fail
    generalize (w3.setCell ⟨B, 3, none⟩ (.int .i64 (100 * x0 + x1))) = W3 at *
    clear k0 y0
    refine (HS.out 32 (endAt l (skipAt l 46 (endAt l 0))) _ _ rfl HC3.out p3).mono ?_
    rintro e' w4 ⟨rfl, hc, hg⟩
    have Hz4 := hid (blk_keep Hz3.out hg (by simp; omega))
    have Hy4 := hid (blk_keep Hy3.out hg (by simp; omega))
    have HC4 := hid hc
    have Hg4 := hid (gr_own Hg3.out hg (fun g e => by cases e; omega))
    clear hg hc
    go_wp2_with fail
    refine (HD.out (bP2 l) _ HC4.out p4).mono ?_
    rintro e' w5 ⟨rfl, hc, hg⟩
    have Hz5 := hid (blk_keep Hz4.out hg (by simp; omega))
    have Hy5 := hid (blk_keep Hy4.out hg (by simp; omega))
    have HC5 := hid hc
    have Hg5 := hid (gr_own Hg4.out hg (fun g e => by cases e; omega))
    clear hg hc
    go_wp2_with fail
    refine (DayOf_any (dY l (bP2 l)) (dM l (bP2 l)) (dD l (bP2 l)) _ (Hm.out.mo.keep0 Hg5.out)).mono ?_
    rintro e' w6 ⟨rfl, hg⟩
    have hz := blk_keep Hz5.out hg (by simp)
    have hy := blk_keep Hy5.out hg (by simp)
    have hc := CurAt.keep HC5.out hg (by simp)
    have hgw := gr_trans0 Hg5.out hg
    obtain ⟨xs, hx⟩ : ∃ x, dayOfF (dY l (bP2 l)) (dM l (bP2 l)) (dD l (bP2 l)) = x := ⟨_, rfl⟩
    have Hxs := hid hx
    rw [hx]
    clear hx
    have k0 := blk_frozen hy 0
    have y0 := blk_cell hy 0 _ rfl
    have Hz6 := hid (blk_set_other hz ⟨B, 0, none⟩ hB1 (.int .i64 xs))
    have Hy6 := hid ((blk_set hy 0 (.int .i64 xs)).trans (show _ = some (Obj.cells #[.int .i64 xs, .int .i64 0, .int .i64 0, .int .i64 (100 * x0 + x1)] 37 (0, 0)) from rfl))
    have HC6 := hid (CurAt.other hc ⟨B, 0, none⟩ hB2 (.int .i64 xs))
    have Hg6 := hid (gr_setCell hgw (p := ⟨B, 0, none⟩) (.inr hB3) (.int .i64 xs))
    (try clear hg)
    clear hc hz hy hgw
    go_wp2_with fail
    generalize (w6.setCell ⟨B, 0, none⟩ (.int .i64 xs)) = W6 at *
    clear k0 y0
    refine (HS.out 32 (dEnd l (bP2 l)) _ _ rfl HC6.out p5).mono ?_
    rintro e' w7 ⟨rfl, hc, hg⟩
    have Hz7 := hid (blk_keep Hz6.out hg (by simp; omega))
    have Hy7 := hid (blk_keep Hy6.out hg (by simp; omega))
    have HC7 := hid hc
    have Hg7 := hid (gr_own Hg6.out hg (fun g e => by cases e; omega))
    clear hg hc
    go_wp2_with fail
    refine (HD.out (bP3 l) _ HC7.out p6).mono ?_
    rintro e' w8 ⟨rfl, hc, hg⟩
    have Hz8 := hid (blk_keep Hz7.out hg (by simp; omega))
    have Hy8 := hid (blk_keep Hy7.out hg (by simp; omega))
    have HC8 := hid hc
    have Hg8 := hid (gr_own Hg7.out hg (fun g e => by cases e; omega))
    clear hg hc
    go_wp2_with fail
    refine (DayOf_any (dY l (bP3 l)) (dM l (bP3 l)) (dD l (bP3 l)) _ (Hm.out.mo.keep0 Hg8.out)).mono ?_
    rintro e' w9 ⟨rfl, hg⟩
    have hz := blk_keep Hz8.out hg (by simp)
    have hy := blk_keep Hy8.out hg (by simp)
    have hc := CurAt.keep HC8.out hg (by simp)
    have hgw := gr_trans0 Hg8.out hg
    obtain ⟨xe, hx⟩ : ∃ x, dayOfF (dY l (bP3 l)) (dM l (bP3 l)) (dD l (bP3 l)) = x := ⟨_, rfl⟩
    have Hxe := hid hx
    rw [hx]
    clear hx
    have k0 := blk_frozen hy 1
    have y0 := blk_cell hy 1 _ rfl
    have Hz9 := hid (blk_set_other hz ⟨B, 1, none⟩ hB1 (.int .i64 xe))
    have Hy9 := hid ((blk_set hy 1 (.int .i64 xe)).trans (show _ = some (Obj.cells #[.int .i64 xs, .int .i64 xe, .int .i64 0, .int .i64 (100 * x0 + x1)] 37 (0, 0)) from rfl))
    have HC9 := hid (CurAt.other hc ⟨B, 1, none⟩ hB2 (.int .i64 xe))
    have Hg9 := hid (gr_setCell hgw (p := ⟨B, 1, none⟩) (.inr hB3) (.int .i64 xe))
    (try clear hg)
    clear hc hz hy hgw
    go_wp2_with fail
    generalize (w9.setCell ⟨B, 1, none⟩ (.int .i64 xe)) = W9 at *
    clear k0 y0
    refine (HS.out 32 (dEnd l (bP3 l)) _ _ rfl HC9.out p7).mono ?_
    rintro e' w10 ⟨rfl, hc, hg⟩
    have Hz10 := hid (blk_keep Hz9.out hg (by simp; omega))
    have Hy10 := hid (blk_keep Hy9.out hg (by simp; omega))
    have HC10 := hid hc
    have Hg10 := hid (gr_own Hg9.out hg (fun g e => by cases e; omega))
    clear hg hc
    go_wp2_with fail
    refine (HN.out (bP4 l) _ HC10.out p8).mono ?_
    rintro e' w11 ⟨rfl, hc, hg⟩
    obtain ⟨xm, hxm⟩ : ∃ x, numAt l (bP4 l) = x := ⟨_, rfl⟩
    rw [hxm]
    have Hxm := hid hxm
    clear hxm
    have hz := blk_keep Hz10.out hg (by simp; omega)
    have hy := blk_keep Hy10.out hg (by simp; omega)
    have hgw := gr_own Hg10.out hg (fun g e => by cases e; omega)
    have k2 := blk_frozen hy 2
    have HyF := hid ((blk_set hy 2 (.int .i64 xm)).trans (show _ = some (Obj.cells #[.int .i64 xs, .int .i64 xe, .int .i64 xm, .int .i64 (100 * x0 + x1)] 37 (0, 0)) from rfl))
    have HzF := hid (blk_set_other hz ⟨B, 2, none⟩ hB1 (.int .i64 xm))
    have HgF := hid (gr_setCell hgw (p := ⟨B, 2, none⟩) (.inr hB3) (.int .i64 xm))
    have y0 := blk_cell hy 0 _ rfl
    have y1 := blk_cell hy 1 _ rfl
    have y2 := blk_cell hy 2 _ rfl
    have y3 := blk_cell hy 3 _ rfl
    have z0 := blk_cell hz 0 _ rfl
    have z1 := blk_cell hz 1 _ rfl
    have z2 := blk_cell hz 2 _ rfl
    have z3 := blk_cell hz 3 _ rfl
    have g0 := blk_frozen hz 0
    have g1 := blk_frozen hz 1
    have g2 := blk_frozen hz 2
    have g3 := blk_frozen hz 3
    have hBw : ¬ w.heap.size = B := fun e => hB1 e.symm
    have hcur : curB l = ⟨xs, xe, xm, 100 * x0 + x1⟩ := by unfold curB; rw [Hxs.out, Hxe.out, Hxm.out, Hx0.out]; rw [show numAt l (bP1 l) = x1 from Hx1.out]
    (try clear hg)
    clear hc hz hy hgw
    have hfy : pbOk l = true → fmtBond ⟨xs, xe, xm, 100 * x0 + x1⟩ = l := fun h => by rw [← hcur]; exact pb_fmt h
    have hfn : l ≠ [] → pbOk l = false → fmtBond ⟨xs, xe, xm, 100 * x0 + x1⟩ ≠ l := fun h0 h => by rw [← hcur]; exact pb_fmt_no h h0
    have hno : pbOk l = false → pbV l = zeroB ∧ pbOk l = false := fun h => ⟨by unfold pbV; rw [h]; rfl, h⟩
    have hyes : pbOk l = true → pbV l = ⟨xs, xe, xm, 100 * x0 + x1⟩ ∧ pbOk l = true := fun h => ⟨by unfold pbV; rw [if_pos h, hcur], h⟩
    have HFm := hid (fun wx hx => FormatBond_any ⟨xs, xe, xm, 100 * x0 + x1⟩ wx hx)
    simp only at HFm
    clear hcur
    by_cases h0 : l = []
    · have HE := hid (hno (by rw [h0]; exact pb_nil))
      have h0b : (l == []) = true := by simpa using h0
      clear h0 hno hyes hfy hfn HFm
      go_wp2_with fail
      refine bodyPost_ret (v := .tuple #[.agg #[.int .i64 0, .int .i64 0, .int .i64 0, .int .i64 0], .bool false]) (by simp [results, Tryz.results46, go_sem, *]) rfl ⟨pb_ret HE.out, ?_⟩
      repeat (first | exact HgF.out | refine gr_setCell ?_ (.inr (Nat.le_refl _)) _)
    have h0b : (l == []) = false := by simpa using h0
    go_wp2_with fail
    refine (HFm.out _ (Hm.out.keep0 HgF.out)).mono ?_
    rintro e' w12 ⟨rfl, hg⟩
    have HgG := hid (gr_trans0 HgF.out hg)
    have hz := blk_keep HzF.out hg (by simp)
    have hy := blk_keep HyF.out hg (by simp)
    generalize fmtBond ⟨xs, xe, xm, 100 * x0 + x1⟩ = F at *
    clear hg y0 y1 y2 y3 z0 z1 z2 z3 g0 g1 g2 g3 k2 HFm
    have y0 := blk_cell hy 0 _ rfl
    have y1 := blk_cell hy 1 _ rfl
    have y2 := blk_cell hy 2 _ rfl
    have y3 := blk_cell hy 3 _ rfl
    have z0 := blk_cell hz 0 _ rfl
    have z1 := blk_cell hz 1 _ rfl
    have z2 := blk_cell hz 2 _ rfl
    have z3 := blk_cell hz 3 _ rfl
    have g0 := blk_frozen hz 0
    have g1 := blk_frozen hz 1
    have g2 := blk_frozen hz 2
    have g3 := blk_frozen hz 3
    clear hz hy
    cases hp : pbOk l with
    | false =>
      have HE := hid (hno hp)
      have hF : (F == l) = false := by simpa using hfn h0 hp
      clear h0 hno hyes hfy hfn hp
      go_wp2_with fail
      refine bodyPost_ret (v := .tuple #[.agg #[.int .i64 0, .int .i64 0, .int .i64 0, .int .i64 0], .bool false]) (by simp [results, Tryz.results46, go_sem, *]) rfl ⟨pb_ret HE.out, ?_⟩
      repeat (first | exact HgG.out | refine gr_setCell ?_ (.inr (Nat.le_refl _)) _)
    | true =>
      have HE := hid (hyes hp)
      have hF : (F == l) = true := by simpa using hfy hp
      clear h0 hno hyes hfy hfn hp
      go_wp2_with fail
      refine bodyPost_ret (v := .tuple #[.agg #[.int .i64 xs, .int .i64 xe, .int .i64 xm, .int .i64 (100 * x0 + x1)], .bool true]) (by simp [results, Tryz.results46, go_sem, *]) rfl ⟨pb_ret HE.out, ?_⟩
      repeat (first | exact HgG.out | refine gr_setCell ?_ (.inr (Nat.le_refl _)) _)

end Go.Proofs.YtielicmjdhmcjaaGreatDoor
