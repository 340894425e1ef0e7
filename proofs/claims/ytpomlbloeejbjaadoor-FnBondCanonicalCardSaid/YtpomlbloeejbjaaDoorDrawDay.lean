/- The generators of a bond and a day: they end. -/
import Derived.Test.YtpomlbloeejbjaaDoorRows
import Derived.Test.YtpomlbloeejbjaaDoorBase
import Derived.Test.YtpomlbloeejbjaaDoorDrawBond
namespace Go.Proofs.YtpomlbloeejbjaaDoor
open Go.RowKit

structure BdB (b : Bond) : Prop where
  s0 : 5000 ≤ b.start
  s1 : b.start ≤ 12719
  e0 : -1000000 ≤ b.stop
  e1 : b.stop ≤ 1000000
  m0 : 0 ≤ b.months
  m1 : b.months ≤ 12
  r0 : -1 ≤ b.rate
  r1 : b.rate ≤ 3001

set_option maxRecDepth 100000 in
set_option maxHeartbeats 1000000 in
theorem anyBond_any (rb m : Nat) (w : World) (h : Rdr 72 w rb m) (hm : m ≤ 100000) :
    Calls Tryd.prog 46 #[.pointer (some ⟨rb, 0, none⟩)] w fun e w' => ∃ b : Bond, e = .returned (.agg #[.int .i64 b.start, .int .i64 b.stop, .int .i64 b.months, .int .i64 b.rate]) ∧ BdB b ∧ Rdr 72 w' rb (m + 8) ∧ w.grownBy w' (some rb) := by
  have hlt := h.lt
  go_enter Tryd.func46, Tryd.ntmps46
  go_wp2_with fail
  refine (randomBond_any rb m _ (h.keep0 (gr_alloc (gr_refl _ _) _)) (by omega)).mono ?_
  rintro e w1 ⟨⟨S, E, M, R⟩, rfl, ⟨b0, b1⟩, ⟨b2, b3⟩, ⟨b4, b5⟩, ⟨b6, b7⟩, h1, hg⟩
  simp only at b0 b1 b2 b3 b4 b5 b6 b7
  have Hg1 := hid (gr_transS (gr_alloc (gr_refl _ _) _) hg)
  have Hb1 := hid (blk_keep (heap_alloc_new w (.cells #[.int .i64 0, .int .i64 0, .int .i64 0, .int .i64 0] 37)) hg (by simp; omega))
  have hDw : w.heap.size < w1.heap.size := blk_lt Hb1.out
  have hlt1 := h1.lt
  clear hg h
  go_wp2_with fail
  refine (pick_any rb _ 24 _ (h1.keep0 (gr_alloc (gr_refl _ _) _)) (by omega)).mono ?_
  rintro e w2 ⟨t, rfl, ht0, ht1, h2, hg⟩
  have Hg2 := hid (gr_transS (gr_alloc Hg1.out _) hg)
  have Hb2 := hid (blk_keep (blk_alloc Hb1.out _) hg (by simp; omega))
  have Hd2 := hid (blk_keep (heap_alloc_new w1 (.cells #[.int .i64 S, .int .i64 E, .int .i64 M, .int .i64 R] 37)) hg (by simp; omega))
  clear hg h1 Hb1 Hg1 ht1
  generalize w1.heap.size = D at *
  have n1 : ¬ D = w.heap.size := by omega
  have hDle : w.heap.size ≤ D := by omega
  have n2 : ¬ w.heap.size = D := by omega
  by_cases t0 : t = 0
  · subst t0
    have d0 := blk_cell Hd2.out 0 _ rfl
    go_wp2_with fail
    refine (one_lit rb _ [S, S + 1, 36525, S - 1] _ _ _ rfl rfl (by simp) (by simp) _ _ rfl h2 (by omega)).mono ?_
    rintro e w3 ⟨x, rfl, hx, h3, hg3⟩
    have hxb : -1000000 ≤ x ∧ x ≤ 1000000 := by simp at hx; omega
    obtain ⟨x0, x1⟩ := hxb
    have HgF := hid (gr_transS Hg2.out hg3)
    have HB := hid (blk_keep Hb2.out hg3 (by simp; omega))
    have HD := hid (blk_keep Hd2.out hg3 (by simp; omega))
    have HR := hid (h3.mono (show _ ≤ m + 8 by omega))
    clear hg3 h3 hx h2
    clear d0
    have e0 := blk_cell HD.out 0 _ rfl
    have e1 := blk_cell HD.out 1 _ rfl
    have e2 := blk_cell HD.out 2 _ rfl
    have e3 := blk_cell HD.out 3 _ rfl
    have f0 := blk_cell HB.out 0 _ rfl
    have f1 := blk_cell HB.out 1 _ rfl
    have f2 := blk_cell HB.out 2 _ rfl
    have f3 := blk_cell HB.out 3 _ rfl
    have k0 := blk_frozen HB.out 0
    have k1 := blk_frozen HB.out 1
    have k2 := blk_frozen HB.out 2
    have k3 := blk_frozen HB.out 3
    have j0 := blk_frozen HD.out 0
    have j1 := blk_frozen HD.out 1
    have j2 := blk_frozen HD.out 2
    have j3 := blk_frozen HD.out 3
    go_wp2_with fail
    refine bodyPost_ret (v := .agg #[.int .i64 S, .int .i64 x, .int .i64 M, .int .i64 R]) (by simp [results, Tryd.results46, go_sem, *]) rfl ⟨⟨S, x, M, R⟩, rfl, ⟨by simp only; omega, by simp only; omega, by simp only; omega, by simp only; omega, by simp only; omega, by simp only; omega, by simp only; omega, by simp only; omega⟩, ?_, ?_⟩
    · exact ((((HR.out.setCell hlt1 _).setCell hlt _).setCell hlt _).setCell hlt _).setCell hlt _
    · exact gr_setCell (gr_setCell (gr_setCell (gr_setCell (gr_setCell HgF.out (.inr hDle) _) (.inr (Nat.le_refl _)) _) (.inr (Nat.le_refl _)) _) (.inr (Nat.le_refl _)) _) (.inr (Nat.le_refl _)) _
  by_cases t1 : t = 1
  · subst t1
    go_wp2_with fail
    refine (one_lit rb _ [2, 0, 1] _ _ _ rfl rfl (by simp) (by simp) _ _ rfl h2 (by omega)).mono ?_
    rintro e w3 ⟨x, rfl, hx, h3, hg3⟩
    have hxb : 0 ≤ x ∧ x ≤ 12 := by simp at hx; omega
    obtain ⟨x0, x1⟩ := hxb
    have HgF := hid (gr_transS Hg2.out hg3)
    have HB := hid (blk_keep Hb2.out hg3 (by simp; omega))
    have HD := hid (blk_keep Hd2.out hg3 (by simp; omega))
    have HR := hid (h3.mono (show _ ≤ m + 8 by omega))
    clear hg3 h3 hx h2
    have e0 := blk_cell HD.out 0 _ rfl
    have e1 := blk_cell HD.out 1 _ rfl
    have e2 := blk_cell HD.out 2 _ rfl
    have e3 := blk_cell HD.out 3 _ rfl
    have f0 := blk_cell HB.out 0 _ rfl
    have f1 := blk_cell HB.out 1 _ rfl
    have f2 := blk_cell HB.out 2 _ rfl
    have f3 := blk_cell HB.out 3 _ rfl
    have k0 := blk_frozen HB.out 0
    have k1 := blk_frozen HB.out 1
    have k2 := blk_frozen HB.out 2
    have k3 := blk_frozen HB.out 3
    have j0 := blk_frozen HD.out 0
    have j1 := blk_frozen HD.out 1
    have j2 := blk_frozen HD.out 2
    have j3 := blk_frozen HD.out 3
    go_wp2_with fail
    refine bodyPost_ret (v := .agg #[.int .i64 S, .int .i64 E, .int .i64 x, .int .i64 R]) (by simp [results, Tryd.results46, go_sem, *]) rfl ⟨⟨S, E, x, R⟩, rfl, ⟨by simp only; omega, by simp only; omega, by simp only; omega, by simp only; omega, by simp only; omega, by simp only; omega, by simp only; omega, by simp only; omega⟩, ?_, ?_⟩
    · exact ((((HR.out.setCell hlt1 _).setCell hlt _).setCell hlt _).setCell hlt _).setCell hlt _
    · exact gr_setCell (gr_setCell (gr_setCell (gr_setCell (gr_setCell HgF.out (.inr hDle) _) (.inr (Nat.le_refl _)) _) (.inr (Nat.le_refl _)) _) (.inr (Nat.le_refl _)) _) (.inr (Nat.le_refl _)) _
  by_cases t2 : t = 2
  · subst t2
    go_wp2_with fail
    refine (one_lit rb _ [-1, 3000, 3001] _ _ _ rfl rfl (by simp) (by simp) _ _ rfl h2 (by omega)).mono ?_
    rintro e w3 ⟨x, rfl, hx, h3, hg3⟩
    have hxb : -1 ≤ x ∧ x ≤ 3001 := by simp at hx; omega
    obtain ⟨x0, x1⟩ := hxb
    have HgF := hid (gr_transS Hg2.out hg3)
    have HB := hid (blk_keep Hb2.out hg3 (by simp; omega))
    have HD := hid (blk_keep Hd2.out hg3 (by simp; omega))
    have HR := hid (h3.mono (show _ ≤ m + 8 by omega))
    clear hg3 h3 hx h2
    have e0 := blk_cell HD.out 0 _ rfl
    have e1 := blk_cell HD.out 1 _ rfl
    have e2 := blk_cell HD.out 2 _ rfl
    have e3 := blk_cell HD.out 3 _ rfl
    have f0 := blk_cell HB.out 0 _ rfl
    have f1 := blk_cell HB.out 1 _ rfl
    have f2 := blk_cell HB.out 2 _ rfl
    have f3 := blk_cell HB.out 3 _ rfl
    have k0 := blk_frozen HB.out 0
    have k1 := blk_frozen HB.out 1
    have k2 := blk_frozen HB.out 2
    have k3 := blk_frozen HB.out 3
    have j0 := blk_frozen HD.out 0
    have j1 := blk_frozen HD.out 1
    have j2 := blk_frozen HD.out 2
    have j3 := blk_frozen HD.out 3
    go_wp2_with fail
    refine bodyPost_ret (v := .agg #[.int .i64 S, .int .i64 E, .int .i64 M, .int .i64 x]) (by simp [results, Tryd.results46, go_sem, *]) rfl ⟨⟨S, E, M, x⟩, rfl, ⟨by simp only; omega, by simp only; omega, by simp only; omega, by simp only; omega, by simp only; omega, by simp only; omega, by simp only; omega, by simp only; omega⟩, ?_, ?_⟩
    · exact ((((HR.out.setCell hlt1 _).setCell hlt _).setCell hlt _).setCell hlt _).setCell hlt _
    · exact gr_setCell (gr_setCell (gr_setCell (gr_setCell (gr_setCell HgF.out (.inr hDle) _) (.inr (Nat.le_refl _)) _) (.inr (Nat.le_refl _)) _) (.inr (Nat.le_refl _)) _) (.inr (Nat.le_refl _)) _
  have p0 : (t == 0) = false := by simpa using t0
  have p1 : (t == 1) = false := by simpa using t1
  have p2 : (t == 2) = false := by simpa using t2
  have HgF := Hg2
  have HB := Hb2
  have HD := Hd2
  have HR := hid (h2.mono (show _ ≤ m + 8 by omega))
  clear h2 Hb2 Hd2 Hg2 t0 t1 t2
  have e0 := blk_cell HD.out 0 _ rfl
  have e1 := blk_cell HD.out 1 _ rfl
  have e2 := blk_cell HD.out 2 _ rfl
  have e3 := blk_cell HD.out 3 _ rfl
  have f0 := blk_cell HB.out 0 _ rfl
  have f1 := blk_cell HB.out 1 _ rfl
  have f2 := blk_cell HB.out 2 _ rfl
  have f3 := blk_cell HB.out 3 _ rfl
  have k0 := blk_frozen HB.out 0
  have k1 := blk_frozen HB.out 1
  have k2 := blk_frozen HB.out 2
  have k3 := blk_frozen HB.out 3
  have j0 := blk_frozen HD.out 0
  have j1 := blk_frozen HD.out 1
  have j2 := blk_frozen HD.out 2
  have j3 := blk_frozen HD.out 3
  go_wp2_with fail
  refine bodyPost_ret (v := .agg #[.int .i64 S, .int .i64 E, .int .i64 M, .int .i64 R]) (by simp [results, Tryd.results46, go_sem, *]) rfl ⟨⟨S, E, M, R⟩, rfl, ⟨by simp only; omega, by simp only; omega, by simp only; omega, by simp only; omega, by simp only; omega, by simp only; omega, by simp only; omega, by simp only; omega⟩, ?_, ?_⟩
  · exact (((HR.out.setCell hlt _).setCell hlt _).setCell hlt _).setCell hlt _
  · exact gr_setCell (gr_setCell (gr_setCell (gr_setCell HgF.out (.inr (Nat.le_refl _)) _) (.inr (Nat.le_refl _)) _) (.inr (Nat.le_refl _)) _) (.inr (Nat.le_refl _)) _

end Go.Proofs.YtpomlbloeejbjaaDoor
