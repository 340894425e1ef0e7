/- The generators of marks and books: they end, with memory of the call's own. -/
import Derived.Test.YthehhnckfoappaaRows
import Derived.Test.YthehhnckfoappaaBase
import Derived.Test.YthehhnckfoappaaReader
import Derived.Test.YthehhnckfoappaaFamMark
namespace Go.Proofs.Ythehhnckfoappaa
open Go.RowKit

set_option maxHeartbeats 1000000 in
theorem anyMark_any (rb m : Nat) (w : World) (h : Rdr 77 w rb m) (hm : m ≤ 1000000) :
    Calls Try.prog 63 #[.pointer (some ⟨rb, 0, none⟩)] w fun e w' => ∃ x : Mark, e = .returned (.agg #[.int .i64 x.many, .int .i64 x.clean, .int .i64 x.accrued]) ∧ Rdr 77 w' rb (m + 10) ∧ w.grownBy w' (some rb) := by
  have hlt := h.lt
  go_enter Try.func63, Try.ntmps63
  go_wp2_with fail
  refine (one_lit rb m [10, -10, 0, 100, 25, 9999] _ _ _ rfl rfl (by decide) (by decide) _ _ (by simp) (h.keep0 (gr_alloc (gr_refl _ _) _)) (by omega)).mono ?_
  rintro e w1 ⟨x, rfl, hx, h1, hg⟩
  have hxb : -10 ≤ x ∧ x ≤ 9999 := by simp at hx; omega
  have hR := blk_keep (heap_alloc_new w _) hg (fun k e => by cases e; omega)
  have Hg := hid (gr_transS (gr_alloc (gr_refl _ _) _) hg); clear hg hx
  have HR := hid hR; clear hR
  go_wp2_with fail
  refine (pick_any rb _ 200 w1 h1 (by omega)).mono ?_
  rintro e w2 ⟨y, rfl, hy0, hy1, h2, hg⟩
  have hyb : y < 200 := by omega
  have HR2 := hid (blk_keep HR.out hg (fun k e => by cases e; omega)); clear HR
  have Hg2 := hid (gr_transS Hg.out hg); clear Hg hg hy1 h1
  go_wp2_with fail
  refine (pick_any rb _ 200 w2 h2 (by omega)).mono ?_
  rintro e w3 ⟨z, rfl, hz0, hz1, h3, hg⟩
  have hzb : z < 200 := by omega
  have HR3 := hid (blk_keep HR2.out hg (fun k e => by cases e; omega)); clear HR2
  have Hg3 := hid (gr_transS Hg2.out hg); clear Hg2 hg hz1 h2
  have hs3 := Hg3.out.size
  go_wp2_with fail
  refine (pick_any rb _ 24 _ (h3.keep0 (gr_alloc (gr0 _) _)) (by omega)).mono ?_
  rintro e w4 ⟨k, rfl, hk0, hk1, h4, hg⟩
  have hkb : k < 24 := by omega
  have HR4 := hid (blk_keep (blk_alloc HR3.out _) hg (fun k e => by cases e; omega))
  have HM4 := hid (blk_keep (heap_alloc_new w3 _) hg (fun k e => by cases e; omega))
  have Hg4 := hid (gr_transS (gr_alloc Hg3.out _) hg); clear Hg3 hg hk1 h3
  have hMR : ¬ w3.heap.size = w.heap.size := by have := blk_lt HR3.out; omega
  have hRM : ¬ w.heap.size = w3.heap.size := by omega
  clear HR3
  by_cases hk0' : k = 0
  · subst hk0'
    go_wp2_with fail
    refine (one_lit rb _ [10000, -10000, -9999] _ _ _ rfl rfl (by decide) (by decide) _ _ rfl h4 (by omega)).mono ?_
    rintro e w5 ⟨u, rfl, _, h5, hg⟩
    have HR5 := hid (blk_keep HR4.out hg (fun k e => by cases e; omega))
    have hM5 := blk_keep HM4.out hg (fun k e => by cases e; omega)
    have Hg5 := hid (gr_transS Hg4.out hg); clear hg
    have H5 := hid h5; clear h5
    have c0 := blk_cell hM5 0 _ rfl
    have c1 := blk_cell hM5 1 _ rfl
    have c2 := blk_cell hM5 2 _ rfl
    have f := blk_frozen hM5 0
    have r0 := blk_cell HR5.out 0 _ rfl
    have r1 := blk_cell HR5.out 1 _ rfl
    have r2 := blk_cell HR5.out 2 _ rfl
    have g0 := blk_frozen HR5.out 0
    have g1 := blk_frozen HR5.out 1
    have g2 := blk_frozen HR5.out 2
    clear hM5
    go_wp2
    refine bodyPost_ret (v := .agg #[.int .i64 (u), .int .i64 (9900 + y), .int .i64 (z)]) (by simp [results, Try.results63, go_sem, r0, r1, r2]) rfl ⟨⟨u, 9900 + y, z⟩, rfl, ?_, ?_⟩
    · refine Rdr.mono (m := m + 1 + 1 + 1 + 1 + 1) ?_ (by omega)
      repeat (first | exact H5.out | refine Rdr.setCell ?_ (by dsimp only; omega) _)
    · repeat (first | exact Hg5.out | refine gr_setCell ?_ (.inr (by dsimp only; omega)) _)
  by_cases hk1' : k = 1
  · subst hk1'
    go_wp2_with fail
    refine (one_lit rb _ [-1, 0, 50000, 50001] _ _ _ rfl rfl (by decide) (by decide) _ _ rfl h4 (by omega)).mono ?_
    rintro e w5 ⟨u, rfl, _, h5, hg⟩
    have HR5 := hid (blk_keep HR4.out hg (fun k e => by cases e; omega))
    have hM5 := blk_keep HM4.out hg (fun k e => by cases e; omega)
    have Hg5 := hid (gr_transS Hg4.out hg); clear hg
    have H5 := hid h5; clear h5
    have c0 := blk_cell hM5 0 _ rfl
    have c1 := blk_cell hM5 1 _ rfl
    have c2 := blk_cell hM5 2 _ rfl
    have f := blk_frozen hM5 1
    have r0 := blk_cell HR5.out 0 _ rfl
    have r1 := blk_cell HR5.out 1 _ rfl
    have r2 := blk_cell HR5.out 2 _ rfl
    have g0 := blk_frozen HR5.out 0
    have g1 := blk_frozen HR5.out 1
    have g2 := blk_frozen HR5.out 2
    clear hM5
    go_wp2
    refine bodyPost_ret (v := .agg #[.int .i64 (x), .int .i64 (u), .int .i64 (z)]) (by simp [results, Try.results63, go_sem, r0, r1, r2]) rfl ⟨⟨x, u, z⟩, rfl, ?_, ?_⟩
    · refine Rdr.mono (m := m + 1 + 1 + 1 + 1 + 1) ?_ (by omega)
      repeat (first | exact H5.out | refine Rdr.setCell ?_ (by dsimp only; omega) _)
    · repeat (first | exact Hg5.out | refine gr_setCell ?_ (.inr (by dsimp only; omega)) _)
  by_cases hk2' : k = 2
  · subst hk2'
    go_wp2_with fail
    refine (one_lit rb _ [-1, 50001] _ _ _ rfl rfl (by decide) (by decide) _ _ rfl h4 (by omega)).mono ?_
    rintro e w5 ⟨u, rfl, _, h5, hg⟩
    have HR5 := hid (blk_keep HR4.out hg (fun k e => by cases e; omega))
    have hM5 := blk_keep HM4.out hg (fun k e => by cases e; omega)
    have Hg5 := hid (gr_transS Hg4.out hg); clear hg
    have H5 := hid h5; clear h5
    have c0 := blk_cell hM5 0 _ rfl
    have c1 := blk_cell hM5 1 _ rfl
    have c2 := blk_cell hM5 2 _ rfl
    have f := blk_frozen hM5 2
    have r0 := blk_cell HR5.out 0 _ rfl
    have r1 := blk_cell HR5.out 1 _ rfl
    have r2 := blk_cell HR5.out 2 _ rfl
    have g0 := blk_frozen HR5.out 0
    have g1 := blk_frozen HR5.out 1
    have g2 := blk_frozen HR5.out 2
    clear hM5
    go_wp2
    refine bodyPost_ret (v := .agg #[.int .i64 (x), .int .i64 (9900 + y), .int .i64 (u)]) (by simp [results, Try.results63, go_sem, r0, r1, r2]) rfl ⟨⟨x, 9900 + y, u⟩, rfl, ?_, ?_⟩
    · refine Rdr.mono (m := m + 1 + 1 + 1 + 1 + 1) ?_ (by omega)
      repeat (first | exact H5.out | refine Rdr.setCell ?_ (by dsimp only; omega) _)
    · repeat (first | exact Hg5.out | refine gr_setCell ?_ (.inr (by dsimp only; omega)) _)
  have e0 : (k == 0) = false := by simpa using hk0'
  have e1 : (k == 1) = false := by simpa using hk1'
  have e2 : (k == 2) = false := by simpa using hk2'
  have hM5 := HM4.out
  have HR5 := HR4
  have H5 := hid h4; clear h4
  have c0 := blk_cell hM5 0 _ rfl
  have c1 := blk_cell hM5 1 _ rfl
  have c2 := blk_cell hM5 2 _ rfl
  have r0 := blk_cell HR5.out 0 _ rfl
  have r1 := blk_cell HR5.out 1 _ rfl
  have r2 := blk_cell HR5.out 2 _ rfl
  have g0 := blk_frozen HR5.out 0
  have g1 := blk_frozen HR5.out 1
  have g2 := blk_frozen HR5.out 2
  clear hM5
  go_wp2
  refine bodyPost_ret (v := .agg #[.int .i64 x, .int .i64 (9900 + y), .int .i64 z]) (by simp [results, Try.results63, go_sem, r0, r1, r2]) rfl ⟨⟨x, 9900 + y, z⟩, rfl, ?_, ?_⟩
  · refine Rdr.mono (m := m + 1 + 1 + 1 + 1) ?_ (by omega)
    repeat (first | exact H5.out | refine Rdr.setCell ?_ (by dsimp only; omega) _)
  · repeat (first | exact Hg4.out | refine gr_setCell ?_ (.inr (by dsimp only; omega)) _)

set_option maxHeartbeats 1000000 in
theorem anyBook_any (rb m : Nat) (w : World) (h : Rdr 77 w rb m) (hm : m ≤ 900000) :
    Calls Try.prog 47 #[.pointer (some ⟨rb, 0, none⟩)] w fun e w' => ∃ a n cap xs, e = .returned (.slice a n cap) ∧ Sl markL w' a n xs ∧ n ≤ cap ∧ n ≤ 9 ∧ Rdr 77 w' rb (m + 200) ∧ w.grownBy w' (some rb) := by
  obtain ⟨i0, hi, hz0, hz1, hz2⟩ := info_parts infoMark
  have hlt := h.lt
  go_enter Try.func47, Try.ntmps47
  go_wp2_with fail
  refine (one_lit rb m [3, 4, 2, 1, 0, 8, 9] _ _ _ rfl rfl (by decide) (by decide) _ _ (by simp) (h.keep0 (gr_alloc (gr_refl _ _) _)) (by omega)).mono ?_
  rintro e w1 ⟨x, rfl, hx, h1, hg⟩
  have hx9 : 0 ≤ x ∧ x ≤ 9 := by simp at hx; omega
  clear hx
  have hown : w1.ownsRow w.heap.size 45 3 (.slice (some ⟨w.heap.size, 0, none⟩) 0 0) 0 (([] : List Mark).flatMap markL.cells) :=
    own_pick (World.ownsRow_made w #[] 0 (Nat.le_refl _) (by decide) rfl) hlt hg
  have Hown := hid hown; clear hown
  have Hgr := hid (gr_transS (gr_alloc (gr_refl _ _) _) hg : w.grownBy w1 (some rb)); clear hg
  have H1 := hid h1; clear h1
  obtain ⟨x, rfl⟩ := Int.eq_ofNat_of_zero_le hx9.1
  go_wp2_with fail
  go_loopw [3, 4] (fun out i wr => ∃ (k : Nat) (a : Option Addr) (cap : Nat) (xs : List Mark), i = .int .i64 k ∧ k ≤ x ∧ out = .slice a (x - k) cap ∧ xs.length = x - k ∧ wr.ownsRow w.heap.size 45 3 (.slice a (x - k) cap) (x - k) (xs.flatMap markL.cells) ∧ Rdr 77 wr rb (m + 1 + 20 * (x - k)) ∧ w.grownBy wr (some rb)) (fun _ i _ => (intOf i).toNat)
  case atStart => exact ⟨x, _, _, [], rfl, Nat.le_refl _, by rw [Nat.sub_self], by simp, by rw [Nat.sub_self]; exact Hown.out, by rw [Nat.sub_self]; exact H1.out, Hgr.out⟩
  case round =>
    clear Hown H1 Hgr
    obtain ⟨k, a, cap, xs, rfl, hk, rfl, hlen, hown, hr, hgr⟩ := hrel
    by_cases h0 : 0 < k
    · have Hown := hid hown; clear hown
      have Hgr := hid hgr; clear hgr
      have Hlen := hid hlen; clear hlen
      go_wp2_with fail
      refine (one_lit rb _ [10, 0, 100, 25, 9999] _ _ _ rfl rfl (by decide) (by decide) _ _ rfl hr (by omega)).mono ?_
      rintro e w2 ⟨u, rfl, _, h2, hg⟩
      have Hown2 := hid (own_pick Hown.out hlt hg); clear Hown
      have Hg2 := hid (gr_transS Hgr.out hg); clear Hgr hg hr
      go_wp2_with fail
      refine (pick_any rb _ 200 _ h2 (by omega)).mono ?_
      rintro e w3 ⟨y, rfl, hyy0, hyy1, h3, hg⟩
      have hyb : y < 200 := by omega
      have Hown3 := hid (own_pick Hown2.out hlt hg); clear Hown2
      have Hg3 := hid (gr_transS Hg2.out hg); clear Hg2 hg h2 hyy1
      go_wp2_with fail
      refine (pick_any rb _ 200 _ h3 (by omega)).mono ?_
      rintro e w4 ⟨z, rfl, hzz0, hzz1, h4, hg⟩
      have hzb : z < 200 := by omega
      have Hown4 := hid (own_pick Hown3.out hlt hg); clear Hown3
      have Hg4 := hid (gr_transS Hg3.out hg); clear Hg3 hg h3 hzz1
      go_wp2_with fail
      refine (pick_any rb _ 12 _ (h4.keep0 (gr_alloc (gr0 _) _)) (by omega)).mono ?_
      rintro e w5 ⟨q, rfl, hq0, hq1, h5, hg⟩
      have hrow : (Value.slice a (x - k) cap).ownBlock ≠ some w4.heap.size := fun e => by have := (Hown4.out.lt _ e).2; omega
      have Hrow := hid hrow; clear hrow
      have Hown5 := hid (own_pick (Hown4.out.alloc _) hlt hg); clear Hown4
      have HM5 := hid (blk_keep (heap_alloc_new w4 _) hg (fun k e => by cases e; have := Hg4.out.size; omega))
      have hs4 := Hg4.out.size
      have Hg5 := hid (gr_transS (gr_alloc Hg4.out _) hg); clear Hg4 hg h4 hq1
      have hs5 := Hg5.out.size
      have hM5 := blk_lt HM5.out
      by_cases hq : q = 0
      · subst hq
        go_wp2_with fail
        refine (anyMark_any rb _ w5 h5 (by omega)).mono ?_
        rintro e w6 ⟨mk, rfl, h6, hg⟩
        have Hown6 := hid (own_pick Hown5.out hlt hg); clear Hown5
        have hM6 := blk_keep HM5.out hg (fun k e => by cases e; omega)
        have Hg6 := hid (gr_transS Hg5.out hg); clear Hg5 hg h5
        have H6 := hid h6; clear h6
        have hs6 := Hg6.out.size
        have c0 := blk_cell hM6 0 _ rfl
        have c1 := blk_cell hM6 1 _ rfl
        have c2 := blk_cell hM6 2 _ rfl
        have f0 := blk_frozen hM6 0
        have f1 := blk_frozen hM6 1
        have f2 := blk_frozen hM6 2
        clear hM6
        have hown7 : ((((w6.setCell ⟨w4.heap.size, 0, none⟩ (.int .i64 mk.many)).setCell ⟨w4.heap.size, 1, none⟩ (.int .i64 mk.clean)).setCell ⟨w4.heap.size, 2, none⟩ (.int .i64 mk.accrued)).ownsRow w.heap.size 45 3 (.slice a (x - k) cap) (x - k) (xs.flatMap markL.cells)) :=
          ownsRow_setCell_other (ownsRow_setCell_other (ownsRow_setCell_other Hown6.out Hrow.out _) Hrow.out _) Hrow.out _
        have Hg7 := hid (gr_setCell (gr_setCell (gr_setCell Hg6.out (p := ⟨w4.heap.size, 0, none⟩) (.inr hs4) (.int .i64 mk.many)) (p := ⟨w4.heap.size, 1, none⟩) (.inr hs4) (.int .i64 mk.clean)) (p := ⟨w4.heap.size, 2, none⟩) (.inr hs4) (.int .i64 mk.accrued))
        have H7 := hid (((H6.out.setCell (p := ⟨w4.heap.size, 0, none⟩) (by dsimp only; omega) (.int .i64 mk.many)).setCell (p := ⟨w4.heap.size, 1, none⟩) (by dsimp only; omega) (.int .i64 mk.clean)).setCell (p := ⟨w4.heap.size, 2, none⟩) (by dsimp only; omega) (.int .i64 mk.accrued))
        have Hown7 := hid hown7; clear hown7
        go_wp2_with (at_builtin; go_must (refine wpList_append_own _ rfl _ _ 36 rfl w.heap.size 45 i0 _ 3 24 Try.underlying36 hi hz0 hz1 hz2 rfl (by decide) _ _ _ rfl (Hown7.out.alloc _) ⟨w6.heap.size, 0, none⟩ 1 1 [.int .i64 mk.many, .int .i64 mk.clean, .int .i64 mk.accrued] rfl rfl ?c1 ?c2 ?c3 ?c4 ?c5 ?_))
        case c1 => exact cells_new _ _ _ _ (by simp)
        case c2 => simp [Value.oneCell']
        case c3 => unfold maxLen; omega
        case c4 => omega
        case c5 => simp; omega
        intro v' w8 hown8 hg8 _
        obtain ⟨a', cap', rfl, hcap'⟩ := own_form hown8
        have hgr8 : w.grownBy w8 (some rb) := gr_append (gr_alloc Hg7.out _) (Hown7.out.alloc _) (Nat.le_refl _) hg8
        have hr8 := (H7.out.keep0 (gr_alloc (gr_refl _ _) _)).append (Hown7.out.alloc _) hlt hg8
        have Hown8 := hid hown8; clear hown8
        have Hgr8 := hid hgr8; clear hgr8
        have Hr8 := hid hr8; clear hr8
        clear hg8
        go_wp2
        go_roundw
        case rel =>
          have e1 : x - (k - 1) = x - k + 1 := by omega
          refine ⟨k - 1, a', cap', xs ++ [mk], by congr 1; omega, by omega, by rw [e1], by rw [List.length_append, Hlen.out, e1]; rfl, ?_, ?_, Hgr8.out⟩
          · rw [e1, List.flatMap_append]; exact Hown8.out
          · rw [e1]; exact Hr8.out.mono (by omega)
        case measure => simp [intOf]; omega
      · have hqb : (q == 0) = false := by simpa using hq
        have hM6 := HM5.out
        have c0 := blk_cell hM6 0 _ rfl
        have c1 := blk_cell hM6 1 _ rfl
        have c2 := blk_cell hM6 2 _ rfl
        clear hM6
        have H5 := hid h5; clear h5
        go_wp2_with (at_builtin; go_must (refine wpList_append_own _ rfl _ _ 36 rfl w.heap.size 45 i0 _ 3 24 Try.underlying36 hi hz0 hz1 hz2 rfl (by decide) _ _ _ rfl (Hown5.out.alloc _) ⟨w5.heap.size, 0, none⟩ 1 1 [.int .i64 u, .int .i64 (9900 + y), .int .i64 z] rfl rfl ?c1 ?c2 ?c3 ?c4 ?c5 ?_))
        case c1 => exact cells_new w5 _ _ _ rfl
        case c2 => simp [Value.oneCell']
        case c3 => unfold maxLen; omega
        case c4 => omega
        case c5 => simp; omega
        intro v' w6 hown6 hg6 _
        obtain ⟨a', cap', rfl, hcap'⟩ := own_form hown6
        have hgr6 : w.grownBy w6 (some rb) := gr_append (gr_alloc Hg5.out _) (Hown5.out.alloc _) (Nat.le_refl _) hg6
        have hr6 := (H5.out.keep0 (gr_alloc (gr_refl _ _) _)).append (Hown5.out.alloc _) hlt hg6
        have Hown6 := hid hown6; clear hown6
        have Hgr6 := hid hgr6; clear hgr6
        have Hr6 := hid hr6; clear hr6
        clear hg6
        go_wp2
        go_roundw
        case rel =>
          have e1 : x - (k - 1) = x - k + 1 := by omega
          refine ⟨k - 1, a', cap', xs ++ [⟨u, 9900 + y, z⟩], by congr 1; omega, by omega, by rw [e1], by rw [List.length_append, Hlen.out, e1]; rfl, ?_, ?_, Hgr6.out⟩
          · rw [e1, List.flatMap_append]; exact Hown6.out
          · rw [e1]; exact Hr6.out.mono (by omega)
        case measure => simp [intOf]; omega
    · obtain rfl : k = 0 := by omega
      have Hown := hid hown; clear hown
      have Hgr := hid hgr; clear hgr
      have Hlen := hid hlen; clear hlen
      go_wp2_with fail
      go_ret
      refine ⟨a, x, cap, xs, rfl, ?_, ?_, by omega, hr.mono (by omega), Hgr.out⟩
      · exact Sl.of_own (by have := Hown.out; exact this) Hlen.out (by unfold maxLen; omega)
      · obtain ⟨_, _, e, hc⟩ := own_form Hown.out
        simp at e; omega

theorem DrawBookWorth_any (a : Option Addr) (n cap : Nat) (xs : List Int) (w : World) (hs : Sl u8L w a n xs) (hcap : n ≤ cap) (hx : ∀ x ∈ xs, 0 ≤ x ∧ x ≤ 255) :
    Calls Try.prog 21 #[.slice a n cap] w fun e w' => ∃ a n cap xs, e = .returned (.slice a n cap) ∧ Sl markL w' a n xs ∧ n ≤ cap ∧ n ≤ 9 ∧ w.grownBy w' none := by
  go_enter Try.func21, Try.ntmps21
  go_wp2_with fail
  refine (newReader_any a n cap xs w hs hcap hx).mono ?_
  rintro e w1 ⟨rb, rfl, hrb, h1, hg⟩
  go_wp2_with fail
  refine (anyBook_any rb 0 w1 h1 (by omega)).mono ?_
  rintro e w2 ⟨a', n', cap', xs', rfl, hs', hc', hn', _, hg'⟩
  have Hs' := hid hs'; clear hs'
  go_wp2_with fail
  go_ret
  exact ⟨a', n', cap', xs', rfl, Hs'.out, hc', hn', gr_own hg hg' (fun k e => by cases e; exact hrb)⟩

theorem DrawWeightsOf_any (a : Option Addr) (n cap : Nat) (xs : List Int) (w : World) (hs : Sl u8L w a n xs) (hcap : n ≤ cap) (hx : ∀ x ∈ xs, 0 ≤ x ∧ x ≤ 255) :
    Calls Try.prog 22 #[.slice a n cap] w fun e w' => ∃ a n cap xs, e = .returned (.slice a n cap) ∧ Sl markL w' a n xs ∧ n ≤ cap ∧ n ≤ 9 ∧ w.grownBy w' none := by
  go_enter Try.func22, Try.ntmps22
  go_wp2_with fail
  refine (newReader_any a n cap xs w hs hcap hx).mono ?_
  rintro e w1 ⟨rb, rfl, hrb, h1, hg⟩
  go_wp2_with fail
  refine (anyBook_any rb 0 w1 h1 (by omega)).mono ?_
  rintro e w2 ⟨a', n', cap', xs', rfl, hs', hc', hn', _, hg'⟩
  have Hs' := hid hs'; clear hs'
  go_wp2_with fail
  go_ret
  exact ⟨a', n', cap', xs', rfl, Hs'.out, hc', hn', gr_own hg hg' (fun k e => by cases e; exact hrb)⟩


end Go.Proofs.Ythehhnckfoappaa
