/- Ranges: times and through of the program, at the ranges that prices meet. -/
import Derived.Test.YtkgjciacdjhhfaaDoorRows
import Derived.Test.YtkgjciacdjhhfaaDoorBase
import Derived.Test.YtkgjciacdjhhfaaDoorRange
namespace Go.Proofs.YtkgjciacdjhhfaaDoor
open Go.RowKit

set_option maxRecDepth 100000 in
set_option maxHeartbeats 1000000 in
theorem bothTimes_any (al ah bl bh cl ch : Int) (w : World) (ha0 : -2000000000 ≤ al) (ha1 : al ≤ ah) (ha2 : ah ≤ 2000000000) (hb0 : -2000000000 ≤ bl) (hb1 : bl ≤ bh) (hb2 : bh ≤ 2000000000) (hc0 : -2000000000 ≤ cl) (hc1 : cl ≤ ch) (hc2 : ch ≤ 2000000000)
    (HF : Hid (∀ wx, Calls Tryd.prog 87 #[.agg #[.int .i64 al, .int .i64 ah], .agg #[.int .i64 bl, .int .i64 bh]] wx fun e w' => e = .returned (.agg #[.int .i64 cl, .int .i64 ch]) ∧ wx.grownBy w' none)) :
    Calls Tryd.prog 85 #[.agg #[.int .i64 al, .int .i64 ah], .agg #[.int .i64 bl, .int .i64 bh], .func (.func 87) #[] #[]] w fun e w' => e = .returned (.tuple #[.agg #[.int .i64 cl, .int .i64 ch], .nilIface]) ∧ w.grownBy w' none := by
  have HA := hid (fun wx => checked_any al ah wx ha0 ha1 ha2)
  have HB := hid (fun wx => checked_any bl bh wx hb0 hb1 hb2)
  have HC := hid (fun wx => checked_any cl ch wx hc0 hc1 hc2)
  obtain ⟨W, hW⟩ : ∃ W, W = ((w.alloc (.cells #[.int .i64 al, .int .i64 ah] 25)).alloc (.cells #[.int .i64 bl, .int .i64 bh] 25)).alloc (.cells #[.int .i64 0, .int .i64 0] 25) := ⟨_, rfl⟩
  have hg0 : w.grownBy W none := by rw [hW]; exact gr_alloc (gr_alloc (gr_alloc (gr0 _) _) _) _
  have hb0 : W.heap[w.heap.size]? = some (.cells #[.int .i64 al, .int .i64 ah] 25 (0, 0)) := by rw [hW]; exact blk_alloc (blk_alloc (heap_alloc_new _ _) _) _
  have hb1 : W.heap[w.heap.size + 1]? = some (.cells #[.int .i64 bl, .int .i64 bh] 25 (0, 0)) := by
    have := blk_alloc (heap_alloc_new (w.alloc (.cells #[.int .i64 al, .int .i64 ah] 25)) (.cells #[.int .i64 bl, .int .i64 bh] 25)) (.cells #[.int .i64 0, .int .i64 0] 25)
    rw [World.size_alloc] at this
    rw [hW]; exact this
  have hb2 : W.heap[w.heap.size + 2]? = some (.cells #[.int .i64 0, .int .i64 0] 25 (0, 0)) := by
    have := heap_alloc_new ((w.alloc (.cells #[.int .i64 al, .int .i64 ah] 25)).alloc (.cells #[.int .i64 bl, .int .i64 bh] 25)) (.cells #[.int .i64 0, .int .i64 0] 25)
    rw [World.size_alloc, World.size_alloc] at this
    rw [hW]; exact this
  have Hb0 := hid hb0; have Hb1 := hid hb1; have Hb2 := hid hb2; have Hg0 := hid hg0; have HW := hid hW
  clear hb0 hb1 hb2 hg0 hW ha0 ha1 ha2 hc0 hc1 hc2
  go_enter Tryd.func85, Tryd.ntmps85
  go_wp2_with fail
  rw [← HW.out]
  refine (HA.out _).mono ?_
  rintro e' w1 ⟨rfl, hg⟩
  have Hg1 := hid (gr_alloc (gr_trans0 Hg0.out hg) (Obj.cells #[.int .i64 al, .int .i64 ah] 25))
  have Hx1 := hid (blk_alloc (blk_keep Hb0.out hg (by simp)) (Obj.cells #[.int .i64 al, .int .i64 ah] 25))
  have Hy1 := hid (blk_alloc (blk_keep Hb1.out hg (by simp)) (Obj.cells #[.int .i64 al, .int .i64 ah] 25))
  have Hz1 := hid (blk_alloc (blk_keep Hb2.out hg (by simp)) (Obj.cells #[.int .i64 al, .int .i64 ah] 25))
  have hl1 : w.heap.size + 2 < w1.heap.size := blk_lt (blk_keep Hb2.out hg (by simp))
  have y0 := blk_cell Hy1.out 0 _ rfl
  have y1 := blk_cell Hy1.out 1 _ rfl
  have n1 : ¬ w.heap.size + 1 = w1.heap.size := by omega
  clear hg
  go_wp2_with fail
  refine (HB.out _).mono ?_
  rintro e' w2 ⟨rfl, hg⟩
  have Hg2 := hid (gr_alloc (gr_trans0 Hg1.out hg) (Obj.cells #[.int .i64 bl, .int .i64 bh] 25))
  have Hx2 := hid (blk_alloc (blk_keep Hx1.out hg (by simp)) (Obj.cells #[.int .i64 bl, .int .i64 bh] 25))
  have Hy2 := hid (blk_alloc (blk_keep Hy1.out hg (by simp)) (Obj.cells #[.int .i64 bl, .int .i64 bh] 25))
  have Hz2 := hid (blk_alloc (blk_keep Hz1.out hg (by simp)) (Obj.cells #[.int .i64 bl, .int .i64 bh] 25))
  have hl2 : w1.heap.size < w2.heap.size := by have := gr_le hg; simp at this; omega
  clear hg y0 y1 n1
  have x0 := blk_cell Hx2.out 0 _ rfl
  have x1 := blk_cell Hx2.out 1 _ rfl
  have y0 := blk_cell Hy2.out 0 _ rfl
  have y1 := blk_cell Hy2.out 1 _ rfl
  have n1 : ¬ w.heap.size + 1 = w2.heap.size := by omega
  have n2 : ¬ w.heap.size = w2.heap.size := by omega
  go_wp2_with fail
  refine (HF.out _).mono ?_
  rintro e' w3 ⟨rfl, hg⟩
  have Hg3 := hid (gr_trans0 Hg2.out hg)
  have Hz3 := hid (blk_keep Hz2.out hg (by simp))
  clear hg x0 x1 y0 y1
  go_wp2_with fail
  refine (HC.out _).mono ?_
  rintro e' w4 ⟨rfl, hg⟩
  have Hg4 := hid (gr_trans0 Hg3.out hg)
  have hz4 := blk_keep Hz3.out hg (by simp)
  have z0 := blk_cell hz4 0 _ rfl
  have z1 := blk_cell hz4 1 _ rfl
  have k0 := blk_frozen hz4 0
  have k1 := blk_frozen hz4 1
  clear hg hz4
  go_wp2_with fail
  exact bodyPost_ret (v := .tuple #[.agg #[.int .i64 cl, .int .i64 ch], .nilIface]) (by simp [results, Tryd.results85, go_sem, *]) rfl ⟨rfl, gr_setCell (p := ⟨w.heap.size + 2, 1, none⟩) (gr_setCell (p := ⟨w.heap.size + 2, 0, none⟩) Hg4.out (.inr (by simp <;> omega)) _) (.inr (by simp <;> omega)) _⟩

set_option maxRecDepth 100000 in
set_option maxHeartbeats 1000000 in
theorem bothRatio_any (al ah bl bh cl ch : Int) (w : World) (ha0 : -2000000000 ≤ al) (ha1 : al ≤ ah) (ha2 : ah ≤ 2000000000) (hb0 : -2000000000 ≤ bl) (hb1 : bl ≤ bh) (hb2 : bh ≤ 2000000000) (hc0 : -2000000000 ≤ cl) (hc1 : cl ≤ ch) (hc2 : ch ≤ 2000000000)
    (HF : Hid (∀ wx, Calls Tryd.prog 86 #[.agg #[.int .i64 al, .int .i64 ah], .agg #[.int .i64 bl, .int .i64 bh]] wx fun e w' => e = .returned (.agg #[.int .i64 cl, .int .i64 ch]) ∧ wx.grownBy w' none)) :
    Calls Tryd.prog 85 #[.agg #[.int .i64 al, .int .i64 ah], .agg #[.int .i64 bl, .int .i64 bh], .func (.func 86) #[] #[]] w fun e w' => e = .returned (.tuple #[.agg #[.int .i64 cl, .int .i64 ch], .nilIface]) ∧ w.grownBy w' none := by
  have HA := hid (fun wx => checked_any al ah wx ha0 ha1 ha2)
  have HB := hid (fun wx => checked_any bl bh wx hb0 hb1 hb2)
  have HC := hid (fun wx => checked_any cl ch wx hc0 hc1 hc2)
  obtain ⟨W, hW⟩ : ∃ W, W = ((w.alloc (.cells #[.int .i64 al, .int .i64 ah] 25)).alloc (.cells #[.int .i64 bl, .int .i64 bh] 25)).alloc (.cells #[.int .i64 0, .int .i64 0] 25) := ⟨_, rfl⟩
  have hg0 : w.grownBy W none := by rw [hW]; exact gr_alloc (gr_alloc (gr_alloc (gr0 _) _) _) _
  have hb0 : W.heap[w.heap.size]? = some (.cells #[.int .i64 al, .int .i64 ah] 25 (0, 0)) := by rw [hW]; exact blk_alloc (blk_alloc (heap_alloc_new _ _) _) _
  have hb1 : W.heap[w.heap.size + 1]? = some (.cells #[.int .i64 bl, .int .i64 bh] 25 (0, 0)) := by
    have := blk_alloc (heap_alloc_new (w.alloc (.cells #[.int .i64 al, .int .i64 ah] 25)) (.cells #[.int .i64 bl, .int .i64 bh] 25)) (.cells #[.int .i64 0, .int .i64 0] 25)
    rw [World.size_alloc] at this
    rw [hW]; exact this
  have hb2 : W.heap[w.heap.size + 2]? = some (.cells #[.int .i64 0, .int .i64 0] 25 (0, 0)) := by
    have := heap_alloc_new ((w.alloc (.cells #[.int .i64 al, .int .i64 ah] 25)).alloc (.cells #[.int .i64 bl, .int .i64 bh] 25)) (.cells #[.int .i64 0, .int .i64 0] 25)
    rw [World.size_alloc, World.size_alloc] at this
    rw [hW]; exact this
  have Hb0 := hid hb0; have Hb1 := hid hb1; have Hb2 := hid hb2; have Hg0 := hid hg0; have HW := hid hW
  clear hb0 hb1 hb2 hg0 hW ha0 ha1 ha2 hc0 hc1 hc2
  go_enter Tryd.func85, Tryd.ntmps85
  go_wp2_with fail
  rw [← HW.out]
  refine (HA.out _).mono ?_
  rintro e' w1 ⟨rfl, hg⟩
  have Hg1 := hid (gr_alloc (gr_trans0 Hg0.out hg) (Obj.cells #[.int .i64 al, .int .i64 ah] 25))
  have Hx1 := hid (blk_alloc (blk_keep Hb0.out hg (by simp)) (Obj.cells #[.int .i64 al, .int .i64 ah] 25))
  have Hy1 := hid (blk_alloc (blk_keep Hb1.out hg (by simp)) (Obj.cells #[.int .i64 al, .int .i64 ah] 25))
  have Hz1 := hid (blk_alloc (blk_keep Hb2.out hg (by simp)) (Obj.cells #[.int .i64 al, .int .i64 ah] 25))
  have hl1 : w.heap.size + 2 < w1.heap.size := blk_lt (blk_keep Hb2.out hg (by simp))
  have y0 := blk_cell Hy1.out 0 _ rfl
  have y1 := blk_cell Hy1.out 1 _ rfl
  have n1 : ¬ w.heap.size + 1 = w1.heap.size := by omega
  clear hg
  go_wp2_with fail
  refine (HB.out _).mono ?_
  rintro e' w2 ⟨rfl, hg⟩
  have Hg2 := hid (gr_alloc (gr_trans0 Hg1.out hg) (Obj.cells #[.int .i64 bl, .int .i64 bh] 25))
  have Hx2 := hid (blk_alloc (blk_keep Hx1.out hg (by simp)) (Obj.cells #[.int .i64 bl, .int .i64 bh] 25))
  have Hy2 := hid (blk_alloc (blk_keep Hy1.out hg (by simp)) (Obj.cells #[.int .i64 bl, .int .i64 bh] 25))
  have Hz2 := hid (blk_alloc (blk_keep Hz1.out hg (by simp)) (Obj.cells #[.int .i64 bl, .int .i64 bh] 25))
  have hl2 : w1.heap.size < w2.heap.size := by have := gr_le hg; simp at this; omega
  clear hg y0 y1 n1
  have x0 := blk_cell Hx2.out 0 _ rfl
  have x1 := blk_cell Hx2.out 1 _ rfl
  have y0 := blk_cell Hy2.out 0 _ rfl
  have y1 := blk_cell Hy2.out 1 _ rfl
  have n1 : ¬ w.heap.size + 1 = w2.heap.size := by omega
  have n2 : ¬ w.heap.size = w2.heap.size := by omega
  go_wp2_with fail
  refine (HF.out _).mono ?_
  rintro e' w3 ⟨rfl, hg⟩
  have Hg3 := hid (gr_trans0 Hg2.out hg)
  have Hz3 := hid (blk_keep Hz2.out hg (by simp))
  clear hg x0 x1 y0 y1
  go_wp2_with fail
  refine (HC.out _).mono ?_
  rintro e' w4 ⟨rfl, hg⟩
  have Hg4 := hid (gr_trans0 Hg3.out hg)
  have hz4 := blk_keep Hz3.out hg (by simp)
  have z0 := blk_cell hz4 0 _ rfl
  have z1 := blk_cell hz4 1 _ rfl
  have k0 := blk_frozen hz4 0
  have k1 := blk_frozen hz4 1
  clear hg hz4
  go_wp2_with fail
  exact bodyPost_ret (v := .tuple #[.agg #[.int .i64 cl, .int .i64 ch], .nilIface]) (by simp [results, Tryd.results85, go_sem, *]) rfl ⟨rfl, gr_setCell (p := ⟨w.heap.size + 2, 1, none⟩) (gr_setCell (p := ⟨w.heap.size + 2, 0, none⟩) Hg4.out (.inr (by simp <;> omega)) _) (.inr (by simp <;> omega)) _⟩


theorem tb_bd {gl gh u : Int} (h0 : 1000000 ≤ gl) (h1 : gl ≤ gh) (h2 : gh ≤ 100000000) (h3 : 1000000 ≤ u) (h4 : u ≤ 1100000) : 0 ≤ flr (gl * u) 1000000 ∧ flr (gl * u) 1000000 ≤ cei (gh * u) 1000000 ∧ cei (gh * u) 1000000 ≤ 2000000000 := by
  have p0 : 0 ≤ gl * u := Int.mul_nonneg (by omega) (by omega)
  have p1 : gl * u ≤ gh * u := Int.mul_le_mul_of_nonneg_right h1 (by omega)
  have p2 : gh * u ≤ 100000000 * 1100000 := mul_le h2 h4 (by omega) (by omega)
  have a := le_flr (gl * u) 1000000 0 (by omega) (by omega)
  have b := Int.le_trans (flr_mono (gl * u) (gh * u) 1000000 (by omega) p1) (flr_cei (gh * u) 1000000 (by omega))
  have c := cei_le (gh * u) 1000000 2000000000 (by omega) (by omega)
  omega

set_option maxRecDepth 100000 in
set_option maxHeartbeats 1000000 in
theorem times_any (gl gh u : Int) (w : World) (h0 : 1000000 ≤ gl) (h1 : gl ≤ gh) (h2 : gh ≤ 100000000) (h3 : 1000000 ≤ u) (h4 : u ≤ 1100000) :
    Calls Tryd.prog 68 #[.agg #[.int .i64 gl, .int .i64 gh], .agg #[.int .i64 u, .int .i64 u]] w fun e w' => e = .returned (.tuple #[.agg #[.int .i64 (flr (gl * u) 1000000), .int .i64 (cei (gh * u) 1000000)], .nilIface]) ∧ w.grownBy w' none := by
  obtain ⟨t0, t1, t2⟩ := tb_bd h0 h1 h2 h3 h4
  have HT := hid (fun wx => timesf_any gl gh u wx h0 h1 h2 h3 h4)
  generalize flr (gl * u) 1000000 = C0 at *
  generalize cei (gh * u) 1000000 = C1 at *
  obtain ⟨W, hW⟩ : ∃ W, W = ((w.alloc (.cells #[.int .i64 gl, .int .i64 gh] 25)).alloc (.cells #[.int .i64 u, .int .i64 u] 25)).alloc (.cells #[.int .i64 0, .int .i64 0] 25) := ⟨_, rfl⟩
  have hg0 : w.grownBy W none := by rw [hW]; exact gr_alloc (gr_alloc (gr_alloc (gr0 _) _) _) _
  have hb2 : W.heap[w.heap.size + 2]? = some (.cells #[.int .i64 0, .int .i64 0] 25 (0, 0)) := by
    have := heap_alloc_new ((w.alloc (.cells #[.int .i64 gl, .int .i64 gh] 25)).alloc (.cells #[.int .i64 u, .int .i64 u] 25)) (.cells #[.int .i64 0, .int .i64 0] 25)
    rw [World.size_alloc, World.size_alloc] at this
    rw [hW]; exact this
  have Hb2 := hid hb2; have Hg0 := hid hg0
  have HB := hid (bothTimes_any gl gh u u C0 C1 W (by omega) h1 (by omega) (by omega) (by omega) (by omega) (by omega) t1 t2 HT)
  rw [hW] at HB
  rw [hW] at Hg0 Hb2
  clear hb2 hg0 hW HT
  go_enter Tryd.func68, Tryd.ntmps68
  go_wp2_with fail
  refine HB.out.mono ?_
  rintro e' w1 ⟨rfl, hg⟩
  have Hg1 := hid (gr_trans0 Hg0.out hg)
  have hz1 := blk_keep Hb2.out hg (by simp)
  have z0 := blk_cell hz1 0 _ rfl
  have z1 := blk_cell hz1 1 _ rfl
  have k0 := blk_frozen hz1 0
  have k1 := blk_frozen hz1 1
  clear hg hz1
  go_wp2_with fail
  exact bodyPost_ret (v := .tuple #[.agg #[.int .i64 C0, .int .i64 C1], .nilIface]) (by simp [results, Tryd.results68, go_sem, *]) rfl ⟨rfl, gr_setCell (p := ⟨w.heap.size + 2, 1, none⟩) (gr_setCell (p := ⟨w.heap.size + 2, 0, none⟩) Hg1.out (.inr (by simp <;> omega)) _) (.inr (by simp <;> omega)) _⟩

set_option maxRecDepth 100000 in
set_option maxHeartbeats 1000000 in
theorem ratio_any (gl gh : Int) (w : World) (h0 : 1000000 ≤ gl) (h1 : gl ≤ gh) (h2 : gh ≤ 100000000) :
    Calls Tryd.prog 86 #[.agg #[.int .i64 1000000, .int .i64 1000000], .agg #[.int .i64 gl, .int .i64 gh]] w fun e w' => e = .returned (.agg #[.int .i64 (flr 1000000000000 gh), .int .i64 (cei 1000000000000 gl)]) ∧ w.grownBy w' none := by
  have HF := hid (fun wx => floor_any 1000000000000 gh wx (by omega) (by omega) (by omega) (by omega))
  have HC := hid (fun wx => ceil_any 1000000000000 gl wx (by omega) (by omega) (by omega) (by omega))
  rw [flr_def] at HF
  generalize flr 1000000000000 gh = C0 at *
  generalize cei 1000000000000 gl = C1 at *
  obtain ⟨W, hW⟩ : ∃ W, W = ((w.alloc (.cells #[.int .i64 1000000, .int .i64 1000000] 25)).alloc (.cells #[.int .i64 gl, .int .i64 gh] 25)).alloc (.cells #[.int .i64 0, .int .i64 0] 25) := ⟨_, rfl⟩
  have hg0 : w.grownBy W none := by rw [hW]; exact gr_alloc (gr_alloc (gr_alloc (gr0 _) _) _) _
  have hb0 : W.heap[w.heap.size]? = some (.cells #[.int .i64 1000000, .int .i64 1000000] 25 (0, 0)) := by rw [hW]; exact blk_alloc (blk_alloc (heap_alloc_new _ _) _) _
  have hb1 : W.heap[w.heap.size + 1]? = some (.cells #[.int .i64 gl, .int .i64 gh] 25 (0, 0)) := by
    have := blk_alloc (heap_alloc_new (w.alloc (.cells #[.int .i64 1000000, .int .i64 1000000] 25)) (.cells #[.int .i64 gl, .int .i64 gh] 25)) (.cells #[.int .i64 0, .int .i64 0] 25)
    rw [World.size_alloc] at this
    rw [hW]; exact this
  have hb2 : W.heap[w.heap.size + 2]? = some (.cells #[.int .i64 0, .int .i64 0] 25 (0, 0)) := by
    have := heap_alloc_new ((w.alloc (.cells #[.int .i64 1000000, .int .i64 1000000] 25)).alloc (.cells #[.int .i64 gl, .int .i64 gh] 25)) (.cells #[.int .i64 0, .int .i64 0] 25)
    rw [World.size_alloc, World.size_alloc] at this
    rw [hW]; exact this
  have Hb0 := hid hb0; have Hb1 := hid hb1; have Hb2 := hid hb2; have Hg0 := hid hg0; have HW := hid hW
  clear hb0 hb1 hb2 hg0 hW
  obtain ⟨T, hT⟩ : ∃ T, T = w.heap.size + 1 + 1 := ⟨_, rfl⟩
  have HT := hid hT
  have hT1 : ¬ T = w.heap.size := by omega
  have hT2 : ¬ T = w.heap.size + 1 := by omega
  have hT3 : w.heap.size ≤ T := by omega
  have hb2T : W.heap[T]? = some (.cells #[.int .i64 0, .int .i64 0] 25 (0, 0)) := by rw [hT]; exact Hb2.out
  have Hb2 := hid hb2T
  clear hT hb2T
  go_enter Tryd.func86, Tryd.ntmps86
  go_wp2_with fail
  rw [← HW.out, ← HT.out]
  refine wp_region_held_drew (S := fun w' => (w'.heap[w.heap.size]? = some (.cells #[.int .i64 1000000, .int .i64 1000000] 25 (0, 0)) ∧ w'.heap[w.heap.size + 1]? = some (.cells #[.int .i64 gl, .int .i64 gh] 25 (0, 0))) ∧ w.grownBy w' none) (by kernel_rfl) ⟨⟨Hb0.out, Hb1.out⟩, gr_drew Hg0.out⟩ (fun hHeld => ?_)
  refine wpAnyH_take (i := 0) (v := ?_) rfl (by kernel_rfl) (by kernel_rfl) (by kernel_rfl) (fun _ _ _ h => h) (Or.inl ⟨by rfl, ?_⟩) hHeld ?_
  rotate_left
  · intro w9 hSw
    (obtain ⟨⟨sa, sb⟩, _⟩ := hSw; have s0 := blk_cell sa 0 _ rfl; have s1 := blk_cell sa 1 _ rfl; have s2 := blk_cell sb 0 _ rfl; have s3 := blk_cell sb 1 _ rfl; clear sa sb)
    go_simp
    all_goals (try with_reducible rfl)
  (try simp only [Act.put]); (try simp only [List.getElem_toArray]); (try simp only [List.getElem_cons_succ]); (try simp only [List.getElem_cons_zero]); (try simp only [List.setIfInBounds_toArray]); (try simp only [List.set_cons_succ]); (try simp only [List.set_cons_zero])
  refine wpAnyH_take (i := 1) (v := ?_) rfl (by kernel_rfl) (by kernel_rfl) (by kernel_rfl) (fun _ _ _ h => h) (Or.inl ⟨by rfl, ?_⟩) hHeld ?_
  rotate_left
  · intro w9 hSw
    (obtain ⟨⟨sa, sb⟩, _⟩ := hSw; have s0 := blk_cell sa 0 _ rfl; have s1 := blk_cell sa 1 _ rfl; have s2 := blk_cell sb 0 _ rfl; have s3 := blk_cell sb 1 _ rfl; clear sa sb)
    go_simp
    all_goals (try with_reducible rfl)
  (try simp only [Act.put]); (try simp only [List.getElem_toArray]); (try simp only [List.getElem_cons_succ]); (try simp only [List.getElem_cons_zero]); (try simp only [List.setIfInBounds_toArray]); (try simp only [List.set_cons_succ]); (try simp only [List.set_cons_zero])
  refine wpAnyH_take (i := 2) (v := ?_) rfl (by kernel_rfl) (by kernel_rfl) (by kernel_rfl) (fun _ _ _ h => h) (Or.inl ⟨by rfl, ?_⟩) hHeld ?_
  rotate_left
  · intro w9 hSw
    (obtain ⟨⟨sa, sb⟩, _⟩ := hSw; have s0 := blk_cell sa 0 _ rfl; have s1 := blk_cell sa 1 _ rfl; have s2 := blk_cell sb 0 _ rfl; have s3 := blk_cell sb 1 _ rfl; clear sa sb)
    go_simp
    all_goals (try with_reducible rfl)
  (try simp only [Act.put]); (try simp only [List.getElem_toArray]); (try simp only [List.getElem_cons_succ]); (try simp only [List.getElem_cons_zero]); (try simp only [List.setIfInBounds_toArray]); (try simp only [List.set_cons_succ]); (try simp only [List.set_cons_zero])
  refine wpAnyH_take (i := 3) (v := ?_) rfl (by kernel_rfl) (by kernel_rfl) (by kernel_rfl) (fun _ _ _ h => h) (Or.inl ⟨by rfl, ?_⟩) hHeld ?_
  rotate_left
  · intro w9 hSw
    (obtain ⟨⟨sa, sb⟩, _⟩ := hSw; have s0 := blk_cell sa 0 _ rfl; have s1 := blk_cell sa 1 _ rfl; have s2 := blk_cell sb 0 _ rfl; have s3 := blk_cell sb 1 _ rfl; clear sa sb)
    go_simp
    all_goals (try with_reducible rfl)
  (try simp only [Act.put]); (try simp only [List.getElem_toArray]); (try simp only [List.getElem_cons_succ]); (try simp only [List.getElem_cons_zero]); (try simp only [List.setIfInBounds_toArray]); (try simp only [List.set_cons_succ]); (try simp only [List.set_cons_zero])
  refine wpAnyH_take (i := 4) (v := ?_) rfl (by kernel_rfl) (by kernel_rfl) (by kernel_rfl) (fun _ _ _ h => h) (Or.inl ⟨by rfl, ?_⟩) hHeld ?_
  rotate_left
  · intro w9 hSw
    (obtain ⟨⟨sa, sb⟩, _⟩ := hSw; have s0 := blk_cell sa 0 _ rfl; have s1 := blk_cell sa 1 _ rfl; have s2 := blk_cell sb 0 _ rfl; have s3 := blk_cell sb 1 _ rfl; clear sa sb)
    go_simp
    all_goals (try with_reducible rfl)
  (try simp only [Act.put]); (try simp only [List.getElem_toArray]); (try simp only [List.getElem_cons_succ]); (try simp only [List.getElem_cons_zero]); (try simp only [List.setIfInBounds_toArray]); (try simp only [List.set_cons_succ]); (try simp only [List.set_cons_zero])
  refine wpAnyH_take (i := 6) (v := ?_) rfl (by kernel_rfl) (by kernel_rfl) (by kernel_rfl) (fun _ _ _ h => h) (Or.inl ⟨by rfl, ?_⟩) hHeld ?_
  rotate_left
  · intro w9 hSw
    (obtain ⟨⟨sa, sb⟩, _⟩ := hSw; have s0 := blk_cell sa 0 _ rfl; have s1 := blk_cell sa 1 _ rfl; have s2 := blk_cell sb 0 _ rfl; have s3 := blk_cell sb 1 _ rfl; clear sa sb)
    go_simp
    all_goals (try with_reducible rfl)
  (try simp only [Act.put]); (try simp only [List.getElem_toArray]); (try simp only [List.getElem_cons_succ]); (try simp only [List.getElem_cons_zero]); (try simp only [List.setIfInBounds_toArray]); (try simp only [List.set_cons_succ]); (try simp only [List.set_cons_zero])
  refine wpAnyH_take (i := 7) (v := ?_) rfl (by kernel_rfl) (by kernel_rfl) (by kernel_rfl) (fun _ _ _ h => h) (Or.inl ⟨by rfl, ?_⟩) hHeld ?_
  rotate_left
  · intro w9 hSw
    (obtain ⟨⟨sa, sb⟩, _⟩ := hSw; have s0 := blk_cell sa 0 _ rfl; have s1 := blk_cell sa 1 _ rfl; have s2 := blk_cell sb 0 _ rfl; have s3 := blk_cell sb 1 _ rfl; clear sa sb)
    go_simp
    all_goals (try with_reducible rfl)
  (try simp only [Act.put]); (try simp only [List.getElem_toArray]); (try simp only [List.getElem_cons_succ]); (try simp only [List.getElem_cons_zero]); (try simp only [List.setIfInBounds_toArray]); (try simp only [List.set_cons_succ]); (try simp only [List.set_cons_zero])
  refine wpAnyH_take (i := 8) (v := ?_) rfl (by kernel_rfl) (by kernel_rfl) (by kernel_rfl) (fun _ _ _ h => h) (Or.inl ⟨by rfl, ?_⟩) hHeld ?_
  rotate_left
  · intro w9 hSw
    (obtain ⟨⟨sa, sb⟩, _⟩ := hSw; have s0 := blk_cell sa 0 _ rfl; have s1 := blk_cell sa 1 _ rfl; have s2 := blk_cell sb 0 _ rfl; have s3 := blk_cell sb 1 _ rfl; clear sa sb)
    go_simp
    all_goals (try with_reducible rfl)
  (try simp only [Act.put]); (try simp only [List.getElem_toArray]); (try simp only [List.getElem_cons_succ]); (try simp only [List.getElem_cons_zero]); (try simp only [List.setIfInBounds_toArray]); (try simp only [List.set_cons_succ]); (try simp only [List.set_cons_zero])
  refine wpAnyH_take (i := 9) (v := ?_) rfl (by kernel_rfl) (by kernel_rfl) (by kernel_rfl) (fun _ _ _ h => h) (Or.inl ⟨by rfl, ?_⟩) hHeld ?_
  rotate_left
  · intro w9 hSw
    (obtain ⟨⟨sa, sb⟩, _⟩ := hSw; have s0 := blk_cell sa 0 _ rfl; have s1 := blk_cell sa 1 _ rfl; have s2 := blk_cell sb 0 _ rfl; have s3 := blk_cell sb 1 _ rfl; clear sa sb)
    go_simp
    all_goals (try with_reducible rfl)
  (try simp only [Act.put]); (try simp only [List.getElem_toArray]); (try simp only [List.getElem_cons_succ]); (try simp only [List.getElem_cons_zero]); (try simp only [List.setIfInBounds_toArray]); (try simp only [List.set_cons_succ]); (try simp only [List.set_cons_zero])
  refine wpAnyH_take (i := 10) (v := ?_) rfl (by kernel_rfl) (by kernel_rfl) (by kernel_rfl) (fun _ _ _ h => h) (Or.inl ⟨by rfl, ?_⟩) hHeld ?_
  rotate_left
  · intro w9 hSw
    (obtain ⟨⟨sa, sb⟩, _⟩ := hSw; have s0 := blk_cell sa 0 _ rfl; have s1 := blk_cell sa 1 _ rfl; have s2 := blk_cell sb 0 _ rfl; have s3 := blk_cell sb 1 _ rfl; clear sa sb)
    go_simp
    all_goals (try with_reducible rfl)
  (try simp only [Act.put]); (try simp only [List.getElem_toArray]); (try simp only [List.getElem_cons_succ]); (try simp only [List.getElem_cons_zero]); (try simp only [List.setIfInBounds_toArray]); (try simp only [List.set_cons_succ]); (try simp only [List.set_cons_zero])
  refine wpAnyH_ready (rs := [5]) (by kernel_rfl) (by simp) ?_
  refine AllReadyH.cons rfl (fun K' hK' => ?_) AllReadyH.nil
  go_simp
  refine (HF.out _).mono ?_
  rintro e' w1 ⟨rfl, rfl⟩
  (try simp only [])
  refine hK'.out _ _ hHeld (fun _ => ?_)
  clear hK' K'
  (try simp only [Act.put]); (try simp only [List.getElem_toArray]); (try simp only [List.getElem_cons_succ]); (try simp only [List.getElem_cons_zero]); (try simp only [List.setIfInBounds_toArray]); (try simp only [List.set_cons_succ]); (try simp only [List.set_cons_zero])
  refine wpAnyH_ready (rs := [11]) (by kernel_rfl) (by simp) ?_
  refine AllReadyH.cons rfl (fun K' hK' => ?_) AllReadyH.nil
  go_simp
  refine (HC.out _).mono ?_
  rintro e' w1 ⟨rfl, rfl⟩
  (try simp only [])
  refine hK'.out _ _ hHeld (fun _ => ?_)
  clear hK' K'
  (try simp only [Act.put]); (try simp only [List.getElem_toArray]); (try simp only [List.getElem_cons_succ]); (try simp only [List.getElem_cons_zero]); (try simp only [List.setIfInBounds_toArray]); (try simp only [List.set_cons_succ]); (try simp only [List.set_cons_zero])
  refine wpAnyH_take (i := 12) (v := ?_) rfl (by kernel_rfl) (by kernel_rfl) (by kernel_rfl) (fun _ _ _ h => h) (Or.inl ⟨by rfl, ?_⟩) hHeld ?_
  rotate_left
  · intro w9 hSw
    clear hSw
    go_simp
    all_goals (try with_reducible rfl)
  (try simp only [Act.put]); (try simp only [List.getElem_toArray]); (try simp only [List.getElem_cons_succ]); (try simp only [List.getElem_cons_zero]); (try simp only [List.setIfInBounds_toArray]); (try simp only [List.set_cons_succ]); (try simp only [List.set_cons_zero])
  have hbT := Hb2.out
  have f0 := blk_cell hbT 0 _ rfl
  have f1 := blk_cell hbT 1 _ rfl
  have k0 := blk_frozen hbT 0
  have k1 := blk_frozen hbT 1
  refine wpAnyH_ready (rs := [13]) (by kernel_rfl) (by simp) ?_
  refine AllReadyH.cons rfl (fun K' hK' => ?_) AllReadyH.nil
  go_simp
  refine hK'.out _ _ ⟨⟨blk_set_other (blk_set_other hHeld.1.1 _ hT1 _) _ hT1 _, blk_set_other (blk_set_other hHeld.1.2 _ hT2 _) _ hT2 _⟩, gr_setCell (p := ⟨T, 1, none⟩) (gr_setCell (p := ⟨T, 0, none⟩) hHeld.2 (.inr hT3) _) (.inr hT3) _⟩ (fun hHeldF => ?_)
  clear hK' K'
  (try simp only [Act.put]); (try simp only [List.getElem_toArray]); (try simp only [List.getElem_cons_succ]); (try simp only [List.getElem_cons_zero]); (try simp only [List.setIfInBounds_toArray]); (try simp only [List.set_cons_succ]); (try simp only [List.set_cons_zero])
  refine wpAnyH_done (by kernel_rfl) ?_ _
  clear hHeld hHeldF hbT
  go_wp2_with fail
  exact bodyPost_ret (v := .agg #[.int .i64 C0, .int .i64 C1]) (by simp [results, Tryd.results86, go_sem, *]) rfl ⟨rfl, gr_drew (gr_setCell (p := ⟨T, 1, none⟩) (gr_setCell (p := ⟨T, 0, none⟩) Hg0.out (.inr hT3) _) (.inr hT3) _)⟩


theorem th_bd {gl gh : Int} (h0 : 1000000 ≤ gl) (h1 : gl ≤ gh) (h2 : gh ≤ 100000000) : 0 ≤ flr 1000000000000 gh ∧ flr 1000000000000 gh ≤ cei 1000000000000 gl ∧ cei 1000000000000 gl ≤ 2000000000 := by
  have a := le_flr 1000000000000 gh 0 (by omega) (by omega)
  have b := cei_le 1000000000000 gl 1000000 (by omega) (by omega)
  have h3 := flr_lo 1000000000000 gh (by omega)
  have h4 : flr 1000000000000 gh * gl ≤ flr 1000000000000 gh * gh := Int.mul_le_mul_of_nonneg_left h1 a
  have c := le_cei 1000000000000 gl (flr 1000000000000 gh) (by omega) (by omega)
  omega

set_option maxRecDepth 100000 in
set_option maxHeartbeats 1000000 in
theorem through_any (gl gh : Int) (w : World) (h0 : 1000000 ≤ gl) (h1 : gl ≤ gh) (h2 : gh ≤ 100000000) :
    Calls Tryd.prog 67 #[.agg #[.int .i64 1000000, .int .i64 1000000], .agg #[.int .i64 gl, .int .i64 gh]] w fun e w' => e = .returned (.tuple #[.agg #[.int .i64 (flr 1000000000000 gh), .int .i64 (cei 1000000000000 gl)], .nilIface]) ∧ w.grownBy w' none := by
  obtain ⟨t0, t1, t2⟩ := th_bd h0 h1 h2
  have HT := hid (fun wx => ratio_any gl gh wx h0 h1 h2)
  generalize flr 1000000000000 gh = C0 at *
  generalize cei 1000000000000 gl = C1 at *
  obtain ⟨W, hW⟩ : ∃ W, W = ((w.alloc (.cells #[.int .i64 1000000, .int .i64 1000000] 25)).alloc (.cells #[.int .i64 gl, .int .i64 gh] 25)).alloc (.cells #[.int .i64 0, .int .i64 0] 25) := ⟨_, rfl⟩
  have hg0 : w.grownBy W none := by rw [hW]; exact gr_alloc (gr_alloc (gr_alloc (gr0 _) _) _) _
  have hb2 : W.heap[w.heap.size + 2]? = some (.cells #[.int .i64 0, .int .i64 0] 25 (0, 0)) := by
    have := heap_alloc_new ((w.alloc (.cells #[.int .i64 1000000, .int .i64 1000000] 25)).alloc (.cells #[.int .i64 gl, .int .i64 gh] 25)) (.cells #[.int .i64 0, .int .i64 0] 25)
    rw [World.size_alloc, World.size_alloc] at this
    rw [hW]; exact this
  have Hb2 := hid hb2; have Hg0 := hid hg0
  have HB := hid (bothRatio_any 1000000 1000000 gl gh C0 C1 W (by omega) (by omega) (by omega) (by omega) h1 (by omega) (by omega) t1 t2 HT)
  rw [hW] at HB
  rw [hW] at Hg0 Hb2
  clear hb2 hg0 hW HT
  go_enter Tryd.func67, Tryd.ntmps67
  go_wp2_with fail
  refine HB.out.mono ?_
  rintro e' w1 ⟨rfl, hg⟩
  have Hg1 := hid (gr_trans0 Hg0.out hg)
  have hz1 := blk_keep Hb2.out hg (by simp)
  have z0 := blk_cell hz1 0 _ rfl
  have z1 := blk_cell hz1 1 _ rfl
  have k0 := blk_frozen hz1 0
  have k1 := blk_frozen hz1 1
  clear hg hz1
  go_wp2_with fail
  exact bodyPost_ret (v := .tuple #[.agg #[.int .i64 C0, .int .i64 C1], .nilIface]) (by simp [results, Tryd.results67, go_sem, *]) rfl ⟨rfl, gr_setCell (p := ⟨w.heap.size + 2, 1, none⟩) (gr_setCell (p := ⟨w.heap.size + 2, 0, none⟩) Hg1.out (.inr (by simp <;> omega)) _) (.inr (by simp <;> omega)) _⟩

end Go.Proofs.YtkgjciacdjhhfaaDoor
