/- Packed: Range, Range2. -/
import Derived.Test.YtielicmjdhmcjaaGreatDoorRows
import Derived.Test.YtielicmjdhmcjaaGreatDoorPk23
import Derived.Deep.QuietTactic
import Derived.BigQuiet
import Derived.Deep.RegionHeld
/- Ranges: exactly, checked, times, through and growth of the program. -/
namespace Go.Proofs.YtielicmjdhmcjaaGreatDoor
open Go.RowKit


theorem flr_def (a b : Int) : a / b = flr a b := rfl
theorem cei_def (a b : Int) : -((-a) / b) = cei a b := rfl

theorem ceil_any (a b : Int) (w : World) (hb : 0 < b) (hb1 : b ≤ 4611686018427387904) (ha0 : -4611686018427387904 ≤ a) (ha1 : a ≤ 4611686018427387904) :
    Calls Tryz.prog 132 #[.int .i64 a, .int .i64 b] w fun e w' => e = .returned (.int .i64 (cei a b)) ∧ w = w' := by
  have H := hid (floor_any (-a) b w hb hb1 (by omega) (by omega))
  have h1 := cei_hi a b hb
  have hd : -4611686018427387904 ≤ (-a) / b ∧ (-a) / b ≤ 4611686018427387904 := by
    constructor
    · rcases Int.le_total 0 (-a) with h | h
      · have := Int.ediv_nonneg h (Int.le_of_lt hb); omega
      · have : -4611686018427387904 ≤ (-a) / b := by
          have h2 := flr_lo (-a) b hb
          unfold flr at h2
          rcases Int.le_total 0 ((-a) / b) with h3 | h3
          · omega
          · have h4 : (-a) / b * b ≤ (-a) / b * 1 := Int.mul_le_mul_of_nonpos_left h3 (by omega)
            have h5 := Int.le_ediv_of_mul_le (a := -4611686018427387904) (b := -a) (c := b) hb
            refine h5 ?_
            have h6 : (-4611686018427387904 : Int) * b ≤ -4611686018427387904 * 1 := Int.mul_le_mul_of_nonpos_left (by omega) (by omega)
            omega
        exact this
    · rcases Int.le_total 0 (-a) with h | h
      · have := Int.ediv_le_self b h; omega
      · have h2 := flr_lo (-a) b hb
        unfold flr at h2
        have : (-a) / b ≤ 0 := by
          rcases Int.le_total ((-a) / b) 0 with h3 | h3
          · exact h3
          · have h4 : 0 ≤ (-a) / b * b := Int.mul_nonneg h3 (by omega)
            have h5 : (-a) / b ≤ (-a) / b * b := by
              have := Int.mul_le_mul_of_nonneg_left (show (1 : Int) ≤ b by omega) h3
              omega
            omega
        omega
  obtain ⟨d0, d1⟩ := hd
  have Hc := hid (cei_def a b)
  clear h1
  generalize (-a) / b = q at *
  go_enter Tryz.func132, Tryz.ntmps132
  go_wp2_with fail
  refine H.out.mono ?_
  rintro e w' ⟨rfl, rfl⟩
  go_wp2_with fail
  go_ret
  exact ⟨ret_int Hc.out, rfl⟩

theorem exactly_any (x : Int) (w : World) :
    Calls Tryz.prog 129 #[.int .i64 x] w fun e w' => e = .returned (.agg #[.int .i64 x, .int .i64 x]) ∧ w.grownBy w' none := by
  go_enter Tryz.func129, Tryz.ntmps129
  go_wp2_with fail
  exact bodyPost_ret (v := .agg #[.int .i64 x, .int .i64 x]) (by simp [results, Tryz.results129, go_sem]) rfl ⟨rfl, by repeat (first | exact gr_refl _ _ | apply gr_alloc | refine gr_setCell ?_ (.inr (by simp <;> omega)) _)⟩

set_option maxHeartbeats 400000 in
theorem checked_any (lo hi : Int) (w : World) (h0 : -2000000000 ≤ lo) (h1 : lo ≤ hi) (h2 : hi ≤ 2000000000) :
    Calls Tryz.prog 176 #[.agg #[.int .i64 lo, .int .i64 hi]] w fun e w' => e = .returned (.tuple #[.agg #[.int .i64 lo, .int .i64 hi], .nilIface]) ∧ w.grownBy w' none := by
  have H1 := hid ((within_iff' lo (-2000000000) 2000000000).2 ⟨h0, by omega⟩)
  have H2 := hid ((within_iff' hi (-2000000000) 2000000000).2 ⟨by omega, h2⟩)
  go_enter Tryz.func176, Tryz.ntmps176
  go_wp2_with fail
  refine (within_any _ _ _ _).mono ?_
  rintro e w' ⟨rfl, rfl⟩
  rw [H1.out]
  go_wp2_with fail
  refine (within_any _ _ _ _).mono ?_
  rintro e w' ⟨rfl, rfl⟩
  rw [H2.out]
  go_wp2_with fail
  exact bodyPost_ret (v := .tuple #[.agg #[.int .i64 lo, .int .i64 hi], .nilIface]) (by simp [results, Tryz.results176, go_sem]) rfl ⟨rfl, by repeat (first | exact gr_refl _ _ | apply gr_alloc | refine gr_setCell ?_ (.inr (by simp <;> omega)) _)⟩

theorem growth_bd {y l d : Int} (h0 : 0 ≤ y) (h1 : y ≤ 100000) (h2 : 1 ≤ l) (h3 : l ≤ d) (h4 : d ≤ 36524) : 0 ≤ y * l ∧ y * l ≤ 3652400000 ∧ 0 ≤ flr (y * l) d ∧ flr (y * l) d ≤ 100000 ∧ 0 ≤ cei (y * l) d ∧ cei (y * l) d ≤ 100000 := by
  have a : 0 ≤ y * l := Int.mul_nonneg h0 (by omega)
  have b : y * l ≤ 100000 * 36524 := mul_le h1 (by omega) h0 (by omega)
  have c : y * l ≤ 100000 * d := mul_le h1 h3 h0 (by omega)
  have e := cei_le (y * l) d 100000 (by omega) c
  have f := flr_cei (y * l) d (by omega)
  have g := le_flr (y * l) d 0 (by omega) (by omega)
  omega

set_option maxHeartbeats 400000 in
theorem growth_any (y l d : Int) (w : World) (h0 : 0 ≤ y) (h1 : y ≤ 100000) (h2 : 1 ≤ l) (h3 : l ≤ d) (h4 : d ≤ 36524) :
    Calls Tryz.prog 128 #[.int .i64 y, .int .i64 l, .int .i64 d] w fun e w' => e = .returned (.agg #[.int .i64 (growL y l d 0), .int .i64 (growH y l d 0)]) ∧ w.grownBy w' none := by
  obtain ⟨a0, a1, f0, f1, c0, c1⟩ := growth_bd h0 h1 h2 h3 h4
  have HF := hid (fun wx => floor_any (y * l) d wx (by omega) (by omega) (by omega) (by omega))
  have HC := hid (fun wx => ceil_any (y * l) d wx (by omega) (by omega) (by omega) (by omega))
  rw [flr_def] at HF
  have HL := hid (show growL y l d 0 = 1000000 + flr (y * l) d from rfl)
  have HH := hid (show growH y l d 0 = 1000000 + cei (y * l) d from rfl)
  rw [HL.out, HH.out]
  generalize flr (y * l) d = f at *
  generalize cei (y * l) d = c at *
  go_enter Tryz.func128, Tryz.ntmps128
  go_wp2_with fail
  refine (HF.out _).mono ?_
  rintro e w' ⟨rfl, rfl⟩
  go_wp2_with fail
  refine (HC.out _).mono ?_
  rintro e w' ⟨rfl, rfl⟩
  go_wp2_with fail
  exact bodyPost_ret (v := .agg #[.int .i64 (1000000 + f), .int .i64 (1000000 + c)]) (by simp [results, Tryz.results128, go_sem]) rfl ⟨rfl, by repeat (first | exact gr_refl _ _ | apply gr_alloc | refine gr_setCell ?_ (.inr (by simp <;> omega)) _)⟩

set_option maxRecDepth 100000 in
set_option maxHeartbeats 1000000 in
theorem timesf_any (gl gh u : Int) (w : World) (h0 : 1000000 ≤ gl) (h1 : gl ≤ gh) (h2 : gh ≤ 100000000) (h3 : 1000000 ≤ u) (h4 : u ≤ 1100000) :
    Calls Tryz.prog 158 #[.agg #[.int .i64 gl, .int .i64 gh], .agg #[.int .i64 u, .int .i64 u]] w fun e w' => e = .returned (.agg #[.int .i64 (flr (gl * u) 1000000), .int .i64 (cei (gh * u) 1000000)]) ∧ w.grownBy w' none := by
  have p0 : 0 ≤ gl * u := Int.mul_nonneg (by omega) (by omega)
  have p1 : gl * u ≤ gh * u := Int.mul_le_mul_of_nonneg_right h1 (by omega)
  have p2 : gh * u ≤ 100000000 * 1100000 := mul_le h2 h4 (by omega) (by omega)
  have HF := hid (fun wx => floor_any (gl * u) 1000000 wx (by omega) (by omega) (by omega) (by omega))
  have HC := hid (fun wx => ceil_any (gh * u) 1000000 wx (by omega) (by omega) (by omega) (by omega))
  rw [flr_def] at HF
  obtain ⟨P, hP⟩ : ∃ P, gl * u = P := ⟨_, rfl⟩
  obtain ⟨R, hR⟩ : ∃ R, gh * u = R := ⟨_, rfl⟩
  rw [hP] at p0 p1 HF ⊢
  rw [hR] at p1 p2 HC ⊢
  have u1 : IntKind.i64.wrap (gl * u) = P := by rw [hP]; exact IntWalk.i64_in _ (by omega)
  have u2 : IntKind.i64.wrap (gh * u) = R := by rw [hR]; exact IntWalk.i64_in _ (by omega)
  clear hP hR
  have hmin : ∀ (ts : Array TypeId) (t : TypeId) (W : World), (Builtin.min_ ts t #[.int .i64 P, .int .i64 P, .int .i64 R, .int .i64 R]).run Tryz.prog W = .ok (.int .i64 P) W := fun ts t W => by
    have h9 : ¬ R < P := by omega
    simp [Builtin.min_, Builtin.min2, h9]
  have hmax : ∀ (ts : Array TypeId) (t : TypeId) (W : World), (Builtin.max_ ts t #[.int .i64 P, .int .i64 P, .int .i64 R, .int .i64 R]).run Tryz.prog W = .ok (.int .i64 R) W := fun ts t W => by
    by_cases h9 : P < R
    · simp [Builtin.max_, Builtin.max2, h9]
    · obtain rfl : P = R := by omega
      simp [Builtin.max_, Builtin.max2]
  go_enter Tryz.func158, Tryz.ntmps158
  go_wp2_with fail
  go_quiet (fail)
  clear u1 u2
  go_wp2_with fail
  refine (HF.out _).mono ?_
  rintro e w1 ⟨rfl, rfl⟩
  go_wp2_with fail
  refine (HC.out _).mono ?_
  rintro e w1 ⟨rfl, rfl⟩
  go_wp2_with fail
  exact bodyPost_ret (v := .agg #[.int .i64 (flr P 1000000), .int .i64 (cei R 1000000)]) (by simp [results, Tryz.results158, go_sem]) rfl ⟨rfl, by repeat (first | exact gr_refl _ _ | apply gr_drewN | apply gr_alloc | refine gr_setCell ?_ (.inr (by simp <;> omega)) _)⟩

end Go.Proofs.YtielicmjdhmcjaaGreatDoor

/- Ranges: times and through of the program, at the ranges that prices meet. -/
namespace Go.Proofs.YtielicmjdhmcjaaGreatDoor
open Go.RowKit

set_option maxRecDepth 100000 in
set_option maxHeartbeats 1000000 in
theorem bothTimes_any (al ah bl bh cl ch : Int) (w : World) (ha0 : -2000000000 ≤ al) (ha1 : al ≤ ah) (ha2 : ah ≤ 2000000000) (hb0 : -2000000000 ≤ bl) (hb1 : bl ≤ bh) (hb2 : bh ≤ 2000000000) (hc0 : -2000000000 ≤ cl) (hc1 : cl ≤ ch) (hc2 : ch ≤ 2000000000)
    (HF : Hid (∀ wx, Calls Tryz.prog 158 #[.agg #[.int .i64 al, .int .i64 ah], .agg #[.int .i64 bl, .int .i64 bh]] wx fun e w' => e = .returned (.agg #[.int .i64 cl, .int .i64 ch]) ∧ wx.grownBy w' none)) :
    Calls Tryz.prog 156 #[.agg #[.int .i64 al, .int .i64 ah], .agg #[.int .i64 bl, .int .i64 bh], .func (.func 158) #[] #[]] w fun e w' => e = .returned (.tuple #[.agg #[.int .i64 cl, .int .i64 ch], .nilIface]) ∧ w.grownBy w' none := by
  have HA := hid (fun wx => checked_any al ah wx ha0 ha1 ha2)
  have HB := hid (fun wx => checked_any bl bh wx hb0 hb1 hb2)
  have HC := hid (fun wx => checked_any cl ch wx hc0 hc1 hc2)
  obtain ⟨W, hW⟩ : ∃ W, W = ((w.alloc (.cells #[.int .i64 al, .int .i64 ah] 87)).alloc (.cells #[.int .i64 bl, .int .i64 bh] 87)).alloc (.cells #[.int .i64 0, .int .i64 0] 87) := ⟨_, rfl⟩
  have hg0 : w.grownBy W none := by rw [hW]; exact gr_alloc (gr_alloc (gr_alloc (gr0 _) _) _) _
  have hb0 : W.heap[w.heap.size]? = some (.cells #[.int .i64 al, .int .i64 ah] 87 (0, 0)) := by rw [hW]; exact blk_alloc (blk_alloc (heap_alloc_new _ _) _) _
  have hb1 : W.heap[w.heap.size + 1]? = some (.cells #[.int .i64 bl, .int .i64 bh] 87 (0, 0)) := by
    have := blk_alloc (heap_alloc_new (w.alloc (.cells #[.int .i64 al, .int .i64 ah] 87)) (.cells #[.int .i64 bl, .int .i64 bh] 87)) (.cells #[.int .i64 0, .int .i64 0] 87)
    rw [World.size_alloc] at this
    rw [hW]; exact this
  have hb2 : W.heap[w.heap.size + 2]? = some (.cells #[.int .i64 0, .int .i64 0] 87 (0, 0)) := by
    have := heap_alloc_new ((w.alloc (.cells #[.int .i64 al, .int .i64 ah] 87)).alloc (.cells #[.int .i64 bl, .int .i64 bh] 87)) (.cells #[.int .i64 0, .int .i64 0] 87)
    rw [World.size_alloc, World.size_alloc] at this
    rw [hW]; exact this
  have Hb0 := hid hb0; have Hb1 := hid hb1; have Hb2 := hid hb2; have Hg0 := hid hg0; have HW := hid hW
  clear hb0 hb1 hb2 hg0 hW ha0 ha1 ha2 hc0 hc1 hc2
  go_enter Tryz.func156, Tryz.ntmps156
  go_wp2_with fail
  rw [← HW.out]
  refine (HA.out _).mono ?_
  rintro e' w1 ⟨rfl, hg⟩
  have Hg1 := hid (gr_alloc (gr_trans0 Hg0.out hg) (Obj.cells #[.int .i64 al, .int .i64 ah] 87))
  have Hx1 := hid (blk_alloc (blk_keep Hb0.out hg (by simp)) (Obj.cells #[.int .i64 al, .int .i64 ah] 87))
  have Hy1 := hid (blk_alloc (blk_keep Hb1.out hg (by simp)) (Obj.cells #[.int .i64 al, .int .i64 ah] 87))
  have Hz1 := hid (blk_alloc (blk_keep Hb2.out hg (by simp)) (Obj.cells #[.int .i64 al, .int .i64 ah] 87))
  have hl1 : w.heap.size + 2 < w1.heap.size := blk_lt (blk_keep Hb2.out hg (by simp))
  have y0 := blk_cell Hy1.out 0 _ rfl
  have y1 := blk_cell Hy1.out 1 _ rfl
  have n1 : ¬ w.heap.size + 1 = w1.heap.size := by omega
  clear hg
  go_wp2_with fail
  refine (HB.out _).mono ?_
  rintro e' w2 ⟨rfl, hg⟩
  have Hg2 := hid (gr_alloc (gr_trans0 Hg1.out hg) (Obj.cells #[.int .i64 bl, .int .i64 bh] 87))
  have Hx2 := hid (blk_alloc (blk_keep Hx1.out hg (by simp)) (Obj.cells #[.int .i64 bl, .int .i64 bh] 87))
  have Hy2 := hid (blk_alloc (blk_keep Hy1.out hg (by simp)) (Obj.cells #[.int .i64 bl, .int .i64 bh] 87))
  have Hz2 := hid (blk_alloc (blk_keep Hz1.out hg (by simp)) (Obj.cells #[.int .i64 bl, .int .i64 bh] 87))
  have hl2 : w1.heap.size < w2.heap.size := by have := gr_le hg; simp at this; omega
  clear hg y0 y1 n1
  have x0 := blk_cell Hx2.out 0 _ rfl
  have x1 := blk_cell Hx2.out 1 _ rfl
  have y0 := blk_cell Hy2.out 0 _ rfl
  have y1 := blk_cell Hy2.out 1 _ rfl
  have n1 : ¬ w.heap.size + 1 = w2.heap.size := by omega
  have n2 : ¬ w.heap.size = w2.heap.size := by omega
  go_wp2_with fail
  refine (HF.out _).mono ?_
  rintro e' w3 ⟨rfl, hg⟩
  have Hg3 := hid (gr_trans0 Hg2.out hg)
  have Hz3 := hid (blk_keep Hz2.out hg (by simp))
  clear hg x0 x1 y0 y1
  go_wp2_with fail
  refine (HC.out _).mono ?_
  rintro e' w4 ⟨rfl, hg⟩
  have Hg4 := hid (gr_trans0 Hg3.out hg)
  have hz4 := blk_keep Hz3.out hg (by simp)
  have z0 := blk_cell hz4 0 _ rfl
  have z1 := blk_cell hz4 1 _ rfl
  have k0 := blk_frozen hz4 0
  have k1 := blk_frozen hz4 1
  clear hg hz4
  go_wp2_with fail
  exact bodyPost_ret (v := .tuple #[.agg #[.int .i64 cl, .int .i64 ch], .nilIface]) (by simp [results, Tryz.results156, go_sem, *]) rfl ⟨rfl, gr_setCell (p := ⟨w.heap.size + 2, 1, none⟩) (gr_setCell (p := ⟨w.heap.size + 2, 0, none⟩) Hg4.out (.inr (by simp <;> omega)) _) (.inr (by simp <;> omega)) _⟩

set_option maxRecDepth 100000 in
set_option maxHeartbeats 1000000 in
theorem bothRatio_any (al ah bl bh cl ch : Int) (w : World) (ha0 : -2000000000 ≤ al) (ha1 : al ≤ ah) (ha2 : ah ≤ 2000000000) (hb0 : -2000000000 ≤ bl) (hb1 : bl ≤ bh) (hb2 : bh ≤ 2000000000) (hc0 : -2000000000 ≤ cl) (hc1 : cl ≤ ch) (hc2 : ch ≤ 2000000000)
    (HF : Hid (∀ wx, Calls Tryz.prog 157 #[.agg #[.int .i64 al, .int .i64 ah], .agg #[.int .i64 bl, .int .i64 bh]] wx fun e w' => e = .returned (.agg #[.int .i64 cl, .int .i64 ch]) ∧ wx.grownBy w' none)) :
    Calls Tryz.prog 156 #[.agg #[.int .i64 al, .int .i64 ah], .agg #[.int .i64 bl, .int .i64 bh], .func (.func 157) #[] #[]] w fun e w' => e = .returned (.tuple #[.agg #[.int .i64 cl, .int .i64 ch], .nilIface]) ∧ w.grownBy w' none := by
  have HA := hid (fun wx => checked_any al ah wx ha0 ha1 ha2)
  have HB := hid (fun wx => checked_any bl bh wx hb0 hb1 hb2)
  have HC := hid (fun wx => checked_any cl ch wx hc0 hc1 hc2)
  obtain ⟨W, hW⟩ : ∃ W, W = ((w.alloc (.cells #[.int .i64 al, .int .i64 ah] 87)).alloc (.cells #[.int .i64 bl, .int .i64 bh] 87)).alloc (.cells #[.int .i64 0, .int .i64 0] 87) := ⟨_, rfl⟩
  have hg0 : w.grownBy W none := by rw [hW]; exact gr_alloc (gr_alloc (gr_alloc (gr0 _) _) _) _
  have hb0 : W.heap[w.heap.size]? = some (.cells #[.int .i64 al, .int .i64 ah] 87 (0, 0)) := by rw [hW]; exact blk_alloc (blk_alloc (heap_alloc_new _ _) _) _
  have hb1 : W.heap[w.heap.size + 1]? = some (.cells #[.int .i64 bl, .int .i64 bh] 87 (0, 0)) := by
    have := blk_alloc (heap_alloc_new (w.alloc (.cells #[.int .i64 al, .int .i64 ah] 87)) (.cells #[.int .i64 bl, .int .i64 bh] 87)) (.cells #[.int .i64 0, .int .i64 0] 87)
    rw [World.size_alloc] at this
    rw [hW]; exact this
  have hb2 : W.heap[w.heap.size + 2]? = some (.cells #[.int .i64 0, .int .i64 0] 87 (0, 0)) := by
    have := heap_alloc_new ((w.alloc (.cells #[.int .i64 al, .int .i64 ah] 87)).alloc (.cells #[.int .i64 bl, .int .i64 bh] 87)) (.cells #[.int .i64 0, .int .i64 0] 87)
    rw [World.size_alloc, World.size_alloc] at this
    rw [hW]; exact this
  have Hb0 := hid hb0; have Hb1 := hid hb1; have Hb2 := hid hb2; have Hg0 := hid hg0; have HW := hid hW
  clear hb0 hb1 hb2 hg0 hW ha0 ha1 ha2 hc0 hc1 hc2
  go_enter Tryz.func156, Tryz.ntmps156
  go_wp2_with fail
  rw [← HW.out]
  refine (HA.out _).mono ?_
  rintro e' w1 ⟨rfl, hg⟩
  have Hg1 := hid (gr_alloc (gr_trans0 Hg0.out hg) (Obj.cells #[.int .i64 al, .int .i64 ah] 87))
  have Hx1 := hid (blk_alloc (blk_keep Hb0.out hg (by simp)) (Obj.cells #[.int .i64 al, .int .i64 ah] 87))
  have Hy1 := hid (blk_alloc (blk_keep Hb1.out hg (by simp)) (Obj.cells #[.int .i64 al, .int .i64 ah] 87))
  have Hz1 := hid (blk_alloc (blk_keep Hb2.out hg (by simp)) (Obj.cells #[.int .i64 al, .int .i64 ah] 87))
  have hl1 : w.heap.size + 2 < w1.heap.size := blk_lt (blk_keep Hb2.out hg (by simp))
  have y0 := blk_cell Hy1.out 0 _ rfl
  have y1 := blk_cell Hy1.out 1 _ rfl
  have n1 : ¬ w.heap.size + 1 = w1.heap.size := by omega
  clear hg
  go_wp2_with fail
  refine (HB.out _).mono ?_
  rintro e' w2 ⟨rfl, hg⟩
  have Hg2 := hid (gr_alloc (gr_trans0 Hg1.out hg) (Obj.cells #[.int .i64 bl, .int .i64 bh] 87))
  have Hx2 := hid (blk_alloc (blk_keep Hx1.out hg (by simp)) (Obj.cells #[.int .i64 bl, .int .i64 bh] 87))
  have Hy2 := hid (blk_alloc (blk_keep Hy1.out hg (by simp)) (Obj.cells #[.int .i64 bl, .int .i64 bh] 87))
  have Hz2 := hid (blk_alloc (blk_keep Hz1.out hg (by simp)) (Obj.cells #[.int .i64 bl, .int .i64 bh] 87))
  have hl2 : w1.heap.size < w2.heap.size := by have := gr_le hg; simp at this; omega
  clear hg y0 y1 n1
  have x0 := blk_cell Hx2.out 0 _ rfl
  have x1 := blk_cell Hx2.out 1 _ rfl
  have y0 := blk_cell Hy2.out 0 _ rfl
  have y1 := blk_cell Hy2.out 1 _ rfl
  have n1 : ¬ w.heap.size + 1 = w2.heap.size := by omega
  have n2 : ¬ w.heap.size = w2.heap.size := by omega
  go_wp2_with fail
  refine (HF.out _).mono ?_
  rintro e' w3 ⟨rfl, hg⟩
  have Hg3 := hid (gr_trans0 Hg2.out hg)
  have Hz3 := hid (blk_keep Hz2.out hg (by simp))
  clear hg x0 x1 y0 y1
  go_wp2_with fail
  refine (HC.out _).mono ?_
  rintro e' w4 ⟨rfl, hg⟩
  have Hg4 := hid (gr_trans0 Hg3.out hg)
  have hz4 := blk_keep Hz3.out hg (by simp)
  have z0 := blk_cell hz4 0 _ rfl
  have z1 := blk_cell hz4 1 _ rfl
  have k0 := blk_frozen hz4 0
  have k1 := blk_frozen hz4 1
  clear hg hz4
  go_wp2_with fail
  exact bodyPost_ret (v := .tuple #[.agg #[.int .i64 cl, .int .i64 ch], .nilIface]) (by simp [results, Tryz.results156, go_sem, *]) rfl ⟨rfl, gr_setCell (p := ⟨w.heap.size + 2, 1, none⟩) (gr_setCell (p := ⟨w.heap.size + 2, 0, none⟩) Hg4.out (.inr (by simp <;> omega)) _) (.inr (by simp <;> omega)) _⟩


theorem tb_bd {gl gh u : Int} (h0 : 1000000 ≤ gl) (h1 : gl ≤ gh) (h2 : gh ≤ 100000000) (h3 : 1000000 ≤ u) (h4 : u ≤ 1100000) : 0 ≤ flr (gl * u) 1000000 ∧ flr (gl * u) 1000000 ≤ cei (gh * u) 1000000 ∧ cei (gh * u) 1000000 ≤ 2000000000 := by
  have p0 : 0 ≤ gl * u := Int.mul_nonneg (by omega) (by omega)
  have p1 : gl * u ≤ gh * u := Int.mul_le_mul_of_nonneg_right h1 (by omega)
  have p2 : gh * u ≤ 100000000 * 1100000 := mul_le h2 h4 (by omega) (by omega)
  have a := le_flr (gl * u) 1000000 0 (by omega) (by omega)
  have b := Int.le_trans (flr_mono (gl * u) (gh * u) 1000000 (by omega) p1) (flr_cei (gh * u) 1000000 (by omega))
  have c := cei_le (gh * u) 1000000 2000000000 (by omega) (by omega)
  omega

set_option maxRecDepth 100000 in
set_option maxHeartbeats 1000000 in
theorem times_any (gl gh u : Int) (w : World) (h0 : 1000000 ≤ gl) (h1 : gl ≤ gh) (h2 : gh ≤ 100000000) (h3 : 1000000 ≤ u) (h4 : u ≤ 1100000) :
    Calls Tryz.prog 131 #[.agg #[.int .i64 gl, .int .i64 gh], .agg #[.int .i64 u, .int .i64 u]] w fun e w' => e = .returned (.tuple #[.agg #[.int .i64 (flr (gl * u) 1000000), .int .i64 (cei (gh * u) 1000000)], .nilIface]) ∧ w.grownBy w' none := by
  obtain ⟨t0, t1, t2⟩ := tb_bd h0 h1 h2 h3 h4
  have HT := hid (fun wx => timesf_any gl gh u wx h0 h1 h2 h3 h4)
  generalize flr (gl * u) 1000000 = C0 at *
  generalize cei (gh * u) 1000000 = C1 at *
  obtain ⟨W, hW⟩ : ∃ W, W = ((w.alloc (.cells #[.int .i64 gl, .int .i64 gh] 87)).alloc (.cells #[.int .i64 u, .int .i64 u] 87)).alloc (.cells #[.int .i64 0, .int .i64 0] 87) := ⟨_, rfl⟩
  have hg0 : w.grownBy W none := by rw [hW]; exact gr_alloc (gr_alloc (gr_alloc (gr0 _) _) _) _
  have hb2 : W.heap[w.heap.size + 2]? = some (.cells #[.int .i64 0, .int .i64 0] 87 (0, 0)) := by
    have := heap_alloc_new ((w.alloc (.cells #[.int .i64 gl, .int .i64 gh] 87)).alloc (.cells #[.int .i64 u, .int .i64 u] 87)) (.cells #[.int .i64 0, .int .i64 0] 87)
    rw [World.size_alloc, World.size_alloc] at this
    rw [hW]; exact this
  have Hb2 := hid hb2; have Hg0 := hid hg0
  have HB := hid (bothTimes_any gl gh u u C0 C1 W (by omega) h1 (by omega) (by omega) (by omega) (by omega) (by omega) t1 t2 HT)
  rw [hW] at HB
  rw [hW] at Hg0 Hb2
  clear hb2 hg0 hW HT
  go_enter Tryz.func131, Tryz.ntmps131
  go_wp2_with fail
  refine HB.out.mono ?_
  rintro e' w1 ⟨rfl, hg⟩
  have Hg1 := hid (gr_trans0 Hg0.out hg)
  have hz1 := blk_keep Hb2.out hg (by simp)
  have z0 := blk_cell hz1 0 _ rfl
  have z1 := blk_cell hz1 1 _ rfl
  have k0 := blk_frozen hz1 0
  have k1 := blk_frozen hz1 1
  clear hg hz1
  go_wp2_with fail
  exact bodyPost_ret (v := .tuple #[.agg #[.int .i64 C0, .int .i64 C1], .nilIface]) (by simp [results, Tryz.results131, go_sem, *]) rfl ⟨rfl, gr_setCell (p := ⟨w.heap.size + 2, 1, none⟩) (gr_setCell (p := ⟨w.heap.size + 2, 0, none⟩) Hg1.out (.inr (by simp <;> omega)) _) (.inr (by simp <;> omega)) _⟩

set_option maxRecDepth 100000 in
set_option maxHeartbeats 1000000 in
theorem ratio_any (gl gh : Int) (w : World) (h0 : 1000000 ≤ gl) (h1 : gl ≤ gh) (h2 : gh ≤ 100000000) :
    Calls Tryz.prog 157 #[.agg #[.int .i64 1000000, .int .i64 1000000], .agg #[.int .i64 gl, .int .i64 gh]] w fun e w' => e = .returned (.agg #[.int .i64 (flr 1000000000000 gh), .int .i64 (cei 1000000000000 gl)]) ∧ w.grownBy w' none := by
  have HF := hid (fun wx => floor_any 1000000000000 gh wx (by omega) (by omega) (by omega) (by omega))
  have HC := hid (fun wx => ceil_any 1000000000000 gl wx (by omega) (by omega) (by omega) (by omega))
  rw [flr_def] at HF
  generalize flr 1000000000000 gh = C0 at *
  generalize cei 1000000000000 gl = C1 at *
  obtain ⟨W, hW⟩ : ∃ W, W = ((w.alloc (.cells #[.int .i64 1000000, .int .i64 1000000] 87)).alloc (.cells #[.int .i64 gl, .int .i64 gh] 87)).alloc (.cells #[.int .i64 0, .int .i64 0] 87) := ⟨_, rfl⟩
  have hg0 : w.grownBy W none := by rw [hW]; exact gr_alloc (gr_alloc (gr_alloc (gr0 _) _) _) _
  have hb0 : W.heap[w.heap.size]? = some (.cells #[.int .i64 1000000, .int .i64 1000000] 87 (0, 0)) := by rw [hW]; exact blk_alloc (blk_alloc (heap_alloc_new _ _) _) _
  have hb1 : W.heap[w.heap.size + 1]? = some (.cells #[.int .i64 gl, .int .i64 gh] 87 (0, 0)) := by
    have := blk_alloc (heap_alloc_new (w.alloc (.cells #[.int .i64 1000000, .int .i64 1000000] 87)) (.cells #[.int .i64 gl, .int .i64 gh] 87)) (.cells #[.int .i64 0, .int .i64 0] 87)
    rw [World.size_alloc] at this
    rw [hW]; exact this
  have hb2 : W.heap[w.heap.size + 2]? = some (.cells #[.int .i64 0, .int .i64 0] 87 (0, 0)) := by
    have := heap_alloc_new ((w.alloc (.cells #[.int .i64 1000000, .int .i64 1000000] 87)).alloc (.cells #[.int .i64 gl, .int .i64 gh] 87)) (.cells #[.int .i64 0, .int .i64 0] 87)
    rw [World.size_alloc, World.size_alloc] at this
    rw [hW]; exact this
  have Hb0 := hid hb0; have Hb1 := hid hb1; have Hb2 := hid hb2; have Hg0 := hid hg0; have HW := hid hW
  clear hb0 hb1 hb2 hg0 hW
  obtain ⟨T, hT⟩ : ∃ T, T = w.heap.size + 1 + 1 := ⟨_, rfl⟩
  have HT := hid hT
  have hT1 : ¬ T = w.heap.size := by omega
  have hT2 : ¬ T = w.heap.size + 1 := by omega
  have hT3 : w.heap.size ≤ T := by omega
  have hb2T : W.heap[T]? = some (.cells #[.int .i64 0, .int .i64 0] 87 (0, 0)) := by rw [hT]; exact Hb2.out
  have Hb2 := hid hb2T
  clear hT hb2T
  go_enter Tryz.func157, Tryz.ntmps157
  go_wp2_with fail
  rw [← HW.out, ← HT.out]
  refine wp_region_held_drew (S := fun w' => (w'.heap[w.heap.size]? = some (.cells #[.int .i64 1000000, .int .i64 1000000] 87 (0, 0)) ∧ w'.heap[w.heap.size + 1]? = some (.cells #[.int .i64 gl, .int .i64 gh] 87 (0, 0))) ∧ w.grownBy w' none) (by kernel_rfl) ⟨⟨Hb0.out, Hb1.out⟩, gr_drew Hg0.out⟩ (fun hHeld => ?_)
  refine wpAnyH_take (i := 0) (v := ?_) rfl (by kernel_rfl) (by kernel_rfl) (by kernel_rfl) (fun _ _ _ h => h) (Or.inl ⟨by rfl, ?_⟩) hHeld ?_
  rotate_left
  · intro w9 hSw
    (obtain ⟨⟨sa, sb⟩, _⟩ := hSw; have s0 := blk_cell sa 0 _ rfl; have s1 := blk_cell sa 1 _ rfl; have s2 := blk_cell sb 0 _ rfl; have s3 := blk_cell sb 1 _ rfl; clear sa sb)
    go_simp
    all_goals (try with_reducible rfl)
  (try simp only [Act.put, gA, gC, gD, gE, gF])
  refine wpAnyH_take (i := 1) (v := ?_) rfl (by kernel_rfl) (by kernel_rfl) (by kernel_rfl) (fun _ _ _ h => h) (Or.inl ⟨by rfl, ?_⟩) hHeld ?_
  rotate_left
  · intro w9 hSw
    (obtain ⟨⟨sa, sb⟩, _⟩ := hSw; have s0 := blk_cell sa 0 _ rfl; have s1 := blk_cell sa 1 _ rfl; have s2 := blk_cell sb 0 _ rfl; have s3 := blk_cell sb 1 _ rfl; clear sa sb)
    go_simp
    all_goals (try with_reducible rfl)
  (try simp only [Act.put, gA, gB, gC, gD, gE, gF])
  refine wpAnyH_take (i := 2) (v := ?_) rfl (by kernel_rfl) (by kernel_rfl) (by kernel_rfl) (fun _ _ _ h => h) (Or.inl ⟨by rfl, ?_⟩) hHeld ?_
  rotate_left
  · intro w9 hSw
    (obtain ⟨⟨sa, sb⟩, _⟩ := hSw; have s0 := blk_cell sa 0 _ rfl; have s1 := blk_cell sa 1 _ rfl; have s2 := blk_cell sb 0 _ rfl; have s3 := blk_cell sb 1 _ rfl; clear sa sb)
    go_simp
    all_goals (try with_reducible rfl)
  (try simp only [Act.put, gA, gB, gC, gD, gE, gF])
  refine wpAnyH_take (i := 3) (v := ?_) rfl (by kernel_rfl) (by kernel_rfl) (by kernel_rfl) (fun _ _ _ h => h) (Or.inl ⟨by rfl, ?_⟩) hHeld ?_
  rotate_left
  · intro w9 hSw
    (obtain ⟨⟨sa, sb⟩, _⟩ := hSw; have s0 := blk_cell sa 0 _ rfl; have s1 := blk_cell sa 1 _ rfl; have s2 := blk_cell sb 0 _ rfl; have s3 := blk_cell sb 1 _ rfl; clear sa sb)
    go_simp
    all_goals (try with_reducible rfl)
  (try simp only [Act.put, gA, gB, gC, gD, gE, gF])
  refine wpAnyH_take (i := 4) (v := ?_) rfl (by kernel_rfl) (by kernel_rfl) (by kernel_rfl) (fun _ _ _ h => h) (Or.inl ⟨by rfl, ?_⟩) hHeld ?_
  rotate_left
  · intro w9 hSw
    (obtain ⟨⟨sa, sb⟩, _⟩ := hSw; have s0 := blk_cell sa 0 _ rfl; have s1 := blk_cell sa 1 _ rfl; have s2 := blk_cell sb 0 _ rfl; have s3 := blk_cell sb 1 _ rfl; clear sa sb)
    go_simp
    all_goals (try with_reducible rfl)
  (try simp only [Act.put, gA, gB, gC, gD, gE, gF])
  refine wpAnyH_take (i := 6) (v := ?_) rfl (by kernel_rfl) (by kernel_rfl) (by kernel_rfl) (fun _ _ _ h => h) (Or.inl ⟨by rfl, ?_⟩) hHeld ?_
  rotate_left
  · intro w9 hSw
    (obtain ⟨⟨sa, sb⟩, _⟩ := hSw; have s0 := blk_cell sa 0 _ rfl; have s1 := blk_cell sa 1 _ rfl; have s2 := blk_cell sb 0 _ rfl; have s3 := blk_cell sb 1 _ rfl; clear sa sb)
    go_simp
    all_goals (try with_reducible rfl)
  (try simp only [Act.put, gA, gB, gC, gD, gE, gF])
  refine wpAnyH_take (i := 7) (v := ?_) rfl (by kernel_rfl) (by kernel_rfl) (by kernel_rfl) (fun _ _ _ h => h) (Or.inl ⟨by rfl, ?_⟩) hHeld ?_
  rotate_left
  · intro w9 hSw
    (obtain ⟨⟨sa, sb⟩, _⟩ := hSw; have s0 := blk_cell sa 0 _ rfl; have s1 := blk_cell sa 1 _ rfl; have s2 := blk_cell sb 0 _ rfl; have s3 := blk_cell sb 1 _ rfl; clear sa sb)
    go_simp
    all_goals (try with_reducible rfl)
  (try simp only [Act.put, gA, gB, gC, gD, gE, gF])
  refine wpAnyH_take (i := 8) (v := ?_) rfl (by kernel_rfl) (by kernel_rfl) (by kernel_rfl) (fun _ _ _ h => h) (Or.inl ⟨by rfl, ?_⟩) hHeld ?_
  rotate_left
  · intro w9 hSw
    (obtain ⟨⟨sa, sb⟩, _⟩ := hSw; have s0 := blk_cell sa 0 _ rfl; have s1 := blk_cell sa 1 _ rfl; have s2 := blk_cell sb 0 _ rfl; have s3 := blk_cell sb 1 _ rfl; clear sa sb)
    go_simp
    all_goals (try with_reducible rfl)
  (try simp only [Act.put, gA, gB, gC, gD, gE, gF])
  refine wpAnyH_take (i := 9) (v := ?_) rfl (by kernel_rfl) (by kernel_rfl) (by kernel_rfl) (fun _ _ _ h => h) (Or.inl ⟨by rfl, ?_⟩) hHeld ?_
  rotate_left
  · intro w9 hSw
    (obtain ⟨⟨sa, sb⟩, _⟩ := hSw; have s0 := blk_cell sa 0 _ rfl; have s1 := blk_cell sa 1 _ rfl; have s2 := blk_cell sb 0 _ rfl; have s3 := blk_cell sb 1 _ rfl; clear sa sb)
    go_simp
    all_goals (try with_reducible rfl)
  (try simp only [Act.put, gA, gB, gC, gD, gE, gF])
  refine wpAnyH_take (i := 10) (v := ?_) rfl (by kernel_rfl) (by kernel_rfl) (by kernel_rfl) (fun _ _ _ h => h) (Or.inl ⟨by rfl, ?_⟩) hHeld ?_
  rotate_left
  · intro w9 hSw
    (obtain ⟨⟨sa, sb⟩, _⟩ := hSw; have s0 := blk_cell sa 0 _ rfl; have s1 := blk_cell sa 1 _ rfl; have s2 := blk_cell sb 0 _ rfl; have s3 := blk_cell sb 1 _ rfl; clear sa sb)
    go_simp
    all_goals (try with_reducible rfl)
  (try simp only [Act.put, gA, gB, gC, gD, gE, gF])
  refine wpAnyH_ready (rs := [5]) (by kernel_rfl) (by simp) ?_
  refine AllReadyH.cons rfl (fun K' hK' => ?_) AllReadyH.nil
  go_simp
  refine (HF.out _).mono ?_
  rintro e' w1 ⟨rfl, rfl⟩
  (try simp only [])
  refine hK'.out _ _ hHeld (fun _ => ?_)
  clear hK' K'
  (try simp only [Act.put, gA, gB, gC, gD, gE, gF])
  refine wpAnyH_ready (rs := [11]) (by kernel_rfl) (by simp) ?_
  refine AllReadyH.cons rfl (fun K' hK' => ?_) AllReadyH.nil
  go_simp
  refine (HC.out _).mono ?_
  rintro e' w1 ⟨rfl, rfl⟩
  (try simp only [])
  refine hK'.out _ _ hHeld (fun _ => ?_)
  clear hK' K'
  (try simp only [Act.put, gA, gB, gC, gD, gE, gF])
  refine wpAnyH_take (i := 12) (v := ?_) rfl (by kernel_rfl) (by kernel_rfl) (by kernel_rfl) (fun _ _ _ h => h) (Or.inl ⟨by rfl, ?_⟩) hHeld ?_
  rotate_left
  · intro w9 hSw
    clear hSw
    go_simp
    all_goals (try with_reducible rfl)
  (try simp only [Act.put, gA, gB, gC, gD, gE, gF])
  have hbT := Hb2.out
  have f0 := blk_cell hbT 0 _ rfl
  have f1 := blk_cell hbT 1 _ rfl
  have k0 := blk_frozen hbT 0
  have k1 := blk_frozen hbT 1
  refine wpAnyH_ready (rs := [13]) (by kernel_rfl) (by simp) ?_
  refine AllReadyH.cons rfl (fun K' hK' => ?_) AllReadyH.nil
  go_simp
  refine hK'.out _ _ ⟨⟨blk_set_other (blk_set_other hHeld.1.1 _ hT1 _) _ hT1 _, blk_set_other (blk_set_other hHeld.1.2 _ hT2 _) _ hT2 _⟩, gr_setCell (p := ⟨T, 1, none⟩) (gr_setCell (p := ⟨T, 0, none⟩) hHeld.2 (.inr hT3) _) (.inr hT3) _⟩ (fun hHeldF => ?_)
  clear hK' K'
  (try simp only [Act.put, gA, gB, gC, gD, gE, gF])
  refine wpAnyH_done (by kernel_rfl) ?_ _
  clear hHeld hHeldF hbT
  go_wp2_with fail
  exact bodyPost_ret (v := .agg #[.int .i64 C0, .int .i64 C1]) (by simp [results, Tryz.results157, go_sem, *]) rfl ⟨rfl, gr_drew (gr_setCell (p := ⟨T, 1, none⟩) (gr_setCell (p := ⟨T, 0, none⟩) Hg0.out (.inr hT3) _) (.inr hT3) _)⟩


theorem th_bd {gl gh : Int} (h0 : 1000000 ≤ gl) (h1 : gl ≤ gh) (h2 : gh ≤ 100000000) : 0 ≤ flr 1000000000000 gh ∧ flr 1000000000000 gh ≤ cei 1000000000000 gl ∧ cei 1000000000000 gl ≤ 2000000000 := by
  have a := le_flr 1000000000000 gh 0 (by omega) (by omega)
  have b := cei_le 1000000000000 gl 1000000 (by omega) (by omega)
  have h3 := flr_lo 1000000000000 gh (by omega)
  have h4 : flr 1000000000000 gh * gl ≤ flr 1000000000000 gh * gh := Int.mul_le_mul_of_nonneg_left h1 a
  have c := le_cei 1000000000000 gl (flr 1000000000000 gh) (by omega) (by omega)
  omega

set_option maxRecDepth 100000 in
set_option maxHeartbeats 1000000 in
theorem through_any (gl gh : Int) (w : World) (h0 : 1000000 ≤ gl) (h1 : gl ≤ gh) (h2 : gh ≤ 100000000) :
    Calls Tryz.prog 130 #[.agg #[.int .i64 1000000, .int .i64 1000000], .agg #[.int .i64 gl, .int .i64 gh]] w fun e w' => e = .returned (.tuple #[.agg #[.int .i64 (flr 1000000000000 gh), .int .i64 (cei 1000000000000 gl)], .nilIface]) ∧ w.grownBy w' none := by
  obtain ⟨t0, t1, t2⟩ := th_bd h0 h1 h2
  have HT := hid (fun wx => ratio_any gl gh wx h0 h1 h2)
  generalize flr 1000000000000 gh = C0 at *
  generalize cei 1000000000000 gl = C1 at *
  obtain ⟨W, hW⟩ : ∃ W, W = ((w.alloc (.cells #[.int .i64 1000000, .int .i64 1000000] 87)).alloc (.cells #[.int .i64 gl, .int .i64 gh] 87)).alloc (.cells #[.int .i64 0, .int .i64 0] 87) := ⟨_, rfl⟩
  have hg0 : w.grownBy W none := by rw [hW]; exact gr_alloc (gr_alloc (gr_alloc (gr0 _) _) _) _
  have hb2 : W.heap[w.heap.size + 2]? = some (.cells #[.int .i64 0, .int .i64 0] 87 (0, 0)) := by
    have := heap_alloc_new ((w.alloc (.cells #[.int .i64 1000000, .int .i64 1000000] 87)).alloc (.cells #[.int .i64 gl, .int .i64 gh] 87)) (.cells #[.int .i64 0, .int .i64 0] 87)
    rw [World.size_alloc, World.size_alloc] at this
    rw [hW]; exact this
  have Hb2 := hid hb2; have Hg0 := hid hg0
  have HB := hid (bothRatio_any 1000000 1000000 gl gh C0 C1 W (by omega) (by omega) (by omega) (by omega) h1 (by omega) (by omega) t1 t2 HT)
  rw [hW] at HB
  rw [hW] at Hg0 Hb2
  clear hb2 hg0 hW HT
  go_enter Tryz.func130, Tryz.ntmps130
  go_wp2_with fail
  refine HB.out.mono ?_
  rintro e' w1 ⟨rfl, hg⟩
  have Hg1 := hid (gr_trans0 Hg0.out hg)
  have hz1 := blk_keep Hb2.out hg (by simp)
  have z0 := blk_cell hz1 0 _ rfl
  have z1 := blk_cell hz1 1 _ rfl
  have k0 := blk_frozen hz1 0
  have k1 := blk_frozen hz1 1
  clear hg hz1
  go_wp2_with fail
  exact bodyPost_ret (v := .tuple #[.agg #[.int .i64 C0, .int .i64 C1], .nilIface]) (by simp [results, Tryz.results130, go_sem, *]) rfl ⟨rfl, gr_setCell (p := ⟨w.heap.size + 2, 1, none⟩) (gr_setCell (p := ⟨w.heap.size + 2, 0, none⟩) Hg1.out (.inr (by simp <;> omega)) _) (.inr (by simp <;> omega)) _⟩

end Go.Proofs.YtielicmjdhmcjaaGreatDoor
