/- Ranges: exactly, checked, times, through and growth of the program. -/
import Derived.Test.YtkgjciacdjhhfaaDoorRows
import Derived.Test.YtkgjciacdjhhfaaDoorBase
import Derived.Test.YtkgjciacdjhhfaaDoorWithin
import Derived.Test.YtkgjciacdjhhfaaDoorPriceMore
import Derived.Deep.QuietTactic
import Derived.BigQuiet
import Derived.Deep.RegionHeld
namespace Go.Proofs.YtkgjciacdjhhfaaDoor
open Go.RowKit


theorem flr_def (a b : Int) : a / b = flr a b := rfl
theorem cei_def (a b : Int) : -((-a) / b) = cei a b := rfl

theorem ceil_any (a b : Int) (w : World) (hb : 0 < b) (hb1 : b ≤ 4611686018427387904) (ha0 : -4611686018427387904 ≤ a) (ha1 : a ≤ 4611686018427387904) :
    Calls Tryd.prog 70 #[.int .i64 a, .int .i64 b] w fun e w' => e = .returned (.int .i64 (cei a b)) ∧ w = w' := by
  have H := hid (floor_any (-a) b w hb hb1 (by omega) (by omega))
  have h1 := cei_hi a b hb
  have hd : -4611686018427387904 ≤ (-a) / b ∧ (-a) / b ≤ 4611686018427387904 := by
    constructor
    · rcases Int.le_total 0 (-a) with h | h
      · have := Int.ediv_nonneg h (Int.le_of_lt hb); omega
      · have : -4611686018427387904 ≤ (-a) / b := by
          have h2 := flr_lo (-a) b hb
          unfold flr at h2
          rcases Int.le_total 0 ((-a) / b) with h3 | h3
          · omega
          · have h4 : (-a) / b * b ≤ (-a) / b * 1 := Int.mul_le_mul_of_nonpos_left h3 (by omega)
            have h5 := Int.le_ediv_of_mul_le (a := -4611686018427387904) (b := -a) (c := b) hb
            refine h5 ?_
            have h6 : (-4611686018427387904 : Int) * b ≤ -4611686018427387904 * 1 := Int.mul_le_mul_of_nonpos_left (by omega) (by omega)
            omega
        exact this
    · rcases Int.le_total 0 (-a) with h | h
      · have := Int.ediv_le_self b h; omega
      · have h2 := flr_lo (-a) b hb
        unfold flr at h2
        have : (-a) / b ≤ 0 := by
          rcases Int.le_total ((-a) / b) 0 with h3 | h3
          · exact h3
          · have h4 : 0 ≤ (-a) / b * b := Int.mul_nonneg h3 (by omega)
            have h5 : (-a) / b ≤ (-a) / b * b := by
              have := Int.mul_le_mul_of_nonneg_left (show (1 : Int) ≤ b by omega) h3
              omega
            omega
        omega
  obtain ⟨d0, d1⟩ := hd
  have Hc := hid (cei_def a b)
  clear h1
  generalize (-a) / b = q at *
  go_enter Tryd.func70, Tryd.ntmps70
  go_wp2_with fail
  refine H.out.mono ?_
  rintro e w' ⟨rfl, rfl⟩
  go_wp2_with fail
  go_ret
  exact ⟨ret_int Hc.out, rfl⟩

theorem exactly_any (x : Int) (w : World) :
    Calls Tryd.prog 66 #[.int .i64 x] w fun e w' => e = .returned (.agg #[.int .i64 x, .int .i64 x]) ∧ w.grownBy w' none := by
  go_enter Tryd.func66, Tryd.ntmps66
  go_wp2_with fail
  exact bodyPost_ret (v := .agg #[.int .i64 x, .int .i64 x]) (by simp [results, Tryd.results66, go_sem]) rfl ⟨rfl, by repeat (first | exact gr_refl _ _ | apply gr_alloc | refine gr_setCell ?_ (.inr (by simp <;> omega)) _)⟩

set_option maxHeartbeats 400000 in
theorem checked_any (lo hi : Int) (w : World) (h0 : -2000000000 ≤ lo) (h1 : lo ≤ hi) (h2 : hi ≤ 2000000000) :
    Calls Tryd.prog 100 #[.agg #[.int .i64 lo, .int .i64 hi]] w fun e w' => e = .returned (.tuple #[.agg #[.int .i64 lo, .int .i64 hi], .nilIface]) ∧ w.grownBy w' none := by
  have H1 := hid ((within_iff' lo (-2000000000) 2000000000).2 ⟨h0, by omega⟩)
  have H2 := hid ((within_iff' hi (-2000000000) 2000000000).2 ⟨by omega, h2⟩)
  go_enter Tryd.func100, Tryd.ntmps100
  go_wp2_with fail
  refine (within_any _ _ _ _).mono ?_
  rintro e w' ⟨rfl, rfl⟩
  rw [H1.out]
  go_wp2_with fail
  refine (within_any _ _ _ _).mono ?_
  rintro e w' ⟨rfl, rfl⟩
  rw [H2.out]
  go_wp2_with fail
  exact bodyPost_ret (v := .tuple #[.agg #[.int .i64 lo, .int .i64 hi], .nilIface]) (by simp [results, Tryd.results100, go_sem]) rfl ⟨rfl, by repeat (first | exact gr_refl _ _ | apply gr_alloc | refine gr_setCell ?_ (.inr (by simp <;> omega)) _)⟩

theorem growth_bd {y l d : Int} (h0 : 0 ≤ y) (h1 : y ≤ 100000) (h2 : 1 ≤ l) (h3 : l ≤ d) (h4 : d ≤ 36524) : 0 ≤ y * l ∧ y * l ≤ 3652400000 ∧ 0 ≤ flr (y * l) d ∧ flr (y * l) d ≤ 100000 ∧ 0 ≤ cei (y * l) d ∧ cei (y * l) d ≤ 100000 := by
  have a : 0 ≤ y * l := Int.mul_nonneg h0 (by omega)
  have b : y * l ≤ 100000 * 36524 := mul_le h1 (by omega) h0 (by omega)
  have c : y * l ≤ 100000 * d := mul_le h1 h3 h0 (by omega)
  have e := cei_le (y * l) d 100000 (by omega) c
  have f := flr_cei (y * l) d (by omega)
  have g := le_flr (y * l) d 0 (by omega) (by omega)
  omega

set_option maxHeartbeats 400000 in
theorem growth_any (y l d : Int) (w : World) (h0 : 0 ≤ y) (h1 : y ≤ 100000) (h2 : 1 ≤ l) (h3 : l ≤ d) (h4 : d ≤ 36524) :
    Calls Tryd.prog 65 #[.int .i64 y, .int .i64 l, .int .i64 d] w fun e w' => e = .returned (.agg #[.int .i64 (growL y l d 0), .int .i64 (growH y l d 0)]) ∧ w.grownBy w' none := by
  obtain ⟨a0, a1, f0, f1, c0, c1⟩ := growth_bd h0 h1 h2 h3 h4
  have HF := hid (fun wx => floor_any (y * l) d wx (by omega) (by omega) (by omega) (by omega))
  have HC := hid (fun wx => ceil_any (y * l) d wx (by omega) (by omega) (by omega) (by omega))
  rw [flr_def] at HF
  have HL := hid (show growL y l d 0 = 1000000 + flr (y * l) d from rfl)
  have HH := hid (show growH y l d 0 = 1000000 + cei (y * l) d from rfl)
  rw [HL.out, HH.out]
  generalize flr (y * l) d = f at *
  generalize cei (y * l) d = c at *
  go_enter Tryd.func65, Tryd.ntmps65
  go_wp2_with fail
  refine (HF.out _).mono ?_
  rintro e w' ⟨rfl, rfl⟩
  go_wp2_with fail
  refine (HC.out _).mono ?_
  rintro e w' ⟨rfl, rfl⟩
  go_wp2_with fail
  exact bodyPost_ret (v := .agg #[.int .i64 (1000000 + f), .int .i64 (1000000 + c)]) (by simp [results, Tryd.results65, go_sem]) rfl ⟨rfl, by repeat (first | exact gr_refl _ _ | apply gr_alloc | refine gr_setCell ?_ (.inr (by simp <;> omega)) _)⟩

set_option maxRecDepth 100000 in
set_option maxHeartbeats 1000000 in
theorem timesf_any (gl gh u : Int) (w : World) (h0 : 1000000 ≤ gl) (h1 : gl ≤ gh) (h2 : gh ≤ 100000000) (h3 : 1000000 ≤ u) (h4 : u ≤ 1100000) :
    Calls Tryd.prog 87 #[.agg #[.int .i64 gl, .int .i64 gh], .agg #[.int .i64 u, .int .i64 u]] w fun e w' => e = .returned (.agg #[.int .i64 (flr (gl * u) 1000000), .int .i64 (cei (gh * u) 1000000)]) ∧ w.grownBy w' none := by
  have p0 : 0 ≤ gl * u := Int.mul_nonneg (by omega) (by omega)
  have p1 : gl * u ≤ gh * u := Int.mul_le_mul_of_nonneg_right h1 (by omega)
  have p2 : gh * u ≤ 100000000 * 1100000 := mul_le h2 h4 (by omega) (by omega)
  have HF := hid (fun wx => floor_any (gl * u) 1000000 wx (by omega) (by omega) (by omega) (by omega))
  have HC := hid (fun wx => ceil_any (gh * u) 1000000 wx (by omega) (by omega) (by omega) (by omega))
  rw [flr_def] at HF
  obtain ⟨P, hP⟩ : ∃ P, gl * u = P := ⟨_, rfl⟩
  obtain ⟨R, hR⟩ : ∃ R, gh * u = R := ⟨_, rfl⟩
  rw [hP] at p0 p1 HF ⊢
  rw [hR] at p1 p2 HC ⊢
  have u1 : IntKind.i64.wrap (gl * u) = P := by rw [hP]; exact IntWalk.i64_in _ (by omega)
  have u2 : IntKind.i64.wrap (gh * u) = R := by rw [hR]; exact IntWalk.i64_in _ (by omega)
  clear hP hR
  have hmin : ∀ (ts : Array TypeId) (t : TypeId) (W : World), (Builtin.min_ ts t #[.int .i64 P, .int .i64 P, .int .i64 R, .int .i64 R]).run Tryd.prog W = .ok (.int .i64 P) W := fun ts t W => by
    have h9 : ¬ R < P := by omega
    simp [Builtin.min_, Builtin.min2, h9]
  have hmax : ∀ (ts : Array TypeId) (t : TypeId) (W : World), (Builtin.max_ ts t #[.int .i64 P, .int .i64 P, .int .i64 R, .int .i64 R]).run Tryd.prog W = .ok (.int .i64 R) W := fun ts t W => by
    by_cases h9 : P < R
    · simp [Builtin.max_, Builtin.max2, h9]
    · obtain rfl : P = R := by omega
      simp [Builtin.max_, Builtin.max2]
  go_enter Tryd.func87, Tryd.ntmps87
  go_wp2_with fail
  go_quiet (fail)
  clear u1 u2
  go_wp2_with fail
  refine (HF.out _).mono ?_
  rintro e w1 ⟨rfl, rfl⟩
  go_wp2_with fail
  refine (HC.out _).mono ?_
  rintro e w1 ⟨rfl, rfl⟩
  go_wp2_with fail
  exact bodyPost_ret (v := .agg #[.int .i64 (flr P 1000000), .int .i64 (cei R 1000000)]) (by simp [results, Tryd.results87, go_sem]) rfl ⟨rfl, by repeat (first | exact gr_refl _ _ | apply gr_drewN | apply gr_alloc | refine gr_setCell ?_ (.inr (by simp <;> omega)) _)⟩

end Go.Proofs.YtkgjciacdjhhfaaDoor
