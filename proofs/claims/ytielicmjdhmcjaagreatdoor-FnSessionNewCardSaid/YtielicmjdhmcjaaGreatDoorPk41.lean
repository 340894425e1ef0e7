/- Packed: SpecRange, SpecDisc. -/
import Derived.Test.YtielicmjdhmcjaaGreatDoorRows
import Derived.Test.YtielicmjdhmcjaaGreatDoorPk33
/- Ranges: the reference's growth, exact, mulRange and divRange. -/
namespace Go.Proofs.YtielicmjdhmcjaaGreatDoor
open Go.RowKit

theorem ceilDiv_any (a b : Int) (w : World) (hb : 0 < b) (hb1 : b ≤ 4611686018427387904) (ha0 : -4611686018427387904 ≤ a) (ha1 : a ≤ 4611686018427387904) :
    Calls Tryz.prog 148 #[.int .i64 a, .int .i64 b] w fun e w' => e = .returned (.int .i64 (cei a b)) ∧ w = w' := by
  have H := hid (floorDiv_any (-a) b w hb hb1 (by omega) (by omega))
  have h1 := cei_hi a b hb
  have hd : -4611686018427387904 ≤ (-a) / b ∧ (-a) / b ≤ 4611686018427387904 := by
    constructor
    · rcases Int.le_total 0 (-a) with h | h
      · have := Int.ediv_nonneg h (Int.le_of_lt hb); omega
      · have : -4611686018427387904 ≤ (-a) / b := by
          have h2 := flr_lo (-a) b hb
          unfold flr at h2
          rcases Int.le_total 0 ((-a) / b) with h3 | h3
          · omega
          · have h4 : (-a) / b * b ≤ (-a) / b * 1 := Int.mul_le_mul_of_nonpos_left h3 (by omega)
            have h5 := Int.le_ediv_of_mul_le (a := -4611686018427387904) (b := -a) (c := b) hb
            refine h5 ?_
            have h6 : (-4611686018427387904 : Int) * b ≤ -4611686018427387904 * 1 := Int.mul_le_mul_of_nonpos_left (by omega) (by omega)
            omega
        exact this
    · rcases Int.le_total 0 (-a) with h | h
      · have := Int.ediv_le_self b h; omega
      · have h2 := flr_lo (-a) b hb
        unfold flr at h2
        have : (-a) / b ≤ 0 := by
          rcases Int.le_total ((-a) / b) 0 with h3 | h3
          · exact h3
          · have h4 : 0 ≤ (-a) / b * b := Int.mul_nonneg h3 (by omega)
            have h5 : (-a) / b ≤ (-a) / b * b := by
              have := Int.mul_le_mul_of_nonneg_left (show (1 : Int) ≤ b by omega) h3
              omega
            omega
        omega
  obtain ⟨d0, d1⟩ := hd
  have Hc := hid (cei_def a b)
  clear h1
  generalize (-a) / b = q at *
  go_enter Tryz.func148, Tryz.ntmps148
  go_wp2_with fail
  refine H.out.mono ?_
  rintro e w' ⟨rfl, rfl⟩
  go_wp2_with fail
  go_ret
  exact ⟨ret_int Hc.out, rfl⟩

set_option maxRecDepth 100000 in
set_option maxHeartbeats 1000000 in
theorem divRange_any (gl gh : Int) (w : World) (h0 : 1000000 ≤ gl) (h1 : gl ≤ gh) (h2 : gh ≤ 100000000) :
    Calls Tryz.prog 164 #[.agg #[.int .i64 1000000, .int .i64 1000000], .agg #[.int .i64 gl, .int .i64 gh]] w fun e w' => e = .returned (.agg #[.int .i64 (flr 1000000000000 gh), .int .i64 (cei 1000000000000 gl)]) ∧ w.grownBy w' none := by
  have HF := hid (fun wx => floorDiv_any 1000000000000 gh wx (by omega) (by omega) (by omega) (by omega))
  have HC := hid (fun wx => ceilDiv_any 1000000000000 gl wx (by omega) (by omega) (by omega) (by omega))
  rw [flr_def] at HF
  generalize flr 1000000000000 gh = C0 at *
  generalize cei 1000000000000 gl = C1 at *
  obtain ⟨W, hW⟩ : ∃ W, W = ((w.alloc (.cells #[.int .i64 1000000, .int .i64 1000000] 87)).alloc (.cells #[.int .i64 gl, .int .i64 gh] 87)).alloc (.cells #[.int .i64 0, .int .i64 0] 87) := ⟨_, rfl⟩
  have hg0 : w.grownBy W none := by rw [hW]; exact gr_alloc (gr_alloc (gr_alloc (gr0 _) _) _) _
  have hb0 : W.heap[w.heap.size]? = some (.cells #[.int .i64 1000000, .int .i64 1000000] 87 (0, 0)) := by rw [hW]; exact blk_alloc (blk_alloc (heap_alloc_new _ _) _) _
  have hb1 : W.heap[w.heap.size + 1]? = some (.cells #[.int .i64 gl, .int .i64 gh] 87 (0, 0)) := by
    have := blk_alloc (heap_alloc_new (w.alloc (.cells #[.int .i64 1000000, .int .i64 1000000] 87)) (.cells #[.int .i64 gl, .int .i64 gh] 87)) (.cells #[.int .i64 0, .int .i64 0] 87)
    rw [World.size_alloc] at this
    rw [hW]; exact this
  have hb2 : W.heap[w.heap.size + 2]? = some (.cells #[.int .i64 0, .int .i64 0] 87 (0, 0)) := by
    have := heap_alloc_new ((w.alloc (.cells #[.int .i64 1000000, .int .i64 1000000] 87)).alloc (.cells #[.int .i64 gl, .int .i64 gh] 87)) (.cells #[.int .i64 0, .int .i64 0] 87)
    rw [World.size_alloc, World.size_alloc] at this
    rw [hW]; exact this
  have Hb0 := hid hb0; have Hb1 := hid hb1; have Hb2 := hid hb2; have Hg0 := hid hg0; have HW := hid hW
  clear hb0 hb1 hb2 hg0 hW
  obtain ⟨T, hT⟩ : ∃ T, T = w.heap.size + 1 + 1 := ⟨_, rfl⟩
  have HT := hid hT
  have hT1 : ¬ T = w.heap.size := by omega
  have hT2 : ¬ T = w.heap.size + 1 := by omega
  have hT3 : w.heap.size ≤ T := by omega
  have hb2T : W.heap[T]? = some (.cells #[.int .i64 0, .int .i64 0] 87 (0, 0)) := by rw [hT]; exact Hb2.out
  have Hb2 := hid hb2T
  clear hT hb2T
  go_enter Tryz.func164, Tryz.ntmps164
  go_wp2_with fail
  rw [← HW.out, ← HT.out]
  refine wp_region_held_drew (S := fun w' => (w'.heap[w.heap.size]? = some (.cells #[.int .i64 1000000, .int .i64 1000000] 87 (0, 0)) ∧ w'.heap[w.heap.size + 1]? = some (.cells #[.int .i64 gl, .int .i64 gh] 87 (0, 0))) ∧ w.grownBy w' none) (by kernel_rfl) ⟨⟨Hb0.out, Hb1.out⟩, gr_drew Hg0.out⟩ (fun hHeld => ?_)
  refine wpAnyH_take (i := 0) (v := ?_) rfl (by kernel_rfl) (by kernel_rfl) (by kernel_rfl) (fun _ _ _ h => h) (Or.inl ⟨by rfl, ?_⟩) hHeld ?_
  rotate_left
  · intro w9 hSw
    (obtain ⟨⟨sa, sb⟩, _⟩ := hSw; have s0 := blk_cell sa 0 _ rfl; have s1 := blk_cell sa 1 _ rfl; have s2 := blk_cell sb 0 _ rfl; have s3 := blk_cell sb 1 _ rfl; clear sa sb)
    go_simp
    all_goals (try with_reducible rfl)
  (try simp only [Act.put, gA, gC, gD, gE, gF])
  refine wpAnyH_take (i := 1) (v := ?_) rfl (by kernel_rfl) (by kernel_rfl) (by kernel_rfl) (fun _ _ _ h => h) (Or.inl ⟨by rfl, ?_⟩) hHeld ?_
  rotate_left
  · intro w9 hSw
    (obtain ⟨⟨sa, sb⟩, _⟩ := hSw; have s0 := blk_cell sa 0 _ rfl; have s1 := blk_cell sa 1 _ rfl; have s2 := blk_cell sb 0 _ rfl; have s3 := blk_cell sb 1 _ rfl; clear sa sb)
    go_simp
    all_goals (try with_reducible rfl)
  (try simp only [Act.put, gA, gB, gC, gD, gE, gF])
  refine wpAnyH_take (i := 2) (v := ?_) rfl (by kernel_rfl) (by kernel_rfl) (by kernel_rfl) (fun _ _ _ h => h) (Or.inl ⟨by rfl, ?_⟩) hHeld ?_
  rotate_left
  · intro w9 hSw
    (obtain ⟨⟨sa, sb⟩, _⟩ := hSw; have s0 := blk_cell sa 0 _ rfl; have s1 := blk_cell sa 1 _ rfl; have s2 := blk_cell sb 0 _ rfl; have s3 := blk_cell sb 1 _ rfl; clear sa sb)
    go_simp
    all_goals (try with_reducible rfl)
  (try simp only [Act.put, gA, gB, gC, gD, gE, gF])
  refine wpAnyH_take (i := 3) (v := ?_) rfl (by kernel_rfl) (by kernel_rfl) (by kernel_rfl) (fun _ _ _ h => h) (Or.inl ⟨by rfl, ?_⟩) hHeld ?_
  rotate_left
  · intro w9 hSw
    (obtain ⟨⟨sa, sb⟩, _⟩ := hSw; have s0 := blk_cell sa 0 _ rfl; have s1 := blk_cell sa 1 _ rfl; have s2 := blk_cell sb 0 _ rfl; have s3 := blk_cell sb 1 _ rfl; clear sa sb)
    go_simp
    all_goals (try with_reducible rfl)
  (try simp only [Act.put, gA, gB, gC, gD, gE, gF])
  refine wpAnyH_take (i := 4) (v := ?_) rfl (by kernel_rfl) (by kernel_rfl) (by kernel_rfl) (fun _ _ _ h => h) (Or.inl ⟨by rfl, ?_⟩) hHeld ?_
  rotate_left
  · intro w9 hSw
    (obtain ⟨⟨sa, sb⟩, _⟩ := hSw; have s0 := blk_cell sa 0 _ rfl; have s1 := blk_cell sa 1 _ rfl; have s2 := blk_cell sb 0 _ rfl; have s3 := blk_cell sb 1 _ rfl; clear sa sb)
    go_simp
    all_goals (try with_reducible rfl)
  (try simp only [Act.put, gA, gB, gC, gD, gE, gF])
  refine wpAnyH_take (i := 6) (v := ?_) rfl (by kernel_rfl) (by kernel_rfl) (by kernel_rfl) (fun _ _ _ h => h) (Or.inl ⟨by rfl, ?_⟩) hHeld ?_
  rotate_left
  · intro w9 hSw
    (obtain ⟨⟨sa, sb⟩, _⟩ := hSw; have s0 := blk_cell sa 0 _ rfl; have s1 := blk_cell sa 1 _ rfl; have s2 := blk_cell sb 0 _ rfl; have s3 := blk_cell sb 1 _ rfl; clear sa sb)
    go_simp
    all_goals (try with_reducible rfl)
  (try simp only [Act.put, gA, gB, gC, gD, gE, gF])
  refine wpAnyH_take (i := 7) (v := ?_) rfl (by kernel_rfl) (by kernel_rfl) (by kernel_rfl) (fun _ _ _ h => h) (Or.inl ⟨by rfl, ?_⟩) hHeld ?_
  rotate_left
  · intro w9 hSw
    (obtain ⟨⟨sa, sb⟩, _⟩ := hSw; have s0 := blk_cell sa 0 _ rfl; have s1 := blk_cell sa 1 _ rfl; have s2 := blk_cell sb 0 _ rfl; have s3 := blk_cell sb 1 _ rfl; clear sa sb)
    go_simp
    all_goals (try with_reducible rfl)
  (try simp only [Act.put, gA, gB, gC, gD, gE, gF])
  refine wpAnyH_take (i := 8) (v := ?_) rfl (by kernel_rfl) (by kernel_rfl) (by kernel_rfl) (fun _ _ _ h => h) (Or.inl ⟨by rfl, ?_⟩) hHeld ?_
  rotate_left
  · intro w9 hSw
    (obtain ⟨⟨sa, sb⟩, _⟩ := hSw; have s0 := blk_cell sa 0 _ rfl; have s1 := blk_cell sa 1 _ rfl; have s2 := blk_cell sb 0 _ rfl; have s3 := blk_cell sb 1 _ rfl; clear sa sb)
    go_simp
    all_goals (try with_reducible rfl)
  (try simp only [Act.put, gA, gB, gC, gD, gE, gF])
  refine wpAnyH_take (i := 9) (v := ?_) rfl (by kernel_rfl) (by kernel_rfl) (by kernel_rfl) (fun _ _ _ h => h) (Or.inl ⟨by rfl, ?_⟩) hHeld ?_
  rotate_left
  · intro w9 hSw
    (obtain ⟨⟨sa, sb⟩, _⟩ := hSw; have s0 := blk_cell sa 0 _ rfl; have s1 := blk_cell sa 1 _ rfl; have s2 := blk_cell sb 0 _ rfl; have s3 := blk_cell sb 1 _ rfl; clear sa sb)
    go_simp
    all_goals (try with_reducible rfl)
  (try simp only [Act.put, gA, gB, gC, gD, gE, gF])
  refine wpAnyH_take (i := 10) (v := ?_) rfl (by kernel_rfl) (by kernel_rfl) (by kernel_rfl) (fun _ _ _ h => h) (Or.inl ⟨by rfl, ?_⟩) hHeld ?_
  rotate_left
  · intro w9 hSw
    (obtain ⟨⟨sa, sb⟩, _⟩ := hSw; have s0 := blk_cell sa 0 _ rfl; have s1 := blk_cell sa 1 _ rfl; have s2 := blk_cell sb 0 _ rfl; have s3 := blk_cell sb 1 _ rfl; clear sa sb)
    go_simp
    all_goals (try with_reducible rfl)
  (try simp only [Act.put, gA, gB, gC, gD, gE, gF])
  refine wpAnyH_ready (rs := [5]) (by kernel_rfl) (by simp) ?_
  refine AllReadyH.cons rfl (fun K' hK' => ?_) AllReadyH.nil
  go_simp
  refine (HF.out _).mono ?_
  rintro e' w1 ⟨rfl, rfl⟩
  (try simp only [])
  refine hK'.out _ _ hHeld (fun _ => ?_)
  clear hK' K'
  (try simp only [Act.put, gA, gB, gC, gD, gE, gF])
  refine wpAnyH_ready (rs := [11]) (by kernel_rfl) (by simp) ?_
  refine AllReadyH.cons rfl (fun K' hK' => ?_) AllReadyH.nil
  go_simp
  refine (HC.out _).mono ?_
  rintro e' w1 ⟨rfl, rfl⟩
  (try simp only [])
  refine hK'.out _ _ hHeld (fun _ => ?_)
  clear hK' K'
  (try simp only [Act.put, gA, gB, gC, gD, gE, gF])
  refine wpAnyH_take (i := 12) (v := ?_) rfl (by kernel_rfl) (by kernel_rfl) (by kernel_rfl) (fun _ _ _ h => h) (Or.inl ⟨by rfl, ?_⟩) hHeld ?_
  rotate_left
  · intro w9 hSw
    clear hSw
    go_simp
    all_goals (try with_reducible rfl)
  (try simp only [Act.put, gA, gB, gC, gD, gE, gF])
  have hbT := Hb2.out
  have f0 := blk_cell hbT 0 _ rfl
  have f1 := blk_cell hbT 1 _ rfl
  have k0 := blk_frozen hbT 0
  have k1 := blk_frozen hbT 1
  refine wpAnyH_ready (rs := [13]) (by kernel_rfl) (by simp) ?_
  refine AllReadyH.cons rfl (fun K' hK' => ?_) AllReadyH.nil
  go_simp
  refine hK'.out _ _ ⟨⟨blk_set_other (blk_set_other hHeld.1.1 _ hT1 _) _ hT1 _, blk_set_other (blk_set_other hHeld.1.2 _ hT2 _) _ hT2 _⟩, gr_setCell (p := ⟨T, 1, none⟩) (gr_setCell (p := ⟨T, 0, none⟩) hHeld.2 (.inr hT3) _) (.inr hT3) _⟩ (fun hHeldF => ?_)
  clear hK' K'
  (try simp only [Act.put, gA, gB, gC, gD, gE, gF])
  refine wpAnyH_done (by kernel_rfl) ?_ _
  clear hHeld hHeldF hbT
  go_wp2_with fail
  exact bodyPost_ret (v := .agg #[.int .i64 C0, .int .i64 C1]) (by simp [results, Tryz.results164, go_sem, *]) rfl ⟨rfl, gr_drew (gr_setCell (p := ⟨T, 1, none⟩) (gr_setCell (p := ⟨T, 0, none⟩) Hg0.out (.inr hT3) _) (.inr hT3) _)⟩


theorem exact_any (w : World) :
    Calls Tryz.prog 165 #[.int .i64 1] w fun e w' => e = .returned (.agg #[.int .i64 1000000, .int .i64 1000000]) ∧ w.grownBy w' none := by
  go_enter Tryz.func165, Tryz.ntmps165
  go_wp2_with fail
  exact bodyPost_ret (v := .agg #[.int .i64 1000000, .int .i64 1000000]) (by simp [results, Tryz.results165, go_sem]) rfl ⟨rfl, by repeat (first | exact gr_refl _ _ | apply gr_alloc | refine gr_setCell ?_ (.inr (by simp <;> omega)) _)⟩

theorem specgrowth_any (y : Int) (w : World) (h0 : 0 ≤ y) (h1 : y ≤ 100000) :
    Calls Tryz.prog 163 #[.int .i64 y] w fun e w' => e = .returned (.agg #[.int .i64 (1000000 + y), .int .i64 (1000000 + y)]) ∧ w.grownBy w' none := by
  go_enter Tryz.func163, Tryz.ntmps163
  go_wp2_with fail
  exact bodyPost_ret (v := .agg #[.int .i64 (1000000 + y), .int .i64 (1000000 + y)]) (by simp [results, Tryz.results163, go_sem]) rfl ⟨rfl, by repeat (first | exact gr_refl _ _ | apply gr_alloc | refine gr_setCell ?_ (.inr (by simp <;> omega)) _)⟩

set_option maxRecDepth 100000 in
set_option maxHeartbeats 1000000 in
theorem mulRange_any (gl gh u : Int) (w : World) (h0 : 1000000 ≤ gl) (h1 : gl ≤ gh) (h2 : gh ≤ 100000000) (h3 : 1000000 ≤ u) (h4 : u ≤ 1100000) :
    Calls Tryz.prog 162 #[.agg #[.int .i64 gl, .int .i64 gh], .agg #[.int .i64 u, .int .i64 u]] w fun e w' => e = .returned (.agg #[.int .i64 (flr (gl * u) 1000000), .int .i64 (cei (gh * u) 1000000)]) ∧ w.grownBy w' none := by
  have p0 : 0 ≤ gl * u := Int.mul_nonneg (by omega) (by omega)
  have p1 : gl * u ≤ gh * u := Int.mul_le_mul_of_nonneg_right h1 (by omega)
  have p2 : gh * u ≤ 100000000 * 1100000 := mul_le h2 h4 (by omega) (by omega)
  have HF := hid (fun wx => floorDiv_any (gl * u) 1000000 wx (by omega) (by omega) (by omega) (by omega))
  have HC := hid (fun wx => ceilDiv_any (gh * u) 1000000 wx (by omega) (by omega) (by omega) (by omega))
  rw [flr_def] at HF
  obtain ⟨P, hP⟩ : ∃ P, gl * u = P := ⟨_, rfl⟩
  obtain ⟨R, hR⟩ : ∃ R, gh * u = R := ⟨_, rfl⟩
  rw [hP] at p0 p1 HF ⊢
  rw [hR] at p1 p2 HC ⊢
  have u1 : IntKind.i64.wrap (gl * u) = P := by rw [hP]; exact IntWalk.i64_in _ (by omega)
  have u2 : IntKind.i64.wrap (gh * u) = R := by rw [hR]; exact IntWalk.i64_in _ (by omega)
  have HP := hid hP; have HR := hid hR
  clear hP hR
  by_cases hlt : P < R
  · have hnl : ¬ R < P := by omega
    go_enter Tryz.func162, Tryz.ntmps162
    go_wp2_with fail
    obtain ⟨W, hW⟩ : ∃ W : World, W = ((((w.alloc (.cells #[.int .i64 gl, .int .i64 gh] 87)).alloc (.cells #[.int .i64 u, .int .i64 u] 87)).alloc (.cells #[.int .i64 0, .int .i64 0] 87)).alloc (.cells #[.int .i64 P, .int .i64 P, .int .i64 R, .int .i64 R] 3)) := ⟨_, rfl⟩
    rw [← hW]
    have hgW : w.grownBy W none := by rw [hW]; exact gr_alloc (gr_alloc (gr_alloc (gr_alloc (gr0 _) _) _) _) _
    have hl : W.heap[w.heap.size + 1 + 1 + 1]? = some (.cells #[.int .i64 P, .int .i64 P, .int .i64 R, .int .i64 R] 3 (0, 0)) := by
      have := heap_alloc_new (((w.alloc (.cells #[.int .i64 gl, .int .i64 gh] 87)).alloc (.cells #[.int .i64 u, .int .i64 u] 87)).alloc (.cells #[.int .i64 0, .int .i64 0] 87)) (.cells #[.int .i64 P, .int .i64 P, .int .i64 R, .int .i64 R] 3)
      rw [World.size_alloc, World.size_alloc, World.size_alloc] at this
      rw [hW]; exact this
    have hz : W.heap[w.heap.size + 1 + 1]? = some (.cells #[.int .i64 0, .int .i64 0] 87 (0, 0)) := by
      have := blk_alloc (heap_alloc_new ((w.alloc (.cells #[.int .i64 gl, .int .i64 gh] 87)).alloc (.cells #[.int .i64 u, .int .i64 u] 87)) (.cells #[.int .i64 0, .int .i64 0] 87)) (.cells #[.int .i64 P, .int .i64 P, .int .i64 R, .int .i64 R] 3)
      rw [World.size_alloc, World.size_alloc] at this
      rw [hW]; exact this
    have m1 := blk_cell hl 1 _ rfl
    have m2 := blk_cell hl 2 _ rfl
    have m3 := blk_cell hl 3 _ rfl
    have z0 := blk_cell hz 0 _ rfl
    have z1 := blk_cell hz 1 _ rfl
    have k0 := blk_frozen hz 0
    have k1 := blk_frozen hz 1
    have HgW := hid hgW
    clear hW hgW hl hz u1 u2
    go_loopw [6, 7, 8] (fun m q i wr => ((i = .int .i64 1 ∧ q = .int .i64 P) ∨ (i = .int .i64 2 ∧ q = .int .i64 P) ∨ (i = .int .i64 3 ∧ q = .int .i64 R) ∨ (i = .int .i64 4 ∧ q = .int .i64 R)) ∧ m = .int .i64 P ∧ wr = W) (fun _ _ i _ => 4 - (intOf i).toNat)
    case atStart => exact ⟨.inl ⟨rfl, rfl⟩, rfl, by trivial⟩
    case round =>
      obtain ⟨hc, rfl, rfl⟩ := hrel
      rcases hc with ⟨rfl, rfl⟩ | ⟨rfl, rfl⟩ | ⟨rfl, rfl⟩ | ⟨rfl, rfl⟩
      · go_wp2_with fail
        go_roundw
        case rel => exact ⟨by first | exact .inr (.inl ⟨rfl, rfl⟩) | exact .inr (.inr (.inl ⟨rfl, rfl⟩)) | exact .inr (.inr (.inr ⟨rfl, rfl⟩)), rfl, by trivial⟩
        case measure => simp [intOf]
      · go_wp2_with fail
        go_roundw
        case rel => exact ⟨by first | exact .inr (.inl ⟨rfl, rfl⟩) | exact .inr (.inr (.inl ⟨rfl, rfl⟩)) | exact .inr (.inr (.inr ⟨rfl, rfl⟩)), rfl, by trivial⟩
        case measure => simp [intOf]
      · go_wp2_with fail
        go_roundw
        case rel => exact ⟨by first | exact .inr (.inl ⟨rfl, rfl⟩) | exact .inr (.inr (.inl ⟨rfl, rfl⟩)) | exact .inr (.inr (.inr ⟨rfl, rfl⟩)), rfl, by trivial⟩
        case measure => simp [intOf]
      · go_wp2_with fail
        refine (HF.out _).mono ?_
        rintro e w1 ⟨rfl, rfl⟩
        go_wp2_with fail
        refine (HC.out _).mono ?_
        rintro e w1 ⟨rfl, rfl⟩
        go_wp2_with fail
        exact bodyPost_ret (v := .agg #[.int .i64 (flr P 1000000), .int .i64 (cei R 1000000)]) (by simp [results, Tryz.results162, go_sem, *]) rfl ⟨rfl, gr_setCell (p := ⟨w.heap.size + 1 + 1, 1, none⟩) (gr_setCell (p := ⟨w.heap.size + 1 + 1, 0, none⟩) HgW.out (.inr (by simp <;> omega)) _) (.inr (by simp <;> omega)) _⟩
  · obtain rfl : P = R := by omega
    clear hlt
    go_enter Tryz.func162, Tryz.ntmps162
    go_wp2_with fail
    obtain ⟨W, hW⟩ : ∃ W : World, W = ((((w.alloc (.cells #[.int .i64 gl, .int .i64 gh] 87)).alloc (.cells #[.int .i64 u, .int .i64 u] 87)).alloc (.cells #[.int .i64 0, .int .i64 0] 87)).alloc (.cells #[.int .i64 P, .int .i64 P, .int .i64 P, .int .i64 P] 3)) := ⟨_, rfl⟩
    rw [← hW]
    have hgW : w.grownBy W none := by rw [hW]; exact gr_alloc (gr_alloc (gr_alloc (gr_alloc (gr0 _) _) _) _) _
    have hl : W.heap[w.heap.size + 1 + 1 + 1]? = some (.cells #[.int .i64 P, .int .i64 P, .int .i64 P, .int .i64 P] 3 (0, 0)) := by
      have := heap_alloc_new (((w.alloc (.cells #[.int .i64 gl, .int .i64 gh] 87)).alloc (.cells #[.int .i64 u, .int .i64 u] 87)).alloc (.cells #[.int .i64 0, .int .i64 0] 87)) (.cells #[.int .i64 P, .int .i64 P, .int .i64 P, .int .i64 P] 3)
      rw [World.size_alloc, World.size_alloc, World.size_alloc] at this
      rw [hW]; exact this
    have hz : W.heap[w.heap.size + 1 + 1]? = some (.cells #[.int .i64 0, .int .i64 0] 87 (0, 0)) := by
      have := blk_alloc (heap_alloc_new ((w.alloc (.cells #[.int .i64 gl, .int .i64 gh] 87)).alloc (.cells #[.int .i64 u, .int .i64 u] 87)) (.cells #[.int .i64 0, .int .i64 0] 87)) (.cells #[.int .i64 P, .int .i64 P, .int .i64 P, .int .i64 P] 3)
      rw [World.size_alloc, World.size_alloc] at this
      rw [hW]; exact this
    have m1 := blk_cell hl 1 _ rfl
    have m2 := blk_cell hl 2 _ rfl
    have m3 := blk_cell hl 3 _ rfl
    have z0 := blk_cell hz 0 _ rfl
    have z1 := blk_cell hz 1 _ rfl
    have k0 := blk_frozen hz 0
    have k1 := blk_frozen hz 1
    have HgW := hid hgW
    clear hW hgW hl hz u1 u2
    go_loopw [6, 7, 8] (fun m q i wr => ((i = .int .i64 1 ∧ q = .int .i64 P) ∨ (i = .int .i64 2 ∧ q = .int .i64 P) ∨ (i = .int .i64 3 ∧ q = .int .i64 P) ∨ (i = .int .i64 4 ∧ q = .int .i64 P)) ∧ m = .int .i64 P ∧ wr = W) (fun _ _ i _ => 4 - (intOf i).toNat)
    case atStart => exact ⟨.inl ⟨rfl, rfl⟩, rfl, by trivial⟩
    case round =>
      obtain ⟨hc, rfl, rfl⟩ := hrel
      rcases hc with ⟨rfl, rfl⟩ | ⟨rfl, rfl⟩ | ⟨rfl, rfl⟩ | ⟨rfl, rfl⟩
      · go_wp2_with fail
        go_roundw
        case rel => exact ⟨by first | exact .inr (.inl ⟨rfl, rfl⟩) | exact .inr (.inr (.inl ⟨rfl, rfl⟩)) | exact .inr (.inr (.inr ⟨rfl, rfl⟩)), rfl, by trivial⟩
        case measure => simp [intOf]
      · go_wp2_with fail
        go_roundw
        case rel => exact ⟨by first | exact .inr (.inl ⟨rfl, rfl⟩) | exact .inr (.inr (.inl ⟨rfl, rfl⟩)) | exact .inr (.inr (.inr ⟨rfl, rfl⟩)), rfl, by trivial⟩
        case measure => simp [intOf]
      · go_wp2_with fail
        go_roundw
        case rel => exact ⟨by first | exact .inr (.inl ⟨rfl, rfl⟩) | exact .inr (.inr (.inl ⟨rfl, rfl⟩)) | exact .inr (.inr (.inr ⟨rfl, rfl⟩)), rfl, by trivial⟩
        case measure => simp [intOf]
      · go_wp2_with fail
        refine (HF.out _).mono ?_
        rintro e w1 ⟨rfl, rfl⟩
        go_wp2_with fail
        refine (HC.out _).mono ?_
        rintro e w1 ⟨rfl, rfl⟩
        go_wp2_with fail
        exact bodyPost_ret (v := .agg #[.int .i64 (flr P 1000000), .int .i64 (cei P 1000000)]) (by simp [results, Tryz.results162, go_sem, *]) rfl ⟨rfl, gr_setCell (p := ⟨w.heap.size + 1 + 1, 1, none⟩) (gr_setCell (p := ⟨w.heap.size + 1 + 1, 0, none⟩) HgW.out (.inr (by simp <;> omega)) _) (.inr (by simp <;> omega)) _⟩

end Go.Proofs.YtielicmjdhmcjaaGreatDoor

/- The reference's discount. -/
namespace Go.Proofs.YtielicmjdhmcjaaGreatDoor
open Go.RowKit

set_option maxRecDepth 100000 in
set_option maxHeartbeats 4000000 in
theorem discount_any (y ps l d : Int) (q : Nat) (w : World) (h : OkY y l d) (hps : ps = d - l) (hq : q ≤ 40) :
    Calls Tryz.prog 147 #[.int .i64 y, .int .i64 ps, .int .i64 d, .int .i64 q] w fun e' w' => e' = .returned (.agg #[.int .i64 (discL y l d q), .int .i64 (discH y l d q)]) ∧ w.grownBy w' none := by
  have y0 := h.y0; have y1 := h.y1; have l0 := h.l0; have ld := h.ld; have d1 := h.d1
  obtain ⟨a0, a1, f0, f1, c0, c1⟩ := growth_bd y0 y1 l0 ld d1
  have HF := hid (fun wx => floorDiv_any (y * l) d wx (by omega) (by omega) (by omega) (by omega))
  have HC := hid (fun wx => ceilDiv_any (y * l) d wx (by omega) (by omega) (by omega) (by omega))
  rw [flr_def] at HF
  have HL := hid (show growL y l d 0 = 1000000 + flr (y * l) d from rfl)
  have HH := hid (show growH y l d 0 = 1000000 + cei (y * l) d from rfl)
  have Hlo := hid (fun k => grow_lo h k)
  have Hhi := hid (fun k hk => grow_max h k hk)
  have Hdl := hid (show ∀ k, discL y l d k = flr 1000000000000 (growH y l d k) from fun _ => rfl)
  have Hdh := hid (show ∀ k, discH y l d k = cei 1000000000000 (growL y l d k) from fun _ => rfl)
  have Hgl := hid (show ∀ k, growL y l d (k + 1) = flr (growL y l d k * (1000000 + y)) 1000000 from fun _ => rfl)
  have Hgh := hid (show ∀ k, growH y l d (k + 1) = cei (growH y l d k * (1000000 + y)) 1000000 from fun _ => rfl)
  have u1 : IntKind.i64.wrap (d - ps) = l := by rw [hps, show d - (d - l) = l by omega]; exact IntWalk.i64_in _ (by omega)
  have hps0 : 0 ≤ ps := by omega
  have hps1 : ps ≤ 36524 := by omega
  have hsub : d - ps = l := by omega
  have Hz0 := hid (heap_alloc_new w (.cells #[.int .i64 0, .int .i64 0] 87))
  clear hps h
  generalize flr (y * l) d = f at *
  generalize cei (y * l) d = c at *
  go_enter Tryz.func147, Tryz.ntmps147
  go_wp2_with fail
  refine (HF.out _).mono ?_
  rintro e w1 ⟨rfl, rfl⟩
  go_wp2_with fail
  refine (HC.out _).mono ?_
  rintro e w1 ⟨rfl, rfl⟩
  go_wp2_with fail
  rw [← HL.out, ← HH.out]
  obtain ⟨W, hW⟩ : ∃ W : World, W = (((w.alloc (.cells #[.int .i64 0, .int .i64 0] 87)).alloc (.cells #[.int .i64 (growL y l d 0), .int .i64 (growH y l d 0)] 87)).alloc (.cells #[.int .i64 (growL y l d 0), .int .i64 (growH y l d 0)] 87)) := ⟨_, rfl⟩
  rw [← hW]
  have hgW : w.grownBy W none := by rw [hW]; exact gr_alloc (gr_alloc (gr_alloc (gr0 _) _) _) _
  have hbG0 : W.heap[w.heap.size + 1 + 1]? = some (.cells #[.int .i64 (growL y l d 0), .int .i64 (growH y l d 0)] 87 (0, 0)) := by
    have := heap_alloc_new ((w.alloc (.cells #[.int .i64 0, .int .i64 0] 87)).alloc (.cells #[.int .i64 (growL y l d 0), .int .i64 (growH y l d 0)] 87)) (.cells #[.int .i64 (growL y l d 0), .int .i64 (growH y l d 0)] 87)
    rw [World.size_alloc, World.size_alloc] at this
    rw [hW]; exact this
  have hz : W.heap[w.heap.size]? = some (.cells #[.int .i64 0, .int .i64 0] 87 (0, 0)) := by rw [hW]; exact blk_alloc (blk_alloc Hz0.out _) _
  obtain ⟨G, hG⟩ : ∃ G, G = w.heap.size + 1 + 1 := ⟨_, rfl⟩
  rw [← hG] at hbG0 ⊢
  have hGw : w.heap.size < G := by omega
  have HgW := hid hgW; have HbG0 := hid hbG0; have Hz := hid hz
  clear hW hgW hbG0 hz hG Hz0 HF HC
  go_loopw [11] (fun i wr => ∃ k : Nat, k ≤ q ∧ i = .int .i64 k ∧ Hid (wr.heap[G]? = some (.cells #[.int .i64 (growL y l d k), .int .i64 (growH y l d k)] 87 (0, 0))) ∧ W.grownBy wr (some G)) (fun i _ => q - (intOf i).toNat)
  case atStart => exact ⟨0, by omega, rfl, HbG0, gr_refl _ _⟩
  case round =>
    clear HbG0
    obtain ⟨k, hk, rfl, HbG, hgr⟩ := hrel
    have Hgr := hid hgr
    clear hgr
    have g0 := (Hlo.out k).1
    have g1 := (Hlo.out k).2
    have g2 := Hhi.out k (by omega)
    by_cases hlt : k < q
    · have HMu := hid (fun wx => mulRange_any (growL y l d k) (growH y l d k) (1000000 + y) wx g0 g1 g2 (by omega) (by omega))
      rw [← Hgl.out k, ← Hgh.out k] at HMu
      obtain ⟨gl2, hgl2⟩ : ∃ v, v = growL y l d (k + 1) := ⟨_, rfl⟩
      obtain ⟨gh2, hgh2⟩ : ∃ v, v = growH y l d (k + 1) := ⟨_, rfl⟩
      rw [← hgl2, ← hgh2] at HMu
      have Hgl2 := hid hgl2; have Hgh2 := hid hgh2
      have hkq : (k : Int) < q := by omega
      clear hgl2 hgh2
      generalize growL y l d k = gl at *
      generalize growH y l d k = gh at *
      have hbG := HbG.out
      go_wp2_with fail
      have c0 := blk_cell hbG 0 _ rfl
      have c1 := blk_cell hbG 1 _ rfl
      refine wp_region_held_drew (S := fun _ => True) (by kernel_rfl) trivial (fun hHeld => ?_)
      refine wpAnyH_take (i := 1) (v := ?_) rfl (by kernel_rfl) (by kernel_rfl) (by kernel_rfl) (fun _ _ _ h => h) (Or.inl ⟨by rfl, ?_⟩) hHeld ?_
      rotate_left
      · intro w9 hSw
        clear hSw
        go_simp
        all_goals (try with_reducible rfl)
      (try simp only [Act.put, gA, gB, gC, gD, gE, gF])
      refine wpAnyH_ready (rs := [0, 2]) (by kernel_rfl) (by simp) ?_
      refine AllReadyH.cons rfl (fun K' hK' => ?_) (AllReadyH.cons rfl (fun K' hK' => ?_) AllReadyH.nil)
      · go_simp
        refine hK'.out _ _ trivial (fun _ => ?_)
        clear hK' K' c0 c1
        (try simp only [Act.put, gA, gB, gC, gD, gE, gF])
        refine wpAnyH_ready (rs := [2]) (by kernel_rfl) (by simp) ?_
        refine AllReadyH.cons rfl (fun K' hK' => ?_) AllReadyH.nil
        go_simp
        refine (specgrowth_any y _ y0 y1).mono ?_
        rintro e' wq ⟨rfl, hg⟩
        (try simp only [])
        refine hK'.out _ _ trivial (fun _ => ?_)
        have HgA := hid (gr_trans0 (gr_drew Hgr.out) hg)
        have hbA := blk_keep hbG (gr_trans0 (gr_drew (gr0 _)) hg) (by simp)
        (try clear c0 c1)
        clear hK' K' hg
        (try simp only [Act.put, gA, gB, gC, gD, gE, gF])
        refine wpAnyH_ready (rs := [3]) (by kernel_rfl) (by simp) ?_
        refine AllReadyH.cons rfl (fun K' hK' => ?_) AllReadyH.nil
        go_simp
        refine (HMu.out _).mono ?_
        rintro e' wt ⟨rfl, hg⟩
        (try simp only [])
        refine hK'.out _ _ trivial (fun _ => ?_)
        have HgB := hid (gr_trans0 HgA.out hg)
        have hbB := blk_keep hbA hg (by simp)
        (try clear c0 c1)
        clear hK' K' hg hbA
        (try simp only [Act.put, gA, gB, gC, gD, gE, gF])
        have e0 := blk_cell hbB 0 _ rfl
        have e1 := blk_cell hbB 1 _ rfl
        have k0 := blk_frozen hbB 0
        have k1 := blk_frozen hbB 1
        refine wpAnyH_ready (rs := [4]) (by kernel_rfl) (by simp) ?_
        refine AllReadyH.cons rfl (fun K' hK' => ?_) AllReadyH.nil
        go_simp
        refine hK'.out _ _ trivial (fun _ => ?_)
        clear hK' K' e0 e1 k0 k1
        (try simp only [Act.put, gA, gB, gC, gD, gE, gF])
        refine wpAnyH_done (by kernel_rfl) ?_ _
        have HbF := hid ((blk_set (blk_set hbB 0 (.int .i64 gl2)) 1 (.int .i64 gh2)).trans (show _ = some (Obj.cells #[Value.int .i64 gl2, .int .i64 gh2] 87 (0, 0)) from rfl))
        have HgF := hid (gr_setCell (p := ⟨G, 1, none⟩) (gr_setCell (p := ⟨G, 0, none⟩) HgB.out (.inl rfl) (.int .i64 gl2)) (.inl rfl) (.int .i64 gh2))
        clear hbB
        go_wp2_with fail
        go_roundw
        case rel => exact ⟨k + 1, by omega, by go_num, by rw [← Hgl2.out, ← Hgh2.out]; exact HbF, HgF.out⟩
        case measure => simp [intOf]; omega
      · go_simp
        refine (specgrowth_any y _ y0 y1).mono ?_
        rintro e' wq ⟨rfl, hg⟩
        (try simp only [])
        refine hK'.out _ _ trivial (fun _ => ?_)
        have HgA := hid (gr_trans0 (gr_drew Hgr.out) hg)
        have hbA := blk_keep hbG (gr_trans0 (gr_drew (gr0 _)) hg) (by simp)
        (try clear c0 c1)
        clear hK' K' hg
        (try simp only [Act.put, gA, gB, gC, gD, gE, gF])
        have c0 := blk_cell hbA 0 _ rfl
        have c1 := blk_cell hbA 1 _ rfl
        refine wpAnyH_ready (rs := [0]) (by kernel_rfl) (by simp) ?_
        refine AllReadyH.cons rfl (fun K' hK' => ?_) AllReadyH.nil
        go_simp
        refine hK'.out _ _ trivial (fun _ => ?_)
        clear hK' K' c0 c1
        (try simp only [Act.put, gA, gB, gC, gD, gE, gF])
        refine wpAnyH_ready (rs := [3]) (by kernel_rfl) (by simp) ?_
        refine AllReadyH.cons rfl (fun K' hK' => ?_) AllReadyH.nil
        go_simp
        refine (HMu.out _).mono ?_
        rintro e' wt ⟨rfl, hg⟩
        (try simp only [])
        refine hK'.out _ _ trivial (fun _ => ?_)
        have HgB := hid (gr_trans0 HgA.out hg)
        have hbB := blk_keep hbA hg (by simp)
        (try clear c0 c1)
        clear hK' K' hg hbA
        (try simp only [Act.put, gA, gB, gC, gD, gE, gF])
        have e0 := blk_cell hbB 0 _ rfl
        have e1 := blk_cell hbB 1 _ rfl
        have k0 := blk_frozen hbB 0
        have k1 := blk_frozen hbB 1
        refine wpAnyH_ready (rs := [4]) (by kernel_rfl) (by simp) ?_
        refine AllReadyH.cons rfl (fun K' hK' => ?_) AllReadyH.nil
        go_simp
        refine hK'.out _ _ trivial (fun _ => ?_)
        clear hK' K' e0 e1 k0 k1
        (try simp only [Act.put, gA, gB, gC, gD, gE, gF])
        refine wpAnyH_done (by kernel_rfl) ?_ _
        have HbF := hid ((blk_set (blk_set hbB 0 (.int .i64 gl2)) 1 (.int .i64 gh2)).trans (show _ = some (Obj.cells #[Value.int .i64 gl2, .int .i64 gh2] 87 (0, 0)) from rfl))
        have HgF := hid (gr_setCell (p := ⟨G, 1, none⟩) (gr_setCell (p := ⟨G, 0, none⟩) HgB.out (.inl rfl) (.int .i64 gl2)) (.inl rfl) (.int .i64 gh2))
        clear hbB
        go_wp2_with fail
        go_roundw
        case rel => exact ⟨k + 1, by omega, by go_num, by rw [← Hgl2.out, ← Hgh2.out]; exact HbF, HgF.out⟩
        case measure => simp [intOf]; omega
    · obtain rfl : k = q := by omega
      have HDv := hid (fun wx => divRange_any (growL y l d k) (growH y l d k) wx g0 g1 g2)
      rw [← Hdl.out k, ← Hdh.out k] at HDv
      have hbG := HbG.out
      have hz := blk_keep Hz.out Hgr.out (by intro x e; cases e; omega)
      have hgF := gr_own HgW.out Hgr.out (fun x e => by cases e; omega)
      have n1 : ¬ w.heap.size = G := by omega
      generalize growL y l d k = gl at *
      generalize growH y l d k = gh at *
      go_wp2_with fail
      refine wp_region_held_drew (S := fun w' => w'.heap[G]? = some (.cells #[.int .i64 gl, .int .i64 gh] 87 (0, 0)) ∧ w.grownBy w' none) (by kernel_rfl) ⟨hbG, gr_drew hgF⟩ (fun hHeld => ?_)
      refine wpAnyH_take (i := 1) (v := ?_) rfl (by kernel_rfl) (by kernel_rfl) (by kernel_rfl) (fun _ _ _ h => h) (Or.inl ⟨by rfl, ?_⟩) hHeld ?_
      rotate_left
      · intro w9 hSw
        (obtain ⟨sb, _⟩ := hSw; have s0 := blk_cell sb 0 _ rfl; have s1 := blk_cell sb 1 _ rfl; clear sb)
        go_simp
        all_goals (try with_reducible rfl)
      (try simp only [Act.put, gA, gB, gC, gD, gE, gF])
      refine wpAnyH_ready (rs := [0]) (by kernel_rfl) (by simp) ?_
      refine AllReadyH.cons rfl (fun K' hK' => ?_) AllReadyH.nil
      go_simp
      refine (exact_any _).mono ?_
      rintro e' wq ⟨rfl, hg⟩
      (try simp only [])
      refine hK'.out _ _ ⟨blk_keep hHeld.1 hg (by simp), gr_trans0 hHeld.2 hg⟩ (fun hHeldN => ?_)
      have hHeld := hHeldN
      have hz2 := blk_keep hz (gr_trans0 (gr_drew (gr0 _)) hg) (by simp)
      clear hK' K' hHeldN hg hz
      (try simp only [Act.put, gA, gB, gC, gD, gE, gF])
      refine wpAnyH_ready (rs := [2]) (by kernel_rfl) (by simp) ?_
      refine AllReadyH.cons rfl (fun K' hK' => ?_) AllReadyH.nil
      go_simp
      refine (HDv.out _).mono ?_
      rintro e' wt ⟨rfl, hg⟩
      (try simp only [])
      refine hK'.out _ _ ⟨blk_keep hHeld.1 hg (by simp), gr_trans0 hHeld.2 hg⟩ (fun hHeldN => ?_)
      have hHeld := hHeldN
      have hz3 := blk_keep hz2 hg (by simp)
      clear hK' K' hHeldN hg hz2
      (try simp only [Act.put, gA, gB, gC, gD, gE, gF])
      have e0 := blk_cell hz3 0 _ rfl
      have e1 := blk_cell hz3 1 _ rfl
      have k0 := blk_frozen hz3 0
      have k1 := blk_frozen hz3 1
      refine wpAnyH_ready (rs := [3]) (by kernel_rfl) (by simp) ?_
      refine AllReadyH.cons rfl (fun K' hK' => ?_) AllReadyH.nil
      go_simp
      have HgF := hid (gr_setCell (p := ⟨w.heap.size, 1, none⟩) (gr_setCell (p := ⟨w.heap.size, 0, none⟩) hHeld.2 (.inr (Nat.le_refl _)) (.int .i64 (discL y l d k))) (.inr (Nat.le_refl _)) (.int .i64 (discH y l d k)))
      refine hK'.out _ _ ⟨blk_set_other (blk_set_other hHeld.1 _ n1 _) _ n1 _, HgF.out⟩ (fun hHeldF => ?_)
      clear hK' K' hHeldF
      (try simp only [Act.put, gA, gB, gC, gD, gE, gF])
      refine wpAnyH_done (by kernel_rfl) ?_ _
      clear hHeld hbG hgF
      go_wp2_with fail
      exact bodyPost_ret (v := .agg #[.int .i64 (discL y l d k), .int .i64 (discH y l d k)]) (by simp [results, Tryz.results147, go_sem, *]) rfl ⟨rfl, HgF.out⟩

end Go.Proofs.YtielicmjdhmcjaaGreatDoor
