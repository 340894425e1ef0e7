/- Ranges: the reference's growth, exact, mulRange and divRange. -/
import Derived.Test.YtkgjciacdjhhfaaDoorRows
import Derived.Test.YtkgjciacdjhhfaaDoorBase
import Derived.Test.YtkgjciacdjhhfaaDoorRange2
namespace Go.Proofs.YtkgjciacdjhhfaaDoor
open Go.RowKit

theorem ceilDiv_any (a b : Int) (w : World) (hb : 0 < b) (hb1 : b ≤ 4611686018427387904) (ha0 : -4611686018427387904 ≤ a) (ha1 : a ≤ 4611686018427387904) :
    Calls Tryd.prog 62 #[.int .i64 a, .int .i64 b] w fun e w' => e = .returned (.int .i64 (cei a b)) ∧ w = w' := by
  have H := hid (floorDiv_any (-a) b w hb hb1 (by omega) (by omega))
  have h1 := cei_hi a b hb
  have hd : -4611686018427387904 ≤ (-a) / b ∧ (-a) / b ≤ 4611686018427387904 := by
    constructor
    · rcases Int.le_total 0 (-a) with h | h
      · have := Int.ediv_nonneg h (Int.le_of_lt hb); omega
      · have : -4611686018427387904 ≤ (-a) / b := by
          have h2 := flr_lo (-a) b hb
          unfold flr at h2
          rcases Int.le_total 0 ((-a) / b) with h3 | h3
          · omega
          · have h4 : (-a) / b * b ≤ (-a) / b * 1 := Int.mul_le_mul_of_nonpos_left h3 (by omega)
            have h5 := Int.le_ediv_of_mul_le (a := -4611686018427387904) (b := -a) (c := b) hb
            refine h5 ?_
            have h6 : (-4611686018427387904 : Int) * b ≤ -4611686018427387904 * 1 := Int.mul_le_mul_of_nonpos_left (by omega) (by omega)
            omega
        exact this
    · rcases Int.le_total 0 (-a) with h | h
      · have := Int.ediv_le_self b h; omega
      · have h2 := flr_lo (-a) b hb
        unfold flr at h2
        have : (-a) / b ≤ 0 := by
          rcases Int.le_total ((-a) / b) 0 with h3 | h3
          · exact h3
          · have h4 : 0 ≤ (-a) / b * b := Int.mul_nonneg h3 (by omega)
            have h5 : (-a) / b ≤ (-a) / b * b := by
              have := Int.mul_le_mul_of_nonneg_left (show (1 : Int) ≤ b by omega) h3
              omega
            omega
        omega
  obtain ⟨d0, d1⟩ := hd
  have Hc := hid (cei_def a b)
  clear h1
  generalize (-a) / b = q at *
  go_enter Tryd.func62, Tryd.ntmps62
  go_wp2_with fail
  refine H.out.mono ?_
  rintro e w' ⟨rfl, rfl⟩
  go_wp2_with fail
  go_ret
  exact ⟨ret_int Hc.out, rfl⟩

set_option maxRecDepth 100000 in
set_option maxHeartbeats 1000000 in
theorem divRange_any (gl gh : Int) (w : World) (h0 : 1000000 ≤ gl) (h1 : gl ≤ gh) (h2 : gh ≤ 100000000) :
    Calls Tryd.prog 81 #[.agg #[.int .i64 1000000, .int .i64 1000000], .agg #[.int .i64 gl, .int .i64 gh]] w fun e w' => e = .returned (.agg #[.int .i64 (flr 1000000000000 gh), .int .i64 (cei 1000000000000 gl)]) ∧ w.grownBy w' none := by
  have HF := hid (fun wx => floorDiv_any 1000000000000 gh wx (by omega) (by omega) (by omega) (by omega))
  have HC := hid (fun wx => ceilDiv_any 1000000000000 gl wx (by omega) (by omega) (by omega) (by omega))
  rw [flr_def] at HF
  generalize flr 1000000000000 gh = C0 at *
  generalize cei 1000000000000 gl = C1 at *
  obtain ⟨W, hW⟩ : ∃ W, W = ((w.alloc (.cells #[.int .i64 1000000, .int .i64 1000000] 25)).alloc (.cells #[.int .i64 gl, .int .i64 gh] 25)).alloc (.cells #[.int .i64 0, .int .i64 0] 25) := ⟨_, rfl⟩
  have hg0 : w.grownBy W none := by rw [hW]; exact gr_alloc (gr_alloc (gr_alloc (gr0 _) _) _) _
  have hb0 : W.heap[w.heap.size]? = some (.cells #[.int .i64 1000000, .int .i64 1000000] 25 (0, 0)) := by rw [hW]; exact blk_alloc (blk_alloc (heap_alloc_new _ _) _) _
  have hb1 : W.heap[w.heap.size + 1]? = some (.cells #[.int .i64 gl, .int .i64 gh] 25 (0, 0)) := by
    have := blk_alloc (heap_alloc_new (w.alloc (.cells #[.int .i64 1000000, .int .i64 1000000] 25)) (.cells #[.int .i64 gl, .int .i64 gh] 25)) (.cells #[.int .i64 0, .int .i64 0] 25)
    rw [World.size_alloc] at this
    rw [hW]; exact this
  have hb2 : W.heap[w.heap.size + 2]? = some (.cells #[.int .i64 0, .int .i64 0] 25 (0, 0)) := by
    have := heap_alloc_new ((w.alloc (.cells #[.int .i64 1000000, .int .i64 1000000] 25)).alloc (.cells #[.int .i64 gl, .int .i64 gh] 25)) (.cells #[.int .i64 0, .int .i64 0] 25)
    rw [World.size_alloc, World.size_alloc] at this
    rw [hW]; exact this
  have Hb0 := hid hb0; have Hb1 := hid hb1; have Hb2 := hid hb2; have Hg0 := hid hg0; have HW := hid hW
  clear hb0 hb1 hb2 hg0 hW
  obtain ⟨T, hT⟩ : ∃ T, T = w.heap.size + 1 + 1 := ⟨_, rfl⟩
  have HT := hid hT
  have hT1 : ¬ T = w.heap.size := by omega
  have hT2 : ¬ T = w.heap.size + 1 := by omega
  have hT3 : w.heap.size ≤ T := by omega
  have hb2T : W.heap[T]? = some (.cells #[.int .i64 0, .int .i64 0] 25 (0, 0)) := by rw [hT]; exact Hb2.out
  have Hb2 := hid hb2T
  clear hT hb2T
  go_enter Tryd.func81, Tryd.ntmps81
  go_wp2_with fail
  rw [← HW.out, ← HT.out]
  refine wp_region_held_drew (S := fun w' => (w'.heap[w.heap.size]? = some (.cells #[.int .i64 1000000, .int .i64 1000000] 25 (0, 0)) ∧ w'.heap[w.heap.size + 1]? = some (.cells #[.int .i64 gl, .int .i64 gh] 25 (0, 0))) ∧ w.grownBy w' none) (by kernel_rfl) ⟨⟨Hb0.out, Hb1.out⟩, gr_drew Hg0.out⟩ (fun hHeld => ?_)
  refine wpAnyH_take (i := 0) (v := ?_) rfl (by kernel_rfl) (by kernel_rfl) (by kernel_rfl) (fun _ _ _ h => h) (Or.inl ⟨by rfl, ?_⟩) hHeld ?_
  rotate_left
  · intro w9 hSw
    (obtain ⟨⟨sa, sb⟩, _⟩ := hSw; have s0 := blk_cell sa 0 _ rfl; have s1 := blk_cell sa 1 _ rfl; have s2 := blk_cell sb 0 _ rfl; have s3 := blk_cell sb 1 _ rfl; clear sa sb)
    go_simp
    all_goals (try with_reducible rfl)
  (try simp only [Act.put]); (try simp only [List.getElem_toArray]); (try simp only [List.getElem_cons_succ]); (try simp only [List.getElem_cons_zero]); (try simp only [List.setIfInBounds_toArray]); (try simp only [List.set_cons_succ]); (try simp only [List.set_cons_zero])
  refine wpAnyH_take (i := 1) (v := ?_) rfl (by kernel_rfl) (by kernel_rfl) (by kernel_rfl) (fun _ _ _ h => h) (Or.inl ⟨by rfl, ?_⟩) hHeld ?_
  rotate_left
  · intro w9 hSw
    (obtain ⟨⟨sa, sb⟩, _⟩ := hSw; have s0 := blk_cell sa 0 _ rfl; have s1 := blk_cell sa 1 _ rfl; have s2 := blk_cell sb 0 _ rfl; have s3 := blk_cell sb 1 _ rfl; clear sa sb)
    go_simp
    all_goals (try with_reducible rfl)
  (try simp only [Act.put]); (try simp only [List.getElem_toArray]); (try simp only [List.getElem_cons_succ]); (try simp only [List.getElem_cons_zero]); (try simp only [List.setIfInBounds_toArray]); (try simp only [List.set_cons_succ]); (try simp only [List.set_cons_zero])
  refine wpAnyH_take (i := 2) (v := ?_) rfl (by kernel_rfl) (by kernel_rfl) (by kernel_rfl) (fun _ _ _ h => h) (Or.inl ⟨by rfl, ?_⟩) hHeld ?_
  rotate_left
  · intro w9 hSw
    (obtain ⟨⟨sa, sb⟩, _⟩ := hSw; have s0 := blk_cell sa 0 _ rfl; have s1 := blk_cell sa 1 _ rfl; have s2 := blk_cell sb 0 _ rfl; have s3 := blk_cell sb 1 _ rfl; clear sa sb)
    go_simp
    all_goals (try with_reducible rfl)
  (try simp only [Act.put]); (try simp only [List.getElem_toArray]); (try simp only [List.getElem_cons_succ]); (try simp only [List.getElem_cons_zero]); (try simp only [List.setIfInBounds_toArray]); (try simp only [List.set_cons_succ]); (try simp only [List.set_cons_zero])
  refine wpAnyH_take (i := 3) (v := ?_) rfl (by kernel_rfl) (by kernel_rfl) (by kernel_rfl) (fun _ _ _ h => h) (Or.inl ⟨by rfl, ?_⟩) hHeld ?_
  rotate_left
  · intro w9 hSw
    (obtain ⟨⟨sa, sb⟩, _⟩ := hSw; have s0 := blk_cell sa 0 _ rfl; have s1 := blk_cell sa 1 _ rfl; have s2 := blk_cell sb 0 _ rfl; have s3 := blk_cell sb 1 _ rfl; clear sa sb)
    go_simp
    all_goals (try with_reducible rfl)
  (try simp only [Act.put]); (try simp only [List.getElem_toArray]); (try simp only [List.getElem_cons_succ]); (try simp only [List.getElem_cons_zero]); (try simp only [List.setIfInBounds_toArray]); (try simp only [List.set_cons_succ]); (try simp only [List.set_cons_zero])
  refine wpAnyH_take (i := 4) (v := ?_) rfl (by kernel_rfl) (by kernel_rfl) (by kernel_rfl) (fun _ _ _ h => h) (Or.inl ⟨by rfl, ?_⟩) hHeld ?_
  rotate_left
  · intro w9 hSw
    (obtain ⟨⟨sa, sb⟩, _⟩ := hSw; have s0 := blk_cell sa 0 _ rfl; have s1 := blk_cell sa 1 _ rfl; have s2 := blk_cell sb 0 _ rfl; have s3 := blk_cell sb 1 _ rfl; clear sa sb)
    go_simp
    all_goals (try with_reducible rfl)
  (try simp only [Act.put]); (try simp only [List.getElem_toArray]); (try simp only [List.getElem_cons_succ]); (try simp only [List.getElem_cons_zero]); (try simp only [List.setIfInBounds_toArray]); (try simp only [List.set_cons_succ]); (try simp only [List.set_cons_zero])
  refine wpAnyH_take (i := 6) (v := ?_) rfl (by kernel_rfl) (by kernel_rfl) (by kernel_rfl) (fun _ _ _ h => h) (Or.inl ⟨by rfl, ?_⟩) hHeld ?_
  rotate_left
  · intro w9 hSw
    (obtain ⟨⟨sa, sb⟩, _⟩ := hSw; have s0 := blk_cell sa 0 _ rfl; have s1 := blk_cell sa 1 _ rfl; have s2 := blk_cell sb 0 _ rfl; have s3 := blk_cell sb 1 _ rfl; clear sa sb)
    go_simp
    all_goals (try with_reducible rfl)
  (try simp only [Act.put]); (try simp only [List.getElem_toArray]); (try simp only [List.getElem_cons_succ]); (try simp only [List.getElem_cons_zero]); (try simp only [List.setIfInBounds_toArray]); (try simp only [List.set_cons_succ]); (try simp only [List.set_cons_zero])
  refine wpAnyH_take (i := 7) (v := ?_) rfl (by kernel_rfl) (by kernel_rfl) (by kernel_rfl) (fun _ _ _ h => h) (Or.inl ⟨by rfl, ?_⟩) hHeld ?_
  rotate_left
  · intro w9 hSw
    (obtain ⟨⟨sa, sb⟩, _⟩ := hSw; have s0 := blk_cell sa 0 _ rfl; have s1 := blk_cell sa 1 _ rfl; have s2 := blk_cell sb 0 _ rfl; have s3 := blk_cell sb 1 _ rfl; clear sa sb)
    go_simp
    all_goals (try with_reducible rfl)
  (try simp only [Act.put]); (try simp only [List.getElem_toArray]); (try simp only [List.getElem_cons_succ]); (try simp only [List.getElem_cons_zero]); (try simp only [List.setIfInBounds_toArray]); (try simp only [List.set_cons_succ]); (try simp only [List.set_cons_zero])
  refine wpAnyH_take (i := 8) (v := ?_) rfl (by kernel_rfl) (by kernel_rfl) (by kernel_rfl) (fun _ _ _ h => h) (Or.inl ⟨by rfl, ?_⟩) hHeld ?_
  rotate_left
  · intro w9 hSw
    (obtain ⟨⟨sa, sb⟩, _⟩ := hSw; have s0 := blk_cell sa 0 _ rfl; have s1 := blk_cell sa 1 _ rfl; have s2 := blk_cell sb 0 _ rfl; have s3 := blk_cell sb 1 _ rfl; clear sa sb)
    go_simp
    all_goals (try with_reducible rfl)
  (try simp only [Act.put]); (try simp only [List.getElem_toArray]); (try simp only [List.getElem_cons_succ]); (try simp only [List.getElem_cons_zero]); (try simp only [List.setIfInBounds_toArray]); (try simp only [List.set_cons_succ]); (try simp only [List.set_cons_zero])
  refine wpAnyH_take (i := 9) (v := ?_) rfl (by kernel_rfl) (by kernel_rfl) (by kernel_rfl) (fun _ _ _ h => h) (Or.inl ⟨by rfl, ?_⟩) hHeld ?_
  rotate_left
  · intro w9 hSw
    (obtain ⟨⟨sa, sb⟩, _⟩ := hSw; have s0 := blk_cell sa 0 _ rfl; have s1 := blk_cell sa 1 _ rfl; have s2 := blk_cell sb 0 _ rfl; have s3 := blk_cell sb 1 _ rfl; clear sa sb)
    go_simp
    all_goals (try with_reducible rfl)
  (try simp only [Act.put]); (try simp only [List.getElem_toArray]); (try simp only [List.getElem_cons_succ]); (try simp only [List.getElem_cons_zero]); (try simp only [List.setIfInBounds_toArray]); (try simp only [List.set_cons_succ]); (try simp only [List.set_cons_zero])
  refine wpAnyH_take (i := 10) (v := ?_) rfl (by kernel_rfl) (by kernel_rfl) (by kernel_rfl) (fun _ _ _ h => h) (Or.inl ⟨by rfl, ?_⟩) hHeld ?_
  rotate_left
  · intro w9 hSw
    (obtain ⟨⟨sa, sb⟩, _⟩ := hSw; have s0 := blk_cell sa 0 _ rfl; have s1 := blk_cell sa 1 _ rfl; have s2 := blk_cell sb 0 _ rfl; have s3 := blk_cell sb 1 _ rfl; clear sa sb)
    go_simp
    all_goals (try with_reducible rfl)
  (try simp only [Act.put]); (try simp only [List.getElem_toArray]); (try simp only [List.getElem_cons_succ]); (try simp only [List.getElem_cons_zero]); (try simp only [List.setIfInBounds_toArray]); (try simp only [List.set_cons_succ]); (try simp only [List.set_cons_zero])
  refine wpAnyH_ready (rs := [5]) (by kernel_rfl) (by simp) ?_
  refine AllReadyH.cons rfl (fun K' hK' => ?_) AllReadyH.nil
  go_simp
  refine (HF.out _).mono ?_
  rintro e' w1 ⟨rfl, rfl⟩
  (try simp only [])
  refine hK'.out _ _ hHeld (fun _ => ?_)
  clear hK' K'
  (try simp only [Act.put]); (try simp only [List.getElem_toArray]); (try simp only [List.getElem_cons_succ]); (try simp only [List.getElem_cons_zero]); (try simp only [List.setIfInBounds_toArray]); (try simp only [List.set_cons_succ]); (try simp only [List.set_cons_zero])
  refine wpAnyH_ready (rs := [11]) (by kernel_rfl) (by simp) ?_
  refine AllReadyH.cons rfl (fun K' hK' => ?_) AllReadyH.nil
  go_simp
  refine (HC.out _).mono ?_
  rintro e' w1 ⟨rfl, rfl⟩
  (try simp only [])
  refine hK'.out _ _ hHeld (fun _ => ?_)
  clear hK' K'
  (try simp only [Act.put]); (try simp only [List.getElem_toArray]); (try simp only [List.getElem_cons_succ]); (try simp only [List.getElem_cons_zero]); (try simp only [List.setIfInBounds_toArray]); (try simp only [List.set_cons_succ]); (try simp only [List.set_cons_zero])
  refine wpAnyH_take (i := 12) (v := ?_) rfl (by kernel_rfl) (by kernel_rfl) (by kernel_rfl) (fun _ _ _ h => h) (Or.inl ⟨by rfl, ?_⟩) hHeld ?_
  rotate_left
  · intro w9 hSw
    clear hSw
    go_simp
    all_goals (try with_reducible rfl)
  (try simp only [Act.put]); (try simp only [List.getElem_toArray]); (try simp only [List.getElem_cons_succ]); (try simp only [List.getElem_cons_zero]); (try simp only [List.setIfInBounds_toArray]); (try simp only [List.set_cons_succ]); (try simp only [List.set_cons_zero])
  have hbT := Hb2.out
  have f0 := blk_cell hbT 0 _ rfl
  have f1 := blk_cell hbT 1 _ rfl
  have k0 := blk_frozen hbT 0
  have k1 := blk_frozen hbT 1
  refine wpAnyH_ready (rs := [13]) (by kernel_rfl) (by simp) ?_
  refine AllReadyH.cons rfl (fun K' hK' => ?_) AllReadyH.nil
  go_simp
  refine hK'.out _ _ ⟨⟨blk_set_other (blk_set_other hHeld.1.1 _ hT1 _) _ hT1 _, blk_set_other (blk_set_other hHeld.1.2 _ hT2 _) _ hT2 _⟩, gr_setCell (p := ⟨T, 1, none⟩) (gr_setCell (p := ⟨T, 0, none⟩) hHeld.2 (.inr hT3) _) (.inr hT3) _⟩ (fun hHeldF => ?_)
  clear hK' K'
  (try simp only [Act.put]); (try simp only [List.getElem_toArray]); (try simp only [List.getElem_cons_succ]); (try simp only [List.getElem_cons_zero]); (try simp only [List.setIfInBounds_toArray]); (try simp only [List.set_cons_succ]); (try simp only [List.set_cons_zero])
  refine wpAnyH_done (by kernel_rfl) ?_ _
  clear hHeld hHeldF hbT
  go_wp2_with fail
  exact bodyPost_ret (v := .agg #[.int .i64 C0, .int .i64 C1]) (by simp [results, Tryd.results81, go_sem, *]) rfl ⟨rfl, gr_drew (gr_setCell (p := ⟨T, 1, none⟩) (gr_setCell (p := ⟨T, 0, none⟩) Hg0.out (.inr hT3) _) (.inr hT3) _)⟩


theorem exact_any (w : World) :
    Calls Tryd.prog 82 #[.int .i64 1] w fun e w' => e = .returned (.agg #[.int .i64 1000000, .int .i64 1000000]) ∧ w.grownBy w' none := by
  go_enter Tryd.func82, Tryd.ntmps82
  go_wp2_with fail
  exact bodyPost_ret (v := .agg #[.int .i64 1000000, .int .i64 1000000]) (by simp [results, Tryd.results82, go_sem]) rfl ⟨rfl, by repeat (first | exact gr_refl _ _ | apply gr_alloc | refine gr_setCell ?_ (.inr (by simp <;> omega)) _)⟩

theorem specgrowth_any (y : Int) (w : World) (h0 : 0 ≤ y) (h1 : y ≤ 100000) :
    Calls Tryd.prog 80 #[.int .i64 y] w fun e w' => e = .returned (.agg #[.int .i64 (1000000 + y), .int .i64 (1000000 + y)]) ∧ w.grownBy w' none := by
  go_enter Tryd.func80, Tryd.ntmps80
  go_wp2_with fail
  exact bodyPost_ret (v := .agg #[.int .i64 (1000000 + y), .int .i64 (1000000 + y)]) (by simp [results, Tryd.results80, go_sem]) rfl ⟨rfl, by repeat (first | exact gr_refl _ _ | apply gr_alloc | refine gr_setCell ?_ (.inr (by simp <;> omega)) _)⟩

set_option maxRecDepth 100000 in
set_option maxHeartbeats 1000000 in
theorem mulRange_any (gl gh u : Int) (w : World) (h0 : 1000000 ≤ gl) (h1 : gl ≤ gh) (h2 : gh ≤ 100000000) (h3 : 1000000 ≤ u) (h4 : u ≤ 1100000) :
    Calls Tryd.prog 79 #[.agg #[.int .i64 gl, .int .i64 gh], .agg #[.int .i64 u, .int .i64 u]] w fun e w' => e = .returned (.agg #[.int .i64 (flr (gl * u) 1000000), .int .i64 (cei (gh * u) 1000000)]) ∧ w.grownBy w' none := by
  have p0 : 0 ≤ gl * u := Int.mul_nonneg (by omega) (by omega)
  have p1 : gl * u ≤ gh * u := Int.mul_le_mul_of_nonneg_right h1 (by omega)
  have p2 : gh * u ≤ 100000000 * 1100000 := mul_le h2 h4 (by omega) (by omega)
  have HF := hid (fun wx => floorDiv_any (gl * u) 1000000 wx (by omega) (by omega) (by omega) (by omega))
  have HC := hid (fun wx => ceilDiv_any (gh * u) 1000000 wx (by omega) (by omega) (by omega) (by omega))
  rw [flr_def] at HF
  obtain ⟨P, hP⟩ : ∃ P, gl * u = P := ⟨_, rfl⟩
  obtain ⟨R, hR⟩ : ∃ R, gh * u = R := ⟨_, rfl⟩
  rw [hP] at p0 p1 HF ⊢
  rw [hR] at p1 p2 HC ⊢
  have u1 : IntKind.i64.wrap (gl * u) = P := by rw [hP]; exact IntWalk.i64_in _ (by omega)
  have u2 : IntKind.i64.wrap (gh * u) = R := by rw [hR]; exact IntWalk.i64_in _ (by omega)
  have HP := hid hP; have HR := hid hR
  clear hP hR
  by_cases hlt : P < R
  · have hnl : ¬ R < P := by omega
    go_enter Tryd.func79, Tryd.ntmps79
    go_wp2_with fail
    obtain ⟨W, hW⟩ : ∃ W : World, W = ((((w.alloc (.cells #[.int .i64 gl, .int .i64 gh] 25)).alloc (.cells #[.int .i64 u, .int .i64 u] 25)).alloc (.cells #[.int .i64 0, .int .i64 0] 25)).alloc (.cells #[.int .i64 P, .int .i64 P, .int .i64 R, .int .i64 R] 3)) := ⟨_, rfl⟩
    rw [← hW]
    have hgW : w.grownBy W none := by rw [hW]; exact gr_alloc (gr_alloc (gr_alloc (gr_alloc (gr0 _) _) _) _) _
    have hl : W.heap[w.heap.size + 1 + 1 + 1]? = some (.cells #[.int .i64 P, .int .i64 P, .int .i64 R, .int .i64 R] 3 (0, 0)) := by
      have := heap_alloc_new (((w.alloc (.cells #[.int .i64 gl, .int .i64 gh] 25)).alloc (.cells #[.int .i64 u, .int .i64 u] 25)).alloc (.cells #[.int .i64 0, .int .i64 0] 25)) (.cells #[.int .i64 P, .int .i64 P, .int .i64 R, .int .i64 R] 3)
      rw [World.size_alloc, World.size_alloc, World.size_alloc] at this
      rw [hW]; exact this
    have hz : W.heap[w.heap.size + 1 + 1]? = some (.cells #[.int .i64 0, .int .i64 0] 25 (0, 0)) := by
      have := blk_alloc (heap_alloc_new ((w.alloc (.cells #[.int .i64 gl, .int .i64 gh] 25)).alloc (.cells #[.int .i64 u, .int .i64 u] 25)) (.cells #[.int .i64 0, .int .i64 0] 25)) (.cells #[.int .i64 P, .int .i64 P, .int .i64 R, .int .i64 R] 3)
      rw [World.size_alloc, World.size_alloc] at this
      rw [hW]; exact this
    have m1 := blk_cell hl 1 _ rfl
    have m2 := blk_cell hl 2 _ rfl
    have m3 := blk_cell hl 3 _ rfl
    have z0 := blk_cell hz 0 _ rfl
    have z1 := blk_cell hz 1 _ rfl
    have k0 := blk_frozen hz 0
    have k1 := blk_frozen hz 1
    have HgW := hid hgW
    clear hW hgW hl hz u1 u2
    go_loopw [6, 7, 8] (fun m q i wr => ((i = .int .i64 1 ∧ q = .int .i64 P) ∨ (i = .int .i64 2 ∧ q = .int .i64 P) ∨ (i = .int .i64 3 ∧ q = .int .i64 R) ∨ (i = .int .i64 4 ∧ q = .int .i64 R)) ∧ m = .int .i64 P ∧ wr = W) (fun _ _ i _ => 4 - (intOf i).toNat)
    case atStart => exact ⟨.inl ⟨rfl, rfl⟩, rfl, by trivial⟩
    case round =>
      obtain ⟨hc, rfl, rfl⟩ := hrel
      rcases hc with ⟨rfl, rfl⟩ | ⟨rfl, rfl⟩ | ⟨rfl, rfl⟩ | ⟨rfl, rfl⟩
      · go_wp2_with fail
        go_roundw
        case rel => exact ⟨by first | exact .inr (.inl ⟨rfl, rfl⟩) | exact .inr (.inr (.inl ⟨rfl, rfl⟩)) | exact .inr (.inr (.inr ⟨rfl, rfl⟩)), rfl, by trivial⟩
        case measure => simp [intOf]
      · go_wp2_with fail
        go_roundw
        case rel => exact ⟨by first | exact .inr (.inl ⟨rfl, rfl⟩) | exact .inr (.inr (.inl ⟨rfl, rfl⟩)) | exact .inr (.inr (.inr ⟨rfl, rfl⟩)), rfl, by trivial⟩
        case measure => simp [intOf]
      · go_wp2_with fail
        go_roundw
        case rel => exact ⟨by first | exact .inr (.inl ⟨rfl, rfl⟩) | exact .inr (.inr (.inl ⟨rfl, rfl⟩)) | exact .inr (.inr (.inr ⟨rfl, rfl⟩)), rfl, by trivial⟩
        case measure => simp [intOf]
      · go_wp2_with fail
        refine (HF.out _).mono ?_
        rintro e w1 ⟨rfl, rfl⟩
        go_wp2_with fail
        refine (HC.out _).mono ?_
        rintro e w1 ⟨rfl, rfl⟩
        go_wp2_with fail
        exact bodyPost_ret (v := .agg #[.int .i64 (flr P 1000000), .int .i64 (cei R 1000000)]) (by simp [results, Tryd.results79, go_sem, *]) rfl ⟨rfl, gr_setCell (p := ⟨w.heap.size + 1 + 1, 1, none⟩) (gr_setCell (p := ⟨w.heap.size + 1 + 1, 0, none⟩) HgW.out (.inr (by simp <;> omega)) _) (.inr (by simp <;> omega)) _⟩
  · obtain rfl : P = R := by omega
    clear hlt
    go_enter Tryd.func79, Tryd.ntmps79
    go_wp2_with fail
    obtain ⟨W, hW⟩ : ∃ W : World, W = ((((w.alloc (.cells #[.int .i64 gl, .int .i64 gh] 25)).alloc (.cells #[.int .i64 u, .int .i64 u] 25)).alloc (.cells #[.int .i64 0, .int .i64 0] 25)).alloc (.cells #[.int .i64 P, .int .i64 P, .int .i64 P, .int .i64 P] 3)) := ⟨_, rfl⟩
    rw [← hW]
    have hgW : w.grownBy W none := by rw [hW]; exact gr_alloc (gr_alloc (gr_alloc (gr_alloc (gr0 _) _) _) _) _
    have hl : W.heap[w.heap.size + 1 + 1 + 1]? = some (.cells #[.int .i64 P, .int .i64 P, .int .i64 P, .int .i64 P] 3 (0, 0)) := by
      have := heap_alloc_new (((w.alloc (.cells #[.int .i64 gl, .int .i64 gh] 25)).alloc (.cells #[.int .i64 u, .int .i64 u] 25)).alloc (.cells #[.int .i64 0, .int .i64 0] 25)) (.cells #[.int .i64 P, .int .i64 P, .int .i64 P, .int .i64 P] 3)
      rw [World.size_alloc, World.size_alloc, World.size_alloc] at this
      rw [hW]; exact this
    have hz : W.heap[w.heap.size + 1 + 1]? = some (.cells #[.int .i64 0, .int .i64 0] 25 (0, 0)) := by
      have := blk_alloc (heap_alloc_new ((w.alloc (.cells #[.int .i64 gl, .int .i64 gh] 25)).alloc (.cells #[.int .i64 u, .int .i64 u] 25)) (.cells #[.int .i64 0, .int .i64 0] 25)) (.cells #[.int .i64 P, .int .i64 P, .int .i64 P, .int .i64 P] 3)
      rw [World.size_alloc, World.size_alloc] at this
      rw [hW]; exact this
    have m1 := blk_cell hl 1 _ rfl
    have m2 := blk_cell hl 2 _ rfl
    have m3 := blk_cell hl 3 _ rfl
    have z0 := blk_cell hz 0 _ rfl
    have z1 := blk_cell hz 1 _ rfl
    have k0 := blk_frozen hz 0
    have k1 := blk_frozen hz 1
    have HgW := hid hgW
    clear hW hgW hl hz u1 u2
    go_loopw [6, 7, 8] (fun m q i wr => ((i = .int .i64 1 ∧ q = .int .i64 P) ∨ (i = .int .i64 2 ∧ q = .int .i64 P) ∨ (i = .int .i64 3 ∧ q = .int .i64 P) ∨ (i = .int .i64 4 ∧ q = .int .i64 P)) ∧ m = .int .i64 P ∧ wr = W) (fun _ _ i _ => 4 - (intOf i).toNat)
    case atStart => exact ⟨.inl ⟨rfl, rfl⟩, rfl, by trivial⟩
    case round =>
      obtain ⟨hc, rfl, rfl⟩ := hrel
      rcases hc with ⟨rfl, rfl⟩ | ⟨rfl, rfl⟩ | ⟨rfl, rfl⟩ | ⟨rfl, rfl⟩
      · go_wp2_with fail
        go_roundw
        case rel => exact ⟨by first | exact .inr (.inl ⟨rfl, rfl⟩) | exact .inr (.inr (.inl ⟨rfl, rfl⟩)) | exact .inr (.inr (.inr ⟨rfl, rfl⟩)), rfl, by trivial⟩
        case measure => simp [intOf]
      · go_wp2_with fail
        go_roundw
        case rel => exact ⟨by first | exact .inr (.inl ⟨rfl, rfl⟩) | exact .inr (.inr (.inl ⟨rfl, rfl⟩)) | exact .inr (.inr (.inr ⟨rfl, rfl⟩)), rfl, by trivial⟩
        case measure => simp [intOf]
      · go_wp2_with fail
        go_roundw
        case rel => exact ⟨by first | exact .inr (.inl ⟨rfl, rfl⟩) | exact .inr (.inr (.inl ⟨rfl, rfl⟩)) | exact .inr (.inr (.inr ⟨rfl, rfl⟩)), rfl, by trivial⟩
        case measure => simp [intOf]
      · go_wp2_with fail
        refine (HF.out _).mono ?_
        rintro e w1 ⟨rfl, rfl⟩
        go_wp2_with fail
        refine (HC.out _).mono ?_
        rintro e w1 ⟨rfl, rfl⟩
        go_wp2_with fail
        exact bodyPost_ret (v := .agg #[.int .i64 (flr P 1000000), .int .i64 (cei P 1000000)]) (by simp [results, Tryd.results79, go_sem, *]) rfl ⟨rfl, gr_setCell (p := ⟨w.heap.size + 1 + 1, 1, none⟩) (gr_setCell (p := ⟨w.heap.size + 1 + 1, 0, none⟩) HgW.out (.inr (by simp <;> omega)) _) (.inr (by simp <;> omega)) _⟩

end Go.Proofs.YtkgjciacdjhhfaaDoor
