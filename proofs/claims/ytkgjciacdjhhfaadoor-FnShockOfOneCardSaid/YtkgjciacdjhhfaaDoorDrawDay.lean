/- The generators of a bond and a day: they end. -/
import Derived.Test.YtkgjciacdjhhfaaDoorRows
import Derived.Test.YtkgjciacdjhhfaaDoorBase
import Derived.Test.YtkgjciacdjhhfaaDoorDrawBond
namespace Go.Proofs.YtkgjciacdjhhfaaDoor
open Go.RowKit

structure BdB (b : Bond) : Prop where
  s0 : 5000 ≤ b.start
  s1 : b.start ≤ 12719
  e0 : -1000000 ≤ b.stop
  e1 : b.stop ≤ 1000000
  m0 : 0 ≤ b.months
  m1 : b.months ≤ 12
  r0 : -1 ≤ b.rate
  r1 : b.rate ≤ 3001

set_option maxRecDepth 100000 in
set_option maxHeartbeats 1000000 in
theorem anyBond_any (rb m : Nat) (w : World) (h : Rdr 83 w rb m) (hm : m ≤ 100000) :
    Calls Tryd.prog 71 #[.pointer (some ⟨rb, 0, none⟩)] w fun e w' => ∃ b : Bond, e = .returned (.agg #[.int .i64 b.start, .int .i64 b.stop, .int .i64 b.months, .int .i64 b.rate]) ∧ BdB b ∧ Rdr 83 w' rb (m + 8) ∧ w.grownBy w' (some rb) := by
  have hlt := h.lt
  go_enter Tryd.func71, Tryd.ntmps71
  go_wp2_with fail
  refine (randomBond_any rb m _ (h.keep0 (gr_alloc (gr_refl _ _) _)) (by omega)).mono ?_
  rintro e w1 ⟨⟨S, E, M, R⟩, rfl, ⟨b0, b1⟩, ⟨b2, b3⟩, ⟨b4, b5⟩, ⟨b6, b7⟩, h1, hg⟩
  simp only at b0 b1 b2 b3 b4 b5 b6 b7
  have Hg1 := hid (gr_transS (gr_alloc (gr_refl _ _) _) hg)
  have Hb1 := hid (blk_keep (heap_alloc_new w (.cells #[.int .i64 0, .int .i64 0, .int .i64 0, .int .i64 0] 27)) hg (by simp; omega))
  have hDw : w.heap.size < w1.heap.size := blk_lt Hb1.out
  have hlt1 := h1.lt
  clear hg h
  go_wp2_with fail
  refine (pick_any rb _ 24 _ (h1.keep0 (gr_alloc (gr_refl _ _) _)) (by omega)).mono ?_
  rintro e w2 ⟨t, rfl, ht0, ht1, h2, hg⟩
  have Hg2 := hid (gr_transS (gr_alloc Hg1.out _) hg)
  have Hb2 := hid (blk_keep (blk_alloc Hb1.out _) hg (by simp; omega))
  have Hd2 := hid (blk_keep (heap_alloc_new w1 (.cells #[.int .i64 S, .int .i64 E, .int .i64 M, .int .i64 R] 27)) hg (by simp; omega))
  clear hg h1 Hb1 Hg1 ht1
  generalize w1.heap.size = D at *
  have n1 : ¬ D = w.heap.size := by omega
  have hDle : w.heap.size ≤ D := by omega
  have n2 : ¬ w.heap.size = D := by omega
  by_cases t0 : t = 0
  · subst t0
    have d0 := blk_cell Hd2.out 0 _ rfl
    go_wp2_with fail
    refine (one_lit rb _ [S, S + 1, 36525, S - 1] _ _ _ rfl rfl (by simp) (by simp) _ _ rfl h2 (by omega)).mono ?_
    rintro e w3 ⟨x, rfl, hx, h3, hg3⟩
    have hxb : -1000000 ≤ x ∧ x ≤ 1000000 := by simp at hx; omega
    obtain ⟨x0, x1⟩ := hxb
    have HgF := hid (gr_transS Hg2.out hg3)
    have HB := hid (blk_keep Hb2.out hg3 (by simp; omega))
    have HD := hid (blk_keep Hd2.out hg3 (by simp; omega))
    have HR := hid (h3.mono (show _ ≤ m + 8 by omega))
    clear hg3 h3 hx h2
    clear d0
    have e0 := blk_cell HD.out 0 _ rfl
    have e1 := blk_cell HD.out 1 _ rfl
    have e2 := blk_cell HD.out 2 _ rfl
    have e3 := blk_cell HD.out 3 _ rfl
    have f0 := blk_cell HB.out 0 _ rfl
    have f1 := blk_cell HB.out 1 _ rfl
    have f2 := blk_cell HB.out 2 _ rfl
    have f3 := blk_cell HB.out 3 _ rfl
    have k0 := blk_frozen HB.out 0
    have k1 := blk_frozen HB.out 1
    have k2 := blk_frozen HB.out 2
    have k3 := blk_frozen HB.out 3
    have j0 := blk_frozen HD.out 0
    have j1 := blk_frozen HD.out 1
    have j2 := blk_frozen HD.out 2
    have j3 := blk_frozen HD.out 3
    go_wp2_with fail
    refine bodyPost_ret (v := .agg #[.int .i64 S, .int .i64 x, .int .i64 M, .int .i64 R]) (by simp [results, Tryd.results71, go_sem, *]) rfl ⟨⟨S, x, M, R⟩, rfl, ⟨by simp only; omega, by simp only; omega, by simp only; omega, by simp only; omega, by simp only; omega, by simp only; omega, by simp only; omega, by simp only; omega⟩, ?_, ?_⟩
    · exact ((((HR.out.setCell hlt1 _).setCell hlt _).setCell hlt _).setCell hlt _).setCell hlt _
    · exact gr_setCell (gr_setCell (gr_setCell (gr_setCell (gr_setCell HgF.out (.inr hDle) _) (.inr (Nat.le_refl _)) _) (.inr (Nat.le_refl _)) _) (.inr (Nat.le_refl _)) _) (.inr (Nat.le_refl _)) _
  by_cases t1 : t = 1
  · subst t1
    go_wp2_with fail
    refine (one_lit rb _ [2, 0, 1] _ _ _ rfl rfl (by simp) (by simp) _ _ rfl h2 (by omega)).mono ?_
    rintro e w3 ⟨x, rfl, hx, h3, hg3⟩
    have hxb : 0 ≤ x ∧ x ≤ 12 := by simp at hx; omega
    obtain ⟨x0, x1⟩ := hxb
    have HgF := hid (gr_transS Hg2.out hg3)
    have HB := hid (blk_keep Hb2.out hg3 (by simp; omega))
    have HD := hid (blk_keep Hd2.out hg3 (by simp; omega))
    have HR := hid (h3.mono (show _ ≤ m + 8 by omega))
    clear hg3 h3 hx h2
    have e0 := blk_cell HD.out 0 _ rfl
    have e1 := blk_cell HD.out 1 _ rfl
    have e2 := blk_cell HD.out 2 _ rfl
    have e3 := blk_cell HD.out 3 _ rfl
    have f0 := blk_cell HB.out 0 _ rfl
    have f1 := blk_cell HB.out 1 _ rfl
    have f2 := blk_cell HB.out 2 _ rfl
    have f3 := blk_cell HB.out 3 _ rfl
    have k0 := blk_frozen HB.out 0
    have k1 := blk_frozen HB.out 1
    have k2 := blk_frozen HB.out 2
    have k3 := blk_frozen HB.out 3
    have j0 := blk_frozen HD.out 0
    have j1 := blk_frozen HD.out 1
    have j2 := blk_frozen HD.out 2
    have j3 := blk_frozen HD.out 3
    go_wp2_with fail
    refine bodyPost_ret (v := .agg #[.int .i64 S, .int .i64 E, .int .i64 x, .int .i64 R]) (by simp [results, Tryd.results71, go_sem, *]) rfl ⟨⟨S, E, x, R⟩, rfl, ⟨by simp only; omega, by simp only; omega, by simp only; omega, by simp only; omega, by simp only; omega, by simp only; omega, by simp only; omega, by simp only; omega⟩, ?_, ?_⟩
    · exact ((((HR.out.setCell hlt1 _).setCell hlt _).setCell hlt _).setCell hlt _).setCell hlt _
    · exact gr_setCell (gr_setCell (gr_setCell (gr_setCell (gr_setCell HgF.out (.inr hDle) _) (.inr (Nat.le_refl _)) _) (.inr (Nat.le_refl _)) _) (.inr (Nat.le_refl _)) _) (.inr (Nat.le_refl _)) _
  by_cases t2 : t = 2
  · subst t2
    go_wp2_with fail
    refine (one_lit rb _ [-1, 3000, 3001] _ _ _ rfl rfl (by simp) (by simp) _ _ rfl h2 (by omega)).mono ?_
    rintro e w3 ⟨x, rfl, hx, h3, hg3⟩
    have hxb : -1 ≤ x ∧ x ≤ 3001 := by simp at hx; omega
    obtain ⟨x0, x1⟩ := hxb
    have HgF := hid (gr_transS Hg2.out hg3)
    have HB := hid (blk_keep Hb2.out hg3 (by simp; omega))
    have HD := hid (blk_keep Hd2.out hg3 (by simp; omega))
    have HR := hid (h3.mono (show _ ≤ m + 8 by omega))
    clear hg3 h3 hx h2
    have e0 := blk_cell HD.out 0 _ rfl
    have e1 := blk_cell HD.out 1 _ rfl
    have e2 := blk_cell HD.out 2 _ rfl
    have e3 := blk_cell HD.out 3 _ rfl
    have f0 := blk_cell HB.out 0 _ rfl
    have f1 := blk_cell HB.out 1 _ rfl
    have f2 := blk_cell HB.out 2 _ rfl
    have f3 := blk_cell HB.out 3 _ rfl
    have k0 := blk_frozen HB.out 0
    have k1 := blk_frozen HB.out 1
    have k2 := blk_frozen HB.out 2
    have k3 := blk_frozen HB.out 3
    have j0 := blk_frozen HD.out 0
    have j1 := blk_frozen HD.out 1
    have j2 := blk_frozen HD.out 2
    have j3 := blk_frozen HD.out 3
    go_wp2_with fail
    refine bodyPost_ret (v := .agg #[.int .i64 S, .int .i64 E, .int .i64 M, .int .i64 x]) (by simp [results, Tryd.results71, go_sem, *]) rfl ⟨⟨S, E, M, x⟩, rfl, ⟨by simp only; omega, by simp only; omega, by simp only; omega, by simp only; omega, by simp only; omega, by simp only; omega, by simp only; omega, by simp only; omega⟩, ?_, ?_⟩
    · exact ((((HR.out.setCell hlt1 _).setCell hlt _).setCell hlt _).setCell hlt _).setCell hlt _
    · exact gr_setCell (gr_setCell (gr_setCell (gr_setCell (gr_setCell HgF.out (.inr hDle) _) (.inr (Nat.le_refl _)) _) (.inr (Nat.le_refl _)) _) (.inr (Nat.le_refl _)) _) (.inr (Nat.le_refl _)) _
  have p0 : (t == 0) = false := by simpa using t0
  have p1 : (t == 1) = false := by simpa using t1
  have p2 : (t == 2) = false := by simpa using t2
  have HgF := Hg2
  have HB := Hb2
  have HD := Hd2
  have HR := hid (h2.mono (show _ ≤ m + 8 by omega))
  clear h2 Hb2 Hd2 Hg2 t0 t1 t2
  have e0 := blk_cell HD.out 0 _ rfl
  have e1 := blk_cell HD.out 1 _ rfl
  have e2 := blk_cell HD.out 2 _ rfl
  have e3 := blk_cell HD.out 3 _ rfl
  have f0 := blk_cell HB.out 0 _ rfl
  have f1 := blk_cell HB.out 1 _ rfl
  have f2 := blk_cell HB.out 2 _ rfl
  have f3 := blk_cell HB.out 3 _ rfl
  have k0 := blk_frozen HB.out 0
  have k1 := blk_frozen HB.out 1
  have k2 := blk_frozen HB.out 2
  have k3 := blk_frozen HB.out 3
  have j0 := blk_frozen HD.out 0
  have j1 := blk_frozen HD.out 1
  have j2 := blk_frozen HD.out 2
  have j3 := blk_frozen HD.out 3
  go_wp2_with fail
  refine bodyPost_ret (v := .agg #[.int .i64 S, .int .i64 E, .int .i64 M, .int .i64 R]) (by simp [results, Tryd.results71, go_sem, *]) rfl ⟨⟨S, E, M, R⟩, rfl, ⟨by simp only; omega, by simp only; omega, by simp only; omega, by simp only; omega, by simp only; omega, by simp only; omega, by simp only; omega, by simp only; omega⟩, ?_, ?_⟩
  · exact (((HR.out.setCell hlt _).setCell hlt _).setCell hlt _).setCell hlt _
  · exact gr_setCell (gr_setCell (gr_setCell (gr_setCell HgF.out (.inr (Nat.le_refl _)) _) (.inr (Nat.le_refl _)) _) (.inr (Nat.le_refl _)) _) (.inr (Nat.le_refl _)) _

set_option maxRecDepth 100000 in
set_option maxHeartbeats 2000000 in
theorem bondDay_any (rb m : Nat) (w : World) (h : Rdr 83 w rb m) (hm : m ≤ 10000) :
    Calls Tryd.prog 47 #[.pointer (some ⟨rb, 0, none⟩)] w fun e w' => ∃ (b : Bond) (day : Int), e = .returned (.tuple #[.agg #[.int .i64 b.start, .int .i64 b.stop, .int .i64 b.months, .int .i64 b.rate], .int .i64 day]) ∧ BdB b ∧ (-3000000 ≤ day ∧ day ≤ 3000000) ∧ Rdr 83 w' rb (m + 10) ∧ w.grownBy w' (some rb) := by
  have hlt := h.lt
  go_enter Tryd.func47, Tryd.ntmps47
  go_wp2_with fail
  refine (anyBond_any rb m _ (h.keep0 (gr_alloc (gr_refl _ _) _)) (by omega)).mono ?_
  rintro e w1 ⟨⟨S, E, M, R⟩, rfl, hB, h1, hg⟩
  have Hg1 := hid (gr_transS (gr_alloc (gr_refl _ _) _) hg)
  have Hb1 := hid (blk_keep (heap_alloc_new w (.cells #[.int .i64 0, .int .i64 0, .int .i64 0, .int .i64 0] 27)) hg (by simp; omega))
  have hDw : w.heap.size < w1.heap.size := blk_lt Hb1.out
  have hlt1 := h1.lt
  have b0 := hB.s0; have b1 := hB.s1; have b2 := hB.e0; have b3 := hB.e1
  simp only at b0 b1 b2 b3
  clear hg h
  go_wp2_with fail
  refine (pick_any rb _ 8 _ (h1.keep0 (gr_alloc (gr_refl _ _) _)) (by omega)).mono ?_
  rintro e w2 ⟨t, rfl, ht0, ht1, h2, hg⟩
  have Hg2 := hid (gr_transS (gr_alloc Hg1.out _) hg)
  have Hb2 := hid (blk_keep (blk_alloc Hb1.out _) hg (by simp; omega))
  have Hd2 := hid (blk_keep (heap_alloc_new w1 (.cells #[.int .i64 S, .int .i64 E, .int .i64 M, .int .i64 R] 27)) hg (by simp; omega))
  clear hg h1 Hb1 Hg1 ht1
  generalize w1.heap.size = D at *
  have n1 : ¬ D = w.heap.size := by omega
  have n2 : ¬ w.heap.size = D := by omega
  have hd2 := Hd2.out
  have d0 := blk_cell hd2 0 _ rfl
  have d1 := blk_cell hd2 1 _ rfl
  have d2 := blk_cell hd2 2 _ rfl
  have d3 := blk_cell hd2 3 _ rfl
  by_cases t0 : t = 0
  · have tb : (t == 0) = true := by simpa using t0
    clear t0 hd2
    have u1 : IntKind.i64.wrap (S - 1) = S - 1 := IntWalk.i64_in _ (by omega)
    have u2 : IntKind.i64.wrap (E - 1) = E - 1 := IntWalk.i64_in _ (by omega)
    have u3 : IntKind.i64.wrap (E + 1) = E + 1 := IntWalk.i64_in _ (by omega)
    go_wp2_with fail
    refine wp_region_held_drew (S := fun w' => (∃ v0 v1 v2 v3, w'.heap[w.heap.size]? = some (.cells #[v0, v1, v2, v3] 27 (0, 0))) ∧ w'.heap[D]? = some (.cells #[.int .i64 S, .int .i64 E, .int .i64 M, .int .i64 R] 27 (0, 0)) ∧ w.grownBy w' (some rb) ∧ Rdr 83 w' rb (m + 10)) (by kernel_rfl) ⟨⟨_, _, _, _, Hb2.out⟩, Hd2.out, gr_drew Hg2.out, (h2.keep0 (gr_drew (gr0 _))).mono (by omega)⟩ (fun hHeld => ?_)
    refine wpAnyH_take (i := 0) (v := ?_) rfl (by kernel_rfl) (by kernel_rfl) (by kernel_rfl) (fun _ _ _ h => h) (Or.inl ⟨by rfl, ?_⟩) hHeld ?_
    rotate_left
    · intro w9 hSw
      (obtain ⟨_, sb, _⟩ := hSw; have s0 := blk_cell sb 0 _ rfl; have s1 := blk_cell sb 1 _ rfl; have s2 := blk_cell sb 2 _ rfl; have s3 := blk_cell sb 3 _ rfl; clear sb)
      go_simp
      all_goals (try with_reducible rfl)
    (try simp only [Act.put]); (try simp only [List.getElem_toArray]); (try simp only [List.getElem_cons_succ]); (try simp only [List.getElem_cons_zero]); (try simp only [List.setIfInBounds_toArray]); (try simp only [List.set_cons_succ]); (try simp only [List.set_cons_zero])
    refine wpAnyH_take (i := 1) (v := ?_) rfl (by kernel_rfl) (by kernel_rfl) (by kernel_rfl) (fun _ _ _ h => h) (Or.inl ⟨by rfl, ?_⟩) hHeld ?_
    rotate_left
    · intro w9 hSw
      (obtain ⟨_, sb, _⟩ := hSw; have s0 := blk_cell sb 0 _ rfl; have s1 := blk_cell sb 1 _ rfl; have s2 := blk_cell sb 2 _ rfl; have s3 := blk_cell sb 3 _ rfl; clear sb)
      go_simp
      all_goals (try with_reducible rfl)
    (try simp only [Act.put]); (try simp only [List.getElem_toArray]); (try simp only [List.getElem_cons_succ]); (try simp only [List.getElem_cons_zero]); (try simp only [List.setIfInBounds_toArray]); (try simp only [List.set_cons_succ]); (try simp only [List.set_cons_zero])
    refine wpAnyH_take (i := 2) (v := ?_) rfl (by kernel_rfl) (by kernel_rfl) (by kernel_rfl) (fun _ _ _ h => h) (Or.inl ⟨by rfl, ?_⟩) hHeld ?_
    rotate_left
    · intro w9 hSw
      (obtain ⟨_, sb, _⟩ := hSw; have s0 := blk_cell sb 0 _ rfl; have s1 := blk_cell sb 1 _ rfl; have s2 := blk_cell sb 2 _ rfl; have s3 := blk_cell sb 3 _ rfl; clear sb)
      go_simp
      all_goals (try with_reducible rfl)
    (try simp only [Act.put]); (try simp only [List.getElem_toArray]); (try simp only [List.getElem_cons_succ]); (try simp only [List.getElem_cons_zero]); (try simp only [List.setIfInBounds_toArray]); (try simp only [List.set_cons_succ]); (try simp only [List.set_cons_zero])
    refine wpAnyH_take (i := 3) (v := ?_) rfl (by kernel_rfl) (by kernel_rfl) (by kernel_rfl) (fun _ _ _ h => h) (Or.inl ⟨by rfl, ?_⟩) hHeld ?_
    rotate_left
    · intro w9 hSw
      (obtain ⟨_, sb, _⟩ := hSw; have s0 := blk_cell sb 0 _ rfl; have s1 := blk_cell sb 1 _ rfl; have s2 := blk_cell sb 2 _ rfl; have s3 := blk_cell sb 3 _ rfl; clear sb)
      go_simp
      all_goals (try with_reducible rfl)
    (try simp only [Act.put]); (try simp only [List.getElem_toArray]); (try simp only [List.getElem_cons_succ]); (try simp only [List.getElem_cons_zero]); (try simp only [List.setIfInBounds_toArray]); (try simp only [List.set_cons_succ]); (try simp only [List.set_cons_zero])
    refine wpAnyH_take (i := 4) (v := ?_) rfl (by kernel_rfl) (by kernel_rfl) (by kernel_rfl) (fun _ _ _ h => h) (Or.inl ⟨by rfl, ?_⟩) hHeld ?_
    rotate_left
    · intro w9 hSw
      (obtain ⟨_, sb, _⟩ := hSw; have s0 := blk_cell sb 0 _ rfl; have s1 := blk_cell sb 1 _ rfl; have s2 := blk_cell sb 2 _ rfl; have s3 := blk_cell sb 3 _ rfl; clear sb)
      go_simp
      all_goals (try with_reducible rfl)
    (try simp only [Act.put]); (try simp only [List.getElem_toArray]); (try simp only [List.getElem_cons_succ]); (try simp only [List.getElem_cons_zero]); (try simp only [List.setIfInBounds_toArray]); (try simp only [List.set_cons_succ]); (try simp only [List.set_cons_zero])
    (try simp only [u1])
    refine wpAnyH_take (i := 5) (v := ?_) rfl (by kernel_rfl) (by kernel_rfl) (by kernel_rfl) (fun _ _ _ h => h) (Or.inl ⟨by rfl, ?_⟩) hHeld ?_
    rotate_left
    · intro w9 hSw
      (obtain ⟨_, sb, _⟩ := hSw; have s0 := blk_cell sb 0 _ rfl; have s1 := blk_cell sb 1 _ rfl; have s2 := blk_cell sb 2 _ rfl; have s3 := blk_cell sb 3 _ rfl; clear sb)
      go_simp
      all_goals (try with_reducible rfl)
    (try simp only [Act.put]); (try simp only [List.getElem_toArray]); (try simp only [List.getElem_cons_succ]); (try simp only [List.getElem_cons_zero]); (try simp only [List.setIfInBounds_toArray]); (try simp only [List.set_cons_succ]); (try simp only [List.set_cons_zero])
    refine wpAnyH_take (i := 6) (v := ?_) rfl (by kernel_rfl) (by kernel_rfl) (by kernel_rfl) (fun _ _ _ h => h) (Or.inl ⟨by rfl, ?_⟩) hHeld ?_
    rotate_left
    · intro w9 hSw
      (obtain ⟨_, sb, _⟩ := hSw; have s0 := blk_cell sb 0 _ rfl; have s1 := blk_cell sb 1 _ rfl; have s2 := blk_cell sb 2 _ rfl; have s3 := blk_cell sb 3 _ rfl; clear sb)
      go_simp
      all_goals (try with_reducible rfl)
    (try simp only [Act.put]); (try simp only [List.getElem_toArray]); (try simp only [List.getElem_cons_succ]); (try simp only [List.getElem_cons_zero]); (try simp only [List.setIfInBounds_toArray]); (try simp only [List.set_cons_succ]); (try simp only [List.set_cons_zero])
    refine wpAnyH_take (i := 7) (v := ?_) rfl (by kernel_rfl) (by kernel_rfl) (by kernel_rfl) (fun _ _ _ h => h) (Or.inl ⟨by rfl, ?_⟩) hHeld ?_
    rotate_left
    · intro w9 hSw
      (obtain ⟨_, sb, _⟩ := hSw; have s0 := blk_cell sb 0 _ rfl; have s1 := blk_cell sb 1 _ rfl; have s2 := blk_cell sb 2 _ rfl; have s3 := blk_cell sb 3 _ rfl; clear sb)
      go_simp
      all_goals (try with_reducible rfl)
    (try simp only [Act.put]); (try simp only [List.getElem_toArray]); (try simp only [List.getElem_cons_succ]); (try simp only [List.getElem_cons_zero]); (try simp only [List.setIfInBounds_toArray]); (try simp only [List.set_cons_succ]); (try simp only [List.set_cons_zero])
    refine wpAnyH_take (i := 8) (v := ?_) rfl (by kernel_rfl) (by kernel_rfl) (by kernel_rfl) (fun _ _ _ h => h) (Or.inl ⟨by rfl, ?_⟩) hHeld ?_
    rotate_left
    · intro w9 hSw
      (obtain ⟨_, sb, _⟩ := hSw; have s0 := blk_cell sb 0 _ rfl; have s1 := blk_cell sb 1 _ rfl; have s2 := blk_cell sb 2 _ rfl; have s3 := blk_cell sb 3 _ rfl; clear sb)
      go_simp
      all_goals (try with_reducible rfl)
    (try simp only [Act.put]); (try simp only [List.getElem_toArray]); (try simp only [List.getElem_cons_succ]); (try simp only [List.getElem_cons_zero]); (try simp only [List.setIfInBounds_toArray]); (try simp only [List.set_cons_succ]); (try simp only [List.set_cons_zero])
    refine wpAnyH_take (i := 9) (v := ?_) rfl (by kernel_rfl) (by kernel_rfl) (by kernel_rfl) (fun _ _ _ h => h) (Or.inl ⟨by rfl, ?_⟩) hHeld ?_
    rotate_left
    · intro w9 hSw
      (obtain ⟨_, sb, _⟩ := hSw; have s0 := blk_cell sb 0 _ rfl; have s1 := blk_cell sb 1 _ rfl; have s2 := blk_cell sb 2 _ rfl; have s3 := blk_cell sb 3 _ rfl; clear sb)
      go_simp
      all_goals (try with_reducible rfl)
    (try simp only [Act.put]); (try simp only [List.getElem_toArray]); (try simp only [List.getElem_cons_succ]); (try simp only [List.getElem_cons_zero]); (try simp only [List.setIfInBounds_toArray]); (try simp only [List.set_cons_succ]); (try simp only [List.set_cons_zero])
    (try simp only [u2])
    refine wpAnyH_take (i := 10) (v := ?_) rfl (by kernel_rfl) (by kernel_rfl) (by kernel_rfl) (fun _ _ _ h => h) (Or.inl ⟨by rfl, ?_⟩) hHeld ?_
    rotate_left
    · intro w9 hSw
      (obtain ⟨_, sb, _⟩ := hSw; have s0 := blk_cell sb 0 _ rfl; have s1 := blk_cell sb 1 _ rfl; have s2 := blk_cell sb 2 _ rfl; have s3 := blk_cell sb 3 _ rfl; clear sb)
      go_simp
      all_goals (try with_reducible rfl)
    (try simp only [Act.put]); (try simp only [List.getElem_toArray]); (try simp only [List.getElem_cons_succ]); (try simp only [List.getElem_cons_zero]); (try simp only [List.setIfInBounds_toArray]); (try simp only [List.set_cons_succ]); (try simp only [List.set_cons_zero])
    refine wpAnyH_take (i := 11) (v := ?_) rfl (by kernel_rfl) (by kernel_rfl) (by kernel_rfl) (fun _ _ _ h => h) (Or.inl ⟨by rfl, ?_⟩) hHeld ?_
    rotate_left
    · intro w9 hSw
      (obtain ⟨_, sb, _⟩ := hSw; have s0 := blk_cell sb 0 _ rfl; have s1 := blk_cell sb 1 _ rfl; have s2 := blk_cell sb 2 _ rfl; have s3 := blk_cell sb 3 _ rfl; clear sb)
      go_simp
      all_goals (try with_reducible rfl)
    (try simp only [Act.put]); (try simp only [List.getElem_toArray]); (try simp only [List.getElem_cons_succ]); (try simp only [List.getElem_cons_zero]); (try simp only [List.setIfInBounds_toArray]); (try simp only [List.set_cons_succ]); (try simp only [List.set_cons_zero])
    refine wpAnyH_take (i := 12) (v := ?_) rfl (by kernel_rfl) (by kernel_rfl) (by kernel_rfl) (fun _ _ _ h => h) (Or.inl ⟨by rfl, ?_⟩) hHeld ?_
    rotate_left
    · intro w9 hSw
      (obtain ⟨_, sb, _⟩ := hSw; have s0 := blk_cell sb 0 _ rfl; have s1 := blk_cell sb 1 _ rfl; have s2 := blk_cell sb 2 _ rfl; have s3 := blk_cell sb 3 _ rfl; clear sb)
      go_simp
      all_goals (try with_reducible rfl)
    (try simp only [Act.put]); (try simp only [List.getElem_toArray]); (try simp only [List.getElem_cons_succ]); (try simp only [List.getElem_cons_zero]); (try simp only [List.setIfInBounds_toArray]); (try simp only [List.set_cons_succ]); (try simp only [List.set_cons_zero])
    refine wpAnyH_take (i := 13) (v := ?_) rfl (by kernel_rfl) (by kernel_rfl) (by kernel_rfl) (fun _ _ _ h => h) (Or.inl ⟨by rfl, ?_⟩) hHeld ?_
    rotate_left
    · intro w9 hSw
      (obtain ⟨_, sb, _⟩ := hSw; have s0 := blk_cell sb 0 _ rfl; have s1 := blk_cell sb 1 _ rfl; have s2 := blk_cell sb 2 _ rfl; have s3 := blk_cell sb 3 _ rfl; clear sb)
      go_simp
      all_goals (try with_reducible rfl)
    (try simp only [Act.put]); (try simp only [List.getElem_toArray]); (try simp only [List.getElem_cons_succ]); (try simp only [List.getElem_cons_zero]); (try simp only [List.setIfInBounds_toArray]); (try simp only [List.set_cons_succ]); (try simp only [List.set_cons_zero])
    refine wpAnyH_take (i := 14) (v := ?_) rfl (by kernel_rfl) (by kernel_rfl) (by kernel_rfl) (fun _ _ _ h => h) (Or.inl ⟨by rfl, ?_⟩) hHeld ?_
    rotate_left
    · intro w9 hSw
      (obtain ⟨_, sb, _⟩ := hSw; have s0 := blk_cell sb 0 _ rfl; have s1 := blk_cell sb 1 _ rfl; have s2 := blk_cell sb 2 _ rfl; have s3 := blk_cell sb 3 _ rfl; clear sb)
      go_simp
      all_goals (try with_reducible rfl)
    (try simp only [Act.put]); (try simp only [List.getElem_toArray]); (try simp only [List.getElem_cons_succ]); (try simp only [List.getElem_cons_zero]); (try simp only [List.setIfInBounds_toArray]); (try simp only [List.set_cons_succ]); (try simp only [List.set_cons_zero])
    (try simp only [u3])
    refine wpAnyH_ready (rs := [15]) (by kernel_rfl) (by simp) ?_
    refine AllReadyH.cons rfl (fun K' hK' => ?_) AllReadyH.nil
    go_simp
    refine hK'.out _ _ ⟨⟨_, _, _, _, blk_alloc Hb2.out _⟩, blk_alloc Hd2.out _, gr_alloc (gr_drew Hg2.out) _, (h2.keep0 (gr_alloc (gr_drew (gr0 _)) _)).mono (by omega)⟩ (fun hHeldC => ?_)
    clear hK' K'
    (try simp only [Act.put]); (try simp only [List.getElem_toArray]); (try simp only [List.getElem_cons_succ]); (try simp only [List.getElem_cons_zero]); (try simp only [List.setIfInBounds_toArray]); (try simp only [List.set_cons_succ]); (try simp only [List.set_cons_zero])
    refine wpAnyH_ready (rs := [16]) (by kernel_rfl) (by simp) ?_
    refine AllReadyH.cons rfl (fun K' hK' => ?_) AllReadyH.nil
    go_simp
    refine (one_lit rb _ [S - 1, S, E - 1, E, E + 1] _ _ _ rfl rfl (by simp) (by simp) _ _ rfl (h2.keep0 (gr_drew (gr0 _))) (by omega)).mono ?_
    rintro e w3 ⟨x, rfl, hx, h3, hg3⟩
    have hxb : -3000000 ≤ x ∧ x ≤ 3000000 := by simp at hx; omega
    (try simp only [])
    refine hK'.out _ _ ⟨⟨_, _, _, _, blk_keep Hb2.out (gr_transS (gr_drew (gr_refl _ _)) hg3) (by simp; omega)⟩, blk_keep Hd2.out (gr_transS (gr_drew (gr_refl _ _)) hg3) (by simp; omega), gr_transS (gr_drew Hg2.out) hg3, h3.mono (by omega)⟩ (fun hHeldD => ?_)
    have hHeld := hHeldD
    obtain ⟨x0, x1⟩ := hxb
    clear hK' K' hHeldD hHeldC hg3 h3 h2 hx d0 d1 d2 d3 u1 u2 u3
    (try simp only [Act.put]); (try simp only [List.getElem_toArray]); (try simp only [List.getElem_cons_succ]); (try simp only [List.getElem_cons_zero]); (try simp only [List.setIfInBounds_toArray]); (try simp only [List.set_cons_succ]); (try simp only [List.set_cons_zero])
    have hbT := hHeld.1
    obtain ⟨v0, v1, v2, v3, hbT⟩ := hbT
    have f0 := blk_cell hbT 0 _ rfl
    have f1 := blk_cell hbT 1 _ rfl
    have f2 := blk_cell hbT 2 _ rfl
    have f3 := blk_cell hbT 3 _ rfl
    have k0 := blk_frozen hbT 0
    have k1 := blk_frozen hbT 1
    have k2 := blk_frozen hbT 2
    have k3 := blk_frozen hbT 3
    refine wpAnyH_ready (rs := [17]) (by kernel_rfl) (by simp) ?_
    refine AllReadyH.cons rfl (fun K' hK' => ?_) AllReadyH.nil
    go_simp
    have hF := blk_set (blk_set (blk_set (blk_set hbT 0 (.int .i64 S)) 1 (.int .i64 E)) 2 (.int .i64 M)) 3 (.int .i64 R)
    have HF := hid (hF.trans (show _ = some (Obj.cells #[Value.int .i64 S, .int .i64 E, .int .i64 M, .int .i64 R] 27 (0, 0)) from rfl))
    refine hK'.out _ _ ⟨⟨.int .i64 S, .int .i64 E, .int .i64 M, .int .i64 R, by rw [hF]; rfl⟩, blk_set_other (blk_set_other (blk_set_other (blk_set_other hHeld.2.1 _ n2 _) _ n2 _) _ n2 _) _ n2 _, gr_setCell (gr_setCell (gr_setCell (gr_setCell hHeld.2.2.1 (.inr (Nat.le_refl _)) _) (.inr (Nat.le_refl _)) _) (.inr (Nat.le_refl _)) _) (.inr (Nat.le_refl _)) _, (((hHeld.2.2.2.setCell hlt _).setCell hlt _).setCell hlt _).setCell hlt _⟩ (fun hHeldF => ?_)
    clear hK' K'
    (try simp only [Act.put]); (try simp only [List.getElem_toArray]); (try simp only [List.getElem_cons_succ]); (try simp only [List.getElem_cons_zero]); (try simp only [List.setIfInBounds_toArray]); (try simp only [List.set_cons_succ]); (try simp only [List.set_cons_zero])
    refine wpAnyH_take (i := 18) (v := ?_) rfl (by kernel_rfl) (by kernel_rfl) (by kernel_rfl) (fun _ _ _ h => h) (Or.inl ⟨by rfl, ?_⟩) hHeldF ?_
    rotate_left
    · intro w9 hSw
      clear hSw
      go_simp
      all_goals (try with_reducible rfl)
    (try simp only [Act.put]); (try simp only [List.getElem_toArray]); (try simp only [List.getElem_cons_succ]); (try simp only [List.getElem_cons_zero]); (try simp only [List.setIfInBounds_toArray]); (try simp only [List.set_cons_succ]); (try simp only [List.set_cons_zero])
    refine wpAnyH_done (by kernel_rfl) ?_ _
    clear f0 f1 f2 f3 k0 k1 k2 k3 hF
    have f0 := blk_cell HF.out 0 _ rfl
    have f1 := blk_cell HF.out 1 _ rfl
    have f2 := blk_cell HF.out 2 _ rfl
    have f3 := blk_cell HF.out 3 _ rfl
    have HR := hid hHeldF.2.2.2
    have HgF := hid hHeldF.2.2.1
    clear hHeld hHeldF hbT HF
    generalize (World.setCell _ ⟨w.heap.size, 3, none⟩ (.int .i64 R)) = WF at *
    go_wp2_with fail
    refine bodyPost_ret (v := .tuple #[.agg #[.int .i64 S, .int .i64 E, .int .i64 M, .int .i64 R], .int .i64 x]) (by simp [results, Tryd.results47, go_sem, *]) rfl ⟨⟨S, E, M, R⟩, _, rfl, hB, by omega, HR.out.mono (by omega), HgF.out⟩
  · have tb : (t == 0) = false := by simpa using t0
    clear t0 hd2
    have u1 : IntKind.i64.wrap (E - S) = E - S := IntWalk.i64_in _ (by omega)
    obtain ⟨L, hL⟩ : ∃ L, L = max (E - S) 1 := ⟨_, rfl⟩
    have u2 : (if E - S < 1 then 1 else E - S) = L := by split <;> omega
    have hL0 : 1 ≤ L := by omega
    have hL1 : L ≤ 1000000 := by omega
    clear hL
    go_wp2_with fail
    refine wp_region_held_drew (S := fun w' => (∃ v0 v1 v2 v3, w'.heap[w.heap.size]? = some (.cells #[v0, v1, v2, v3] 27 (0, 0))) ∧ w'.heap[D]? = some (.cells #[.int .i64 S, .int .i64 E, .int .i64 M, .int .i64 R] 27 (0, 0)) ∧ w.grownBy w' (some rb) ∧ Rdr 83 w' rb (m + 10)) (by kernel_rfl) ⟨⟨_, _, _, _, Hb2.out⟩, Hd2.out, gr_drew Hg2.out, (h2.keep0 (gr_drew (gr0 _))).mono (by omega)⟩ (fun hHeld => ?_)
    refine wpAnyH_take (i := 0) (v := ?_) rfl (by kernel_rfl) (by kernel_rfl) (by kernel_rfl) (fun _ _ _ h => h) (Or.inl ⟨by rfl, ?_⟩) hHeld ?_
    rotate_left
    · intro w9 hSw
      (obtain ⟨_, sb, _⟩ := hSw; have s0 := blk_cell sb 0 _ rfl; have s1 := blk_cell sb 1 _ rfl; have s2 := blk_cell sb 2 _ rfl; have s3 := blk_cell sb 3 _ rfl; clear sb)
      go_simp
      all_goals (try with_reducible rfl)
    (try simp only [Act.put]); (try simp only [List.getElem_toArray]); (try simp only [List.getElem_cons_succ]); (try simp only [List.getElem_cons_zero]); (try simp only [List.setIfInBounds_toArray]); (try simp only [List.set_cons_succ]); (try simp only [List.set_cons_zero])
    refine wpAnyH_take (i := 1) (v := ?_) rfl (by kernel_rfl) (by kernel_rfl) (by kernel_rfl) (fun _ _ _ h => h) (Or.inl ⟨by rfl, ?_⟩) hHeld ?_
    rotate_left
    · intro w9 hSw
      (obtain ⟨_, sb, _⟩ := hSw; have s0 := blk_cell sb 0 _ rfl; have s1 := blk_cell sb 1 _ rfl; have s2 := blk_cell sb 2 _ rfl; have s3 := blk_cell sb 3 _ rfl; clear sb)
      go_simp
      all_goals (try with_reducible rfl)
    (try simp only [Act.put]); (try simp only [List.getElem_toArray]); (try simp only [List.getElem_cons_succ]); (try simp only [List.getElem_cons_zero]); (try simp only [List.setIfInBounds_toArray]); (try simp only [List.set_cons_succ]); (try simp only [List.set_cons_zero])
    refine wpAnyH_take (i := 2) (v := ?_) rfl (by kernel_rfl) (by kernel_rfl) (by kernel_rfl) (fun _ _ _ h => h) (Or.inl ⟨by rfl, ?_⟩) hHeld ?_
    rotate_left
    · intro w9 hSw
      (obtain ⟨_, sb, _⟩ := hSw; have s0 := blk_cell sb 0 _ rfl; have s1 := blk_cell sb 1 _ rfl; have s2 := blk_cell sb 2 _ rfl; have s3 := blk_cell sb 3 _ rfl; clear sb)
      go_simp
      all_goals (try with_reducible rfl)
    (try simp only [Act.put]); (try simp only [List.getElem_toArray]); (try simp only [List.getElem_cons_succ]); (try simp only [List.getElem_cons_zero]); (try simp only [List.setIfInBounds_toArray]); (try simp only [List.set_cons_succ]); (try simp only [List.set_cons_zero])
    refine wpAnyH_take (i := 3) (v := ?_) rfl (by kernel_rfl) (by kernel_rfl) (by kernel_rfl) (fun _ _ _ h => h) (Or.inl ⟨by rfl, ?_⟩) hHeld ?_
    rotate_left
    · intro w9 hSw
      (obtain ⟨_, sb, _⟩ := hSw; have s0 := blk_cell sb 0 _ rfl; have s1 := blk_cell sb 1 _ rfl; have s2 := blk_cell sb 2 _ rfl; have s3 := blk_cell sb 3 _ rfl; clear sb)
      go_simp
      all_goals (try with_reducible rfl)
    (try simp only [Act.put]); (try simp only [List.getElem_toArray]); (try simp only [List.getElem_cons_succ]); (try simp only [List.getElem_cons_zero]); (try simp only [List.setIfInBounds_toArray]); (try simp only [List.set_cons_succ]); (try simp only [List.set_cons_zero])
    refine wpAnyH_take (i := 5) (v := ?_) rfl (by kernel_rfl) (by kernel_rfl) (by kernel_rfl) (fun _ _ _ h => h) (Or.inl ⟨by rfl, ?_⟩) hHeld ?_
    rotate_left
    · intro w9 hSw
      (obtain ⟨_, sb, _⟩ := hSw; have s0 := blk_cell sb 0 _ rfl; have s1 := blk_cell sb 1 _ rfl; have s2 := blk_cell sb 2 _ rfl; have s3 := blk_cell sb 3 _ rfl; clear sb)
      go_simp
      all_goals (try with_reducible rfl)
    (try simp only [Act.put]); (try simp only [List.getElem_toArray]); (try simp only [List.getElem_cons_succ]); (try simp only [List.getElem_cons_zero]); (try simp only [List.setIfInBounds_toArray]); (try simp only [List.set_cons_succ]); (try simp only [List.set_cons_zero])
    refine wpAnyH_take (i := 6) (v := ?_) rfl (by kernel_rfl) (by kernel_rfl) (by kernel_rfl) (fun _ _ _ h => h) (Or.inl ⟨by rfl, ?_⟩) hHeld ?_
    rotate_left
    · intro w9 hSw
      (obtain ⟨_, sb, _⟩ := hSw; have s0 := blk_cell sb 0 _ rfl; have s1 := blk_cell sb 1 _ rfl; have s2 := blk_cell sb 2 _ rfl; have s3 := blk_cell sb 3 _ rfl; clear sb)
      go_simp
      all_goals (try with_reducible rfl)
    (try simp only [Act.put]); (try simp only [List.getElem_toArray]); (try simp only [List.getElem_cons_succ]); (try simp only [List.getElem_cons_zero]); (try simp only [List.setIfInBounds_toArray]); (try simp only [List.set_cons_succ]); (try simp only [List.set_cons_zero])
    refine wpAnyH_take (i := 7) (v := ?_) rfl (by kernel_rfl) (by kernel_rfl) (by kernel_rfl) (fun _ _ _ h => h) (Or.inl ⟨by rfl, ?_⟩) hHeld ?_
    rotate_left
    · intro w9 hSw
      (obtain ⟨_, sb, _⟩ := hSw; have s0 := blk_cell sb 0 _ rfl; have s1 := blk_cell sb 1 _ rfl; have s2 := blk_cell sb 2 _ rfl; have s3 := blk_cell sb 3 _ rfl; clear sb)
      go_simp
      all_goals (try with_reducible rfl)
    (try simp only [Act.put]); (try simp only [List.getElem_toArray]); (try simp only [List.getElem_cons_succ]); (try simp only [List.getElem_cons_zero]); (try simp only [List.setIfInBounds_toArray]); (try simp only [List.set_cons_succ]); (try simp only [List.set_cons_zero])
    refine wpAnyH_take (i := 8) (v := ?_) rfl (by kernel_rfl) (by kernel_rfl) (by kernel_rfl) (fun _ _ _ h => h) (Or.inl ⟨by rfl, ?_⟩) hHeld ?_
    rotate_left
    · intro w9 hSw
      (obtain ⟨_, sb, _⟩ := hSw; have s0 := blk_cell sb 0 _ rfl; have s1 := blk_cell sb 1 _ rfl; have s2 := blk_cell sb 2 _ rfl; have s3 := blk_cell sb 3 _ rfl; clear sb)
      go_simp
      all_goals (try with_reducible rfl)
    (try simp only [Act.put]); (try simp only [List.getElem_toArray]); (try simp only [List.getElem_cons_succ]); (try simp only [List.getElem_cons_zero]); (try simp only [List.setIfInBounds_toArray]); (try simp only [List.set_cons_succ]); (try simp only [List.set_cons_zero])
    refine wpAnyH_take (i := 9) (v := ?_) rfl (by kernel_rfl) (by kernel_rfl) (by kernel_rfl) (fun _ _ _ h => h) (Or.inl ⟨by rfl, ?_⟩) hHeld ?_
    rotate_left
    · intro w9 hSw
      (obtain ⟨_, sb, _⟩ := hSw; have s0 := blk_cell sb 0 _ rfl; have s1 := blk_cell sb 1 _ rfl; have s2 := blk_cell sb 2 _ rfl; have s3 := blk_cell sb 3 _ rfl; clear sb)
      go_simp
      all_goals (try with_reducible rfl)
    (try simp only [Act.put]); (try simp only [List.getElem_toArray]); (try simp only [List.getElem_cons_succ]); (try simp only [List.getElem_cons_zero]); (try simp only [List.setIfInBounds_toArray]); (try simp only [List.set_cons_succ]); (try simp only [List.set_cons_zero])
    (try simp only [u1])
    refine wpAnyH_take (i := 10) (v := ?_) rfl (by kernel_rfl) (by kernel_rfl) (by kernel_rfl) (fun _ _ _ h => h) (Or.inl ⟨by rfl, ?_⟩) hHeld ?_
    rotate_left
    · intro w9 hSw
      (obtain ⟨_, sb, _⟩ := hSw; have s0 := blk_cell sb 0 _ rfl; have s1 := blk_cell sb 1 _ rfl; have s2 := blk_cell sb 2 _ rfl; have s3 := blk_cell sb 3 _ rfl; clear sb)
      go_simp
      all_goals (try with_reducible rfl)
    (try simp only [Act.put]); (try simp only [List.getElem_toArray]); (try simp only [List.getElem_cons_succ]); (try simp only [List.getElem_cons_zero]); (try simp only [List.setIfInBounds_toArray]); (try simp only [List.set_cons_succ]); (try simp only [List.set_cons_zero])
    (try simp only [u2])
    refine wpAnyH_ready (rs := [4]) (by kernel_rfl) (by simp) ?_
    refine AllReadyH.cons rfl (fun K' hK' => ?_) AllReadyH.nil
    go_simp
    refine (pick_any rb _ 250 _ (h2.keep0 (gr_drew (gr0 _))) (by omega)).mono ?_
    rintro e w3 ⟨x, rfl, hx0, hx1, h3, hg3⟩
    have hx2 : x ≤ 249 := by omega
    (try simp only [])
    refine hK'.out _ _ ⟨⟨_, _, _, _, blk_keep Hb2.out (gr_transS (gr_drew (gr_refl _ _)) hg3) (by simp; omega)⟩, blk_keep Hd2.out (gr_transS (gr_drew (gr_refl _ _)) hg3) (by simp; omega), gr_transS (gr_drew Hg2.out) hg3, h3.mono (by omega)⟩ (fun hHeldD => ?_)
    have hHeld := hHeldD
    have hp0 : 0 ≤ x * (L) := Int.mul_nonneg hx0 (by omega)
    have hp1 : x * (L) ≤ 249 * 1000000 := Int.le_trans (Int.mul_le_mul_of_nonneg_right hx2 (by omega)) (Int.mul_le_mul_of_nonneg_left (by omega) (by omega))
    have v1 : IntKind.i64.wrap (x * (L)) = x * (L) := IntWalk.i64_in _ (by omega)
    have v2 : IntKind.i64.wrap ((x * (L)).tdiv 250) = x * (L) / 250 := IntWalk.i64_quo _ _ (by omega)
    have v3 : IntKind.i64.wrap (S + x * (L) / 250) = S + x * (L) / 250 := IntWalk.i64_in _ (by omega)
    have hq : S + x * (L) / 250 ≤ 3000000 ∧ -3000000 ≤ S + x * (L) / 250 := by omega
    clear hK' K' hHeldD hg3 h3 h2 d0 d1 d2 d3 hx1
    (try simp only [Act.put]); (try simp only [List.getElem_toArray]); (try simp only [List.getElem_cons_succ]); (try simp only [List.getElem_cons_zero]); (try simp only [List.setIfInBounds_toArray]); (try simp only [List.set_cons_succ]); (try simp only [List.set_cons_zero])
    refine wpAnyH_take (i := 11) (v := ?_) rfl (by kernel_rfl) (by kernel_rfl) (by kernel_rfl) (fun _ _ _ h => h) (Or.inl ⟨by rfl, ?_⟩) hHeld ?_
    rotate_left
    · intro w9 hSw
      clear hSw
      go_simp
      all_goals (try with_reducible rfl)
    (try simp only [Act.put]); (try simp only [List.getElem_toArray]); (try simp only [List.getElem_cons_succ]); (try simp only [List.getElem_cons_zero]); (try simp only [List.setIfInBounds_toArray]); (try simp only [List.set_cons_succ]); (try simp only [List.set_cons_zero])
    (try simp only [v1])
    refine wpAnyH_take (i := 12) (v := ?_) rfl (by kernel_rfl) (by kernel_rfl) (by kernel_rfl) (fun _ _ _ h => h) (Or.inl ⟨by rfl, ?_⟩) hHeld ?_
    rotate_left
    · intro w9 hSw
      clear hSw
      go_simp
      all_goals (try with_reducible rfl)
    (try simp only [Act.put]); (try simp only [List.getElem_toArray]); (try simp only [List.getElem_cons_succ]); (try simp only [List.getElem_cons_zero]); (try simp only [List.setIfInBounds_toArray]); (try simp only [List.set_cons_succ]); (try simp only [List.set_cons_zero])
    (try simp only [v2])
    refine wpAnyH_take (i := 13) (v := ?_) rfl (by kernel_rfl) (by kernel_rfl) (by kernel_rfl) (fun _ _ _ h => h) (Or.inl ⟨by rfl, ?_⟩) hHeld ?_
    rotate_left
    · intro w9 hSw
      clear hSw
      go_simp
      all_goals (try with_reducible rfl)
    (try simp only [Act.put]); (try simp only [List.getElem_toArray]); (try simp only [List.getElem_cons_succ]); (try simp only [List.getElem_cons_zero]); (try simp only [List.setIfInBounds_toArray]); (try simp only [List.set_cons_succ]); (try simp only [List.set_cons_zero])
    (try simp only [v3])
    generalize S + x * (L) / 250 = dy at *
    clear v1 v2 v3
    have hbT := hHeld.1
    obtain ⟨v0, v1, v2, v3, hbT⟩ := hbT
    have f0 := blk_cell hbT 0 _ rfl
    have f1 := blk_cell hbT 1 _ rfl
    have f2 := blk_cell hbT 2 _ rfl
    have f3 := blk_cell hbT 3 _ rfl
    have k0 := blk_frozen hbT 0
    have k1 := blk_frozen hbT 1
    have k2 := blk_frozen hbT 2
    have k3 := blk_frozen hbT 3
    refine wpAnyH_ready (rs := [14]) (by kernel_rfl) (by simp) ?_
    refine AllReadyH.cons rfl (fun K' hK' => ?_) AllReadyH.nil
    go_simp
    have hF := blk_set (blk_set (blk_set (blk_set hbT 0 (.int .i64 S)) 1 (.int .i64 E)) 2 (.int .i64 M)) 3 (.int .i64 R)
    have HF := hid (hF.trans (show _ = some (Obj.cells #[Value.int .i64 S, .int .i64 E, .int .i64 M, .int .i64 R] 27 (0, 0)) from rfl))
    refine hK'.out _ _ ⟨⟨.int .i64 S, .int .i64 E, .int .i64 M, .int .i64 R, by rw [hF]; rfl⟩, blk_set_other (blk_set_other (blk_set_other (blk_set_other hHeld.2.1 _ n2 _) _ n2 _) _ n2 _) _ n2 _, gr_setCell (gr_setCell (gr_setCell (gr_setCell hHeld.2.2.1 (.inr (Nat.le_refl _)) _) (.inr (Nat.le_refl _)) _) (.inr (Nat.le_refl _)) _) (.inr (Nat.le_refl _)) _, (((hHeld.2.2.2.setCell hlt _).setCell hlt _).setCell hlt _).setCell hlt _⟩ (fun hHeldF => ?_)
    clear hK' K'
    (try simp only [Act.put]); (try simp only [List.getElem_toArray]); (try simp only [List.getElem_cons_succ]); (try simp only [List.getElem_cons_zero]); (try simp only [List.setIfInBounds_toArray]); (try simp only [List.set_cons_succ]); (try simp only [List.set_cons_zero])
    refine wpAnyH_take (i := 15) (v := ?_) rfl (by kernel_rfl) (by kernel_rfl) (by kernel_rfl) (fun _ _ _ h => h) (Or.inl ⟨by rfl, ?_⟩) hHeldF ?_
    rotate_left
    · intro w9 hSw
      clear hSw
      go_simp
      all_goals (try with_reducible rfl)
    (try simp only [Act.put]); (try simp only [List.getElem_toArray]); (try simp only [List.getElem_cons_succ]); (try simp only [List.getElem_cons_zero]); (try simp only [List.setIfInBounds_toArray]); (try simp only [List.set_cons_succ]); (try simp only [List.set_cons_zero])
    refine wpAnyH_done (by kernel_rfl) ?_ _
    clear f0 f1 f2 f3 k0 k1 k2 k3 hF
    have f0 := blk_cell HF.out 0 _ rfl
    have f1 := blk_cell HF.out 1 _ rfl
    have f2 := blk_cell HF.out 2 _ rfl
    have f3 := blk_cell HF.out 3 _ rfl
    have HR := hid hHeldF.2.2.2
    have HgF := hid hHeldF.2.2.1
    clear hHeld hHeldF hbT HF
    generalize (World.setCell _ ⟨w.heap.size, 3, none⟩ (.int .i64 R)) = WF at *
    go_wp2_with fail
    refine bodyPost_ret (v := .tuple #[.agg #[.int .i64 S, .int .i64 E, .int .i64 M, .int .i64 R], .int .i64 dy]) (by simp [results, Tryd.results47, go_sem, *]) rfl ⟨⟨S, E, M, R⟩, _, rfl, hB, by omega, HR.out.mono (by omega), HgF.out⟩

end Go.Proofs.YtkgjciacdjhhfaaDoor
