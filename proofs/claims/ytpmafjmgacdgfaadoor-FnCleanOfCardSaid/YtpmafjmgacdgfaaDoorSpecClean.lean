/- The reference's CleanOf. -/
import Derived.Test.YtpmafjmgacdgfaaDoorRows
import Derived.Test.YtpmafjmgacdgfaaDoorBase
import Derived.Test.YtpmafjmgacdgfaaDoorDirty2
import Derived.Deep.RegionHeld
namespace Go.Proofs.YtpmafjmgacdgfaaDoor
open Go.RowKit

set_option maxRecDepth 100000 in
set_option maxHeartbeats 2000000 in
theorem specCleanOf_any (b : Bond) (day c : Int) (w : World) :
    Calls Tryd.prog 20 #[.agg #[.int .i64 b.start, .int .i64 b.stop, .int .i64 b.months, .int .i64 b.rate], .int .i64 day, .int .i64 c] w fun e' w' => e' = .returned (.tuple #[.int .i64 (cleanF b day c).1, .bool (cleanF b day c).2]) ∧ w.grownBy w' none := by
  have hg0 : w.grownBy (w.alloc (.cells #[.int .i64 b.start, .int .i64 b.stop, .int .i64 b.months, .int .i64 b.rate] 25)) none := gr_alloc (gr0 _) _
  have Hb0 := hid (heap_alloc_new w (.cells #[.int .i64 b.start, .int .i64 b.stop, .int .i64 b.months, .int .i64 b.rate] 25))
  have HG := hid hg0
  have hr := acc_range b day
  have HR := hid (fun wx => specrunning_any b day wx)
  have HD := hid (show cleanF b day c = if accF b day < 0 ∨ withinB c (accF b day) (accF b day + 50000) = false then (0, false) else (c - accF b day, true) from rfl)
  clear hg0
  cases h : runB b day with
  | false =>
    have h2 := acc_no h
    rw [h2] at HD
    rw [HD.out, if_pos (by simp)]
    rw [h] at HR
    clear h h2 hr HD
    go_enter Tryd.func20, Tryd.ntmps20
    go_upto_region 1 with fail
    have hb0 := Hb0.out
    obtain ⟨W, hW⟩ : ∃ W, W = (w.alloc (.cells #[.int .i64 b.start, .int .i64 b.stop, .int .i64 b.months, .int .i64 b.rate] 25)) := ⟨_, rfl⟩
    rw [← hW] at hb0 HG ⊢
    have c0 := blk_cell hb0 0 _ rfl
    have c1 := blk_cell hb0 1 _ rfl
    have c2 := blk_cell hb0 2 _ rfl
    have c3 := blk_cell hb0 3 _ rfl
    clear hW hb0 Hb0
    refine wp_region_held_drew (S := fun w' => (w'.cell? ⟨w.heap.size, 0, none⟩ = some (.int .i64 b.start) ∧ w'.cell? ⟨w.heap.size, 1, none⟩ = some (.int .i64 b.stop) ∧ w'.cell? ⟨w.heap.size, 2, none⟩ = some (.int .i64 b.months) ∧ w'.cell? ⟨w.heap.size, 3, none⟩ = some (.int .i64 b.rate)) ∧ W.grownBy w' none) (by kernel_rfl) ⟨⟨c0, c1, c2, c3⟩, gr_drew (gr0 _)⟩ (fun hHeld => ?_)
    refine wpAnyH_take (i := 0) (v := ?_) rfl (by kernel_rfl) (by kernel_rfl) (by kernel_rfl) (fun _ _ _ h => h) (Or.inl ⟨by rfl, ?_⟩) hHeld ?_
    rotate_left
    · intro w9 hSw
      obtain ⟨⟨s0, s1, s2, s3⟩, s7⟩ := hSw
      go_simp
      all_goals (try with_reducible rfl)
    (try simp only [Act.put]); (try simp only [List.getElem_toArray]); (try simp only [List.getElem_cons_succ]); (try simp only [List.getElem_cons_zero]); (try simp only [List.setIfInBounds_toArray]); (try simp only [List.set_cons_succ]); (try simp only [List.set_cons_zero])
    refine wpAnyH_take (i := 1) (v := ?_) rfl (by kernel_rfl) (by kernel_rfl) (by kernel_rfl) (fun _ _ _ h => h) (Or.inl ⟨by rfl, ?_⟩) hHeld ?_
    rotate_left
    · intro w9 hSw
      obtain ⟨⟨s0, s1, s2, s3⟩, s7⟩ := hSw
      go_simp
      all_goals (try with_reducible rfl)
    (try simp only [Act.put]); (try simp only [List.getElem_toArray]); (try simp only [List.getElem_cons_succ]); (try simp only [List.getElem_cons_zero]); (try simp only [List.setIfInBounds_toArray]); (try simp only [List.set_cons_succ]); (try simp only [List.set_cons_zero])
    refine wpAnyH_ready (rs := [2]) (by kernel_rfl) (by simp) ?_
    refine AllReadyH.cons rfl (fun K' hK' => ?_) AllReadyH.nil
    go_simp
    refine (HR.out _).mono ?_
    rintro e' wz ⟨rfl, hgz⟩
    (try simp only [])
    have hh2 : (wz.cell? ⟨w.heap.size, 0, none⟩ = some (.int .i64 b.start) ∧ wz.cell? ⟨w.heap.size, 1, none⟩ = some (.int .i64 b.stop) ∧ wz.cell? ⟨w.heap.size, 2, none⟩ = some (.int .i64 b.months) ∧ wz.cell? ⟨w.heap.size, 3, none⟩ = some (.int .i64 b.rate)) ∧ W.grownBy wz none :=
      ⟨⟨hgz.cell hHeld.1.1 (by simp), hgz.cell hHeld.1.2.1 (by simp), hgz.cell hHeld.1.2.2.1 (by simp), hgz.cell hHeld.1.2.2.2 (by simp)⟩, gr_trans0 hHeld.2 hgz⟩
    refine hK'.out _ _ hh2 (fun hHeld2 => ?_)
    have hHeld := hHeld2
    clear hK' K' hh2 hHeld2 hgz
    (try simp only [Act.put]); (try simp only [List.getElem_toArray]); (try simp only [List.getElem_cons_succ]); (try simp only [List.getElem_cons_zero]); (try simp only [List.setIfInBounds_toArray]); (try simp only [List.set_cons_succ]); (try simp only [List.set_cons_zero])
    refine wpAnyH_take (i := 3) (v := ?_) rfl (by kernel_rfl) (by kernel_rfl) (by kernel_rfl) (fun _ _ _ h => h) (Or.inl ⟨by rfl, ?_⟩) hHeld ?_
    rotate_left
    · intro w9 hSw
      obtain ⟨⟨s0, s1, s2, s3⟩, s7⟩ := hSw
      go_simp
      all_goals (try with_reducible rfl)
    (try simp only [Act.put]); (try simp only [List.getElem_toArray]); (try simp only [List.getElem_cons_succ]); (try simp only [List.getElem_cons_zero]); (try simp only [List.setIfInBounds_toArray]); (try simp only [List.set_cons_succ]); (try simp only [List.set_cons_zero])
    refine wpAnyH_take (i := 4) (v := ?_) rfl (by kernel_rfl) (by kernel_rfl) (by kernel_rfl) (fun _ _ _ h => h) (Or.inl ⟨by rfl, ?_⟩) hHeld ?_
    rotate_left
    · intro w9 hSw
      obtain ⟨⟨s0, s1, s2, s3⟩, s7⟩ := hSw
      go_simp
      all_goals (try with_reducible rfl)
    (try simp only [Act.put]); (try simp only [List.getElem_toArray]); (try simp only [List.getElem_cons_succ]); (try simp only [List.getElem_cons_zero]); (try simp only [List.setIfInBounds_toArray]); (try simp only [List.set_cons_succ]); (try simp only [List.set_cons_zero])
    refine wpAnyH_take (i := 5) (v := undef) rfl (by kernel_rfl) (by kernel_rfl) (by kernel_rfl) (fun _ _ _ h => h) (Or.inr ⟨?_, rfl⟩) hHeld ?_
    · go_simp
    (try simp only [Act.put]); (try simp only [List.getElem_toArray]); (try simp only [List.getElem_cons_succ]); (try simp only [List.getElem_cons_zero]); (try simp only [List.setIfInBounds_toArray]); (try simp only [List.set_cons_succ]); (try simp only [List.set_cons_zero])
    refine wpAnyH_take (i := 6) (v := undef) rfl (by kernel_rfl) (by kernel_rfl) (by kernel_rfl) (fun _ _ _ h => h) (Or.inr ⟨?_, rfl⟩) hHeld ?_
    · go_simp
    (try simp only [Act.put]); (try simp only [List.getElem_toArray]); (try simp only [List.getElem_cons_succ]); (try simp only [List.getElem_cons_zero]); (try simp only [List.setIfInBounds_toArray]); (try simp only [List.set_cons_succ]); (try simp only [List.set_cons_zero])
    refine wpAnyH_take (i := 7) (v := undef) rfl (by kernel_rfl) (by kernel_rfl) (by kernel_rfl) (fun _ _ _ h => h) (Or.inr ⟨?_, rfl⟩) hHeld ?_
    · go_simp
    (try simp only [Act.put]); (try simp only [List.getElem_toArray]); (try simp only [List.getElem_cons_succ]); (try simp only [List.getElem_cons_zero]); (try simp only [List.setIfInBounds_toArray]); (try simp only [List.set_cons_succ]); (try simp only [List.set_cons_zero])
    refine wpAnyH_take (i := 8) (v := undef) rfl (by kernel_rfl) (by kernel_rfl) (by kernel_rfl) (fun _ _ _ h => h) (Or.inr ⟨?_, rfl⟩) hHeld ?_
    · go_simp
    (try simp only [Act.put]); (try simp only [List.getElem_toArray]); (try simp only [List.getElem_cons_succ]); (try simp only [List.getElem_cons_zero]); (try simp only [List.setIfInBounds_toArray]); (try simp only [List.set_cons_succ]); (try simp only [List.set_cons_zero])
    refine wpAnyH_take (i := 9) (v := undef) rfl (by kernel_rfl) (by kernel_rfl) (by kernel_rfl) (fun _ _ _ h => h) (Or.inr ⟨?_, rfl⟩) hHeld ?_
    · go_simp
    (try simp only [Act.put]); (try simp only [List.getElem_toArray]); (try simp only [List.getElem_cons_succ]); (try simp only [List.getElem_cons_zero]); (try simp only [List.setIfInBounds_toArray]); (try simp only [List.set_cons_succ]); (try simp only [List.set_cons_zero])
    refine wpAnyH_take (i := 10) (v := undef) rfl (by kernel_rfl) (by kernel_rfl) (by kernel_rfl) (fun _ _ _ h => h) (Or.inr ⟨?_, rfl⟩) hHeld ?_
    · go_simp
    (try simp only [Act.put]); (try simp only [List.getElem_toArray]); (try simp only [List.getElem_cons_succ]); (try simp only [List.getElem_cons_zero]); (try simp only [List.setIfInBounds_toArray]); (try simp only [List.set_cons_succ]); (try simp only [List.set_cons_zero])
    refine wpAnyH_take (i := 11) (v := undef) rfl (by kernel_rfl) (by kernel_rfl) (by kernel_rfl) (fun _ _ _ h => h) (Or.inr ⟨?_, rfl⟩) hHeld ?_
    · go_simp
    (try simp only [Act.put]); (try simp only [List.getElem_toArray]); (try simp only [List.getElem_cons_succ]); (try simp only [List.getElem_cons_zero]); (try simp only [List.setIfInBounds_toArray]); (try simp only [List.set_cons_succ]); (try simp only [List.set_cons_zero])
    refine wpAnyH_take (i := 12) (v := undef) rfl (by kernel_rfl) (by kernel_rfl) (by kernel_rfl) (fun _ _ _ h => h) (Or.inr ⟨?_, rfl⟩) hHeld ?_
    · go_simp
    (try simp only [Act.put]); (try simp only [List.getElem_toArray]); (try simp only [List.getElem_cons_succ]); (try simp only [List.getElem_cons_zero]); (try simp only [List.setIfInBounds_toArray]); (try simp only [List.set_cons_succ]); (try simp only [List.set_cons_zero])
    refine wpAnyH_take (i := 13) (v := undef) rfl (by kernel_rfl) (by kernel_rfl) (by kernel_rfl) (fun _ _ _ h => h) (Or.inr ⟨?_, rfl⟩) hHeld ?_
    · go_simp
    (try simp only [Act.put]); (try simp only [List.getElem_toArray]); (try simp only [List.getElem_cons_succ]); (try simp only [List.getElem_cons_zero]); (try simp only [List.setIfInBounds_toArray]); (try simp only [List.set_cons_succ]); (try simp only [List.set_cons_zero])
    refine wpAnyH_take (i := 14) (v := undef) rfl (by kernel_rfl) (by kernel_rfl) (by kernel_rfl) (fun _ _ _ h => h) (Or.inr ⟨?_, rfl⟩) hHeld ?_
    · go_simp
    (try simp only [Act.put]); (try simp only [List.getElem_toArray]); (try simp only [List.getElem_cons_succ]); (try simp only [List.getElem_cons_zero]); (try simp only [List.setIfInBounds_toArray]); (try simp only [List.set_cons_succ]); (try simp only [List.set_cons_zero])
    refine wpAnyH_take (i := 15) (v := ?_) rfl (by kernel_rfl) (by kernel_rfl) (by kernel_rfl) (fun _ _ _ h => h) (Or.inl ⟨by rfl, ?_⟩) hHeld ?_
    rotate_left
    · intro w9 hSw
      obtain ⟨⟨s0, s1, s2, s3⟩, s7⟩ := hSw
      go_simp
      all_goals (try with_reducible rfl)
    (try simp only [Act.put]); (try simp only [List.getElem_toArray]); (try simp only [List.getElem_cons_succ]); (try simp only [List.getElem_cons_zero]); (try simp only [List.setIfInBounds_toArray]); (try simp only [List.set_cons_succ]); (try simp only [List.set_cons_zero])
    refine wpAnyH_done (by kernel_rfl) ?_ _
    have HF := hid hHeld.2
    clear hHeld c0 c1 c2 c3
    go_wp2_with fail
    go_ret2
    exact ⟨rfl, gr_trans0 HG.out HF.out⟩
  | true =>
    obtain ⟨h2, h3, h4⟩ := acc_le h
    have HC := hid (fun wx => specaccrued_any b day wx h)
    rw [h] at HR
    rw [h2] at HD hr
    clear h h2
    generalize accL b day = v at *
    have hs : IntKind.i64.wrap (v + 50000) = v + 50000 := IntWalk.i64_in _ (by omega)
    cases hw : withinB c v (v + 50000) with
    | false =>
      rw [HD.out, if_pos (Or.inr hw)]
      have HW := hid hw
      clear hw HD
      go_enter Tryd.func20, Tryd.ntmps20
      go_upto_region 1 with fail
      have hb0 := Hb0.out
      obtain ⟨W, hW⟩ : ∃ W, W = (w.alloc (.cells #[.int .i64 b.start, .int .i64 b.stop, .int .i64 b.months, .int .i64 b.rate] 25)) := ⟨_, rfl⟩
      rw [← hW] at hb0 HG ⊢
      have c0 := blk_cell hb0 0 _ rfl
      have c1 := blk_cell hb0 1 _ rfl
      have c2 := blk_cell hb0 2 _ rfl
      have c3 := blk_cell hb0 3 _ rfl
      clear hW hb0 Hb0
      refine wp_region_held_drew (S := fun w' => (w'.cell? ⟨w.heap.size, 0, none⟩ = some (.int .i64 b.start) ∧ w'.cell? ⟨w.heap.size, 1, none⟩ = some (.int .i64 b.stop) ∧ w'.cell? ⟨w.heap.size, 2, none⟩ = some (.int .i64 b.months) ∧ w'.cell? ⟨w.heap.size, 3, none⟩ = some (.int .i64 b.rate)) ∧ W.grownBy w' none) (by kernel_rfl) ⟨⟨c0, c1, c2, c3⟩, gr_drew (gr0 _)⟩ (fun hHeld => ?_)
      refine wpAnyH_take (i := 0) (v := ?_) rfl (by kernel_rfl) (by kernel_rfl) (by kernel_rfl) (fun _ _ _ h => h) (Or.inl ⟨by rfl, ?_⟩) hHeld ?_
      rotate_left
      · intro w9 hSw
        obtain ⟨⟨s0, s1, s2, s3⟩, s7⟩ := hSw
        go_simp
        all_goals (try with_reducible rfl)
      (try simp only [Act.put]); (try simp only [List.getElem_toArray]); (try simp only [List.getElem_cons_succ]); (try simp only [List.getElem_cons_zero]); (try simp only [List.setIfInBounds_toArray]); (try simp only [List.set_cons_succ]); (try simp only [List.set_cons_zero])
      refine wpAnyH_take (i := 1) (v := ?_) rfl (by kernel_rfl) (by kernel_rfl) (by kernel_rfl) (fun _ _ _ h => h) (Or.inl ⟨by rfl, ?_⟩) hHeld ?_
      rotate_left
      · intro w9 hSw
        obtain ⟨⟨s0, s1, s2, s3⟩, s7⟩ := hSw
        go_simp
        all_goals (try with_reducible rfl)
      (try simp only [Act.put]); (try simp only [List.getElem_toArray]); (try simp only [List.getElem_cons_succ]); (try simp only [List.getElem_cons_zero]); (try simp only [List.setIfInBounds_toArray]); (try simp only [List.set_cons_succ]); (try simp only [List.set_cons_zero])
      refine wpAnyH_ready (rs := [2]) (by kernel_rfl) (by simp) ?_
      refine AllReadyH.cons rfl (fun K' hK' => ?_) AllReadyH.nil
      go_simp
      refine (HR.out _).mono ?_
      rintro e' wz ⟨rfl, hgz⟩
      (try simp only [])
      have hh2 : (wz.cell? ⟨w.heap.size, 0, none⟩ = some (.int .i64 b.start) ∧ wz.cell? ⟨w.heap.size, 1, none⟩ = some (.int .i64 b.stop) ∧ wz.cell? ⟨w.heap.size, 2, none⟩ = some (.int .i64 b.months) ∧ wz.cell? ⟨w.heap.size, 3, none⟩ = some (.int .i64 b.rate)) ∧ W.grownBy wz none :=
        ⟨⟨hgz.cell hHeld.1.1 (by simp), hgz.cell hHeld.1.2.1 (by simp), hgz.cell hHeld.1.2.2.1 (by simp), hgz.cell hHeld.1.2.2.2 (by simp)⟩, gr_trans0 hHeld.2 hgz⟩
      refine hK'.out _ _ hh2 (fun hHeld2 => ?_)
      have hHeld := hHeld2
      clear hK' K' hh2 hHeld2 hgz
      (try simp only [Act.put]); (try simp only [List.getElem_toArray]); (try simp only [List.getElem_cons_succ]); (try simp only [List.getElem_cons_zero]); (try simp only [List.setIfInBounds_toArray]); (try simp only [List.set_cons_succ]); (try simp only [List.set_cons_zero])
      refine wpAnyH_take (i := 3) (v := ?_) rfl (by kernel_rfl) (by kernel_rfl) (by kernel_rfl) (fun _ _ _ h => h) (Or.inl ⟨by rfl, ?_⟩) hHeld ?_
      rotate_left
      · intro w9 hSw
        obtain ⟨⟨s0, s1, s2, s3⟩, s7⟩ := hSw
        go_simp
        all_goals (try with_reducible rfl)
      (try simp only [Act.put]); (try simp only [List.getElem_toArray]); (try simp only [List.getElem_cons_succ]); (try simp only [List.getElem_cons_zero]); (try simp only [List.setIfInBounds_toArray]); (try simp only [List.set_cons_succ]); (try simp only [List.set_cons_zero])
      refine wpAnyH_take (i := 4) (v := ?_) rfl (by kernel_rfl) (by kernel_rfl) (by kernel_rfl) (fun _ _ _ h => h) (Or.inl ⟨by rfl, ?_⟩) hHeld ?_
      rotate_left
      · intro w9 hSw
        obtain ⟨⟨s0, s1, s2, s3⟩, s7⟩ := hSw
        go_simp
        all_goals (try with_reducible rfl)
      (try simp only [Act.put]); (try simp only [List.getElem_toArray]); (try simp only [List.getElem_cons_succ]); (try simp only [List.getElem_cons_zero]); (try simp only [List.setIfInBounds_toArray]); (try simp only [List.set_cons_succ]); (try simp only [List.set_cons_zero])
      refine wpAnyH_take (i := 5) (v := ?_) rfl (by kernel_rfl) (by kernel_rfl) (by kernel_rfl) (fun _ _ _ h => h) (Or.inl ⟨by rfl, ?_⟩) hHeld ?_
      rotate_left
      · intro w9 hSw
        obtain ⟨⟨s0, s1, s2, s3⟩, s7⟩ := hSw
        go_simp
        all_goals (try with_reducible rfl)
      (try simp only [Act.put]); (try simp only [List.getElem_toArray]); (try simp only [List.getElem_cons_succ]); (try simp only [List.getElem_cons_zero]); (try simp only [List.setIfInBounds_toArray]); (try simp only [List.set_cons_succ]); (try simp only [List.set_cons_zero])
      refine wpAnyH_take (i := 6) (v := ?_) rfl (by kernel_rfl) (by kernel_rfl) (by kernel_rfl) (fun _ _ _ h => h) (Or.inl ⟨by rfl, ?_⟩) hHeld ?_
      rotate_left
      · intro w9 hSw
        obtain ⟨⟨s0, s1, s2, s3⟩, s7⟩ := hSw
        go_simp
        all_goals (try with_reducible rfl)
      (try simp only [Act.put]); (try simp only [List.getElem_toArray]); (try simp only [List.getElem_cons_succ]); (try simp only [List.getElem_cons_zero]); (try simp only [List.setIfInBounds_toArray]); (try simp only [List.set_cons_succ]); (try simp only [List.set_cons_zero])
      refine wpAnyH_take (i := 7) (v := ?_) rfl (by kernel_rfl) (by kernel_rfl) (by kernel_rfl) (fun _ _ _ h => h) (Or.inl ⟨by rfl, ?_⟩) hHeld ?_
      rotate_left
      · intro w9 hSw
        obtain ⟨⟨s0, s1, s2, s3⟩, s7⟩ := hSw
        go_simp
        all_goals (try with_reducible rfl)
      (try simp only [Act.put]); (try simp only [List.getElem_toArray]); (try simp only [List.getElem_cons_succ]); (try simp only [List.getElem_cons_zero]); (try simp only [List.setIfInBounds_toArray]); (try simp only [List.set_cons_succ]); (try simp only [List.set_cons_zero])
      refine wpAnyH_take (i := 9) (v := ?_) rfl (by kernel_rfl) (by kernel_rfl) (by kernel_rfl) (fun _ _ _ h => h) (Or.inl ⟨by rfl, ?_⟩) hHeld ?_
      rotate_left
      · intro w9 hSw
        obtain ⟨⟨s0, s1, s2, s3⟩, s7⟩ := hSw
        go_simp
        all_goals (try with_reducible rfl)
      (try simp only [Act.put]); (try simp only [List.getElem_toArray]); (try simp only [List.getElem_cons_succ]); (try simp only [List.getElem_cons_zero]); (try simp only [List.setIfInBounds_toArray]); (try simp only [List.set_cons_succ]); (try simp only [List.set_cons_zero])
      refine wpAnyH_take (i := 10) (v := ?_) rfl (by kernel_rfl) (by kernel_rfl) (by kernel_rfl) (fun _ _ _ h => h) (Or.inl ⟨by rfl, ?_⟩) hHeld ?_
      rotate_left
      · intro w9 hSw
        obtain ⟨⟨s0, s1, s2, s3⟩, s7⟩ := hSw
        go_simp
        all_goals (try with_reducible rfl)
      (try simp only [Act.put]); (try simp only [List.getElem_toArray]); (try simp only [List.getElem_cons_succ]); (try simp only [List.getElem_cons_zero]); (try simp only [List.setIfInBounds_toArray]); (try simp only [List.set_cons_succ]); (try simp only [List.set_cons_zero])
      refine wpAnyH_ready (rs := [8]) (by kernel_rfl) (by simp) ?_
      refine AllReadyH.cons rfl (fun K' hK' => ?_) AllReadyH.nil
      go_simp
      refine (HC.out _).mono ?_
      rintro e' wz ⟨rfl, hgz⟩
      (try simp only [])
      have hh2 : (wz.cell? ⟨w.heap.size, 0, none⟩ = some (.int .i64 b.start) ∧ wz.cell? ⟨w.heap.size, 1, none⟩ = some (.int .i64 b.stop) ∧ wz.cell? ⟨w.heap.size, 2, none⟩ = some (.int .i64 b.months) ∧ wz.cell? ⟨w.heap.size, 3, none⟩ = some (.int .i64 b.rate)) ∧ W.grownBy wz none :=
        ⟨⟨hgz.cell hHeld.1.1 (by simp), hgz.cell hHeld.1.2.1 (by simp), hgz.cell hHeld.1.2.2.1 (by simp), hgz.cell hHeld.1.2.2.2 (by simp)⟩, gr_trans0 hHeld.2 hgz⟩
      refine hK'.out _ _ hh2 (fun hHeld2 => ?_)
      have hHeld := hHeld2
      clear hK' K' hh2 hHeld2 hgz
      (try simp only [Act.put]); (try simp only [List.getElem_toArray]); (try simp only [List.getElem_cons_succ]); (try simp only [List.getElem_cons_zero]); (try simp only [List.setIfInBounds_toArray]); (try simp only [List.set_cons_succ]); (try simp only [List.set_cons_zero])
      refine wpAnyH_ready (rs := [11]) (by kernel_rfl) (by simp) ?_
      refine AllReadyH.cons rfl (fun K' hK' => ?_) AllReadyH.nil
      go_simp
      refine (HC.out _).mono ?_
      rintro e' wz ⟨rfl, hgz⟩
      (try simp only [])
      have hh2 : (wz.cell? ⟨w.heap.size, 0, none⟩ = some (.int .i64 b.start) ∧ wz.cell? ⟨w.heap.size, 1, none⟩ = some (.int .i64 b.stop) ∧ wz.cell? ⟨w.heap.size, 2, none⟩ = some (.int .i64 b.months) ∧ wz.cell? ⟨w.heap.size, 3, none⟩ = some (.int .i64 b.rate)) ∧ W.grownBy wz none :=
        ⟨⟨hgz.cell hHeld.1.1 (by simp), hgz.cell hHeld.1.2.1 (by simp), hgz.cell hHeld.1.2.2.1 (by simp), hgz.cell hHeld.1.2.2.2 (by simp)⟩, gr_trans0 hHeld.2 hgz⟩
      refine hK'.out _ _ hh2 (fun hHeld2 => ?_)
      have hHeld := hHeld2
      clear hK' K' hh2 hHeld2 hgz
      (try simp only [Act.put]); (try simp only [List.getElem_toArray]); (try simp only [List.getElem_cons_succ]); (try simp only [List.getElem_cons_zero]); (try simp only [List.setIfInBounds_toArray]); (try simp only [List.set_cons_succ]); (try simp only [List.set_cons_zero])
      refine wpAnyH_take (i := 12) (v := ?_) rfl (by kernel_rfl) (by kernel_rfl) (by kernel_rfl) (fun _ _ _ h => h) (Or.inl ⟨by rfl, ?_⟩) hHeld ?_
      rotate_left
      · intro w9 hSw
        obtain ⟨⟨s0, s1, s2, s3⟩, s7⟩ := hSw
        go_simp
        all_goals (try with_reducible rfl)
      (try simp only [Act.put]); (try simp only [List.getElem_toArray]); (try simp only [List.getElem_cons_succ]); (try simp only [List.getElem_cons_zero]); (try simp only [List.setIfInBounds_toArray]); (try simp only [List.set_cons_succ]); (try simp only [List.set_cons_zero])
      refine wpAnyH_ready (rs := [13]) (by kernel_rfl) (by simp) ?_
      refine AllReadyH.cons rfl (fun K' hK' => ?_) AllReadyH.nil
      go_simp
      refine (inRange_any _ _ _ _).mono ?_
      rintro e' wz ⟨rfl, rfl⟩
      rw [HW.out]
      (try simp only [])
      refine hK'.out _ _ hHeld (fun _ => ?_)
      clear hK' K'
      (try simp only [Act.put]); (try simp only [List.getElem_toArray]); (try simp only [List.getElem_cons_succ]); (try simp only [List.getElem_cons_zero]); (try simp only [List.setIfInBounds_toArray]); (try simp only [List.set_cons_succ]); (try simp only [List.set_cons_zero])
      refine wpAnyH_take (i := 14) (v := ?_) rfl (by kernel_rfl) (by kernel_rfl) (by kernel_rfl) (fun _ _ _ h => h) (Or.inl ⟨by rfl, ?_⟩) hHeld ?_
      rotate_left
      · intro w9 hSw
        obtain ⟨⟨s0, s1, s2, s3⟩, s7⟩ := hSw
        go_simp
        all_goals (try with_reducible rfl)
      (try simp only [Act.put]); (try simp only [List.getElem_toArray]); (try simp only [List.getElem_cons_succ]); (try simp only [List.getElem_cons_zero]); (try simp only [List.setIfInBounds_toArray]); (try simp only [List.set_cons_succ]); (try simp only [List.set_cons_zero])
      refine wpAnyH_take (i := 15) (v := ?_) rfl (by kernel_rfl) (by kernel_rfl) (by kernel_rfl) (fun _ _ _ h => h) (Or.inl ⟨by rfl, ?_⟩) hHeld ?_
      rotate_left
      · intro w9 hSw
        obtain ⟨⟨s0, s1, s2, s3⟩, s7⟩ := hSw
        go_simp
        all_goals (try with_reducible rfl)
      (try simp only [Act.put]); (try simp only [List.getElem_toArray]); (try simp only [List.getElem_cons_succ]); (try simp only [List.getElem_cons_zero]); (try simp only [List.setIfInBounds_toArray]); (try simp only [List.set_cons_succ]); (try simp only [List.set_cons_zero])
      refine wpAnyH_done (by kernel_rfl) ?_ _
      have HF := hid hHeld.2
      have HD0 := hid hHeld.1
      clear hHeld c0 c1 c2 c3
      go_wp2_with fail
      go_ret2
      exact ⟨rfl, gr_trans0 HG.out HF.out⟩
    | true =>
      rw [HD.out, if_neg (by rw [hw]; simp; omega)]
      have HW := hid hw
      obtain ⟨hc0, hc1⟩ := (within_iff' _ _ _).1 hw
      have hs2 : IntKind.i64.wrap (c - v) = c - v := IntWalk.i64_in _ (by omega)
      clear hw HD
      go_enter Tryd.func20, Tryd.ntmps20
      go_upto_region 1 with fail
      have hb0 := Hb0.out
      obtain ⟨W, hW⟩ : ∃ W, W = (w.alloc (.cells #[.int .i64 b.start, .int .i64 b.stop, .int .i64 b.months, .int .i64 b.rate] 25)) := ⟨_, rfl⟩
      rw [← hW] at hb0 HG ⊢
      have c0 := blk_cell hb0 0 _ rfl
      have c1 := blk_cell hb0 1 _ rfl
      have c2 := blk_cell hb0 2 _ rfl
      have c3 := blk_cell hb0 3 _ rfl
      clear hW hb0 Hb0
      refine wp_region_held_drew (S := fun w' => (w'.cell? ⟨w.heap.size, 0, none⟩ = some (.int .i64 b.start) ∧ w'.cell? ⟨w.heap.size, 1, none⟩ = some (.int .i64 b.stop) ∧ w'.cell? ⟨w.heap.size, 2, none⟩ = some (.int .i64 b.months) ∧ w'.cell? ⟨w.heap.size, 3, none⟩ = some (.int .i64 b.rate)) ∧ W.grownBy w' none) (by kernel_rfl) ⟨⟨c0, c1, c2, c3⟩, gr_drew (gr0 _)⟩ (fun hHeld => ?_)
      refine wpAnyH_take (i := 0) (v := ?_) rfl (by kernel_rfl) (by kernel_rfl) (by kernel_rfl) (fun _ _ _ h => h) (Or.inl ⟨by rfl, ?_⟩) hHeld ?_
      rotate_left
      · intro w9 hSw
        obtain ⟨⟨s0, s1, s2, s3⟩, s7⟩ := hSw
        go_simp
        all_goals (try with_reducible rfl)
      (try simp only [Act.put]); (try simp only [List.getElem_toArray]); (try simp only [List.getElem_cons_succ]); (try simp only [List.getElem_cons_zero]); (try simp only [List.setIfInBounds_toArray]); (try simp only [List.set_cons_succ]); (try simp only [List.set_cons_zero])
      refine wpAnyH_take (i := 1) (v := ?_) rfl (by kernel_rfl) (by kernel_rfl) (by kernel_rfl) (fun _ _ _ h => h) (Or.inl ⟨by rfl, ?_⟩) hHeld ?_
      rotate_left
      · intro w9 hSw
        obtain ⟨⟨s0, s1, s2, s3⟩, s7⟩ := hSw
        go_simp
        all_goals (try with_reducible rfl)
      (try simp only [Act.put]); (try simp only [List.getElem_toArray]); (try simp only [List.getElem_cons_succ]); (try simp only [List.getElem_cons_zero]); (try simp only [List.setIfInBounds_toArray]); (try simp only [List.set_cons_succ]); (try simp only [List.set_cons_zero])
      refine wpAnyH_ready (rs := [2]) (by kernel_rfl) (by simp) ?_
      refine AllReadyH.cons rfl (fun K' hK' => ?_) AllReadyH.nil
      go_simp
      refine (HR.out _).mono ?_
      rintro e' wz ⟨rfl, hgz⟩
      (try simp only [])
      have hh2 : (wz.cell? ⟨w.heap.size, 0, none⟩ = some (.int .i64 b.start) ∧ wz.cell? ⟨w.heap.size, 1, none⟩ = some (.int .i64 b.stop) ∧ wz.cell? ⟨w.heap.size, 2, none⟩ = some (.int .i64 b.months) ∧ wz.cell? ⟨w.heap.size, 3, none⟩ = some (.int .i64 b.rate)) ∧ W.grownBy wz none :=
        ⟨⟨hgz.cell hHeld.1.1 (by simp), hgz.cell hHeld.1.2.1 (by simp), hgz.cell hHeld.1.2.2.1 (by simp), hgz.cell hHeld.1.2.2.2 (by simp)⟩, gr_trans0 hHeld.2 hgz⟩
      refine hK'.out _ _ hh2 (fun hHeld2 => ?_)
      have hHeld := hHeld2
      clear hK' K' hh2 hHeld2 hgz
      (try simp only [Act.put]); (try simp only [List.getElem_toArray]); (try simp only [List.getElem_cons_succ]); (try simp only [List.getElem_cons_zero]); (try simp only [List.setIfInBounds_toArray]); (try simp only [List.set_cons_succ]); (try simp only [List.set_cons_zero])
      refine wpAnyH_take (i := 3) (v := ?_) rfl (by kernel_rfl) (by kernel_rfl) (by kernel_rfl) (fun _ _ _ h => h) (Or.inl ⟨by rfl, ?_⟩) hHeld ?_
      rotate_left
      · intro w9 hSw
        obtain ⟨⟨s0, s1, s2, s3⟩, s7⟩ := hSw
        go_simp
        all_goals (try with_reducible rfl)
      (try simp only [Act.put]); (try simp only [List.getElem_toArray]); (try simp only [List.getElem_cons_succ]); (try simp only [List.getElem_cons_zero]); (try simp only [List.setIfInBounds_toArray]); (try simp only [List.set_cons_succ]); (try simp only [List.set_cons_zero])
      refine wpAnyH_take (i := 4) (v := ?_) rfl (by kernel_rfl) (by kernel_rfl) (by kernel_rfl) (fun _ _ _ h => h) (Or.inl ⟨by rfl, ?_⟩) hHeld ?_
      rotate_left
      · intro w9 hSw
        obtain ⟨⟨s0, s1, s2, s3⟩, s7⟩ := hSw
        go_simp
        all_goals (try with_reducible rfl)
      (try simp only [Act.put]); (try simp only [List.getElem_toArray]); (try simp only [List.getElem_cons_succ]); (try simp only [List.getElem_cons_zero]); (try simp only [List.setIfInBounds_toArray]); (try simp only [List.set_cons_succ]); (try simp only [List.set_cons_zero])
      refine wpAnyH_take (i := 5) (v := ?_) rfl (by kernel_rfl) (by kernel_rfl) (by kernel_rfl) (fun _ _ _ h => h) (Or.inl ⟨by rfl, ?_⟩) hHeld ?_
      rotate_left
      · intro w9 hSw
        obtain ⟨⟨s0, s1, s2, s3⟩, s7⟩ := hSw
        go_simp
        all_goals (try with_reducible rfl)
      (try simp only [Act.put]); (try simp only [List.getElem_toArray]); (try simp only [List.getElem_cons_succ]); (try simp only [List.getElem_cons_zero]); (try simp only [List.setIfInBounds_toArray]); (try simp only [List.set_cons_succ]); (try simp only [List.set_cons_zero])
      refine wpAnyH_take (i := 6) (v := ?_) rfl (by kernel_rfl) (by kernel_rfl) (by kernel_rfl) (fun _ _ _ h => h) (Or.inl ⟨by rfl, ?_⟩) hHeld ?_
      rotate_left
      · intro w9 hSw
        obtain ⟨⟨s0, s1, s2, s3⟩, s7⟩ := hSw
        go_simp
        all_goals (try with_reducible rfl)
      (try simp only [Act.put]); (try simp only [List.getElem_toArray]); (try simp only [List.getElem_cons_succ]); (try simp only [List.getElem_cons_zero]); (try simp only [List.setIfInBounds_toArray]); (try simp only [List.set_cons_succ]); (try simp only [List.set_cons_zero])
      refine wpAnyH_take (i := 7) (v := ?_) rfl (by kernel_rfl) (by kernel_rfl) (by kernel_rfl) (fun _ _ _ h => h) (Or.inl ⟨by rfl, ?_⟩) hHeld ?_
      rotate_left
      · intro w9 hSw
        obtain ⟨⟨s0, s1, s2, s3⟩, s7⟩ := hSw
        go_simp
        all_goals (try with_reducible rfl)
      (try simp only [Act.put]); (try simp only [List.getElem_toArray]); (try simp only [List.getElem_cons_succ]); (try simp only [List.getElem_cons_zero]); (try simp only [List.setIfInBounds_toArray]); (try simp only [List.set_cons_succ]); (try simp only [List.set_cons_zero])
      refine wpAnyH_take (i := 9) (v := ?_) rfl (by kernel_rfl) (by kernel_rfl) (by kernel_rfl) (fun _ _ _ h => h) (Or.inl ⟨by rfl, ?_⟩) hHeld ?_
      rotate_left
      · intro w9 hSw
        obtain ⟨⟨s0, s1, s2, s3⟩, s7⟩ := hSw
        go_simp
        all_goals (try with_reducible rfl)
      (try simp only [Act.put]); (try simp only [List.getElem_toArray]); (try simp only [List.getElem_cons_succ]); (try simp only [List.getElem_cons_zero]); (try simp only [List.setIfInBounds_toArray]); (try simp only [List.set_cons_succ]); (try simp only [List.set_cons_zero])
      refine wpAnyH_take (i := 10) (v := ?_) rfl (by kernel_rfl) (by kernel_rfl) (by kernel_rfl) (fun _ _ _ h => h) (Or.inl ⟨by rfl, ?_⟩) hHeld ?_
      rotate_left
      · intro w9 hSw
        obtain ⟨⟨s0, s1, s2, s3⟩, s7⟩ := hSw
        go_simp
        all_goals (try with_reducible rfl)
      (try simp only [Act.put]); (try simp only [List.getElem_toArray]); (try simp only [List.getElem_cons_succ]); (try simp only [List.getElem_cons_zero]); (try simp only [List.setIfInBounds_toArray]); (try simp only [List.set_cons_succ]); (try simp only [List.set_cons_zero])
      refine wpAnyH_ready (rs := [8]) (by kernel_rfl) (by simp) ?_
      refine AllReadyH.cons rfl (fun K' hK' => ?_) AllReadyH.nil
      go_simp
      refine (HC.out _).mono ?_
      rintro e' wz ⟨rfl, hgz⟩
      (try simp only [])
      have hh2 : (wz.cell? ⟨w.heap.size, 0, none⟩ = some (.int .i64 b.start) ∧ wz.cell? ⟨w.heap.size, 1, none⟩ = some (.int .i64 b.stop) ∧ wz.cell? ⟨w.heap.size, 2, none⟩ = some (.int .i64 b.months) ∧ wz.cell? ⟨w.heap.size, 3, none⟩ = some (.int .i64 b.rate)) ∧ W.grownBy wz none :=
        ⟨⟨hgz.cell hHeld.1.1 (by simp), hgz.cell hHeld.1.2.1 (by simp), hgz.cell hHeld.1.2.2.1 (by simp), hgz.cell hHeld.1.2.2.2 (by simp)⟩, gr_trans0 hHeld.2 hgz⟩
      refine hK'.out _ _ hh2 (fun hHeld2 => ?_)
      have hHeld := hHeld2
      clear hK' K' hh2 hHeld2 hgz
      (try simp only [Act.put]); (try simp only [List.getElem_toArray]); (try simp only [List.getElem_cons_succ]); (try simp only [List.getElem_cons_zero]); (try simp only [List.setIfInBounds_toArray]); (try simp only [List.set_cons_succ]); (try simp only [List.set_cons_zero])
      refine wpAnyH_ready (rs := [11]) (by kernel_rfl) (by simp) ?_
      refine AllReadyH.cons rfl (fun K' hK' => ?_) AllReadyH.nil
      go_simp
      refine (HC.out _).mono ?_
      rintro e' wz ⟨rfl, hgz⟩
      (try simp only [])
      have hh2 : (wz.cell? ⟨w.heap.size, 0, none⟩ = some (.int .i64 b.start) ∧ wz.cell? ⟨w.heap.size, 1, none⟩ = some (.int .i64 b.stop) ∧ wz.cell? ⟨w.heap.size, 2, none⟩ = some (.int .i64 b.months) ∧ wz.cell? ⟨w.heap.size, 3, none⟩ = some (.int .i64 b.rate)) ∧ W.grownBy wz none :=
        ⟨⟨hgz.cell hHeld.1.1 (by simp), hgz.cell hHeld.1.2.1 (by simp), hgz.cell hHeld.1.2.2.1 (by simp), hgz.cell hHeld.1.2.2.2 (by simp)⟩, gr_trans0 hHeld.2 hgz⟩
      refine hK'.out _ _ hh2 (fun hHeld2 => ?_)
      have hHeld := hHeld2
      clear hK' K' hh2 hHeld2 hgz
      (try simp only [Act.put]); (try simp only [List.getElem_toArray]); (try simp only [List.getElem_cons_succ]); (try simp only [List.getElem_cons_zero]); (try simp only [List.setIfInBounds_toArray]); (try simp only [List.set_cons_succ]); (try simp only [List.set_cons_zero])
      refine wpAnyH_take (i := 12) (v := ?_) rfl (by kernel_rfl) (by kernel_rfl) (by kernel_rfl) (fun _ _ _ h => h) (Or.inl ⟨by rfl, ?_⟩) hHeld ?_
      rotate_left
      · intro w9 hSw
        obtain ⟨⟨s0, s1, s2, s3⟩, s7⟩ := hSw
        go_simp
        all_goals (try with_reducible rfl)
      (try simp only [Act.put]); (try simp only [List.getElem_toArray]); (try simp only [List.getElem_cons_succ]); (try simp only [List.getElem_cons_zero]); (try simp only [List.setIfInBounds_toArray]); (try simp only [List.set_cons_succ]); (try simp only [List.set_cons_zero])
      refine wpAnyH_ready (rs := [13]) (by kernel_rfl) (by simp) ?_
      refine AllReadyH.cons rfl (fun K' hK' => ?_) AllReadyH.nil
      go_simp
      refine (inRange_any _ _ _ _).mono ?_
      rintro e' wz ⟨rfl, rfl⟩
      rw [HW.out]
      (try simp only [])
      refine hK'.out _ _ hHeld (fun _ => ?_)
      clear hK' K'
      (try simp only [Act.put]); (try simp only [List.getElem_toArray]); (try simp only [List.getElem_cons_succ]); (try simp only [List.getElem_cons_zero]); (try simp only [List.setIfInBounds_toArray]); (try simp only [List.set_cons_succ]); (try simp only [List.set_cons_zero])
      refine wpAnyH_take (i := 14) (v := ?_) rfl (by kernel_rfl) (by kernel_rfl) (by kernel_rfl) (fun _ _ _ h => h) (Or.inl ⟨by rfl, ?_⟩) hHeld ?_
      rotate_left
      · intro w9 hSw
        obtain ⟨⟨s0, s1, s2, s3⟩, s7⟩ := hSw
        go_simp
        all_goals (try with_reducible rfl)
      (try simp only [Act.put]); (try simp only [List.getElem_toArray]); (try simp only [List.getElem_cons_succ]); (try simp only [List.getElem_cons_zero]); (try simp only [List.setIfInBounds_toArray]); (try simp only [List.set_cons_succ]); (try simp only [List.set_cons_zero])
      refine wpAnyH_take (i := 15) (v := ?_) rfl (by kernel_rfl) (by kernel_rfl) (by kernel_rfl) (fun _ _ _ h => h) (Or.inl ⟨by rfl, ?_⟩) hHeld ?_
      rotate_left
      · intro w9 hSw
        obtain ⟨⟨s0, s1, s2, s3⟩, s7⟩ := hSw
        go_simp
        all_goals (try with_reducible rfl)
      (try simp only [Act.put]); (try simp only [List.getElem_toArray]); (try simp only [List.getElem_cons_succ]); (try simp only [List.getElem_cons_zero]); (try simp only [List.setIfInBounds_toArray]); (try simp only [List.set_cons_succ]); (try simp only [List.set_cons_zero])
      refine wpAnyH_done (by kernel_rfl) ?_ _
      have HF := hid hHeld.2
      have HD0 := hid hHeld.1
      clear hHeld c0 c1 c2 c3
      obtain ⟨d0, d1, d2, d3⟩ := HD0.out
      go_wp2_with fail
      refine (HC.out _).mono ?_
      rintro e' w3 ⟨rfl, hg⟩
      have HF3 := hid (gr_trans0 HF.out hg)
      clear hg d0 d1 d2 d3
      go_wp2_with fail
      go_ret2
      exact ⟨rfl, gr_trans0 HG.out HF3.out⟩

end Go.Proofs.YtpmafjmgacdgfaaDoor
