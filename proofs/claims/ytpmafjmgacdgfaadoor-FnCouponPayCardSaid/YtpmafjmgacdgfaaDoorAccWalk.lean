/- Accrued interest; the program's AccruedOf, DirtyOf and CleanOf. -/
import Derived.Test.YtpmafjmgacdgfaaDoorRows
import Derived.Test.YtpmafjmgacdgfaaDoorBase
import Derived.Test.YtpmafjmgacdgfaaDoorRunWalk
import Derived.IntWalk
import Derived.Deep.RegionHeld
namespace Go.Proofs.YtpmafjmgacdgfaaDoor
open Go.RowKit

set_option maxRecDepth 100000 in
set_option maxHeartbeats 1000000 in
theorem AccruedOf_any (b : Bond) (day : Int) (w : World) (hw : Months w) :
    Calls Tryd.prog 19 #[.agg #[.int .i64 b.start, .int .i64 b.stop, .int .i64 b.months, .int .i64 b.rate], .int .i64 day] w fun e' w' => e' = .returned (.int .i64 (accF b day)) ∧ w.grownBy w' none := by
  have hg0 : w.grownBy (w.alloc (.cells #[.int .i64 b.start, .int .i64 b.stop, .int .i64 b.months, .int .i64 b.rate] 25)) none := gr_alloc (gr0 _) _
  have Hm0 := hid (hw.keep0 hg0)
  have Hb0 := hid (heap_alloc_new w (.cells #[.int .i64 b.start, .int .i64 b.stop, .int .i64 b.months, .int .i64 b.rate] 25))
  have hw0 := hw
  clear hw
  by_cases h : runB b day = true
  · obtain ⟨hok, hd0, hd1⟩ := run_facts h
    have H := hid (show accF b day = accL b day by unfold accF; rw [if_pos h])
    have HR := hid (runningYes_any b day _ Hm0.out h)
    obtain ⟨t1, t2, t3, t4, t5⟩ := perAt_spec hok day hd0 hd1
    have hpp := pers_okPer hok _ t4
    have hcb := coup_bd hok _ hpp
    have HA := hid (show accL b day = (2 * (coupF b (perAt b day) * (day - (perAt b day).frm)) + ((perAt b day).till - (perAt b day).frm)) / (2 * ((perAt b day).till - (perAt b day).frm)) from rfl)
    have hpl : (persF b).length ≤ 40 := by unfold persF; rw [sched_len]; exact hok.span.q2
    generalize hpe : perAt b day = p at *
    have hf0 := hpp.f0; have hft := hpp.ft; have ht1 := hpp.t1
    have hx0 : 0 ≤ coupF b p * (day - p.frm) := Int.mul_nonneg hcb.1 (by omega)
    have hx1 : coupF b p * (day - p.frm) ≤ 3000 * 36524 := Int.le_trans (Int.mul_le_mul_of_nonneg_right hcb.2 (by omega)) (Int.mul_le_mul_of_nonneg_left (by omega) (by omega))
    have Hok := hid hok; have Hpp := hid hpp; have HT1 := hid t1
    clear hok hpp t1 t4 h hpe
    generalize hat : atF (persF b) day = at1 at *
    have Hat := hid hat
    clear hat
    go_enter Tryd.func19, Tryd.ntmps19
    go_wp2_with fail
    refine HR.out.mono ?_
    rintro e' w1 ⟨a, n, cap, rfl, ho, hcap, hg1⟩
    have hnl := ho.len
    obtain ⟨b1, o1, z, rfl, hz, c0, c1, c2⟩ := per_at ho.sl at1 (by omega)
    rw [HT1.out] at hz
    obtain rfl := Option.some.inj hz
    have hi0 : (0 : Int) ≤ at1 := by omega
    have hi1 : (at1 : Int) < n := by omega
    have Hg1 := hid (gr_trans0 hg0 hg1)
    have Hb1 := hid (blk_keep Hb0.out hg1 (by simp))
    clear ho hz hg1 hnl hcap
    go_wp2_with fail
    have hgD : w.grownBy (w1.alloc (.cells #[.int .i64 p.frm, .int .i64 p.till, .bool p.whole] 51)) none := gr_alloc Hg1.out _
    have hb2 := blk_alloc Hb1.out (.cells #[.int .i64 p.frm, .int .i64 p.till, .bool p.whole] 51)
    have hb3 := heap_alloc_new w1 (.cells #[.int .i64 p.frm, .int .i64 p.till, .bool p.whole] 51)
    obtain ⟨P, hP⟩ : ∃ P, P = w1.heap.size := ⟨_, rfl⟩
    rw [← hP] at hb3 ⊢
    obtain ⟨W, hW⟩ : ∃ W, W = (w1.alloc (.cells #[.int .i64 p.frm, .int .i64 p.till, .bool p.whole] 51)) := ⟨_, rfl⟩
    rw [← hW] at hb2 hb3 hgD ⊢
    clear hW hP c0 c1 c2
    have c0 := blk_cell hb2 0 _ rfl
    have c1 := blk_cell hb2 1 _ rfl
    have c2 := blk_cell hb2 2 _ rfl
    have c3 := blk_cell hb2 3 _ rfl
    have q0 := blk_cell hb3 0 _ rfl
    have q1 := blk_cell hb3 1 _ rfl
    have q2 := blk_cell hb3 2 _ rfl
    have HgD := hid hgD
    have HmW : Hid (Months W) := hid (hw0.keep0 hgD)
    have hs1 : IntKind.i64.wrap (day - p.frm) = day - p.frm := IntWalk.i64_in _ (by omega)
    have hs2 : IntKind.i64.wrap (p.till - p.frm) = p.till - p.frm := IntWalk.i64_in _ (by omega)
    have hs3 : IntKind.i64.wrap (coupF b p * (day - p.frm)) = coupF b p * (day - p.frm) := IntWalk.i64_in _ (by omega)
    have HC := hid (fun wx (h : W.grownBy wx none) => coupon_any b p wx Hok.out Hpp.out (HmW.out.keep0 h))
    have HN := hid (fun wx => nearest_any (coupF b p * (day - p.frm)) (p.till - p.frm) wx (by omega) (by omega) (by omega) (by omega))
    clear hb2 hb3 hgD
    refine wp_region_held_drew (S := fun w' => ((w'.cell? ⟨w.heap.size, 0, none⟩ = some (.int .i64 b.start) ∧ w'.cell? ⟨w.heap.size, 1, none⟩ = some (.int .i64 b.stop) ∧ w'.cell? ⟨w.heap.size, 2, none⟩ = some (.int .i64 b.months) ∧ w'.cell? ⟨w.heap.size, 3, none⟩ = some (.int .i64 b.rate)) ∧ w'.cell? ⟨P, 0, none⟩ = some (.int .i64 p.frm) ∧ w'.cell? ⟨P, 1, none⟩ = some (.int .i64 p.till) ∧ w'.cell? ⟨P, 2, none⟩ = some (.bool p.whole)) ∧ W.grownBy w' none) (by kernel_rfl) ⟨⟨⟨c0, c1, c2, c3⟩, q0, q1, q2⟩, gr_drew (gr0 _)⟩ (fun hHeld => ?_)
    refine wpAnyH_take (i := 0) (v := ?_) rfl (by kernel_rfl) (by kernel_rfl) (by kernel_rfl) (fun _ _ _ h => h) (Or.inl ⟨by rfl, ?_⟩) hHeld ?_
    rotate_left
    · intro w9 hSw
      obtain ⟨⟨⟨s0, s1, s2, s3⟩, s4, s5, s6⟩, s7⟩ := hSw
      go_simp
      all_goals (try with_reducible rfl)
    (try simp only [Act.put]); (try simp only [List.getElem_toArray]); (try simp only [List.getElem_cons_succ]); (try simp only [List.getElem_cons_zero]); (try simp only [List.setIfInBounds_toArray]); (try simp only [List.set_cons_succ]); (try simp only [List.set_cons_zero])
    refine wpAnyH_take (i := 1) (v := ?_) rfl (by kernel_rfl) (by kernel_rfl) (by kernel_rfl) (fun _ _ _ h => h) (Or.inl ⟨by rfl, ?_⟩) hHeld ?_
    rotate_left
    · intro w9 hSw
      obtain ⟨⟨⟨s0, s1, s2, s3⟩, s4, s5, s6⟩, s7⟩ := hSw
      go_simp
      all_goals (try with_reducible rfl)
    (try simp only [Act.put]); (try simp only [List.getElem_toArray]); (try simp only [List.getElem_cons_succ]); (try simp only [List.getElem_cons_zero]); (try simp only [List.setIfInBounds_toArray]); (try simp only [List.set_cons_succ]); (try simp only [List.set_cons_zero])
    refine wpAnyH_take (i := 3) (v := ?_) rfl (by kernel_rfl) (by kernel_rfl) (by kernel_rfl) (fun _ _ _ h => h) (Or.inl ⟨by rfl, ?_⟩) hHeld ?_
    rotate_left
    · intro w9 hSw
      obtain ⟨⟨⟨s0, s1, s2, s3⟩, s4, s5, s6⟩, s7⟩ := hSw
      go_simp
      all_goals (try with_reducible rfl)
    (try simp only [Act.put]); (try simp only [List.getElem_toArray]); (try simp only [List.getElem_cons_succ]); (try simp only [List.getElem_cons_zero]); (try simp only [List.setIfInBounds_toArray]); (try simp only [List.set_cons_succ]); (try simp only [List.set_cons_zero])
    refine wpAnyH_take (i := 4) (v := ?_) rfl (by kernel_rfl) (by kernel_rfl) (by kernel_rfl) (fun _ _ _ h => h) (Or.inl ⟨by rfl, ?_⟩) hHeld ?_
    rotate_left
    · intro w9 hSw
      obtain ⟨⟨⟨s0, s1, s2, s3⟩, s4, s5, s6⟩, s7⟩ := hSw
      go_simp
      all_goals (try with_reducible rfl)
    (try simp only [Act.put]); (try simp only [List.getElem_toArray]); (try simp only [List.getElem_cons_succ]); (try simp only [List.getElem_cons_zero]); (try simp only [List.setIfInBounds_toArray]); (try simp only [List.set_cons_succ]); (try simp only [List.set_cons_zero])
    refine wpAnyH_take (i := 5) (v := ?_) rfl (by kernel_rfl) (by kernel_rfl) (by kernel_rfl) (fun _ _ _ h => h) (Or.inl ⟨by rfl, ?_⟩) hHeld ?_
    rotate_left
    · intro w9 hSw
      obtain ⟨⟨⟨s0, s1, s2, s3⟩, s4, s5, s6⟩, s7⟩ := hSw
      go_simp
      all_goals (try with_reducible rfl)
    (try simp only [Act.put]); (try simp only [List.getElem_toArray]); (try simp only [List.getElem_cons_succ]); (try simp only [List.getElem_cons_zero]); (try simp only [List.setIfInBounds_toArray]); (try simp only [List.set_cons_succ]); (try simp only [List.set_cons_zero])
    refine wpAnyH_take (i := 6) (v := ?_) rfl (by kernel_rfl) (by kernel_rfl) (by kernel_rfl) (fun _ _ _ h => h) (Or.inl ⟨by rfl, ?_⟩) hHeld ?_
    rotate_left
    · intro w9 hSw
      obtain ⟨⟨⟨s0, s1, s2, s3⟩, s4, s5, s6⟩, s7⟩ := hSw
      go_simp
      all_goals (try with_reducible rfl)
    (try simp only [Act.put]); (try simp only [List.getElem_toArray]); (try simp only [List.getElem_cons_succ]); (try simp only [List.getElem_cons_zero]); (try simp only [List.setIfInBounds_toArray]); (try simp only [List.set_cons_succ]); (try simp only [List.set_cons_zero])
    (try simp only [hs1])
    refine wpAnyH_take (i := 8) (v := ?_) rfl (by kernel_rfl) (by kernel_rfl) (by kernel_rfl) (fun _ _ _ h => h) (Or.inl ⟨by rfl, ?_⟩) hHeld ?_
    rotate_left
    · intro w9 hSw
      obtain ⟨⟨⟨s0, s1, s2, s3⟩, s4, s5, s6⟩, s7⟩ := hSw
      go_simp
      all_goals (try with_reducible rfl)
    (try simp only [Act.put]); (try simp only [List.getElem_toArray]); (try simp only [List.getElem_cons_succ]); (try simp only [List.getElem_cons_zero]); (try simp only [List.setIfInBounds_toArray]); (try simp only [List.set_cons_succ]); (try simp only [List.set_cons_zero])
    refine wpAnyH_take (i := 9) (v := ?_) rfl (by kernel_rfl) (by kernel_rfl) (by kernel_rfl) (fun _ _ _ h => h) (Or.inl ⟨by rfl, ?_⟩) hHeld ?_
    rotate_left
    · intro w9 hSw
      obtain ⟨⟨⟨s0, s1, s2, s3⟩, s4, s5, s6⟩, s7⟩ := hSw
      go_simp
      all_goals (try with_reducible rfl)
    (try simp only [Act.put]); (try simp only [List.getElem_toArray]); (try simp only [List.getElem_cons_succ]); (try simp only [List.getElem_cons_zero]); (try simp only [List.setIfInBounds_toArray]); (try simp only [List.set_cons_succ]); (try simp only [List.set_cons_zero])
    refine wpAnyH_take (i := 10) (v := ?_) rfl (by kernel_rfl) (by kernel_rfl) (by kernel_rfl) (fun _ _ _ h => h) (Or.inl ⟨by rfl, ?_⟩) hHeld ?_
    rotate_left
    · intro w9 hSw
      obtain ⟨⟨⟨s0, s1, s2, s3⟩, s4, s5, s6⟩, s7⟩ := hSw
      go_simp
      all_goals (try with_reducible rfl)
    (try simp only [Act.put]); (try simp only [List.getElem_toArray]); (try simp only [List.getElem_cons_succ]); (try simp only [List.getElem_cons_zero]); (try simp only [List.setIfInBounds_toArray]); (try simp only [List.set_cons_succ]); (try simp only [List.set_cons_zero])
    refine wpAnyH_take (i := 11) (v := ?_) rfl (by kernel_rfl) (by kernel_rfl) (by kernel_rfl) (fun _ _ _ h => h) (Or.inl ⟨by rfl, ?_⟩) hHeld ?_
    rotate_left
    · intro w9 hSw
      obtain ⟨⟨⟨s0, s1, s2, s3⟩, s4, s5, s6⟩, s7⟩ := hSw
      go_simp
      all_goals (try with_reducible rfl)
    (try simp only [Act.put]); (try simp only [List.getElem_toArray]); (try simp only [List.getElem_cons_succ]); (try simp only [List.getElem_cons_zero]); (try simp only [List.setIfInBounds_toArray]); (try simp only [List.set_cons_succ]); (try simp only [List.set_cons_zero])
    refine wpAnyH_take (i := 12) (v := ?_) rfl (by kernel_rfl) (by kernel_rfl) (by kernel_rfl) (fun _ _ _ h => h) (Or.inl ⟨by rfl, ?_⟩) hHeld ?_
    rotate_left
    · intro w9 hSw
      obtain ⟨⟨⟨s0, s1, s2, s3⟩, s4, s5, s6⟩, s7⟩ := hSw
      go_simp
      all_goals (try with_reducible rfl)
    (try simp only [Act.put]); (try simp only [List.getElem_toArray]); (try simp only [List.getElem_cons_succ]); (try simp only [List.getElem_cons_zero]); (try simp only [List.setIfInBounds_toArray]); (try simp only [List.set_cons_succ]); (try simp only [List.set_cons_zero])
    (try simp only [hs2])
    refine wpAnyH_ready (rs := [2]) (by kernel_rfl) (by simp) ?_
    refine AllReadyH.cons rfl (fun K' hK' => ?_) AllReadyH.nil
    go_simp
    refine (HC.out _ (gr_drew (gr0 _))).mono ?_
    rintro e' w5 ⟨rfl, hg5⟩
    (try simp only [])
    have hh2 : ((w5.cell? ⟨w.heap.size, 0, none⟩ = some (.int .i64 b.start) ∧ w5.cell? ⟨w.heap.size, 1, none⟩ = some (.int .i64 b.stop) ∧ w5.cell? ⟨w.heap.size, 2, none⟩ = some (.int .i64 b.months) ∧ w5.cell? ⟨w.heap.size, 3, none⟩ = some (.int .i64 b.rate)) ∧ w5.cell? ⟨P, 0, none⟩ = some (.int .i64 p.frm) ∧ w5.cell? ⟨P, 1, none⟩ = some (.int .i64 p.till) ∧ w5.cell? ⟨P, 2, none⟩ = some (.bool p.whole)) ∧ W.grownBy w5 none :=
      ⟨⟨⟨hg5.cell hHeld.1.1.1 (by simp), hg5.cell hHeld.1.1.2.1 (by simp), hg5.cell hHeld.1.1.2.2.1 (by simp), hg5.cell hHeld.1.1.2.2.2 (by simp)⟩, hg5.cell hHeld.1.2.1 (by simp), hg5.cell hHeld.1.2.2.1 (by simp), hg5.cell hHeld.1.2.2.2 (by simp)⟩, gr_trans0 hHeld.2 hg5⟩
    refine hK'.out _ _ hh2 (fun hHeld2 => ?_)
    clear hK' K' hh2
    (try simp only [Act.put]); (try simp only [List.getElem_toArray]); (try simp only [List.getElem_cons_succ]); (try simp only [List.getElem_cons_zero]); (try simp only [List.setIfInBounds_toArray]); (try simp only [List.set_cons_succ]); (try simp only [List.set_cons_zero])
    refine wpAnyH_take (i := 7) (v := ?_) rfl (by kernel_rfl) (by kernel_rfl) (by kernel_rfl) (fun _ _ _ h => h) (Or.inl ⟨by rfl, ?_⟩) hHeld2 ?_
    rotate_left
    · intro w9 hSw
      obtain ⟨⟨⟨s0, s1, s2, s3⟩, s4, s5, s6⟩, s7⟩ := hSw
      go_simp
      all_goals (try with_reducible rfl)
    (try simp only [Act.put]); (try simp only [List.getElem_toArray]); (try simp only [List.getElem_cons_succ]); (try simp only [List.getElem_cons_zero]); (try simp only [List.setIfInBounds_toArray]); (try simp only [List.set_cons_succ]); (try simp only [List.set_cons_zero])
    (try simp only [hs3])
    refine wpAnyH_ready (rs := [13]) (by kernel_rfl) (by simp) ?_
    refine AllReadyH.cons rfl (fun K' hK' => ?_) AllReadyH.nil
    go_simp
    refine (HN.out _).mono ?_
    rintro e' w6 ⟨rfl, rfl⟩
    (try simp only [])
    refine hK'.out _ _ hHeld2 (fun _ => ?_)
    clear hK' K'
    (try simp only [Act.put]); (try simp only [List.getElem_toArray]); (try simp only [List.getElem_cons_succ]); (try simp only [List.getElem_cons_zero]); (try simp only [List.setIfInBounds_toArray]); (try simp only [List.set_cons_succ]); (try simp only [List.set_cons_zero])
    refine wpAnyH_take (i := 14) (v := ?_) rfl (by kernel_rfl) (by kernel_rfl) (by kernel_rfl) (fun _ _ _ h => h) (Or.inl ⟨by rfl, ?_⟩) hHeld2 ?_
    rotate_left
    · intro w9 hSw
      obtain ⟨⟨⟨s0, s1, s2, s3⟩, s4, s5, s6⟩, s7⟩ := hSw
      go_simp
      all_goals (try with_reducible rfl)
    (try simp only [Act.put]); (try simp only [List.getElem_toArray]); (try simp only [List.getElem_cons_succ]); (try simp only [List.getElem_cons_zero]); (try simp only [List.setIfInBounds_toArray]); (try simp only [List.set_cons_succ]); (try simp only [List.set_cons_zero])
    refine wpAnyH_done (by kernel_rfl) ?_ _
    have HgF := hid hHeld2.2
    clear hHeld hHeld2 hg5 hs1 hs2 hs3
    go_wp2_with fail
    go_ret
    exact ⟨ret_int (by rw [H.out, HA.out]), gr_trans0 HgD.out HgF.out⟩
  · have h : runB b day = false := by simpa using h
    have H := hid (show accF b day = -1 by unfold accF; rw [if_neg (by rw [h]; simp)])
    have HR := hid (runningNo_any b day _ Hm0.out h)
    clear h
    go_enter Tryd.func19, Tryd.ntmps19
    go_wp2_with fail
    refine HR.out.mono ?_
    rintro e' w1 ⟨rfl, hg1⟩
    have Hg1 := hid (gr_trans0 hg0 hg1)
    clear hg1
    go_wp2_with fail
    go_ret
    exact ⟨ret_int H.out.symm, Hg1.out⟩

end Go.Proofs.YtpmafjmgacdgfaaDoor
