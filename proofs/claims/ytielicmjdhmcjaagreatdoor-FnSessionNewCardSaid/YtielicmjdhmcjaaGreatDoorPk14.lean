/- Packed: MonthWalk. -/
import Derived.Test.YtielicmjdhmcjaaGreatDoorRows
import Derived.Test.YtielicmjdhmcjaaGreatDoorPk10
import Derived.Deep.RegionHeld
import Derived.StillTailTactics
import Derived.Deep.Cut
import Derived.Deep.CutRange
/- Months added to a day: the program's AddMonths and the reference's addMonths, walked. -/
namespace Go.Proofs.YtielicmjdhmcjaaGreatDoor
open Go.RowKit

def addMF (n k : Int) : Int := if (withinB n 0 36524 && withinB k (-600) 600) = true then addM n k else -1

theorem mi_eq (n : Int) : 12 * (yF n - 1990) + mF n - 1 = miF n := rfl

set_option maxRecDepth 100000 in
set_option maxHeartbeats 1000000 in
theorem AddMonths_any (n k : Int) (w : World) (hw : Months w) :
    Calls Tryz.prog 121 #[.int .i64 n, .int .i64 k] w fun e w' => e = .returned (.int .i64 (addMF n k)) ∧ w.grownBy w' none := by
  have Hw := hid hw; clear hw
  by_cases h1 : withinB n 0 36524 = true
  · by_cases h2 : withinB k (-600) 600 = true
    · obtain ⟨n0, n1⟩ := (within_iff' _ _ _).1 h1
      obtain ⟨k0, k1⟩ := (within_iff' _ _ _).1 h2
      have hv := date_valid n n0 n1
      obtain ⟨⟨hy0, hy1⟩, ⟨hm0, hm1⟩, hd0, hd1⟩ := hv
      have hdb := dim_bd (yF n) (mF n)
      have hd31 : dF n ≤ 31 := by omega
      have hmi := mi_bd n n0 n1
      have Hmi := hid (mi_eq n)
      have HdO := hid (dateOf_any n w Hw.out n0 n1)
      clear hd1 hdb
      by_cases h3 : okMonths (miF n + k) = true
      · have Hfin := hid (show addMF n k = atMonth (miF n + k) (dF n) by unfold addMF; rw [h1, h2]; simp only [Bool.and_true, if_true]; unfold addM; rw [if_pos h3])
        have Hval := hid (atMonth_valid (miF n + k) (dF n) h3 hd0)
        have h4 := h3
        unfold okMonths at h4
        simp only [Bool.and_eq_true, decide_eq_true_eq] at h4
        obtain ⟨h40, h41⟩ := h4
        have hT : 12 * (yF n - 1990) + mF n - 1 + k = miF n + k := by rw [mi_eq]
        have HT := hid hT
        generalize hK : miF n + k = K at *
        have HK := hid hK
        generalize hyn : yF n = yn at *
        generalize hmn : mF n = mn at *
        generalize hdn : dF n = dn at *
        have Hn := hid (And.intro hyn (And.intro hmn hdn))
        clear h3 hT hK hyn hmn hdn hmi
        go_enter Tryz.func121, Tryz.ntmps121
        go_wp2_with fail
        refine (dayValid_any n w).mono ?_
        rintro e w' ⟨rfl, rfl⟩
        rw [h1]
        go_wp2_with fail
        refine (within_any _ _ _ _).mono ?_
        rintro e w' ⟨rfl, rfl⟩
        rw [h2]
        go_wp2_with fail
        refine HdO.out.mono ?_
        rintro e w1 ⟨rfl, hg⟩
        have Hg := hid hg; clear hg
        go_upto_region 5 with fail
        rw [HT.out]
        have hmo := Hw.out.keep0 (gr_alloc Hg.out (Obj.cells #[.int .i64 yn, .int .i64 mn, .int .i64 dn] 81))
        have hbD := heap_alloc_new w1 (Obj.cells #[.int .i64 yn, .int .i64 mn, .int .i64 dn] 81)
        have hgD : w.grownBy (w1.alloc (Obj.cells #[.int .i64 yn, .int .i64 mn, .int .i64 dn] 81)) none := gr_alloc Hg.out _
        have hlt := gr_le Hg.out
        obtain ⟨D, hD⟩ : ∃ D, D = w1.heap.size := ⟨_, rfl⟩
        rw [← hD] at hbD hlt ⊢
        generalize (w1.alloc (Obj.cells #[.int .i64 yn, .int .i64 mn, .int .i64 dn] 81)) = W at *
        have Hmo := hid hmo; have HbD := hid hbD; have HgD := hid hgD
        have c0 := blk_cell hbD 0 _ rfl
        have c1 := blk_cell hbD 1 _ rfl
        have c2 := blk_cell hbD 2 _ rfl
        have f0 := blk_frozen hbD 0
        have f1 := blk_frozen hbD 1
        have f2 := blk_frozen hbD 2
        clear hmo hbD hgD hD
        go_wp2_with fail
        have hW' : ∃ W' : World, W' = (W.setCell ⟨D, 0, none⟩ (.int .i64 (1990 + K / 12))).setCell ⟨D, 1, none⟩ (.int .i64 (K % 12 + 1)) := ⟨_, rfl⟩
        obtain ⟨W', hW'⟩ := hW'
        rw [← hW']
        have hbD : W'.heap[D]? = some (.cells #[.int .i64 (1990 + K / 12), .int .i64 (K % 12 + 1), .int .i64 dn] 81 (0, 0)) := by
          rw [hW', blk_set (blk_set HbD.out 0 _) 1 _]; rfl
        have hgD : w.grownBy W' none := by
          rw [hW']; exact gr_setCell (gr_setCell HgD.out (.inr hlt) _) (.inr hlt) _
        have Hmo' := hid (Hw.out.keep0 hgD)
        have HbD' := hid hbD; have HgD' := hid hgD
        clear c0 c1 c2 f0 f1 f2 hW' Hmo HbD HgD
        have c0 := blk_cell hbD 0 _ rfl
        have c1 := blk_cell hbD 1 _ rfl
        have c2 := blk_cell hbD 2 _ rfl
        have f2 := blk_frozen hbD 2
        clear hbD hgD
        have hy12 : 1990 ≤ 1990 + K / 12 ∧ 1990 + K / 12 ≤ 2089 ∧ 1 ≤ K % 12 + 1 ∧ K % 12 + 1 ≤ 12 := by omega
        obtain ⟨y0, y1, m0, m1⟩ := hy12
        have hdb2 := dim_bd (1990 + K / 12) (K % 12 + 1)
        generalize hY : 1990 + K / 12 = Y at *
        generalize hM : K % 12 + 1 = M at *
        have HYM := hid (And.intro hY hM)
        have Hdi := hid (fun (wx : World) (h : Months wx) => daysIn_any Y M wx h (by omega) (by omega) m0 m1)
        clear hY hM
        generalize hdm : dim Y M = dm at *
        have Hdm := hid hdm; clear hdm
        have hat : atMonth K dn = numF Y M (min dn dm) := by unfold atMonth; rw [HYM.out.1, HYM.out.2, Hdm.out]
        by_cases hle : dn ≤ dm
        · have hval : ValidYMD Y M dn := by have := Hval.out; rwa [show min dn dm = dn by omega] at this
          have Hat := hid (hat.trans (by rw [show min dn dm = dn by omega]) : atMonth K dn = numF Y M dn)
          clear hat
          go_still_tail 9, (by kernel_rfl)
          still_call ((Hdi.out _ (Hmo'.out.keep0 (gr_drew (gr0 _)))).mono fun _ _ h => ⟨h.1, h.2.symm⟩)
          repeat still_step
          refine wpStill_nil ?_
          change wpList _ _ _ _ _ W'.drew
          go_wp2_with fail
          refine (number_any Y M dn _ (Hw.out.keep0 (gr_drew (gr_setCell HgD'.out (.inr hlt) _))) hval).mono ?_
          rintro e w2 ⟨rfl, hg2⟩
          have Hg2 := hid (gr_trans0 (gr_drew (gr_setCell HgD'.out (.inr hlt) _)) hg2); clear hg2
          go_wp2_with fail
          go_ret
          exact ⟨ret_int (by rw [Hfin.out, Hat.out]), Hg2.out⟩
        · have hval : ValidYMD Y M dm := by have := Hval.out; rwa [show min dn dm = dm by omega] at this
          have Hat := hid (hat.trans (by rw [show min dn dm = dm by omega]) : atMonth K dn = numF Y M dm)
          clear hat
          go_still_tail 9, (by kernel_rfl)
          still_call ((Hdi.out _ (Hmo'.out.keep0 (gr_drew (gr0 _)))).mono fun _ _ h => ⟨h.1, h.2.symm⟩)
          repeat still_step
          refine wpStill_nil ?_
          change wpList _ _ _ _ _ W'.drew
          go_wp2_with fail
          refine (number_any Y M dm _ (Hw.out.keep0 (gr_drew (gr_setCell HgD'.out (.inr hlt) _))) hval).mono ?_
          rintro e w2 ⟨rfl, hg2⟩
          have Hg2 := hid (gr_trans0 (gr_drew (gr_setCell HgD'.out (.inr hlt) _)) hg2); clear hg2
          go_wp2_with fail
          go_ret
          exact ⟨ret_int (by rw [Hfin.out, Hat.out]), Hg2.out⟩
      · have Hfin := hid (show addMF n k = -1 by unfold addMF; rw [h1, h2]; simp only [Bool.and_true, if_true]; unfold addM; rw [if_neg h3])
        have h4 : miF n + k < 0 ∨ 1200 ≤ miF n + k := by
          unfold okMonths at h3
          simp only [Bool.and_eq_true, decide_eq_true_eq] at h3
          omega
        have HT := hid (show 12 * (yF n - 1990) + mF n - 1 + k = miF n + k by rw [mi_eq])
        generalize hK : miF n + k = K at *
        generalize hyn : yF n = yn at *
        generalize hmn : mF n = mn at *
        generalize hdn : dF n = dn at *
        clear h3 hK hyn hmn hdn hmi
        rcases h4 with h4 | h4
        all_goals
          go_enter Tryz.func121, Tryz.ntmps121
          go_wp2_with fail
          refine (dayValid_any n w).mono ?_
          rintro e w' ⟨rfl, rfl⟩
          rw [h1]
          go_wp2_with fail
          refine (within_any _ _ _ _).mono ?_
          rintro e w' ⟨rfl, rfl⟩
          rw [h2]
          go_wp2_with fail
          refine HdO.out.mono ?_
          rintro e w1 ⟨rfl, hg⟩
          have Hg := hid hg; clear hg
          go_upto_region 5 with fail
          rw [HT.out]
          go_wp2_with fail
          go_ret
          exact ⟨ret_int Hfin.out.symm, gr_alloc Hg.out _⟩
    · have h2' : withinB k (-600) 600 = false := by simpa using h2
      have Hfin := hid (show addMF n k = -1 by unfold addMF; rw [h1, h2']; rfl)
      clear h2
      go_enter Tryz.func121, Tryz.ntmps121
      go_wp2_with fail
      refine (dayValid_any n w).mono ?_
      rintro e w' ⟨rfl, rfl⟩
      rw [h1]
      go_wp2_with fail
      refine (within_any _ _ _ _).mono ?_
      rintro e w' ⟨rfl, rfl⟩
      rw [h2']
      go_wp2_with fail
      go_ret
      exact ⟨ret_int Hfin.out.symm, gr_refl _ _⟩
  · have h1' : withinB n 0 36524 = false := by simpa using h1
    have Hfin := hid (show addMF n k = -1 by unfold addMF; rw [h1']; rfl)
    clear h1
    go_enter Tryz.func121, Tryz.ntmps121
    go_wp2_with fail
    refine (dayValid_any n w).mono ?_
    rintro e w' ⟨rfl, rfl⟩
    rw [h1']
    go_wp2_with fail
    go_ret
    exact ⟨ret_int Hfin.out.symm, gr_refl _ _⟩

set_option maxRecDepth 100000 in
set_option maxHeartbeats 1000000 in
theorem specaddMonths_any (n k : Int) (w : World) (n0 : 0 ≤ n) (n1 : n ≤ 36524) (k0 : -600 ≤ k) (k1 : k ≤ 600) :
    Calls Tryz.prog 145 #[.int .i64 n, .int .i64 k] w fun e w' => e = .returned (.int .i64 (addM n k)) ∧ w.grownBy w' none := by
  have hv := date_valid n n0 n1
  obtain ⟨⟨hy0, hy1⟩, ⟨hm0, hm1⟩, hd0, hd1⟩ := hv
  have hdb := dim_bd (yF n) (mF n)
  have hd31 : dF n ≤ 31 := by omega
  have HdO := hid (specdateOf_any n w n0 n1)
  clear hd1 hdb
  go_enter Tryz.func145, Tryz.ntmps145
  go_wp2_with fail
  refine HdO.out.mono ?_
  rintro e w1 ⟨rfl, hg⟩
  have Hg := hid hg; clear hg
  have HT := hid (show 12 * yF n + mF n - 1 + k = miF n + k + 23880 by unfold miF; omega)
  have hmi := mi_bd n n0 n1
  obtain ⟨K, hK⟩ : ∃ K, K = miF n + k := ⟨_, rfl⟩
  rw [← hK] at HT
  have HK := hid hK
  have hKb : -600 ≤ K ∧ K ≤ 1800 := by omega
  clear hK hmi
  go_upto_region 3 with fail
  rw [HT.out]
  go_wp2_with fail
  refine (floorDiv_any (K + 23880) 12 _ (by omega) (by omega) (by omega) (by omega)).mono ?_
  rintro e w2 ⟨rfl, rfl⟩
  rw [show (K + 23880) / 12 = 1990 + K / 12 by omega]
  have HY := hid (show K + 23880 - 12 * (1990 + K / 12) + 1 = K % 12 + 1 by omega)
  go_upto_region 5 with fail
  rw [HY.out]
  have hbD := heap_alloc_new w1 (Obj.cells #[.int .i64 (yF n), .int .i64 (mF n), .int .i64 (dF n)] 81)
  have hgD : w.grownBy (w1.alloc (Obj.cells #[.int .i64 (yF n), .int .i64 (mF n), .int .i64 (dF n)] 81)) none := gr_alloc Hg.out _
  have hdn : ∃ dn, dn = dF n := ⟨_, rfl⟩
  obtain ⟨dn, hdn⟩ := hdn
  obtain ⟨D, hD⟩ : ∃ D, D = w1.heap.size := ⟨_, rfl⟩
  rw [← hD] at hbD ⊢
  rw [← hdn] at hbD hgD hd0 hd31 ⊢
  have Hdn := hid hdn
  generalize (w1.alloc (Obj.cells #[.int .i64 (yF n), .int .i64 (mF n), .int .i64 dn] 81)) = W at *
  have c2 := blk_cell hbD 2 _ rfl
  have HgD := hid hgD
  clear hbD hgD hD hdn
  by_cases h3 : okMonths K = true
  · have Hfin := hid (show addM n k = atMonth K dn by unfold addM; rw [← HK.out, if_pos h3, Hdn.out])
    have hval0 := (atMonth_valid K dn h3 hd0)
    have h4 := h3
    unfold okMonths at h4
    simp only [Bool.and_eq_true, decide_eq_true_eq] at h4
    have hin : withinB (1990 + K / 12) 1990 2089 = true := (within_iff' _ _ _).2 (by omega)
    have hy12 : 1990 ≤ 1990 + K / 12 ∧ 1990 + K / 12 ≤ 2089 ∧ 1 ≤ K % 12 + 1 ∧ K % 12 + 1 ≤ 12 := by omega
    obtain ⟨y0, y1, m0, m1⟩ := hy12
    have hdb2 := dim_bd (1990 + K / 12) (K % 12 + 1)
    generalize hYY : 1990 + K / 12 = Y at *
    generalize hM : K % 12 + 1 = M at *
    have HYM := hid (And.intro hYY hM)
    have Hdi := hid (fun (wx : World) => specdaysIn_any Y M wx (by omega) (by omega) m0 m1)
    have hat : atMonth K dn = numF Y M (min dn (dim Y M)) := by unfold atMonth; rw [hYY, hM]
    clear hYY hM h3 h4 HY
    generalize hdm : dim Y M = dm at *
    have Hdm := hid hdm; clear hdm
    go_wp2_with fail
    refine (inRange_any _ _ _ _).mono ?_
    rintro e w2 ⟨rfl, rfl⟩
    rw [hin]
    by_cases hle : dn ≤ dm
    · have hval : ValidYMD Y M dn := by rwa [show min dn dm = dn by omega] at hval0
      have Hat := hid (hat.trans (by rw [show min dn dm = dn by omega]) : atMonth K dn = numF Y M dn)
      clear hat hval0
      go_wp2_with fail
      refine wp_region_held_drew (S := fun w' => w'.cell? ⟨D, 2, none⟩ = some (.int .i64 dn) ∧ W.grownBy w' none) (by kernel_rfl) ⟨c2, gr_drew (gr0 _)⟩ (fun hHeld => ?_)
      refine wpAnyH_take (i := 0) (v := ?_) rfl (by kernel_rfl) (by kernel_rfl) (by kernel_rfl) (fun _ _ _ h => h) (Or.inl ⟨by rfl, ?_⟩) hHeld ?_
      rotate_left
      · intro w9 hSw
        obtain ⟨s1, s2⟩ := hSw
        go_simp
        all_goals (try with_reducible rfl)
      (try simp only [Act.put, gA, gC, gD, gE, gF])
      refine wpAnyH_take (i := 1) (v := ?_) rfl (by kernel_rfl) (by kernel_rfl) (by kernel_rfl) (fun _ _ _ h => h) (Or.inl ⟨by rfl, ?_⟩) hHeld ?_
      rotate_left
      · intro w9 hSw
        obtain ⟨s1, s2⟩ := hSw
        go_simp
        all_goals (try with_reducible rfl)
      (try simp only [Act.put, gA, gB, gC, gD, gE, gF])
      refine wpAnyH_take (i := 2) (v := ?_) rfl (by kernel_rfl) (by kernel_rfl) (by kernel_rfl) (fun _ _ _ h => h) (Or.inl ⟨by rfl, ?_⟩) hHeld ?_
      rotate_left
      · intro w9 hSw
        obtain ⟨s1, s2⟩ := hSw
        go_simp
        all_goals (try with_reducible rfl)
      (try simp only [Act.put, gA, gB, gC, gD, gE, gF])
      refine wpAnyH_take (i := 3) (v := ?_) rfl (by kernel_rfl) (by kernel_rfl) (by kernel_rfl) (fun _ _ _ h => h) (Or.inl ⟨by rfl, ?_⟩) hHeld ?_
      rotate_left
      · intro w9 hSw
        obtain ⟨s1, s2⟩ := hSw
        go_simp
        all_goals (try with_reducible rfl)
      (try simp only [Act.put, gA, gB, gC, gD, gE, gF])
      refine wpAnyH_take (i := 4) (v := ?_) rfl (by kernel_rfl) (by kernel_rfl) (by kernel_rfl) (fun _ _ _ h => h) (Or.inl ⟨by rfl, ?_⟩) hHeld ?_
      rotate_left
      · intro w9 hSw
        obtain ⟨s1, s2⟩ := hSw
        go_simp
        all_goals (try with_reducible rfl)
      (try simp only [Act.put, gA, gB, gC, gD, gE, gF])
      refine wpAnyH_take (i := 5) (v := ?_) rfl (by kernel_rfl) (by kernel_rfl) (by kernel_rfl) (fun _ _ _ h => h) (Or.inl ⟨by rfl, ?_⟩) hHeld ?_
      rotate_left
      · intro w9 hSw
        obtain ⟨s1, s2⟩ := hSw
        go_simp
        all_goals (try with_reducible rfl)
      (try simp only [Act.put, gA, gB, gC, gD, gE, gF])
      refine wpAnyH_ready (rs := [6]) (by kernel_rfl) (by simp) ?_
      refine AllReadyH.cons rfl (fun K' hK' => ?_) AllReadyH.nil
      go_simp
      refine (Hdi.out _).mono ?_
      rintro e w5 ⟨rfl, hg5⟩
      (try simp only [])
      refine hK'.out _ _ ⟨hg5.cell hHeld.1 (by simp), gr_trans0 hHeld.2 hg5⟩ (fun hHeld2 => ?_)
      clear hK' K'
      (try simp only [Act.put, gA, gB, gC, gD, gE, gF])
      refine wpAnyH_take (i := 7) (v := ?_) rfl (by kernel_rfl) (by kernel_rfl) (by kernel_rfl) (fun _ _ _ h => h) (Or.inl ⟨by rfl, ?_⟩) hHeld2 ?_
      rotate_left
      · intro w9 hSw
        obtain ⟨s1, s2⟩ := hSw
        go_simp
        all_goals (try with_reducible rfl)
      (try simp only [Act.put, gA, gB, gC, gD, gE, gF])
      refine wpAnyH_take (i := 8) (v := ?_) rfl (by kernel_rfl) (by kernel_rfl) (by kernel_rfl) (fun _ _ _ h => h) (Or.inl ⟨by rfl, ?_⟩) hHeld2 ?_
      rotate_left
      · intro w9 hSw
        obtain ⟨s1, s2⟩ := hSw
        go_simp
        all_goals (try with_reducible rfl)
      (try simp only [Act.put, gA, gB, gC, gD, gE, gF])
      refine wpAnyH_ready (rs := [9]) (by kernel_rfl) (by simp) ?_
      refine AllReadyH.cons rfl (fun K' hK' => ?_) AllReadyH.nil
      go_simp
      (try simp only [if_neg (show ¬ dm < dn by omega)])
      refine (specdayOf_any Y M dn _ hval).mono ?_
      rintro e w6 ⟨rfl, hg6⟩
      (try simp only [])
      refine hK'.out _ _ ⟨hg6.cell hHeld2.1 (by simp), gr_trans0 hHeld2.2 hg6⟩ (fun hHeld3 => ?_)
      clear hK' K'
      (try simp only [Act.put, gA, gB, gC, gD, gE, gF])
      refine wpAnyH_take (i := 10) (v := ?_) rfl (by kernel_rfl) (by kernel_rfl) (by kernel_rfl) (fun _ _ _ h => h) (Or.inl ⟨by rfl, ?_⟩) hHeld3 ?_
      rotate_left
      · intro w9 hSw
        obtain ⟨s1, s2⟩ := hSw
        go_simp
        all_goals (try with_reducible rfl)
      (try simp only [Act.put, gA, gB, gC, gD, gE, gF])
      refine wpAnyH_done (by kernel_rfl) ?_ _
      have Hg6 := hid (gr_trans0 HgD.out hHeld3.2)
      clear hHeld hHeld2 hHeld3 hg5 hg6
      go_wp2_with fail
      go_ret
      exact ⟨ret_int (by rw [Hfin.out, Hat.out]), Hg6.out⟩
    · have hval : ValidYMD Y M dm := by rwa [show min dn dm = dm by omega] at hval0
      have Hat := hid (hat.trans (by rw [show min dn dm = dm by omega]) : atMonth K dn = numF Y M dm)
      clear hat hval0
      go_wp2_with fail
      refine wp_region_held_drew (S := fun w' => w'.cell? ⟨D, 2, none⟩ = some (.int .i64 dn) ∧ W.grownBy w' none) (by kernel_rfl) ⟨c2, gr_drew (gr0 _)⟩ (fun hHeld => ?_)
      refine wpAnyH_take (i := 0) (v := ?_) rfl (by kernel_rfl) (by kernel_rfl) (by kernel_rfl) (fun _ _ _ h => h) (Or.inl ⟨by rfl, ?_⟩) hHeld ?_
      rotate_left
      · intro w9 hSw
        obtain ⟨s1, s2⟩ := hSw
        go_simp
        all_goals (try with_reducible rfl)
      (try simp only [Act.put, gA, gC, gD, gE, gF])
      refine wpAnyH_take (i := 1) (v := ?_) rfl (by kernel_rfl) (by kernel_rfl) (by kernel_rfl) (fun _ _ _ h => h) (Or.inl ⟨by rfl, ?_⟩) hHeld ?_
      rotate_left
      · intro w9 hSw
        obtain ⟨s1, s2⟩ := hSw
        go_simp
        all_goals (try with_reducible rfl)
      (try simp only [Act.put, gA, gB, gC, gD, gE, gF])
      refine wpAnyH_take (i := 2) (v := ?_) rfl (by kernel_rfl) (by kernel_rfl) (by kernel_rfl) (fun _ _ _ h => h) (Or.inl ⟨by rfl, ?_⟩) hHeld ?_
      rotate_left
      · intro w9 hSw
        obtain ⟨s1, s2⟩ := hSw
        go_simp
        all_goals (try with_reducible rfl)
      (try simp only [Act.put, gA, gB, gC, gD, gE, gF])
      refine wpAnyH_take (i := 3) (v := ?_) rfl (by kernel_rfl) (by kernel_rfl) (by kernel_rfl) (fun _ _ _ h => h) (Or.inl ⟨by rfl, ?_⟩) hHeld ?_
      rotate_left
      · intro w9 hSw
        obtain ⟨s1, s2⟩ := hSw
        go_simp
        all_goals (try with_reducible rfl)
      (try simp only [Act.put, gA, gB, gC, gD, gE, gF])
      refine wpAnyH_take (i := 4) (v := ?_) rfl (by kernel_rfl) (by kernel_rfl) (by kernel_rfl) (fun _ _ _ h => h) (Or.inl ⟨by rfl, ?_⟩) hHeld ?_
      rotate_left
      · intro w9 hSw
        obtain ⟨s1, s2⟩ := hSw
        go_simp
        all_goals (try with_reducible rfl)
      (try simp only [Act.put, gA, gB, gC, gD, gE, gF])
      refine wpAnyH_take (i := 5) (v := ?_) rfl (by kernel_rfl) (by kernel_rfl) (by kernel_rfl) (fun _ _ _ h => h) (Or.inl ⟨by rfl, ?_⟩) hHeld ?_
      rotate_left
      · intro w9 hSw
        obtain ⟨s1, s2⟩ := hSw
        go_simp
        all_goals (try with_reducible rfl)
      (try simp only [Act.put, gA, gB, gC, gD, gE, gF])
      refine wpAnyH_ready (rs := [6]) (by kernel_rfl) (by simp) ?_
      refine AllReadyH.cons rfl (fun K' hK' => ?_) AllReadyH.nil
      go_simp
      refine (Hdi.out _).mono ?_
      rintro e w5 ⟨rfl, hg5⟩
      (try simp only [])
      refine hK'.out _ _ ⟨hg5.cell hHeld.1 (by simp), gr_trans0 hHeld.2 hg5⟩ (fun hHeld2 => ?_)
      clear hK' K'
      (try simp only [Act.put, gA, gB, gC, gD, gE, gF])
      refine wpAnyH_take (i := 7) (v := ?_) rfl (by kernel_rfl) (by kernel_rfl) (by kernel_rfl) (fun _ _ _ h => h) (Or.inl ⟨by rfl, ?_⟩) hHeld2 ?_
      rotate_left
      · intro w9 hSw
        obtain ⟨s1, s2⟩ := hSw
        go_simp
        all_goals (try with_reducible rfl)
      (try simp only [Act.put, gA, gB, gC, gD, gE, gF])
      refine wpAnyH_take (i := 8) (v := ?_) rfl (by kernel_rfl) (by kernel_rfl) (by kernel_rfl) (fun _ _ _ h => h) (Or.inl ⟨by rfl, ?_⟩) hHeld2 ?_
      rotate_left
      · intro w9 hSw
        obtain ⟨s1, s2⟩ := hSw
        go_simp
        all_goals (try with_reducible rfl)
      (try simp only [Act.put, gA, gB, gC, gD, gE, gF])
      refine wpAnyH_ready (rs := [9]) (by kernel_rfl) (by simp) ?_
      refine AllReadyH.cons rfl (fun K' hK' => ?_) AllReadyH.nil
      go_simp
      (try simp only [if_neg (show ¬ dm < dn by omega)])
      refine (specdayOf_any Y M dm _ hval).mono ?_
      rintro e w6 ⟨rfl, hg6⟩
      (try simp only [])
      refine hK'.out _ _ ⟨hg6.cell hHeld2.1 (by simp), gr_trans0 hHeld2.2 hg6⟩ (fun hHeld3 => ?_)
      clear hK' K'
      (try simp only [Act.put, gA, gB, gC, gD, gE, gF])
      refine wpAnyH_take (i := 10) (v := ?_) rfl (by kernel_rfl) (by kernel_rfl) (by kernel_rfl) (fun _ _ _ h => h) (Or.inl ⟨by rfl, ?_⟩) hHeld3 ?_
      rotate_left
      · intro w9 hSw
        obtain ⟨s1, s2⟩ := hSw
        go_simp
        all_goals (try with_reducible rfl)
      (try simp only [Act.put, gA, gB, gC, gD, gE, gF])
      refine wpAnyH_done (by kernel_rfl) ?_ _
      have Hg6 := hid (gr_trans0 HgD.out hHeld3.2)
      clear hHeld hHeld2 hHeld3 hg5 hg6
      go_wp2_with fail
      go_ret
      exact ⟨ret_int (by rw [Hfin.out, Hat.out]), Hg6.out⟩
  · have Hfin := hid (show addM n k = -1 by unfold addM; rw [← HK.out, if_neg h3])
    have hin : withinB (1990 + K / 12) 1990 2089 = false := by
      unfold okMonths at h3
      simp only [Bool.and_eq_true, decide_eq_true_eq] at h3
      cases h : withinB (1990 + K / 12) 1990 2089 with
      | false => rfl
      | true => exact absurd ((within_iff' _ _ _).1 h) (by omega)
    clear h3 HY
    go_wp2_with fail
    refine (inRange_any _ _ _ _).mono ?_
    rintro e w2 ⟨rfl, rfl⟩
    rw [hin]
    go_wp2_with fail
    go_ret
    exact ⟨ret_int Hfin.out.symm, HgD.out⟩

end Go.Proofs.YtielicmjdhmcjaaGreatDoor
