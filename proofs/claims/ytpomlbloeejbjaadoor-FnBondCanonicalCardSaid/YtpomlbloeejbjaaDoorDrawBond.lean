/- The generators of a bond and a day: they end. -/
import Derived.Test.YtpomlbloeejbjaaDoorRows
import Derived.Test.YtpomlbloeejbjaaDoorBase
import Derived.Test.YtpomlbloeejbjaaDoorReader
import Derived.Test.YtpomlbloeejbjaaDoorMonthWalk
import Derived.Test.YtpomlbloeejbjaaDoorFamBond
import Derived.Deep.RegionHeld
namespace Go.Proofs.YtpomlbloeejbjaaDoor
open Go.RowKit

set_option maxRecDepth 100000 in
set_option maxHeartbeats 1000000 in
theorem randomBond_any (rb m : Nat) (w : World) (h : Rdr 72 w rb m) (hm : m ≤ 1000000) :
    Calls Tryd.prog 70 #[.pointer (some ⟨rb, 0, none⟩)] w fun e w' => ∃ b : Bond, e = .returned (.agg #[.int .i64 b.start, .int .i64 b.stop, .int .i64 b.months, .int .i64 b.rate]) ∧ (5000 ≤ b.start ∧ b.start ≤ 12719) ∧ (-1000000 ≤ b.stop ∧ b.stop ≤ 1000000) ∧ (0 ≤ b.months ∧ b.months ≤ 12) ∧ (0 ≤ b.rate ∧ b.rate ≤ 3000) ∧ Rdr 72 w' rb (m + 6) ∧ w.grownBy w' (some rb) := by
  have hlt := h.lt
  go_enter Tryd.func70, Tryd.ntmps70
  go_wp2_with fail
  refine (pick_any rb m 250 _ (h.keep0 (gr_alloc (gr_refl _ _) _)) (by omega)).mono ?_
  rintro e w1 ⟨p, rfl, hp0, hp1, h1, hg⟩
  have hp : p < 250 := by omega
  clear hp1
  have Hg1 := hid (gr_transS (gr_alloc (gr_refl _ _) _) hg)
  have Hb1 := hid (blk_keep (heap_alloc_new w (.cells #[.int .i64 0, .int .i64 0, .int .i64 0, .int .i64 0] 37)) hg (by simp; omega))
  clear hg
  go_wp2_with fail
  refine (pick_any rb _ 250 _ h1 (by omega)).mono ?_
  rintro e w2 ⟨q, rfl, hq0, hq1, h2, hg⟩
  have hq : q < 250 := by omega
  clear hq1
  have Hg2 := hid (gr_transS Hg1.out hg)
  have Hb2 := hid (blk_keep Hb1.out hg (by simp; omega))
  clear hg
  go_wp2_with fail
  refine (one_lit rb _ [6, 12, 3, 6] _ _ _ rfl rfl (by decide) (by decide) _ _ rfl h2 (by omega)).mono ?_
  rintro e w3 ⟨mo, rfl, hmo, h3, hg⟩
  have hmo2 : 3 ≤ mo ∧ mo ≤ 12 := by simp at hmo; omega
  have Hg3 := hid (gr_transS Hg2.out hg)
  have Hb3 := hid (blk_keep Hb2.out hg (by simp; omega))
  clear hg hmo
  go_wp2_with fail
  refine (one_lit rb _ [425, 0, 100, 333, 650, 3000] _ _ _ rfl rfl (by decide) (by decide) _ _ rfl h3 (by omega)).mono ?_
  rintro e w4 ⟨ra, rfl, hra, h4, hg⟩
  have hra2 : 0 ≤ ra ∧ ra ≤ 3000 := by simp at hra; omega
  have Hg4 := hid (gr_transS Hg3.out hg)
  have Hb4 := hid (blk_keep Hb3.out hg (by simp; omega))
  clear hg hra
  have Hst : Hid (5000 ≤ 5000 + p * 31 ∧ 5000 + p * 31 ≤ 12719 ∧ 0 ≤ 5000 + p * 31 + 200 + q * 9 ∧ 5000 + p * 31 + 200 + q * 9 ≤ 20000) := hid (by omega)
  go_wp2_with fail
  generalize hS : 5000 + p * 31 = S at *
  generalize hE : S + 200 + q * 9 = E at *
  clear hS hE hp0 hp hq0 hq h h1 h2 h3
  have hDw : w.heap.size < w4.heap.size := blk_lt Hb4.out
  have Hb5 := hid (blk_alloc Hb4.out (.cells #[.int .i64 S, .int .i64 E, .int .i64 mo, .int .i64 ra] 37))
  have Hd5 := hid (heap_alloc_new w4 (.cells #[.int .i64 S, .int .i64 E, .int .i64 mo, .int .i64 ra] 37))
  refine (pick_any rb _ 2 _ (h4.keep0 (gr_alloc (gr_refl _ _) _)) (by omega)).mono ?_
  rintro e w5 ⟨t, rfl, ht0, ht1, h5, hg⟩
  have Hg5 := hid (gr_transS (gr_alloc Hg4.out _) hg)
  have Hb6 := hid (blk_keep Hb5.out hg (by simp; omega))
  have hlt4 := h4.lt
  have Hd6 := hid (blk_keep Hd5.out hg (by simp; omega))
  clear hg Hb5 Hd5 Hb4 Hb3 Hb2 Hb1 h4
  by_cases htz : t = 0
  · have htd : (t == 0) = true := by simpa using htz
    have hd6 := Hd6.out
    clear htz ht0 ht1
    have HS := hid Hst.out.1
    have hs2 : 0 ≤ S ∧ S ≤ 36524 := by have := Hst.out; omega
    obtain ⟨hsa, hsb⟩ := hs2
    have hEb : -1000000 ≤ E ∧ E ≤ 1000000 := by have := Hst.out; omega
    have hD0 : ∃ E' : Int, (-1000000 ≤ E' ∧ E' ≤ 1000000) ∧ w5.drew.heap[w4.heap.size]? = some (.cells #[.int .i64 S, .int .i64 E', .int .i64 mo, .int .i64 ra] 37 (0, 0)) := ⟨E, hEb, hd6⟩
    have hB0 : w5.drew.heap[w.heap.size]? = some (.cells #[.int .i64 0, .int .i64 0, .int .i64 0, .int .i64 0] 37 (0, 0)) := Hb6.out
    have e0 := blk_cell hd6 0 _ rfl
    have e1 := blk_cell hd6 1 _ rfl
    have e2 := blk_cell hd6 2 _ rfl
    have e3 := blk_cell hd6 3 _ rfl
    go_wp2_with fail
    generalize hDn : w4.heap.size = D at *
    refine wp_region_held_drew (S := fun w' => (∃ E' : Int, (-1000000 ≤ E' ∧ E' ≤ 1000000) ∧ w'.heap[D]? = some (.cells #[.int .i64 S, .int .i64 E', .int .i64 mo, .int .i64 ra] 37 (0, 0))) ∧ w'.heap[w.heap.size]? = some (.cells #[.int .i64 0, .int .i64 0, .int .i64 0, .int .i64 0] 37 (0, 0)) ∧ Rdr 72 w' rb (m + 6) ∧ w.grownBy w' (some rb)) (by kernel_rfl) ⟨hD0, hB0, (h5.keep0 (gr_drew (gr0 _))).mono (by omega), gr_drew Hg5.out⟩ (fun hHeld => ?_)
    refine wpAnyH_take (i := 0) (v := ?_) rfl (by kernel_rfl) (by kernel_rfl) (by kernel_rfl) (fun _ _ _ h => h) (Or.inl ⟨by rfl, ?_⟩) hHeld ?_
    rotate_left
    · intro w9 hSw
      (obtain ⟨⟨_, _, sb⟩, _⟩ := hSw; have s0 := blk_cell sb 0 _ rfl; have s2 := blk_cell sb 2 _ rfl; clear sb)
      go_simp
      all_goals (try with_reducible rfl)
    (try simp only [Act.put]); (try simp only [List.getElem_toArray]); (try simp only [List.getElem_cons_succ]); (try simp only [List.getElem_cons_zero]); (try simp only [List.setIfInBounds_toArray]); (try simp only [List.set_cons_succ]); (try simp only [List.set_cons_zero])
    refine wpAnyH_take (i := 1) (v := ?_) rfl (by kernel_rfl) (by kernel_rfl) (by kernel_rfl) (fun _ _ _ h => h) (Or.inl ⟨by rfl, ?_⟩) hHeld ?_
    rotate_left
    · intro w9 hSw
      (obtain ⟨⟨_, _, sb⟩, _⟩ := hSw; have s0 := blk_cell sb 0 _ rfl; have s2 := blk_cell sb 2 _ rfl; clear sb)
      go_simp
      all_goals (try with_reducible rfl)
    (try simp only [Act.put]); (try simp only [List.getElem_toArray]); (try simp only [List.getElem_cons_succ]); (try simp only [List.getElem_cons_zero]); (try simp only [List.setIfInBounds_toArray]); (try simp only [List.set_cons_succ]); (try simp only [List.set_cons_zero])
    refine wpAnyH_take (i := 2) (v := ?_) rfl (by kernel_rfl) (by kernel_rfl) (by kernel_rfl) (fun _ _ _ h => h) (Or.inl ⟨by rfl, ?_⟩) hHeld ?_
    rotate_left
    · intro w9 hSw
      (obtain ⟨⟨_, _, sb⟩, _⟩ := hSw; have s0 := blk_cell sb 0 _ rfl; have s2 := blk_cell sb 2 _ rfl; clear sb)
      go_simp
      all_goals (try with_reducible rfl)
    (try simp only [Act.put]); (try simp only [List.getElem_toArray]); (try simp only [List.getElem_cons_succ]); (try simp only [List.getElem_cons_zero]); (try simp only [List.setIfInBounds_toArray]); (try simp only [List.set_cons_succ]); (try simp only [List.set_cons_zero])
    refine wpAnyH_take (i := 3) (v := ?_) rfl (by kernel_rfl) (by kernel_rfl) (by kernel_rfl) (fun _ _ _ h => h) (Or.inl ⟨by rfl, ?_⟩) hHeld ?_
    rotate_left
    · intro w9 hSw
      (obtain ⟨⟨_, _, sb⟩, _⟩ := hSw; have s0 := blk_cell sb 0 _ rfl; have s2 := blk_cell sb 2 _ rfl; clear sb)
      go_simp
      all_goals (try with_reducible rfl)
    (try simp only [Act.put]); (try simp only [List.getElem_toArray]); (try simp only [List.getElem_cons_succ]); (try simp only [List.getElem_cons_zero]); (try simp only [List.setIfInBounds_toArray]); (try simp only [List.set_cons_succ]); (try simp only [List.set_cons_zero])
    refine wpAnyH_ready (rs := [4]) (by kernel_rfl) (by simp) ?_
    refine AllReadyH.cons rfl (fun K' hK' => ?_) AllReadyH.nil
    go_simp
    refine (pick_any rb _ 8 _ (h5.keep0 (gr_drew (gr0 _))) (by omega)).mono ?_
    rintro e' w6 ⟨k, rfl, hk0, hk1, h6, hg6⟩
    have hk : k < 8 := by omega
    (try simp only [])
    refine hK'.out _ _ ⟨⟨E, hEb, blk_keep hd6 (gr_transS (gr_drew (gr_refl _ _)) hg6) (by simp; omega)⟩, blk_keep Hb6.out (gr_transS (gr_drew (gr_refl _ _)) hg6) (by simp; omega), h6.mono (by omega), gr_transS (gr_drew Hg5.out) hg6⟩ (fun hHeld2 => ?_)
    clear hK' K' hk1
    have hp1 : 0 ≤ mo * (1 + k) ∧ mo * (1 + k) ≤ 12 * 8 := ⟨Int.mul_nonneg (by omega) (by omega), Int.le_trans (Int.mul_le_mul_of_nonneg_right hmo2.2 (by omega)) (Int.mul_le_mul_of_nonneg_left (by omega) (by omega))⟩
    obtain ⟨hpa, hpb⟩ := hp1
    have hw1 : IntKind.i64.wrap (1 + k) = 1 + k := IntWalk.i64_in _ (by omega)
    have hw2 : IntKind.i64.wrap (mo * (1 + k)) = mo * (1 + k) := IntWalk.i64_in _ (by omega)
    (try simp only [Act.put]); (try simp only [List.getElem_toArray]); (try simp only [List.getElem_cons_succ]); (try simp only [List.getElem_cons_zero]); (try simp only [List.setIfInBounds_toArray]); (try simp only [List.set_cons_succ]); (try simp only [List.set_cons_zero])
    refine wpAnyH_take (i := 5) (v := ?_) rfl (by kernel_rfl) (by kernel_rfl) (by kernel_rfl) (fun _ _ _ h => h) (Or.inl ⟨by rfl, ?_⟩) hHeld2 ?_
    rotate_left
    · intro w9 hSw
      clear hSw
      go_simp
      all_goals (try with_reducible rfl)
    (try simp only [Act.put]); (try simp only [List.getElem_toArray]); (try simp only [List.getElem_cons_succ]); (try simp only [List.getElem_cons_zero]); (try simp only [List.setIfInBounds_toArray]); (try simp only [List.set_cons_succ]); (try simp only [List.set_cons_zero])
    (try simp only [hw1])
    refine wpAnyH_take (i := 6) (v := ?_) rfl (by kernel_rfl) (by kernel_rfl) (by kernel_rfl) (fun _ _ _ h => h) (Or.inl ⟨by rfl, ?_⟩) hHeld2 ?_
    rotate_left
    · intro w9 hSw
      clear hSw
      go_simp
      all_goals (try with_reducible rfl)
    (try simp only [Act.put]); (try simp only [List.getElem_toArray]); (try simp only [List.getElem_cons_succ]); (try simp only [List.getElem_cons_zero]); (try simp only [List.setIfInBounds_toArray]); (try simp only [List.set_cons_succ]); (try simp only [List.set_cons_zero])
    (try simp only [hw2])
    refine wpAnyH_ready (rs := [7]) (by kernel_rfl) (by simp) ?_
    refine AllReadyH.cons rfl (fun K' hK' => ?_) AllReadyH.nil
    go_simp
    refine (specaddMonths_any S (mo * (1 + k)) _ (by omega) (by omega) (by omega) (by omega)).mono ?_
    rintro e' w7 ⟨rfl, hg7⟩
    have hab := addM_bd S (mo * (1 + k)) hsa hsb
    generalize addM S (mo * (1 + k)) = am at *
    (try simp only [])
    refine hK'.out _ _ ⟨⟨E, hEb, blk_keep (blk_keep hd6 (gr_transS (gr_drew (gr_refl _ _)) hg6) (by simp; omega)) hg7 (by simp)⟩, blk_keep hHeld2.2.1 hg7 (by simp), hHeld2.2.2.1.keep0 hg7, gr_trans0 hHeld2.2.2.2 hg7⟩ (fun hHeld3 => ?_)
    clear hK' K'
    (try simp only [Act.put]); (try simp only [List.getElem_toArray]); (try simp only [List.getElem_cons_succ]); (try simp only [List.getElem_cons_zero]); (try simp only [List.setIfInBounds_toArray]); (try simp only [List.set_cons_succ]); (try simp only [List.set_cons_zero])
    refine wpAnyH_take (i := 8) (v := ?_) rfl (by kernel_rfl) (by kernel_rfl) (by kernel_rfl) (fun _ _ _ h => h) (Or.inl ⟨by rfl, ?_⟩) hHeld3 ?_
    rotate_left
    · intro w9 hSw
      clear hSw
      go_simp
      all_goals (try with_reducible rfl)
    (try simp only [Act.put]); (try simp only [List.getElem_toArray]); (try simp only [List.getElem_cons_succ]); (try simp only [List.getElem_cons_zero]); (try simp only [List.setIfInBounds_toArray]); (try simp only [List.set_cons_succ]); (try simp only [List.set_cons_zero])
    obtain ⟨E9, hE9, hbD⟩ := hHeld3.1
    have e0 := blk_cell hbD 0 _ rfl
    have e1 := blk_cell hbD 1 _ rfl
    have k1 := blk_frozen hbD 1
    refine wpAnyH_ready (rs := [9]) (by kernel_rfl) (by simp) ?_
    refine AllReadyH.cons rfl (fun K' hK' => ?_) AllReadyH.nil
    go_simp
    have hbF := blk_set hbD 1 (.int .i64 am)
    refine hK'.out _ _ ⟨⟨am, by omega, by rw [hbF]; rfl⟩, blk_set_other hHeld3.2.1 _ (by simp; omega) _, hHeld3.2.2.1.setCell (by simp; omega) _, gr_setCell hHeld3.2.2.2 (.inr (by simp; omega)) _⟩ (fun hHeld4 => ?_)
    clear hK' K'
    (try simp only [Act.put]); (try simp only [List.getElem_toArray]); (try simp only [List.getElem_cons_succ]); (try simp only [List.getElem_cons_zero]); (try simp only [List.setIfInBounds_toArray]); (try simp only [List.set_cons_succ]); (try simp only [List.set_cons_zero])
    refine wpAnyH_done (by kernel_rfl) ?_ _
    obtain ⟨⟨Ef, hEf, hd7⟩, hb7, h7, hg9⟩ := hHeld4
    have H7 := hid h7
    have Hg9 := hid hg9
    have hlt2 : rb < w.heap.size := hlt
    clear e0 e1 e2 e3 k1 hHeld hHeld2 hHeld3 hbF hbD hg6 hg7 h6 h7 hg9 hd6 hD0 hB0 hE9 hab
    have e0 := blk_cell hd7 0 _ rfl
    have e1 := blk_cell hd7 1 _ rfl
    have e2 := blk_cell hd7 2 _ rfl
    have e3 := blk_cell hd7 3 _ rfl
    have f0 := blk_cell hb7 0 _ rfl
    have f1 := blk_cell hb7 1 _ rfl
    have f2 := blk_cell hb7 2 _ rfl
    have f3 := blk_cell hb7 3 _ rfl
    have k0 := blk_frozen hb7 0
    have k1 := blk_frozen hb7 1
    have k2 := blk_frozen hb7 2
    have k3 := blk_frozen hb7 3
    clear hd7 hb7
    go_wp2_with fail
    refine bodyPost_ret (v := .agg #[.int .i64 S, .int .i64 Ef, .int .i64 mo, .int .i64 ra]) (by simp [results, Tryd.results70, go_sem, *]) rfl ⟨⟨S, Ef, mo, ra⟩, rfl, ?_, ?_, ?_, ?_, ?_, ?_⟩
    · have := Hst.out; simp only; omega
    · simp only; omega
    · simp only; omega
    · simp only; omega
    · exact (((H7.out.setCell hlt2 _).setCell hlt2 _).setCell hlt2 _).setCell hlt2 _
    · exact gr_setCell (gr_setCell (gr_setCell (gr_setCell Hg9.out (.inr (Nat.le_refl _)) _) (.inr (Nat.le_refl _)) _) (.inr (Nat.le_refl _)) _) (.inr (Nat.le_refl _)) _
  · have htd : (t == 0) = false := by simpa using htz
    have hd6 := Hd6.out
    have hb6 := Hb6.out
    have e0 := blk_cell hd6 0 _ rfl
    have e1 := blk_cell hd6 1 _ rfl
    have e2 := blk_cell hd6 2 _ rfl
    have e3 := blk_cell hd6 3 _ rfl
    have f0 := blk_cell hb6 0 _ rfl
    have f1 := blk_cell hb6 1 _ rfl
    have f2 := blk_cell hb6 2 _ rfl
    have f3 := blk_cell hb6 3 _ rfl
    have k0 := blk_frozen hb6 0
    have k1 := blk_frozen hb6 1
    have k2 := blk_frozen hb6 2
    have k3 := blk_frozen hb6 3
    clear hd6 hb6 htz ht0 ht1
    go_wp2_with fail
    refine bodyPost_ret (v := .agg #[.int .i64 S, .int .i64 E, .int .i64 mo, .int .i64 ra]) (by simp [results, Tryd.results70, go_sem, *]) rfl ⟨⟨S, E, mo, ra⟩, rfl, ?_, ?_, ?_, ?_, ?_, ?_⟩
    · have := Hst.out; simp only; omega
    · have := Hst.out; simp only; omega
    · simp only; omega
    · simp only; omega
    · exact ((((h5.setCell hlt _).setCell hlt _).setCell hlt _).setCell hlt _).mono (by omega)
    · exact gr_setCell (gr_setCell (gr_setCell (gr_setCell Hg5.out (.inr (Nat.le_refl _)) _) (.inr (Nat.le_refl _)) _) (.inr (Nat.le_refl _)) _) (.inr (Nat.le_refl _)) _

end Go.Proofs.YtpomlbloeejbjaaDoor
