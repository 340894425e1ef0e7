/- Packed: SpecAcc. -/
import Derived.Test.YtielicmjdhmcjaaGreatDoorRows
import Derived.Test.YtielicmjdhmcjaaGreatDoorPk19
/- Accrued interest of the reference. -/
namespace Go.Proofs.YtielicmjdhmcjaaGreatDoor
open Go.RowKit

set_option maxHeartbeats 400000 in
theorem specrunning_any (b : Bond) (day : Int) (w : World) :
    Calls Tryz.prog 64 #[.agg #[.int .i64 b.start, .int .i64 b.stop, .int .i64 b.months, .int .i64 b.rate], .int .i64 day] w fun e' w' => e' = .returned (.bool (runB b day)) ∧ w.grownBy w' none := by
  have Hb0 := hid (heap_alloc_new w (.cells #[.int .i64 b.start, .int .i64 b.stop, .int .i64 b.months, .int .i64 b.rate] 37))
  have HV := hid (specvalidBond_any b (w.alloc (.cells #[.int .i64 b.start, .int .i64 b.stop, .int .i64 b.months, .int .i64 b.rate] 37)))
  by_cases h : bondB b = true
  · have hok := ok_bond h
    have h1 := hok.span.s0; have h2 := hok.span.se; have h3 := hok.span.e1
    have H : Hid (withinB day b.start (b.stop - 1) = runB b day) := hid (by
      rw [Bool.eq_iff_iff]; unfold runB withinB; rw [h]
      simp only [Bool.true_and, Bool.and_eq_true, decide_eq_true_eq]; omega)
    rw [h] at HV
    clear hok h
    go_enter Tryz.func64, Tryz.ntmps64
    go_wp2_with fail
    refine HV.out.mono ?_
    rintro e' w1 ⟨rfl, hg⟩
    have Hg := hid (gr_trans0 (gr_alloc (gr0 w) _) hg)
    have hb1 := blk_keep Hb0.out hg (by simp)
    have c0 := blk_cell hb1 0 _ rfl
    have c1 := blk_cell hb1 1 _ rfl
    clear hb1 hg
    go_wp2_with fail
    refine (inRange_any _ _ _ _).mono ?_
    rintro e' w2 ⟨rfl, rfl⟩
    rw [H.out]
    go_wp2_with fail
    go_ret
    exact ⟨rfl, Hg.out⟩
  · have h : bondB b = false := by simpa using h
    have H : Hid (runB b day = false) := hid (by unfold runB; rw [h]; rfl)
    rw [h] at HV
    go_enter Tryz.func64, Tryz.ntmps64
    go_wp2_with fail
    refine HV.out.mono ?_
    rintro e' w1 ⟨rfl, hg⟩
    have Hg := hid (gr_trans0 (gr_alloc (gr0 w) _) hg)
    clear hg
    go_wp2_with fail
    go_ret
    exact ⟨ret_bool H.out.symm, Hg.out⟩

theorem OkBond.spanB {b : Bond} (h : OkBond b) : spanB b.start b.stop b.months = true := by
  have := h.ok
  unfold schedOk at this
  simp only [Bool.and_eq_true] at this
  exact this.1

theorem specsched_ok (b : Bond) (w : World) (h : OkBond b) :
    Calls Tryz.prog 101 #[.int .i64 b.start, .int .i64 b.stop, .int .i64 b.months] w fun e' w' => ∃ a n cap, e' = .returned (.slice a n cap) ∧ Ow perL w' w.heap.size a n (persF b) ∧ n ≤ cap ∧ w.grownBy w' none := by
  refine (specschedule_any b.start b.stop b.months w h.spanB).mono ?_
  rintro e' w' ⟨a, cap, rfl, ho, hc, hg⟩
  refine ⟨a, _, cap, rfl, ?_, hc, hg⟩
  have e : schedR b.start b.stop b.months = persF b := schedR_eq _ _ _ h.span.q2
  rwa [e] at ho

set_option maxRecDepth 100000 in
set_option maxHeartbeats 1000000 in
theorem specperiodOf_any (b : Bond) (day : Int) (w : World) (h : runB b day = true) :
    Calls Tryz.prog 102 #[.agg #[.int .i64 b.start, .int .i64 b.stop, .int .i64 b.months, .int .i64 b.rate], .int .i64 day] w fun e' w' => e' = .returned (.int .i64 (atF (persF b) day)) ∧ w.grownBy w' none := by
  obtain ⟨hok, hd0, hd1⟩ := run_facts h
  have HS := hid (specsched_ok b (w.alloc (.cells #[.int .i64 b.start, .int .i64 b.stop, .int .i64 b.months, .int .i64 b.rate] 37)) hok)
  have Hch := hid hok.chain
  have Hsp := hid (hok.chain.at_spec day hd0 hd1)
  have hpl : (persF b).length ≤ 40 := by unfold persF; rw [sched_len]; exact hok.span.q2
  clear h hok
  generalize hL : persF b = L at *
  have HL := hid hL
  clear hL
  go_enter Tryz.func102, Tryz.ntmps102
  go_wp2_with fail
  refine HS.out.mono ?_
  rintro e' w1 ⟨a, n, cap, rfl, ho, hc, hg⟩
  have hnl := ho.len
  have Ho := hid ho
  have Hg := hid (gr_trans0 (gr_alloc (gr0 w) _) hg)
  clear ho hg hc
  go_wp2_with fail
  go_loopw [6] (fun i wr => ∃ k : Nat, k ≤ n ∧ i = .int .i64 k ∧ Hid (∀ (t : Nat) (x : Per), t < k → L[t]? = some x → ¬ (x.frm ≤ day ∧ day < x.till)) ∧ wr = w1) (fun i _ => n - (intOf i).toNat)
  case atStart => exact ⟨0, by omega, rfl, hid (fun t x ht => by omega), by trivial⟩
  case round =>
    obtain ⟨k, hk, rfl, Hall, rfl⟩ := hrel
    by_cases hlt : k < n
    · obtain ⟨b1, o1, x, rfl, hx, c0, c1, c2⟩ := per_at Ho.out.sl k hlt
      have Hx := hid hx
      have hi0 : (0 : Int) ≤ k := by omega
      have hi1 : (k : Int) < n := by omega
      clear hx c2
      by_cases hf : x.frm ≤ day
      · have hfd : decide (x.frm ≤ day) = true := by simpa using hf
        by_cases ht : day < x.till
        · have htd : decide (day < x.till) = true := by simpa using ht
          have H := hid (Hch.out.at_uniq day k x Hx.out hf ht)
          clear hf ht
          go_wp2_with fail
          go_ret
          exact ⟨ret_int (by rw [H.out]), Hg.out⟩
        · have htd : decide (day < x.till) = false := by simpa using ht
          have Hall2 : Hid (∀ (t : Nat) (y : Per), t < k + 1 → L[t]? = some y → ¬ (y.frm ≤ day ∧ day < y.till)) := hid (fun t y htk hy => by
            by_cases e : t = k
            · subst e; rw [Hx.out] at hy; cases hy; omega
            · exact Hall.out t y (by omega) hy)
          clear hf ht
          go_wp2_with fail
          go_roundw
          case rel => exact ⟨k + 1, by omega, by go_num, Hall2, by trivial⟩
          case measure => simp [intOf]; omega
      · have hfd : decide (x.frm ≤ day) = false := by simpa using hf
        have Hall2 : Hid (∀ (t : Nat) (y : Per), t < k + 1 → L[t]? = some y → ¬ (y.frm ≤ day ∧ day < y.till)) := hid (fun t y htk hy => by
          by_cases e : t = k
          · subst e; rw [Hx.out] at hy; cases hy; omega
          · exact Hall.out t y (by omega) hy)
        clear hf
        go_wp2_with fail
        go_roundw
        case rel => exact ⟨k + 1, by omega, by go_num, Hall2, by trivial⟩
        case measure => simp [intOf]; omega
    · exfalso
      obtain ⟨p, hp, a1, a2, _, a4⟩ := Hsp.out
      exact Hall.out (atF L day) p (by omega) hp ⟨a1, a2⟩

set_option maxRecDepth 100000 in
set_option maxHeartbeats 4000000 in
theorem specaccrued_any (b : Bond) (day : Int) (w : World) (h : runB b day = true) :
    Calls Tryz.prog 65 #[.agg #[.int .i64 b.start, .int .i64 b.stop, .int .i64 b.months, .int .i64 b.rate], .int .i64 day] w fun e' w' => e' = .returned (.int .i64 (accL b day)) ∧ w.grownBy w' none := by
  have hg0 : w.grownBy (w.alloc (.cells #[.int .i64 b.start, .int .i64 b.stop, .int .i64 b.months, .int .i64 b.rate] 37)) none := gr_alloc (gr0 _) _
  have Hb0 := hid (heap_alloc_new w (.cells #[.int .i64 b.start, .int .i64 b.stop, .int .i64 b.months, .int .i64 b.rate] 37))
  have Hg0 := hid hg0
  obtain ⟨hok, hd0, hd1⟩ := run_facts h
  obtain ⟨t1, t2, t3, t4, t5⟩ := perAt_spec hok day hd0 hd1
  have hpp := pers_okPer hok _ t4
  have hcb := coup_bd hok _ hpp
  have HA := hid (show accL b day = (2 * (coupF b (perAt b day) * (day - (perAt b day).frm)) + ((perAt b day).till - (perAt b day).frm)) / (2 * ((perAt b day).till - (perAt b day).frm)) from rfl)
  have hpl : (persF b).length ≤ 40 := by unfold persF; rw [sched_len]; exact hok.span.q2
  generalize hpe : perAt b day = p at *
  have hf0 := hpp.f0; have hft := hpp.ft; have ht1 := hpp.t1
  have hx0 : 0 ≤ coupF b p * (day - p.frm) := Int.mul_nonneg hcb.1 (by omega)
  have hx1 : coupF b p * (day - p.frm) ≤ 3000 * 36524 := Int.le_trans (Int.mul_le_mul_of_nonneg_right hcb.2 (by omega)) (Int.mul_le_mul_of_nonneg_left (by omega) (by omega))
  have Hok := hid hok; have Hpp := hid hpp; have HT1 := hid t1; have Hrun := hid h
  clear hok hpp t1 t4 h hpe hg0
  go_enter Tryz.func65, Tryz.ntmps65
  go_upto_region 1 with fail
  have hb0 := Hb0.out
  obtain ⟨Wb, hWb⟩ : ∃ Wb, Wb = (w.alloc (.cells #[.int .i64 b.start, .int .i64 b.stop, .int .i64 b.months, .int .i64 b.rate] 37)) := ⟨_, rfl⟩
  rw [← hWb] at hb0 Hg0 ⊢
  have c0 := blk_cell hb0 0 _ rfl
  have c1 := blk_cell hb0 1 _ rfl
  have c2 := blk_cell hb0 2 _ rfl
  have c3 := blk_cell hb0 3 _ rfl
  clear hWb
  go_cut [5] from 6 to 17 (fun v wx => ∃ P, v = .pointer (some ⟨P, 0, none⟩) ∧ wx.heap[P]? = some (.cells #[.int .i64 p.frm, .int .i64 p.till, .bool p.whole] 115 (0, 0)) ∧ Wb.heap.size ≤ P ∧ Wb.grownBy wx none)
  case first =>
    generalize hat : atF (persF b) day = at1 at *
    have Hat := hid hat
    clear hat
    have HP9 := hid (fun wx => specperiodOf_any b day wx Hrun.out)
    rw [Hat.out] at HP9
    refine wp_region_held_drew (S := fun w' => Wb.grownBy w' none) (by kernel_rfl) (gr_drew (gr0 _)) (fun hHeld => ?_)
    refine wpAnyH_take (i := 0) (v := ?_) rfl (by kernel_rfl) (by kernel_rfl) (by kernel_rfl) (fun _ _ _ h => h) (Or.inl ⟨by rfl, ?_⟩) hHeld ?_
    rotate_left
    · intro w9 hSw
      (have s0 := World.grownBy.cell hSw c0 (by simp); have s1 := World.grownBy.cell hSw c1 (by simp); have s2 := World.grownBy.cell hSw c2 (by simp); have s3 := World.grownBy.cell hSw c3 (by simp); clear hSw)
      go_simp
      all_goals (try with_reducible rfl)
    (try simp only [Act.put, gA, gC, gD, gE, gF])
    refine wpAnyH_take (i := 1) (v := ?_) rfl (by kernel_rfl) (by kernel_rfl) (by kernel_rfl) (fun _ _ _ h => h) (Or.inl ⟨by rfl, ?_⟩) hHeld ?_
    rotate_left
    · intro w9 hSw
      (have s0 := World.grownBy.cell hSw c0 (by simp); have s1 := World.grownBy.cell hSw c1 (by simp); have s2 := World.grownBy.cell hSw c2 (by simp); have s3 := World.grownBy.cell hSw c3 (by simp); clear hSw)
      go_simp
      all_goals (try with_reducible rfl)
    (try simp only [Act.put, gA, gB, gC, gD, gE, gF])
    refine wpAnyH_take (i := 2) (v := ?_) rfl (by kernel_rfl) (by kernel_rfl) (by kernel_rfl) (fun _ _ _ h => h) (Or.inl ⟨by rfl, ?_⟩) hHeld ?_
    rotate_left
    · intro w9 hSw
      (have s0 := World.grownBy.cell hSw c0 (by simp); have s1 := World.grownBy.cell hSw c1 (by simp); have s2 := World.grownBy.cell hSw c2 (by simp); have s3 := World.grownBy.cell hSw c3 (by simp); clear hSw)
      go_simp
      all_goals (try with_reducible rfl)
    (try simp only [Act.put, gA, gB, gC, gD, gE, gF])
    refine wpAnyH_take (i := 3) (v := ?_) rfl (by kernel_rfl) (by kernel_rfl) (by kernel_rfl) (fun _ _ _ h => h) (Or.inl ⟨by rfl, ?_⟩) hHeld ?_
    rotate_left
    · intro w9 hSw
      (have s0 := World.grownBy.cell hSw c0 (by simp); have s1 := World.grownBy.cell hSw c1 (by simp); have s2 := World.grownBy.cell hSw c2 (by simp); have s3 := World.grownBy.cell hSw c3 (by simp); clear hSw)
      go_simp
      all_goals (try with_reducible rfl)
    (try simp only [Act.put, gA, gB, gC, gD, gE, gF])
    refine wpAnyH_take (i := 4) (v := ?_) rfl (by kernel_rfl) (by kernel_rfl) (by kernel_rfl) (fun _ _ _ h => h) (Or.inl ⟨by rfl, ?_⟩) hHeld ?_
    rotate_left
    · intro w9 hSw
      (have s0 := World.grownBy.cell hSw c0 (by simp); have s1 := World.grownBy.cell hSw c1 (by simp); have s2 := World.grownBy.cell hSw c2 (by simp); have s3 := World.grownBy.cell hSw c3 (by simp); clear hSw)
      go_simp
      all_goals (try with_reducible rfl)
    (try simp only [Act.put, gA, gB, gC, gD, gE, gF])
    refine wpAnyH_take (i := 5) (v := ?_) rfl (by kernel_rfl) (by kernel_rfl) (by kernel_rfl) (fun _ _ _ h => h) (Or.inl ⟨by rfl, ?_⟩) hHeld ?_
    rotate_left
    · intro w9 hSw
      (have s0 := World.grownBy.cell hSw c0 (by simp); have s1 := World.grownBy.cell hSw c1 (by simp); have s2 := World.grownBy.cell hSw c2 (by simp); have s3 := World.grownBy.cell hSw c3 (by simp); clear hSw)
      go_simp
      all_goals (try with_reducible rfl)
    (try simp only [Act.put, gA, gB, gC, gD, gE, gF])
    refine wpAnyH_take (i := 7) (v := ?_) rfl (by kernel_rfl) (by kernel_rfl) (by kernel_rfl) (fun _ _ _ h => h) (Or.inl ⟨by rfl, ?_⟩) hHeld ?_
    rotate_left
    · intro w9 hSw
      (have s0 := World.grownBy.cell hSw c0 (by simp); have s1 := World.grownBy.cell hSw c1 (by simp); have s2 := World.grownBy.cell hSw c2 (by simp); have s3 := World.grownBy.cell hSw c3 (by simp); clear hSw)
      go_simp
      all_goals (try with_reducible rfl)
    (try simp only [Act.put, gA, gB, gC, gD, gE, gF])
    refine wpAnyH_take (i := 8) (v := ?_) rfl (by kernel_rfl) (by kernel_rfl) (by kernel_rfl) (fun _ _ _ h => h) (Or.inl ⟨by rfl, ?_⟩) hHeld ?_
    rotate_left
    · intro w9 hSw
      (have s0 := World.grownBy.cell hSw c0 (by simp); have s1 := World.grownBy.cell hSw c1 (by simp); have s2 := World.grownBy.cell hSw c2 (by simp); have s3 := World.grownBy.cell hSw c3 (by simp); clear hSw)
      go_simp
      all_goals (try with_reducible rfl)
    (try simp only [Act.put, gA, gB, gC, gD, gE, gF])
    refine wpAnyH_ready (rs := [6, 12]) (by kernel_rfl) (by simp) ?_
    refine AllReadyH.cons rfl (fun K' hK' => ?_) (AllReadyH.cons rfl (fun K' hK' => ?_) AllReadyH.nil)
    · go_simp
      refine (specsched_ok b _ Hok.out).mono ?_
      rintro e' wA ⟨la, ln, lcap, rfl, hoA, hcA, hgA⟩
      (try simp only [])
      refine hK'.out _ _ (gr_trans0 hHeld hgA) (fun hHeldA => ?_)
      have hHeld := hHeldA
      try (have hbD := blk_keep hbD hgA (by simp))
      clear hK' K' hHeldA
      (try simp only [Act.put, gA, gB, gC, gD, gE, gF])
      refine wpAnyH_ready (rs := [9, 12]) (by kernel_rfl) (by simp) ?_
      refine AllReadyH.cons rfl (fun K' hK' => ?_) (AllReadyH.cons rfl (fun K' hK' => ?_) AllReadyH.nil)
      · go_simp
        refine (HP9.out _).mono ?_
        rintro e' wB ⟨rfl, hgB⟩
        (try simp only [])
        refine hK'.out _ _ (gr_trans0 hHeld hgB) (fun hHeldB => ?_)
        have hHeld := hHeldB
        have hoA := hoA.keep0 hgB
        try (have hbD := blk_keep hbD hgB (by simp))
        clear hK' K' hHeldB
        (try simp only [Act.put, gA, gB, gC, gD, gE, gF])
        obtain ⟨lb, lo, z, rfl, hz, l0, l1, l2⟩ := per_at hoA.sl at1 (by have := hoA.len; omega)
        rw [HT1.out] at hz
        obtain rfl := Option.some.inj hz
        have hln := hoA.len
        have hi1 : (at1 : Int) < ln := by omega
        have hi0 : (0 : Int) ≤ at1 := by omega
        refine wpAnyH_take (i := 10) (v := ?_) rfl (by kernel_rfl) (by kernel_rfl) (by kernel_rfl) (fun _ _ _ h => h) (Or.inl ⟨by rfl, ?_⟩) hHeld ?_
        rotate_left
        · intro w9 hSw
          clear hSw
          go_simp
          all_goals (try with_reducible rfl)
        (try simp only [Act.put, gA, gB, gC, gD, gE, gF])
        refine wpAnyH_ready (rs := [11, 12]) (by kernel_rfl) (by simp) ?_
        refine AllReadyH.cons rfl (fun K' hK' => ?_) (AllReadyH.cons rfl (fun K' hK' => ?_) AllReadyH.nil)
        · go_simp
          refine hK'.out _ _ hHeld (fun _ => ?_)
          clear hK' K'
          (try simp only [Act.put, gA, gB, gC, gD, gE, gF])
          refine wpAnyH_ready (rs := [12]) (by kernel_rfl) (by simp) ?_
          refine AllReadyH.cons rfl (fun K' hK' => ?_) AllReadyH.nil
          go_simp
          have hHeldP := hHeld
          refine hK'.out _ _ (gr_alloc hHeld _) (fun hHeldC => ?_)
          have hbD := heap_alloc_new wB (.cells #[.int .i64 0, .int .i64 0, .bool false] 115)
          have hDge := gr_le hHeld
          try (have hoA := hoA.keep0 (gr_alloc (gr0 wB) (.cells #[.int .i64 0, .int .i64 0, .bool false] 115)))
          have hHeld := hHeldC
          clear hK' K' hHeldC
          (try simp only [Act.put, gA, gB, gC, gD, gE, gF])
          have e0 := blk_cell hbD 0 _ rfl
          have e1 := blk_cell hbD 1 _ rfl
          have e2 := blk_cell hbD 2 _ rfl
          have k0 := blk_frozen hbD 0
          have k1 := blk_frozen hbD 1
          have k2 := blk_frozen hbD 2
          refine wpAnyH_ready (rs := [13]) (by kernel_rfl) (by simp) ?_
          refine AllReadyH.cons rfl (fun K' hK' => ?_) AllReadyH.nil
          go_simp
          refine hK'.out _ _ (gr_alloc hHeldP _) (fun hHeldF => ?_)
          clear hK' K'
          (try simp only [Act.put, gA, gB, gC, gD, gE, gF])
          refine wpAnyH_done (by kernel_rfl) ?_ _
          go_wp2_with fail
          go_meet
          exact ⟨wB.heap.size, rfl, heap_alloc_new _ _, hDge, hHeldF⟩
        · go_simp
          have hHeldP := hHeld
          refine hK'.out _ _ (gr_alloc hHeld _) (fun hHeldC => ?_)
          have hbD := heap_alloc_new wB (.cells #[.int .i64 0, .int .i64 0, .bool false] 115)
          have hDge := gr_le hHeld
          try (have hoA := hoA.keep0 (gr_alloc (gr0 wB) (.cells #[.int .i64 0, .int .i64 0, .bool false] 115)))
          have hHeld := hHeldC
          clear hK' K' hHeldC
          (try simp only [Act.put, gA, gB, gC, gD, gE, gF])
          obtain ⟨lb2, lo2, z2, le2, hz2, l0, l1, l2⟩ := per_at hoA.sl at1 (by omega)
          cases le2
          rw [HT1.out] at hz2
          obtain rfl := Option.some.inj hz2
          refine wpAnyH_ready (rs := [11]) (by kernel_rfl) (by simp) ?_
          refine AllReadyH.cons rfl (fun K' hK' => ?_) AllReadyH.nil
          go_simp
          refine hK'.out _ _ hHeld (fun _ => ?_)
          clear hK' K'
          (try simp only [Act.put, gA, gB, gC, gD, gE, gF])
          have e0 := blk_cell hbD 0 _ rfl
          have e1 := blk_cell hbD 1 _ rfl
          have e2 := blk_cell hbD 2 _ rfl
          have k0 := blk_frozen hbD 0
          have k1 := blk_frozen hbD 1
          have k2 := blk_frozen hbD 2
          refine wpAnyH_ready (rs := [13]) (by kernel_rfl) (by simp) ?_
          refine AllReadyH.cons rfl (fun K' hK' => ?_) AllReadyH.nil
          go_simp
          refine hK'.out _ _ (gr_alloc hHeldP _) (fun hHeldF => ?_)
          clear hK' K'
          (try simp only [Act.put, gA, gB, gC, gD, gE, gF])
          refine wpAnyH_done (by kernel_rfl) ?_ _
          go_wp2_with fail
          go_meet
          exact ⟨wB.heap.size, rfl, heap_alloc_new _ _, hDge, hHeldF⟩
      · go_simp
        have hHeldP := hHeld
        refine hK'.out _ _ (gr_alloc hHeld _) (fun hHeldC => ?_)
        have hbD := heap_alloc_new wA (.cells #[.int .i64 0, .int .i64 0, .bool false] 115)
        have hDge := gr_le hHeld
        try (have hoA := hoA.keep0 (gr_alloc (gr0 wA) (.cells #[.int .i64 0, .int .i64 0, .bool false] 115)))
        have hHeld := hHeldC
        clear hK' K' hHeldC
        (try simp only [Act.put, gA, gB, gC, gD, gE, gF])
        refine wpAnyH_ready (rs := [9]) (by kernel_rfl) (by simp) ?_
        refine AllReadyH.cons rfl (fun K' hK' => ?_) AllReadyH.nil
        go_simp
        refine (HP9.out _).mono ?_
        rintro e' wB ⟨rfl, hgB⟩
        (try simp only [])
        refine hK'.out _ _ (gr_trans0 hHeld hgB) (fun hHeldB => ?_)
        have hHeld := hHeldB
        have hoA := hoA.keep0 hgB
        try (have hbD := blk_keep hbD hgB (by simp))
        clear hK' K' hHeldB
        (try simp only [Act.put, gA, gB, gC, gD, gE, gF])
        obtain ⟨lb, lo, z, rfl, hz, l0, l1, l2⟩ := per_at hoA.sl at1 (by have := hoA.len; omega)
        rw [HT1.out] at hz
        obtain rfl := Option.some.inj hz
        have hln := hoA.len
        have hi1 : (at1 : Int) < ln := by omega
        have hi0 : (0 : Int) ≤ at1 := by omega
        refine wpAnyH_take (i := 10) (v := ?_) rfl (by kernel_rfl) (by kernel_rfl) (by kernel_rfl) (fun _ _ _ h => h) (Or.inl ⟨by rfl, ?_⟩) hHeld ?_
        rotate_left
        · intro w9 hSw
          clear hSw
          go_simp
          all_goals (try with_reducible rfl)
        (try simp only [Act.put, gA, gB, gC, gD, gE, gF])
        refine wpAnyH_ready (rs := [11]) (by kernel_rfl) (by simp) ?_
        refine AllReadyH.cons rfl (fun K' hK' => ?_) AllReadyH.nil
        go_simp
        refine hK'.out _ _ hHeld (fun _ => ?_)
        clear hK' K'
        (try simp only [Act.put, gA, gB, gC, gD, gE, gF])
        have e0 := blk_cell hbD 0 _ rfl
        have e1 := blk_cell hbD 1 _ rfl
        have e2 := blk_cell hbD 2 _ rfl
        have k0 := blk_frozen hbD 0
        have k1 := blk_frozen hbD 1
        have k2 := blk_frozen hbD 2
        refine wpAnyH_ready (rs := [13]) (by kernel_rfl) (by simp) ?_
        refine AllReadyH.cons rfl (fun K' hK' => ?_) AllReadyH.nil
        go_simp
        refine hK'.out _ _ (gr_setCell (gr_setCell (gr_setCell hHeld (.inr (by first | exact hDge | exact Nat.le_refl _)) _) (.inr (by first | exact hDge | exact Nat.le_refl _)) _) (.inr (by first | exact hDge | exact Nat.le_refl _)) _) (fun hHeldF => ?_)
        clear hK' K'
        (try simp only [Act.put, gA, gB, gC, gD, gE, gF])
        refine wpAnyH_done (by kernel_rfl) ?_ _
        go_wp2_with fail
        go_meet
        exact ⟨wA.heap.size, rfl, by rw [blk_set (blk_set (blk_set hbD 0 _) 1 _) 2 _]; rfl, hDge, hHeldF⟩
    · go_simp
      have hHeldP := hHeld
      refine hK'.out _ _ (gr_alloc hHeld _) (fun hHeldC => ?_)
      have hbD := heap_alloc_new Wb.drew (.cells #[.int .i64 0, .int .i64 0, .bool false] 115)
      have hDge := gr_le hHeld
      try (have hoA := hoA.keep0 (gr_alloc (gr0 Wb.drew) (.cells #[.int .i64 0, .int .i64 0, .bool false] 115)))
      have hHeld := hHeldC
      clear hK' K' hHeldC
      (try simp only [Act.put, gA, gB, gC, gD, gE, gF])
      refine wpAnyH_ready (rs := [6]) (by kernel_rfl) (by simp) ?_
      refine AllReadyH.cons rfl (fun K' hK' => ?_) AllReadyH.nil
      go_simp
      refine (specsched_ok b _ Hok.out).mono ?_
      rintro e' wA ⟨la, ln, lcap, rfl, hoA, hcA, hgA⟩
      (try simp only [])
      refine hK'.out _ _ (gr_trans0 hHeld hgA) (fun hHeldA => ?_)
      have hHeld := hHeldA
      try (have hbD := blk_keep hbD hgA (by simp))
      clear hK' K' hHeldA
      (try simp only [Act.put, gA, gB, gC, gD, gE, gF])
      refine wpAnyH_ready (rs := [9]) (by kernel_rfl) (by simp) ?_
      refine AllReadyH.cons rfl (fun K' hK' => ?_) AllReadyH.nil
      go_simp
      refine (HP9.out _).mono ?_
      rintro e' wB ⟨rfl, hgB⟩
      (try simp only [])
      refine hK'.out _ _ (gr_trans0 hHeld hgB) (fun hHeldB => ?_)
      have hHeld := hHeldB
      have hoA := hoA.keep0 hgB
      try (have hbD := blk_keep hbD hgB (by simp))
      clear hK' K' hHeldB
      (try simp only [Act.put, gA, gB, gC, gD, gE, gF])
      obtain ⟨lb, lo, z, rfl, hz, l0, l1, l2⟩ := per_at hoA.sl at1 (by have := hoA.len; omega)
      rw [HT1.out] at hz
      obtain rfl := Option.some.inj hz
      have hln := hoA.len
      have hi1 : (at1 : Int) < ln := by omega
      have hi0 : (0 : Int) ≤ at1 := by omega
      refine wpAnyH_take (i := 10) (v := ?_) rfl (by kernel_rfl) (by kernel_rfl) (by kernel_rfl) (fun _ _ _ h => h) (Or.inl ⟨by rfl, ?_⟩) hHeld ?_
      rotate_left
      · intro w9 hSw
        clear hSw
        go_simp
        all_goals (try with_reducible rfl)
      (try simp only [Act.put, gA, gB, gC, gD, gE, gF])
      refine wpAnyH_ready (rs := [11]) (by kernel_rfl) (by simp) ?_
      refine AllReadyH.cons rfl (fun K' hK' => ?_) AllReadyH.nil
      go_simp
      refine hK'.out _ _ hHeld (fun _ => ?_)
      clear hK' K'
      (try simp only [Act.put, gA, gB, gC, gD, gE, gF])
      have hDge : Wb.heap.size ≤ Wb.heap.size := Nat.le_refl _
      have hbD : wB.heap[Wb.heap.size]? = _ := hbD
      have e0 := blk_cell hbD 0 _ rfl
      have e1 := blk_cell hbD 1 _ rfl
      have e2 := blk_cell hbD 2 _ rfl
      have k0 := blk_frozen hbD 0
      have k1 := blk_frozen hbD 1
      have k2 := blk_frozen hbD 2
      refine wpAnyH_ready (rs := [13]) (by kernel_rfl) (by simp) ?_
      refine AllReadyH.cons rfl (fun K' hK' => ?_) AllReadyH.nil
      go_simp
      refine hK'.out _ _ (gr_setCell (gr_setCell (gr_setCell hHeld (.inr (by first | exact hDge | exact Nat.le_refl _)) _) (.inr (by first | exact hDge | exact Nat.le_refl _)) _) (.inr (by first | exact hDge | exact Nat.le_refl _)) _) (fun hHeldF => ?_)
      clear hK' K'
      (try simp only [Act.put, gA, gB, gC, gD, gE, gF])
      refine wpAnyH_done (by kernel_rfl) ?_ _
      go_wp2_with fail
      go_meet
      exact ⟨Wb.heap.size, rfl, by rw [blk_set (blk_set (blk_set hbD 0 _) 1 _) 2 _]; rfl, hDge, hHeldF⟩
  case rest =>
    obtain ⟨P, rfl, hbP, hge, hgC⟩ := hcut
    generalize wc = W at *
    clear c0 c1 c2 c3
    have hb2 := blk_keep hb0 hgC (by simp)
    have c0 := blk_cell hb2 0 _ rfl
    have c1 := blk_cell hb2 1 _ rfl
    have c2 := blk_cell hb2 2 _ rfl
    have c3 := blk_cell hb2 3 _ rfl
    have q0 := blk_cell hbP 0 _ rfl
    have q1 := blk_cell hbP 1 _ rfl
    have q2 := blk_cell hbP 2 _ rfl
    have HgD := hid (gr_trans0 Hg0.out hgC)
    have hs1 : IntKind.i64.wrap (day - p.frm) = day - p.frm := IntWalk.i64_in _ (by omega)
    have hs2 : IntKind.i64.wrap (p.till - p.frm) = p.till - p.frm := IntWalk.i64_in _ (by omega)
    have hs3 : IntKind.i64.wrap (coupF b p * (day - p.frm)) = coupF b p * (day - p.frm) := IntWalk.i64_in _ (by omega)
    have HC := hid (fun wx => speccouponOf_any b p wx Hok.out Hpp.out)
    have HN := hid (fun wx => specnearest_any (coupF b p * (day - p.frm)) (p.till - p.frm) wx (by omega) (by omega) (by omega) (by omega))
    clear hb0 hb2 hbP hgC hge Hg0 Hb0
    go_upto_region 2 with fail
    refine wp_region_held_drew (S := fun w' => ((w'.cell? ⟨w.heap.size, 0, none⟩ = some (.int .i64 b.start) ∧ w'.cell? ⟨w.heap.size, 1, none⟩ = some (.int .i64 b.stop) ∧ w'.cell? ⟨w.heap.size, 2, none⟩ = some (.int .i64 b.months) ∧ w'.cell? ⟨w.heap.size, 3, none⟩ = some (.int .i64 b.rate)) ∧ w'.cell? ⟨P, 0, none⟩ = some (.int .i64 p.frm) ∧ w'.cell? ⟨P, 1, none⟩ = some (.int .i64 p.till) ∧ w'.cell? ⟨P, 2, none⟩ = some (.bool p.whole)) ∧ W.grownBy w' none) (by kernel_rfl) ⟨⟨⟨c0, c1, c2, c3⟩, q0, q1, q2⟩, gr_drew (gr0 _)⟩ (fun hHeld => ?_)
    refine wpAnyH_take (i := 0) (v := ?_) rfl (by kernel_rfl) (by kernel_rfl) (by kernel_rfl) (fun _ _ _ h => h) (Or.inl ⟨by rfl, ?_⟩) hHeld ?_
    rotate_left
    · intro w9 hSw
      obtain ⟨⟨⟨s0, s1, s2, s3⟩, s4, s5, s6⟩, s7⟩ := hSw
      go_simp
      all_goals (try with_reducible rfl)
    (try simp only [Act.put, gA, gC, gD, gE, gF])
    refine wpAnyH_take (i := 1) (v := ?_) rfl (by kernel_rfl) (by kernel_rfl) (by kernel_rfl) (fun _ _ _ h => h) (Or.inl ⟨by rfl, ?_⟩) hHeld ?_
    rotate_left
    · intro w9 hSw
      obtain ⟨⟨⟨s0, s1, s2, s3⟩, s4, s5, s6⟩, s7⟩ := hSw
      go_simp
      all_goals (try with_reducible rfl)
    (try simp only [Act.put, gA, gB, gC, gD, gE, gF])
    refine wpAnyH_take (i := 3) (v := ?_) rfl (by kernel_rfl) (by kernel_rfl) (by kernel_rfl) (fun _ _ _ h => h) (Or.inl ⟨by rfl, ?_⟩) hHeld ?_
    rotate_left
    · intro w9 hSw
      obtain ⟨⟨⟨s0, s1, s2, s3⟩, s4, s5, s6⟩, s7⟩ := hSw
      go_simp
      all_goals (try with_reducible rfl)
    (try simp only [Act.put, gA, gB, gC, gD, gE, gF])
    refine wpAnyH_take (i := 4) (v := ?_) rfl (by kernel_rfl) (by kernel_rfl) (by kernel_rfl) (fun _ _ _ h => h) (Or.inl ⟨by rfl, ?_⟩) hHeld ?_
    rotate_left
    · intro w9 hSw
      obtain ⟨⟨⟨s0, s1, s2, s3⟩, s4, s5, s6⟩, s7⟩ := hSw
      go_simp
      all_goals (try with_reducible rfl)
    (try simp only [Act.put, gA, gB, gC, gD, gE, gF])
    refine wpAnyH_take (i := 5) (v := ?_) rfl (by kernel_rfl) (by kernel_rfl) (by kernel_rfl) (fun _ _ _ h => h) (Or.inl ⟨by rfl, ?_⟩) hHeld ?_
    rotate_left
    · intro w9 hSw
      obtain ⟨⟨⟨s0, s1, s2, s3⟩, s4, s5, s6⟩, s7⟩ := hSw
      go_simp
      all_goals (try with_reducible rfl)
    (try simp only [Act.put, gA, gB, gC, gD, gE, gF])
    refine wpAnyH_take (i := 6) (v := ?_) rfl (by kernel_rfl) (by kernel_rfl) (by kernel_rfl) (fun _ _ _ h => h) (Or.inl ⟨by rfl, ?_⟩) hHeld ?_
    rotate_left
    · intro w9 hSw
      obtain ⟨⟨⟨s0, s1, s2, s3⟩, s4, s5, s6⟩, s7⟩ := hSw
      go_simp
      all_goals (try with_reducible rfl)
    (try simp only [Act.put, gA, gB, gC, gD, gE, gF])
    (try simp only [hs1])
    refine wpAnyH_take (i := 8) (v := ?_) rfl (by kernel_rfl) (by kernel_rfl) (by kernel_rfl) (fun _ _ _ h => h) (Or.inl ⟨by rfl, ?_⟩) hHeld ?_
    rotate_left
    · intro w9 hSw
      obtain ⟨⟨⟨s0, s1, s2, s3⟩, s4, s5, s6⟩, s7⟩ := hSw
      go_simp
      all_goals (try with_reducible rfl)
    (try simp only [Act.put, gA, gB, gC, gD, gE, gF])
    refine wpAnyH_take (i := 9) (v := ?_) rfl (by kernel_rfl) (by kernel_rfl) (by kernel_rfl) (fun _ _ _ h => h) (Or.inl ⟨by rfl, ?_⟩) hHeld ?_
    rotate_left
    · intro w9 hSw
      obtain ⟨⟨⟨s0, s1, s2, s3⟩, s4, s5, s6⟩, s7⟩ := hSw
      go_simp
      all_goals (try with_reducible rfl)
    (try simp only [Act.put, gA, gB, gC, gD, gE, gF])
    refine wpAnyH_take (i := 10) (v := ?_) rfl (by kernel_rfl) (by kernel_rfl) (by kernel_rfl) (fun _ _ _ h => h) (Or.inl ⟨by rfl, ?_⟩) hHeld ?_
    rotate_left
    · intro w9 hSw
      obtain ⟨⟨⟨s0, s1, s2, s3⟩, s4, s5, s6⟩, s7⟩ := hSw
      go_simp
      all_goals (try with_reducible rfl)
    (try simp only [Act.put, gA, gB, gC, gD, gE, gF])
    refine wpAnyH_take (i := 11) (v := ?_) rfl (by kernel_rfl) (by kernel_rfl) (by kernel_rfl) (fun _ _ _ h => h) (Or.inl ⟨by rfl, ?_⟩) hHeld ?_
    rotate_left
    · intro w9 hSw
      obtain ⟨⟨⟨s0, s1, s2, s3⟩, s4, s5, s6⟩, s7⟩ := hSw
      go_simp
      all_goals (try with_reducible rfl)
    (try simp only [Act.put, gA, gB, gC, gD, gE, gF])
    refine wpAnyH_take (i := 12) (v := ?_) rfl (by kernel_rfl) (by kernel_rfl) (by kernel_rfl) (fun _ _ _ h => h) (Or.inl ⟨by rfl, ?_⟩) hHeld ?_
    rotate_left
    · intro w9 hSw
      obtain ⟨⟨⟨s0, s1, s2, s3⟩, s4, s5, s6⟩, s7⟩ := hSw
      go_simp
      all_goals (try with_reducible rfl)
    (try simp only [Act.put, gA, gB, gC, gD, gE, gF])
    (try simp only [hs2])
    refine wpAnyH_ready (rs := [2]) (by kernel_rfl) (by simp) ?_
    refine AllReadyH.cons rfl (fun K' hK' => ?_) AllReadyH.nil
    go_simp
    refine (HC.out _).mono ?_
    rintro e' w5 ⟨rfl, hg5⟩
    (try simp only [])
    have hh2 : ((w5.cell? ⟨w.heap.size, 0, none⟩ = some (.int .i64 b.start) ∧ w5.cell? ⟨w.heap.size, 1, none⟩ = some (.int .i64 b.stop) ∧ w5.cell? ⟨w.heap.size, 2, none⟩ = some (.int .i64 b.months) ∧ w5.cell? ⟨w.heap.size, 3, none⟩ = some (.int .i64 b.rate)) ∧ w5.cell? ⟨P, 0, none⟩ = some (.int .i64 p.frm) ∧ w5.cell? ⟨P, 1, none⟩ = some (.int .i64 p.till) ∧ w5.cell? ⟨P, 2, none⟩ = some (.bool p.whole)) ∧ W.grownBy w5 none :=
      ⟨⟨⟨hg5.cell hHeld.1.1.1 (by simp), hg5.cell hHeld.1.1.2.1 (by simp), hg5.cell hHeld.1.1.2.2.1 (by simp), hg5.cell hHeld.1.1.2.2.2 (by simp)⟩, hg5.cell hHeld.1.2.1 (by simp), hg5.cell hHeld.1.2.2.1 (by simp), hg5.cell hHeld.1.2.2.2 (by simp)⟩, gr_trans0 hHeld.2 hg5⟩
    refine hK'.out _ _ hh2 (fun hHeld2 => ?_)
    clear hK' K' hh2
    (try simp only [Act.put, gA, gB, gC, gD, gE, gF])
    refine wpAnyH_take (i := 7) (v := ?_) rfl (by kernel_rfl) (by kernel_rfl) (by kernel_rfl) (fun _ _ _ h => h) (Or.inl ⟨by rfl, ?_⟩) hHeld2 ?_
    rotate_left
    · intro w9 hSw
      obtain ⟨⟨⟨s0, s1, s2, s3⟩, s4, s5, s6⟩, s7⟩ := hSw
      go_simp
      all_goals (try with_reducible rfl)
    (try simp only [Act.put, gA, gB, gC, gD, gE, gF])
    (try simp only [hs3])
    refine wpAnyH_ready (rs := [13]) (by kernel_rfl) (by simp) ?_
    refine AllReadyH.cons rfl (fun K' hK' => ?_) AllReadyH.nil
    go_simp
    refine (HN.out _).mono ?_
    rintro e' w6 ⟨rfl, rfl⟩
    (try simp only [])
    refine hK'.out _ _ hHeld2 (fun _ => ?_)
    clear hK' K'
    (try simp only [Act.put, gA, gB, gC, gD, gE, gF])
    refine wpAnyH_take (i := 14) (v := ?_) rfl (by kernel_rfl) (by kernel_rfl) (by kernel_rfl) (fun _ _ _ h => h) (Or.inl ⟨by rfl, ?_⟩) hHeld2 ?_
    rotate_left
    · intro w9 hSw
      obtain ⟨⟨⟨s0, s1, s2, s3⟩, s4, s5, s6⟩, s7⟩ := hSw
      go_simp
      all_goals (try with_reducible rfl)
    (try simp only [Act.put, gA, gB, gC, gD, gE, gF])
    refine wpAnyH_done (by kernel_rfl) ?_ _
    have HgF := hid hHeld2.2
    clear hHeld hHeld2 hg5 hs1 hs2 hs3
    go_wp2_with fail
    go_ret
    exact ⟨ret_int HA.out.symm, gr_trans0 HgD.out HgF.out⟩

end Go.Proofs.YtielicmjdhmcjaaGreatDoor
