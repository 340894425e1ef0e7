/- Packed: Cmd. -/
import Derived.Test.YtielicmjdhmcjaaGreatDoorRows
import Derived.Test.YtielicmjdhmcjaaGreatDoorPk29
import Derived.Test.YtielicmjdhmcjaaGreatDoorPk31
import Derived.Test.YtielicmjdhmcjaaGreatDoorPk32
import Derived.Test.YtielicmjdhmcjaaGreatDoorPk34
/- The commands of the program's desk, one by one. -/
namespace Go.Proofs.YtielicmjdhmcjaaGreatDoor
open Go.RowKit

set_option maxHeartbeats 1000000 in
theorem setBond_any (sb : Nat) (s : Desk) (l : List UInt8) (w : World) (hd : DeskAt 40 w sb s) (hm : Laid4 w) (hl : l.length ≤ 2000000) :
    Calls Tryz.prog 23 #[.pointer (some ⟨sb, 0, none⟩), .string ⟨(l).toArray⟩] w fun e w' => e = .returned (.string ⟨((bondD s l).2).toArray⟩) ∧ DeskAt 40 w' sb (bondD s l).1 ∧ w.grownBy w' (some sb) := by
  obtain ⟨a, n, cap, hd⟩ := hd
  have HD := hid hd
  have HP := hid (ParseBond_any l w hm hl)
  clear hd hm
  cases hb : pbOk l with
  | false =>
    have HT := hid (show bondD s l = (s, noT) by unfold bondD; rw [hb]; rfl)
    rw [hb] at HP
    clear hb
    go_enter Tryz.func23, Tryz.ntmps23
    go_wp2_with fail
    refine HP.out.mono ?_
    rintro e w1 ⟨rfl, hg⟩
    have Hg1 := hid hg
    clear hg
    go_wp2_with fail
    refine (yes_any false _).mono ?_
    rintro e w2 ⟨rfl, rfl⟩
    go_wp2_with fail
    go_ret
    have hfin := gr_alloc Hg1.out (Obj.cells #[.int .i64 (pbV l).start, .int .i64 (pbV l).stop, .int .i64 (pbV l).months, .int .i64 (pbV l).rate] 37)
    exact ⟨by rw [HT.out]; rfl, by rw [HT.out]; exact ⟨_, _, _, HD.out.keep hfin⟩, gr_any hfin _⟩
  | true =>
    have HT := hid (show bondD s l = (⟨pbV l, s.day, s.trades⟩, okT) by unfold bondD pbV; rw [if_pos hb, if_pos hb])
    rw [hb] at HP
    generalize pbV l = b at *
    clear hb
    go_enter Tryz.func23, Tryz.ntmps23
    go_wp2_with fail
    refine HP.out.mono ?_
    rintro e w1 ⟨rfl, hg⟩
    have Hg1 := hid hg
    have HD1 := hid (HD.out.keep hg)
    have hlt := blk_lt (blk_keep HD.out.c hg (by simp))
    have n1 : ¬ sb = w1.heap.size := by omega
    have n2 : ¬ w1.heap.size = sb := by omega
    have hc1 := blk_keep HD.out.c hg (by simp)
    have c0 := blk_cell hc1 0 _ rfl
    have c1 := blk_cell hc1 1 _ rfl
    have c2 := blk_cell hc1 2 _ rfl
    have c3 := blk_cell hc1 3 _ rfl
    have f0 := blk_frozen hc1 0
    have f1 := blk_frozen hc1 1
    have f2 := blk_frozen hc1 2
    have f3 := blk_frozen hc1 3
    clear hc1
    clear hg HP
    go_wp2_with fail
    refine (yes_any true _).mono ?_
    rintro e w2 ⟨rfl, rfl⟩
    go_wp2_with fail
    go_ret
    refine ⟨by rw [HT.out]; rfl, by rw [HT.out]; exact ⟨_, _, _, (HD1.out.setBond b).keep (gr_alloc (gr0 _) _)⟩, ?_⟩
    exact gr_alloc (gr_setCell (gr_setCell (gr_setCell (gr_setCell (gr_any Hg1.out (some sb)) (.inl rfl) _) (.inl rfl) _) (.inl rfl) _) (.inl rfl) _) _

set_option maxHeartbeats 1000000 in
theorem setDay_any (sb : Nat) (s : Desk) (l : List UInt8) (w : World) (hd : DeskAt 40 w sb s) (hm : Laid4 w) (hl : l.length ≤ 2000000) :
    Calls Tryz.prog 24 #[.pointer (some ⟨sb, 0, none⟩), .string ⟨(l).toArray⟩] w fun e w' => e = .returned (.string ⟨((dayD s l).2).toArray⟩) ∧ DeskAt 40 w' sb (dayD s l).1 ∧ w.grownBy w' (some sb) := by
  obtain ⟨a, n, cap, hd⟩ := hd
  have HD := hid hd
  have HP := hid (ParseDate_any l w hm hl)
  have Hm := hid hm
  clear hd hm
  cases hb : pdOk l with
  | false =>
    have HT := hid (show dayD s l = (s, noT) by unfold dayD; rw [hb]; rfl)
    rw [hb] at HP
    clear hb
    go_enter Tryz.func24, Tryz.ntmps24
    go_wp2_with fail
    refine HP.out.mono ?_
    rintro e w1 ⟨rfl, hg⟩
    have Hg1 := hid hg
    clear hg
    go_wp2_with fail
    refine (yes_any false _).mono ?_
    rintro e w2 ⟨rfl, rfl⟩
    go_wp2_with fail
    go_ret
    have hfin := gr_alloc Hg1.out (Obj.cells #[.int .i64 (pdY l), .int .i64 (pdM l), .int .i64 (pdD l)] 81)
    exact ⟨by rw [HT.out]; rfl, by rw [HT.out]; exact ⟨_, _, _, HD.out.keep hfin⟩, gr_any hfin _⟩
  | true =>
    have HT := hid (show dayD s l = (⟨s.bond, dayOfF (pdY l) (pdM l) (pdD l), s.trades⟩, okT) by unfold dayD pdY pdM pdD; rw [if_pos hb, if_pos hb, if_pos hb, if_pos hb])
    rw [hb] at HP
    generalize pdY l = y at *
    generalize pdM l = m at *
    generalize pdD l = d at *
    have HV := hid (fun wx hx => DayOf_any y m d wx hx)
    generalize dayOfF y m d = D at *
    clear hb
    go_enter Tryz.func24, Tryz.ntmps24
    go_wp2_with fail
    refine HP.out.mono ?_
    rintro e w1 ⟨rfl, hg⟩
    have Hg1 := hid (gr_alloc hg (Obj.cells #[.int .i64 y, .int .i64 m, .int .i64 d] 81))
    clear hg HP
    go_wp2_with fail
    refine (HV.out _ (Hm.out.mo.keep0 Hg1.out)).mono ?_
    rintro e w2 ⟨rfl, hg⟩
    have Hg2 := hid (gr_trans0 Hg1.out hg)
    have HD2 := hid (HD.out.keep Hg2.out)
    have c4 := blk_cell HD2.out.c 4 _ rfl
    have f4 := blk_frozen HD2.out.c 4
    clear hg HV
    go_wp2_with fail
    refine (yes_any true _).mono ?_
    rintro e w3 ⟨rfl, rfl⟩
    go_wp2_with fail
    go_ret
    exact ⟨by rw [HT.out]; rfl, by rw [HT.out]; exact ⟨_, _, _, HD2.out.setDay D⟩, gr_setCell (gr_any Hg2.out (some sb)) (.inl rfl) _⟩

set_option maxHeartbeats 1000000 in
theorem total_any (sb : Nat) (s : Desk) (v : Value) (w : World) (hd : DeskAt 40 w sb s) (hm : Laid4 w) :
    Calls Tryz.prog 26 #[.pointer (some ⟨sb, 0, none⟩), v] w fun e w' => e = .returned (.string ⟨(amtT (totF s.bond)).toArray⟩) ∧ w.grownBy w' none := by
  obtain ⟨a, n, cap, hd⟩ := hd
  have HF := hid (TotalOf_any s.bond w hm.mo)
  have hb := totF_bd s.bond
  have Hm := hid hm
  have c0 := blk_cell hd.c 0 _ rfl
  have c1 := blk_cell hd.c 1 _ rfl
  have c2 := blk_cell hd.c 2 _ rfl
  have c3 := blk_cell hd.c 3 _ rfl
  have c4 := blk_cell hd.c 4 _ rfl
  have c5 := blk_cell hd.c 5 _ rfl
  clear hd hm
  generalize totF s.bond = T at *
  go_enter Tryz.func26, Tryz.ntmps26
  go_wp2_with fail
  refine HF.out.mono ?_
  rintro e w1 ⟨rfl, hg⟩
  have Hg := hid hg
  clear hg
  go_wp2_with fail
  refine (known_any T w1 (by omega) (by omega) (Hm.out.keep0 Hg.out)).mono ?_
  rintro e w2 ⟨rfl, hg⟩
  have Hg2 := hid (gr_trans0 Hg.out hg)
  clear hg
  go_wp2_with fail
  go_ret
  exact ⟨rfl, Hg2.out⟩

set_option maxHeartbeats 1000000 in
theorem gain_any (sb : Nat) (s : Desk) (v : Value) (w : World) (hd : DeskAt 40 w sb s) (hm : Laid4 w) :
    Calls Tryz.prog 30 #[.pointer (some ⟨sb, 0, none⟩), v] w fun e w' => e = .returned (.string ⟨(sigT (gainF s.trades)).toArray⟩) ∧ w.grownBy w' none := by
  obtain ⟨a, n, cap, hd⟩ := hd
  have HF := hid (GainOf_any a n cap s.trades w hd.s)
  have hb := gainF_bd s.trades
  have Hm := hid hm
  have c0 := blk_cell hd.c 0 _ rfl
  have c1 := blk_cell hd.c 1 _ rfl
  have c2 := blk_cell hd.c 2 _ rfl
  have c3 := blk_cell hd.c 3 _ rfl
  have c4 := blk_cell hd.c 4 _ rfl
  have c5 := blk_cell hd.c 5 _ rfl
  clear hd hm
  generalize gainF s.trades = T at *
  go_enter Tryz.func30, Tryz.ntmps30
  go_wp2_with fail
  refine HF.out.mono ?_
  rintro e w1 ⟨rfl, hg⟩
  have Hg := hid hg
  clear hg
  go_wp2_with fail
  refine (ItoaS_any T w1 (by omega) (by omega) (Hm.out.keep0 Hg.out)).mono ?_
  rintro e w2 ⟨rfl, hg⟩
  have Hg2 := hid (gr_trans0 Hg.out hg)
  clear hg
  go_wp2_with fail
  go_ret
  exact ⟨rfl, Hg2.out⟩

set_option maxRecDepth 100000 in
set_option maxHeartbeats 1000000 in
theorem accrued_any (sb : Nat) (s : Desk) (v : Value) (w : World) (hd : DeskAt 40 w sb s) (hm : Laid4 w) :
    Calls Tryz.prog 25 #[.pointer (some ⟨sb, 0, none⟩), v] w fun e w' => e = .returned (.string ⟨(amtT (accF s.bond s.day)).toArray⟩) ∧ w.grownBy w' none := by
  obtain ⟨a, n, cap, hd⟩ := hd
  have HF := hid (fun wx (hx : w.grownBy wx none) => AccruedOf_any s.bond s.day wx (hm.mo.keep0 hx))
  have hb := accF_le s.bond s.day
  have Hm := hid hm
  have HC := hid hd.c
  clear hd hm
  generalize accF s.bond s.day = T at *
  go_enter Tryz.func25, Tryz.ntmps25
  go_wp2_with fail
  refine wp_region_held_drew (S := fun w' => w'.heap[sb]? = some (Obj.cells #[.int .i64 s.bond.start, .int .i64 s.bond.stop, .int .i64 s.bond.months, .int .i64 s.bond.rate, .int .i64 s.day, .slice a n cap] 40 (0, 0)) ∧ w.grownBy w' none) (by kernel_rfl) ⟨HC.out, gr_drew (gr0 _)⟩ (fun hHeld => ?_)
  refine wpAnyH_take (i := 0) (v := ?_) rfl (by kernel_rfl) (by kernel_rfl) (by kernel_rfl) (fun _ _ _ h => h) (Or.inl ⟨by rfl, ?_⟩) hHeld ?_
  rotate_left
  · intro w9 hSw
    (obtain ⟨sb0, _⟩ := hSw; have c0 := blk_cell sb0 0 _ rfl; have c1 := blk_cell sb0 1 _ rfl; have c2 := blk_cell sb0 2 _ rfl; have c3 := blk_cell sb0 3 _ rfl; have c4 := blk_cell sb0 4 _ rfl; have c5 := blk_cell sb0 5 _ rfl; clear sb0)
    go_simp
    all_goals (try with_reducible rfl)
  (try simp only [Act.put, gA, gC, gD, gE, gF])
  refine wpAnyH_take (i := 1) (v := ?_) rfl (by kernel_rfl) (by kernel_rfl) (by kernel_rfl) (fun _ _ _ h => h) (Or.inl ⟨by rfl, ?_⟩) hHeld ?_
  rotate_left
  · intro w9 hSw
    (obtain ⟨sb0, _⟩ := hSw; have c0 := blk_cell sb0 0 _ rfl; have c1 := blk_cell sb0 1 _ rfl; have c2 := blk_cell sb0 2 _ rfl; have c3 := blk_cell sb0 3 _ rfl; have c4 := blk_cell sb0 4 _ rfl; have c5 := blk_cell sb0 5 _ rfl; clear sb0)
    go_simp
    all_goals (try with_reducible rfl)
  (try simp only [Act.put, gA, gB, gC, gD, gE, gF])
  refine wpAnyH_take (i := 2) (v := ?_) rfl (by kernel_rfl) (by kernel_rfl) (by kernel_rfl) (fun _ _ _ h => h) (Or.inl ⟨by rfl, ?_⟩) hHeld ?_
  rotate_left
  · intro w9 hSw
    (obtain ⟨sb0, _⟩ := hSw; have c0 := blk_cell sb0 0 _ rfl; have c1 := blk_cell sb0 1 _ rfl; have c2 := blk_cell sb0 2 _ rfl; have c3 := blk_cell sb0 3 _ rfl; have c4 := blk_cell sb0 4 _ rfl; have c5 := blk_cell sb0 5 _ rfl; clear sb0)
    go_simp
    all_goals (try with_reducible rfl)
  (try simp only [Act.put, gA, gB, gC, gD, gE, gF])
  refine wpAnyH_take (i := 3) (v := ?_) rfl (by kernel_rfl) (by kernel_rfl) (by kernel_rfl) (fun _ _ _ h => h) (Or.inl ⟨by rfl, ?_⟩) hHeld ?_
  rotate_left
  · intro w9 hSw
    (obtain ⟨sb0, _⟩ := hSw; have c0 := blk_cell sb0 0 _ rfl; have c1 := blk_cell sb0 1 _ rfl; have c2 := blk_cell sb0 2 _ rfl; have c3 := blk_cell sb0 3 _ rfl; have c4 := blk_cell sb0 4 _ rfl; have c5 := blk_cell sb0 5 _ rfl; clear sb0)
    go_simp
    all_goals (try with_reducible rfl)
  (try simp only [Act.put, gA, gB, gC, gD, gE, gF])
  refine wpAnyH_take (i := 4) (v := ?_) rfl (by kernel_rfl) (by kernel_rfl) (by kernel_rfl) (fun _ _ _ h => h) (Or.inl ⟨by rfl, ?_⟩) hHeld ?_
  rotate_left
  · intro w9 hSw
    (obtain ⟨sb0, _⟩ := hSw; have c0 := blk_cell sb0 0 _ rfl; have c1 := blk_cell sb0 1 _ rfl; have c2 := blk_cell sb0 2 _ rfl; have c3 := blk_cell sb0 3 _ rfl; have c4 := blk_cell sb0 4 _ rfl; have c5 := blk_cell sb0 5 _ rfl; clear sb0)
    go_simp
    all_goals (try with_reducible rfl)
  (try simp only [Act.put, gA, gB, gC, gD, gE, gF])
  refine wpAnyH_take (i := 5) (v := ?_) rfl (by kernel_rfl) (by kernel_rfl) (by kernel_rfl) (fun _ _ _ h => h) (Or.inl ⟨by rfl, ?_⟩) hHeld ?_
  rotate_left
  · intro w9 hSw
    (obtain ⟨sb0, _⟩ := hSw; have c0 := blk_cell sb0 0 _ rfl; have c1 := blk_cell sb0 1 _ rfl; have c2 := blk_cell sb0 2 _ rfl; have c3 := blk_cell sb0 3 _ rfl; have c4 := blk_cell sb0 4 _ rfl; have c5 := blk_cell sb0 5 _ rfl; clear sb0)
    go_simp
    all_goals (try with_reducible rfl)
  (try simp only [Act.put, gA, gB, gC, gD, gE, gF])
  refine wpAnyH_take (i := 6) (v := ?_) rfl (by kernel_rfl) (by kernel_rfl) (by kernel_rfl) (fun _ _ _ h => h) (Or.inl ⟨by rfl, ?_⟩) hHeld ?_
  rotate_left
  · intro w9 hSw
    (obtain ⟨sb0, _⟩ := hSw; have c0 := blk_cell sb0 0 _ rfl; have c1 := blk_cell sb0 1 _ rfl; have c2 := blk_cell sb0 2 _ rfl; have c3 := blk_cell sb0 3 _ rfl; have c4 := blk_cell sb0 4 _ rfl; have c5 := blk_cell sb0 5 _ rfl; clear sb0)
    go_simp
    all_goals (try with_reducible rfl)
  (try simp only [Act.put, gA, gB, gC, gD, gE, gF])
  refine wpAnyH_take (i := 7) (v := ?_) rfl (by kernel_rfl) (by kernel_rfl) (by kernel_rfl) (fun _ _ _ h => h) (Or.inl ⟨by rfl, ?_⟩) hHeld ?_
  rotate_left
  · intro w9 hSw
    (obtain ⟨sb0, _⟩ := hSw; have c0 := blk_cell sb0 0 _ rfl; have c1 := blk_cell sb0 1 _ rfl; have c2 := blk_cell sb0 2 _ rfl; have c3 := blk_cell sb0 3 _ rfl; have c4 := blk_cell sb0 4 _ rfl; have c5 := blk_cell sb0 5 _ rfl; clear sb0)
    go_simp
    all_goals (try with_reducible rfl)
  (try simp only [Act.put, gA, gB, gC, gD, gE, gF])
  refine wpAnyH_ready (rs := [8]) (by kernel_rfl) (by simp) ?_
  refine AllReadyH.cons rfl (fun K' hK' => ?_) AllReadyH.nil
  go_simp
  refine (HF.out _ hHeld.2).mono ?_
  rintro e' w1 ⟨rfl, hg⟩
  (try simp only [])
  refine hK'.out _ _ ⟨blk_keep hHeld.1 hg (by simp), gr_trans0 hHeld.2 hg⟩ (fun hHeldN => ?_)
  clear hHeld
  have hHeld := hHeldN
  clear hK' K' hHeldN hg
  (try simp only [Act.put, gA, gB, gC, gD, gE, gF])
  refine wpAnyH_ready (rs := [9]) (by kernel_rfl) (by simp) ?_
  refine AllReadyH.cons rfl (fun K' hK' => ?_) AllReadyH.nil
  go_simp
  refine (known_any T _ (by omega) (by omega) (Hm.out.keep0 hHeld.2)).mono ?_
  rintro e' w2 ⟨rfl, hg⟩
  (try simp only [])
  refine hK'.out _ _ ⟨blk_keep hHeld.1 hg (by simp), gr_trans0 hHeld.2 hg⟩ (fun hHeldN => ?_)
  clear hHeld
  have hHeld := hHeldN
  clear hK' K' hHeldN hg
  (try simp only [Act.put, gA, gB, gC, gD, gE, gF])
  refine wpAnyH_take (i := 10) (v := ?_) rfl (by kernel_rfl) (by kernel_rfl) (by kernel_rfl) (fun _ _ _ h => h) (Or.inl ⟨by rfl, ?_⟩) hHeld ?_
  rotate_left
  · intro w9 hSw
    clear hSw
    go_simp
    all_goals (try with_reducible rfl)
  (try simp only [Act.put, gA, gB, gC, gD, gE, gF])
  refine wpAnyH_done (by kernel_rfl) ?_ _
  have HG := hid hHeld.2
  clear hHeld
  go_wp2_with fail
  go_ret
  exact ⟨rfl, HG.out⟩

set_option maxRecDepth 100000 in
set_option maxHeartbeats 1000000 in
theorem position_any (sb : Nat) (s : Desk) (v : Value) (w : World) (hd : DeskAt 40 w sb s) (hm : Laid4 w) :
    Calls Tryz.prog 29 #[.pointer (some ⟨sb, 0, none⟩), v] w fun e w' => e = .returned (.string ⟨(sigT (posF s.trades s.day)).toArray⟩) ∧ w.grownBy w' none := by
  obtain ⟨a, n, cap, hd⟩ := hd
  have HF := hid (fun wx (hx : w.grownBy wx none) => PositionAt_any a n cap s.trades s.day wx (hd.s.keep0 hx))
  have hb := posF_bd s.trades s.day
  have Hm := hid hm
  have HC := hid hd.c
  clear hd hm
  generalize posF s.trades s.day = T at *
  go_enter Tryz.func29, Tryz.ntmps29
  go_wp2_with fail
  refine wp_region_held_drew (S := fun w' => w'.heap[sb]? = some (Obj.cells #[.int .i64 s.bond.start, .int .i64 s.bond.stop, .int .i64 s.bond.months, .int .i64 s.bond.rate, .int .i64 s.day, .slice a n cap] 40 (0, 0)) ∧ w.grownBy w' none) (by kernel_rfl) ⟨HC.out, gr_drew (gr0 _)⟩ (fun hHeld => ?_)
  refine wpAnyH_take (i := 0) (v := ?_) rfl (by kernel_rfl) (by kernel_rfl) (by kernel_rfl) (fun _ _ _ h => h) (Or.inl ⟨by rfl, ?_⟩) hHeld ?_
  rotate_left
  · intro w9 hSw
    (obtain ⟨sb0, _⟩ := hSw; have c0 := blk_cell sb0 0 _ rfl; have c1 := blk_cell sb0 1 _ rfl; have c2 := blk_cell sb0 2 _ rfl; have c3 := blk_cell sb0 3 _ rfl; have c4 := blk_cell sb0 4 _ rfl; have c5 := blk_cell sb0 5 _ rfl; clear sb0)
    go_simp
    all_goals (try with_reducible rfl)
  (try simp only [Act.put, gA, gC, gD, gE, gF])
  refine wpAnyH_take (i := 1) (v := ?_) rfl (by kernel_rfl) (by kernel_rfl) (by kernel_rfl) (fun _ _ _ h => h) (Or.inl ⟨by rfl, ?_⟩) hHeld ?_
  rotate_left
  · intro w9 hSw
    (obtain ⟨sb0, _⟩ := hSw; have c0 := blk_cell sb0 0 _ rfl; have c1 := blk_cell sb0 1 _ rfl; have c2 := blk_cell sb0 2 _ rfl; have c3 := blk_cell sb0 3 _ rfl; have c4 := blk_cell sb0 4 _ rfl; have c5 := blk_cell sb0 5 _ rfl; clear sb0)
    go_simp
    all_goals (try with_reducible rfl)
  (try simp only [Act.put, gA, gB, gC, gD, gE, gF])
  refine wpAnyH_take (i := 2) (v := ?_) rfl (by kernel_rfl) (by kernel_rfl) (by kernel_rfl) (fun _ _ _ h => h) (Or.inl ⟨by rfl, ?_⟩) hHeld ?_
  rotate_left
  · intro w9 hSw
    (obtain ⟨sb0, _⟩ := hSw; have c0 := blk_cell sb0 0 _ rfl; have c1 := blk_cell sb0 1 _ rfl; have c2 := blk_cell sb0 2 _ rfl; have c3 := blk_cell sb0 3 _ rfl; have c4 := blk_cell sb0 4 _ rfl; have c5 := blk_cell sb0 5 _ rfl; clear sb0)
    go_simp
    all_goals (try with_reducible rfl)
  (try simp only [Act.put, gA, gB, gC, gD, gE, gF])
  refine wpAnyH_take (i := 3) (v := ?_) rfl (by kernel_rfl) (by kernel_rfl) (by kernel_rfl) (fun _ _ _ h => h) (Or.inl ⟨by rfl, ?_⟩) hHeld ?_
  rotate_left
  · intro w9 hSw
    (obtain ⟨sb0, _⟩ := hSw; have c0 := blk_cell sb0 0 _ rfl; have c1 := blk_cell sb0 1 _ rfl; have c2 := blk_cell sb0 2 _ rfl; have c3 := blk_cell sb0 3 _ rfl; have c4 := blk_cell sb0 4 _ rfl; have c5 := blk_cell sb0 5 _ rfl; clear sb0)
    go_simp
    all_goals (try with_reducible rfl)
  (try simp only [Act.put, gA, gB, gC, gD, gE, gF])
  refine wpAnyH_take (i := 4) (v := ?_) rfl (by kernel_rfl) (by kernel_rfl) (by kernel_rfl) (fun _ _ _ h => h) (Or.inl ⟨by rfl, ?_⟩) hHeld ?_
  rotate_left
  · intro w9 hSw
    (obtain ⟨sb0, _⟩ := hSw; have c0 := blk_cell sb0 0 _ rfl; have c1 := blk_cell sb0 1 _ rfl; have c2 := blk_cell sb0 2 _ rfl; have c3 := blk_cell sb0 3 _ rfl; have c4 := blk_cell sb0 4 _ rfl; have c5 := blk_cell sb0 5 _ rfl; clear sb0)
    go_simp
    all_goals (try with_reducible rfl)
  (try simp only [Act.put, gA, gB, gC, gD, gE, gF])
  refine wpAnyH_take (i := 5) (v := ?_) rfl (by kernel_rfl) (by kernel_rfl) (by kernel_rfl) (fun _ _ _ h => h) (Or.inl ⟨by rfl, ?_⟩) hHeld ?_
  rotate_left
  · intro w9 hSw
    (obtain ⟨sb0, _⟩ := hSw; have c0 := blk_cell sb0 0 _ rfl; have c1 := blk_cell sb0 1 _ rfl; have c2 := blk_cell sb0 2 _ rfl; have c3 := blk_cell sb0 3 _ rfl; have c4 := blk_cell sb0 4 _ rfl; have c5 := blk_cell sb0 5 _ rfl; clear sb0)
    go_simp
    all_goals (try with_reducible rfl)
  (try simp only [Act.put, gA, gB, gC, gD, gE, gF])
  refine wpAnyH_take (i := 6) (v := ?_) rfl (by kernel_rfl) (by kernel_rfl) (by kernel_rfl) (fun _ _ _ h => h) (Or.inl ⟨by rfl, ?_⟩) hHeld ?_
  rotate_left
  · intro w9 hSw
    (obtain ⟨sb0, _⟩ := hSw; have c0 := blk_cell sb0 0 _ rfl; have c1 := blk_cell sb0 1 _ rfl; have c2 := blk_cell sb0 2 _ rfl; have c3 := blk_cell sb0 3 _ rfl; have c4 := blk_cell sb0 4 _ rfl; have c5 := blk_cell sb0 5 _ rfl; clear sb0)
    go_simp
    all_goals (try with_reducible rfl)
  (try simp only [Act.put, gA, gB, gC, gD, gE, gF])
  refine wpAnyH_take (i := 7) (v := ?_) rfl (by kernel_rfl) (by kernel_rfl) (by kernel_rfl) (fun _ _ _ h => h) (Or.inl ⟨by rfl, ?_⟩) hHeld ?_
  rotate_left
  · intro w9 hSw
    (obtain ⟨sb0, _⟩ := hSw; have c0 := blk_cell sb0 0 _ rfl; have c1 := blk_cell sb0 1 _ rfl; have c2 := blk_cell sb0 2 _ rfl; have c3 := blk_cell sb0 3 _ rfl; have c4 := blk_cell sb0 4 _ rfl; have c5 := blk_cell sb0 5 _ rfl; clear sb0)
    go_simp
    all_goals (try with_reducible rfl)
  (try simp only [Act.put, gA, gB, gC, gD, gE, gF])
  refine wpAnyH_ready (rs := [8]) (by kernel_rfl) (by simp) ?_
  refine AllReadyH.cons rfl (fun K' hK' => ?_) AllReadyH.nil
  go_simp
  refine (HF.out _ hHeld.2).mono ?_
  rintro e' w1 ⟨rfl, hg⟩
  (try simp only [])
  refine hK'.out _ _ ⟨blk_keep hHeld.1 hg (by simp), gr_trans0 hHeld.2 hg⟩ (fun hHeldN => ?_)
  clear hHeld
  have hHeld := hHeldN
  clear hK' K' hHeldN hg
  (try simp only [Act.put, gA, gB, gC, gD, gE, gF])
  refine wpAnyH_ready (rs := [9]) (by kernel_rfl) (by simp) ?_
  refine AllReadyH.cons rfl (fun K' hK' => ?_) AllReadyH.nil
  go_simp
  refine (ItoaS_any T _ (by omega) (by omega) (Hm.out.keep0 hHeld.2)).mono ?_
  rintro e' w2 ⟨rfl, hg⟩
  (try simp only [])
  refine hK'.out _ _ ⟨blk_keep hHeld.1 hg (by simp), gr_trans0 hHeld.2 hg⟩ (fun hHeldN => ?_)
  clear hHeld
  have hHeld := hHeldN
  clear hK' K' hHeldN hg
  (try simp only [Act.put, gA, gB, gC, gD, gE, gF])
  refine wpAnyH_take (i := 10) (v := ?_) rfl (by kernel_rfl) (by kernel_rfl) (by kernel_rfl) (fun _ _ _ h => h) (Or.inl ⟨by rfl, ?_⟩) hHeld ?_
  rotate_left
  · intro w9 hSw
    clear hSw
    go_simp
    all_goals (try with_reducible rfl)
  (try simp only [Act.put, gA, gB, gC, gD, gE, gF])
  refine wpAnyH_done (by kernel_rfl) ?_ _
  have HG := hid hHeld.2
  clear hHeld
  go_wp2_with fail
  go_ret
  exact ⟨rfl, HG.out⟩

theorem nums_one {w : World} {a : Option Addr} {x : Int} (h : Sl intL w a 1 [x]) : ∃ b off, a = some ⟨b, off, none⟩ ∧ w.cell? ⟨b, off, none⟩ = some (.int .i64 x) := by
  obtain ⟨b, off, y, e, hy, c⟩ := int_at h 0 (by omega)
  obtain rfl : x = y := by simpa using hy
  exact ⟨b, off, e, by simpa using c⟩
theorem nums_two {w : World} {a : Option Addr} {x y : Int} (h : Sl intL w a 2 [x, y]) : ∃ b off, a = some ⟨b, off, none⟩ ∧ w.cell? ⟨b, off, none⟩ = some (.int .i64 x) ∧ w.cell? ⟨b, off + 1, none⟩ = some (.int .i64 y) := by
  obtain ⟨b, off, z, e, hz, c⟩ := int_at h 0 (by omega)
  obtain rfl : x = z := by simpa using hz
  obtain ⟨b2, off2, z, e2, hz, c2⟩ := int_at h 1 (by omega)
  obtain rfl : y = z := by simpa using hz
  rw [e] at e2; cases e2
  exact ⟨b, off, e, by simpa using c, c2⟩
set_option maxRecDepth 100000 in
set_option maxHeartbeats 1000000 in
theorem buy_any (sb : Nat) (s : Desk) (a : Option Addr) (cap : Nat) (x y : Int) (w : World) (hd : DeskAt 40 w sb s) (hok : OkDesk s) (hs : Sl intL w a 2 [x, y]) :
    Calls Tryz.prog 27 #[.pointer (some ⟨sb, 0, none⟩), .slice a 2 cap] w fun e w' => e = .returned (.string ⟨((tradeD s x y).2).toArray⟩) ∧ DeskAt 40 w' sb (tradeD s x y).1 ∧ w.grownBy w' (some sb) := by
  obtain ⟨b, off, rfl, k0, k1⟩ := nums_two hs
  have HT := hid (fun wx (hg : w.grownBy wx none) => trade_any sb s x y wx (hd.keep0 hg) hok)
  clear hd hok hs
  go_enter Tryz.func27, Tryz.ntmps27
  go_wp2_with fail
  go_still_tail 7, (by kernel_rfl)
  change wpList _ _ _ _ _ w.drew
  go_wp2_with fail
  refine (HT.out _ (gr_drew (gr0 _))).mono ?_
  rintro e w1 ⟨rfl, hd1, hg⟩
  have HD1 := hid hd1
  have HG := hid hg
  clear hd1 hg
  go_wp2_with fail
  go_ret
  exact ⟨rfl, HD1.out, gr_transS (gr_drew (gr_refl _ _)) HG.out⟩
set_option maxRecDepth 100000 in
set_option maxHeartbeats 1000000 in
theorem sell_any (sb : Nat) (s : Desk) (a : Option Addr) (cap : Nat) (x y : Int) (w : World) (hd : DeskAt 40 w sb s) (hok : OkDesk s) (hs : Sl intL w a 2 [x, y]) (hx0 : -1099511627776 ≤ x) (hx1 : x ≤ 1099511627776) :
    Calls Tryz.prog 28 #[.pointer (some ⟨sb, 0, none⟩), .slice a 2 cap] w fun e w' => e = .returned (.string ⟨((tradeD s (-x) y).2).toArray⟩) ∧ DeskAt 40 w' sb (tradeD s (-x) y).1 ∧ w.grownBy w' (some sb) := by
  obtain ⟨b, off, rfl, k0, k1⟩ := nums_two hs
  have u1 : IntKind.i64.wrap (-x) = -x := IntWalk.i64_in _ (by omega)
  have HT := hid (fun wx (hg : w.grownBy wx none) => trade_any sb s (-x) y wx (hd.keep0 hg) hok)
  clear hd hok hs
  go_enter Tryz.func28, Tryz.ntmps28
  go_wp2_with fail
  go_still_tail 8, (by kernel_rfl)
  change wpList _ _ _ _ _ w.drew
  go_wp2_with fail
  refine (HT.out _ (gr_drew (gr0 _))).mono ?_
  rintro e w1 ⟨rfl, hd1, hg⟩
  have HD1 := hid hd1
  have HG := hid hg
  clear hd1 hg
  go_wp2_with fail
  go_ret
  exact ⟨rfl, HD1.out, gr_transS (gr_drew (gr_refl _ _)) HG.out⟩

theorem cut_pt {G : Prop} {facts : World → Nat → Prop} {Φ : World → Nat → Prop} (tail : ∀ WF Nb, facts WF Nb → Φ WF Nb) (main : (∀ WF Nb, facts WF Nb → Φ WF Nb) → G) : G := main tail
set_option maxRecDepth 100000 in
set_option maxHeartbeats 2000000 in
theorem price_any (sb : Nat) (s : Desk) (a : Option Addr) (cap : Nat) (y : Int) (w : World) (hd : DeskAt 40 w sb s) (hm : Laid4 w) (hs : Sl intL w a 1 [y]) :
    Calls Tryz.prog 31 #[.pointer (some ⟨sb, 0, none⟩), .slice a 1 cap] w fun e w' => e = .returned (.string ⟨(priceT s y).toArray⟩) ∧ w.grownBy w' none := by
  obtain ⟨bn, on, rfl, k0⟩ := nums_one hs
  obtain ⟨a, n, cp, hd⟩ := hd
  have HP := hid (fun wx (hx : w.grownBy wx none) => PriceOf_any s.bond s.day y wx (hm.mo.keep0 hx))
  have Hm := hid hm
  have HC := hid hd.c
  have Hk := hid k0
  obtain ⟨lo, hlo⟩ : ∃ x, (priceF s.bond s.day y).low = x := ⟨_, rfl⟩
  obtain ⟨hi, hhi⟩ : ∃ x, (priceF s.bond s.day y).high = x := ⟨_, rfl⟩
  rw [hlo, hhi] at HP
  have hcase : (lo = 0 ∧ hi = 0 ∧ priceT s y = noT) ∨ (0 < lo ∧ lo ≤ 1000000 ∧ 0 < hi ∧ hi ≤ 1000000 ∧ priceT s y = dec lo ++ 32 :: dec hi) := by
    cases hb : priceB s.bond s.day y with
    | false =>
      left
      have h9 : priceF s.bond s.day y = ⟨0, 0⟩ := by unfold priceF; rw [hb]; rfl
      rw [h9] at hlo hhi
      exact ⟨hlo.symm, hhi.symm, by unfold priceT; rw [hb]; rfl⟩
    | true =>
      right
      have hb2 := hb
      unfold priceB at hb2
      simp only [Bool.and_eq_true] at hb2
      obtain ⟨y0, y1⟩ := yield_facts hb2.2
      have hr := run_of hb2.1
      have h1 := hr.price_pos y0 y1
      have h2 := hr.price_bd y0 y1
      have h3 := hr.price_le y0 y1
      have h9 : priceF s.bond s.day y = ⟨priceLo s.bond s.day y, priceHi s.bond s.day y⟩ := by unfold priceF; rw [if_pos hb]; rfl
      rw [h9] at hlo hhi
      simp only at hlo hhi
      rw [← hlo, ← hhi]
      exact ⟨by omega, by omega, by omega, by omega, by unfold priceT; rw [if_pos hb]⟩
  clear hd hm hs k0 hlo hhi
  go_enter Tryz.func31, Tryz.ntmps31
  go_wp2_with fail
  apply cut_pt (facts := fun WF Nb => w.grownBy WF none ∧ WF.heap[Nb]? = some (Obj.cells #[.int .i64 lo, .int .i64 hi] 87 (0, 0)))
  case main =>
    intro HT
    refine wp_region_held_drew (S := fun w' => w.grownBy w' none) (by kernel_rfl) (gr_drew (gr0 _)) (fun hHeld => ?_)
    refine wpAnyH_take (i := 0) (v := ?_) rfl (by kernel_rfl) (by kernel_rfl) (by kernel_rfl) (fun _ _ _ h => h) (Or.inl ⟨by rfl, ?_⟩) hHeld ?_
    rotate_left
    · intro w9 hSw
      (have hc := blk_keep HC.out hSw (by simp); have c0 := blk_cell hc 0 _ rfl; have c1 := blk_cell hc 1 _ rfl; have c2 := blk_cell hc 2 _ rfl; have c3 := blk_cell hc 3 _ rfl; have c4 := blk_cell hc 4 _ rfl; have k0 := hSw.cell Hk.out (by simp); clear hc hSw)
      go_simp
      all_goals (try with_reducible rfl)
    (try simp only [Act.put, gA, gC, gD, gE, gF])
    refine wpAnyH_take (i := 1) (v := ?_) rfl (by kernel_rfl) (by kernel_rfl) (by kernel_rfl) (fun _ _ _ h => h) (Or.inl ⟨by rfl, ?_⟩) hHeld ?_
    rotate_left
    · intro w9 hSw
      (have hc := blk_keep HC.out hSw (by simp); have c0 := blk_cell hc 0 _ rfl; have c1 := blk_cell hc 1 _ rfl; have c2 := blk_cell hc 2 _ rfl; have c3 := blk_cell hc 3 _ rfl; have c4 := blk_cell hc 4 _ rfl; have k0 := hSw.cell Hk.out (by simp); clear hc hSw)
      go_simp
      all_goals (try with_reducible rfl)
    (try simp only [Act.put, gA, gB, gC, gD, gE, gF])
    refine wpAnyH_take (i := 2) (v := ?_) rfl (by kernel_rfl) (by kernel_rfl) (by kernel_rfl) (fun _ _ _ h => h) (Or.inl ⟨by rfl, ?_⟩) hHeld ?_
    rotate_left
    · intro w9 hSw
      (have hc := blk_keep HC.out hSw (by simp); have c0 := blk_cell hc 0 _ rfl; have c1 := blk_cell hc 1 _ rfl; have c2 := blk_cell hc 2 _ rfl; have c3 := blk_cell hc 3 _ rfl; have c4 := blk_cell hc 4 _ rfl; have k0 := hSw.cell Hk.out (by simp); clear hc hSw)
      go_simp
      all_goals (try with_reducible rfl)
    (try simp only [Act.put, gA, gB, gC, gD, gE, gF])
    refine wpAnyH_take (i := 3) (v := ?_) rfl (by kernel_rfl) (by kernel_rfl) (by kernel_rfl) (fun _ _ _ h => h) (Or.inl ⟨by rfl, ?_⟩) hHeld ?_
    rotate_left
    · intro w9 hSw
      (have hc := blk_keep HC.out hSw (by simp); have c0 := blk_cell hc 0 _ rfl; have c1 := blk_cell hc 1 _ rfl; have c2 := blk_cell hc 2 _ rfl; have c3 := blk_cell hc 3 _ rfl; have c4 := blk_cell hc 4 _ rfl; have k0 := hSw.cell Hk.out (by simp); clear hc hSw)
      go_simp
      all_goals (try with_reducible rfl)
    (try simp only [Act.put, gA, gB, gC, gD, gE, gF])
    refine wpAnyH_take (i := 4) (v := ?_) rfl (by kernel_rfl) (by kernel_rfl) (by kernel_rfl) (fun _ _ _ h => h) (Or.inl ⟨by rfl, ?_⟩) hHeld ?_
    rotate_left
    · intro w9 hSw
      (have hc := blk_keep HC.out hSw (by simp); have c0 := blk_cell hc 0 _ rfl; have c1 := blk_cell hc 1 _ rfl; have c2 := blk_cell hc 2 _ rfl; have c3 := blk_cell hc 3 _ rfl; have c4 := blk_cell hc 4 _ rfl; have k0 := hSw.cell Hk.out (by simp); clear hc hSw)
      go_simp
      all_goals (try with_reducible rfl)
    (try simp only [Act.put, gA, gB, gC, gD, gE, gF])
    refine wpAnyH_take (i := 5) (v := ?_) rfl (by kernel_rfl) (by kernel_rfl) (by kernel_rfl) (fun _ _ _ h => h) (Or.inl ⟨by rfl, ?_⟩) hHeld ?_
    rotate_left
    · intro w9 hSw
      (have hc := blk_keep HC.out hSw (by simp); have c0 := blk_cell hc 0 _ rfl; have c1 := blk_cell hc 1 _ rfl; have c2 := blk_cell hc 2 _ rfl; have c3 := blk_cell hc 3 _ rfl; have c4 := blk_cell hc 4 _ rfl; have k0 := hSw.cell Hk.out (by simp); clear hc hSw)
      go_simp
      all_goals (try with_reducible rfl)
    (try simp only [Act.put, gA, gB, gC, gD, gE, gF])
    refine wpAnyH_take (i := 6) (v := ?_) rfl (by kernel_rfl) (by kernel_rfl) (by kernel_rfl) (fun _ _ _ h => h) (Or.inl ⟨by rfl, ?_⟩) hHeld ?_
    rotate_left
    · intro w9 hSw
      (have hc := blk_keep HC.out hSw (by simp); have c0 := blk_cell hc 0 _ rfl; have c1 := blk_cell hc 1 _ rfl; have c2 := blk_cell hc 2 _ rfl; have c3 := blk_cell hc 3 _ rfl; have c4 := blk_cell hc 4 _ rfl; have k0 := hSw.cell Hk.out (by simp); clear hc hSw)
      go_simp
      all_goals (try with_reducible rfl)
    (try simp only [Act.put, gA, gB, gC, gD, gE, gF])
    refine wpAnyH_take (i := 7) (v := ?_) rfl (by kernel_rfl) (by kernel_rfl) (by kernel_rfl) (fun _ _ _ h => h) (Or.inl ⟨by rfl, ?_⟩) hHeld ?_
    rotate_left
    · intro w9 hSw
      (have hc := blk_keep HC.out hSw (by simp); have c0 := blk_cell hc 0 _ rfl; have c1 := blk_cell hc 1 _ rfl; have c2 := blk_cell hc 2 _ rfl; have c3 := blk_cell hc 3 _ rfl; have c4 := blk_cell hc 4 _ rfl; have k0 := hSw.cell Hk.out (by simp); clear hc hSw)
      go_simp
      all_goals (try with_reducible rfl)
    (try simp only [Act.put, gA, gB, gC, gD, gE, gF])
    refine wpAnyH_take (i := 8) (v := ?_) rfl (by kernel_rfl) (by kernel_rfl) (by kernel_rfl) (fun _ _ _ h => h) (Or.inl ⟨by rfl, ?_⟩) hHeld ?_
    rotate_left
    · intro w9 hSw
      (have hc := blk_keep HC.out hSw (by simp); have c0 := blk_cell hc 0 _ rfl; have c1 := blk_cell hc 1 _ rfl; have c2 := blk_cell hc 2 _ rfl; have c3 := blk_cell hc 3 _ rfl; have c4 := blk_cell hc 4 _ rfl; have k0 := hSw.cell Hk.out (by simp); clear hc hSw)
      go_simp
      all_goals (try with_reducible rfl)
    (try simp only [Act.put, gA, gB, gC, gD, gE, gF])
    refine wpAnyH_take (i := 9) (v := ?_) rfl (by kernel_rfl) (by kernel_rfl) (by kernel_rfl) (fun _ _ _ h => h) (Or.inl ⟨by rfl, ?_⟩) hHeld ?_
    rotate_left
    · intro w9 hSw
      (have hc := blk_keep HC.out hSw (by simp); have c0 := blk_cell hc 0 _ rfl; have c1 := blk_cell hc 1 _ rfl; have c2 := blk_cell hc 2 _ rfl; have c3 := blk_cell hc 3 _ rfl; have c4 := blk_cell hc 4 _ rfl; have k0 := hSw.cell Hk.out (by simp); clear hc hSw)
      go_simp
      all_goals (try with_reducible rfl)
    (try simp only [Act.put, gA, gB, gC, gD, gE, gF])
    refine wpAnyH_take (i := 10) (v := ?_) rfl (by kernel_rfl) (by kernel_rfl) (by kernel_rfl) (fun _ _ _ h => h) (Or.inl ⟨by rfl, ?_⟩) hHeld ?_
    rotate_left
    · intro w9 hSw
      (have hc := blk_keep HC.out hSw (by simp); have c0 := blk_cell hc 0 _ rfl; have c1 := blk_cell hc 1 _ rfl; have c2 := blk_cell hc 2 _ rfl; have c3 := blk_cell hc 3 _ rfl; have c4 := blk_cell hc 4 _ rfl; have k0 := hSw.cell Hk.out (by simp); clear hc hSw)
      go_simp
      all_goals (try with_reducible rfl)
    (try simp only [Act.put, gA, gB, gC, gD, gE, gF])
    refine wpAnyH_ready (rs := [11, 12]) (by kernel_rfl) (by simp) ?_
    refine AllReadyH.cons rfl (fun K' hK' => ?_) (AllReadyH.cons rfl (fun K' hK' => ?_) AllReadyH.nil)
    · go_simp
      refine (HP.out _ hHeld).mono ?_
      rintro e' w1 ⟨rfl, hg⟩
      have hHg := gr_trans0 hHeld hg
      (try simp only [])
      refine hK'.out _ _ hHg (fun hHeldN => ?_)
      clear hK' K' hHeld
      have hHeld := hHeldN
      clear hHeldN
      (try simp only [Act.put, gA, gB, gC, gD, gE, gF])
      refine wpAnyH_ready (rs := [12]) (by kernel_rfl) (by simp) ?_
      refine AllReadyH.cons rfl (fun K' hK' => ?_) AllReadyH.nil
      go_simp
      (try simp only [])
      refine hK'.out _ _ (gr_alloc hHeld _) (fun hHeldN => ?_)
      clear hK' K' hHeld
      have hHeld := hHeldN
      clear hHeldN
      (try simp only [Act.put, gA, gB, gC, gD, gE, gF])
      refine wpAnyH_ready (rs := [13]) (by kernel_rfl) (by simp) ?_
      refine AllReadyH.cons rfl (fun K' hK' => ?_) AllReadyH.nil
      go_simp
      (try simp only [])
      refine hK'.out _ _ (gr_alloc hHg _) (fun hHeldN => ?_)
      clear hK' K' hHeld
      have hHeld := hHeldN
      clear hHeldN
      (try simp only [Act.put, gA, gB, gC, gD, gE, gF])
      refine wpAnyH_done (by kernel_rfl) ?_ _
      have F1 := hHeld
      have F2 := heap_alloc_new w1 (Obj.cells #[.int .i64 lo, .int .i64 hi] 87)
      clear hHeld
      generalize w1.heap.size = Nb at *
      generalize (w1.alloc (Obj.cells #[.int .i64 lo, .int .i64 hi] 87)) = WF at *
      exact HT WF Nb ⟨F1, F2⟩
    · go_simp
      (try simp only [])
      refine hK'.out _ _ (gr_alloc hHeld _) (fun hHeldN => ?_)
      clear hK' K' hHeld
      have hHeld := hHeldN
      clear hHeldN
      (try simp only [Act.put, gA, gB, gC, gD, gE, gF])
      have HB0 : ((w.alloc (Obj.cells #[.int .i64 0, .int .i64 0] 87)).drew).heap[w.heap.size]? = some (Obj.cells #[.int .i64 0, .int .i64 0] 87) := heap_alloc_new w _
      refine wpAnyH_ready (rs := [11]) (by kernel_rfl) (by simp) ?_
      refine AllReadyH.cons rfl (fun K' hK' => ?_) AllReadyH.nil
      go_simp
      refine (HP.out _ hHeld).mono ?_
      rintro e' w1 ⟨rfl, hg⟩
      have hHg := gr_trans0 hHeld hg
      (try simp only [])
      refine hK'.out _ _ hHg (fun hHeldN => ?_)
      clear hK' K' hHeld
      have hHeld := hHeldN
      clear hHeldN
      (try simp only [Act.put, gA, gB, gC, gD, gE, gF])
      refine wpAnyH_ready (rs := [13]) (by kernel_rfl) (by simp) ?_
      refine AllReadyH.cons rfl (fun K' hK' => ?_) AllReadyH.nil
      have HB := blk_keep HB0 hg (by simp)
      have b0 := blk_cell HB 0 _ rfl
      have b1 := blk_cell HB 1 _ rfl
      have e0 := blk_frozen HB 0
      have e1 := blk_frozen HB 1
      have F2 := (blk_set (blk_set HB 0 (.int .i64 lo)) 1 (.int .i64 hi)).trans (show _ = some (Obj.cells #[.int .i64 lo, .int .i64 hi] 87 (0, 0)) from rfl)
      go_simp
      (try simp only [])
      refine hK'.out _ _ (gr_setCell (gr_setCell hHg (.inr (Nat.le_refl _)) _) (.inr (Nat.le_refl _)) _) (fun hHeldN => ?_)
      clear hK' K' hHeld
      have hHeld := hHeldN
      clear hHeldN
      (try simp only [Act.put, gA, gB, gC, gD, gE, gF])
      refine wpAnyH_done (by kernel_rfl) ?_ _
      have F1 := hHeld
      clear hHeld b0 b1 e0 e1 HB HB0
      generalize w.heap.size = Nb at *
      generalize (World.setCell _ ⟨Nb, 1, none⟩ _) = WF at *
      exact HT WF Nb ⟨F1, F2⟩
  case tail =>
    intro WF Nb hfacts
    have HG := hid hfacts.1
    have HR := hid hfacts.2
    have r0 := blk_cell HR.out 0 _ rfl
    have r1 := blk_cell HR.out 1 _ rfl
    clear hfacts
    rcases hcase with ⟨rfl, rfl, hpt⟩ | ⟨l0, l1, h0, h1, hpt⟩
    · have HT := hid hpt
      clear hpt
      go_wp2_with fail
      go_ret
      exact ⟨ret_text (a := noT) HT.out.symm, HG.out⟩
    · have Hpt := hid hpt
      have hlb : (lo == 0) = false := by simp; omega
      have d1 := dec_le lo (by omega)
      have d2 := dec_le hi (by omega)
      have HI := hid (fun (n : Int) (h0 : 0 ≤ n) (h1 : n ≤ 1000000) wx (hx : w.grownBy wx none) => Itoa_any n wx h0 (by omega) (Hm.out.keep0 hx))
      have HI1 := hid (HI.out lo (by omega) l1)
      have HI2 := hid (HI.out hi (by omega) h1)
      clear hpt
      go_wp2_with fail
      have a1 : ∀ w, (Op.stringOp .add ⟨(dec lo).toArray⟩ ⟨#[32]⟩).run Tryz.prog w = .ok (.string ⟨(dec lo ++ [32]).toArray⟩) w := fun w => add_lists _ [32] (by omega) (by simp) w
      have a2 : ∀ w, (Op.stringOp .add ⟨(dec lo ++ [32]).toArray⟩ ⟨(dec hi).toArray⟩).run Tryz.prog w = .ok (.string ⟨(dec lo ++ [32] ++ dec hi).toArray⟩) w := fun w => add_lists _ _ (by simp; omega) (by omega) w
      have HT := hid (show dec lo ++ [32] ++ dec hi = priceT s y by rw [Hpt.out]; simp)
      generalize dec lo ++ [32] = t1 at *
      generalize t1 ++ dec hi = t2 at *
      generalize dec lo = d1 at *
      generalize dec hi = d2 at *
      refine wp_region_held_drew (S := fun w' => w'.heap[Nb]? = some (Obj.cells #[.int .i64 lo, .int .i64 hi] 87 (0, 0)) ∧ w.grownBy w' none) (by kernel_rfl) ⟨HR.out, gr_drew HG.out⟩ (fun hHeld => ?_)
      refine wpAnyH_take (i := 0) (v := ?_) rfl (by kernel_rfl) (by kernel_rfl) (by kernel_rfl) (fun _ _ _ h => h) (Or.inl ⟨by rfl, ?_⟩) hHeld ?_
      rotate_left
      · intro w9 hSw
        (have r0 := blk_cell hSw.1 0 _ rfl; have r1 := blk_cell hSw.1 1 _ rfl; clear hSw)
        go_simp
        all_goals (try with_reducible rfl)
      (try simp only [Act.put, gA, gC, gD, gE, gF])
      refine wpAnyH_take (i := 1) (v := ?_) rfl (by kernel_rfl) (by kernel_rfl) (by kernel_rfl) (fun _ _ _ h => h) (Or.inl ⟨by rfl, ?_⟩) hHeld ?_
      rotate_left
      · intro w9 hSw
        (have r0 := blk_cell hSw.1 0 _ rfl; have r1 := blk_cell hSw.1 1 _ rfl; clear hSw)
        go_simp
        all_goals (try with_reducible rfl)
      (try simp only [Act.put, gA, gB, gC, gD, gE, gF])
      refine wpAnyH_take (i := 4) (v := ?_) rfl (by kernel_rfl) (by kernel_rfl) (by kernel_rfl) (fun _ _ _ h => h) (Or.inl ⟨by rfl, ?_⟩) hHeld ?_
      rotate_left
      · intro w9 hSw
        (have r0 := blk_cell hSw.1 0 _ rfl; have r1 := blk_cell hSw.1 1 _ rfl; clear hSw)
        go_simp
        all_goals (try with_reducible rfl)
      (try simp only [Act.put, gA, gB, gC, gD, gE, gF])
      refine wpAnyH_take (i := 5) (v := ?_) rfl (by kernel_rfl) (by kernel_rfl) (by kernel_rfl) (fun _ _ _ h => h) (Or.inl ⟨by rfl, ?_⟩) hHeld ?_
      rotate_left
      · intro w9 hSw
        (have r0 := blk_cell hSw.1 0 _ rfl; have r1 := blk_cell hSw.1 1 _ rfl; clear hSw)
        go_simp
        all_goals (try with_reducible rfl)
      (try simp only [Act.put, gA, gB, gC, gD, gE, gF])
      refine wpAnyH_ready (rs := [2]) (by kernel_rfl) (by simp) ?_
      refine AllReadyH.cons rfl (fun K' hK' => ?_) AllReadyH.nil
      go_simp
      refine (HI1.out _ hHeld.2).mono ?_
      rintro e' w1 ⟨rfl, hg⟩
      (try simp only [])
      refine hK'.out _ _ ⟨blk_keep hHeld.1 hg (by simp), gr_trans0 hHeld.2 hg⟩ (fun hHeldN => ?_)
      clear hHeld
      have hHeld := hHeldN
      clear hK' K' hHeldN hg
      (try simp only [Act.put, gA, gB, gC, gD, gE, gF])
      refine wpAnyH_take (i := 3) (v := ?_) rfl (by kernel_rfl) (by kernel_rfl) (by kernel_rfl) (fun _ _ _ h => h) (Or.inl ⟨by rfl, ?_⟩) hHeld ?_
      rotate_left
      · intro w9 hSw
        clear hSw
        go_simp
        all_goals (try with_reducible rfl)
      (try simp only [Act.put, gA, gB, gC, gD, gE, gF])
      refine wpAnyH_ready (rs := [6]) (by kernel_rfl) (by simp) ?_
      refine AllReadyH.cons rfl (fun K' hK' => ?_) AllReadyH.nil
      go_simp
      refine (HI2.out _ hHeld.2).mono ?_
      rintro e' w2 ⟨rfl, hg⟩
      (try simp only [])
      refine hK'.out _ _ ⟨blk_keep hHeld.1 hg (by simp), gr_trans0 hHeld.2 hg⟩ (fun hHeldN => ?_)
      clear hHeld
      have hHeld := hHeldN
      clear hK' K' hHeldN hg
      (try simp only [Act.put, gA, gB, gC, gD, gE, gF])
      refine wpAnyH_take (i := 7) (v := ?_) rfl (by kernel_rfl) (by kernel_rfl) (by kernel_rfl) (fun _ _ _ h => h) (Or.inl ⟨by rfl, ?_⟩) hHeld ?_
      rotate_left
      · intro w9 hSw
        clear hSw
        go_simp
        all_goals (try with_reducible rfl)
      (try simp only [Act.put, gA, gB, gC, gD, gE, gF])
      refine wpAnyH_take (i := 8) (v := ?_) rfl (by kernel_rfl) (by kernel_rfl) (by kernel_rfl) (fun _ _ _ h => h) (Or.inl ⟨by rfl, ?_⟩) hHeld ?_
      rotate_left
      · intro w9 hSw
        clear hSw
        go_simp
        all_goals (try with_reducible rfl)
      (try simp only [Act.put, gA, gB, gC, gD, gE, gF])
      refine wpAnyH_done (by kernel_rfl) ?_ _
      have HG9 := hid hHeld.2
      clear hHeld
      go_wp2_with fail
      go_ret
      exact ⟨ret_text HT.out, HG9.out⟩
end Go.Proofs.YtielicmjdhmcjaaGreatDoor
