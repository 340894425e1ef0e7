/- Packed: SpecCmd. -/
import Derived.Test.YtielicmjdhmcjaaGreatDoorRows
import Derived.Test.YtielicmjdhmcjaaGreatDoorPk38
import Derived.Test.YtielicmjdhmcjaaGreatDoorPk40
import Derived.Test.YtielicmjdhmcjaaGreatDoorPk42
import Derived.Test.YtielicmjdhmcjaaGreatDoorPk43
/- The commands of the reference's desk, one by one. -/
namespace Go.Proofs.YtielicmjdhmcjaaGreatDoor
open Go.RowKit

set_option maxHeartbeats 1000000 in
theorem load_any (sb : Nat) (s : Desk) (l : List UInt8) (w : World) (hd : DeskAt 53 w sb s) (hl : l.length ≤ 2000000) :
    Calls Tryz.prog 35 #[.pointer (some ⟨sb, 0, none⟩), .string ⟨(l).toArray⟩] w fun e w' => e = .returned (.string ⟨((bondD s l).2).toArray⟩) ∧ DeskAt 53 w' sb (bondD s l).1 ∧ w.grownBy w' (some sb) := by
  obtain ⟨a, n, cap, hd⟩ := hd
  have HD := hid hd
  have HP := hid (specParseBond_any l w hl)
  clear hd
  cases hb : pbOk l with
  | false =>
    have HT := hid (show bondD s l = (s, noT) by unfold bondD; rw [hb]; rfl)
    rw [hb] at HP
    clear hb
    go_enter Tryz.func35, Tryz.ntmps35
    go_wp2_with fail
    refine HP.out.mono ?_
    rintro e w1 ⟨rfl, hg⟩
    have Hg1 := hid hg
    clear hg
    go_wp2_with fail
    go_ret
    have hfin := gr_alloc Hg1.out (Obj.cells #[.int .i64 (pbV l).start, .int .i64 (pbV l).stop, .int .i64 (pbV l).months, .int .i64 (pbV l).rate] 37)
    exact ⟨by rw [HT.out]; rfl, by rw [HT.out]; exact ⟨_, _, _, HD.out.keep hfin⟩, gr_any hfin _⟩
  | true =>
    have HT := hid (show bondD s l = (⟨pbV l, s.day, s.trades⟩, okT) by unfold bondD pbV; rw [if_pos hb, if_pos hb])
    rw [hb] at HP
    generalize pbV l = b at *
    clear hb
    go_enter Tryz.func35, Tryz.ntmps35
    go_wp2_with fail
    refine HP.out.mono ?_
    rintro e w1 ⟨rfl, hg⟩
    have Hg1 := hid hg
    have HD1 := hid (HD.out.keep hg)
    have hlt := blk_lt (blk_keep HD.out.c hg (by simp))
    have n1 : ¬ sb = w1.heap.size := by omega
    have n2 : ¬ w1.heap.size = sb := by omega
    have hc1 := blk_keep HD.out.c hg (by simp)
    have c0 := blk_cell hc1 0 _ rfl
    have c1 := blk_cell hc1 1 _ rfl
    have c2 := blk_cell hc1 2 _ rfl
    have c3 := blk_cell hc1 3 _ rfl
    have f0 := blk_frozen hc1 0
    have f1 := blk_frozen hc1 1
    have f2 := blk_frozen hc1 2
    have f3 := blk_frozen hc1 3
    clear hc1
    clear hg HP
    go_wp2_with fail
    go_ret
    refine ⟨by rw [HT.out]; rfl, by rw [HT.out]; exact ⟨_, _, _, (HD1.out.setBond b).keep (gr_alloc (gr0 _) _)⟩, ?_⟩
    exact gr_alloc (gr_setCell (gr_setCell (gr_setCell (gr_setCell (gr_any Hg1.out (some sb)) (.inl rfl) _) (.inl rfl) _) (.inl rfl) _) (.inl rfl) _) _

set_option maxHeartbeats 1000000 in
theorem move_any (sb : Nat) (s : Desk) (l : List UInt8) (w : World) (hd : DeskAt 53 w sb s) (hl : l.length ≤ 2000000) :
    Calls Tryz.prog 36 #[.pointer (some ⟨sb, 0, none⟩), .string ⟨(l).toArray⟩] w fun e w' => e = .returned (.string ⟨((dayD s l).2).toArray⟩) ∧ DeskAt 53 w' sb (dayD s l).1 ∧ w.grownBy w' (some sb) := by
  obtain ⟨a, n, cap, hd⟩ := hd
  have HD := hid hd
  have HP := hid (specParseDate_any l w hl)
  clear hd
  cases hb : pdOk l with
  | false =>
    have HT := hid (show dayD s l = (s, noT) by unfold dayD; rw [hb]; rfl)
    rw [hb] at HP
    clear hb
    go_enter Tryz.func36, Tryz.ntmps36
    go_wp2_with fail
    refine HP.out.mono ?_
    rintro e w1 ⟨rfl, hg⟩
    have Hg1 := hid hg
    clear hg
    go_wp2_with fail
    go_ret
    have hfin := gr_alloc Hg1.out (Obj.cells #[.int .i64 (pdY l), .int .i64 (pdM l), .int .i64 (pdD l)] 81)
    exact ⟨by rw [HT.out]; rfl, by rw [HT.out]; exact ⟨_, _, _, HD.out.keep hfin⟩, gr_any hfin _⟩
  | true =>
    have HT := hid (show dayD s l = (⟨s.bond, numF (pdY l) (pdM l) (pdD l), s.trades⟩, okT) by
      unfold dayD pdY pdM pdD; rw [if_pos hb, if_pos hb, if_pos hb, if_pos hb]; unfold dayOfF; rw [if_pos (pd_is hb).1])
    have HV := hid (fun wx => specdayOf_any (pdY l) (pdM l) (pdD l) wx (by
      unfold pdY pdM pdD; rw [if_pos hb, if_pos hb, if_pos hb]; exact (dateB_iff _ _ _).1 (pd_is hb).1))
    rw [hb] at HP
    generalize pdY l = y at *
    generalize pdM l = m at *
    generalize pdD l = d at *
    generalize numF y m d = D at *
    clear hb
    go_enter Tryz.func36, Tryz.ntmps36
    go_wp2_with fail
    refine HP.out.mono ?_
    rintro e w1 ⟨rfl, hg⟩
    have Hg1 := hid (gr_alloc hg (Obj.cells #[.int .i64 y, .int .i64 m, .int .i64 d] 81))
    clear hg HP
    go_wp2_with fail
    refine (HV.out _).mono ?_
    rintro e w2 ⟨rfl, hg⟩
    have Hg2 := hid (gr_trans0 Hg1.out hg)
    have HD2 := hid (HD.out.keep Hg2.out)
    have c4 := blk_cell HD2.out.c 4 _ rfl
    have f4 := blk_frozen HD2.out.c 4
    clear hg HV
    go_wp2_with fail
    go_ret
    exact ⟨by rw [HT.out]; rfl, by rw [HT.out]; exact ⟨_, _, _, HD2.out.setDay D⟩, gr_setCell (gr_any Hg2.out (some sb)) (.inl rfl) _⟩

theorem cut_ptS {G : Prop} {facts : World → Nat → Prop} {Φ : World → Nat → Prop} (tail : ∀ WF Nb, facts WF Nb → Φ WF Nb) (main : (∀ WF Nb, facts WF Nb → Φ WF Nb) → G) : G := main tail
set_option maxRecDepth 100000 in
set_option maxHeartbeats 2000000 in
theorem specprice2_any (sb : Nat) (s : Desk) (y : Int) (w : World) (hd : DeskAt 53 w sb s) :
    Calls Tryz.prog 72 #[.pointer (some ⟨sb, 0, none⟩), .int .i64 y] w fun e w' => e = .returned (.string ⟨(priceT s y).toArray⟩) ∧ w.grownBy w' none := by
  obtain ⟨a, n, cap, hd⟩ := hd
  have HR := hid (fun wx => specrunning_any s.bond s.day wx)
  have HY := hid (fun wx => specvalidYield_any y wx)
  have HC := hid hd.c
  clear hd
  cases hr : runB s.bond s.day with
  | false =>
    have HT := hid (show priceT s y = noT by unfold priceT priceB; rw [hr]; rfl)
    rw [hr] at HR
    clear hr HY
    go_enter Tryz.func72, Tryz.ntmps72
    go_wp2_with fail
    refine wp_region_held_drew (S := fun w' => w'.heap[sb]? = some (Obj.cells #[.int .i64 s.bond.start, .int .i64 s.bond.stop, .int .i64 s.bond.months, .int .i64 s.bond.rate, .int .i64 s.day, .slice a n cap] 53 (0, 0)) ∧ w.grownBy w' none) (by kernel_rfl) ⟨HC.out, gr_drew (gr0 _)⟩ (fun hHeld => ?_)
    refine wpAnyH_take (i := 0) (v := ?_) rfl (by kernel_rfl) (by kernel_rfl) (by kernel_rfl) (fun _ _ _ h => h) (Or.inl ⟨by rfl, ?_⟩) hHeld ?_
    rotate_left
    · intro w9 hSw
      (obtain ⟨sb0, _⟩ := hSw; have c0 := blk_cell sb0 0 _ rfl; have c1 := blk_cell sb0 1 _ rfl; have c2 := blk_cell sb0 2 _ rfl; have c3 := blk_cell sb0 3 _ rfl; have c4 := blk_cell sb0 4 _ rfl; have c5 := blk_cell sb0 5 _ rfl; clear sb0)
      go_simp
      all_goals (try with_reducible rfl)
    (try simp only [Act.put, gA, gC, gD, gE, gF])
    refine wpAnyH_take (i := 1) (v := ?_) rfl (by kernel_rfl) (by kernel_rfl) (by kernel_rfl) (fun _ _ _ h => h) (Or.inl ⟨by rfl, ?_⟩) hHeld ?_
    rotate_left
    · intro w9 hSw
      (obtain ⟨sb0, _⟩ := hSw; have c0 := blk_cell sb0 0 _ rfl; have c1 := blk_cell sb0 1 _ rfl; have c2 := blk_cell sb0 2 _ rfl; have c3 := blk_cell sb0 3 _ rfl; have c4 := blk_cell sb0 4 _ rfl; have c5 := blk_cell sb0 5 _ rfl; clear sb0)
      go_simp
      all_goals (try with_reducible rfl)
    (try simp only [Act.put, gA, gB, gC, gD, gE, gF])
    refine wpAnyH_take (i := 2) (v := ?_) rfl (by kernel_rfl) (by kernel_rfl) (by kernel_rfl) (fun _ _ _ h => h) (Or.inl ⟨by rfl, ?_⟩) hHeld ?_
    rotate_left
    · intro w9 hSw
      (obtain ⟨sb0, _⟩ := hSw; have c0 := blk_cell sb0 0 _ rfl; have c1 := blk_cell sb0 1 _ rfl; have c2 := blk_cell sb0 2 _ rfl; have c3 := blk_cell sb0 3 _ rfl; have c4 := blk_cell sb0 4 _ rfl; have c5 := blk_cell sb0 5 _ rfl; clear sb0)
      go_simp
      all_goals (try with_reducible rfl)
    (try simp only [Act.put, gA, gB, gC, gD, gE, gF])
    refine wpAnyH_take (i := 3) (v := ?_) rfl (by kernel_rfl) (by kernel_rfl) (by kernel_rfl) (fun _ _ _ h => h) (Or.inl ⟨by rfl, ?_⟩) hHeld ?_
    rotate_left
    · intro w9 hSw
      (obtain ⟨sb0, _⟩ := hSw; have c0 := blk_cell sb0 0 _ rfl; have c1 := blk_cell sb0 1 _ rfl; have c2 := blk_cell sb0 2 _ rfl; have c3 := blk_cell sb0 3 _ rfl; have c4 := blk_cell sb0 4 _ rfl; have c5 := blk_cell sb0 5 _ rfl; clear sb0)
      go_simp
      all_goals (try with_reducible rfl)
    (try simp only [Act.put, gA, gB, gC, gD, gE, gF])
    refine wpAnyH_take (i := 4) (v := ?_) rfl (by kernel_rfl) (by kernel_rfl) (by kernel_rfl) (fun _ _ _ h => h) (Or.inl ⟨by rfl, ?_⟩) hHeld ?_
    rotate_left
    · intro w9 hSw
      (obtain ⟨sb0, _⟩ := hSw; have c0 := blk_cell sb0 0 _ rfl; have c1 := blk_cell sb0 1 _ rfl; have c2 := blk_cell sb0 2 _ rfl; have c3 := blk_cell sb0 3 _ rfl; have c4 := blk_cell sb0 4 _ rfl; have c5 := blk_cell sb0 5 _ rfl; clear sb0)
      go_simp
      all_goals (try with_reducible rfl)
    (try simp only [Act.put, gA, gB, gC, gD, gE, gF])
    refine wpAnyH_take (i := 5) (v := ?_) rfl (by kernel_rfl) (by kernel_rfl) (by kernel_rfl) (fun _ _ _ h => h) (Or.inl ⟨by rfl, ?_⟩) hHeld ?_
    rotate_left
    · intro w9 hSw
      (obtain ⟨sb0, _⟩ := hSw; have c0 := blk_cell sb0 0 _ rfl; have c1 := blk_cell sb0 1 _ rfl; have c2 := blk_cell sb0 2 _ rfl; have c3 := blk_cell sb0 3 _ rfl; have c4 := blk_cell sb0 4 _ rfl; have c5 := blk_cell sb0 5 _ rfl; clear sb0)
      go_simp
      all_goals (try with_reducible rfl)
    (try simp only [Act.put, gA, gB, gC, gD, gE, gF])
    refine wpAnyH_take (i := 6) (v := ?_) rfl (by kernel_rfl) (by kernel_rfl) (by kernel_rfl) (fun _ _ _ h => h) (Or.inl ⟨by rfl, ?_⟩) hHeld ?_
    rotate_left
    · intro w9 hSw
      (obtain ⟨sb0, _⟩ := hSw; have c0 := blk_cell sb0 0 _ rfl; have c1 := blk_cell sb0 1 _ rfl; have c2 := blk_cell sb0 2 _ rfl; have c3 := blk_cell sb0 3 _ rfl; have c4 := blk_cell sb0 4 _ rfl; have c5 := blk_cell sb0 5 _ rfl; clear sb0)
      go_simp
      all_goals (try with_reducible rfl)
    (try simp only [Act.put, gA, gB, gC, gD, gE, gF])
    refine wpAnyH_take (i := 7) (v := ?_) rfl (by kernel_rfl) (by kernel_rfl) (by kernel_rfl) (fun _ _ _ h => h) (Or.inl ⟨by rfl, ?_⟩) hHeld ?_
    rotate_left
    · intro w9 hSw
      (obtain ⟨sb0, _⟩ := hSw; have c0 := blk_cell sb0 0 _ rfl; have c1 := blk_cell sb0 1 _ rfl; have c2 := blk_cell sb0 2 _ rfl; have c3 := blk_cell sb0 3 _ rfl; have c4 := blk_cell sb0 4 _ rfl; have c5 := blk_cell sb0 5 _ rfl; clear sb0)
      go_simp
      all_goals (try with_reducible rfl)
    (try simp only [Act.put, gA, gB, gC, gD, gE, gF])
    refine wpAnyH_ready (rs := [8]) (by kernel_rfl) (by simp) ?_
    refine AllReadyH.cons rfl (fun K' hK' => ?_) AllReadyH.nil
    go_simp
    refine (HR.out _).mono ?_
    rintro e' w1 ⟨rfl, hg⟩
    (try simp only [])
    refine hK'.out _ _ ⟨blk_keep hHeld.1 hg (by simp), gr_trans0 hHeld.2 hg⟩ (fun hHeldN => ?_)
    clear hHeld
    have hHeld := hHeldN
    clear hK' K' hHeldN hg
    (try simp only [Act.put, gA, gB, gC, gD, gE, gF])
    refine wpAnyH_take (i := 9) (v := ?_) rfl (by kernel_rfl) (by kernel_rfl) (by kernel_rfl) (fun _ _ _ h => h) (Or.inl ⟨by rfl, ?_⟩) hHeld ?_
    rotate_left
    · intro w9 hSw
      clear hSw
      go_simp
      all_goals (try with_reducible rfl)
    (try simp only [Act.put, gA, gB, gC, gD, gE, gF])
    refine wpAnyH_take (i := 10) (v := ?_) rfl (by kernel_rfl) (by kernel_rfl) (by kernel_rfl) (fun _ _ _ h => h) (Or.inl ⟨by rfl, ?_⟩) hHeld ?_
    rotate_left
    · intro w9 hSw
      clear hSw
      go_simp
      all_goals (try with_reducible rfl)
    (try simp only [Act.put, gA, gB, gC, gD, gE, gF])
    refine wpAnyH_take (i := 11) (v := undef) rfl (by kernel_rfl) (by kernel_rfl) (by kernel_rfl) (fun _ _ _ h => h) (Or.inr ⟨?_, rfl⟩) hHeld ?_
    · go_simp
    (try simp only [Act.put, gA, gB, gC, gD, gE, gF])
    refine wpAnyH_take (i := 12) (v := undef) rfl (by kernel_rfl) (by kernel_rfl) (by kernel_rfl) (fun _ _ _ h => h) (Or.inr ⟨?_, rfl⟩) hHeld ?_
    · go_simp
    (try simp only [Act.put, gA, gB, gC, gD, gE, gF])
    refine wpAnyH_take (i := 13) (v := undef) rfl (by kernel_rfl) (by kernel_rfl) (by kernel_rfl) (fun _ _ _ h => h) (Or.inr ⟨?_, rfl⟩) hHeld ?_
    · go_simp
    (try simp only [Act.put, gA, gB, gC, gD, gE, gF])
    refine wpAnyH_take (i := 14) (v := ?_) rfl (by kernel_rfl) (by kernel_rfl) (by kernel_rfl) (fun _ _ _ h => h) (Or.inl ⟨by rfl, ?_⟩) hHeld ?_
    rotate_left
    · intro w9 hSw
      clear hSw
      go_simp
      all_goals (try with_reducible rfl)
    (try simp only [Act.put, gA, gB, gC, gD, gE, gF])
    refine wpAnyH_done (by kernel_rfl) ?_ _
    have HG := hid hHeld.2
    clear hHeld
    go_wp2_with fail
    go_ret
    exact ⟨ret_text (a := noT) HT.out.symm, HG.out⟩
  | true =>
    rw [hr] at HR
    cases hy : yieldB y with
    | false =>
      have HT := hid (show priceT s y = noT by unfold priceT priceB; rw [hr, hy]; rfl)
      rw [hy] at HY
      clear hr hy
      go_enter Tryz.func72, Tryz.ntmps72
      go_wp2_with fail
      refine wp_region_held_drew (S := fun w' => w'.heap[sb]? = some (Obj.cells #[.int .i64 s.bond.start, .int .i64 s.bond.stop, .int .i64 s.bond.months, .int .i64 s.bond.rate, .int .i64 s.day, .slice a n cap] 53 (0, 0)) ∧ w.grownBy w' none) (by kernel_rfl) ⟨HC.out, gr_drew (gr0 _)⟩ (fun hHeld => ?_)
      refine wpAnyH_take (i := 0) (v := ?_) rfl (by kernel_rfl) (by kernel_rfl) (by kernel_rfl) (fun _ _ _ h => h) (Or.inl ⟨by rfl, ?_⟩) hHeld ?_
      rotate_left
      · intro w9 hSw
        (obtain ⟨sb0, _⟩ := hSw; have c0 := blk_cell sb0 0 _ rfl; have c1 := blk_cell sb0 1 _ rfl; have c2 := blk_cell sb0 2 _ rfl; have c3 := blk_cell sb0 3 _ rfl; have c4 := blk_cell sb0 4 _ rfl; have c5 := blk_cell sb0 5 _ rfl; clear sb0)
        go_simp
        all_goals (try with_reducible rfl)
      (try simp only [Act.put, gA, gC, gD, gE, gF])
      refine wpAnyH_take (i := 1) (v := ?_) rfl (by kernel_rfl) (by kernel_rfl) (by kernel_rfl) (fun _ _ _ h => h) (Or.inl ⟨by rfl, ?_⟩) hHeld ?_
      rotate_left
      · intro w9 hSw
        (obtain ⟨sb0, _⟩ := hSw; have c0 := blk_cell sb0 0 _ rfl; have c1 := blk_cell sb0 1 _ rfl; have c2 := blk_cell sb0 2 _ rfl; have c3 := blk_cell sb0 3 _ rfl; have c4 := blk_cell sb0 4 _ rfl; have c5 := blk_cell sb0 5 _ rfl; clear sb0)
        go_simp
        all_goals (try with_reducible rfl)
      (try simp only [Act.put, gA, gB, gC, gD, gE, gF])
      refine wpAnyH_take (i := 2) (v := ?_) rfl (by kernel_rfl) (by kernel_rfl) (by kernel_rfl) (fun _ _ _ h => h) (Or.inl ⟨by rfl, ?_⟩) hHeld ?_
      rotate_left
      · intro w9 hSw
        (obtain ⟨sb0, _⟩ := hSw; have c0 := blk_cell sb0 0 _ rfl; have c1 := blk_cell sb0 1 _ rfl; have c2 := blk_cell sb0 2 _ rfl; have c3 := blk_cell sb0 3 _ rfl; have c4 := blk_cell sb0 4 _ rfl; have c5 := blk_cell sb0 5 _ rfl; clear sb0)
        go_simp
        all_goals (try with_reducible rfl)
      (try simp only [Act.put, gA, gB, gC, gD, gE, gF])
      refine wpAnyH_take (i := 3) (v := ?_) rfl (by kernel_rfl) (by kernel_rfl) (by kernel_rfl) (fun _ _ _ h => h) (Or.inl ⟨by rfl, ?_⟩) hHeld ?_
      rotate_left
      · intro w9 hSw
        (obtain ⟨sb0, _⟩ := hSw; have c0 := blk_cell sb0 0 _ rfl; have c1 := blk_cell sb0 1 _ rfl; have c2 := blk_cell sb0 2 _ rfl; have c3 := blk_cell sb0 3 _ rfl; have c4 := blk_cell sb0 4 _ rfl; have c5 := blk_cell sb0 5 _ rfl; clear sb0)
        go_simp
        all_goals (try with_reducible rfl)
      (try simp only [Act.put, gA, gB, gC, gD, gE, gF])
      refine wpAnyH_take (i := 4) (v := ?_) rfl (by kernel_rfl) (by kernel_rfl) (by kernel_rfl) (fun _ _ _ h => h) (Or.inl ⟨by rfl, ?_⟩) hHeld ?_
      rotate_left
      · intro w9 hSw
        (obtain ⟨sb0, _⟩ := hSw; have c0 := blk_cell sb0 0 _ rfl; have c1 := blk_cell sb0 1 _ rfl; have c2 := blk_cell sb0 2 _ rfl; have c3 := blk_cell sb0 3 _ rfl; have c4 := blk_cell sb0 4 _ rfl; have c5 := blk_cell sb0 5 _ rfl; clear sb0)
        go_simp
        all_goals (try with_reducible rfl)
      (try simp only [Act.put, gA, gB, gC, gD, gE, gF])
      refine wpAnyH_take (i := 5) (v := ?_) rfl (by kernel_rfl) (by kernel_rfl) (by kernel_rfl) (fun _ _ _ h => h) (Or.inl ⟨by rfl, ?_⟩) hHeld ?_
      rotate_left
      · intro w9 hSw
        (obtain ⟨sb0, _⟩ := hSw; have c0 := blk_cell sb0 0 _ rfl; have c1 := blk_cell sb0 1 _ rfl; have c2 := blk_cell sb0 2 _ rfl; have c3 := blk_cell sb0 3 _ rfl; have c4 := blk_cell sb0 4 _ rfl; have c5 := blk_cell sb0 5 _ rfl; clear sb0)
        go_simp
        all_goals (try with_reducible rfl)
      (try simp only [Act.put, gA, gB, gC, gD, gE, gF])
      refine wpAnyH_take (i := 6) (v := ?_) rfl (by kernel_rfl) (by kernel_rfl) (by kernel_rfl) (fun _ _ _ h => h) (Or.inl ⟨by rfl, ?_⟩) hHeld ?_
      rotate_left
      · intro w9 hSw
        (obtain ⟨sb0, _⟩ := hSw; have c0 := blk_cell sb0 0 _ rfl; have c1 := blk_cell sb0 1 _ rfl; have c2 := blk_cell sb0 2 _ rfl; have c3 := blk_cell sb0 3 _ rfl; have c4 := blk_cell sb0 4 _ rfl; have c5 := blk_cell sb0 5 _ rfl; clear sb0)
        go_simp
        all_goals (try with_reducible rfl)
      (try simp only [Act.put, gA, gB, gC, gD, gE, gF])
      refine wpAnyH_take (i := 7) (v := ?_) rfl (by kernel_rfl) (by kernel_rfl) (by kernel_rfl) (fun _ _ _ h => h) (Or.inl ⟨by rfl, ?_⟩) hHeld ?_
      rotate_left
      · intro w9 hSw
        (obtain ⟨sb0, _⟩ := hSw; have c0 := blk_cell sb0 0 _ rfl; have c1 := blk_cell sb0 1 _ rfl; have c2 := blk_cell sb0 2 _ rfl; have c3 := blk_cell sb0 3 _ rfl; have c4 := blk_cell sb0 4 _ rfl; have c5 := blk_cell sb0 5 _ rfl; clear sb0)
        go_simp
        all_goals (try with_reducible rfl)
      (try simp only [Act.put, gA, gB, gC, gD, gE, gF])
      refine wpAnyH_ready (rs := [8]) (by kernel_rfl) (by simp) ?_
      refine AllReadyH.cons rfl (fun K' hK' => ?_) AllReadyH.nil
      go_simp
      refine (HR.out _).mono ?_
      rintro e' w1 ⟨rfl, hg⟩
      (try simp only [])
      refine hK'.out _ _ ⟨blk_keep hHeld.1 hg (by simp), gr_trans0 hHeld.2 hg⟩ (fun hHeldN => ?_)
      clear hHeld
      have hHeld := hHeldN
      clear hK' K' hHeldN hg
      (try simp only [Act.put, gA, gB, gC, gD, gE, gF])
      refine wpAnyH_take (i := 9) (v := ?_) rfl (by kernel_rfl) (by kernel_rfl) (by kernel_rfl) (fun _ _ _ h => h) (Or.inl ⟨by rfl, ?_⟩) hHeld ?_
      rotate_left
      · intro w9 hSw
        clear hSw
        go_simp
        all_goals (try with_reducible rfl)
      (try simp only [Act.put, gA, gB, gC, gD, gE, gF])
      refine wpAnyH_take (i := 10) (v := ?_) rfl (by kernel_rfl) (by kernel_rfl) (by kernel_rfl) (fun _ _ _ h => h) (Or.inl ⟨by rfl, ?_⟩) hHeld ?_
      rotate_left
      · intro w9 hSw
        clear hSw
        go_simp
        all_goals (try with_reducible rfl)
      (try simp only [Act.put, gA, gB, gC, gD, gE, gF])
      refine wpAnyH_take (i := 11) (v := ?_) rfl (by kernel_rfl) (by kernel_rfl) (by kernel_rfl) (fun _ _ _ h => h) (Or.inl ⟨by rfl, ?_⟩) hHeld ?_
      rotate_left
      · intro w9 hSw
        clear hSw
        go_simp
        all_goals (try with_reducible rfl)
      (try simp only [Act.put, gA, gB, gC, gD, gE, gF])
      refine wpAnyH_ready (rs := [12]) (by kernel_rfl) (by simp) ?_
      refine AllReadyH.cons rfl (fun K' hK' => ?_) AllReadyH.nil
      go_simp
      refine (HY.out _).mono ?_
      rintro e' w2 ⟨rfl, rfl⟩
      (try simp only [])
      refine hK'.out _ _ ⟨hHeld.1, hHeld.2⟩ (fun hHeldN => ?_)
      clear hHeld
      have hHeld := hHeldN
      clear hK' K' hHeldN
      (try simp only [Act.put, gA, gB, gC, gD, gE, gF])
      refine wpAnyH_take (i := 13) (v := ?_) rfl (by kernel_rfl) (by kernel_rfl) (by kernel_rfl) (fun _ _ _ h => h) (Or.inl ⟨by rfl, ?_⟩) hHeld ?_
      rotate_left
      · intro w9 hSw
        clear hSw
        go_simp
        all_goals (try with_reducible rfl)
      (try simp only [Act.put, gA, gB, gC, gD, gE, gF])
      refine wpAnyH_take (i := 14) (v := ?_) rfl (by kernel_rfl) (by kernel_rfl) (by kernel_rfl) (fun _ _ _ h => h) (Or.inl ⟨by rfl, ?_⟩) hHeld ?_
      rotate_left
      · intro w9 hSw
        clear hSw
        go_simp
        all_goals (try with_reducible rfl)
      (try simp only [Act.put, gA, gB, gC, gD, gE, gF])
      refine wpAnyH_done (by kernel_rfl) ?_ _
      have HG := hid hHeld.2
      clear hHeld
      go_wp2_with fail
      go_ret
      exact ⟨ret_text (a := noT) HT.out.symm, HG.out⟩
    | true =>
      obtain ⟨y0, y1⟩ := yield_facts hy
      have hrun := run_of hr
      have hb2 := hrun.price_bd y0 y1
      have hb3 := hrun.price_le y0 y1
      have hb1 := hrun.price_pos y0 y1
      have HP := hid (fun wx => specprice_any s.bond s.day y wx hrun y0 y1)
      have Hpt := hid (show priceT s y = dec (priceLo s.bond s.day y) ++ 32 :: dec (priceHi s.bond s.day y) by unfold priceT priceB; rw [hr, hy]; rfl)
      rw [hy] at HY
      generalize priceLo s.bond s.day y = lo at *
      generalize priceHi s.bond s.day y = hi at *
      have d1 := dec_le lo (by omega)
      have d2 := dec_le hi (by omega)
      have HI1 := hid (fun wx => formatInt_dec lo wx (by omega) (by omega))
      have HI2 := hid (fun wx => formatInt_dec hi wx (by omega) (by omega))
      clear hr hy hrun
      go_enter Tryz.func72, Tryz.ntmps72
      go_wp2_with fail
      refine wp_region_held_drew (S := fun w' => w'.heap[sb]? = some (Obj.cells #[.int .i64 s.bond.start, .int .i64 s.bond.stop, .int .i64 s.bond.months, .int .i64 s.bond.rate, .int .i64 s.day, .slice a n cap] 53 (0, 0)) ∧ w.grownBy w' none) (by kernel_rfl) ⟨HC.out, gr_drew (gr0 _)⟩ (fun hHeld => ?_)
      refine wpAnyH_take (i := 0) (v := ?_) rfl (by kernel_rfl) (by kernel_rfl) (by kernel_rfl) (fun _ _ _ h => h) (Or.inl ⟨by rfl, ?_⟩) hHeld ?_
      rotate_left
      · intro w9 hSw
        (obtain ⟨sb0, _⟩ := hSw; have c0 := blk_cell sb0 0 _ rfl; have c1 := blk_cell sb0 1 _ rfl; have c2 := blk_cell sb0 2 _ rfl; have c3 := blk_cell sb0 3 _ rfl; have c4 := blk_cell sb0 4 _ rfl; have c5 := blk_cell sb0 5 _ rfl; clear sb0)
        go_simp
        all_goals (try with_reducible rfl)
      (try simp only [Act.put, gA, gC, gD, gE, gF])
      refine wpAnyH_take (i := 1) (v := ?_) rfl (by kernel_rfl) (by kernel_rfl) (by kernel_rfl) (fun _ _ _ h => h) (Or.inl ⟨by rfl, ?_⟩) hHeld ?_
      rotate_left
      · intro w9 hSw
        (obtain ⟨sb0, _⟩ := hSw; have c0 := blk_cell sb0 0 _ rfl; have c1 := blk_cell sb0 1 _ rfl; have c2 := blk_cell sb0 2 _ rfl; have c3 := blk_cell sb0 3 _ rfl; have c4 := blk_cell sb0 4 _ rfl; have c5 := blk_cell sb0 5 _ rfl; clear sb0)
        go_simp
        all_goals (try with_reducible rfl)
      (try simp only [Act.put, gA, gB, gC, gD, gE, gF])
      refine wpAnyH_take (i := 2) (v := ?_) rfl (by kernel_rfl) (by kernel_rfl) (by kernel_rfl) (fun _ _ _ h => h) (Or.inl ⟨by rfl, ?_⟩) hHeld ?_
      rotate_left
      · intro w9 hSw
        (obtain ⟨sb0, _⟩ := hSw; have c0 := blk_cell sb0 0 _ rfl; have c1 := blk_cell sb0 1 _ rfl; have c2 := blk_cell sb0 2 _ rfl; have c3 := blk_cell sb0 3 _ rfl; have c4 := blk_cell sb0 4 _ rfl; have c5 := blk_cell sb0 5 _ rfl; clear sb0)
        go_simp
        all_goals (try with_reducible rfl)
      (try simp only [Act.put, gA, gB, gC, gD, gE, gF])
      refine wpAnyH_take (i := 3) (v := ?_) rfl (by kernel_rfl) (by kernel_rfl) (by kernel_rfl) (fun _ _ _ h => h) (Or.inl ⟨by rfl, ?_⟩) hHeld ?_
      rotate_left
      · intro w9 hSw
        (obtain ⟨sb0, _⟩ := hSw; have c0 := blk_cell sb0 0 _ rfl; have c1 := blk_cell sb0 1 _ rfl; have c2 := blk_cell sb0 2 _ rfl; have c3 := blk_cell sb0 3 _ rfl; have c4 := blk_cell sb0 4 _ rfl; have c5 := blk_cell sb0 5 _ rfl; clear sb0)
        go_simp
        all_goals (try with_reducible rfl)
      (try simp only [Act.put, gA, gB, gC, gD, gE, gF])
      refine wpAnyH_take (i := 4) (v := ?_) rfl (by kernel_rfl) (by kernel_rfl) (by kernel_rfl) (fun _ _ _ h => h) (Or.inl ⟨by rfl, ?_⟩) hHeld ?_
      rotate_left
      · intro w9 hSw
        (obtain ⟨sb0, _⟩ := hSw; have c0 := blk_cell sb0 0 _ rfl; have c1 := blk_cell sb0 1 _ rfl; have c2 := blk_cell sb0 2 _ rfl; have c3 := blk_cell sb0 3 _ rfl; have c4 := blk_cell sb0 4 _ rfl; have c5 := blk_cell sb0 5 _ rfl; clear sb0)
        go_simp
        all_goals (try with_reducible rfl)
      (try simp only [Act.put, gA, gB, gC, gD, gE, gF])
      refine wpAnyH_take (i := 5) (v := ?_) rfl (by kernel_rfl) (by kernel_rfl) (by kernel_rfl) (fun _ _ _ h => h) (Or.inl ⟨by rfl, ?_⟩) hHeld ?_
      rotate_left
      · intro w9 hSw
        (obtain ⟨sb0, _⟩ := hSw; have c0 := blk_cell sb0 0 _ rfl; have c1 := blk_cell sb0 1 _ rfl; have c2 := blk_cell sb0 2 _ rfl; have c3 := blk_cell sb0 3 _ rfl; have c4 := blk_cell sb0 4 _ rfl; have c5 := blk_cell sb0 5 _ rfl; clear sb0)
        go_simp
        all_goals (try with_reducible rfl)
      (try simp only [Act.put, gA, gB, gC, gD, gE, gF])
      refine wpAnyH_take (i := 6) (v := ?_) rfl (by kernel_rfl) (by kernel_rfl) (by kernel_rfl) (fun _ _ _ h => h) (Or.inl ⟨by rfl, ?_⟩) hHeld ?_
      rotate_left
      · intro w9 hSw
        (obtain ⟨sb0, _⟩ := hSw; have c0 := blk_cell sb0 0 _ rfl; have c1 := blk_cell sb0 1 _ rfl; have c2 := blk_cell sb0 2 _ rfl; have c3 := blk_cell sb0 3 _ rfl; have c4 := blk_cell sb0 4 _ rfl; have c5 := blk_cell sb0 5 _ rfl; clear sb0)
        go_simp
        all_goals (try with_reducible rfl)
      (try simp only [Act.put, gA, gB, gC, gD, gE, gF])
      refine wpAnyH_take (i := 7) (v := ?_) rfl (by kernel_rfl) (by kernel_rfl) (by kernel_rfl) (fun _ _ _ h => h) (Or.inl ⟨by rfl, ?_⟩) hHeld ?_
      rotate_left
      · intro w9 hSw
        (obtain ⟨sb0, _⟩ := hSw; have c0 := blk_cell sb0 0 _ rfl; have c1 := blk_cell sb0 1 _ rfl; have c2 := blk_cell sb0 2 _ rfl; have c3 := blk_cell sb0 3 _ rfl; have c4 := blk_cell sb0 4 _ rfl; have c5 := blk_cell sb0 5 _ rfl; clear sb0)
        go_simp
        all_goals (try with_reducible rfl)
      (try simp only [Act.put, gA, gB, gC, gD, gE, gF])
      refine wpAnyH_ready (rs := [8]) (by kernel_rfl) (by simp) ?_
      refine AllReadyH.cons rfl (fun K' hK' => ?_) AllReadyH.nil
      go_simp
      refine (HR.out _).mono ?_
      rintro e' w1 ⟨rfl, hg⟩
      (try simp only [])
      refine hK'.out _ _ ⟨blk_keep hHeld.1 hg (by simp), gr_trans0 hHeld.2 hg⟩ (fun hHeldN => ?_)
      clear hHeld
      have hHeld := hHeldN
      clear hK' K' hHeldN hg
      (try simp only [Act.put, gA, gB, gC, gD, gE, gF])
      refine wpAnyH_take (i := 9) (v := ?_) rfl (by kernel_rfl) (by kernel_rfl) (by kernel_rfl) (fun _ _ _ h => h) (Or.inl ⟨by rfl, ?_⟩) hHeld ?_
      rotate_left
      · intro w9 hSw
        clear hSw
        go_simp
        all_goals (try with_reducible rfl)
      (try simp only [Act.put, gA, gB, gC, gD, gE, gF])
      refine wpAnyH_take (i := 10) (v := ?_) rfl (by kernel_rfl) (by kernel_rfl) (by kernel_rfl) (fun _ _ _ h => h) (Or.inl ⟨by rfl, ?_⟩) hHeld ?_
      rotate_left
      · intro w9 hSw
        clear hSw
        go_simp
        all_goals (try with_reducible rfl)
      (try simp only [Act.put, gA, gB, gC, gD, gE, gF])
      refine wpAnyH_take (i := 11) (v := ?_) rfl (by kernel_rfl) (by kernel_rfl) (by kernel_rfl) (fun _ _ _ h => h) (Or.inl ⟨by rfl, ?_⟩) hHeld ?_
      rotate_left
      · intro w9 hSw
        clear hSw
        go_simp
        all_goals (try with_reducible rfl)
      (try simp only [Act.put, gA, gB, gC, gD, gE, gF])
      refine wpAnyH_ready (rs := [12]) (by kernel_rfl) (by simp) ?_
      refine AllReadyH.cons rfl (fun K' hK' => ?_) AllReadyH.nil
      go_simp
      refine (HY.out _).mono ?_
      rintro e' w2 ⟨rfl, rfl⟩
      (try simp only [])
      refine hK'.out _ _ ⟨hHeld.1, hHeld.2⟩ (fun hHeldN => ?_)
      clear hHeld
      have hHeld := hHeldN
      clear hK' K' hHeldN
      (try simp only [Act.put, gA, gB, gC, gD, gE, gF])
      refine wpAnyH_take (i := 13) (v := ?_) rfl (by kernel_rfl) (by kernel_rfl) (by kernel_rfl) (fun _ _ _ h => h) (Or.inl ⟨by rfl, ?_⟩) hHeld ?_
      rotate_left
      · intro w9 hSw
        clear hSw
        go_simp
        all_goals (try with_reducible rfl)
      (try simp only [Act.put, gA, gB, gC, gD, gE, gF])
      refine wpAnyH_take (i := 14) (v := ?_) rfl (by kernel_rfl) (by kernel_rfl) (by kernel_rfl) (fun _ _ _ h => h) (Or.inl ⟨by rfl, ?_⟩) hHeld ?_
      rotate_left
      · intro w9 hSw
        clear hSw
        go_simp
        all_goals (try with_reducible rfl)
      (try simp only [Act.put, gA, gB, gC, gD, gE, gF])
      refine wpAnyH_done (by kernel_rfl) ?_ _
      have HG0 := hid hHeld.2
      have HC1 := hid hHeld.1
      clear hHeld
      go_wp2_with fail
      apply cut_ptS (facts := fun WF Nb => w.grownBy WF none ∧ WF.heap[Nb]? = some (Obj.cells #[.int .i64 lo, .int .i64 hi] 87 (0, 0)))
      case main =>
        intro HT
        refine wp_region_held_drew (S := fun w' => w1.grownBy w' none) (by kernel_rfl) (gr_drew (gr0 _)) (fun hHeld => ?_)
        refine wpAnyH_take (i := 0) (v := ?_) rfl (by kernel_rfl) (by kernel_rfl) (by kernel_rfl) (fun _ _ _ h => h) (Or.inl ⟨by rfl, ?_⟩) hHeld ?_
        rotate_left
        · intro w9 hSw
          (have sb0 := blk_keep HC1.out hSw (by simp); have c0 := blk_cell sb0 0 _ rfl; have c1 := blk_cell sb0 1 _ rfl; have c2 := blk_cell sb0 2 _ rfl; have c3 := blk_cell sb0 3 _ rfl; have c4 := blk_cell sb0 4 _ rfl; clear sb0 hSw)
          go_simp
          all_goals (try with_reducible rfl)
        (try simp only [Act.put, gA, gC, gD, gE, gF])
        refine wpAnyH_take (i := 1) (v := ?_) rfl (by kernel_rfl) (by kernel_rfl) (by kernel_rfl) (fun _ _ _ h => h) (Or.inl ⟨by rfl, ?_⟩) hHeld ?_
        rotate_left
        · intro w9 hSw
          (have sb0 := blk_keep HC1.out hSw (by simp); have c0 := blk_cell sb0 0 _ rfl; have c1 := blk_cell sb0 1 _ rfl; have c2 := blk_cell sb0 2 _ rfl; have c3 := blk_cell sb0 3 _ rfl; have c4 := blk_cell sb0 4 _ rfl; clear sb0 hSw)
          go_simp
          all_goals (try with_reducible rfl)
        (try simp only [Act.put, gA, gB, gC, gD, gE, gF])
        refine wpAnyH_take (i := 2) (v := ?_) rfl (by kernel_rfl) (by kernel_rfl) (by kernel_rfl) (fun _ _ _ h => h) (Or.inl ⟨by rfl, ?_⟩) hHeld ?_
        rotate_left
        · intro w9 hSw
          (have sb0 := blk_keep HC1.out hSw (by simp); have c0 := blk_cell sb0 0 _ rfl; have c1 := blk_cell sb0 1 _ rfl; have c2 := blk_cell sb0 2 _ rfl; have c3 := blk_cell sb0 3 _ rfl; have c4 := blk_cell sb0 4 _ rfl; clear sb0 hSw)
          go_simp
          all_goals (try with_reducible rfl)
        (try simp only [Act.put, gA, gB, gC, gD, gE, gF])
        refine wpAnyH_take (i := 3) (v := ?_) rfl (by kernel_rfl) (by kernel_rfl) (by kernel_rfl) (fun _ _ _ h => h) (Or.inl ⟨by rfl, ?_⟩) hHeld ?_
        rotate_left
        · intro w9 hSw
          (have sb0 := blk_keep HC1.out hSw (by simp); have c0 := blk_cell sb0 0 _ rfl; have c1 := blk_cell sb0 1 _ rfl; have c2 := blk_cell sb0 2 _ rfl; have c3 := blk_cell sb0 3 _ rfl; have c4 := blk_cell sb0 4 _ rfl; clear sb0 hSw)
          go_simp
          all_goals (try with_reducible rfl)
        (try simp only [Act.put, gA, gB, gC, gD, gE, gF])
        refine wpAnyH_take (i := 4) (v := ?_) rfl (by kernel_rfl) (by kernel_rfl) (by kernel_rfl) (fun _ _ _ h => h) (Or.inl ⟨by rfl, ?_⟩) hHeld ?_
        rotate_left
        · intro w9 hSw
          (have sb0 := blk_keep HC1.out hSw (by simp); have c0 := blk_cell sb0 0 _ rfl; have c1 := blk_cell sb0 1 _ rfl; have c2 := blk_cell sb0 2 _ rfl; have c3 := blk_cell sb0 3 _ rfl; have c4 := blk_cell sb0 4 _ rfl; clear sb0 hSw)
          go_simp
          all_goals (try with_reducible rfl)
        (try simp only [Act.put, gA, gB, gC, gD, gE, gF])
        refine wpAnyH_take (i := 5) (v := ?_) rfl (by kernel_rfl) (by kernel_rfl) (by kernel_rfl) (fun _ _ _ h => h) (Or.inl ⟨by rfl, ?_⟩) hHeld ?_
        rotate_left
        · intro w9 hSw
          (have sb0 := blk_keep HC1.out hSw (by simp); have c0 := blk_cell sb0 0 _ rfl; have c1 := blk_cell sb0 1 _ rfl; have c2 := blk_cell sb0 2 _ rfl; have c3 := blk_cell sb0 3 _ rfl; have c4 := blk_cell sb0 4 _ rfl; clear sb0 hSw)
          go_simp
          all_goals (try with_reducible rfl)
        (try simp only [Act.put, gA, gB, gC, gD, gE, gF])
        refine wpAnyH_take (i := 6) (v := ?_) rfl (by kernel_rfl) (by kernel_rfl) (by kernel_rfl) (fun _ _ _ h => h) (Or.inl ⟨by rfl, ?_⟩) hHeld ?_
        rotate_left
        · intro w9 hSw
          (have sb0 := blk_keep HC1.out hSw (by simp); have c0 := blk_cell sb0 0 _ rfl; have c1 := blk_cell sb0 1 _ rfl; have c2 := blk_cell sb0 2 _ rfl; have c3 := blk_cell sb0 3 _ rfl; have c4 := blk_cell sb0 4 _ rfl; clear sb0 hSw)
          go_simp
          all_goals (try with_reducible rfl)
        (try simp only [Act.put, gA, gB, gC, gD, gE, gF])
        refine wpAnyH_take (i := 7) (v := ?_) rfl (by kernel_rfl) (by kernel_rfl) (by kernel_rfl) (fun _ _ _ h => h) (Or.inl ⟨by rfl, ?_⟩) hHeld ?_
        rotate_left
        · intro w9 hSw
          (have sb0 := blk_keep HC1.out hSw (by simp); have c0 := blk_cell sb0 0 _ rfl; have c1 := blk_cell sb0 1 _ rfl; have c2 := blk_cell sb0 2 _ rfl; have c3 := blk_cell sb0 3 _ rfl; have c4 := blk_cell sb0 4 _ rfl; clear sb0 hSw)
          go_simp
          all_goals (try with_reducible rfl)
        (try simp only [Act.put, gA, gB, gC, gD, gE, gF])
        refine wpAnyH_take (i := 8) (v := ?_) rfl (by kernel_rfl) (by kernel_rfl) (by kernel_rfl) (fun _ _ _ h => h) (Or.inl ⟨by rfl, ?_⟩) hHeld ?_
        rotate_left
        · intro w9 hSw
          (have sb0 := blk_keep HC1.out hSw (by simp); have c0 := blk_cell sb0 0 _ rfl; have c1 := blk_cell sb0 1 _ rfl; have c2 := blk_cell sb0 2 _ rfl; have c3 := blk_cell sb0 3 _ rfl; have c4 := blk_cell sb0 4 _ rfl; clear sb0 hSw)
          go_simp
          all_goals (try with_reducible rfl)
        (try simp only [Act.put, gA, gB, gC, gD, gE, gF])
        refine wpAnyH_ready (rs := [9, 10]) (by kernel_rfl) (by simp) ?_
        refine AllReadyH.cons rfl (fun K' hK' => ?_) (AllReadyH.cons rfl (fun K' hK' => ?_) AllReadyH.nil)
        · go_simp
          refine (HP.out _).mono ?_
          rintro e' w3 ⟨rfl, hg⟩
          have hHg := gr_trans0 hHeld hg
          (try simp only [])
          refine hK'.out _ _ hHg (fun hHeldN => ?_)
          clear hK' K' hHeld
          have hHeld := hHeldN
          clear hHeldN
          (try simp only [Act.put, gA, gB, gC, gD, gE, gF])
          refine wpAnyH_ready (rs := [10]) (by kernel_rfl) (by simp) ?_
          refine AllReadyH.cons rfl (fun K' hK' => ?_) AllReadyH.nil
          go_simp
          (try simp only [])
          refine hK'.out _ _ (gr_alloc hHeld _) (fun hHeldN => ?_)
          clear hK' K' hHeld
          have hHeld := hHeldN
          clear hHeldN
          (try simp only [Act.put, gA, gB, gC, gD, gE, gF])
          refine wpAnyH_ready (rs := [11]) (by kernel_rfl) (by simp) ?_
          refine AllReadyH.cons rfl (fun K' hK' => ?_) AllReadyH.nil
          go_simp
          (try simp only [])
          refine hK'.out _ _ (gr_alloc hHg _) (fun hHeldN => ?_)
          clear hK' K' hHeld
          have hHeld := hHeldN
          clear hHeldN
          (try simp only [Act.put, gA, gB, gC, gD, gE, gF])
          refine wpAnyH_done (by kernel_rfl) ?_ _
          have F1 := gr_trans0 HG0.out hHeld
          have F2 := heap_alloc_new w3 (Obj.cells #[.int .i64 lo, .int .i64 hi] 87)
          clear hHeld
          generalize w3.heap.size = Nb at *
          generalize (w3.alloc (Obj.cells #[.int .i64 lo, .int .i64 hi] 87)) = WF at *
          exact HT WF Nb ⟨F1, F2⟩
        · go_simp
          (try simp only [])
          refine hK'.out _ _ (gr_alloc hHeld _) (fun hHeldN => ?_)
          clear hK' K' hHeld
          have hHeld := hHeldN
          clear hHeldN
          (try simp only [Act.put, gA, gB, gC, gD, gE, gF])
          have HB0 : ((w1.alloc (Obj.cells #[.int .i64 0, .int .i64 0] 87)).drew).heap[w1.heap.size]? = some (Obj.cells #[.int .i64 0, .int .i64 0] 87) := heap_alloc_new w1 _
          refine wpAnyH_ready (rs := [9]) (by kernel_rfl) (by simp) ?_
          refine AllReadyH.cons rfl (fun K' hK' => ?_) AllReadyH.nil
          go_simp
          refine (HP.out _).mono ?_
          rintro e' w3 ⟨rfl, hg⟩
          have hHg := gr_trans0 hHeld hg
          (try simp only [])
          refine hK'.out _ _ hHg (fun hHeldN => ?_)
          clear hK' K' hHeld
          have hHeld := hHeldN
          clear hHeldN
          (try simp only [Act.put, gA, gB, gC, gD, gE, gF])
          refine wpAnyH_ready (rs := [11]) (by kernel_rfl) (by simp) ?_
          refine AllReadyH.cons rfl (fun K' hK' => ?_) AllReadyH.nil
          have HB := blk_keep HB0 hg (by simp)
          have b0 := blk_cell HB 0 _ rfl
          have b1 := blk_cell HB 1 _ rfl
          have e0 := blk_frozen HB 0
          have e1 := blk_frozen HB 1
          have F2 := (blk_set (blk_set HB 0 (.int .i64 lo)) 1 (.int .i64 hi)).trans (show _ = some (Obj.cells #[.int .i64 lo, .int .i64 hi] 87 (0, 0)) from rfl)
          go_simp
          (try simp only [])
          refine hK'.out _ _ (gr_setCell (gr_setCell hHg (.inr (Nat.le_refl _)) _) (.inr (Nat.le_refl _)) _) (fun hHeldN => ?_)
          clear hK' K' hHeld
          have hHeld := hHeldN
          clear hHeldN
          (try simp only [Act.put, gA, gB, gC, gD, gE, gF])
          refine wpAnyH_done (by kernel_rfl) ?_ _
          have F1 := gr_trans0 HG0.out hHeld
          clear hHeld b0 b1 e0 e1 HB HB0
          generalize w1.heap.size = Nb at *
          generalize (World.setCell _ ⟨Nb, 1, none⟩ _) = WF at *
          exact HT WF Nb ⟨F1, F2⟩
      case tail =>
        intro WF Nb hfacts
        have HG := hid hfacts.1
        have HRR := hid hfacts.2
        clear hfacts
        go_wp2_with fail
        have a1 : ∀ w, (Op.stringOp .add ⟨(dec lo).toArray⟩ ⟨#[32]⟩).run Tryz.prog w = .ok (.string ⟨(dec lo ++ [32]).toArray⟩) w := fun w => add_lists _ [32] (by omega) (by simp) w
        have a2 : ∀ w, (Op.stringOp .add ⟨(dec lo ++ [32]).toArray⟩ ⟨(dec hi).toArray⟩).run Tryz.prog w = .ok (.string ⟨(dec lo ++ [32] ++ dec hi).toArray⟩) w := fun w => add_lists _ _ (by simp; omega) (by omega) w
        have HT := hid (show dec lo ++ [32] ++ dec hi = priceT s y by rw [Hpt.out]; simp)
        generalize dec lo ++ [32] = t1 at *
        generalize t1 ++ dec hi = t2 at *
        generalize dec lo = d1 at *
        generalize dec hi = d2 at *
        refine wp_region_held_drew (S := fun w' => w'.heap[Nb]? = some (Obj.cells #[.int .i64 lo, .int .i64 hi] 87 (0, 0)) ∧ w.grownBy w' none) (by kernel_rfl) ⟨HRR.out, gr_drew HG.out⟩ (fun hHeld => ?_)
        refine wpAnyH_take (i := 0) (v := ?_) rfl (by kernel_rfl) (by kernel_rfl) (by kernel_rfl) (fun _ _ _ h => h) (Or.inl ⟨by rfl, ?_⟩) hHeld ?_
        rotate_left
        · intro w9 hSw
          (have r0 := blk_cell hSw.1 0 _ rfl; have r1 := blk_cell hSw.1 1 _ rfl; clear hSw)
          go_simp
          all_goals (try with_reducible rfl)
        (try simp only [Act.put, gA, gC, gD, gE, gF])
        refine wpAnyH_take (i := 1) (v := ?_) rfl (by kernel_rfl) (by kernel_rfl) (by kernel_rfl) (fun _ _ _ h => h) (Or.inl ⟨by rfl, ?_⟩) hHeld ?_
        rotate_left
        · intro w9 hSw
          (have r0 := blk_cell hSw.1 0 _ rfl; have r1 := blk_cell hSw.1 1 _ rfl; clear hSw)
          go_simp
          all_goals (try with_reducible rfl)
        (try simp only [Act.put, gA, gB, gC, gD, gE, gF])
        refine wpAnyH_take (i := 4) (v := ?_) rfl (by kernel_rfl) (by kernel_rfl) (by kernel_rfl) (fun _ _ _ h => h) (Or.inl ⟨by rfl, ?_⟩) hHeld ?_
        rotate_left
        · intro w9 hSw
          (have r0 := blk_cell hSw.1 0 _ rfl; have r1 := blk_cell hSw.1 1 _ rfl; clear hSw)
          go_simp
          all_goals (try with_reducible rfl)
        (try simp only [Act.put, gA, gB, gC, gD, gE, gF])
        refine wpAnyH_take (i := 5) (v := ?_) rfl (by kernel_rfl) (by kernel_rfl) (by kernel_rfl) (fun _ _ _ h => h) (Or.inl ⟨by rfl, ?_⟩) hHeld ?_
        rotate_left
        · intro w9 hSw
          (have r0 := blk_cell hSw.1 0 _ rfl; have r1 := blk_cell hSw.1 1 _ rfl; clear hSw)
          go_simp
          all_goals (try with_reducible rfl)
        (try simp only [Act.put, gA, gB, gC, gD, gE, gF])
        refine wpAnyH_ready (rs := [2]) (by kernel_rfl) (by simp) ?_
        refine AllReadyH.cons rfl (fun K' hK' => ?_) AllReadyH.nil
        go_simp
        refine (HI1.out _).mono ?_
        rintro e' w1 ⟨rfl, hg⟩
        (try simp only [])
        refine hK'.out _ _ ⟨blk_keep hHeld.1 hg (by simp), gr_trans0 hHeld.2 hg⟩ (fun hHeldN => ?_)
        clear hHeld
        have hHeld := hHeldN
        clear hK' K' hHeldN hg
        (try simp only [Act.put, gA, gB, gC, gD, gE, gF])
        refine wpAnyH_take (i := 3) (v := ?_) rfl (by kernel_rfl) (by kernel_rfl) (by kernel_rfl) (fun _ _ _ h => h) (Or.inl ⟨by rfl, ?_⟩) hHeld ?_
        rotate_left
        · intro w9 hSw
          clear hSw
          go_simp
          all_goals (try with_reducible rfl)
        (try simp only [Act.put, gA, gB, gC, gD, gE, gF])
        refine wpAnyH_ready (rs := [6]) (by kernel_rfl) (by simp) ?_
        refine AllReadyH.cons rfl (fun K' hK' => ?_) AllReadyH.nil
        go_simp
        refine (HI2.out _).mono ?_
        rintro e' w2 ⟨rfl, hg⟩
        (try simp only [])
        refine hK'.out _ _ ⟨blk_keep hHeld.1 hg (by simp), gr_trans0 hHeld.2 hg⟩ (fun hHeldN => ?_)
        clear hHeld
        have hHeld := hHeldN
        clear hK' K' hHeldN hg
        (try simp only [Act.put, gA, gB, gC, gD, gE, gF])
        refine wpAnyH_take (i := 7) (v := ?_) rfl (by kernel_rfl) (by kernel_rfl) (by kernel_rfl) (fun _ _ _ h => h) (Or.inl ⟨by rfl, ?_⟩) hHeld ?_
        rotate_left
        · intro w9 hSw
          clear hSw
          go_simp
          all_goals (try with_reducible rfl)
        (try simp only [Act.put, gA, gB, gC, gD, gE, gF])
        refine wpAnyH_take (i := 8) (v := ?_) rfl (by kernel_rfl) (by kernel_rfl) (by kernel_rfl) (fun _ _ _ h => h) (Or.inl ⟨by rfl, ?_⟩) hHeld ?_
        rotate_left
        · intro w9 hSw
          clear hSw
          go_simp
          all_goals (try with_reducible rfl)
        (try simp only [Act.put, gA, gB, gC, gD, gE, gF])
        refine wpAnyH_done (by kernel_rfl) ?_ _
        have HG9 := hid hHeld.2
        clear hHeld
        go_wp2_with fail
        go_ret
        exact ⟨ret_text HT.out, HG9.out⟩
end Go.Proofs.YtielicmjdhmcjaaGreatDoor
