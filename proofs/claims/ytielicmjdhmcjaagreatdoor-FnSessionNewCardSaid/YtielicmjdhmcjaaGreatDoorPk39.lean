/- Packed: FormatBond. -/
import Derived.Test.YtielicmjdhmcjaaGreatDoorRows
import Derived.Test.YtielicmjdhmcjaaGreatDoorPk13
import Derived.Test.YtielicmjdhmcjaaGreatDoorPk19
import Derived.Lib.Join
/- FormatBond of the program and of the reference. -/
namespace Go.Proofs.YtielicmjdhmcjaaGreatDoor
open Go.RowKit

set_option maxRecDepth 100000 in
set_option maxHeartbeats 2000000 in
theorem specformatBond_any (b : Bond) (w : World) (hb : bondB b = true) :
    Calls Tryz.prog 95 #[.agg #[.int .i64 b.start, .int .i64 b.stop, .int .i64 b.months, .int .i64 b.rate]] w fun e w' => e = .returned (.string ⟨(bondT b).toArray⟩) ∧ w.grownBy w' none := by
  have Hb0 := hid (heap_alloc_new w (Obj.cells #[.int .i64 b.start, .int .i64 b.stop, .int .i64 b.months, .int .i64 b.rate] 37))
  have HG := hid (show w.grownBy (w.alloc (Obj.cells #[.int .i64 b.start, .int .i64 b.stop, .int .i64 b.months, .int .i64 b.rate] 37)) none from gr_alloc (gr0 _) _)
  obtain ⟨⟨s0, s1⟩, ⟨e0, e1⟩, ⟨r0, r1⟩, m0, m1⟩ := bond_days hb
  have lq := dec_len12 (b.rate / 100) (by omega) (by omega)
  have lr := twoT_len (b.rate % 100) (by omega) (by omega)
  have ls := dateT_len (date_valid b.start s0 s1)
  have le := dateT_len (date_valid b.stop e0 e1)
  have lm := dec_len12 b.months (by omega) (by omega)
  have q1 : IntKind.i64.wrap (b.rate.tdiv 100) = b.rate / 100 := by rw [Int.tdiv_eq_ediv_of_nonneg r0]; exact IntWalk.i64_in _ (by omega)
  have q1b : IntKind.i64.wrap (b.rate / 100) = b.rate / 100 := IntWalk.i64_in _ (by omega)
  have q2 : b.rate.tmod 100 = b.rate % 100 := Int.tmod_eq_emod_of_nonneg r0
  have hq0 : 0 ≤ b.rate / 100 ∧ b.rate / 100 ≤ 30 := by omega
  have hr0 : 0 ≤ b.rate % 100 ∧ b.rate % 100 ≤ 99 := by omega
  obtain ⟨q, hq⟩ : ∃ q, b.rate / 100 = q := ⟨_, rfl⟩
  obtain ⟨r, hr⟩ : ∃ r, b.rate % 100 = r := ⟨_, rfl⟩
  have HT := hid (show dec q ++ [46] ++ twoT r ++ [32] ++ dateT (yF b.start) (mF b.start) (dF b.start) ++ [32] ++ dateT (yF b.stop) (mF b.stop) (dF b.stop) ++ [32] ++ dec b.months = bondT b by unfold bondT rateT dayT; rw [hq, hr]; simp)
  rw [hq] at lq q1 q1b hq0
  rw [hr] at lr q2 hr0
  clear hq hr
  have C1 := hid (fun wx => formatInt_dec q wx (by omega) (by omega))
  have C2 := hid (fun wx => spectwo_any r wx (by omega) (by omega))
  have C3 := hid (fun wx => specdateOf_any b.start wx s0 s1)
  have C4 := hid (fun wx => specformatDate_any _ _ _ wx (date_valid b.start s0 s1))
  have C5 := hid (fun wx => specdateOf_any b.stop wx e0 e1)
  have C6 := hid (fun wx => specformatDate_any _ _ _ wx (date_valid b.stop e0 e1))
  have C7 := hid (fun wx => formatInt_dec b.months wx (by omega) (by omega))
  generalize dateT (yF b.start) (mF b.start) (dF b.start) = A3 at *
  generalize dateT (yF b.stop) (mF b.stop) (dF b.stop) = A4 at *
  generalize yF b.start = ys at *
  generalize mF b.start = ms at *
  generalize dF b.start = ds at *
  generalize yF b.stop = ye at *
  generalize mF b.stop = me at *
  generalize dF b.stop = de at *
  generalize dec q = A1 at *
  generalize twoT r = A2 at *
  generalize dec b.months = A5 at *
  have a1 : ∀ w, (Op.stringOp .add ⟨(A1).toArray⟩ ⟨([46]).toArray⟩).run Tryz.prog w = .ok (.string ⟨(A1 ++ [46]).toArray⟩) w := fun w => add_lists _ _ (by first | (simp; done) | (simp; omega) | omega) (by first | (simp; done) | (simp; omega) | omega) w
  have a2 : ∀ w, (Op.stringOp .add ⟨(A1 ++ [46]).toArray⟩ ⟨(A2).toArray⟩).run Tryz.prog w = .ok (.string ⟨(A1 ++ [46] ++ A2).toArray⟩) w := fun w => add_lists _ _ (by first | (simp; done) | (simp; omega) | omega) (by first | (simp; done) | (simp; omega) | omega) w
  have a3 : ∀ w, (Op.stringOp .add ⟨(A1 ++ [46] ++ A2).toArray⟩ ⟨([32]).toArray⟩).run Tryz.prog w = .ok (.string ⟨(A1 ++ [46] ++ A2 ++ [32]).toArray⟩) w := fun w => add_lists _ _ (by first | (simp; done) | (simp; omega) | omega) (by first | (simp; done) | (simp; omega) | omega) w
  have a4 : ∀ w, (Op.stringOp .add ⟨(A1 ++ [46] ++ A2 ++ [32]).toArray⟩ ⟨(A3).toArray⟩).run Tryz.prog w = .ok (.string ⟨(A1 ++ [46] ++ A2 ++ [32] ++ A3).toArray⟩) w := fun w => add_lists _ _ (by first | (simp; done) | (simp; omega) | omega) (by first | (simp; done) | (simp; omega) | omega) w
  have a5 : ∀ w, (Op.stringOp .add ⟨(A1 ++ [46] ++ A2 ++ [32] ++ A3).toArray⟩ ⟨([32]).toArray⟩).run Tryz.prog w = .ok (.string ⟨(A1 ++ [46] ++ A2 ++ [32] ++ A3 ++ [32]).toArray⟩) w := fun w => add_lists _ _ (by first | (simp; done) | (simp; omega) | omega) (by first | (simp; done) | (simp; omega) | omega) w
  have a6 : ∀ w, (Op.stringOp .add ⟨(A1 ++ [46] ++ A2 ++ [32] ++ A3 ++ [32]).toArray⟩ ⟨(A4).toArray⟩).run Tryz.prog w = .ok (.string ⟨(A1 ++ [46] ++ A2 ++ [32] ++ A3 ++ [32] ++ A4).toArray⟩) w := fun w => add_lists _ _ (by first | (simp; done) | (simp; omega) | omega) (by first | (simp; done) | (simp; omega) | omega) w
  have a7 : ∀ w, (Op.stringOp .add ⟨(A1 ++ [46] ++ A2 ++ [32] ++ A3 ++ [32] ++ A4).toArray⟩ ⟨([32]).toArray⟩).run Tryz.prog w = .ok (.string ⟨(A1 ++ [46] ++ A2 ++ [32] ++ A3 ++ [32] ++ A4 ++ [32]).toArray⟩) w := fun w => add_lists _ _ (by first | (simp; done) | (simp; omega) | omega) (by first | (simp; done) | (simp; omega) | omega) w
  have a8 : ∀ w, (Op.stringOp .add ⟨(A1 ++ [46] ++ A2 ++ [32] ++ A3 ++ [32] ++ A4 ++ [32]).toArray⟩ ⟨(A5).toArray⟩).run Tryz.prog w = .ok (.string ⟨(A1 ++ [46] ++ A2 ++ [32] ++ A3 ++ [32] ++ A4 ++ [32] ++ A5).toArray⟩) w := fun w => add_lists _ _ (by first | (simp; done) | (simp; omega) | omega) (by first | (simp; done) | (simp; omega) | omega) w
  obtain ⟨t1, ht1⟩ : ∃ s, A1 ++ [46] = s := ⟨_, rfl⟩
  rw [ht1] at a1 a2 a3 a4 a5 a6 a7 a8 HT
  clear ht1
  obtain ⟨t2, ht2⟩ : ∃ s, t1 ++ A2 = s := ⟨_, rfl⟩
  rw [ht2] at a2 a3 a4 a5 a6 a7 a8 HT
  clear ht2
  obtain ⟨t3, ht3⟩ : ∃ s, t2 ++ [32] = s := ⟨_, rfl⟩
  rw [ht3] at a3 a4 a5 a6 a7 a8 HT
  clear ht3
  obtain ⟨t4, ht4⟩ : ∃ s, t3 ++ A3 = s := ⟨_, rfl⟩
  rw [ht4] at a4 a5 a6 a7 a8 HT
  clear ht4
  obtain ⟨t5, ht5⟩ : ∃ s, t4 ++ [32] = s := ⟨_, rfl⟩
  rw [ht5] at a5 a6 a7 a8 HT
  clear ht5
  obtain ⟨t6, ht6⟩ : ∃ s, t5 ++ A4 = s := ⟨_, rfl⟩
  rw [ht6] at a6 a7 a8 HT
  clear ht6
  obtain ⟨t7, ht7⟩ : ∃ s, t6 ++ [32] = s := ⟨_, rfl⟩
  rw [ht7] at a7 a8 HT
  clear ht7
  obtain ⟨t8, ht8⟩ : ∃ s, t7 ++ A5 = s := ⟨_, rfl⟩
  rw [ht8] at a8 HT
  clear ht8
  clear lq lr ls le lm hq0 hr0 s0 s1 e0 e1 m0 m1 hb
  go_enter Tryz.func95, Tryz.ntmps95
  go_wp2_with fail
  refine wp_region_held_drew (S := fun w' => w'.heap[w.heap.size]? = some (Obj.cells #[.int .i64 b.start, .int .i64 b.stop, .int .i64 b.months, .int .i64 b.rate] 37) ∧ w.grownBy w' none) (by kernel_rfl) ⟨Hb0.out, gr_drew HG.out⟩ (fun hHeld => ?_)
  refine wpAnyH_take (i := 0) (v := ?_) rfl (by kernel_rfl) (by kernel_rfl) (by kernel_rfl) (fun _ _ _ h => h) (Or.inl ⟨by rfl, ?_⟩) hHeld ?_
  rotate_left
  · intro w9 hSw
    (obtain ⟨sb, _⟩ := hSw; have b0 := blk_cell sb 0 _ rfl; have b1 := blk_cell sb 1 _ rfl; have b2 := blk_cell sb 2 _ rfl; have b3 := blk_cell sb 3 _ rfl; clear sb)
    go_simp
    all_goals (try with_reducible rfl)
  (try simp only [Act.put, gA, gC, gD, gE, gF])
  refine wpAnyH_take (i := 1) (v := ?_) rfl (by kernel_rfl) (by kernel_rfl) (by kernel_rfl) (fun _ _ _ h => h) (Or.inl ⟨by rfl, ?_⟩) hHeld ?_
  rotate_left
  · intro w9 hSw
    (obtain ⟨sb, _⟩ := hSw; have b0 := blk_cell sb 0 _ rfl; have b1 := blk_cell sb 1 _ rfl; have b2 := blk_cell sb 2 _ rfl; have b3 := blk_cell sb 3 _ rfl; clear sb)
    go_simp
    all_goals (try with_reducible rfl)
  (try simp only [Act.put, gA, gB, gC, gD, gE, gF])
  refine wpAnyH_take (i := 2) (v := ?_) rfl (by kernel_rfl) (by kernel_rfl) (by kernel_rfl) (fun _ _ _ h => h) (Or.inl ⟨by rfl, ?_⟩) hHeld ?_
  rotate_left
  · intro w9 hSw
    (obtain ⟨sb, _⟩ := hSw; have b0 := blk_cell sb 0 _ rfl; have b1 := blk_cell sb 1 _ rfl; have b2 := blk_cell sb 2 _ rfl; have b3 := blk_cell sb 3 _ rfl; clear sb)
    go_simp
    all_goals (try with_reducible rfl)
  (try simp only [Act.put, gA, gB, gC, gD, gE, gF])
  (try simp only [q1]); (try simp only [q1b])
  refine wpAnyH_take (i := 5) (v := ?_) rfl (by kernel_rfl) (by kernel_rfl) (by kernel_rfl) (fun _ _ _ h => h) (Or.inl ⟨by rfl, ?_⟩) hHeld ?_
  rotate_left
  · intro w9 hSw
    (obtain ⟨sb, _⟩ := hSw; have b0 := blk_cell sb 0 _ rfl; have b1 := blk_cell sb 1 _ rfl; have b2 := blk_cell sb 2 _ rfl; have b3 := blk_cell sb 3 _ rfl; clear sb)
    go_simp
    all_goals (try with_reducible rfl)
  (try simp only [Act.put, gA, gB, gC, gD, gE, gF])
  refine wpAnyH_take (i := 6) (v := ?_) rfl (by kernel_rfl) (by kernel_rfl) (by kernel_rfl) (fun _ _ _ h => h) (Or.inl ⟨by rfl, ?_⟩) hHeld ?_
  rotate_left
  · intro w9 hSw
    (obtain ⟨sb, _⟩ := hSw; have b0 := blk_cell sb 0 _ rfl; have b1 := blk_cell sb 1 _ rfl; have b2 := blk_cell sb 2 _ rfl; have b3 := blk_cell sb 3 _ rfl; clear sb)
    go_simp
    all_goals (try with_reducible rfl)
  (try simp only [Act.put, gA, gB, gC, gD, gE, gF])
  refine wpAnyH_take (i := 7) (v := ?_) rfl (by kernel_rfl) (by kernel_rfl) (by kernel_rfl) (fun _ _ _ h => h) (Or.inl ⟨by rfl, ?_⟩) hHeld ?_
  rotate_left
  · intro w9 hSw
    (obtain ⟨sb, _⟩ := hSw; have b0 := blk_cell sb 0 _ rfl; have b1 := blk_cell sb 1 _ rfl; have b2 := blk_cell sb 2 _ rfl; have b3 := blk_cell sb 3 _ rfl; clear sb)
    go_simp
    all_goals (try with_reducible rfl)
  (try simp only [Act.put, gA, gB, gC, gD, gE, gF])
  (try simp only [q2])
  refine wpAnyH_take (i := 11) (v := ?_) rfl (by kernel_rfl) (by kernel_rfl) (by kernel_rfl) (fun _ _ _ h => h) (Or.inl ⟨by rfl, ?_⟩) hHeld ?_
  rotate_left
  · intro w9 hSw
    (obtain ⟨sb, _⟩ := hSw; have b0 := blk_cell sb 0 _ rfl; have b1 := blk_cell sb 1 _ rfl; have b2 := blk_cell sb 2 _ rfl; have b3 := blk_cell sb 3 _ rfl; clear sb)
    go_simp
    all_goals (try with_reducible rfl)
  (try simp only [Act.put, gA, gB, gC, gD, gE, gF])
  refine wpAnyH_take (i := 12) (v := ?_) rfl (by kernel_rfl) (by kernel_rfl) (by kernel_rfl) (fun _ _ _ h => h) (Or.inl ⟨by rfl, ?_⟩) hHeld ?_
  rotate_left
  · intro w9 hSw
    (obtain ⟨sb, _⟩ := hSw; have b0 := blk_cell sb 0 _ rfl; have b1 := blk_cell sb 1 _ rfl; have b2 := blk_cell sb 2 _ rfl; have b3 := blk_cell sb 3 _ rfl; clear sb)
    go_simp
    all_goals (try with_reducible rfl)
  (try simp only [Act.put, gA, gB, gC, gD, gE, gF])
  refine wpAnyH_take (i := 17) (v := ?_) rfl (by kernel_rfl) (by kernel_rfl) (by kernel_rfl) (fun _ _ _ h => h) (Or.inl ⟨by rfl, ?_⟩) hHeld ?_
  rotate_left
  · intro w9 hSw
    (obtain ⟨sb, _⟩ := hSw; have b0 := blk_cell sb 0 _ rfl; have b1 := blk_cell sb 1 _ rfl; have b2 := blk_cell sb 2 _ rfl; have b3 := blk_cell sb 3 _ rfl; clear sb)
    go_simp
    all_goals (try with_reducible rfl)
  (try simp only [Act.put, gA, gB, gC, gD, gE, gF])
  refine wpAnyH_take (i := 18) (v := ?_) rfl (by kernel_rfl) (by kernel_rfl) (by kernel_rfl) (fun _ _ _ h => h) (Or.inl ⟨by rfl, ?_⟩) hHeld ?_
  rotate_left
  · intro w9 hSw
    (obtain ⟨sb, _⟩ := hSw; have b0 := blk_cell sb 0 _ rfl; have b1 := blk_cell sb 1 _ rfl; have b2 := blk_cell sb 2 _ rfl; have b3 := blk_cell sb 3 _ rfl; clear sb)
    go_simp
    all_goals (try with_reducible rfl)
  (try simp only [Act.put, gA, gB, gC, gD, gE, gF])
  refine wpAnyH_take (i := 23) (v := ?_) rfl (by kernel_rfl) (by kernel_rfl) (by kernel_rfl) (fun _ _ _ h => h) (Or.inl ⟨by rfl, ?_⟩) hHeld ?_
  rotate_left
  · intro w9 hSw
    (obtain ⟨sb, _⟩ := hSw; have b0 := blk_cell sb 0 _ rfl; have b1 := blk_cell sb 1 _ rfl; have b2 := blk_cell sb 2 _ rfl; have b3 := blk_cell sb 3 _ rfl; clear sb)
    go_simp
    all_goals (try with_reducible rfl)
  (try simp only [Act.put, gA, gB, gC, gD, gE, gF])
  refine wpAnyH_take (i := 24) (v := ?_) rfl (by kernel_rfl) (by kernel_rfl) (by kernel_rfl) (fun _ _ _ h => h) (Or.inl ⟨by rfl, ?_⟩) hHeld ?_
  rotate_left
  · intro w9 hSw
    (obtain ⟨sb, _⟩ := hSw; have b0 := blk_cell sb 0 _ rfl; have b1 := blk_cell sb 1 _ rfl; have b2 := blk_cell sb 2 _ rfl; have b3 := blk_cell sb 3 _ rfl; clear sb)
    go_simp
    all_goals (try with_reducible rfl)
  (try simp only [Act.put, gA, gB, gC, gD, gE, gF])
  clear q1 q1b q2
  refine wpAnyH_ready (rs := [3]) (by kernel_rfl) (by simp) ?_
  refine AllReadyH.cons rfl (fun K' hK' => ?_) AllReadyH.nil
  go_simp
  refine (C1.out _).mono ?_
  rintro e' w1 ⟨rfl, hg⟩
  (try simp only [])
  refine hK'.out _ _ ⟨blk_keep hHeld.1 hg (by simp), gr_trans0 hHeld.2 hg⟩ (fun hHeldN => ?_)
  clear hHeld hg
  have hHeld := hHeldN
  clear hK' K' hHeldN
  (try simp only [Act.put, gA, gB, gC, gD, gE, gF])
  refine wpAnyH_take (i := 4) (v := ?_) rfl (by kernel_rfl) (by kernel_rfl) (by kernel_rfl) (fun _ _ _ h => h) (Or.inl ⟨by rfl, ?_⟩) hHeld ?_
  rotate_left
  · intro w9 hSw
    clear hSw
    go_simp
    all_goals (try with_reducible rfl)
  (try simp only [Act.put, gA, gB, gC, gD, gE, gF])
  refine wpAnyH_ready (rs := [8]) (by kernel_rfl) (by simp) ?_
  refine AllReadyH.cons rfl (fun K' hK' => ?_) AllReadyH.nil
  go_simp
  refine (C2.out _).mono ?_
  rintro e' w2 ⟨rfl, hg⟩
  (try simp only [])
  refine hK'.out _ _ ⟨blk_keep hHeld.1 hg (by simp), gr_trans0 hHeld.2 hg⟩ (fun hHeldN => ?_)
  clear hHeld hg
  have hHeld := hHeldN
  clear hK' K' hHeldN
  (try simp only [Act.put, gA, gB, gC, gD, gE, gF])
  refine wpAnyH_take (i := 9) (v := ?_) rfl (by kernel_rfl) (by kernel_rfl) (by kernel_rfl) (fun _ _ _ h => h) (Or.inl ⟨by rfl, ?_⟩) hHeld ?_
  rotate_left
  · intro w9 hSw
    clear hSw
    go_simp
    all_goals (try with_reducible rfl)
  (try simp only [Act.put, gA, gB, gC, gD, gE, gF])
  refine wpAnyH_take (i := 10) (v := ?_) rfl (by kernel_rfl) (by kernel_rfl) (by kernel_rfl) (fun _ _ _ h => h) (Or.inl ⟨by rfl, ?_⟩) hHeld ?_
  rotate_left
  · intro w9 hSw
    clear hSw
    go_simp
    all_goals (try with_reducible rfl)
  (try simp only [Act.put, gA, gB, gC, gD, gE, gF])
  refine wpAnyH_ready (rs := [13]) (by kernel_rfl) (by simp) ?_
  refine AllReadyH.cons rfl (fun K' hK' => ?_) AllReadyH.nil
  go_simp
  refine (C3.out _).mono ?_
  rintro e' w3 ⟨rfl, hg⟩
  (try simp only [])
  refine hK'.out _ _ ⟨blk_keep hHeld.1 hg (by simp), gr_trans0 hHeld.2 hg⟩ (fun hHeldN => ?_)
  clear hHeld hg
  have hHeld := hHeldN
  clear hK' K' hHeldN
  (try simp only [Act.put, gA, gB, gC, gD, gE, gF])
  refine wpAnyH_ready (rs := [14]) (by kernel_rfl) (by simp) ?_
  refine AllReadyH.cons rfl (fun K' hK' => ?_) AllReadyH.nil
  go_simp
  refine (C4.out _).mono ?_
  rintro e' w4 ⟨rfl, hg⟩
  (try simp only [])
  refine hK'.out _ _ ⟨blk_keep hHeld.1 hg (by simp), gr_trans0 hHeld.2 hg⟩ (fun hHeldN => ?_)
  clear hHeld hg
  have hHeld := hHeldN
  clear hK' K' hHeldN
  (try simp only [Act.put, gA, gB, gC, gD, gE, gF])
  refine wpAnyH_take (i := 15) (v := ?_) rfl (by kernel_rfl) (by kernel_rfl) (by kernel_rfl) (fun _ _ _ h => h) (Or.inl ⟨by rfl, ?_⟩) hHeld ?_
  rotate_left
  · intro w9 hSw
    clear hSw
    go_simp
    all_goals (try with_reducible rfl)
  (try simp only [Act.put, gA, gB, gC, gD, gE, gF])
  refine wpAnyH_take (i := 16) (v := ?_) rfl (by kernel_rfl) (by kernel_rfl) (by kernel_rfl) (fun _ _ _ h => h) (Or.inl ⟨by rfl, ?_⟩) hHeld ?_
  rotate_left
  · intro w9 hSw
    clear hSw
    go_simp
    all_goals (try with_reducible rfl)
  (try simp only [Act.put, gA, gB, gC, gD, gE, gF])
  refine wpAnyH_ready (rs := [19]) (by kernel_rfl) (by simp) ?_
  refine AllReadyH.cons rfl (fun K' hK' => ?_) AllReadyH.nil
  go_simp
  refine (C5.out _).mono ?_
  rintro e' w5 ⟨rfl, hg⟩
  (try simp only [])
  refine hK'.out _ _ ⟨blk_keep hHeld.1 hg (by simp), gr_trans0 hHeld.2 hg⟩ (fun hHeldN => ?_)
  clear hHeld hg
  have hHeld := hHeldN
  clear hK' K' hHeldN
  (try simp only [Act.put, gA, gB, gC, gD, gE, gF])
  refine wpAnyH_ready (rs := [20]) (by kernel_rfl) (by simp) ?_
  refine AllReadyH.cons rfl (fun K' hK' => ?_) AllReadyH.nil
  go_simp
  refine (C6.out _).mono ?_
  rintro e' w6 ⟨rfl, hg⟩
  (try simp only [])
  refine hK'.out _ _ ⟨blk_keep hHeld.1 hg (by simp), gr_trans0 hHeld.2 hg⟩ (fun hHeldN => ?_)
  clear hHeld hg
  have hHeld := hHeldN
  clear hK' K' hHeldN
  (try simp only [Act.put, gA, gB, gC, gD, gE, gF])
  refine wpAnyH_take (i := 21) (v := ?_) rfl (by kernel_rfl) (by kernel_rfl) (by kernel_rfl) (fun _ _ _ h => h) (Or.inl ⟨by rfl, ?_⟩) hHeld ?_
  rotate_left
  · intro w9 hSw
    clear hSw
    go_simp
    all_goals (try with_reducible rfl)
  (try simp only [Act.put, gA, gB, gC, gD, gE, gF])
  refine wpAnyH_take (i := 22) (v := ?_) rfl (by kernel_rfl) (by kernel_rfl) (by kernel_rfl) (fun _ _ _ h => h) (Or.inl ⟨by rfl, ?_⟩) hHeld ?_
  rotate_left
  · intro w9 hSw
    clear hSw
    go_simp
    all_goals (try with_reducible rfl)
  (try simp only [Act.put, gA, gB, gC, gD, gE, gF])
  refine wpAnyH_ready (rs := [25]) (by kernel_rfl) (by simp) ?_
  refine AllReadyH.cons rfl (fun K' hK' => ?_) AllReadyH.nil
  go_simp
  refine (C7.out _).mono ?_
  rintro e' w7 ⟨rfl, hg⟩
  (try simp only [])
  refine hK'.out _ _ ⟨blk_keep hHeld.1 hg (by simp), gr_trans0 hHeld.2 hg⟩ (fun hHeldN => ?_)
  clear hHeld hg
  have hHeld := hHeldN
  clear hK' K' hHeldN
  (try simp only [Act.put, gA, gB, gC, gD, gE, gF])
  refine wpAnyH_take (i := 26) (v := ?_) rfl (by kernel_rfl) (by kernel_rfl) (by kernel_rfl) (fun _ _ _ h => h) (Or.inl ⟨by rfl, ?_⟩) hHeld ?_
  rotate_left
  · intro w9 hSw
    clear hSw
    go_simp
    all_goals (try with_reducible rfl)
  (try simp only [Act.put, gA, gB, gC, gD, gE, gF])
  refine wpAnyH_take (i := 27) (v := ?_) rfl (by kernel_rfl) (by kernel_rfl) (by kernel_rfl) (fun _ _ _ h => h) (Or.inl ⟨by rfl, ?_⟩) hHeld ?_
  rotate_left
  · intro w9 hSw
    clear hSw
    go_simp
    all_goals (try with_reducible rfl)
  (try simp only [Act.put, gA, gB, gC, gD, gE, gF])
  refine wpAnyH_done (by kernel_rfl) ?_ _
  have HgF := hid hHeld.2
  clear hHeld
  go_wp2_with fail
  go_ret
  exact ⟨ret_text HT.out, HgF.out⟩


end Go.Proofs.YtielicmjdhmcjaaGreatDoor
