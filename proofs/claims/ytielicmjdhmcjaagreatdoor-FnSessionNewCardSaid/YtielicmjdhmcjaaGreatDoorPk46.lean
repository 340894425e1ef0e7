/- Packed: SpecLine2. -/
import Derived.Test.YtielicmjdhmcjaaGreatDoorRows
import Derived.Test.YtielicmjdhmcjaaGreatDoorPk45
/- A line executed by the reference's desk: all commands. -/
namespace Go.Proofs.YtielicmjdhmcjaaGreatDoor
open Go.RowKit

theorem lineD_words {s : Desk} {l : List UInt8} (hb : bondP l = false) (hd : dayP l = false) : lineD s l = wordsD s (spl [] l) := by
  show (if _ then _ else _) = _
  rw [hb, hd]; rfl
theorem words_one {s : Desk} {l : List UInt8} {n : Nat} (hn : (spl [] l).length = n) (e1 : l ≠ accW) (e2 : l ≠ totW) (e3 : l ≠ posW) (e4 : l ≠ gainW) (h : n = 1) : wordsD s (spl [] l) = (s, whatT) := by
  obtain ⟨x, hx⟩ := List.length_eq_one_iff.1 (hn.trans h)
  have := spl_one l [] x hx
  rw [List.nil_append] at this
  subst this
  rw [hx]
  show (if _ then _ else _) = _
  rw [if_neg e1, if_neg e2, if_neg e3, if_neg e4]

set_option maxRecDepth 100000 in
set_option maxHeartbeats 4000000 in
theorem line_any (sb : Nat) (s : Desk) (l : List UInt8) (w : World) (hd : DeskAt 53 w sb s) (hok : OkDesk s) (hl : l.length ≤ 2000000) :
    Calls Tryz.prog 21 #[.pointer (some ⟨sb, 0, none⟩), .string ⟨(l).toArray⟩] w fun e w' => e = .returned (.string ⟨((lineD s l).2).toArray⟩) ∧ DeskAt 53 w' sb (lineD s l).1 ∧ w.grownBy w' (some sb) := by
  obtain ⟨a, n, cap, hd⟩ := hd
  have HD := hid hd
  have Hok := hid hok
  clear hd hok
  by_cases h5 : 5 < l.length
  · have hd5 : decide ((5 : Int) < l.length) = true := by simp; omega
    have hT5 : ∀ w, (Instr.slice 9 (.string ⟨(l).toArray⟩) none (some (.int .i64 5)) none).run Tryz.prog w = .ok (.string ⟨(l.take 5).toArray⟩) w := fun w => str_take w _ l 5 (by omega) Tryz.underlying9
    cases hb5 : (l.take 5 == [98, 111, 110, 100, 32]) with
    | true =>
      have hD5 : ∀ w, (Instr.slice 9 (.string ⟨(l).toArray⟩) (some (.int .i64 5)) none none).run Tryz.prog w = .ok (.string ⟨(l.drop 5).toArray⟩) w := fun w => str_drop w _ l 5 5 rfl (by omega) Tryz.underlying9
      have HT := hid (show lineD s l = bondD s (l.drop 5) by
        show (if _ then _ else _) = _
        have : bondP l = true := by
          unfold bondP bondW
          rw [beq_iff_eq] at hb5
          rw [hb5, decide_eq_true h5]; rfl
        rw [this]; rfl)
      have HM := hid (load_any sb s (l.drop 5) w ⟨_, _, _, HD.out⟩ (by rw [List.length_drop]; omega))
      generalize l.drop 5 = r at *
      go_enter Tryz.func21, Tryz.ntmps21
      go_wp2_with fail
      refine HM.out.mono ?_
      rintro e w1 ⟨rfl, hd1, hg⟩
      have HD1 := hid hd1
      have HG := hid hg
      clear hd1 hg
      go_wp2_with fail
      go_ret
      exact ⟨ret_text (by rw [HT.out]), by rw [HT.out]; exact HD1.out, HG.out⟩
    | false =>
      have hPB : bondP l = false := by
        unfold bondP bondW
        rw [decide_eq_false (p := l.take 5 = _) (by intro e; rw [e] at hb5; revert hb5; decide)]; simp
      have hd4 : decide ((4 : Int) < l.length) = true := by simp; omega
      have hT4 : ∀ w, (Instr.slice 9 (.string ⟨(l).toArray⟩) none (some (.int .i64 4)) none).run Tryz.prog w = .ok (.string ⟨(l.take 4).toArray⟩) w := fun w => str_take w _ l 4 (by omega) Tryz.underlying9
      have hD4 : ∀ w, (Instr.slice 9 (.string ⟨(l).toArray⟩) (some (.int .i64 4)) none none).run Tryz.prog w = .ok (.string ⟨(l.drop 4).toArray⟩) w := fun w => str_drop w _ l 4 4 rfl (by omega) Tryz.underlying9
      cases h4 : (l.take 4 == [100, 97, 121, 32]) with
      | true =>
        have HT := hid (show lineD s l = dayD s (l.drop 4) by
          show (if _ then _ else _) = _
          rw [hPB]
          have : dayP l = true := by
            unfold dayP dayW
            rw [beq_iff_eq] at h4
            rw [h4, decide_eq_true (show 4 < l.length by omega)]; rfl
          rw [this]; rfl)
        have HM := hid (move_any sb s (l.drop 4) w ⟨_, _, _, HD.out⟩ (by rw [List.length_drop]; omega))
        generalize l.drop 4 = r at *
        go_enter Tryz.func21, Tryz.ntmps21
        go_wp2_with fail
        refine HM.out.mono ?_
        rintro e w1 ⟨rfl, hd1, hg⟩
        have HD1 := hid hd1
        have HG := hid hg
        clear hd1 hg
        go_wp2_with fail
        go_ret
        exact ⟨ret_text (by rw [HT.out]), by rw [HT.out]; exact HD1.out, HG.out⟩
      | false =>
        have hPD : dayP l = false := by
          unfold dayP dayW
          rw [decide_eq_false (p := l.take 4 = _) (by intro e; rw [e] at h4; revert h4; decide)]; simp
        clear hD4
        by_cases h1 : l = accW
        · have HT := hid (show lineD s l = (s, amtT (accF s.bond s.day)) by subst h1; rfl)
          have q1 : (l == [97, 99, 99, 114, 117, 101, 100]) = true := by rw [h1]; rfl
          have HF := hid (fun wx => specAccruedOf_any s.bond s.day wx)
          have hb := accF_le s.bond s.day
          generalize accF s.bond s.day = T at *
          clear h1
          go_enter Tryz.func21, Tryz.ntmps21
          go_wp2_with fail
          refine wp_region_held_drew (S := fun w' => w'.heap[sb]? = some (Obj.cells #[.int .i64 s.bond.start, .int .i64 s.bond.stop, .int .i64 s.bond.months, .int .i64 s.bond.rate, .int .i64 s.day, .slice a n cap] 53 (0, 0)) ∧ w.grownBy w' none) (by kernel_rfl) ⟨HD.out.c, gr_drew (gr0 _)⟩ (fun hHeld => ?_)
          refine wpAnyH_take (i := 0) (v := ?_) rfl (by kernel_rfl) (by kernel_rfl) (by kernel_rfl) (fun _ _ _ h => h) (Or.inl ⟨by rfl, ?_⟩) hHeld ?_
          rotate_left
          · intro w9 hSw
            (obtain ⟨sb0, _⟩ := hSw; have c0 := blk_cell sb0 0 _ rfl; have c1 := blk_cell sb0 1 _ rfl; have c2 := blk_cell sb0 2 _ rfl; have c3 := blk_cell sb0 3 _ rfl; have c4 := blk_cell sb0 4 _ rfl; have c5 := blk_cell sb0 5 _ rfl; clear sb0)
            go_simp
            all_goals (try with_reducible rfl)
          (try simp only [Act.put, gA, gC, gD, gE, gF])
          refine wpAnyH_take (i := 1) (v := ?_) rfl (by kernel_rfl) (by kernel_rfl) (by kernel_rfl) (fun _ _ _ h => h) (Or.inl ⟨by rfl, ?_⟩) hHeld ?_
          rotate_left
          · intro w9 hSw
            (obtain ⟨sb0, _⟩ := hSw; have c0 := blk_cell sb0 0 _ rfl; have c1 := blk_cell sb0 1 _ rfl; have c2 := blk_cell sb0 2 _ rfl; have c3 := blk_cell sb0 3 _ rfl; have c4 := blk_cell sb0 4 _ rfl; have c5 := blk_cell sb0 5 _ rfl; clear sb0)
            go_simp
            all_goals (try with_reducible rfl)
          (try simp only [Act.put, gA, gB, gC, gD, gE, gF])
          refine wpAnyH_take (i := 2) (v := ?_) rfl (by kernel_rfl) (by kernel_rfl) (by kernel_rfl) (fun _ _ _ h => h) (Or.inl ⟨by rfl, ?_⟩) hHeld ?_
          rotate_left
          · intro w9 hSw
            (obtain ⟨sb0, _⟩ := hSw; have c0 := blk_cell sb0 0 _ rfl; have c1 := blk_cell sb0 1 _ rfl; have c2 := blk_cell sb0 2 _ rfl; have c3 := blk_cell sb0 3 _ rfl; have c4 := blk_cell sb0 4 _ rfl; have c5 := blk_cell sb0 5 _ rfl; clear sb0)
            go_simp
            all_goals (try with_reducible rfl)
          (try simp only [Act.put, gA, gB, gC, gD, gE, gF])
          refine wpAnyH_take (i := 3) (v := ?_) rfl (by kernel_rfl) (by kernel_rfl) (by kernel_rfl) (fun _ _ _ h => h) (Or.inl ⟨by rfl, ?_⟩) hHeld ?_
          rotate_left
          · intro w9 hSw
            (obtain ⟨sb0, _⟩ := hSw; have c0 := blk_cell sb0 0 _ rfl; have c1 := blk_cell sb0 1 _ rfl; have c2 := blk_cell sb0 2 _ rfl; have c3 := blk_cell sb0 3 _ rfl; have c4 := blk_cell sb0 4 _ rfl; have c5 := blk_cell sb0 5 _ rfl; clear sb0)
            go_simp
            all_goals (try with_reducible rfl)
          (try simp only [Act.put, gA, gB, gC, gD, gE, gF])
          refine wpAnyH_take (i := 4) (v := ?_) rfl (by kernel_rfl) (by kernel_rfl) (by kernel_rfl) (fun _ _ _ h => h) (Or.inl ⟨by rfl, ?_⟩) hHeld ?_
          rotate_left
          · intro w9 hSw
            (obtain ⟨sb0, _⟩ := hSw; have c0 := blk_cell sb0 0 _ rfl; have c1 := blk_cell sb0 1 _ rfl; have c2 := blk_cell sb0 2 _ rfl; have c3 := blk_cell sb0 3 _ rfl; have c4 := blk_cell sb0 4 _ rfl; have c5 := blk_cell sb0 5 _ rfl; clear sb0)
            go_simp
            all_goals (try with_reducible rfl)
          (try simp only [Act.put, gA, gB, gC, gD, gE, gF])
          refine wpAnyH_take (i := 5) (v := ?_) rfl (by kernel_rfl) (by kernel_rfl) (by kernel_rfl) (fun _ _ _ h => h) (Or.inl ⟨by rfl, ?_⟩) hHeld ?_
          rotate_left
          · intro w9 hSw
            (obtain ⟨sb0, _⟩ := hSw; have c0 := blk_cell sb0 0 _ rfl; have c1 := blk_cell sb0 1 _ rfl; have c2 := blk_cell sb0 2 _ rfl; have c3 := blk_cell sb0 3 _ rfl; have c4 := blk_cell sb0 4 _ rfl; have c5 := blk_cell sb0 5 _ rfl; clear sb0)
            go_simp
            all_goals (try with_reducible rfl)
          (try simp only [Act.put, gA, gB, gC, gD, gE, gF])
          refine wpAnyH_take (i := 6) (v := ?_) rfl (by kernel_rfl) (by kernel_rfl) (by kernel_rfl) (fun _ _ _ h => h) (Or.inl ⟨by rfl, ?_⟩) hHeld ?_
          rotate_left
          · intro w9 hSw
            (obtain ⟨sb0, _⟩ := hSw; have c0 := blk_cell sb0 0 _ rfl; have c1 := blk_cell sb0 1 _ rfl; have c2 := blk_cell sb0 2 _ rfl; have c3 := blk_cell sb0 3 _ rfl; have c4 := blk_cell sb0 4 _ rfl; have c5 := blk_cell sb0 5 _ rfl; clear sb0)
            go_simp
            all_goals (try with_reducible rfl)
          (try simp only [Act.put, gA, gB, gC, gD, gE, gF])
          refine wpAnyH_take (i := 7) (v := ?_) rfl (by kernel_rfl) (by kernel_rfl) (by kernel_rfl) (fun _ _ _ h => h) (Or.inl ⟨by rfl, ?_⟩) hHeld ?_
          rotate_left
          · intro w9 hSw
            (obtain ⟨sb0, _⟩ := hSw; have c0 := blk_cell sb0 0 _ rfl; have c1 := blk_cell sb0 1 _ rfl; have c2 := blk_cell sb0 2 _ rfl; have c3 := blk_cell sb0 3 _ rfl; have c4 := blk_cell sb0 4 _ rfl; have c5 := blk_cell sb0 5 _ rfl; clear sb0)
            go_simp
            all_goals (try with_reducible rfl)
          (try simp only [Act.put, gA, gB, gC, gD, gE, gF])
          refine wpAnyH_ready (rs := [8]) (by kernel_rfl) (by simp) ?_
          refine AllReadyH.cons rfl (fun K' hK' => ?_) AllReadyH.nil
          go_simp
          refine (HF.out _).mono ?_
          rintro e' w1 ⟨rfl, hg⟩
          (try simp only [])
          refine hK'.out _ _ ⟨blk_keep hHeld.1 hg (by simp), gr_trans0 hHeld.2 hg⟩ (fun hHeldN => ?_)
          clear hHeld
          have hHeld := hHeldN
          clear hK' K' hHeldN hg
          (try simp only [Act.put, gA, gB, gC, gD, gE, gF])
          refine wpAnyH_ready (rs := [9]) (by kernel_rfl) (by simp) ?_
          refine AllReadyH.cons rfl (fun K' hK' => ?_) AllReadyH.nil
          go_simp
          refine (amount_any T _ (by omega)).mono ?_
          rintro e' w2 ⟨rfl, hg⟩
          (try simp only [])
          refine hK'.out _ _ ⟨blk_keep hHeld.1 hg (by simp), gr_trans0 hHeld.2 hg⟩ (fun hHeldN => ?_)
          clear hHeld
          have hHeld := hHeldN
          clear hK' K' hHeldN hg
          (try simp only [Act.put, gA, gB, gC, gD, gE, gF])
          refine wpAnyH_take (i := 10) (v := ?_) rfl (by kernel_rfl) (by kernel_rfl) (by kernel_rfl) (fun _ _ _ h => h) (Or.inl ⟨by rfl, ?_⟩) hHeld ?_
          rotate_left
          · intro w9 hSw
            clear hSw
            go_simp
            all_goals (try with_reducible rfl)
          (try simp only [Act.put, gA, gB, gC, gD, gE, gF])
          refine wpAnyH_done (by kernel_rfl) ?_ _
          have HG := hid hHeld.2
          clear hHeld
          go_wp2_with fail
          go_ret
          exact ⟨ret_text (by rw [HT.out]), by rw [HT.out]; exact ⟨_, _, _, HD.out.keep HG.out⟩, gr_any HG.out _⟩
        have q1 : (l == [97, 99, 99, 114, 117, 101, 100]) = false := by simpa [accW] using h1
        by_cases h2 : l = totW
        · have HT := hid (show lineD s l = (s, amtT (totF s.bond)) by subst h2; rfl)
          have q2 : (l == [116, 111, 116, 97, 108]) = true := by rw [h2]; rfl
          have HF := hid (fun wx => specTotalOf_any s.bond wx)
          have hb := totF_bd s.bond
          have c0 := blk_cell HD.out.c 0 _ rfl
          have c1 := blk_cell HD.out.c 1 _ rfl
          have c2 := blk_cell HD.out.c 2 _ rfl
          have c3 := blk_cell HD.out.c 3 _ rfl
          have c4 := blk_cell HD.out.c 4 _ rfl
          have c5 := blk_cell HD.out.c 5 _ rfl
          generalize totF s.bond = T at *
          clear h1 h2
          go_enter Tryz.func21, Tryz.ntmps21
          go_wp2_with fail
          refine (HF.out _).mono ?_
          rintro e w1 ⟨rfl, hg⟩
          have HG1 := hid hg
          clear hg
          go_wp2_with fail
          refine (amount_any T _ (by omega)).mono ?_
          rintro e w2 ⟨rfl, hg⟩
          have HG := hid (gr_trans0 HG1.out hg)
          clear hg
          go_wp2_with fail
          go_ret
          exact ⟨ret_text (by rw [HT.out]), by rw [HT.out]; exact ⟨_, _, _, HD.out.keep HG.out⟩, gr_any HG.out _⟩
        have q2 : (l == [116, 111, 116, 97, 108]) = false := by simpa [totW] using h2
        by_cases h3 : l = posW
        · have HT := hid (show lineD s l = (s, sigT (posF s.trades s.day)) by subst h3; rfl)
          have q3 : (l == [112, 111, 115, 105, 116, 105, 111, 110]) = true := by rw [h3]; rfl
          have HF := hid (fun wx (hx : w.grownBy wx none) => specPositionAt_any a n cap s.trades s.day wx (HD.out.s.keep0 hx))
          have hb := posF_bd s.trades s.day
          generalize posF s.trades s.day = T at *
          clear h1 h2 h3
          go_enter Tryz.func21, Tryz.ntmps21
          go_wp2_with fail
          refine wp_region_held_drew (S := fun w' => w'.heap[sb]? = some (Obj.cells #[.int .i64 s.bond.start, .int .i64 s.bond.stop, .int .i64 s.bond.months, .int .i64 s.bond.rate, .int .i64 s.day, .slice a n cap] 53 (0, 0)) ∧ w.grownBy w' none) (by kernel_rfl) ⟨HD.out.c, gr_drew (gr0 _)⟩ (fun hHeld => ?_)
          refine wpAnyH_take (i := 0) (v := ?_) rfl (by kernel_rfl) (by kernel_rfl) (by kernel_rfl) (fun _ _ _ h => h) (Or.inl ⟨by rfl, ?_⟩) hHeld ?_
          rotate_left
          · intro w9 hSw
            (obtain ⟨sb0, _⟩ := hSw; have c0 := blk_cell sb0 0 _ rfl; have c1 := blk_cell sb0 1 _ rfl; have c2 := blk_cell sb0 2 _ rfl; have c3 := blk_cell sb0 3 _ rfl; have c4 := blk_cell sb0 4 _ rfl; have c5 := blk_cell sb0 5 _ rfl; clear sb0)
            go_simp
            all_goals (try with_reducible rfl)
          (try simp only [Act.put, gA, gC, gD, gE, gF])
          refine wpAnyH_take (i := 1) (v := ?_) rfl (by kernel_rfl) (by kernel_rfl) (by kernel_rfl) (fun _ _ _ h => h) (Or.inl ⟨by rfl, ?_⟩) hHeld ?_
          rotate_left
          · intro w9 hSw
            (obtain ⟨sb0, _⟩ := hSw; have c0 := blk_cell sb0 0 _ rfl; have c1 := blk_cell sb0 1 _ rfl; have c2 := blk_cell sb0 2 _ rfl; have c3 := blk_cell sb0 3 _ rfl; have c4 := blk_cell sb0 4 _ rfl; have c5 := blk_cell sb0 5 _ rfl; clear sb0)
            go_simp
            all_goals (try with_reducible rfl)
          (try simp only [Act.put, gA, gB, gC, gD, gE, gF])
          refine wpAnyH_take (i := 2) (v := ?_) rfl (by kernel_rfl) (by kernel_rfl) (by kernel_rfl) (fun _ _ _ h => h) (Or.inl ⟨by rfl, ?_⟩) hHeld ?_
          rotate_left
          · intro w9 hSw
            (obtain ⟨sb0, _⟩ := hSw; have c0 := blk_cell sb0 0 _ rfl; have c1 := blk_cell sb0 1 _ rfl; have c2 := blk_cell sb0 2 _ rfl; have c3 := blk_cell sb0 3 _ rfl; have c4 := blk_cell sb0 4 _ rfl; have c5 := blk_cell sb0 5 _ rfl; clear sb0)
            go_simp
            all_goals (try with_reducible rfl)
          (try simp only [Act.put, gA, gB, gC, gD, gE, gF])
          refine wpAnyH_take (i := 3) (v := ?_) rfl (by kernel_rfl) (by kernel_rfl) (by kernel_rfl) (fun _ _ _ h => h) (Or.inl ⟨by rfl, ?_⟩) hHeld ?_
          rotate_left
          · intro w9 hSw
            (obtain ⟨sb0, _⟩ := hSw; have c0 := blk_cell sb0 0 _ rfl; have c1 := blk_cell sb0 1 _ rfl; have c2 := blk_cell sb0 2 _ rfl; have c3 := blk_cell sb0 3 _ rfl; have c4 := blk_cell sb0 4 _ rfl; have c5 := blk_cell sb0 5 _ rfl; clear sb0)
            go_simp
            all_goals (try with_reducible rfl)
          (try simp only [Act.put, gA, gB, gC, gD, gE, gF])
          refine wpAnyH_take (i := 4) (v := ?_) rfl (by kernel_rfl) (by kernel_rfl) (by kernel_rfl) (fun _ _ _ h => h) (Or.inl ⟨by rfl, ?_⟩) hHeld ?_
          rotate_left
          · intro w9 hSw
            (obtain ⟨sb0, _⟩ := hSw; have c0 := blk_cell sb0 0 _ rfl; have c1 := blk_cell sb0 1 _ rfl; have c2 := blk_cell sb0 2 _ rfl; have c3 := blk_cell sb0 3 _ rfl; have c4 := blk_cell sb0 4 _ rfl; have c5 := blk_cell sb0 5 _ rfl; clear sb0)
            go_simp
            all_goals (try with_reducible rfl)
          (try simp only [Act.put, gA, gB, gC, gD, gE, gF])
          refine wpAnyH_take (i := 5) (v := ?_) rfl (by kernel_rfl) (by kernel_rfl) (by kernel_rfl) (fun _ _ _ h => h) (Or.inl ⟨by rfl, ?_⟩) hHeld ?_
          rotate_left
          · intro w9 hSw
            (obtain ⟨sb0, _⟩ := hSw; have c0 := blk_cell sb0 0 _ rfl; have c1 := blk_cell sb0 1 _ rfl; have c2 := blk_cell sb0 2 _ rfl; have c3 := blk_cell sb0 3 _ rfl; have c4 := blk_cell sb0 4 _ rfl; have c5 := blk_cell sb0 5 _ rfl; clear sb0)
            go_simp
            all_goals (try with_reducible rfl)
          (try simp only [Act.put, gA, gB, gC, gD, gE, gF])
          refine wpAnyH_take (i := 6) (v := ?_) rfl (by kernel_rfl) (by kernel_rfl) (by kernel_rfl) (fun _ _ _ h => h) (Or.inl ⟨by rfl, ?_⟩) hHeld ?_
          rotate_left
          · intro w9 hSw
            (obtain ⟨sb0, _⟩ := hSw; have c0 := blk_cell sb0 0 _ rfl; have c1 := blk_cell sb0 1 _ rfl; have c2 := blk_cell sb0 2 _ rfl; have c3 := blk_cell sb0 3 _ rfl; have c4 := blk_cell sb0 4 _ rfl; have c5 := blk_cell sb0 5 _ rfl; clear sb0)
            go_simp
            all_goals (try with_reducible rfl)
          (try simp only [Act.put, gA, gB, gC, gD, gE, gF])
          refine wpAnyH_take (i := 7) (v := ?_) rfl (by kernel_rfl) (by kernel_rfl) (by kernel_rfl) (fun _ _ _ h => h) (Or.inl ⟨by rfl, ?_⟩) hHeld ?_
          rotate_left
          · intro w9 hSw
            (obtain ⟨sb0, _⟩ := hSw; have c0 := blk_cell sb0 0 _ rfl; have c1 := blk_cell sb0 1 _ rfl; have c2 := blk_cell sb0 2 _ rfl; have c3 := blk_cell sb0 3 _ rfl; have c4 := blk_cell sb0 4 _ rfl; have c5 := blk_cell sb0 5 _ rfl; clear sb0)
            go_simp
            all_goals (try with_reducible rfl)
          (try simp only [Act.put, gA, gB, gC, gD, gE, gF])
          refine wpAnyH_ready (rs := [8]) (by kernel_rfl) (by simp) ?_
          refine AllReadyH.cons rfl (fun K' hK' => ?_) AllReadyH.nil
          go_simp
          refine (HF.out _ hHeld.2).mono ?_
          rintro e' w1 ⟨rfl, hg⟩
          (try simp only [])
          refine hK'.out _ _ ⟨blk_keep hHeld.1 hg (by simp), gr_trans0 hHeld.2 hg⟩ (fun hHeldN => ?_)
          clear hHeld
          have hHeld := hHeldN
          clear hK' K' hHeldN hg
          (try simp only [Act.put, gA, gB, gC, gD, gE, gF])
          refine wpAnyH_ready (rs := [9]) (by kernel_rfl) (by simp) ?_
          refine AllReadyH.cons rfl (fun K' hK' => ?_) AllReadyH.nil
          go_simp
          refine (signed_any T _ (by omega) (by omega)).mono ?_
          rintro e' w2 ⟨rfl, hg⟩
          (try simp only [])
          refine hK'.out _ _ ⟨blk_keep hHeld.1 hg (by simp), gr_trans0 hHeld.2 hg⟩ (fun hHeldN => ?_)
          clear hHeld
          have hHeld := hHeldN
          clear hK' K' hHeldN hg
          (try simp only [Act.put, gA, gB, gC, gD, gE, gF])
          refine wpAnyH_take (i := 10) (v := ?_) rfl (by kernel_rfl) (by kernel_rfl) (by kernel_rfl) (fun _ _ _ h => h) (Or.inl ⟨by rfl, ?_⟩) hHeld ?_
          rotate_left
          · intro w9 hSw
            clear hSw
            go_simp
            all_goals (try with_reducible rfl)
          (try simp only [Act.put, gA, gB, gC, gD, gE, gF])
          refine wpAnyH_done (by kernel_rfl) ?_ _
          have HG := hid hHeld.2
          clear hHeld
          go_wp2_with fail
          go_ret
          exact ⟨ret_text (by rw [HT.out]), by rw [HT.out]; exact ⟨_, _, _, HD.out.keep HG.out⟩, gr_any HG.out _⟩
        have q3 : (l == [112, 111, 115, 105, 116, 105, 111, 110]) = false := by simpa [posW] using h3
        by_cases h4 : l = gainW
        · have HT := hid (show lineD s l = (s, sigT (gainF s.trades)) by subst h4; rfl)
          have q4 : (l == [103, 97, 105, 110]) = true := by rw [h4]; rfl
          have HF := hid (specGainOf_any a n cap s.trades w HD.out.s)
          have hb := gainF_bd s.trades
          have c0 := blk_cell HD.out.c 0 _ rfl
          have c1 := blk_cell HD.out.c 1 _ rfl
          have c2 := blk_cell HD.out.c 2 _ rfl
          have c3 := blk_cell HD.out.c 3 _ rfl
          have c4 := blk_cell HD.out.c 4 _ rfl
          have c5 := blk_cell HD.out.c 5 _ rfl
          generalize gainF s.trades = T at *
          clear h1 h2 h3 h4
          go_enter Tryz.func21, Tryz.ntmps21
          go_wp2_with fail
          refine HF.out.mono ?_
          rintro e w1 ⟨rfl, hg⟩
          have HG1 := hid hg
          clear hg
          go_wp2_with fail
          refine (signed_any T _ (by omega) (by omega)).mono ?_
          rintro e w2 ⟨rfl, hg⟩
          have HG := hid (gr_trans0 HG1.out hg)
          clear hg
          go_wp2_with fail
          go_ret
          exact ⟨ret_text (by rw [HT.out]), by rw [HT.out]; exact ⟨_, _, _, HD.out.keep HG.out⟩, gr_any HG.out _⟩
        have q4 : (l == [103, 97, 105, 110]) = false := by simpa [gainW] using h4
        have HT := hid (lineD_words (s := s) hPB hPD)
        have HW := hid (fun n (hn : (spl [] l).length = n) => words_one (s := s) hn h1 h2 h3 h4)
        clear h1 h2 h3 h4
        go_enter Tryz.func21, Tryz.ntmps21
        go_wp2_with fail
        refine (splitWords_any l _ hl).mono ?_
        rintro e w1 ⟨g, n2, cp, rfl, ho, hn, hn2, hg⟩
        have HO := hid ho
        have HN := hid hn
        have HG1 := hid hg
        have hpos : 0 < n2 := by have := spl_pos [] l; omega
        clear ho hn hg
        go_wp2_with fail
        refine (words_any sb s g n2 cp (spl [] l) w1 ⟨_, _, _, HD.out.keep HG1.out⟩ Hok.out (Sl.of_own (L := strL) HO.out HN.out (by unfold maxLen; omega)) hpos hn2 (fun x hx => by have := spl_len l [] x hx; simp at this; omega) (HW.out n2 HN.out)).mono ?_
        rintro e w2 ⟨rfl, hd2, hg⟩
        have HD2 := hid hd2
        have HG := hid (gr_transS (gr_any HG1.out _) hg)
        clear hd2 hg
        go_wp2_with fail
        go_ret
        exact ⟨ret_text (by rw [HT.out]), by rw [HT.out]; exact HD2.out, HG.out⟩
  have hd5 : decide ((5 : Int) < l.length) = false := by simp; omega
  have hPB : bondP l = false := by unfold bondP; rw [decide_eq_false h5]; rfl
  by_cases h4 : 4 < l.length
  · have hd4 : decide ((4 : Int) < l.length) = true := by simp; omega
    have hT4 : ∀ w, (Instr.slice 9 (.string ⟨(l).toArray⟩) none (some (.int .i64 4)) none).run Tryz.prog w = .ok (.string ⟨(l.take 4).toArray⟩) w := fun w => str_take w _ l 4 (by omega) Tryz.underlying9
    have hD4 : ∀ w, (Instr.slice 9 (.string ⟨(l).toArray⟩) (some (.int .i64 4)) none none).run Tryz.prog w = .ok (.string ⟨(l.drop 4).toArray⟩) w := fun w => str_drop w _ l 4 4 rfl (by omega) Tryz.underlying9
    cases h4 : (l.take 4 == [100, 97, 121, 32]) with
    | true =>
      have HT := hid (show lineD s l = dayD s (l.drop 4) by
        show (if _ then _ else _) = _
        rw [hPB]
        have : dayP l = true := by
          unfold dayP dayW
          rw [beq_iff_eq] at h4
          rw [h4, decide_eq_true (show 4 < l.length by omega)]; rfl
        rw [this]; rfl)
      have HM := hid (move_any sb s (l.drop 4) w ⟨_, _, _, HD.out⟩ (by rw [List.length_drop]; omega))
      generalize l.drop 4 = r at *
      go_enter Tryz.func21, Tryz.ntmps21
      go_wp2_with fail
      refine HM.out.mono ?_
      rintro e w1 ⟨rfl, hd1, hg⟩
      have HD1 := hid hd1
      have HG := hid hg
      clear hd1 hg
      go_wp2_with fail
      go_ret
      exact ⟨ret_text (by rw [HT.out]), by rw [HT.out]; exact HD1.out, HG.out⟩
    | false =>
      have hPD : dayP l = false := by
        unfold dayP dayW
        rw [decide_eq_false (p := l.take 4 = _) (by intro e; rw [e] at h4; revert h4; decide)]; simp
      clear hD4
      by_cases h1 : l = accW
      · have HT := hid (show lineD s l = (s, amtT (accF s.bond s.day)) by subst h1; rfl)
        have q1 : (l == [97, 99, 99, 114, 117, 101, 100]) = true := by rw [h1]; rfl
        have HF := hid (fun wx => specAccruedOf_any s.bond s.day wx)
        have hb := accF_le s.bond s.day
        generalize accF s.bond s.day = T at *
        clear h1
        go_enter Tryz.func21, Tryz.ntmps21
        go_wp2_with fail
        refine wp_region_held_drew (S := fun w' => w'.heap[sb]? = some (Obj.cells #[.int .i64 s.bond.start, .int .i64 s.bond.stop, .int .i64 s.bond.months, .int .i64 s.bond.rate, .int .i64 s.day, .slice a n cap] 53 (0, 0)) ∧ w.grownBy w' none) (by kernel_rfl) ⟨HD.out.c, gr_drew (gr0 _)⟩ (fun hHeld => ?_)
        refine wpAnyH_take (i := 0) (v := ?_) rfl (by kernel_rfl) (by kernel_rfl) (by kernel_rfl) (fun _ _ _ h => h) (Or.inl ⟨by rfl, ?_⟩) hHeld ?_
        rotate_left
        · intro w9 hSw
          (obtain ⟨sb0, _⟩ := hSw; have c0 := blk_cell sb0 0 _ rfl; have c1 := blk_cell sb0 1 _ rfl; have c2 := blk_cell sb0 2 _ rfl; have c3 := blk_cell sb0 3 _ rfl; have c4 := blk_cell sb0 4 _ rfl; have c5 := blk_cell sb0 5 _ rfl; clear sb0)
          go_simp
          all_goals (try with_reducible rfl)
        (try simp only [Act.put, gA, gC, gD, gE, gF])
        refine wpAnyH_take (i := 1) (v := ?_) rfl (by kernel_rfl) (by kernel_rfl) (by kernel_rfl) (fun _ _ _ h => h) (Or.inl ⟨by rfl, ?_⟩) hHeld ?_
        rotate_left
        · intro w9 hSw
          (obtain ⟨sb0, _⟩ := hSw; have c0 := blk_cell sb0 0 _ rfl; have c1 := blk_cell sb0 1 _ rfl; have c2 := blk_cell sb0 2 _ rfl; have c3 := blk_cell sb0 3 _ rfl; have c4 := blk_cell sb0 4 _ rfl; have c5 := blk_cell sb0 5 _ rfl; clear sb0)
          go_simp
          all_goals (try with_reducible rfl)
        (try simp only [Act.put, gA, gB, gC, gD, gE, gF])
        refine wpAnyH_take (i := 2) (v := ?_) rfl (by kernel_rfl) (by kernel_rfl) (by kernel_rfl) (fun _ _ _ h => h) (Or.inl ⟨by rfl, ?_⟩) hHeld ?_
        rotate_left
        · intro w9 hSw
          (obtain ⟨sb0, _⟩ := hSw; have c0 := blk_cell sb0 0 _ rfl; have c1 := blk_cell sb0 1 _ rfl; have c2 := blk_cell sb0 2 _ rfl; have c3 := blk_cell sb0 3 _ rfl; have c4 := blk_cell sb0 4 _ rfl; have c5 := blk_cell sb0 5 _ rfl; clear sb0)
          go_simp
          all_goals (try with_reducible rfl)
        (try simp only [Act.put, gA, gB, gC, gD, gE, gF])
        refine wpAnyH_take (i := 3) (v := ?_) rfl (by kernel_rfl) (by kernel_rfl) (by kernel_rfl) (fun _ _ _ h => h) (Or.inl ⟨by rfl, ?_⟩) hHeld ?_
        rotate_left
        · intro w9 hSw
          (obtain ⟨sb0, _⟩ := hSw; have c0 := blk_cell sb0 0 _ rfl; have c1 := blk_cell sb0 1 _ rfl; have c2 := blk_cell sb0 2 _ rfl; have c3 := blk_cell sb0 3 _ rfl; have c4 := blk_cell sb0 4 _ rfl; have c5 := blk_cell sb0 5 _ rfl; clear sb0)
          go_simp
          all_goals (try with_reducible rfl)
        (try simp only [Act.put, gA, gB, gC, gD, gE, gF])
        refine wpAnyH_take (i := 4) (v := ?_) rfl (by kernel_rfl) (by kernel_rfl) (by kernel_rfl) (fun _ _ _ h => h) (Or.inl ⟨by rfl, ?_⟩) hHeld ?_
        rotate_left
        · intro w9 hSw
          (obtain ⟨sb0, _⟩ := hSw; have c0 := blk_cell sb0 0 _ rfl; have c1 := blk_cell sb0 1 _ rfl; have c2 := blk_cell sb0 2 _ rfl; have c3 := blk_cell sb0 3 _ rfl; have c4 := blk_cell sb0 4 _ rfl; have c5 := blk_cell sb0 5 _ rfl; clear sb0)
          go_simp
          all_goals (try with_reducible rfl)
        (try simp only [Act.put, gA, gB, gC, gD, gE, gF])
        refine wpAnyH_take (i := 5) (v := ?_) rfl (by kernel_rfl) (by kernel_rfl) (by kernel_rfl) (fun _ _ _ h => h) (Or.inl ⟨by rfl, ?_⟩) hHeld ?_
        rotate_left
        · intro w9 hSw
          (obtain ⟨sb0, _⟩ := hSw; have c0 := blk_cell sb0 0 _ rfl; have c1 := blk_cell sb0 1 _ rfl; have c2 := blk_cell sb0 2 _ rfl; have c3 := blk_cell sb0 3 _ rfl; have c4 := blk_cell sb0 4 _ rfl; have c5 := blk_cell sb0 5 _ rfl; clear sb0)
          go_simp
          all_goals (try with_reducible rfl)
        (try simp only [Act.put, gA, gB, gC, gD, gE, gF])
        refine wpAnyH_take (i := 6) (v := ?_) rfl (by kernel_rfl) (by kernel_rfl) (by kernel_rfl) (fun _ _ _ h => h) (Or.inl ⟨by rfl, ?_⟩) hHeld ?_
        rotate_left
        · intro w9 hSw
          (obtain ⟨sb0, _⟩ := hSw; have c0 := blk_cell sb0 0 _ rfl; have c1 := blk_cell sb0 1 _ rfl; have c2 := blk_cell sb0 2 _ rfl; have c3 := blk_cell sb0 3 _ rfl; have c4 := blk_cell sb0 4 _ rfl; have c5 := blk_cell sb0 5 _ rfl; clear sb0)
          go_simp
          all_goals (try with_reducible rfl)
        (try simp only [Act.put, gA, gB, gC, gD, gE, gF])
        refine wpAnyH_take (i := 7) (v := ?_) rfl (by kernel_rfl) (by kernel_rfl) (by kernel_rfl) (fun _ _ _ h => h) (Or.inl ⟨by rfl, ?_⟩) hHeld ?_
        rotate_left
        · intro w9 hSw
          (obtain ⟨sb0, _⟩ := hSw; have c0 := blk_cell sb0 0 _ rfl; have c1 := blk_cell sb0 1 _ rfl; have c2 := blk_cell sb0 2 _ rfl; have c3 := blk_cell sb0 3 _ rfl; have c4 := blk_cell sb0 4 _ rfl; have c5 := blk_cell sb0 5 _ rfl; clear sb0)
          go_simp
          all_goals (try with_reducible rfl)
        (try simp only [Act.put, gA, gB, gC, gD, gE, gF])
        refine wpAnyH_ready (rs := [8]) (by kernel_rfl) (by simp) ?_
        refine AllReadyH.cons rfl (fun K' hK' => ?_) AllReadyH.nil
        go_simp
        refine (HF.out _).mono ?_
        rintro e' w1 ⟨rfl, hg⟩
        (try simp only [])
        refine hK'.out _ _ ⟨blk_keep hHeld.1 hg (by simp), gr_trans0 hHeld.2 hg⟩ (fun hHeldN => ?_)
        clear hHeld
        have hHeld := hHeldN
        clear hK' K' hHeldN hg
        (try simp only [Act.put, gA, gB, gC, gD, gE, gF])
        refine wpAnyH_ready (rs := [9]) (by kernel_rfl) (by simp) ?_
        refine AllReadyH.cons rfl (fun K' hK' => ?_) AllReadyH.nil
        go_simp
        refine (amount_any T _ (by omega)).mono ?_
        rintro e' w2 ⟨rfl, hg⟩
        (try simp only [])
        refine hK'.out _ _ ⟨blk_keep hHeld.1 hg (by simp), gr_trans0 hHeld.2 hg⟩ (fun hHeldN => ?_)
        clear hHeld
        have hHeld := hHeldN
        clear hK' K' hHeldN hg
        (try simp only [Act.put, gA, gB, gC, gD, gE, gF])
        refine wpAnyH_take (i := 10) (v := ?_) rfl (by kernel_rfl) (by kernel_rfl) (by kernel_rfl) (fun _ _ _ h => h) (Or.inl ⟨by rfl, ?_⟩) hHeld ?_
        rotate_left
        · intro w9 hSw
          clear hSw
          go_simp
          all_goals (try with_reducible rfl)
        (try simp only [Act.put, gA, gB, gC, gD, gE, gF])
        refine wpAnyH_done (by kernel_rfl) ?_ _
        have HG := hid hHeld.2
        clear hHeld
        go_wp2_with fail
        go_ret
        exact ⟨ret_text (by rw [HT.out]), by rw [HT.out]; exact ⟨_, _, _, HD.out.keep HG.out⟩, gr_any HG.out _⟩
      have q1 : (l == [97, 99, 99, 114, 117, 101, 100]) = false := by simpa [accW] using h1
      by_cases h2 : l = totW
      · have HT := hid (show lineD s l = (s, amtT (totF s.bond)) by subst h2; rfl)
        have q2 : (l == [116, 111, 116, 97, 108]) = true := by rw [h2]; rfl
        have HF := hid (fun wx => specTotalOf_any s.bond wx)
        have hb := totF_bd s.bond
        have c0 := blk_cell HD.out.c 0 _ rfl
        have c1 := blk_cell HD.out.c 1 _ rfl
        have c2 := blk_cell HD.out.c 2 _ rfl
        have c3 := blk_cell HD.out.c 3 _ rfl
        have c4 := blk_cell HD.out.c 4 _ rfl
        have c5 := blk_cell HD.out.c 5 _ rfl
        generalize totF s.bond = T at *
        clear h1 h2
        go_enter Tryz.func21, Tryz.ntmps21
        go_wp2_with fail
        refine (HF.out _).mono ?_
        rintro e w1 ⟨rfl, hg⟩
        have HG1 := hid hg
        clear hg
        go_wp2_with fail
        refine (amount_any T _ (by omega)).mono ?_
        rintro e w2 ⟨rfl, hg⟩
        have HG := hid (gr_trans0 HG1.out hg)
        clear hg
        go_wp2_with fail
        go_ret
        exact ⟨ret_text (by rw [HT.out]), by rw [HT.out]; exact ⟨_, _, _, HD.out.keep HG.out⟩, gr_any HG.out _⟩
      have q2 : (l == [116, 111, 116, 97, 108]) = false := by simpa [totW] using h2
      by_cases h3 : l = posW
      · have HT := hid (show lineD s l = (s, sigT (posF s.trades s.day)) by subst h3; rfl)
        have q3 : (l == [112, 111, 115, 105, 116, 105, 111, 110]) = true := by rw [h3]; rfl
        have HF := hid (fun wx (hx : w.grownBy wx none) => specPositionAt_any a n cap s.trades s.day wx (HD.out.s.keep0 hx))
        have hb := posF_bd s.trades s.day
        generalize posF s.trades s.day = T at *
        clear h1 h2 h3
        go_enter Tryz.func21, Tryz.ntmps21
        go_wp2_with fail
        refine wp_region_held_drew (S := fun w' => w'.heap[sb]? = some (Obj.cells #[.int .i64 s.bond.start, .int .i64 s.bond.stop, .int .i64 s.bond.months, .int .i64 s.bond.rate, .int .i64 s.day, .slice a n cap] 53 (0, 0)) ∧ w.grownBy w' none) (by kernel_rfl) ⟨HD.out.c, gr_drew (gr0 _)⟩ (fun hHeld => ?_)
        refine wpAnyH_take (i := 0) (v := ?_) rfl (by kernel_rfl) (by kernel_rfl) (by kernel_rfl) (fun _ _ _ h => h) (Or.inl ⟨by rfl, ?_⟩) hHeld ?_
        rotate_left
        · intro w9 hSw
          (obtain ⟨sb0, _⟩ := hSw; have c0 := blk_cell sb0 0 _ rfl; have c1 := blk_cell sb0 1 _ rfl; have c2 := blk_cell sb0 2 _ rfl; have c3 := blk_cell sb0 3 _ rfl; have c4 := blk_cell sb0 4 _ rfl; have c5 := blk_cell sb0 5 _ rfl; clear sb0)
          go_simp
          all_goals (try with_reducible rfl)
        (try simp only [Act.put, gA, gC, gD, gE, gF])
        refine wpAnyH_take (i := 1) (v := ?_) rfl (by kernel_rfl) (by kernel_rfl) (by kernel_rfl) (fun _ _ _ h => h) (Or.inl ⟨by rfl, ?_⟩) hHeld ?_
        rotate_left
        · intro w9 hSw
          (obtain ⟨sb0, _⟩ := hSw; have c0 := blk_cell sb0 0 _ rfl; have c1 := blk_cell sb0 1 _ rfl; have c2 := blk_cell sb0 2 _ rfl; have c3 := blk_cell sb0 3 _ rfl; have c4 := blk_cell sb0 4 _ rfl; have c5 := blk_cell sb0 5 _ rfl; clear sb0)
          go_simp
          all_goals (try with_reducible rfl)
        (try simp only [Act.put, gA, gB, gC, gD, gE, gF])
        refine wpAnyH_take (i := 2) (v := ?_) rfl (by kernel_rfl) (by kernel_rfl) (by kernel_rfl) (fun _ _ _ h => h) (Or.inl ⟨by rfl, ?_⟩) hHeld ?_
        rotate_left
        · intro w9 hSw
          (obtain ⟨sb0, _⟩ := hSw; have c0 := blk_cell sb0 0 _ rfl; have c1 := blk_cell sb0 1 _ rfl; have c2 := blk_cell sb0 2 _ rfl; have c3 := blk_cell sb0 3 _ rfl; have c4 := blk_cell sb0 4 _ rfl; have c5 := blk_cell sb0 5 _ rfl; clear sb0)
          go_simp
          all_goals (try with_reducible rfl)
        (try simp only [Act.put, gA, gB, gC, gD, gE, gF])
        refine wpAnyH_take (i := 3) (v := ?_) rfl (by kernel_rfl) (by kernel_rfl) (by kernel_rfl) (fun _ _ _ h => h) (Or.inl ⟨by rfl, ?_⟩) hHeld ?_
        rotate_left
        · intro w9 hSw
          (obtain ⟨sb0, _⟩ := hSw; have c0 := blk_cell sb0 0 _ rfl; have c1 := blk_cell sb0 1 _ rfl; have c2 := blk_cell sb0 2 _ rfl; have c3 := blk_cell sb0 3 _ rfl; have c4 := blk_cell sb0 4 _ rfl; have c5 := blk_cell sb0 5 _ rfl; clear sb0)
          go_simp
          all_goals (try with_reducible rfl)
        (try simp only [Act.put, gA, gB, gC, gD, gE, gF])
        refine wpAnyH_take (i := 4) (v := ?_) rfl (by kernel_rfl) (by kernel_rfl) (by kernel_rfl) (fun _ _ _ h => h) (Or.inl ⟨by rfl, ?_⟩) hHeld ?_
        rotate_left
        · intro w9 hSw
          (obtain ⟨sb0, _⟩ := hSw; have c0 := blk_cell sb0 0 _ rfl; have c1 := blk_cell sb0 1 _ rfl; have c2 := blk_cell sb0 2 _ rfl; have c3 := blk_cell sb0 3 _ rfl; have c4 := blk_cell sb0 4 _ rfl; have c5 := blk_cell sb0 5 _ rfl; clear sb0)
          go_simp
          all_goals (try with_reducible rfl)
        (try simp only [Act.put, gA, gB, gC, gD, gE, gF])
        refine wpAnyH_take (i := 5) (v := ?_) rfl (by kernel_rfl) (by kernel_rfl) (by kernel_rfl) (fun _ _ _ h => h) (Or.inl ⟨by rfl, ?_⟩) hHeld ?_
        rotate_left
        · intro w9 hSw
          (obtain ⟨sb0, _⟩ := hSw; have c0 := blk_cell sb0 0 _ rfl; have c1 := blk_cell sb0 1 _ rfl; have c2 := blk_cell sb0 2 _ rfl; have c3 := blk_cell sb0 3 _ rfl; have c4 := blk_cell sb0 4 _ rfl; have c5 := blk_cell sb0 5 _ rfl; clear sb0)
          go_simp
          all_goals (try with_reducible rfl)
        (try simp only [Act.put, gA, gB, gC, gD, gE, gF])
        refine wpAnyH_take (i := 6) (v := ?_) rfl (by kernel_rfl) (by kernel_rfl) (by kernel_rfl) (fun _ _ _ h => h) (Or.inl ⟨by rfl, ?_⟩) hHeld ?_
        rotate_left
        · intro w9 hSw
          (obtain ⟨sb0, _⟩ := hSw; have c0 := blk_cell sb0 0 _ rfl; have c1 := blk_cell sb0 1 _ rfl; have c2 := blk_cell sb0 2 _ rfl; have c3 := blk_cell sb0 3 _ rfl; have c4 := blk_cell sb0 4 _ rfl; have c5 := blk_cell sb0 5 _ rfl; clear sb0)
          go_simp
          all_goals (try with_reducible rfl)
        (try simp only [Act.put, gA, gB, gC, gD, gE, gF])
        refine wpAnyH_take (i := 7) (v := ?_) rfl (by kernel_rfl) (by kernel_rfl) (by kernel_rfl) (fun _ _ _ h => h) (Or.inl ⟨by rfl, ?_⟩) hHeld ?_
        rotate_left
        · intro w9 hSw
          (obtain ⟨sb0, _⟩ := hSw; have c0 := blk_cell sb0 0 _ rfl; have c1 := blk_cell sb0 1 _ rfl; have c2 := blk_cell sb0 2 _ rfl; have c3 := blk_cell sb0 3 _ rfl; have c4 := blk_cell sb0 4 _ rfl; have c5 := blk_cell sb0 5 _ rfl; clear sb0)
          go_simp
          all_goals (try with_reducible rfl)
        (try simp only [Act.put, gA, gB, gC, gD, gE, gF])
        refine wpAnyH_ready (rs := [8]) (by kernel_rfl) (by simp) ?_
        refine AllReadyH.cons rfl (fun K' hK' => ?_) AllReadyH.nil
        go_simp
        refine (HF.out _ hHeld.2).mono ?_
        rintro e' w1 ⟨rfl, hg⟩
        (try simp only [])
        refine hK'.out _ _ ⟨blk_keep hHeld.1 hg (by simp), gr_trans0 hHeld.2 hg⟩ (fun hHeldN => ?_)
        clear hHeld
        have hHeld := hHeldN
        clear hK' K' hHeldN hg
        (try simp only [Act.put, gA, gB, gC, gD, gE, gF])
        refine wpAnyH_ready (rs := [9]) (by kernel_rfl) (by simp) ?_
        refine AllReadyH.cons rfl (fun K' hK' => ?_) AllReadyH.nil
        go_simp
        refine (signed_any T _ (by omega) (by omega)).mono ?_
        rintro e' w2 ⟨rfl, hg⟩
        (try simp only [])
        refine hK'.out _ _ ⟨blk_keep hHeld.1 hg (by simp), gr_trans0 hHeld.2 hg⟩ (fun hHeldN => ?_)
        clear hHeld
        have hHeld := hHeldN
        clear hK' K' hHeldN hg
        (try simp only [Act.put, gA, gB, gC, gD, gE, gF])
        refine wpAnyH_take (i := 10) (v := ?_) rfl (by kernel_rfl) (by kernel_rfl) (by kernel_rfl) (fun _ _ _ h => h) (Or.inl ⟨by rfl, ?_⟩) hHeld ?_
        rotate_left
        · intro w9 hSw
          clear hSw
          go_simp
          all_goals (try with_reducible rfl)
        (try simp only [Act.put, gA, gB, gC, gD, gE, gF])
        refine wpAnyH_done (by kernel_rfl) ?_ _
        have HG := hid hHeld.2
        clear hHeld
        go_wp2_with fail
        go_ret
        exact ⟨ret_text (by rw [HT.out]), by rw [HT.out]; exact ⟨_, _, _, HD.out.keep HG.out⟩, gr_any HG.out _⟩
      have q3 : (l == [112, 111, 115, 105, 116, 105, 111, 110]) = false := by simpa [posW] using h3
      by_cases h4 : l = gainW
      · have HT := hid (show lineD s l = (s, sigT (gainF s.trades)) by subst h4; rfl)
        have q4 : (l == [103, 97, 105, 110]) = true := by rw [h4]; rfl
        have HF := hid (specGainOf_any a n cap s.trades w HD.out.s)
        have hb := gainF_bd s.trades
        have c0 := blk_cell HD.out.c 0 _ rfl
        have c1 := blk_cell HD.out.c 1 _ rfl
        have c2 := blk_cell HD.out.c 2 _ rfl
        have c3 := blk_cell HD.out.c 3 _ rfl
        have c4 := blk_cell HD.out.c 4 _ rfl
        have c5 := blk_cell HD.out.c 5 _ rfl
        generalize gainF s.trades = T at *
        clear h1 h2 h3 h4
        go_enter Tryz.func21, Tryz.ntmps21
        go_wp2_with fail
        refine HF.out.mono ?_
        rintro e w1 ⟨rfl, hg⟩
        have HG1 := hid hg
        clear hg
        go_wp2_with fail
        refine (signed_any T _ (by omega) (by omega)).mono ?_
        rintro e w2 ⟨rfl, hg⟩
        have HG := hid (gr_trans0 HG1.out hg)
        clear hg
        go_wp2_with fail
        go_ret
        exact ⟨ret_text (by rw [HT.out]), by rw [HT.out]; exact ⟨_, _, _, HD.out.keep HG.out⟩, gr_any HG.out _⟩
      have q4 : (l == [103, 97, 105, 110]) = false := by simpa [gainW] using h4
      have HT := hid (lineD_words (s := s) hPB hPD)
      have HW := hid (fun n (hn : (spl [] l).length = n) => words_one (s := s) hn h1 h2 h3 h4)
      clear h1 h2 h3 h4
      go_enter Tryz.func21, Tryz.ntmps21
      go_wp2_with fail
      refine (splitWords_any l _ hl).mono ?_
      rintro e w1 ⟨g, n2, cp, rfl, ho, hn, hn2, hg⟩
      have HO := hid ho
      have HN := hid hn
      have HG1 := hid hg
      have hpos : 0 < n2 := by have := spl_pos [] l; omega
      clear ho hn hg
      go_wp2_with fail
      refine (words_any sb s g n2 cp (spl [] l) w1 ⟨_, _, _, HD.out.keep HG1.out⟩ Hok.out (Sl.of_own (L := strL) HO.out HN.out (by unfold maxLen; omega)) hpos hn2 (fun x hx => by have := spl_len l [] x hx; simp at this; omega) (HW.out n2 HN.out)).mono ?_
      rintro e w2 ⟨rfl, hd2, hg⟩
      have HD2 := hid hd2
      have HG := hid (gr_transS (gr_any HG1.out _) hg)
      clear hd2 hg
      go_wp2_with fail
      go_ret
      exact ⟨ret_text (by rw [HT.out]), by rw [HT.out]; exact HD2.out, HG.out⟩
  have hd4 : decide ((4 : Int) < l.length) = false := by simp; omega
  have hPD : dayP l = false := by unfold dayP; rw [decide_eq_false h4]; rfl
  by_cases h1 : l = accW
  · have HT := hid (show lineD s l = (s, amtT (accF s.bond s.day)) by subst h1; rfl)
    have q1 : (l == [97, 99, 99, 114, 117, 101, 100]) = true := by rw [h1]; rfl
    have HF := hid (fun wx => specAccruedOf_any s.bond s.day wx)
    have hb := accF_le s.bond s.day
    generalize accF s.bond s.day = T at *
    clear h1
    go_enter Tryz.func21, Tryz.ntmps21
    go_wp2_with fail
    refine wp_region_held_drew (S := fun w' => w'.heap[sb]? = some (Obj.cells #[.int .i64 s.bond.start, .int .i64 s.bond.stop, .int .i64 s.bond.months, .int .i64 s.bond.rate, .int .i64 s.day, .slice a n cap] 53 (0, 0)) ∧ w.grownBy w' none) (by kernel_rfl) ⟨HD.out.c, gr_drew (gr0 _)⟩ (fun hHeld => ?_)
    refine wpAnyH_take (i := 0) (v := ?_) rfl (by kernel_rfl) (by kernel_rfl) (by kernel_rfl) (fun _ _ _ h => h) (Or.inl ⟨by rfl, ?_⟩) hHeld ?_
    rotate_left
    · intro w9 hSw
      (obtain ⟨sb0, _⟩ := hSw; have c0 := blk_cell sb0 0 _ rfl; have c1 := blk_cell sb0 1 _ rfl; have c2 := blk_cell sb0 2 _ rfl; have c3 := blk_cell sb0 3 _ rfl; have c4 := blk_cell sb0 4 _ rfl; have c5 := blk_cell sb0 5 _ rfl; clear sb0)
      go_simp
      all_goals (try with_reducible rfl)
    (try simp only [Act.put, gA, gC, gD, gE, gF])
    refine wpAnyH_take (i := 1) (v := ?_) rfl (by kernel_rfl) (by kernel_rfl) (by kernel_rfl) (fun _ _ _ h => h) (Or.inl ⟨by rfl, ?_⟩) hHeld ?_
    rotate_left
    · intro w9 hSw
      (obtain ⟨sb0, _⟩ := hSw; have c0 := blk_cell sb0 0 _ rfl; have c1 := blk_cell sb0 1 _ rfl; have c2 := blk_cell sb0 2 _ rfl; have c3 := blk_cell sb0 3 _ rfl; have c4 := blk_cell sb0 4 _ rfl; have c5 := blk_cell sb0 5 _ rfl; clear sb0)
      go_simp
      all_goals (try with_reducible rfl)
    (try simp only [Act.put, gA, gB, gC, gD, gE, gF])
    refine wpAnyH_take (i := 2) (v := ?_) rfl (by kernel_rfl) (by kernel_rfl) (by kernel_rfl) (fun _ _ _ h => h) (Or.inl ⟨by rfl, ?_⟩) hHeld ?_
    rotate_left
    · intro w9 hSw
      (obtain ⟨sb0, _⟩ := hSw; have c0 := blk_cell sb0 0 _ rfl; have c1 := blk_cell sb0 1 _ rfl; have c2 := blk_cell sb0 2 _ rfl; have c3 := blk_cell sb0 3 _ rfl; have c4 := blk_cell sb0 4 _ rfl; have c5 := blk_cell sb0 5 _ rfl; clear sb0)
      go_simp
      all_goals (try with_reducible rfl)
    (try simp only [Act.put, gA, gB, gC, gD, gE, gF])
    refine wpAnyH_take (i := 3) (v := ?_) rfl (by kernel_rfl) (by kernel_rfl) (by kernel_rfl) (fun _ _ _ h => h) (Or.inl ⟨by rfl, ?_⟩) hHeld ?_
    rotate_left
    · intro w9 hSw
      (obtain ⟨sb0, _⟩ := hSw; have c0 := blk_cell sb0 0 _ rfl; have c1 := blk_cell sb0 1 _ rfl; have c2 := blk_cell sb0 2 _ rfl; have c3 := blk_cell sb0 3 _ rfl; have c4 := blk_cell sb0 4 _ rfl; have c5 := blk_cell sb0 5 _ rfl; clear sb0)
      go_simp
      all_goals (try with_reducible rfl)
    (try simp only [Act.put, gA, gB, gC, gD, gE, gF])
    refine wpAnyH_take (i := 4) (v := ?_) rfl (by kernel_rfl) (by kernel_rfl) (by kernel_rfl) (fun _ _ _ h => h) (Or.inl ⟨by rfl, ?_⟩) hHeld ?_
    rotate_left
    · intro w9 hSw
      (obtain ⟨sb0, _⟩ := hSw; have c0 := blk_cell sb0 0 _ rfl; have c1 := blk_cell sb0 1 _ rfl; have c2 := blk_cell sb0 2 _ rfl; have c3 := blk_cell sb0 3 _ rfl; have c4 := blk_cell sb0 4 _ rfl; have c5 := blk_cell sb0 5 _ rfl; clear sb0)
      go_simp
      all_goals (try with_reducible rfl)
    (try simp only [Act.put, gA, gB, gC, gD, gE, gF])
    refine wpAnyH_take (i := 5) (v := ?_) rfl (by kernel_rfl) (by kernel_rfl) (by kernel_rfl) (fun _ _ _ h => h) (Or.inl ⟨by rfl, ?_⟩) hHeld ?_
    rotate_left
    · intro w9 hSw
      (obtain ⟨sb0, _⟩ := hSw; have c0 := blk_cell sb0 0 _ rfl; have c1 := blk_cell sb0 1 _ rfl; have c2 := blk_cell sb0 2 _ rfl; have c3 := blk_cell sb0 3 _ rfl; have c4 := blk_cell sb0 4 _ rfl; have c5 := blk_cell sb0 5 _ rfl; clear sb0)
      go_simp
      all_goals (try with_reducible rfl)
    (try simp only [Act.put, gA, gB, gC, gD, gE, gF])
    refine wpAnyH_take (i := 6) (v := ?_) rfl (by kernel_rfl) (by kernel_rfl) (by kernel_rfl) (fun _ _ _ h => h) (Or.inl ⟨by rfl, ?_⟩) hHeld ?_
    rotate_left
    · intro w9 hSw
      (obtain ⟨sb0, _⟩ := hSw; have c0 := blk_cell sb0 0 _ rfl; have c1 := blk_cell sb0 1 _ rfl; have c2 := blk_cell sb0 2 _ rfl; have c3 := blk_cell sb0 3 _ rfl; have c4 := blk_cell sb0 4 _ rfl; have c5 := blk_cell sb0 5 _ rfl; clear sb0)
      go_simp
      all_goals (try with_reducible rfl)
    (try simp only [Act.put, gA, gB, gC, gD, gE, gF])
    refine wpAnyH_take (i := 7) (v := ?_) rfl (by kernel_rfl) (by kernel_rfl) (by kernel_rfl) (fun _ _ _ h => h) (Or.inl ⟨by rfl, ?_⟩) hHeld ?_
    rotate_left
    · intro w9 hSw
      (obtain ⟨sb0, _⟩ := hSw; have c0 := blk_cell sb0 0 _ rfl; have c1 := blk_cell sb0 1 _ rfl; have c2 := blk_cell sb0 2 _ rfl; have c3 := blk_cell sb0 3 _ rfl; have c4 := blk_cell sb0 4 _ rfl; have c5 := blk_cell sb0 5 _ rfl; clear sb0)
      go_simp
      all_goals (try with_reducible rfl)
    (try simp only [Act.put, gA, gB, gC, gD, gE, gF])
    refine wpAnyH_ready (rs := [8]) (by kernel_rfl) (by simp) ?_
    refine AllReadyH.cons rfl (fun K' hK' => ?_) AllReadyH.nil
    go_simp
    refine (HF.out _).mono ?_
    rintro e' w1 ⟨rfl, hg⟩
    (try simp only [])
    refine hK'.out _ _ ⟨blk_keep hHeld.1 hg (by simp), gr_trans0 hHeld.2 hg⟩ (fun hHeldN => ?_)
    clear hHeld
    have hHeld := hHeldN
    clear hK' K' hHeldN hg
    (try simp only [Act.put, gA, gB, gC, gD, gE, gF])
    refine wpAnyH_ready (rs := [9]) (by kernel_rfl) (by simp) ?_
    refine AllReadyH.cons rfl (fun K' hK' => ?_) AllReadyH.nil
    go_simp
    refine (amount_any T _ (by omega)).mono ?_
    rintro e' w2 ⟨rfl, hg⟩
    (try simp only [])
    refine hK'.out _ _ ⟨blk_keep hHeld.1 hg (by simp), gr_trans0 hHeld.2 hg⟩ (fun hHeldN => ?_)
    clear hHeld
    have hHeld := hHeldN
    clear hK' K' hHeldN hg
    (try simp only [Act.put, gA, gB, gC, gD, gE, gF])
    refine wpAnyH_take (i := 10) (v := ?_) rfl (by kernel_rfl) (by kernel_rfl) (by kernel_rfl) (fun _ _ _ h => h) (Or.inl ⟨by rfl, ?_⟩) hHeld ?_
    rotate_left
    · intro w9 hSw
      clear hSw
      go_simp
      all_goals (try with_reducible rfl)
    (try simp only [Act.put, gA, gB, gC, gD, gE, gF])
    refine wpAnyH_done (by kernel_rfl) ?_ _
    have HG := hid hHeld.2
    clear hHeld
    go_wp2_with fail
    go_ret
    exact ⟨ret_text (by rw [HT.out]), by rw [HT.out]; exact ⟨_, _, _, HD.out.keep HG.out⟩, gr_any HG.out _⟩
  have q1 : (l == [97, 99, 99, 114, 117, 101, 100]) = false := by simpa [accW] using h1
  by_cases h2 : l = totW
  · have HT := hid (show lineD s l = (s, amtT (totF s.bond)) by subst h2; rfl)
    have q2 : (l == [116, 111, 116, 97, 108]) = true := by rw [h2]; rfl
    have HF := hid (fun wx => specTotalOf_any s.bond wx)
    have hb := totF_bd s.bond
    have c0 := blk_cell HD.out.c 0 _ rfl
    have c1 := blk_cell HD.out.c 1 _ rfl
    have c2 := blk_cell HD.out.c 2 _ rfl
    have c3 := blk_cell HD.out.c 3 _ rfl
    have c4 := blk_cell HD.out.c 4 _ rfl
    have c5 := blk_cell HD.out.c 5 _ rfl
    generalize totF s.bond = T at *
    clear h1 h2
    go_enter Tryz.func21, Tryz.ntmps21
    go_wp2_with fail
    refine (HF.out _).mono ?_
    rintro e w1 ⟨rfl, hg⟩
    have HG1 := hid hg
    clear hg
    go_wp2_with fail
    refine (amount_any T _ (by omega)).mono ?_
    rintro e w2 ⟨rfl, hg⟩
    have HG := hid (gr_trans0 HG1.out hg)
    clear hg
    go_wp2_with fail
    go_ret
    exact ⟨ret_text (by rw [HT.out]), by rw [HT.out]; exact ⟨_, _, _, HD.out.keep HG.out⟩, gr_any HG.out _⟩
  have q2 : (l == [116, 111, 116, 97, 108]) = false := by simpa [totW] using h2
  by_cases h3 : l = posW
  · have HT := hid (show lineD s l = (s, sigT (posF s.trades s.day)) by subst h3; rfl)
    have q3 : (l == [112, 111, 115, 105, 116, 105, 111, 110]) = true := by rw [h3]; rfl
    have HF := hid (fun wx (hx : w.grownBy wx none) => specPositionAt_any a n cap s.trades s.day wx (HD.out.s.keep0 hx))
    have hb := posF_bd s.trades s.day
    generalize posF s.trades s.day = T at *
    clear h1 h2 h3
    go_enter Tryz.func21, Tryz.ntmps21
    go_wp2_with fail
    refine wp_region_held_drew (S := fun w' => w'.heap[sb]? = some (Obj.cells #[.int .i64 s.bond.start, .int .i64 s.bond.stop, .int .i64 s.bond.months, .int .i64 s.bond.rate, .int .i64 s.day, .slice a n cap] 53 (0, 0)) ∧ w.grownBy w' none) (by kernel_rfl) ⟨HD.out.c, gr_drew (gr0 _)⟩ (fun hHeld => ?_)
    refine wpAnyH_take (i := 0) (v := ?_) rfl (by kernel_rfl) (by kernel_rfl) (by kernel_rfl) (fun _ _ _ h => h) (Or.inl ⟨by rfl, ?_⟩) hHeld ?_
    rotate_left
    · intro w9 hSw
      (obtain ⟨sb0, _⟩ := hSw; have c0 := blk_cell sb0 0 _ rfl; have c1 := blk_cell sb0 1 _ rfl; have c2 := blk_cell sb0 2 _ rfl; have c3 := blk_cell sb0 3 _ rfl; have c4 := blk_cell sb0 4 _ rfl; have c5 := blk_cell sb0 5 _ rfl; clear sb0)
      go_simp
      all_goals (try with_reducible rfl)
    (try simp only [Act.put, gA, gC, gD, gE, gF])
    refine wpAnyH_take (i := 1) (v := ?_) rfl (by kernel_rfl) (by kernel_rfl) (by kernel_rfl) (fun _ _ _ h => h) (Or.inl ⟨by rfl, ?_⟩) hHeld ?_
    rotate_left
    · intro w9 hSw
      (obtain ⟨sb0, _⟩ := hSw; have c0 := blk_cell sb0 0 _ rfl; have c1 := blk_cell sb0 1 _ rfl; have c2 := blk_cell sb0 2 _ rfl; have c3 := blk_cell sb0 3 _ rfl; have c4 := blk_cell sb0 4 _ rfl; have c5 := blk_cell sb0 5 _ rfl; clear sb0)
      go_simp
      all_goals (try with_reducible rfl)
    (try simp only [Act.put, gA, gB, gC, gD, gE, gF])
    refine wpAnyH_take (i := 2) (v := ?_) rfl (by kernel_rfl) (by kernel_rfl) (by kernel_rfl) (fun _ _ _ h => h) (Or.inl ⟨by rfl, ?_⟩) hHeld ?_
    rotate_left
    · intro w9 hSw
      (obtain ⟨sb0, _⟩ := hSw; have c0 := blk_cell sb0 0 _ rfl; have c1 := blk_cell sb0 1 _ rfl; have c2 := blk_cell sb0 2 _ rfl; have c3 := blk_cell sb0 3 _ rfl; have c4 := blk_cell sb0 4 _ rfl; have c5 := blk_cell sb0 5 _ rfl; clear sb0)
      go_simp
      all_goals (try with_reducible rfl)
    (try simp only [Act.put, gA, gB, gC, gD, gE, gF])
    refine wpAnyH_take (i := 3) (v := ?_) rfl (by kernel_rfl) (by kernel_rfl) (by kernel_rfl) (fun _ _ _ h => h) (Or.inl ⟨by rfl, ?_⟩) hHeld ?_
    rotate_left
    · intro w9 hSw
      (obtain ⟨sb0, _⟩ := hSw; have c0 := blk_cell sb0 0 _ rfl; have c1 := blk_cell sb0 1 _ rfl; have c2 := blk_cell sb0 2 _ rfl; have c3 := blk_cell sb0 3 _ rfl; have c4 := blk_cell sb0 4 _ rfl; have c5 := blk_cell sb0 5 _ rfl; clear sb0)
      go_simp
      all_goals (try with_reducible rfl)
    (try simp only [Act.put, gA, gB, gC, gD, gE, gF])
    refine wpAnyH_take (i := 4) (v := ?_) rfl (by kernel_rfl) (by kernel_rfl) (by kernel_rfl) (fun _ _ _ h => h) (Or.inl ⟨by rfl, ?_⟩) hHeld ?_
    rotate_left
    · intro w9 hSw
      (obtain ⟨sb0, _⟩ := hSw; have c0 := blk_cell sb0 0 _ rfl; have c1 := blk_cell sb0 1 _ rfl; have c2 := blk_cell sb0 2 _ rfl; have c3 := blk_cell sb0 3 _ rfl; have c4 := blk_cell sb0 4 _ rfl; have c5 := blk_cell sb0 5 _ rfl; clear sb0)
      go_simp
      all_goals (try with_reducible rfl)
    (try simp only [Act.put, gA, gB, gC, gD, gE, gF])
    refine wpAnyH_take (i := 5) (v := ?_) rfl (by kernel_rfl) (by kernel_rfl) (by kernel_rfl) (fun _ _ _ h => h) (Or.inl ⟨by rfl, ?_⟩) hHeld ?_
    rotate_left
    · intro w9 hSw
      (obtain ⟨sb0, _⟩ := hSw; have c0 := blk_cell sb0 0 _ rfl; have c1 := blk_cell sb0 1 _ rfl; have c2 := blk_cell sb0 2 _ rfl; have c3 := blk_cell sb0 3 _ rfl; have c4 := blk_cell sb0 4 _ rfl; have c5 := blk_cell sb0 5 _ rfl; clear sb0)
      go_simp
      all_goals (try with_reducible rfl)
    (try simp only [Act.put, gA, gB, gC, gD, gE, gF])
    refine wpAnyH_take (i := 6) (v := ?_) rfl (by kernel_rfl) (by kernel_rfl) (by kernel_rfl) (fun _ _ _ h => h) (Or.inl ⟨by rfl, ?_⟩) hHeld ?_
    rotate_left
    · intro w9 hSw
      (obtain ⟨sb0, _⟩ := hSw; have c0 := blk_cell sb0 0 _ rfl; have c1 := blk_cell sb0 1 _ rfl; have c2 := blk_cell sb0 2 _ rfl; have c3 := blk_cell sb0 3 _ rfl; have c4 := blk_cell sb0 4 _ rfl; have c5 := blk_cell sb0 5 _ rfl; clear sb0)
      go_simp
      all_goals (try with_reducible rfl)
    (try simp only [Act.put, gA, gB, gC, gD, gE, gF])
    refine wpAnyH_take (i := 7) (v := ?_) rfl (by kernel_rfl) (by kernel_rfl) (by kernel_rfl) (fun _ _ _ h => h) (Or.inl ⟨by rfl, ?_⟩) hHeld ?_
    rotate_left
    · intro w9 hSw
      (obtain ⟨sb0, _⟩ := hSw; have c0 := blk_cell sb0 0 _ rfl; have c1 := blk_cell sb0 1 _ rfl; have c2 := blk_cell sb0 2 _ rfl; have c3 := blk_cell sb0 3 _ rfl; have c4 := blk_cell sb0 4 _ rfl; have c5 := blk_cell sb0 5 _ rfl; clear sb0)
      go_simp
      all_goals (try with_reducible rfl)
    (try simp only [Act.put, gA, gB, gC, gD, gE, gF])
    refine wpAnyH_ready (rs := [8]) (by kernel_rfl) (by simp) ?_
    refine AllReadyH.cons rfl (fun K' hK' => ?_) AllReadyH.nil
    go_simp
    refine (HF.out _ hHeld.2).mono ?_
    rintro e' w1 ⟨rfl, hg⟩
    (try simp only [])
    refine hK'.out _ _ ⟨blk_keep hHeld.1 hg (by simp), gr_trans0 hHeld.2 hg⟩ (fun hHeldN => ?_)
    clear hHeld
    have hHeld := hHeldN
    clear hK' K' hHeldN hg
    (try simp only [Act.put, gA, gB, gC, gD, gE, gF])
    refine wpAnyH_ready (rs := [9]) (by kernel_rfl) (by simp) ?_
    refine AllReadyH.cons rfl (fun K' hK' => ?_) AllReadyH.nil
    go_simp
    refine (signed_any T _ (by omega) (by omega)).mono ?_
    rintro e' w2 ⟨rfl, hg⟩
    (try simp only [])
    refine hK'.out _ _ ⟨blk_keep hHeld.1 hg (by simp), gr_trans0 hHeld.2 hg⟩ (fun hHeldN => ?_)
    clear hHeld
    have hHeld := hHeldN
    clear hK' K' hHeldN hg
    (try simp only [Act.put, gA, gB, gC, gD, gE, gF])
    refine wpAnyH_take (i := 10) (v := ?_) rfl (by kernel_rfl) (by kernel_rfl) (by kernel_rfl) (fun _ _ _ h => h) (Or.inl ⟨by rfl, ?_⟩) hHeld ?_
    rotate_left
    · intro w9 hSw
      clear hSw
      go_simp
      all_goals (try with_reducible rfl)
    (try simp only [Act.put, gA, gB, gC, gD, gE, gF])
    refine wpAnyH_done (by kernel_rfl) ?_ _
    have HG := hid hHeld.2
    clear hHeld
    go_wp2_with fail
    go_ret
    exact ⟨ret_text (by rw [HT.out]), by rw [HT.out]; exact ⟨_, _, _, HD.out.keep HG.out⟩, gr_any HG.out _⟩
  have q3 : (l == [112, 111, 115, 105, 116, 105, 111, 110]) = false := by simpa [posW] using h3
  by_cases h4 : l = gainW
  · have HT := hid (show lineD s l = (s, sigT (gainF s.trades)) by subst h4; rfl)
    have q4 : (l == [103, 97, 105, 110]) = true := by rw [h4]; rfl
    have HF := hid (specGainOf_any a n cap s.trades w HD.out.s)
    have hb := gainF_bd s.trades
    have c0 := blk_cell HD.out.c 0 _ rfl
    have c1 := blk_cell HD.out.c 1 _ rfl
    have c2 := blk_cell HD.out.c 2 _ rfl
    have c3 := blk_cell HD.out.c 3 _ rfl
    have c4 := blk_cell HD.out.c 4 _ rfl
    have c5 := blk_cell HD.out.c 5 _ rfl
    generalize gainF s.trades = T at *
    clear h1 h2 h3 h4
    go_enter Tryz.func21, Tryz.ntmps21
    go_wp2_with fail
    refine HF.out.mono ?_
    rintro e w1 ⟨rfl, hg⟩
    have HG1 := hid hg
    clear hg
    go_wp2_with fail
    refine (signed_any T _ (by omega) (by omega)).mono ?_
    rintro e w2 ⟨rfl, hg⟩
    have HG := hid (gr_trans0 HG1.out hg)
    clear hg
    go_wp2_with fail
    go_ret
    exact ⟨ret_text (by rw [HT.out]), by rw [HT.out]; exact ⟨_, _, _, HD.out.keep HG.out⟩, gr_any HG.out _⟩
  have q4 : (l == [103, 97, 105, 110]) = false := by simpa [gainW] using h4
  have HT := hid (lineD_words (s := s) hPB hPD)
  have HW := hid (fun n (hn : (spl [] l).length = n) => words_one (s := s) hn h1 h2 h3 h4)
  clear h1 h2 h3 h4
  go_enter Tryz.func21, Tryz.ntmps21
  go_wp2_with fail
  refine (splitWords_any l _ hl).mono ?_
  rintro e w1 ⟨g, n2, cp, rfl, ho, hn, hn2, hg⟩
  have HO := hid ho
  have HN := hid hn
  have HG1 := hid hg
  have hpos : 0 < n2 := by have := spl_pos [] l; omega
  clear ho hn hg
  go_wp2_with fail
  refine (words_any sb s g n2 cp (spl [] l) w1 ⟨_, _, _, HD.out.keep HG1.out⟩ Hok.out (Sl.of_own (L := strL) HO.out HN.out (by unfold maxLen; omega)) hpos hn2 (fun x hx => by have := spl_len l [] x hx; simp at this; omega) (HW.out n2 HN.out)).mono ?_
  rintro e w2 ⟨rfl, hd2, hg⟩
  have HD2 := hid hd2
  have HG := hid (gr_transS (gr_any HG1.out _) hg)
  clear hd2 hg
  go_wp2_with fail
  go_ret
  exact ⟨ret_text (by rw [HT.out]), by rw [HT.out]; exact HD2.out, HG.out⟩
end Go.Proofs.YtielicmjdhmcjaaGreatDoor
