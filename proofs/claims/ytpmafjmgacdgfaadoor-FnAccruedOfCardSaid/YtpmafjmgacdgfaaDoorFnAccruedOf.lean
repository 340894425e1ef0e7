/- For every input, FnAccruedOf returns true: interest accrues from 0 to the coupon. No condition. -/
import Derived.Test.YtpmafjmgacdgfaaDoorRows
import Derived.Test.YtpmafjmgacdgfaaDoorCards
import Derived.Test.YtpmafjmgacdgfaaDoorTie
import Derived.Test.YtpmafjmgacdgfaaDoorDirty
import Derived.Test.YtpmafjmgacdgfaaDoorFlowAfter
import Derived.Test.YtpmafjmgacdgfaaDoorPeriodAt
import Derived.Test.YtpmafjmgacdgfaaDoorDrawDay
import Derived.Test.YtpmafjmgacdgfaaDoorFrame
import Derived.Test.YtpmafjmgacdgfaaDoorFrameL
import Derived.ProofKit
namespace Go.Proofs.YtpmafjmgacdgfaaDoor
open Go.ChangeShapes Go.WideShapes Go.ChangeAt Go.RowKit
namespace FnAccruedOf

set_option maxRecDepth 100000 in
set_option maxHeartbeats 2000000 in
theorem walk (a : Option Addr) (n cap : Nat) (xs : List Int) (w : World) (hm : Months w) (hs : Sl u8L w a n xs) (hcap : n ≤ cap) (hx : ∀ x ∈ xs, 0 ≤ x ∧ x ≤ 255) :
    Calls Tryd.prog 12 #[.slice a n cap] w fun e w' => e = .returned (.bool true) ∧ w.grownBy w' none := by
  have Hx := hid hx
  have Hs := hid hs
  have Hm := hid hm
  have hbig := hs.big
  unfold maxLen at hbig
  clear hx hs hm
  by_cases hn : 1048576 < n
  · go_enter Tryd.func12, Tryd.ntmps12
    go_wp2_with fail
    go_ret
    exact ⟨rfl, gr_refl _ _⟩
  clear hbig
  go_enter Tryd.func12, Tryd.ntmps12
  go_wp2_with fail
  refine (DrawAccruedOf_any a n cap xs w Hs.out hcap Hx.out).mono ?_
  rintro e w1 ⟨b, day, rfl, hB, ⟨hd0, hd1⟩, hg⟩
  have Hb1 := hid (heap_alloc_new w1 (Obj.cells #[.int .i64 b.start, .int .i64 b.stop, .int .i64 b.months, .int .i64 b.rate] 25))
  have Hg1 := hid (gr_alloc hg (Obj.cells #[.int .i64 b.start, .int .i64 b.stop, .int .i64 b.months, .int .i64 b.rate] 25))
  have hBs0 := hB.s0; have hBs1 := hB.s1; have hBe0 := hB.e0; have hBe1 := hB.e1
  have hBm0 := hB.m0; have hBm1 := hB.m1; have hBr0 := hB.r0; have hBr1 := hB.r1
  clear hg
  have HA := hid (fun wx (h : Months wx) => AccruedOf_any b day wx h)
  have HSp := hid (fun wx => specAccruedOf_any b day wx)
  cases hr : runB b day with
  | false =>
    rw [acc_no hr] at HA HSp
    clear hr
    go_wp2_with fail
    refine (HA.out _ (Hm.out.keep0 Hg1.out)).mono ?_
    rintro e' w2 ⟨rfl, hg⟩
    have Hgs2 := hid hg
    have Hg2 := hid (gr_trans0 Hg1.out hg)
    have Hb2 := hid (blk_keep Hb1.out hg (by simp))
    clear hg
    (try clear c0 c1 c2 c3)
    have c0 := blk_cell Hb2.out 0 _ rfl
    have c1 := blk_cell Hb2.out 1 _ rfl
    have c2 := blk_cell Hb2.out 2 _ rfl
    have c3 := blk_cell Hb2.out 3 _ rfl
    go_wp2_with fail
    refine (HSp.out _).mono ?_
    rintro e' w3 ⟨rfl, hg⟩
    have Hgs3 := hid hg
    have Hg3 := hid (gr_trans0 Hg2.out hg)
    have Hb3 := hid (blk_keep Hb2.out hg (by simp))
    clear hg
    (try clear c0 c1 c2 c3)
    have c0 := blk_cell Hb3.out 0 _ rfl
    have c1 := blk_cell Hb3.out 1 _ rfl
    have c2 := blk_cell Hb3.out 2 _ rfl
    have c3 := blk_cell Hb3.out 3 _ rfl
    go_wp2_with fail
    refine (HSp.out _).mono ?_
    rintro e' w4 ⟨rfl, hg⟩
    have Hgs4 := hid hg
    have Hg4 := hid (gr_trans0 Hg3.out hg)
    have Hb4 := hid (blk_keep Hb3.out hg (by simp))
    clear hg
    (try clear c0 c1 c2 c3)
    have c0 := blk_cell Hb4.out 0 _ rfl
    have c1 := blk_cell Hb4.out 1 _ rfl
    have c2 := blk_cell Hb4.out 2 _ rfl
    have c3 := blk_cell Hb4.out 3 _ rfl
    go_wp2_with fail
    go_ret
    exact ⟨rfl, Hg4.out⟩
  | true =>
    obtain ⟨hok, hs0, hs1⟩ := run_facts hr
    obtain ⟨e1, v0, v1⟩ := acc_le hr
    obtain ⟨hpa, pf0, pf1, hpm, hpl⟩ := perAt_spec hok day hs0 hs1
    have hvc := (acc_bd hok day hs0 hs1).2
    have HSc := hid (fun wx (h : Months wx) => ScheduleOf_any b.start b.stop b.months wx h)
    have HF := hid (fun wx (h : Months wx) => FlowsOf_any b wx h)
    have Hsf := hid (show schedF b.start b.stop b.months = persF b by unfold schedF persF; rw [if_pos hok.ok])
    have Hidx := hid (show idxF (inPer day) (persF b) = atF (persF b) day from perIdx_run hr)
    have HB := hid (fun wx (h : Months wx) => AccruedOf_any b (perAt b day).frm wx h)
    rw [acc_begin hr] at HB
    have HN := hid (fun wx (h : Months wx) => AccruedOf_any b (day + 1) wx h)
    have HNext := hid (show day + 1 < (perAt b day).till → accL b day ≤ accF b (day + 1) ∧ True from fun h => by
      obtain ⟨h1, h2⟩ := acc_next hr h
      rw [(acc_le h1).1]; exact ⟨h2, trivial⟩)
    have hl40 : (persF b).length ≤ 40 := by unfold persF; rw [sched_len]; exact hok.span.q2
    have Hff := hid (flowsF_ok hok.bool)
    have Hfat := hid (flows_at b _ _ hpa)
    have Hfln := hid (flows_len b)
    have hcb := coup_bd hok _ (pers_okPer hok _ hpm)
    have hpo := pers_okPer hok _ hpm
    have hpt0 := hpo.f0; have hpt1 := hpo.ft; have hpt2 := hpo.t1
    rw [e1] at HA HSp
    obtain ⟨p, hp⟩ : ∃ p, perAt b day = p := ⟨_, rfl⟩
    obtain ⟨at1, hat⟩ : ∃ at1, atF (persF b) day = at1 := ⟨_, rfl⟩
    rw [hp] at hpa pf0 pf1 hvc HB HNext hcb hpt0 hpt1 hpt2
    rw [hat] at hpa hpl Hidx Hfat
    rw [hp] at Hfat
    have Hpa := hid hpa
    generalize hcp : coupF b p = cp at *
    generalize accL b day = v at *
    have hne : (v != v) = false := by simp
    have hlt0 : decide (v < 0) = false := by simp; omega
    have HPI := hid (fun (pa : Option Addr) (pn pc : Nat) wx (h : Sl perL wx pa pn (persF b)) (h2 : pn ≤ 40) => PeriodAt_any day pa pn pc _ wx h h2)
    clear hr hok e1 hpa hpm hpo hp hat hcp hs0 hs1
    go_wp2_with fail
    refine (HA.out _ (Hm.out.keep0 Hg1.out)).mono ?_
    rintro e' w2 ⟨rfl, hg⟩
    have Hgs2 := hid hg
    have Hg2 := hid (gr_trans0 Hg1.out hg)
    have Hb2 := hid (blk_keep Hb1.out hg (by simp))
    clear hg
    (try clear c0 c1 c2 c3)
    have c0 := blk_cell Hb2.out 0 _ rfl
    have c1 := blk_cell Hb2.out 1 _ rfl
    have c2 := blk_cell Hb2.out 2 _ rfl
    have c3 := blk_cell Hb2.out 3 _ rfl
    go_wp2_with fail
    refine (HSp.out _).mono ?_
    rintro e' w3 ⟨rfl, hg⟩
    have Hgs3 := hid hg
    have Hg3 := hid (gr_trans0 Hg2.out hg)
    have Hb3 := hid (blk_keep Hb2.out hg (by simp))
    clear hg
    (try clear c0 c1 c2 c3)
    have c0 := blk_cell Hb3.out 0 _ rfl
    have c1 := blk_cell Hb3.out 1 _ rfl
    have c2 := blk_cell Hb3.out 2 _ rfl
    have c3 := blk_cell Hb3.out 3 _ rfl
    go_wp2_with fail
    refine (HSc.out _ (Hm.out.keep0 Hg3.out)).mono ?_
    rintro e' w4 ⟨pa, pn, pc, rfl, ho, _, hg⟩
    have Hgs4 := hid hg
    have Hg4 := hid (gr_trans0 Hg3.out hg)
    have Hb4 := hid (blk_keep Hb3.out hg (by simp))
    clear hg
    (try clear c0 c1 c2 c3)
    have c0 := blk_cell Hb4.out 0 _ rfl
    have c1 := blk_cell Hb4.out 1 _ rfl
    have c2 := blk_cell Hb4.out 2 _ rfl
    have c3 := blk_cell Hb4.out 3 _ rfl
    rw [Hsf.out] at ho
    have hpn : pn ≤ 40 := by have := ho.len; omega
    have hat1 : at1 < pn := by have := ho.len; omega
    have Hp4 := hid ho.sl
    rw [show (persF b).length = pn from ho.len] at Hfat hpl Hfln
    clear ho
    have HPI5 := hid (HPI.out pa pn pc w4 Hp4.out hpn)
    rw [Hidx.out] at HPI5
    go_wp2_with fail
    refine (HPI5.out).mono ?_
    rintro e' w5 ⟨rfl, hg⟩
    have Hgs5 := hid hg
    have Hg5 := hid (gr_trans0 Hg4.out hg)
    have Hb5 := hid (blk_keep Hb4.out hg (by simp))
    clear hg
    (try clear c0 c1 c2 c3)
    have c0 := blk_cell Hb5.out 0 _ rfl
    have c1 := blk_cell Hb5.out 1 _ rfl
    have c2 := blk_cell Hb5.out 2 _ rfl
    have c3 := blk_cell Hb5.out 3 _ rfl
    go_wp2_with fail
    refine (HF.out _ (Hm.out.keep0 Hg5.out)).mono ?_
    rintro e' w6 ⟨fa, fn, fc, rfl, ho, _, hg⟩
    have Hgs6 := hid hg
    have Hg6 := hid (gr_trans0 Hg5.out hg)
    have Hb6 := hid (blk_keep Hb5.out hg (by simp))
    clear hg
    (try clear c0 c1 c2 c3)
    have c0 := blk_cell Hb6.out 0 _ rfl
    have c1 := blk_cell Hb6.out 1 _ rfl
    have c2 := blk_cell Hb6.out 2 _ rfl
    have c3 := blk_cell Hb6.out 3 _ rfl
    rw [Hff.out] at ho
    obtain rfl : fn = pn := by rw [← ho.len]; exact Hfln.out
    obtain ⟨pb, po, z, rfl, hz, p0, p1, _⟩ := per_at ((Hp4.out.keep0 Hgs5.out).keep0 Hgs6.out) at1 hat1
    rw [Hpa.out] at hz
    obtain rfl := Option.some.inj hz
    obtain ⟨fb, fo, f, rfl, hf, _, f1⟩ := flow_at ho.sl at1 hat1
    rw [Hfat.out] at hf
    obtain rfl := Option.some.inj hf
    simp only at f1
    clear hz hf ho
    have hi0 : (0 : Int) ≤ at1 := by omega
    have hi1 : (at1 : Int) < fn := by omega
    have hg1 : decide ((fn : Int) ≤ at1) = false := by simp; omega
    by_cases hlast : at1 + 1 = fn
    · rw [if_pos hlast] at f1
      have hl1 : ((at1 : Int) == (fn : Int) - 1) = true := by simp; omega
      clear hlast
      by_cases hd1 : day + 1 < p.till
      · have hdb : decide (day + 1 < p.till) = true := by simpa using hd1
        obtain ⟨hv2, hr2⟩ := HNext.out hd1
        have HN2 := hid (HN.out)
        have hvb := (acc_range b (day + 1)).2
        generalize accF b (day + 1) = v2 at *
        clear hd1
        go_wp2_with fail
        refine (HN2.out _ (Hm.out.keep0 Hg6.out)).mono ?_
        rintro e' w8 ⟨rfl, hg⟩
        have p0 := hg.cell p0 (by simp)
        have Hg8 := hid (gr_trans0 Hg6.out hg)
        have Hb8 := hid (blk_keep Hb6.out hg (by simp))
        clear hg
        have hb8 := Hb8.out
        have hg8 := Hg8.out
        have hu1 : decide (v ≤ cp) = true := by simpa using hvc
        have hu2 : decide (v ≤ v2) = true := by simpa using hv2
        go_wp2_with fail
        (try clear c0 c1 c2 c3)
        (try clear f1)
        (try clear p1)
        refine wp_region_held_drew (S := fun w' => (w'.heap[w1.heap.size]? = some (.cells #[.int .i64 b.start, .int .i64 b.stop, .int .i64 b.months, .int .i64 b.rate] 25 (0, 0)) ∧ w'.cell? ⟨pb, po + at1 * 3, none⟩ = some (.int .i64 p.frm)) ∧ w.grownBy w' none) (by kernel_rfl) ⟨⟨hb8, p0⟩, gr_drew hg8⟩ (fun hHeld => ?_)
        refine wpAnyH_take (i := 0) (v := ?_) rfl (by kernel_rfl) (by kernel_rfl) (by kernel_rfl) (fun _ _ _ h => h) (Or.inl ⟨by rfl, ?_⟩) hHeld ?_
        rotate_left
        · intro w9 hSw
          (obtain ⟨⟨sb, sl⟩, _⟩ := hSw; have s0 := blk_cell sb 0 _ rfl; have s1 := blk_cell sb 1 _ rfl; have s2 := blk_cell sb 2 _ rfl; have s3 := blk_cell sb 3 _ rfl; clear sb)
          go_simp
          all_goals (try with_reducible rfl)
        (try simp only [Act.put]); (try simp only [List.getElem_toArray]); (try simp only [List.getElem_cons_succ]); (try simp only [List.getElem_cons_zero]); (try simp only [List.setIfInBounds_toArray]); (try simp only [List.set_cons_succ]); (try simp only [List.set_cons_zero])
        refine wpAnyH_take (i := 1) (v := ?_) rfl (by kernel_rfl) (by kernel_rfl) (by kernel_rfl) (fun _ _ _ h => h) (Or.inl ⟨by rfl, ?_⟩) hHeld ?_
        rotate_left
        · intro w9 hSw
          (obtain ⟨⟨sb, sl⟩, _⟩ := hSw; have s0 := blk_cell sb 0 _ rfl; have s1 := blk_cell sb 1 _ rfl; have s2 := blk_cell sb 2 _ rfl; have s3 := blk_cell sb 3 _ rfl; clear sb)
          go_simp
          all_goals (try with_reducible rfl)
        (try simp only [Act.put]); (try simp only [List.getElem_toArray]); (try simp only [List.getElem_cons_succ]); (try simp only [List.getElem_cons_zero]); (try simp only [List.setIfInBounds_toArray]); (try simp only [List.set_cons_succ]); (try simp only [List.set_cons_zero])
        refine wpAnyH_take (i := 2) (v := ?_) rfl (by kernel_rfl) (by kernel_rfl) (by kernel_rfl) (fun _ _ _ h => h) (Or.inl ⟨by rfl, ?_⟩) hHeld ?_
        rotate_left
        · intro w9 hSw
          (obtain ⟨⟨sb, sl⟩, _⟩ := hSw; have s0 := blk_cell sb 0 _ rfl; have s1 := blk_cell sb 1 _ rfl; have s2 := blk_cell sb 2 _ rfl; have s3 := blk_cell sb 3 _ rfl; clear sb)
          go_simp
          all_goals (try with_reducible rfl)
        (try simp only [Act.put]); (try simp only [List.getElem_toArray]); (try simp only [List.getElem_cons_succ]); (try simp only [List.getElem_cons_zero]); (try simp only [List.setIfInBounds_toArray]); (try simp only [List.set_cons_succ]); (try simp only [List.set_cons_zero])
        (try simp only [hu1])
        refine wpAnyH_take (i := 3) (v := ?_) rfl (by kernel_rfl) (by kernel_rfl) (by kernel_rfl) (fun _ _ _ h => h) (Or.inl ⟨by rfl, ?_⟩) hHeld ?_
        rotate_left
        · intro w9 hSw
          (obtain ⟨⟨sb, sl⟩, _⟩ := hSw; have s0 := blk_cell sb 0 _ rfl; have s1 := blk_cell sb 1 _ rfl; have s2 := blk_cell sb 2 _ rfl; have s3 := blk_cell sb 3 _ rfl; clear sb)
          go_simp
          all_goals (try with_reducible rfl)
        (try simp only [Act.put]); (try simp only [List.getElem_toArray]); (try simp only [List.getElem_cons_succ]); (try simp only [List.getElem_cons_zero]); (try simp only [List.setIfInBounds_toArray]); (try simp only [List.set_cons_succ]); (try simp only [List.set_cons_zero])
        refine wpAnyH_take (i := 4) (v := ?_) rfl (by kernel_rfl) (by kernel_rfl) (by kernel_rfl) (fun _ _ _ h => h) (Or.inl ⟨by rfl, ?_⟩) hHeld ?_
        rotate_left
        · intro w9 hSw
          (obtain ⟨⟨sb, sl⟩, _⟩ := hSw; have s0 := blk_cell sb 0 _ rfl; have s1 := blk_cell sb 1 _ rfl; have s2 := blk_cell sb 2 _ rfl; have s3 := blk_cell sb 3 _ rfl; clear sb)
          go_simp
          all_goals (try with_reducible rfl)
        (try simp only [Act.put]); (try simp only [List.getElem_toArray]); (try simp only [List.getElem_cons_succ]); (try simp only [List.getElem_cons_zero]); (try simp only [List.setIfInBounds_toArray]); (try simp only [List.set_cons_succ]); (try simp only [List.set_cons_zero])
        refine wpAnyH_take (i := 5) (v := ?_) rfl (by kernel_rfl) (by kernel_rfl) (by kernel_rfl) (fun _ _ _ h => h) (Or.inl ⟨by rfl, ?_⟩) hHeld ?_
        rotate_left
        · intro w9 hSw
          (obtain ⟨⟨sb, sl⟩, _⟩ := hSw; have s0 := blk_cell sb 0 _ rfl; have s1 := blk_cell sb 1 _ rfl; have s2 := blk_cell sb 2 _ rfl; have s3 := blk_cell sb 3 _ rfl; clear sb)
          go_simp
          all_goals (try with_reducible rfl)
        (try simp only [Act.put]); (try simp only [List.getElem_toArray]); (try simp only [List.getElem_cons_succ]); (try simp only [List.getElem_cons_zero]); (try simp only [List.setIfInBounds_toArray]); (try simp only [List.set_cons_succ]); (try simp only [List.set_cons_zero])
        refine wpAnyH_take (i := 6) (v := ?_) rfl (by kernel_rfl) (by kernel_rfl) (by kernel_rfl) (fun _ _ _ h => h) (Or.inl ⟨by rfl, ?_⟩) hHeld ?_
        rotate_left
        · intro w9 hSw
          (obtain ⟨⟨sb, sl⟩, _⟩ := hSw; have s0 := blk_cell sb 0 _ rfl; have s1 := blk_cell sb 1 _ rfl; have s2 := blk_cell sb 2 _ rfl; have s3 := blk_cell sb 3 _ rfl; clear sb)
          go_simp
          all_goals (try with_reducible rfl)
        (try simp only [Act.put]); (try simp only [List.getElem_toArray]); (try simp only [List.getElem_cons_succ]); (try simp only [List.getElem_cons_zero]); (try simp only [List.setIfInBounds_toArray]); (try simp only [List.set_cons_succ]); (try simp only [List.set_cons_zero])
        (try simp only [hu2])
        refine wpAnyH_take (i := 7) (v := ?_) rfl (by kernel_rfl) (by kernel_rfl) (by kernel_rfl) (fun _ _ _ h => h) (Or.inl ⟨by rfl, ?_⟩) hHeld ?_
        rotate_left
        · intro w9 hSw
          (obtain ⟨⟨sb, sl⟩, _⟩ := hSw; have s0 := blk_cell sb 0 _ rfl; have s1 := blk_cell sb 1 _ rfl; have s2 := blk_cell sb 2 _ rfl; have s3 := blk_cell sb 3 _ rfl; clear sb)
          go_simp
          all_goals (try with_reducible rfl)
        (try simp only [Act.put]); (try simp only [List.getElem_toArray]); (try simp only [List.getElem_cons_succ]); (try simp only [List.getElem_cons_zero]); (try simp only [List.setIfInBounds_toArray]); (try simp only [List.set_cons_succ]); (try simp only [List.set_cons_zero])
        refine wpAnyH_take (i := 8) (v := ?_) rfl (by kernel_rfl) (by kernel_rfl) (by kernel_rfl) (fun _ _ _ h => h) (Or.inl ⟨by rfl, ?_⟩) hHeld ?_
        rotate_left
        · intro w9 hSw
          (obtain ⟨⟨sb, sl⟩, _⟩ := hSw; have s0 := blk_cell sb 0 _ rfl; have s1 := blk_cell sb 1 _ rfl; have s2 := blk_cell sb 2 _ rfl; have s3 := blk_cell sb 3 _ rfl; clear sb)
          go_simp
          all_goals (try with_reducible rfl)
        (try simp only [Act.put]); (try simp only [List.getElem_toArray]); (try simp only [List.getElem_cons_succ]); (try simp only [List.getElem_cons_zero]); (try simp only [List.setIfInBounds_toArray]); (try simp only [List.set_cons_succ]); (try simp only [List.set_cons_zero])
        refine wpAnyH_take (i := 9) (v := ?_) rfl (by kernel_rfl) (by kernel_rfl) (by kernel_rfl) (fun _ _ _ h => h) (Or.inl ⟨by rfl, ?_⟩) hHeld ?_
        rotate_left
        · intro w9 hSw
          (obtain ⟨⟨sb, sl⟩, _⟩ := hSw; have s0 := blk_cell sb 0 _ rfl; have s1 := blk_cell sb 1 _ rfl; have s2 := blk_cell sb 2 _ rfl; have s3 := blk_cell sb 3 _ rfl; clear sb)
          go_simp
          all_goals (try with_reducible rfl)
        (try simp only [Act.put]); (try simp only [List.getElem_toArray]); (try simp only [List.getElem_cons_succ]); (try simp only [List.getElem_cons_zero]); (try simp only [List.setIfInBounds_toArray]); (try simp only [List.set_cons_succ]); (try simp only [List.set_cons_zero])
        refine wpAnyH_take (i := 10) (v := ?_) rfl (by kernel_rfl) (by kernel_rfl) (by kernel_rfl) (fun _ _ _ h => h) (Or.inl ⟨by rfl, ?_⟩) hHeld ?_
        rotate_left
        · intro w9 hSw
          (obtain ⟨⟨sb, sl⟩, _⟩ := hSw; have s0 := blk_cell sb 0 _ rfl; have s1 := blk_cell sb 1 _ rfl; have s2 := blk_cell sb 2 _ rfl; have s3 := blk_cell sb 3 _ rfl; clear sb)
          go_simp
          all_goals (try with_reducible rfl)
        (try simp only [Act.put]); (try simp only [List.getElem_toArray]); (try simp only [List.getElem_cons_succ]); (try simp only [List.getElem_cons_zero]); (try simp only [List.setIfInBounds_toArray]); (try simp only [List.set_cons_succ]); (try simp only [List.set_cons_zero])
        refine wpAnyH_take (i := 11) (v := ?_) rfl (by kernel_rfl) (by kernel_rfl) (by kernel_rfl) (fun _ _ _ h => h) (Or.inl ⟨by rfl, ?_⟩) hHeld ?_
        rotate_left
        · intro w9 hSw
          (obtain ⟨⟨sb, sl⟩, _⟩ := hSw; have s0 := blk_cell sb 0 _ rfl; have s1 := blk_cell sb 1 _ rfl; have s2 := blk_cell sb 2 _ rfl; have s3 := blk_cell sb 3 _ rfl; clear sb)
          go_simp
          all_goals (try with_reducible rfl)
        (try simp only [Act.put]); (try simp only [List.getElem_toArray]); (try simp only [List.getElem_cons_succ]); (try simp only [List.getElem_cons_zero]); (try simp only [List.setIfInBounds_toArray]); (try simp only [List.set_cons_succ]); (try simp only [List.set_cons_zero])
        refine wpAnyH_take (i := 12) (v := ?_) rfl (by kernel_rfl) (by kernel_rfl) (by kernel_rfl) (fun _ _ _ h => h) (Or.inl ⟨by rfl, ?_⟩) hHeld ?_
        rotate_left
        · intro w9 hSw
          (obtain ⟨⟨sb, sl⟩, _⟩ := hSw; have s0 := blk_cell sb 0 _ rfl; have s1 := blk_cell sb 1 _ rfl; have s2 := blk_cell sb 2 _ rfl; have s3 := blk_cell sb 3 _ rfl; clear sb)
          go_simp
          all_goals (try with_reducible rfl)
        (try simp only [Act.put]); (try simp only [List.getElem_toArray]); (try simp only [List.getElem_cons_succ]); (try simp only [List.getElem_cons_zero]); (try simp only [List.setIfInBounds_toArray]); (try simp only [List.set_cons_succ]); (try simp only [List.set_cons_zero])
        refine wpAnyH_take (i := 13) (v := ?_) rfl (by kernel_rfl) (by kernel_rfl) (by kernel_rfl) (fun _ _ _ h => h) (Or.inl ⟨by rfl, ?_⟩) hHeld ?_
        rotate_left
        · intro w9 hSw
          (obtain ⟨⟨sb, sl⟩, _⟩ := hSw; have s0 := blk_cell sb 0 _ rfl; have s1 := blk_cell sb 1 _ rfl; have s2 := blk_cell sb 2 _ rfl; have s3 := blk_cell sb 3 _ rfl; clear sb)
          go_simp
          all_goals (try with_reducible rfl)
        (try simp only [Act.put]); (try simp only [List.getElem_toArray]); (try simp only [List.getElem_cons_succ]); (try simp only [List.getElem_cons_zero]); (try simp only [List.setIfInBounds_toArray]); (try simp only [List.set_cons_succ]); (try simp only [List.set_cons_zero])
        refine wpAnyH_take (i := 14) (v := ?_) rfl (by kernel_rfl) (by kernel_rfl) (by kernel_rfl) (fun _ _ _ h => h) (Or.inl ⟨by rfl, ?_⟩) hHeld ?_
        rotate_left
        · intro w9 hSw
          (obtain ⟨⟨sb, sl⟩, _⟩ := hSw; have s0 := blk_cell sb 0 _ rfl; have s1 := blk_cell sb 1 _ rfl; have s2 := blk_cell sb 2 _ rfl; have s3 := blk_cell sb 3 _ rfl; clear sb)
          go_simp
          all_goals (try with_reducible rfl)
        (try simp only [Act.put]); (try simp only [List.getElem_toArray]); (try simp only [List.getElem_cons_succ]); (try simp only [List.getElem_cons_zero]); (try simp only [List.setIfInBounds_toArray]); (try simp only [List.set_cons_succ]); (try simp only [List.set_cons_zero])
        refine wpAnyH_ready (rs := [15]) (by kernel_rfl) (by simp) ?_
        refine AllReadyH.cons rfl (fun K' hK' => ?_) AllReadyH.nil
        go_simp
        refine (HB.out _ (Hm.out.keep0 hHeld.2)).mono ?_
        rintro e' w9 ⟨rfl, hg⟩
        (try simp only [])
        refine hK'.out _ _ ⟨⟨blk_keep hHeld.1.1 hg (by simp), hg.cell hHeld.1.2 (by simp)⟩, gr_trans0 hHeld.2 hg⟩ (fun hHeldN => ?_)
        have hHeld := hHeldN
        clear hK' K' hHeldN hg
        (try simp only [Act.put]); (try simp only [List.getElem_toArray]); (try simp only [List.getElem_cons_succ]); (try simp only [List.getElem_cons_zero]); (try simp only [List.setIfInBounds_toArray]); (try simp only [List.set_cons_succ]); (try simp only [List.set_cons_zero])
        refine wpAnyH_take (i := 16) (v := ?_) rfl (by kernel_rfl) (by kernel_rfl) (by kernel_rfl) (fun _ _ _ h => h) (Or.inl ⟨by rfl, ?_⟩) hHeld ?_
        rotate_left
        · intro w9 hSw
          (obtain ⟨⟨sb, sl⟩, _⟩ := hSw; have s0 := blk_cell sb 0 _ rfl; have s1 := blk_cell sb 1 _ rfl; have s2 := blk_cell sb 2 _ rfl; have s3 := blk_cell sb 3 _ rfl; clear sb)
          go_simp
          all_goals (try with_reducible rfl)
        (try simp only [Act.put]); (try simp only [List.getElem_toArray]); (try simp only [List.getElem_cons_succ]); (try simp only [List.getElem_cons_zero]); (try simp only [List.setIfInBounds_toArray]); (try simp only [List.set_cons_succ]); (try simp only [List.set_cons_zero])
        refine wpAnyH_take (i := 17) (v := ?_) rfl (by kernel_rfl) (by kernel_rfl) (by kernel_rfl) (fun _ _ _ h => h) (Or.inl ⟨by rfl, ?_⟩) hHeld ?_
        rotate_left
        · intro w9 hSw
          (obtain ⟨⟨sb, sl⟩, _⟩ := hSw; have s0 := blk_cell sb 0 _ rfl; have s1 := blk_cell sb 1 _ rfl; have s2 := blk_cell sb 2 _ rfl; have s3 := blk_cell sb 3 _ rfl; clear sb)
          go_simp
          all_goals (try with_reducible rfl)
        (try simp only [Act.put]); (try simp only [List.getElem_toArray]); (try simp only [List.getElem_cons_succ]); (try simp only [List.getElem_cons_zero]); (try simp only [List.setIfInBounds_toArray]); (try simp only [List.set_cons_succ]); (try simp only [List.set_cons_zero])
        refine wpAnyH_take (i := 18) (v := ?_) rfl (by kernel_rfl) (by kernel_rfl) (by kernel_rfl) (fun _ _ _ h => h) (Or.inl ⟨by rfl, ?_⟩) hHeld ?_
        rotate_left
        · intro w9 hSw
          (obtain ⟨⟨sb, sl⟩, _⟩ := hSw; have s0 := blk_cell sb 0 _ rfl; have s1 := blk_cell sb 1 _ rfl; have s2 := blk_cell sb 2 _ rfl; have s3 := blk_cell sb 3 _ rfl; clear sb)
          go_simp
          all_goals (try with_reducible rfl)
        (try simp only [Act.put]); (try simp only [List.getElem_toArray]); (try simp only [List.getElem_cons_succ]); (try simp only [List.getElem_cons_zero]); (try simp only [List.setIfInBounds_toArray]); (try simp only [List.set_cons_succ]); (try simp only [List.set_cons_zero])
        refine wpAnyH_done (by kernel_rfl) ?_ _
        have HgF := hid hHeld.2
        clear hHeld hb8 hg8
        go_wp2_with fail
        go_ret
        exact ⟨rfl, HgF.out⟩
      · have hdb : decide (day + 1 < p.till) = false := by simpa using hd1
        clear hd1
        have hb8 := Hb6.out
        have hg8 := Hg6.out
        have hu1 : decide (v ≤ cp) = true := by simpa using hvc
        have hu2 : decide (v ≤ cp) = true := by simpa using hvc
        go_wp2_with fail
        (try clear c0 c1 c2 c3)
        (try clear f1)
        (try clear p1)
        refine wp_region_held_drew (S := fun w' => (w'.heap[w1.heap.size]? = some (.cells #[.int .i64 b.start, .int .i64 b.stop, .int .i64 b.months, .int .i64 b.rate] 25 (0, 0)) ∧ w'.cell? ⟨pb, po + at1 * 3, none⟩ = some (.int .i64 p.frm)) ∧ w.grownBy w' none) (by kernel_rfl) ⟨⟨hb8, p0⟩, gr_drew hg8⟩ (fun hHeld => ?_)
        refine wpAnyH_take (i := 0) (v := ?_) rfl (by kernel_rfl) (by kernel_rfl) (by kernel_rfl) (fun _ _ _ h => h) (Or.inl ⟨by rfl, ?_⟩) hHeld ?_
        rotate_left
        · intro w9 hSw
          (obtain ⟨⟨sb, sl⟩, _⟩ := hSw; have s0 := blk_cell sb 0 _ rfl; have s1 := blk_cell sb 1 _ rfl; have s2 := blk_cell sb 2 _ rfl; have s3 := blk_cell sb 3 _ rfl; clear sb)
          go_simp
          all_goals (try with_reducible rfl)
        (try simp only [Act.put]); (try simp only [List.getElem_toArray]); (try simp only [List.getElem_cons_succ]); (try simp only [List.getElem_cons_zero]); (try simp only [List.setIfInBounds_toArray]); (try simp only [List.set_cons_succ]); (try simp only [List.set_cons_zero])
        refine wpAnyH_take (i := 1) (v := ?_) rfl (by kernel_rfl) (by kernel_rfl) (by kernel_rfl) (fun _ _ _ h => h) (Or.inl ⟨by rfl, ?_⟩) hHeld ?_
        rotate_left
        · intro w9 hSw
          (obtain ⟨⟨sb, sl⟩, _⟩ := hSw; have s0 := blk_cell sb 0 _ rfl; have s1 := blk_cell sb 1 _ rfl; have s2 := blk_cell sb 2 _ rfl; have s3 := blk_cell sb 3 _ rfl; clear sb)
          go_simp
          all_goals (try with_reducible rfl)
        (try simp only [Act.put]); (try simp only [List.getElem_toArray]); (try simp only [List.getElem_cons_succ]); (try simp only [List.getElem_cons_zero]); (try simp only [List.setIfInBounds_toArray]); (try simp only [List.set_cons_succ]); (try simp only [List.set_cons_zero])
        refine wpAnyH_take (i := 2) (v := ?_) rfl (by kernel_rfl) (by kernel_rfl) (by kernel_rfl) (fun _ _ _ h => h) (Or.inl ⟨by rfl, ?_⟩) hHeld ?_
        rotate_left
        · intro w9 hSw
          (obtain ⟨⟨sb, sl⟩, _⟩ := hSw; have s0 := blk_cell sb 0 _ rfl; have s1 := blk_cell sb 1 _ rfl; have s2 := blk_cell sb 2 _ rfl; have s3 := blk_cell sb 3 _ rfl; clear sb)
          go_simp
          all_goals (try with_reducible rfl)
        (try simp only [Act.put]); (try simp only [List.getElem_toArray]); (try simp only [List.getElem_cons_succ]); (try simp only [List.getElem_cons_zero]); (try simp only [List.setIfInBounds_toArray]); (try simp only [List.set_cons_succ]); (try simp only [List.set_cons_zero])
        (try simp only [hu1])
        refine wpAnyH_take (i := 3) (v := ?_) rfl (by kernel_rfl) (by kernel_rfl) (by kernel_rfl) (fun _ _ _ h => h) (Or.inl ⟨by rfl, ?_⟩) hHeld ?_
        rotate_left
        · intro w9 hSw
          (obtain ⟨⟨sb, sl⟩, _⟩ := hSw; have s0 := blk_cell sb 0 _ rfl; have s1 := blk_cell sb 1 _ rfl; have s2 := blk_cell sb 2 _ rfl; have s3 := blk_cell sb 3 _ rfl; clear sb)
          go_simp
          all_goals (try with_reducible rfl)
        (try simp only [Act.put]); (try simp only [List.getElem_toArray]); (try simp only [List.getElem_cons_succ]); (try simp only [List.getElem_cons_zero]); (try simp only [List.setIfInBounds_toArray]); (try simp only [List.set_cons_succ]); (try simp only [List.set_cons_zero])
        refine wpAnyH_take (i := 4) (v := ?_) rfl (by kernel_rfl) (by kernel_rfl) (by kernel_rfl) (fun _ _ _ h => h) (Or.inl ⟨by rfl, ?_⟩) hHeld ?_
        rotate_left
        · intro w9 hSw
          (obtain ⟨⟨sb, sl⟩, _⟩ := hSw; have s0 := blk_cell sb 0 _ rfl; have s1 := blk_cell sb 1 _ rfl; have s2 := blk_cell sb 2 _ rfl; have s3 := blk_cell sb 3 _ rfl; clear sb)
          go_simp
          all_goals (try with_reducible rfl)
        (try simp only [Act.put]); (try simp only [List.getElem_toArray]); (try simp only [List.getElem_cons_succ]); (try simp only [List.getElem_cons_zero]); (try simp only [List.setIfInBounds_toArray]); (try simp only [List.set_cons_succ]); (try simp only [List.set_cons_zero])
        refine wpAnyH_take (i := 5) (v := ?_) rfl (by kernel_rfl) (by kernel_rfl) (by kernel_rfl) (fun _ _ _ h => h) (Or.inl ⟨by rfl, ?_⟩) hHeld ?_
        rotate_left
        · intro w9 hSw
          (obtain ⟨⟨sb, sl⟩, _⟩ := hSw; have s0 := blk_cell sb 0 _ rfl; have s1 := blk_cell sb 1 _ rfl; have s2 := blk_cell sb 2 _ rfl; have s3 := blk_cell sb 3 _ rfl; clear sb)
          go_simp
          all_goals (try with_reducible rfl)
        (try simp only [Act.put]); (try simp only [List.getElem_toArray]); (try simp only [List.getElem_cons_succ]); (try simp only [List.getElem_cons_zero]); (try simp only [List.setIfInBounds_toArray]); (try simp only [List.set_cons_succ]); (try simp only [List.set_cons_zero])
        refine wpAnyH_take (i := 6) (v := ?_) rfl (by kernel_rfl) (by kernel_rfl) (by kernel_rfl) (fun _ _ _ h => h) (Or.inl ⟨by rfl, ?_⟩) hHeld ?_
        rotate_left
        · intro w9 hSw
          (obtain ⟨⟨sb, sl⟩, _⟩ := hSw; have s0 := blk_cell sb 0 _ rfl; have s1 := blk_cell sb 1 _ rfl; have s2 := blk_cell sb 2 _ rfl; have s3 := blk_cell sb 3 _ rfl; clear sb)
          go_simp
          all_goals (try with_reducible rfl)
        (try simp only [Act.put]); (try simp only [List.getElem_toArray]); (try simp only [List.getElem_cons_succ]); (try simp only [List.getElem_cons_zero]); (try simp only [List.setIfInBounds_toArray]); (try simp only [List.set_cons_succ]); (try simp only [List.set_cons_zero])
        (try simp only [hu2])
        refine wpAnyH_take (i := 7) (v := ?_) rfl (by kernel_rfl) (by kernel_rfl) (by kernel_rfl) (fun _ _ _ h => h) (Or.inl ⟨by rfl, ?_⟩) hHeld ?_
        rotate_left
        · intro w9 hSw
          (obtain ⟨⟨sb, sl⟩, _⟩ := hSw; have s0 := blk_cell sb 0 _ rfl; have s1 := blk_cell sb 1 _ rfl; have s2 := blk_cell sb 2 _ rfl; have s3 := blk_cell sb 3 _ rfl; clear sb)
          go_simp
          all_goals (try with_reducible rfl)
        (try simp only [Act.put]); (try simp only [List.getElem_toArray]); (try simp only [List.getElem_cons_succ]); (try simp only [List.getElem_cons_zero]); (try simp only [List.setIfInBounds_toArray]); (try simp only [List.set_cons_succ]); (try simp only [List.set_cons_zero])
        refine wpAnyH_take (i := 8) (v := ?_) rfl (by kernel_rfl) (by kernel_rfl) (by kernel_rfl) (fun _ _ _ h => h) (Or.inl ⟨by rfl, ?_⟩) hHeld ?_
        rotate_left
        · intro w9 hSw
          (obtain ⟨⟨sb, sl⟩, _⟩ := hSw; have s0 := blk_cell sb 0 _ rfl; have s1 := blk_cell sb 1 _ rfl; have s2 := blk_cell sb 2 _ rfl; have s3 := blk_cell sb 3 _ rfl; clear sb)
          go_simp
          all_goals (try with_reducible rfl)
        (try simp only [Act.put]); (try simp only [List.getElem_toArray]); (try simp only [List.getElem_cons_succ]); (try simp only [List.getElem_cons_zero]); (try simp only [List.setIfInBounds_toArray]); (try simp only [List.set_cons_succ]); (try simp only [List.set_cons_zero])
        refine wpAnyH_take (i := 9) (v := ?_) rfl (by kernel_rfl) (by kernel_rfl) (by kernel_rfl) (fun _ _ _ h => h) (Or.inl ⟨by rfl, ?_⟩) hHeld ?_
        rotate_left
        · intro w9 hSw
          (obtain ⟨⟨sb, sl⟩, _⟩ := hSw; have s0 := blk_cell sb 0 _ rfl; have s1 := blk_cell sb 1 _ rfl; have s2 := blk_cell sb 2 _ rfl; have s3 := blk_cell sb 3 _ rfl; clear sb)
          go_simp
          all_goals (try with_reducible rfl)
        (try simp only [Act.put]); (try simp only [List.getElem_toArray]); (try simp only [List.getElem_cons_succ]); (try simp only [List.getElem_cons_zero]); (try simp only [List.setIfInBounds_toArray]); (try simp only [List.set_cons_succ]); (try simp only [List.set_cons_zero])
        refine wpAnyH_take (i := 10) (v := ?_) rfl (by kernel_rfl) (by kernel_rfl) (by kernel_rfl) (fun _ _ _ h => h) (Or.inl ⟨by rfl, ?_⟩) hHeld ?_
        rotate_left
        · intro w9 hSw
          (obtain ⟨⟨sb, sl⟩, _⟩ := hSw; have s0 := blk_cell sb 0 _ rfl; have s1 := blk_cell sb 1 _ rfl; have s2 := blk_cell sb 2 _ rfl; have s3 := blk_cell sb 3 _ rfl; clear sb)
          go_simp
          all_goals (try with_reducible rfl)
        (try simp only [Act.put]); (try simp only [List.getElem_toArray]); (try simp only [List.getElem_cons_succ]); (try simp only [List.getElem_cons_zero]); (try simp only [List.setIfInBounds_toArray]); (try simp only [List.set_cons_succ]); (try simp only [List.set_cons_zero])
        refine wpAnyH_take (i := 11) (v := ?_) rfl (by kernel_rfl) (by kernel_rfl) (by kernel_rfl) (fun _ _ _ h => h) (Or.inl ⟨by rfl, ?_⟩) hHeld ?_
        rotate_left
        · intro w9 hSw
          (obtain ⟨⟨sb, sl⟩, _⟩ := hSw; have s0 := blk_cell sb 0 _ rfl; have s1 := blk_cell sb 1 _ rfl; have s2 := blk_cell sb 2 _ rfl; have s3 := blk_cell sb 3 _ rfl; clear sb)
          go_simp
          all_goals (try with_reducible rfl)
        (try simp only [Act.put]); (try simp only [List.getElem_toArray]); (try simp only [List.getElem_cons_succ]); (try simp only [List.getElem_cons_zero]); (try simp only [List.setIfInBounds_toArray]); (try simp only [List.set_cons_succ]); (try simp only [List.set_cons_zero])
        refine wpAnyH_take (i := 12) (v := ?_) rfl (by kernel_rfl) (by kernel_rfl) (by kernel_rfl) (fun _ _ _ h => h) (Or.inl ⟨by rfl, ?_⟩) hHeld ?_
        rotate_left
        · intro w9 hSw
          (obtain ⟨⟨sb, sl⟩, _⟩ := hSw; have s0 := blk_cell sb 0 _ rfl; have s1 := blk_cell sb 1 _ rfl; have s2 := blk_cell sb 2 _ rfl; have s3 := blk_cell sb 3 _ rfl; clear sb)
          go_simp
          all_goals (try with_reducible rfl)
        (try simp only [Act.put]); (try simp only [List.getElem_toArray]); (try simp only [List.getElem_cons_succ]); (try simp only [List.getElem_cons_zero]); (try simp only [List.setIfInBounds_toArray]); (try simp only [List.set_cons_succ]); (try simp only [List.set_cons_zero])
        refine wpAnyH_take (i := 13) (v := ?_) rfl (by kernel_rfl) (by kernel_rfl) (by kernel_rfl) (fun _ _ _ h => h) (Or.inl ⟨by rfl, ?_⟩) hHeld ?_
        rotate_left
        · intro w9 hSw
          (obtain ⟨⟨sb, sl⟩, _⟩ := hSw; have s0 := blk_cell sb 0 _ rfl; have s1 := blk_cell sb 1 _ rfl; have s2 := blk_cell sb 2 _ rfl; have s3 := blk_cell sb 3 _ rfl; clear sb)
          go_simp
          all_goals (try with_reducible rfl)
        (try simp only [Act.put]); (try simp only [List.getElem_toArray]); (try simp only [List.getElem_cons_succ]); (try simp only [List.getElem_cons_zero]); (try simp only [List.setIfInBounds_toArray]); (try simp only [List.set_cons_succ]); (try simp only [List.set_cons_zero])
        refine wpAnyH_take (i := 14) (v := ?_) rfl (by kernel_rfl) (by kernel_rfl) (by kernel_rfl) (fun _ _ _ h => h) (Or.inl ⟨by rfl, ?_⟩) hHeld ?_
        rotate_left
        · intro w9 hSw
          (obtain ⟨⟨sb, sl⟩, _⟩ := hSw; have s0 := blk_cell sb 0 _ rfl; have s1 := blk_cell sb 1 _ rfl; have s2 := blk_cell sb 2 _ rfl; have s3 := blk_cell sb 3 _ rfl; clear sb)
          go_simp
          all_goals (try with_reducible rfl)
        (try simp only [Act.put]); (try simp only [List.getElem_toArray]); (try simp only [List.getElem_cons_succ]); (try simp only [List.getElem_cons_zero]); (try simp only [List.setIfInBounds_toArray]); (try simp only [List.set_cons_succ]); (try simp only [List.set_cons_zero])
        refine wpAnyH_ready (rs := [15]) (by kernel_rfl) (by simp) ?_
        refine AllReadyH.cons rfl (fun K' hK' => ?_) AllReadyH.nil
        go_simp
        refine (HB.out _ (Hm.out.keep0 hHeld.2)).mono ?_
        rintro e' w9 ⟨rfl, hg⟩
        (try simp only [])
        refine hK'.out _ _ ⟨⟨blk_keep hHeld.1.1 hg (by simp), hg.cell hHeld.1.2 (by simp)⟩, gr_trans0 hHeld.2 hg⟩ (fun hHeldN => ?_)
        have hHeld := hHeldN
        clear hK' K' hHeldN hg
        (try simp only [Act.put]); (try simp only [List.getElem_toArray]); (try simp only [List.getElem_cons_succ]); (try simp only [List.getElem_cons_zero]); (try simp only [List.setIfInBounds_toArray]); (try simp only [List.set_cons_succ]); (try simp only [List.set_cons_zero])
        refine wpAnyH_take (i := 16) (v := ?_) rfl (by kernel_rfl) (by kernel_rfl) (by kernel_rfl) (fun _ _ _ h => h) (Or.inl ⟨by rfl, ?_⟩) hHeld ?_
        rotate_left
        · intro w9 hSw
          (obtain ⟨⟨sb, sl⟩, _⟩ := hSw; have s0 := blk_cell sb 0 _ rfl; have s1 := blk_cell sb 1 _ rfl; have s2 := blk_cell sb 2 _ rfl; have s3 := blk_cell sb 3 _ rfl; clear sb)
          go_simp
          all_goals (try with_reducible rfl)
        (try simp only [Act.put]); (try simp only [List.getElem_toArray]); (try simp only [List.getElem_cons_succ]); (try simp only [List.getElem_cons_zero]); (try simp only [List.setIfInBounds_toArray]); (try simp only [List.set_cons_succ]); (try simp only [List.set_cons_zero])
        refine wpAnyH_take (i := 17) (v := ?_) rfl (by kernel_rfl) (by kernel_rfl) (by kernel_rfl) (fun _ _ _ h => h) (Or.inl ⟨by rfl, ?_⟩) hHeld ?_
        rotate_left
        · intro w9 hSw
          (obtain ⟨⟨sb, sl⟩, _⟩ := hSw; have s0 := blk_cell sb 0 _ rfl; have s1 := blk_cell sb 1 _ rfl; have s2 := blk_cell sb 2 _ rfl; have s3 := blk_cell sb 3 _ rfl; clear sb)
          go_simp
          all_goals (try with_reducible rfl)
        (try simp only [Act.put]); (try simp only [List.getElem_toArray]); (try simp only [List.getElem_cons_succ]); (try simp only [List.getElem_cons_zero]); (try simp only [List.setIfInBounds_toArray]); (try simp only [List.set_cons_succ]); (try simp only [List.set_cons_zero])
        refine wpAnyH_take (i := 18) (v := ?_) rfl (by kernel_rfl) (by kernel_rfl) (by kernel_rfl) (fun _ _ _ h => h) (Or.inl ⟨by rfl, ?_⟩) hHeld ?_
        rotate_left
        · intro w9 hSw
          (obtain ⟨⟨sb, sl⟩, _⟩ := hSw; have s0 := blk_cell sb 0 _ rfl; have s1 := blk_cell sb 1 _ rfl; have s2 := blk_cell sb 2 _ rfl; have s3 := blk_cell sb 3 _ rfl; clear sb)
          go_simp
          all_goals (try with_reducible rfl)
        (try simp only [Act.put]); (try simp only [List.getElem_toArray]); (try simp only [List.getElem_cons_succ]); (try simp only [List.getElem_cons_zero]); (try simp only [List.setIfInBounds_toArray]); (try simp only [List.set_cons_succ]); (try simp only [List.set_cons_zero])
        refine wpAnyH_done (by kernel_rfl) ?_ _
        have HgF := hid hHeld.2
        clear hHeld hb8 hg8
        go_wp2_with fail
        go_ret
        exact ⟨rfl, HgF.out⟩
    · rw [if_neg hlast, Int.add_zero] at f1
      have hl1 : ((at1 : Int) == (fn : Int) - 1) = false := by simp; omega
      clear hlast
      by_cases hd1 : day + 1 < p.till
      · have hdb : decide (day + 1 < p.till) = true := by simpa using hd1
        obtain ⟨hv2, hr2⟩ := HNext.out hd1
        have HN2 := hid (HN.out)
        have hvb := (acc_range b (day + 1)).2
        generalize accF b (day + 1) = v2 at *
        clear hd1
        go_wp2_with fail
        refine (HN2.out _ (Hm.out.keep0 Hg6.out)).mono ?_
        rintro e' w8 ⟨rfl, hg⟩
        have p0 := hg.cell p0 (by simp)
        have Hg8 := hid (gr_trans0 Hg6.out hg)
        have Hb8 := hid (blk_keep Hb6.out hg (by simp))
        clear hg
        have hb8 := Hb8.out
        have hg8 := Hg8.out
        have hu1 : decide (v ≤ cp) = true := by simpa using hvc
        have hu2 : decide (v ≤ v2) = true := by simpa using hv2
        go_wp2_with fail
        (try clear c0 c1 c2 c3)
        (try clear f1)
        (try clear p1)
        refine wp_region_held_drew (S := fun w' => (w'.heap[w1.heap.size]? = some (.cells #[.int .i64 b.start, .int .i64 b.stop, .int .i64 b.months, .int .i64 b.rate] 25 (0, 0)) ∧ w'.cell? ⟨pb, po + at1 * 3, none⟩ = some (.int .i64 p.frm)) ∧ w.grownBy w' none) (by kernel_rfl) ⟨⟨hb8, p0⟩, gr_drew hg8⟩ (fun hHeld => ?_)
        refine wpAnyH_take (i := 0) (v := ?_) rfl (by kernel_rfl) (by kernel_rfl) (by kernel_rfl) (fun _ _ _ h => h) (Or.inl ⟨by rfl, ?_⟩) hHeld ?_
        rotate_left
        · intro w9 hSw
          (obtain ⟨⟨sb, sl⟩, _⟩ := hSw; have s0 := blk_cell sb 0 _ rfl; have s1 := blk_cell sb 1 _ rfl; have s2 := blk_cell sb 2 _ rfl; have s3 := blk_cell sb 3 _ rfl; clear sb)
          go_simp
          all_goals (try with_reducible rfl)
        (try simp only [Act.put]); (try simp only [List.getElem_toArray]); (try simp only [List.getElem_cons_succ]); (try simp only [List.getElem_cons_zero]); (try simp only [List.setIfInBounds_toArray]); (try simp only [List.set_cons_succ]); (try simp only [List.set_cons_zero])
        refine wpAnyH_take (i := 1) (v := ?_) rfl (by kernel_rfl) (by kernel_rfl) (by kernel_rfl) (fun _ _ _ h => h) (Or.inl ⟨by rfl, ?_⟩) hHeld ?_
        rotate_left
        · intro w9 hSw
          (obtain ⟨⟨sb, sl⟩, _⟩ := hSw; have s0 := blk_cell sb 0 _ rfl; have s1 := blk_cell sb 1 _ rfl; have s2 := blk_cell sb 2 _ rfl; have s3 := blk_cell sb 3 _ rfl; clear sb)
          go_simp
          all_goals (try with_reducible rfl)
        (try simp only [Act.put]); (try simp only [List.getElem_toArray]); (try simp only [List.getElem_cons_succ]); (try simp only [List.getElem_cons_zero]); (try simp only [List.setIfInBounds_toArray]); (try simp only [List.set_cons_succ]); (try simp only [List.set_cons_zero])
        refine wpAnyH_take (i := 2) (v := ?_) rfl (by kernel_rfl) (by kernel_rfl) (by kernel_rfl) (fun _ _ _ h => h) (Or.inl ⟨by rfl, ?_⟩) hHeld ?_
        rotate_left
        · intro w9 hSw
          (obtain ⟨⟨sb, sl⟩, _⟩ := hSw; have s0 := blk_cell sb 0 _ rfl; have s1 := blk_cell sb 1 _ rfl; have s2 := blk_cell sb 2 _ rfl; have s3 := blk_cell sb 3 _ rfl; clear sb)
          go_simp
          all_goals (try with_reducible rfl)
        (try simp only [Act.put]); (try simp only [List.getElem_toArray]); (try simp only [List.getElem_cons_succ]); (try simp only [List.getElem_cons_zero]); (try simp only [List.setIfInBounds_toArray]); (try simp only [List.set_cons_succ]); (try simp only [List.set_cons_zero])
        (try simp only [hu1])
        refine wpAnyH_take (i := 3) (v := ?_) rfl (by kernel_rfl) (by kernel_rfl) (by kernel_rfl) (fun _ _ _ h => h) (Or.inl ⟨by rfl, ?_⟩) hHeld ?_
        rotate_left
        · intro w9 hSw
          (obtain ⟨⟨sb, sl⟩, _⟩ := hSw; have s0 := blk_cell sb 0 _ rfl; have s1 := blk_cell sb 1 _ rfl; have s2 := blk_cell sb 2 _ rfl; have s3 := blk_cell sb 3 _ rfl; clear sb)
          go_simp
          all_goals (try with_reducible rfl)
        (try simp only [Act.put]); (try simp only [List.getElem_toArray]); (try simp only [List.getElem_cons_succ]); (try simp only [List.getElem_cons_zero]); (try simp only [List.setIfInBounds_toArray]); (try simp only [List.set_cons_succ]); (try simp only [List.set_cons_zero])
        refine wpAnyH_take (i := 4) (v := ?_) rfl (by kernel_rfl) (by kernel_rfl) (by kernel_rfl) (fun _ _ _ h => h) (Or.inl ⟨by rfl, ?_⟩) hHeld ?_
        rotate_left
        · intro w9 hSw
          (obtain ⟨⟨sb, sl⟩, _⟩ := hSw; have s0 := blk_cell sb 0 _ rfl; have s1 := blk_cell sb 1 _ rfl; have s2 := blk_cell sb 2 _ rfl; have s3 := blk_cell sb 3 _ rfl; clear sb)
          go_simp
          all_goals (try with_reducible rfl)
        (try simp only [Act.put]); (try simp only [List.getElem_toArray]); (try simp only [List.getElem_cons_succ]); (try simp only [List.getElem_cons_zero]); (try simp only [List.setIfInBounds_toArray]); (try simp only [List.set_cons_succ]); (try simp only [List.set_cons_zero])
        refine wpAnyH_take (i := 5) (v := ?_) rfl (by kernel_rfl) (by kernel_rfl) (by kernel_rfl) (fun _ _ _ h => h) (Or.inl ⟨by rfl, ?_⟩) hHeld ?_
        rotate_left
        · intro w9 hSw
          (obtain ⟨⟨sb, sl⟩, _⟩ := hSw; have s0 := blk_cell sb 0 _ rfl; have s1 := blk_cell sb 1 _ rfl; have s2 := blk_cell sb 2 _ rfl; have s3 := blk_cell sb 3 _ rfl; clear sb)
          go_simp
          all_goals (try with_reducible rfl)
        (try simp only [Act.put]); (try simp only [List.getElem_toArray]); (try simp only [List.getElem_cons_succ]); (try simp only [List.getElem_cons_zero]); (try simp only [List.setIfInBounds_toArray]); (try simp only [List.set_cons_succ]); (try simp only [List.set_cons_zero])
        refine wpAnyH_take (i := 6) (v := ?_) rfl (by kernel_rfl) (by kernel_rfl) (by kernel_rfl) (fun _ _ _ h => h) (Or.inl ⟨by rfl, ?_⟩) hHeld ?_
        rotate_left
        · intro w9 hSw
          (obtain ⟨⟨sb, sl⟩, _⟩ := hSw; have s0 := blk_cell sb 0 _ rfl; have s1 := blk_cell sb 1 _ rfl; have s2 := blk_cell sb 2 _ rfl; have s3 := blk_cell sb 3 _ rfl; clear sb)
          go_simp
          all_goals (try with_reducible rfl)
        (try simp only [Act.put]); (try simp only [List.getElem_toArray]); (try simp only [List.getElem_cons_succ]); (try simp only [List.getElem_cons_zero]); (try simp only [List.setIfInBounds_toArray]); (try simp only [List.set_cons_succ]); (try simp only [List.set_cons_zero])
        (try simp only [hu2])
        refine wpAnyH_take (i := 7) (v := ?_) rfl (by kernel_rfl) (by kernel_rfl) (by kernel_rfl) (fun _ _ _ h => h) (Or.inl ⟨by rfl, ?_⟩) hHeld ?_
        rotate_left
        · intro w9 hSw
          (obtain ⟨⟨sb, sl⟩, _⟩ := hSw; have s0 := blk_cell sb 0 _ rfl; have s1 := blk_cell sb 1 _ rfl; have s2 := blk_cell sb 2 _ rfl; have s3 := blk_cell sb 3 _ rfl; clear sb)
          go_simp
          all_goals (try with_reducible rfl)
        (try simp only [Act.put]); (try simp only [List.getElem_toArray]); (try simp only [List.getElem_cons_succ]); (try simp only [List.getElem_cons_zero]); (try simp only [List.setIfInBounds_toArray]); (try simp only [List.set_cons_succ]); (try simp only [List.set_cons_zero])
        refine wpAnyH_take (i := 8) (v := ?_) rfl (by kernel_rfl) (by kernel_rfl) (by kernel_rfl) (fun _ _ _ h => h) (Or.inl ⟨by rfl, ?_⟩) hHeld ?_
        rotate_left
        · intro w9 hSw
          (obtain ⟨⟨sb, sl⟩, _⟩ := hSw; have s0 := blk_cell sb 0 _ rfl; have s1 := blk_cell sb 1 _ rfl; have s2 := blk_cell sb 2 _ rfl; have s3 := blk_cell sb 3 _ rfl; clear sb)
          go_simp
          all_goals (try with_reducible rfl)
        (try simp only [Act.put]); (try simp only [List.getElem_toArray]); (try simp only [List.getElem_cons_succ]); (try simp only [List.getElem_cons_zero]); (try simp only [List.setIfInBounds_toArray]); (try simp only [List.set_cons_succ]); (try simp only [List.set_cons_zero])
        refine wpAnyH_take (i := 9) (v := ?_) rfl (by kernel_rfl) (by kernel_rfl) (by kernel_rfl) (fun _ _ _ h => h) (Or.inl ⟨by rfl, ?_⟩) hHeld ?_
        rotate_left
        · intro w9 hSw
          (obtain ⟨⟨sb, sl⟩, _⟩ := hSw; have s0 := blk_cell sb 0 _ rfl; have s1 := blk_cell sb 1 _ rfl; have s2 := blk_cell sb 2 _ rfl; have s3 := blk_cell sb 3 _ rfl; clear sb)
          go_simp
          all_goals (try with_reducible rfl)
        (try simp only [Act.put]); (try simp only [List.getElem_toArray]); (try simp only [List.getElem_cons_succ]); (try simp only [List.getElem_cons_zero]); (try simp only [List.setIfInBounds_toArray]); (try simp only [List.set_cons_succ]); (try simp only [List.set_cons_zero])
        refine wpAnyH_take (i := 10) (v := ?_) rfl (by kernel_rfl) (by kernel_rfl) (by kernel_rfl) (fun _ _ _ h => h) (Or.inl ⟨by rfl, ?_⟩) hHeld ?_
        rotate_left
        · intro w9 hSw
          (obtain ⟨⟨sb, sl⟩, _⟩ := hSw; have s0 := blk_cell sb 0 _ rfl; have s1 := blk_cell sb 1 _ rfl; have s2 := blk_cell sb 2 _ rfl; have s3 := blk_cell sb 3 _ rfl; clear sb)
          go_simp
          all_goals (try with_reducible rfl)
        (try simp only [Act.put]); (try simp only [List.getElem_toArray]); (try simp only [List.getElem_cons_succ]); (try simp only [List.getElem_cons_zero]); (try simp only [List.setIfInBounds_toArray]); (try simp only [List.set_cons_succ]); (try simp only [List.set_cons_zero])
        refine wpAnyH_take (i := 11) (v := ?_) rfl (by kernel_rfl) (by kernel_rfl) (by kernel_rfl) (fun _ _ _ h => h) (Or.inl ⟨by rfl, ?_⟩) hHeld ?_
        rotate_left
        · intro w9 hSw
          (obtain ⟨⟨sb, sl⟩, _⟩ := hSw; have s0 := blk_cell sb 0 _ rfl; have s1 := blk_cell sb 1 _ rfl; have s2 := blk_cell sb 2 _ rfl; have s3 := blk_cell sb 3 _ rfl; clear sb)
          go_simp
          all_goals (try with_reducible rfl)
        (try simp only [Act.put]); (try simp only [List.getElem_toArray]); (try simp only [List.getElem_cons_succ]); (try simp only [List.getElem_cons_zero]); (try simp only [List.setIfInBounds_toArray]); (try simp only [List.set_cons_succ]); (try simp only [List.set_cons_zero])
        refine wpAnyH_take (i := 12) (v := ?_) rfl (by kernel_rfl) (by kernel_rfl) (by kernel_rfl) (fun _ _ _ h => h) (Or.inl ⟨by rfl, ?_⟩) hHeld ?_
        rotate_left
        · intro w9 hSw
          (obtain ⟨⟨sb, sl⟩, _⟩ := hSw; have s0 := blk_cell sb 0 _ rfl; have s1 := blk_cell sb 1 _ rfl; have s2 := blk_cell sb 2 _ rfl; have s3 := blk_cell sb 3 _ rfl; clear sb)
          go_simp
          all_goals (try with_reducible rfl)
        (try simp only [Act.put]); (try simp only [List.getElem_toArray]); (try simp only [List.getElem_cons_succ]); (try simp only [List.getElem_cons_zero]); (try simp only [List.setIfInBounds_toArray]); (try simp only [List.set_cons_succ]); (try simp only [List.set_cons_zero])
        refine wpAnyH_take (i := 13) (v := ?_) rfl (by kernel_rfl) (by kernel_rfl) (by kernel_rfl) (fun _ _ _ h => h) (Or.inl ⟨by rfl, ?_⟩) hHeld ?_
        rotate_left
        · intro w9 hSw
          (obtain ⟨⟨sb, sl⟩, _⟩ := hSw; have s0 := blk_cell sb 0 _ rfl; have s1 := blk_cell sb 1 _ rfl; have s2 := blk_cell sb 2 _ rfl; have s3 := blk_cell sb 3 _ rfl; clear sb)
          go_simp
          all_goals (try with_reducible rfl)
        (try simp only [Act.put]); (try simp only [List.getElem_toArray]); (try simp only [List.getElem_cons_succ]); (try simp only [List.getElem_cons_zero]); (try simp only [List.setIfInBounds_toArray]); (try simp only [List.set_cons_succ]); (try simp only [List.set_cons_zero])
        refine wpAnyH_take (i := 14) (v := ?_) rfl (by kernel_rfl) (by kernel_rfl) (by kernel_rfl) (fun _ _ _ h => h) (Or.inl ⟨by rfl, ?_⟩) hHeld ?_
        rotate_left
        · intro w9 hSw
          (obtain ⟨⟨sb, sl⟩, _⟩ := hSw; have s0 := blk_cell sb 0 _ rfl; have s1 := blk_cell sb 1 _ rfl; have s2 := blk_cell sb 2 _ rfl; have s3 := blk_cell sb 3 _ rfl; clear sb)
          go_simp
          all_goals (try with_reducible rfl)
        (try simp only [Act.put]); (try simp only [List.getElem_toArray]); (try simp only [List.getElem_cons_succ]); (try simp only [List.getElem_cons_zero]); (try simp only [List.setIfInBounds_toArray]); (try simp only [List.set_cons_succ]); (try simp only [List.set_cons_zero])
        refine wpAnyH_ready (rs := [15]) (by kernel_rfl) (by simp) ?_
        refine AllReadyH.cons rfl (fun K' hK' => ?_) AllReadyH.nil
        go_simp
        refine (HB.out _ (Hm.out.keep0 hHeld.2)).mono ?_
        rintro e' w9 ⟨rfl, hg⟩
        (try simp only [])
        refine hK'.out _ _ ⟨⟨blk_keep hHeld.1.1 hg (by simp), hg.cell hHeld.1.2 (by simp)⟩, gr_trans0 hHeld.2 hg⟩ (fun hHeldN => ?_)
        have hHeld := hHeldN
        clear hK' K' hHeldN hg
        (try simp only [Act.put]); (try simp only [List.getElem_toArray]); (try simp only [List.getElem_cons_succ]); (try simp only [List.getElem_cons_zero]); (try simp only [List.setIfInBounds_toArray]); (try simp only [List.set_cons_succ]); (try simp only [List.set_cons_zero])
        refine wpAnyH_take (i := 16) (v := ?_) rfl (by kernel_rfl) (by kernel_rfl) (by kernel_rfl) (fun _ _ _ h => h) (Or.inl ⟨by rfl, ?_⟩) hHeld ?_
        rotate_left
        · intro w9 hSw
          (obtain ⟨⟨sb, sl⟩, _⟩ := hSw; have s0 := blk_cell sb 0 _ rfl; have s1 := blk_cell sb 1 _ rfl; have s2 := blk_cell sb 2 _ rfl; have s3 := blk_cell sb 3 _ rfl; clear sb)
          go_simp
          all_goals (try with_reducible rfl)
        (try simp only [Act.put]); (try simp only [List.getElem_toArray]); (try simp only [List.getElem_cons_succ]); (try simp only [List.getElem_cons_zero]); (try simp only [List.setIfInBounds_toArray]); (try simp only [List.set_cons_succ]); (try simp only [List.set_cons_zero])
        refine wpAnyH_take (i := 17) (v := ?_) rfl (by kernel_rfl) (by kernel_rfl) (by kernel_rfl) (fun _ _ _ h => h) (Or.inl ⟨by rfl, ?_⟩) hHeld ?_
        rotate_left
        · intro w9 hSw
          (obtain ⟨⟨sb, sl⟩, _⟩ := hSw; have s0 := blk_cell sb 0 _ rfl; have s1 := blk_cell sb 1 _ rfl; have s2 := blk_cell sb 2 _ rfl; have s3 := blk_cell sb 3 _ rfl; clear sb)
          go_simp
          all_goals (try with_reducible rfl)
        (try simp only [Act.put]); (try simp only [List.getElem_toArray]); (try simp only [List.getElem_cons_succ]); (try simp only [List.getElem_cons_zero]); (try simp only [List.setIfInBounds_toArray]); (try simp only [List.set_cons_succ]); (try simp only [List.set_cons_zero])
        refine wpAnyH_take (i := 18) (v := ?_) rfl (by kernel_rfl) (by kernel_rfl) (by kernel_rfl) (fun _ _ _ h => h) (Or.inl ⟨by rfl, ?_⟩) hHeld ?_
        rotate_left
        · intro w9 hSw
          (obtain ⟨⟨sb, sl⟩, _⟩ := hSw; have s0 := blk_cell sb 0 _ rfl; have s1 := blk_cell sb 1 _ rfl; have s2 := blk_cell sb 2 _ rfl; have s3 := blk_cell sb 3 _ rfl; clear sb)
          go_simp
          all_goals (try with_reducible rfl)
        (try simp only [Act.put]); (try simp only [List.getElem_toArray]); (try simp only [List.getElem_cons_succ]); (try simp only [List.getElem_cons_zero]); (try simp only [List.setIfInBounds_toArray]); (try simp only [List.set_cons_succ]); (try simp only [List.set_cons_zero])
        refine wpAnyH_done (by kernel_rfl) ?_ _
        have HgF := hid hHeld.2
        clear hHeld hb8 hg8
        go_wp2_with fail
        go_ret
        exact ⟨rfl, HgF.out⟩
      · have hdb : decide (day + 1 < p.till) = false := by simpa using hd1
        clear hd1
        have hb8 := Hb6.out
        have hg8 := Hg6.out
        have hu1 : decide (v ≤ cp) = true := by simpa using hvc
        have hu2 : decide (v ≤ cp) = true := by simpa using hvc
        go_wp2_with fail
        (try clear c0 c1 c2 c3)
        (try clear f1)
        (try clear p1)
        refine wp_region_held_drew (S := fun w' => (w'.heap[w1.heap.size]? = some (.cells #[.int .i64 b.start, .int .i64 b.stop, .int .i64 b.months, .int .i64 b.rate] 25 (0, 0)) ∧ w'.cell? ⟨pb, po + at1 * 3, none⟩ = some (.int .i64 p.frm)) ∧ w.grownBy w' none) (by kernel_rfl) ⟨⟨hb8, p0⟩, gr_drew hg8⟩ (fun hHeld => ?_)
        refine wpAnyH_take (i := 0) (v := ?_) rfl (by kernel_rfl) (by kernel_rfl) (by kernel_rfl) (fun _ _ _ h => h) (Or.inl ⟨by rfl, ?_⟩) hHeld ?_
        rotate_left
        · intro w9 hSw
          (obtain ⟨⟨sb, sl⟩, _⟩ := hSw; have s0 := blk_cell sb 0 _ rfl; have s1 := blk_cell sb 1 _ rfl; have s2 := blk_cell sb 2 _ rfl; have s3 := blk_cell sb 3 _ rfl; clear sb)
          go_simp
          all_goals (try with_reducible rfl)
        (try simp only [Act.put]); (try simp only [List.getElem_toArray]); (try simp only [List.getElem_cons_succ]); (try simp only [List.getElem_cons_zero]); (try simp only [List.setIfInBounds_toArray]); (try simp only [List.set_cons_succ]); (try simp only [List.set_cons_zero])
        refine wpAnyH_take (i := 1) (v := ?_) rfl (by kernel_rfl) (by kernel_rfl) (by kernel_rfl) (fun _ _ _ h => h) (Or.inl ⟨by rfl, ?_⟩) hHeld ?_
        rotate_left
        · intro w9 hSw
          (obtain ⟨⟨sb, sl⟩, _⟩ := hSw; have s0 := blk_cell sb 0 _ rfl; have s1 := blk_cell sb 1 _ rfl; have s2 := blk_cell sb 2 _ rfl; have s3 := blk_cell sb 3 _ rfl; clear sb)
          go_simp
          all_goals (try with_reducible rfl)
        (try simp only [Act.put]); (try simp only [List.getElem_toArray]); (try simp only [List.getElem_cons_succ]); (try simp only [List.getElem_cons_zero]); (try simp only [List.setIfInBounds_toArray]); (try simp only [List.set_cons_succ]); (try simp only [List.set_cons_zero])
        refine wpAnyH_take (i := 2) (v := ?_) rfl (by kernel_rfl) (by kernel_rfl) (by kernel_rfl) (fun _ _ _ h => h) (Or.inl ⟨by rfl, ?_⟩) hHeld ?_
        rotate_left
        · intro w9 hSw
          (obtain ⟨⟨sb, sl⟩, _⟩ := hSw; have s0 := blk_cell sb 0 _ rfl; have s1 := blk_cell sb 1 _ rfl; have s2 := blk_cell sb 2 _ rfl; have s3 := blk_cell sb 3 _ rfl; clear sb)
          go_simp
          all_goals (try with_reducible rfl)
        (try simp only [Act.put]); (try simp only [List.getElem_toArray]); (try simp only [List.getElem_cons_succ]); (try simp only [List.getElem_cons_zero]); (try simp only [List.setIfInBounds_toArray]); (try simp only [List.set_cons_succ]); (try simp only [List.set_cons_zero])
        (try simp only [hu1])
        refine wpAnyH_take (i := 3) (v := ?_) rfl (by kernel_rfl) (by kernel_rfl) (by kernel_rfl) (fun _ _ _ h => h) (Or.inl ⟨by rfl, ?_⟩) hHeld ?_
        rotate_left
        · intro w9 hSw
          (obtain ⟨⟨sb, sl⟩, _⟩ := hSw; have s0 := blk_cell sb 0 _ rfl; have s1 := blk_cell sb 1 _ rfl; have s2 := blk_cell sb 2 _ rfl; have s3 := blk_cell sb 3 _ rfl; clear sb)
          go_simp
          all_goals (try with_reducible rfl)
        (try simp only [Act.put]); (try simp only [List.getElem_toArray]); (try simp only [List.getElem_cons_succ]); (try simp only [List.getElem_cons_zero]); (try simp only [List.setIfInBounds_toArray]); (try simp only [List.set_cons_succ]); (try simp only [List.set_cons_zero])
        refine wpAnyH_take (i := 4) (v := ?_) rfl (by kernel_rfl) (by kernel_rfl) (by kernel_rfl) (fun _ _ _ h => h) (Or.inl ⟨by rfl, ?_⟩) hHeld ?_
        rotate_left
        · intro w9 hSw
          (obtain ⟨⟨sb, sl⟩, _⟩ := hSw; have s0 := blk_cell sb 0 _ rfl; have s1 := blk_cell sb 1 _ rfl; have s2 := blk_cell sb 2 _ rfl; have s3 := blk_cell sb 3 _ rfl; clear sb)
          go_simp
          all_goals (try with_reducible rfl)
        (try simp only [Act.put]); (try simp only [List.getElem_toArray]); (try simp only [List.getElem_cons_succ]); (try simp only [List.getElem_cons_zero]); (try simp only [List.setIfInBounds_toArray]); (try simp only [List.set_cons_succ]); (try simp only [List.set_cons_zero])
        refine wpAnyH_take (i := 5) (v := ?_) rfl (by kernel_rfl) (by kernel_rfl) (by kernel_rfl) (fun _ _ _ h => h) (Or.inl ⟨by rfl, ?_⟩) hHeld ?_
        rotate_left
        · intro w9 hSw
          (obtain ⟨⟨sb, sl⟩, _⟩ := hSw; have s0 := blk_cell sb 0 _ rfl; have s1 := blk_cell sb 1 _ rfl; have s2 := blk_cell sb 2 _ rfl; have s3 := blk_cell sb 3 _ rfl; clear sb)
          go_simp
          all_goals (try with_reducible rfl)
        (try simp only [Act.put]); (try simp only [List.getElem_toArray]); (try simp only [List.getElem_cons_succ]); (try simp only [List.getElem_cons_zero]); (try simp only [List.setIfInBounds_toArray]); (try simp only [List.set_cons_succ]); (try simp only [List.set_cons_zero])
        refine wpAnyH_take (i := 6) (v := ?_) rfl (by kernel_rfl) (by kernel_rfl) (by kernel_rfl) (fun _ _ _ h => h) (Or.inl ⟨by rfl, ?_⟩) hHeld ?_
        rotate_left
        · intro w9 hSw
          (obtain ⟨⟨sb, sl⟩, _⟩ := hSw; have s0 := blk_cell sb 0 _ rfl; have s1 := blk_cell sb 1 _ rfl; have s2 := blk_cell sb 2 _ rfl; have s3 := blk_cell sb 3 _ rfl; clear sb)
          go_simp
          all_goals (try with_reducible rfl)
        (try simp only [Act.put]); (try simp only [List.getElem_toArray]); (try simp only [List.getElem_cons_succ]); (try simp only [List.getElem_cons_zero]); (try simp only [List.setIfInBounds_toArray]); (try simp only [List.set_cons_succ]); (try simp only [List.set_cons_zero])
        (try simp only [hu2])
        refine wpAnyH_take (i := 7) (v := ?_) rfl (by kernel_rfl) (by kernel_rfl) (by kernel_rfl) (fun _ _ _ h => h) (Or.inl ⟨by rfl, ?_⟩) hHeld ?_
        rotate_left
        · intro w9 hSw
          (obtain ⟨⟨sb, sl⟩, _⟩ := hSw; have s0 := blk_cell sb 0 _ rfl; have s1 := blk_cell sb 1 _ rfl; have s2 := blk_cell sb 2 _ rfl; have s3 := blk_cell sb 3 _ rfl; clear sb)
          go_simp
          all_goals (try with_reducible rfl)
        (try simp only [Act.put]); (try simp only [List.getElem_toArray]); (try simp only [List.getElem_cons_succ]); (try simp only [List.getElem_cons_zero]); (try simp only [List.setIfInBounds_toArray]); (try simp only [List.set_cons_succ]); (try simp only [List.set_cons_zero])
        refine wpAnyH_take (i := 8) (v := ?_) rfl (by kernel_rfl) (by kernel_rfl) (by kernel_rfl) (fun _ _ _ h => h) (Or.inl ⟨by rfl, ?_⟩) hHeld ?_
        rotate_left
        · intro w9 hSw
          (obtain ⟨⟨sb, sl⟩, _⟩ := hSw; have s0 := blk_cell sb 0 _ rfl; have s1 := blk_cell sb 1 _ rfl; have s2 := blk_cell sb 2 _ rfl; have s3 := blk_cell sb 3 _ rfl; clear sb)
          go_simp
          all_goals (try with_reducible rfl)
        (try simp only [Act.put]); (try simp only [List.getElem_toArray]); (try simp only [List.getElem_cons_succ]); (try simp only [List.getElem_cons_zero]); (try simp only [List.setIfInBounds_toArray]); (try simp only [List.set_cons_succ]); (try simp only [List.set_cons_zero])
        refine wpAnyH_take (i := 9) (v := ?_) rfl (by kernel_rfl) (by kernel_rfl) (by kernel_rfl) (fun _ _ _ h => h) (Or.inl ⟨by rfl, ?_⟩) hHeld ?_
        rotate_left
        · intro w9 hSw
          (obtain ⟨⟨sb, sl⟩, _⟩ := hSw; have s0 := blk_cell sb 0 _ rfl; have s1 := blk_cell sb 1 _ rfl; have s2 := blk_cell sb 2 _ rfl; have s3 := blk_cell sb 3 _ rfl; clear sb)
          go_simp
          all_goals (try with_reducible rfl)
        (try simp only [Act.put]); (try simp only [List.getElem_toArray]); (try simp only [List.getElem_cons_succ]); (try simp only [List.getElem_cons_zero]); (try simp only [List.setIfInBounds_toArray]); (try simp only [List.set_cons_succ]); (try simp only [List.set_cons_zero])
        refine wpAnyH_take (i := 10) (v := ?_) rfl (by kernel_rfl) (by kernel_rfl) (by kernel_rfl) (fun _ _ _ h => h) (Or.inl ⟨by rfl, ?_⟩) hHeld ?_
        rotate_left
        · intro w9 hSw
          (obtain ⟨⟨sb, sl⟩, _⟩ := hSw; have s0 := blk_cell sb 0 _ rfl; have s1 := blk_cell sb 1 _ rfl; have s2 := blk_cell sb 2 _ rfl; have s3 := blk_cell sb 3 _ rfl; clear sb)
          go_simp
          all_goals (try with_reducible rfl)
        (try simp only [Act.put]); (try simp only [List.getElem_toArray]); (try simp only [List.getElem_cons_succ]); (try simp only [List.getElem_cons_zero]); (try simp only [List.setIfInBounds_toArray]); (try simp only [List.set_cons_succ]); (try simp only [List.set_cons_zero])
        refine wpAnyH_take (i := 11) (v := ?_) rfl (by kernel_rfl) (by kernel_rfl) (by kernel_rfl) (fun _ _ _ h => h) (Or.inl ⟨by rfl, ?_⟩) hHeld ?_
        rotate_left
        · intro w9 hSw
          (obtain ⟨⟨sb, sl⟩, _⟩ := hSw; have s0 := blk_cell sb 0 _ rfl; have s1 := blk_cell sb 1 _ rfl; have s2 := blk_cell sb 2 _ rfl; have s3 := blk_cell sb 3 _ rfl; clear sb)
          go_simp
          all_goals (try with_reducible rfl)
        (try simp only [Act.put]); (try simp only [List.getElem_toArray]); (try simp only [List.getElem_cons_succ]); (try simp only [List.getElem_cons_zero]); (try simp only [List.setIfInBounds_toArray]); (try simp only [List.set_cons_succ]); (try simp only [List.set_cons_zero])
        refine wpAnyH_take (i := 12) (v := ?_) rfl (by kernel_rfl) (by kernel_rfl) (by kernel_rfl) (fun _ _ _ h => h) (Or.inl ⟨by rfl, ?_⟩) hHeld ?_
        rotate_left
        · intro w9 hSw
          (obtain ⟨⟨sb, sl⟩, _⟩ := hSw; have s0 := blk_cell sb 0 _ rfl; have s1 := blk_cell sb 1 _ rfl; have s2 := blk_cell sb 2 _ rfl; have s3 := blk_cell sb 3 _ rfl; clear sb)
          go_simp
          all_goals (try with_reducible rfl)
        (try simp only [Act.put]); (try simp only [List.getElem_toArray]); (try simp only [List.getElem_cons_succ]); (try simp only [List.getElem_cons_zero]); (try simp only [List.setIfInBounds_toArray]); (try simp only [List.set_cons_succ]); (try simp only [List.set_cons_zero])
        refine wpAnyH_take (i := 13) (v := ?_) rfl (by kernel_rfl) (by kernel_rfl) (by kernel_rfl) (fun _ _ _ h => h) (Or.inl ⟨by rfl, ?_⟩) hHeld ?_
        rotate_left
        · intro w9 hSw
          (obtain ⟨⟨sb, sl⟩, _⟩ := hSw; have s0 := blk_cell sb 0 _ rfl; have s1 := blk_cell sb 1 _ rfl; have s2 := blk_cell sb 2 _ rfl; have s3 := blk_cell sb 3 _ rfl; clear sb)
          go_simp
          all_goals (try with_reducible rfl)
        (try simp only [Act.put]); (try simp only [List.getElem_toArray]); (try simp only [List.getElem_cons_succ]); (try simp only [List.getElem_cons_zero]); (try simp only [List.setIfInBounds_toArray]); (try simp only [List.set_cons_succ]); (try simp only [List.set_cons_zero])
        refine wpAnyH_take (i := 14) (v := ?_) rfl (by kernel_rfl) (by kernel_rfl) (by kernel_rfl) (fun _ _ _ h => h) (Or.inl ⟨by rfl, ?_⟩) hHeld ?_
        rotate_left
        · intro w9 hSw
          (obtain ⟨⟨sb, sl⟩, _⟩ := hSw; have s0 := blk_cell sb 0 _ rfl; have s1 := blk_cell sb 1 _ rfl; have s2 := blk_cell sb 2 _ rfl; have s3 := blk_cell sb 3 _ rfl; clear sb)
          go_simp
          all_goals (try with_reducible rfl)
        (try simp only [Act.put]); (try simp only [List.getElem_toArray]); (try simp only [List.getElem_cons_succ]); (try simp only [List.getElem_cons_zero]); (try simp only [List.setIfInBounds_toArray]); (try simp only [List.set_cons_succ]); (try simp only [List.set_cons_zero])
        refine wpAnyH_ready (rs := [15]) (by kernel_rfl) (by simp) ?_
        refine AllReadyH.cons rfl (fun K' hK' => ?_) AllReadyH.nil
        go_simp
        refine (HB.out _ (Hm.out.keep0 hHeld.2)).mono ?_
        rintro e' w9 ⟨rfl, hg⟩
        (try simp only [])
        refine hK'.out _ _ ⟨⟨blk_keep hHeld.1.1 hg (by simp), hg.cell hHeld.1.2 (by simp)⟩, gr_trans0 hHeld.2 hg⟩ (fun hHeldN => ?_)
        have hHeld := hHeldN
        clear hK' K' hHeldN hg
        (try simp only [Act.put]); (try simp only [List.getElem_toArray]); (try simp only [List.getElem_cons_succ]); (try simp only [List.getElem_cons_zero]); (try simp only [List.setIfInBounds_toArray]); (try simp only [List.set_cons_succ]); (try simp only [List.set_cons_zero])
        refine wpAnyH_take (i := 16) (v := ?_) rfl (by kernel_rfl) (by kernel_rfl) (by kernel_rfl) (fun _ _ _ h => h) (Or.inl ⟨by rfl, ?_⟩) hHeld ?_
        rotate_left
        · intro w9 hSw
          (obtain ⟨⟨sb, sl⟩, _⟩ := hSw; have s0 := blk_cell sb 0 _ rfl; have s1 := blk_cell sb 1 _ rfl; have s2 := blk_cell sb 2 _ rfl; have s3 := blk_cell sb 3 _ rfl; clear sb)
          go_simp
          all_goals (try with_reducible rfl)
        (try simp only [Act.put]); (try simp only [List.getElem_toArray]); (try simp only [List.getElem_cons_succ]); (try simp only [List.getElem_cons_zero]); (try simp only [List.setIfInBounds_toArray]); (try simp only [List.set_cons_succ]); (try simp only [List.set_cons_zero])
        refine wpAnyH_take (i := 17) (v := ?_) rfl (by kernel_rfl) (by kernel_rfl) (by kernel_rfl) (fun _ _ _ h => h) (Or.inl ⟨by rfl, ?_⟩) hHeld ?_
        rotate_left
        · intro w9 hSw
          (obtain ⟨⟨sb, sl⟩, _⟩ := hSw; have s0 := blk_cell sb 0 _ rfl; have s1 := blk_cell sb 1 _ rfl; have s2 := blk_cell sb 2 _ rfl; have s3 := blk_cell sb 3 _ rfl; clear sb)
          go_simp
          all_goals (try with_reducible rfl)
        (try simp only [Act.put]); (try simp only [List.getElem_toArray]); (try simp only [List.getElem_cons_succ]); (try simp only [List.getElem_cons_zero]); (try simp only [List.setIfInBounds_toArray]); (try simp only [List.set_cons_succ]); (try simp only [List.set_cons_zero])
        refine wpAnyH_take (i := 18) (v := ?_) rfl (by kernel_rfl) (by kernel_rfl) (by kernel_rfl) (fun _ _ _ h => h) (Or.inl ⟨by rfl, ?_⟩) hHeld ?_
        rotate_left
        · intro w9 hSw
          (obtain ⟨⟨sb, sl⟩, _⟩ := hSw; have s0 := blk_cell sb 0 _ rfl; have s1 := blk_cell sb 1 _ rfl; have s2 := blk_cell sb 2 _ rfl; have s3 := blk_cell sb 3 _ rfl; clear sb)
          go_simp
          all_goals (try with_reducible rfl)
        (try simp only [Act.put]); (try simp only [List.getElem_toArray]); (try simp only [List.getElem_cons_succ]); (try simp only [List.getElem_cons_zero]); (try simp only [List.setIfInBounds_toArray]); (try simp only [List.set_cons_succ]); (try simp only [List.set_cons_zero])
        refine wpAnyH_done (by kernel_rfl) ?_ _
        have HgF := hid hHeld.2
        clear hHeld hb8 hg8
        go_wp2_with fail
        go_ret
        exact ⟨rfl, HgF.out⟩

set_option maxRecDepth 100000 in
theorem lifted (os : Os) (started : os.Started) (H : Type) (enc : TypeId × Value → H) :
    ReturnsInHanded {} Tryd.checked os 12 .any (fun w args => (Rows.fnAccruedOfSpec.pre enc Tryd.prog Tryd.f12 Rows.fnAccruedOfRow.domain false w args ∧ laidMetH Tryd.prog laidMonths w) ∧ sizedMet enc Tryd.prog Tryd.f12 (OpenSpec.ofChange Rows.fnAccruedOfSpec) false w args) (Rows.fnAccruedOfSpec.post enc Tryd.prog Tryd.f12 false true false false) := by
  refine returnsInHanded_of_change_and (C := Tryd.checked) (X := fun w _ => laidMetH Tryd.prog laidMonths w) (fun _ _ _ hh h => h.of_heap hh) Tryd.own started (by kernel_rfl) Tryd.func12
    (ChangeSpec.witness_shaped (enc := enc) (C := Tryd.checked) (os := os) (X := fun w _ => laidMetH Tryd.prog laidMonths w) false (World.doorLaid Tryd.prog 400 os) #[.slice none 0 0] 8 rfl (World.shaped_of_RefB (by kernel_rfl) (by kernel_rfl)) (by kernel_rfl) (by kernel_rfl) (by kernel_rfl) (door_met os _)) ?_
  intro W base args ds gs before hval0 hW _ _ hL _
  have hval : ∀ (j : Nat) t v, Tryd.f12.params[j]? = some t → args[j]? = some v → Value.okWide Tryd.prog W .any base t v := hval0
  have hW' := hW
  obtain ⟨p, q, hA0, hV, rfl, hfz, hnd⟩ := hW
  have hA : DataW.TrodAll enc Tryd.prog W 0 (fun _ => true) true Tryd.f12.params.toList args.toList ds p := hA0
  rw [Tryd.params12] at hA hval
  have hA2 := hA
  obtain ⟨v0, vs0, d0, ds0, p0, q0, hargs, rfl, rfl, h0, r0⟩ := trodAll_cons hA
  obtain ⟨rfl, rfl, rfl⟩ := trodAll_nil r0
  obtain rfl : args = #[v0] := by cases args; simp_all
  obtain ⟨g0, rfl⟩ := vars_one hV
  have hlt : ∀ x ∈ (p0 ++ []) ++ q, x.block < W.heap.size := fun x hx => hW'.lt x hx
  obtain ⟨a0, n0, cap0, rfl⟩ := okWide_slice Tryd.underlying32 (hval 0 32 v0 rfl rfl)
  obtain ⟨fuel0, hf0⟩ := h0
  obtain ⟨xs0, hs0, hc0, hw0⟩ := sl_ints u8L (fun _ => rfl) rfl Tryd.underlying32 Tryd.underlying5 Tryd.cellsU8 hf0
  refine (walk a0 n0 cap0 xs0 W (months_of_laid hL) hs0 hc0 (fun z hz => u8_range (hw0 z hz))).mono fun e W' ⟨he, hg⟩ => ?_
  subst he
  have hb := below_of_gr hg
  refine ⟨_, rfl, _, _, _, [], p0 ++ [], q, hW', ?_, ?_, vars_stay hb hV, hb.frame _, fun h => by cases h⟩
  · exact trodAll_mk1 (shut_bool Tryd.underlying4 _)
  · exact args_stay hb _ _ _ _ hA2 (fun x hx => hlt x (List.mem_append_left _ (by simpa using hx))) (by intro t ht; simp at ht; subst ht; exact ⟨by kernel_rfl, of_decide_eq_true (by kernel_rfl)⟩)

set_option maxRecDepth 100000 in
theorem closed : joinedFacts Tryd.pinned.checked.prog 12 Tryd.f12 Rows.fnAccruedOfSpec Rows.fnAccruedOfRow = true := by
  rw [joinedFacts, show Tryd.pinned.checked.prog.mayEnter = true from Tryd.enters, show Tryd.pinned.checked.prog.liftsFinal = false from Tryd.lifts, show Tryd.pinned.checked.prog.make = some .cut from Tryd.cut]
  kernel_rfl

theorem row_holds : Rows.FnAccruedOfSaid :=
  OpenClaim.holds_of_wide 12 Tryd.f12 rfl rfl rfl rfl rfl rfl rfl ⟨rfl, rfl, rfl, rfl, rfl⟩ rfl rfl rfl rfl rfl (by kernel_rfl) Tryd.func12 closed
    (of_decide_eq_true (by kernel_rfl)) (by unfold Func.isWrapper; first | (rw [if_pos (by decide +kernel)]; kernel_rfl) | (rw [if_neg (by decide +kernel)]; exact ⟨rfl, rfl⟩))
    (fun os started H enc _ => lifted os started H enc)

theorem holds : Rows.FnAccruedOfCardSaid :=
  Claim7.holds_tied_plain_at .later [] [.data] true (true, "22dfc429811bdb46a90c5d9e37b95d9549ab5b19e19d6b6766dabd62dd407f7b") false
    row_holds (fun _ h => by cases h) (by kernel_rfl) (fun _ h => by cases h) fnAccruedOf_row_tie rfl ⟨rfl, rfl⟩ (by kernel_rfl) rfl
    (fun f fn hf hfn => by
      obtain rfl : f = 12 := Option.some.inj ((show Tryd.prog.funcNamed "loop.example/bonddesk/laws.FnAccruedOf" = some 12 by kernel_rfl).symm.trans hf) |>.symm
      obtain rfl : fn = Tryd.f12 := (Option.some.inj (Tryd.func12.symm.trans hfn)).symm
      exact ⟨by kernel_rfl, fun j t ht => by
        rw [Tryd.params12] at ht
        have hm : t ∈ [32] := by simpa using Array.mem_of_getElem? ht
        have hall : ([32].all fun u => !Tryd.prog.wantsStandIn u) = true := by kernel_rfl
        exact (show Tryd.prog.wantsStandIn t = false by simpa using List.all_eq_true.1 hall t hm)⟩)
    (by kernel_rfl)
end FnAccruedOf
end Go.Proofs.YtpmafjmgacdgfaaDoor
