/- For every input, FnFlowsAfterNone returns true: behind the end nothing is paid. No condition. -/
import Derived.Test.YtpmafjmgacdgfaaDoorRows
import Derived.Test.YtpmafjmgacdgfaaDoorCards
import Derived.Test.YtpmafjmgacdgfaaDoorTie
import Derived.Test.YtpmafjmgacdgfaaDoorSpecAfter
import Derived.Test.YtpmafjmgacdgfaaDoorDrawDay
import Derived.Test.YtpmafjmgacdgfaaDoorFrame
import Derived.Test.YtpmafjmgacdgfaaDoorFrameL
import Derived.ProofKit
namespace Go.Proofs.YtpmafjmgacdgfaaDoor
open Go.ChangeShapes Go.WideShapes Go.ChangeAt Go.RowKit
namespace FnFlowsAfterNone

set_option maxRecDepth 100000 in
set_option maxHeartbeats 2000000 in
theorem walk (a : Option Addr) (n cap : Nat) (xs : List Int) (w : World) (hm : Months w) (hs : Sl u8L w a n xs) (hcap : n ≤ cap) (hx : ∀ x ∈ xs, 0 ≤ x ∧ x ≤ 255) :
    Calls Tryd.prog 8 #[.slice a n cap] w fun e w' => e = .returned (.bool true) ∧ w.grownBy w' none := by
  have Hx := hid hx
  have Hs := hid hs
  have Hm := hid hm
  have hbig := hs.big
  unfold maxLen at hbig
  clear hx hs hm
  by_cases hn : 1048576 < n
  · go_enter Tryd.func8, Tryd.ntmps8
    go_wp2_with fail
    go_ret
    exact ⟨rfl, gr_refl _ _⟩
  clear hbig
  go_enter Tryd.func8, Tryd.ntmps8
  go_wp2_with fail
  refine (DrawFlowsAfter_any a n cap xs w Hs.out hcap Hx.out).mono ?_
  rintro e w1 ⟨b, day, rfl, hB, ⟨hd0, hd1⟩, hg⟩
  have Hb1 := hid (heap_alloc_new w1 (Obj.cells #[.int .i64 b.start, .int .i64 b.stop, .int .i64 b.months, .int .i64 b.rate] 25))
  have Hg1 := hid (gr_alloc hg (Obj.cells #[.int .i64 b.start, .int .i64 b.stop, .int .i64 b.months, .int .i64 b.rate] 25))
  have hBs0 := hB.s0; have hBs1 := hB.s1; have hBe0 := hB.e0; have hBe1 := hB.e1
  have hBm0 := hB.m0; have hBm1 := hB.m1; have hBr0 := hB.r0; have hBr1 := hB.r1
  clear hg
  have HA := hid (fun d wx (h : Months wx) => FlowsAfter_any b d wx h)
  have HSp := hid (fun wx => specFlowsAfter_any b day wx)
  have HV := hid (fun wx (h : Months wx) => ValidBond_any b wx h)
  have HF := hid (fun wx (h : Months wx) => FlowsOf_any b wx h)
  have Hst := hid (after_stop b)
  have Hsa := hid (after_start b)
  have Hl : Hid (∀ d, (afterF b d).length ≤ 40 ∧ (flowsF b).length ≤ 40) := hid (fun d => by
    have h1 : (flowsF b).length ≤ 40 := by
      unfold flowsF
      split
      · rename_i h; rw [flows_len]; have := (ok_bond h).span.q2; unfold persF; rw [sched_len]; exact this
      · simp
    exact ⟨Nat.le_trans (by unfold afterF; exact List.length_filter_le _ _) h1, h1⟩)
  have hee : decide (afterF b day = afterF b day) = true := by simp
  go_wp2_with fail
  refine (HA.out day _ (Hm.out.keep0 Hg1.out)).mono ?_
  rintro e' w2 ⟨na, nn, nc, rfl, ho, _, hg⟩
  have Hgs2 := hid hg
  have Hg2 := hid (gr_trans0 Hg1.out hg)
  have Hb2 := hid (blk_keep Hb1.out hg (by simp))
  clear hg
  (try clear c0 c1 c2 c3)
  have c0 := blk_cell Hb2.out 0 _ rfl
  have c1 := blk_cell Hb2.out 1 _ rfl
  have c2 := blk_cell Hb2.out 2 _ rfl
  have c3 := blk_cell Hb2.out 3 _ rfl
  have How2 := hid ho; clear ho
  go_wp2_with fail
  refine (HSp.out _).mono ?_
  rintro e' w3 ⟨ma, mn, mc, rfl, ho, _, hg⟩
  have Hgs3 := hid hg
  have Hg3 := hid (gr_trans0 Hg2.out hg)
  have Hb3 := hid (blk_keep Hb2.out hg (by simp))
  clear hg
  (try clear c0 c1 c2 c3)
  have c0 := blk_cell Hb3.out 0 _ rfl
  have c1 := blk_cell Hb3.out 1 _ rfl
  have c2 := blk_cell Hb3.out 2 _ rfl
  have c3 := blk_cell Hb3.out 3 _ rfl
  have How3 := hid ho; clear ho
  have h40a : nn ≤ 1000 := by have := How2.out.len; have := (Hl.out day).1; omega
  have h40b : mn ≤ 1000 := by have := How3.out.len; have := (Hl.out day).1; omega
  have HE := hid (fun wx (hx : w3.grownBy wx none) => equalFlows_any na ma nn mn nc mc _ _ wx ((How2.out.keep0 Hgs3.out).sl.keep0 hx) (How3.out.sl.keep0 hx) h40a h40b)
  go_wp2_with fail
  refine (HE.out _ (gr0 _)).mono ?_
  rintro e' w4 ⟨rfl, hg⟩
  have Hgs4 := hid hg
  have Hg4 := hid (gr_trans0 Hg3.out hg)
  have Hb4 := hid (blk_keep Hb3.out hg (by simp))
  clear hg
  (try clear c0 c1 c2 c3)
  have c0 := blk_cell Hb4.out 0 _ rfl
  have c1 := blk_cell Hb4.out 1 _ rfl
  have c2 := blk_cell Hb4.out 2 _ rfl
  have c3 := blk_cell Hb4.out 3 _ rfl
  cases hb : bondB b with
  | false =>
    rw [hb] at HV
    clear hb
    go_wp2_with fail
    refine (HV.out _ (Hm.out.keep0 Hg4.out)).mono ?_
    rintro e' w5 ⟨rfl, hg⟩
    have Hgs5 := hid hg
    have Hg5 := hid (gr_trans0 Hg4.out hg)
    have Hb5 := hid (blk_keep Hb4.out hg (by simp))
    clear hg
    (try clear c0 c1 c2 c3)
    have c0 := blk_cell Hb5.out 0 _ rfl
    have c1 := blk_cell Hb5.out 1 _ rfl
    have c2 := blk_cell Hb5.out 2 _ rfl
    have c3 := blk_cell Hb5.out 3 _ rfl
    go_wp2_with fail
    refine (HSp.out _).mono ?_
    rintro e' w6 ⟨ka, kn, kc, rfl, ho, _, hg⟩
    have Hgs6 := hid hg
    have Hg6 := hid (gr_trans0 Hg5.out hg)
    have Hb6 := hid (blk_keep Hb5.out hg (by simp))
    clear hg
    (try clear c0 c1 c2 c3)
    have c0 := blk_cell Hb6.out 0 _ rfl
    have c1 := blk_cell Hb6.out 1 _ rfl
    have c2 := blk_cell Hb6.out 2 _ rfl
    have c3 := blk_cell Hb6.out 3 _ rfl
    have h40c : kn ≤ 1000 := by have := ho.len; have := (Hl.out day).1; omega
    have HE2 := hid (fun wx (hx : w6.grownBy wx none) => equalFlows_any na ka nn kn nc kc _ _ wx (((((How2.out.keep0 Hgs3.out).keep0 Hgs4.out).keep0 Hgs5.out).keep0 Hgs6.out).sl.keep0 hx) (ho.sl.keep0 hx) h40a h40c)
    clear ho
    go_wp2_with fail
    refine (HE2.out _ (gr0 _)).mono ?_
    rintro e' w7 ⟨rfl, hg⟩
    have Hgs7 := hid hg
    have Hg7 := hid (gr_trans0 Hg6.out hg)
    have Hb7 := hid (blk_keep Hb6.out hg (by simp))
    clear hg
    (try clear c0 c1 c2 c3)
    have c0 := blk_cell Hb7.out 0 _ rfl
    have c1 := blk_cell Hb7.out 1 _ rfl
    have c2 := blk_cell Hb7.out 2 _ rfl
    have c3 := blk_cell Hb7.out 3 _ rfl
    go_wp2_with fail
    go_ret
    exact ⟨rfl, Hg7.out⟩
  | true =>
    rw [hb] at HV
    have hok := ok_bond hb
    have hw1 : IntKind.i64.wrap (b.start - 1) = b.start - 1 := IntWalk.i64_in _ (by omega)
    clear hb hok
    go_wp2_with fail
    refine (HV.out _ (Hm.out.keep0 Hg4.out)).mono ?_
    rintro e' w5 ⟨rfl, hg⟩
    have Hgs5 := hid hg
    have Hg5 := hid (gr_trans0 Hg4.out hg)
    have Hb5 := hid (blk_keep Hb4.out hg (by simp))
    clear hg
    (try clear c0 c1 c2 c3)
    have c0 := blk_cell Hb5.out 0 _ rfl
    have c1 := blk_cell Hb5.out 1 _ rfl
    have c2 := blk_cell Hb5.out 2 _ rfl
    have c3 := blk_cell Hb5.out 3 _ rfl
    have hb5 := Hb5.out
    have hg5 := Hg5.out
    go_wp2_with fail
    refine wp_region_held_drew (S := fun w' => w'.heap[w1.heap.size]? = some (.cells #[.int .i64 b.start, .int .i64 b.stop, .int .i64 b.months, .int .i64 b.rate] 25 (0, 0)) ∧ w.grownBy w' none) (by kernel_rfl) ⟨hb5, gr_drew hg5⟩ (fun hHeld => ?_)
    refine wpAnyH_take (i := 0) (v := ?_) rfl (by kernel_rfl) (by kernel_rfl) (by kernel_rfl) (fun _ _ _ h => h) (Or.inl ⟨by rfl, ?_⟩) hHeld ?_
    rotate_left
    · intro w9 hSw
      (obtain ⟨sb, _⟩ := hSw; have s0 := blk_cell sb 0 _ rfl; have s1 := blk_cell sb 1 _ rfl; have s2 := blk_cell sb 2 _ rfl; have s3 := blk_cell sb 3 _ rfl; clear sb)
      go_simp
      all_goals (try with_reducible rfl)
    (try simp only [Act.put]); (try simp only [List.getElem_toArray]); (try simp only [List.getElem_cons_succ]); (try simp only [List.getElem_cons_zero]); (try simp only [List.setIfInBounds_toArray]); (try simp only [List.set_cons_succ]); (try simp only [List.set_cons_zero])
    refine wpAnyH_take (i := 1) (v := ?_) rfl (by kernel_rfl) (by kernel_rfl) (by kernel_rfl) (fun _ _ _ h => h) (Or.inl ⟨by rfl, ?_⟩) hHeld ?_
    rotate_left
    · intro w9 hSw
      (obtain ⟨sb, _⟩ := hSw; have s0 := blk_cell sb 0 _ rfl; have s1 := blk_cell sb 1 _ rfl; have s2 := blk_cell sb 2 _ rfl; have s3 := blk_cell sb 3 _ rfl; clear sb)
      go_simp
      all_goals (try with_reducible rfl)
    (try simp only [Act.put]); (try simp only [List.getElem_toArray]); (try simp only [List.getElem_cons_succ]); (try simp only [List.getElem_cons_zero]); (try simp only [List.setIfInBounds_toArray]); (try simp only [List.set_cons_succ]); (try simp only [List.set_cons_zero])
    refine wpAnyH_take (i := 2) (v := ?_) rfl (by kernel_rfl) (by kernel_rfl) (by kernel_rfl) (fun _ _ _ h => h) (Or.inl ⟨by rfl, ?_⟩) hHeld ?_
    rotate_left
    · intro w9 hSw
      (obtain ⟨sb, _⟩ := hSw; have s0 := blk_cell sb 0 _ rfl; have s1 := blk_cell sb 1 _ rfl; have s2 := blk_cell sb 2 _ rfl; have s3 := blk_cell sb 3 _ rfl; clear sb)
      go_simp
      all_goals (try with_reducible rfl)
    (try simp only [Act.put]); (try simp only [List.getElem_toArray]); (try simp only [List.getElem_cons_succ]); (try simp only [List.getElem_cons_zero]); (try simp only [List.setIfInBounds_toArray]); (try simp only [List.set_cons_succ]); (try simp only [List.set_cons_zero])
    refine wpAnyH_ready (rs := [3]) (by kernel_rfl) (by simp) ?_
    refine AllReadyH.cons rfl (fun K' hK' => ?_) AllReadyH.nil
    go_simp
    refine (HA.out b.stop _ (Hm.out.keep0 hHeld.2)).mono ?_
    rintro e' w6 ⟨za, zn, zc, rfl, ho, _, hg⟩
    (try simp only [])
    refine hK'.out _ _ ⟨blk_keep hHeld.1 hg (by simp), gr_trans0 hHeld.2 hg⟩ (fun hHeldN => ?_)
    have Hgs6 := hid hg
    have hHeld := hHeldN
    clear hK' K' hHeldN hg
    (try simp only [Act.put]); (try simp only [List.getElem_toArray]); (try simp only [List.getElem_cons_succ]); (try simp only [List.getElem_cons_zero]); (try simp only [List.setIfInBounds_toArray]); (try simp only [List.set_cons_succ]); (try simp only [List.set_cons_zero])
    rw [Hst.out] at ho
    obtain rfl : zn = 0 := by have := ho.len; simpa using this.symm
    clear ho
    refine wpAnyH_take (i := 4) (v := ?_) rfl (by kernel_rfl) (by kernel_rfl) (by kernel_rfl) (fun _ _ _ h => h) (Or.inl ⟨by rfl, ?_⟩) hHeld ?_
    rotate_left
    · intro w9 hSw
      (obtain ⟨sb, _⟩ := hSw; have s0 := blk_cell sb 0 _ rfl; have s1 := blk_cell sb 1 _ rfl; have s2 := blk_cell sb 2 _ rfl; have s3 := blk_cell sb 3 _ rfl; clear sb)
      go_simp
      all_goals (try with_reducible rfl)
    (try simp only [Act.put]); (try simp only [List.getElem_toArray]); (try simp only [List.getElem_cons_succ]); (try simp only [List.getElem_cons_zero]); (try simp only [List.setIfInBounds_toArray]); (try simp only [List.set_cons_succ]); (try simp only [List.set_cons_zero])
    refine wpAnyH_take (i := 5) (v := ?_) rfl (by kernel_rfl) (by kernel_rfl) (by kernel_rfl) (fun _ _ _ h => h) (Or.inl ⟨by rfl, ?_⟩) hHeld ?_
    rotate_left
    · intro w9 hSw
      (obtain ⟨sb, _⟩ := hSw; have s0 := blk_cell sb 0 _ rfl; have s1 := blk_cell sb 1 _ rfl; have s2 := blk_cell sb 2 _ rfl; have s3 := blk_cell sb 3 _ rfl; clear sb)
      go_simp
      all_goals (try with_reducible rfl)
    (try simp only [Act.put]); (try simp only [List.getElem_toArray]); (try simp only [List.getElem_cons_succ]); (try simp only [List.getElem_cons_zero]); (try simp only [List.setIfInBounds_toArray]); (try simp only [List.set_cons_succ]); (try simp only [List.set_cons_zero])
    refine wpAnyH_take (i := 6) (v := ?_) rfl (by kernel_rfl) (by kernel_rfl) (by kernel_rfl) (fun _ _ _ h => h) (Or.inl ⟨by rfl, ?_⟩) hHeld ?_
    rotate_left
    · intro w9 hSw
      (obtain ⟨sb, _⟩ := hSw; have s0 := blk_cell sb 0 _ rfl; have s1 := blk_cell sb 1 _ rfl; have s2 := blk_cell sb 2 _ rfl; have s3 := blk_cell sb 3 _ rfl; clear sb)
      go_simp
      all_goals (try with_reducible rfl)
    (try simp only [Act.put]); (try simp only [List.getElem_toArray]); (try simp only [List.getElem_cons_succ]); (try simp only [List.getElem_cons_zero]); (try simp only [List.setIfInBounds_toArray]); (try simp only [List.set_cons_succ]); (try simp only [List.set_cons_zero])
    refine wpAnyH_take (i := 7) (v := ?_) rfl (by kernel_rfl) (by kernel_rfl) (by kernel_rfl) (fun _ _ _ h => h) (Or.inl ⟨by rfl, ?_⟩) hHeld ?_
    rotate_left
    · intro w9 hSw
      (obtain ⟨sb, _⟩ := hSw; have s0 := blk_cell sb 0 _ rfl; have s1 := blk_cell sb 1 _ rfl; have s2 := blk_cell sb 2 _ rfl; have s3 := blk_cell sb 3 _ rfl; clear sb)
      go_simp
      all_goals (try with_reducible rfl)
    (try simp only [Act.put]); (try simp only [List.getElem_toArray]); (try simp only [List.getElem_cons_succ]); (try simp only [List.getElem_cons_zero]); (try simp only [List.setIfInBounds_toArray]); (try simp only [List.set_cons_succ]); (try simp only [List.set_cons_zero])
    refine wpAnyH_take (i := 8) (v := ?_) rfl (by kernel_rfl) (by kernel_rfl) (by kernel_rfl) (fun _ _ _ h => h) (Or.inl ⟨by rfl, ?_⟩) hHeld ?_
    rotate_left
    · intro w9 hSw
      (obtain ⟨sb, _⟩ := hSw; have s0 := blk_cell sb 0 _ rfl; have s1 := blk_cell sb 1 _ rfl; have s2 := blk_cell sb 2 _ rfl; have s3 := blk_cell sb 3 _ rfl; clear sb)
      go_simp
      all_goals (try with_reducible rfl)
    (try simp only [Act.put]); (try simp only [List.getElem_toArray]); (try simp only [List.getElem_cons_succ]); (try simp only [List.getElem_cons_zero]); (try simp only [List.setIfInBounds_toArray]); (try simp only [List.set_cons_succ]); (try simp only [List.set_cons_zero])
    refine wpAnyH_take (i := 9) (v := ?_) rfl (by kernel_rfl) (by kernel_rfl) (by kernel_rfl) (fun _ _ _ h => h) (Or.inl ⟨by rfl, ?_⟩) hHeld ?_
    rotate_left
    · intro w9 hSw
      (obtain ⟨sb, _⟩ := hSw; have s0 := blk_cell sb 0 _ rfl; have s1 := blk_cell sb 1 _ rfl; have s2 := blk_cell sb 2 _ rfl; have s3 := blk_cell sb 3 _ rfl; clear sb)
      go_simp
      all_goals (try with_reducible rfl)
    (try simp only [Act.put]); (try simp only [List.getElem_toArray]); (try simp only [List.getElem_cons_succ]); (try simp only [List.getElem_cons_zero]); (try simp only [List.setIfInBounds_toArray]); (try simp only [List.set_cons_succ]); (try simp only [List.set_cons_zero])
    refine wpAnyH_take (i := 10) (v := ?_) rfl (by kernel_rfl) (by kernel_rfl) (by kernel_rfl) (fun _ _ _ h => h) (Or.inl ⟨by rfl, ?_⟩) hHeld ?_
    rotate_left
    · intro w9 hSw
      (obtain ⟨sb, _⟩ := hSw; have s0 := blk_cell sb 0 _ rfl; have s1 := blk_cell sb 1 _ rfl; have s2 := blk_cell sb 2 _ rfl; have s3 := blk_cell sb 3 _ rfl; clear sb)
      go_simp
      all_goals (try with_reducible rfl)
    (try simp only [Act.put]); (try simp only [List.getElem_toArray]); (try simp only [List.getElem_cons_succ]); (try simp only [List.getElem_cons_zero]); (try simp only [List.setIfInBounds_toArray]); (try simp only [List.set_cons_succ]); (try simp only [List.set_cons_zero])
    (try simp only [hw1])
    refine wpAnyH_take (i := 12) (v := ?_) rfl (by kernel_rfl) (by kernel_rfl) (by kernel_rfl) (fun _ _ _ h => h) (Or.inl ⟨by rfl, ?_⟩) hHeld ?_
    rotate_left
    · intro w9 hSw
      (obtain ⟨sb, _⟩ := hSw; have s0 := blk_cell sb 0 _ rfl; have s1 := blk_cell sb 1 _ rfl; have s2 := blk_cell sb 2 _ rfl; have s3 := blk_cell sb 3 _ rfl; clear sb)
      go_simp
      all_goals (try with_reducible rfl)
    (try simp only [Act.put]); (try simp only [List.getElem_toArray]); (try simp only [List.getElem_cons_succ]); (try simp only [List.getElem_cons_zero]); (try simp only [List.setIfInBounds_toArray]); (try simp only [List.set_cons_succ]); (try simp only [List.set_cons_zero])
    refine wpAnyH_ready (rs := [11]) (by kernel_rfl) (by simp) ?_
    refine AllReadyH.cons rfl (fun K' hK' => ?_) AllReadyH.nil
    go_simp
    refine (HA.out (b.start - 1) _ (Hm.out.keep0 hHeld.2)).mono ?_
    rintro e' w7 ⟨xa, xn, xc, rfl, ho, _, hg⟩
    (try simp only [])
    refine hK'.out _ _ ⟨blk_keep hHeld.1 hg (by simp), gr_trans0 hHeld.2 hg⟩ (fun hHeldN => ?_)
    have Hgs7 := hid hg
    have hHeld := hHeldN
    clear hK' K' hHeldN hg
    (try simp only [Act.put]); (try simp only [List.getElem_toArray]); (try simp only [List.getElem_cons_succ]); (try simp only [List.getElem_cons_zero]); (try simp only [List.setIfInBounds_toArray]); (try simp only [List.set_cons_succ]); (try simp only [List.set_cons_zero])
    rw [Hsa.out] at ho
    have h40c : xn ≤ 1000 := by have := ho.len; have := (Hl.out 0).2; omega
    have How7 := hid ho
    clear ho
    refine wpAnyH_ready (rs := [13]) (by kernel_rfl) (by simp) ?_
    refine AllReadyH.cons rfl (fun K' hK' => ?_) AllReadyH.nil
    go_simp
    refine (HF.out _ (Hm.out.keep0 hHeld.2)).mono ?_
    rintro e' w8 ⟨ya, yn, yc, rfl, ho, _, hg⟩
    (try simp only [])
    refine hK'.out _ _ ⟨blk_keep hHeld.1 hg (by simp), gr_trans0 hHeld.2 hg⟩ (fun hHeldN => ?_)
    have Hgs8 := hid hg
    have hHeld := hHeldN
    clear hK' K' hHeldN hg
    (try simp only [Act.put]); (try simp only [List.getElem_toArray]); (try simp only [List.getElem_cons_succ]); (try simp only [List.getElem_cons_zero]); (try simp only [List.setIfInBounds_toArray]); (try simp only [List.set_cons_succ]); (try simp only [List.set_cons_zero])
    have h40d : yn ≤ 1000 := by have := ho.len; have := (Hl.out 0).2; omega
    have hE8 := equalFlows_any xa ya xn yn xc yc _ _ w8 (How7.out.keep0 Hgs8.out).sl ho.sl h40c h40d
    rw [decide_eq_true rfl] at hE8
    have HE8 := hid hE8
    clear ho hE8
    refine wpAnyH_ready (rs := [14]) (by kernel_rfl) (by simp) ?_
    refine AllReadyH.cons rfl (fun K' hK' => ?_) AllReadyH.nil
    go_simp
    refine (HE8.out).mono ?_
    rintro e' w9 ⟨rfl, hg⟩
    (try simp only [])
    refine hK'.out _ _ ⟨blk_keep hHeld.1 hg (by simp), gr_trans0 hHeld.2 hg⟩ (fun hHeldN => ?_)
    have Hgs9 := hid hg
    have hHeld := hHeldN
    clear hK' K' hHeldN hg
    (try simp only [Act.put]); (try simp only [List.getElem_toArray]); (try simp only [List.getElem_cons_succ]); (try simp only [List.getElem_cons_zero]); (try simp only [List.setIfInBounds_toArray]); (try simp only [List.set_cons_succ]); (try simp only [List.set_cons_zero])
    refine wpAnyH_take (i := 15) (v := ?_) rfl (by kernel_rfl) (by kernel_rfl) (by kernel_rfl) (fun _ _ _ h => h) (Or.inl ⟨by rfl, ?_⟩) hHeld ?_
    rotate_left
    · intro w9 hSw
      (obtain ⟨sb, _⟩ := hSw; have s0 := blk_cell sb 0 _ rfl; have s1 := blk_cell sb 1 _ rfl; have s2 := blk_cell sb 2 _ rfl; have s3 := blk_cell sb 3 _ rfl; clear sb)
      go_simp
      all_goals (try with_reducible rfl)
    (try simp only [Act.put]); (try simp only [List.getElem_toArray]); (try simp only [List.getElem_cons_succ]); (try simp only [List.getElem_cons_zero]); (try simp only [List.setIfInBounds_toArray]); (try simp only [List.set_cons_succ]); (try simp only [List.set_cons_zero])
    refine wpAnyH_take (i := 16) (v := ?_) rfl (by kernel_rfl) (by kernel_rfl) (by kernel_rfl) (fun _ _ _ h => h) (Or.inl ⟨by rfl, ?_⟩) hHeld ?_
    rotate_left
    · intro w9 hSw
      (obtain ⟨sb, _⟩ := hSw; have s0 := blk_cell sb 0 _ rfl; have s1 := blk_cell sb 1 _ rfl; have s2 := blk_cell sb 2 _ rfl; have s3 := blk_cell sb 3 _ rfl; clear sb)
      go_simp
      all_goals (try with_reducible rfl)
    (try simp only [Act.put]); (try simp only [List.getElem_toArray]); (try simp only [List.getElem_cons_succ]); (try simp only [List.getElem_cons_zero]); (try simp only [List.setIfInBounds_toArray]); (try simp only [List.set_cons_succ]); (try simp only [List.set_cons_zero])
    refine wpAnyH_done (by kernel_rfl) ?_ _
    have HgF := hid hHeld.2
    clear hHeld hb5 hg5
    go_wp2_with fail
    go_ret
    exact ⟨rfl, HgF.out⟩

set_option maxRecDepth 100000 in
theorem lifted (os : Os) (started : os.Started) (H : Type) (enc : TypeId × Value → H) :
    ReturnsInHanded {} Tryd.checked os 8 .any (fun w args => (Rows.fnFlowsAfterNoneSpec.pre enc Tryd.prog Tryd.f8 Rows.fnFlowsAfterNoneRow.domain false w args ∧ laidMetH Tryd.prog laidMonths w) ∧ sizedMet enc Tryd.prog Tryd.f8 (OpenSpec.ofChange Rows.fnFlowsAfterNoneSpec) false w args) (Rows.fnFlowsAfterNoneSpec.post enc Tryd.prog Tryd.f8 false true false false) := by
  refine returnsInHanded_of_change_and (C := Tryd.checked) (X := fun w _ => laidMetH Tryd.prog laidMonths w) (fun _ _ _ hh h => h.of_heap hh) Tryd.own started (by kernel_rfl) Tryd.func8
    (ChangeSpec.witness_shaped (enc := enc) (C := Tryd.checked) (os := os) (X := fun w _ => laidMetH Tryd.prog laidMonths w) false (World.doorLaid Tryd.prog 400 os) #[.slice none 0 0] 8 rfl (World.shaped_of_RefB (by kernel_rfl) (by kernel_rfl)) (by kernel_rfl) (by kernel_rfl) (by kernel_rfl) (door_met os _)) ?_
  intro W base args ds gs before hval0 hW _ _ hL _
  have hval : ∀ (j : Nat) t v, Tryd.f8.params[j]? = some t → args[j]? = some v → Value.okWide Tryd.prog W .any base t v := hval0
  have hW' := hW
  obtain ⟨p, q, hA0, hV, rfl, hfz, hnd⟩ := hW
  have hA : DataW.TrodAll enc Tryd.prog W 0 (fun _ => true) true Tryd.f8.params.toList args.toList ds p := hA0
  rw [Tryd.params8] at hA hval
  have hA2 := hA
  obtain ⟨v0, vs0, d0, ds0, p0, q0, hargs, rfl, rfl, h0, r0⟩ := trodAll_cons hA
  obtain ⟨rfl, rfl, rfl⟩ := trodAll_nil r0
  obtain rfl : args = #[v0] := by cases args; simp_all
  obtain ⟨g0, rfl⟩ := vars_one hV
  have hlt : ∀ x ∈ (p0 ++ []) ++ q, x.block < W.heap.size := fun x hx => hW'.lt x hx
  obtain ⟨a0, n0, cap0, rfl⟩ := okWide_slice Tryd.underlying32 (hval 0 32 v0 rfl rfl)
  obtain ⟨fuel0, hf0⟩ := h0
  obtain ⟨xs0, hs0, hc0, hw0⟩ := sl_ints u8L (fun _ => rfl) rfl Tryd.underlying32 Tryd.underlying5 Tryd.cellsU8 hf0
  refine (walk a0 n0 cap0 xs0 W (months_of_laid hL) hs0 hc0 (fun z hz => u8_range (hw0 z hz))).mono fun e W' ⟨he, hg⟩ => ?_
  subst he
  have hb := below_of_gr hg
  refine ⟨_, rfl, _, _, _, [], p0 ++ [], q, hW', ?_, ?_, vars_stay hb hV, hb.frame _, fun h => by cases h⟩
  · exact trodAll_mk1 (shut_bool Tryd.underlying4 _)
  · exact args_stay hb _ _ _ _ hA2 (fun x hx => hlt x (List.mem_append_left _ (by simpa using hx))) (by intro t ht; simp at ht; subst ht; exact ⟨by kernel_rfl, of_decide_eq_true (by kernel_rfl)⟩)

set_option maxRecDepth 100000 in
theorem closed : joinedFacts Tryd.pinned.checked.prog 8 Tryd.f8 Rows.fnFlowsAfterNoneSpec Rows.fnFlowsAfterNoneRow = true := by
  rw [joinedFacts, show Tryd.pinned.checked.prog.mayEnter = true from Tryd.enters, show Tryd.pinned.checked.prog.liftsFinal = false from Tryd.lifts, show Tryd.pinned.checked.prog.make = some .cut from Tryd.cut]
  kernel_rfl

theorem row_holds : Rows.FnFlowsAfterNoneSaid :=
  OpenClaim.holds_of_wide 8 Tryd.f8 rfl rfl rfl rfl rfl rfl rfl ⟨rfl, rfl, rfl, rfl, rfl⟩ rfl rfl rfl rfl rfl (by kernel_rfl) Tryd.func8 closed
    (of_decide_eq_true (by kernel_rfl)) (by unfold Func.isWrapper; first | (rw [if_pos (by decide +kernel)]; kernel_rfl) | (rw [if_neg (by decide +kernel)]; exact ⟨rfl, rfl⟩))
    (fun os started H enc _ => lifted os started H enc)

theorem holds : Rows.FnFlowsAfterNoneCardSaid :=
  Claim7.holds_tied_plain_at .later [] [.data] true (true, "22dfc429811bdb46a90c5d9e37b95d9549ab5b19e19d6b6766dabd62dd407f7b") false
    row_holds (fun _ h => by cases h) (by kernel_rfl) (fun _ h => by cases h) fnFlowsAfterNone_row_tie rfl ⟨rfl, rfl⟩ (by kernel_rfl) rfl
    (fun f fn hf hfn => by
      obtain rfl : f = 8 := Option.some.inj ((show Tryd.prog.funcNamed "loop.example/bonddesk/laws.FnFlowsAfterNone" = some 8 by kernel_rfl).symm.trans hf) |>.symm
      obtain rfl : fn = Tryd.f8 := (Option.some.inj (Tryd.func8.symm.trans hfn)).symm
      exact ⟨by kernel_rfl, fun j t ht => by
        rw [Tryd.params8] at ht
        have hm : t ∈ [32] := by simpa using Array.mem_of_getElem? ht
        have hall : ([32].all fun u => !Tryd.prog.wantsStandIn u) = true := by kernel_rfl
        exact (show Tryd.prog.wantsStandIn t = false by simpa using List.all_eq_true.1 hall t hm)⟩)
    (by kernel_rfl)
end FnFlowsAfterNone
end Go.Proofs.YtpmafjmgacdgfaaDoor
