/- The payments of a bond: flows, FlowsOf, FlowsAfter and NextFlow of the program. -/
import Derived.Test.YtkgjciacdjhhfaaDoorRows
import Derived.Test.YtkgjciacdjhhfaaDoorBase
import Derived.Test.YtkgjciacdjhhfaaDoorBondFacts
import Derived.Test.YtkgjciacdjhhfaaDoorBondWalk
import Derived.Test.YtkgjciacdjhhfaaDoorFamFlow
import Derived.Deep.AppendLies
import Derived.Deep.RegionHeld
namespace Go.Proofs.YtkgjciacdjhhfaaDoor
open Go.RowKit

theorem infoFlowX : (Tryd.prog.info? 45).map (fun i => (i.zero, i.size, i.bytes)) = some (some (.agg #[.int .i64 0, .int .i64 0]), 2, 16) := by kernel_rfl
theorem infoPtsX {T : TypeId} {z : Value} {s y : Nat} (h : (Tryd.prog.info? T).map (fun i => (i.zero, i.size, i.bytes)) = some (some z, s, y)) : ∃ i, Tryd.prog.info? T = some i ∧ i.zero = some z ∧ i.size = s ∧ i.bytes = y := by
  cases hi : Tryd.prog.info? T with
  | none => rw [hi] at h; cases h
  | some i => rw [hi] at h; simp at h; exact ⟨i, rfl, h.1, h.2.1, h.2.2⟩

theorem coups_at {b : Bond} {k : Nat} {p : Per} (h : (persF b)[k]? = some p) : (coupsF b)[k]? = some ⟨p.till, coupF b p⟩ := by unfold coupsF; rw [List.getElem?_map, h]; rfl
theorem coups_len (b : Bond) : (coupsF b).length = (persF b).length := by unfold coupsF; rw [List.length_map]

/-- What is owned and has something in it lies in a block at its beginning. -/
theorem own_ow {w : World} {base e : Nat} {g n cap : Nat} {xs : List Flow} (h : w.ownsRow base e 2 (.slice (some ⟨g, 0, none⟩) n cap) n (xs.flatMap flowL.cells)) (hn : n ≤ 1000) (hl : xs.length = n) : Ow flowL w base (some ⟨g, 0, none⟩) n xs ∧ n ≤ cap := by
  refine ⟨Ow.of_own (L := flowL) h hl (by unfold maxLen; omega), ?_⟩
  rcases h.2 with ⟨e9, _⟩ | ⟨g9, cap9, cur, e9, _, _, h7, _⟩
  · cases e9
  · cases e9; exact h7

set_option maxRecDepth 100000 in
set_option maxHeartbeats 2000000 in
theorem flows_any (b : Bond) (w : World) (hmo : Months w) (h : OkBond b) :
    Calls Tryd.prog 49 #[.agg #[.int .i64 b.start, .int .i64 b.stop, .int .i64 b.months, .int .i64 b.rate]] w fun e' w' => ∃ a n cap, e' = .returned (.slice a n cap) ∧ Ow flowL w' w.heap.size a n (flowsL b) ∧ n ≤ cap ∧ w.grownBy w' none := by
  obtain ⟨i0, hi, hz0, hz1, hz2⟩ := infoPtsX infoFlowX
  have hg0 : w.grownBy (w.alloc (.cells #[.int .i64 b.start, .int .i64 b.stop, .int .i64 b.months, .int .i64 b.rate] 27)) none := gr_alloc (gr0 _) _
  have Hb0 := hid (heap_alloc_new w (.cells #[.int .i64 b.start, .int .i64 b.stop, .int .i64 b.months, .int .i64 b.rate] 27))
  have HP := hid (periods_any b _ (hmo.keep0 hg0))
  have Hsf := hid (show schedF b.start b.stop b.months = persF b by unfold schedF persF; rw [if_pos h.ok])
  have hpl : (persF b).length ≤ 40 := by unfold persF; rw [sched_len]; exact h.span.q2
  have hp1 : 1 ≤ (persF b).length := h.chain.ne
  have HG := hid hg0
  have HC := hid (fun p hp wx (hx : w.grownBy wx none) => coupon_any b p wx h (pers_okPer h p hp) (hmo.keep0 hx))
  have Hset := hid (fun f i hi hf => faceLast_set (coupsF b) f i hi hf)
  have Hcb := hid (fun p hp => coup_bd h p (pers_okPer h p hp))
  have Hfl := hid (show flowsL b = faceLast (coupsF b) from rfl)
  clear hg0 hmo h
  go_enter Tryd.func49, Tryd.ntmps49
  go_wp2_with fail
  refine HP.out.mono ?_
  rintro e' w1 ⟨a, n, cap, rfl, ho, hc, hg⟩
  rw [Hsf.out] at ho
  have hnl := ho.len
  have Ho := hid ho
  have Hg1 := hid (gr_trans0 HG.out hg)
  have Hb1 := hid (blk_keep Hb0.out hg (by simp))
  obtain ⟨Z, hZ, hmk⟩ : ∃ Z : Array Value, Z.size = n * 2 ∧ ∀ wx : World, (Instr.makeSlice 42 (.int .i64 0) (.int .i64 n)).run Tryd.prog wx = .ok (.slice (some ⟨wx.heap.size, 0, none⟩) 0 n) (wx.alloc (.cells Z 45)) := by
    refine ⟨madeCells (Value.cells (.agg #[.int .i64 0, .int .i64 0])) (n * i0.size), by rw [size_madeCells, hz1], fun wx => ?_⟩
    have := run_make (P := Tryd.prog) wx 42 45 i0 _ Tryd.underlying42 hi hz0 .i64 .i64 0 n (Int.le_refl _) (by omega) (by rw [hz2]; omega) (by omega)
    simpa using this
  have hn40 : n ≤ 40 := by omega
  have hn1 : 1 ≤ n := by omega
  have hcl : (coupsF b).length = n := by rw [coups_len]; omega
  have Hcl := hid hcl
  have Hnl := hid hnl
  have HA := hid (show (w1.alloc (.cells Z 45)).ownsRow w1.heap.size 45 2 (.slice (some ⟨w1.heap.size, 0, none⟩) 0 n) 0 [] from World.ownsRow_made w1 Z n (Nat.le_refl _) (by unfold maxLen; omega) hZ)
  clear ho hc hg hpl hp1 hcl hnl hZ
  go_wp2_with fail
  go_loopw [4, 14] (fun o i wr => ∃ k g gc : Nat, k ≤ n ∧ i = .int .i64 k ∧ o = .slice (some ⟨g, 0, none⟩) k gc ∧ wr.ownsRow w1.heap.size 45 2 (.slice (some ⟨g, 0, none⟩) k gc) k (((coupsF b).take k).flatMap flowL.cells) ∧ w1.grownBy wr none) (fun _ i _ => n - (intOf i).toNat)
  case atStart => exact ⟨0, w1.heap.size, n, by omega, rfl, rfl, by simpa using HA.out, gr_alloc (gr0 _) _⟩
  case round =>
    clear HA
    obtain ⟨k, g, gc, hk, rfl, rfl, hrow, hgr⟩ := hrel
    have Hgr := hid hgr
    have Hrow := hid hrow
    clear hgr hrow
    by_cases hlt : k < n
    · obtain ⟨lb, lo, p, rfl, hp, l0, l1, l2⟩ := per_at (Ho.out.sl.keep0 Hgr.out) k hlt
      have Hp := hid hp
      have hi0 : (0 : Int) ≤ k := by omega
      have hi1 : (k : Int) < n := by omega
      have hbW := blk_alloc (blk_keep Hb1.out Hgr.out (by simp)) (.cells #[.int .i64 p.frm, .int .i64 p.till, .bool p.whole] 72)
      have hpW := heap_alloc_new wr (.cells #[.int .i64 p.frm, .int .i64 p.till, .bool p.whole] 72)
      have hgW : w1.grownBy (wr.alloc (.cells #[.int .i64 p.frm, .int .i64 p.till, .bool p.whole] 72)) none := gr_alloc Hgr.out _
      have hrW := Hrow.out.alloc (.cells #[.int .i64 p.frm, .int .i64 p.till, .bool p.whole] 72)
      have hgl := (Hrow.out.lt g rfl).2
      have hw1b : w.heap.size < w1.heap.size := blk_lt Hb1.out
      clear hp
      go_wp2_with fail
      clear l0 l1 l2
      have hPge := gr_le Hgr.out
      obtain ⟨P, hP⟩ : ∃ P, P = wr.heap.size := ⟨_, rfl⟩
      rw [← hP] at hpW hgl hPge ⊢
      generalize (wr.alloc (.cells #[.int .i64 p.frm, .int .i64 p.till, .bool p.whole] 72)) = W at *
      have HbW := hid hbW
      have HpW := hid hpW
      have HgW := hid hgW
      have HrW := hid hrW
      clear hP
      have hrD := HrW.out.drew
      clear hrW hbW hpW hgW
      refine wp_region_held_drew (S := fun w' => (w'.heap[w.heap.size]? = some (.cells #[.int .i64 b.start, .int .i64 b.stop, .int .i64 b.months, .int .i64 b.rate] 27 (0, 0)) ∧ w'.heap[P]? = some (.cells #[.int .i64 p.frm, .int .i64 p.till, .bool p.whole] 72 (0, 0))) ∧ w1.grownBy w' none) (by kernel_rfl) ⟨⟨HbW.out, HpW.out⟩, gr_drew HgW.out⟩ (fun hHeld => ?_)
      refine wpAnyH_take (i := 0) (v := ?_) rfl (by kernel_rfl) (by kernel_rfl) (by kernel_rfl) (fun _ _ _ h => h) (Or.inl ⟨by rfl, ?_⟩) hHeld ?_
      rotate_left
      · intro w9 hSw
        (obtain ⟨⟨sb, sp⟩, _⟩ := hSw; have s0 := blk_cell sb 0 _ rfl; have s1 := blk_cell sb 1 _ rfl; have s2 := blk_cell sb 2 _ rfl; have s3 := blk_cell sb 3 _ rfl; have u0 := blk_cell sp 0 _ rfl; have u1 := blk_cell sp 1 _ rfl; have u2 := blk_cell sp 2 _ rfl; clear sb sp)
        go_simp
        all_goals (try with_reducible rfl)
      (try simp only [Act.put]); (try simp only [List.getElem_toArray]); (try simp only [List.getElem_cons_succ]); (try simp only [List.getElem_cons_zero]); (try simp only [List.setIfInBounds_toArray]); (try simp only [List.set_cons_succ]); (try simp only [List.set_cons_zero])
      refine wpAnyH_take (i := 1) (v := ?_) rfl (by kernel_rfl) (by kernel_rfl) (by kernel_rfl) (fun _ _ _ h => h) (Or.inl ⟨by rfl, ?_⟩) hHeld ?_
      rotate_left
      · intro w9 hSw
        (obtain ⟨⟨sb, sp⟩, _⟩ := hSw; have s0 := blk_cell sb 0 _ rfl; have s1 := blk_cell sb 1 _ rfl; have s2 := blk_cell sb 2 _ rfl; have s3 := blk_cell sb 3 _ rfl; have u0 := blk_cell sp 0 _ rfl; have u1 := blk_cell sp 1 _ rfl; have u2 := blk_cell sp 2 _ rfl; clear sb sp)
        go_simp
        all_goals (try with_reducible rfl)
      (try simp only [Act.put]); (try simp only [List.getElem_toArray]); (try simp only [List.getElem_cons_succ]); (try simp only [List.getElem_cons_zero]); (try simp only [List.setIfInBounds_toArray]); (try simp only [List.set_cons_succ]); (try simp only [List.set_cons_zero])
      refine wpAnyH_take (i := 2) (v := ?_) rfl (by kernel_rfl) (by kernel_rfl) (by kernel_rfl) (fun _ _ _ h => h) (Or.inl ⟨by rfl, ?_⟩) hHeld ?_
      rotate_left
      · intro w9 hSw
        (obtain ⟨⟨sb, sp⟩, _⟩ := hSw; have s0 := blk_cell sb 0 _ rfl; have s1 := blk_cell sb 1 _ rfl; have s2 := blk_cell sb 2 _ rfl; have s3 := blk_cell sb 3 _ rfl; have u0 := blk_cell sp 0 _ rfl; have u1 := blk_cell sp 1 _ rfl; have u2 := blk_cell sp 2 _ rfl; clear sb sp)
        go_simp
        all_goals (try with_reducible rfl)
      (try simp only [Act.put]); (try simp only [List.getElem_toArray]); (try simp only [List.getElem_cons_succ]); (try simp only [List.getElem_cons_zero]); (try simp only [List.setIfInBounds_toArray]); (try simp only [List.set_cons_succ]); (try simp only [List.set_cons_zero])
      refine wpAnyH_take (i := 3) (v := ?_) rfl (by kernel_rfl) (by kernel_rfl) (by kernel_rfl) (fun _ _ _ h => h) (Or.inl ⟨by rfl, ?_⟩) hHeld ?_
      rotate_left
      · intro w9 hSw
        (obtain ⟨⟨sb, sp⟩, _⟩ := hSw; have s0 := blk_cell sb 0 _ rfl; have s1 := blk_cell sb 1 _ rfl; have s2 := blk_cell sb 2 _ rfl; have s3 := blk_cell sb 3 _ rfl; have u0 := blk_cell sp 0 _ rfl; have u1 := blk_cell sp 1 _ rfl; have u2 := blk_cell sp 2 _ rfl; clear sb sp)
        go_simp
        all_goals (try with_reducible rfl)
      (try simp only [Act.put]); (try simp only [List.getElem_toArray]); (try simp only [List.getElem_cons_succ]); (try simp only [List.getElem_cons_zero]); (try simp only [List.setIfInBounds_toArray]); (try simp only [List.set_cons_succ]); (try simp only [List.set_cons_zero])
      refine wpAnyH_take (i := 4) (v := ?_) rfl (by kernel_rfl) (by kernel_rfl) (by kernel_rfl) (fun _ _ _ h => h) (Or.inl ⟨by rfl, ?_⟩) hHeld ?_
      rotate_left
      · intro w9 hSw
        (obtain ⟨⟨sb, sp⟩, _⟩ := hSw; have s0 := blk_cell sb 0 _ rfl; have s1 := blk_cell sb 1 _ rfl; have s2 := blk_cell sb 2 _ rfl; have s3 := blk_cell sb 3 _ rfl; have u0 := blk_cell sp 0 _ rfl; have u1 := blk_cell sp 1 _ rfl; have u2 := blk_cell sp 2 _ rfl; clear sb sp)
        go_simp
        all_goals (try with_reducible rfl)
      (try simp only [Act.put]); (try simp only [List.getElem_toArray]); (try simp only [List.getElem_cons_succ]); (try simp only [List.getElem_cons_zero]); (try simp only [List.setIfInBounds_toArray]); (try simp only [List.set_cons_succ]); (try simp only [List.set_cons_zero])
      refine wpAnyH_ready (rs := [5]) (by kernel_rfl) (by simp) ?_
      refine AllReadyH.cons rfl (fun K' hK' => ?_) AllReadyH.nil
      go_simp
      refine (HC.out p (List.mem_of_getElem? Hp.out) _ (gr_trans0 Hg1.out hHeld.2)).mono ?_
      rintro e' wz ⟨rfl, hgz⟩
      (try simp only [])
      refine hK'.out _ _ ⟨⟨blk_keep hHeld.1.1 hgz (by simp), blk_keep hHeld.1.2 hgz (by simp)⟩, gr_trans0 hHeld.2 hgz⟩ (fun hHeldB => ?_)
      have hHeld := hHeldB
      have hrZ := own_keep0 hrD hgz
      clear hK' K' hHeldB hgz hrD
      (try simp only [Act.put]); (try simp only [List.getElem_toArray]); (try simp only [List.getElem_cons_succ]); (try simp only [List.getElem_cons_zero]); (try simp only [List.setIfInBounds_toArray]); (try simp only [List.set_cons_succ]); (try simp only [List.set_cons_zero])
      refine wpAnyH_take (i := 6) (v := ?_) rfl (by kernel_rfl) (by kernel_rfl) (by kernel_rfl) (fun _ _ _ h => h) (Or.inl ⟨by rfl, ?_⟩) hHeld ?_
      rotate_left
      · intro w9 hSw
        (obtain ⟨⟨sb, sp⟩, _⟩ := hSw; have s0 := blk_cell sb 0 _ rfl; have s1 := blk_cell sb 1 _ rfl; have s2 := blk_cell sb 2 _ rfl; have s3 := blk_cell sb 3 _ rfl; have u0 := blk_cell sp 0 _ rfl; have u1 := blk_cell sp 1 _ rfl; have u2 := blk_cell sp 2 _ rfl; clear sb sp)
        go_simp
        all_goals (try with_reducible rfl)
      (try simp only [Act.put]); (try simp only [List.getElem_toArray]); (try simp only [List.getElem_cons_succ]); (try simp only [List.getElem_cons_zero]); (try simp only [List.setIfInBounds_toArray]); (try simp only [List.set_cons_succ]); (try simp only [List.set_cons_zero])
      refine wpAnyH_ready (rs := [7]) (by kernel_rfl) (by simp) ?_
      refine AllReadyH.cons rfl (fun K' hK' => ?_) AllReadyH.nil
      go_simp
      have hHeldP := hHeld
      refine hK'.out _ _ (And.intro ⟨blk_alloc hHeld.1.1 _, blk_alloc hHeld.1.2 _⟩ (gr_alloc hHeld.2 _)) (fun hHeldC => ?_)
      have hHeld := hHeldC
      clear hK' K' hHeldC
      (try simp only [Act.put]); (try simp only [List.getElem_toArray]); (try simp only [List.getElem_cons_succ]); (try simp only [List.getElem_cons_zero]); (try simp only [List.setIfInBounds_toArray]); (try simp only [List.set_cons_succ]); (try simp only [List.set_cons_zero])
      refine wpAnyH_ready (rs := [8]) (by kernel_rfl) (by simp) ?_
      refine AllReadyH.cons rfl (fun K' hK' => ?_) AllReadyH.nil
      refine step_append_lies _ (by rfl) _ _ _ (by rfl) w1.heap.size 45 i0 _ 2 16 Tryd.underlying42 hi hz0 hz1 hz2 (by rfl) (by decide) _ k _ (by rfl) (hrZ.alloc _) ⟨wz.heap.size, 0, none⟩ 1 1 [.int .i64 p.till, .int .i64 (coupF b p)] (by rfl) (by rfl) (cells_new wz _ _ _ rfl) (by simp [Value.oneCell']) (by decide) (by unfold maxLen; omega) (by omega) (by have := gr_le hHeldP.2; simp; omega) _ rfl ?_
      intro g' gc' w9 hown9 hgo9 hat9 hlt9
      have hg9 : w1.grownBy w9 none := gr_own hHeld.2 hgo9 (fun x e => by have := (hrZ.lt x e).1; omega)
      have hne1 : ∀ x, Value.ownBlock (.slice (some ⟨g, 0, none⟩) k gc) = some x → x ≠ w.heap.size ∧ x ≠ P := fun x e => by
        have := (hrZ.lt x e).1
        simp [Value.ownBlock] at e
        omega
      refine hK'.out _ _ ⟨⟨blk_keep hHeld.1.1 hgo9 (fun x e => (hne1 x e).1), blk_keep hHeld.1.2 hgo9 (fun x e => (hne1 x e).2)⟩, hg9⟩ (fun hHeldF => ?_)
      clear hK' K'
      (try simp only [Act.put]); (try simp only [List.getElem_toArray]); (try simp only [List.getElem_cons_succ]); (try simp only [List.getElem_cons_zero]); (try simp only [List.setIfInBounds_toArray]); (try simp only [List.set_cons_succ]); (try simp only [List.set_cons_zero])
      refine wpAnyH_take (i := 9) (v := ?_) rfl (by kernel_rfl) (by kernel_rfl) (by kernel_rfl) (fun _ _ _ h => h) (Or.inl ⟨by rfl, ?_⟩) hHeldF ?_
      rotate_left
      · intro w9 hSw
        clear hSw
        go_simp
        all_goals (try with_reducible rfl)
      (try simp only [Act.put]); (try simp only [List.getElem_toArray]); (try simp only [List.getElem_cons_succ]); (try simp only [List.getElem_cons_zero]); (try simp only [List.setIfInBounds_toArray]); (try simp only [List.set_cons_succ]); (try simp only [List.set_cons_zero])
      refine wpAnyH_done (by kernel_rfl) ?_ _
      have Hf := hid hown9
      have HgF := hid hHeldF.2
      clear hHeld hHeldP hHeldF hown9 hgo9 hat9 hlt9 hg9 hne1 hrZ
      go_wp2_with fail
      go_roundw
      case rel =>
        refine ⟨k + 1, g', gc', by omega, by go_num, rfl, ?_, HgF.out⟩
        rw [take_snoc _ _ _ (coups_at Hp.out), List.flatMap_append]
        exact Hf.out
      case measure => simp [intOf]; omega
    · obtain rfl : k = n := by omega
      obtain ⟨m, rfl⟩ : ∃ m, k = m + 1 := ⟨k - 1, by omega⟩
      obtain ⟨how, hgc⟩ := own_ow Hrow.out (by omega) (by rw [List.length_take, Hcl.out]; omega)
      rw [take_len _ _ Hcl.out] at how
      obtain ⟨b2, o2, f, e2, hf, _, _, hfz, hcz⟩ := how.at m (by omega)
      simp only [Option.some.injEq, Addr.mk.injEq, and_true] at e2
      obtain ⟨rfl, rfl⟩ := e2
      have c1 : wr.cell? ⟨g, m * 2 + 1, none⟩ = some (.int .i64 f.amount) := by have := hcz 1 _ rfl; simpa [flowL] using this
      have f1 : wr.frozen? ⟨g, m * 2 + 1, none⟩ = false := hfz _
      have hfin := Hset.out f m (by rw [Hcl.out]) hf
      have hamt : 0 ≤ f.amount ∧ f.amount ≤ 3000 := by
        obtain ⟨p, hp⟩ : ∃ p, (persF b)[m]? = some p := ⟨(persF b)[m]'(by have := Hnl.out; omega), by simp [show m < (persF b).length by have := Hnl.out; omega]⟩
        rw [coups_at hp] at hf
        obtain rfl := Option.some.inj hf
        exact Hcb.out p (List.mem_of_getElem? hp)
      obtain ⟨am0, am1⟩ := hamt
      have hoF := how.set m 1 f ⟨f.day, f.amount + 10000⟩ (.int .i64 (f.amount + 10000)) hf (by simp [flowL]) rfl (m * 2 + 1) (by simp [flowL])
      rw [← hfin, ← Hfl.out] at hoF
      have HoF := hid hoF
      have HgF : Hid (w.grownBy (wr.setCell ⟨g, m * 2 + 1, none⟩ (.int .i64 (f.amount + 10000))) none) := hid (gr_setCell (gr_trans0 Hg1.out Hgr.out) (.inr (by have := (Hrow.out.lt g rfl).1; have := gr_le Hg1.out; simp; omega)) _)
      have hle1 : (((m + 1 : Nat) : Int) - 1).toNat = m := by omega
      have hle2 : (0 : Int) ≤ ((m + 1 : Nat) : Int) - 1 := by omega
      have hm0 : (0 : Int) ≤ m := by omega
      clear hcz hfz how hf hfin hoF
      go_wp2_with fail
      go_ret
      exact ⟨_, _, _, rfl, HoF.out.mono (gr_le Hg1.out), hgc, HgF.out⟩

end Go.Proofs.YtkgjciacdjhhfaaDoor
