/- Packed: FlowWalk, FlowAfter, SpecFlow, Dirty. -/
import Derived.Test.YtielicmjdhmcjaaGreatDoorRows
import Derived.Test.YtielicmjdhmcjaaGreatDoorPk20
/- The payments of a bond: flows, FlowsOf, FlowsAfter and NextFlow of the program. -/
namespace Go.Proofs.YtielicmjdhmcjaaGreatDoor
open Go.RowKit

theorem infoFlowX : (Tryz.prog.info? 95).map (fun i => (i.zero, i.size, i.bytes)) = some (some (.agg #[.int .i64 0, .int .i64 0]), 2, 16) := by kernel_rfl
theorem infoPtsX {T : TypeId} {z : Value} {s y : Nat} (h : (Tryz.prog.info? T).map (fun i => (i.zero, i.size, i.bytes)) = some (some z, s, y)) : ∃ i, Tryz.prog.info? T = some i ∧ i.zero = some z ∧ i.size = s ∧ i.bytes = y := by
  cases hi : Tryz.prog.info? T with
  | none => rw [hi] at h; cases h
  | some i => rw [hi] at h; simp at h; exact ⟨i, rfl, h.1, h.2.1, h.2.2⟩

theorem coups_at {b : Bond} {k : Nat} {p : Per} (h : (persF b)[k]? = some p) : (coupsF b)[k]? = some ⟨p.till, coupF b p⟩ := by unfold coupsF; rw [List.getElem?_map, h]; rfl
theorem coups_len (b : Bond) : (coupsF b).length = (persF b).length := by unfold coupsF; rw [List.length_map]

theorem own_ow {w : World} {base e : Nat} {g n cap : Nat} {xs : List Flow} (h : w.ownsRow base e 2 (.slice (some ⟨g, 0, none⟩) n cap) n (xs.flatMap flowL.cells)) (hn : n ≤ 1000) (hl : xs.length = n) : Ow flowL w base (some ⟨g, 0, none⟩) n xs ∧ n ≤ cap := by
  refine ⟨Ow.of_own (L := flowL) h hl (by unfold maxLen; omega), ?_⟩
  rcases h.2 with ⟨e9, _⟩ | ⟨g9, cap9, cur, e9, _, _, h7, _⟩
  · cases e9
  · cases e9; exact h7

set_option maxRecDepth 100000 in
set_option maxHeartbeats 2000000 in
theorem flows_any (b : Bond) (w : World) (hmo : Months w) (h : OkBond b) :
    Calls Tryz.prog 84 #[.agg #[.int .i64 b.start, .int .i64 b.stop, .int .i64 b.months, .int .i64 b.rate]] w fun e' w' => ∃ a n cap, e' = .returned (.slice a n cap) ∧ Ow flowL w' w.heap.size a n (flowsL b) ∧ n ≤ cap ∧ w.grownBy w' none := by
  obtain ⟨i0, hi, hz0, hz1, hz2⟩ := infoPtsX infoFlowX
  have hg0 : w.grownBy (w.alloc (.cells #[.int .i64 b.start, .int .i64 b.stop, .int .i64 b.months, .int .i64 b.rate] 37)) none := gr_alloc (gr0 _) _
  have Hb0 := hid (heap_alloc_new w (.cells #[.int .i64 b.start, .int .i64 b.stop, .int .i64 b.months, .int .i64 b.rate] 37))
  have HP := hid (periods_any b _ (hmo.keep0 hg0))
  have Hsf := hid (show schedF b.start b.stop b.months = persF b by unfold schedF persF; rw [if_pos h.ok])
  have hpl : (persF b).length ≤ 40 := by unfold persF; rw [sched_len]; exact h.span.q2
  have hp1 : 1 ≤ (persF b).length := h.chain.ne
  have HG := hid hg0
  have HC := hid (fun p hp wx (hx : w.grownBy wx none) => coupon_any b p wx h (pers_okPer h p hp) (hmo.keep0 hx))
  have Hset := hid (fun f i hi hf => faceLast_set (coupsF b) f i hi hf)
  have Hcb := hid (fun p hp => coup_bd h p (pers_okPer h p hp))
  have Hfl := hid (show flowsL b = faceLast (coupsF b) from rfl)
  clear hg0 hmo h
  go_enter Tryz.func84, Tryz.ntmps84
  go_wp2_with fail
  refine HP.out.mono ?_
  rintro e' w1 ⟨a, n, cap, rfl, ho, hc, hg⟩
  rw [Hsf.out] at ho
  have hnl := ho.len
  have Ho := hid ho
  have Hg1 := hid (gr_trans0 HG.out hg)
  have Hb1 := hid (blk_keep Hb0.out hg (by simp))
  obtain ⟨Z, hZ, hmk⟩ : ∃ Z : Array Value, Z.size = n * 2 ∧ ∀ wx : World, (Instr.makeSlice 92 (.int .i64 0) (.int .i64 n)).run Tryz.prog wx = .ok (.slice (some ⟨wx.heap.size, 0, none⟩) 0 n) (wx.alloc (.cells Z 95)) := by
    refine ⟨madeCells (Value.cells (.agg #[.int .i64 0, .int .i64 0])) (n * i0.size), by rw [size_madeCells, hz1], fun wx => ?_⟩
    have := run_make (P := Tryz.prog) wx 92 95 i0 _ Tryz.underlying92 hi hz0 .i64 .i64 0 n (Int.le_refl _) (by omega) (by rw [hz2]; omega) (by omega)
    simpa using this
  have hn40 : n ≤ 40 := by omega
  have hn1 : 1 ≤ n := by omega
  have hcl : (coupsF b).length = n := by rw [coups_len]; omega
  have Hcl := hid hcl
  have Hnl := hid hnl
  have HA := hid (show (w1.alloc (.cells Z 95)).ownsRow w1.heap.size 95 2 (.slice (some ⟨w1.heap.size, 0, none⟩) 0 n) 0 [] from World.ownsRow_made w1 Z n (Nat.le_refl _) (by unfold maxLen; omega) hZ)
  clear ho hc hg hpl hp1 hcl hnl hZ
  go_wp2_with fail
  go_loopw [4, 14] (fun o i wr => ∃ k g gc : Nat, k ≤ n ∧ i = .int .i64 k ∧ o = .slice (some ⟨g, 0, none⟩) k gc ∧ wr.ownsRow w1.heap.size 95 2 (.slice (some ⟨g, 0, none⟩) k gc) k (((coupsF b).take k).flatMap flowL.cells) ∧ w1.grownBy wr none) (fun _ i _ => n - (intOf i).toNat)
  case atStart => exact ⟨0, w1.heap.size, n, by omega, rfl, rfl, by simpa using HA.out, gr_alloc (gr0 _) _⟩
  case round =>
    clear HA
    obtain ⟨k, g, gc, hk, rfl, rfl, hrow, hgr⟩ := hrel
    have Hgr := hid hgr
    have Hrow := hid hrow
    clear hgr hrow
    by_cases hlt : k < n
    · obtain ⟨lb, lo, p, rfl, hp, l0, l1, l2⟩ := per_at (Ho.out.sl.keep0 Hgr.out) k hlt
      have Hp := hid hp
      have hi0 : (0 : Int) ≤ k := by omega
      have hi1 : (k : Int) < n := by omega
      have hbW := blk_alloc (blk_keep Hb1.out Hgr.out (by simp)) (.cells #[.int .i64 p.frm, .int .i64 p.till, .bool p.whole] 115)
      have hpW := heap_alloc_new wr (.cells #[.int .i64 p.frm, .int .i64 p.till, .bool p.whole] 115)
      have hgW : w1.grownBy (wr.alloc (.cells #[.int .i64 p.frm, .int .i64 p.till, .bool p.whole] 115)) none := gr_alloc Hgr.out _
      have hrW := Hrow.out.alloc (.cells #[.int .i64 p.frm, .int .i64 p.till, .bool p.whole] 115)
      have hgl := (Hrow.out.lt g rfl).2
      have hw1b : w.heap.size < w1.heap.size := blk_lt Hb1.out
      clear hp
      go_wp2_with fail
      clear l0 l1 l2
      have hPge := gr_le Hgr.out
      obtain ⟨P, hP⟩ : ∃ P, P = wr.heap.size := ⟨_, rfl⟩
      rw [← hP] at hpW hgl hPge ⊢
      generalize (wr.alloc (.cells #[.int .i64 p.frm, .int .i64 p.till, .bool p.whole] 115)) = W at *
      have HbW := hid hbW
      have HpW := hid hpW
      have HgW := hid hgW
      have HrW := hid hrW
      clear hP
      have hrD := HrW.out.drew
      clear hrW hbW hpW hgW
      refine wp_region_held_drew (S := fun w' => (w'.heap[w.heap.size]? = some (.cells #[.int .i64 b.start, .int .i64 b.stop, .int .i64 b.months, .int .i64 b.rate] 37 (0, 0)) ∧ w'.heap[P]? = some (.cells #[.int .i64 p.frm, .int .i64 p.till, .bool p.whole] 115 (0, 0))) ∧ w1.grownBy w' none) (by kernel_rfl) ⟨⟨HbW.out, HpW.out⟩, gr_drew HgW.out⟩ (fun hHeld => ?_)
      refine wpAnyH_take (i := 0) (v := ?_) rfl (by kernel_rfl) (by kernel_rfl) (by kernel_rfl) (fun _ _ _ h => h) (Or.inl ⟨by rfl, ?_⟩) hHeld ?_
      rotate_left
      · intro w9 hSw
        (obtain ⟨⟨sb, sp⟩, _⟩ := hSw; have s0 := blk_cell sb 0 _ rfl; have s1 := blk_cell sb 1 _ rfl; have s2 := blk_cell sb 2 _ rfl; have s3 := blk_cell sb 3 _ rfl; have u0 := blk_cell sp 0 _ rfl; have u1 := blk_cell sp 1 _ rfl; have u2 := blk_cell sp 2 _ rfl; clear sb sp)
        go_simp
        all_goals (try with_reducible rfl)
      (try simp only [Act.put, gA, gC, gD, gE, gF])
      refine wpAnyH_take (i := 1) (v := ?_) rfl (by kernel_rfl) (by kernel_rfl) (by kernel_rfl) (fun _ _ _ h => h) (Or.inl ⟨by rfl, ?_⟩) hHeld ?_
      rotate_left
      · intro w9 hSw
        (obtain ⟨⟨sb, sp⟩, _⟩ := hSw; have s0 := blk_cell sb 0 _ rfl; have s1 := blk_cell sb 1 _ rfl; have s2 := blk_cell sb 2 _ rfl; have s3 := blk_cell sb 3 _ rfl; have u0 := blk_cell sp 0 _ rfl; have u1 := blk_cell sp 1 _ rfl; have u2 := blk_cell sp 2 _ rfl; clear sb sp)
        go_simp
        all_goals (try with_reducible rfl)
      (try simp only [Act.put, gA, gB, gC, gD, gE, gF])
      refine wpAnyH_take (i := 2) (v := ?_) rfl (by kernel_rfl) (by kernel_rfl) (by kernel_rfl) (fun _ _ _ h => h) (Or.inl ⟨by rfl, ?_⟩) hHeld ?_
      rotate_left
      · intro w9 hSw
        (obtain ⟨⟨sb, sp⟩, _⟩ := hSw; have s0 := blk_cell sb 0 _ rfl; have s1 := blk_cell sb 1 _ rfl; have s2 := blk_cell sb 2 _ rfl; have s3 := blk_cell sb 3 _ rfl; have u0 := blk_cell sp 0 _ rfl; have u1 := blk_cell sp 1 _ rfl; have u2 := blk_cell sp 2 _ rfl; clear sb sp)
        go_simp
        all_goals (try with_reducible rfl)
      (try simp only [Act.put, gA, gB, gC, gD, gE, gF])
      refine wpAnyH_take (i := 3) (v := ?_) rfl (by kernel_rfl) (by kernel_rfl) (by kernel_rfl) (fun _ _ _ h => h) (Or.inl ⟨by rfl, ?_⟩) hHeld ?_
      rotate_left
      · intro w9 hSw
        (obtain ⟨⟨sb, sp⟩, _⟩ := hSw; have s0 := blk_cell sb 0 _ rfl; have s1 := blk_cell sb 1 _ rfl; have s2 := blk_cell sb 2 _ rfl; have s3 := blk_cell sb 3 _ rfl; have u0 := blk_cell sp 0 _ rfl; have u1 := blk_cell sp 1 _ rfl; have u2 := blk_cell sp 2 _ rfl; clear sb sp)
        go_simp
        all_goals (try with_reducible rfl)
      (try simp only [Act.put, gA, gB, gC, gD, gE, gF])
      refine wpAnyH_take (i := 4) (v := ?_) rfl (by kernel_rfl) (by kernel_rfl) (by kernel_rfl) (fun _ _ _ h => h) (Or.inl ⟨by rfl, ?_⟩) hHeld ?_
      rotate_left
      · intro w9 hSw
        (obtain ⟨⟨sb, sp⟩, _⟩ := hSw; have s0 := blk_cell sb 0 _ rfl; have s1 := blk_cell sb 1 _ rfl; have s2 := blk_cell sb 2 _ rfl; have s3 := blk_cell sb 3 _ rfl; have u0 := blk_cell sp 0 _ rfl; have u1 := blk_cell sp 1 _ rfl; have u2 := blk_cell sp 2 _ rfl; clear sb sp)
        go_simp
        all_goals (try with_reducible rfl)
      (try simp only [Act.put, gA, gB, gC, gD, gE, gF])
      refine wpAnyH_ready (rs := [5]) (by kernel_rfl) (by simp) ?_
      refine AllReadyH.cons rfl (fun K' hK' => ?_) AllReadyH.nil
      go_simp
      refine (HC.out p (List.mem_of_getElem? Hp.out) _ (gr_trans0 Hg1.out hHeld.2)).mono ?_
      rintro e' wz ⟨rfl, hgz⟩
      (try simp only [])
      refine hK'.out _ _ ⟨⟨blk_keep hHeld.1.1 hgz (by simp), blk_keep hHeld.1.2 hgz (by simp)⟩, gr_trans0 hHeld.2 hgz⟩ (fun hHeldB => ?_)
      have hHeld := hHeldB
      have hrZ := own_keep0 hrD hgz
      clear hK' K' hHeldB hgz hrD
      (try simp only [Act.put, gA, gB, gC, gD, gE, gF])
      refine wpAnyH_take (i := 6) (v := ?_) rfl (by kernel_rfl) (by kernel_rfl) (by kernel_rfl) (fun _ _ _ h => h) (Or.inl ⟨by rfl, ?_⟩) hHeld ?_
      rotate_left
      · intro w9 hSw
        (obtain ⟨⟨sb, sp⟩, _⟩ := hSw; have s0 := blk_cell sb 0 _ rfl; have s1 := blk_cell sb 1 _ rfl; have s2 := blk_cell sb 2 _ rfl; have s3 := blk_cell sb 3 _ rfl; have u0 := blk_cell sp 0 _ rfl; have u1 := blk_cell sp 1 _ rfl; have u2 := blk_cell sp 2 _ rfl; clear sb sp)
        go_simp
        all_goals (try with_reducible rfl)
      (try simp only [Act.put, gA, gB, gC, gD, gE, gF])
      refine wpAnyH_ready (rs := [7]) (by kernel_rfl) (by simp) ?_
      refine AllReadyH.cons rfl (fun K' hK' => ?_) AllReadyH.nil
      go_simp
      have hHeldP := hHeld
      refine hK'.out _ _ (And.intro ⟨blk_alloc hHeld.1.1 _, blk_alloc hHeld.1.2 _⟩ (gr_alloc hHeld.2 _)) (fun hHeldC => ?_)
      have hHeld := hHeldC
      clear hK' K' hHeldC
      (try simp only [Act.put, gA, gB, gC, gD, gE, gF])
      refine wpAnyH_ready (rs := [8]) (by kernel_rfl) (by simp) ?_
      refine AllReadyH.cons rfl (fun K' hK' => ?_) AllReadyH.nil
      refine step_append_lies _ (by rfl) _ _ _ (by rfl) w1.heap.size 95 i0 _ 2 16 Tryz.underlying92 hi hz0 hz1 hz2 (by rfl) (by decide) _ k _ (by rfl) (hrZ.alloc _) ⟨wz.heap.size, 0, none⟩ 1 1 [.int .i64 p.till, .int .i64 (coupF b p)] (by rfl) (by rfl) (cells_new wz _ _ _ rfl) (by simp [Value.oneCell']) (by decide) (by unfold maxLen; omega) (by omega) (by have := gr_le hHeldP.2; simp; omega) _ rfl ?_
      intro g' gc' w9 hown9 hgo9 hat9 hlt9
      have hg9 : w1.grownBy w9 none := gr_own hHeld.2 hgo9 (fun x e => by have := (hrZ.lt x e).1; omega)
      have hne1 : ∀ x, Value.ownBlock (.slice (some ⟨g, 0, none⟩) k gc) = some x → x ≠ w.heap.size ∧ x ≠ P := fun x e => by
        have := (hrZ.lt x e).1
        simp [Value.ownBlock] at e
        omega
      refine hK'.out _ _ ⟨⟨blk_keep hHeld.1.1 hgo9 (fun x e => (hne1 x e).1), blk_keep hHeld.1.2 hgo9 (fun x e => (hne1 x e).2)⟩, hg9⟩ (fun hHeldF => ?_)
      clear hK' K'
      (try simp only [Act.put, gA, gB, gC, gD, gE, gF])
      refine wpAnyH_take (i := 9) (v := ?_) rfl (by kernel_rfl) (by kernel_rfl) (by kernel_rfl) (fun _ _ _ h => h) (Or.inl ⟨by rfl, ?_⟩) hHeldF ?_
      rotate_left
      · intro w9 hSw
        clear hSw
        go_simp
        all_goals (try with_reducible rfl)
      (try simp only [Act.put, gA, gB, gC, gD, gE, gF])
      refine wpAnyH_done (by kernel_rfl) ?_ _
      have Hf := hid hown9
      have HgF := hid hHeldF.2
      clear hHeld hHeldP hHeldF hown9 hgo9 hat9 hlt9 hg9 hne1 hrZ
      go_wp2_with fail
      go_roundw
      case rel =>
        refine ⟨k + 1, g', gc', by omega, by go_num, rfl, ?_, HgF.out⟩
        rw [take_snoc _ _ _ (coups_at Hp.out), List.flatMap_append]
        exact Hf.out
      case measure => simp [intOf]; omega
    · obtain rfl : k = n := by omega
      obtain ⟨m, rfl⟩ : ∃ m, k = m + 1 := ⟨k - 1, by omega⟩
      obtain ⟨how, hgc⟩ := own_ow Hrow.out (by omega) (by rw [List.length_take, Hcl.out]; omega)
      rw [take_len _ _ Hcl.out] at how
      obtain ⟨b2, o2, f, e2, hf, _, _, hfz, hcz⟩ := how.at m (by omega)
      simp only [Option.some.injEq, Addr.mk.injEq, and_true] at e2
      obtain ⟨rfl, rfl⟩ := e2
      have c1 : wr.cell? ⟨g, m * 2 + 1, none⟩ = some (.int .i64 f.amount) := by have := hcz 1 _ rfl; simpa [flowL] using this
      have f1 : wr.frozen? ⟨g, m * 2 + 1, none⟩ = false := hfz _
      have hfin := Hset.out f m (by rw [Hcl.out]) hf
      have hamt : 0 ≤ f.amount ∧ f.amount ≤ 3000 := by
        obtain ⟨p, hp⟩ : ∃ p, (persF b)[m]? = some p := ⟨(persF b)[m]'(by have := Hnl.out; omega), by simp [show m < (persF b).length by have := Hnl.out; omega]⟩
        rw [coups_at hp] at hf
        obtain rfl := Option.some.inj hf
        exact Hcb.out p (List.mem_of_getElem? hp)
      obtain ⟨am0, am1⟩ := hamt
      have hoF := how.set m 1 f ⟨f.day, f.amount + 10000⟩ (.int .i64 (f.amount + 10000)) hf (by simp [flowL]) rfl (m * 2 + 1) (by simp [flowL])
      rw [← hfin, ← Hfl.out] at hoF
      have HoF := hid hoF
      have HgF : Hid (w.grownBy (wr.setCell ⟨g, m * 2 + 1, none⟩ (.int .i64 (f.amount + 10000))) none) := hid (gr_setCell (gr_trans0 Hg1.out Hgr.out) (.inr (by have := (Hrow.out.lt g rfl).1; have := gr_le Hg1.out; simp; omega)) _)
      have hle1 : (((m + 1 : Nat) : Int) - 1).toNat = m := by omega
      have hle2 : (0 : Int) ≤ ((m + 1 : Nat) : Int) - 1 := by omega
      have hm0 : (0 : Int) ≤ m := by omega
      clear hcz hfz how hf hfin hoF
      go_wp2_with fail
      go_ret
      exact ⟨_, _, _, rfl, HoF.out.mono (gr_le Hg1.out), hgc, HgF.out⟩

end Go.Proofs.YtielicmjdhmcjaaGreatDoor

/- FlowsOf, FlowsAfter and NextFlow of the program. -/
namespace Go.Proofs.YtielicmjdhmcjaaGreatDoor
open Go.RowKit


theorem after_take {_ : Bond} (day : Int) (L : List Flow) (k : Nat) (f : Flow) (hf : L[k]? = some f) : ((L.take (k + 1)).filter fun f => decide (day < f.day)) = ((L.take k).filter fun f => decide (day < f.day)) ++ (if day < f.day then [f] else []) := by
  rw [take_snoc _ _ _ hf, List.filter_append]
  by_cases h : day < f.day
  · rw [if_pos h, List.filter_cons_of_pos (by simpa using h)]; rfl
  · rw [if_neg h, List.filter_cons_of_neg (by simpa using h)]; rfl


def nextF (b : Bond) (day : Int) : Flow × Bool := match (afterF b day)[0]? with
  | some f => (f, true)
  | none => (⟨0, 0⟩, false)
theorem next_yes {b : Bond} {day : Int} {f : Flow} (h : (afterF b day)[0]? = some f) : nextF b day = (f, true) := by unfold nextF; rw [h]
theorem next_no {b : Bond} {day : Int} (h : (afterF b day)[0]? = none) : nextF b day = (⟨0, 0⟩, false) := by unfold nextF; rw [h]

end Go.Proofs.YtielicmjdhmcjaaGreatDoor

/- The reference's flows, FlowsOf, FlowsAfter and NextFlow; the laws' equalFlows. -/
namespace Go.Proofs.YtielicmjdhmcjaaGreatDoor
open Go.RowKit

set_option maxRecDepth 100000 in
set_option maxHeartbeats 4000000 in
theorem specflows_any (b : Bond) (w : World) (h : OkBond b) :
    Calls Tryz.prog 67 #[.agg #[.int .i64 b.start, .int .i64 b.stop, .int .i64 b.months, .int .i64 b.rate]] w fun e' w' => ∃ a n cap, e' = .returned (.slice a n cap) ∧ Ow flowL w' w.heap.size a n (flowsL b) ∧ n ≤ cap ∧ w.grownBy w' none := by
  obtain ⟨i0, hi, hz0, hz1, hz2⟩ := infoPtsX infoFlowX
  have hg0 : w.grownBy (w.alloc (.cells #[.int .i64 b.start, .int .i64 b.stop, .int .i64 b.months, .int .i64 b.rate] 37)) none := gr_alloc (gr0 _) _
  have hb0 := blk_alloc (heap_alloc_new w (.cells #[.int .i64 b.start, .int .i64 b.stop, .int .i64 b.months, .int .i64 b.rate] 37)) (.cells #[] 95)
  have hA : ((w.alloc (.cells #[.int .i64 b.start, .int .i64 b.stop, .int .i64 b.months, .int .i64 b.rate] 37)).alloc (.cells #[] 95)).ownsRow (w.heap.size + 1) 95 2 (.slice (some ⟨w.heap.size + 1, 0, none⟩) 0 0) 0 (([] : List Flow).flatMap flowL.cells) := by
    have := World.ownsRow_made (base := w.heap.size + 1) (size := 2) (e := 95) (w.alloc (.cells #[.int .i64 b.start, .int .i64 b.stop, .int .i64 b.months, .int .i64 b.rate] 37)) #[] 0 (by simp) (by decide) rfl
    simpa using this
  have HA := hid hA
  have Hb0 := hid hb0
  have HP := hid (specsched_ok b ((w.alloc (.cells #[.int .i64 b.start, .int .i64 b.stop, .int .i64 b.months, .int .i64 b.rate] 37)).alloc (.cells #[] 95)) h)
  have hpl : (persF b).length ≤ 40 := by unfold persF; rw [sched_len]; exact h.span.q2
  have hp1 : 1 ≤ (persF b).length := h.chain.ne
  have HG := hid (gr_alloc hg0 (.cells #[] 95))
  have HC := hid (fun p hp wx => speccouponOf_any b p wx h (pers_okPer h p hp))
  have Hset := hid (fun f i hi hf => faceLast_set (coupsF b) f i hi hf)
  have Hcb := hid (fun p hp => coup_bd h p (pers_okPer h p hp))
  have Hfl := hid (show flowsL b = faceLast (coupsF b) from rfl)
  have c0 := blk_cell hb0 0 _ rfl
  have c1 := blk_cell hb0 1 _ rfl
  have c2 := blk_cell hb0 2 _ rfl
  clear hg0 h hb0 hA
  go_enter Tryz.func67, Tryz.ntmps67
  go_wp2_with fail
  refine HP.out.mono ?_
  rintro e' w1 ⟨la, n, lc, rfl, ho, hc, hg⟩
  have hnl := ho.len
  have HS := hid (show Sl perL w1 la n (persF b) ∧ (0 < n → ∀ b off, la = some ⟨b, off, none⟩ → b ≠ w.heap.size + 1) from ⟨ho.sl, fun h0 b off e => by
    obtain ⟨b2, o2, e2, hge, _⟩ := ho.mem h0
    rw [e] at e2; cases e2
    simp at hge; omega⟩)
  have HA1 := hid (own_keep0 HA.out hg)
  have Hg1 := hid (gr_trans0 HG.out hg)
  have Hb1 := hid (blk_keep Hb0.out hg (by simp))
  have hn40 : n ≤ 40 := by omega
  have hn1 : 1 ≤ n := by omega
  have Hcl := hid (show (coupsF b).length = n by rw [coups_len]; omega)
  have Hnl := hid hnl
  clear ho hc hg hpl hp1 hnl c0 c1 c2
  go_wp2_with fail
  go_loopw [3, 5] (fun o i wr => ∃ k g gc : Nat, k ≤ n ∧ i = .int .i64 k ∧ o = .slice (some ⟨g, 0, none⟩) k gc ∧ wr.ownsRow (w.heap.size + 1) 95 2 (.slice (some ⟨g, 0, none⟩) k gc) k (((coupsF b).take k).flatMap flowL.cells) ∧ Hid (Sl perL wr la n (persF b) ∧ (0 < n → ∀ b off, la = some ⟨b, off, none⟩ → b ≠ g)) ∧ Hid (wr.heap[w.heap.size]? = some (.cells #[.int .i64 b.start, .int .i64 b.stop, .int .i64 b.months, .int .i64 b.rate] 37 (0, 0))) ∧ w.grownBy wr none) (fun _ i _ => n - (intOf i).toNat)
  case atStart => exact ⟨0, w.heap.size + 1, 0, by omega, rfl, rfl, by simpa using HA1.out, HS, Hb1, Hg1.out⟩
  case round =>
    clear HA1 HA HS Hg1 HG Hb0 Hb1 HP
    obtain ⟨k, g, gc, hk, rfl, rfl, hrow, HS, Hb, hgr⟩ := hrel
    have Hrow := hid hrow
    have Hgr := hid hgr
    clear hrow hgr
    by_cases hlt : k < n
    · obtain ⟨lb, lo, p, rfl, hp, l0, l1, l2⟩ := per_at HS.out.1 k hlt
      have Hp := hid hp
      have hi0 : (0 : Int) ≤ k := by omega
      have hi1 : (k : Int) < n := by omega
      have hgl := (Hrow.out.lt g rfl).2
      have hge := (Hrow.out.lt g rfl).1
      have hlb := block_lt l0
      have hrD := Hrow.out.drew
      clear hp
      go_wp2_with fail
      refine wp_region_held_drew (S := fun w' => w'.heap[w.heap.size]? = some (.cells #[.int .i64 b.start, .int .i64 b.stop, .int .i64 b.months, .int .i64 b.rate] 37 (0, 0)) ∧ Sl perL w' (some ⟨lb, lo, none⟩) n (persF b) ∧ w.grownBy w' none ∧ wr.heap.size ≤ w'.heap.size) (by kernel_rfl) ⟨Hb.out, HS.out.1.keep0 (gr_drew (gr0 _)), gr_drew Hgr.out, Nat.le_refl _⟩ (fun hHeld => ?_)
      refine wpAnyH_take (i := 0) (v := ?_) rfl (by kernel_rfl) (by kernel_rfl) (by kernel_rfl) (fun _ _ _ h => h) (Or.inl ⟨by rfl, ?_⟩) hHeld ?_
      rotate_left
      · intro w9 hSw
        (obtain ⟨_, sl, _⟩ := hSw; obtain ⟨lb2, lo2, z2, le2, hz2, u0, u1, u2⟩ := per_at sl k hlt; cases le2; rw [Hp.out] at hz2; obtain rfl := Option.some.inj hz2; clear sl)
        go_simp
        all_goals (try with_reducible rfl)
      (try simp only [Act.put, gA, gC, gD, gE, gF])
      refine wpAnyH_take (i := 1) (v := ?_) rfl (by kernel_rfl) (by kernel_rfl) (by kernel_rfl) (fun _ _ _ h => h) (Or.inl ⟨by rfl, ?_⟩) hHeld ?_
      rotate_left
      · intro w9 hSw
        (obtain ⟨_, sl, _⟩ := hSw; obtain ⟨lb2, lo2, z2, le2, hz2, u0, u1, u2⟩ := per_at sl k hlt; cases le2; rw [Hp.out] at hz2; obtain rfl := Option.some.inj hz2; clear sl)
        go_simp
        all_goals (try with_reducible rfl)
      (try simp only [Act.put, gA, gB, gC, gD, gE, gF])
      refine wpAnyH_take (i := 2) (v := ?_) rfl (by kernel_rfl) (by kernel_rfl) (by kernel_rfl) (fun _ _ _ h => h) (Or.inl ⟨by rfl, ?_⟩) hHeld ?_
      rotate_left
      · intro w9 hSw
        (obtain ⟨_, sl, _⟩ := hSw; obtain ⟨lb2, lo2, z2, le2, hz2, u0, u1, u2⟩ := per_at sl k hlt; cases le2; rw [Hp.out] at hz2; obtain rfl := Option.some.inj hz2; clear sl)
        go_simp
        all_goals (try with_reducible rfl)
      (try simp only [Act.put, gA, gB, gC, gD, gE, gF])
      refine wpAnyH_take (i := 3) (v := ?_) rfl (by kernel_rfl) (by kernel_rfl) (by kernel_rfl) (fun _ _ _ h => h) (Or.inl ⟨by rfl, ?_⟩) hHeld ?_
      rotate_left
      · intro w9 hSw
        (obtain ⟨_, sl, _⟩ := hSw; obtain ⟨lb2, lo2, z2, le2, hz2, u0, u1, u2⟩ := per_at sl k hlt; cases le2; rw [Hp.out] at hz2; obtain rfl := Option.some.inj hz2; clear sl)
        go_simp
        all_goals (try with_reducible rfl)
      (try simp only [Act.put, gA, gB, gC, gD, gE, gF])
      refine wpAnyH_take (i := 4) (v := ?_) rfl (by kernel_rfl) (by kernel_rfl) (by kernel_rfl) (fun _ _ _ h => h) (Or.inl ⟨by rfl, ?_⟩) hHeld ?_
      rotate_left
      · intro w9 hSw
        (obtain ⟨_, sl, _⟩ := hSw; obtain ⟨lb2, lo2, z2, le2, hz2, u0, u1, u2⟩ := per_at sl k hlt; cases le2; rw [Hp.out] at hz2; obtain rfl := Option.some.inj hz2; clear sl)
        go_simp
        all_goals (try with_reducible rfl)
      (try simp only [Act.put, gA, gB, gC, gD, gE, gF])
      refine wpAnyH_take (i := 5) (v := ?_) rfl (by kernel_rfl) (by kernel_rfl) (by kernel_rfl) (fun _ _ _ h => h) (Or.inl ⟨by rfl, ?_⟩) hHeld ?_
      rotate_left
      · intro w9 hSw
        (obtain ⟨_, sl, _⟩ := hSw; obtain ⟨lb2, lo2, z2, le2, hz2, u0, u1, u2⟩ := per_at sl k hlt; cases le2; rw [Hp.out] at hz2; obtain rfl := Option.some.inj hz2; clear sl)
        go_simp
        all_goals (try with_reducible rfl)
      (try simp only [Act.put, gA, gB, gC, gD, gE, gF])
      refine wpAnyH_take (i := 6) (v := ?_) rfl (by kernel_rfl) (by kernel_rfl) (by kernel_rfl) (fun _ _ _ h => h) (Or.inl ⟨by rfl, ?_⟩) hHeld ?_
      rotate_left
      · intro w9 hSw
        (obtain ⟨sb, _⟩ := hSw; have s0 := blk_cell sb 0 _ rfl; have s1 := blk_cell sb 1 _ rfl; have s2 := blk_cell sb 2 _ rfl; have s3 := blk_cell sb 3 _ rfl; clear sb)
        go_simp
        all_goals (try with_reducible rfl)
      (try simp only [Act.put, gA, gB, gC, gD, gE, gF])
      refine wpAnyH_take (i := 7) (v := ?_) rfl (by kernel_rfl) (by kernel_rfl) (by kernel_rfl) (fun _ _ _ h => h) (Or.inl ⟨by rfl, ?_⟩) hHeld ?_
      rotate_left
      · intro w9 hSw
        (obtain ⟨_, sl, _⟩ := hSw; obtain ⟨lb2, lo2, z2, le2, hz2, u0, u1, u2⟩ := per_at sl k hlt; cases le2; rw [Hp.out] at hz2; obtain rfl := Option.some.inj hz2; clear sl)
        go_simp
        all_goals (try with_reducible rfl)
      (try simp only [Act.put, gA, gB, gC, gD, gE, gF])
      refine wpAnyH_take (i := 8) (v := ?_) rfl (by kernel_rfl) (by kernel_rfl) (by kernel_rfl) (fun _ _ _ h => h) (Or.inl ⟨by rfl, ?_⟩) hHeld ?_
      rotate_left
      · intro w9 hSw
        (obtain ⟨_, sl, _⟩ := hSw; obtain ⟨lb2, lo2, z2, le2, hz2, u0, u1, u2⟩ := per_at sl k hlt; cases le2; rw [Hp.out] at hz2; obtain rfl := Option.some.inj hz2; clear sl)
        go_simp
        all_goals (try with_reducible rfl)
      (try simp only [Act.put, gA, gB, gC, gD, gE, gF])
      refine wpAnyH_take (i := 9) (v := ?_) rfl (by kernel_rfl) (by kernel_rfl) (by kernel_rfl) (fun _ _ _ h => h) (Or.inl ⟨by rfl, ?_⟩) hHeld ?_
      rotate_left
      · intro w9 hSw
        (obtain ⟨_, sl, _⟩ := hSw; obtain ⟨lb2, lo2, z2, le2, hz2, u0, u1, u2⟩ := per_at sl k hlt; cases le2; rw [Hp.out] at hz2; obtain rfl := Option.some.inj hz2; clear sl)
        go_simp
        all_goals (try with_reducible rfl)
      (try simp only [Act.put, gA, gB, gC, gD, gE, gF])
      refine wpAnyH_take (i := 10) (v := ?_) rfl (by kernel_rfl) (by kernel_rfl) (by kernel_rfl) (fun _ _ _ h => h) (Or.inl ⟨by rfl, ?_⟩) hHeld ?_
      rotate_left
      · intro w9 hSw
        (obtain ⟨_, sl, _⟩ := hSw; obtain ⟨lb2, lo2, z2, le2, hz2, u0, u1, u2⟩ := per_at sl k hlt; cases le2; rw [Hp.out] at hz2; obtain rfl := Option.some.inj hz2; clear sl)
        go_simp
        all_goals (try with_reducible rfl)
      (try simp only [Act.put, gA, gB, gC, gD, gE, gF])
      refine wpAnyH_ready (rs := [11]) (by kernel_rfl) (by simp) ?_
      refine AllReadyH.cons rfl (fun K' hK' => ?_) AllReadyH.nil
      go_simp
      refine (HC.out p (List.mem_of_getElem? Hp.out) _).mono ?_
      rintro e' wz ⟨rfl, hgz⟩
      (try simp only [])
      refine hK'.out _ _ ⟨blk_keep hHeld.1 hgz (by simp), hHeld.2.1.keep0 hgz, gr_trans0 hHeld.2.2.1 hgz, Nat.le_trans hHeld.2.2.2 hgz.size⟩ (fun hHeldB => ?_)
      have hHeld := hHeldB
      have hrZ := own_keep0 hrD hgz
      clear hK' K' hHeldB hgz hrD l0 l1 l2
      (try simp only [Act.put, gA, gB, gC, gD, gE, gF])
      refine wpAnyH_take (i := 12) (v := ?_) rfl (by kernel_rfl) (by kernel_rfl) (by kernel_rfl) (fun _ _ _ h => h) (Or.inl ⟨by rfl, ?_⟩) hHeld ?_
      rotate_left
      · intro w9 hSw
        clear hSw
        go_simp
        all_goals (try with_reducible rfl)
      (try simp only [Act.put, gA, gB, gC, gD, gE, gF])
      refine wpAnyH_ready (rs := [13]) (by kernel_rfl) (by simp) ?_
      refine AllReadyH.cons rfl (fun K' hK' => ?_) AllReadyH.nil
      go_simp
      have hHeldP := hHeld
      refine hK'.out _ _ ⟨blk_alloc hHeld.1 _, hHeld.2.1.keep0 (gr_alloc (gr0 _) _), gr_alloc hHeld.2.2.1 _, Nat.le_trans hHeld.2.2.2 (gr_alloc (gr0 _) _).size⟩ (fun hHeldC => ?_)
      have hHeld := hHeldC
      clear hK' K' hHeldC
      (try simp only [Act.put, gA, gB, gC, gD, gE, gF])
      refine wpAnyH_ready (rs := [14]) (by kernel_rfl) (by simp) ?_
      refine AllReadyH.cons rfl (fun K' hK' => ?_) AllReadyH.nil
      refine step_append_lies _ (by rfl) _ _ _ (by rfl) (w.heap.size + 1) 95 i0 _ 2 16 Tryz.underlying92 hi hz0 hz1 hz2 (by rfl) (by decide) _ k _ (by rfl) (hrZ.alloc _) ⟨wz.heap.size, 0, none⟩ 1 1 [.int .i64 p.till, .int .i64 (coupF b p)] (by rfl) (by rfl) (cells_new wz _ _ _ rfl) (by simp [Value.oneCell']) (by decide) (by unfold maxLen; omega) (by omega) (by have := hHeldP.2.2.2; simp; omega) _ rfl ?_
      intro g' gc' w9 hown9 hgo9 hat9 hlt9
      have hg9 : w.grownBy w9 none := gr_own hHeld.2.2.1 hgo9 (fun x e => by simp [Value.ownBlock] at e; omega)
      have hS9 : Sl perL w9 (some ⟨lb, lo, none⟩) n (persF b) := hHeld.2.1.keep hgo9 (fun h0 b off e er => by
        simp [Value.ownBlock] at er
        exact HS.out.2 h0 b off e er.symm)
      have HS9 := hid (show Sl perL w9 (some ⟨lb, lo, none⟩) n (persF b) ∧ (0 < n → ∀ b off, some ⟨lb, lo, none⟩ = some (⟨b, off, none⟩ : Addr) → b ≠ g') from ⟨hS9, fun h0 b off e => by
        cases e
        rcases hat9 with h9 | h9
        · simp [Value.ownBlock] at h9
          rw [← h9]; exact HS.out.2 h0 lb lo rfl
        · (try simp at h9); have := hHeldP.2.2.2; omega⟩)
      have hb9 := blk_keep hHeld.1 hgo9 (fun x e => by simp [Value.ownBlock] at e; omega)
      refine hK'.out _ _ ⟨hb9, hS9, hg9, by have := hHeld.2.2.2; have := hgo9.size; omega⟩ (fun hHeldF => ?_)
      clear hK' K'
      (try simp only [Act.put, gA, gB, gC, gD, gE, gF])
      refine wpAnyH_take (i := 15) (v := ?_) rfl (by kernel_rfl) (by kernel_rfl) (by kernel_rfl) (fun _ _ _ h => h) (Or.inl ⟨by rfl, ?_⟩) hHeldF ?_
      rotate_left
      · intro w9 hSw
        clear hSw
        go_simp
        all_goals (try with_reducible rfl)
      (try simp only [Act.put, gA, gB, gC, gD, gE, gF])
      refine wpAnyH_done (by kernel_rfl) ?_ _
      have Hf := hid hown9
      have Hg9 := hid hg9
      have Hb9 := hid hb9
      clear hHeld hHeldP hHeldF hown9 hgo9 hat9 hlt9 hg9 hrZ hS9 hb9
      go_wp2_with fail
      go_roundw
      case rel =>
        refine ⟨k + 1, g', gc', by omega, by go_num, rfl, ?_, HS9, Hb9, Hg9.out⟩
        rw [take_snoc _ _ _ (coups_at Hp.out), List.flatMap_append]
        exact Hf.out
      case measure => simp [intOf]; omega
    · obtain rfl : k = n := by omega
      obtain ⟨m, rfl⟩ : ∃ m, k = m + 1 := ⟨k - 1, by omega⟩
      obtain ⟨how, hgc⟩ := own_ow Hrow.out (by omega) (by rw [List.length_take, Hcl.out]; omega)
      rw [take_len _ _ Hcl.out] at how
      obtain ⟨b2, o2, f, e2, hf, _, _, hfz, hcz⟩ := how.at m (by omega)
      simp only [Option.some.injEq, Addr.mk.injEq, and_true] at e2
      obtain ⟨rfl, rfl⟩ := e2
      have c1 : wr.cell? ⟨g, m * 2 + 1, none⟩ = some (.int .i64 f.amount) := by have := hcz 1 _ rfl; simpa [flowL] using this
      have f1 : wr.frozen? ⟨g, m * 2 + 1, none⟩ = false := hfz _
      have hfin := Hset.out f m (by rw [Hcl.out]) hf
      have hamt : 0 ≤ f.amount ∧ f.amount ≤ 3000 := by
        obtain ⟨p, hp⟩ : ∃ p, (persF b)[m]? = some p := ⟨(persF b)[m]'(by have := Hnl.out; omega), by simp [show m < (persF b).length by have := Hnl.out; omega]⟩
        rw [coups_at hp] at hf
        obtain rfl := Option.some.inj hf
        exact Hcb.out p (List.mem_of_getElem? hp)
      obtain ⟨am0, am1⟩ := hamt
      have hoF := how.set m 1 f ⟨f.day, f.amount + 10000⟩ (.int .i64 (f.amount + 10000)) hf (by simp [flowL]) rfl (m * 2 + 1) (by simp [flowL])
      rw [← hfin, ← Hfl.out] at hoF
      have HoF := hid hoF
      have HgF : Hid (w.grownBy (wr.setCell ⟨g, m * 2 + 1, none⟩ (.int .i64 (f.amount + 10000))) none) := hid (gr_setCell Hgr.out (.inr (by have := (Hrow.out.lt g rfl).1; simp; omega)) _)
      have hle1 : (((m + 1 : Nat) : Int) - 1).toNat = m := by omega
      have hle2 : (0 : Int) ≤ ((m + 1 : Nat) : Int) - 1 := by omega
      have hm0 : (0 : Int) ≤ m := by omega
      clear hcz hfz how hf hfin hoF
      go_wp2_with fail
      go_ret
      exact ⟨_, _, _, rfl, HoF.out.mono (by omega), hgc, HgF.out⟩

end Go.Proofs.YtielicmjdhmcjaaGreatDoor

/- AccruedOf, DirtyOf and CleanOf of both sides. -/
namespace Go.Proofs.YtielicmjdhmcjaaGreatDoor
open Go.RowKit

def dirtyF (b : Bond) (day c : Int) : Int := if accF b day < 0 ∨ withinB c 0 50000 = false then -1 else c + accF b day
def cleanF (b : Bond) (day d : Int) : Int × Bool := if accF b day < 0 ∨ withinB d (accF b day) (accF b day + 50000) = false then (0, false) else (d - accF b day, true)

theorem acc_le {b : Bond} {day : Int} (h : runB b day = true) : accF b day = accL b day ∧ 0 ≤ accL b day ∧ accL b day ≤ 3000 := by
  obtain ⟨hok, hd0, hd1⟩ := run_facts h
  have h1 := acc_bd hok day hd0 hd1
  obtain ⟨_, a, c, hm, _⟩ := perAt_spec hok day hd0 hd1
  have hc := coup_bd hok _ (pers_okPer hok _ hm)
  refine ⟨by unfold accF; rw [if_pos h], h1.1, by omega⟩
theorem acc_no {b : Bond} {day : Int} (h : runB b day = false) : accF b day = -1 := by
  unfold accF; rw [if_neg (by rw [h]; simp)]
theorem acc_range (b : Bond) (day : Int) : -1 ≤ accF b day ∧ accF b day ≤ 3000 := by
  cases h : runB b day with
  | true => have := acc_le h; omega
  | false => have := acc_no h; omega

set_option maxHeartbeats 400000 in
theorem specAccruedOf_any (b : Bond) (day : Int) (w : World) :
    Calls Tryz.prog 38 #[.agg #[.int .i64 b.start, .int .i64 b.stop, .int .i64 b.months, .int .i64 b.rate], .int .i64 day] w fun e' w' => e' = .returned (.int .i64 (accF b day)) ∧ w.grownBy w' none := by
  have hg0 : w.grownBy (w.alloc (.cells #[.int .i64 b.start, .int .i64 b.stop, .int .i64 b.months, .int .i64 b.rate] 37)) none := gr_alloc (gr0 _) _
  have Hb0 := hid (heap_alloc_new w (.cells #[.int .i64 b.start, .int .i64 b.stop, .int .i64 b.months, .int .i64 b.rate] 37))
  have HR := hid (specrunning_any b day (w.alloc (.cells #[.int .i64 b.start, .int .i64 b.stop, .int .i64 b.months, .int .i64 b.rate] 37)))
  have HG := hid hg0; clear hg0
  cases h : runB b day with
  | true =>
    have HA := hid (acc_le h).1
    have HC := hid (fun wx => specaccrued_any b day wx h)
    rw [h] at HR
    clear h
    go_enter Tryz.func38, Tryz.ntmps38
    go_wp2_with fail
    refine HR.out.mono ?_
    rintro e' w1 ⟨rfl, hg⟩
    have Hg := hid (gr_trans0 HG.out hg)
    have hb1 := blk_keep Hb0.out hg (by simp)
    have c0 := blk_cell hb1 0 _ rfl
    have c1 := blk_cell hb1 1 _ rfl
    have c2 := blk_cell hb1 2 _ rfl
    have c3 := blk_cell hb1 3 _ rfl
    clear hb1 hg
    go_wp2_with fail
    refine (HC.out _).mono ?_
    rintro e' w2 ⟨rfl, hg2⟩
    have Hg2 := hid (gr_trans0 Hg.out hg2)
    clear hg2
    go_wp2_with fail
    go_ret
    exact ⟨ret_int HA.out.symm, Hg2.out⟩
  | false =>
    have HA := hid (acc_no h)
    rw [h] at HR
    clear h
    go_enter Tryz.func38, Tryz.ntmps38
    go_wp2_with fail
    refine HR.out.mono ?_
    rintro e' w1 ⟨rfl, hg⟩
    have Hg := hid (gr_trans0 HG.out hg)
    clear hg
    go_wp2_with fail
    go_ret
    exact ⟨ret_int HA.out.symm, Hg.out⟩

end Go.Proofs.YtielicmjdhmcjaaGreatDoor
