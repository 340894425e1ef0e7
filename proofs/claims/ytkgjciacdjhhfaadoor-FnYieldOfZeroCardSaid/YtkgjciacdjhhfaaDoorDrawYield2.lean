/- The generator of yields' arguments: it ends. -/
import Derived.Test.YtkgjciacdjhhfaaDoorRows
import Derived.Test.YtkgjciacdjhhfaaDoorBase
import Derived.Test.YtkgjciacdjhhfaaDoorDrawDay
import Derived.Test.YtkgjciacdjhhfaaDoorDrawPrice
import Derived.Test.YtkgjciacdjhhfaaDoorSpecPrice
namespace Go.Proofs.YtkgjciacdjhhfaaDoor
open Go.RowKit

/- the last region of the other branch: any price -/
set_option maxRecDepth 100000 in
set_option maxHeartbeats 4000000 in
theorem DrawYieldOf_any (a : Option Addr) (n cap : Nat) (xs : List Int) (w : World) (hs : Sl u8L w a n xs) (hcap : n ≤ cap) (hx : ∀ x ∈ xs, 0 ≤ x ∧ x ≤ 255) :
    Calls Tryd.prog 34 #[.slice a n cap] w fun e w' => ∃ (b : Bond) (day u : Int), e = .returned (.tuple #[.agg #[.int .i64 b.start, .int .i64 b.stop, .int .i64 b.months, .int .i64 b.rate], .int .i64 day, .int .i64 u]) ∧ BdB b ∧ ((-3000000 ≤ day ∧ day ≤ 3000000) ∧ (-1 ≤ u ∧ u ≤ 520000)) ∧ w.grownBy w' none := by
  have hs2 := hs.keep0 (gr_alloc (gr0 w) (Obj.cells #[.int .i64 0, .int .i64 0, .int .i64 0, .int .i64 0] 27))
  have Hs := hid hs2
  clear hs hs2
  go_enter Tryd.func34, Tryd.ntmps34
  go_wp2_with fail
  refine (newReader_any a n cap xs _ Hs.out hcap hx).mono ?_
  rintro e w1 ⟨rb, rfl, hrb, h1, hg⟩
  have Hb1 := hid (blk_keep (heap_alloc_new w (Obj.cells #[.int .i64 0, .int .i64 0, .int .i64 0, .int .i64 0] 27)) hg (by simp))
  have Hg1 := hid (gr_trans0 (gr_alloc (gr0 _) _) hg)
  have hrb2 : w.heap.size < rb := by simp at hrb; omega
  clear hg hrb
  go_wp2_with fail
  refine (bondDay_any rb 0 w1 h1 (by omega)).mono ?_
  rintro e w2 ⟨b, day, rfl, hB, hd, h2, hg⟩
  have Hb2 := hid (blk_alloc (blk_keep Hb1.out hg (by simp; omega)) (.cells #[.int .i64 b.start, .int .i64 b.stop, .int .i64 b.months, .int .i64 b.rate] 27))
  have Hg2 := hid (gr_alloc (gr_own Hg1.out hg (fun k e => by cases e; omega)) (.cells #[.int .i64 b.start, .int .i64 b.stop, .int .i64 b.months, .int .i64 b.rate] 27))
  have Hd2 := hid (heap_alloc_new w2 (.cells #[.int .i64 b.start, .int .i64 b.stop, .int .i64 b.months, .int .i64 b.rate] 27))
  have h3 := h2.keep0 (gr_alloc (gr0 w2) (.cells #[.int .i64 b.start, .int .i64 b.stop, .int .i64 b.months, .int .i64 b.rate] 27))
  have HB := hid hB
  have Hd := hid hd
  have hlt2 := h2.lt
  have hDw : w.heap.size < w2.heap.size := by have := h2.lt; omega
  clear hg h1 h2 hB hd
  go_wp2_with fail
  obtain ⟨D, hD⟩ : ∃ D, D = w2.heap.size := ⟨_, rfl⟩
  rw [← hD] at Hd2 hDw hlt2 ⊢
  generalize (w2.alloc (.cells #[.int .i64 b.start, .int .i64 b.stop, .int .i64 b.months, .int .i64 b.rate] 27)) = W at *
  clear hD
  have n2 : ¬ w.heap.size = D := by omega
  have n3 : ¬ rb = D := by omega
  have n4 : ¬ rb = w.heap.size := by omega
  have c0 := blk_cell Hd2.out 0 _ rfl
  have c1 := blk_cell Hd2.out 1 _ rfl
  have c2 := blk_cell Hd2.out 2 _ rfl
  have c3 := blk_cell Hd2.out 3 _ rfl
  go_wp2_with fail
  refine (specrunning_any b day W).mono ?_
  rintro e' w3 ⟨rfl, hg⟩
  have Hb3 := hid (blk_keep Hb2.out hg (by simp))
  have Hd3 := hid (blk_keep Hd2.out hg (by simp))
  have Hg3 := hid (gr_trans0 Hg2.out hg)
  have h4 := h3.keep0 hg
  clear hg c0 c1 c2 c3 h3 Hb2 Hd2 Hg2 Hb1 Hg1 Hs hx
  cases hr : runB b day with
  | false =>
    clear hr
    go_wp2_with fail
    refine wp_region_held_drew (S := (fun w' => (∃ v0 v1 v2 v3, w'.heap[w.heap.size]? = some (.cells #[v0, v1, v2, v3] 27 (0, 0))) ∧ w'.heap[D]? = some (.cells #[.int .i64 b.start, .int .i64 b.stop, .int .i64 b.months, .int .i64 b.rate] 27 (0, 0)) ∧ w.grownBy w' none)) (by kernel_rfl) ⟨⟨_, _, _, _, Hb3.out⟩, Hd3.out, gr_drew Hg3.out⟩ (fun hHeld => ?_)
    refine wpAnyH_take (i := 0) (v := ?_) rfl (by kernel_rfl) (by kernel_rfl) (by kernel_rfl) (fun _ _ _ h => h) (Or.inl ⟨by rfl, ?_⟩) hHeld ?_
    rotate_left
    · intro w9 hSw
      (obtain ⟨_, sb, _⟩ := hSw; have s0 := blk_cell sb 0 _ rfl; have s1 := blk_cell sb 1 _ rfl; have s2 := blk_cell sb 2 _ rfl; have s3 := blk_cell sb 3 _ rfl; clear sb)
      go_simp
      all_goals (try with_reducible rfl)
    (try simp only [Act.put]); (try simp only [List.getElem_toArray]); (try simp only [List.getElem_cons_succ]); (try simp only [List.getElem_cons_zero]); (try simp only [List.setIfInBounds_toArray]); (try simp only [List.set_cons_succ]); (try simp only [List.set_cons_zero])
    refine wpAnyH_take (i := 1) (v := ?_) rfl (by kernel_rfl) (by kernel_rfl) (by kernel_rfl) (fun _ _ _ h => h) (Or.inl ⟨by rfl, ?_⟩) hHeld ?_
    rotate_left
    · intro w9 hSw
      (obtain ⟨_, sb, _⟩ := hSw; have s0 := blk_cell sb 0 _ rfl; have s1 := blk_cell sb 1 _ rfl; have s2 := blk_cell sb 2 _ rfl; have s3 := blk_cell sb 3 _ rfl; clear sb)
      go_simp
      all_goals (try with_reducible rfl)
    (try simp only [Act.put]); (try simp only [List.getElem_toArray]); (try simp only [List.getElem_cons_succ]); (try simp only [List.getElem_cons_zero]); (try simp only [List.setIfInBounds_toArray]); (try simp only [List.set_cons_succ]); (try simp only [List.set_cons_zero])
    refine wpAnyH_take (i := 2) (v := ?_) rfl (by kernel_rfl) (by kernel_rfl) (by kernel_rfl) (fun _ _ _ h => h) (Or.inl ⟨by rfl, ?_⟩) hHeld ?_
    rotate_left
    · intro w9 hSw
      (obtain ⟨_, sb, _⟩ := hSw; have s0 := blk_cell sb 0 _ rfl; have s1 := blk_cell sb 1 _ rfl; have s2 := blk_cell sb 2 _ rfl; have s3 := blk_cell sb 3 _ rfl; clear sb)
      go_simp
      all_goals (try with_reducible rfl)
    (try simp only [Act.put]); (try simp only [List.getElem_toArray]); (try simp only [List.getElem_cons_succ]); (try simp only [List.getElem_cons_zero]); (try simp only [List.setIfInBounds_toArray]); (try simp only [List.set_cons_succ]); (try simp only [List.set_cons_zero])
    refine wpAnyH_ready (rs := [3]) (by kernel_rfl) (by simp) ?_
    refine AllReadyH.cons rfl (fun K' hK' => ?_) AllReadyH.nil
    go_simp
    refine (anyPrice_any rb _ _ (h4.keep0 (gr_drew (gr0 _))) (by omega)).mono ?_
    rintro e' w9 ⟨u, rfl, ⟨hu0, hu1⟩, _, hg⟩
    (try simp only [])
    refine hK'.out _ _ ⟨by obtain ⟨v0, v1, v2, v3, hT⟩ := hHeld.1; exact ⟨_, _, _, _, blk_keep hT hg (by intro k e; cases e; exact n4)⟩, blk_keep hHeld.2.1 hg (by intro k e; cases e; exact n3), gr_own hHeld.2.2 hg (fun k e => by cases e; omega)⟩ (fun hHeldD => ?_)
    clear hHeld
    have hHeld := hHeldD
    have Hu := hid (show -1 ≤ u ∧ u ≤ 520000 by omega)
    clear hK' K' hHeldD hg hu0 hu1
    (try simp only [Act.put]); (try simp only [List.getElem_toArray]); (try simp only [List.getElem_cons_succ]); (try simp only [List.getElem_cons_zero]); (try simp only [List.setIfInBounds_toArray]); (try simp only [List.set_cons_succ]); (try simp only [List.set_cons_zero])
    obtain ⟨v0, v1, v2, v3, hbT⟩ := hHeld.1
    have f0 := blk_cell hbT 0 _ rfl
    have f1 := blk_cell hbT 1 _ rfl
    have f2 := blk_cell hbT 2 _ rfl
    have f3 := blk_cell hbT 3 _ rfl
    have k0 := blk_frozen hbT 0
    have k1 := blk_frozen hbT 1
    have k2 := blk_frozen hbT 2
    have k3 := blk_frozen hbT 3
    refine wpAnyH_ready (rs := [4]) (by kernel_rfl) (by simp) ?_
    refine AllReadyH.cons rfl (fun K' hK' => ?_) AllReadyH.nil
    go_simp
    have hF := blk_set (blk_set (blk_set (blk_set hbT 0 (.int .i64 b.start)) 1 (.int .i64 b.stop)) 2 (.int .i64 b.months)) 3 (.int .i64 b.rate)
    have HF := hid (hF.trans (show _ = some (Obj.cells #[.int .i64 b.start, .int .i64 b.stop, .int .i64 b.months, .int .i64 b.rate] 27 (0, 0)) from rfl))
    have hHeldR := (⟨⟨_, _, _, _, hF.trans rfl⟩, blk_set_other (blk_set_other (blk_set_other (blk_set_other hHeld.2.1 _ n2 _) _ n2 _) _ n2 _) _ n2 _, gr_setCell (gr_setCell (gr_setCell (gr_setCell hHeld.2.2 (.inr (Nat.le_refl _)) _) (.inr (Nat.le_refl _)) _) (.inr (Nat.le_refl _)) _) (.inr (Nat.le_refl _)) _⟩ : (fun w' => (∃ v0 v1 v2 v3, w'.heap[w.heap.size]? = some (.cells #[v0, v1, v2, v3] 27 (0, 0))) ∧ w'.heap[D]? = some (.cells #[.int .i64 b.start, .int .i64 b.stop, .int .i64 b.months, .int .i64 b.rate] 27 (0, 0)) ∧ w.grownBy w' none) (((((_ : World).setCell ⟨w.heap.size, 0, none⟩ (.int .i64 b.start)).setCell ⟨w.heap.size, 1, none⟩ (.int .i64 b.stop)).setCell ⟨w.heap.size, 2, none⟩ (.int .i64 b.months)).setCell ⟨w.heap.size, 3, none⟩ (.int .i64 b.rate)))
    refine hK'.out _ _ hHeldR (fun hHeldF => ?_)
    clear hK' K'
    (try simp only [Act.put]); (try simp only [List.getElem_toArray]); (try simp only [List.getElem_cons_succ]); (try simp only [List.getElem_cons_zero]); (try simp only [List.setIfInBounds_toArray]); (try simp only [List.set_cons_succ]); (try simp only [List.set_cons_zero])
    refine wpAnyH_take (i := 5) (v := ?_) rfl (by kernel_rfl) (by kernel_rfl) (by kernel_rfl) (fun _ _ _ h => h) (Or.inl ⟨by rfl, ?_⟩) hHeldF ?_
    rotate_left
    · intro w9 hSw
      clear hSw
      go_simp
      all_goals (try with_reducible rfl)
    (try simp only [Act.put]); (try simp only [List.getElem_toArray]); (try simp only [List.getElem_cons_succ]); (try simp only [List.getElem_cons_zero]); (try simp only [List.setIfInBounds_toArray]); (try simp only [List.set_cons_succ]); (try simp only [List.set_cons_zero])
    refine wpAnyH_take (i := 6) (v := ?_) rfl (by kernel_rfl) (by kernel_rfl) (by kernel_rfl) (fun _ _ _ h => h) (Or.inl ⟨by rfl, ?_⟩) hHeldF ?_
    rotate_left
    · intro w9 hSw
      clear hSw
      go_simp
      all_goals (try with_reducible rfl)
    (try simp only [Act.put]); (try simp only [List.getElem_toArray]); (try simp only [List.getElem_cons_succ]); (try simp only [List.getElem_cons_zero]); (try simp only [List.setIfInBounds_toArray]); (try simp only [List.set_cons_succ]); (try simp only [List.set_cons_zero])
    refine wpAnyH_done (by kernel_rfl) ?_ _
    clear f0 f1 f2 f3 k0 k1 k2 k3 hF
    have f0 := blk_cell HF.out 0 _ rfl
    have f1 := blk_cell HF.out 1 _ rfl
    have f2 := blk_cell HF.out 2 _ rfl
    have f3 := blk_cell HF.out 3 _ rfl
    have HgF := hid hHeldR.2.2
    clear hHeld hHeldF hHeldR hbT HF
    generalize (World.setCell _ ⟨w.heap.size, 3, none⟩ (.int .i64 b.rate)) = WF at *
    go_wp2_with fail
    exact bodyPost_ret (v := .tuple #[.agg #[.int .i64 b.start, .int .i64 b.stop, .int .i64 b.months, .int .i64 b.rate], .int .i64 day, .int .i64 u]) (by simp [results, Tryd.results34, go_sem, *]) rfl ⟨b, day, u, rfl, HB.out, ⟨Hd.out, Hu.out⟩, HgF.out⟩
  | true =>
    have Hrun := hid (run_of hr)
    clear hr
    go_wp2_with fail
    refine (pick_any rb _ 2 _ h4 (by omega)).mono ?_
    rintro e' w4 ⟨q, rfl, hq0, hq1, h5, hg⟩
    have Hb4 := hid (blk_keep Hb3.out hg (by intro k e; cases e; exact n4))
    have Hd4 := hid (blk_keep Hd3.out hg (by intro k e; cases e; exact n3))
    have Hg4 := hid (gr_own Hg3.out hg (fun k e => by cases e; omega))
    clear hg h4 Hb3 Hd3 Hg3 hq0 hq1
    by_cases hq : q = 0
    · have z1 : (q == 0) = true := by simpa using hq
      clear hq
      go_upto_region 4 with fail
      clear z1
      go_cut [8] from 24 to 29 (fun v wx => ∃ (Q : Nat) (pl ph : Int), v = .pointer (some ⟨Q, 0, none⟩) ∧ wx.heap[Q]? = some (.cells #[.int .i64 pl, .int .i64 ph] 25 (0, 0)) ∧ ((0 ≤ pl ∧ pl ≤ 520000) ∧ 0 ≤ ph ∧ ph ≤ 520000) ∧ Rdr 83 wx rb 12 ∧ (fun w' => (∃ v0 v1 v2 v3, w'.heap[w.heap.size]? = some (.cells #[v0, v1, v2, v3] 27 (0, 0))) ∧ w'.heap[D]? = some (.cells #[.int .i64 b.start, .int .i64 b.stop, .int .i64 b.months, .int .i64 b.rate] 27 (0, 0)) ∧ w.grownBy w' none) wx ∧ D < Q ∧ rb < Q)
      case first =>
        refine wp_region_held_drew (S := (fun w' => (∃ v0 v1 v2 v3, w'.heap[w.heap.size]? = some (.cells #[v0, v1, v2, v3] 27 (0, 0))) ∧ w'.heap[D]? = some (.cells #[.int .i64 b.start, .int .i64 b.stop, .int .i64 b.months, .int .i64 b.rate] 27 (0, 0)) ∧ w.grownBy w' none)) (by kernel_rfl) ⟨⟨_, _, _, _, Hb4.out⟩, Hd4.out, gr_drew Hg4.out⟩ (fun hHeld => ?_)
        have hDl := blk_lt Hd4.out
        have hRl := h5.lt
        have h5 := h5.keep0 (gr_drew (gr0 _))
        clear Hb4 Hd4 Hg4
        refine wpAnyH_take (i := 0) (v := ?_) rfl (by kernel_rfl) (by kernel_rfl) (by kernel_rfl) (fun _ _ _ h => h) (Or.inl ⟨by rfl, ?_⟩) hHeld ?_
        rotate_left
        · intro w9 hSw
          (obtain ⟨_, sb, _⟩ := hSw; have s0 := blk_cell sb 0 _ rfl; have s1 := blk_cell sb 1 _ rfl; have s2 := blk_cell sb 2 _ rfl; have s3 := blk_cell sb 3 _ rfl; clear sb)
          go_simp
          all_goals (try with_reducible rfl)
        (try simp only [Act.put]); (try simp only [List.getElem_toArray]); (try simp only [List.getElem_cons_succ]); (try simp only [List.getElem_cons_zero]); (try simp only [List.setIfInBounds_toArray]); (try simp only [List.set_cons_succ]); (try simp only [List.set_cons_zero])
        refine wpAnyH_take (i := 1) (v := ?_) rfl (by kernel_rfl) (by kernel_rfl) (by kernel_rfl) (fun _ _ _ h => h) (Or.inl ⟨by rfl, ?_⟩) hHeld ?_
        rotate_left
        · intro w9 hSw
          (obtain ⟨_, sb, _⟩ := hSw; have s0 := blk_cell sb 0 _ rfl; have s1 := blk_cell sb 1 _ rfl; have s2 := blk_cell sb 2 _ rfl; have s3 := blk_cell sb 3 _ rfl; clear sb)
          go_simp
          all_goals (try with_reducible rfl)
        (try simp only [Act.put]); (try simp only [List.getElem_toArray]); (try simp only [List.getElem_cons_succ]); (try simp only [List.getElem_cons_zero]); (try simp only [List.setIfInBounds_toArray]); (try simp only [List.set_cons_succ]); (try simp only [List.set_cons_zero])
        refine wpAnyH_take (i := 2) (v := ?_) rfl (by kernel_rfl) (by kernel_rfl) (by kernel_rfl) (fun _ _ _ h => h) (Or.inl ⟨by rfl, ?_⟩) hHeld ?_
        rotate_left
        · intro w9 hSw
          (obtain ⟨_, sb, _⟩ := hSw; have s0 := blk_cell sb 0 _ rfl; have s1 := blk_cell sb 1 _ rfl; have s2 := blk_cell sb 2 _ rfl; have s3 := blk_cell sb 3 _ rfl; clear sb)
          go_simp
          all_goals (try with_reducible rfl)
        (try simp only [Act.put]); (try simp only [List.getElem_toArray]); (try simp only [List.getElem_cons_succ]); (try simp only [List.getElem_cons_zero]); (try simp only [List.setIfInBounds_toArray]); (try simp only [List.set_cons_succ]); (try simp only [List.set_cons_zero])
        refine wpAnyH_ready (rs := [3, 6]) (by kernel_rfl) (by simp) ?_
        refine AllReadyH.cons rfl (fun K' hK' => ?_) (AllReadyH.cons rfl (fun K' hK' => ?_) AllReadyH.nil)
        · go_simp
          refine (pick_any rb _ 40 _ h5 (by omega)).mono ?_
          rintro e' wq ⟨p, rfl, hp0, hp1, h6, hg⟩
          have hp40 : p < 40 := by omega
          have HPr := hid (fun wx => specprice_any b day (2500 * p) wx Hrun.out (by omega) (by omega))
          have up : IntKind.i64.wrap (2500 * p) = 2500 * p := IntWalk.i64_in _ (by omega)
          obtain ⟨pl, hpl⟩ : ∃ v, v = priceLo b day (2500 * p) := ⟨_, rfl⟩
          obtain ⟨ph, hph⟩ : ∃ v, v = priceHi b day (2500 * p) := ⟨_, rfl⟩
          have Hbd := hid (show (0 ≤ pl ∧ pl ≤ 520000) ∧ 0 ≤ ph ∧ ph ≤ 520000 by
            have a := Hrun.out.price_bd (y := 2500 * p) (by omega) (by omega)
            have c := Hrun.out.price_le (y := 2500 * p) (by omega) (by omega)
            omega)
          rw [← hpl, ← hph] at HPr
          clear hpl hph hp1
          (try simp only [])
          have hqb := gr_le hg
          refine hK'.out _ _ ⟨by obtain ⟨v0, v1, v2, v3, hT⟩ := hHeld.1; exact ⟨_, _, _, _, blk_keep hT hg (by intro k e; cases e; exact n4)⟩, blk_keep hHeld.2.1 hg (by intro k e; cases e; exact n3), gr_own hHeld.2.2 hg (fun k e => by cases e; omega)⟩ (fun hHeldN => ?_)
          have hrq := h6
          clear hHeld h5 h6 hg
          have hHeld := hHeldN
          clear hK' K' hHeldN
          (try simp only [Act.put]); (try simp only [List.getElem_toArray]); (try simp only [List.getElem_cons_succ]); (try simp only [List.getElem_cons_zero]); (try simp only [List.setIfInBounds_toArray]); (try simp only [List.set_cons_succ]); (try simp only [List.set_cons_zero])
          refine wpAnyH_take (i := 4) (v := ?_) rfl (by kernel_rfl) (by kernel_rfl) (by kernel_rfl) (fun _ _ _ h => h) (Or.inl ⟨by rfl, ?_⟩) hHeld ?_
          rotate_left
          · intro w9 hSw
            clear hSw
            go_simp
            all_goals (try with_reducible rfl)
          (try simp only [Act.put]); (try simp only [List.getElem_toArray]); (try simp only [List.getElem_cons_succ]); (try simp only [List.getElem_cons_zero]); (try simp only [List.setIfInBounds_toArray]); (try simp only [List.set_cons_succ]); (try simp only [List.set_cons_zero])
          (try simp only [up])
          clear up
          refine wpAnyH_ready (rs := [5, 6]) (by kernel_rfl) (by simp) ?_
          refine AllReadyH.cons rfl (fun K' hK' => ?_) (AllReadyH.cons rfl (fun K' hK' => ?_) AllReadyH.nil)
          · go_simp
            refine (HPr.out _).mono ?_
            rintro e' wp ⟨rfl, hg⟩
            (try simp only [])
            have hqb := gr_le hg
            refine hK'.out _ _ ⟨by obtain ⟨v0, v1, v2, v3, hT⟩ := hHeld.1; exact ⟨_, _, _, _, blk_keep hT hg (by simp)⟩, blk_keep hHeld.2.1 hg (by simp), gr_trans0 hHeld.2.2 hg⟩ (fun hHeldN => ?_)
            have hrq := hrq.keep0 hg
            have hgp := gr_le hg
            clear hHeld hg
            have hHeld := hHeldN
            clear hK' K' hHeldN
            (try simp only [Act.put]); (try simp only [List.getElem_toArray]); (try simp only [List.getElem_cons_succ]); (try simp only [List.getElem_cons_zero]); (try simp only [List.setIfInBounds_toArray]); (try simp only [List.set_cons_succ]); (try simp only [List.set_cons_zero])
            refine wpAnyH_ready (rs := [6]) (by kernel_rfl) (by simp) ?_
            refine AllReadyH.cons rfl (fun K' hK' => ?_) AllReadyH.nil
            have hQ1 := blk_lt hHeld.2.1
            have hQ2 := hrq.lt
            go_simp
            have hbD := heap_alloc_new wp (.cells #[.int .i64 0, .int .i64 0] 25)
            have hHeldP := hHeld
            refine hK'.out _ _ ⟨by obtain ⟨v0, v1, v2, v3, hT⟩ := hHeld.1; exact ⟨_, _, _, _, blk_alloc hT _⟩, blk_alloc hHeld.2.1 _, gr_alloc hHeld.2.2 _⟩ (fun hHeldN => ?_)
            clear hHeld
            have hHeld := hHeldN
            clear hK' K' hHeldN
            (try simp only [Act.put]); (try simp only [List.getElem_toArray]); (try simp only [List.getElem_cons_succ]); (try simp only [List.getElem_cons_zero]); (try simp only [List.setIfInBounds_toArray]); (try simp only [List.set_cons_succ]); (try simp only [List.set_cons_zero])
            have e0 := blk_cell hbD 0 _ rfl
            have e1 := blk_cell hbD 1 _ rfl
            have k0 := blk_frozen hbD 0
            have k1 := blk_frozen hbD 1
            refine wpAnyH_ready (rs := [7]) (by kernel_rfl) (by simp) ?_
            refine AllReadyH.cons rfl (fun K' hK' => ?_) AllReadyH.nil
            go_simp
            refine hK'.out _ _ ⟨by obtain ⟨v0, v1, v2, v3, hT⟩ := hHeldP.1; exact ⟨_, _, _, _, blk_alloc hT _⟩, blk_alloc hHeldP.2.1 _, gr_alloc hHeldP.2.2 _⟩ (fun hHeldF => ?_)
            clear hK' K'
            (try simp only [Act.put]); (try simp only [List.getElem_toArray]); (try simp only [List.getElem_cons_succ]); (try simp only [List.getElem_cons_zero]); (try simp only [List.setIfInBounds_toArray]); (try simp only [List.set_cons_succ]); (try simp only [List.set_cons_zero])
            refine wpAnyH_done (by kernel_rfl) ?_ _
            go_wp2_with fail
            go_meet
            exact ⟨wp.heap.size, pl, ph, rfl, heap_alloc_new _ _, Hbd.out, (hrq.keep0 (gr_alloc (gr0 _) _)).mono (by omega), hHeldF, hQ1, hQ2⟩
          · have hQ1 := blk_lt hHeld.2.1
            have hQ2 := hrq.lt
            go_simp
            have hbD := heap_alloc_new wq (.cells #[.int .i64 0, .int .i64 0] 25)
            have hHeldP := hHeld
            refine hK'.out _ _ ⟨by obtain ⟨v0, v1, v2, v3, hT⟩ := hHeld.1; exact ⟨_, _, _, _, blk_alloc hT _⟩, blk_alloc hHeld.2.1 _, gr_alloc hHeld.2.2 _⟩ (fun hHeldN => ?_)
            clear hHeld
            have hHeld := hHeldN
            clear hK' K' hHeldN
            (try simp only [Act.put]); (try simp only [List.getElem_toArray]); (try simp only [List.getElem_cons_succ]); (try simp only [List.getElem_cons_zero]); (try simp only [List.setIfInBounds_toArray]); (try simp only [List.set_cons_succ]); (try simp only [List.set_cons_zero])
            obtain ⟨Q, hQe⟩ : ∃ Q, Q = wq.heap.size := ⟨_, rfl⟩
            rw [← hQe] at hbD hQ1 hQ2 ⊢
            clear hQe
            have hrq := hrq.keep0 (gr_alloc (gr0 wq) (.cells #[.int .i64 0, .int .i64 0] 25))
            refine wpAnyH_ready (rs := [5]) (by kernel_rfl) (by simp) ?_
            refine AllReadyH.cons rfl (fun K' hK' => ?_) AllReadyH.nil
            go_simp
            refine (HPr.out _).mono ?_
            rintro e' wp ⟨rfl, hg⟩
            (try simp only [])
            have hqb := blk_keep hbD hg (by simp)
            refine hK'.out _ _ ⟨by obtain ⟨v0, v1, v2, v3, hT⟩ := hHeld.1; exact ⟨_, _, _, _, blk_keep hT hg (by simp)⟩, blk_keep hHeld.2.1 hg (by simp), gr_trans0 hHeld.2.2 hg⟩ (fun hHeldN => ?_)
            have hrq := hrq.keep0 hg
            have hgp := gr_le hg
            clear hHeld hg
            have hHeld := hHeldN
            clear hK' K' hHeldN
            (try simp only [Act.put]); (try simp only [List.getElem_toArray]); (try simp only [List.getElem_cons_succ]); (try simp only [List.getElem_cons_zero]); (try simp only [List.setIfInBounds_toArray]); (try simp only [List.set_cons_succ]); (try simp only [List.set_cons_zero])
            have hbD := hqb
            have e0 := blk_cell hbD 0 _ rfl
            have e1 := blk_cell hbD 1 _ rfl
            have k0 := blk_frozen hbD 0
            have k1 := blk_frozen hbD 1
            refine wpAnyH_ready (rs := [7]) (by kernel_rfl) (by simp) ?_
            refine AllReadyH.cons rfl (fun K' hK' => ?_) AllReadyH.nil
            go_simp
            have hT := hHeld.1
            obtain ⟨v0, v1, v2, v3, hT⟩ := hT
            have m1 : ¬ Q = w.heap.size := by omega
            have m2 : ¬ Q = D := by omega
            refine hK'.out _ _ ⟨⟨_, _, _, _, blk_set_other (blk_set_other hT _ m1 _) _ m1 _⟩, blk_set_other (blk_set_other hHeld.2.1 _ m2 _) _ m2 _, gr_setCell (p := ⟨Q, 1, none⟩) (gr_setCell (p := ⟨Q, 0, none⟩) hHeld.2.2 (.inr (by simp; omega)) _) (.inr (by simp; omega)) _⟩ (fun hHeldF => ?_)
            clear hK' K'
            (try simp only [Act.put]); (try simp only [List.getElem_toArray]); (try simp only [List.getElem_cons_succ]); (try simp only [List.getElem_cons_zero]); (try simp only [List.setIfInBounds_toArray]); (try simp only [List.set_cons_succ]); (try simp only [List.set_cons_zero])
            refine wpAnyH_done (by kernel_rfl) ?_ _
            go_wp2_with fail
            go_meet
            exact ⟨Q, pl, ph, rfl, by rw [blk_set (blk_set hbD 0 _) 1 _]; rfl, Hbd.out, ((hrq.setCell (p := ⟨Q, 0, none⟩) hQ2 _).setCell (p := ⟨Q, 1, none⟩) hQ2 _).mono (by omega), hHeldF, hQ1, hQ2⟩
        · have hQ1 := hDl
          have hQ2 := hRl
          go_simp
          have hbD := heap_alloc_new w4.drew (.cells #[.int .i64 0, .int .i64 0] 25)
          have hHeldP := hHeld
          refine hK'.out _ _ ⟨by obtain ⟨v0, v1, v2, v3, hT⟩ := hHeld.1; exact ⟨_, _, _, _, blk_alloc hT _⟩, blk_alloc hHeld.2.1 _, gr_alloc hHeld.2.2 _⟩ (fun hHeldN => ?_)
          clear hHeld
          have hHeld := hHeldN
          clear hK' K' hHeldN
          (try simp only [Act.put]); (try simp only [List.getElem_toArray]); (try simp only [List.getElem_cons_succ]); (try simp only [List.getElem_cons_zero]); (try simp only [List.setIfInBounds_toArray]); (try simp only [List.set_cons_succ]); (try simp only [List.set_cons_zero])
          have hbD : (w4.drew.alloc (.cells #[.int .i64 0, .int .i64 0] 25)).heap[w4.heap.size]? = _ := hbD
          have h5 := h5.keep0 (gr_alloc (gr0 w4.drew) (.cells #[.int .i64 0, .int .i64 0] 25))
          obtain ⟨Q, hQe⟩ : ∃ Q, Q = w4.heap.size := ⟨_, rfl⟩
          rw [← hQe] at hbD hQ1 hQ2 ⊢
          clear hQe
          refine wpAnyH_ready (rs := [3]) (by kernel_rfl) (by simp) ?_
          refine AllReadyH.cons rfl (fun K' hK' => ?_) AllReadyH.nil
          go_simp
          refine (pick_any rb _ 40 _ h5 (by omega)).mono ?_
          rintro e' wq ⟨p, rfl, hp0, hp1, h6, hg⟩
          have hp40 : p < 40 := by omega
          have HPr := hid (fun wx => specprice_any b day (2500 * p) wx Hrun.out (by omega) (by omega))
          have up : IntKind.i64.wrap (2500 * p) = 2500 * p := IntWalk.i64_in _ (by omega)
          obtain ⟨pl, hpl⟩ : ∃ v, v = priceLo b day (2500 * p) := ⟨_, rfl⟩
          obtain ⟨ph, hph⟩ : ∃ v, v = priceHi b day (2500 * p) := ⟨_, rfl⟩
          have Hbd := hid (show (0 ≤ pl ∧ pl ≤ 520000) ∧ 0 ≤ ph ∧ ph ≤ 520000 by
            have a := Hrun.out.price_bd (y := 2500 * p) (by omega) (by omega)
            have c := Hrun.out.price_le (y := 2500 * p) (by omega) (by omega)
            omega)
          rw [← hpl, ← hph] at HPr
          clear hpl hph hp1
          (try simp only [])
          have hqb := blk_keep hbD hg (by intro k e; cases e; omega)
          refine hK'.out _ _ ⟨by obtain ⟨v0, v1, v2, v3, hT⟩ := hHeld.1; exact ⟨_, _, _, _, blk_keep hT hg (by intro k e; cases e; exact n4)⟩, blk_keep hHeld.2.1 hg (by intro k e; cases e; exact n3), gr_own hHeld.2.2 hg (fun k e => by cases e; omega)⟩ (fun hHeldN => ?_)
          have hrq := h6
          clear hHeld h5 h6 hg
          have hHeld := hHeldN
          clear hK' K' hHeldN
          (try simp only [Act.put]); (try simp only [List.getElem_toArray]); (try simp only [List.getElem_cons_succ]); (try simp only [List.getElem_cons_zero]); (try simp only [List.setIfInBounds_toArray]); (try simp only [List.set_cons_succ]); (try simp only [List.set_cons_zero])
          refine wpAnyH_take (i := 4) (v := ?_) rfl (by kernel_rfl) (by kernel_rfl) (by kernel_rfl) (fun _ _ _ h => h) (Or.inl ⟨by rfl, ?_⟩) hHeld ?_
          rotate_left
          · intro w9 hSw
            clear hSw
            go_simp
            all_goals (try with_reducible rfl)
          (try simp only [Act.put]); (try simp only [List.getElem_toArray]); (try simp only [List.getElem_cons_succ]); (try simp only [List.getElem_cons_zero]); (try simp only [List.setIfInBounds_toArray]); (try simp only [List.set_cons_succ]); (try simp only [List.set_cons_zero])
          (try simp only [up])
          clear up
          have hbD := hqb
          refine wpAnyH_ready (rs := [5]) (by kernel_rfl) (by simp) ?_
          refine AllReadyH.cons rfl (fun K' hK' => ?_) AllReadyH.nil
          go_simp
          refine (HPr.out _).mono ?_
          rintro e' wp ⟨rfl, hg⟩
          (try simp only [])
          have hqb := blk_keep hbD hg (by simp)
          refine hK'.out _ _ ⟨by obtain ⟨v0, v1, v2, v3, hT⟩ := hHeld.1; exact ⟨_, _, _, _, blk_keep hT hg (by simp)⟩, blk_keep hHeld.2.1 hg (by simp), gr_trans0 hHeld.2.2 hg⟩ (fun hHeldN => ?_)
          have hrq := hrq.keep0 hg
          have hgp := gr_le hg
          clear hHeld hg
          have hHeld := hHeldN
          clear hK' K' hHeldN
          (try simp only [Act.put]); (try simp only [List.getElem_toArray]); (try simp only [List.getElem_cons_succ]); (try simp only [List.getElem_cons_zero]); (try simp only [List.setIfInBounds_toArray]); (try simp only [List.set_cons_succ]); (try simp only [List.set_cons_zero])
          have hbD := hqb
          have e0 := blk_cell hbD 0 _ rfl
          have e1 := blk_cell hbD 1 _ rfl
          have k0 := blk_frozen hbD 0
          have k1 := blk_frozen hbD 1
          refine wpAnyH_ready (rs := [7]) (by kernel_rfl) (by simp) ?_
          refine AllReadyH.cons rfl (fun K' hK' => ?_) AllReadyH.nil
          go_simp
          have hT := hHeld.1
          obtain ⟨v0, v1, v2, v3, hT⟩ := hT
          have m1 : ¬ Q = w.heap.size := by omega
          have m2 : ¬ Q = D := by omega
          refine hK'.out _ _ ⟨⟨_, _, _, _, blk_set_other (blk_set_other hT _ m1 _) _ m1 _⟩, blk_set_other (blk_set_other hHeld.2.1 _ m2 _) _ m2 _, gr_setCell (p := ⟨Q, 1, none⟩) (gr_setCell (p := ⟨Q, 0, none⟩) hHeld.2.2 (.inr (by simp; omega)) _) (.inr (by simp; omega)) _⟩ (fun hHeldF => ?_)
          clear hK' K'
          (try simp only [Act.put]); (try simp only [List.getElem_toArray]); (try simp only [List.getElem_cons_succ]); (try simp only [List.getElem_cons_zero]); (try simp only [List.setIfInBounds_toArray]); (try simp only [List.set_cons_succ]); (try simp only [List.set_cons_zero])
          refine wpAnyH_done (by kernel_rfl) ?_ _
          go_wp2_with fail
          go_meet
          exact ⟨Q, pl, ph, rfl, by rw [blk_set (blk_set hbD 0 _) 1 _]; rfl, Hbd.out, ((hrq.setCell (p := ⟨Q, 0, none⟩) hQ2 _).setCell (p := ⟨Q, 1, none⟩) hQ2 _).mono (by omega), hHeldF, hQ1, hQ2⟩
      case rest =>
        obtain ⟨Q, pl, ph, rfl, hQ, hbd, hR, hS, hQ1, hQ2⟩ := hcut
        generalize wc = U at *
        have Hbd := hid hbd
        have HQ := hid hQ
        have Hrun2 := Hrun
        clear hbd Hrun Hrun2 h5 Hb4 Hd4 Hg4 hQ
        go_upto_region 5 with fail
        refine wp_region_held_drew (S := fun w' => (fun w' => (∃ v0 v1 v2 v3, w'.heap[w.heap.size]? = some (.cells #[v0, v1, v2, v3] 27 (0, 0))) ∧ w'.heap[D]? = some (.cells #[.int .i64 b.start, .int .i64 b.stop, .int .i64 b.months, .int .i64 b.rate] 27 (0, 0)) ∧ w.grownBy w' none) w' ∧ w'.heap[Q]? = some (.cells #[.int .i64 pl, .int .i64 ph] 25 (0, 0))) (by kernel_rfl) ⟨⟨hS.1, hS.2.1, gr_drew hS.2.2⟩, HQ.out⟩ (fun hHeld => ?_)
        refine wpAnyH_take (i := 0) (v := ?_) rfl (by kernel_rfl) (by kernel_rfl) (by kernel_rfl) (fun _ _ _ h => h) (Or.inl ⟨by rfl, ?_⟩) hHeld ?_
        rotate_left
        · intro w9 hSw
          (obtain ⟨⟨_, sb, _⟩, sq⟩ := hSw; have s0 := blk_cell sb 0 _ rfl; have s1 := blk_cell sb 1 _ rfl; have s2 := blk_cell sb 2 _ rfl; have s3 := blk_cell sb 3 _ rfl; have q0 := blk_cell sq 0 _ rfl; have q1 := blk_cell sq 1 _ rfl; clear sb sq)
          go_simp
          all_goals (try with_reducible rfl)
        (try simp only [Act.put]); (try simp only [List.getElem_toArray]); (try simp only [List.getElem_cons_succ]); (try simp only [List.getElem_cons_zero]); (try simp only [List.setIfInBounds_toArray]); (try simp only [List.set_cons_succ]); (try simp only [List.set_cons_zero])
        refine wpAnyH_take (i := 1) (v := ?_) rfl (by kernel_rfl) (by kernel_rfl) (by kernel_rfl) (fun _ _ _ h => h) (Or.inl ⟨by rfl, ?_⟩) hHeld ?_
        rotate_left
        · intro w9 hSw
          (obtain ⟨⟨_, sb, _⟩, sq⟩ := hSw; have s0 := blk_cell sb 0 _ rfl; have s1 := blk_cell sb 1 _ rfl; have s2 := blk_cell sb 2 _ rfl; have s3 := blk_cell sb 3 _ rfl; have q0 := blk_cell sq 0 _ rfl; have q1 := blk_cell sq 1 _ rfl; clear sb sq)
          go_simp
          all_goals (try with_reducible rfl)
        (try simp only [Act.put]); (try simp only [List.getElem_toArray]); (try simp only [List.getElem_cons_succ]); (try simp only [List.getElem_cons_zero]); (try simp only [List.setIfInBounds_toArray]); (try simp only [List.set_cons_succ]); (try simp only [List.set_cons_zero])
        refine wpAnyH_take (i := 2) (v := ?_) rfl (by kernel_rfl) (by kernel_rfl) (by kernel_rfl) (fun _ _ _ h => h) (Or.inl ⟨by rfl, ?_⟩) hHeld ?_
        rotate_left
        · intro w9 hSw
          (obtain ⟨⟨_, sb, _⟩, sq⟩ := hSw; have s0 := blk_cell sb 0 _ rfl; have s1 := blk_cell sb 1 _ rfl; have s2 := blk_cell sb 2 _ rfl; have s3 := blk_cell sb 3 _ rfl; have q0 := blk_cell sq 0 _ rfl; have q1 := blk_cell sq 1 _ rfl; clear sb sq)
          go_simp
          all_goals (try with_reducible rfl)
        (try simp only [Act.put]); (try simp only [List.getElem_toArray]); (try simp only [List.getElem_cons_succ]); (try simp only [List.getElem_cons_zero]); (try simp only [List.setIfInBounds_toArray]); (try simp only [List.set_cons_succ]); (try simp only [List.set_cons_zero])
        refine wpAnyH_take (i := 3) (v := ?_) rfl (by kernel_rfl) (by kernel_rfl) (by kernel_rfl) (fun _ _ _ h => h) (Or.inl ⟨by rfl, ?_⟩) hHeld ?_
        rotate_left
        · intro w9 hSw
          (obtain ⟨⟨_, sb, _⟩, sq⟩ := hSw; have s0 := blk_cell sb 0 _ rfl; have s1 := blk_cell sb 1 _ rfl; have s2 := blk_cell sb 2 _ rfl; have s3 := blk_cell sb 3 _ rfl; have q0 := blk_cell sq 0 _ rfl; have q1 := blk_cell sq 1 _ rfl; clear sb sq)
          go_simp
          all_goals (try with_reducible rfl)
        (try simp only [Act.put]); (try simp only [List.getElem_toArray]); (try simp only [List.getElem_cons_succ]); (try simp only [List.getElem_cons_zero]); (try simp only [List.setIfInBounds_toArray]); (try simp only [List.set_cons_succ]); (try simp only [List.set_cons_zero])
        refine wpAnyH_take (i := 4) (v := ?_) rfl (by kernel_rfl) (by kernel_rfl) (by kernel_rfl) (fun _ _ _ h => h) (Or.inl ⟨by rfl, ?_⟩) hHeld ?_
        rotate_left
        · intro w9 hSw
          (obtain ⟨⟨_, sb, _⟩, sq⟩ := hSw; have s0 := blk_cell sb 0 _ rfl; have s1 := blk_cell sb 1 _ rfl; have s2 := blk_cell sb 2 _ rfl; have s3 := blk_cell sb 3 _ rfl; have q0 := blk_cell sq 0 _ rfl; have q1 := blk_cell sq 1 _ rfl; clear sb sq)
          go_simp
          all_goals (try with_reducible rfl)
        (try simp only [Act.put]); (try simp only [List.getElem_toArray]); (try simp only [List.getElem_cons_succ]); (try simp only [List.getElem_cons_zero]); (try simp only [List.setIfInBounds_toArray]); (try simp only [List.set_cons_succ]); (try simp only [List.set_cons_zero])
        refine wpAnyH_take (i := 5) (v := ?_) rfl (by kernel_rfl) (by kernel_rfl) (by kernel_rfl) (fun _ _ _ h => h) (Or.inl ⟨by rfl, ?_⟩) hHeld ?_
        rotate_left
        · intro w9 hSw
          (obtain ⟨⟨_, sb, _⟩, sq⟩ := hSw; have s0 := blk_cell sb 0 _ rfl; have s1 := blk_cell sb 1 _ rfl; have s2 := blk_cell sb 2 _ rfl; have s3 := blk_cell sb 3 _ rfl; have q0 := blk_cell sq 0 _ rfl; have q1 := blk_cell sq 1 _ rfl; clear sb sq)
          go_simp
          all_goals (try with_reducible rfl)
        (try simp only [Act.put]); (try simp only [List.getElem_toArray]); (try simp only [List.getElem_cons_succ]); (try simp only [List.getElem_cons_zero]); (try simp only [List.setIfInBounds_toArray]); (try simp only [List.set_cons_succ]); (try simp only [List.set_cons_zero])
        refine wpAnyH_take (i := 6) (v := ?_) rfl (by kernel_rfl) (by kernel_rfl) (by kernel_rfl) (fun _ _ _ h => h) (Or.inl ⟨by rfl, ?_⟩) hHeld ?_
        rotate_left
        · intro w9 hSw
          (obtain ⟨⟨_, sb, _⟩, sq⟩ := hSw; have s0 := blk_cell sb 0 _ rfl; have s1 := blk_cell sb 1 _ rfl; have s2 := blk_cell sb 2 _ rfl; have s3 := blk_cell sb 3 _ rfl; have q0 := blk_cell sq 0 _ rfl; have q1 := blk_cell sq 1 _ rfl; clear sb sq)
          go_simp
          all_goals (try with_reducible rfl)
        (try simp only [Act.put]); (try simp only [List.getElem_toArray]); (try simp only [List.getElem_cons_succ]); (try simp only [List.getElem_cons_zero]); (try simp only [List.setIfInBounds_toArray]); (try simp only [List.set_cons_succ]); (try simp only [List.set_cons_zero])
        refine wpAnyH_ready (rs := [7]) (by kernel_rfl) (by simp) ?_
        refine AllReadyH.cons rfl (fun K' hK' => ?_) AllReadyH.nil
        go_simp
        refine hK'.out _ _ ⟨⟨by obtain ⟨v0, v1, v2, v3, hT⟩ := hHeld.1.1; exact ⟨_, _, _, _, blk_alloc hT _⟩, blk_alloc hHeld.1.2.1 _, gr_alloc hHeld.1.2.2 _⟩, blk_alloc hHeld.2 _⟩ (fun hHeldN => ?_)
        clear hHeld
        have hHeld := hHeldN
        clear hK' K' hHeldN
        (try simp only [Act.put]); (try simp only [List.getElem_toArray]); (try simp only [List.getElem_cons_succ]); (try simp only [List.getElem_cons_zero]); (try simp only [List.setIfInBounds_toArray]); (try simp only [List.set_cons_succ]); (try simp only [List.set_cons_zero])
        refine wpAnyH_ready (rs := [8]) (by kernel_rfl) (by simp) ?_
        refine AllReadyH.cons rfl (fun K' hK' => ?_) AllReadyH.nil
        go_simp
        refine (one_lit rb _ [pl, ph] _ _ _ rfl rfl (by simp) (by simp) U.drew _ rfl (hR.keep0 (gr_drew (gr0 _))) (by omega)).mono ?_
        rintro e' w9 ⟨u, rfl, hu, _, hg⟩
        (try simp only [])
        refine hK'.out _ _ ⟨⟨by obtain ⟨v0, v1, v2, v3, hT⟩ := hS.1; exact ⟨_, _, _, _, blk_keep (w := U.drew) hT hg (by intro k e; cases e; exact n4)⟩, blk_keep (w := U.drew) hS.2.1 hg (by intro k e; cases e; exact n3), gr_own (gr_drew hS.2.2) hg (fun k e => by cases e; omega)⟩, blk_keep (w := U.drew) HQ.out hg (by intro k e; cases e; omega)⟩ (fun hHeldD => ?_)
        have hHeldQ := hHeldD.2
        clear hHeld
        have hHeld := hHeldD.1
        have Hu := hid (show -1 ≤ u ∧ u ≤ 520000 by have := Hbd.out; simp at hu; omega)
        clear hK' K' hHeldD hg hu
        have m1 : ¬ w.heap.size = Q := by omega
        (try simp only [Act.put]); (try simp only [List.getElem_toArray]); (try simp only [List.getElem_cons_succ]); (try simp only [List.getElem_cons_zero]); (try simp only [List.setIfInBounds_toArray]); (try simp only [List.set_cons_succ]); (try simp only [List.set_cons_zero])
        obtain ⟨v0, v1, v2, v3, hbT⟩ := hHeld.1
        have f0 := blk_cell hbT 0 _ rfl
        have f1 := blk_cell hbT 1 _ rfl
        have f2 := blk_cell hbT 2 _ rfl
        have f3 := blk_cell hbT 3 _ rfl
        have k0 := blk_frozen hbT 0
        have k1 := blk_frozen hbT 1
        have k2 := blk_frozen hbT 2
        have k3 := blk_frozen hbT 3
        refine wpAnyH_ready (rs := [9]) (by kernel_rfl) (by simp) ?_
        refine AllReadyH.cons rfl (fun K' hK' => ?_) AllReadyH.nil
        go_simp
        have hF := blk_set (blk_set (blk_set (blk_set hbT 0 (.int .i64 b.start)) 1 (.int .i64 b.stop)) 2 (.int .i64 b.months)) 3 (.int .i64 b.rate)
        have HF := hid (hF.trans (show _ = some (Obj.cells #[.int .i64 b.start, .int .i64 b.stop, .int .i64 b.months, .int .i64 b.rate] 27 (0, 0)) from rfl))
        have hHeldR := (⟨⟨_, _, _, _, hF.trans rfl⟩, blk_set_other (blk_set_other (blk_set_other (blk_set_other hHeld.2.1 _ n2 _) _ n2 _) _ n2 _) _ n2 _, gr_setCell (gr_setCell (gr_setCell (gr_setCell hHeld.2.2 (.inr (Nat.le_refl _)) _) (.inr (Nat.le_refl _)) _) (.inr (Nat.le_refl _)) _) (.inr (Nat.le_refl _)) _⟩ : (fun w' => (∃ v0 v1 v2 v3, w'.heap[w.heap.size]? = some (.cells #[v0, v1, v2, v3] 27 (0, 0))) ∧ w'.heap[D]? = some (.cells #[.int .i64 b.start, .int .i64 b.stop, .int .i64 b.months, .int .i64 b.rate] 27 (0, 0)) ∧ w.grownBy w' none) (((((_ : World).setCell ⟨w.heap.size, 0, none⟩ (.int .i64 b.start)).setCell ⟨w.heap.size, 1, none⟩ (.int .i64 b.stop)).setCell ⟨w.heap.size, 2, none⟩ (.int .i64 b.months)).setCell ⟨w.heap.size, 3, none⟩ (.int .i64 b.rate)))
        refine hK'.out _ _ ⟨hHeldR, blk_set_other (blk_set_other (blk_set_other (blk_set_other hHeldQ _ m1 _) _ m1 _) _ m1 _) _ m1 _⟩ (fun hHeldF => ?_)
        clear hK' K'
        (try simp only [Act.put]); (try simp only [List.getElem_toArray]); (try simp only [List.getElem_cons_succ]); (try simp only [List.getElem_cons_zero]); (try simp only [List.setIfInBounds_toArray]); (try simp only [List.set_cons_succ]); (try simp only [List.set_cons_zero])
        refine wpAnyH_take (i := 10) (v := ?_) rfl (by kernel_rfl) (by kernel_rfl) (by kernel_rfl) (fun _ _ _ h => h) (Or.inl ⟨by rfl, ?_⟩) hHeldF ?_
        rotate_left
        · intro w9 hSw
          clear hSw
          go_simp
          all_goals (try with_reducible rfl)
        (try simp only [Act.put]); (try simp only [List.getElem_toArray]); (try simp only [List.getElem_cons_succ]); (try simp only [List.getElem_cons_zero]); (try simp only [List.setIfInBounds_toArray]); (try simp only [List.set_cons_succ]); (try simp only [List.set_cons_zero])
        refine wpAnyH_take (i := 11) (v := ?_) rfl (by kernel_rfl) (by kernel_rfl) (by kernel_rfl) (fun _ _ _ h => h) (Or.inl ⟨by rfl, ?_⟩) hHeldF ?_
        rotate_left
        · intro w9 hSw
          clear hSw
          go_simp
          all_goals (try with_reducible rfl)
        (try simp only [Act.put]); (try simp only [List.getElem_toArray]); (try simp only [List.getElem_cons_succ]); (try simp only [List.getElem_cons_zero]); (try simp only [List.setIfInBounds_toArray]); (try simp only [List.set_cons_succ]); (try simp only [List.set_cons_zero])
        refine wpAnyH_done (by kernel_rfl) ?_ _
        clear f0 f1 f2 f3 k0 k1 k2 k3 hF
        have f0 := blk_cell HF.out 0 _ rfl
        have f1 := blk_cell HF.out 1 _ rfl
        have f2 := blk_cell HF.out 2 _ rfl
        have f3 := blk_cell HF.out 3 _ rfl
        have HgF := hid hHeldR.2.2
        clear hHeld hHeldF hHeldR hbT HF
        generalize (World.setCell _ ⟨w.heap.size, 3, none⟩ (.int .i64 b.rate)) = WF at *
        go_wp2_with fail
        exact bodyPost_ret (v := .tuple #[.agg #[.int .i64 b.start, .int .i64 b.stop, .int .i64 b.months, .int .i64 b.rate], .int .i64 day, .int .i64 u]) (by simp [results, Tryd.results34, go_sem, *]) rfl ⟨b, day, u, rfl, HB.out, ⟨Hd.out, Hu.out⟩, HgF.out⟩
    · have z1 : (q == 0) = false := by simpa using hq
      clear hq Hrun
      go_wp2_with fail
      clear z1
      refine wp_region_held_drew (S := (fun w' => (∃ v0 v1 v2 v3, w'.heap[w.heap.size]? = some (.cells #[v0, v1, v2, v3] 27 (0, 0))) ∧ w'.heap[D]? = some (.cells #[.int .i64 b.start, .int .i64 b.stop, .int .i64 b.months, .int .i64 b.rate] 27 (0, 0)) ∧ w.grownBy w' none)) (by kernel_rfl) ⟨⟨_, _, _, _, Hb4.out⟩, Hd4.out, gr_drew Hg4.out⟩ (fun hHeld => ?_)
      refine wpAnyH_take (i := 0) (v := ?_) rfl (by kernel_rfl) (by kernel_rfl) (by kernel_rfl) (fun _ _ _ h => h) (Or.inl ⟨by rfl, ?_⟩) hHeld ?_
      rotate_left
      · intro w9 hSw
        (obtain ⟨_, sb, _⟩ := hSw; have s0 := blk_cell sb 0 _ rfl; have s1 := blk_cell sb 1 _ rfl; have s2 := blk_cell sb 2 _ rfl; have s3 := blk_cell sb 3 _ rfl; clear sb)
        go_simp
        all_goals (try with_reducible rfl)
      (try simp only [Act.put]); (try simp only [List.getElem_toArray]); (try simp only [List.getElem_cons_succ]); (try simp only [List.getElem_cons_zero]); (try simp only [List.setIfInBounds_toArray]); (try simp only [List.set_cons_succ]); (try simp only [List.set_cons_zero])
      refine wpAnyH_take (i := 1) (v := ?_) rfl (by kernel_rfl) (by kernel_rfl) (by kernel_rfl) (fun _ _ _ h => h) (Or.inl ⟨by rfl, ?_⟩) hHeld ?_
      rotate_left
      · intro w9 hSw
        (obtain ⟨_, sb, _⟩ := hSw; have s0 := blk_cell sb 0 _ rfl; have s1 := blk_cell sb 1 _ rfl; have s2 := blk_cell sb 2 _ rfl; have s3 := blk_cell sb 3 _ rfl; clear sb)
        go_simp
        all_goals (try with_reducible rfl)
      (try simp only [Act.put]); (try simp only [List.getElem_toArray]); (try simp only [List.getElem_cons_succ]); (try simp only [List.getElem_cons_zero]); (try simp only [List.setIfInBounds_toArray]); (try simp only [List.set_cons_succ]); (try simp only [List.set_cons_zero])
      refine wpAnyH_take (i := 2) (v := ?_) rfl (by kernel_rfl) (by kernel_rfl) (by kernel_rfl) (fun _ _ _ h => h) (Or.inl ⟨by rfl, ?_⟩) hHeld ?_
      rotate_left
      · intro w9 hSw
        (obtain ⟨_, sb, _⟩ := hSw; have s0 := blk_cell sb 0 _ rfl; have s1 := blk_cell sb 1 _ rfl; have s2 := blk_cell sb 2 _ rfl; have s3 := blk_cell sb 3 _ rfl; clear sb)
        go_simp
        all_goals (try with_reducible rfl)
      (try simp only [Act.put]); (try simp only [List.getElem_toArray]); (try simp only [List.getElem_cons_succ]); (try simp only [List.getElem_cons_zero]); (try simp only [List.setIfInBounds_toArray]); (try simp only [List.set_cons_succ]); (try simp only [List.set_cons_zero])
      refine wpAnyH_ready (rs := [3]) (by kernel_rfl) (by simp) ?_
      refine AllReadyH.cons rfl (fun K' hK' => ?_) AllReadyH.nil
      go_simp
      refine (anyPrice_any rb _ _ (h5.keep0 (gr_drew (gr0 _))) (by omega)).mono ?_
      rintro e' w9 ⟨u, rfl, ⟨hu0, hu1⟩, _, hg⟩
      (try simp only [])
      refine hK'.out _ _ ⟨by obtain ⟨v0, v1, v2, v3, hT⟩ := hHeld.1; exact ⟨_, _, _, _, blk_keep hT hg (by intro k e; cases e; exact n4)⟩, blk_keep hHeld.2.1 hg (by intro k e; cases e; exact n3), gr_own hHeld.2.2 hg (fun k e => by cases e; omega)⟩ (fun hHeldD => ?_)
      clear hHeld
      have hHeld := hHeldD
      have Hu := hid (show -1 ≤ u ∧ u ≤ 520000 by omega)
      clear hK' K' hHeldD hg hu0 hu1
      (try simp only [Act.put]); (try simp only [List.getElem_toArray]); (try simp only [List.getElem_cons_succ]); (try simp only [List.getElem_cons_zero]); (try simp only [List.setIfInBounds_toArray]); (try simp only [List.set_cons_succ]); (try simp only [List.set_cons_zero])
      obtain ⟨v0, v1, v2, v3, hbT⟩ := hHeld.1
      have f0 := blk_cell hbT 0 _ rfl
      have f1 := blk_cell hbT 1 _ rfl
      have f2 := blk_cell hbT 2 _ rfl
      have f3 := blk_cell hbT 3 _ rfl
      have k0 := blk_frozen hbT 0
      have k1 := blk_frozen hbT 1
      have k2 := blk_frozen hbT 2
      have k3 := blk_frozen hbT 3
      refine wpAnyH_ready (rs := [4]) (by kernel_rfl) (by simp) ?_
      refine AllReadyH.cons rfl (fun K' hK' => ?_) AllReadyH.nil
      go_simp
      have hF := blk_set (blk_set (blk_set (blk_set hbT 0 (.int .i64 b.start)) 1 (.int .i64 b.stop)) 2 (.int .i64 b.months)) 3 (.int .i64 b.rate)
      have HF := hid (hF.trans (show _ = some (Obj.cells #[.int .i64 b.start, .int .i64 b.stop, .int .i64 b.months, .int .i64 b.rate] 27 (0, 0)) from rfl))
      have hHeldR := (⟨⟨_, _, _, _, hF.trans rfl⟩, blk_set_other (blk_set_other (blk_set_other (blk_set_other hHeld.2.1 _ n2 _) _ n2 _) _ n2 _) _ n2 _, gr_setCell (gr_setCell (gr_setCell (gr_setCell hHeld.2.2 (.inr (Nat.le_refl _)) _) (.inr (Nat.le_refl _)) _) (.inr (Nat.le_refl _)) _) (.inr (Nat.le_refl _)) _⟩ : (fun w' => (∃ v0 v1 v2 v3, w'.heap[w.heap.size]? = some (.cells #[v0, v1, v2, v3] 27 (0, 0))) ∧ w'.heap[D]? = some (.cells #[.int .i64 b.start, .int .i64 b.stop, .int .i64 b.months, .int .i64 b.rate] 27 (0, 0)) ∧ w.grownBy w' none) (((((_ : World).setCell ⟨w.heap.size, 0, none⟩ (.int .i64 b.start)).setCell ⟨w.heap.size, 1, none⟩ (.int .i64 b.stop)).setCell ⟨w.heap.size, 2, none⟩ (.int .i64 b.months)).setCell ⟨w.heap.size, 3, none⟩ (.int .i64 b.rate)))
      refine hK'.out _ _ hHeldR (fun hHeldF => ?_)
      clear hK' K'
      (try simp only [Act.put]); (try simp only [List.getElem_toArray]); (try simp only [List.getElem_cons_succ]); (try simp only [List.getElem_cons_zero]); (try simp only [List.setIfInBounds_toArray]); (try simp only [List.set_cons_succ]); (try simp only [List.set_cons_zero])
      refine wpAnyH_take (i := 5) (v := ?_) rfl (by kernel_rfl) (by kernel_rfl) (by kernel_rfl) (fun _ _ _ h => h) (Or.inl ⟨by rfl, ?_⟩) hHeldF ?_
      rotate_left
      · intro w9 hSw
        clear hSw
        go_simp
        all_goals (try with_reducible rfl)
      (try simp only [Act.put]); (try simp only [List.getElem_toArray]); (try simp only [List.getElem_cons_succ]); (try simp only [List.getElem_cons_zero]); (try simp only [List.setIfInBounds_toArray]); (try simp only [List.set_cons_succ]); (try simp only [List.set_cons_zero])
      refine wpAnyH_take (i := 6) (v := ?_) rfl (by kernel_rfl) (by kernel_rfl) (by kernel_rfl) (fun _ _ _ h => h) (Or.inl ⟨by rfl, ?_⟩) hHeldF ?_
      rotate_left
      · intro w9 hSw
        clear hSw
        go_simp
        all_goals (try with_reducible rfl)
      (try simp only [Act.put]); (try simp only [List.getElem_toArray]); (try simp only [List.getElem_cons_succ]); (try simp only [List.getElem_cons_zero]); (try simp only [List.setIfInBounds_toArray]); (try simp only [List.set_cons_succ]); (try simp only [List.set_cons_zero])
      refine wpAnyH_done (by kernel_rfl) ?_ _
      clear f0 f1 f2 f3 k0 k1 k2 k3 hF
      have f0 := blk_cell HF.out 0 _ rfl
      have f1 := blk_cell HF.out 1 _ rfl
      have f2 := blk_cell HF.out 2 _ rfl
      have f3 := blk_cell HF.out 3 _ rfl
      have HgF := hid hHeldR.2.2
      clear hHeld hHeldF hHeldR hbT HF
      generalize (World.setCell _ ⟨w.heap.size, 3, none⟩ (.int .i64 b.rate)) = WF at *
      go_wp2_with fail
      exact bodyPost_ret (v := .tuple #[.agg #[.int .i64 b.start, .int .i64 b.stop, .int .i64 b.months, .int .i64 b.rate], .int .i64 day, .int .i64 u]) (by simp [results, Tryd.results34, go_sem, *]) rfl ⟨b, day, u, rfl, HB.out, ⟨Hd.out, Hu.out⟩, HgF.out⟩

end Go.Proofs.YtkgjciacdjhhfaaDoor
