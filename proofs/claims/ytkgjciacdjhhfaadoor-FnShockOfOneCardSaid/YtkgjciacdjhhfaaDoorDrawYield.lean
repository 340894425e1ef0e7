/- The generators of prices' and risks' arguments: they end. -/
import Derived.Test.YtkgjciacdjhhfaaDoorRows
import Derived.Test.YtkgjciacdjhhfaaDoorBase
import Derived.Test.YtkgjciacdjhhfaaDoorDrawDay
namespace Go.Proofs.YtkgjciacdjhhfaaDoor
open Go.RowKit

set_option maxHeartbeats 400000 in
theorem anyYield_any (rb m : Nat) (w : World) (h : Rdr 83 w rb m) (hm : m ≤ 1000000) :
    Calls Tryd.prog 48 #[.pointer (some ⟨rb, 0, none⟩)] w fun e w' => ∃ u : Int, e = .returned (.int .i64 u) ∧ (-1 ≤ u ∧ u ≤ 100001) ∧ Rdr 83 w' rb (m + 2) ∧ w.grownBy w' (some rb) := by
  go_enter Tryd.func48, Tryd.ntmps48
  go_wp2_with fail
  refine (pick_any rb m 250 _ h (by omega)).mono ?_
  rintro e w1 ⟨p, rfl, hp0, hp1, h1, hg⟩
  have hp : p < 250 := by omega
  clear hp1
  have Hg := hid hg
  clear hg h
  go_wp2_with fail
  refine (one_lit rb _ [25000, 0, 12500, 50000, 97500, 100000, 100001, -1, p * 400] _ _ _ rfl rfl (by simp) (by simp) _ _ rfl h1 (by omega)).mono ?_
  rintro e w2 ⟨x, rfl, hx, h2, hg⟩
  have hxb : -1 ≤ x ∧ x ≤ 100001 := by simp at hx; omega
  have Hg2 := hid (gr_transS Hg.out hg)
  have H2 := hid h2
  clear hx hg h1 h2
  go_wp2_with fail
  go_ret
  exact ⟨x, rfl, hxb, H2.out, Hg2.out⟩

set_option maxRecDepth 100000 in
set_option maxHeartbeats 1000000 in
theorem DrawPriceOf_any (a : Option Addr) (n cap : Nat) (xs : List Int) (w : World) (hs : Sl u8L w a n xs) (hcap : n ≤ cap) (hx : ∀ x ∈ xs, 0 ≤ x ∧ x ≤ 255) :
    Calls Tryd.prog 30 #[.slice a n cap] w fun e w' => ∃ (b : Bond) (day u : Int), e = .returned (.tuple #[.agg #[.int .i64 b.start, .int .i64 b.stop, .int .i64 b.months, .int .i64 b.rate], .int .i64 day, .int .i64 u]) ∧ BdB b ∧ ((-3000000 ≤ day ∧ day ≤ 3000000) ∧ (-1 ≤ u ∧ u ≤ 100001)) ∧ w.grownBy w' none := by
  have hs2 := hs.keep0 (gr_alloc (gr0 w) (Obj.cells #[.int .i64 0, .int .i64 0, .int .i64 0, .int .i64 0] 27))
  have Hs := hid hs2
  clear hs hs2
  go_enter Tryd.func30, Tryd.ntmps30
  go_wp2_with fail
  refine (newReader_any a n cap xs _ Hs.out hcap hx).mono ?_
  rintro e w1 ⟨rb, rfl, hrb, h1, hg⟩
  have Hb1 := hid (blk_keep (heap_alloc_new w (Obj.cells #[.int .i64 0, .int .i64 0, .int .i64 0, .int .i64 0] 27)) hg (by simp))
  have Hg1 := hid (gr_trans0 (gr_alloc (gr0 _) _) hg)
  have hrb2 : w.heap.size < rb := by simp at hrb; omega
  clear hg hrb
  go_wp2_with fail
  refine (bondDay_any rb 0 w1 h1 (by omega)).mono ?_
  rintro e w2 ⟨b, day, rfl, hB, hd, h2, hg⟩
  have Hb2 := hid (blk_alloc (blk_keep Hb1.out hg (by simp; omega)) (.cells #[.int .i64 b.start, .int .i64 b.stop, .int .i64 b.months, .int .i64 b.rate] 27))
  have Hg2 := hid (gr_alloc (gr_own Hg1.out hg (fun k e => by cases e; omega)) (.cells #[.int .i64 b.start, .int .i64 b.stop, .int .i64 b.months, .int .i64 b.rate] 27))
  have Hd2 := hid (heap_alloc_new w2 (.cells #[.int .i64 b.start, .int .i64 b.stop, .int .i64 b.months, .int .i64 b.rate] 27))
  have h3 := h2.keep0 (gr_alloc (gr0 w2) (.cells #[.int .i64 b.start, .int .i64 b.stop, .int .i64 b.months, .int .i64 b.rate] 27))
  have HB := hid hB
  have Hd := hid hd
  have hlt2 := h2.lt
  have hDw : w.heap.size < w2.heap.size := by have := h2.lt; omega
  clear hg h1 h2 hB hd
  go_wp2_with fail
  obtain ⟨D, hD⟩ : ∃ D, D = w2.heap.size := ⟨_, rfl⟩
  rw [← hD] at Hd2 hDw hlt2 ⊢
  generalize (w2.alloc (.cells #[.int .i64 b.start, .int .i64 b.stop, .int .i64 b.months, .int .i64 b.rate] 27)) = W at *
  clear hD
  have n2 : ¬ w.heap.size = D := by omega
  have n3 : ¬ rb = D := by omega
  have n4 : ¬ rb = w.heap.size := by omega
  refine wp_region_held_drew (S := fun w' => (∃ v0 v1 v2 v3, w'.heap[w.heap.size]? = some (.cells #[v0, v1, v2, v3] 27 (0, 0))) ∧ w'.heap[D]? = some (.cells #[.int .i64 b.start, .int .i64 b.stop, .int .i64 b.months, .int .i64 b.rate] 27 (0, 0)) ∧ w.grownBy w' none) (by kernel_rfl) ⟨⟨_, _, _, _, Hb2.out⟩, Hd2.out, gr_drew Hg2.out⟩ (fun hHeld => ?_)
  refine wpAnyH_take (i := 0) (v := ?_) rfl (by kernel_rfl) (by kernel_rfl) (by kernel_rfl) (fun _ _ _ h => h) (Or.inl ⟨by rfl, ?_⟩) hHeld ?_
  rotate_left
  · intro w9 hSw
    (obtain ⟨_, sb, _⟩ := hSw; have s0 := blk_cell sb 0 _ rfl; have s1 := blk_cell sb 1 _ rfl; have s2 := blk_cell sb 2 _ rfl; have s3 := blk_cell sb 3 _ rfl; clear sb)
    go_simp
    all_goals (try with_reducible rfl)
  (try simp only [Act.put]); (try simp only [List.getElem_toArray]); (try simp only [List.getElem_cons_succ]); (try simp only [List.getElem_cons_zero]); (try simp only [List.setIfInBounds_toArray]); (try simp only [List.set_cons_succ]); (try simp only [List.set_cons_zero])
  refine wpAnyH_take (i := 1) (v := ?_) rfl (by kernel_rfl) (by kernel_rfl) (by kernel_rfl) (fun _ _ _ h => h) (Or.inl ⟨by rfl, ?_⟩) hHeld ?_
  rotate_left
  · intro w9 hSw
    (obtain ⟨_, sb, _⟩ := hSw; have s0 := blk_cell sb 0 _ rfl; have s1 := blk_cell sb 1 _ rfl; have s2 := blk_cell sb 2 _ rfl; have s3 := blk_cell sb 3 _ rfl; clear sb)
    go_simp
    all_goals (try with_reducible rfl)
  (try simp only [Act.put]); (try simp only [List.getElem_toArray]); (try simp only [List.getElem_cons_succ]); (try simp only [List.getElem_cons_zero]); (try simp only [List.setIfInBounds_toArray]); (try simp only [List.set_cons_succ]); (try simp only [List.set_cons_zero])
  refine wpAnyH_take (i := 2) (v := ?_) rfl (by kernel_rfl) (by kernel_rfl) (by kernel_rfl) (fun _ _ _ h => h) (Or.inl ⟨by rfl, ?_⟩) hHeld ?_
  rotate_left
  · intro w9 hSw
    (obtain ⟨_, sb, _⟩ := hSw; have s0 := blk_cell sb 0 _ rfl; have s1 := blk_cell sb 1 _ rfl; have s2 := blk_cell sb 2 _ rfl; have s3 := blk_cell sb 3 _ rfl; clear sb)
    go_simp
    all_goals (try with_reducible rfl)
  (try simp only [Act.put]); (try simp only [List.getElem_toArray]); (try simp only [List.getElem_cons_succ]); (try simp only [List.getElem_cons_zero]); (try simp only [List.setIfInBounds_toArray]); (try simp only [List.set_cons_succ]); (try simp only [List.set_cons_zero])
  refine wpAnyH_ready (rs := [3]) (by kernel_rfl) (by simp) ?_
  refine AllReadyH.cons rfl (fun K' hK' => ?_) AllReadyH.nil
  go_simp
  refine (anyYield_any rb _ _ (h3.keep0 (gr_drew (gr0 _))) (by omega)).mono ?_
  rintro e' w3 ⟨u, rfl, hu, _, hg⟩
  (try simp only [])
  refine hK'.out _ _ ⟨⟨_, _, _, _, blk_keep Hb2.out (gr_transS (gr_drew (gr_refl _ _)) hg) (by intro k e; cases e; exact n4)⟩, blk_keep Hd2.out (gr_transS (gr_drew (gr_refl _ _)) hg) (by intro k e; cases e; exact n3), gr_own (gr_drew Hg2.out) hg (fun k e => by cases e; omega)⟩ (fun hHeldD => ?_)
  have hHeld := hHeldD
  have Hu := hid hu
  clear hK' K' hHeldD hg hu
  (try simp only [Act.put]); (try simp only [List.getElem_toArray]); (try simp only [List.getElem_cons_succ]); (try simp only [List.getElem_cons_zero]); (try simp only [List.setIfInBounds_toArray]); (try simp only [List.set_cons_succ]); (try simp only [List.set_cons_zero])
  obtain ⟨v0, v1, v2, v3, hbT⟩ := hHeld.1
  have f0 := blk_cell hbT 0 _ rfl
  have f1 := blk_cell hbT 1 _ rfl
  have f2 := blk_cell hbT 2 _ rfl
  have f3 := blk_cell hbT 3 _ rfl
  have k0 := blk_frozen hbT 0
  have k1 := blk_frozen hbT 1
  have k2 := blk_frozen hbT 2
  have k3 := blk_frozen hbT 3
  refine wpAnyH_ready (rs := [4]) (by kernel_rfl) (by simp) ?_
  refine AllReadyH.cons rfl (fun K' hK' => ?_) AllReadyH.nil
  go_simp
  have hF := blk_set (blk_set (blk_set (blk_set hbT 0 (.int .i64 b.start)) 1 (.int .i64 b.stop)) 2 (.int .i64 b.months)) 3 (.int .i64 b.rate)
  have HF := hid (hF.trans (show _ = some (Obj.cells #[.int .i64 b.start, .int .i64 b.stop, .int .i64 b.months, .int .i64 b.rate] 27 (0, 0)) from rfl))
  refine hK'.out _ _ ⟨⟨_, _, _, _, hF.trans rfl⟩, blk_set_other (blk_set_other (blk_set_other (blk_set_other hHeld.2.1 _ n2 _) _ n2 _) _ n2 _) _ n2 _, gr_setCell (gr_setCell (gr_setCell (gr_setCell hHeld.2.2 (.inr (Nat.le_refl _)) _) (.inr (Nat.le_refl _)) _) (.inr (Nat.le_refl _)) _) (.inr (Nat.le_refl _)) _⟩ (fun hHeldF => ?_)
  clear hK' K'
  (try simp only [Act.put]); (try simp only [List.getElem_toArray]); (try simp only [List.getElem_cons_succ]); (try simp only [List.getElem_cons_zero]); (try simp only [List.setIfInBounds_toArray]); (try simp only [List.set_cons_succ]); (try simp only [List.set_cons_zero])
  refine wpAnyH_take (i := 5) (v := ?_) rfl (by kernel_rfl) (by kernel_rfl) (by kernel_rfl) (fun _ _ _ h => h) (Or.inl ⟨by rfl, ?_⟩) hHeldF ?_
  rotate_left
  · intro w9 hSw
    clear hSw
    go_simp
    all_goals (try with_reducible rfl)
  (try simp only [Act.put]); (try simp only [List.getElem_toArray]); (try simp only [List.getElem_cons_succ]); (try simp only [List.getElem_cons_zero]); (try simp only [List.setIfInBounds_toArray]); (try simp only [List.set_cons_succ]); (try simp only [List.set_cons_zero])
  refine wpAnyH_take (i := 6) (v := ?_) rfl (by kernel_rfl) (by kernel_rfl) (by kernel_rfl) (fun _ _ _ h => h) (Or.inl ⟨by rfl, ?_⟩) hHeldF ?_
  rotate_left
  · intro w9 hSw
    clear hSw
    go_simp
    all_goals (try with_reducible rfl)
  (try simp only [Act.put]); (try simp only [List.getElem_toArray]); (try simp only [List.getElem_cons_succ]); (try simp only [List.getElem_cons_zero]); (try simp only [List.setIfInBounds_toArray]); (try simp only [List.set_cons_succ]); (try simp only [List.set_cons_zero])
  refine wpAnyH_done (by kernel_rfl) ?_ _
  clear f0 f1 f2 f3 k0 k1 k2 k3 hF
  have f0 := blk_cell HF.out 0 _ rfl
  have f1 := blk_cell HF.out 1 _ rfl
  have f2 := blk_cell HF.out 2 _ rfl
  have f3 := blk_cell HF.out 3 _ rfl
  have HgF := hid hHeldF.2.2
  clear hHeld hHeldF hbT HF
  generalize (World.setCell _ ⟨w.heap.size, 3, none⟩ (.int .i64 b.rate)) = WF at *
  go_wp2_with fail
  exact bodyPost_ret (v := .tuple #[.agg #[.int .i64 b.start, .int .i64 b.stop, .int .i64 b.months, .int .i64 b.rate], .int .i64 day, .int .i64 u]) (by simp [results, Tryd.results30, go_sem, *]) rfl ⟨b, day, u, rfl, HB.out, ⟨Hd.out, Hu.out⟩, HgF.out⟩

set_option maxHeartbeats 400000 in
theorem DrawRiskOf_any (a : Option Addr) (n cap : Nat) (xs : List Int) (w : World) (hs : Sl u8L w a n xs) (hcap : n ≤ cap) (hx : ∀ x ∈ xs, 0 ≤ x ∧ x ≤ 255) :
    Calls Tryd.prog 32 #[.slice a n cap] w fun e w' => ∃ (b : Bond) (day u : Int), e = .returned (.tuple #[.agg #[.int .i64 b.start, .int .i64 b.stop, .int .i64 b.months, .int .i64 b.rate], .int .i64 day, .int .i64 u]) ∧ BdB b ∧ ((-3000000 ≤ day ∧ day ≤ 3000000) ∧ (-1 ≤ u ∧ u ≤ 100001)) ∧ w.grownBy w' none := by
  have hs2 := hs.keep0 (gr_alloc (gr0 w) (Obj.cells #[.int .i64 0, .int .i64 0, .int .i64 0, .int .i64 0] 27))
  have Hs := hid hs2
  clear hs hs2
  go_enter Tryd.func32, Tryd.ntmps32
  go_wp2_with fail
  refine (DrawPriceOf_any a n cap xs _ Hs.out hcap hx).mono ?_
  rintro e w2 ⟨b, day, u, rfl, hB, hd, hg⟩
  have hb2 := blk_keep (heap_alloc_new w (Obj.cells #[.int .i64 0, .int .i64 0, .int .i64 0, .int .i64 0] 27)) hg (by simp)
  have Hg2 := hid (gr_trans0 (gr_alloc (gr0 _) _) hg)
  have HB := hid hB
  have Hd := hid hd
  have f0 := blk_cell hb2 0 _ rfl
  have f1 := blk_cell hb2 1 _ rfl
  have f2 := blk_cell hb2 2 _ rfl
  have f3 := blk_cell hb2 3 _ rfl
  have k0 := blk_frozen hb2 0
  have k1 := blk_frozen hb2 1
  have k2 := blk_frozen hb2 2
  have k3 := blk_frozen hb2 3
  clear hg hB hd hb2
  go_wp2_with fail
  refine bodyPost_ret (v := .tuple #[.agg #[.int .i64 b.start, .int .i64 b.stop, .int .i64 b.months, .int .i64 b.rate], .int .i64 day, .int .i64 u]) (by simp [results, Tryd.results32, go_sem, *]) rfl ⟨b, day, u, rfl, HB.out, Hd.out, ?_⟩
  exact gr_setCell (gr_setCell (gr_setCell (gr_setCell Hg2.out (.inr (Nat.le_refl _)) _) (.inr (Nat.le_refl _)) _) (.inr (Nat.le_refl _)) _) (.inr (Nat.le_refl _)) _
end Go.Proofs.YtkgjciacdjhhfaaDoor
