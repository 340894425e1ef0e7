/- The generator of shocks' arguments: it ends. -/
import Derived.Test.YtkgjciacdjhhfaaDoorRows
import Derived.Test.YtkgjciacdjhhfaaDoorBase
import Derived.Test.YtkgjciacdjhhfaaDoorDrawDay
import Derived.Test.YtkgjciacdjhhfaaDoorDrawYield
import Derived.Test.YtkgjciacdjhhfaaDoorDrawHold
namespace Go.Proofs.YtkgjciacdjhhfaaDoor
open Go.RowKit

set_option maxRecDepth 100000 in
set_option maxHeartbeats 4000000 in
theorem DrawShockOf_any (a : Option Addr) (n cap : Nat) (xs : List Int) (w : World) (hs : Sl u8L w a n xs) (hcap : n ≤ cap) (hx : ∀ x ∈ xs, 0 ≤ x ∧ x ≤ 255) :
    Calls Tryd.prog 36 #[.slice a n cap] w fun e w' => ∃ (b : Bond) (day y : Int) (ha : Option Addr) (hn hc : Nat) (ss : List Int), e = .returned (.tuple #[.agg #[.int .i64 b.start, .int .i64 b.stop, .int .i64 b.months, .int .i64 b.rate], .int .i64 day, .int .i64 y, .slice ha hn hc]) ∧ BdB b ∧ ((-3000000 ≤ day ∧ day ≤ 3000000) ∧ (-1 ≤ y ∧ y ≤ 100001)) ∧ Sl intL w' ha hn ss ∧ hn ≤ hc ∧ hn ≤ 8 ∧ w.grownBy w' none := by
  obtain ⟨i0, hi, hz0, hz1, hz2⟩ := info_parts infoInt
  have hs2 := hs.keep0 (gr_alloc (gr0 w) (Obj.cells #[.int .i64 0, .int .i64 0, .int .i64 0, .int .i64 0] 27))
  have Hs := hid hs2
  clear hs hs2
  go_enter Tryd.func36, Tryd.ntmps36
  go_wp2_with fail
  refine (newReader_any a n cap xs _ Hs.out hcap hx).mono ?_
  rintro e w1 ⟨rb, rfl, hrb, h1, hg⟩
  have Hb1 := hid (blk_keep (heap_alloc_new w (Obj.cells #[.int .i64 0, .int .i64 0, .int .i64 0, .int .i64 0] 27)) hg (by simp))
  have Hg1 := hid (gr_trans0 (gr_alloc (gr0 _) _) hg)
  have hrb2 : w.heap.size < rb := by simp at hrb; omega
  clear hg hrb hx
  go_wp2_with fail
  refine (bondDay_any rb 0 w1 h1 (by omega)).mono ?_
  rintro e w2 ⟨b, day, rfl, hB, hd, h2, hg⟩
  have Hb2 := hid (blk_alloc (blk_keep Hb1.out hg (by simp; omega)) (.cells #[.int .i64 b.start, .int .i64 b.stop, .int .i64 b.months, .int .i64 b.rate] 27))
  have Hg2 := hid (gr_alloc (gr_own Hg1.out hg (fun k e => by cases e; omega)) (.cells #[.int .i64 b.start, .int .i64 b.stop, .int .i64 b.months, .int .i64 b.rate] 27))
  have Hd2 := hid (heap_alloc_new w2 (.cells #[.int .i64 b.start, .int .i64 b.stop, .int .i64 b.months, .int .i64 b.rate] 27))
  have h3 := h2.keep0 (gr_alloc (gr0 w2) (.cells #[.int .i64 b.start, .int .i64 b.stop, .int .i64 b.months, .int .i64 b.rate] 27))
  have HB := hid hB
  have Hd := hid hd
  have hlt2 := h2.lt
  have hDw : w.heap.size < w2.heap.size := by have := h2.lt; omega
  clear hg h1 h2 hB hd
  go_wp2_with fail
  obtain ⟨D, hD⟩ : ∃ D, D = w2.heap.size := ⟨_, rfl⟩
  rw [← hD] at Hd2 hDw hlt2 ⊢
  generalize (w2.alloc (.cells #[.int .i64 b.start, .int .i64 b.stop, .int .i64 b.months, .int .i64 b.rate] 27)) = W at *
  clear hD
  have n2 : ¬ w.heap.size = D := by omega
  have n3 : ¬ rb = D := by omega
  have n4 : ¬ rb = w.heap.size := by omega
  refine (anyYield_any rb _ W h3 (by omega)).mono ?_
  rintro e V ⟨y, rfl, hy, h4, hg⟩
  have Hy := hid hy
  have Hb3 := hid (blk_keep Hb2.out hg (by intro k e; cases e; exact n4))
  have Hd3 := hid (blk_keep Hd2.out hg (by intro k e; cases e; exact n3))
  have Hg3 := hid (gr_own Hg2.out hg (fun k e => by cases e; omega))
  have hlt := h4.lt
  have hDV := blk_lt Hd3.out
  clear hg h3 hy Hb2 Hd2 Hg2 Hb1 Hg1 Hs
  go_wp2_with fail
  refine (one_lit rb _ [2, 3, 1, 6, 0, 7] _ _ _ rfl rfl (by simp) (by simp) _ _ (by simp) (h4.keep0 (gr_alloc (gr_refl _ _) _)) (by omega)).mono ?_
  rintro e w4 ⟨x, rfl, hx, h5, hg⟩
  have hx9 : 0 ≤ x ∧ x ≤ 7 := by simp at hx; omega
  clear hx
  have hown : w4.ownsRow V.heap.size 3 1 (.slice (some ⟨V.heap.size, 0, none⟩) 0 0) 0 (([] : List Int).flatMap intL.cells) := by
    refine World.ownsRow.kept (World.ownsRow_made V #[] 0 (Nat.le_refl _) (by decide) rfl) hg ?_
    right; simp [Value.ownBlock]; omega
  have hgr : V.grownBy w4 (some rb) := gr_transS (gr_alloc (gr_refl _ _) _) hg
  clear hg
  have Hown := hid hown; clear hown
  have Hgr := hid hgr; clear hgr
  have H1 := hid h5; clear h5 h4
  obtain ⟨x, rfl⟩ := Int.eq_ofNat_of_zero_le hx9.1
  go_wp2_with fail
  go_loopw [10, 11] (fun out i wr => ∃ (k g cap : Nat) (xs : List Int), i = .int .i64 k ∧ k ≤ x ∧ out = .slice (some ⟨g, 0, none⟩) (x - k) cap ∧ xs.length = x - k ∧ (∀ z ∈ xs, -100000 ≤ z ∧ z ≤ 100001) ∧ wr.ownsRow V.heap.size 3 1 (.slice (some ⟨g, 0, none⟩) (x - k) cap) (x - k) (xs.flatMap intL.cells) ∧ Rdr 83 wr rb (20 + (x - k)) ∧ V.grownBy wr (some rb)) (fun _ i _ => (intOf i).toNat)
  case atStart => exact ⟨x, _, _, [], rfl, Nat.le_refl _, by rw [Nat.sub_self], by simp, by simp, by rw [Nat.sub_self]; exact Hown.out, by rw [Nat.sub_self]; exact H1.out.mono (by omega), Hgr.out⟩
  case round =>
    clear Hown H1 Hgr
    obtain ⟨k, g, cap, xs, rfl, hk, rfl, hlen, hxs, hown, hr, hgr⟩ := hrel
    have Hxs := hid hxs; clear hxs
    by_cases h0 : 0 < k
    · have Hown := hid hown; clear hown
      have Hgr := hid hgr; clear hgr
      have Hlen := hid hlen; clear hlen
      go_wp2_with fail
      refine (one_lit rb _ [5000, -5000, 20000, 0, 100000, -100000] _ _ _ rfl rfl (by simp) (by simp) _ _ rfl hr (by omega)).mono ?_
      rintro e w3 ⟨z, rfl, hz, hr3, hg3⟩
      have hzb : -100000 ≤ z ∧ z ≤ 100000 := by simp at hz; omega
      have Hz := hid hz; clear hz
      have Hr2 := hid hr; clear hr
      have Hg3' := hid hg3; clear hg3
      have Hr3 := hid hr3; clear hr3
      have hown3 := own_pick Hown.out hlt Hg3'.out
      have Hown3 := hid hown3; clear hown3
      go_wp2_with (at_builtin; go_must (refine wpList_append_lies _ rfl _ _ _ rfl V.heap.size 3 i0 _ 1 8 Tryd.underlying33 hi hz0 hz1 hz2 rfl (by decide) _ _ _ rfl (Hown3.out.alloc _) ⟨w3.heap.size, 0, none⟩ 1 1 [.int .i64 z] rfl rfl ?d1 ?d2 (by decide) ?d3 ?d4 ?d5 _ rfl ?_))
      case d1 => exact cells_new w3 _ _ _ rfl
      case d2 => simp [Value.oneCell']
      case d3 => unfold maxLen; omega
      case d4 => omega
      case d5 => have h1 := Hgr.out.size; have h3 := Hg3'.out.size; simp; omega
      intro g' c' w4 hown4 hg4 _ _
      have hgr4 : V.grownBy w4 (some rb) := gr_append (gr_alloc (gr_transS Hgr.out Hg3'.out) _) (Hown3.out.alloc _) (Nat.le_refl _) hg4
      have hr4 := (Hr3.out.keep0 (gr_alloc (gr_refl _ _) _)).append (Hown3.out.alloc _) hlt hg4
      have Hown4 := hid hown4; clear hown4
      have Hgr4 := hid hgr4; clear hgr4
      have Hr4 := hid hr4; clear hr4
      clear hg4
      go_wp2
      go_roundw
      case rel =>
        have e1 : x - (k - 1) = x - k + 1 := by omega
        refine ⟨k - 1, g', c', xs ++ [z], by congr 1; omega, by omega, by rw [e1], by rw [List.length_append, Hlen.out, e1]; rfl, ?_, ?_, ?_, Hgr4.out⟩
        · intro u hu
          rcases List.mem_append.1 hu with hu | hu
          · exact Hxs.out u hu
          · simp at hu; omega
        · rw [e1, List.flatMap_append]; exact Hown4.out
        · rw [e1]; exact Hr4.out.mono (by omega)
      case measure => simp [intOf]; omega
    · obtain rfl : k = 0 := by omega
      rw [Nat.sub_zero] at *
      have how := Ow.own_ints hown (by omega)
      have Hsl := hid how.sl
      have Hb5 := hid (blk_keep Hb3.out hgr (by intro k e; cases e; exact n4))
      have Hd5 := hid (blk_keep Hd3.out hgr (by intro k e; cases e; exact n3))
      have Hg5 := hid (gr_own Hg3.out hgr (fun k e => by cases e; omega))
      have Hr5 := hid hr
      have hVr := gr_le hgr
      clear hown how hgr hr Hb3 Hd3 Hg3
      go_upto_region 9 with fail
      refine wp_region_held_drew (S := (fun w' => (∃ v0 v1 v2 v3, w'.heap[w.heap.size]? = some (.cells #[v0, v1, v2, v3] 27 (0, 0))) ∧ w'.heap[D]? = some (.cells #[.int .i64 b.start, .int .i64 b.stop, .int .i64 b.months, .int .i64 b.rate] 27 (0, 0)) ∧ w.grownBy w' none)) (by kernel_rfl) ⟨⟨_, _, _, _, Hb5.out⟩, Hd5.out, gr_drew Hg5.out⟩ (fun hHeld => ?_)
      refine wpAnyH_take (i := 0) (v := ?_) rfl (by kernel_rfl) (by kernel_rfl) (by kernel_rfl) (fun _ _ _ h => h) (Or.inl ⟨by rfl, ?_⟩) hHeld ?_
      rotate_left
      · intro w9 hSw
        (obtain ⟨_, sb, _⟩ := hSw; have s0 := blk_cell sb 0 _ rfl; have s1 := blk_cell sb 1 _ rfl; have s2 := blk_cell sb 2 _ rfl; have s3 := blk_cell sb 3 _ rfl; clear sb)
        go_simp
        all_goals (try with_reducible rfl)
      (try simp only [Act.put]); (try simp only [List.getElem_toArray]); (try simp only [List.getElem_cons_succ]); (try simp only [List.getElem_cons_zero]); (try simp only [List.setIfInBounds_toArray]); (try simp only [List.set_cons_succ]); (try simp only [List.set_cons_zero])
      refine wpAnyH_take (i := 1) (v := ?_) rfl (by kernel_rfl) (by kernel_rfl) (by kernel_rfl) (fun _ _ _ h => h) (Or.inl ⟨by rfl, ?_⟩) hHeld ?_
      rotate_left
      · intro w9 hSw
        (obtain ⟨_, sb, _⟩ := hSw; have s0 := blk_cell sb 0 _ rfl; have s1 := blk_cell sb 1 _ rfl; have s2 := blk_cell sb 2 _ rfl; have s3 := blk_cell sb 3 _ rfl; clear sb)
        go_simp
        all_goals (try with_reducible rfl)
      (try simp only [Act.put]); (try simp only [List.getElem_toArray]); (try simp only [List.getElem_cons_succ]); (try simp only [List.getElem_cons_zero]); (try simp only [List.setIfInBounds_toArray]); (try simp only [List.set_cons_succ]); (try simp only [List.set_cons_zero])
      refine wpAnyH_take (i := 2) (v := ?_) rfl (by kernel_rfl) (by kernel_rfl) (by kernel_rfl) (fun _ _ _ h => h) (Or.inl ⟨by rfl, ?_⟩) hHeld ?_
      rotate_left
      · intro w9 hSw
        (obtain ⟨_, sb, _⟩ := hSw; have s0 := blk_cell sb 0 _ rfl; have s1 := blk_cell sb 1 _ rfl; have s2 := blk_cell sb 2 _ rfl; have s3 := blk_cell sb 3 _ rfl; clear sb)
        go_simp
        all_goals (try with_reducible rfl)
      (try simp only [Act.put]); (try simp only [List.getElem_toArray]); (try simp only [List.getElem_cons_succ]); (try simp only [List.getElem_cons_zero]); (try simp only [List.setIfInBounds_toArray]); (try simp only [List.set_cons_succ]); (try simp only [List.set_cons_zero])
      refine wpAnyH_take (i := 3) (v := ?_) rfl (by kernel_rfl) (by kernel_rfl) (by kernel_rfl) (fun _ _ _ h => h) (Or.inl ⟨by rfl, ?_⟩) hHeld ?_
      rotate_left
      · intro w9 hSw
        (obtain ⟨_, sb, _⟩ := hSw; have s0 := blk_cell sb 0 _ rfl; have s1 := blk_cell sb 1 _ rfl; have s2 := blk_cell sb 2 _ rfl; have s3 := blk_cell sb 3 _ rfl; clear sb)
        go_simp
        all_goals (try with_reducible rfl)
      (try simp only [Act.put]); (try simp only [List.getElem_toArray]); (try simp only [List.getElem_cons_succ]); (try simp only [List.getElem_cons_zero]); (try simp only [List.setIfInBounds_toArray]); (try simp only [List.set_cons_succ]); (try simp only [List.set_cons_zero])
      refine wpAnyH_take (i := 4) (v := ?_) rfl (by kernel_rfl) (by kernel_rfl) (by kernel_rfl) (fun _ _ _ h => h) (Or.inl ⟨by rfl, ?_⟩) hHeld ?_
      rotate_left
      · intro w9 hSw
        (obtain ⟨_, sb, _⟩ := hSw; have s0 := blk_cell sb 0 _ rfl; have s1 := blk_cell sb 1 _ rfl; have s2 := blk_cell sb 2 _ rfl; have s3 := blk_cell sb 3 _ rfl; clear sb)
        go_simp
        all_goals (try with_reducible rfl)
      (try simp only [Act.put]); (try simp only [List.getElem_toArray]); (try simp only [List.getElem_cons_succ]); (try simp only [List.getElem_cons_zero]); (try simp only [List.setIfInBounds_toArray]); (try simp only [List.set_cons_succ]); (try simp only [List.set_cons_zero])
      refine wpAnyH_ready (rs := [5]) (by kernel_rfl) (by simp) ?_
      refine AllReadyH.cons rfl (fun K' hK' => ?_) AllReadyH.nil
      go_simp
      refine (spoil_any rb _ _ x cap xs (-100000) 100001 100001 wr.drew (Hr5.out.keep0 (gr_drew (gr0 _))) (by omega) (Hsl.out.keep0 (gr_drew (gr0 _))) (.inl ⟨_, rfl⟩) (by omega) Hxs.out (by omega) (by omega) (by omega)).mono ?_
      rintro e w9 ⟨a', n', c', ys, rfl, hs', hc', hn', _, _, hg⟩
      (try simp only [])
      refine hK'.out _ _ ⟨by obtain ⟨v0, v1, v2, v3, hT⟩ := hHeld.1; exact ⟨_, _, _, _, blk_keep hT hg (by intro k e; cases e; exact n4)⟩, blk_keep hHeld.2.1 hg (by intro k e; cases e; exact n3), gr_own hHeld.2.2 hg (fun k e => by cases e; omega)⟩ (fun hHeldD => ?_)
      clear hHeld
      have hHeld := hHeldD
      have Hs' := hid hs'.sl
      have Hne := hid (show 0 < n' → ∀ b' off, a' = some ⟨b', off, none⟩ → some w.heap.size ≠ some b' from fun h0 b' off e e2 => by
        obtain ⟨b2, o2, e3, hge, _⟩ := hs'.mem h0
        rw [e] at e3; cases e3; cases e2
        simp at hge; omega)
      clear hK' K' hHeldD hg hs'
      (try simp only [Act.put]); (try simp only [List.getElem_toArray]); (try simp only [List.getElem_cons_succ]); (try simp only [List.getElem_cons_zero]); (try simp only [List.setIfInBounds_toArray]); (try simp only [List.set_cons_succ]); (try simp only [List.set_cons_zero])
      obtain ⟨v0, v1, v2, v3, hbT⟩ := hHeld.1
      have f0 := blk_cell hbT 0 _ rfl
      have f1 := blk_cell hbT 1 _ rfl
      have f2 := blk_cell hbT 2 _ rfl
      have f3 := blk_cell hbT 3 _ rfl
      have k0 := blk_frozen hbT 0
      have k1 := blk_frozen hbT 1
      have k2 := blk_frozen hbT 2
      have k3 := blk_frozen hbT 3
      refine wpAnyH_ready (rs := [6]) (by kernel_rfl) (by simp) ?_
      refine AllReadyH.cons rfl (fun K' hK' => ?_) AllReadyH.nil
      go_simp
      have hF := blk_set (blk_set (blk_set (blk_set hbT 0 (.int .i64 b.start)) 1 (.int .i64 b.stop)) 2 (.int .i64 b.months)) 3 (.int .i64 b.rate)
      have HF := hid (hF.trans (show _ = some (Obj.cells #[.int .i64 b.start, .int .i64 b.stop, .int .i64 b.months, .int .i64 b.rate] 27 (0, 0)) from rfl))
      have HsF := hid ((((Hs'.out.keep (gr_setCell (r := some w.heap.size) (p := ⟨w.heap.size, 0, none⟩) (gr_refl _ _) (.inl rfl) (.int .i64 b.start)) Hne.out).keep (gr_setCell (r := some w.heap.size) (p := ⟨w.heap.size, 1, none⟩) (gr_refl _ _) (.inl rfl) (.int .i64 b.stop)) Hne.out).keep (gr_setCell (r := some w.heap.size) (p := ⟨w.heap.size, 2, none⟩) (gr_refl _ _) (.inl rfl) (.int .i64 b.months)) Hne.out).keep (gr_setCell (r := some w.heap.size) (p := ⟨w.heap.size, 3, none⟩) (gr_refl _ _) (.inl rfl) (.int .i64 b.rate)) Hne.out)
      refine hK'.out _ _ ⟨⟨_, _, _, _, hF.trans rfl⟩, blk_set_other (blk_set_other (blk_set_other (blk_set_other hHeld.2.1 _ n2 _) _ n2 _) _ n2 _) _ n2 _, gr_setCell (gr_setCell (gr_setCell (gr_setCell hHeld.2.2 (.inr (Nat.le_refl _)) _) (.inr (Nat.le_refl _)) _) (.inr (Nat.le_refl _)) _) (.inr (Nat.le_refl _)) _⟩ (fun hHeldF => ?_)
      clear hK' K'
      (try simp only [Act.put]); (try simp only [List.getElem_toArray]); (try simp only [List.getElem_cons_succ]); (try simp only [List.getElem_cons_zero]); (try simp only [List.setIfInBounds_toArray]); (try simp only [List.set_cons_succ]); (try simp only [List.set_cons_zero])
      refine wpAnyH_take (i := 7) (v := ?_) rfl (by kernel_rfl) (by kernel_rfl) (by kernel_rfl) (fun _ _ _ h => h) (Or.inl ⟨by rfl, ?_⟩) hHeldF ?_
      rotate_left
      · intro w9 hSw
        clear hSw
        go_simp
        all_goals (try with_reducible rfl)
      (try simp only [Act.put]); (try simp only [List.getElem_toArray]); (try simp only [List.getElem_cons_succ]); (try simp only [List.getElem_cons_zero]); (try simp only [List.setIfInBounds_toArray]); (try simp only [List.set_cons_succ]); (try simp only [List.set_cons_zero])
      refine wpAnyH_take (i := 8) (v := ?_) rfl (by kernel_rfl) (by kernel_rfl) (by kernel_rfl) (fun _ _ _ h => h) (Or.inl ⟨by rfl, ?_⟩) hHeldF ?_
      rotate_left
      · intro w9 hSw
        clear hSw
        go_simp
        all_goals (try with_reducible rfl)
      (try simp only [Act.put]); (try simp only [List.getElem_toArray]); (try simp only [List.getElem_cons_succ]); (try simp only [List.getElem_cons_zero]); (try simp only [List.setIfInBounds_toArray]); (try simp only [List.set_cons_succ]); (try simp only [List.set_cons_zero])
      refine wpAnyH_take (i := 9) (v := ?_) rfl (by kernel_rfl) (by kernel_rfl) (by kernel_rfl) (fun _ _ _ h => h) (Or.inl ⟨by rfl, ?_⟩) hHeldF ?_
      rotate_left
      · intro w9 hSw
        clear hSw
        go_simp
        all_goals (try with_reducible rfl)
      (try simp only [Act.put]); (try simp only [List.getElem_toArray]); (try simp only [List.getElem_cons_succ]); (try simp only [List.getElem_cons_zero]); (try simp only [List.setIfInBounds_toArray]); (try simp only [List.set_cons_succ]); (try simp only [List.set_cons_zero])
      refine wpAnyH_done (by kernel_rfl) ?_ _
      clear f0 f1 f2 f3 k0 k1 k2 k3 hF
      have f0 := blk_cell HF.out 0 _ rfl
      have f1 := blk_cell HF.out 1 _ rfl
      have f2 := blk_cell HF.out 2 _ rfl
      have f3 := blk_cell HF.out 3 _ rfl
      have HgF := hid hHeldF.2.2
      clear hHeld hHeldF hbT HF
      generalize (World.setCell _ ⟨w.heap.size, 3, none⟩ (.int .i64 b.rate)) = WF at *
      go_wp2_with fail
      exact bodyPost_ret (v := .tuple #[.agg #[.int .i64 b.start, .int .i64 b.stop, .int .i64 b.months, .int .i64 b.rate], .int .i64 day, .int .i64 y, .slice a' n' c']) (by simp [results, Tryd.results36, go_sem, *]) rfl ⟨b, day, y, a', n', c', ys, rfl, HB.out, ⟨Hd.out, Hy.out⟩, HsF.out, hc', by omega, HgF.out⟩

end Go.Proofs.YtkgjciacdjhhfaaDoor
