/- The reference's discount. -/
import Derived.Test.YtkgjciacdjhhfaaDoorRows
import Derived.Test.YtkgjciacdjhhfaaDoorBase
import Derived.Test.YtkgjciacdjhhfaaDoorSpecRange
namespace Go.Proofs.YtkgjciacdjhhfaaDoor
open Go.RowKit

set_option maxRecDepth 100000 in
set_option maxHeartbeats 4000000 in
theorem discount_any (y ps l d : Int) (q : Nat) (w : World) (h : OkY y l d) (hps : ps = d - l) (hq : q ≤ 40) :
    Calls Tryd.prog 60 #[.int .i64 y, .int .i64 ps, .int .i64 d, .int .i64 q] w fun e' w' => e' = .returned (.agg #[.int .i64 (discL y l d q), .int .i64 (discH y l d q)]) ∧ w.grownBy w' none := by
  have y0 := h.y0; have y1 := h.y1; have l0 := h.l0; have ld := h.ld; have d1 := h.d1
  obtain ⟨a0, a1, f0, f1, c0, c1⟩ := growth_bd y0 y1 l0 ld d1
  have HF := hid (fun wx => floorDiv_any (y * l) d wx (by omega) (by omega) (by omega) (by omega))
  have HC := hid (fun wx => ceilDiv_any (y * l) d wx (by omega) (by omega) (by omega) (by omega))
  rw [flr_def] at HF
  have HL := hid (show growL y l d 0 = 1000000 + flr (y * l) d from rfl)
  have HH := hid (show growH y l d 0 = 1000000 + cei (y * l) d from rfl)
  have Hlo := hid (fun k => grow_lo h k)
  have Hhi := hid (fun k hk => grow_max h k hk)
  have Hdl := hid (show ∀ k, discL y l d k = flr 1000000000000 (growH y l d k) from fun _ => rfl)
  have Hdh := hid (show ∀ k, discH y l d k = cei 1000000000000 (growL y l d k) from fun _ => rfl)
  have Hgl := hid (show ∀ k, growL y l d (k + 1) = flr (growL y l d k * (1000000 + y)) 1000000 from fun _ => rfl)
  have Hgh := hid (show ∀ k, growH y l d (k + 1) = cei (growH y l d k * (1000000 + y)) 1000000 from fun _ => rfl)
  have u1 : IntKind.i64.wrap (d - ps) = l := by rw [hps, show d - (d - l) = l by omega]; exact IntWalk.i64_in _ (by omega)
  have hps0 : 0 ≤ ps := by omega
  have hps1 : ps ≤ 36524 := by omega
  have hsub : d - ps = l := by omega
  have Hz0 := hid (heap_alloc_new w (.cells #[.int .i64 0, .int .i64 0] 25))
  clear hps h
  generalize flr (y * l) d = f at *
  generalize cei (y * l) d = c at *
  go_enter Tryd.func60, Tryd.ntmps60
  go_wp2_with fail
  refine (HF.out _).mono ?_
  rintro e w1 ⟨rfl, rfl⟩
  go_wp2_with fail
  refine (HC.out _).mono ?_
  rintro e w1 ⟨rfl, rfl⟩
  go_wp2_with fail
  rw [← HL.out, ← HH.out]
  obtain ⟨W, hW⟩ : ∃ W : World, W = (((w.alloc (.cells #[.int .i64 0, .int .i64 0] 25)).alloc (.cells #[.int .i64 (growL y l d 0), .int .i64 (growH y l d 0)] 25)).alloc (.cells #[.int .i64 (growL y l d 0), .int .i64 (growH y l d 0)] 25)) := ⟨_, rfl⟩
  rw [← hW]
  have hgW : w.grownBy W none := by rw [hW]; exact gr_alloc (gr_alloc (gr_alloc (gr0 _) _) _) _
  have hbG0 : W.heap[w.heap.size + 1 + 1]? = some (.cells #[.int .i64 (growL y l d 0), .int .i64 (growH y l d 0)] 25 (0, 0)) := by
    have := heap_alloc_new ((w.alloc (.cells #[.int .i64 0, .int .i64 0] 25)).alloc (.cells #[.int .i64 (growL y l d 0), .int .i64 (growH y l d 0)] 25)) (.cells #[.int .i64 (growL y l d 0), .int .i64 (growH y l d 0)] 25)
    rw [World.size_alloc, World.size_alloc] at this
    rw [hW]; exact this
  have hz : W.heap[w.heap.size]? = some (.cells #[.int .i64 0, .int .i64 0] 25 (0, 0)) := by rw [hW]; exact blk_alloc (blk_alloc Hz0.out _) _
  obtain ⟨G, hG⟩ : ∃ G, G = w.heap.size + 1 + 1 := ⟨_, rfl⟩
  rw [← hG] at hbG0 ⊢
  have hGw : w.heap.size < G := by omega
  have HgW := hid hgW; have HbG0 := hid hbG0; have Hz := hid hz
  clear hW hgW hbG0 hz hG Hz0 HF HC
  go_loopw [11] (fun i wr => ∃ k : Nat, k ≤ q ∧ i = .int .i64 k ∧ Hid (wr.heap[G]? = some (.cells #[.int .i64 (growL y l d k), .int .i64 (growH y l d k)] 25 (0, 0))) ∧ W.grownBy wr (some G)) (fun i _ => q - (intOf i).toNat)
  case atStart => exact ⟨0, by omega, rfl, HbG0, gr_refl _ _⟩
  case round =>
    clear HbG0
    obtain ⟨k, hk, rfl, HbG, hgr⟩ := hrel
    have Hgr := hid hgr
    clear hgr
    have g0 := (Hlo.out k).1
    have g1 := (Hlo.out k).2
    have g2 := Hhi.out k (by omega)
    by_cases hlt : k < q
    · have HMu := hid (fun wx => mulRange_any (growL y l d k) (growH y l d k) (1000000 + y) wx g0 g1 g2 (by omega) (by omega))
      rw [← Hgl.out k, ← Hgh.out k] at HMu
      obtain ⟨gl2, hgl2⟩ : ∃ v, v = growL y l d (k + 1) := ⟨_, rfl⟩
      obtain ⟨gh2, hgh2⟩ : ∃ v, v = growH y l d (k + 1) := ⟨_, rfl⟩
      rw [← hgl2, ← hgh2] at HMu
      have Hgl2 := hid hgl2; have Hgh2 := hid hgh2
      have hkq : (k : Int) < q := by omega
      clear hgl2 hgh2
      generalize growL y l d k = gl at *
      generalize growH y l d k = gh at *
      have hbG := HbG.out
      go_wp2_with fail
      have c0 := blk_cell hbG 0 _ rfl
      have c1 := blk_cell hbG 1 _ rfl
      refine wp_region_held_drew (S := fun _ => True) (by kernel_rfl) trivial (fun hHeld => ?_)
      refine wpAnyH_take (i := 1) (v := ?_) rfl (by kernel_rfl) (by kernel_rfl) (by kernel_rfl) (fun _ _ _ h => h) (Or.inl ⟨by rfl, ?_⟩) hHeld ?_
      rotate_left
      · intro w9 hSw
        clear hSw
        go_simp
        all_goals (try with_reducible rfl)
      (try simp only [Act.put]); (try simp only [List.getElem_toArray]); (try simp only [List.getElem_cons_succ]); (try simp only [List.getElem_cons_zero]); (try simp only [List.setIfInBounds_toArray]); (try simp only [List.set_cons_succ]); (try simp only [List.set_cons_zero])
      refine wpAnyH_ready (rs := [0, 2]) (by kernel_rfl) (by simp) ?_
      refine AllReadyH.cons rfl (fun K' hK' => ?_) (AllReadyH.cons rfl (fun K' hK' => ?_) AllReadyH.nil)
      · go_simp
        refine hK'.out _ _ trivial (fun _ => ?_)
        clear hK' K' c0 c1
        (try simp only [Act.put]); (try simp only [List.getElem_toArray]); (try simp only [List.getElem_cons_succ]); (try simp only [List.getElem_cons_zero]); (try simp only [List.setIfInBounds_toArray]); (try simp only [List.set_cons_succ]); (try simp only [List.set_cons_zero])
        refine wpAnyH_ready (rs := [2]) (by kernel_rfl) (by simp) ?_
        refine AllReadyH.cons rfl (fun K' hK' => ?_) AllReadyH.nil
        go_simp
        refine (specgrowth_any y _ y0 y1).mono ?_
        rintro e' wq ⟨rfl, hg⟩
        (try simp only [])
        refine hK'.out _ _ trivial (fun _ => ?_)
        have HgA := hid (gr_trans0 (gr_drew Hgr.out) hg)
        have hbA := blk_keep hbG (gr_trans0 (gr_drew (gr0 _)) hg) (by simp)
        (try clear c0 c1)
        clear hK' K' hg
        (try simp only [Act.put]); (try simp only [List.getElem_toArray]); (try simp only [List.getElem_cons_succ]); (try simp only [List.getElem_cons_zero]); (try simp only [List.setIfInBounds_toArray]); (try simp only [List.set_cons_succ]); (try simp only [List.set_cons_zero])
        refine wpAnyH_ready (rs := [3]) (by kernel_rfl) (by simp) ?_
        refine AllReadyH.cons rfl (fun K' hK' => ?_) AllReadyH.nil
        go_simp
        refine (HMu.out _).mono ?_
        rintro e' wt ⟨rfl, hg⟩
        (try simp only [])
        refine hK'.out _ _ trivial (fun _ => ?_)
        have HgB := hid (gr_trans0 HgA.out hg)
        have hbB := blk_keep hbA hg (by simp)
        (try clear c0 c1)
        clear hK' K' hg hbA
        (try simp only [Act.put]); (try simp only [List.getElem_toArray]); (try simp only [List.getElem_cons_succ]); (try simp only [List.getElem_cons_zero]); (try simp only [List.setIfInBounds_toArray]); (try simp only [List.set_cons_succ]); (try simp only [List.set_cons_zero])
        have e0 := blk_cell hbB 0 _ rfl
        have e1 := blk_cell hbB 1 _ rfl
        have k0 := blk_frozen hbB 0
        have k1 := blk_frozen hbB 1
        refine wpAnyH_ready (rs := [4]) (by kernel_rfl) (by simp) ?_
        refine AllReadyH.cons rfl (fun K' hK' => ?_) AllReadyH.nil
        go_simp
        refine hK'.out _ _ trivial (fun _ => ?_)
        clear hK' K' e0 e1 k0 k1
        (try simp only [Act.put]); (try simp only [List.getElem_toArray]); (try simp only [List.getElem_cons_succ]); (try simp only [List.getElem_cons_zero]); (try simp only [List.setIfInBounds_toArray]); (try simp only [List.set_cons_succ]); (try simp only [List.set_cons_zero])
        refine wpAnyH_done (by kernel_rfl) ?_ _
        have HbF := hid ((blk_set (blk_set hbB 0 (.int .i64 gl2)) 1 (.int .i64 gh2)).trans (show _ = some (Obj.cells #[Value.int .i64 gl2, .int .i64 gh2] 25 (0, 0)) from rfl))
        have HgF := hid (gr_setCell (p := ⟨G, 1, none⟩) (gr_setCell (p := ⟨G, 0, none⟩) HgB.out (.inl rfl) (.int .i64 gl2)) (.inl rfl) (.int .i64 gh2))
        clear hbB
        go_wp2_with fail
        go_roundw
        case rel => exact ⟨k + 1, by omega, by go_num, by rw [← Hgl2.out, ← Hgh2.out]; exact HbF, HgF.out⟩
        case measure => simp [intOf]; omega
      · go_simp
        refine (specgrowth_any y _ y0 y1).mono ?_
        rintro e' wq ⟨rfl, hg⟩
        (try simp only [])
        refine hK'.out _ _ trivial (fun _ => ?_)
        have HgA := hid (gr_trans0 (gr_drew Hgr.out) hg)
        have hbA := blk_keep hbG (gr_trans0 (gr_drew (gr0 _)) hg) (by simp)
        (try clear c0 c1)
        clear hK' K' hg
        (try simp only [Act.put]); (try simp only [List.getElem_toArray]); (try simp only [List.getElem_cons_succ]); (try simp only [List.getElem_cons_zero]); (try simp only [List.setIfInBounds_toArray]); (try simp only [List.set_cons_succ]); (try simp only [List.set_cons_zero])
        have c0 := blk_cell hbA 0 _ rfl
        have c1 := blk_cell hbA 1 _ rfl
        refine wpAnyH_ready (rs := [0]) (by kernel_rfl) (by simp) ?_
        refine AllReadyH.cons rfl (fun K' hK' => ?_) AllReadyH.nil
        go_simp
        refine hK'.out _ _ trivial (fun _ => ?_)
        clear hK' K' c0 c1
        (try simp only [Act.put]); (try simp only [List.getElem_toArray]); (try simp only [List.getElem_cons_succ]); (try simp only [List.getElem_cons_zero]); (try simp only [List.setIfInBounds_toArray]); (try simp only [List.set_cons_succ]); (try simp only [List.set_cons_zero])
        refine wpAnyH_ready (rs := [3]) (by kernel_rfl) (by simp) ?_
        refine AllReadyH.cons rfl (fun K' hK' => ?_) AllReadyH.nil
        go_simp
        refine (HMu.out _).mono ?_
        rintro e' wt ⟨rfl, hg⟩
        (try simp only [])
        refine hK'.out _ _ trivial (fun _ => ?_)
        have HgB := hid (gr_trans0 HgA.out hg)
        have hbB := blk_keep hbA hg (by simp)
        (try clear c0 c1)
        clear hK' K' hg hbA
        (try simp only [Act.put]); (try simp only [List.getElem_toArray]); (try simp only [List.getElem_cons_succ]); (try simp only [List.getElem_cons_zero]); (try simp only [List.setIfInBounds_toArray]); (try simp only [List.set_cons_succ]); (try simp only [List.set_cons_zero])
        have e0 := blk_cell hbB 0 _ rfl
        have e1 := blk_cell hbB 1 _ rfl
        have k0 := blk_frozen hbB 0
        have k1 := blk_frozen hbB 1
        refine wpAnyH_ready (rs := [4]) (by kernel_rfl) (by simp) ?_
        refine AllReadyH.cons rfl (fun K' hK' => ?_) AllReadyH.nil
        go_simp
        refine hK'.out _ _ trivial (fun _ => ?_)
        clear hK' K' e0 e1 k0 k1
        (try simp only [Act.put]); (try simp only [List.getElem_toArray]); (try simp only [List.getElem_cons_succ]); (try simp only [List.getElem_cons_zero]); (try simp only [List.setIfInBounds_toArray]); (try simp only [List.set_cons_succ]); (try simp only [List.set_cons_zero])
        refine wpAnyH_done (by kernel_rfl) ?_ _
        have HbF := hid ((blk_set (blk_set hbB 0 (.int .i64 gl2)) 1 (.int .i64 gh2)).trans (show _ = some (Obj.cells #[Value.int .i64 gl2, .int .i64 gh2] 25 (0, 0)) from rfl))
        have HgF := hid (gr_setCell (p := ⟨G, 1, none⟩) (gr_setCell (p := ⟨G, 0, none⟩) HgB.out (.inl rfl) (.int .i64 gl2)) (.inl rfl) (.int .i64 gh2))
        clear hbB
        go_wp2_with fail
        go_roundw
        case rel => exact ⟨k + 1, by omega, by go_num, by rw [← Hgl2.out, ← Hgh2.out]; exact HbF, HgF.out⟩
        case measure => simp [intOf]; omega
    · obtain rfl : k = q := by omega
      have HDv := hid (fun wx => divRange_any (growL y l d k) (growH y l d k) wx g0 g1 g2)
      rw [← Hdl.out k, ← Hdh.out k] at HDv
      have hbG := HbG.out
      have hz := blk_keep Hz.out Hgr.out (by intro x e; cases e; omega)
      have hgF := gr_own HgW.out Hgr.out (fun x e => by cases e; omega)
      have n1 : ¬ w.heap.size = G := by omega
      generalize growL y l d k = gl at *
      generalize growH y l d k = gh at *
      go_wp2_with fail
      refine wp_region_held_drew (S := fun w' => w'.heap[G]? = some (.cells #[.int .i64 gl, .int .i64 gh] 25 (0, 0)) ∧ w.grownBy w' none) (by kernel_rfl) ⟨hbG, gr_drew hgF⟩ (fun hHeld => ?_)
      refine wpAnyH_take (i := 1) (v := ?_) rfl (by kernel_rfl) (by kernel_rfl) (by kernel_rfl) (fun _ _ _ h => h) (Or.inl ⟨by rfl, ?_⟩) hHeld ?_
      rotate_left
      · intro w9 hSw
        (obtain ⟨sb, _⟩ := hSw; have s0 := blk_cell sb 0 _ rfl; have s1 := blk_cell sb 1 _ rfl; clear sb)
        go_simp
        all_goals (try with_reducible rfl)
      (try simp only [Act.put]); (try simp only [List.getElem_toArray]); (try simp only [List.getElem_cons_succ]); (try simp only [List.getElem_cons_zero]); (try simp only [List.setIfInBounds_toArray]); (try simp only [List.set_cons_succ]); (try simp only [List.set_cons_zero])
      refine wpAnyH_ready (rs := [0]) (by kernel_rfl) (by simp) ?_
      refine AllReadyH.cons rfl (fun K' hK' => ?_) AllReadyH.nil
      go_simp
      refine (exact_any _).mono ?_
      rintro e' wq ⟨rfl, hg⟩
      (try simp only [])
      refine hK'.out _ _ ⟨blk_keep hHeld.1 hg (by simp), gr_trans0 hHeld.2 hg⟩ (fun hHeldN => ?_)
      have hHeld := hHeldN
      have hz2 := blk_keep hz (gr_trans0 (gr_drew (gr0 _)) hg) (by simp)
      clear hK' K' hHeldN hg hz
      (try simp only [Act.put]); (try simp only [List.getElem_toArray]); (try simp only [List.getElem_cons_succ]); (try simp only [List.getElem_cons_zero]); (try simp only [List.setIfInBounds_toArray]); (try simp only [List.set_cons_succ]); (try simp only [List.set_cons_zero])
      refine wpAnyH_ready (rs := [2]) (by kernel_rfl) (by simp) ?_
      refine AllReadyH.cons rfl (fun K' hK' => ?_) AllReadyH.nil
      go_simp
      refine (HDv.out _).mono ?_
      rintro e' wt ⟨rfl, hg⟩
      (try simp only [])
      refine hK'.out _ _ ⟨blk_keep hHeld.1 hg (by simp), gr_trans0 hHeld.2 hg⟩ (fun hHeldN => ?_)
      have hHeld := hHeldN
      have hz3 := blk_keep hz2 hg (by simp)
      clear hK' K' hHeldN hg hz2
      (try simp only [Act.put]); (try simp only [List.getElem_toArray]); (try simp only [List.getElem_cons_succ]); (try simp only [List.getElem_cons_zero]); (try simp only [List.setIfInBounds_toArray]); (try simp only [List.set_cons_succ]); (try simp only [List.set_cons_zero])
      have e0 := blk_cell hz3 0 _ rfl
      have e1 := blk_cell hz3 1 _ rfl
      have k0 := blk_frozen hz3 0
      have k1 := blk_frozen hz3 1
      refine wpAnyH_ready (rs := [3]) (by kernel_rfl) (by simp) ?_
      refine AllReadyH.cons rfl (fun K' hK' => ?_) AllReadyH.nil
      go_simp
      have HgF := hid (gr_setCell (p := ⟨w.heap.size, 1, none⟩) (gr_setCell (p := ⟨w.heap.size, 0, none⟩) hHeld.2 (.inr (Nat.le_refl _)) (.int .i64 (discL y l d k))) (.inr (Nat.le_refl _)) (.int .i64 (discH y l d k)))
      refine hK'.out _ _ ⟨blk_set_other (blk_set_other hHeld.1 _ n1 _) _ n1 _, HgF.out⟩ (fun hHeldF => ?_)
      clear hK' K' hHeldF
      (try simp only [Act.put]); (try simp only [List.getElem_toArray]); (try simp only [List.getElem_cons_succ]); (try simp only [List.getElem_cons_zero]); (try simp only [List.setIfInBounds_toArray]); (try simp only [List.set_cons_succ]); (try simp only [List.set_cons_zero])
      refine wpAnyH_done (by kernel_rfl) ?_ _
      clear hHeld hbG hgF
      go_wp2_with fail
      exact bodyPost_ret (v := .agg #[.int .i64 (discL y l d k), .int .i64 (discH y l d k)]) (by simp [results, Tryd.results60, go_sem, *]) rfl ⟨rfl, HgF.out⟩

end Go.Proofs.YtkgjciacdjhhfaaDoor
