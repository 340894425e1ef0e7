/- CapWeights of the program, walked whole. -/
import Derived.Test.YtecboohippbliaaRows
import Derived.Test.YtecboohippbliaaBase
import Derived.Test.YtecboohippbliaaCap
import Derived.Test.YtecboohippbliaaCapLib
import Derived.Test.YtecboohippbliaaAllotWalk
import Derived.Deep.LoopGhost
import Derived.Deep.Cut
import Derived.Deep.CutRange
import Derived.RegionTactic
namespace Go.Proofs.Ytecboohippbliaa
open Go.RowKit

theorem infoBool : (Try.prog.info? 4).map (fun i => (i.zero, i.size, i.bytes)) = some (some (.bool false), 1, 1) := by kernel_rfl
theorem cap_facts (xs : List Int) (lim : Int) (h : capOk xs lim = true) : 1 ≤ xs.length ∧ xs.length ≤ 8 ∧ withinB xs.length 1 8 = true ∧ withinB lim 0 1000 = true ∧ 0 ≤ lim ∧ lim ≤ 1000 ∧ tot xs = 1000 ∧ 1000 ≤ lim * xs.length ∧ lim * xs.length ≤ 8000 ∧ intsIn 0 1000 xs = true := by
  have hc := capOk_facts xs lim h
  have h1 := hc.lo; have h2 := hc.hi
  unfold capOk at h
  simp only [Bool.and_eq_true, decide_eq_true_eq] at h
  have h3 : ∀ x ∈ xs, 0 ≤ x ∧ x ≤ 1000 := hc.le
  have h4 := tot_eq xs 0 1000 h3 (by omega) (by omega) (by omega) (by omega) (by omega)
  have h5 : lim * (xs.length : Int) ≤ 1000 * xs.length := Int.mul_le_mul_of_nonneg_right hc.lim1 (by omega)
  exact ⟨h1, h2, h.1.1.1.1, h.1.1.1.2, hc.lim0, hc.lim1, by rw [h4]; exact hc.sum, hc.room, by omega, h.2⟩

theorem capSt_at (lim : Int) (ys : List Int) (k : Nat) (x : Int) (hx : ys[k]? = some x) : (capL lim (ys.take k) ++ ys.drop k)[k]? = some x := by
  have hk := lt_of_at hx
  rw [List.getElem?_append_right (by rw [cap_len, List.length_take]; omega), cap_len, List.length_take, show k - min k ys.length = 0 by omega, drop_at _ _ _ hx]; rfl

theorem capSt_hi (lim : Int) (ys : List Int) (k : Nat) (x : Int) (hx : ys[k]? = some x) (h : lim < x) : (capL lim (ys.take k) ++ ys.drop k).set k lim = capL lim (ys.take (k + 1)) ++ ys.drop (k + 1) := by
  have hk := lt_of_at hx
  rw [List.set_append_right _ _ (by rw [cap_len, List.length_take]; omega), cap_len, List.length_take, show k - min k ys.length = 0 by omega, drop_at _ _ _ hx, List.set_cons_zero, take_snoc _ _ _ hx]
  unfold capL capX
  rw [List.map_append, List.map_singleton, if_pos h, List.append_assoc]; rfl

theorem capSt_lo (lim : Int) (ys : List Int) (k : Nat) (x : Int) (hx : ys[k]? = some x) (h : ¬ lim < x) : capL lim (ys.take k) ++ ys.drop k = capL lim (ys.take (k + 1)) ++ ys.drop (k + 1) := by
  rw [drop_at _ _ _ hx, take_snoc _ _ _ hx]
  unfold capL capX
  rw [List.map_append, List.map_singleton, if_neg h, List.append_assoc]; rfl

theorem fixSt_at (lim : Int) (ys : List Int) (gx : List Bool) (k : Nat) (x : Int) (f : Bool) (hx : ys[k]? = some x) (hf : gx[k]? = some f) : (fixL lim (ys.take k) (gx.take k) ++ gx.drop k)[k]? = some f := by
  have hk := lt_of_at hx
  have hj := lt_of_at hf
  rw [List.getElem?_append_right (by rw [fix_len _ _ _ (by rw [List.length_take, List.length_take]; omega), List.length_take]; omega), fix_len _ _ _ (by rw [List.length_take, List.length_take]; omega), List.length_take, show k - min k gx.length = 0 by omega, drop_at _ _ _ hf]; rfl

theorem fix_snoc (lim : Int) (ys : List Int) (gx : List Bool) (x : Int) (f : Bool) (h : ys.length = gx.length) : fixL lim (ys ++ [x]) (gx ++ [f]) = fixL lim ys gx ++ [f || decide (lim < x)] := by
  unfold fixL; rw [List.zipWith_append h]; rfl

theorem fixSt_hi (lim : Int) (ys : List Int) (gx : List Bool) (k : Nat) (x : Int) (f : Bool) (hx : ys[k]? = some x) (hf : gx[k]? = some f) (h : lim < x) : (fixL lim (ys.take k) (gx.take k) ++ gx.drop k).set k true = fixL lim (ys.take (k + 1)) (gx.take (k + 1)) ++ gx.drop (k + 1) := by
  have hk := lt_of_at hx
  have hj := lt_of_at hf
  rw [List.set_append_right _ _ (by rw [fix_len _ _ _ (by rw [List.length_take, List.length_take]; omega), List.length_take]; omega), fix_len _ _ _ (by rw [List.length_take, List.length_take]; omega), List.length_take, show k - min k gx.length = 0 by omega, drop_at _ _ _ hf, List.set_cons_zero, take_snoc _ _ _ hx, take_snoc _ _ _ hf, fix_snoc _ _ _ _ _ (by rw [List.length_take, List.length_take]; omega), decide_eq_true h, Bool.or_true, List.append_assoc]; rfl

theorem fixSt_lo (lim : Int) (ys : List Int) (gx : List Bool) (k : Nat) (x : Int) (f : Bool) (hx : ys[k]? = some x) (hf : gx[k]? = some f) (h : ¬ lim < x) : fixL lim (ys.take k) (gx.take k) ++ gx.drop k = fixL lim (ys.take (k + 1)) (gx.take (k + 1)) ++ gx.drop (k + 1) := by
  have hk := lt_of_at hx
  have hj := lt_of_at hf
  rw [drop_at _ _ _ hf, take_snoc _ _ _ hx, take_snoc _ _ _ hf, fix_snoc _ _ _ _ _ (by rw [List.length_take, List.length_take]; omega), decide_eq_false h, Bool.or_false, List.append_assoc]; rfl

theorem over_snoc (lim : Int) (ys : List Int) (k : Nat) (x : Int) (hx : ys[k]? = some x) : overL lim (ys.take (k + 1)) = overL lim (ys.take k) + exX lim x := by
  unfold overL; rw [take_snoc _ _ _ hx, List.map_append, sumI_append]; simp [sumI]

theorem over_bd (lim : Int) (ys : List Int) (h0 : 0 ≤ lim) (h : ∀ x ∈ ys, 0 ≤ x ∧ x ≤ 1000) : overL lim ys ≤ 1000 * ys.length := by
  unfold overL
  have := sumI_bound (ys.map (exX lim)) 0 1000 (fun z hz => by
    obtain ⟨x, hx, rfl⟩ := List.mem_map.1 hz
    have := h x hx
    unfold exX; split <;> omega)
  rw [List.length_map] at this
  omega

theorem cap_step (m : List Bool) (zs sh : List Int) (q j : Nat) (z : Int) (hm : m.length = zs.length) (hq : q = marks m) (hs : sh.length = q) (hj : j < q) (hz : sh[j]? = some z) :
    ∃ v, zs[posOf m j]? = some v ∧ (addL zs (expand m (sh.take j ++ List.replicate (q - j) 0)))[posOf m j]? = some v ∧
      addL zs (expand m (sh.take (j + 1) ++ List.replicate (q - (j + 1)) 0)) = (addL zs (expand m (sh.take j ++ List.replicate (q - j) 0))).set (posOf m j) (v + z) := by
  have hp := posOf_lt m j (by omega)
  have hv : zs[posOf m j]? = some (zs[posOf m j]'(by omega)) := by simp [show posOf m j < zs.length by omega]
  have hL : (sh.take j ++ List.replicate (q - j) (0 : Int)).length = q := by rw [List.length_append, List.length_take, List.length_replicate]; omega
  have he := expand_at m (sh.take j ++ List.replicate (q - j) 0) (by rw [hL]; exact hq.symm) j (by omega)
  have hel := expand_len m (sh.take j ++ List.replicate (q - j) (0 : Int))
  rw [List.getD_eq_getElem?_getD, List.getD_eq_getElem?_getD, fill_at sh q j 0 hj hs] at he
  rw [List.getElem?_eq_getElem (by omega)] at he
  have he2 : (expand m (sh.take j ++ List.replicate (q - j) 0))[posOf m j]? = some 0 := by
    rw [List.getElem?_eq_getElem (by omega)]
    exact congrArg some (by simpa using he)
  refine ⟨_, hv, ?_, ?_⟩
  · unfold addL; rw [List.getElem?_zipWith, hv, he2]; simp
  · rw [← fill_step sh q j z 0 hz hs, expand_set _ _ (by rw [hL]; exact hq.symm) j (by rw [hL]; exact hj), addL_set _ _ _ _ _ hv (by rw [hel]; exact hm.symm)]

set_option maxRecDepth 100000 in
set_option maxHeartbeats 4000000 in
theorem CapOk_any (a : Option Addr) (n cap : Nat) (xs : List Int) (lim : Int) (w : World) (hs : Sl intL w a n xs) (h : capOk xs lim = true) :
    Calls Try.prog 32 #[.slice a n cap, .int .i64 lim] w fun e w' => ∃ a' cap', e = .returned (.slice a' n cap') ∧ Ow intL w' w.heap.size a' n (capF xs lim) ∧ n ≤ cap' ∧ w.grownBy w' none := by
  obtain ⟨i0, hi, hz0, hz1, hz2⟩ := info_parts infoInt
  obtain ⟨j0, ji, jz0, jz1, jz2⟩ := info_parts infoBool
  obtain ⟨f1, f2, f3, f4, f5, f6, f7, f8, f9, f10⟩ := cap_facts xs lim h
  have hl := hs.len
  rw [hl] at f1 f2 f3 f8 f9
  have Hinv := hid (capOk_facts xs lim h)
  obtain ⟨b0, off0, rfl, _⟩ := hs.mem (by omega)
  have Hs := hid hs; clear hs h
  have F7 := hid f7; clear f7
  have hlt : decide (lim * (n : Int) < 1000) = false := by simpa using f8
  go_enter Try.func32, Try.ntmps32
  go_wp2_with fail
  refine (within_any _ _ _ _).mono ?_
  rintro e w1 ⟨rfl, rfl⟩
  rw [f3]
  go_wp2_with fail
  refine (within_any _ _ _ _).mono ?_
  rintro e w1 ⟨rfl, rfl⟩
  rw [f4]
  go_wp2_with fail
  refine (total_any _ n cap xs w Hs.out).mono ?_
  rintro e w1 ⟨rfl, rfl⟩
  rw [F7.out]
  go_wp2_with fail
  refine (ContainsFuncIntsCap_any _ n cap xs w1 Hs.out).mono ?_
  rintro e w2 ⟨rfl, rfl⟩
  rw [f10]
  go_upto_region 5 with fail
  go_cut [5, 6] from 39 to 43 (fun p q wx => ∃ g1 c1 g2 : Nat, p = .slice (some ⟨g1, 0, none⟩) n c1 ∧ q = .slice (some ⟨g2, 0, none⟩) n n ∧ g1 ≠ g2 ∧ Ow intL wx w1.heap.size (some ⟨g1, 0, none⟩) n xs ∧ Ow boolL wx w1.heap.size (some ⟨g2, 0, none⟩) n (List.replicate n false) ∧ n ≤ c1 ∧ c1 ≤ maxLen ∧ w1.grownBy wx none)
  case first =>
    obtain ⟨Z, hZ, hmk⟩ : ∃ Z : Array Value, Z.toList = (List.replicate n false).flatMap boolL.cells ∧ ∀ wx : World, (Instr.makeSlice 55 (.int .i64 n) (.int .i64 n)).run Try.prog wx = .ok (.slice (some ⟨wx.heap.size, 0, none⟩) n n) (wx.alloc (.cells Z 4)) := by
      refine ⟨madeCells (Value.cells (.bool false)) (n * j0.size), by rw [jz1]; exact made_flat boolL false n, fun wx => ?_⟩
      have := run_make (P := Try.prog) wx 55 4 j0 _ Try.underlying55 ji jz0 .i64 .i64 n n (by omega) (by omega) (by rw [jz2]; omega) (by omega)
      simpa using this
    have HZ := hid hZ; clear hZ
    have Hmade : Hid (∀ wx : World, w1.grownBy wx none → Ow boolL (wx.alloc (.cells Z 4)) w1.heap.size (some ⟨wx.heap.size, 0, none⟩) n (List.replicate n false)) := hid (by
      intro wx hg
      have h9 : (wx.alloc (.cells Z 4)).ownsRow w1.heap.size 4 1 (.slice (some ⟨wx.heap.size, 0, none⟩) n n) n ((List.replicate n false).flatMap boolL.cells) := by
        refine ⟨by rw [flat_len, List.length_replicate]; rfl, Or.inr ⟨wx.heap.size, n, Z, rfl, hg.size, heap_alloc_new _ _, Nat.le_refl _, by unfold maxLen; omega, ?_, ?_⟩⟩
        · have := congrArg List.length HZ.out
          rw [flat_len, List.length_replicate] at this
          simpa [boolL] using this
        · rw [← HZ.out, List.take_of_length_le]
          have := congrArg List.length HZ.out
          rw [flat_len, List.length_replicate] at this
          rw [this]; exact Nat.le_refl _
      exact Ow.of_own (L := boolL) h9 (by simp) (by unfold maxLen; omega))
    refine wp_region_held_drew (S := fun _ => True) (by kernel_rfl) trivial (fun _ => ?_)
    refine wpAnyH_take (i := 0) (v := ?_) rfl (by kernel_rfl) (by kernel_rfl) (by kernel_rfl) (fun _ _ _ h => h) (Or.inl ⟨by rfl, ?_⟩) trivial ?_
    rotate_left
    · intro w9 hSw
      clear hSw
      go_simp
      all_goals (try with_reducible rfl)
    (try simp only [Act.put]); (try simp only [List.getElem_toArray]); (try simp only [List.getElem_cons_succ]); (try simp only [List.getElem_cons_zero]); (try simp only [List.setIfInBounds_toArray]); (try simp only [List.set_cons_succ]); (try simp only [List.set_cons_zero])
    refine wpAnyH_take (i := 2) (v := ?_) rfl (by kernel_rfl) (by kernel_rfl) (by kernel_rfl) (fun _ _ _ h => h) (Or.inl ⟨by rfl, ?_⟩) trivial ?_
    rotate_left
    · intro w9 hSw
      clear hSw
      go_simp
      all_goals (try with_reducible rfl)
    (try simp only [Act.put]); (try simp only [List.getElem_toArray]); (try simp only [List.getElem_cons_succ]); (try simp only [List.getElem_cons_zero]); (try simp only [List.setIfInBounds_toArray]); (try simp only [List.set_cons_succ]); (try simp only [List.set_cons_zero])
    refine wpAnyH_take (i := 3) (v := ?_) rfl (by kernel_rfl) (by kernel_rfl) (by kernel_rfl) (fun _ _ _ h => h) (Or.inl ⟨by rfl, ?_⟩) trivial ?_
    rotate_left
    · intro w9 hSw
      clear hSw
      go_simp
      all_goals (try with_reducible rfl)
    (try simp only [Act.put]); (try simp only [List.getElem_toArray]); (try simp only [List.getElem_cons_succ]); (try simp only [List.getElem_cons_zero]); (try simp only [List.setIfInBounds_toArray]); (try simp only [List.set_cons_succ]); (try simp only [List.set_cons_zero])
    refine wpAnyH_ready (rs := [1, 4]) (by kernel_rfl) (by simp) ?_
    refine AllReadyH.cons rfl (fun K hK => ?_) (AllReadyH.cons rfl (fun K hK => ?_) AllReadyH.nil)
    · go_simp
      refine (CloneInts_any ⟨b0, off0, none⟩ n cap xs w1.drew (Hs.out.keep0 (gr_drew (gr0 _))) (by omega)).mono ?_
      rintro e w2 ⟨a', c', rfl, ho, hg⟩
      have Ho := hid ho; clear ho
      have Hg := hid (gr_trans0 (gr_drew (gr0 w1)) hg); clear hg
      refine hK.out _ _ trivial (fun _ => ?_)
      clear hK K
      (try simp only [Act.put]); (try simp only [List.getElem_toArray]); (try simp only [List.getElem_cons_succ]); (try simp only [List.getElem_cons_zero]); (try simp only [List.setIfInBounds_toArray]); (try simp only [List.set_cons_succ]); (try simp only [List.set_cons_zero])
      refine wpAnyH_take (i := 5) (v := ?_) rfl (by kernel_rfl) (by kernel_rfl) (by kernel_rfl) (fun _ _ _ h => h) (Or.inl ⟨by rfl, ?_⟩) trivial ?_
      rotate_left
      · intro w9 hSw
        clear hSw
        go_simp
        all_goals (try with_reducible rfl)
      (try simp only [Act.put]); (try simp only [List.getElem_toArray]); (try simp only [List.getElem_cons_succ]); (try simp only [List.getElem_cons_zero]); (try simp only [List.setIfInBounds_toArray]); (try simp only [List.set_cons_succ]); (try simp only [List.set_cons_zero])
      refine wpAnyH_ready (rs := [4]) (by kernel_rfl) (by simp) ?_
      refine AllReadyH.cons rfl (fun K hK => ?_) AllReadyH.nil
      go_simp
      refine hK.out _ _ trivial (fun _ => ?_)
      clear hK K
      (try simp only [Act.put]); (try simp only [List.getElem_toArray]); (try simp only [List.getElem_cons_succ]); (try simp only [List.getElem_cons_zero]); (try simp only [List.setIfInBounds_toArray]); (try simp only [List.set_cons_succ]); (try simp only [List.set_cons_zero])
      refine wpAnyH_take (i := 6) (v := ?_) rfl (by kernel_rfl) (by kernel_rfl) (by kernel_rfl) (fun _ _ _ h => h) (Or.inl ⟨by rfl, ?_⟩) trivial ?_
      rotate_left
      · intro w9 hSw
        clear hSw
        go_simp
        all_goals (try with_reducible rfl)
      (try simp only [Act.put]); (try simp only [List.getElem_toArray]); (try simp only [List.getElem_cons_succ]); (try simp only [List.getElem_cons_zero]); (try simp only [List.setIfInBounds_toArray]); (try simp only [List.set_cons_succ]); (try simp only [List.set_cons_zero])
      refine wpAnyH_done (by kernel_rfl) ?_ _
      go_wp2_with fail
      go_meet
      rcases Ho.out with ⟨q1, ⟨q2, q3⟩ | ⟨g, cap9, cur, q2, q3, q4, q5, q6, q7, q8⟩⟩
      · omega
      · simp only [Value.slice.injEq, Option.some.injEq] at q2
        obtain ⟨rfl, _, rfl⟩ := q2
        exact ⟨g, c', w2.heap.size, rfl, rfl, by have := blk_lt q4; omega, (Ow.own_ints ((Ho.out.alloc _)) (by omega)).mono (by simp), Hmade.out w2 Hg.out, q5, q6, gr_alloc Hg.out _⟩
    · go_simp
      refine hK.out _ _ trivial (fun _ => ?_)
      clear hK K
      (try simp only [Act.put]); (try simp only [List.getElem_toArray]); (try simp only [List.getElem_cons_succ]); (try simp only [List.getElem_cons_zero]); (try simp only [List.setIfInBounds_toArray]); (try simp only [List.set_cons_succ]); (try simp only [List.set_cons_zero])
      refine wpAnyH_ready (rs := [1]) (by kernel_rfl) (by simp) ?_
      refine AllReadyH.cons rfl (fun K hK => ?_) AllReadyH.nil
      go_simp
      refine (CloneInts_any ⟨b0, off0, none⟩ n cap xs _ (Hs.out.keep0 (gr_alloc (gr_drew (gr0 _)) _)) (by omega)).mono ?_
      rintro e w2 ⟨a', c', rfl, ho, hg⟩
      have Ho := hid ho; clear ho
      have Hg := hid hg; clear hg
      refine hK.out _ _ trivial (fun _ => ?_)
      clear hK K
      (try simp only [Act.put]); (try simp only [List.getElem_toArray]); (try simp only [List.getElem_cons_succ]); (try simp only [List.getElem_cons_zero]); (try simp only [List.setIfInBounds_toArray]); (try simp only [List.set_cons_succ]); (try simp only [List.set_cons_zero])
      refine wpAnyH_take (i := 5) (v := ?_) rfl (by kernel_rfl) (by kernel_rfl) (by kernel_rfl) (fun _ _ _ h => h) (Or.inl ⟨by rfl, ?_⟩) trivial ?_
      rotate_left
      · intro w9 hSw
        clear hSw
        go_simp
        all_goals (try with_reducible rfl)
      (try simp only [Act.put]); (try simp only [List.getElem_toArray]); (try simp only [List.getElem_cons_succ]); (try simp only [List.getElem_cons_zero]); (try simp only [List.setIfInBounds_toArray]); (try simp only [List.set_cons_succ]); (try simp only [List.set_cons_zero])
      refine wpAnyH_take (i := 6) (v := ?_) rfl (by kernel_rfl) (by kernel_rfl) (by kernel_rfl) (fun _ _ _ h => h) (Or.inl ⟨by rfl, ?_⟩) trivial ?_
      rotate_left
      · intro w9 hSw
        clear hSw
        go_simp
        all_goals (try with_reducible rfl)
      (try simp only [Act.put]); (try simp only [List.getElem_toArray]); (try simp only [List.getElem_cons_succ]); (try simp only [List.getElem_cons_zero]); (try simp only [List.setIfInBounds_toArray]); (try simp only [List.set_cons_succ]); (try simp only [List.set_cons_zero])
      refine wpAnyH_done (by kernel_rfl) ?_ _
      go_wp2_with fail
      go_meet
      rcases Ho.out with ⟨q1, ⟨q2, q3⟩ | ⟨g, cap9, cur, q2, q3, q4, q5, q6, q7, q8⟩⟩
      · omega
      · simp only [Value.slice.injEq, Option.some.injEq] at q2
        obtain ⟨rfl, _, rfl⟩ := q2
        exact ⟨g, c', w1.heap.size, rfl, rfl, by simp at q3; omega, (Ow.own_ints Ho.out (by omega)).mono (by simp), (Hmade.out w1.drew (gr_drew (gr0 _))).keep0 Hg.out, q5, q6, gr_trans0 (gr_alloc (gr_drew (gr0 _)) _) Hg.out⟩
  case rest =>
    obtain ⟨g1, c1, g2, rfl, rfl, hne, ho1, ho2, hc1, hc2, hg⟩ := hcut
    have Ho1 := hid ho1; clear ho1
    have Ho2 := hid ho2; clear ho2
    have Hg := hid hg; clear hg
    have Hc1 := hid hc1; clear hc1
    have Hc2 := hid hc2; clear hc2
    have hgB : w1.heap.size ≤ g1 ∧ w1.heap.size ≤ g2 := by
      obtain ⟨b, o, e1, e2, _⟩ := Ho1.out.mem (by omega)
      obtain ⟨b', o', e1', e2', _⟩ := Ho2.out.mem (by omega)
      cases e1; cases e1'; exact ⟨e2, e2'⟩
    have HgB := hid hgB; clear hgB
    have hne2 : ¬ g2 = g1 := fun e => hne e.symm
    go_wp2_with fail
    go_loopg [7] (n + 1) (fun g p wr => ∃ (ys : List Int) (gx : List Bool), CapInv lim n ys gx ∧ gx.count false < g ∧ Hid (capN lim g ys gx = capF xs lim) ∧ Ow intL wr w1.heap.size (some ⟨g1, 0, none⟩) n ys ∧ Ow boolL wr w1.heap.size (some ⟨g2, 0, none⟩) n gx ∧ w1.grownBy wr none)
    case atStart =>
      refine ⟨xs, List.replicate n false, ?_, ?_, hid ?_, Ho1.out, Ho2.out, Hg.out⟩
      · have := Hinv.out; rwa [hl] at this
      · simp
      · unfold capF; rw [hl]
    case round =>
      clear Ho1 Ho2 Hg
      obtain ⟨ys, gx, hinv, hcnt, hcap, ho1, ho2, hg⟩ := hrel
      obtain ⟨g', rfl⟩ : ∃ g', gk = g' + 1 := ⟨gk - 1, by omega⟩
      have Hinv2 := hid hinv; clear hinv
      have Ho1 := hid ho1; clear ho1
      have Ho2 := hid ho2; clear ho2
      have Hg := hid hg; clear hg
      have Hcnt := hid hcnt; clear hcnt
      obtain ⟨wo, rfl⟩ : ∃ wo : World, wo = wr := ⟨_, rfl⟩
      go_wp2_with fail
      go_loopw [7, 46] (fun ab i wr => ∃ k : Nat, k ≤ n ∧ i = .int .i64 k ∧ ab = .int .i64 (overL lim (ys.take k)) ∧ Ow intL wr w1.heap.size (some ⟨g1, 0, none⟩) n (capL lim (ys.take k) ++ ys.drop k) ∧ Ow boolL wr w1.heap.size (some ⟨g2, 0, none⟩) n (fixL lim (ys.take k) (gx.take k) ++ gx.drop k) ∧ w1.grownBy wr none) (fun _ i _ => n - (intOf i).toNat)
      case atStart => exact ⟨0, by omega, rfl, by simp [overL, sumI], by simpa [capL] using Ho1.out, by simpa [fixL] using Ho2.out, Hg.out⟩
      case round =>
        clear Ho1 Ho2 Hg
        obtain ⟨k, hk, rfl, rfl, ho1, ho2, hg⟩ := hrel
        have hyl := Hinv2.out.len
        have hgl := Hinv2.out.flen
        have hov0 := over_nonneg lim (ys.take k)
        have hov1 := over_bd lim (ys.take k) f5 (fun x hx => Hinv2.out.le x (List.mem_of_mem_take hx))
        have htl : (ys.take k).length ≤ 8 := by rw [List.length_take]; omega
        have hov2 : overL lim (ys.take k) ≤ 8000 := by omega
        clear hov1
        by_cases hlt : k < n
        · obtain ⟨x, hx⟩ : ∃ x, ys[k]? = some x := ⟨ys[k]'(by omega), by simp⟩
          obtain ⟨f, hf⟩ : ∃ f, gx[k]? = some f := ⟨gx[k]'(by omega), by simp⟩
          have hxb := Hinv2.out.le x (List.mem_of_getElem? hx)
          obtain ⟨b3, o3, z, e3, hz, _, _, hfr, hcc⟩ := ho1.at k hlt
          simp only [Option.some.injEq, Addr.mk.injEq, and_true] at e3
          obtain ⟨rfl, rfl⟩ := e3
          rw [capSt_at lim ys k x hx] at hz
          obtain rfl := Option.some.inj hz
          have cx : wr.cell? ⟨g1, k, none⟩ = some (.int .i64 x) := by have := hcc 0 _ rfl; simpa [intL] using this
          have fx : wr.frozen? ⟨g1, k, none⟩ = false := hfr _
          clear hfr hcc hz
          obtain ⟨b3, o3, z, e3, hz, _, _, hfr, hcc⟩ := ho2.at k hlt
          simp only [Option.some.injEq, Addr.mk.injEq, and_true] at e3
          obtain ⟨rfl, rfl⟩ := e3
          rw [fixSt_at lim ys gx k x f hx hf] at hz
          obtain rfl := Option.some.inj hz
          have cf : wr.cell? ⟨g2, k, none⟩ = some (.bool f) := by have := hcc 0 _ rfl; simpa [boolL] using this
          have ff : wr.frozen? ⟨g2, k, none⟩ = false := hfr _
          clear hfr hcc hz
          have Ho1 := hid ho1; have Ho2 := hid ho2; have Hg := hid hg
          have Hx := hid hx; have Hf := hid hf
          have hos := over_snoc lim ys k x hx
          have Hos := hid hos
          have hi0 : (0 : Int) ≤ k := by omega
          have hi1 : (k : Int) < n := by omega
          clear ho1 ho2 hg hx hf hos htl
          generalize overL lim (ys.take k) = ov at *
          by_cases hlx : lim < x
          · have hex : exX lim x = x - lim := by unfold exX; rw [if_pos hlx]
            have Hex := hid hex; clear hex
            have cf2 : (wr.setCell ⟨g1, k, none⟩ (.int .i64 lim)).cell? ⟨g2, k, none⟩ = some (.bool f) := by rw [cell_set_other (by omega)]; exact cf
            go_wp2_with fail
            go_roundw
            case rel =>
              refine ⟨k + 1, by omega, by go_num, ?_, ?_, ?_, ?_⟩
              · rw [Hos.out, Hex.out]
              · have := Ho1.out.set k 0 x lim (.int .i64 lim) (capSt_at lim ys k x Hx.out) (by simp [intL]) rfl k (by simp [intL])
                rw [capSt_hi lim ys k x Hx.out hlx] at this
                exact this.keep (gr_setCell (r := some g2) (gr_refl _ _) (.inl rfl) _) (fun _ b off e1 e2 => by cases e1; cases e2; exact hne rfl)
              · have := (Ho2.out.keep (gr_setCell (r := some g1) (p := ⟨g1, k, none⟩) (gr_refl _ _) (.inl rfl) (.int .i64 lim)) (fun _ b off e1 e2 => by cases e1; cases e2; exact hne rfl)).set k 0 f true (.bool true) (fixSt_at lim ys gx k x f Hx.out Hf.out) (by simp [boolL]) rfl k (by simp [boolL])
                rw [fixSt_hi lim ys gx k x f Hx.out Hf.out hlx] at this
                exact this
              · exact gr_setCell (gr_setCell Hg.out (.inr HgB.out.1) _) (.inr HgB.out.2) _
            case measure => simp [intOf]; omega
          · have hex : exX lim x = 0 := by unfold exX; rw [if_neg hlx]
            have Hex := hid hex; clear hex
            go_wp2_with fail
            go_roundw
            case rel =>
              refine ⟨k + 1, by omega, by go_num, ?_, ?_, ?_, Hg.out⟩
              · rw [Hos.out, Hex.out]; congr 1; omega
              · rw [← capSt_lo lim ys k x Hx.out hlx]; exact Ho1.out
              · rw [← fixSt_lo lim ys gx k x f Hx.out Hf.out hlx]; exact Ho2.out
            case measure => simp [intOf]; omega
        · obtain rfl : k = n := by omega
          have tk : ys.take k = ys := List.take_of_length_le (by omega)
          have tg : gx.take k = gx := List.take_of_length_le (by omega)
          have dk : ys.drop k = [] := List.drop_of_length_le (by omega)
          have dg : gx.drop k = [] := List.drop_of_length_le (by omega)
          rw [tk, dk, List.append_nil] at ho1
          rw [tk, tg, dg, List.append_nil] at ho2
          rw [tk] at hov0 hov2 ⊢
          clear tk tg dk dg htl
          have Ho1 := hid ho1; have Ho2 := hid ho2; have Hg := hid hg
          clear ho1 ho2 hg
          have hcs := hcap.out
          rw [capN_succ] at hcs
          by_cases h0 : overL lim ys = 0
          · rw [if_pos h0] at hcs
            have hcl := (over_zero lim ys h0).2
            have HR : Hid (Ow intL wr w1.heap.size (some ⟨g1, 0, none⟩) k (capF xs lim)) := hid (by rw [← hcs]; have := Ho1.out; rwa [hcl] at this)
            clear hcs hcl Ho1 Ho2
            rw [h0]
            go_wp2_with fail
            refine (ClipInts_any g1 0 k c1 wr Hc1.out Hc2.out).mono ?_
            rintro e w2 ⟨rfl, rfl⟩
            go_wp2_with fail
            go_ret
            exact ⟨_, k, rfl, HR.out, Nat.le_refl _, Hg.out⟩
          · rw [if_neg h0] at hcs
            have Hcs := hid hcs; clear hcs
            have H0 := hid h0
            have hb0 : (overL lim ys == 0) = false := by simpa using h0
            obtain ⟨r1, r2, r3, r4, r5, r6, r7, r8, r9, r10⟩ := cap_round lim k ys gx Hinv2.out h0
            clear h0
            have R5 := hid r5; have R6 := hid r6; have R7 := hid r7; have R8 := hid r8; have R9 := hid r9; have R10 := hid r10
            clear r5 r6 r7 r8 r9 r10
            obtain ⟨m, hm⟩ : ∃ m, m = freeL (fixL lim ys gx) := ⟨_, rfl⟩
            obtain ⟨zs, hzs⟩ : ∃ zs, zs = capL lim ys := ⟨_, rfl⟩
            obtain ⟨fx, hfx⟩ : ∃ fx, fx = fixL lim ys gx := ⟨_, rfl⟩
            rw [← hzs] at Ho1 R5 R6 R7 R8
            rw [← hm] at r3 r4 R5 R6 R7 R8
            rw [← hfx] at Ho2
            have Hm := hid hm; have Hzs := hid hzs; have Hfx := hid hfx
            have hmfx : m = freeL fx := by rw [hm, hfx]
            have hmk : m.length = k := by rw [hm, free_len, fix_len lim ys gx (by omega)]; omega
            have hzk : zs.length = k := by rw [hzs, cap_len]; omega
            have hfk : fx.length = k := by rw [hfx, fix_len lim ys gx (by omega)]; omega
            have Hmfx := hid hmfx
            clear hm hzs hfx hmfx
            generalize hov : overL lim ys = ov at *
            have Hov := hid hov; clear hov
            have hA : ((wr.alloc (Obj.cells #[] 3)).alloc (Obj.cells #[] 3)).ownsRow wr.heap.size 3 1 (.slice (some ⟨wr.heap.size, 0, none⟩) 0 0) 0 (([] : List Int).flatMap intL.cells) := (World.ownsRow_made wr #[] 0 (Nat.le_refl _) (by decide) rfl).alloc _
            have hC : ((wr.alloc (Obj.cells #[] 3)).alloc (Obj.cells #[] 3)).ownsRow wr.heap.size 3 1 (.slice (some ⟨wr.heap.size + 1, 0, none⟩) 0 0) 0 (([] : List Int).flatMap intL.cells) := by
              have := World.ownsRow_made (base := wr.heap.size) (size := 1) (e := 3) (wr.alloc (Obj.cells #[] 3)) #[] 0 (by simp) (by decide) rfl
              simpa using this
            have HA := hid hA; clear hA
            have HC := hid hC; clear hC
            have Hb0 := hid (gr_alloc (gr_alloc (gr0 wr) (Obj.cells #[] 3)) (Obj.cells #[] 3))
            go_wp2_with fail
            obtain ⟨wz, rfl⟩ : ∃ wz : World, wz = wr := ⟨_, rfl⟩
            have hzB : g1 < wz.heap.size ∧ g2 < wz.heap.size := by
              obtain ⟨b, o, e1, _, e2, _⟩ := Ho1.out.mem (by omega)
              obtain ⟨b', o', e1', _, e2', _⟩ := Ho2.out.mem (by omega)
              cases e1; cases e1'; exact ⟨e2, e2'⟩
            have HzB := hid hzB; clear hzB
            go_loopw [10, 11, 75] (fun p q i wr => ∃ (j pg1 pg2 pc1 pc2 qn : Nat), j ≤ k ∧ i = .int .i64 j ∧ p = .slice (some ⟨pg1, 0, none⟩) qn pc1 ∧ q = .slice (some ⟨pg2, 0, none⟩) qn pc2 ∧ pg1 ≠ pg2 ∧ qn = marks (m.take j) ∧ qn ≤ j ∧ wr.ownsRow wz.heap.size 3 1 (.slice (some ⟨pg1, 0, none⟩) qn pc1) qn ((placesL 0 (m.take j)).flatMap intL.cells) ∧ wr.ownsRow wz.heap.size 3 1 (.slice (some ⟨pg2, 0, none⟩) qn pc2) qn ((pick (m.take j) (zs.take j)).flatMap intL.cells) ∧ wz.grownBy wr none) (fun _ _ i _ => k - (intOf i).toNat)
            case atStart => exact ⟨0, wz.heap.size, wz.heap.size + 1, 0, 0, 0, by omega, rfl, rfl, rfl, by omega, rfl, by omega, by simpa [placesL] using HA.out, by simpa [pick] using HC.out, Hb0.out⟩
            case round =>
              clear HA HC Hb0
              obtain ⟨j, pg1, pg2, pc1, pc2, qn, hj, rfl, rfl, rfl, hpne, hqn, hqj, hp1, hp2, hgz⟩ := hrel
              have Hqn := hid hqn; clear hqn
              have hpg1B := (hp1.lt pg1 rfl).1
              have hpg2B := (hp2.lt pg2 rfl).1
              have hpg1L := (hp1.lt pg1 rfl).2
              have hpg2L := (hp2.lt pg2 rfl).2
              have Hp1 := hid hp1; clear hp1
              have Hp2 := hid hp2; clear hp2
              have Hpne := hid hpne; clear hpne
              by_cases hjl : j < k
              · obtain ⟨b3, o3, z, e3, hz, cz⟩ := int_at (Ho1.out.sl.keep0 hgz) j hjl
                cases e3
                obtain ⟨b3, o3, f, e3, hf, cf⟩ := bool_at (Ho2.out.sl.keep0 hgz) j hjl
                cases e3
                simp only [Nat.zero_add] at cz cf
                have hmj : m[j]? = some (!f) := by rw [Hmfx.out]; unfold freeL; rw [List.getElem?_map, hf]; rfl
                have e1 : placesL 0 (m.take (j + 1)) = placesL 0 (m.take j) ++ (if (!f) = true then [(j : Int)] else []) := by
                  rw [take_snoc _ _ _ hmj, placesL_snoc, List.length_take, show 0 + min j m.length = j by omega]
                have e2 : pick (m.take (j + 1)) (zs.take (j + 1)) = pick (m.take j) (zs.take j) ++ (if (!f) = true then [z] else []) := by
                  rw [take_snoc _ _ _ hmj, take_snoc _ _ _ hz, pick_snoc _ _ _ _ (by rw [List.length_take, List.length_take]; omega)]
                have e3 : marks (m.take (j + 1)) = marks (m.take j) + (if (!f) = true then 1 else 0) := by rw [take_snoc _ _ _ hmj, marks_snoc]
                have Hgz := hid hgz
                have Hz := hid hz
                have Hmj := hid hmj
                clear hgz hz hf hmj
                have hi3 : (0 : Int) ≤ j := by omega
                have hi2 : (j : Int) < k := by omega
                cases f with
                | true =>
                  simp only [Bool.not_true, Bool.false_eq_true, if_false, List.append_nil, Nat.add_zero] at e1 e2 e3
                  have E1 := hid e1; have E2 := hid e2; have E3 := hid e3
                  clear e1 e2 e3
                  go_wp2_with fail
                  go_roundw
                  case rel => exact ⟨j + 1, pg1, pg2, pc1, pc2, qn, by omega, by go_num, rfl, rfl, Hpne.out, by rw [E3.out]; exact Hqn.out, by omega, by rw [E1.out]; exact Hp1.out, by rw [E2.out]; exact Hp2.out, Hgz.out⟩
                  case measure => simp [intOf]; omega
                | false =>
                  simp only [Bool.not_false, if_true] at e1 e2 e3
                  have E1 := hid e1; have E2 := hid e2; have E3 := hid e3
                  clear e1 e2 e3
                  go_wp2_with (at_builtin; go_must (refine wpList_append_lies _ rfl _ _ _ rfl wz.heap.size 3 i0 _ 1 8 Try.underlying22 hi hz0 hz1 hz2 rfl (by decide) _ _ _ rfl (Hp1.out.alloc _) ⟨wr.heap.size, 0, none⟩ 1 1 [.int .i64 j] rfl rfl (cells_new wr _ _ _ rfl) ?d2 (by decide) ?d3 ?d4 ?d5 _ rfl ?_))
                  case d2 => simp [Value.oneCell']
                  case d3 => unfold maxLen; omega
                  case d4 => omega
                  case d5 => (try simp); omega
                  intro pg1' pc1' w5 ho5 hgo5 hat5 hlt5
                  have hne5 : pg1' ≠ pg2 := by
                    rcases hat5 with h | h
                    · intro e; subst e; exact Hpne.out (by simpa [Value.ownBlock] using h)
                    · omega
                  have ho25 := (Hp2.out.alloc _).kept hgo5 (by right; intro h; exact Hpne.out (by cases h; rfl))
                  have hg5 : wz.grownBy w5 none := gr_own (gr_alloc Hgz.out _) hgo5 (fun g e => by simp [Value.ownBlock] at e; omega)
                  have hsz5 := hgo5.size
                  try simp only [World.size_alloc] at hsz5
                  have hg1B5 := (ho5.lt pg1' rfl)
                  have Ho5 := hid ho5; clear ho5
                  have Ho25 := hid ho25; clear ho25
                  have Hg5 := hid hg5; clear hg5 hgo5 hat5
                  have Hne5 := hid hne5; clear hne5
                  go_wp2_with (at_builtin; go_must (refine wpList_append_lies _ rfl _ _ _ rfl wz.heap.size 3 i0 _ 1 8 Try.underlying22 hi hz0 hz1 hz2 rfl (by decide) _ _ _ rfl (Ho25.out.alloc _) ⟨w5.heap.size, 0, none⟩ 1 1 [.int .i64 z] rfl rfl (cells_new w5 _ _ _ rfl) ?q2 (by decide) ?q3 ?q4 ?q5 _ rfl ?_))
                  case q2 => simp [Value.oneCell']
                  case q3 => unfold maxLen; omega
                  case q4 => omega
                  case q5 => simp; omega
                  intro pg2' pc2' w6 ho6 hgo6 hat6 hlt6
                  have hne6 : pg1' ≠ pg2' := by
                    rcases hat6 with h | h
                    · intro e; subst e; exact Hne5.out (by simpa [Value.ownBlock] using h.symm)
                    · omega
                  have ho16 := (Ho5.out.alloc _).kept hgo6 (by right; intro h; exact Hne5.out (by cases h; rfl))
                  have hg6 : wz.grownBy w6 none := gr_own (gr_alloc Hg5.out _) hgo6 (fun g e => by simp [Value.ownBlock] at e; omega)
                  have Ho6 := hid ho6; clear ho6
                  have Ho16 := hid ho16; clear ho16
                  have Hg6 := hid hg6; clear hg6 hgo6 hat6
                  have Hne6 := hid hne6; clear hne6
                  go_wp2_with fail
                  go_roundw
                  case rel =>
                    refine ⟨j + 1, pg1', pg2', pc1', pc2', qn + 1, by omega, by go_num, rfl, rfl, Hne6.out, by rw [E3.out, Hqn.out], by omega, ?_, ?_, Hg6.out⟩
                    · rw [E1.out, List.flatMap_append]; exact Ho16.out
                    · rw [E2.out, List.flatMap_append]; exact Ho6.out
                  case measure => simp [intOf]; omega
              · obtain rfl : j = k := by omega
                have tm : m.take j = m := List.take_of_length_le (by omega)
                have tz : zs.take j = zs := List.take_of_length_le (by omega)
                have hqn := Hqn.out
                have hp1 := Hp1.out
                have hp2 := Hp2.out
                rw [tm] at hqn hp1
                rw [tm, tz] at hp2
                clear tm tz Hqn Hp1 Hp2
                have Hg2 := hid (gr_trans0 Hg.out hgz)
                have Hgz := hid hgz
                have hszz := hgz.size
                clear hgz
                have Hsw : Hid (Sl intL wr (some ⟨pg2, 0, none⟩) qn (pick m zs)) := hid (Ow.own_ints hp2 (by omega)).sl
                have Hsp : Hid (Sl intL wr (some ⟨pg1, 0, none⟩) qn (placesL 0 m)) := hid (Ow.own_ints hp1 (by omega)).sl
                have Hqn := hid hqn
                have htt := tot_eq (pick m zs) 0 1000 R5.out (by omega) (by omega) (by omega) (by omega) (by rw [Hsw.out.len]; omega)
                have Htt := hid htt
                have hq1 : 1 ≤ qn := by omega
                clear hp1 hp2 htt hqn
                go_wp2_with fail
                refine (total_any _ qn pc2 (pick m zs) wr Hsw.out).mono ?_
                rintro e wt ⟨rfl, rfl⟩
                rw [Htt.out]
                generalize hsu : sumI (pick m zs) = su at *
                have Hsu := hid hsu
                clear hsu
                go_upto_if 96 with fail
                go_cut [11] from 44 to 120 (fun q wx => ∃ wg wc2 : Nat, q = .slice (some ⟨wg, 0, none⟩) qn wc2 ∧ Sl intL wx (some ⟨wg, 0, none⟩) qn (onesIf (pick m zs)) ∧ wt.grownBy wx none)
                case first =>
                  by_cases hs0 : su = 0
                  · have hsb : (su == 0) = true := by simpa using hs0
                    have HF : Hid (onesIf (pick m zs) = List.replicate qn 1) := hid (by unfold onesIf; rw [if_pos (Hsu.out.trans hs0), ← Hsw.out.len])
                    clear hs0
                    go_wp2_with fail
                    refine (RepeatInts_any ⟨wt.heap.size, 0, none⟩ 1 qn (wt.alloc (.cells #[.int .i64 1] 3)) (blk_cell (heap_alloc_new wt _) 0 _ rfl) hq1 (by omega)).mono ?_
                    rintro e w5 ⟨rg, rfl, hor, hgr⟩
                    have Hor := hid hor; clear hor
                    have Hgr := hid (gr_trans0 (gr_alloc (gr0 _) _) hgr); clear hgr
                    go_wp2_with fail
                    go_meet
                    exact ⟨rg, qn, rfl, by rw [HF.out]; exact Hor.out.sl, Hgr.out⟩
                  · have hsb : (su == 0) = false := by simpa using hs0
                    have HF : Hid (onesIf (pick m zs) = pick m zs) := hid (by unfold onesIf; rw [if_neg (by rw [Hsu.out]; exact hs0)])
                    clear hs0
                    go_wp2_with fail
                    go_meet
                    exact ⟨pg2, pc2, rfl, by rw [HF.out]; exact Hsw.out, gr_refl _ _⟩
                case rest =>
                  obtain ⟨wg, wc2, rfl, hsl, hgc⟩ := hcut
                  have Hsl := hid hsl; clear hsl
                  have hszc := hgc.size
                  have Hgc := hid hgc; clear hgc
                  have hpo : proOk ov (onesIf (pick m zs)) = true := by
                    unfold proOk
                    rw [R7.out, (within_iff' ov 0 1000000000).2 ⟨by omega, by omega⟩]
                    have := R8.out
                    simp; omega
                  obtain ⟨q1, q2, q3⟩ := quos_facts ov (onesIf (pick m zs)) R7.out R8.out (by omega) (by omega)
                  have hshl := shares_len ov (onesIf (pick m zs))
                  have hshs := shares_sum ov (onesIf (pick m zs)) q1 (by unfold leftOf; omega)
                  have hshp := shares_pos ov (onesIf (pick m zs)) (by omega) (fun x hx => ((holders_facts _ R7.out).2.2.1 x hx).1) R8.out
                  have Hpr : Hid (proRateF ov (onesIf (pick m zs)) = sharesF ov (onesIf (pick m zs))) := hid (by unfold proRateF; rw [if_pos hpo])
                  have hpart : partsF lim ys gx = sharesF ov (onesIf (pick m zs)) := by unfold partsF; rw [Hov.out, ← Hfx.out, ← Hzs.out, ← Hmfx.out]
                  have hround : roundF lim ys gx = addL zs (expand m (sharesF ov (onesIf (pick m zs)))) := by unfold roundF; rw [hpart, ← Hfx.out, ← Hzs.out, ← Hmfx.out]
                  have Hround := hid hround
                  have hol := R6.out
                  have hshb : ∀ x ∈ sharesF ov (onesIf (pick m zs)), 0 ≤ x ∧ x ≤ 1000 := fun x hx => ⟨hshp x hx, by have := mem_le_sum _ hshp x hx; omega⟩
                  have Hshb := hid hshb
                  have Hshl : Hid ((sharesF ov (onesIf (pick m zs))).length = qn) := hid (by rw [hshl, hol]; exact Hqn.out.symm)
                  clear q1 q2 q3 hshl hshs hshp hpart hround hol hshb hpo
                  go_wp2_with fail
                  refine (ProRate_any ov _ qn wc2 _ wc Hsl.out).mono ?_
                  rintro e w7 ⟨a7, n7, c7, rfl, ho7, hc7, hg7⟩
                  rw [Hpr.out] at ho7
                  generalize hsh : sharesF ov (onesIf (pick m zs)) = sh at *
                  have hn7 : n7 = qn := by rw [← ho7.len]; exact Hshl.out
                  subst hn7
                  have Ho7 := hid ho7
                  have Hsh := hid hsh
                  have Hg7 := hid (gr_trans0 Hgc.out hg7)
                  have hsz7 := hg7.size
                  clear ho7 hsh hg7
                  have Hzg := hid (gr_trans0 Hgz.out Hg7.out)
                  have Hmg := hid (gr_trans0 Hg2.out Hg7.out)
                  have Ho1c := hid (Ho1.out.keep0 Hzg.out)
                  have Ho2c := hid (Ho2.out.keep0 Hzg.out)
                  have Hsp7 := hid (Hsp.out.keep0 Hg7.out)
                  have HgL := HzB.out
                  obtain ⟨hgL1, hgL2⟩ := HgL
                  have hszz2 : wz.heap.size ≤ wt.heap.size := hszz
                  clear Ho1 Ho2 Hsp Hgz Hg2 Hg Hgc Hsl Hsw HzB
                  go_wp2_with fail
                  go_loopw [105] (fun i wr' => ∃ t : Nat, t ≤ n7 ∧ i = .int .i64 t ∧ Ow intL wr' w1.heap.size (some ⟨g1, 0, none⟩) j (addL zs (expand m (sh.take t ++ List.replicate (n7 - t) 0))) ∧ w7.grownBy wr' (some g1)) (fun i _ => n7 - (intOf i).toNat)
                  case atStart => exact ⟨0, by omega, rfl, by simpa [expand_zeros, hmk, addL_zeros _ _ hzk] using Ho1c.out, gr_refl _ _⟩
                  case round =>
                    clear Ho1c
                    obtain ⟨t, ht, rfl, hOt, hgt⟩ := hrel
                    by_cases htl : t < n7
                    · obtain ⟨b3, o3, z, e1, hz, cz⟩ := int_at (Ho7.out.sl.keep hgt (fun h0 b off e1 e2 => by
                        obtain ⟨b', off', e', hb', _⟩ := Ho7.out.mem h0
                        rw [e1] at e'; cases e'; cases e2; omega)) t htl
                      subst e1
                      obtain ⟨b4, o4, p, e2, hp, cp⟩ := int_at (Hsp7.out.keep hgt (fun h0 b off e1 e2 => by cases e1; cases e2; omega)) t htl
                      cases e2
                      have hqm : n7 = marks m := Hqn.out
                      rw [placesL_at 0 _ t (by omega)] at hp
                      obtain rfl := Option.some.inj hp
                      obtain ⟨v, hv, hs1, hs2⟩ := cap_step m zs sh n7 t z (by omega) hqm Hshl.out htl hz
                      have hpos := posOf_lt m t (by omega)
                      rw [hmk] at hpos
                      simp only [Nat.zero_add] at cp
                      have hzb := Hshb.out z (List.mem_of_getElem? hz)
                      have hvb : 0 ≤ v ∧ v ≤ 1000 := by
                        have hv2 := List.mem_of_getElem? hv
                        rw [Hzs.out] at hv2
                        unfold capL at hv2
                        obtain ⟨u, hu, rfl⟩ := List.mem_map.1 hv2
                        have := Hinv2.out.le u hu
                        unfold capX; split <;> omega
                      obtain ⟨b5, o5, v2, e3, hv3, _, _, hf3, hc3⟩ := hOt.at (posOf m t) (by omega)
                      simp only [Option.some.injEq, Addr.mk.injEq, and_true] at e3
                      obtain ⟨rfl, rfl⟩ := e3
                      rw [hs1] at hv3
                      obtain rfl := Option.some.inj hv3
                      have cv : wr.cell? ⟨g1, posOf m t, none⟩ = some (.int .i64 v) := by have := hc3 0 _ rfl; simpa [intL] using this
                      have fv : wr.frozen? ⟨g1, posOf m t, none⟩ = false := hf3 _
                      have Hs1 := hid hs1; have Hs2 := hid hs2
                      have HOt := hid hOt; have Hgt := hid hgt
                      clear hs1 hs2 hOt hgt hc3 hf3 hz hv hqm
                      generalize posOf m t = pj at *
                      have hp3 : (0 : Int) ≤ (pj : Int) := by omega
                      have hp2 : (pj : Int) < j := by omega
                      have ht0 : (0 : Int) ≤ (t : Int) := by omega
                      have ht2 : (t : Int) < n7 := by omega
                      go_wp2_with fail
                      go_roundw
                      case rel =>
                        refine ⟨t + 1, by omega, by go_num, ?_, gr_setCell Hgt.out (.inl rfl) _⟩
                        rw [Hs2.out]
                        exact HOt.out.set pj 0 v (v + z) (.int .i64 (v + z)) Hs1.out (by simp [intL]) rfl pj (by simp [intL])
                      case measure => simp [intOf]; omega
                    · obtain rfl : t = n7 := by omega
                      have hfin := hOt
                      rw [Nat.sub_self, List.replicate_zero, List.append_nil, take_len sh t Hshl.out, ← Hround.out, ] at hfin
                      have HF := hid hfin
                      have Hgt := hid hgt
                      clear hOt hfin hgt
                      have Hb2 : Hid (Ow boolL wr w1.heap.size (some ⟨g2, 0, none⟩) j (fixL lim ys gx)) := hid (by
                        rw [← Hfx.out]; exact Ho2c.out.keep Hgt.out (fun _ b off e1 e2 => by cases e1; cases e2; exact hne rfl))
                      have Hgw : Hid (w1.grownBy wr none) := hid (gr_own Hmg.out Hgt.out (fun g e => by cases e; exact HgB.out.1))
                      go_wp2_with fail
                      go_roundg g'
                      case measure => omega
                      case rel => exact ⟨_, _, R9.out, by have := R10.out; have := Hcnt.out; omega, Hcs, HF.out, Hb2.out, Hgw.out⟩

theorem cap_no (xs : List Int) (lim : Int) (h1 : withinB xs.length 1 8 = true) (h2 : withinB lim 0 1000 = true) (h3 : tot xs = 1000) (h4 : 1000 ≤ lim * xs.length) (h5 : intsIn 0 1000 xs = true) : capOk xs lim = true := by
  have h6 : ∀ x ∈ xs, 0 ≤ x ∧ x ≤ 1000 := by
    unfold intsIn at h5
    simpa only [within_iff', List.all_eq_true] using h5
  have h7 := (within_iff' _ _ _).1 h1
  have h8 := tot_eq xs 0 1000 h6 (by omega) (by omega) (by omega) (by omega) (by omega)
  unfold capOk
  rw [h1, h2, h5, ← h8, h3]
  simpa using h4

set_option maxRecDepth 100000 in
set_option maxHeartbeats 1000000 in
theorem CapWeights_any (a : Option Addr) (n cap : Nat) (xs : List Int) (lim : Int) (w : World) (hs : Sl intL w a n xs) :
    Calls Try.prog 32 #[.slice a n cap, .int .i64 lim] w fun e w' => ∃ a' n' cap', e = .returned (.slice a' n' cap') ∧ Ow intL w' w.heap.size a' n' (capWeightsF xs lim) ∧ n' ≤ cap' ∧ w.grownBy w' none := by
  by_cases hok : capOk xs lim = true
  · refine (CapOk_any a n cap xs lim w hs hok).mono ?_
    rintro e w' ⟨a', cap', rfl, ho, hc, hg⟩
    exact ⟨a', n, cap', rfl, by unfold capWeightsF; rw [if_pos hok]; exact ho, hc, hg⟩
  · have Hfin : Hid (capWeightsF xs lim = []) := hid (by unfold capWeightsF; rw [if_neg hok])
    have hno := cap_no xs lim
    have hl := hs.len
    have hbig := hs.big
    unfold maxLen at hbig
    rw [hl] at hno
    have Hs := hid hs; clear hs
    by_cases h1 : withinB n 1 8 = true
    · have h1b := (within_iff' _ _ _).1 h1
      by_cases h2 : withinB lim 0 1000 = true
      · have h2b := (within_iff' _ _ _).1 h2
        have h5 : lim * (n : Int) ≤ 1000 * n := Int.mul_le_mul_of_nonneg_right h2b.2 (by omega)
        have h6 : 0 ≤ lim * (n : Int) := Int.mul_nonneg h2b.1 (by omega)
        have h7 : lim * (n : Int) ≤ 8000 := by omega
        clear h5
        by_cases h3 : tot xs = 1000
        · have H3 := hid h3
          by_cases h4 : 1000 ≤ lim * n
          · have h5 : intsIn 0 1000 xs = false := by
              cases h5 : intsIn 0 1000 xs with
              | false => rfl
              | true => exact absurd (hno h1 h2 h3 h4 h5) hok
            have hlt : decide (lim * (n : Int) < 1000) = false := by simpa using h4
            clear hno hok h3 h4
            go_enter Try.func32, Try.ntmps32
            go_wp2_with fail
            refine (within_any _ _ _ _).mono ?_
            rintro e w1 ⟨rfl, rfl⟩
            rw [h1]
            go_wp2_with fail
            refine (within_any _ _ _ _).mono ?_
            rintro e w1 ⟨rfl, rfl⟩
            rw [h2]
            go_wp2_with fail
            refine (total_any _ n cap xs w Hs.out).mono ?_
            rintro e w1 ⟨rfl, rfl⟩
            rw [H3.out]
            go_wp2_with fail
            refine (ContainsFuncIntsCap_any _ n cap xs w1 Hs.out).mono ?_
            rintro e w2 ⟨rfl, rfl⟩
            rw [h5]
            go_wp2_with fail
            go_ret
            exact ⟨none, 0, 0, rfl, by rw [Hfin.out]; exact Ow.nil _ _ _ _, Nat.le_refl _, gr_refl _ _⟩
          · have hlt : decide (lim * (n : Int) < 1000) = true := by simp; omega
            clear hno hok h3 h4
            go_enter Try.func32, Try.ntmps32
            go_wp2_with fail
            refine (within_any _ _ _ _).mono ?_
            rintro e w1 ⟨rfl, rfl⟩
            rw [h1]
            go_wp2_with fail
            refine (within_any _ _ _ _).mono ?_
            rintro e w1 ⟨rfl, rfl⟩
            rw [h2]
            go_wp2_with fail
            refine (total_any _ n cap xs w Hs.out).mono ?_
            rintro e w1 ⟨rfl, rfl⟩
            rw [H3.out]
            go_wp2_with fail
            go_ret
            exact ⟨none, 0, 0, rfl, by rw [Hfin.out]; exact Ow.nil _ _ _ _, Nat.le_refl _, gr_refl _ _⟩
        · have hb : (tot xs != 1000) = true := by simpa using h3
          clear hno hok
          generalize htt : tot xs = tx at *
          have Htt := hid htt; clear htt h3
          go_enter Try.func32, Try.ntmps32
          go_wp2_with fail
          refine (within_any _ _ _ _).mono ?_
          rintro e w1 ⟨rfl, rfl⟩
          rw [h1]
          go_wp2_with fail
          refine (within_any _ _ _ _).mono ?_
          rintro e w1 ⟨rfl, rfl⟩
          rw [h2]
          go_wp2_with fail
          refine (total_any _ n cap xs w Hs.out).mono ?_
          rintro e w1 ⟨rfl, rfl⟩
          rw [Htt.out]
          go_wp2_with fail
          go_ret
          exact ⟨none, 0, 0, rfl, by rw [Hfin.out]; exact Ow.nil _ _ _ _, Nat.le_refl _, gr_refl _ _⟩
      · have h2 : withinB lim 0 1000 = false := by simpa using h2
        clear hno hok
        go_enter Try.func32, Try.ntmps32
        go_wp2_with fail
        refine (within_any _ _ _ _).mono ?_
        rintro e w1 ⟨rfl, rfl⟩
        rw [h1]
        go_wp2_with fail
        refine (within_any _ _ _ _).mono ?_
        rintro e w1 ⟨rfl, rfl⟩
        rw [h2]
        go_wp2_with fail
        go_ret
        exact ⟨none, 0, 0, rfl, by rw [Hfin.out]; exact Ow.nil _ _ _ _, Nat.le_refl _, gr_refl _ _⟩
    · have h1 : withinB n 1 8 = false := by simpa using h1
      clear hno hok
      go_enter Try.func32, Try.ntmps32
      go_wp2_with fail
      refine (within_any _ _ _ _).mono ?_
      rintro e w1 ⟨rfl, rfl⟩
      rw [h1]
      go_wp2_with fail
      go_ret
      exact ⟨none, 0, 0, rfl, by rw [Hfin.out]; exact Ow.nil _ _ _ _, Nat.le_refl _, gr_refl _ _⟩

end Go.Proofs.Ytecboohippbliaa
