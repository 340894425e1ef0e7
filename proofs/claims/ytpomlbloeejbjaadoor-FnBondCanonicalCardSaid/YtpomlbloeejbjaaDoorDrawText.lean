/- The generators of dates and texts: they end; what they draw is bounded. -/
import Derived.Test.YtpomlbloeejbjaaDoorRows
import Derived.Test.YtpomlbloeejbjaaDoorBase
import Derived.Test.YtpomlbloeejbjaaDoorDrawDay
import Derived.Test.YtpomlbloeejbjaaDoorTextWalk
import Derived.Test.YtpomlbloeejbjaaDoorTexts
import Derived.Laws.Strings3
import Derived.Deep.RegionHeld
namespace Go.Proofs.YtpomlbloeejbjaaDoor
open Go.RowKit

theorem someDay_any (rb m : Nat) (w : World) (h : Rdr 72 w rb m) (hm : m ≤ 1000000) :
    Calls Tryd.prog 54 #[.pointer (some ⟨rb, 0, none⟩)] w fun e w' => ∃ d : Int, e = .returned (.int .i64 d) ∧ (0 ≤ d ∧ d ≤ 36524) ∧ Rdr 72 w' rb (m + 2) ∧ w.grownBy w' (some rb) := by
  have hlt := h.lt
  go_enter Tryd.func54, Tryd.ntmps54
  go_wp2_with fail
  refine (pick_any rb m 8 _ h (by omega)).mono ?_
  rintro e w1 ⟨t, rfl, ht0, ht1, h1, hg⟩
  have Hg1 := hid hg
  clear hg ht1
  by_cases t0 : t = 0
  · subst t0
    go_wp2_with fail
    refine (one_lit rb _ [0, 36524, 58, 59, 789, 790, 3711, 3712] _ _ _ rfl rfl (by simp) (by simp) _ _ rfl h1 (by omega)).mono ?_
    rintro e w2 ⟨x, rfl, hx, h2, hg⟩
    have hxb : 0 ≤ x ∧ x ≤ 36524 := by simp at hx; omega
    have Hg2 := hid (gr_transS Hg1.out hg)
    clear hg hx
    go_wp2_with fail
    go_ret
    exact ⟨x, rfl, hxb, h2, Hg2.out⟩
  by_cases t1 : t = 1
  · subst t1
    go_wp2_with fail
    refine (pick_any rb _ 256 _ h1 (by omega)).mono ?_
    rintro e w2 ⟨x, rfl, hx0, hx1, h2, hg⟩
    have hxb : x < 256 := by omega
    have Hg2 := hid (gr_transS Hg1.out hg)
    clear hg hx1
    go_wp2_with fail
    go_ret
    exact ⟨x * 142, rfl, by omega, h2, Hg2.out⟩
  have p0 : (t == 0) = false := by simpa using t0
  have p1 : (t == 1) = false := by simpa using t1
  clear t0 t1 ht0
  go_wp2_with fail
  refine (pick_any rb _ 250 _ h1 (by omega)).mono ?_
  rintro e w2 ⟨x, rfl, hx0, hx1, h2, hg⟩
  have hxb : x < 250 := by omega
  have Hg2 := hid (gr_transS Hg1.out hg)
  clear hg hx1
  go_wp2_with fail
  go_ret
  exact ⟨9000 + x * 13, rfl, by omega, h2, Hg2.out⟩

set_option maxRecDepth 100000 in
set_option maxHeartbeats 1000000 in
theorem anyDate_any (rb m : Nat) (w : World) (h : Rdr 72 w rb m) (hm : m ≤ 100000) :
    Calls Tryd.prog 28 #[.pointer (some ⟨rb, 0, none⟩)] w fun e w' => ∃ y mo d : Int, e = .returned (.agg #[.int .i64 y, .int .i64 mo, .int .i64 d]) ∧ (1989 ≤ y ∧ y ≤ 2090) ∧ (0 ≤ mo ∧ mo ≤ 13) ∧ (0 ≤ d ∧ d ≤ 32) ∧ Rdr 72 w' rb (m + 4) ∧ w.grownBy w' (some rb) := by
  have hlt := h.lt
  go_enter Tryd.func28, Tryd.ntmps28
  go_wp2_with fail
  refine (someDay_any rb m _ (h.keep0 (gr_alloc (gr_refl _ _) _)) (by omega)).mono ?_
  rintro e w0 ⟨n, rfl, ⟨n0, n1⟩, h0, hg⟩
  have Hg0 := hid (gr_transS (gr_alloc (gr_refl _ _) _) hg)
  have Hb0 := hid (blk_keep (heap_alloc_new w (.cells #[.int .i64 0, .int .i64 0, .int .i64 0] 24)) hg (by simp; omega))
  have hlt0 := h0.lt
  clear hg h
  go_wp2_with fail
  refine (specdateOf_any n _ n0 n1).mono ?_
  rintro e w1 ⟨rfl, hg⟩
  have hb := ymd_bd (date_valid n n0 n1)
  obtain ⟨⟨y0, y1⟩, ⟨m0, m1⟩, d0, d1⟩ := hb
  generalize yF n = Y at *
  generalize mF n = M at *
  generalize dF n = D0 at *
  have Hg1 := hid (gr_trans0 Hg0.out hg)
  have Hb1 := hid (blk_keep Hb0.out hg (by simp))
  have h1 := h0.keep0 hg
  have hDw : w.heap.size < w1.heap.size := blk_lt Hb1.out
  have hlt1 := h1.lt
  clear hg h0 Hg0 Hb0
  go_wp2_with fail
  refine (pick_any rb _ 16 _ (h1.keep0 (gr_alloc (gr_refl _ _) _)) (by omega)).mono ?_
  rintro e w2 ⟨t, rfl, ht0, ht1, h2, hg⟩
  have Hg2 := hid (gr_transS (gr_alloc Hg1.out _) hg)
  have Hb2 := hid (blk_keep (blk_alloc Hb1.out _) hg (by simp; omega))
  have Hd2 := hid (blk_keep (heap_alloc_new w1 (.cells #[.int .i64 Y, .int .i64 M, .int .i64 D0] 24)) hg (by simp; omega))
  clear hg h1 Hb1 Hg1 ht1
  generalize w1.heap.size = D at *
  have n1 : ¬ D = w.heap.size := by omega
  have hDle : w.heap.size ≤ D := by omega
  have n2 : ¬ w.heap.size = D := by omega
  by_cases t0 : t = 0
  · subst t0
    go_wp2_with fail
    refine (one_lit rb _ [0, 29, 30, 31, 32] _ _ _ rfl rfl (by simp) (by simp) _ _ rfl h2 (by omega)).mono ?_
    rintro e w3 ⟨x, rfl, hx, h3, hg3⟩
    have hxb : 0 ≤ x ∧ x ≤ 32 := by simp at hx; omega
    obtain ⟨x0, x1⟩ := hxb
    have HgF := hid (gr_transS Hg2.out hg3)
    have HB := hid (blk_keep Hb2.out hg3 (by simp; omega))
    have HD := hid (blk_keep Hd2.out hg3 (by simp; omega))
    have HR := hid (h3.mono (show _ ≤ m + 4 by omega))
    clear hg3 h3 hx h2
    have e0 := blk_cell HD.out 0 _ rfl
    have e1 := blk_cell HD.out 1 _ rfl
    have e2 := blk_cell HD.out 2 _ rfl
    have f0 := blk_cell HB.out 0 _ rfl
    have f1 := blk_cell HB.out 1 _ rfl
    have f2 := blk_cell HB.out 2 _ rfl
    have k0 := blk_frozen HB.out 0
    have k1 := blk_frozen HB.out 1
    have k2 := blk_frozen HB.out 2
    have j0 := blk_frozen HD.out 0
    have j1 := blk_frozen HD.out 1
    have j2 := blk_frozen HD.out 2
    go_wp2_with fail
    refine bodyPost_ret (v := .agg #[.int .i64 Y, .int .i64 M, .int .i64 x]) (by simp [results, Tryd.results28, go_sem, *]) rfl ⟨Y, M, x, rfl, by omega, by omega, by omega, ?_, ?_⟩
    · exact (((HR.out.setCell hlt1 _).setCell hlt _).setCell hlt _).setCell hlt _
    · exact gr_setCell (gr_setCell (gr_setCell (gr_setCell HgF.out (.inr hDle) _) (.inr (Nat.le_refl _)) _) (.inr (Nat.le_refl _)) _) (.inr (Nat.le_refl _)) _
  by_cases t1 : t = 1
  · subst t1
    go_wp2_with fail
    refine (one_lit rb _ [0, 2, 13] _ _ _ rfl rfl (by simp) (by simp) _ _ rfl h2 (by omega)).mono ?_
    rintro e w3 ⟨x, rfl, hx, h3, hg3⟩
    have hxb : 0 ≤ x ∧ x ≤ 13 := by simp at hx; omega
    obtain ⟨x0, x1⟩ := hxb
    have HgF := hid (gr_transS Hg2.out hg3)
    have HB := hid (blk_keep Hb2.out hg3 (by simp; omega))
    have HD := hid (blk_keep Hd2.out hg3 (by simp; omega))
    have HR := hid (h3.mono (show _ ≤ m + 4 by omega))
    clear hg3 h3 hx h2
    have e0 := blk_cell HD.out 0 _ rfl
    have e1 := blk_cell HD.out 1 _ rfl
    have e2 := blk_cell HD.out 2 _ rfl
    have f0 := blk_cell HB.out 0 _ rfl
    have f1 := blk_cell HB.out 1 _ rfl
    have f2 := blk_cell HB.out 2 _ rfl
    have k0 := blk_frozen HB.out 0
    have k1 := blk_frozen HB.out 1
    have k2 := blk_frozen HB.out 2
    have j0 := blk_frozen HD.out 0
    have j1 := blk_frozen HD.out 1
    have j2 := blk_frozen HD.out 2
    go_wp2_with fail
    refine bodyPost_ret (v := .agg #[.int .i64 Y, .int .i64 x, .int .i64 D0]) (by simp [results, Tryd.results28, go_sem, *]) rfl ⟨Y, x, D0, rfl, by omega, by omega, by omega, ?_, ?_⟩
    · exact (((HR.out.setCell hlt1 _).setCell hlt _).setCell hlt _).setCell hlt _
    · exact gr_setCell (gr_setCell (gr_setCell (gr_setCell HgF.out (.inr hDle) _) (.inr (Nat.le_refl _)) _) (.inr (Nat.le_refl _)) _) (.inr (Nat.le_refl _)) _
  by_cases t2 : t = 2
  · subst t2
    go_wp2_with fail
    refine (one_lit rb _ [1989, 2090, 1990, 2089] _ _ _ rfl rfl (by simp) (by simp) _ _ rfl h2 (by omega)).mono ?_
    rintro e w3 ⟨x, rfl, hx, h3, hg3⟩
    have hxb : 1989 ≤ x ∧ x ≤ 2090 := by simp at hx; omega
    obtain ⟨x0, x1⟩ := hxb
    have HgF := hid (gr_transS Hg2.out hg3)
    have HB := hid (blk_keep Hb2.out hg3 (by simp; omega))
    have HD := hid (blk_keep Hd2.out hg3 (by simp; omega))
    have HR := hid (h3.mono (show _ ≤ m + 4 by omega))
    clear hg3 h3 hx h2
    have e0 := blk_cell HD.out 0 _ rfl
    have e1 := blk_cell HD.out 1 _ rfl
    have e2 := blk_cell HD.out 2 _ rfl
    have f0 := blk_cell HB.out 0 _ rfl
    have f1 := blk_cell HB.out 1 _ rfl
    have f2 := blk_cell HB.out 2 _ rfl
    have k0 := blk_frozen HB.out 0
    have k1 := blk_frozen HB.out 1
    have k2 := blk_frozen HB.out 2
    have j0 := blk_frozen HD.out 0
    have j1 := blk_frozen HD.out 1
    have j2 := blk_frozen HD.out 2
    go_wp2_with fail
    refine bodyPost_ret (v := .agg #[.int .i64 x, .int .i64 M, .int .i64 D0]) (by simp [results, Tryd.results28, go_sem, *]) rfl ⟨x, M, D0, rfl, by omega, by omega, by omega, ?_, ?_⟩
    · exact (((HR.out.setCell hlt1 _).setCell hlt _).setCell hlt _).setCell hlt _
    · exact gr_setCell (gr_setCell (gr_setCell (gr_setCell HgF.out (.inr hDle) _) (.inr (Nat.le_refl _)) _) (.inr (Nat.le_refl _)) _) (.inr (Nat.le_refl _)) _
  have p0 : (t == 0) = false := by simpa using t0
  have p1 : (t == 1) = false := by simpa using t1
  have p2 : (t == 2) = false := by simpa using t2
  have HgF := Hg2
  have HB := Hb2
  have HD := Hd2
  have HR := hid (h2.mono (show _ ≤ m + 4 by omega))
  clear h2 Hb2 Hd2 Hg2 t0 t1 t2
  have e0 := blk_cell HD.out 0 _ rfl
  have e1 := blk_cell HD.out 1 _ rfl
  have e2 := blk_cell HD.out 2 _ rfl
  have f0 := blk_cell HB.out 0 _ rfl
  have f1 := blk_cell HB.out 1 _ rfl
  have f2 := blk_cell HB.out 2 _ rfl
  have k0 := blk_frozen HB.out 0
  have k1 := blk_frozen HB.out 1
  have k2 := blk_frozen HB.out 2
  have j0 := blk_frozen HD.out 0
  have j1 := blk_frozen HD.out 1
  have j2 := blk_frozen HD.out 2
  go_wp2_with fail
  refine bodyPost_ret (v := .agg #[.int .i64 Y, .int .i64 M, .int .i64 D0]) (by simp [results, Tryd.results28, go_sem, *]) rfl ⟨Y, M, D0, rfl, by omega, by omega, by omega, ?_, ?_⟩
  · exact ((HR.out.setCell hlt _).setCell hlt _).setCell hlt _
  · exact gr_setCell (gr_setCell (gr_setCell HgF.out (.inr (Nat.le_refl _)) _) (.inr (Nat.le_refl _)) _) (.inr (Nat.le_refl _)) _

/- Lists of texts that are written out. -/
theorem of_lit (rb m : Nat) (xs : List (List UInt8)) (cs : Array Value) (e n : Nat) (hcs : cs = (xs.map (fun x => .string ⟨(x).toArray⟩)).toArray) (hn : xs.length = n) (h0 : 0 < n) (hbig : n ≤ 100) (w : World) (N : Nat) (hN : w.heap.size = N) (h : Rdr 72 w rb m) (hm : m ≤ 1000000000) :
    Calls Tryd.prog 63 #[.pointer (some ⟨rb, 0, none⟩), .slice (some ⟨N, 0, none⟩) n n] (w.alloc (.cells cs e)) fun e w' => ∃ x, e = .returned (.string ⟨(x).toArray⟩) ∧ x ∈ xs ∧ Rdr 72 w' rb (m + 1) ∧ w.grownBy w' (some rb) := by
  have hlt := h.lt
  have hg0 : w.grownBy (w.alloc (.cells cs e)) none := gr_alloc (gr0 _) _
  have h1 := h.keep0 hg0
  have hb := heap_alloc_new w (.cells cs e)
  rw [hN] at hb hlt
  have Hg0 := hid hg0
  have Hb := hid hb
  have Hcs := hid hcs
  clear hg0 hb hcs h hN
  generalize (w.alloc (.cells cs e)) = W at *
  go_enter Tryd.func63, Tryd.ntmps63
  go_wp2_with fail
  refine (pick_any rb m n W h1 hm).mono ?_
  rintro e9 w1 ⟨k, rfl, hk0, hk1, h2, hg⟩
  have hk : k < n := by omega
  clear hk1
  obtain ⟨k, rfl⟩ := Int.eq_ofNat_of_zero_le hk0
  have hkl : k < xs.length := by omega
  have Hx := hid (List.getElem?_eq_getElem hkl)
  generalize xs[k] = x at *
  have c0 : w1.cell? ⟨N, 0 + k, none⟩ = some (.string ⟨(x).toArray⟩) := blk_cell (blk_keep Hb.out hg (by simp; omega)) _ _ (by rw [Hcs.out, Nat.zero_add, List.getElem?_toArray, List.getElem?_map, Hx.out]; rfl)
  have c1 : w1.cell? ⟨N, k, none⟩ = some (.string ⟨(x).toArray⟩) := by rw [Nat.zero_add] at c0; exact c0
  have Hg := hid (gr_trans (gr_any Hg0.out _) hg (fun g e => .inl e)); clear hg
  have H2 := hid h2; clear h2 c0
  go_wp2
  go_ret
  exact ⟨x, rfl, List.mem_of_getElem? Hx.out, H2.out, Hg.out⟩


theorem str_take (w : World) (t : TypeId) (l : List UInt8) (k : Nat) (h : k ≤ l.length) (ht : Tryd.prog.underlying t = some .string) : (Instr.slice t (.string ⟨(l).toArray⟩) none (some (.int .i64 (k : Int))) none).run Tryd.prog w = .ok (.string ⟨(l.take k).toArray⟩) w := by
  rw [run_slice_string_to_if w t _ _ _ ht, if_pos ⟨by omega, by show (k : Int) ≤ ((l.toArray.size : Nat) : Int); rw [List.size_toArray]; omega⟩, ByteArray.extract_mk]
  simp
theorem str_drop (w : World) (t : TypeId) (l : List UInt8) (k : Nat) (z : Int) (hz : z = (k : Int)) (h : k ≤ l.length) (ht : Tryd.prog.underlying t = some .string) : (Instr.slice t (.string ⟨(l).toArray⟩) (some (.int .i64 z)) none none).run Tryd.prog w = .ok (.string ⟨(l.drop k).toArray⟩) w := by
  subst hz
  rw [run_slice_string_from_if w t _ _ _ ht, if_pos ⟨by omega, by show (k : Int) ≤ ((l.toArray.size : Nat) : Int); rw [List.size_toArray]; omega⟩, ByteArray.extract_mk]
  have : ByteArray.size ⟨l.toArray⟩ = l.length := by show l.toArray.size = _; rw [List.size_toArray]
  simp only [Int.toNat_natCast]
  rw [this, List.take_of_length_le (by rw [List.length_drop]; omega)]

set_option maxRecDepth 100000 in
set_option maxHeartbeats 1000000 in
theorem mutate_any (rb m : Nat) (l : List UInt8) (w : World) (h : Rdr 72 w rb m) (hm : m ≤ 100000) (hl : l.length ≤ 1000) :
    Calls Tryd.prog 39 #[.pointer (some ⟨rb, 0, none⟩), .string ⟨(l).toArray⟩] w fun e w' => ∃ t : List UInt8, e = .returned (.string ⟨(t).toArray⟩) ∧ t.length ≤ l.length + 2 ∧ Rdr 72 w' rb (m + 3) ∧ w.grownBy w' (some rb) := by
  go_enter Tryd.func39, Tryd.ntmps39
  go_wp2_with fail
  refine (pick_any rb m _ _ h (by omega)).mono ?_
  rintro e w1 ⟨k, rfl, hk0, hk1, h1, hg⟩
  have Hg1 := hid hg
  obtain ⟨k, rfl⟩ := Int.eq_ofNat_of_zero_le hk0
  have hk : k ≤ l.length := by omega
  clear hg hk0 hk1 h
  go_wp2_with fail
  refine (pick_any rb _ 5 _ h1 (by omega)).mono ?_
  rintro e w2 ⟨t, rfl, ht0, ht1, h2, hg⟩
  have Hg2 := hid (gr_transS Hg1.out hg)
  clear hg ht1 h1
  have hT := fun w => str_take w 9 l k hk Tryd.underlying9
  by_cases t0 : t = 0
  · subst t0
    by_cases hkl : k < l.length
    · have hd : decide (k < l.length) = true := by simpa using hkl
      have hD := fun w => str_drop w 9 l (k + 1) ((k : Int) + 1) (by push_cast; rfl) hkl Tryd.underlying9
      clear ht0
      go_wp2_with fail
      refine wp_region_held_drew (S := fun w' => Rdr 72 w' rb (m + 3) ∧ w.grownBy w' (some rb)) (by kernel_rfl) ⟨(h2.keep0 (gr_drew (gr0 _))).mono (by omega), gr_drew Hg2.out⟩ (fun hHeld => ?_)
      have u1 : IntKind.i64.wrap ((k : Int) + 1) = (k : Int) + 1 := IntWalk.i64_in _ (by omega)
      refine wpAnyH_take (i := 0) (v := ?_) rfl (by kernel_rfl) (by kernel_rfl) (by kernel_rfl) (fun _ _ _ h => h) (Or.inl ⟨by rfl, ?_⟩) hHeld ?_
      rotate_left
      · intro w9 hSw
        clear hSw
        go_simp
        all_goals (try with_reducible rfl)
      (try simp only [Act.put]); (try simp only [List.getElem_toArray]); (try simp only [List.getElem_cons_succ]); (try simp only [List.getElem_cons_zero]); (try simp only [List.setIfInBounds_toArray]); (try simp only [List.set_cons_succ]); (try simp only [List.set_cons_zero])
      refine wpAnyH_take (i := 1) (v := ?_) rfl (by kernel_rfl) (by kernel_rfl) (by kernel_rfl) (fun _ _ _ h => h) (Or.inl ⟨by rfl, ?_⟩) hHeld ?_
      rotate_left
      · intro w9 hSw
        clear hSw
        go_simp
        all_goals (try with_reducible rfl)
      (try simp only [Act.put]); (try simp only [List.getElem_toArray]); (try simp only [List.getElem_cons_succ]); (try simp only [List.getElem_cons_zero]); (try simp only [List.setIfInBounds_toArray]); (try simp only [List.set_cons_succ]); (try simp only [List.set_cons_zero])
      refine wpAnyH_take (i := 2) (v := ?_) rfl (by kernel_rfl) (by kernel_rfl) (by kernel_rfl) (fun _ _ _ h => h) (Or.inl ⟨by rfl, ?_⟩) hHeld ?_
      rotate_left
      · intro w9 hSw
        clear hSw
        go_simp
        all_goals (try with_reducible rfl)
      (try simp only [Act.put]); (try simp only [List.getElem_toArray]); (try simp only [List.getElem_cons_succ]); (try simp only [List.getElem_cons_zero]); (try simp only [List.setIfInBounds_toArray]); (try simp only [List.set_cons_succ]); (try simp only [List.set_cons_zero])
      refine wpAnyH_take (i := 3) (v := ?_) rfl (by kernel_rfl) (by kernel_rfl) (by kernel_rfl) (fun _ _ _ h => h) (Or.inl ⟨by rfl, ?_⟩) hHeld ?_
      rotate_left
      · intro w9 hSw
        clear hSw
        go_simp
        all_goals (try with_reducible rfl)
      (try simp only [Act.put]); (try simp only [List.getElem_toArray]); (try simp only [List.getElem_cons_succ]); (try simp only [List.getElem_cons_zero]); (try simp only [List.setIfInBounds_toArray]); (try simp only [List.set_cons_succ]); (try simp only [List.set_cons_zero])
      refine wpAnyH_take (i := 7) (v := ?_) rfl (by kernel_rfl) (by kernel_rfl) (by kernel_rfl) (fun _ _ _ h => h) (Or.inl ⟨by rfl, ?_⟩) hHeld ?_
      rotate_left
      · intro w9 hSw
        clear hSw
        go_simp
        all_goals (try with_reducible rfl)
      (try simp only [Act.put]); (try simp only [List.getElem_toArray]); (try simp only [List.getElem_cons_succ]); (try simp only [List.getElem_cons_zero]); (try simp only [List.setIfInBounds_toArray]); (try simp only [List.set_cons_succ]); (try simp only [List.set_cons_zero])
      refine wpAnyH_take (i := 8) (v := ?_) rfl (by kernel_rfl) (by kernel_rfl) (by kernel_rfl) (fun _ _ _ h => h) (Or.inl ⟨by rfl, ?_⟩) hHeld ?_
      rotate_left
      · intro w9 hSw
        clear hSw
        go_simp
        all_goals (try with_reducible rfl)
      (try simp only [Act.put]); (try simp only [List.getElem_toArray]); (try simp only [List.getElem_cons_succ]); (try simp only [List.getElem_cons_zero]); (try simp only [List.setIfInBounds_toArray]); (try simp only [List.set_cons_succ]); (try simp only [List.set_cons_zero])
      (try simp only [u1])
      refine wpAnyH_take (i := 9) (v := ?_) rfl (by kernel_rfl) (by kernel_rfl) (by kernel_rfl) (fun _ _ _ h => h) (Or.inl ⟨by rfl, ?_⟩) hHeld ?_
      rotate_left
      · intro w9 hSw
        clear hSw
        go_simp
        all_goals (try with_reducible rfl)
      (try simp only [Act.put]); (try simp only [List.getElem_toArray]); (try simp only [List.getElem_cons_succ]); (try simp only [List.getElem_cons_zero]); (try simp only [List.setIfInBounds_toArray]); (try simp only [List.set_cons_succ]); (try simp only [List.set_cons_zero])
      refine wpAnyH_take (i := 10) (v := ?_) rfl (by kernel_rfl) (by kernel_rfl) (by kernel_rfl) (fun _ _ _ h => h) (Or.inl ⟨by rfl, ?_⟩) hHeld ?_
      rotate_left
      · intro w9 hSw
        clear hSw
        go_simp
        all_goals (try with_reducible rfl)
      (try simp only [Act.put]); (try simp only [List.getElem_toArray]); (try simp only [List.getElem_cons_succ]); (try simp only [List.getElem_cons_zero]); (try simp only [List.setIfInBounds_toArray]); (try simp only [List.set_cons_succ]); (try simp only [List.set_cons_zero])
      clear hT hD
      generalize hA : l.take k = A
      generalize hB : l.drop (k + 1) = B
      have hAl : A.length ≤ k := by rw [← hA, List.length_take]; omega
      have hBl : B.length + (k + 1) ≤ l.length := by rw [← hB, List.length_drop]; omega
      clear hA hB
      refine wpAnyH_ready (rs := [4]) (by kernel_rfl) (by simp) ?_
      refine AllReadyH.cons rfl (fun K' hK' => ?_) AllReadyH.nil
      go_simp
      refine hK'.out _ _ ⟨hHeld.1.keep0 (gr_alloc (gr0 _) _), gr_alloc hHeld.2 _⟩ (fun hHeldN => ?_)
      clear hHeld hK' K'
      (try simp only [Act.put]); (try simp only [List.getElem_toArray]); (try simp only [List.getElem_cons_succ]); (try simp only [List.getElem_cons_zero]); (try simp only [List.setIfInBounds_toArray]); (try simp only [List.set_cons_succ]); (try simp only [List.set_cons_zero])
      refine wpAnyH_ready (rs := [5]) (by kernel_rfl) (by simp) ?_
      refine AllReadyH.cons rfl (fun K' hK' => ?_) AllReadyH.nil
      go_simp
      refine (of_lit rb _ [[48], [49], [32], [45], [43], [97], [46], [57]] _ _ _ rfl rfl (by simp) (by simp) _ _ rfl (h2.keep0 (gr_drew (gr0 _))) (by omega)).mono ?_
      rintro e w3 ⟨x, rfl, hx, h3, hg⟩
      have hxl : x.length ≤ 1 := by simp at hx; rcases hx with rfl | rfl | rfl | rfl | rfl | rfl | rfl | rfl <;> simp
      (try simp only [])
      refine hK'.out _ _ ⟨h3.mono (by omega), gr_transS (gr_drew Hg2.out) hg⟩ (fun hHeld => ?_)
      clear hHeldN hK' K' hx hg h3 h2
      (try simp only [Act.put]); (try simp only [List.getElem_toArray]); (try simp only [List.getElem_cons_succ]); (try simp only [List.getElem_cons_zero]); (try simp only [List.setIfInBounds_toArray]); (try simp only [List.set_cons_succ]); (try simp only [List.set_cons_zero])
      have a1 : ∀ w, (Op.stringOp .add ⟨A.toArray⟩ ⟨x.toArray⟩).run Tryd.prog w = .ok (.string ⟨(A ++ x).toArray⟩) w := fun w => add_lists A x (by omega) (by omega) w
      have a2 : ∀ w, (Op.stringOp .add ⟨(A ++ x).toArray⟩ ⟨B.toArray⟩).run Tryd.prog w = .ok (.string ⟨(A ++ x ++ B).toArray⟩) w := fun w => add_lists (A ++ x) B (by rw [List.length_append]; omega) (by omega) w
      have hfl : (A ++ x ++ B).length ≤ l.length + 2 := by rw [List.length_append, List.length_append]; omega
      generalize A ++ x ++ B = C at *
      generalize A ++ x = D at *
      refine wpAnyH_take (i := 6) (v := ?_) rfl (by kernel_rfl) (by kernel_rfl) (by kernel_rfl) (fun _ _ _ h => h) (Or.inl ⟨by rfl, ?_⟩) hHeld ?_
      rotate_left
      · intro w9 hSw
        clear hSw
        go_simp
        all_goals (try with_reducible rfl)
      (try simp only [Act.put]); (try simp only [List.getElem_toArray]); (try simp only [List.getElem_cons_succ]); (try simp only [List.getElem_cons_zero]); (try simp only [List.setIfInBounds_toArray]); (try simp only [List.set_cons_succ]); (try simp only [List.set_cons_zero])
      refine wpAnyH_take (i := 11) (v := ?_) rfl (by kernel_rfl) (by kernel_rfl) (by kernel_rfl) (fun _ _ _ h => h) (Or.inl ⟨by rfl, ?_⟩) hHeld ?_
      rotate_left
      · intro w9 hSw
        clear hSw
        go_simp
        all_goals (try with_reducible rfl)
      (try simp only [Act.put]); (try simp only [List.getElem_toArray]); (try simp only [List.getElem_cons_succ]); (try simp only [List.getElem_cons_zero]); (try simp only [List.setIfInBounds_toArray]); (try simp only [List.set_cons_succ]); (try simp only [List.set_cons_zero])
      refine wpAnyH_take (i := 12) (v := ?_) rfl (by kernel_rfl) (by kernel_rfl) (by kernel_rfl) (fun _ _ _ h => h) (Or.inl ⟨by rfl, ?_⟩) hHeld ?_
      rotate_left
      · intro w9 hSw
        clear hSw
        go_simp
        all_goals (try with_reducible rfl)
      (try simp only [Act.put]); (try simp only [List.getElem_toArray]); (try simp only [List.getElem_cons_succ]); (try simp only [List.getElem_cons_zero]); (try simp only [List.setIfInBounds_toArray]); (try simp only [List.set_cons_succ]); (try simp only [List.set_cons_zero])
      refine wpAnyH_done (by kernel_rfl) ?_ _
      have HR := hid hHeld.1
      have HG := hid hHeld.2
      clear hHeld a1 a2
      go_wp2_with fail
      go_ret
      exact ⟨C, rfl, hfl, HR.out, HG.out⟩
    · have hd : decide (k < l.length) = false := by simpa using hkl
      clear hT hk ht0
      go_wp2_with fail
      go_ret
      exact ⟨l, rfl, by omega, h2.mono (by omega), Hg2.out⟩
  by_cases t1 : t = 1
  · subst t1
    go_wp2_with fail
    go_ret
    exact ⟨l.take k, rfl, by rw [List.length_take]; omega, h2.mono (by omega), Hg2.out⟩
  by_cases t2 : t = 2
  · subst t2
    clear hT
    go_wp2_with fail
    refine (of_lit rb _ [[48], [32], [45], [32, 54], [120], [50]] _ _ _ rfl rfl (by simp) (by simp) _ _ rfl h2 (by omega)).mono ?_
    rintro e w3 ⟨x, rfl, hx, h3, hg⟩
    have hxl : x.length ≤ 2 := by simp at hx; rcases hx with rfl | rfl | rfl | rfl | rfl | rfl <;> simp
    have Hg3 := hid (gr_transS Hg2.out hg)
    have hadd : ∀ w, (Op.stringOp .add ⟨l.toArray⟩ ⟨x.toArray⟩).run Tryd.prog w = .ok (.string ⟨(l ++ x).toArray⟩) w := fun w => add_lists l x (by omega) (by omega) w
    clear hg hx
    go_wp2_with fail
    go_ret
    exact ⟨l ++ x, rfl, by rw [List.length_append]; omega, h3, Hg3.out⟩
  have p0 : (t == 0) = false := by simpa using t0
  have p1 : (t == 1) = false := by simpa using t1
  have p2 : (t == 2) = false := by simpa using t2
  clear t0 t1 t2 hT ht0
  go_wp2_with fail
  go_ret
  exact ⟨l, rfl, by omega, h2.mono (by omega), Hg2.out⟩


set_option maxHeartbeats 400000 in
theorem DrawFormatDate_any (a : Option Addr) (n cap : Nat) (xs : List Int) (w : World) (hs : Sl u8L w a n xs) (hcap : n ≤ cap) (hx : ∀ x ∈ xs, 0 ≤ x ∧ x ≤ 255) :
    Calls Tryd.prog 10 #[.slice a n cap] w fun e w' => ∃ y mo d : Int, e = .returned (.agg #[.int .i64 y, .int .i64 mo, .int .i64 d]) ∧ (1989 ≤ y ∧ y ≤ 2090) ∧ (0 ≤ mo ∧ mo ≤ 13) ∧ (0 ≤ d ∧ d ≤ 32) ∧ w.grownBy w' none := by
  have hs2 := hs.keep0 (gr_alloc (gr0 w) (Obj.cells #[.int .i64 0, .int .i64 0, .int .i64 0] 24))
  clear hs
  go_enter Tryd.func10, Tryd.ntmps10
  go_wp2_with fail
  refine (newReader_any a n cap xs _ hs2 hcap hx).mono ?_
  rintro e w1 ⟨rb, rfl, hrb, h1, hg⟩
  have hz1 := blk_keep (heap_alloc_new w (Obj.cells #[.int .i64 0, .int .i64 0, .int .i64 0] 24)) hg (by simp)
  have Hg1 := hid (gr_trans0 (gr_alloc (gr0 w) _) hg)
  have hrb2 : w.heap.size < rb := by simp at hrb; omega
  clear hg hs2 hrb hx
  go_wp2_with fail
  refine (anyDate_any rb _ _ h1 (by omega)).mono ?_
  rintro e w2 ⟨y, mo, d, rfl, hy, hmo, hd, h2, hg⟩
  have hz2 := blk_keep hz1 hg (by simp; omega)
  have Hg2 := hid (gr_own Hg1.out hg (fun k e => by cases e; omega))
  clear hg h1 h2 hz1
  have z0 := blk_cell hz2 0 _ rfl
  have z1 := blk_cell hz2 1 _ rfl
  have z2 := blk_cell hz2 2 _ rfl
  have g0 := blk_frozen hz2 0
  have g1 := blk_frozen hz2 1
  have g2 := blk_frozen hz2 2
  clear hz2
  go_wp2_with fail
  refine bodyPost_ret (v := .agg #[.int .i64 y, .int .i64 mo, .int .i64 d]) (by simp [results, Tryd.results10, go_sem, *]) rfl ⟨y, mo, d, rfl, hy, hmo, hd, ?_⟩
  repeat (first | exact Hg2.out | refine gr_setCell ?_ (.inr (Nat.le_refl _)) _)
set_option maxHeartbeats 400000 in
theorem DrawFormatBond_any (a : Option Addr) (n cap : Nat) (xs : List Int) (w : World) (hs : Sl u8L w a n xs) (hcap : n ≤ cap) (hx : ∀ x ∈ xs, 0 ≤ x ∧ x ≤ 255) :
    Calls Tryd.prog 22 #[.slice a n cap] w fun e w' => ∃ b : Bond, e = .returned (.agg #[.int .i64 b.start, .int .i64 b.stop, .int .i64 b.months, .int .i64 b.rate]) ∧ BdB b ∧ w.grownBy w' none := by
  have hs2 := hs.keep0 (gr_alloc (gr0 w) (Obj.cells #[.int .i64 0, .int .i64 0, .int .i64 0, .int .i64 0] 37))
  clear hs
  go_enter Tryd.func22, Tryd.ntmps22
  go_wp2_with fail
  refine (newReader_any a n cap xs _ hs2 hcap hx).mono ?_
  rintro e w1 ⟨rb, rfl, hrb, h1, hg⟩
  have hz1 := blk_keep (heap_alloc_new w (Obj.cells #[.int .i64 0, .int .i64 0, .int .i64 0, .int .i64 0] 37)) hg (by simp)
  have Hg1 := hid (gr_trans0 (gr_alloc (gr0 w) _) hg)
  have hrb2 : w.heap.size < rb := by simp at hrb; omega
  clear hg hs2 hrb hx
  go_wp2_with fail
  refine (anyBond_any rb _ _ h1 (by omega)).mono ?_
  rintro e w2 ⟨b, rfl, hB, h2, hg⟩
  have hz2 := blk_keep hz1 hg (by simp; omega)
  have Hg2 := hid (gr_own Hg1.out hg (fun k e => by cases e; omega))
  clear hg h1 h2 hz1
  have z0 := blk_cell hz2 0 _ rfl
  have z1 := blk_cell hz2 1 _ rfl
  have z2 := blk_cell hz2 2 _ rfl
  have z3 := blk_cell hz2 3 _ rfl
  have g0 := blk_frozen hz2 0
  have g1 := blk_frozen hz2 1
  have g2 := blk_frozen hz2 2
  have g3 := blk_frozen hz2 3
  clear hz2
  go_wp2_with fail
  refine bodyPost_ret (v := .agg #[.int .i64 b.start, .int .i64 b.stop, .int .i64 b.months, .int .i64 b.rate]) (by simp [results, Tryd.results22, go_sem, *]) rfl ⟨b, rfl, hB, ?_⟩
  repeat (first | exact Hg2.out | refine gr_setCell ?_ (.inr (Nat.le_refl _)) _)
theorem fmtDate_len (y m d : Int) : (fmtDate y m d).length ≤ 100 := by
  unfold fmtDate
  split
  · rename_i h; rw [dateT_len ((dateB_iff _ _ _).1 h)]; omega
  · simp
set_option maxHeartbeats 400000 in
theorem DrawParseDate_any (a : Option Addr) (n cap : Nat) (xs : List Int) (w : World) (hs : Sl u8L w a n xs) (hcap : n ≤ cap) (hx : ∀ x ∈ xs, 0 ≤ x ∧ x ≤ 255) :
    Calls Tryd.prog 16 #[.slice a n cap] w fun e w' => ∃ t : List UInt8, e = .returned (.string ⟨(t).toArray⟩) ∧ t.length ≤ 1000 ∧ w.grownBy w' none := by
  go_enter Tryd.func16, Tryd.ntmps16
  go_wp2_with fail
  refine (newReader_any a n cap xs _ hs hcap hx).mono ?_
  rintro e w1 ⟨rb, rfl, hrb, h1, hg⟩
  have Hg1 := hid hg
  clear hg hs hx
  go_wp2_with fail
  refine (anyDate_any rb _ _ h1 (by omega)).mono ?_
  rintro e w2 ⟨y, mo, d, rfl, hy, hmo, hd, h2, hg⟩
  have Hg2 := hid (gr_own Hg1.out hg (fun k e => by cases e; omega))
  clear hg h1
  go_wp2_with fail
  refine (specFormatDate_any y mo d _).mono ?_
  rintro e w3 ⟨rfl, hg⟩
  have Hg3 := hid (gr_trans0 Hg2.out hg)
  have h3 := h2.keep0 hg
  have hlen : (fmtDate y mo d).length ≤ 100 := fmtDate_len y mo d
  generalize fmtDate y mo d = s at *
  clear hg h2
  go_wp2_with fail
  refine (pick_any rb _ 3 _ h3 (by omega)).mono ?_
  rintro e w4 ⟨t, rfl, ht0, _, h4, hg⟩
  have Hg4 := hid (gr_own Hg3.out hg (fun k e => by cases e; omega))
  clear hg h3
  by_cases htz : t = 0
  · subst htz
    go_wp2_with fail
    refine (mutate_any rb _ s _ h4 (by omega) (by omega)).mono ?_
    rintro e w5 ⟨u, rfl, hu, _, hg⟩
    have Hg5 := hid (gr_own Hg4.out hg (fun k e => by cases e; omega))
    clear hg h4
    go_wp2_with fail
    go_ret
    exact ⟨u, rfl, by omega, Hg5.out⟩
  · have htb : (t == 0) = false := by simpa using htz
    clear htz
    go_wp2_with fail
    go_ret
    exact ⟨s, rfl, by omega, Hg4.out⟩


end Go.Proofs.YtpomlbloeejbjaaDoor
