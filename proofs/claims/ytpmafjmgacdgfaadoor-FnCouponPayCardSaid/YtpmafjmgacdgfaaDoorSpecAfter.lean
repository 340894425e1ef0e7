/- The reference's FlowsOf, FlowsAfter and NextFlow; the laws' equalFlows. -/
import Derived.Test.YtpmafjmgacdgfaaDoorRows
import Derived.Test.YtpmafjmgacdgfaaDoorBase
import Derived.Test.YtpmafjmgacdgfaaDoorSpecFlow
namespace Go.Proofs.YtpmafjmgacdgfaaDoor
open Go.RowKit

set_option maxHeartbeats 400000 in
theorem specFlowsOf_any (b : Bond) (w : World)  :
    Calls Tryd.prog 77 #[.agg #[.int .i64 b.start, .int .i64 b.stop, .int .i64 b.months, .int .i64 b.rate]] w fun e' w' => ∃ a n cap, e' = .returned (.slice a n cap) ∧ Ow flowL w' w.heap.size a n (flowsF b) ∧ n ≤ cap ∧ w.grownBy w' none := by
  have hg0 : w.grownBy (w.alloc (.cells #[.int .i64 b.start, .int .i64 b.stop, .int .i64 b.months, .int .i64 b.rate] 25)) none := gr_alloc (gr0 _) _
  have Hb0 := hid (heap_alloc_new w (.cells #[.int .i64 b.start, .int .i64 b.stop, .int .i64 b.months, .int .i64 b.rate] 25))
  have HG := hid hg0
  have HV := hid (specvalidBond_any b (w.alloc (.cells #[.int .i64 b.start, .int .i64 b.stop, .int .i64 b.months, .int .i64 b.rate] 25)))
  cases h : bondB b with
  | false =>
    rw [flowsF_no h]
    rw [h] at HV
    clear h hg0
    go_enter Tryd.func77, Tryd.ntmps77
    go_wp2_with fail
    refine HV.out.mono ?_
    rintro e' w1 ⟨rfl, hg⟩
    have Hg := hid (gr_trans0 HG.out hg)
    clear hg
    go_wp2_with fail
    go_ret
    exact ⟨none, 0, 0, rfl, Ow.nil _ _ _ _, Nat.le_refl _, Hg.out⟩
  | true =>
    rw [flowsF_ok h]
    have HF := hid (fun wx  => specflows_any b wx  (ok_bond h))
    rw [h] at HV
    clear h hg0
    go_enter Tryd.func77, Tryd.ntmps77
    go_wp2_with fail
    refine HV.out.mono ?_
    rintro e' w1 ⟨rfl, hg⟩
    have Hg := hid (gr_trans0 HG.out hg)
    have hb1 := blk_keep Hb0.out hg (by simp)
    have c0 := blk_cell hb1 0 _ rfl
    have c1 := blk_cell hb1 1 _ rfl
    have c2 := blk_cell hb1 2 _ rfl
    have c3 := blk_cell hb1 3 _ rfl
    clear hb1 hg
    go_wp2_with fail
    refine (HF.out _ ).mono ?_
    rintro e' w2 ⟨a, n, cap, rfl, ho, hc, hg⟩
    have Hg2 := hid (gr_trans0 Hg.out hg)
    have Ho := hid (ho.mono (gr_le Hg.out))
    clear hg ho
    go_wp2_with fail
    go_ret
    exact ⟨a, n, cap, rfl, Ho.out, hc, Hg2.out⟩


set_option maxRecDepth 100000 in
set_option maxHeartbeats 2000000 in
theorem specFlowsAfter_any (b : Bond) (day : Int) (w : World) :
    Calls Tryd.prog 28 #[.agg #[.int .i64 b.start, .int .i64 b.stop, .int .i64 b.months, .int .i64 b.rate], .int .i64 day] w fun e' w' => ∃ a n cap, e' = .returned (.slice a n cap) ∧ Ow flowL w' w.heap.size a n (afterF b day) ∧ n ≤ cap ∧ w.grownBy w' none := by
  obtain ⟨i0, hi, hz0, hz1, hz2⟩ := infoPtsX infoFlowX
  have hg0 : w.grownBy (w.alloc (.cells #[.int .i64 b.start, .int .i64 b.stop, .int .i64 b.months, .int .i64 b.rate] 25)) none := gr_alloc (gr0 _) _
  have Hb0 := hid (heap_alloc_new w (.cells #[.int .i64 b.start, .int .i64 b.stop, .int .i64 b.months, .int .i64 b.rate] 25))
  have HG := hid hg0
  have hA : ((w.alloc (.cells #[.int .i64 b.start, .int .i64 b.stop, .int .i64 b.months, .int .i64 b.rate] 25)).alloc (.cells #[] 42)).ownsRow (w.heap.size + 1) 42 2 (.slice (some ⟨w.heap.size + 1, 0, none⟩) 0 0) 0 (([] : List Flow).flatMap flowL.cells) := by
    have := World.ownsRow_made (base := w.heap.size + 1) (size := 2) (e := 42) (w.alloc (.cells #[.int .i64 b.start, .int .i64 b.stop, .int .i64 b.months, .int .i64 b.rate] 25)) #[] 0 (by simp) (by decide) rfl
    simpa using this
  have HA := hid hA
  have Hb0 := hid (blk_alloc Hb0.out (.cells #[] 42))
  have HG := hid (gr_alloc HG.out (.cells #[] 42))
  have HV := hid (specvalidBond_any b ((w.alloc (.cells #[.int .i64 b.start, .int .i64 b.stop, .int .i64 b.months, .int .i64 b.rate] 25)).alloc (.cells #[] 42)))
  clear hg0 hA
  cases h : bondB b with
  | false =>
    rw [afterF_no h]
    rw [h] at HV
    clear h
    go_enter Tryd.func28, Tryd.ntmps28
    go_wp2_with fail
    refine HV.out.mono ?_
    rintro e' w1 ⟨rfl, hg⟩
    have Hg := hid (gr_trans0 HG.out hg)
    clear hg
    go_wp2_with fail
    go_ret
    exact ⟨none, 0, 0, rfl, Ow.nil _ _ _ _, Nat.le_refl _, Hg.out⟩
  | true =>
    have Hfin := hid (show afterF b day = (flowsL b).filter fun f => decide (day < f.day) by unfold afterF; rw [flowsF_ok h])
    have hok := ok_bond h
    have HF := hid (fun wx => specflows_any b wx hok)
    have Hl40 : Hid ((flowsL b).length ≤ 40) := hid (by rw [flows_len]; have := hok.span.q2; unfold persF; rw [sched_len]; exact this)
    rw [h] at HV
    clear h hok
    go_enter Tryd.func28, Tryd.ntmps28
    go_wp2_with fail
    refine HV.out.mono ?_
    rintro e' w1 ⟨rfl, hg⟩
    have Hg1 := hid (gr_trans0 HG.out hg)
    have HA1 := hid (own_keep0 HA.out hg)
    have hb1 := blk_keep Hb0.out hg (by simp)
    have c0 := blk_cell hb1 0 _ rfl
    have c1 := blk_cell hb1 1 _ rfl
    have c2 := blk_cell hb1 2 _ rfl
    have c3 := blk_cell hb1 3 _ rfl
    clear hb1 hg
    go_wp2_with fail
    refine (HF.out _).mono ?_
    rintro e' w2 ⟨la, n, lc, rfl, ho, hc, hg⟩
    have hn40 : n ≤ 40 := by have := ho.len; have := Hl40.out; omega
    have hgw1 := gr_le Hg1.out
    have hwl : w.heap.size + 1 < w1.heap.size := (HA1.out.lt _ rfl).2
    have HS := hid (show Sl flowL w2 la n (flowsL b) ∧ (0 < n → ∀ b off, la = some ⟨b, off, none⟩ → b ≠ w.heap.size + 1) from ⟨ho.sl, fun h0 b off e => by
      obtain ⟨b2, o2, e2, hge, _⟩ := ho.mem h0
      rw [e] at e2; cases e2
      omega⟩)
    have HA2 := hid (own_keep0 HA1.out hg)
    have Hg2 := hid (gr_trans0 Hg1.out hg)
    clear ho hc hg c0 c1 c2 c3
    generalize hL : flowsL b = L at *
    have HL := hid hL
    clear hL
    go_wp2_with fail
    go_loopw [5, 7] (fun o i wr => ∃ k j g gc : Nat, k ≤ n ∧ j ≤ k ∧ i = .int .i64 k ∧ o = .slice (some ⟨g, 0, none⟩) j gc ∧ Hid (((L.take k).filter fun f => decide (day < f.day)).length = j) ∧ wr.ownsRow (w.heap.size + 1) 42 2 (.slice (some ⟨g, 0, none⟩) j gc) j (((L.take k).filter fun f => decide (day < f.day)).flatMap flowL.cells) ∧ Hid (Sl flowL wr la n L ∧ (0 < n → ∀ b off, la = some ⟨b, off, none⟩ → b ≠ g)) ∧ w.grownBy wr none) (fun _ i _ => n - (intOf i).toNat)
    case atStart => exact ⟨0, 0, w.heap.size + 1, 0, by omega, by omega, rfl, rfl, hid rfl, by simpa using HA2.out, HS, Hg2.out⟩
    case round =>
      clear HA2 HA1 HA HS Hg1 Hg2 HG Hb0 HF HV
      obtain ⟨k, j, g, gc, hk, hj, rfl, rfl, Hl, hrow, HS, hgr⟩ := hrel
      have Hrow := hid hrow
      have Hgr := hid hgr
      clear hrow hgr
      by_cases hlt : k < n
      · obtain ⟨lb, lo, f, rfl, hf, l0, l1⟩ := flow_at HS.out.1 k hlt
        have Hf := hid hf
        have hi0 : (0 : Int) ≤ k := by omega
        have hi1 : (k : Int) < n := by omega
        clear hf
        by_cases hd : day < f.day
        · have Ht := hid (after_take (b := b) day L k f Hf.out)
          rw [if_pos hd] at Ht
          have hgl := (Hrow.out.lt g rfl).2
          have hge := (Hrow.out.lt g rfl).1
          have hlb := (block_lt l0)
          go_wp2_with (at_builtin; go_must (refine wpList_append_lies _ rfl _ _ _ rfl (w.heap.size + 1) 42 i0 _ 2 16 Tryd.underlying36 hi hz0 hz1 hz2 rfl (by decide) _ _ _ rfl (Hrow.out.alloc _) ⟨wr.heap.size, 0, none⟩ 1 1 [.int .i64 f.day, .int .i64 f.amount] rfl rfl (cells_new wr _ _ _ rfl) ?d2 (by decide) ?d3 ?d4 ?d5 _ rfl ?_))
          case d2 => simp [Value.oneCell']
          case d3 => unfold maxLen; omega
          case d4 => omega
          case d5 => have := Hgr.out.size; simp; omega
          intro g' gc' w9 hown9 hgo9 hat9 hlt9
          have hg9 : w.grownBy w9 none := gr_own (gr_alloc Hgr.out _) hgo9 (fun x e => by simp [Value.ownBlock] at e; omega)
          have hS9 : Sl flowL w9 (some ⟨lb, lo, none⟩) n L := (HS.out.1.keep0 (gr_alloc (gr0 _) _)).keep hgo9 (fun h0 b off e er => by
            simp [Value.ownBlock] at er
            exact HS.out.2 h0 b off e er.symm)
          have HS9 := hid (show Sl flowL w9 (some ⟨lb, lo, none⟩) n L ∧ (0 < n → ∀ b off, some ⟨lb, lo, none⟩ = some (⟨b, off, none⟩ : Addr) → b ≠ g') from ⟨hS9, fun h0 b off e => by
            cases e
            rcases hat9 with h9 | h9
            · simp [Value.ownBlock] at h9
              rw [← h9]; exact HS.out.2 h0 lb lo rfl
            · (try simp at h9); omega⟩)
          have Hf9 := hid hown9
          have Hg9 := hid hg9
          clear hown9 hgo9 hat9 hlt9 hg9 hS9 l0 l1
          go_wp2_with fail
          go_roundw
          case rel =>
            refine ⟨k + 1, j + 1, g', gc', by omega, by omega, by go_num, rfl, hid (by rw [Ht.out, List.length_append, Hl.out]; rfl), ?_, HS9, Hg9.out⟩
            rw [Ht.out, List.flatMap_append]
            exact Hf9.out
          case measure => simp [intOf]; omega
        · have Ht := hid (after_take (b := b) day L k f Hf.out)
          rw [if_neg hd, List.append_nil] at Ht
          go_wp2_with fail
          go_roundw
          case rel => exact ⟨k + 1, j, g, gc, by omega, by omega, by go_num, rfl, hid (by rw [Ht.out]; exact Hl.out), by rw [Ht.out]; exact Hrow.out, HS, Hgr.out⟩
          case measure => simp [intOf]; omega
      · obtain rfl : k = n := by omega
        have hLk := take_len L k HS.out.1.len
        rw [hLk, ← Hfin.out] at Hrow Hl
        obtain ⟨how, hgc⟩ := own_ow Hrow.out (by omega) Hl.out
        have How := hid how
        clear how hLk
        go_wp2_with fail
        go_ret
        exact ⟨_, _, _, rfl, How.out.mono (by omega), hgc, Hgr.out⟩

set_option maxHeartbeats 1000000 in
theorem specNextFlow_any (b : Bond) (day : Int) (w : World) :
    Calls Tryd.prog 33 #[.agg #[.int .i64 b.start, .int .i64 b.stop, .int .i64 b.months, .int .i64 b.rate], .int .i64 day] w fun e' w' => e' = .returned (.tuple #[.agg #[.int .i64 (nextF b day).1.day, .int .i64 (nextF b day).1.amount], .bool (nextF b day).2]) ∧ w.grownBy w' none := by
  have hg0 : w.grownBy (w.alloc (.cells #[.int .i64 b.start, .int .i64 b.stop, .int .i64 b.months, .int .i64 b.rate] 25)) none := gr_alloc (gr0 _) _
  have Hb0 := hid (heap_alloc_new w (.cells #[.int .i64 b.start, .int .i64 b.stop, .int .i64 b.months, .int .i64 b.rate] 25))
  have HG := hid hg0
  have hg00 : w.grownBy ((w.alloc (.cells #[.int .i64 b.start, .int .i64 b.stop, .int .i64 b.months, .int .i64 b.rate] 25)).alloc (.cells #[.int .i64 0, .int .i64 0] 42)) none := gr_alloc hg0 _
  have HF := hid (specFlowsAfter_any b day ((w.alloc (.cells #[.int .i64 b.start, .int .i64 b.stop, .int .i64 b.months, .int .i64 b.rate] 25)).alloc (.cells #[.int .i64 0, .int .i64 0] 42)))
  have Hz := heap_alloc_new (w.alloc (.cells #[.int .i64 b.start, .int .i64 b.stop, .int .i64 b.months, .int .i64 b.rate] 25)) (.cells #[.int .i64 0, .int .i64 0] 42)
  rw [World.size_alloc] at Hz
  have Hz0 := hid Hz
  have HG0 := hid hg00
  clear hg0 hg00 Hz
  cases hnx : (afterF b day)[0]? with
  | none =>
    have he : afterF b day = [] := by
      cases hL : afterF b day with
      | nil => rfl
      | cons x xs => rw [hL] at hnx; cases hnx
    rw [next_no hnx]
    rw [he] at HF
    clear he hnx
    go_enter Tryd.func33, Tryd.ntmps33
    go_wp2_with fail
    refine HF.out.mono ?_
    rintro e' w1 ⟨la, n, lc, rfl, ho, hc, hg⟩
    obtain rfl : n = 0 := by have := ho.len; simpa using this.symm
    have Hg1 := hid (gr_trans0 HG0.out hg)
    have hb1 := blk_keep Hz0.out hg (by simp)
    have f0 := blk_cell hb1 0 _ rfl
    have f1 := blk_cell hb1 1 _ rfl
    have k0 := blk_frozen hb1 0
    have k1 := blk_frozen hb1 1
    clear hb1 hg
    clear ho hc
    go_wp2_with fail
    refine bodyPost_ret (v := .tuple #[.agg #[.int .i64 0, .int .i64 0], .bool false]) (by simp [results, Tryd.results33, go_sem, *]) rfl ⟨rfl, ?_⟩
    exact gr_setCell (p := ⟨w.heap.size + 1, 1, none⟩) (gr_setCell (p := ⟨w.heap.size + 1, 0, none⟩) Hg1.out (.inr (Nat.le_succ _)) _) (.inr (Nat.le_succ _)) _
  | some f =>
    rw [next_yes hnx]
    have Hnx := hid hnx
    clear hnx
    generalize hL : afterF b day = L at *
    have HL := hid hL
    clear hL
    go_enter Tryd.func33, Tryd.ntmps33
    go_wp2_with fail
    refine HF.out.mono ?_
    rintro e' w1 ⟨la, n, lc, rfl, ho, hc, hg⟩
    have hn0 : 0 < n := by have := ho.len; have := lt_of_at Hnx.out; omega
    have hnm := ho.big
    unfold maxLen at hnm
    obtain ⟨lb, lo, f2, rfl, hf, l0, l1⟩ := flow_at ho.sl 0 hn0
    rw [Hnx.out] at hf
    obtain rfl := Option.some.inj hf
    simp only [Nat.zero_mul, Nat.add_zero] at l0 l1
    have Hg1 := hid (gr_trans0 HG0.out hg)
    have hb1 := blk_keep Hz0.out hg (by simp)
    have f0 := blk_cell hb1 0 _ rfl
    have f1 := blk_cell hb1 1 _ rfl
    have k0 := blk_frozen hb1 0
    have k1 := blk_frozen hb1 1
    clear hb1 hg
    clear ho hc hf
    have hi1 : (0 : Int) < n := by omega
    have hnz : ((n : Int) == 0) = false := by simp; omega
    go_wp2_with fail
    refine bodyPost_ret (v := .tuple #[.agg #[.int .i64 f.day, .int .i64 f.amount], .bool true]) (by simp [results, Tryd.results33, go_sem, *]) rfl ⟨rfl, ?_⟩
    exact gr_setCell (p := ⟨w.heap.size + 1, 1, none⟩) (gr_setCell (p := ⟨w.heap.size + 1, 0, none⟩) Hg1.out (.inr (Nat.le_succ _)) _) (.inr (Nat.le_succ _)) _

set_option maxRecDepth 100000 in
set_option maxHeartbeats 1000000 in
theorem equalFlows_any (a a2 : Option Addr) (n n2 cap cap2 : Nat) (xs ys : List Flow) (w : World) (hs : Sl flowL w a n xs) (ht : Sl flowL w a2 n2 ys) (hn : n ≤ 1000) (hn2 : n2 ≤ 1000) :
    Calls Tryd.prog 27 #[.slice a n cap, .slice a2 n2 cap2] w fun e w' => e = .returned (.bool (decide (xs = ys))) ∧ w.grownBy w' none := by
  have Hs := hid hs; clear hs
  have Ht := hid ht; clear ht
  by_cases hne : n = n2
  · subst hne
    have hee : ((n : Int) != n) = false := by simp
    go_enter Tryd.func27, Tryd.ntmps27
    go_wp2_with fail
    go_loopw [5] (fun i wr => ∃ k : Nat, k ≤ n ∧ i = .int .i64 k ∧ Hid (xs.take k = ys.take k) ∧ w.grownBy wr none) (fun i _ => n - (intOf i).toNat)
    case atStart => exact ⟨0, by omega, rfl, hid (by simp), gr_refl _ _⟩
    case round =>
      obtain ⟨k, hk, rfl, Hall, hg⟩ := hrel
      by_cases hlt : k < n
      · obtain ⟨b, off, x, rfl, hxk, h0, h1⟩ := flow_at (Hs.out.keep0 hg) k hlt
        obtain ⟨b2, off2, y, rfl, hyk, g0, g1⟩ := flow_at (Ht.out.keep0 hg) k hlt
        have Hxk := hid hxk; clear hxk
        have Hyk := hid hyk; clear hyk
        have Hg := hid hg; clear hg
        have hi0 : (0 : Int) ≤ k := by omega
        have hi1 : (k : Int) < n := by omega
        by_cases hxy : x = y
        · have Hxy := hid hxy
          subst hxy
          go_wp2_with fail
          go_quiet (fail)
          go_wp2_with fail
          go_roundw
          case rel => exact ⟨k + 1, by omega, by go_num, hid (by rw [take_snoc _ _ _ Hxk.out, take_snoc _ _ _ Hyk.out, Hall.out]), gr_drewN Hg.out _⟩
          case measure => simp [intOf]; omega
        · have Hfin := hid (decide_eq_false (take_ne xs ys k x y Hxk.out Hyk.out hxy))
          obtain ⟨x0, x1⟩ := x
          obtain ⟨y0, y1⟩ := y
          simp only at h0 h1 g0 g1
          by_cases hx0 : x0 = y0
          · subst hx0
            have hx1 : (x1 == y1) = false := by simpa using hxy
            have hx2 : ¬ x1 = y1 := by simpa using hxy
            clear hxy
            go_wp2_with fail
            go_quiet (fail)
            go_wp2_with fail
            go_ret
            exact ⟨ret_bool Hfin.out.symm, gr_drewN Hg.out _⟩
          · have hx1 : (x0 == y0) = false := by simpa using hx0
            clear hxy
            go_wp2_with fail
            go_quiet (fail)
            go_wp2_with fail
            go_ret
            exact ⟨ret_bool Hfin.out.symm, gr_drewN Hg.out _⟩
      · have Hg := hid hg; clear hg
        have Hfin : Hid (decide (xs = ys) = true) := by
          obtain rfl : k = n := by omega
          exact hid (decide_eq_true (list_eq_take xs ys k Hs.out.len Ht.out.len Hall.out))
        go_wp2_with fail
        go_ret
        exact ⟨ret_bool Hfin.out.symm, Hg.out⟩
  · have hb : ((n : Int) != n2) = true := by simp; omega
    have Hfin : Hid (decide (xs = ys) = false) := by
      refine hid (decide_eq_false ?_)
      rintro rfl
      exact hne (Hs.out.len.symm.trans Ht.out.len)
    go_enter Tryd.func27, Tryd.ntmps27
    go_wp2_with fail
    go_ret
    exact ⟨ret_bool Hfin.out.symm, gr_refl _ _⟩
end Go.Proofs.YtpmafjmgacdgfaaDoor
