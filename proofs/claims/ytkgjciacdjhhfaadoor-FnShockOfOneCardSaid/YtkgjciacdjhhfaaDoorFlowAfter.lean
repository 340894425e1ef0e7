/- FlowsOf, FlowsAfter and NextFlow of the program. -/
import Derived.Test.YtkgjciacdjhhfaaDoorRows
import Derived.Test.YtkgjciacdjhhfaaDoorBase
import Derived.Test.YtkgjciacdjhhfaaDoorFlowWalk
namespace Go.Proofs.YtkgjciacdjhhfaaDoor
open Go.RowKit

set_option maxHeartbeats 400000 in
theorem FlowsOf_any (b : Bond) (w : World) (hmo : Months w) :
    Calls Tryd.prog 31 #[.agg #[.int .i64 b.start, .int .i64 b.stop, .int .i64 b.months, .int .i64 b.rate]] w fun e' w' => ∃ a n cap, e' = .returned (.slice a n cap) ∧ Ow flowL w' w.heap.size a n (flowsF b) ∧ n ≤ cap ∧ w.grownBy w' none := by
  have hg0 : w.grownBy (w.alloc (.cells #[.int .i64 b.start, .int .i64 b.stop, .int .i64 b.months, .int .i64 b.rate] 27)) none := gr_alloc (gr0 _) _
  have Hb0 := hid (heap_alloc_new w (.cells #[.int .i64 b.start, .int .i64 b.stop, .int .i64 b.months, .int .i64 b.rate] 27))
  have HG := hid hg0
  have HV := hid (ValidBond_any b _ (hmo.keep0 hg0))
  cases h : bondB b with
  | false =>
    rw [flowsF_no h]
    rw [h] at HV
    clear h hg0
    go_enter Tryd.func31, Tryd.ntmps31
    go_wp2_with fail
    refine HV.out.mono ?_
    rintro e' w1 ⟨rfl, hg⟩
    have Hg := hid (gr_trans0 HG.out hg)
    clear hg
    go_wp2_with fail
    go_ret
    exact ⟨none, 0, 0, rfl, Ow.nil _ _ _ _, Nat.le_refl _, Hg.out⟩
  | true =>
    rw [flowsF_ok h]
    have HF := hid (fun wx (hx : Months wx) => flows_any b wx hx (ok_bond h))
    rw [h] at HV
    clear h hg0
    go_enter Tryd.func31, Tryd.ntmps31
    go_wp2_with fail
    refine HV.out.mono ?_
    rintro e' w1 ⟨rfl, hg⟩
    have Hg := hid (gr_trans0 HG.out hg)
    have hb1 := blk_keep Hb0.out hg (by simp)
    have c0 := blk_cell hb1 0 _ rfl
    have c1 := blk_cell hb1 1 _ rfl
    have c2 := blk_cell hb1 2 _ rfl
    have c3 := blk_cell hb1 3 _ rfl
    clear hb1 hg
    go_wp2_with fail
    refine (HF.out _ (hmo.keep0 Hg.out)).mono ?_
    rintro e' w2 ⟨a, n, cap, rfl, ho, hc, hg⟩
    have Hg2 := hid (gr_trans0 Hg.out hg)
    have Ho := hid (ho.mono (gr_le Hg.out))
    clear hg ho
    go_wp2_with fail
    go_ret
    exact ⟨a, n, cap, rfl, Ho.out, hc, Hg2.out⟩


theorem after_take {b : Bond} (day : Int) (L : List Flow) (k : Nat) (f : Flow) (hf : L[k]? = some f) : ((L.take (k + 1)).filter fun f => decide (day < f.day)) = ((L.take k).filter fun f => decide (day < f.day)) ++ (if day < f.day then [f] else []) := by
  rw [take_snoc _ _ _ hf, List.filter_append]
  by_cases h : day < f.day
  · rw [if_pos h, List.filter_cons_of_pos (by simpa using h)]; rfl
  · rw [if_neg h, List.filter_cons_of_neg (by simpa using h)]; rfl

set_option maxRecDepth 100000 in
set_option maxHeartbeats 2000000 in
theorem FlowsAfter_any (b : Bond) (day : Int) (w : World) (hmo : Months w) :
    Calls Tryd.prog 33 #[.agg #[.int .i64 b.start, .int .i64 b.stop, .int .i64 b.months, .int .i64 b.rate], .int .i64 day] w fun e' w' => ∃ a n cap, e' = .returned (.slice a n cap) ∧ Ow flowL w' w.heap.size a n (afterF b day) ∧ n ≤ cap ∧ w.grownBy w' none := by
  obtain ⟨i0, hi, hz0, hz1, hz2⟩ := infoPtsX infoFlowX
  have hg0 : w.grownBy (w.alloc (.cells #[.int .i64 b.start, .int .i64 b.stop, .int .i64 b.months, .int .i64 b.rate] 27)) none := gr_alloc (gr0 _) _
  have Hb0 := hid (heap_alloc_new w (.cells #[.int .i64 b.start, .int .i64 b.stop, .int .i64 b.months, .int .i64 b.rate] 27))
  have HG := hid hg0
  have hA : ((w.alloc (.cells #[.int .i64 b.start, .int .i64 b.stop, .int .i64 b.months, .int .i64 b.rate] 27)).alloc (.cells #[] 45)).ownsRow (w.heap.size + 1) 45 2 (.slice (some ⟨w.heap.size + 1, 0, none⟩) 0 0) 0 (([] : List Flow).flatMap flowL.cells) := by
    have := World.ownsRow_made (base := w.heap.size + 1) (size := 2) (e := 45) (w.alloc (.cells #[.int .i64 b.start, .int .i64 b.stop, .int .i64 b.months, .int .i64 b.rate] 27)) #[] 0 (by simp) (by decide) rfl
    simpa using this
  have HA := hid hA
  have HF := hid (FlowsOf_any b _ (hmo.keep0 (gr_alloc hg0 (.cells #[] 45))))
  have Hfin := hid (show afterF b day = (flowsF b).filter fun f => decide (day < f.day) from rfl)
  have Hl40 : Hid ((flowsF b).length ≤ 40) := hid (by
    unfold flowsF
    split
    · rename_i h; rw [flows_len]; have := (ok_bond h).span.q2; unfold persF; rw [sched_len]; exact this
    · simp)
  clear hg0 hA hmo
  go_enter Tryd.func33, Tryd.ntmps33
  go_wp2_with fail
  refine HF.out.mono ?_
  rintro e' w1 ⟨la, n, lc, rfl, ho, hc, hg⟩
  have Ho := hid ho
  have HA1 := hid (own_keep0 HA.out hg)
  have Hg1 := hid (gr_trans0 (gr_alloc HG.out _) hg)
  have hn40 : n ≤ 40 := by have := ho.len; have := Hl40.out; omega
  clear ho hc hg
  generalize hL : flowsF b = L at *
  have HL := hid hL
  clear hL
  go_wp2_with fail
  have HS := hid (show Sl flowL w1 la n L ∧ (0 < n → ∀ b off, la = some ⟨b, off, none⟩ → b ≠ w.heap.size + 1) from ⟨Ho.out.sl, fun h0 b off e => by
    obtain ⟨b2, o2, e2, hge, _⟩ := Ho.out.mem h0
    rw [e] at e2; cases e2
    simp at hge; omega⟩)
  go_loopw [5, 12] (fun o i wr => ∃ k j g gc : Nat, k ≤ n ∧ j ≤ k ∧ i = .int .i64 k ∧ o = .slice (some ⟨g, 0, none⟩) j gc ∧ Hid (((L.take k).filter fun f => decide (day < f.day)).length = j) ∧ wr.ownsRow (w.heap.size + 1) 45 2 (.slice (some ⟨g, 0, none⟩) j gc) j (((L.take k).filter fun f => decide (day < f.day)).flatMap flowL.cells) ∧ Hid (Sl flowL wr la n L ∧ (0 < n → ∀ b off, la = some ⟨b, off, none⟩ → b ≠ g)) ∧ w.grownBy wr none) (fun _ i _ => n - (intOf i).toNat)
  case atStart => exact ⟨0, 0, w.heap.size + 1, 0, by omega, by omega, rfl, rfl, hid rfl, by simpa using HA1.out, HS, Hg1.out⟩
  case round =>
    clear HA1 HA HS Hg1 Ho HG Hb0 HF
    obtain ⟨k, j, g, gc, hk, hj, rfl, rfl, Hl, hrow, HS, hgr⟩ := hrel
    have Hrow := hid hrow
    have Hgr := hid hgr
    clear hrow hgr
    by_cases hlt : k < n
    · obtain ⟨lb, lo, f, rfl, hf, l0, l1⟩ := flow_at HS.out.1 k hlt
      have Hf := hid hf
      have hi0 : (0 : Int) ≤ k := by omega
      have hi1 : (k : Int) < n := by omega
      clear hf
      by_cases hd : day < f.day
      · have Ht := hid (after_take (b := b) day L k f Hf.out)
        rw [if_pos hd] at Ht
        have hgl := (Hrow.out.lt g rfl).2
        have hge := (Hrow.out.lt g rfl).1
        have hlb := (block_lt l0)
        go_wp2_with (at_builtin; go_must (refine wpList_append_lies _ rfl _ _ _ rfl (w.heap.size + 1) 45 i0 _ 2 16 Tryd.underlying42 hi hz0 hz1 hz2 rfl (by decide) _ _ _ rfl ((Hrow.out.alloc _).alloc _) ⟨wr.heap.size + 1, 0, none⟩ 1 1 [.int .i64 f.day, .int .i64 f.amount] rfl rfl (cells_new (wr.alloc _) _ _ _ (by simp)) ?d2 (by decide) ?d3 ?d4 ?d5 _ rfl ?_))
        case d2 => simp [Value.oneCell']
        case d3 => unfold maxLen; omega
        case d4 => omega
        case d5 => have := Hgr.out.size; simp; omega
        intro g' gc' w9 hown9 hgo9 hat9 hlt9
        have hg9 : w.grownBy w9 none := gr_own (gr_alloc (gr_alloc Hgr.out _) _) hgo9 (fun x e => by simp [Value.ownBlock] at e; omega)
        have hS9 : Sl flowL w9 (some ⟨lb, lo, none⟩) n L := (HS.out.1.keep0 (gr_alloc (gr_alloc (gr0 _) _) _)).keep hgo9 (fun h0 b off e er => by
          simp [Value.ownBlock] at er
          exact HS.out.2 h0 b off e er.symm)
        have HS9 := hid (show Sl flowL w9 (some ⟨lb, lo, none⟩) n L ∧ (0 < n → ∀ b off, some ⟨lb, lo, none⟩ = some (⟨b, off, none⟩ : Addr) → b ≠ g') from ⟨hS9, fun h0 b off e => by
          cases e
          rcases hat9 with h9 | h9
          · simp [Value.ownBlock] at h9
            rw [← h9]; exact HS.out.2 h0 lb lo rfl
          · (try simp at h9); omega⟩)
        have Hf9 := hid hown9
        have Hg9 := hid hg9
        clear hown9 hgo9 hat9 hlt9 hg9 hS9 l0 l1
        go_wp2_with fail
        go_roundw
        case rel =>
          refine ⟨k + 1, j + 1, g', gc', by omega, by omega, by go_num, rfl, hid (by rw [Ht.out, List.length_append, Hl.out]; rfl), ?_, HS9, Hg9.out⟩
          rw [Ht.out, List.flatMap_append]
          exact Hf9.out
        case measure => simp [intOf]; omega
      · have Ht := hid (after_take (b := b) day L k f Hf.out)
        rw [if_neg hd, List.append_nil] at Ht
        have hg9 : w.grownBy (wr.alloc (.cells #[.int .i64 f.day, .int .i64 f.amount] 45)) none := gr_alloc Hgr.out _
        have Hg9 := hid hg9
        have HS9 := hid (And.intro (HS.out.1.keep0 (gr_alloc (gr0 _) (.cells #[.int .i64 f.day, .int .i64 f.amount] 45))) HS.out.2)
        have Hr9 := hid (Hrow.out.alloc (.cells #[.int .i64 f.day, .int .i64 f.amount] 45))
        clear hg9
        go_wp2_with fail
        go_roundw
        case rel => exact ⟨k + 1, j, g, gc, by omega, by omega, by go_num, rfl, hid (by rw [Ht.out]; exact Hl.out), by rw [Ht.out]; exact Hr9.out, HS9, Hg9.out⟩
        case measure => simp [intOf]; omega
    · obtain rfl : k = n := by omega
      have hLk := take_len L k HS.out.1.len
      rw [hLk, ← Hfin.out] at Hrow Hl
      obtain ⟨how, hgc⟩ := own_ow Hrow.out (by omega) Hl.out
      have How := hid how
      clear how hLk
      go_wp2_with fail
      go_ret
      exact ⟨_, _, _, rfl, How.out.mono (by omega), hgc, Hgr.out⟩

def nextF (b : Bond) (day : Int) : Flow × Bool := match (afterF b day)[0]? with
  | some f => (f, true)
  | none => (⟨0, 0⟩, false)
theorem next_yes {b : Bond} {day : Int} {f : Flow} (h : (afterF b day)[0]? = some f) : nextF b day = (f, true) := by unfold nextF; rw [h]
theorem next_no {b : Bond} {day : Int} (h : (afterF b day)[0]? = none) : nextF b day = (⟨0, 0⟩, false) := by unfold nextF; rw [h]

end Go.Proofs.YtkgjciacdjhhfaaDoor
