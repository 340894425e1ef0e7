/- CouponPay of the reference. -/
import Derived.Test.YtpmafjmgacdgfaaDoorRows
import Derived.Test.YtpmafjmgacdgfaaDoorBase
import Derived.Test.YtpmafjmgacdgfaaDoorPay
import Derived.Deep.QuietTactic
import Derived.BigQuiet
namespace Go.Proofs.YtpmafjmgacdgfaaDoor
open Go.RowKit

theorem toIntT (w : World) : Calls Tryd.prog 74 #[.bool true] w fun e w' => e = .returned (.int .i64 1) ∧ w' = w := (toInt_any true w).mono fun _ _ ⟨h1, h2⟩ => ⟨h1, h2.symm⟩
theorem toIntF (w : World) : Calls Tryd.prog 74 #[.bool false] w fun e w' => e = .returned (.int .i64 0) ∧ w' = w := (toInt_any false w).mono fun _ _ ⟨h1, h2⟩ => ⟨h1, h2.symm⟩

set_option maxRecDepth 100000 in
set_option maxHeartbeats 2000000 in
theorem specCouponPay_any (b : Bond) (day : Int) (a : Option Addr) (n cap : Nat) (hs : List Int) (w : World) (hsl : Sl intL w a n hs) :
    Calls Tryd.prog 41 #[.agg #[.int .i64 b.start, .int .i64 b.stop, .int .i64 b.months, .int .i64 b.rate], .slice a n cap, .int .i64 day] w fun e' w' => ∃ a' n' cap', e' = .returned (.slice a' n' cap') ∧ Ow intL w' w.heap.size a' n' (payF b hs day) ∧ n' ≤ cap' ∧ w.grownBy w' none := by
  obtain ⟨i0, hi, hz0, hz1, hz2⟩ := info_parts infoInt
  have hg0 : w.grownBy (w.alloc (.cells #[.int .i64 b.start, .int .i64 b.stop, .int .i64 b.months, .int .i64 b.rate] 25)) none := gr_alloc (gr0 _) _
  have Hb0 := hid (heap_alloc_new w (.cells #[.int .i64 b.start, .int .i64 b.stop, .int .i64 b.months, .int .i64 b.rate] 25))
  have HG := hid hg0
  have Hb0 := hid (blk_alloc Hb0.out (.cells #[] 3))
  have hA : ((w.alloc (.cells #[.int .i64 b.start, .int .i64 b.stop, .int .i64 b.months, .int .i64 b.rate] 25)).alloc (.cells #[] 3)).ownsRow (w.heap.size + 1) 3 1 (.slice (some ⟨w.heap.size + 1, 0, none⟩) 0 0) 0 (([] : List Int).flatMap intL.cells) := by
    have := World.ownsRow_made (base := w.heap.size + 1) (size := 1) (e := 3) (w.alloc (.cells #[.int .i64 b.start, .int .i64 b.stop, .int .i64 b.months, .int .i64 b.rate] 25)) #[] 0 (by simp) (by decide) rfl
    simpa using this
  have HA := hid hA
  have HG := hid (gr_alloc HG.out (.cells #[] 3))
  have HV := hid (specvalidBond_any b ((w.alloc (.cells #[.int .i64 b.start, .int .i64 b.stop, .int .i64 b.months, .int .i64 b.rate] 25)).alloc (.cells #[] 3)))
  have Hsl := hid (hsl.keep0 (gr_alloc hg0 (.cells #[] 3)))
  have Hane := hid (show 0 < n → ∀ b' off, a = some ⟨b', off, none⟩ → b' ≠ w.heap.size + 1 from fun h0 b' off e => by
    obtain ⟨b2, o2, e2, hlt2, _⟩ := hsl.mem h0
    rw [e] at e2; cases e2; omega)
  clear hsl hg0 hA
  cases hb : bondB b with
  | false =>
    have Hno := hid (show payF b hs day = [] by unfold payF payB; rw [hb]; rfl)
    rw [hb] at HV
    clear hb
    go_enter Tryd.func41, Tryd.ntmps41
    go_wp2_with fail
    refine HV.out.mono ?_
    rintro e' w1 ⟨rfl, hg⟩
    have Hg1 := hid (gr_trans0 HG.out hg)
    clear hg
    go_wp2_with fail
    go_ret
    exact ⟨none, 0, 0, rfl, by rw [Hno.out]; exact Ow.nil _ _ _ _, Nat.le_refl _, Hg1.out⟩
  | true =>
    have hok := ok_bond hb
    rw [hb] at HV
    cases hh : holdersOk hs with
    | false =>
      have Hno := hid (show payF b hs day = [] by unfold payF payB; rw [hb, hh]; rfl)
      have Hh := hid hh
      clear hb hh
      go_enter Tryd.func41, Tryd.ntmps41
      go_wp2_with fail
      refine HV.out.mono ?_
      rintro e' w1 ⟨rfl, hg⟩
      have Hg1 := hid (gr_trans0 HG.out hg)
      have Hs1 := hid (Hsl.out.keep0 hg)
      clear hg
      go_wp2_with fail
      refine (validHolders_any a n cap hs _ Hs1.out).mono ?_
      rintro e' w2 ⟨rfl, rfl⟩
      rw [Hh.out]
      go_wp2_with fail
      go_ret
      exact ⟨none, 0, 0, rfl, by rw [Hno.out]; exact Ow.nil _ _ _ _, Nat.le_refl _, Hg1.out⟩
    | true =>
      obtain ⟨hl1, hl8, hbd⟩ := holders_facts hh
      have Hbd := hid hbd
      have HF := hid (fun wx => specflows_any b wx hok)
      have Hyes := hid (show payF b hs day = hs.map (fun h => h * payAmt day (flowsL b)) by unfold payF payB; rw [hb, hh]; rfl)
      have Hab := hid (fun f hf => flows_bd hok f hf)
      have Hamt := hid (payAmt_bd day (flowsL b) (fun i j f g => flows_up hok i j f g) (fun x hx => by have := flows_bd hok x hx; omega))
      have Hpre := hid (fun k => payAmt_bd day ((flowsL b).take k) (fun i j f g hf hg hij => by
        have hi := lt_of_at hf; have hj := lt_of_at hg
        rw [List.length_take] at hi hj
        rw [List.getElem?_take_of_lt (by omega)] at hf hg
        exact flows_up hok i j f g hf hg hij) (fun x hx => by have := flows_bd hok x (List.mem_of_mem_take hx); omega))
      have Hh := hid hh
      have hfl40 : (flowsL b).length ≤ 40 := by rw [flows_len]; have := hok.span.q2; unfold persF; rw [sched_len]; exact this
      have hn1 : 1 ≤ n := by have := Hsl.out.len; omega
      have hn8 : n ≤ 8 := by have := Hsl.out.len; omega
      clear hb hh hok hbd hl1 hl8
      go_enter Tryd.func41, Tryd.ntmps41
      go_wp2_with fail
      refine HV.out.mono ?_
      rintro e' w1 ⟨rfl, hg⟩
      have Hg1 := hid (gr_trans0 HG.out hg)
      have Hs1 := hid (Hsl.out.keep0 hg)
      have HA1 := hid (own_keep0 HA.out hg)
      have hb1 := blk_keep Hb0.out hg (by simp)
      have c0 := blk_cell hb1 0 _ rfl
      have c1 := blk_cell hb1 1 _ rfl
      have c2 := blk_cell hb1 2 _ rfl
      have c3 := blk_cell hb1 3 _ rfl
      clear hg hb1
      go_wp2_with fail
      refine (validHolders_any a n cap hs _ Hs1.out).mono ?_
      rintro e' w2 ⟨rfl, rfl⟩
      rw [Hh.out]
      go_wp2_with fail
      refine (HF.out _).mono ?_
      rintro e' w4 ⟨fa, fn, fc, rfl, ho, _, hg⟩
      have Hg4 := hid (gr_trans0 Hg1.out hg)
      have Hs4 := hid (Hs1.out.keep0 hg)
      have HA4 := hid (own_keep0 HA1.out hg)
      have Hf4 := hid ho.sl
      have hfn : fn ≤ 40 := by have := ho.len; omega
      clear ho hg c0 c1 c2 c3 hfl40
      generalize hFL : flowsL b = FL at *
      have HFL := hid hFL
      clear hFL
      go_wp2_with fail
      go_loopw [8, 10] (fun q i wr => ∃ k : Nat, k ≤ fn ∧ i = .int .i64 k ∧ q = .int .i64 (payAmt day (FL.take k)) ∧ w4.grownBy wr none) (fun _ i _ => fn - (intOf i).toNat)
      case atStart => exact ⟨0, by omega, rfl, rfl, gr0 _⟩
      case round =>
        obtain ⟨k, hk, rfl, rfl, hgr⟩ := hrel
        have Hgr := hid hgr
        clear hgr
        by_cases hlt : k < fn
        · obtain ⟨lb, lo, f, rfl, hf, l0, l1⟩ := flow_at (Hf4.out.keep0 Hgr.out) k hlt
          have Hf := hid hf
          have hfb := Hab.out f (List.mem_of_getElem? hf)
          obtain ⟨fb0, fb1, _, _⟩ := hfb
          obtain ⟨q0, q1⟩ := Hpre.out k
          have ki0 : (0 : Int) ≤ k := by omega
          have ki1 : (k : Int) < fn := by omega
          have Hsn := hid (show payAmt day (FL.take (k + 1)) = payAmt day (FL.take k) + (if f.day = day then f.amount else 0) by rw [take_snoc _ _ _ hf, payAmt_snoc])
          clear hf
          generalize payAmt day (FL.take k) = q at *
          by_cases hday : f.day = day
          · have hdb : (f.day == day) = true := by simpa using hday
            rw [if_pos hday] at Hsn
            have v1 : IntKind.i64.wrap (f.amount * 1) = f.amount := by rw [Int.mul_one]; exact IntWalk.i64_in _ (by omega)
            have v2 : IntKind.i64.wrap f.amount = f.amount := IntWalk.i64_in _ (by omega)
            have v3 : IntKind.i64.wrap (q + f.amount) = q + f.amount := IntWalk.i64_in _ (by omega)
            clear hday
            go_wp2_with fail
            go_quiet ((go_at_call 74; exact Calls.quiet_of_same (toIntT _)))
            clear v1 v2 v3
            go_wp2_with fail
            go_roundw
            case rel => exact ⟨k + 1, by omega, by go_num, by rw [Hsn.out], gr_drewN Hgr.out _⟩
            case measure => simp [intOf]; omega
          · have hdb : (f.day == day) = false := by simpa using hday
            rw [if_neg hday] at Hsn
            have v1 : IntKind.i64.wrap (f.amount * 0) = 0 := by rw [Int.mul_zero]; rfl
            have v2 : IntKind.i64.wrap (q + 0) = q := by rw [Int.add_zero]; exact IntWalk.i64_in _ (by omega)
            have v3 : IntKind.i64.wrap q = q := IntWalk.i64_in _ (by omega)
            clear hday
            go_wp2_with fail
            go_quiet ((go_at_call 74; exact Calls.quiet_of_same (toIntF _)))
            clear v1 v2 v3
            go_wp2_with fail
            go_roundw
            case rel => exact ⟨k + 1, by omega, by go_num, by rw [Hsn.out, Int.add_zero], gr_drewN Hgr.out _⟩
            case measure => simp [intOf]; omega
        · obtain rfl : k = fn := by omega
          rw [take_len FL k Hf4.out.len]
          obtain ⟨am0, am1⟩ := Hamt.out
          generalize payAmt day FL = am at *
          have hge1 : w.heap.size + 1 < w4.heap.size := (HA4.out.lt _ rfl).2
          have HAr := hid (own_keep0 HA4.out Hgr.out)
          have HSr := hid (And.intro (Hs4.out.keep0 Hgr.out) Hane.out)
          have Hgr4 := hid (gr_trans0 Hg4.out Hgr.out)
          clear HA4 HA1 HA Hs4 Hs1 Hsl
          go_wp2_with fail
          go_loopw [7, 11] (fun o i wr => ∃ j g gc : Nat, j ≤ n ∧ i = .int .i64 j ∧ o = .slice (some ⟨g, 0, none⟩) j gc ∧ wr.ownsRow (w.heap.size + 1) 3 1 (.slice (some ⟨g, 0, none⟩) j gc) j ((((hs.map fun h => h * am)).take j).flatMap intL.cells) ∧ Hid (Sl intL wr a n hs ∧ (0 < n → ∀ b' off, a = some ⟨b', off, none⟩ → b' ≠ g)) ∧ w.grownBy wr none) (fun _ i _ => n - (intOf i).toNat)
          case atStart => exact ⟨0, w.heap.size + 1, 0, by omega, rfl, rfl, by simpa using HAr.out, HSr, Hgr4.out⟩
          case round =>
            clear HAr HSr Hgr4
            obtain ⟨j, g, gc, hj, rfl, rfl, hrow, HS, hgq⟩ := hrel
            have Hrow := hid hrow
            have Hgq := hid hgq
            clear hrow hgq
            have hml : (hs.map fun h => h * am).length = n := by rw [List.length_map]; exact HS.out.1.len
            by_cases hlj : j < n
            · obtain ⟨hb, ho2, h, rfl, hhj, m0⟩ := int_at HS.out.1 j hlj
              have hhb := Hbd.out h (List.mem_of_getElem? hhj)
              obtain ⟨hh0, hh1⟩ := hhb
              have hp0 : 0 ≤ h * am := Int.mul_nonneg hh0 am0
              have hp1 : h * am ≤ 9999 * 13000 := Int.le_trans (Int.mul_le_mul_of_nonneg_right hh1 am0) (Int.mul_le_mul_of_nonneg_left am1 (by omega))
              have Ht := hid (take_snoc (hs.map fun h => h * am) j (h * am) (by rw [List.getElem?_map, hhj]; rfl))
              have hgl := (Hrow.out.lt g rfl).2
              have hge := (Hrow.out.lt g rfl).1
              have hlb := block_lt m0
              have ji0 : (0 : Int) ≤ j := by omega
              have ji1 : (j : Int) < n := by omega
              clear hhj hml
              go_wp2_with (at_builtin; go_must (refine wpList_append_lies _ rfl _ _ _ rfl (w.heap.size + 1) 3 i0 _ 1 8 Tryd.underlying52 hi hz0 hz1 hz2 rfl (by decide) _ _ _ rfl (Hrow.out.alloc _) ⟨wr.heap.size, 0, none⟩ 1 1 [.int .i64 (h * am)] rfl rfl (cells_new wr _ _ _ rfl) ?d2 (by decide) ?d3 ?d4 ?d5 _ rfl ?_))
              case d2 => simp [Value.oneCell']
              case d3 => unfold maxLen; omega
              case d4 => omega
              case d5 => have := Hgq.out.size; simp; omega
              intro g' gc' w9 hown9 hgo9 hat9 hlt9
              have hg9 : w.grownBy w9 none := gr_own (gr_alloc Hgq.out _) hgo9 (fun x e => by simp [Value.ownBlock] at e; omega)
              have hS9 : Sl intL w9 (some ⟨hb, ho2, none⟩) n hs := (HS.out.1.keep0 (gr_alloc (gr0 _) _)).keep hgo9 (fun h0 b' off e er => by
                simp [Value.ownBlock] at er
                exact HS.out.2 h0 b' off e er.symm)
              have HS9 := hid (show Sl intL w9 (some ⟨hb, ho2, none⟩) n hs ∧ (0 < n → ∀ b' off, some ⟨hb, ho2, none⟩ = some (⟨b', off, none⟩ : Addr) → b' ≠ g') from ⟨hS9, fun h0 b' off e => by
                cases e
                rcases hat9 with h9 | h9
                · simp [Value.ownBlock] at h9
                  rw [← h9]; exact HS.out.2 h0 hb ho2 rfl
                · (try simp at h9); omega⟩)
              have Hf9 := hid hown9
              have Hg9 := hid hg9
              clear hown9 hgo9 hat9 hlt9 hg9 hS9 m0
              go_wp2_with fail
              go_roundw
              case rel =>
                refine ⟨j + 1, g', gc', by omega, by go_num, rfl, ?_, HS9, Hg9.out⟩
                rw [Ht.out, List.flatMap_append]
                exact Hf9.out
              case measure => simp [intOf]; omega
            · obtain rfl : j = n := by omega
              have hgc : j ≤ gc := by
                rcases Hrow.out.2 with ⟨e9, _⟩ | ⟨g9, cap9, cur, e9, _, _, h7, _⟩
                · cases e9
                · cases e9; exact h7
              have how := Ow.of_own (L := intL) Hrow.out (by rw [List.length_take, hml]; omega) (by unfold maxLen; omega)
              rw [take_len _ _ hml, ← Hyes.out] at how
              have How := hid how
              clear how hml
              go_wp2_with fail
              go_ret
              exact ⟨_, _, _, rfl, How.out.mono (by omega), hgc, Hgq.out⟩

end Go.Proofs.YtpmafjmgacdgfaaDoor
