/- Shocks: ShockOf of the reference. -/
import Derived.Test.YtkgjciacdjhhfaaDoorRows
import Derived.Test.YtkgjciacdjhhfaaDoorBase
import Derived.Test.YtkgjciacdjhhfaaDoorShock
import Derived.Test.YtkgjciacdjhhfaaDoorSpecPrice
import Derived.Test.YtkgjciacdjhhfaaDoorHold
namespace Go.Proofs.YtkgjciacdjhhfaaDoor
open Go.RowKit

set_option maxRecDepth 100000 in
set_option maxHeartbeats 2000000 in
theorem specShockOf_any (b : Bond) (day y : Int) (a : Option Addr) (n cap : Nat) (ss : List Int) (w : World) (hs : Sl intL w a n ss) :
    Calls Tryd.prog 26 #[.agg #[.int .i64 b.start, .int .i64 b.stop, .int .i64 b.months, .int .i64 b.rate], .int .i64 day, .int .i64 y, .slice a n cap] w fun e' w' => e' = .returned (.int .i64 (shockF b day y ss)) ∧ w.grownBy w' none := by
  have hg0 : w.grownBy (w.alloc (.cells #[.int .i64 b.start, .int .i64 b.stop, .int .i64 b.months, .int .i64 b.rate] 27)) none := gr_alloc (gr0 _) _
  have Hb0 := hid (heap_alloc_new w (.cells #[.int .i64 b.start, .int .i64 b.stop, .int .i64 b.months, .int .i64 b.rate] 27))
  have HG := hid hg0
  have Hs := hid hs
  have Hl := hid hs.len
  have hbig := hs.big
  unfold maxLen at hbig
  have HR := hid (specrunning_any b day (w.alloc (.cells #[.int .i64 b.start, .int .i64 b.stop, .int .i64 b.months, .int .i64 b.rate] 27)))
  have c0 := blk_cell Hb0.out 0 _ rfl
  have c1 := blk_cell Hb0.out 1 _ rfl
  have c2 := blk_cell Hb0.out 2 _ rfl
  have c3 := blk_cell Hb0.out 3 _ rfl
  clear hg0 hs
  have HE := hid (show shocksB ss = intsIn (-100000) 100000 ss from rfl)
  cases hr : runB b day with
  | false =>
    have hb : shockB b day y ss = false := by unfold shockB; rw [hr]; rfl
    rw [shock_no hb]
    rw [hr] at HR
    clear hb hr
    go_enter Tryd.func26, Tryd.ntmps26
    go_wp2_with fail
    refine HR.out.mono ?_
    rintro e' w1 ⟨rfl, hg⟩
    have Hg1 := hid (gr_trans0 HG.out hg)
    have Hb1 := hid (blk_keep Hb0.out hg (by simp))
    have Hs1 := hid (Hs.out.keep0 (gr_trans0 HG.out hg))
    clear hg c0 c1 c2 c3
    go_wp2_with fail
    go_ret
    exact ⟨rfl, Hg1.out⟩
  | true =>
    rw [hr] at HR
    cases hy : yieldB y with
    | false =>
      have hb : shockB b day y ss = false := by unfold shockB; rw [hy]; simp
      rw [shock_no hb]
      have HY := hid hy
      clear hb hr hy
      go_enter Tryd.func26, Tryd.ntmps26
      go_wp2_with fail
      refine HR.out.mono ?_
      rintro e' w1 ⟨rfl, hg⟩
      have Hg1 := hid (gr_trans0 HG.out hg)
      have Hb1 := hid (blk_keep Hb0.out hg (by simp))
      have Hs1 := hid (Hs.out.keep0 (gr_trans0 HG.out hg))
      clear hg c0 c1 c2 c3
      go_wp2_with fail
      refine (specvalidYield_any _ _).mono ?_
      rintro e' w2 ⟨rfl, rfl⟩
      rw [HY.out]
      go_wp2_with fail
      go_ret
      exact ⟨rfl, Hg1.out⟩
    | true =>
      have HY := hid hy
      cases hw : withinB n 1 6 with
      | false =>
        have hb : shockB b day y ss = false := by
          unfold shockB
          rw [Hl.out, show (decide (1 ≤ n) && decide (n ≤ 6)) = false by
            unfold withinB at hw
            simp only [Bool.and_eq_false_iff, decide_eq_false_iff_not] at hw ⊢; omega]
          simp
        rw [shock_no hb]
        have HW := hid hw
        clear hb hr hy hw
        go_enter Tryd.func26, Tryd.ntmps26
        go_wp2_with fail
        refine HR.out.mono ?_
        rintro e' w1 ⟨rfl, hg⟩
        have Hg1 := hid (gr_trans0 HG.out hg)
        have Hb1 := hid (blk_keep Hb0.out hg (by simp))
        have Hs1 := hid (Hs.out.keep0 (gr_trans0 HG.out hg))
        clear hg c0 c1 c2 c3
        go_wp2_with fail
        refine (specvalidYield_any _ _).mono ?_
        rintro e' w2 ⟨rfl, rfl⟩
        rw [HY.out]
        go_wp2_with fail
        refine (inRange_any _ _ _ _).mono ?_
        rintro e' w2 ⟨rfl, rfl⟩
        rw [HW.out]
        go_wp2_with fail
        go_ret
        exact ⟨rfl, Hg1.out⟩
      | true =>
        have HW := hid hw
        have hw2 := hw
        unfold withinB at hw2
        simp only [Bool.and_eq_true, decide_eq_true_eq] at hw2
        have hn1 : 1 ≤ n := by omega
        have hn6 : n ≤ 6 := by omega
        clear hw hw2
        cases ha : intsIn (-100000) 100000 ss with
        | false =>
          have hb : shockB b day y ss = false := by unfold shockB; rw [HE.out, ha]; simp
          rw [shock_no hb]
          have HA := hid ha
          clear hb hr hy ha
          go_enter Tryd.func26, Tryd.ntmps26
          go_wp2_with fail
          refine HR.out.mono ?_
          rintro e' w1 ⟨rfl, hg⟩
          have Hg1 := hid (gr_trans0 HG.out hg)
          have Hb1 := hid (blk_keep Hb0.out hg (by simp))
          have Hs1 := hid (Hs.out.keep0 (gr_trans0 HG.out hg))
          clear hg c0 c1 c2 c3
          go_wp2_with fail
          refine (specvalidYield_any _ _).mono ?_
          rintro e' w2 ⟨rfl, rfl⟩
          rw [HY.out]
          go_wp2_with fail
          refine (inRange_any _ _ _ _).mono ?_
          rintro e' w2 ⟨rfl, rfl⟩
          rw [HW.out]
          go_wp2_with fail
          refine (allIn_any a n cap ss _ _ _ Hs1.out).mono ?_
          rintro e' w2 ⟨rfl, rfl⟩
          rw [HA.out]
          go_wp2_with fail
          go_ret
          exact ⟨rfl, Hg1.out⟩
        | true =>
          obtain ⟨y0, y1⟩ := yield_facts hy
          have HA := hid ha
          rw [shock_ok hr y0 y1 (by rw [Hl.out]; exact hn1) (by rw [Hl.out]; exact hn6) (by rw [HE.out]; exact ha)]
          have HP := hid (fun wx => specprice_any b day y wx (run_of hr) y0 y1)
          have HQ := hid (fun s wx => specprice_any b day (clampY (y + s)) wx (run_of hr) (clamp_bd _).1 (clamp_bd _).2)
          have HFb := hid (fun xs => falls_bd hr y0 y1 xs)
          have Hfb := hid (fun s => fall_bd (s := s) hr y0 y1)
          have HIn := hid (fun (k : Nat) (s : Int) (hx : ss[k]? = some s) => (show -100000 ≤ s ∧ s ≤ 100000 by
            have h1 := List.all_eq_true.1 (show (ss.all fun x => withinB x (-100000) 100000) = true from ha) s (List.mem_of_getElem? hx)
            unfold withinB at h1
            simpa using h1))
          clear hr hy ha
          go_enter Tryd.func26, Tryd.ntmps26
          go_wp2_with fail
          refine HR.out.mono ?_
          rintro e' w1 ⟨rfl, hg⟩
          have Hg1 := hid (gr_trans0 HG.out hg)
          have Hb1 := hid (blk_keep Hb0.out hg (by simp))
          have Hs1 := hid (Hs.out.keep0 (gr_trans0 HG.out hg))
          clear hg c0 c1 c2 c3
          go_wp2_with fail
          refine (specvalidYield_any _ _).mono ?_
          rintro e' w2 ⟨rfl, rfl⟩
          rw [HY.out]
          go_wp2_with fail
          refine (inRange_any _ _ _ _).mono ?_
          rintro e' w2 ⟨rfl, rfl⟩
          rw [HW.out]
          go_wp2_with fail
          refine (allIn_any a n cap ss _ _ _ Hs1.out).mono ?_
          rintro e' w2 ⟨rfl, rfl⟩
          rw [HA.out]
          go_wp2_with fail
          go_loopw [9, 10] (fun q i wr => ∃ k : Nat, k ≤ n ∧ i = .int .i64 k ∧ q = .int .i64 (fallsF b day y (ss.take k)) ∧ w1.grownBy wr none) (fun _ i _ => n - (intOf i).toNat)
          case atStart => exact ⟨0, by omega, rfl, rfl, gr0 _⟩
          case round =>
            obtain ⟨k, hk, rfl, rfl, hgr⟩ := hrel
            have Hgr := hid hgr
            clear hgr
            by_cases hlt : k < n
            · obtain ⟨sb, so, s, rfl, hx, l0⟩ := int_at (Hs1.out.keep0 Hgr.out) k hlt
              have hi0 : (0 : Int) ≤ k := by omega
              have hi1 : (k : Int) < n := by omega
              obtain ⟨s0, s1⟩ := HIn.out k s hx
              have Hsn : Hid (fallsF b day y (ss.take (k + 1)) = max (fallsF b day y (ss.take k)) (fallF b day y s)) := hid (by rw [take_snoc _ _ _ hx, falls_snoc])
              have HQs := hid (HQ.out s)
              have hb1 := HFb.out (ss.take k)
              have hb2 := Hfb.out s
              have HF := hid (show fallF b day y s = priceHi b day y - priceHi b day (clampY (y + s)) from rfl)
              have hcl : clampY (y + s) = (if (if y + s > 0 then y + s else 0) < 100000 then (if y + s > 0 then y + s else 0) else 100000) := by
                unfold clampY; split <;> split <;> omega
              obtain ⟨c1, hc1⟩ : ∃ c1, (if y + s > 0 then y + s else 0) = c1 := ⟨_, rfl⟩
              rw [hc1] at hcl
              have hc1' : (if 0 < y + s then y + s else 0) = c1 := hc1
              obtain ⟨c2, hc2⟩ : ∃ c2, (if c1 < 100000 then c1 else 100000) = c2 := ⟨_, rfl⟩
              rw [hc2] at hcl
              rw [hcl] at HQs HF
              rw [HF.out] at Hsn hb2
              clear hcl hx HF
              obtain ⟨q, hq⟩ : ∃ q, fallsF b day y (ss.take k) = q := ⟨_, rfl⟩
              obtain ⟨f, hf⟩ : ∃ f, priceHi b day y - priceHi b day c2 = f := ⟨_, rfl⟩
              have U2 := hid (show IntKind.i64.wrap (priceHi b day y - priceHi b day c2) = f by rw [← hf]; exact IntWalk.i64_in _ (by omega))
              rw [hf] at hb2 Hsn
              rw [hq] at hb1 Hsn ⊢
              obtain ⟨m, hm⟩ : ∃ m, max q f = m := ⟨_, rfl⟩
              have hmm : (if q < f then f else q) = m := by rw [← hm]; split <;> omega
              rw [hm] at Hsn
              clear hm hf hq
              have HPk := hid HP.out
              obtain ⟨pl, hpl⟩ : ∃ v, v = priceLo b day y := ⟨_, rfl⟩
              obtain ⟨ph, hph⟩ : ∃ v, v = priceHi b day y := ⟨_, rfl⟩
              obtain ⟨ql, hql⟩ : ∃ v, v = priceLo b day c2 := ⟨_, rfl⟩
              obtain ⟨qh, hqh⟩ : ∃ v, v = priceHi b day c2 := ⟨_, rfl⟩
              rw [← hpl, ← hph] at HPk
              rw [← hql, ← hqh] at HQs
              rw [← hph, ← hqh] at U2
              clear hpl hph hql hqh
              have u1 : IntKind.i64.wrap (y + s) = y + s := IntWalk.i64_in _ (by omega)
              go_upto_region 8 with fail
              clear hc1 hc1' hc2 u1 l0
              refine wp_region_held_drew (S := fun w' => w'.heap[w.heap.size]? = some (.cells #[.int .i64 b.start, .int .i64 b.stop, .int .i64 b.months, .int .i64 b.rate] 27 (0, 0)) ∧ wr.grownBy w' none) (by kernel_rfl) ⟨blk_keep Hb1.out (gr_drew Hgr.out) (by simp), gr_drew (gr0 _)⟩ (fun hHeld => ?_)
              refine wpAnyH_take (i := 0) (v := ?_) rfl (by kernel_rfl) (by kernel_rfl) (by kernel_rfl) (fun _ _ _ h => h) (Or.inl ⟨by rfl, ?_⟩) hHeld ?_
              rotate_left
              · intro w9 hSw
                (have sb := hSw.1; have b0 := blk_cell sb 0 _ rfl; have b1 := blk_cell sb 1 _ rfl; have b2 := blk_cell sb 2 _ rfl; have b3 := blk_cell sb 3 _ rfl; clear sb hSw)
                go_simp
                all_goals (try with_reducible rfl)
              (try simp only [Act.put]); (try simp only [List.getElem_toArray]); (try simp only [List.getElem_cons_succ]); (try simp only [List.getElem_cons_zero]); (try simp only [List.setIfInBounds_toArray]); (try simp only [List.set_cons_succ]); (try simp only [List.set_cons_zero])
              refine wpAnyH_take (i := 1) (v := ?_) rfl (by kernel_rfl) (by kernel_rfl) (by kernel_rfl) (fun _ _ _ h => h) (Or.inl ⟨by rfl, ?_⟩) hHeld ?_
              rotate_left
              · intro w9 hSw
                (have sb := hSw.1; have b0 := blk_cell sb 0 _ rfl; have b1 := blk_cell sb 1 _ rfl; have b2 := blk_cell sb 2 _ rfl; have b3 := blk_cell sb 3 _ rfl; clear sb hSw)
                go_simp
                all_goals (try with_reducible rfl)
              (try simp only [Act.put]); (try simp only [List.getElem_toArray]); (try simp only [List.getElem_cons_succ]); (try simp only [List.getElem_cons_zero]); (try simp only [List.setIfInBounds_toArray]); (try simp only [List.set_cons_succ]); (try simp only [List.set_cons_zero])
              refine wpAnyH_take (i := 2) (v := ?_) rfl (by kernel_rfl) (by kernel_rfl) (by kernel_rfl) (fun _ _ _ h => h) (Or.inl ⟨by rfl, ?_⟩) hHeld ?_
              rotate_left
              · intro w9 hSw
                (have sb := hSw.1; have b0 := blk_cell sb 0 _ rfl; have b1 := blk_cell sb 1 _ rfl; have b2 := blk_cell sb 2 _ rfl; have b3 := blk_cell sb 3 _ rfl; clear sb hSw)
                go_simp
                all_goals (try with_reducible rfl)
              (try simp only [Act.put]); (try simp only [List.getElem_toArray]); (try simp only [List.getElem_cons_succ]); (try simp only [List.getElem_cons_zero]); (try simp only [List.setIfInBounds_toArray]); (try simp only [List.set_cons_succ]); (try simp only [List.set_cons_zero])
              refine wpAnyH_take (i := 3) (v := ?_) rfl (by kernel_rfl) (by kernel_rfl) (by kernel_rfl) (fun _ _ _ h => h) (Or.inl ⟨by rfl, ?_⟩) hHeld ?_
              rotate_left
              · intro w9 hSw
                (have sb := hSw.1; have b0 := blk_cell sb 0 _ rfl; have b1 := blk_cell sb 1 _ rfl; have b2 := blk_cell sb 2 _ rfl; have b3 := blk_cell sb 3 _ rfl; clear sb hSw)
                go_simp
                all_goals (try with_reducible rfl)
              (try simp only [Act.put]); (try simp only [List.getElem_toArray]); (try simp only [List.getElem_cons_succ]); (try simp only [List.getElem_cons_zero]); (try simp only [List.setIfInBounds_toArray]); (try simp only [List.set_cons_succ]); (try simp only [List.set_cons_zero])
              refine wpAnyH_take (i := 6) (v := ?_) rfl (by kernel_rfl) (by kernel_rfl) (by kernel_rfl) (fun _ _ _ h => h) (Or.inl ⟨by rfl, ?_⟩) hHeld ?_
              rotate_left
              · intro w9 hSw
                (have sb := hSw.1; have b0 := blk_cell sb 0 _ rfl; have b1 := blk_cell sb 1 _ rfl; have b2 := blk_cell sb 2 _ rfl; have b3 := blk_cell sb 3 _ rfl; clear sb hSw)
                go_simp
                all_goals (try with_reducible rfl)
              (try simp only [Act.put]); (try simp only [List.getElem_toArray]); (try simp only [List.getElem_cons_succ]); (try simp only [List.getElem_cons_zero]); (try simp only [List.setIfInBounds_toArray]); (try simp only [List.set_cons_succ]); (try simp only [List.set_cons_zero])
              refine wpAnyH_take (i := 7) (v := ?_) rfl (by kernel_rfl) (by kernel_rfl) (by kernel_rfl) (fun _ _ _ h => h) (Or.inl ⟨by rfl, ?_⟩) hHeld ?_
              rotate_left
              · intro w9 hSw
                (have sb := hSw.1; have b0 := blk_cell sb 0 _ rfl; have b1 := blk_cell sb 1 _ rfl; have b2 := blk_cell sb 2 _ rfl; have b3 := blk_cell sb 3 _ rfl; clear sb hSw)
                go_simp
                all_goals (try with_reducible rfl)
              (try simp only [Act.put]); (try simp only [List.getElem_toArray]); (try simp only [List.getElem_cons_succ]); (try simp only [List.getElem_cons_zero]); (try simp only [List.setIfInBounds_toArray]); (try simp only [List.set_cons_succ]); (try simp only [List.set_cons_zero])
              refine wpAnyH_take (i := 8) (v := ?_) rfl (by kernel_rfl) (by kernel_rfl) (by kernel_rfl) (fun _ _ _ h => h) (Or.inl ⟨by rfl, ?_⟩) hHeld ?_
              rotate_left
              · intro w9 hSw
                (have sb := hSw.1; have b0 := blk_cell sb 0 _ rfl; have b1 := blk_cell sb 1 _ rfl; have b2 := blk_cell sb 2 _ rfl; have b3 := blk_cell sb 3 _ rfl; clear sb hSw)
                go_simp
                all_goals (try with_reducible rfl)
              (try simp only [Act.put]); (try simp only [List.getElem_toArray]); (try simp only [List.getElem_cons_succ]); (try simp only [List.getElem_cons_zero]); (try simp only [List.setIfInBounds_toArray]); (try simp only [List.set_cons_succ]); (try simp only [List.set_cons_zero])
              refine wpAnyH_ready (rs := [4]) (by kernel_rfl) (by simp) ?_
              refine AllReadyH.cons rfl (fun K' hK' => ?_) AllReadyH.nil
              go_simp
              refine (HPk.out _).mono ?_
              rintro e' w5 ⟨rfl, hg⟩
              (try simp only [])
              refine hK'.out _ _ ⟨blk_keep hHeld.1 hg (by simp), gr_trans0 hHeld.2 hg⟩ (fun hHeldN => ?_)
              clear hHeld
              have hHeld := hHeldN
              clear hK' K' hHeldN hg
              (try simp only [Act.put]); (try simp only [List.getElem_toArray]); (try simp only [List.getElem_cons_succ]); (try simp only [List.getElem_cons_zero]); (try simp only [List.setIfInBounds_toArray]); (try simp only [List.set_cons_succ]); (try simp only [List.set_cons_zero])
              have hfl := fun w => rgField1 pl ph w
              refine wpAnyH_take (i := 5) (v := ?_) rfl (by kernel_rfl) (by kernel_rfl) (by kernel_rfl) (fun _ _ _ h => h) (Or.inl ⟨by rfl, ?_⟩) hHeld ?_
              rotate_left
              · intro w9 hSw
                clear hSw
                go_simp
                all_goals (try with_reducible rfl)
              (try simp only [Act.put]); (try simp only [List.getElem_toArray]); (try simp only [List.getElem_cons_succ]); (try simp only [List.getElem_cons_zero]); (try simp only [List.setIfInBounds_toArray]); (try simp only [List.set_cons_succ]); (try simp only [List.set_cons_zero])
              clear hfl
              refine wpAnyH_ready (rs := [9]) (by kernel_rfl) (by simp) ?_
              refine AllReadyH.cons rfl (fun K' hK' => ?_) AllReadyH.nil
              go_simp
              refine (HQs.out _).mono ?_
              rintro e' w6 ⟨rfl, hg⟩
              (try simp only [])
              refine hK'.out _ _ ⟨blk_keep hHeld.1 hg (by simp), gr_trans0 hHeld.2 hg⟩ (fun hHeldN => ?_)
              clear hHeld
              have hHeld := hHeldN
              clear hK' K' hHeldN hg
              (try simp only [Act.put]); (try simp only [List.getElem_toArray]); (try simp only [List.getElem_cons_succ]); (try simp only [List.getElem_cons_zero]); (try simp only [List.setIfInBounds_toArray]); (try simp only [List.set_cons_succ]); (try simp only [List.set_cons_zero])
              have hfl := fun w => rgField1 ql qh w
              refine wpAnyH_take (i := 10) (v := ?_) rfl (by kernel_rfl) (by kernel_rfl) (by kernel_rfl) (fun _ _ _ h => h) (Or.inl ⟨by rfl, ?_⟩) hHeld ?_
              rotate_left
              · intro w9 hSw
                clear hSw
                go_simp
                all_goals (try with_reducible rfl)
              (try simp only [Act.put]); (try simp only [List.getElem_toArray]); (try simp only [List.getElem_cons_succ]); (try simp only [List.getElem_cons_zero]); (try simp only [List.setIfInBounds_toArray]); (try simp only [List.set_cons_succ]); (try simp only [List.set_cons_zero])
              clear hfl
              have u2 := U2.out
              refine wpAnyH_take (i := 11) (v := ?_) rfl (by kernel_rfl) (by kernel_rfl) (by kernel_rfl) (fun _ _ _ h => h) (Or.inl ⟨by rfl, ?_⟩) hHeld ?_
              rotate_left
              · intro w9 hSw
                clear hSw
                go_simp
                all_goals (try with_reducible rfl)
              (try simp only [Act.put]); (try simp only [List.getElem_toArray]); (try simp only [List.getElem_cons_succ]); (try simp only [List.getElem_cons_zero]); (try simp only [List.setIfInBounds_toArray]); (try simp only [List.set_cons_succ]); (try simp only [List.set_cons_zero])
              refine wpAnyH_take (i := 12) (v := ?_) rfl (by kernel_rfl) (by kernel_rfl) (by kernel_rfl) (fun _ _ _ h => h) (Or.inl ⟨by rfl, ?_⟩) hHeld ?_
              rotate_left
              · intro w9 hSw
                clear hSw
                go_simp
                all_goals (try with_reducible rfl)
              (try simp only [Act.put]); (try simp only [List.getElem_toArray]); (try simp only [List.getElem_cons_succ]); (try simp only [List.getElem_cons_zero]); (try simp only [List.setIfInBounds_toArray]); (try simp only [List.set_cons_succ]); (try simp only [List.set_cons_zero])
              clear u2
              refine wpAnyH_take (i := 13) (v := ?_) rfl (by kernel_rfl) (by kernel_rfl) (by kernel_rfl) (fun _ _ _ h => h) (Or.inl ⟨by rfl, ?_⟩) hHeld ?_
              rotate_left
              · intro w9 hSw
                clear hSw
                go_simp
                all_goals (try with_reducible rfl)
              (try simp only [Act.put]); (try simp only [List.getElem_toArray]); (try simp only [List.getElem_cons_succ]); (try simp only [List.getElem_cons_zero]); (try simp only [List.setIfInBounds_toArray]); (try simp only [List.set_cons_succ]); (try simp only [List.set_cons_zero])
              refine wpAnyH_done (by kernel_rfl) ?_ _
              have HgF := hid hHeld.2
              clear hHeld hmm
              go_wp2_with fail
              go_roundw
              case rel => exact ⟨k + 1, by omega, by go_num, by rw [Hsn.out], gr_trans0 Hgr.out HgF.out⟩
              case measure => simp [intOf]; omega
            · obtain rfl : k = n := by omega
              rw [take_len _ _ Hl.out]
              obtain ⟨q, hq⟩ : ∃ q, fallsF b day y ss = q := ⟨_, rfl⟩
              rw [hq]
              have Hq := hid hq
              clear hq
              go_wp2_with fail
              go_ret
              exact ⟨ret_int (by rw [Hq.out]), gr_trans0 Hg1.out Hgr.out⟩

end Go.Proofs.YtkgjciacdjhhfaaDoor
