/- AllotBids: the program's contract, and the reference's, walked whole. -/
import Derived.Test.YtecboohippbliaaRows
import Derived.Test.YtecboohippbliaaBase
import Derived.Test.YtecboohippbliaaAllotWalk
import Derived.Deep.QuietTactic
import Derived.BigQuiet
import Derived.StillTailTactics
import Derived.Deep.RegionHeld3
import Derived.Deep.AppendLies
namespace Go.Proofs.Ytecboohippbliaa
open Go.RowKit

theorem AllotBids_any (a : Option Addr) (n cap : Nat) (xs : List Bid) (m : Int) (w : World) (hs : Sl bidL w a n xs) :
    Calls Try.prog 41 #[.slice a n cap, .int .i64 m] w fun e w' => ∃ a' n' cap', e = .returned (.slice a' n' cap') ∧ Ow intL w' w.heap.size a' n' (allotBidsF xs m) ∧ n' ≤ cap' ∧ w.grownBy w' none := by
  by_cases h : auctionOk xs m = true
  · refine (AllotOk_any a n cap xs m w hs h).mono ?_
    rintro e w' ⟨a', cap', rfl, ho, hc, hg⟩
    exact ⟨a', n, cap', rfl, by unfold allotBidsF; rw [if_pos h]; exact ho, hc, hg⟩
  · have Hfin : Hid (allotBidsF xs m = []) := hid (by unfold allotBidsF; rw [if_neg h])
    have h' : auctionOk xs m = false := by simpa using h
    clear h
    unfold auctionOk at h'
    go_enter Try.func41, Try.ntmps41
    go_wp2_with fail
    refine (bidsValid_any a n cap xs m w hs).mono ?_
    rintro e w1 ⟨rfl, hg1⟩
    rw [h']
    go_wp2_with fail
    go_ret
    exact ⟨none, 0, 0, rfl, by rw [Hfin.out]; exact Ow.nil _ _ _ _, Nat.le_refl _, hg1⟩

theorem toInt_any (b : Bool) (w : World) : Calls Try.prog 72 #[.bool b] w fun e w' => e = .returned (.int .i64 (if b = true then 1 else 0)) ∧ w = w' := by
  cases b
  · go_enter Try.func72, Try.ntmps72
    go_wp2
    go_ret
    exact ⟨rfl, rfl⟩
  · go_enter Try.func72, Try.ntmps72
    go_wp2
    go_ret
    exact ⟨rfl, rfl⟩

theorem toInt_true (w : World) : Calls Try.prog 72 #[.bool true] w fun e w' => e = .returned (.int .i64 1) ∧ w = w' := toInt_any true w
theorem toInt_false (w : World) : Calls Try.prog 72 #[.bool false] w fun e w' => e = .returned (.int .i64 0) ∧ w = w' := toInt_any false w

def wOf (y : Int) (b : Bid) : Int := if atStop y b = true then b.many else 0
def wmL (xs : List Bid) (y : Int) : List Int := xs.map (wOf y)

theorem wm_expand (xs : List Bid) (y : Int) : wmL xs y = expand (maskL xs y) (subW xs y) := (expand_sub xs y).symm
theorem wm_len (xs : List Bid) (y : Int) : (wmL xs y).length = xs.length := by unfold wmL; rw [List.length_map]
theorem wm_snoc (xs : List Bid) (y : Int) (k : Nat) (x : Bid) (hx : xs[k]? = some x) : wmL (xs.take (k + 1)) y = wmL (xs.take k) y ++ [wOf y x] := by
  unfold wmL; rw [take_snoc _ _ _ hx, List.map_append]; rfl

theorem expand_mem (m : List Bool) (xs : List Int) (z : Int) (h : z ∈ expand m xs) : z = 0 ∨ z ∈ xs := by
  induction m generalizing xs with
  | nil => simp [expand] at h
  | cons b m ih =>
    cases b with
    | false =>
      simp only [expand, List.mem_cons] at h
      rcases h with h | h
      · exact .inl h
      · exact ih xs h
    | true =>
      cases xs with
      | nil =>
        simp only [expand, List.mem_cons] at h
        rcases h with h | h
        · exact .inl h
        · exact ih [] h
      | cons x xs =>
        simp only [expand, List.mem_cons] at h
        rcases h with h | h
        · exact .inr (by simp [h])
        · rcases ih xs h with h | h
          · exact .inl h
          · exact .inr (List.mem_cons_of_mem _ h)

theorem quos_mask (amount : Int) (m : List Bool) (ws : List Int) (h : marks m = ws.length) : quos amount (expand m ws) = expand m (quos amount ws) := by
  unfold quos
  rw [expand_sum m ws h, expand_map m ws _ (by simp)]

theorem addL_take (xs ys : List Int) (j : Nat) (x y : Int) (hx : xs[j]? = some x) (hy : ys[j]? = some y) :
    ((addL xs ys).take j ++ xs.drop j).set j (x + y) = (addL xs ys).take (j + 1) ++ xs.drop (j + 1) := by
  have hz : (addL xs ys)[j]? = some (x + y) := by unfold addL; rw [List.getElem?_zipWith, hx, hy]
  have hj := lt_of_at hz
  rw [take_snoc _ _ _ hz, drop_at _ _ _ hx, List.set_append_right _ _ (by rw [List.length_take]; omega)]
  have : j - ((addL xs ys).take j).length = 0 := by rw [List.length_take]; omega
  rw [this, List.set_cons_zero, List.append_assoc]; rfl

theorem addL_len (xs ys : List Int) (h : xs.length = ys.length) : (addL xs ys).length = xs.length := by
  unfold addL; rw [List.length_zipWith, h, Nat.min_self]

theorem addL_here (xs ys : List Int) (j : Nat) (x : Int) (hx : xs[j]? = some x) (h : xs.length = ys.length) : ((addL xs ys).take j ++ xs.drop j)[j]? = some x := by
  have hj := lt_of_at hx
  rw [List.getElem?_append_right (by rw [List.length_take]; omega)]
  have : j - ((addL xs ys).take j).length = 0 := by rw [List.length_take, addL_len _ _ h]; omega
  rw [this, drop_at _ _ _ hx]; rfl


set_option maxRecDepth 100000 in
set_option maxHeartbeats 1000000 in
theorem SpecAllotOk_any (a : Option Addr) (n cap : Nat) (xs : List Bid) (m : Int) (w : World) (hs : Sl bidL w a n xs) (h : auctionOk xs m = true) :
    Calls Try.prog 42 #[.slice a n cap, .int .i64 m] w fun e w' => ∃ a' cap', e = .returned (.slice a' n cap') ∧ Ow intL w' w.heap.size a' n (allotF xs m) ∧ n ≤ cap' ∧ w.grownBy w' none := by
  obtain ⟨i0, hi, hz0, hz1, hz2⟩ := info_parts infoInt
  obtain ⟨f1, f2, f3, f4, f5⟩ := auction_facts xs m h
  have hl := hs.len
  have F5 := hid f5
  have G := hid (allot_facts xs m h)
  have Hfin : Hid (allotF xs m = addL (baseL xs (stopF xs m)) (expand (maskL xs (stopF xs m)) (sharesF (leftA xs (stopF xs m) m) (subW xs (stopF xs m))))) := hid rfl
  have Hnone := hid (allot_none xs m)
  have Heq := hid (stop_eq xs m (fun x hx => (f4 x hx).1) (fun x hx => (f5 x hx).1) f2)
  have Hs := hid hs; clear hs f4 f5
  have hb1 : bidsOk xs = true := by unfold auctionOk at h; simp only [Bool.and_eq_true] at h; exact h.1
  have hb2 : withinB m 1 1000000000 = true := by unfold auctionOk at h; simp only [Bool.and_eq_true] at h; exact h.2
  clear h
  have hA : ((w.alloc (Obj.cells #[] 3)).alloc (Obj.cells #[] 3)).ownsRow w.heap.size 3 1 (.slice (some ⟨w.heap.size, 0, none⟩) 0 0) 0 (([] : List Int).flatMap intL.cells) := (World.ownsRow_made w #[] 0 (Nat.le_refl _) (by decide) rfl).alloc _
  have hC : ((w.alloc (Obj.cells #[] 3)).alloc (Obj.cells #[] 3)).ownsRow w.heap.size 3 1 (.slice (some ⟨w.heap.size + 1, 0, none⟩) 0 0) 0 (([] : List Int).flatMap intL.cells) := by
    have := World.ownsRow_made (base := w.heap.size) (size := 1) (e := 3) (w.alloc (Obj.cells #[] 3)) #[] 0 (by simp) (by decide) rfl
    simpa using this
  have HA := hid hA; clear hA
  have HC := hid hC; clear hC
  have Hg0 := hid (gr_alloc (gr_alloc (gr0 w) (Obj.cells #[] 3)) (Obj.cells #[] 3))
  go_enter Try.func42, Try.ntmps42
  go_wp2_with fail
  refine (validBids_any a n cap xs _ (Hs.out.keep0 Hg0.out)).mono ?_
  rintro e w1 ⟨rfl, rfl⟩
  go_wp2_with fail
  refine (inRange_any _ _ _ _).mono ?_
  rintro e w1 ⟨rfl, rfl⟩
  go_wp2_with fail
  refine (specstop_any a n cap xs m _ (Hs.out.keep0 Hg0.out) (by omega) (fun x hx => by have := F5.out x hx; omega)).mono ?_
  rintro e w1 ⟨rfl, rfl⟩
  rw [← Heq.out]
  clear Heq
  generalize stopF xs m = y at *
  go_wp2_with fail
  go_loopw [5, 6, 8, 9] (fun o q mm i wr => ∃ (k g1 g2 c1 c2 : Nat), k ≤ n ∧ i = .int .i64 k ∧ mm = .int .i64 (m - sumI (baseL (xs.take k) y)) ∧ o = .slice (some ⟨g1, 0, none⟩) k c1 ∧ q = .slice (some ⟨g2, 0, none⟩) k c2 ∧ g1 ≠ g2 ∧ wr.ownsRow w.heap.size 3 1 (.slice (some ⟨g1, 0, none⟩) k c1) k ((baseL (xs.take k) y).flatMap intL.cells) ∧ wr.ownsRow w.heap.size 3 1 (.slice (some ⟨g2, 0, none⟩) k c2) k ((wmL (xs.take k) y).flatMap intL.cells) ∧ w.grownBy wr none) (fun _ _ _ i _ => n - (intOf i).toNat)
  case atStart => exact ⟨0, w.heap.size, w.heap.size + 1, 0, 0, by omega, rfl, by simp [baseL, sumI], rfl, rfl, by omega, by simpa [baseL] using HA.out, by simpa [wmL] using HC.out, Hg0.out⟩
  case round =>
    clear HA HC Hg0
    obtain ⟨k, g1, g2, c1, c2, hk, rfl, rfl, rfl, rfl, hne, ho1, ho2, hg⟩ := hrel
    have hg1B := (ho1.lt g1 rfl).1
    have hg2B := (ho2.lt g2 rfl).1
    have hg1L := (ho1.lt g1 rfl).2
    have hg2L := (ho2.lt g2 rfl).2
    have Ho1 := hid ho1; clear ho1
    have Ho2 := hid ho2; clear ho2
    have Hne := hid hne; clear hne
    have hbs := base_sum_bound (xs.take k) y (fun x hx => F5.out x (List.mem_of_mem_take hx))
    have hkl : (xs.take k).length ≤ 8 := by rw [List.length_take]; omega
    have hszr := hg.size
    by_cases hlt : k < n
    · obtain ⟨b, off, x, rfl, hxk, cy, cm⟩ := bid_at (Hs.out.keep0 hg) k hlt
      have hxm := F5.out x (List.mem_of_getElem? hxk)
      have e1 := baseL_snoc xs y k x hxk
      have e2 := wm_snoc xs y k x hxk
      have hbs1 : sumI (baseL (xs.take (k + 1)) y) = sumI (baseL (xs.take k) y) + baseOf y x := by rw [e1, sumI_append]; simp [sumI]
      have Hxk := hid hxk; clear hxk
      have Hg := hid hg; clear hg
      have hi3 : (0 : Int) ≤ k := by omega
      have hi2 : (k : Int) < n := by omega
      generalize hS : sumI (baseL (xs.take k) y) = S at *
      have HS := hid hS; clear hS
      by_cases h1 : y < 0
      · have hbx : baseOf y x = x.many := by unfold baseOf; rw [if_pos]; unfold caseA; simp only [Bool.or_eq_true, decide_eq_true_eq]; omega
        have hwx : wOf y x = 0 := by unfold wOf; rw [if_neg]; unfold atStop; simp only [Bool.and_eq_true, decide_eq_true_eq]; omega
        have hyb : decide (0 ≤ y) = false := by simp; omega
        have hyn : ¬ 0 ≤ y := by omega
        ·
                rw [hbx] at hbs1 e1
                rw [hwx] at e2
                have E1 := hid e1; have E2 := hid e2; have Hbs1 := hid hbs1
                clear e1 e2 hbs1 hbx hwx
                go_wp2_with (at_builtin; go_must (refine wpList_append_lies _ rfl _ _ _ rfl w.heap.size 3 i0 _ 1 8 Try.underlying22 hi hz0 hz1 hz2 rfl (by decide) _ _ _ rfl (Ho1.out.alloc _) ⟨wr.heap.size, 0, none⟩ 1 1 [.int .i64 (x.many)] rfl rfl (cells_new wr _ _ _ rfl) (by simp [Value.oneCell']) (by decide) (by unfold maxLen; omega) (by omega) (by simp; omega) _ rfl ?_))
                intro g1' c1' w5 ho5 hgo5 hat5 hlt5
                have hne5 : g1' ≠ g2 := by
                  rcases hat5 with h | h
                  · intro e; subst e; exact Hne.out (by simpa [Value.ownBlock] using h)
                  · omega
                have ho25 := (Ho2.out.alloc _).kept hgo5 (by right; intro h; exact Hne.out (by cases h; rfl))
                have hg5 : w.grownBy w5 none := gr_own (gr_alloc Hg.out _) hgo5 (fun g e => by simp [Value.ownBlock] at e; omega)
                obtain ⟨b5, off5, x5, e5, hx5, cy5, cm5⟩ := bid_at (Hs.out.keep0 hg5) k hlt
                cases e5
                obtain rfl : x = x5 := by have h := Hxk.out; rw [hx5] at h; cases h; rfl
                clear hx5
                have hsz5 := hg5.size
                have hg1B5 := (ho5.lt g1' rfl)
                have Ho5 := hid ho5; clear ho5
                have Ho25 := hid ho25; clear ho25
                have Hg5 := hid hg5; clear hg5 hgo5 hat5
                have Hne5 := hid hne5; clear hne5
                clear cy cm
                have hbB : b < w.heap.size := by
                  obtain ⟨b9, off9, e9, hlt9, _⟩ := Hs.out.mem (by omega)
                  cases e9; exact hlt9
                have hne25 : some b ≠ (Value.slice (some ⟨g2, 0, none⟩) k c2).ownBlock := by simp [Value.ownBlock]; omega
                have v0 : IntKind.i64.wrap (x.many * 0) = 0 := by rw [Int.mul_zero]; rfl
                have v1 : IntKind.i64.wrap (x.many * 1) = x.many := by rw [Int.mul_one]; exact IntWalk.i64_in _ (by omega)
                have v2 : IntKind.i64.wrap x.many = x.many := IntWalk.i64_in _ (by omega)
                go_wp2_with fail
                refine wp_region_held_drew (S := fun w' => w'.cell? ⟨b, off + k * 2, none⟩ = some (.int .i64 x.yield) ∧ w'.cell? ⟨b, off + k * 2 + 1, none⟩ = some (.int .i64 x.many)) (by kernel_rfl) ⟨cy5, cm5⟩ (fun hHeld => ?_)
                refine wpAnyH_take (i := 0) (v := ?_) rfl (by kernel_rfl) (by kernel_rfl) (by kernel_rfl) (fun _ _ _ h => h) (Or.inl ⟨by rfl, ?_⟩) hHeld ?_
                rotate_left
                · intro w9 hSw
                  obtain ⟨s1, s2⟩ := hSw
                  go_simp
                  all_goals (try with_reducible rfl)
                (try simp only [Act.put]); (try simp only [List.setIfInBounds_toArray]); (try simp only [List.set_cons_succ]); (try simp only [List.set_cons_zero])
                refine wpAnyH_take (i := 1) (v := ?_) rfl (by kernel_rfl) (by kernel_rfl) (by kernel_rfl) (fun _ _ _ h => h) (Or.inl ⟨by rfl, ?_⟩) hHeld ?_
                rotate_left
                · intro w9 hSw
                  obtain ⟨s1, s2⟩ := hSw
                  go_simp
                  all_goals (try with_reducible rfl)
                (try simp only [Act.put]); (try simp only [List.setIfInBounds_toArray]); (try simp only [List.set_cons_succ]); (try simp only [List.set_cons_zero])
                refine wpAnyH_take (i := 2) (v := ?_) rfl (by kernel_rfl) (by kernel_rfl) (by kernel_rfl) (fun _ _ _ h => h) (Or.inl ⟨by rfl, ?_⟩) hHeld ?_
                rotate_left
                · intro w9 hSw
                  obtain ⟨s1, s2⟩ := hSw
                  go_simp
                  all_goals (try with_reducible rfl)
                (try simp only [Act.put]); (try simp only [List.setIfInBounds_toArray]); (try simp only [List.set_cons_succ]); (try simp only [List.set_cons_zero])
                refine wpAnyH_take (i := 3) (v := ?_) rfl (by kernel_rfl) (by kernel_rfl) (by kernel_rfl) (fun _ _ _ h => h) (Or.inl ⟨by rfl, ?_⟩) hHeld ?_
                rotate_left
                · intro w9 hSw
                  obtain ⟨s1, s2⟩ := hSw
                  go_simp
                  all_goals (try with_reducible rfl)
                (try simp only [Act.put]); (try simp only [List.setIfInBounds_toArray]); (try simp only [List.set_cons_succ]); (try simp only [List.set_cons_zero])
                refine wpAnyH_take (i := 4) (v := ?_) rfl (by kernel_rfl) (by kernel_rfl) (by kernel_rfl) (fun _ _ _ h => h) (Or.inl ⟨by rfl, ?_⟩) hHeld ?_
                rotate_left
                · intro w9 hSw
                  obtain ⟨s1, s2⟩ := hSw
                  go_simp
                  all_goals (try with_reducible rfl)
                (try simp only [Act.put]); (try simp only [List.setIfInBounds_toArray]); (try simp only [List.set_cons_succ]); (try simp only [List.set_cons_zero])
                refine wpAnyH_take (i := 5) (v := ?_) rfl (by kernel_rfl) (by kernel_rfl) (by kernel_rfl) (fun _ _ _ h => h) (Or.inl ⟨by rfl, ?_⟩) hHeld ?_
                rotate_left
                · intro w9 hSw
                  obtain ⟨s1, s2⟩ := hSw
                  go_simp
                  all_goals (try with_reducible rfl)
                (try simp only [Act.put]); (try simp only [List.setIfInBounds_toArray]); (try simp only [List.set_cons_succ]); (try simp only [List.set_cons_zero])
                refine wpAnyH_take (i := 6) (v := ?_) rfl (by kernel_rfl) (by kernel_rfl) (by kernel_rfl) (fun _ _ _ h => h) (Or.inl ⟨by rfl, ?_⟩) hHeld ?_
                rotate_left
                · intro w9 hSw
                  obtain ⟨s1, s2⟩ := hSw
                  go_simp
                  all_goals (try with_reducible rfl)
                (try simp only [Act.put]); (try simp only [List.setIfInBounds_toArray]); (try simp only [List.set_cons_succ]); (try simp only [List.set_cons_zero])
                refine wpAnyH_take (i := 7) (v := ?_) rfl (by kernel_rfl) (by kernel_rfl) (by kernel_rfl) (fun _ _ _ h => h) (Or.inl ⟨by rfl, ?_⟩) hHeld ?_
                rotate_left
                · intro w9 hSw
                  obtain ⟨s1, s2⟩ := hSw
                  go_simp
                  all_goals (try with_reducible rfl)
                (try simp only [Act.put]); (try simp only [List.setIfInBounds_toArray]); (try simp only [List.set_cons_succ]); (try simp only [List.set_cons_zero])
                refine wpAnyH_take (i := 8) (v := ?_) rfl (by kernel_rfl) (by kernel_rfl) (by kernel_rfl) (fun _ _ _ h => h) (Or.inl ⟨by rfl, ?_⟩) hHeld ?_
                rotate_left
                · intro w9 hSw
                  obtain ⟨s1, s2⟩ := hSw
                  go_simp
                  all_goals (try with_reducible rfl)
                (try simp only [Act.put]); (try simp only [List.setIfInBounds_toArray]); (try simp only [List.set_cons_succ]); (try simp only [List.set_cons_zero])
                refine wpAnyH_take (i := 9) (v := undef) rfl (by kernel_rfl) (by kernel_rfl) (by kernel_rfl) (fun _ _ _ h => h) (Or.inr ⟨?_, rfl⟩) hHeld ?_
                · go_simp
                (try simp only [Act.put]); (try simp only [List.setIfInBounds_toArray]); (try simp only [List.set_cons_succ]); (try simp only [List.set_cons_zero])
                refine wpAnyH_take (i := 10) (v := undef) rfl (by kernel_rfl) (by kernel_rfl) (by kernel_rfl) (fun _ _ _ h => h) (Or.inr ⟨?_, rfl⟩) hHeld ?_
                · go_simp
                (try simp only [Act.put]); (try simp only [List.setIfInBounds_toArray]); (try simp only [List.set_cons_succ]); (try simp only [List.set_cons_zero])
                refine wpAnyH_take (i := 11) (v := undef) rfl (by kernel_rfl) (by kernel_rfl) (by kernel_rfl) (fun _ _ _ h => h) (Or.inr ⟨?_, rfl⟩) hHeld ?_
                · go_simp
                (try simp only [Act.put]); (try simp only [List.setIfInBounds_toArray]); (try simp only [List.set_cons_succ]); (try simp only [List.set_cons_zero])
                refine wpAnyH_take (i := 12) (v := undef) rfl (by kernel_rfl) (by kernel_rfl) (by kernel_rfl) (fun _ _ _ h => h) (Or.inr ⟨?_, rfl⟩) hHeld ?_
                · go_simp
                (try simp only [Act.put]); (try simp only [List.setIfInBounds_toArray]); (try simp only [List.set_cons_succ]); (try simp only [List.set_cons_zero])
                refine wpAnyH_take (i := 13) (v := undef) rfl (by kernel_rfl) (by kernel_rfl) (by kernel_rfl) (fun _ _ _ h => h) (Or.inr ⟨?_, rfl⟩) hHeld ?_
                · go_simp
                (try simp only [Act.put]); (try simp only [List.setIfInBounds_toArray]); (try simp only [List.set_cons_succ]); (try simp only [List.set_cons_zero])
                refine wpAnyH_take (i := 14) (v := undef) rfl (by kernel_rfl) (by kernel_rfl) (by kernel_rfl) (fun _ _ _ h => h) (Or.inr ⟨?_, rfl⟩) hHeld ?_
                · go_simp
                (try simp only [Act.put]); (try simp only [List.setIfInBounds_toArray]); (try simp only [List.set_cons_succ]); (try simp only [List.set_cons_zero])
                refine wpAnyH_take (i := 15) (v := undef) rfl (by kernel_rfl) (by kernel_rfl) (by kernel_rfl) (fun _ _ _ h => h) (Or.inr ⟨?_, rfl⟩) hHeld ?_
                · go_simp
                (try simp only [Act.put]); (try simp only [List.setIfInBounds_toArray]); (try simp only [List.set_cons_succ]); (try simp only [List.set_cons_zero])
                refine wpAnyH_take (i := 16) (v := ?_) rfl (by kernel_rfl) (by kernel_rfl) (by kernel_rfl) (fun _ _ _ h => h) (Or.inl ⟨by rfl, ?_⟩) hHeld ?_
                rotate_left
                · intro w9 hSw
                  obtain ⟨s1, s2⟩ := hSw
                  go_simp
                  all_goals (try with_reducible rfl)
                (try simp only [Act.put]); (try simp only [List.setIfInBounds_toArray]); (try simp only [List.set_cons_succ]); (try simp only [List.set_cons_zero])
                refine wpAnyH_ready (rs := [17]) (by kernel_rfl) (by simp) ?_
                refine AllReadyH.cons rfl (fun K hK => ?_) AllReadyH.nil
                go_simp
                refine (toInt_false _).mono ?_
                rintro e w1 ⟨rfl, rfl⟩
                (try simp only [])
                refine hK.out _ _ hHeld (fun _ => ?_)
                clear hK K
                try simp only [Act.put, List.setIfInBounds_toArray, List.set_cons_zero, List.set_cons_succ]
                refine wpAnyH_take (i := 18) (v := ?_) rfl (by kernel_rfl) (by kernel_rfl) (by kernel_rfl) (fun _ _ _ h => h) (Or.inl ⟨by rfl, ?_⟩) hHeld ?_
                rotate_left
                · intro w9 hSw
                  obtain ⟨s1, s2⟩ := hSw
                  go_simp
                  all_goals (try with_reducible rfl)
                (try simp only [Act.put]); (try simp only [List.setIfInBounds_toArray]); (try simp only [List.set_cons_succ]); (try simp only [List.set_cons_zero])
                refine wpAnyH_ready (rs := [19]) (by kernel_rfl) (by simp) ?_
                refine AllReadyH.cons rfl (fun K hK => ?_) AllReadyH.nil
                go_simp
                refine hK.out _ _ ?_ (fun hHeld2 => ?_)
                · exact ⟨(gr_alloc (gr0 _) _).cell hHeld.1 (by simp), (gr_alloc (gr0 _) _).cell hHeld.2 (by simp)⟩
                clear hK K
                (try simp only [Act.put]); (try simp only [List.setIfInBounds_toArray]); (try simp only [List.set_cons_succ]); (try simp only [List.set_cons_zero])
                refine wpAnyH_ready (rs := [20]) (by kernel_rfl) (by simp) ?_
                refine AllReadyH.cons rfl (fun K hK => ?_) AllReadyH.nil
                refine step_append_lies _ (by rfl) _ _ _ (by rfl) w.heap.size 3 i0 _ 1 8 Try.underlying22 hi hz0 hz1 hz2 (by rfl) (by decide) (.slice (some ⟨g2, 0, none⟩) k c2) k ((wmL (xs.take k) y).flatMap intL.cells) (by rfl) (Ho25.out.drew.alloc _) ⟨w5.drew.heap.size, 0, none⟩ 1 1 [.int .i64 (0)] (by rfl) (by rfl) (cells_new w5.drew _ _ _ rfl) (by simp [Value.oneCell']) (by decide) (by unfold maxLen; omega) (by omega) (by simp; omega) _ rfl ?_
                intro g2' c2' w7 ho7 hgo7 hat7 hlt7
                refine hK.out _ _ ?_ (fun hHeld3 => ?_)
                · exact ⟨hgo7.cell hHeld2.1 hne25, hgo7.cell hHeld2.2 hne25⟩
                clear hK K
                (try simp only [Act.put]); (try simp only [List.setIfInBounds_toArray]); (try simp only [List.set_cons_succ]); (try simp only [List.set_cons_zero])
                refine wpAnyH_take (i := 21) (v := ?_) rfl (by kernel_rfl) (by kernel_rfl) (by kernel_rfl) (fun _ _ _ h => h) (Or.inl ⟨by rfl, ?_⟩) hHeld3 ?_
                rotate_left
                · intro w9 hSw
                  obtain ⟨s1, s2⟩ := hSw
                  go_simp
                  all_goals (try with_reducible rfl)
                (try simp only [Act.put]); (try simp only [List.setIfInBounds_toArray]); (try simp only [List.set_cons_succ]); (try simp only [List.set_cons_zero])
                refine wpAnyH_done (by kernel_rfl) ?_ _
                all_goals
                  clear v0 v1 v2
                  have Ho5d := hid Ho5.out.drew
                  have Hg5d := hid (gr_drew Hg5.out)
                  have hg1B5d : g1' < w5.drew.heap.size := hg1B5.2
                  have hne7 : g1' ≠ g2' := by
                    rcases hat7 with h | h
                    · intro e; subst e; exact Hne5.out (by simpa [Value.ownBlock] using h.symm)
                    · have := hg1B5.2; have := hg1B5.1; (try simp at h); omega
                  have ho17 := (Ho5d.out.alloc _).kept hgo7 (by right; intro h; exact Hne5.out (by cases h; rfl))
                  have hg7 : w.grownBy w7 none := gr_own (gr_alloc Hg5d.out _) hgo7 (fun g e => by simp [Value.ownBlock] at e; omega)
                  have Ho7 := hid ho7; clear ho7
                  have Ho17 := hid ho17; clear ho17
                  have Hg7 := hid hg7; clear hg7 hgo7 hat7
                  have Hne7 := hid hne7; clear hne7
                  go_wp2
                  go_roundw
                  case rel =>
                    refine ⟨k + 1, g1', g2', c1', c2', by omega, by go_num, by rw [Hbs1.out]; congr 1; omega, rfl, rfl, Hne7.out, ?_, ?_, Hg7.out⟩
                    · rw [E1.out, List.flatMap_append]; exact Ho17.out
                    · rw [E2.out, List.flatMap_append]; exact Ho7.out
                  case measure => simp [intOf]; omega
      · have hyp : 0 ≤ y := by omega
        have hyb : decide (0 ≤ y) = true := by simpa using hyp
        by_cases h2 : x.yield < y
        · have hbx : baseOf y x = x.many := by unfold baseOf; rw [if_pos]; unfold caseA; simp only [Bool.or_eq_true, decide_eq_true_eq]; omega
          have hwx : wOf y x = 0 := by unfold wOf; rw [if_neg]; unfold atStop; simp only [Bool.and_eq_true, decide_eq_true_eq]; omega
          have h3b : (x.yield == y) = false := by simp; omega
          ·
                rw [hbx] at hbs1 e1
                rw [hwx] at e2
                have E1 := hid e1; have E2 := hid e2; have Hbs1 := hid hbs1
                clear e1 e2 hbs1 hbx hwx
                go_wp2_with (at_builtin; go_must (refine wpList_append_lies _ rfl _ _ _ rfl w.heap.size 3 i0 _ 1 8 Try.underlying22 hi hz0 hz1 hz2 rfl (by decide) _ _ _ rfl (Ho1.out.alloc _) ⟨wr.heap.size, 0, none⟩ 1 1 [.int .i64 (x.many)] rfl rfl (cells_new wr _ _ _ rfl) (by simp [Value.oneCell']) (by decide) (by unfold maxLen; omega) (by omega) (by simp; omega) _ rfl ?_))
                intro g1' c1' w5 ho5 hgo5 hat5 hlt5
                have hne5 : g1' ≠ g2 := by
                  rcases hat5 with h | h
                  · intro e; subst e; exact Hne.out (by simpa [Value.ownBlock] using h)
                  · omega
                have ho25 := (Ho2.out.alloc _).kept hgo5 (by right; intro h; exact Hne.out (by cases h; rfl))
                have hg5 : w.grownBy w5 none := gr_own (gr_alloc Hg.out _) hgo5 (fun g e => by simp [Value.ownBlock] at e; omega)
                obtain ⟨b5, off5, x5, e5, hx5, cy5, cm5⟩ := bid_at (Hs.out.keep0 hg5) k hlt
                cases e5
                obtain rfl : x = x5 := by have h := Hxk.out; rw [hx5] at h; cases h; rfl
                clear hx5
                have hsz5 := hg5.size
                have hg1B5 := (ho5.lt g1' rfl)
                have Ho5 := hid ho5; clear ho5
                have Ho25 := hid ho25; clear ho25
                have Hg5 := hid hg5; clear hg5 hgo5 hat5
                have Hne5 := hid hne5; clear hne5
                clear cy cm
                have hbB : b < w.heap.size := by
                  obtain ⟨b9, off9, e9, hlt9, _⟩ := Hs.out.mem (by omega)
                  cases e9; exact hlt9
                have hne25 : some b ≠ (Value.slice (some ⟨g2, 0, none⟩) k c2).ownBlock := by simp [Value.ownBlock]; omega
                have v0 : IntKind.i64.wrap (x.many * 0) = 0 := by rw [Int.mul_zero]; rfl
                have v1 : IntKind.i64.wrap (x.many * 1) = x.many := by rw [Int.mul_one]; exact IntWalk.i64_in _ (by omega)
                have v2 : IntKind.i64.wrap x.many = x.many := IntWalk.i64_in _ (by omega)
                go_wp2_with fail
                refine wp_region_held_drew (S := fun w' => w'.cell? ⟨b, off + k * 2, none⟩ = some (.int .i64 x.yield) ∧ w'.cell? ⟨b, off + k * 2 + 1, none⟩ = some (.int .i64 x.many)) (by kernel_rfl) ⟨cy5, cm5⟩ (fun hHeld => ?_)
                refine wpAnyH_take (i := 0) (v := ?_) rfl (by kernel_rfl) (by kernel_rfl) (by kernel_rfl) (fun _ _ _ h => h) (Or.inl ⟨by rfl, ?_⟩) hHeld ?_
                rotate_left
                · intro w9 hSw
                  obtain ⟨s1, s2⟩ := hSw
                  go_simp
                  all_goals (try with_reducible rfl)
                (try simp only [Act.put]); (try simp only [List.setIfInBounds_toArray]); (try simp only [List.set_cons_succ]); (try simp only [List.set_cons_zero])
                refine wpAnyH_take (i := 1) (v := ?_) rfl (by kernel_rfl) (by kernel_rfl) (by kernel_rfl) (fun _ _ _ h => h) (Or.inl ⟨by rfl, ?_⟩) hHeld ?_
                rotate_left
                · intro w9 hSw
                  obtain ⟨s1, s2⟩ := hSw
                  go_simp
                  all_goals (try with_reducible rfl)
                (try simp only [Act.put]); (try simp only [List.setIfInBounds_toArray]); (try simp only [List.set_cons_succ]); (try simp only [List.set_cons_zero])
                refine wpAnyH_take (i := 2) (v := ?_) rfl (by kernel_rfl) (by kernel_rfl) (by kernel_rfl) (fun _ _ _ h => h) (Or.inl ⟨by rfl, ?_⟩) hHeld ?_
                rotate_left
                · intro w9 hSw
                  obtain ⟨s1, s2⟩ := hSw
                  go_simp
                  all_goals (try with_reducible rfl)
                (try simp only [Act.put]); (try simp only [List.setIfInBounds_toArray]); (try simp only [List.set_cons_succ]); (try simp only [List.set_cons_zero])
                refine wpAnyH_take (i := 3) (v := ?_) rfl (by kernel_rfl) (by kernel_rfl) (by kernel_rfl) (fun _ _ _ h => h) (Or.inl ⟨by rfl, ?_⟩) hHeld ?_
                rotate_left
                · intro w9 hSw
                  obtain ⟨s1, s2⟩ := hSw
                  go_simp
                  all_goals (try with_reducible rfl)
                (try simp only [Act.put]); (try simp only [List.setIfInBounds_toArray]); (try simp only [List.set_cons_succ]); (try simp only [List.set_cons_zero])
                refine wpAnyH_take (i := 4) (v := ?_) rfl (by kernel_rfl) (by kernel_rfl) (by kernel_rfl) (fun _ _ _ h => h) (Or.inl ⟨by rfl, ?_⟩) hHeld ?_
                rotate_left
                · intro w9 hSw
                  obtain ⟨s1, s2⟩ := hSw
                  go_simp
                  all_goals (try with_reducible rfl)
                (try simp only [Act.put]); (try simp only [List.setIfInBounds_toArray]); (try simp only [List.set_cons_succ]); (try simp only [List.set_cons_zero])
                refine wpAnyH_take (i := 5) (v := ?_) rfl (by kernel_rfl) (by kernel_rfl) (by kernel_rfl) (fun _ _ _ h => h) (Or.inl ⟨by rfl, ?_⟩) hHeld ?_
                rotate_left
                · intro w9 hSw
                  obtain ⟨s1, s2⟩ := hSw
                  go_simp
                  all_goals (try with_reducible rfl)
                (try simp only [Act.put]); (try simp only [List.setIfInBounds_toArray]); (try simp only [List.set_cons_succ]); (try simp only [List.set_cons_zero])
                refine wpAnyH_take (i := 6) (v := ?_) rfl (by kernel_rfl) (by kernel_rfl) (by kernel_rfl) (fun _ _ _ h => h) (Or.inl ⟨by rfl, ?_⟩) hHeld ?_
                rotate_left
                · intro w9 hSw
                  obtain ⟨s1, s2⟩ := hSw
                  go_simp
                  all_goals (try with_reducible rfl)
                (try simp only [Act.put]); (try simp only [List.setIfInBounds_toArray]); (try simp only [List.set_cons_succ]); (try simp only [List.set_cons_zero])
                refine wpAnyH_take (i := 7) (v := ?_) rfl (by kernel_rfl) (by kernel_rfl) (by kernel_rfl) (fun _ _ _ h => h) (Or.inl ⟨by rfl, ?_⟩) hHeld ?_
                rotate_left
                · intro w9 hSw
                  obtain ⟨s1, s2⟩ := hSw
                  go_simp
                  all_goals (try with_reducible rfl)
                (try simp only [Act.put]); (try simp only [List.setIfInBounds_toArray]); (try simp only [List.set_cons_succ]); (try simp only [List.set_cons_zero])
                refine wpAnyH_take (i := 8) (v := ?_) rfl (by kernel_rfl) (by kernel_rfl) (by kernel_rfl) (fun _ _ _ h => h) (Or.inl ⟨by rfl, ?_⟩) hHeld ?_
                rotate_left
                · intro w9 hSw
                  obtain ⟨s1, s2⟩ := hSw
                  go_simp
                  all_goals (try with_reducible rfl)
                (try simp only [Act.put]); (try simp only [List.setIfInBounds_toArray]); (try simp only [List.set_cons_succ]); (try simp only [List.set_cons_zero])
                refine wpAnyH_take (i := 9) (v := ?_) rfl (by kernel_rfl) (by kernel_rfl) (by kernel_rfl) (fun _ _ _ h => h) (Or.inl ⟨?_, ?_⟩) hHeld ?_
                rotate_left
                · go_simp
                · intro w9 hSw
                  obtain ⟨s1, s2⟩ := hSw
                  go_simp
                  all_goals (try with_reducible rfl)
                (try simp only [Act.put]); (try simp only [List.setIfInBounds_toArray]); (try simp only [List.set_cons_succ]); (try simp only [List.set_cons_zero])
                refine wpAnyH_take (i := 10) (v := ?_) rfl (by kernel_rfl) (by kernel_rfl) (by kernel_rfl) (fun _ _ _ h => h) (Or.inl ⟨?_, ?_⟩) hHeld ?_
                rotate_left
                · go_simp
                · intro w9 hSw
                  obtain ⟨s1, s2⟩ := hSw
                  go_simp
                  all_goals (try with_reducible rfl)
                (try simp only [Act.put]); (try simp only [List.setIfInBounds_toArray]); (try simp only [List.set_cons_succ]); (try simp only [List.set_cons_zero])
                refine wpAnyH_take (i := 11) (v := ?_) rfl (by kernel_rfl) (by kernel_rfl) (by kernel_rfl) (fun _ _ _ h => h) (Or.inl ⟨?_, ?_⟩) hHeld ?_
                rotate_left
                · go_simp
                · intro w9 hSw
                  obtain ⟨s1, s2⟩ := hSw
                  go_simp
                  all_goals (try with_reducible rfl)
                (try simp only [Act.put]); (try simp only [List.setIfInBounds_toArray]); (try simp only [List.set_cons_succ]); (try simp only [List.set_cons_zero])
                refine wpAnyH_take (i := 12) (v := ?_) rfl (by kernel_rfl) (by kernel_rfl) (by kernel_rfl) (fun _ _ _ h => h) (Or.inl ⟨?_, ?_⟩) hHeld ?_
                rotate_left
                · go_simp
                · intro w9 hSw
                  obtain ⟨s1, s2⟩ := hSw
                  go_simp
                  all_goals (try with_reducible rfl)
                (try simp only [Act.put]); (try simp only [List.setIfInBounds_toArray]); (try simp only [List.set_cons_succ]); (try simp only [List.set_cons_zero])
                refine wpAnyH_take (i := 13) (v := ?_) rfl (by kernel_rfl) (by kernel_rfl) (by kernel_rfl) (fun _ _ _ h => h) (Or.inl ⟨?_, ?_⟩) hHeld ?_
                rotate_left
                · go_simp
                · intro w9 hSw
                  obtain ⟨s1, s2⟩ := hSw
                  go_simp
                  all_goals (try with_reducible rfl)
                (try simp only [Act.put]); (try simp only [List.setIfInBounds_toArray]); (try simp only [List.set_cons_succ]); (try simp only [List.set_cons_zero])
                refine wpAnyH_take (i := 14) (v := ?_) rfl (by kernel_rfl) (by kernel_rfl) (by kernel_rfl) (fun _ _ _ h => h) (Or.inl ⟨?_, ?_⟩) hHeld ?_
                rotate_left
                · go_simp
                · intro w9 hSw
                  obtain ⟨s1, s2⟩ := hSw
                  go_simp
                  all_goals (try with_reducible rfl)
                (try simp only [Act.put]); (try simp only [List.setIfInBounds_toArray]); (try simp only [List.set_cons_succ]); (try simp only [List.set_cons_zero])
                refine wpAnyH_take (i := 15) (v := ?_) rfl (by kernel_rfl) (by kernel_rfl) (by kernel_rfl) (fun _ _ _ h => h) (Or.inl ⟨?_, ?_⟩) hHeld ?_
                rotate_left
                · go_simp
                · intro w9 hSw
                  obtain ⟨s1, s2⟩ := hSw
                  go_simp
                  all_goals (try with_reducible rfl)
                (try simp only [Act.put]); (try simp only [List.setIfInBounds_toArray]); (try simp only [List.set_cons_succ]); (try simp only [List.set_cons_zero])
                refine wpAnyH_take (i := 16) (v := ?_) rfl (by kernel_rfl) (by kernel_rfl) (by kernel_rfl) (fun _ _ _ h => h) (Or.inl ⟨by rfl, ?_⟩) hHeld ?_
                rotate_left
                · intro w9 hSw
                  obtain ⟨s1, s2⟩ := hSw
                  go_simp
                  all_goals (try with_reducible rfl)
                (try simp only [Act.put]); (try simp only [List.setIfInBounds_toArray]); (try simp only [List.set_cons_succ]); (try simp only [List.set_cons_zero])
                refine wpAnyH_ready (rs := [17]) (by kernel_rfl) (by simp) ?_
                refine AllReadyH.cons rfl (fun K hK => ?_) AllReadyH.nil
                go_simp
                refine (toInt_false _).mono ?_
                rintro e w1 ⟨rfl, rfl⟩
                (try simp only [])
                refine hK.out _ _ hHeld (fun _ => ?_)
                clear hK K
                try simp only [Act.put, List.setIfInBounds_toArray, List.set_cons_zero, List.set_cons_succ]
                refine wpAnyH_take (i := 18) (v := ?_) rfl (by kernel_rfl) (by kernel_rfl) (by kernel_rfl) (fun _ _ _ h => h) (Or.inl ⟨by rfl, ?_⟩) hHeld ?_
                rotate_left
                · intro w9 hSw
                  obtain ⟨s1, s2⟩ := hSw
                  go_simp
                  all_goals (try with_reducible rfl)
                (try simp only [Act.put]); (try simp only [List.setIfInBounds_toArray]); (try simp only [List.set_cons_succ]); (try simp only [List.set_cons_zero])
                refine wpAnyH_ready (rs := [19]) (by kernel_rfl) (by simp) ?_
                refine AllReadyH.cons rfl (fun K hK => ?_) AllReadyH.nil
                go_simp
                refine hK.out _ _ ?_ (fun hHeld2 => ?_)
                · exact ⟨(gr_alloc (gr0 _) _).cell hHeld.1 (by simp), (gr_alloc (gr0 _) _).cell hHeld.2 (by simp)⟩
                clear hK K
                (try simp only [Act.put]); (try simp only [List.setIfInBounds_toArray]); (try simp only [List.set_cons_succ]); (try simp only [List.set_cons_zero])
                refine wpAnyH_ready (rs := [20]) (by kernel_rfl) (by simp) ?_
                refine AllReadyH.cons rfl (fun K hK => ?_) AllReadyH.nil
                refine step_append_lies _ (by rfl) _ _ _ (by rfl) w.heap.size 3 i0 _ 1 8 Try.underlying22 hi hz0 hz1 hz2 (by rfl) (by decide) (.slice (some ⟨g2, 0, none⟩) k c2) k ((wmL (xs.take k) y).flatMap intL.cells) (by rfl) (Ho25.out.drew.alloc _) ⟨w5.drew.heap.size, 0, none⟩ 1 1 [.int .i64 (0)] (by rfl) (by rfl) (cells_new w5.drew _ _ _ rfl) (by simp [Value.oneCell']) (by decide) (by unfold maxLen; omega) (by omega) (by simp; omega) _ rfl ?_
                intro g2' c2' w7 ho7 hgo7 hat7 hlt7
                refine hK.out _ _ ?_ (fun hHeld3 => ?_)
                · exact ⟨hgo7.cell hHeld2.1 hne25, hgo7.cell hHeld2.2 hne25⟩
                clear hK K
                (try simp only [Act.put]); (try simp only [List.setIfInBounds_toArray]); (try simp only [List.set_cons_succ]); (try simp only [List.set_cons_zero])
                refine wpAnyH_take (i := 21) (v := ?_) rfl (by kernel_rfl) (by kernel_rfl) (by kernel_rfl) (fun _ _ _ h => h) (Or.inl ⟨by rfl, ?_⟩) hHeld3 ?_
                rotate_left
                · intro w9 hSw
                  obtain ⟨s1, s2⟩ := hSw
                  go_simp
                  all_goals (try with_reducible rfl)
                (try simp only [Act.put]); (try simp only [List.setIfInBounds_toArray]); (try simp only [List.set_cons_succ]); (try simp only [List.set_cons_zero])
                refine wpAnyH_done (by kernel_rfl) ?_ _
                all_goals
                  clear v0 v1 v2
                  have Ho5d := hid Ho5.out.drew
                  have Hg5d := hid (gr_drew Hg5.out)
                  have hg1B5d : g1' < w5.drew.heap.size := hg1B5.2
                  have hne7 : g1' ≠ g2' := by
                    rcases hat7 with h | h
                    · intro e; subst e; exact Hne5.out (by simpa [Value.ownBlock] using h.symm)
                    · have := hg1B5.2; have := hg1B5.1; (try simp at h); omega
                  have ho17 := (Ho5d.out.alloc _).kept hgo7 (by right; intro h; exact Hne5.out (by cases h; rfl))
                  have hg7 : w.grownBy w7 none := gr_own (gr_alloc Hg5d.out _) hgo7 (fun g e => by simp [Value.ownBlock] at e; omega)
                  have Ho7 := hid ho7; clear ho7
                  have Ho17 := hid ho17; clear ho17
                  have Hg7 := hid hg7; clear hg7 hgo7 hat7
                  have Hne7 := hid hne7; clear hne7
                  go_wp2
                  go_roundw
                  case rel =>
                    refine ⟨k + 1, g1', g2', c1', c2', by omega, by go_num, by rw [Hbs1.out]; congr 1; omega, rfl, rfl, Hne7.out, ?_, ?_, Hg7.out⟩
                    · rw [E1.out, List.flatMap_append]; exact Ho17.out
                    · rw [E2.out, List.flatMap_append]; exact Ho7.out
                  case measure => simp [intOf]; omega
        · have hbx : baseOf y x = 0 := by unfold baseOf; rw [if_neg]; unfold caseA; simp only [Bool.or_eq_true, decide_eq_true_eq]; omega
          by_cases h3 : x.yield = y
          · have hwx : wOf y x = x.many := by unfold wOf; rw [if_pos]; unfold atStop; simp only [Bool.and_eq_true, decide_eq_true_eq]; omega
            have h3b : (x.yield == y) = true := by simpa using h3
            clear h3
            ·
                rw [hbx] at hbs1 e1
                rw [hwx] at e2
                have E1 := hid e1; have E2 := hid e2; have Hbs1 := hid hbs1
                clear e1 e2 hbs1 hbx hwx
                go_wp2_with (at_builtin; go_must (refine wpList_append_lies _ rfl _ _ _ rfl w.heap.size 3 i0 _ 1 8 Try.underlying22 hi hz0 hz1 hz2 rfl (by decide) _ _ _ rfl (Ho1.out.alloc _) ⟨wr.heap.size, 0, none⟩ 1 1 [.int .i64 (0)] rfl rfl (cells_new wr _ _ _ rfl) (by simp [Value.oneCell']) (by decide) (by unfold maxLen; omega) (by omega) (by simp; omega) _ rfl ?_))
                intro g1' c1' w5 ho5 hgo5 hat5 hlt5
                have hne5 : g1' ≠ g2 := by
                  rcases hat5 with h | h
                  · intro e; subst e; exact Hne.out (by simpa [Value.ownBlock] using h)
                  · omega
                have ho25 := (Ho2.out.alloc _).kept hgo5 (by right; intro h; exact Hne.out (by cases h; rfl))
                have hg5 : w.grownBy w5 none := gr_own (gr_alloc Hg.out _) hgo5 (fun g e => by simp [Value.ownBlock] at e; omega)
                obtain ⟨b5, off5, x5, e5, hx5, cy5, cm5⟩ := bid_at (Hs.out.keep0 hg5) k hlt
                cases e5
                obtain rfl : x = x5 := by have h := Hxk.out; rw [hx5] at h; cases h; rfl
                clear hx5
                have hsz5 := hg5.size
                have hg1B5 := (ho5.lt g1' rfl)
                have Ho5 := hid ho5; clear ho5
                have Ho25 := hid ho25; clear ho25
                have Hg5 := hid hg5; clear hg5 hgo5 hat5
                have Hne5 := hid hne5; clear hne5
                clear cy cm
                have hbB : b < w.heap.size := by
                  obtain ⟨b9, off9, e9, hlt9, _⟩ := Hs.out.mem (by omega)
                  cases e9; exact hlt9
                have hne25 : some b ≠ (Value.slice (some ⟨g2, 0, none⟩) k c2).ownBlock := by simp [Value.ownBlock]; omega
                have v0 : IntKind.i64.wrap (x.many * 0) = 0 := by rw [Int.mul_zero]; rfl
                have v1 : IntKind.i64.wrap (x.many * 1) = x.many := by rw [Int.mul_one]; exact IntWalk.i64_in _ (by omega)
                have v2 : IntKind.i64.wrap x.many = x.many := IntWalk.i64_in _ (by omega)
                go_wp2_with fail
                refine wp_region_held_drew (S := fun w' => w'.cell? ⟨b, off + k * 2, none⟩ = some (.int .i64 x.yield) ∧ w'.cell? ⟨b, off + k * 2 + 1, none⟩ = some (.int .i64 x.many)) (by kernel_rfl) ⟨cy5, cm5⟩ (fun hHeld => ?_)
                refine wpAnyH_take (i := 0) (v := ?_) rfl (by kernel_rfl) (by kernel_rfl) (by kernel_rfl) (fun _ _ _ h => h) (Or.inl ⟨by rfl, ?_⟩) hHeld ?_
                rotate_left
                · intro w9 hSw
                  obtain ⟨s1, s2⟩ := hSw
                  go_simp
                  all_goals (try with_reducible rfl)
                (try simp only [Act.put]); (try simp only [List.setIfInBounds_toArray]); (try simp only [List.set_cons_succ]); (try simp only [List.set_cons_zero])
                refine wpAnyH_take (i := 1) (v := ?_) rfl (by kernel_rfl) (by kernel_rfl) (by kernel_rfl) (fun _ _ _ h => h) (Or.inl ⟨by rfl, ?_⟩) hHeld ?_
                rotate_left
                · intro w9 hSw
                  obtain ⟨s1, s2⟩ := hSw
                  go_simp
                  all_goals (try with_reducible rfl)
                (try simp only [Act.put]); (try simp only [List.setIfInBounds_toArray]); (try simp only [List.set_cons_succ]); (try simp only [List.set_cons_zero])
                refine wpAnyH_take (i := 2) (v := ?_) rfl (by kernel_rfl) (by kernel_rfl) (by kernel_rfl) (fun _ _ _ h => h) (Or.inl ⟨by rfl, ?_⟩) hHeld ?_
                rotate_left
                · intro w9 hSw
                  obtain ⟨s1, s2⟩ := hSw
                  go_simp
                  all_goals (try with_reducible rfl)
                (try simp only [Act.put]); (try simp only [List.setIfInBounds_toArray]); (try simp only [List.set_cons_succ]); (try simp only [List.set_cons_zero])
                refine wpAnyH_take (i := 3) (v := ?_) rfl (by kernel_rfl) (by kernel_rfl) (by kernel_rfl) (fun _ _ _ h => h) (Or.inl ⟨by rfl, ?_⟩) hHeld ?_
                rotate_left
                · intro w9 hSw
                  obtain ⟨s1, s2⟩ := hSw
                  go_simp
                  all_goals (try with_reducible rfl)
                (try simp only [Act.put]); (try simp only [List.setIfInBounds_toArray]); (try simp only [List.set_cons_succ]); (try simp only [List.set_cons_zero])
                refine wpAnyH_take (i := 4) (v := ?_) rfl (by kernel_rfl) (by kernel_rfl) (by kernel_rfl) (fun _ _ _ h => h) (Or.inl ⟨by rfl, ?_⟩) hHeld ?_
                rotate_left
                · intro w9 hSw
                  obtain ⟨s1, s2⟩ := hSw
                  go_simp
                  all_goals (try with_reducible rfl)
                (try simp only [Act.put]); (try simp only [List.setIfInBounds_toArray]); (try simp only [List.set_cons_succ]); (try simp only [List.set_cons_zero])
                refine wpAnyH_take (i := 5) (v := ?_) rfl (by kernel_rfl) (by kernel_rfl) (by kernel_rfl) (fun _ _ _ h => h) (Or.inl ⟨by rfl, ?_⟩) hHeld ?_
                rotate_left
                · intro w9 hSw
                  obtain ⟨s1, s2⟩ := hSw
                  go_simp
                  all_goals (try with_reducible rfl)
                (try simp only [Act.put]); (try simp only [List.setIfInBounds_toArray]); (try simp only [List.set_cons_succ]); (try simp only [List.set_cons_zero])
                refine wpAnyH_take (i := 6) (v := ?_) rfl (by kernel_rfl) (by kernel_rfl) (by kernel_rfl) (fun _ _ _ h => h) (Or.inl ⟨by rfl, ?_⟩) hHeld ?_
                rotate_left
                · intro w9 hSw
                  obtain ⟨s1, s2⟩ := hSw
                  go_simp
                  all_goals (try with_reducible rfl)
                (try simp only [Act.put]); (try simp only [List.setIfInBounds_toArray]); (try simp only [List.set_cons_succ]); (try simp only [List.set_cons_zero])
                refine wpAnyH_take (i := 7) (v := ?_) rfl (by kernel_rfl) (by kernel_rfl) (by kernel_rfl) (fun _ _ _ h => h) (Or.inl ⟨by rfl, ?_⟩) hHeld ?_
                rotate_left
                · intro w9 hSw
                  obtain ⟨s1, s2⟩ := hSw
                  go_simp
                  all_goals (try with_reducible rfl)
                (try simp only [Act.put]); (try simp only [List.setIfInBounds_toArray]); (try simp only [List.set_cons_succ]); (try simp only [List.set_cons_zero])
                refine wpAnyH_take (i := 8) (v := ?_) rfl (by kernel_rfl) (by kernel_rfl) (by kernel_rfl) (fun _ _ _ h => h) (Or.inl ⟨by rfl, ?_⟩) hHeld ?_
                rotate_left
                · intro w9 hSw
                  obtain ⟨s1, s2⟩ := hSw
                  go_simp
                  all_goals (try with_reducible rfl)
                (try simp only [Act.put]); (try simp only [List.setIfInBounds_toArray]); (try simp only [List.set_cons_succ]); (try simp only [List.set_cons_zero])
                refine wpAnyH_take (i := 9) (v := ?_) rfl (by kernel_rfl) (by kernel_rfl) (by kernel_rfl) (fun _ _ _ h => h) (Or.inl ⟨?_, ?_⟩) hHeld ?_
                rotate_left
                · go_simp
                · intro w9 hSw
                  obtain ⟨s1, s2⟩ := hSw
                  go_simp
                  all_goals (try with_reducible rfl)
                (try simp only [Act.put]); (try simp only [List.setIfInBounds_toArray]); (try simp only [List.set_cons_succ]); (try simp only [List.set_cons_zero])
                refine wpAnyH_take (i := 10) (v := ?_) rfl (by kernel_rfl) (by kernel_rfl) (by kernel_rfl) (fun _ _ _ h => h) (Or.inl ⟨?_, ?_⟩) hHeld ?_
                rotate_left
                · go_simp
                · intro w9 hSw
                  obtain ⟨s1, s2⟩ := hSw
                  go_simp
                  all_goals (try with_reducible rfl)
                (try simp only [Act.put]); (try simp only [List.setIfInBounds_toArray]); (try simp only [List.set_cons_succ]); (try simp only [List.set_cons_zero])
                refine wpAnyH_take (i := 11) (v := ?_) rfl (by kernel_rfl) (by kernel_rfl) (by kernel_rfl) (fun _ _ _ h => h) (Or.inl ⟨?_, ?_⟩) hHeld ?_
                rotate_left
                · go_simp
                · intro w9 hSw
                  obtain ⟨s1, s2⟩ := hSw
                  go_simp
                  all_goals (try with_reducible rfl)
                (try simp only [Act.put]); (try simp only [List.setIfInBounds_toArray]); (try simp only [List.set_cons_succ]); (try simp only [List.set_cons_zero])
                refine wpAnyH_take (i := 12) (v := ?_) rfl (by kernel_rfl) (by kernel_rfl) (by kernel_rfl) (fun _ _ _ h => h) (Or.inl ⟨?_, ?_⟩) hHeld ?_
                rotate_left
                · go_simp
                · intro w9 hSw
                  obtain ⟨s1, s2⟩ := hSw
                  go_simp
                  all_goals (try with_reducible rfl)
                (try simp only [Act.put]); (try simp only [List.setIfInBounds_toArray]); (try simp only [List.set_cons_succ]); (try simp only [List.set_cons_zero])
                refine wpAnyH_take (i := 13) (v := ?_) rfl (by kernel_rfl) (by kernel_rfl) (by kernel_rfl) (fun _ _ _ h => h) (Or.inl ⟨?_, ?_⟩) hHeld ?_
                rotate_left
                · go_simp
                · intro w9 hSw
                  obtain ⟨s1, s2⟩ := hSw
                  go_simp
                  all_goals (try with_reducible rfl)
                (try simp only [Act.put]); (try simp only [List.setIfInBounds_toArray]); (try simp only [List.set_cons_succ]); (try simp only [List.set_cons_zero])
                refine wpAnyH_take (i := 14) (v := ?_) rfl (by kernel_rfl) (by kernel_rfl) (by kernel_rfl) (fun _ _ _ h => h) (Or.inl ⟨?_, ?_⟩) hHeld ?_
                rotate_left
                · go_simp
                · intro w9 hSw
                  obtain ⟨s1, s2⟩ := hSw
                  go_simp
                  all_goals (try with_reducible rfl)
                (try simp only [Act.put]); (try simp only [List.setIfInBounds_toArray]); (try simp only [List.set_cons_succ]); (try simp only [List.set_cons_zero])
                refine wpAnyH_take (i := 15) (v := ?_) rfl (by kernel_rfl) (by kernel_rfl) (by kernel_rfl) (fun _ _ _ h => h) (Or.inl ⟨?_, ?_⟩) hHeld ?_
                rotate_left
                · go_simp
                · intro w9 hSw
                  obtain ⟨s1, s2⟩ := hSw
                  go_simp
                  all_goals (try with_reducible rfl)
                (try simp only [Act.put]); (try simp only [List.setIfInBounds_toArray]); (try simp only [List.set_cons_succ]); (try simp only [List.set_cons_zero])
                refine wpAnyH_take (i := 16) (v := ?_) rfl (by kernel_rfl) (by kernel_rfl) (by kernel_rfl) (fun _ _ _ h => h) (Or.inl ⟨by rfl, ?_⟩) hHeld ?_
                rotate_left
                · intro w9 hSw
                  obtain ⟨s1, s2⟩ := hSw
                  go_simp
                  all_goals (try with_reducible rfl)
                (try simp only [Act.put]); (try simp only [List.setIfInBounds_toArray]); (try simp only [List.set_cons_succ]); (try simp only [List.set_cons_zero])
                refine wpAnyH_ready (rs := [17]) (by kernel_rfl) (by simp) ?_
                refine AllReadyH.cons rfl (fun K hK => ?_) AllReadyH.nil
                go_simp
                refine (toInt_true _).mono ?_
                rintro e w1 ⟨rfl, rfl⟩
                (try simp only [])
                refine hK.out _ _ hHeld (fun _ => ?_)
                clear hK K
                try simp only [Act.put, List.setIfInBounds_toArray, List.set_cons_zero, List.set_cons_succ]
                refine wpAnyH_take (i := 18) (v := ?_) rfl (by kernel_rfl) (by kernel_rfl) (by kernel_rfl) (fun _ _ _ h => h) (Or.inl ⟨by rfl, ?_⟩) hHeld ?_
                rotate_left
                · intro w9 hSw
                  obtain ⟨s1, s2⟩ := hSw
                  go_simp
                  all_goals (try with_reducible rfl)
                (try simp only [Act.put]); (try simp only [List.setIfInBounds_toArray]); (try simp only [List.set_cons_succ]); (try simp only [List.set_cons_zero])
                refine wpAnyH_ready (rs := [19]) (by kernel_rfl) (by simp) ?_
                refine AllReadyH.cons rfl (fun K hK => ?_) AllReadyH.nil
                go_simp
                refine hK.out _ _ ?_ (fun hHeld2 => ?_)
                · exact ⟨(gr_alloc (gr0 _) _).cell hHeld.1 (by simp), (gr_alloc (gr0 _) _).cell hHeld.2 (by simp)⟩
                clear hK K
                (try simp only [Act.put]); (try simp only [List.setIfInBounds_toArray]); (try simp only [List.set_cons_succ]); (try simp only [List.set_cons_zero])
                refine wpAnyH_ready (rs := [20]) (by kernel_rfl) (by simp) ?_
                refine AllReadyH.cons rfl (fun K hK => ?_) AllReadyH.nil
                refine step_append_lies _ (by rfl) _ _ _ (by rfl) w.heap.size 3 i0 _ 1 8 Try.underlying22 hi hz0 hz1 hz2 (by rfl) (by decide) (.slice (some ⟨g2, 0, none⟩) k c2) k ((wmL (xs.take k) y).flatMap intL.cells) (by rfl) (Ho25.out.drew.alloc _) ⟨w5.drew.heap.size, 0, none⟩ 1 1 [.int .i64 (x.many)] (by rfl) (by rfl) (cells_new w5.drew _ _ _ rfl) (by simp [Value.oneCell']) (by decide) (by unfold maxLen; omega) (by omega) (by simp; omega) _ rfl ?_
                intro g2' c2' w7 ho7 hgo7 hat7 hlt7
                refine hK.out _ _ ?_ (fun hHeld3 => ?_)
                · exact ⟨hgo7.cell hHeld2.1 hne25, hgo7.cell hHeld2.2 hne25⟩
                clear hK K
                (try simp only [Act.put]); (try simp only [List.setIfInBounds_toArray]); (try simp only [List.set_cons_succ]); (try simp only [List.set_cons_zero])
                refine wpAnyH_take (i := 21) (v := ?_) rfl (by kernel_rfl) (by kernel_rfl) (by kernel_rfl) (fun _ _ _ h => h) (Or.inl ⟨by rfl, ?_⟩) hHeld3 ?_
                rotate_left
                · intro w9 hSw
                  obtain ⟨s1, s2⟩ := hSw
                  go_simp
                  all_goals (try with_reducible rfl)
                (try simp only [Act.put]); (try simp only [List.setIfInBounds_toArray]); (try simp only [List.set_cons_succ]); (try simp only [List.set_cons_zero])
                refine wpAnyH_done (by kernel_rfl) ?_ _
                all_goals
                  clear v0 v1 v2
                  have Ho5d := hid Ho5.out.drew
                  have Hg5d := hid (gr_drew Hg5.out)
                  have hg1B5d : g1' < w5.drew.heap.size := hg1B5.2
                  have hne7 : g1' ≠ g2' := by
                    rcases hat7 with h | h
                    · intro e; subst e; exact Hne5.out (by simpa [Value.ownBlock] using h.symm)
                    · have := hg1B5.2; have := hg1B5.1; (try simp at h); omega
                  have ho17 := (Ho5d.out.alloc _).kept hgo7 (by right; intro h; exact Hne5.out (by cases h; rfl))
                  have hg7 : w.grownBy w7 none := gr_own (gr_alloc Hg5d.out _) hgo7 (fun g e => by simp [Value.ownBlock] at e; omega)
                  have Ho7 := hid ho7; clear ho7
                  have Ho17 := hid ho17; clear ho17
                  have Hg7 := hid hg7; clear hg7 hgo7 hat7
                  have Hne7 := hid hne7; clear hne7
                  go_wp2
                  go_roundw
                  case rel =>
                    refine ⟨k + 1, g1', g2', c1', c2', by omega, by go_num, by rw [Hbs1.out]; congr 1; omega, rfl, rfl, Hne7.out, ?_, ?_, Hg7.out⟩
                    · rw [E1.out, List.flatMap_append]; exact Ho17.out
                    · rw [E2.out, List.flatMap_append]; exact Ho7.out
                  case measure => simp [intOf]; omega
          · have hwx : wOf y x = 0 := by unfold wOf; rw [if_neg]; unfold atStop; simp only [Bool.and_eq_true, decide_eq_true_eq]; omega
            have h3b : (x.yield == y) = false := by simpa using h3
            ·
                rw [hbx] at hbs1 e1
                rw [hwx] at e2
                have E1 := hid e1; have E2 := hid e2; have Hbs1 := hid hbs1
                clear e1 e2 hbs1 hbx hwx
                go_wp2_with (at_builtin; go_must (refine wpList_append_lies _ rfl _ _ _ rfl w.heap.size 3 i0 _ 1 8 Try.underlying22 hi hz0 hz1 hz2 rfl (by decide) _ _ _ rfl (Ho1.out.alloc _) ⟨wr.heap.size, 0, none⟩ 1 1 [.int .i64 (0)] rfl rfl (cells_new wr _ _ _ rfl) (by simp [Value.oneCell']) (by decide) (by unfold maxLen; omega) (by omega) (by simp; omega) _ rfl ?_))
                intro g1' c1' w5 ho5 hgo5 hat5 hlt5
                have hne5 : g1' ≠ g2 := by
                  rcases hat5 with h | h
                  · intro e; subst e; exact Hne.out (by simpa [Value.ownBlock] using h)
                  · omega
                have ho25 := (Ho2.out.alloc _).kept hgo5 (by right; intro h; exact Hne.out (by cases h; rfl))
                have hg5 : w.grownBy w5 none := gr_own (gr_alloc Hg.out _) hgo5 (fun g e => by simp [Value.ownBlock] at e; omega)
                obtain ⟨b5, off5, x5, e5, hx5, cy5, cm5⟩ := bid_at (Hs.out.keep0 hg5) k hlt
                cases e5
                obtain rfl : x = x5 := by have h := Hxk.out; rw [hx5] at h; cases h; rfl
                clear hx5
                have hsz5 := hg5.size
                have hg1B5 := (ho5.lt g1' rfl)
                have Ho5 := hid ho5; clear ho5
                have Ho25 := hid ho25; clear ho25
                have Hg5 := hid hg5; clear hg5 hgo5 hat5
                have Hne5 := hid hne5; clear hne5
                clear cy cm
                have hbB : b < w.heap.size := by
                  obtain ⟨b9, off9, e9, hlt9, _⟩ := Hs.out.mem (by omega)
                  cases e9; exact hlt9
                have hne25 : some b ≠ (Value.slice (some ⟨g2, 0, none⟩) k c2).ownBlock := by simp [Value.ownBlock]; omega
                have v0 : IntKind.i64.wrap (x.many * 0) = 0 := by rw [Int.mul_zero]; rfl
                have v1 : IntKind.i64.wrap (x.many * 1) = x.many := by rw [Int.mul_one]; exact IntWalk.i64_in _ (by omega)
                have v2 : IntKind.i64.wrap x.many = x.many := IntWalk.i64_in _ (by omega)
                go_wp2_with fail
                refine wp_region_held_drew (S := fun w' => w'.cell? ⟨b, off + k * 2, none⟩ = some (.int .i64 x.yield) ∧ w'.cell? ⟨b, off + k * 2 + 1, none⟩ = some (.int .i64 x.many)) (by kernel_rfl) ⟨cy5, cm5⟩ (fun hHeld => ?_)
                refine wpAnyH_take (i := 0) (v := ?_) rfl (by kernel_rfl) (by kernel_rfl) (by kernel_rfl) (fun _ _ _ h => h) (Or.inl ⟨by rfl, ?_⟩) hHeld ?_
                rotate_left
                · intro w9 hSw
                  obtain ⟨s1, s2⟩ := hSw
                  go_simp
                  all_goals (try with_reducible rfl)
                (try simp only [Act.put]); (try simp only [List.setIfInBounds_toArray]); (try simp only [List.set_cons_succ]); (try simp only [List.set_cons_zero])
                refine wpAnyH_take (i := 1) (v := ?_) rfl (by kernel_rfl) (by kernel_rfl) (by kernel_rfl) (fun _ _ _ h => h) (Or.inl ⟨by rfl, ?_⟩) hHeld ?_
                rotate_left
                · intro w9 hSw
                  obtain ⟨s1, s2⟩ := hSw
                  go_simp
                  all_goals (try with_reducible rfl)
                (try simp only [Act.put]); (try simp only [List.setIfInBounds_toArray]); (try simp only [List.set_cons_succ]); (try simp only [List.set_cons_zero])
                refine wpAnyH_take (i := 2) (v := ?_) rfl (by kernel_rfl) (by kernel_rfl) (by kernel_rfl) (fun _ _ _ h => h) (Or.inl ⟨by rfl, ?_⟩) hHeld ?_
                rotate_left
                · intro w9 hSw
                  obtain ⟨s1, s2⟩ := hSw
                  go_simp
                  all_goals (try with_reducible rfl)
                (try simp only [Act.put]); (try simp only [List.setIfInBounds_toArray]); (try simp only [List.set_cons_succ]); (try simp only [List.set_cons_zero])
                refine wpAnyH_take (i := 3) (v := ?_) rfl (by kernel_rfl) (by kernel_rfl) (by kernel_rfl) (fun _ _ _ h => h) (Or.inl ⟨by rfl, ?_⟩) hHeld ?_
                rotate_left
                · intro w9 hSw
                  obtain ⟨s1, s2⟩ := hSw
                  go_simp
                  all_goals (try with_reducible rfl)
                (try simp only [Act.put]); (try simp only [List.setIfInBounds_toArray]); (try simp only [List.set_cons_succ]); (try simp only [List.set_cons_zero])
                refine wpAnyH_take (i := 4) (v := ?_) rfl (by kernel_rfl) (by kernel_rfl) (by kernel_rfl) (fun _ _ _ h => h) (Or.inl ⟨by rfl, ?_⟩) hHeld ?_
                rotate_left
                · intro w9 hSw
                  obtain ⟨s1, s2⟩ := hSw
                  go_simp
                  all_goals (try with_reducible rfl)
                (try simp only [Act.put]); (try simp only [List.setIfInBounds_toArray]); (try simp only [List.set_cons_succ]); (try simp only [List.set_cons_zero])
                refine wpAnyH_take (i := 5) (v := ?_) rfl (by kernel_rfl) (by kernel_rfl) (by kernel_rfl) (fun _ _ _ h => h) (Or.inl ⟨by rfl, ?_⟩) hHeld ?_
                rotate_left
                · intro w9 hSw
                  obtain ⟨s1, s2⟩ := hSw
                  go_simp
                  all_goals (try with_reducible rfl)
                (try simp only [Act.put]); (try simp only [List.setIfInBounds_toArray]); (try simp only [List.set_cons_succ]); (try simp only [List.set_cons_zero])
                refine wpAnyH_take (i := 6) (v := ?_) rfl (by kernel_rfl) (by kernel_rfl) (by kernel_rfl) (fun _ _ _ h => h) (Or.inl ⟨by rfl, ?_⟩) hHeld ?_
                rotate_left
                · intro w9 hSw
                  obtain ⟨s1, s2⟩ := hSw
                  go_simp
                  all_goals (try with_reducible rfl)
                (try simp only [Act.put]); (try simp only [List.setIfInBounds_toArray]); (try simp only [List.set_cons_succ]); (try simp only [List.set_cons_zero])
                refine wpAnyH_take (i := 7) (v := ?_) rfl (by kernel_rfl) (by kernel_rfl) (by kernel_rfl) (fun _ _ _ h => h) (Or.inl ⟨by rfl, ?_⟩) hHeld ?_
                rotate_left
                · intro w9 hSw
                  obtain ⟨s1, s2⟩ := hSw
                  go_simp
                  all_goals (try with_reducible rfl)
                (try simp only [Act.put]); (try simp only [List.setIfInBounds_toArray]); (try simp only [List.set_cons_succ]); (try simp only [List.set_cons_zero])
                refine wpAnyH_take (i := 8) (v := ?_) rfl (by kernel_rfl) (by kernel_rfl) (by kernel_rfl) (fun _ _ _ h => h) (Or.inl ⟨by rfl, ?_⟩) hHeld ?_
                rotate_left
                · intro w9 hSw
                  obtain ⟨s1, s2⟩ := hSw
                  go_simp
                  all_goals (try with_reducible rfl)
                (try simp only [Act.put]); (try simp only [List.setIfInBounds_toArray]); (try simp only [List.set_cons_succ]); (try simp only [List.set_cons_zero])
                refine wpAnyH_take (i := 9) (v := ?_) rfl (by kernel_rfl) (by kernel_rfl) (by kernel_rfl) (fun _ _ _ h => h) (Or.inl ⟨?_, ?_⟩) hHeld ?_
                rotate_left
                · go_simp
                · intro w9 hSw
                  obtain ⟨s1, s2⟩ := hSw
                  go_simp
                  all_goals (try with_reducible rfl)
                (try simp only [Act.put]); (try simp only [List.setIfInBounds_toArray]); (try simp only [List.set_cons_succ]); (try simp only [List.set_cons_zero])
                refine wpAnyH_take (i := 10) (v := ?_) rfl (by kernel_rfl) (by kernel_rfl) (by kernel_rfl) (fun _ _ _ h => h) (Or.inl ⟨?_, ?_⟩) hHeld ?_
                rotate_left
                · go_simp
                · intro w9 hSw
                  obtain ⟨s1, s2⟩ := hSw
                  go_simp
                  all_goals (try with_reducible rfl)
                (try simp only [Act.put]); (try simp only [List.setIfInBounds_toArray]); (try simp only [List.set_cons_succ]); (try simp only [List.set_cons_zero])
                refine wpAnyH_take (i := 11) (v := ?_) rfl (by kernel_rfl) (by kernel_rfl) (by kernel_rfl) (fun _ _ _ h => h) (Or.inl ⟨?_, ?_⟩) hHeld ?_
                rotate_left
                · go_simp
                · intro w9 hSw
                  obtain ⟨s1, s2⟩ := hSw
                  go_simp
                  all_goals (try with_reducible rfl)
                (try simp only [Act.put]); (try simp only [List.setIfInBounds_toArray]); (try simp only [List.set_cons_succ]); (try simp only [List.set_cons_zero])
                refine wpAnyH_take (i := 12) (v := ?_) rfl (by kernel_rfl) (by kernel_rfl) (by kernel_rfl) (fun _ _ _ h => h) (Or.inl ⟨?_, ?_⟩) hHeld ?_
                rotate_left
                · go_simp
                · intro w9 hSw
                  obtain ⟨s1, s2⟩ := hSw
                  go_simp
                  all_goals (try with_reducible rfl)
                (try simp only [Act.put]); (try simp only [List.setIfInBounds_toArray]); (try simp only [List.set_cons_succ]); (try simp only [List.set_cons_zero])
                refine wpAnyH_take (i := 13) (v := ?_) rfl (by kernel_rfl) (by kernel_rfl) (by kernel_rfl) (fun _ _ _ h => h) (Or.inl ⟨?_, ?_⟩) hHeld ?_
                rotate_left
                · go_simp
                · intro w9 hSw
                  obtain ⟨s1, s2⟩ := hSw
                  go_simp
                  all_goals (try with_reducible rfl)
                (try simp only [Act.put]); (try simp only [List.setIfInBounds_toArray]); (try simp only [List.set_cons_succ]); (try simp only [List.set_cons_zero])
                refine wpAnyH_take (i := 14) (v := ?_) rfl (by kernel_rfl) (by kernel_rfl) (by kernel_rfl) (fun _ _ _ h => h) (Or.inl ⟨?_, ?_⟩) hHeld ?_
                rotate_left
                · go_simp
                · intro w9 hSw
                  obtain ⟨s1, s2⟩ := hSw
                  go_simp
                  all_goals (try with_reducible rfl)
                (try simp only [Act.put]); (try simp only [List.setIfInBounds_toArray]); (try simp only [List.set_cons_succ]); (try simp only [List.set_cons_zero])
                refine wpAnyH_take (i := 15) (v := ?_) rfl (by kernel_rfl) (by kernel_rfl) (by kernel_rfl) (fun _ _ _ h => h) (Or.inl ⟨?_, ?_⟩) hHeld ?_
                rotate_left
                · go_simp
                · intro w9 hSw
                  obtain ⟨s1, s2⟩ := hSw
                  go_simp
                  all_goals (try with_reducible rfl)
                (try simp only [Act.put]); (try simp only [List.setIfInBounds_toArray]); (try simp only [List.set_cons_succ]); (try simp only [List.set_cons_zero])
                refine wpAnyH_take (i := 16) (v := ?_) rfl (by kernel_rfl) (by kernel_rfl) (by kernel_rfl) (fun _ _ _ h => h) (Or.inl ⟨by rfl, ?_⟩) hHeld ?_
                rotate_left
                · intro w9 hSw
                  obtain ⟨s1, s2⟩ := hSw
                  go_simp
                  all_goals (try with_reducible rfl)
                (try simp only [Act.put]); (try simp only [List.setIfInBounds_toArray]); (try simp only [List.set_cons_succ]); (try simp only [List.set_cons_zero])
                refine wpAnyH_ready (rs := [17]) (by kernel_rfl) (by simp) ?_
                refine AllReadyH.cons rfl (fun K hK => ?_) AllReadyH.nil
                go_simp
                refine (toInt_false _).mono ?_
                rintro e w1 ⟨rfl, rfl⟩
                (try simp only [])
                refine hK.out _ _ hHeld (fun _ => ?_)
                clear hK K
                try simp only [Act.put, List.setIfInBounds_toArray, List.set_cons_zero, List.set_cons_succ]
                refine wpAnyH_take (i := 18) (v := ?_) rfl (by kernel_rfl) (by kernel_rfl) (by kernel_rfl) (fun _ _ _ h => h) (Or.inl ⟨by rfl, ?_⟩) hHeld ?_
                rotate_left
                · intro w9 hSw
                  obtain ⟨s1, s2⟩ := hSw
                  go_simp
                  all_goals (try with_reducible rfl)
                (try simp only [Act.put]); (try simp only [List.setIfInBounds_toArray]); (try simp only [List.set_cons_succ]); (try simp only [List.set_cons_zero])
                refine wpAnyH_ready (rs := [19]) (by kernel_rfl) (by simp) ?_
                refine AllReadyH.cons rfl (fun K hK => ?_) AllReadyH.nil
                go_simp
                refine hK.out _ _ ?_ (fun hHeld2 => ?_)
                · exact ⟨(gr_alloc (gr0 _) _).cell hHeld.1 (by simp), (gr_alloc (gr0 _) _).cell hHeld.2 (by simp)⟩
                clear hK K
                (try simp only [Act.put]); (try simp only [List.setIfInBounds_toArray]); (try simp only [List.set_cons_succ]); (try simp only [List.set_cons_zero])
                refine wpAnyH_ready (rs := [20]) (by kernel_rfl) (by simp) ?_
                refine AllReadyH.cons rfl (fun K hK => ?_) AllReadyH.nil
                refine step_append_lies _ (by rfl) _ _ _ (by rfl) w.heap.size 3 i0 _ 1 8 Try.underlying22 hi hz0 hz1 hz2 (by rfl) (by decide) (.slice (some ⟨g2, 0, none⟩) k c2) k ((wmL (xs.take k) y).flatMap intL.cells) (by rfl) (Ho25.out.drew.alloc _) ⟨w5.drew.heap.size, 0, none⟩ 1 1 [.int .i64 (0)] (by rfl) (by rfl) (cells_new w5.drew _ _ _ rfl) (by simp [Value.oneCell']) (by decide) (by unfold maxLen; omega) (by omega) (by simp; omega) _ rfl ?_
                intro g2' c2' w7 ho7 hgo7 hat7 hlt7
                refine hK.out _ _ ?_ (fun hHeld3 => ?_)
                · exact ⟨hgo7.cell hHeld2.1 hne25, hgo7.cell hHeld2.2 hne25⟩
                clear hK K
                (try simp only [Act.put]); (try simp only [List.setIfInBounds_toArray]); (try simp only [List.set_cons_succ]); (try simp only [List.set_cons_zero])
                refine wpAnyH_take (i := 21) (v := ?_) rfl (by kernel_rfl) (by kernel_rfl) (by kernel_rfl) (fun _ _ _ h => h) (Or.inl ⟨by rfl, ?_⟩) hHeld3 ?_
                rotate_left
                · intro w9 hSw
                  obtain ⟨s1, s2⟩ := hSw
                  go_simp
                  all_goals (try with_reducible rfl)
                (try simp only [Act.put]); (try simp only [List.setIfInBounds_toArray]); (try simp only [List.set_cons_succ]); (try simp only [List.set_cons_zero])
                refine wpAnyH_done (by kernel_rfl) ?_ _
                all_goals
                  clear v0 v1 v2
                  have Ho5d := hid Ho5.out.drew
                  have Hg5d := hid (gr_drew Hg5.out)
                  have hg1B5d : g1' < w5.drew.heap.size := hg1B5.2
                  have hne7 : g1' ≠ g2' := by
                    rcases hat7 with h | h
                    · intro e; subst e; exact Hne5.out (by simpa [Value.ownBlock] using h.symm)
                    · have := hg1B5.2; have := hg1B5.1; (try simp at h); omega
                  have ho17 := (Ho5d.out.alloc _).kept hgo7 (by right; intro h; exact Hne5.out (by cases h; rfl))
                  have hg7 : w.grownBy w7 none := gr_own (gr_alloc Hg5d.out _) hgo7 (fun g e => by simp [Value.ownBlock] at e; omega)
                  have Ho7 := hid ho7; clear ho7
                  have Ho17 := hid ho17; clear ho17
                  have Hg7 := hid hg7; clear hg7 hgo7 hat7
                  have Hne7 := hid hne7; clear hne7
                  go_wp2
                  go_roundw
                  case rel =>
                    refine ⟨k + 1, g1', g2', c1', c2', by omega, by go_num, by rw [Hbs1.out]; congr 1; omega, rfl, rfl, Hne7.out, ?_, ?_, Hg7.out⟩
                    · rw [E1.out, List.flatMap_append]; exact Ho17.out
                    · rw [E2.out, List.flatMap_append]; exact Ho7.out
                  case measure => simp [intOf]; omega
    · obtain rfl : k = n := by omega
      rw [take_len xs k hl] at *
      have Hg := hid hg; clear hg
      obtain ⟨G1, G2, G3⟩ := G.out
      have hbl : (baseL xs y).length = k := by rw [base_len]; exact hl
      have ho := Ow.own_ints Ho1.out (by omega)
      obtain ⟨_, hc1⟩ : True ∧ k ≤ c1 := by obtain ⟨_, _, e, hc⟩ := own_form Ho1.out; cases e; exact ⟨trivial, hc⟩
      rcases G3 with ⟨y1, y2, y3, y4⟩ | ⟨p1, p2, p3, p4, p5, p6, p7, p8⟩
      · have Hn := hid (Hnone.out y4)
        have HO := hid ho
        clear G1 G2 y2 y3 y4 ho
        go_wp2
        go_ret
        exact ⟨_, c1, rfl, by rw [Hn.out]; exact HO.out, hc1, Hg.out⟩
      · obtain ⟨q1, q2, q3⟩ := quos_facts (leftA xs y m) (subW xs y) p3 p4 (by omega) p6
        have hms := marks_sub xs y
        have hqq := quos_mask (leftA xs y m) (maskL xs y) (subW xs y) hms
        have hqs : sumI (quos (leftA xs y m) (wmL xs y)) = sumI (quos (leftA xs y m) (subW xs y)) := by
          rw [wm_expand, hqq, expand_sum _ _ (by unfold quos; rw [List.length_map]; exact hms)]
        have hsubl : (subW xs y).length ≤ k := by
          unfold subW; rw [List.length_map, ← hl]; exact List.length_filter_le _ _
        have hla : m - sumI (baseL xs y) = leftA xs y m := rfl
        rw [hla]
        have S := hid (prorate_any (leftA xs y m) _ k c2 (wmL xs y) wr (Ow.own_ints Ho2.out (by omega)).sl (by omega) (by omega) (by omega) p6 (fun x hx => by
            rw [wm_expand] at hx
            rcases expand_mem _ _ _ hx with h | h
            · omega
            · have := G1 x h; omega) (by rw [wm_expand, expand_sum _ _ hms]; exact p4) (by rw [hqs]; exact q1) (by rw [hqs]; omega) (fun x hx => by
            rw [wm_expand, hqq] at hx
            rcases expand_mem _ _ _ hx with h | h
            · omega
            · exact q3 x h))
        have Hpar : Hid (specF (leftA xs y m) (wmL xs y) = expand (maskL xs y) (sharesF (leftA xs y m) (subW xs y))) := hid (by
          rw [wm_expand]; exact shares_mask _ _ _ hms p4 q1 (by unfold leftOf; omega))
        have hpl : (expand (maskL xs y) (sharesF (leftA xs y m) (subW xs y))).length = k := by rw [expand_len, mask_len]; exact hl
        have Hbd : Hid (∀ (j : Nat) (u v : Int), (baseL xs y)[j]? = some u → (expand (maskL xs y) (sharesF (leftA xs y m) (subW xs y)))[j]? = some v → 0 ≤ u ∧ u ≤ 9999 ∧ -1 ≤ v ∧ v ≤ 1000000001) := hid (fun j u v hu hv => by
          have h1 : 0 ≤ u ∧ u ≤ 9999 := by
            unfold baseL at hu
            rw [List.getElem?_map] at hu
            cases hx : xs[j]? with
            | none => rw [hx] at hu; cases hu
            | some x =>
              rw [hx] at hu
              obtain rfl : baseOf y x = u := by simpa using hu
              have := F5.out x (List.mem_of_getElem? hx)
              unfold baseOf
              split <;> omega
          have h2 : 0 ≤ v ∧ v ≤ 1000000001 := by
            rcases expand_mem _ _ _ (List.mem_of_getElem? hv) with h | h
            · omega
            · obtain ⟨i, hi⟩ := List.getElem?_of_mem h
              have hil := lt_of_at hi
              rw [shares_len] at hil
              have g3 : (sharesF (leftA xs y m) (subW xs y)).getD i 0 = v := by rw [List.getD_eq_getElem?_getD, hi]; rfl
              have hq := q3 ((quos (leftA xs y m) (subW xs y)).getD i 0) (by
                rw [List.getD_eq_getElem?_getD, List.getElem?_eq_getElem (by unfold quos; rw [List.length_map]; exact hil)]
                simp)
              rw [quo_at] at hq
              rcases shares_at (leftA xs y m) (subW xs y) i hil with ⟨a, _⟩ | ⟨a, _⟩ <;> omega
          omega)
        have HO := hid ho
        clear G1 G2 p2 p3 p4 p5 p7 p8 q1 q2 q3 hla hqq hqs hms ho hsubl
        go_wp2_with fail
        refine S.out.mono ?_
        rintro e w7 ⟨a7, c7, rfl, ho7, hc7, hg7⟩
        rw [Hpar.out] at ho7
        have Ho7 := hid ho7; clear ho7
        have HO7 := hid (HO.out.keep0 hg7)
        have Hg7 := hid (gr_trans0 Hg.out hg7)
        clear hg7 S HO
        generalize expand (maskL xs y) (sharesF (leftA xs y m) (subW xs y)) = P at *
        go_wp2_with fail
        go_loopw [12] (fun i wr' => ∃ j : Nat, j ≤ k ∧ i = .int .i64 j ∧ Ow intL wr' w.heap.size (some ⟨g1, 0, none⟩) k ((addL (baseL xs y) P).take j ++ (baseL xs y).drop j) ∧ w7.grownBy wr' (some g1)) (fun i _ => k - (intOf i).toNat)
        case atStart => exact ⟨0, by omega, rfl, by simpa using HO7.out, gr_refl _ _⟩
        case round =>
          obtain ⟨j, hj, rfl, hOj, hgj⟩ := hrel
          by_cases hjl : j < k
          · obtain ⟨b1, o1, v, e1, hv, cv⟩ := int_at (Ho7.out.sl.keep hgj (fun h0 b off e1 e2 => by
              obtain ⟨b', off', e', hb', _⟩ := Ho7.out.mem h0
              rw [e1] at e'; cases e'; cases e2; omega)) j hjl
            subst e1
            obtain ⟨u, hu⟩ : ∃ u, (baseL xs y)[j]? = some u := ⟨_, List.getElem?_eq_getElem (by omega)⟩
            obtain ⟨b3, o3, u', e3, hu', hB3, _, hf3, hc3⟩ := hOj.at j hjl
            simp only [Option.some.injEq, Addr.mk.injEq, and_true] at e3
            obtain ⟨rfl, rfl⟩ := e3
            rw [addL_here _ _ j u hu (by omega)] at hu'
            obtain rfl := Option.some.inj hu'
            have cu : wr.cell? ⟨g1, j, none⟩ = some (.int .i64 u) := by have := hc3 0 _ rfl; simpa [intL] using this
            have fu : wr.frozen? ⟨g1, j, none⟩ = false := hf3 _
            have hbd := Hbd.out j u v hu hv
            have hstep := addL_take _ _ j u v hu hv
            have hh := addL_here _ _ j u hu (show (baseL xs y).length = P.length by omega)
            have Hh := hid hh; have Hstep := hid hstep
            have HOj := hid hOj; have Hgj := hid hgj
            clear hh hstep hOj hgj hc3 hf3 hu hv hu'
            have hj3 : (0 : Int) ≤ j := by omega
            have hj2 : (j : Int) < k := by omega
            have huv : IntKind.i64.wrap (u + v) = u + v := IntWalk.i64_in _ (by omega)
            go_wp2_with fail
            go_still_tail 11, (by kernel_rfl)
            change wpList _ _ _ _ _ wr.drew
            go_wp2
            go_roundw
            case rel =>
              refine ⟨j + 1, by omega, by go_num, ?_, ?_⟩
              · rw [← Hstep.out]
                exact (HOj.out.keep0 (gr_drew (gr0 _))).set j 0 u (u + v) (.int .i64 (u + v)) Hh.out (by simp [intL]) rfl j (by simp [intL])
              · exact gr_setCell (gr_drew Hgj.out) (.inl rfl) _
            case measure => simp [intOf]; omega
          · obtain rfl : j = k := by omega
            have hfin := hOj
            rw [List.drop_of_length_le (by omega), List.append_nil, take_len _ _ (by rw [addL_len _ _ (by omega)]; exact hbl), ← Hfin.out] at hfin
            have HF := hid hfin
            have Hgj := hid hgj
            clear hOj hfin hgj
            go_wp2
            go_ret
            exact ⟨_, c1, rfl, HF.out, hc1, gr_own Hg7.out Hgj.out (fun g e => by cases e; exact hg1B)⟩

end Go.Proofs.Ytecboohippbliaa
