/- Packed: TradeWalk. -/
import Derived.Test.YtielicmjdhmcjaaGreatDoorRows
import Derived.Test.YtielicmjdhmcjaaGreatDoorPk21
import Derived.Deep.QuietTactic
import Derived.BigQuiet
/- Trades of the program and of the reference: when they are valid, the position that they leave. -/
namespace Go.Proofs.YtielicmjdhmcjaaGreatDoor
open Go.RowKit

theorem priceValid_any (n : Int) (w : World) :
    Calls Tryz.prog 124 #[.int .i64 n] w fun e w' => e = .returned (.bool (withinB n 1 50000)) ∧ w = w' := by
  go_enter Tryz.func124, Tryz.ntmps124
  go_wp2_with (go_at_call 113; refine (within_any _ _ _ _).mono ?_; rintro e w' ⟨rfl, rfl⟩)
  go_ret
  exact ⟨rfl, rfl⟩
theorem flipW {P : Program} {f : FuncId} {args : Array Value} {w : World} {v : Value} (h : Calls P f args w fun e w' => e = .returned v ∧ w = w') : Calls P f args w fun e w' => e = .returned v ∧ w' = w := h.mono fun _ _ ⟨a, b⟩ => ⟨a, b.symm⟩

theorem okAt_no {xs : List Trade} {k : Nat} {x : Trade} (hx : xs[k]? = some x) (h : trB x = false) : okAt xs k = false := by
  unfold okAt; rw [List.getD_eq_getElem?_getD, hx]; simp [h]
theorem okAt_fall {xs : List Trade} {k : Nat} {x y : Trade} (hx : xs[k + 1]? = some x) (hy : xs[k]? = some y) (h : x.day < y.day) : okAt xs (k + 1) = false := by
  rw [okAt_eq hx y (fun _ => by simpa using hy)]
  simp; intro; omega
theorem okAt_first {xs : List Trade} {x : Trade} (hx : xs[0]? = some x) (h : trB x = true) : okAt xs 0 = true := by
  rw [okAt_eq hx ⟨0, 0, 0⟩ (fun h => by omega), h]; rfl
theorem okAt_next {xs : List Trade} {k : Nat} {x y : Trade} (hx : xs[k + 1]? = some x) (hy : xs[k]? = some y) (h : trB x = true) (hd : ¬ x.day < y.day) : okAt xs (k + 1) = true := by
  rw [okAt_eq hx y (fun _ => by simpa using hy), h, decide_eq_true (show y.day ≤ x.day by omega)]; simp

set_option maxRecDepth 100000 in
set_option maxHeartbeats 2000000 in
theorem ValidTrades_any (a : Option Addr) (n cap : Nat) (xs : List Trade) (w : World) (hs : Sl tradeL w a n xs) :
    Calls Tryz.prog 86 #[.slice a n cap] w fun e w' => e = .returned (.bool (tradesB xs)) ∧ w.grownBy w' none := by
  have hbig := hs.big
  unfold maxLen at hbig
  have Hs := hid hs; clear hs
  have hl := Hs.out.len
  by_cases hn : 16 < n
  · have HT := hid (trades_big (xs := xs) (by omega))
    have hd : decide ((16 : Int) < n) = true := by simp; omega
    clear hl hn
    go_enter Tryz.func86, Tryz.ntmps86
    go_wp2_with fail
    go_ret
    exact ⟨ret_bool HT.out.symm, gr0 _⟩
  have hd16 : decide ((16 : Int) < n) = false := by simp; omega
  go_enter Tryz.func86, Tryz.ntmps86
  go_wp2_with fail
  go_loopw [10] (fun i wr => ∃ k : Nat, k ≤ n ∧ i = .int .i64 k ∧ Hid (upto xs k = true) ∧ w.grownBy wr none) (fun i _ => n - (intOf i).toNat)
  case atStart => exact ⟨0, by omega, rfl, hid rfl, gr0 _⟩
  case round =>
    obtain ⟨k, hk, rfl, Hu, hg⟩ := hrel
    have Hg := hid hg; clear hg
    by_cases hlt : k < n
    · have hd1 : decide ((k : Int) < n) = true := by simp; omega
      obtain ⟨b, off, ⟨xd, xm, xp⟩, rfl, hxk, h0, h1, h2⟩ := trade_at (Hs.out.keep0 Hg.out) k hlt
      rcases k with _ | k
      · simp only [Nat.zero_mul, Nat.add_zero] at h0 h1 h2
        have Hx := hid hxk; clear hxk
        go_wp2_with fail
        have hBk := heap_alloc_new wr (Obj.cells #[.int .i64 xd, .int .i64 xm, .int .i64 xp] 98)
        have HgA := gr_alloc (gr0 wr) (Obj.cells #[.int .i64 xd, .int .i64 xm, .int .i64 xp] 98)
        have Hw := hid (gr_alloc Hg.out (Obj.cells #[.int .i64 xd, .int .i64 xm, .int .i64 xp] 98))
        have e0 := blk_cell hBk 0 _ rfl
        have e1 := blk_cell hBk 1 _ rfl
        have e2 := blk_cell hBk 2 _ rfl
        clear h0 h1 h2
        clear hBk HgA
        generalize (wr.alloc (Obj.cells #[.int .i64 xd, .int .i64 xm, .int .i64 xp] 98)) = W at *
        generalize wr.heap.size = B at *
        cases hd0 : withinB xd 0 36524 with
        | false =>
          have Hfin := hid (trades_bad _ (by rw [hl]; exact hlt) (okAt_no Hx.out (by unfold trB; rw [hd0]; rfl)))
          clear hl hlt
          go_quiet (first | (go_at_call 123; exact Calls.quiet_of_same (flipW (dayValid_any _ _))) | (go_at_call 113; exact Calls.quiet_of_same (flipW (within_any _ _ _ _))) | (go_at_call 124; exact Calls.quiet_of_same (flipW (priceValid_any _ _))))
          go_wp2_with fail
          go_ret
          exact ⟨ret_bool Hfin.out.symm, gr_drewN Hw.out _⟩
        | true =>
        cases hm0 : (xm == 0) with
        | true =>
          have Hfin := hid (trades_bad _ (by rw [hl]; exact hlt) (okAt_no Hx.out (by unfold trB; rw [hd0]; simp only [bne, hm0]; rfl)))
          clear hl hlt
          go_quiet (first | (go_at_call 123; exact Calls.quiet_of_same (flipW (dayValid_any _ _))) | (go_at_call 113; exact Calls.quiet_of_same (flipW (within_any _ _ _ _))) | (go_at_call 124; exact Calls.quiet_of_same (flipW (priceValid_any _ _))))
          go_wp2_with fail
          go_ret
          exact ⟨ret_bool Hfin.out.symm, gr_drewN Hw.out _⟩
        | false =>
          cases hm1 : withinB xm (-9999) 9999 with
          | false =>
            have Hfin := hid (trades_bad _ (by rw [hl]; exact hlt) (okAt_no Hx.out (by unfold trB; rw [hd0, hm1]; simp)))
            clear hl hlt
            go_quiet (first | (go_at_call 123; exact Calls.quiet_of_same (flipW (dayValid_any _ _))) | (go_at_call 113; exact Calls.quiet_of_same (flipW (within_any _ _ _ _))) | (go_at_call 124; exact Calls.quiet_of_same (flipW (priceValid_any _ _))))
            go_wp2_with fail
            go_ret
            exact ⟨ret_bool Hfin.out.symm, gr_drewN Hw.out _⟩
          | true =>
            cases hp : withinB xp 1 50000 with
            | false =>
              have Hfin := hid (trades_bad _ (by rw [hl]; exact hlt) (okAt_no Hx.out (by unfold trB; rw [hd0, hm1, hp]; simp)))
              clear hl hlt
              go_quiet (first | (go_at_call 123; exact Calls.quiet_of_same (flipW (dayValid_any _ _))) | (go_at_call 113; exact Calls.quiet_of_same (flipW (within_any _ _ _ _))) | (go_at_call 124; exact Calls.quiet_of_same (flipW (priceValid_any _ _))))
              go_wp2_with fail
              go_ret
              exact ⟨ret_bool Hfin.out.symm, gr_drewN Hw.out _⟩
            | true =>
              have HU := hid (show upto xs (0 + 1) = true by rw [upto_succ, Hu.out]; exact (okAt_first Hx.out (by unfold trB; rw [hd0, hm1, hp]; simp only [bne, hm0]; rfl)))
              clear hl
              go_quiet (first | (go_at_call 123; exact Calls.quiet_of_same (flipW (dayValid_any _ _))) | (go_at_call 113; exact Calls.quiet_of_same (flipW (within_any _ _ _ _))) | (go_at_call 124; exact Calls.quiet_of_same (flipW (priceValid_any _ _))))
              go_wp2_with fail
              go_roundw
              case rel => exact ⟨0 + 1, by omega, by go_num, HU, gr_drewN Hw.out _⟩
              case measure => simp [intOf]; omega
      · obtain ⟨b2, off2, ⟨yd, ym, yp⟩, he2, hyk, y0, _, _⟩ := trade_at (Hs.out.keep0 Hg.out) k (by omega)
        obtain ⟨rfl, rfl⟩ : b = b2 ∧ off = off2 := by simpa using he2
        have Hy := hid hyk; clear hyk he2
        have Hx := hid hxk; clear hxk
        go_wp2_with fail
        have hBk := heap_alloc_new wr (Obj.cells #[.int .i64 xd, .int .i64 xm, .int .i64 xp] 98)
        have HgA := gr_alloc (gr0 wr) (Obj.cells #[.int .i64 xd, .int .i64 xm, .int .i64 xp] 98)
        have Hw := hid (gr_alloc Hg.out (Obj.cells #[.int .i64 xd, .int .i64 xm, .int .i64 xp] 98))
        have e0 := blk_cell hBk 0 _ rfl
        have e1 := blk_cell hBk 1 _ rfl
        have e2 := blk_cell hBk 2 _ rfl
        have y0 := HgA.cell y0 (by simp)
        clear h0 h1 h2
        clear hBk HgA
        generalize (wr.alloc (Obj.cells #[.int .i64 xd, .int .i64 xm, .int .i64 xp] 98)) = W at *
        generalize wr.heap.size = B at *
        cases hd0 : withinB xd 0 36524 with
        | false =>
          have Hfin := hid (trades_bad _ (by rw [hl]; exact hlt) (okAt_no Hx.out (by unfold trB; rw [hd0]; rfl)))
          clear hl hlt
          go_quiet (first | (go_at_call 123; exact Calls.quiet_of_same (flipW (dayValid_any _ _))) | (go_at_call 113; exact Calls.quiet_of_same (flipW (within_any _ _ _ _))) | (go_at_call 124; exact Calls.quiet_of_same (flipW (priceValid_any _ _))))
          go_wp2_with fail
          go_ret
          exact ⟨ret_bool Hfin.out.symm, gr_drewN Hw.out _⟩
        | true =>
        have u1 : IntKind.i64.wrap (((k + 1 : Nat) : Int) - 1) = (k : Int) := by rw [show (((k + 1 : Nat) : Int) - 1) = (k : Int) by omega]; exact IntWalk.i64_in _ (by omega)
        have hk1 : decide ((0 : Int) < ((k + 1 : Nat) : Int)) = true := by simp <;> omega
        by_cases hdd : xd < yd
        · have hdb : decide (xd < yd) = true := by simpa using hdd
          have Hfin := hid (trades_bad _ (by rw [hl]; exact hlt) (okAt_fall Hx.out Hy.out hdd))
          clear hl hlt
          go_quiet (first | (go_at_call 123; exact Calls.quiet_of_same (flipW (dayValid_any _ _))) | (go_at_call 113; exact Calls.quiet_of_same (flipW (within_any _ _ _ _))) | (go_at_call 124; exact Calls.quiet_of_same (flipW (priceValid_any _ _))))
          go_wp2_with fail
          go_ret
          exact ⟨ret_bool Hfin.out.symm, gr_drewN Hw.out _⟩
        · have hdb : decide (xd < yd) = false := by simpa using hdd
          cases hm0 : (xm == 0) with
          | true =>
            have Hfin := hid (trades_bad _ (by rw [hl]; exact hlt) (okAt_no Hx.out (by unfold trB; rw [hd0]; simp only [bne, hm0]; rfl)))
            clear hl hlt
            go_quiet (first | (go_at_call 123; exact Calls.quiet_of_same (flipW (dayValid_any _ _))) | (go_at_call 113; exact Calls.quiet_of_same (flipW (within_any _ _ _ _))) | (go_at_call 124; exact Calls.quiet_of_same (flipW (priceValid_any _ _))))
            go_wp2_with fail
            go_ret
            exact ⟨ret_bool Hfin.out.symm, gr_drewN Hw.out _⟩
          | false =>
            cases hm1 : withinB xm (-9999) 9999 with
            | false =>
              have Hfin := hid (trades_bad _ (by rw [hl]; exact hlt) (okAt_no Hx.out (by unfold trB; rw [hd0, hm1]; simp)))
              clear hl hlt
              go_quiet (first | (go_at_call 123; exact Calls.quiet_of_same (flipW (dayValid_any _ _))) | (go_at_call 113; exact Calls.quiet_of_same (flipW (within_any _ _ _ _))) | (go_at_call 124; exact Calls.quiet_of_same (flipW (priceValid_any _ _))))
              go_wp2_with fail
              go_ret
              exact ⟨ret_bool Hfin.out.symm, gr_drewN Hw.out _⟩
            | true =>
              cases hp : withinB xp 1 50000 with
              | false =>
                have Hfin := hid (trades_bad _ (by rw [hl]; exact hlt) (okAt_no Hx.out (by unfold trB; rw [hd0, hm1, hp]; simp)))
                clear hl hlt
                go_quiet (first | (go_at_call 123; exact Calls.quiet_of_same (flipW (dayValid_any _ _))) | (go_at_call 113; exact Calls.quiet_of_same (flipW (within_any _ _ _ _))) | (go_at_call 124; exact Calls.quiet_of_same (flipW (priceValid_any _ _))))
                go_wp2_with fail
                go_ret
                exact ⟨ret_bool Hfin.out.symm, gr_drewN Hw.out _⟩
              | true =>
                have HU := hid (show upto xs ((k + 1) + 1) = true by rw [upto_succ, Hu.out]; exact ((fun h => okAt_next Hx.out Hy.out h hdd) (by unfold trB; rw [hd0, hm1, hp]; simp only [bne, hm0]; rfl)))
                clear hl
                go_quiet (first | (go_at_call 123; exact Calls.quiet_of_same (flipW (dayValid_any _ _))) | (go_at_call 113; exact Calls.quiet_of_same (flipW (within_any _ _ _ _))) | (go_at_call 124; exact Calls.quiet_of_same (flipW (priceValid_any _ _))))
                go_wp2_with fail
                go_roundw
                case rel => exact ⟨(k + 1) + 1, by omega, by go_num, HU, gr_drewN Hw.out _⟩
                case measure => simp [intOf]; omega
    · have hd1 : decide ((k : Int) < n) = false := by simp; omega
      obtain rfl : k = n := by omega
      have HT := hid (trades_all (xs := xs) (by omega) (by rw [hl]; exact Hu.out))
      go_wp2_with fail
      go_ret
      exact ⟨ret_bool HT.out.symm, Hg.out⟩

set_option maxRecDepth 100000 in
set_option maxHeartbeats 1000000 in
theorem PositionAt_any (a : Option Addr) (n cap : Nat) (xs : List Trade) (day : Int) (w : World) (hs : Sl tradeL w a n xs) :
    Calls Tryz.prog 55 #[.slice a n cap, .int .i64 day] w fun e w' => e = .returned (.int .i64 (posF xs day)) ∧ w.grownBy w' none := by
  have hbig := hs.big
  unfold maxLen at hbig
  have HV := hid (fun wx (h : Sl tradeL wx a n xs) => ValidTrades_any a n cap xs wx h)
  have Hs := hid hs; clear hs
  have hl := Hs.out.len
  cases ht : tradesB xs with
  | false =>
    have HT := hid (show posF xs day = 0 by unfold posF; rw [ht]; rfl)
    rw [ht] at HV
    clear ht hl
    go_enter Tryz.func55, Tryz.ntmps55
    go_wp2_with fail
    refine (HV.out w Hs.out).mono ?_
    rintro e w1 ⟨rfl, hg⟩
    have Hg := hid hg; clear hg
    go_wp2_with fail
    go_ret
    exact ⟨ret_int HT.out.symm, Hg.out⟩
  | true =>
    have HT := hid (show posF xs day = posL day xs by unfold posF; rw [ht]; rfl)
    have Hb := hid (fun (k : Nat) => pos_bd day (xs.take k) (fun x hx => by
      obtain ⟨j, hj, rfl⟩ := List.getElem_of_mem (List.mem_of_mem_take hx)
      exact (trB_bd (trades_at ht j _ (List.getElem?_eq_getElem hj))).2.2.1))
    have Hat := hid (fun k x (h : xs[k]? = some x) => (trB_bd (trades_at ht k x h)).2.2.1)
    have hn16 := trades_len ht
    rw [ht] at HV
    clear ht
    go_enter Tryz.func55, Tryz.ntmps55
    go_wp2_with fail
    refine (HV.out w Hs.out).mono ?_
    rintro e w1 ⟨rfl, hg⟩
    have Hg1 := hid hg; clear hg
    go_wp2_with fail
    go_loopw [5, 14] (fun s i wr => ∃ k : Nat, k ≤ n ∧ i = .int .i64 k ∧ s = .int .i64 (posL day (xs.take k)) ∧ w.grownBy wr none) (fun _ i _ => n - (intOf i).toNat)
    case atStart => exact ⟨0, by omega, rfl, rfl, Hg1.out⟩
    case round =>
      clear Hg1
      obtain ⟨k, hk, rfl, rfl, hg⟩ := hrel
      have Hg := hid hg; clear hg
      by_cases hlt : k < n
      · have hd1 : decide ((k : Int) < n) = true := by simp; omega
        obtain ⟨b, off, ⟨xd, xm, xp⟩, rfl, hxk, h0, h1, h2⟩ := trade_at (Hs.out.keep0 Hg.out) k hlt
        have Hx := hid hxk; clear hxk
        have Hw := hid (gr_alloc Hg.out (Obj.cells #[.int .i64 xd, .int .i64 xm, .int .i64 xp] 98))
        have hb := Hb.out k
        rw [List.length_take, show min k xs.length = k by omega] at hb
        have hm := Hat.out k _ Hx.out
        simp only at hm
        have HS := hid (show posL day (xs.take (k + 1)) = posS day (posL day (xs.take k)) ⟨xd, xm, xp⟩ by rw [take_snoc _ _ _ Hx.out, pos_snoc])
        generalize posL day (xs.take k) = s at *
        have u1 : IntKind.i64.wrap (s + xm) = s + xm := IntWalk.i64_in _ (by omega)
        by_cases hdd : xd ≤ day
        · have hdb : decide (xd ≤ day) = true := by simpa using hdd
          have HS2 := hid (show posL day (xs.take (k + 1)) = s + xm by rw [HS.out]; unfold posS; rw [if_pos hdd])
          clear hb hm HS hdd
          go_wp2_with fail
          go_roundw
          case rel => exact ⟨k + 1, by omega, by go_num, by rw [HS2.out], Hw.out⟩
          case measure => simp [intOf]; omega
        · have hdb : decide (xd ≤ day) = false := by simpa using hdd
          have HS2 := hid (show posL day (xs.take (k + 1)) = s by rw [HS.out]; unfold posS; rw [if_neg hdd])
          clear hb hm HS hdd
          go_wp2_with fail
          go_roundw
          case rel => exact ⟨k + 1, by omega, by go_num, by rw [HS2.out], Hw.out⟩
          case measure => simp [intOf]; omega
      · have hd1 : decide ((k : Int) < n) = false := by simp; omega
        obtain rfl : k = n := by omega
        rw [take_len _ _ hl]
        go_wp2_with fail
        go_ret
        exact ⟨ret_int HT.out.symm, Hg.out⟩

set_option maxRecDepth 100000 in
set_option maxHeartbeats 2000000 in
theorem specvalidTrades_any (a : Option Addr) (n cap : Nat) (xs : List Trade) (w : World) (hs : Sl tradeL w a n xs) :
    Calls Tryz.prog 68 #[.slice a n cap] w fun e w' => e = .returned (.bool (tradesB xs)) ∧ w.grownBy w' none := by
  have hbig := hs.big
  unfold maxLen at hbig
  have Hs := hid hs; clear hs
  have hl := Hs.out.len
  go_enter Tryz.func68, Tryz.ntmps68
  go_wp2_with fail
  go_loopw [3] (fun i wr => ∃ k : Nat, k ≤ n ∧ i = .int .i64 k ∧ Hid (upto xs k = true) ∧ w.grownBy wr none) (fun i _ => n - (intOf i).toNat)
  case atStart => exact ⟨0, by omega, rfl, hid rfl, gr0 _⟩
  case round =>
    obtain ⟨k, hk, rfl, Hu, hg⟩ := hrel
    have Hg := hid hg; clear hg
    by_cases hlt : k < n
    · have hd1 : decide ((k : Int) < n) = true := by simp; omega
      obtain ⟨b, off, ⟨xd, xm, xp⟩, rfl, hxk, h0, h1, h2⟩ := trade_at (Hs.out.keep0 Hg.out) k hlt
      rcases k with _ | k
      · simp only [Nat.zero_mul, Nat.add_zero] at h0 h1 h2
        have Hx := hid hxk; clear hxk
        go_wp2_with fail
        have hBk := heap_alloc_new wr (Obj.cells #[.int .i64 xd, .int .i64 xm, .int .i64 xp] 98)
        have HgA := gr_alloc (gr0 wr) (Obj.cells #[.int .i64 xd, .int .i64 xm, .int .i64 xp] 98)
        have Hw := hid (gr_alloc Hg.out (Obj.cells #[.int .i64 xd, .int .i64 xm, .int .i64 xp] 98))
        have e0 := blk_cell hBk 0 _ rfl
        have e1 := blk_cell hBk 1 _ rfl
        have e2 := blk_cell hBk 2 _ rfl
        clear h0 h1 h2
        clear hBk HgA
        generalize (wr.alloc (Obj.cells #[.int .i64 xd, .int .i64 xm, .int .i64 xp] 98)) = W at *
        generalize wr.heap.size = B at *
        cases hd0 : withinB xd 0 36524 with
        | false =>
          have Hfin := hid (trades_bad _ (by rw [hl]; exact hlt) (okAt_no Hx.out (by unfold trB; rw [hd0]; rfl)))
          clear hl hlt
          go_quiet ((go_at_call 100; exact Calls.quiet_of_same (flipW (inRange_any _ _ _ _))))
          go_wp2_with fail
          go_ret
          exact ⟨ret_bool Hfin.out.symm, gr_drewN Hw.out _⟩
        | true =>
        cases hm1 : withinB xm (-9999) 9999 with
        | false =>
          have Hfin := hid (trades_bad _ (by rw [hl]; exact hlt) (okAt_no Hx.out (by unfold trB; rw [hd0, hm1]; simp)))
          clear hl hlt
          go_quiet ((go_at_call 100; exact Calls.quiet_of_same (flipW (inRange_any _ _ _ _))))
          go_wp2_with fail
          go_ret
          exact ⟨ret_bool Hfin.out.symm, gr_drewN Hw.out _⟩
        | true =>
          cases hm0 : (xm == 0) with
          | true =>
            have Hfin := hid (trades_bad _ (by rw [hl]; exact hlt) (okAt_no Hx.out (by unfold trB; rw [hd0]; simp only [bne, hm0]; rfl)))
            clear hl hlt
            go_quiet ((go_at_call 100; exact Calls.quiet_of_same (flipW (inRange_any _ _ _ _))))
            go_wp2_with fail
            go_ret
            exact ⟨ret_bool Hfin.out.symm, gr_drewN Hw.out _⟩
          | false =>
            cases hp : withinB xp 1 50000 with
            | false =>
              have Hfin := hid (trades_bad _ (by rw [hl]; exact hlt) (okAt_no Hx.out (by unfold trB; rw [hd0, hm1, hp]; simp)))
              clear hl hlt
              go_quiet ((go_at_call 100; exact Calls.quiet_of_same (flipW (inRange_any _ _ _ _))))
              go_wp2_with fail
              go_ret
              exact ⟨ret_bool Hfin.out.symm, gr_drewN Hw.out _⟩
            | true =>
              have htr : trB ⟨xd, xm, xp⟩ = true := by unfold trB; rw [hd0, hm1, hp]; simp only [bne, hm0]; rfl
              have HU := hid (show upto xs (0 + 1) = true by rw [upto_succ, Hu.out]; exact (okAt_first Hx.out htr))
              clear hl
              go_quiet ((go_at_call 100; exact Calls.quiet_of_same (flipW (inRange_any _ _ _ _))))
              go_wp2_with fail
              go_roundw
              case rel => exact ⟨0 + 1, by omega, by go_num, HU, gr_drewN Hw.out _⟩
              case measure => simp [intOf]; omega
      · obtain ⟨b2, off2, ⟨yd, ym, yp⟩, he2, hyk, y0, _, _⟩ := trade_at (Hs.out.keep0 Hg.out) k (by omega)
        obtain ⟨rfl, rfl⟩ : b = b2 ∧ off = off2 := by simpa using he2
        have Hy := hid hyk; clear hyk he2
        have Hx := hid hxk; clear hxk
        go_wp2_with fail
        have hBk := heap_alloc_new wr (Obj.cells #[.int .i64 xd, .int .i64 xm, .int .i64 xp] 98)
        have HgA := gr_alloc (gr0 wr) (Obj.cells #[.int .i64 xd, .int .i64 xm, .int .i64 xp] 98)
        have Hw := hid (gr_alloc Hg.out (Obj.cells #[.int .i64 xd, .int .i64 xm, .int .i64 xp] 98))
        have e0 := blk_cell hBk 0 _ rfl
        have e1 := blk_cell hBk 1 _ rfl
        have e2 := blk_cell hBk 2 _ rfl
        have y0 := HgA.cell y0 (by simp)
        clear h0 h1 h2
        clear hBk HgA
        generalize (wr.alloc (Obj.cells #[.int .i64 xd, .int .i64 xm, .int .i64 xp] 98)) = W at *
        generalize wr.heap.size = B at *
        cases hd0 : withinB xd 0 36524 with
        | false =>
          have Hfin := hid (trades_bad _ (by rw [hl]; exact hlt) (okAt_no Hx.out (by unfold trB; rw [hd0]; rfl)))
          clear hl hlt
          go_quiet ((go_at_call 100; exact Calls.quiet_of_same (flipW (inRange_any _ _ _ _))))
          go_wp2_with fail
          go_ret
          exact ⟨ret_bool Hfin.out.symm, gr_drewN Hw.out _⟩
        | true =>
        have u1 : IntKind.i64.wrap (((k + 1 : Nat) : Int) - 1) = (k : Int) := by rw [show (((k + 1 : Nat) : Int) - 1) = (k : Int) by omega]; exact IntWalk.i64_in _ (by omega)
        have hk1 : decide ((0 : Int) < ((k + 1 : Nat) : Int)) = true := by simp <;> omega
        cases hm1 : withinB xm (-9999) 9999 with
        | false =>
          have Hfin := hid (trades_bad _ (by rw [hl]; exact hlt) (okAt_no Hx.out (by unfold trB; rw [hd0, hm1]; simp)))
          clear hl hlt
          go_quiet ((go_at_call 100; exact Calls.quiet_of_same (flipW (inRange_any _ _ _ _))))
          go_wp2_with fail
          go_ret
          exact ⟨ret_bool Hfin.out.symm, gr_drewN Hw.out _⟩
        | true =>
          cases hm0 : (xm == 0) with
          | true =>
            have Hfin := hid (trades_bad _ (by rw [hl]; exact hlt) (okAt_no Hx.out (by unfold trB; rw [hd0]; simp only [bne, hm0]; rfl)))
            clear hl hlt
            go_quiet ((go_at_call 100; exact Calls.quiet_of_same (flipW (inRange_any _ _ _ _))))
            go_wp2_with fail
            go_ret
            exact ⟨ret_bool Hfin.out.symm, gr_drewN Hw.out _⟩
          | false =>
            cases hp : withinB xp 1 50000 with
            | false =>
              have Hfin := hid (trades_bad _ (by rw [hl]; exact hlt) (okAt_no Hx.out (by unfold trB; rw [hd0, hm1, hp]; simp)))
              clear hl hlt
              go_quiet ((go_at_call 100; exact Calls.quiet_of_same (flipW (inRange_any _ _ _ _))))
              go_wp2_with fail
              go_ret
              exact ⟨ret_bool Hfin.out.symm, gr_drewN Hw.out _⟩
            | true =>
              have htr : trB ⟨xd, xm, xp⟩ = true := by unfold trB; rw [hd0, hm1, hp]; simp only [bne, hm0]; rfl
              by_cases hdd : xd < yd
              · have hdb : decide (xd < yd) = true := by simpa using hdd
                have Hfin := hid (trades_bad _ (by rw [hl]; exact hlt) (okAt_fall Hx.out Hy.out hdd))
                clear hl hlt
                go_quiet ((go_at_call 100; exact Calls.quiet_of_same (flipW (inRange_any _ _ _ _))))
                go_wp2_with fail
                go_ret
                exact ⟨ret_bool Hfin.out.symm, gr_drewN Hw.out _⟩
              · have hdb : decide (xd < yd) = false := by simpa using hdd
                have HU := hid (show upto xs ((k + 1) + 1) = true by rw [upto_succ, Hu.out]; exact (okAt_next Hx.out Hy.out htr hdd))
                clear hl
                go_quiet ((go_at_call 100; exact Calls.quiet_of_same (flipW (inRange_any _ _ _ _))))
                go_wp2_with fail
                go_roundw
                case rel => exact ⟨(k + 1) + 1, by omega, by go_num, HU, gr_drewN Hw.out _⟩
                case measure => simp [intOf]; omega
    · have hd1 : decide ((k : Int) < n) = false := by simp; omega
      obtain rfl : k = n := by omega
      have HT := hid (show tradesB xs = decide ((k : Int) ≤ 16) by
        unfold tradesB; rw [hl, Hu.out, Bool.and_true]; exact decide_eq_decide.2 (by omega))
      go_wp2_with fail
      go_ret
      exact ⟨ret_bool HT.out.symm, Hg.out⟩

set_option maxRecDepth 100000 in
set_option maxHeartbeats 1000000 in
theorem specPositionAt_any (a : Option Addr) (n cap : Nat) (xs : List Trade) (day : Int) (w : World) (hs : Sl tradeL w a n xs) :
    Calls Tryz.prog 41 #[.slice a n cap, .int .i64 day] w fun e w' => e = .returned (.int .i64 (posF xs day)) ∧ w.grownBy w' none := by
  have hbig := hs.big
  unfold maxLen at hbig
  have HV := hid (fun wx (h : Sl tradeL wx a n xs) => specvalidTrades_any a n cap xs wx h)
  have Hs := hid hs; clear hs
  have hl := Hs.out.len
  cases ht : tradesB xs with
  | false =>
    have HT := hid (show posF xs day = 0 by unfold posF; rw [ht]; rfl)
    rw [ht] at HV
    clear ht hl
    go_enter Tryz.func41, Tryz.ntmps41
    go_wp2_with fail
    refine (HV.out w Hs.out).mono ?_
    rintro e w1 ⟨rfl, hg⟩
    have Hg := hid hg; clear hg
    go_wp2_with fail
    go_ret
    exact ⟨ret_int HT.out.symm, Hg.out⟩
  | true =>
    have HT := hid (show posF xs day = posL day xs by unfold posF; rw [ht]; rfl)
    have Hb := hid (fun (k : Nat) => pos_bd day (xs.take k) (fun x hx => by
      obtain ⟨j, hj, rfl⟩ := List.getElem_of_mem (List.mem_of_mem_take hx)
      exact (trB_bd (trades_at ht j _ (List.getElem?_eq_getElem hj))).2.2.1))
    have Hat := hid (fun k x (h : xs[k]? = some x) => (trB_bd (trades_at ht k x h)).2.2.1)
    have hn16 := trades_len ht
    rw [ht] at HV
    clear ht
    go_enter Tryz.func41, Tryz.ntmps41
    go_wp2_with fail
    refine (HV.out w Hs.out).mono ?_
    rintro e w1 ⟨rfl, hg⟩
    have Hg1 := hid hg; clear hg
    go_wp2_with fail
    go_loopw [5, 6] (fun s i wr => ∃ k : Nat, k ≤ n ∧ i = .int .i64 k ∧ s = .int .i64 (posL day (xs.take k)) ∧ w.grownBy wr none) (fun _ i _ => n - (intOf i).toNat)
    case atStart => exact ⟨0, by omega, rfl, rfl, Hg1.out⟩
    case round =>
      clear Hg1
      obtain ⟨k, hk, rfl, rfl, hg⟩ := hrel
      have Hg := hid hg; clear hg
      by_cases hlt : k < n
      · have hd1 : decide ((k : Int) < n) = true := by simp; omega
        obtain ⟨b, off, ⟨xd, xm, xp⟩, rfl, hxk, h0, h1, h2⟩ := trade_at (Hs.out.keep0 Hg.out) k hlt
        have Hx := hid hxk; clear hxk
        have hb := Hb.out k
        rw [List.length_take, show min k xs.length = k by omega] at hb
        have hm := Hat.out k _ Hx.out
        simp only at hm
        have HS := hid (show posL day (xs.take (k + 1)) = posS day (posL day (xs.take k)) ⟨xd, xm, xp⟩ by rw [take_snoc _ _ _ Hx.out, pos_snoc])
        generalize posL day (xs.take k) = s at *
        have u1 : IntKind.i64.wrap (s + xm) = s + xm := IntWalk.i64_in _ (by omega)
        by_cases hdd : xd ≤ day
        · have hdb : decide (xd ≤ day) = true := by simpa using hdd
          have HS2 := hid (show posL day (xs.take (k + 1)) = s + xm by rw [HS.out]; unfold posS; rw [if_pos hdd])
          clear hb hm HS hdd
          go_wp2_with fail
          go_roundw
          case rel => exact ⟨k + 1, by omega, by go_num, by rw [HS2.out], Hg.out⟩
          case measure => simp [intOf]; omega
        · have hdb : decide (xd ≤ day) = false := by simpa using hdd
          have HS2 := hid (show posL day (xs.take (k + 1)) = s by rw [HS.out]; unfold posS; rw [if_neg hdd])
          clear hb hm HS hdd
          go_wp2_with fail
          go_roundw
          case rel => exact ⟨k + 1, by omega, by go_num, by rw [HS2.out], Hg.out⟩
          case measure => simp [intOf]; omega
      · have hd1 : decide ((k : Int) < n) = false := by simp; omega
        obtain rfl : k = n := by omega
        rw [take_len _ _ hl]
        go_wp2_with fail
        go_ret
        exact ⟨ret_int HT.out.symm, Hg.out⟩

end Go.Proofs.YtielicmjdhmcjaaGreatDoor
