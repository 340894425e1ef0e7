/- Packed: GainOf. -/
import Derived.Test.YtielicmjdhmcjaaGreatDoorRows
import Derived.Test.YtielicmjdhmcjaaGreatDoorPk30
/- queueOf and GainOf of the program. -/
namespace Go.Proofs.YtielicmjdhmcjaaGreatDoor
open Go.RowKit

set_option maxRecDepth 100000 in
set_option maxHeartbeats 2000000 in
theorem queueOf_any (a : Option Addr) (n cap : Nat) (xs : List Trade) (w : World) (hs : Sl tradeL w a n xs) :
    Calls Tryz.prog 88 #[.slice a n cap] w fun e w' => ∃ qb a' n' cap', e = .returned (.pointer (some ⟨qb, 0, none⟩)) ∧ w'.heap[qb]? = some (.cells #[.slice a' n' cap', .int .i64 (gainF xs)] 121 (0, 0)) ∧ w.grownBy w' none := by
  have hbig := hs.big
  unfold maxLen at hbig
  have HV := hid (fun wx (h : Sl tradeL wx a n xs) => ValidTrades_any a n cap xs wx h)
  have hl := hs.len
  have Hlt := hid (fun (h0 : 0 < n) b off (e : a = some ⟨b, off, none⟩) => (by
    obtain ⟨b', off', e', hb, _⟩ := hs.mem h0
    rw [e] at e'; cases e'
    exact hb : b < w.heap.size))
  have Hs := hid hs; clear hs
  have Hq0 := hid (heap_alloc_new w (Obj.cells #[.slice none 0 0, .int .i64 0] 121))
  have Hg0 := hid (gr_alloc (gr0 w) (Obj.cells #[.slice none 0 0, .int .i64 0] 121))
  cases ht : tradesB xs with
  | false =>
    have HT := hid (show gainF xs = 0 by unfold gainF; rw [ht]; rfl)
    rw [ht] at HV
    clear ht hl Hlt
    go_enter Tryz.func88, Tryz.ntmps88
    go_wp2_with fail
    refine (HV.out _ (Hs.out.keep0 Hg0.out)).mono ?_
    rintro e w1 ⟨rfl, hg⟩
    have Hg1 := hid (gr_trans0 Hg0.out hg)
    have Hq1 := hid (blk_keep Hq0.out hg (by simp))
    clear hg
    go_wp2_with fail
    go_ret
    exact ⟨w.heap.size, none, 0, 0, rfl, by rw [HT.out]; exact Hq1.out, Hg1.out⟩
  | true =>
    have HT := hid (show gainF xs = (gainL xs).2 by unfold gainF; rw [ht]; rfl)
    have Hat := hid (fun k x (h : xs[k]? = some x) => trades_at ht k x h)
    have Hok := hid (fun k (h : k ≤ xs.length) => gain_ok ht k h)
    have hn16 := trades_len ht
    rw [ht] at HV
    clear ht
    go_enter Tryz.func88, Tryz.ntmps88
    go_wp2_with fail
    refine (HV.out _ (Hs.out.keep0 Hg0.out)).mono ?_
    rintro e w1 ⟨rfl, hg⟩
    have Hb1 := hid (below_gr0 (below_gr0 (Below.refl w.heap.size w) Hg0.out (Nat.le_refl _)) hg (gr_le Hg0.out))
    have Hq1 := hid (blk_keep Hq0.out hg (by simp))
    clear hg HV Hq0 Hg0
    go_wp2_with fail
    go_loopw [12] (fun i wr => ∃ (k : Nat) (a' : Option Addr) (n' cap' : Nat), k ≤ n ∧ i = .int .i64 k ∧ Hid (wr.heap[w.heap.size]? = some (.cells #[.slice a' n' cap', .int .i64 (gainL (xs.take k)).2] 121 (0, 0))) ∧ Hid (Qs wr (w.heap.size + 1) a' n' cap' (gainL (xs.take k)).1) ∧ Hid (Below w.heap.size w wr)) (fun i _ => n - (intOf i).toNat)
    case atStart => exact ⟨0, none, 0, 0, by omega, rfl, Hq1, hid (Qs.none0 _ _), Hb1⟩
    clear Hq1 Hb1
    case round =>
      obtain ⟨k, a', n', cap', hk, rfl, HQ, HS, HB⟩ := hrel
      by_cases hlt : k < n
      · have hd1 : decide ((k : Int) < n) = true := by simp; omega
        obtain ⟨b, off, ⟨xd, xm, xp⟩, rfl, hxk, h0, h1, h2⟩ := trade_at (Hs.out.keepB HB.out Hlt.out) k hlt
        have Hx := hid hxk; clear hxk
        have hgA := gr_alloc (gr0 wr) (Obj.cells #[.int .i64 xd, .int .i64 xm, .int .i64 xp] 98)
        have HQ2 := hid (blk_keep HQ.out hgA (by simp))
        have HS2 := hid (HS.out.keep0 hgA)
        have HB2 := hid (below_gr0 HB.out hgA HB.out.size)
        have htr := Hat.out k _ Hx.out
        have hL := Hok.out k (by omega)
        have HN := hid (show gainL (xs.take (k + 1)) = takeF (gainL (xs.take k)) ⟨xd, xm, xp⟩ by rw [take_snoc _ _ _ Hx.out, gain_snoc])
        generalize gainL (xs.take k) = S at *
        obtain ⟨ls, g⟩ := S
        simp only at HQ2 HS2
        have HC := hid (qtake_any w.heap.size a' n' cap' ls g ⟨xd, xm, xp⟩ k _ HQ2.out HS2.out hL (by omega) htr)
        simp only at HC
        clear hgA hL htr HQ2 HS2 HQ HS
        go_wp2_with fail
        refine HC.out.mono ?_
        rintro e w2 ⟨rfl, a2, n2, c2, hq2, hs2, hb2⟩
        have HQ3 := hid hq2
        have HS3 := hid hs2
        have HB3 := hid (below_trans HB2.out hb2)
        rw [← HN.out] at HQ3 HS3
        clear hq2 hs2 hb2 HC
        go_wp2_with fail
        go_roundw
        case rel => exact ⟨k + 1, a2, n2, c2, by omega, by go_num, HQ3, HS3, HB3⟩
        case measure => simp [intOf]; omega
      · have hd1 : decide ((k : Int) < n) = false := by simp; omega
        obtain rfl : k = n := by omega
        rw [take_len _ _ hl, ← HT.out] at HQ
        go_wp2_with fail
        go_ret
        exact ⟨w.heap.size, a', n', cap', rfl, HQ.out, gr_below HB.out (Nat.le_refl _)⟩

set_option maxHeartbeats 400000 in
theorem GainOf_any (a : Option Addr) (n cap : Nat) (xs : List Trade) (w : World) (hs : Sl tradeL w a n xs) :
    Calls Tryz.prog 56 #[.slice a n cap] w fun e w' => e = .returned (.int .i64 (gainF xs)) ∧ w.grownBy w' none := by
  go_enter Tryz.func56, Tryz.ntmps56
  go_wp2_with fail
  refine (queueOf_any a n cap xs w hs).mono ?_
  rintro e w1 ⟨qb, a', n', cap', rfl, hq, hg⟩
  have c1 := blk_cell hq 1 _ rfl
  clear hq
  go_wp2_with fail
  go_ret
  exact ⟨rfl, hg⟩
end Go.Proofs.YtielicmjdhmcjaaGreatDoor
