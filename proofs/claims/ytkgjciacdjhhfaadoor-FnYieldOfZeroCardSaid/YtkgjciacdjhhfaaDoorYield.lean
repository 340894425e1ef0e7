/- Yields: YieldOf of the program and of the reference. -/
import Derived.Test.YtkgjciacdjhhfaaDoorRows
import Derived.Test.YtkgjciacdjhhfaaDoorBase
import Derived.Test.YtkgjciacdjhhfaaDoorPriceWalk
namespace Go.Proofs.YtkgjciacdjhhfaaDoor
open Go.RowKit


theorem priceB_no {b : Bond} {day : Int} (h : runB b day = false) (y : Int) : priceB b day y = false := by unfold priceB; rw [h]; rfl
theorem priceB_step {b : Bond} {day : Int} (h : runB b day = true) (k : Nat) (hk : k ≤ 40) : priceB b day (2500 * k) = true := by
  unfold priceB yieldB
  rw [h]
  simp only [Bool.true_and, Bool.and_eq_true, decide_eq_true_eq]
  omega
theorem least_yes {b : Bond} {day d : Int} {k : Nat} {pl : Int} (e : priceLo b day (2500 * k) = pl) (h : d ≤ pl) : leastK b day d (k + 1) = 2500 * k := by
  simp only [leastK]; rw [e, if_pos h]
theorem least_no {b : Bond} {day d : Int} {k : Nat} {pl lk : Int} (e : priceLo b day (2500 * k) = pl) (e2 : leastK b day d k = lk) (h : ¬ d ≤ pl) : leastK b day d (k + 1) = lk := by
  simp only [leastK]; rw [e, if_neg h, e2]
theorem most_yes {b : Bond} {day d : Int} {k : Nat} {ph mk : Int} (e : priceHi b day (2500 * k) = ph) (e2 : mostK b day d k = mk) (h : ph ≤ d) (h2 : mk < 0) : mostK b day d (k + 1) = 2500 * k := by
  simp only [mostK]; rw [e, e2, if_pos ⟨h, h2⟩]
theorem most_no {b : Bond} {day d : Int} {k : Nat} {ph mk : Int} (e : priceHi b day (2500 * k) = ph) (e2 : mostK b day d k = mk) (h : ¬ (ph ≤ d ∧ mk < 0)) : mostK b day d (k + 1) = mk := by
  simp only [mostK]; rw [e, e2, if_neg h]

/- one round of the loop behind the price: the three tests -/
set_option maxRecDepth 100000 in
set_option maxHeartbeats 2000000 in
theorem YieldOf_any (b : Bond) (day d : Int) (w : World) (hmo : Months w) :
    Calls Tryd.prog 25 #[.agg #[.int .i64 b.start, .int .i64 b.stop, .int .i64 b.months, .int .i64 b.rate], .int .i64 day, .int .i64 d] w fun e' w' => e' = .returned (.tuple #[.int .i64 (leastF b day d), .int .i64 (mostF b day d)]) ∧ w.grownBy w' none := by
  have hg0 : w.grownBy (w.alloc (.cells #[.int .i64 b.start, .int .i64 b.stop, .int .i64 b.months, .int .i64 b.rate] 27)) none := gr_alloc (gr0 _) _
  have Hb0 := hid (heap_alloc_new w (.cells #[.int .i64 b.start, .int .i64 b.stop, .int .i64 b.months, .int .i64 b.rate] 27))
  have HG := hid hg0
  clear hg0
  have Hm := hid hmo
  clear hmo
  (try clear c0 c1 c2 c3)
  have c0 := blk_cell Hb0.out 0 _ rfl
  have c1 := blk_cell Hb0.out 1 _ rfl
  have c2 := blk_cell Hb0.out 2 _ rfl
  have c3 := blk_cell Hb0.out 3 _ rfl
  cases hr : runB b day with
  | false =>
    obtain ⟨e1, e2⟩ := yields_no hr d
    rw [e1, e2]
    have HP := hid (fun wx hx => priceOf_any b day 0 wx hx)
    rw [price_no (priceB_no hr 0), priceB_no hr 0] at HP
    clear hr e1 e2
    go_enter Tryd.func25, Tryd.ntmps25
    go_wp2_with fail
    go_loopw [8, 9, 10] (fun l m i wr => l = .int .i64 (-1) ∧ m = .int .i64 (-1) ∧ i = .int .i64 0 ∧ wr = w.alloc (.cells #[.int .i64 b.start, .int .i64 b.stop, .int .i64 b.months, .int .i64 b.rate] 27)) (fun _ _ _ _ => 0)
    case atStart => exact ⟨rfl, rfl, rfl, rfl⟩
    case round =>
      obtain ⟨rfl, rfl, rfl, rfl⟩ := hrel
      go_wp2_with fail
      refine (HP.out _ (Hm.out.keep0 HG.out)).mono ?_
      rintro e' w1 ⟨rfl, hg⟩
      have Hg1 := hid (gr_trans0 HG.out hg)
      clear hg
      go_wp2_with fail
      go_ret2
      exact ⟨rfl, gr_alloc Hg1.out _⟩
  | true =>
    obtain ⟨e1, e2⟩ := yields_run hr d
    rw [e1, e2]
    have HP := hid (fun (k : Nat) (hk : k ≤ 40) wx hx => priceOf_any b day (2500 * k) wx hx)
    have HB := hid (fun (k : Nat) (hk : k ≤ 40) => priceB_step hr k hk)
    have HI := hid (fun (k : Nat) (hk : k ≤ 40) => price_in (y := 2500 * (k : Int)) hr (by omega) (by omega))
    have HL := hid (fun (k : Nat) (hk : k ≤ 41) => leastK_bd b day d k hk)
    have HM := hid (fun (k : Nat) (hk : k ≤ 41) => mostK_bd b day d k hk)
    clear hr e1 e2
    go_enter Tryd.func25, Tryd.ntmps25
    go_wp2_with fail
    go_loopw [8, 9, 10] (fun l m i wr => ∃ k : Nat, k ≤ 41 ∧ l = .int .i64 (leastK b day d k) ∧ m = .int .i64 (mostK b day d k) ∧ i = .int .i64 (2500 * k) ∧ w.grownBy wr none ∧ wr.heap[w.heap.size]? = some (.cells #[.int .i64 b.start, .int .i64 b.stop, .int .i64 b.months, .int .i64 b.rate] 27 (0, 0))) (fun _ _ i _ => 102500 - (intOf i).toNat)
    case atStart => exact ⟨0, by omega, rfl, rfl, rfl, HG.out, Hb0.out⟩
    case round =>
      clear c0 c1 c2 c3
      obtain ⟨k, hk, rfl, rfl, rfl, hg, hb⟩ := hrel
      have Hgr := hid hg
      have Hbr := hid hb
      clear hg hb
      by_cases hlt : k ≤ 40
      · have HPk := hid (HP.out k hlt)
        rw [HB.out k hlt, HI.out k hlt] at HPk
        unfold priceR at HPk
        simp only at HPk
        obtain ⟨l0, l1⟩ := HL.out k hk
        obtain ⟨m0, m1⟩ := HM.out k hk
        obtain ⟨pl, hpl⟩ : ∃ pl, priceLo b day (2500 * (k : Int)) = pl := ⟨_, rfl⟩
        obtain ⟨ph, hph⟩ : ∃ ph, priceHi b day (2500 * (k : Int)) = ph := ⟨_, rfl⟩
        obtain ⟨lk, hlk⟩ : ∃ lk, leastK b day d k = lk := ⟨_, rfl⟩
        obtain ⟨mk, hmk⟩ : ∃ mk, mostK b day d k = mk := ⟨_, rfl⟩
        have Hpl := hid hpl
        have Hph := hid hph
        have Hmk := hid hmk
        rw [hpl, hph] at HPk
        rw [hlk] at l0 l1 ⊢
        rw [hmk] at m0 m1 ⊢
        have Hlk := hid hlk
        clear hpl hph hlk hmk
        (try clear c0 c1 c2 c3)
        have c0 := blk_cell Hbr.out 0 _ rfl
        have c1 := blk_cell Hbr.out 1 _ rfl
        have c2 := blk_cell Hbr.out 2 _ rfl
        have c3 := blk_cell Hbr.out 3 _ rfl
        go_wp2_with fail
        refine (HPk.out _ (Hm.out.keep0 Hgr.out)).mono ?_
        rintro e' w1 ⟨rfl, hg⟩
        have Hg2 := hid (gr_alloc (gr_trans0 Hgr.out hg) (Obj.cells #[.int .i64 (pl), .int .i64 (ph)] 25))
        have Hb2 := hid (blk_alloc (blk_keep Hbr.out hg (by simp)) (Obj.cells #[.int .i64 (pl), .int .i64 (ph)] 25))
        have He2 := hid (heap_alloc_new w1 (Obj.cells #[.int .i64 (pl), .int .i64 (ph)] 25))
        have d0 := blk_cell He2.out 0 _ rfl
        have d1 := blk_cell He2.out 1 _ rfl
        clear hg c0 c1 c2 c3
        by_cases h1 : d ≤ pl
        · have Hl := hid (least_yes (d := d) Hpl.out h1)
          have t1 : decide (d ≤ pl) = true := by simpa using h1
          have t1' : decide (pl < d) = false := by simpa using h1
          clear h1
          by_cases h2 : ph ≤ d
          · have t2 : decide (ph ≤ d) = true := by simpa using h2
            by_cases h3 : mk < 0
            · have Hmo := hid (most_yes Hph.out Hmk.out h2 h3)
              have t3 : decide (mk < 0) = true := by simpa using h3
              clear h2 h3
              go_wp2_with fail
              go_roundw
              case rel => exact ⟨k + 1, by omega, by rw [Hl.out], by rw [Hmo.out], by rw [show (2500 : Int) * ((k + 1 : Nat) : Int) = 2500 * k + 2500 by omega], Hg2.out, Hb2.out⟩
              case measure => simp [intOf]; omega
            · have Hmo := hid (most_no Hph.out Hmk.out (fun h => h3 h.2))
              have t3 : decide (mk < 0) = false := by simpa using h3
              clear h2 h3
              go_wp2_with fail
              go_roundw
              case rel => exact ⟨k + 1, by omega, by rw [Hl.out], by rw [Hmo.out], by rw [show (2500 : Int) * ((k + 1 : Nat) : Int) = 2500 * k + 2500 by omega], Hg2.out, Hb2.out⟩
              case measure => simp [intOf]; omega
          · have Hmo := hid (most_no (d := d) Hph.out Hmk.out (fun h => h2 h.1))
            have t2 : decide (ph ≤ d) = false := by simpa using h2
            clear h2
            go_wp2_with fail
            go_roundw
            case rel => exact ⟨k + 1, by omega, by rw [Hl.out], by rw [Hmo.out], by rw [show (2500 : Int) * ((k + 1 : Nat) : Int) = 2500 * k + 2500 by omega], Hg2.out, Hb2.out⟩
            case measure => simp [intOf]; omega
        · have Hl := hid (least_no (d := d) Hpl.out Hlk.out h1)
          have t1 : decide (d ≤ pl) = false := by simpa using h1
          have t1' : decide (pl < d) = true := by simpa using h1
          clear h1
          by_cases h2 : ph ≤ d
          · have t2 : decide (ph ≤ d) = true := by simpa using h2
            by_cases h3 : mk < 0
            · have Hmo := hid (most_yes Hph.out Hmk.out h2 h3)
              have t3 : decide (mk < 0) = true := by simpa using h3
              clear h2 h3
              go_wp2_with fail
              go_roundw
              case rel => exact ⟨k + 1, by omega, by rw [Hl.out], by rw [Hmo.out], by rw [show (2500 : Int) * ((k + 1 : Nat) : Int) = 2500 * k + 2500 by omega], Hg2.out, Hb2.out⟩
              case measure => simp [intOf]; omega
            · have Hmo := hid (most_no Hph.out Hmk.out (fun h => h3 h.2))
              have t3 : decide (mk < 0) = false := by simpa using h3
              clear h2 h3
              go_wp2_with fail
              go_roundw
              case rel => exact ⟨k + 1, by omega, by rw [Hl.out], by rw [Hmo.out], by rw [show (2500 : Int) * ((k + 1 : Nat) : Int) = 2500 * k + 2500 by omega], Hg2.out, Hb2.out⟩
              case measure => simp [intOf]; omega
          · have Hmo := hid (most_no (d := d) Hph.out Hmk.out (fun h => h2 h.1))
            have t2 : decide (ph ≤ d) = false := by simpa using h2
            clear h2
            go_wp2_with fail
            go_roundw
            case rel => exact ⟨k + 1, by omega, by rw [Hl.out], by rw [Hmo.out], by rw [show (2500 : Int) * ((k + 1 : Nat) : Int) = 2500 * k + 2500 by omega], Hg2.out, Hb2.out⟩
            case measure => simp [intOf]; omega
      · obtain rfl : k = 41 := by omega
        obtain ⟨l0, l1⟩ := HL.out 41 hk
        obtain ⟨m0, m1⟩ := HM.out 41 hk
        obtain ⟨lk, hlk⟩ : ∃ lk, leastK b day d 41 = lk := ⟨_, rfl⟩
        obtain ⟨mk, hmk⟩ : ∃ mk, mostK b day d 41 = mk := ⟨_, rfl⟩
        rw [hlk] at l0 l1 ⊢
        rw [hmk] at m0 m1 ⊢
        have Hlk := hid hlk
        have Hmk := hid hmk
        clear hlk hmk
        go_wp2_with fail
        go_ret2
        exact ⟨by rw [Hlk.out, Hmk.out]; rfl, Hgr.out⟩

end Go.Proofs.YtkgjciacdjhhfaaDoor
