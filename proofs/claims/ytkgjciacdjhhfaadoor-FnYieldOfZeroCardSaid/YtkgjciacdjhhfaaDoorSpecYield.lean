/- Yields: YieldOf of the reference. -/
import Derived.Test.YtkgjciacdjhhfaaDoorRows
import Derived.Test.YtkgjciacdjhhfaaDoorBase
import Derived.Test.YtkgjciacdjhhfaaDoorYield
import Derived.Test.YtkgjciacdjhhfaaDoorSpecPrice
namespace Go.Proofs.YtkgjciacdjhhfaaDoor
open Go.RowKit

/- one round of the loop behind the price: the three tests -/
set_option maxRecDepth 100000 in
set_option maxHeartbeats 2000000 in
theorem specYieldOf_any (b : Bond) (day d : Int) (w : World) :
    Calls Tryd.prog 24 #[.agg #[.int .i64 b.start, .int .i64 b.stop, .int .i64 b.months, .int .i64 b.rate], .int .i64 day, .int .i64 d] w fun e' w' => e' = .returned (.tuple #[.int .i64 (leastF b day d), .int .i64 (mostF b day d)]) ∧ w.grownBy w' none := by
  have hg0 : w.grownBy (w.alloc (.cells #[.int .i64 b.start, .int .i64 b.stop, .int .i64 b.months, .int .i64 b.rate] 27)) none := gr_alloc (gr0 _) _
  have Hb0 := hid (heap_alloc_new w (.cells #[.int .i64 b.start, .int .i64 b.stop, .int .i64 b.months, .int .i64 b.rate] 27))
  have HG := hid hg0
  clear hg0
  have HR := hid (specrunning_any b day (w.alloc (.cells #[.int .i64 b.start, .int .i64 b.stop, .int .i64 b.months, .int .i64 b.rate] 27)))
  (try clear c0 c1 c2 c3)
  have c0 := blk_cell Hb0.out 0 _ rfl
  have c1 := blk_cell Hb0.out 1 _ rfl
  have c2 := blk_cell Hb0.out 2 _ rfl
  have c3 := blk_cell Hb0.out 3 _ rfl
  cases hr : runB b day with
  | false =>
    obtain ⟨e1, e2⟩ := yields_no hr d
    rw [e1, e2]
    rw [hr] at HR
    clear hr e1 e2
    go_enter Tryd.func24, Tryd.ntmps24
    go_wp2_with fail
    refine HR.out.mono ?_
    rintro e' w1 ⟨rfl, hg⟩
    have Hg1 := hid (gr_trans0 HG.out hg)
    clear hg
    go_wp2_with fail
    go_ret2
    exact ⟨rfl, Hg1.out⟩
  | true =>
    obtain ⟨e1, e2⟩ := yields_run hr d
    rw [e1, e2]
    have HP := hid (fun (k : Nat) (hk : k ≤ 40) wx => specprice_any b day (2500 * k) wx (run_of hr) (by omega) (by omega))
    rw [hr] at HR
    have HL := hid (fun (k : Nat) (hk : k ≤ 41) => leastK_bd b day d k hk)
    have HM := hid (fun (k : Nat) (hk : k ≤ 41) => mostK_bd b day d k hk)
    clear hr e1 e2
    go_enter Tryd.func24, Tryd.ntmps24
    go_wp2_with fail
    refine HR.out.mono ?_
    rintro e' w0 ⟨rfl, hg⟩
    have HG := hid (gr_trans0 HG.out hg)
    have Hb0 := hid (blk_keep Hb0.out hg (by simp))
    clear hg c0 c1 c2 c3
    go_wp2_with fail
    go_loopw [8, 9, 10] (fun l m i wr => ∃ k : Nat, k ≤ 41 ∧ l = .int .i64 (leastK b day d k) ∧ m = .int .i64 (mostK b day d k) ∧ i = .int .i64 (2500 * k) ∧ w.grownBy wr none ∧ wr.heap[w.heap.size]? = some (.cells #[.int .i64 b.start, .int .i64 b.stop, .int .i64 b.months, .int .i64 b.rate] 27 (0, 0))) (fun _ _ i _ => 102500 - (intOf i).toNat)
    case atStart => exact ⟨0, by omega, rfl, rfl, rfl, HG.out, Hb0.out⟩
    case round =>
      obtain ⟨k, hk, rfl, rfl, rfl, hg, hb⟩ := hrel
      have Hgr := hid hg
      have Hbr := hid hb
      clear hg hb
      by_cases hlt : k ≤ 40
      · have HPk := hid (HP.out k hlt)
        obtain ⟨l0, l1⟩ := HL.out k hk
        obtain ⟨m0, m1⟩ := HM.out k hk
        obtain ⟨pl, hpl⟩ : ∃ pl, priceLo b day (2500 * (k : Int)) = pl := ⟨_, rfl⟩
        obtain ⟨ph, hph⟩ : ∃ ph, priceHi b day (2500 * (k : Int)) = ph := ⟨_, rfl⟩
        obtain ⟨lk, hlk⟩ : ∃ lk, leastK b day d k = lk := ⟨_, rfl⟩
        obtain ⟨mk, hmk⟩ : ∃ mk, mostK b day d k = mk := ⟨_, rfl⟩
        have Hpl := hid hpl
        have Hph := hid hph
        have Hmk := hid hmk
        rw [hpl, hph] at HPk
        rw [hlk] at l0 l1 ⊢
        rw [hmk] at m0 m1 ⊢
        have Hlk := hid hlk
        clear hpl hph hlk hmk
        (try clear c0 c1 c2 c3)
        have c0 := blk_cell Hbr.out 0 _ rfl
        have c1 := blk_cell Hbr.out 1 _ rfl
        have c2 := blk_cell Hbr.out 2 _ rfl
        have c3 := blk_cell Hbr.out 3 _ rfl
        go_wp2_with fail
        refine (HPk.out _).mono ?_
        rintro e' w1 ⟨rfl, hg⟩
        have Hg2 := hid (gr_alloc (gr_trans0 Hgr.out hg) (Obj.cells #[.int .i64 (pl), .int .i64 (ph)] 25))
        have Hb2 := hid (blk_alloc (blk_keep Hbr.out hg (by simp)) (Obj.cells #[.int .i64 (pl), .int .i64 (ph)] 25))
        have He2 := hid (heap_alloc_new w1 (Obj.cells #[.int .i64 (pl), .int .i64 (ph)] 25))
        have d0 := blk_cell He2.out 0 _ rfl
        have d1 := blk_cell He2.out 1 _ rfl
        clear hg c0 c1 c2 c3
        by_cases h1 : d ≤ pl
        · have Hl := hid (least_yes (d := d) Hpl.out h1)
          have t1 : decide (d ≤ pl) = true := by simpa using h1
          have t1' : decide (pl < d) = false := by simpa using h1
          clear h1
          by_cases h2 : ph ≤ d
          · have t2 : decide (ph ≤ d) = true := by simpa using h2
            by_cases h3 : mk < 0
            · have Hmo := hid (most_yes Hph.out Hmk.out h2 h3)
              have t3 : decide (mk < 0) = true := by simpa using h3
              clear h2 h3
              go_wp2_with fail
              go_roundw
              case rel => exact ⟨k + 1, by omega, by rw [Hl.out], by rw [Hmo.out], by rw [show (2500 : Int) * ((k + 1 : Nat) : Int) = 2500 * k + 2500 by omega], Hg2.out, Hb2.out⟩
              case measure => simp [intOf]; omega
            · have Hmo := hid (most_no Hph.out Hmk.out (fun h => h3 h.2))
              have t3 : decide (mk < 0) = false := by simpa using h3
              clear h2 h3
              go_wp2_with fail
              go_roundw
              case rel => exact ⟨k + 1, by omega, by rw [Hl.out], by rw [Hmo.out], by rw [show (2500 : Int) * ((k + 1 : Nat) : Int) = 2500 * k + 2500 by omega], Hg2.out, Hb2.out⟩
              case measure => simp [intOf]; omega
          · have Hmo := hid (most_no (d := d) Hph.out Hmk.out (fun h => h2 h.1))
            have t2 : decide (ph ≤ d) = false := by simpa using h2
            clear h2
            go_wp2_with fail
            go_roundw
            case rel => exact ⟨k + 1, by omega, by rw [Hl.out], by rw [Hmo.out], by rw [show (2500 : Int) * ((k + 1 : Nat) : Int) = 2500 * k + 2500 by omega], Hg2.out, Hb2.out⟩
            case measure => simp [intOf]; omega
        · have Hl := hid (least_no (d := d) Hpl.out Hlk.out h1)
          have t1 : decide (d ≤ pl) = false := by simpa using h1
          have t1' : decide (pl < d) = true := by simpa using h1
          clear h1
          by_cases h2 : ph ≤ d
          · have t2 : decide (ph ≤ d) = true := by simpa using h2
            by_cases h3 : mk < 0
            · have Hmo := hid (most_yes Hph.out Hmk.out h2 h3)
              have t3 : decide (mk < 0) = true := by simpa using h3
              clear h2 h3
              go_wp2_with fail
              go_roundw
              case rel => exact ⟨k + 1, by omega, by rw [Hl.out], by rw [Hmo.out], by rw [show (2500 : Int) * ((k + 1 : Nat) : Int) = 2500 * k + 2500 by omega], Hg2.out, Hb2.out⟩
              case measure => simp [intOf]; omega
            · have Hmo := hid (most_no Hph.out Hmk.out (fun h => h3 h.2))
              have t3 : decide (mk < 0) = false := by simpa using h3
              clear h2 h3
              go_wp2_with fail
              go_roundw
              case rel => exact ⟨k + 1, by omega, by rw [Hl.out], by rw [Hmo.out], by rw [show (2500 : Int) * ((k + 1 : Nat) : Int) = 2500 * k + 2500 by omega], Hg2.out, Hb2.out⟩
              case measure => simp [intOf]; omega
          · have Hmo := hid (most_no (d := d) Hph.out Hmk.out (fun h => h2 h.1))
            have t2 : decide (ph ≤ d) = false := by simpa using h2
            clear h2
            go_wp2_with fail
            go_roundw
            case rel => exact ⟨k + 1, by omega, by rw [Hl.out], by rw [Hmo.out], by rw [show (2500 : Int) * ((k + 1 : Nat) : Int) = 2500 * k + 2500 by omega], Hg2.out, Hb2.out⟩
            case measure => simp [intOf]; omega
      · obtain rfl : k = 41 := by omega
        obtain ⟨l0, l1⟩ := HL.out 41 hk
        obtain ⟨m0, m1⟩ := HM.out 41 hk
        obtain ⟨lk, hlk⟩ : ∃ lk, leastK b day d 41 = lk := ⟨_, rfl⟩
        obtain ⟨mk, hmk⟩ : ∃ mk, mostK b day d 41 = mk := ⟨_, rfl⟩
        rw [hlk] at l0 l1 ⊢
        rw [hmk] at m0 m1 ⊢
        have Hlk := hid hlk
        have Hmk := hid hmk
        clear hlk hmk
        go_wp2_with fail
        go_ret2
        exact ⟨by rw [Hlk.out, Hmk.out]; rfl, Hgr.out⟩

end Go.Proofs.YtkgjciacdjhhfaaDoor
