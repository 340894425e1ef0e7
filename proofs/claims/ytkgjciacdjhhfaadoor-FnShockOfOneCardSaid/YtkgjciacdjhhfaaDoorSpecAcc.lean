/- Accrued interest of the reference. -/
import Derived.Test.YtkgjciacdjhhfaaDoorRows
import Derived.Test.YtkgjciacdjhhfaaDoorBase
import Derived.Test.YtkgjciacdjhhfaaDoorAccWalk
import Derived.Deep.Cut
import Derived.Deep.CutRange
namespace Go.Proofs.YtkgjciacdjhhfaaDoor
open Go.RowKit

set_option maxHeartbeats 400000 in
theorem specrunning_any (b : Bond) (day : Int) (w : World) :
    Calls Tryd.prog 37 #[.agg #[.int .i64 b.start, .int .i64 b.stop, .int .i64 b.months, .int .i64 b.rate], .int .i64 day] w fun e' w' => e' = .returned (.bool (runB b day)) ∧ w.grownBy w' none := by
  have Hb0 := hid (heap_alloc_new w (.cells #[.int .i64 b.start, .int .i64 b.stop, .int .i64 b.months, .int .i64 b.rate] 27))
  have HV := hid (specvalidBond_any b (w.alloc (.cells #[.int .i64 b.start, .int .i64 b.stop, .int .i64 b.months, .int .i64 b.rate] 27)))
  by_cases h : bondB b = true
  · have hok := ok_bond h
    have h1 := hok.span.s0; have h2 := hok.span.se; have h3 := hok.span.e1
    have H : Hid (withinB day b.start (b.stop - 1) = runB b day) := hid (by
      rw [Bool.eq_iff_iff]; unfold runB withinB; rw [h]
      simp only [Bool.true_and, Bool.and_eq_true, decide_eq_true_eq]; omega)
    rw [h] at HV
    clear hok h
    go_enter Tryd.func37, Tryd.ntmps37
    go_wp2_with fail
    refine HV.out.mono ?_
    rintro e' w1 ⟨rfl, hg⟩
    have Hg := hid (gr_trans0 (gr_alloc (gr0 w) _) hg)
    have hb1 := blk_keep Hb0.out hg (by simp)
    have c0 := blk_cell hb1 0 _ rfl
    have c1 := blk_cell hb1 1 _ rfl
    clear hb1 hg
    go_wp2_with fail
    refine (inRange_any _ _ _ _).mono ?_
    rintro e' w2 ⟨rfl, rfl⟩
    rw [H.out]
    go_wp2_with fail
    go_ret
    exact ⟨rfl, Hg.out⟩
  · have h : bondB b = false := by simpa using h
    have H : Hid (runB b day = false) := hid (by unfold runB; rw [h]; rfl)
    rw [h] at HV
    go_enter Tryd.func37, Tryd.ntmps37
    go_wp2_with fail
    refine HV.out.mono ?_
    rintro e' w1 ⟨rfl, hg⟩
    have Hg := hid (gr_trans0 (gr_alloc (gr0 w) _) hg)
    clear hg
    go_wp2_with fail
    go_ret
    exact ⟨ret_bool H.out.symm, Hg.out⟩

theorem OkBond.spanB {b : Bond} (h : OkBond b) : spanB b.start b.stop b.months = true := by
  have := h.ok
  unfold schedOk at this
  simp only [Bool.and_eq_true] at this
  exact this.1

/-- The reference's schedule at a valid bond. -/
theorem specsched_ok (b : Bond) (w : World) (h : OkBond b) :
    Calls Tryd.prog 58 #[.int .i64 b.start, .int .i64 b.stop, .int .i64 b.months] w fun e' w' => ∃ a n cap, e' = .returned (.slice a n cap) ∧ Ow perL w' w.heap.size a n (persF b) ∧ n ≤ cap ∧ w.grownBy w' none := by
  refine (specschedule_any b.start b.stop b.months w h.spanB).mono ?_
  rintro e' w' ⟨a, cap, rfl, ho, hc, hg⟩
  refine ⟨a, _, cap, rfl, ?_, hc, hg⟩
  have e : schedR b.start b.stop b.months = persF b := schedR_eq _ _ _ h.span.q2
  rwa [e] at ho

set_option maxRecDepth 100000 in
set_option maxHeartbeats 1000000 in
theorem specperiodOf_any (b : Bond) (day : Int) (w : World) (h : runB b day = true) :
    Calls Tryd.prog 57 #[.agg #[.int .i64 b.start, .int .i64 b.stop, .int .i64 b.months, .int .i64 b.rate], .int .i64 day] w fun e' w' => e' = .returned (.int .i64 (atF (persF b) day)) ∧ w.grownBy w' none := by
  obtain ⟨hok, hd0, hd1⟩ := run_facts h
  have HS := hid (specsched_ok b (w.alloc (.cells #[.int .i64 b.start, .int .i64 b.stop, .int .i64 b.months, .int .i64 b.rate] 27)) hok)
  have Hch := hid hok.chain
  have Hsp := hid (hok.chain.at_spec day hd0 hd1)
  have hpl : (persF b).length ≤ 40 := by unfold persF; rw [sched_len]; exact hok.span.q2
  clear h hok
  generalize hL : persF b = L at *
  have HL := hid hL
  clear hL
  go_enter Tryd.func57, Tryd.ntmps57
  go_wp2_with fail
  refine HS.out.mono ?_
  rintro e' w1 ⟨a, n, cap, rfl, ho, hc, hg⟩
  have hnl := ho.len
  have Ho := hid ho
  have Hg := hid (gr_trans0 (gr_alloc (gr0 w) _) hg)
  clear ho hg hc
  go_wp2_with fail
  go_loopw [6] (fun i wr => ∃ k : Nat, k ≤ n ∧ i = .int .i64 k ∧ Hid (∀ (t : Nat) (x : Per), t < k → L[t]? = some x → ¬ (x.frm ≤ day ∧ day < x.till)) ∧ wr = w1) (fun i _ => n - (intOf i).toNat)
  case atStart => exact ⟨0, by omega, rfl, hid (fun t x ht => by omega), by trivial⟩
  case round =>
    obtain ⟨k, hk, rfl, Hall, rfl⟩ := hrel
    by_cases hlt : k < n
    · obtain ⟨b1, o1, x, rfl, hx, c0, c1, c2⟩ := per_at Ho.out.sl k hlt
      have Hx := hid hx
      have hi0 : (0 : Int) ≤ k := by omega
      have hi1 : (k : Int) < n := by omega
      clear hx c2
      by_cases hf : x.frm ≤ day
      · have hfd : decide (x.frm ≤ day) = true := by simpa using hf
        by_cases ht : day < x.till
        · have htd : decide (day < x.till) = true := by simpa using ht
          have H := hid (Hch.out.at_uniq day k x Hx.out hf ht)
          clear hf ht
          go_wp2_with fail
          go_ret
          exact ⟨ret_int (by rw [H.out]), Hg.out⟩
        · have htd : decide (day < x.till) = false := by simpa using ht
          have Hall2 : Hid (∀ (t : Nat) (y : Per), t < k + 1 → L[t]? = some y → ¬ (y.frm ≤ day ∧ day < y.till)) := hid (fun t y htk hy => by
            by_cases e : t = k
            · subst e; rw [Hx.out] at hy; cases hy; omega
            · exact Hall.out t y (by omega) hy)
          clear hf ht
          go_wp2_with fail
          go_roundw
          case rel => exact ⟨k + 1, by omega, by go_num, Hall2, by trivial⟩
          case measure => simp [intOf]; omega
      · have hfd : decide (x.frm ≤ day) = false := by simpa using hf
        have Hall2 : Hid (∀ (t : Nat) (y : Per), t < k + 1 → L[t]? = some y → ¬ (y.frm ≤ day ∧ day < y.till)) := hid (fun t y htk hy => by
          by_cases e : t = k
          · subst e; rw [Hx.out] at hy; cases hy; omega
          · exact Hall.out t y (by omega) hy)
        clear hf
        go_wp2_with fail
        go_roundw
        case rel => exact ⟨k + 1, by omega, by go_num, Hall2, by trivial⟩
        case measure => simp [intOf]; omega
    · exfalso
      obtain ⟨p, hp, a1, a2, _, a4⟩ := Hsp.out
      exact Hall.out (atF L day) p (by omega) hp ⟨a1, a2⟩

end Go.Proofs.YtkgjciacdjhhfaaDoor
