/- The program's PeriodAt. -/
import Derived.Test.YtpmafjmgacdgfaaDoorRows
import Derived.Test.YtpmafjmgacdgfaaDoorBase
import Derived.Test.YtpmafjmgacdgfaaDoorBondFacts
import Derived.Test.YtpmafjmgacdgfaaDoorPers
namespace Go.Proofs.YtpmafjmgacdgfaaDoor
open Go.RowKit

def inPer (day : Int) (p : Per) : Bool := decide (p.frm ≤ day) && decide (day < p.till)
theorem perpred_any (D : Nat) (day : Int) (p : Per) (w : World) (hd : w.heap[D]? = some (.cells #[.int .i64 day] 3 (0, 0))) :
    Calls Tryd.prog 71 #[.agg #[.int .i64 p.frm, .int .i64 p.till, .bool p.whole], .pointer (some ⟨D, 0, none⟩)] w fun e' w' => e' = .returned (.bool (inPer day p)) ∧ w.grownBy w' none := by
  have d0 := blk_cell (blk_alloc hd (.cells #[.int .i64 p.frm, .int .i64 p.till, .bool p.whole] 51)) 0 _ rfl
  by_cases h1 : p.frm ≤ day
  · have e1 : decide (p.frm ≤ day) = true := by simpa using h1
    have H := hid (show inPer day p = decide (day < p.till) by unfold inPer; rw [e1, Bool.true_and])
    clear h1 hd
    go_enter Tryd.func71, Tryd.ntmps71
    go_wp2_with fail
    go_ret
    exact ⟨ret_bool H.out.symm, gr_alloc (gr0 _) _⟩
  · have e1 : decide (p.frm ≤ day) = false := by simpa using h1
    have H := hid (show inPer day p = false by unfold inPer; rw [e1, Bool.false_and])
    clear h1 hd
    go_enter Tryd.func71, Tryd.ntmps71
    go_wp2_with fail
    go_ret
    exact ⟨ret_bool H.out.symm, gr_alloc (gr0 _) _⟩

def idxF (p : Per → Bool) (L : List Per) : Int := if L.findIdx p < L.length then L.findIdx p else -1
set_option maxRecDepth 100000 in
set_option maxHeartbeats 1000000 in
theorem IndexPer_any (D : Nat) (day : Int) (a : Option Addr) (n cap : Nat) (L : List Per) (w : World) (hs : Sl perL w a n L) (hd : w.heap[D]? = some (.cells #[.int .i64 day] 3 (0, 0))) (hn : n ≤ 1000) :
    Calls Tryd.prog 70 #[.slice a n cap, .func (.func 71) #[] #[.pointer (some ⟨D, 0, none⟩)]] w fun e' w' => e' = .returned (.int .i64 (idxF (inPer day) L)) ∧ w.grownBy w' none := by
  have Hs := hid hs; clear hs
  have Hd := hid hd; clear hd
  go_enter Tryd.func70, Tryd.ntmps70
  go_wp2_with fail
  go_loopw [8] (fun i wr => ∃ k : Nat, k ≤ n ∧ i = .int .i64 k ∧ Hid (∀ (t : Nat) (x : Per), t < k → L[t]? = some x → inPer day x = false) ∧ w.grownBy wr none) (fun i _ => n - (intOf i).toNat)
  case atStart => exact ⟨0, by omega, rfl, hid (fun t x ht => by omega), gr0 _⟩
  case round =>
    obtain ⟨k, hk, rfl, Hall, hg⟩ := hrel
    have Hg := hid hg
    clear hg
    by_cases hlt : k < n
    · obtain ⟨b, o, x, rfl, hx, l0, l1, l2⟩ := per_at (Hs.out.keep0 Hg.out) k hlt
      have Hx := hid hx
      have hi0 : (0 : Int) ≤ k := by omega
      have hi1 : (k : Int) < n := by omega
      have HP := hid (perpred_any D day x wr (blk_keep Hd.out Hg.out (by simp)))
      clear hx
      cases hp : inPer day x with
      | true =>
        have Hf : Hid (idxF (inPer day) L = k) := hid (by
          have h1 : L.findIdx (inPer day) = k := by
            have hkl := lt_of_at Hx.out
            refine (List.findIdx_eq hkl).2 ⟨?_, fun j hj => ?_⟩
            · rw [List.getElem?_eq_getElem hkl] at Hx; rw [Option.some.inj Hx.out]; exact hp
            · have := Hall.out j L[j] hj (by simp)
              simpa using this
          unfold idxF
          rw [h1, if_pos (lt_of_at Hx.out)])
        rw [hp] at HP
        clear hp
        go_wp2_with fail
        refine HP.out.mono ?_
        rintro e' w2 ⟨rfl, hg2⟩
        have Hg2 := hid (gr_trans0 Hg.out hg2)
        clear hg2
        go_wp2_with fail
        go_ret
        exact ⟨ret_int Hf.out.symm, Hg2.out⟩
      | false =>
        have Hall2 : Hid (∀ (t : Nat) (y : Per), t < k + 1 → L[t]? = some y → inPer day y = false) := hid (fun t y ht hy => by
          by_cases e : t = k
          · subst e; rw [Hx.out] at hy; cases hy; exact hp
          · exact Hall.out t y (by omega) hy)
        rw [hp] at HP
        clear hp
        go_wp2_with fail
        refine HP.out.mono ?_
        rintro e' w2 ⟨rfl, hg2⟩
        have Hg2 := hid (gr_trans0 Hg.out hg2)
        clear hg2
        go_wp2_with fail
        go_roundw
        case rel => exact ⟨k + 1, by omega, by go_num, Hall2, Hg2.out⟩
        case measure => simp [intOf]; omega
    · have Hf : Hid (idxF (inPer day) L = -1) := hid (by
        unfold idxF
        have h1 : L.findIdx (inPer day) = L.length := List.findIdx_eq_length.2 (fun x hx => by
          obtain ⟨t, ht⟩ := List.getElem?_of_mem hx
          exact Hall.out t x (by have := lt_of_at ht; have := Hs.out.len; omega) ht)
        rw [h1, if_neg (by omega)])
      go_wp2_with fail
      go_ret
      exact ⟨ret_int Hf.out.symm, Hg.out⟩

set_option maxHeartbeats 400000 in
theorem PeriodAt_any (day : Int) (a : Option Addr) (n cap : Nat) (L : List Per) (w : World) (hs : Sl perL w a n L) (hn : n ≤ 40) :
    Calls Tryd.prog 37 #[.slice a n cap, .int .i64 day] w fun e' w' => e' = .returned (.int .i64 (idxF (inPer day) L)) ∧ w.grownBy w' none := by
  have HI := hid (IndexPer_any w.heap.size day a n cap L (w.alloc (.cells #[.int .i64 day] 3)) (hs.keep0 (gr_alloc (gr0 _) _)) (heap_alloc_new _ _) (by omega))
  have hn2 : (n : Int) ≤ 40 := by omega
  clear hs
  go_enter Tryd.func37, Tryd.ntmps37
  go_wp2_with fail
  refine HI.out.mono ?_
  rintro e' w2 ⟨rfl, hg2⟩
  have Hg2 := hid (gr_trans0 (gr_alloc (gr0 w) (.cells #[.int .i64 day] 3)) hg2)
  clear hg2
  go_wp2_with fail
  go_ret
  exact ⟨rfl, Hg2.out⟩

end Go.Proofs.YtpmafjmgacdgfaaDoor
