/- The reference's ProRate and both DrawLots. -/
import Derived.Test.YtecboohippbliaaRows
import Derived.Test.YtecboohippbliaaBase
import Derived.Test.YtecboohippbliaaHolders
import Derived.Test.YtecboohippbliaaProRate
import Derived.Test.YtecboohippbliaaSpecProRate
namespace Go.Proofs.Ytecboohippbliaa
open Go.RowKit

def specProRateF (amount : Int) (ws : List Int) : List Int := if proOk amount ws = true then specF amount ws else []

set_option maxRecDepth 100000 in
set_option maxHeartbeats 400000 in
theorem specProRate_any (amount : Int) (a : Option Addr) (n cap : Nat) (ws : List Int) (w : World) (hs : Sl intL w a n ws) :
    Calls Try.prog 19 #[.int .i64 amount, .slice a n cap] w fun e w' => ∃ a' n' cap', e = .returned (.slice a' n' cap') ∧ Ow intL w' w.heap.size a' n' (specProRateF amount ws) ∧ n' ≤ cap' ∧ w.grownBy w' none := by
  have Hs := hid hs; clear hs
  by_cases h1 : withinB amount 0 1000000000 = true
  · by_cases h2 : holdersOk ws = true
    · obtain ⟨f1, f2, f3, f4, f5, f6⟩ := holders_facts ws h2
      have F3 := hid f3; clear f3
      have F4 := hid f4; clear f4
      by_cases h3 : sumI ws = 0
      · have Hfin : Hid (specProRateF amount ws = []) := hid (by unfold specProRateF proOk; rw [h3]; simp)
        go_enter Try.func19, Try.ntmps19
        go_wp2_with fail
        refine (inRange_any _ _ _ _).mono ?_
        rintro e w' ⟨rfl, rfl⟩
        go_wp2_with fail
        refine (validHolders_any a n cap ws w Hs.out).mono ?_
        rintro e w' ⟨rfl, rfl⟩
        go_wp2_with fail
        refine (spectotal_any a n cap ws w Hs.out).mono ?_
        rintro e w' ⟨rfl, rfl⟩
        rw [F4.out, h3]
        go_wp2_with fail
        go_ret
        exact ⟨none, 0, 0, rfl, by rw [Hfin.out]; exact Ow.nil _ _ _ _, Nat.le_refl _, gr_refl _ _⟩
      · have ha := (within_iff' _ _ _).1 h1
        have Hfin : Hid (specProRateF amount ws = specF amount ws) := hid (by unfold specProRateF proOk; rw [h1, h2]; simp [h3])
        obtain ⟨q1, q2, q3⟩ := quos_facts amount ws h2 (by omega) ha.1 ha.2
        have hl := Hs.out.len
        have hb : (sumI ws == 0) = false := by simpa using h3
        have S := hid (prorate_any amount a n cap ws w Hs.out (by omega) (by omega) ha.1 ha.2 F3.out (by omega) q1 (by omega) q3)
        clear q1 q2 q3 h3 hl
        go_enter Try.func19, Try.ntmps19
        go_wp2_with fail
        refine (inRange_any _ _ _ _).mono ?_
        rintro e w' ⟨rfl, rfl⟩
        go_wp2_with fail
        refine (validHolders_any a n cap ws w Hs.out).mono ?_
        rintro e w' ⟨rfl, rfl⟩
        go_wp2_with fail
        refine (spectotal_any a n cap ws w Hs.out).mono ?_
        rintro e w' ⟨rfl, rfl⟩
        rw [F4.out]
        go_wp2_with fail
        refine S.out.mono ?_
        rintro e w1 ⟨a', cap', rfl, ho, hc, hg⟩
        have Ho := hid ho; clear ho
        go_wp2_with fail
        go_ret
        exact ⟨a', n, cap', rfl, by rw [Hfin.out]; exact Ho.out, hc, hg⟩
    · have h2' : holdersOk ws = false := by simpa using h2
      have Hfin : Hid (specProRateF amount ws = []) := hid (by unfold specProRateF proOk; rw [h2']; simp)
      clear h2
      go_enter Try.func19, Try.ntmps19
      go_wp2_with fail
      refine (inRange_any _ _ _ _).mono ?_
      rintro e w' ⟨rfl, rfl⟩
      go_wp2_with fail
      refine (validHolders_any a n cap ws w Hs.out).mono ?_
      rintro e w' ⟨rfl, rfl⟩
      go_wp2_with fail
      go_ret
      exact ⟨none, 0, 0, rfl, by rw [Hfin.out]; exact Ow.nil _ _ _ _, Nat.le_refl _, gr_refl _ _⟩
  · have h1' : withinB amount 0 1000000000 = false := by simpa using h1
    have Hfin : Hid (specProRateF amount ws = []) := hid (by unfold specProRateF proOk; rw [h1']; simp)
    clear h1
    go_enter Try.func19, Try.ntmps19
    go_wp2_with fail
    refine (inRange_any _ _ _ _).mono ?_
    rintro e w' ⟨rfl, rfl⟩
    go_wp2_with fail
    go_ret
    exact ⟨none, 0, 0, rfl, by rw [Hfin.out]; exact Ow.nil _ _ _ _, Nat.le_refl _, gr_refl _ _⟩

def drawLotsF (amount : Int) (ws : List Int) : List Int := if holdersOk ws = true ∧ amount ≤ sumI ws then proRateF amount ws else []
def specDrawLotsF (amount : Int) (ws : List Int) : List Int := if holdersOk ws = true ∧ sumI ws ≠ 0 ∧ withinB amount 0 (sumI ws) = true then specF amount ws else []

set_option maxRecDepth 100000 in
set_option maxHeartbeats 400000 in
theorem DrawLots_any (amount : Int) (a : Option Addr) (n cap : Nat) (ws : List Int) (w : World) (hs : Sl intL w a n ws) :
    Calls Try.prog 26 #[.int .i64 amount, .slice a n cap] w fun e w' => ∃ a' n' cap', e = .returned (.slice a' n' cap') ∧ Ow intL w' w.heap.size a' n' (drawLotsF amount ws) ∧ n' ≤ cap' ∧ w.grownBy w' none := by
  have Hs := hid hs; clear hs
  by_cases h2 : holdersOk ws = true
  · obtain ⟨f1, f2, f3, f4, f5, f6⟩ := holders_facts ws h2
    have F4 := hid f4; clear f4 f3
    by_cases h3 : sumI ws < amount
    · have Hfin : Hid (drawLotsF amount ws = []) := hid (by unfold drawLotsF; rw [if_neg (by omega)])
      go_enter Try.func26, Try.ntmps26
      go_wp2_with fail
      refine (holdersValid_any a n cap ws w Hs.out).mono ?_
      rintro e w' ⟨rfl, rfl⟩
      go_wp2_with fail
      refine (total_any a n cap ws w Hs.out).mono ?_
      rintro e w' ⟨rfl, rfl⟩
      rw [F4.out]
      go_wp2_with fail
      go_ret
      exact ⟨none, 0, 0, rfl, by rw [Hfin.out]; exact Ow.nil _ _ _ _, Nat.le_refl _, gr_refl _ _⟩
    · have Hfin : Hid (drawLotsF amount ws = proRateF amount ws) := hid (by unfold drawLotsF; rw [if_pos ⟨h2, by omega⟩])
      have S := hid (ProRate_any amount a n cap ws w Hs.out)
      go_enter Try.func26, Try.ntmps26
      go_wp2_with fail
      refine (holdersValid_any a n cap ws w Hs.out).mono ?_
      rintro e w' ⟨rfl, rfl⟩
      go_wp2_with fail
      refine (total_any a n cap ws w Hs.out).mono ?_
      rintro e w' ⟨rfl, rfl⟩
      rw [F4.out]
      go_wp2_with fail
      refine S.out.mono ?_
      rintro e w1 ⟨a', n', cap', rfl, ho, hc, hg⟩
      have Ho := hid ho; clear ho
      go_wp2_with fail
      go_ret
      exact ⟨a', n', cap', rfl, by rw [Hfin.out]; exact Ho.out, hc, hg⟩
  · have h2' : holdersOk ws = false := by simpa using h2
    have Hfin : Hid (drawLotsF amount ws = []) := hid (by unfold drawLotsF; rw [h2']; simp)
    clear h2
    go_enter Try.func26, Try.ntmps26
    go_wp2_with fail
    refine (holdersValid_any a n cap ws w Hs.out).mono ?_
    rintro e w' ⟨rfl, rfl⟩
    go_wp2_with fail
    go_ret
    exact ⟨none, 0, 0, rfl, by rw [Hfin.out]; exact Ow.nil _ _ _ _, Nat.le_refl _, gr_refl _ _⟩

set_option maxRecDepth 100000 in
set_option maxHeartbeats 400000 in
theorem specDrawLots_any (amount : Int) (a : Option Addr) (n cap : Nat) (ws : List Int) (w : World) (hs : Sl intL w a n ws) :
    Calls Try.prog 25 #[.int .i64 amount, .slice a n cap] w fun e w' => ∃ a' n' cap', e = .returned (.slice a' n' cap') ∧ Ow intL w' w.heap.size a' n' (specDrawLotsF amount ws) ∧ n' ≤ cap' ∧ w.grownBy w' none := by
  have Hs := hid hs; clear hs
  by_cases h2 : holdersOk ws = true
  · obtain ⟨f1, f2, f3, f4, f5, f6⟩ := holders_facts ws h2
    have F3 := hid f3; clear f3
    have F4 := hid f4; clear f4
    by_cases h3 : sumI ws = 0
    · have Hfin : Hid (specDrawLotsF amount ws = []) := hid (by unfold specDrawLotsF; rw [if_neg (by simp [h3])])
      go_enter Try.func25, Try.ntmps25
      go_wp2_with fail
      refine (validHolders_any a n cap ws w Hs.out).mono ?_
      rintro e w' ⟨rfl, rfl⟩
      go_wp2_with fail
      refine (spectotal_any a n cap ws w Hs.out).mono ?_
      rintro e w' ⟨rfl, rfl⟩
      rw [F4.out, h3]
      go_wp2_with fail
      go_ret
      exact ⟨none, 0, 0, rfl, by rw [Hfin.out]; exact Ow.nil _ _ _ _, Nat.le_refl _, gr_refl _ _⟩
    · have hb : (sumI ws == 0) = false := by simpa using h3
      by_cases h1 : withinB amount 0 (sumI ws) = true
      · have ha := (within_iff' _ _ _).1 h1
        have Hfin : Hid (specDrawLotsF amount ws = specF amount ws) := hid (by unfold specDrawLotsF; rw [if_pos ⟨h2, h3, h1⟩])
        obtain ⟨q1, q2, q3⟩ := quos_facts amount ws h2 (by omega) ha.1 (by omega)
        have hl := Hs.out.len
        have S := hid (prorate_any amount a n cap ws w Hs.out (by omega) (by omega) ha.1 (by omega) F3.out (by omega) q1 (by omega) q3)
        clear q1 q2 q3 h3 hl
        go_enter Try.func25, Try.ntmps25
        go_wp2_with fail
        refine (validHolders_any a n cap ws w Hs.out).mono ?_
        rintro e w' ⟨rfl, rfl⟩
        go_wp2_with fail
        refine (spectotal_any a n cap ws w Hs.out).mono ?_
        rintro e w' ⟨rfl, rfl⟩
        rw [F4.out]
        go_wp2_with fail
        refine (spectotal_any a n cap ws w Hs.out).mono ?_
        rintro e w' ⟨rfl, rfl⟩
        rw [F4.out]
        go_wp2_with fail
        refine (inRange_any _ _ _ _).mono ?_
        rintro e w' ⟨rfl, rfl⟩
        go_wp2_with fail
        refine S.out.mono ?_
        rintro e w1 ⟨a', cap', rfl, ho, hc, hg⟩
        have Ho := hid ho; clear ho
        go_wp2_with fail
        go_ret
        exact ⟨a', n, cap', rfl, by rw [Hfin.out]; exact Ho.out, hc, hg⟩
      · have h1' : withinB amount 0 (sumI ws) = false := by simpa using h1
        have Hfin : Hid (specDrawLotsF amount ws = []) := hid (by unfold specDrawLotsF; rw [if_neg (by rw [h1']; simp)])
        clear h1 h3
        go_enter Try.func25, Try.ntmps25
        go_wp2_with fail
        refine (validHolders_any a n cap ws w Hs.out).mono ?_
        rintro e w' ⟨rfl, rfl⟩
        go_wp2_with fail
        refine (spectotal_any a n cap ws w Hs.out).mono ?_
        rintro e w' ⟨rfl, rfl⟩
        rw [F4.out]
        go_wp2_with fail
        refine (spectotal_any a n cap ws w Hs.out).mono ?_
        rintro e w' ⟨rfl, rfl⟩
        rw [F4.out]
        go_wp2_with fail
        refine (inRange_any _ _ _ _).mono ?_
        rintro e w' ⟨rfl, rfl⟩
        go_wp2_with fail
        go_ret
        exact ⟨none, 0, 0, rfl, by rw [Hfin.out]; exact Ow.nil _ _ _ _, Nat.le_refl _, gr_refl _ _⟩
  · have h2' : holdersOk ws = false := by simpa using h2
    have Hfin : Hid (specDrawLotsF amount ws = []) := hid (by unfold specDrawLotsF; rw [h2']; simp)
    clear h2
    go_enter Try.func25, Try.ntmps25
    go_wp2_with fail
    refine (validHolders_any a n cap ws w Hs.out).mono ?_
    rintro e w' ⟨rfl, rfl⟩
    go_wp2_with fail
    go_ret
    exact ⟨none, 0, 0, rfl, by rw [Hfin.out]; exact Ow.nil _ _ _ _, Nat.le_refl _, gr_refl _ _⟩

end Go.Proofs.Ytecboohippbliaa
