/- The program's ProRate and DrawLots. -/
import Derived.Test.YtecboohippbliaaRows
import Derived.Test.YtecboohippbliaaBase
import Derived.Test.YtecboohippbliaaHolders
namespace Go.Proofs.Ytecboohippbliaa
open Go.RowKit

theorem within_iff' (n lo hi : Int) : withinB n lo hi = true ↔ lo ≤ n ∧ n ≤ hi := by
  unfold withinB; simp

theorem holders_facts (ws : List Int) (h : holdersOk ws = true) : 1 ≤ ws.length ∧ ws.length ≤ 8 ∧ (∀ x ∈ ws, 0 ≤ x ∧ x ≤ 9999) ∧ tot ws = sumI ws ∧ 0 ≤ sumI ws ∧ sumI ws ≤ 79992 := by
  unfold holdersOk intsIn at h
  simp only [Bool.and_eq_true, within_iff', List.all_eq_true] at h
  have h1 := h.1
  have h2 := sumI_bound ws 0 9999 h.2
  refine ⟨by omega, by omega, h.2, tot_eq ws 0 9999 h.2 (by omega) (by omega) (by omega) (by omega) (by omega), by omega, by omega⟩

theorem quos_sum (amount s : Int) (_hs : 0 < s) (ws : List Int) : s * sumI (ws.map fun w => amount * w / s) + sumI (ws.map fun w => amount * w % s) = amount * sumI ws := by
  induction ws with
  | nil => simp [sumI]
  | cons x xs ih =>
    simp only [List.map_cons, sumI]
    have h := Int.mul_ediv_add_emod (amount * x) s
    rw [Int.mul_add, Int.mul_add]
    omega

theorem rests_bound (amount s : Int) (hs : 0 < s) (ws : List Int) : 0 ≤ sumI (ws.map fun w => amount * w % s) ∧ sumI (ws.map fun w => amount * w % s) ≤ (s - 1) * ws.length := by
  have h := sumI_bound (ws.map fun w => amount * w % s) 0 (s - 1) (fun x hx => by
    obtain ⟨w, _, rfl⟩ := List.mem_map.1 hx
    have h1 := Int.emod_nonneg (amount * w) (show s ≠ 0 by omega)
    have h2 := Int.emod_lt_of_pos (amount * w) hs
    omega)
  rw [List.length_map] at h
  omega

theorem mem_le_sum (ws : List Int) (h : ∀ x ∈ ws, 0 ≤ x) (x : Int) (hx : x ∈ ws) : x ≤ sumI ws := by
  induction ws with
  | nil => cases hx
  | cons y ys ih =>
    have h0 : 0 ≤ sumI ys := by
      clear ih hx
      have h' : ∀ z ∈ ys, 0 ≤ z := fun z hz => h z (List.mem_cons_of_mem _ hz)
      clear h
      induction ys with
      | nil => simp [sumI]
      | cons z zs ih =>
        have h1 := h' z (by simp)
        have h2 := ih (fun u hu => h' u (List.mem_cons_of_mem _ hu))
        simp only [sumI]; omega
    have hy := h y (by simp)
    simp only [sumI]
    rcases List.mem_cons.1 hx with rfl | hx
    · omega
    · have := ih (fun z hz => h z (List.mem_cons_of_mem _ hz)) hx; omega

/-- What the shares' proof asks. -/
theorem quos_facts (amount : Int) (ws : List Int) (h : holdersOk ws = true) (hs : 0 < sumI ws) (ha0 : 0 ≤ amount) (ha1 : amount ≤ 1000000000) :
    0 ≤ amount - sumI (quos amount ws) ∧ amount - sumI (quos amount ws) ≤ ws.length ∧ (∀ x ∈ quos amount ws, 0 ≤ x ∧ x ≤ 1000000000) := by
  obtain ⟨h1, h2, h3, h4, h5, h6⟩ := holders_facts ws h
  have e1 := quos_sum amount (sumI ws) hs ws
  have e2 := rests_bound amount (sumI ws) hs ws
  unfold quos
  generalize hS : sumI (ws.map fun w => amount * w / sumI ws) = S at *
  generalize hR : sumI (ws.map fun w => amount * w % sumI ws) = R at *
  refine ⟨?_, ?_, ?_⟩
  · have : sumI ws * S ≤ sumI ws * amount := by rw [Int.mul_comm (sumI ws) amount]; omega
    have := Int.le_of_mul_le_mul_left this hs
    omega
  · have e3 : sumI ws * (amount - S) = R := by rw [Int.mul_sub, Int.mul_comm (sumI ws) amount]; omega
    have e4 : sumI ws * (amount - S) ≤ sumI ws * ws.length := by
      rw [e3]
      have : (sumI ws - 1) * (ws.length : Int) = sumI ws * ws.length - ws.length := by rw [Int.sub_mul, Int.one_mul]
      omega
    exact Int.le_of_mul_le_mul_left e4 hs
  · intro x hx
    obtain ⟨w, hw, rfl⟩ := List.mem_map.1 hx
    have hw0 := h3 w hw
    have hle := mem_le_sum ws (fun z hz => (h3 z hz).1) w hw
    refine ⟨Int.ediv_nonneg (Int.mul_nonneg ha0 hw0.1) (by omega), ?_⟩
    have : amount * w ≤ amount * sumI ws := Int.mul_le_mul_of_nonneg_left hle ha0
    have h7 : amount * w / sumI ws ≤ amount * sumI ws / sumI ws := Int.ediv_le_ediv hs this
    rw [Int.mul_ediv_cancel _ (by omega)] at h7
    omega

def proOk (amount : Int) (ws : List Int) : Bool := withinB amount 0 1000000000 && holdersOk ws && decide (sumI ws ≠ 0)
def proRateF (amount : Int) (ws : List Int) : List Int := if proOk amount ws = true then sharesF amount ws else []

set_option maxRecDepth 100000 in
set_option maxHeartbeats 400000 in
theorem ProRate_any (amount : Int) (a : Option Addr) (n cap : Nat) (ws : List Int) (w : World) (hs : Sl intL w a n ws) :
    Calls Try.prog 21 #[.int .i64 amount, .slice a n cap] w fun e w' => ∃ a' n' cap', e = .returned (.slice a' n' cap') ∧ Ow intL w' w.heap.size a' n' (proRateF amount ws) ∧ n' ≤ cap' ∧ w.grownBy w' none := by
  have Hs := hid hs; clear hs
  by_cases h1 : withinB amount 0 1000000000 = true
  · by_cases h2 : holdersOk ws = true
    · obtain ⟨f1, f2, f3, f4, f5, f6⟩ := holders_facts ws h2
      have F3 := hid f3; clear f3
      have F4 := hid f4; clear f4
      by_cases h3 : sumI ws = 0
      · have Hfin : Hid (proRateF amount ws = []) := hid (by unfold proRateF proOk; rw [h3]; simp)
        go_enter Try.func21, Try.ntmps21
        go_wp2_with fail
        refine (within_any _ _ _ _).mono ?_
        rintro e w' ⟨rfl, rfl⟩
        go_wp2_with fail
        refine (holdersValid_any a n cap ws w Hs.out).mono ?_
        rintro e w' ⟨rfl, rfl⟩
        go_wp2_with fail
        refine (total_any a n cap ws w Hs.out).mono ?_
        rintro e w' ⟨rfl, rfl⟩
        rw [F4.out, h3]
        go_wp2_with fail
        go_ret
        exact ⟨none, 0, 0, rfl, by rw [Hfin.out]; exact Ow.nil _ _ _ _, Nat.le_refl _, gr_refl _ _⟩
      · have ha := (within_iff' _ _ _).1 h1
        have Hfin : Hid (proRateF amount ws = sharesF amount ws) := hid (by unfold proRateF proOk; rw [h1, h2]; simp [h3])
        obtain ⟨q1, q2, q3⟩ := quos_facts amount ws h2 (by omega) ha.1 ha.2
        have hl := Hs.out.len
        have hb : (sumI ws == 0) = false := by simpa using h3
        have S := hid (shares_any amount a n cap ws w Hs.out (by omega) ha.1 ha.2 F3.out (by omega) q1 (by omega) q3)
        clear q1 q2 q3 h3 hl
        go_enter Try.func21, Try.ntmps21
        go_wp2_with fail
        refine (within_any _ _ _ _).mono ?_
        rintro e w' ⟨rfl, rfl⟩
        go_wp2_with fail
        refine (holdersValid_any a n cap ws w Hs.out).mono ?_
        rintro e w' ⟨rfl, rfl⟩
        go_wp2_with fail
        refine (total_any a n cap ws w Hs.out).mono ?_
        rintro e w' ⟨rfl, rfl⟩
        rw [F4.out]
        go_wp2_with fail
        refine S.out.mono ?_
        rintro e w1 ⟨a', cap', rfl, ho, hc, hg⟩
        have Ho := hid ho; clear ho
        go_wp2_with fail
        go_ret
        exact ⟨a', n, cap', rfl, by rw [Hfin.out]; exact Ho.out, hc, hg⟩
    · have h2' : holdersOk ws = false := by simpa using h2
      have Hfin : Hid (proRateF amount ws = []) := hid (by unfold proRateF proOk; rw [h2']; simp)
      clear h2
      go_enter Try.func21, Try.ntmps21
      go_wp2_with fail
      refine (within_any _ _ _ _).mono ?_
      rintro e w' ⟨rfl, rfl⟩
      go_wp2_with fail
      refine (holdersValid_any a n cap ws w Hs.out).mono ?_
      rintro e w' ⟨rfl, rfl⟩
      go_wp2_with fail
      go_ret
      exact ⟨none, 0, 0, rfl, by rw [Hfin.out]; exact Ow.nil _ _ _ _, Nat.le_refl _, gr_refl _ _⟩
  · have h1' : withinB amount 0 1000000000 = false := by simpa using h1
    have Hfin : Hid (proRateF amount ws = []) := hid (by unfold proRateF proOk; rw [h1']; simp)
    clear h1
    go_enter Try.func21, Try.ntmps21
    go_wp2_with fail
    refine (within_any _ _ _ _).mono ?_
    rintro e w' ⟨rfl, rfl⟩
    go_wp2_with fail
    go_ret
    exact ⟨none, 0, 0, rfl, by rw [Hfin.out]; exact Ow.nil _ _ _ _, Nat.le_refl _, gr_refl _ _⟩

end Go.Proofs.Ytecboohippbliaa
