/- Periods in memory: their layout; slices.Reverse and slices.Clip at them. -/
import Derived.Test.YtpomlbloeejbjaaDoorRows
import Derived.Test.YtpomlbloeejbjaaDoorBase
import Derived.Test.YtpomlbloeejbjaaDoorSched
import Derived.RegionTactic
import Derived.BigRegion
namespace Go.Proofs.YtpomlbloeejbjaaDoor
open Go.RowKit

def perL : Lay Per := ⟨3, fun p => [.int .i64 p.frm, .int .i64 p.till, .bool p.whole], fun _ => rfl⟩
theorem per_at {w : World} {a : Option Addr} {n : Nat} {xs : List Per} (h : Sl perL w a n xs) (k : Nat) (hk : k < n) :
    ∃ b off x, a = some ⟨b, off, none⟩ ∧ xs[k]? = some x ∧ w.cell? ⟨b, off + k * 3, none⟩ = some (.int .i64 x.frm) ∧ w.cell? ⟨b, off + k * 3 + 1, none⟩ = some (.int .i64 x.till) ∧ w.cell? ⟨b, off + k * 3 + 2, none⟩ = some (.bool x.whole) := by
  obtain ⟨b, off, x, ha, hx, _, hc⟩ := h.at k hk
  exact ⟨b, off, x, ha, hx, hc 0 _ rfl, hc 1 _ rfl, hc 2 _ rfl⟩

theorem Ow.set3 {w : World} {base b off n : Nat} {xs : List Per} (h : Ow perL w base (some ⟨b, off, none⟩) n xs) (k : Nat) (x y : Per) (hx : xs[k]? = some x) :
    Ow perL (((w.setCell ⟨b, off + k * 3, none⟩ (.int .i64 y.frm)).setCell ⟨b, off + k * 3 + 1, none⟩ (.int .i64 y.till)).setCell ⟨b, off + k * 3 + 2, none⟩ (.bool y.whole)) base (some ⟨b, off, none⟩) n (xs.set k y) := by
  have hk := lt_of_at hx
  have o1 := h.set k 0 x ⟨y.frm, x.till, x.whole⟩ (.int .i64 y.frm) hx (by simp [perL]) rfl (off + k * 3) (by simp [perL])
  have o2 := o1.set k 1 ⟨y.frm, x.till, x.whole⟩ ⟨y.frm, y.till, x.whole⟩ (.int .i64 y.till) (List.getElem?_set_self hk) (by simp [perL]) rfl (off + k * 3 + 1) (by simp [perL]; omega)
  rw [List.set_set] at o2
  have o3 := o2.set k 2 ⟨y.frm, y.till, x.whole⟩ y (.bool y.whole) (List.getElem?_set_self hk) (by simp [perL]) rfl (off + k * 3 + 2) (by simp [perL]; omega)
  rw [List.set_set] at o3
  exact o3

def revSt (xs : List Per) (i : Nat) : List Per := (List.range xs.length).map fun t => if t < i ∨ xs.length - i ≤ t then xs.getD (xs.length - 1 - t) ⟨0, 0, false⟩ else xs.getD t ⟨0, 0, false⟩
theorem revSt_len (xs : List Per) (i : Nat) : (revSt xs i).length = xs.length := by unfold revSt; simp
theorem revSt_at (xs : List Per) (i t : Nat) (ht : t < xs.length) : (revSt xs i)[t]? = some (if t < i ∨ xs.length - i ≤ t then xs.getD (xs.length - 1 - t) ⟨0, 0, false⟩ else xs.getD t ⟨0, 0, false⟩) := by
  unfold revSt; rw [List.getElem?_map, List.getElem?_range ht]; rfl
theorem revSt_zero (xs : List Per) : revSt xs 0 = xs := by
  apply List.ext_getElem?
  intro t
  by_cases ht : t < xs.length
  · rw [revSt_at xs 0 t ht, if_neg (by omega), List.getD_eq_getElem?_getD, List.getElem?_eq_getElem ht]; rfl
  · rw [List.getElem?_eq_none (by rw [revSt_len]; omega), List.getElem?_eq_none (by omega)]
theorem revSt_end (xs : List Per) (i : Nat) (h : xs.length ≤ 2 * i + 1) : revSt xs i = xs.reverse := by
  apply List.ext_getElem?
  intro t
  by_cases ht : t < xs.length
  · rw [revSt_at xs i t ht, List.getElem?_reverse ht]
    by_cases hc : t < i ∨ xs.length - i ≤ t
    · rw [if_pos hc, List.getD_eq_getElem?_getD, List.getElem?_eq_getElem (show xs.length - 1 - t < xs.length by omega)]; rfl
    · rw [if_neg hc, show xs.length - 1 - t = t by omega, List.getD_eq_getElem?_getD, List.getElem?_eq_getElem ht]; rfl
  · rw [List.getElem?_eq_none (by rw [revSt_len]; omega), List.getElem?_eq_none (by rw [List.length_reverse]; omega)]
theorem revSt_step (xs : List Per) (i j : Nat) (x y : Per) (hij : i + j + 1 = xs.length) (hlt : i < j) (hx : xs[i]? = some x) (hy : xs[j]? = some y) :
    (revSt xs i)[i]? = some x ∧ (revSt xs i)[j]? = some y ∧ ((revSt xs i).set i y).set j x = revSt xs (i + 1) := by
  have hxi : xs.getD i ⟨0, 0, false⟩ = x := by rw [List.getD_eq_getElem?_getD, hx]; rfl
  have hyj : xs.getD j ⟨0, 0, false⟩ = y := by rw [List.getD_eq_getElem?_getD, hy]; rfl
  refine ⟨by rw [revSt_at xs i i (by omega), if_neg (by omega), hxi], by rw [revSt_at xs i j (by omega), if_neg (by omega), hyj], ?_⟩
  apply List.ext_getElem?
  intro t
  by_cases ht : t < xs.length
  · rw [revSt_at xs (i + 1) t ht]
    by_cases h1 : t = j
    · subst h1
      rw [List.getElem?_set_self (by rw [List.length_set, revSt_len]; exact ht), if_pos (by omega), show xs.length - 1 - t = i by omega, hxi]
    · rw [List.getElem?_set_ne (by omega)]
      by_cases h2 : t = i
      · subst h2
        rw [List.getElem?_set_self (by rw [revSt_len]; exact ht), if_pos (by omega), show xs.length - 1 - t = j by omega, hyj]
      · rw [List.getElem?_set_ne (by omega), revSt_at xs i t ht]
        congr 1
        by_cases hc : t < i ∨ xs.length - i ≤ t
        · rw [if_pos hc, if_pos (by omega)]
        · rw [if_neg hc, if_neg (by omega)]
  · rw [List.getElem?_eq_none (by rw [List.length_set, List.length_set, revSt_len]; omega), List.getElem?_eq_none (by rw [revSt_len]; omega)]

theorem ClipPers_any (a : Option Addr) (n cap : Nat) (w : World) (hc : n ≤ cap) (_hm : cap ≤ maxLen) (ha : a.isSome = true) :
    Calls Tryd.prog 84 #[.slice a n cap] w fun e w' => e = .returned (.slice a n n) ∧ w = w' := by
  unfold maxLen at _hm
  cases a with
  | none => cases ha
  | some a =>
    go_enter Tryd.func84, Tryd.ntmps84
    go_wp2
    go_ret
    exact ⟨rfl, rfl⟩

set_option maxRecDepth 100000 in
set_option maxHeartbeats 1000000 in
theorem ReversePers_any (g B n cap : Nat) (xs : List Per) (w : World) (ho : Ow perL w B (some ⟨g, 0, none⟩) n xs) (hn1 : 1 ≤ n) (hn : n ≤ 100) :
    Calls Tryd.prog 83 #[.slice (some ⟨g, 0, none⟩) n cap] w fun e w' => e = .returned (.tuple #[]) ∧ Ow perL w' B (some ⟨g, 0, none⟩) n xs.reverse ∧ w.grownBy w' (some g) := by
  have hl := ho.len
  have Ho := hid ho; clear ho
  go_enter Tryd.func83, Tryd.ntmps83
  go_wp2_with fail
  go_loopw [2, 3] (fun p q wr => ∃ i : Nat, i < n ∧ p = .int .i64 i ∧ q = .int .i64 ((n : Int) - 1 - i) ∧ 2 * i ≤ n ∧ Ow perL wr B (some ⟨g, 0, none⟩) n (revSt xs i) ∧ w.grownBy wr (some g)) (fun p _ _ => n - (intOf p).toNat)
  case atStart => exact ⟨0, by omega, rfl, by simp, by omega, by rw [revSt_zero]; exact Ho.out, gr_refl _ _⟩
  case round =>
    obtain ⟨i, hi, rfl, rfl, h2, ho, hg⟩ := hrel
    have Hg := hid hg; clear hg
    by_cases hlt : (i : Int) < (n : Int) - 1 - i
    · obtain ⟨j, hj⟩ : ∃ j : Nat, i + j + 1 = n := ⟨n - 1 - i, by omega⟩
      have hjn : (n : Int) - 1 - i = j := by omega
      rw [hjn] at hlt ⊢
      clear hjn
      obtain ⟨x, hx⟩ : ∃ x, xs[i]? = some x := ⟨xs[i]'(by omega), by simp⟩
      obtain ⟨y, hy⟩ : ∃ y, xs[j]? = some y := ⟨xs[j]'(by omega), by simp⟩
      obtain ⟨s1, s2, s3⟩ := revSt_step xs i j x y (by omega) (by omega) hx hy
      obtain ⟨b, o, z, e, hz, a0, a1, a2⟩ := per_at ho.sl i (by omega)
      cases e
      rw [s1] at hz; obtain rfl := Option.some.inj hz
      obtain ⟨b, o, z, e, hz, d0, d1, d2⟩ := per_at ho.sl j (by omega)
      cases e
      rw [s2] at hz; obtain rfl := Option.some.inj hz
      obtain ⟨b, o, e, _, _, f, _⟩ := ho.mem (by omega)
      cases e
      simp only [Nat.zero_add] at a0 a1 a2 d0 d1 d2
      have fa0 : wr.frozen? ⟨g, i * 3, none⟩ = false := f _
      have fa1 : wr.frozen? ⟨g, i * 3 + 1, none⟩ = false := f _
      have fa2 : wr.frozen? ⟨g, i * 3 + 2, none⟩ = false := f _
      have fd0 : wr.frozen? ⟨g, j * 3, none⟩ = false := f _
      have fd1 : wr.frozen? ⟨g, j * 3 + 1, none⟩ = false := f _
      have fd2 : wr.frozen? ⟨g, j * 3 + 2, none⟩ = false := f _
      have S1 := hid s1; have S2 := hid s2; have S3 := hid s3; have HO := hid ho
      have n0 : ¬ i * 3 = j * 3 := by omega
      have n1 : ¬ i * 3 = j * 3 + 1 := by omega
      have n2 : ¬ i * 3 = j * 3 + 2 := by omega
      have n3 : ¬ i * 3 + 1 = j * 3 := by omega
      have n4 : ¬ i * 3 + 1 = j * 3 + 1 := by omega
      have n5 : ¬ i * 3 + 1 = j * 3 + 2 := by omega
      have n6 : ¬ i * 3 + 2 = j * 3 := by omega
      have n7 : ¬ i * 3 + 2 = j * 3 + 1 := by omega
      have n8 : ¬ i * 3 + 2 = j * 3 + 2 := by omega
      have i0 : (0 : Int) ≤ i := by omega
      have i1 : (i : Int) < n := by omega
      have j0 : (0 : Int) ≤ j := by omega
      have j1 : (j : Int) < n := by omega
      clear s1 s2 s3 ho f hx hy
      go_wp2_with fail
      go_region
      go_wp2
      go_roundw
      case rel =>
        have o1 := HO.out.set3 i x y S1.out
        have o2 := o1.set3 j y x (by rw [List.getElem?_set_ne (by omega)]; exact S2.out)
        rw [S3.out] at o2
        simp only [Nat.zero_add] at o2
        refine ⟨i + 1, by omega, by go_num, by congr 1; omega, by omega, o2.keep0 (gr_drew (gr0 _)), gr_drew (gr_setCell (gr_setCell (gr_setCell (gr_setCell (gr_setCell (gr_setCell Hg.out (.inl rfl) _) (.inl rfl) _) (.inl rfl) _) (.inl rfl) _) (.inl rfl) _) (.inl rfl) _)⟩
      case measure => simp [intOf]; omega
    · have Hfin := hid (revSt_end xs i (by omega))
      rw [Hfin.out] at ho
      have HO := hid ho; clear ho
      go_wp2_with fail
      go_end0
      exact ⟨rfl, HO.out, Hg.out⟩

end Go.Proofs.YtpomlbloeejbjaaDoor
