/- Slices of ints: comparison, sums, marks. -/
import Derived.Test.YtpmafjmgacdgfaaDoorRows
import Derived.Test.YtpmafjmgacdgfaaDoorBase
import Derived.Deep.QuietTactic
import Derived.BigQuiet
namespace Go.Proofs.YtpmafjmgacdgfaaDoor
open Go.RowKit

set_option maxHeartbeats 400000 in
theorem eqIntS_any (a a2 : Option Addr) (n n2 cap cap2 : Nat) (xs ys : List Int) (w : World) (hs : Sl intL w a n xs) (ht : Sl intL w a2 n2 ys) :
    Calls Tryd.prog 44 #[.slice a n cap, .slice a2 n2 cap2] w fun e w' => e = .returned (.bool (decide (xs = ys))) ∧ w.grownBy w' none := by
  have hbig := hs.big
  have hbig2 := ht.big
  unfold maxLen at hbig hbig2
  have Hs := hid hs; clear hs
  have Ht := hid ht; clear ht
  by_cases hne : n = n2
  · subst hne
    go_enter Tryd.func44, Tryd.ntmps44
    go_wp2_with fail
    go_loopw [5] (fun i wr => ∃ k : Nat, k ≤ n ∧ i = .int .i64 k ∧ xs.take k = ys.take k ∧ w.grownBy wr none) (fun i _ => n - (intOf i).toNat)
    case atStart => exact ⟨0, by omega, rfl, by simp, gr_refl _ _⟩
    case round =>
      obtain ⟨k, hk, rfl, hall, hg⟩ := hrel
      have Hall := hid hall; clear hall
      by_cases hlt : k < n
      · obtain ⟨b, off, x, rfl, hxk, h0⟩ := int_at (Hs.out.keep0 hg) k hlt
        obtain ⟨b2, off2, y, rfl, hyk, g0⟩ := int_at (Ht.out.keep0 hg) k hlt
        have Hxk := hid hxk; clear hxk
        have Hyk := hid hyk; clear hyk
        have Hg := hid hg; clear hg
        have hk2 : (k : Int) < n := by omega
        have hk3 : (0 : Int) ≤ k := by omega
        go_wp2_with fail
        go_quiet (fail)
        have Hg2 := hid (gr_drewN Hg.out nq)
        by_cases hxy : x = y
        · subst hxy
          go_wp2
          go_roundw
          case rel => exact ⟨k + 1, by omega, by go_num, by rw [take_snoc _ _ _ Hxk.out, take_snoc _ _ _ Hyk.out, Hall.out], Hg2.out⟩
          case measure => simp [intOf]; omega
        · have hd : (x == y) = false := by simpa using hxy
          have Hfin := hid (decide_eq_false (take_ne xs ys k x y Hxk.out Hyk.out hxy))
          clear hxy
          go_wp2
          go_ret
          exact ⟨ret_bool Hfin.out.symm, Hg2.out⟩
      · have Hg := hid hg; clear hg
        have Hfin : Hid (decide (xs = ys) = true) := by
          obtain rfl : k = n := by omega
          exact hid (decide_eq_true (list_eq_take xs ys k Hs.out.len Ht.out.len Hall.out))
        go_wp2
        go_ret
        exact ⟨ret_bool Hfin.out.symm, Hg.out⟩
  · have hb : ((n : Int) == n2) = false := by simp; omega
    have Hfin : Hid (decide (xs = ys) = false) := by
      refine hid (decide_eq_false ?_)
      rintro rfl
      exact hne (Hs.out.len.symm.trans Ht.out.len)
    go_enter Tryd.func44, Tryd.ntmps44
    go_wp2
    go_ret
    exact ⟨ret_bool Hfin.out.symm, gr_refl _ _⟩

set_option maxHeartbeats 400000 in
theorem equalInts_any (a a2 : Option Addr) (n n2 cap cap2 : Nat) (xs ys : List Int) (w : World) (hs : Sl intL w a n xs) (ht : Sl intL w a2 n2 ys) :
    Calls Tryd.prog 48 #[.slice a n cap, .slice a2 n2 cap2] w fun e w' => e = .returned (.bool (decide (xs = ys))) ∧ w.grownBy w' none := by
  have hbig := hs.big
  have hbig2 := ht.big
  unfold maxLen at hbig hbig2
  have Hs := hid hs; clear hs
  have Ht := hid ht; clear ht
  by_cases hne : n = n2
  · subst hne
    go_enter Tryd.func48, Tryd.ntmps48
    go_wp2_with fail
    go_loopw [5] (fun i wr => ∃ k : Nat, k ≤ n ∧ i = .int .i64 k ∧ xs.take k = ys.take k ∧ w.grownBy wr none) (fun i _ => n - (intOf i).toNat)
    case atStart => exact ⟨0, by omega, rfl, by simp, gr_refl _ _⟩
    case round =>
      obtain ⟨k, hk, rfl, hall, hg⟩ := hrel
      have Hall := hid hall; clear hall
      by_cases hlt : k < n
      · obtain ⟨b, off, x, rfl, hxk, h0⟩ := int_at (Hs.out.keep0 hg) k hlt
        obtain ⟨b2, off2, y, rfl, hyk, g0⟩ := int_at (Ht.out.keep0 hg) k hlt
        have Hxk := hid hxk; clear hxk
        have Hyk := hid hyk; clear hyk
        have Hg := hid hg; clear hg
        have hk2 : (k : Int) < n := by omega
        have hk3 : (0 : Int) ≤ k := by omega
        go_wp2_with fail
        go_quiet (fail)
        have Hg2 := hid (gr_drewN Hg.out nq)
        by_cases hxy : x = y
        · subst hxy
          go_wp2
          go_roundw
          case rel => exact ⟨k + 1, by omega, by go_num, by rw [take_snoc _ _ _ Hxk.out, take_snoc _ _ _ Hyk.out, Hall.out], Hg2.out⟩
          case measure => simp [intOf]; omega
        · have hd : (x == y) = false := by simpa using hxy
          have Hfin := hid (decide_eq_false (take_ne xs ys k x y Hxk.out Hyk.out hxy))
          clear hxy
          go_wp2
          go_ret
          exact ⟨ret_bool Hfin.out.symm, Hg2.out⟩
      · have Hg := hid hg; clear hg
        have Hfin : Hid (decide (xs = ys) = true) := by
          obtain rfl : k = n := by omega
          exact hid (decide_eq_true (list_eq_take xs ys k Hs.out.len Ht.out.len Hall.out))
        go_wp2
        go_ret
        exact ⟨ret_bool Hfin.out.symm, Hg.out⟩
  · have hb : ((n : Int) == n2) = false := by simp; omega
    have Hfin : Hid (decide (xs = ys) = false) := by
      refine hid (decide_eq_false ?_)
      rintro rfl
      exact hne (Hs.out.len.symm.trans Ht.out.len)
    go_enter Tryd.func48, Tryd.ntmps48
    go_wp2
    go_ret
    exact ⟨ret_bool Hfin.out.symm, gr_refl _ _⟩


def sumI : List Int → Int
  | [] => 0
  | x :: xs => x + sumI xs

theorem sumI_append (xs ys : List Int) : sumI (xs ++ ys) = sumI xs + sumI ys := by
  induction xs with
  | nil => simp [sumI]
  | cons x xs ih => simp only [List.cons_append, sumI, ih]; omega

theorem sumI_take (xs : List Int) (k : Nat) (x : Int) (hx : xs[k]? = some x) : sumI (xs.take (k + 1)) = sumI (xs.take k) + x := by
  rw [take_snoc _ _ _ hx, sumI_append]; simp [sumI]

theorem sumI_bound (xs : List Int) (lo hi : Int) (h : ∀ x ∈ xs, lo ≤ x ∧ x ≤ hi) : lo * xs.length ≤ sumI xs ∧ sumI xs ≤ hi * xs.length := by
  induction xs with
  | nil => simp [sumI]
  | cons x xs ih =>
    have h1 := h x (by simp)
    have h2 := ih (fun y hy => h y (List.mem_cons_of_mem _ hy))
    simp only [sumI, List.length_cons]
    push_cast
    rw [Int.mul_add, Int.mul_add, Int.mul_one, Int.mul_one]
    omega

/-- k, k+1, .. -/
def upFrom (m : Int) : Nat → List Int
  | 0 => []
  | n + 1 => m :: upFrom (m + 1) n

theorem upFrom_len (m : Int) (n : Nat) : (upFrom m n).length = n := by
  induction n generalizing m with
  | zero => rfl
  | succ n ih => simp [upFrom, ih]

theorem upFrom_at (m : Int) (n k : Nat) (h : k < n) : (upFrom m n)[k]? = some (m + k) := by
  induction n generalizing m k with
  | zero => omega
  | succ n ih =>
    cases k with
    | zero => simp [upFrom]
    | succ k =>
      rw [upFrom, List.getElem?_cons_succ, ih (m + 1) k (by omega)]
      congr 1; push_cast; omega

set_option maxRecDepth 100000 in
set_option maxHeartbeats 400000 in
theorem markIntS_any (a : Option Addr) (n cap base : Nat) (xs : List Int) (m : Int) (w : World) (hs : Ow intL w base a n xs) (hn : n ≤ 1048576) (h0 : 0 ≤ m) (h1 : m ≤ 1048576) :
    Calls Tryd.prog 45 #[.slice a n cap, .int .i64 m] w fun e w' => e = .returned (.int .i64 (m + n)) ∧ Ow intL w' base a n (upFrom m n) ∧ ∃ r, w.grownBy w' r ∧ ∀ g, r = some g → 0 < n ∧ ∃ off, a = some ⟨g, off, none⟩ := by
  have Hs := hid hs; clear hs
  go_enter Tryd.func45, Tryd.ntmps45
  go_wp2_with fail
  go_loopw [1, 5] (fun q i wr => ∃ (k : Nat), k ≤ n ∧ i = .int .i64 k ∧ q = .int .i64 (m + k) ∧ Ow intL wr base a n ((upFrom m n).take k ++ xs.drop k) ∧ ∃ r, w.grownBy wr r ∧ ∀ g, r = some g → 0 < n ∧ ∃ off, a = some ⟨g, off, none⟩) (fun _ i _ => n - (intOf i).toNat)
  case atStart => exact ⟨0, by omega, rfl, by simp, by simpa using Hs.out, none, gr_refl _ _, fun _ e => by cases e⟩
  case round =>
    obtain ⟨k, hk, rfl, rfl, how, r, hg, hr⟩ := hrel
    have Hg := hid hg; clear hg
    have Hr := hid hr; clear hr
    have Hlen := hid Hs.out.len
    clear Hs
    by_cases hlt : k < n
    · obtain ⟨b, off, x, rfl, hxk, _, hblt, hf, hc⟩ := how.at k hlt
      have c0 : wr.cell? ⟨b, off + k, none⟩ = some (.int .i64 x) := by have := hc 0 _ rfl; simpa [intL] using this
      have f0 : wr.frozen? ⟨b, off + k, none⟩ = false := hf _
      clear hc hf
      have Hxk := hid hxk; clear hxk
      have How := hid how; clear how
      go_wp2
      go_roundw
      case rel =>
        have o0 := How.out.set k 0 x (m + k) (.int .i64 (m + k)) Hxk.out (by simp [intL]) rfl (off + k) (by simp [intL])
        have e : ((upFrom m n).take k ++ xs.drop k).set k (m + k) = (upFrom m n).take (k + 1) ++ xs.drop (k + 1) := by
          have hxl := Hlen.out
          have hul := upFrom_len m n
          obtain ⟨y, ys, hd⟩ : ∃ y ys, xs.drop k = y :: ys := by
            cases hd : xs.drop k with
            | nil => have := congrArg List.length hd; simp at this; omega
            | cons y ys => exact ⟨y, ys, rfl⟩
          have hd2 : xs.drop (k + 1) = ys := by rw [← List.drop_drop, hd]; rfl
          rw [take_snoc _ _ _ (upFrom_at m n k hlt), hd, hd2, List.set_append_right _ _ (by rw [List.length_take]; omega)]
          have : k - ((upFrom m n).take k).length = 0 := by rw [List.length_take]; omega
          rw [this, List.set_cons_zero, List.append_assoc]; rfl
        rw [e] at o0
        refine ⟨k + 1, by omega, by go_num, by congr 1; push_cast; omega, o0, some b, ?_, fun g e => by cases e; exact ⟨by omega, off, rfl⟩⟩
        have hgb : w.grownBy wr (some b) := by
          cases r with
          | none => exact gr_any Hg.out _
          | some g =>
            obtain ⟨_, off2, e⟩ := Hr.out g rfl
            simp only [Option.some.injEq, Addr.mk.injEq, and_true] at e
            obtain ⟨rfl, rfl⟩ := e
            exact Hg.out
        exact gr_setCell hgb (.inl rfl) _
      case measure => simp [intOf]; omega
    · have How := hid how; clear how
      go_wp2
      go_ret
      obtain rfl : k = n := by omega
      refine ⟨rfl, ?_, r, Hg.out, Hr.out⟩
      have := How.out
      rw [take_len _ _ (upFrom_len m k), List.drop_of_length_le (by rw [Hlen.out]; exact Nat.le_refl _), List.append_nil] at this
      exact this
set_option maxRecDepth 100000 in
set_option maxHeartbeats 400000 in
theorem heldIntS_any (a : Option Addr) (n cap : Nat) (m : Int) (w : World) (hs : Sl intL w a n (upFrom m n)) (hn : n ≤ 1048576) (h0 : 0 ≤ m) (h1 : m ≤ 1048576) :
    Calls Tryd.prog 46 #[.slice a n cap, .int .i64 m] w fun e w' => e = .returned (.int .i64 (m + n)) ∧ w = w' := by
  have Hs := hid hs; clear hs
  go_enter Tryd.func46, Tryd.ntmps46
  go_wp2_with fail
  go_loop [1, 5] (fun q i => ∃ (k : Nat), k ≤ n ∧ i = .int .i64 k ∧ q = .int .i64 (m + k)) (fun _ i => n - (intOf i).toNat)
  case atStart => exact ⟨0, by omega, rfl, by simp⟩
  case round =>
    obtain ⟨k, hk, rfl, rfl⟩ := hrel
    by_cases hlt : k < n
    · obtain ⟨b, off, x, rfl, hxk, h0⟩ := int_at Hs.out k hlt
      rw [upFrom_at m n k hlt] at hxk
      obtain rfl := Option.some.inj hxk
      go_wp2
      go_round
      case rel => exact ⟨k + 1, by omega, by go_num, by congr 1; push_cast; omega⟩
      case measure => simp [intOf]; omega
    · go_wp2
      go_ret
      obtain rfl : k = n := by omega
      exact ⟨rfl, rfl⟩

set_option maxRecDepth 100000 in
set_option maxHeartbeats 400000 in
theorem sum_any (a : Option Addr) (n cap : Nat) (xs : List Int) (w : World) (hs : Sl intL w a n xs) (hb : ∀ k, -9223372036854775808 ≤ sumI (xs.take k) ∧ sumI (xs.take k) ≤ 9223372036854775807) :
    Calls Tryd.prog 49 #[.slice a n cap] w fun e w' => e = .returned (.int .i64 (sumI xs)) ∧ w = w' := by
  have hbig := hs.big
  unfold maxLen at hbig
  have Hs := hid hs; clear hs
  have Hb := hid hb; clear hb
  go_enter Tryd.func49, Tryd.ntmps49
  go_wp2_with fail
  go_loop [3, 4] (fun q i => ∃ (k : Nat) (s : Int), k ≤ n ∧ i = .int .i64 k ∧ q = .int .i64 s ∧ s = sumI (xs.take k)) (fun _ i => n - (intOf i).toNat)
  case atStart => exact ⟨0, 0, by omega, rfl, rfl, by simp [sumI]⟩
  case round =>
    obtain ⟨k, s, hk, rfl, rfl, hsum⟩ := hrel
    by_cases hlt : k < n
    · obtain ⟨b, off, x, rfl, hxk, h0⟩ := int_at Hs.out k hlt
      have hsx : s + x = sumI (xs.take (k + 1)) := by rw [sumI_take _ _ _ hxk, hsum]
      have hb1 := Hb.out (k + 1)
      rw [← hsx] at hb1
      have Hsx := hid hsx; clear hsx
      clear hxk hsum
      go_wp2
      go_round
      case rel => exact ⟨k + 1, s + x, by omega, by go_num, rfl, Hsx.out⟩
      case measure => simp [intOf]; omega
    · have Hsum := hid hsum; clear hsum
      go_wp2
      go_ret
      obtain rfl : k = n := by omega
      exact ⟨ret_int (by rw [Hsum.out, take_len _ _ Hs.out.len]), rfl⟩

end Go.Proofs.YtpmafjmgacdgfaaDoor
