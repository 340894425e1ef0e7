/- Packed: Ints, Reader. -/
import Derived.Test.YtielicmjdhmcjaaGreatDoorRows
import Derived.Test.YtielicmjdhmcjaaGreatDoorPk01
import Derived.Deep.QuietTactic
import Derived.BigQuiet
/- Slices of ints: comparison, sums, marks. -/
namespace Go.Proofs.YtielicmjdhmcjaaGreatDoor
open Go.RowKit


def sumI : List Int → Int
  | [] => 0
  | x :: xs => x + sumI xs

theorem sumI_append (xs ys : List Int) : sumI (xs ++ ys) = sumI xs + sumI ys := by
  induction xs with
  | nil => simp [sumI]
  | cons x xs ih => simp only [List.cons_append, sumI, ih]; omega

theorem sumI_take (xs : List Int) (k : Nat) (x : Int) (hx : xs[k]? = some x) : sumI (xs.take (k + 1)) = sumI (xs.take k) + x := by
  rw [take_snoc _ _ _ hx, sumI_append]; simp [sumI]

theorem sumI_bound (xs : List Int) (lo hi : Int) (h : ∀ x ∈ xs, lo ≤ x ∧ x ≤ hi) : lo * xs.length ≤ sumI xs ∧ sumI xs ≤ hi * xs.length := by
  induction xs with
  | nil => simp [sumI]
  | cons x xs ih =>
    have h1 := h x (by simp)
    have h2 := ih (fun y hy => h y (List.mem_cons_of_mem _ hy))
    simp only [sumI, List.length_cons]
    push_cast
    rw [Int.mul_add, Int.mul_add, Int.mul_one, Int.mul_one]
    omega

def upFrom (m : Int) : Nat → List Int
  | 0 => []
  | n + 1 => m :: upFrom (m + 1) n

theorem upFrom_len (m : Int) (n : Nat) : (upFrom m n).length = n := by
  induction n generalizing m with
  | zero => rfl
  | succ n ih => simp [upFrom, ih]

theorem upFrom_at (m : Int) (n k : Nat) (h : k < n) : (upFrom m n)[k]? = some (m + k) := by
  induction n generalizing m k with
  | zero => omega
  | succ n ih =>
    cases k with
    | zero => simp [upFrom]
    | succ k =>
      rw [upFrom, List.getElem?_cons_succ, ih (m + 1) k (by omega)]
      congr 1; push_cast; omega



end Go.Proofs.YtielicmjdhmcjaaGreatDoor

/- The reader of the generators: newReader, pick, one. -/
namespace Go.Proofs.YtielicmjdhmcjaaGreatDoor
open Go.RowKit

theorem newReader_any (a : Option Addr) (n cap : Nat) (xs : List Int) (w : World) (hs : Sl u8L w a n xs) (hcap : n ≤ cap) (hx : ∀ x ∈ xs, 0 ≤ x ∧ x ≤ 255) :
    Calls Tryz.prog 13 #[.slice a n cap] w fun e w' => ∃ rb, e = .returned (.pointer (some ⟨rb, 0, none⟩)) ∧ w.heap.size ≤ rb ∧ Rdr 55 w' rb 0 ∧ w.grownBy w' none := by
  have Hs := hid hs; clear hs
  have Hx := hid hx; clear hx
  by_cases hn : 2000 < n
  · go_enter Tryz.func13, Tryz.ntmps13
    go_wp2
    go_ret
    refine ⟨w.heap.size, rfl, Nat.le_refl _, ⟨a, 2000, cap, 0, xs.take 2000, heap_alloc_new w _, by omega, by omega, ?_, fun x h => Hx.out x (List.mem_of_mem_take h), ?_, by omega⟩, gr_alloc (gr_refl _ _) _⟩
    · exact (Hs.out.take 2000 (by omega)).keep0 (gr_alloc (gr_refl _ _) _)
    · intro _ b off e
      obtain ⟨b', off', e', hlt, _⟩ := Hs.out.mem (by omega)
      rw [e] at e'; cases e'; exact hlt
  · go_enter Tryz.func13, Tryz.ntmps13
    go_wp2
    go_ret
    refine ⟨w.heap.size, rfl, Nat.le_refl _, ?_, gr_alloc (gr_refl _ _) _⟩
    refine ⟨a, n, cap, 0, xs, heap_alloc_new w _, by omega, by omega, Hs.out.keep0 (gr_alloc (gr_refl _ _) _), Hx.out, ?_, by omega⟩
    intro h0 b off e
    obtain ⟨b', off', e', hlt, _⟩ := Hs.out.mem h0
    rw [e] at e'; cases e'; exact hlt

theorem xor_nonneg (a b : Int) (h1 : 0 ≤ a) (h2 : a < 9223372036854775808) (h3 : 0 ≤ b) (h4 : b < 9223372036854775808) : 0 ≤ bits .xor .i64 a b := by
  obtain ⟨a, rfl⟩ := Int.eq_ofNat_of_zero_le h1
  obtain ⟨b, rfl⟩ := Int.eq_ofNat_of_zero_le h3
  have ha : a < 9223372036854775808 := by omega
  have hb : b < 9223372036854775808 := by omega
  clear h1 h2 h3 h4
  have hx : a ^^^ b < 2 ^ 63 := Nat.xor_lt_two_pow (by omega) (by omega)
  have e1 : (BitVec.ofInt 64 (a : Int)).toNat = a := by
    rw [BitVec.ofInt_natCast, BitVec.toNat_ofNat]; exact Nat.mod_eq_of_lt (by omega)
  have e2 : (BitVec.ofInt 64 (b : Int)).toNat = b := by
    rw [BitVec.ofInt_natCast, BitVec.toNat_ofNat]; exact Nat.mod_eq_of_lt (by omega)
  show 0 ≤ IntKind.i64.wrap ((BitVec.ofInt 64 (a : Int) ^^^ BitVec.ofInt 64 (b : Int)).toNat : Int)
  rw [BitVec.toNat_xor, e1, e2, IntKind.wrap_i64]
  omega

set_option maxRecDepth 100000 in
set_option maxHeartbeats 400000 in
theorem pick_any (rb m : Nat) (n : Int) (w : World) (h : Rdr 55 w rb m) (hm : m ≤ 1000000000) :
    Calls Tryz.prog 15 #[.pointer (some ⟨rb, 0, none⟩), .int .i64 n] w fun e w' => ∃ k : Int, e = .returned (.int .i64 k) ∧ 0 ≤ k ∧ (k < n ∨ k = 0) ∧ Rdr 55 w' rb (m + 1) ∧ w.grownBy w' (some rb) := by
  obtain ⟨a, l, cap, p, xs, hh, hp0, hpm, hs, hx, hlt, hl⟩ := h
  have c0 : w.cell? ⟨rb, 0, none⟩ = some (.slice a l cap) := by simp [World.cell?, hh]
  have c1 : w.cell? ⟨rb, 1, none⟩ = some (.int .i64 p) := by simp [World.cell?, hh]
  have f1 : w.frozen? ⟨rb, 1, none⟩ = false := by simp [World.frozen?, hh]
  have hend : Rdr 55 (w.setCell ⟨rb, 1, none⟩ (.int .i64 (p + 1))) rb (m + 1) := Rdr.step hh hp0 hpm hs hx hlt hl
  have hgr : w.grownBy (w.setCell ⟨rb, 1, none⟩ (.int .i64 (p + 1))) (some rb) := gr_setCell (gr_refl _ _) (.inl rfl) _
  have Hend := hid hend; clear hend
  have Hgr := hid hgr; clear hgr
  have Hs := hid hs; clear hs hh
  have Hx := hid hx; clear hx
  have Hlt := hid hlt; clear hlt
  by_cases hn : n < 1
  · go_enter Tryz.func15, Tryz.ntmps15
    go_wp2
    go_ret
    exact ⟨0, rfl, by omega, .inr rfl, Hend.out, Hgr.out⟩
  · by_cases h0 : l = 0
    · subst h0
      go_enter Tryz.func15, Tryz.ntmps15
      go_wp2
      go_ret
      exact ⟨0, rfl, by omega, .inr rfl, Hend.out, Hgr.out⟩
    · obtain ⟨p, rfl⟩ := Int.eq_ofNat_of_zero_le hp0
      by_cases hk : p < l
      · obtain ⟨b, off, x, rfl, hxk, hcell⟩ := u8_at Hs.out p hk
        have hne : ¬ b = rb := by have := Hlt.out (by omega) b off rfl; omega
        have hbd := Hx.out x (List.mem_of_getElem? hxk)
        have Hxk := hid hxk; clear hxk
        go_enter Tryz.func15, Tryz.ntmps15
        go_wp2
        go_ret
        exact ⟨x % n, rfl, Int.emod_nonneg _ (by omega), .inl (Int.emod_lt_of_pos _ (by omega)), Hend.out, Hgr.out⟩
      · obtain ⟨b, off, x, rfl, hxk, hcx⟩ := u8_at Hs.out (p % l) (Nat.mod_lt _ (by omega))
        obtain ⟨b2, off2, y, e2, hyk, hcy⟩ := u8_at Hs.out ((p * 7 + 3) % l) (Nat.mod_lt _ (by omega))
        simp only [Option.some.injEq, Addr.mk.injEq, and_true] at e2
        obtain ⟨rfl, rfl⟩ := e2
        have hne : ¬ b = rb := by have := Hlt.out (by omega) b off rfl; omega
        have hbx := Hx.out x (List.mem_of_getElem? hxk)
        have hby := Hx.out y (List.mem_of_getElem? hyk)
        have hl1 : p % l < l := Nat.mod_lt _ (by omega)
        have hl2 : (p * 7 + 3) % l < l := Nat.mod_lt _ (by omega)
        have Hxk := hid hxk; clear hxk
        have Hyk := hid hyk; clear hyk
        have hq0 : 0 ≤ (p : Int) / l := Int.ediv_nonneg (by omega) (by omega)
        have hq1 : (p : Int) / l ≤ p := Int.ediv_le_self _ (by omega)
        have t1 : (p : Int).tmod l = ((p % l : Nat) : Int) := by rw [Int.tmod_eq_emod_of_nonneg (by omega)]; rfl
        have t2 : ((p : Int) * 7 + 3).tmod l = (((p * 7 + 3) % l : Nat) : Int) := by rw [Int.tmod_eq_emod_of_nonneg (by omega)]; rfl
        have t3 : (p : Int).tdiv l = (p : Int) / l := Int.tdiv_eq_ediv_of_nonneg (by omega)
        have t4 : ((p : Int) % l).toNat = p % l := by rw [← Int.natCast_emod]; rfl
        have t5 : (((p : Int) * 7 + 3) % l).toNat = (p * 7 + 3) % l := rfl
        have t6 : 0 ≤ (p : Int) % l := Int.emod_nonneg _ (by omega)
        have t7 : (p : Int) % l < l := Int.emod_lt_of_pos _ (by omega)
        have t8 : 0 ≤ ((p : Int) * 7 + 3) % l := Int.emod_nonneg _ (by omega)
        have t9 : ((p : Int) * 7 + 3) % l < l := Int.emod_lt_of_pos _ (by omega)
        generalize hgq : (p : Int) / l = q at *
        have Hgq := hid hgq; clear hgq
        have u0 : IntKind.i64.wrap x = x := IntWalk.i64_in _ (by omega)
        have v0 : IntKind.i64.wrap y = y := IntWalk.i64_in _ (by omega)
        have u1 : IntKind.i64.wrap ((p : Int) * 7) = (p : Int) * 7 := IntWalk.i64_in _ (by omega)
        have u2 : IntKind.i64.wrap ((p : Int) * 7 + 3) = (p : Int) * 7 + 3 := IntWalk.i64_in _ (by omega)
        have u3 : IntKind.i64.wrap (x * 131) = x * 131 := IntWalk.i64_in _ (by omega)
        have u4 : IntKind.i64.wrap (y * 1117) = y * 1117 := IntWalk.i64_in _ (by omega)
        have u5 : IntKind.i64.wrap (x * 131 + y * 1117) = x * 131 + y * 1117 := IntWalk.i64_in _ (by omega)
        have u6 : IntKind.i64.wrap ((p : Int) * 29) = (p : Int) * 29 := IntWalk.i64_in _ (by omega)
        have u7 : IntKind.i64.wrap (x * 131 + y * 1117 + (p : Int) * 29) = x * 131 + y * 1117 + (p : Int) * 29 := IntWalk.i64_in _ (by omega)
        have u8 : IntKind.i64.wrap q = q := IntWalk.i64_in _ (by omega)
        have u9 : IntKind.i64.wrap (q * 53) = q * 53 := IntWalk.i64_in _ (by omega)
        have u10 : IntKind.i64.wrap (x * 131 + y * 1117 + (p : Int) * 29 + q * 53) = x * 131 + y * 1117 + (p : Int) * 29 + q * 53 := IntWalk.i64_in _ (by omega)
        have hp2 : (p : Int) ≤ 1000000000 := by omega
        go_enter Tryz.func15, Tryz.ntmps15
        go_wp2_with fail
        go_quiet (fail)
        have hxor : 0 ≤ bits BinOp.xor IntKind.i64 (x * 131 + y * 1117 + (p : Int) * 29 + q * 53) ((x * 131 + y * 1117 + (p : Int) * 29 + q * 53) / 64) := by
          apply xor_nonneg <;> omega
        generalize hgz : bits BinOp.xor IntKind.i64 (x * 131 + y * 1117 + (p : Int) * 29 + q * 53) ((x * 131 + y * 1117 + (p : Int) * 29 + q * 53) / 64) = z at *
        go_wp2
        go_ret
        exact ⟨_, rfl, Int.emod_nonneg _ (by omega), .inl (Int.emod_lt_of_pos _ (by omega)), Hend.out.keep0 (gr_drewN (gr_refl _ _) _), gr_drewN Hgr.out _⟩


end Go.Proofs.YtielicmjdhmcjaaGreatDoor
