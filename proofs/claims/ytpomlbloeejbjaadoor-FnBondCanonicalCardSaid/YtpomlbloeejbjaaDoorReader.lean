/- The reader of the generators: newReader, pick, one. -/
import Derived.Test.YtpomlbloeejbjaaDoorRows
import Derived.Test.YtpomlbloeejbjaaDoorBase
import Derived.Deep.QuietTactic
import Derived.BigQuiet
namespace Go.Proofs.YtpomlbloeejbjaaDoor
open Go.RowKit

theorem newReader_any (a : Option Addr) (n cap : Nat) (xs : List Int) (w : World) (hs : Sl u8L w a n xs) (hcap : n ≤ cap) (hx : ∀ x ∈ xs, 0 ≤ x ∧ x ≤ 255) :
    Calls Tryd.prog 29 #[.slice a n cap] w fun e w' => ∃ rb, e = .returned (.pointer (some ⟨rb, 0, none⟩)) ∧ w.heap.size ≤ rb ∧ Rdr 72 w' rb 0 ∧ w.grownBy w' none := by
  have Hs := hid hs; clear hs
  have Hx := hid hx; clear hx
  by_cases hn : 2000 < n
  · go_enter Tryd.func29, Tryd.ntmps29
    go_wp2
    go_ret
    refine ⟨w.heap.size, rfl, Nat.le_refl _, ⟨a, 2000, cap, 0, xs.take 2000, heap_alloc_new w _, by omega, by omega, ?_, fun x h => Hx.out x (List.mem_of_mem_take h), ?_, by omega⟩, gr_alloc (gr_refl _ _) _⟩
    · exact (Hs.out.take 2000 (by omega)).keep0 (gr_alloc (gr_refl _ _) _)
    · intro _ b off e
      obtain ⟨b', off', e', hlt, _⟩ := Hs.out.mem (by omega)
      rw [e] at e'; cases e'; exact hlt
  · go_enter Tryd.func29, Tryd.ntmps29
    go_wp2
    go_ret
    refine ⟨w.heap.size, rfl, Nat.le_refl _, ?_, gr_alloc (gr_refl _ _) _⟩
    refine ⟨a, n, cap, 0, xs, heap_alloc_new w _, by omega, by omega, Hs.out.keep0 (gr_alloc (gr_refl _ _) _), Hx.out, ?_, by omega⟩
    intro h0 b off e
    obtain ⟨b', off', e', hlt, _⟩ := Hs.out.mem h0
    rw [e] at e'; cases e'; exact hlt

theorem xor_nonneg (a b : Int) (h1 : 0 ≤ a) (h2 : a < 9223372036854775808) (h3 : 0 ≤ b) (h4 : b < 9223372036854775808) : 0 ≤ bits .xor .i64 a b := by
  obtain ⟨a, rfl⟩ := Int.eq_ofNat_of_zero_le h1
  obtain ⟨b, rfl⟩ := Int.eq_ofNat_of_zero_le h3
  have ha : a < 9223372036854775808 := by omega
  have hb : b < 9223372036854775808 := by omega
  clear h1 h2 h3 h4
  have hx : a ^^^ b < 2 ^ 63 := Nat.xor_lt_two_pow (by omega) (by omega)
  have e1 : (BitVec.ofInt 64 (a : Int)).toNat = a := by
    rw [BitVec.ofInt_natCast, BitVec.toNat_ofNat]; exact Nat.mod_eq_of_lt (by omega)
  have e2 : (BitVec.ofInt 64 (b : Int)).toNat = b := by
    rw [BitVec.ofInt_natCast, BitVec.toNat_ofNat]; exact Nat.mod_eq_of_lt (by omega)
  show 0 ≤ IntKind.i64.wrap ((BitVec.ofInt 64 (a : Int) ^^^ BitVec.ofInt 64 (b : Int)).toNat : Int)
  rw [BitVec.toNat_xor, e1, e2, IntKind.wrap_i64]
  omega

set_option maxRecDepth 100000 in
set_option maxHeartbeats 400000 in
theorem pick_any (rb m : Nat) (n : Int) (w : World) (h : Rdr 72 w rb m) (hm : m ≤ 1000000000) :
    Calls Tryd.prog 38 #[.pointer (some ⟨rb, 0, none⟩), .int .i64 n] w fun e w' => ∃ k : Int, e = .returned (.int .i64 k) ∧ 0 ≤ k ∧ (k < n ∨ k = 0) ∧ Rdr 72 w' rb (m + 1) ∧ w.grownBy w' (some rb) := by
  obtain ⟨a, l, cap, p, xs, hh, hp0, hpm, hs, hx, hlt, hl⟩ := h
  have c0 : w.cell? ⟨rb, 0, none⟩ = some (.slice a l cap) := by simp [World.cell?, hh]
  have c1 : w.cell? ⟨rb, 1, none⟩ = some (.int .i64 p) := by simp [World.cell?, hh]
  have f1 : w.frozen? ⟨rb, 1, none⟩ = false := by simp [World.frozen?, hh]
  have hend : Rdr 72 (w.setCell ⟨rb, 1, none⟩ (.int .i64 (p + 1))) rb (m + 1) := Rdr.step hh hp0 hpm hs hx hlt hl
  have hgr : w.grownBy (w.setCell ⟨rb, 1, none⟩ (.int .i64 (p + 1))) (some rb) := gr_setCell (gr_refl _ _) (.inl rfl) _
  have Hend := hid hend; clear hend
  have Hgr := hid hgr; clear hgr
  have Hs := hid hs; clear hs hh
  have Hx := hid hx; clear hx
  have Hlt := hid hlt; clear hlt
  by_cases hn : n < 1
  · go_enter Tryd.func38, Tryd.ntmps38
    go_wp2
    go_ret
    exact ⟨0, rfl, by omega, .inr rfl, Hend.out, Hgr.out⟩
  · by_cases h0 : l = 0
    · subst h0
      go_enter Tryd.func38, Tryd.ntmps38
      go_wp2
      go_ret
      exact ⟨0, rfl, by omega, .inr rfl, Hend.out, Hgr.out⟩
    · obtain ⟨p, rfl⟩ := Int.eq_ofNat_of_zero_le hp0
      by_cases hk : p < l
      · obtain ⟨b, off, x, rfl, hxk, hcell⟩ := u8_at Hs.out p hk
        have hne : ¬ b = rb := by have := Hlt.out (by omega) b off rfl; omega
        have hbd := Hx.out x (List.mem_of_getElem? hxk)
        have Hxk := hid hxk; clear hxk
        go_enter Tryd.func38, Tryd.ntmps38
        go_wp2
        go_ret
        exact ⟨x % n, rfl, Int.emod_nonneg _ (by omega), .inl (Int.emod_lt_of_pos _ (by omega)), Hend.out, Hgr.out⟩
      · obtain ⟨b, off, x, rfl, hxk, hcx⟩ := u8_at Hs.out (p % l) (Nat.mod_lt _ (by omega))
        obtain ⟨b2, off2, y, e2, hyk, hcy⟩ := u8_at Hs.out ((p * 7 + 3) % l) (Nat.mod_lt _ (by omega))
        simp only [Option.some.injEq, Addr.mk.injEq, and_true] at e2
        obtain ⟨rfl, rfl⟩ := e2
        have hne : ¬ b = rb := by have := Hlt.out (by omega) b off rfl; omega
        have hbx := Hx.out x (List.mem_of_getElem? hxk)
        have hby := Hx.out y (List.mem_of_getElem? hyk)
        have hl1 : p % l < l := Nat.mod_lt _ (by omega)
        have hl2 : (p * 7 + 3) % l < l := Nat.mod_lt _ (by omega)
        have Hxk := hid hxk; clear hxk
        have Hyk := hid hyk; clear hyk
        have hq0 : 0 ≤ (p : Int) / l := Int.ediv_nonneg (by omega) (by omega)
        have hq1 : (p : Int) / l ≤ p := Int.ediv_le_self _ (by omega)
        have t1 : (p : Int).tmod l = ((p % l : Nat) : Int) := by rw [Int.tmod_eq_emod_of_nonneg (by omega)]; rfl
        have t2 : ((p : Int) * 7 + 3).tmod l = (((p * 7 + 3) % l : Nat) : Int) := by rw [Int.tmod_eq_emod_of_nonneg (by omega)]; rfl
        have t3 : (p : Int).tdiv l = (p : Int) / l := Int.tdiv_eq_ediv_of_nonneg (by omega)
        have t4 : ((p : Int) % l).toNat = p % l := by rw [← Int.natCast_emod]; rfl
        have t5 : (((p : Int) * 7 + 3) % l).toNat = (p * 7 + 3) % l := rfl
        have t6 : 0 ≤ (p : Int) % l := Int.emod_nonneg _ (by omega)
        have t7 : (p : Int) % l < l := Int.emod_lt_of_pos _ (by omega)
        have t8 : 0 ≤ ((p : Int) * 7 + 3) % l := Int.emod_nonneg _ (by omega)
        have t9 : ((p : Int) * 7 + 3) % l < l := Int.emod_lt_of_pos _ (by omega)
        generalize hgq : (p : Int) / l = q at *
        have Hgq := hid hgq; clear hgq
        have u0 : IntKind.i64.wrap x = x := IntWalk.i64_in _ (by omega)
        have v0 : IntKind.i64.wrap y = y := IntWalk.i64_in _ (by omega)
        have u1 : IntKind.i64.wrap ((p : Int) * 7) = (p : Int) * 7 := IntWalk.i64_in _ (by omega)
        have u2 : IntKind.i64.wrap ((p : Int) * 7 + 3) = (p : Int) * 7 + 3 := IntWalk.i64_in _ (by omega)
        have u3 : IntKind.i64.wrap (x * 131) = x * 131 := IntWalk.i64_in _ (by omega)
        have u4 : IntKind.i64.wrap (y * 1117) = y * 1117 := IntWalk.i64_in _ (by omega)
        have u5 : IntKind.i64.wrap (x * 131 + y * 1117) = x * 131 + y * 1117 := IntWalk.i64_in _ (by omega)
        have u6 : IntKind.i64.wrap ((p : Int) * 29) = (p : Int) * 29 := IntWalk.i64_in _ (by omega)
        have u7 : IntKind.i64.wrap (x * 131 + y * 1117 + (p : Int) * 29) = x * 131 + y * 1117 + (p : Int) * 29 := IntWalk.i64_in _ (by omega)
        have u8 : IntKind.i64.wrap q = q := IntWalk.i64_in _ (by omega)
        have u9 : IntKind.i64.wrap (q * 53) = q * 53 := IntWalk.i64_in _ (by omega)
        have u10 : IntKind.i64.wrap (x * 131 + y * 1117 + (p : Int) * 29 + q * 53) = x * 131 + y * 1117 + (p : Int) * 29 + q * 53 := IntWalk.i64_in _ (by omega)
        have hp2 : (p : Int) ≤ 1000000000 := by omega
        go_enter Tryd.func38, Tryd.ntmps38
        go_wp2_with fail
        go_quiet (fail)
        have hxor : 0 ≤ bits BinOp.xor IntKind.i64 (x * 131 + y * 1117 + (p : Int) * 29 + q * 53) ((x * 131 + y * 1117 + (p : Int) * 29 + q * 53) / 64) := by
          apply xor_nonneg <;> omega
        generalize hgz : bits BinOp.xor IntKind.i64 (x * 131 + y * 1117 + (p : Int) * 29 + q * 53) ((x * 131 + y * 1117 + (p : Int) * 29 + q * 53) / 64) = z at *
        go_wp2
        go_ret
        exact ⟨_, rfl, Int.emod_nonneg _ (by omega), .inl (Int.emod_lt_of_pos _ (by omega)), Hend.out.keep0 (gr_drewN (gr_refl _ _) _), gr_drewN Hgr.out _⟩

set_option maxRecDepth 100000 in
set_option maxHeartbeats 400000 in
theorem one_any (rb m : Nat) (a : Option Addr) (n cap : Nat) (xs : List Int) (w : World) (h : Rdr 72 w rb m) (hm : m ≤ 1000000000) (hs : Sl intL w a n xs) (hn : 0 < n) (hr : ∀ b off, a = some ⟨b, off, none⟩ → b ≠ rb) :
    Calls Tryd.prog 55 #[.pointer (some ⟨rb, 0, none⟩), .slice a n cap] w fun e w' => ∃ x, e = .returned (.int .i64 x) ∧ x ∈ xs ∧ Rdr 72 w' rb (m + 1) ∧ w.grownBy w' (some rb) := by
  have hbig := hs.big
  unfold maxLen at hbig
  have Hs := hid hs; clear hs
  have Hr := hid hr; clear hr
  go_enter Tryd.func55, Tryd.ntmps55
  go_wp2_with fail
  refine (pick_any rb m n w h hm).mono ?_
  rintro e w1 ⟨k, rfl, hk0, hk1, h1, hg⟩
  have hk : k < n := by omega
  clear hk1
  obtain ⟨k, rfl⟩ := Int.eq_ofNat_of_zero_le hk0
  obtain ⟨b, off, x, rfl, hx, hc⟩ := int_at (Hs.out.keep hg (fun _ b off e e2 => Hr.out b off e (by cases e2; rfl))) k (by omega)
  have Hx := hid hx; clear hx
  have H1 := hid h1; clear h1
  have Hg := hid hg; clear hg
  go_wp2
  go_ret
  exact ⟨x, rfl, List.mem_of_getElem? Hx.out, H1.out, Hg.out⟩
theorem one_lit (rb m : Nat) (xs : List Int) (cs : Array Value) (e n : Nat) (hcs : cs = (xs.map (Value.int .i64)).toArray) (hn : xs.length = n) (h0 : 0 < n) (hbig : n ≤ 100) (w : World) (N : Nat) (hN : w.heap.size = N) (h : Rdr 72 w rb m) (hm : m ≤ 1000000000) :
    Calls Tryd.prog 55 #[.pointer (some ⟨rb, 0, none⟩), .slice (some ⟨N, 0, none⟩) n n] (w.alloc (.cells cs e)) fun e w' => ∃ x, e = .returned (.int .i64 x) ∧ x ∈ xs ∧ Rdr 72 w' rb (m + 1) ∧ w.grownBy w' (some rb) := by
  have hlt := h.lt
  subst hN
  refine (one_any rb m _ n n xs _ (h.keep0 (gr_alloc (gr_refl _ _) _)) hm ⟨hn, by unfold maxLen; omega, fun _ => ⟨w.heap.size, 0, rfl, by simp, fun k x hx j c hj => ?_⟩⟩ h0 (fun b off e => by cases e; omega)).mono ?_
  · cases j with
    | succ j => simp [intL] at hj
    | zero =>
      obtain rfl : Value.int .i64 x = c := by simpa [intL] using hj
      have hk : k < xs.length := lt_of_at hx
      simp only [World.cell?, heap_alloc_new, hcs]
      simp [intL, hx]
  · rintro e w1 ⟨x, rfl, hx, h1, hg⟩
    exact ⟨x, rfl, hx, h1, gr_trans (gr_any (gr_alloc (gr_refl _ _) _) _) hg (fun g e => .inl e)⟩

end Go.Proofs.YtpomlbloeejbjaaDoor
