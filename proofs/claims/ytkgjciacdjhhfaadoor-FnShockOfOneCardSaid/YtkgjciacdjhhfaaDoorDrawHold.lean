/- Generators of lists of ints. -/
import Derived.Test.YtkgjciacdjhhfaaDoorRows
import Derived.Test.YtkgjciacdjhhfaaDoorBase
import Derived.Test.YtkgjciacdjhhfaaDoorReader
import Derived.Test.YtkgjciacdjhhfaaDoorToInts
import Derived.Test.YtkgjciacdjhhfaaDoorHold
import Derived.Deep.AppendLies
namespace Go.Proofs.YtkgjciacdjhhfaaDoor
open Go.RowKit

theorem Ow.own_ints {w : World} {base : Nat} {a : Option Addr} {n cap e : Nat} {xs : List Int} (h : w.ownsRow base e 1 (.slice a n cap) n (xs.flatMap intL.cells)) (hm : n ≤ 1048576) : Ow intL w base a n xs := by
  have hl : xs.length = n := by
    have := h.1
    rw [flat_len] at this
    simpa [intL] using this
  exact Ow.of_own (L := intL) h hl (by unfold maxLen; omega)

theorem Ow.drop {α : Type} {L : Lay α} {w : World} {base n : Nat} {xs : List α} {b off : Nat} (h : Ow L w base (some ⟨b, off, none⟩) n xs) (k : Nat) (o : Nat) (ho : o = off + k * L.sz) : Ow L w base (some ⟨b, o, none⟩) (n - k) (xs.drop k) := by
  have hs := h.sl.drop k o ho
  refine ⟨hs.len, hs.big, fun h0 => ?_⟩
  obtain ⟨b1, off1, e1, hlt, hc⟩ := hs.mem h0
  obtain ⟨b2, off2, e2, hb, _, hf, _⟩ := h.mem (by omega)
  cases e1; cases e2
  exact ⟨b, o, rfl, hb, hlt, hf, hc⟩

theorem own_some {w : World} {base e size : Nat} {a : Option Addr} {n cap : Nat} {xs : List Value} (h : w.ownsRow base e size (.slice a n cap) n xs) (h0 : 0 < n) : ∃ g, a = some ⟨g, 0, none⟩ ∧ base ≤ g := by
  rcases h.2 with ⟨e, h1⟩ | ⟨g, cap', cur, e, hg, _⟩
  · omega
  · simp only [Value.slice.injEq] at e; exact ⟨g, e.1, hg⟩

set_option maxRecDepth 100000 in
set_option maxHeartbeats 1000000 in
theorem spoil_any (rb m : Nat) (a : Option Addr) (n cap : Nat) (xs : List Int) (lo hi z : Int) (w : World) (h : Rdr 83 w rb m) (hm : m ≤ 1000000) (hs : Sl intL w a n xs) (ha : (∃ ad, a = some ad) ∨ (a = none ∧ n = 0 ∧ cap = 0)) (hn : n ≤ 100)
    (hx : ∀ x ∈ xs, lo ≤ x ∧ x ≤ hi) (hlo : lo ≤ -1) (hhi : 1 ≤ hi) (hz : lo ≤ z ∧ z ≤ hi) :
    Calls Tryd.prog 55 #[.pointer (some ⟨rb, 0, none⟩), .slice a n cap, .int .i64 z] w fun e w' => ∃ a' n' cap' ys, e = .returned (.slice a' n' cap') ∧ Ow intL w' w.heap.size a' n' ys ∧ n' ≤ cap' ∧ n' ≤ n + 1 ∧ (∀ x ∈ ys, lo ≤ x ∧ x ≤ hi) ∧ Rdr 83 w' rb (m + 10) ∧ w.grownBy w' (some rb) := by
  obtain ⟨i0, hi0, hz0, hz1, hz2⟩ := info_parts infoInt
  have Hx := hid hx; clear hx
  have hlt := h.lt
  have hxl := hid hs.len
  go_enter Tryd.func55, Tryd.ntmps55
  go_wp2_with fail
  refine (copyInts_any a n cap xs w hs ha (by omega)).mono ?_
  rintro e w1 ⟨a1, c1, rfl, ho1, hg1⟩
  have h1 := h.keep0 hg1
  obtain ⟨_, hc1⟩ : True ∧ n ≤ c1 := by obtain ⟨_, _, e, hc⟩ := own_form ho1; cases e; exact ⟨trivial, hc⟩
  have Ho1 := hid ho1; clear ho1 hs
  have Hg1 := hid hg1; clear hg1
  go_wp2_with fail
  refine (pick_any rb _ 20 w1 h1 (by omega)).mono ?_
  rintro e w2 ⟨k, rfl, hk0, hk1, h2, hg2⟩
  have ho2 := own_pick Ho1.out hlt hg2
  have Ho2 := hid ho2; clear ho2
  have Hg2 := hid (gr_transS (gr_any Hg1.out _) hg2); clear hg2 h1 hk1
  by_cases e0 : k = 0
  · subst e0
    have Hr2 := hid h2; clear h2
    go_wp2_with (at_builtin; go_must (refine wpList_append_own _ rfl _ _ 33 rfl w.heap.size 3 i0 _ 1 8 Tryd.underlying33 hi0 hz0 hz1 hz2 rfl (by decide) _ _ _ rfl (Ho2.out.alloc _) ⟨w2.heap.size, 0, none⟩ 1 1 [.int .i64 z] rfl rfl ?c1 ?c2 ?c3 ?c4 ?c5 ?_))
    case c1 => exact cells_new w2 _ _ _ rfl
    case c2 => simp [Value.oneCell']
    case c3 => unfold maxLen; omega
    case c4 => omega
    case c5 => have := Hg2.out.size; simp; omega
    intro v' w3 hown3 hg3 _
    obtain ⟨a', cap', rfl, hcap'⟩ := own_form hown3
    have hgr3 := gr_append (gr_alloc Hg2.out _) (Ho2.out.alloc _) (Nat.le_refl _) hg3
    have hr3 := (Hr2.out.keep0 (gr_alloc (gr_refl _ _) _)).append (Ho2.out.alloc _) hlt hg3
    have Hown3 := hid hown3; clear hown3
    have Hgr3 := hid hgr3; clear hgr3
    have Hr3 := hid hr3; clear hr3 hg3
    go_wp2_with fail
    go_ret
    have hown := Hown3.out
    have e1 : xs.flatMap intL.cells ++ [.int .i64 z] = (xs ++ [z]).flatMap intL.cells := by simp [intL]
    rw [e1] at hown
    refine ⟨a', n + 1, cap', xs ++ [z], rfl, Ow.own_ints hown (by omega), hcap', Nat.le_refl _, fun x hx => ?_, Hr3.out.mono (by omega), Hgr3.out⟩
    rcases List.mem_append.1 hx with hx | hx
    · exact Hx.out x hx
    · simp at hx; omega
  by_cases e1 : k = 1
  · subst e1
    have Hr2 := hid h2; clear h2
    by_cases hn0 : n = 0
    · subst hn0
      go_wp2_with fail
      go_ret
      exact ⟨_, 0, c1, xs, rfl, Ow.own_ints Ho2.out (by omega), hc1, by omega, Hx.out, Hr2.out.mono (by omega), Hg2.out⟩
    · obtain ⟨g, eg, hg⟩ := own_some Ho2.out (by omega)
      cases eg
      by_cases hc11 : c1 = 1
      · subst hc11
        obtain rfl : n = 1 := by omega
        go_wp2_with fail
        go_ret
        exact ⟨_, 0, 0, [], rfl, Ow.nil _ _ _ _, by omega, by omega, by simp, Hr2.out.mono (by omega), Hg2.out⟩
      go_wp2_with fail
      go_ret
      have hsl := Ow.own_ints Ho2.out (by omega)
      refine ⟨_, n - 1, c1 - 1, xs.drop 1, rfl, ?_, by omega, by omega, fun x hx => Hx.out x (List.mem_of_mem_drop hx), Hr2.out.mono (by omega), Hg2.out⟩
      exact hsl.drop 1 _ (by simp [intL])
  by_cases e2 : k = 2
  · subst e2
    by_cases hn0 : n = 0
    · subst hn0
      have Hr2 := hid h2; clear h2
      go_wp2_with fail
      go_ret
      exact ⟨_, 0, c1, xs, rfl, Ow.own_ints Ho2.out (by omega), hc1, by omega, Hx.out, Hr2.out.mono (by omega), Hg2.out⟩
    · obtain ⟨g, eg, hg⟩ := own_some Ho2.out (by omega)
      cases eg
      go_wp2_with fail
      refine (pick_any rb _ n w2 h2 (by omega)).mono ?_
      rintro e w3 ⟨j, rfl, hj0, hj1, h3, hg3⟩
      have hjn : j < n := by omega
      obtain ⟨j, rfl⟩ := Int.eq_ofNat_of_zero_le hj0
      have ho3 := own_pick Ho2.out hlt hg3
      have Ho3 := hid ho3; clear ho3
      have Hg3 := hid (gr_transS Hg2.out hg3); clear hg3 h2 hj1
      go_wp2_with fail
      refine (one_lit rb _ [-1, z, 0, 1] _ _ _ rfl rfl (by simp) (by simp) _ _ rfl h3 (by omega)).mono ?_
      rintro e w4 ⟨u, rfl, hu, h4, hg4⟩
      have hub : lo ≤ u ∧ u ≤ hi := by simp at hu; omega
      have how4 := Ow.own_ints (own_pick Ho3.out hlt hg4) (by omega)
      have Hg4 := hid (gr_transS Hg3.out hg4); clear hg4 h3 hu
      obtain ⟨b, off, v, ev, hv, _, _, hf, hc⟩ := how4.at j (by omega)
      cases ev
      have c0 : w4.cell? ⟨g, j, none⟩ = some (.int .i64 v) := by have := hc 0 _ rfl; simpa [intL] using this
      have f0 : w4.frozen? ⟨g, j, none⟩ = false := hf _
      have Hv := hid hv; clear hv hc hf
      have How4 := hid how4; clear how4
      have Hr4 := hid h4; clear h4
      go_wp2_with fail
      go_ret
      refine ⟨_, n, c1, xs.set j u, rfl, ?_, hc1, by omega, fun x hx => ?_, (Hr4.out.setCell (show rb < g by omega) _).mono (by omega), gr_setCell Hg4.out (.inr hg) _⟩
      · exact (How4.out.set j 0 v u (.int .i64 u) Hv.out (by simp [intL]) rfl j (by simp [intL]))
      · rcases List.mem_or_eq_of_mem_set hx with h | h
        · exact Hx.out x h
        · omega
  have b0 : (k == 0) = false := by simpa using e0
  have b1 : (k == 1) = false := by simpa using e1
  have b2 : (k == 2) = false := by simpa using e2
  have Hr2 := hid h2; clear h2
  go_wp2_with fail
  go_ret
  exact ⟨_, n, c1, xs, rfl, Ow.own_ints Ho2.out (by omega), hc1, by omega, Hx.out, Hr2.out.mono (by omega), Hg2.out⟩



theorem tdiv_bound (s k m : Int) (hk : 1 ≤ k) (h1 : -m ≤ s) (h2 : s ≤ m) : -m ≤ s.tdiv k ∧ s.tdiv k ≤ m := by
  have key : ∀ t : Int, 0 ≤ t → t ≤ m → 0 ≤ t.tdiv k ∧ t.tdiv k ≤ m := by
    intro t h3 h4
    rw [Int.tdiv_eq_ediv_of_nonneg h3]
    exact ⟨Int.ediv_nonneg h3 (by omega), Int.le_trans (Int.ediv_le_self k h3) h4⟩
  by_cases hs : 0 ≤ s
  · have := key s hs h2; omega
  · have h5 := key (-s) (by omega) (by omega)
    rw [Int.neg_tdiv] at h5
    omega


end Go.Proofs.YtkgjciacdjhhfaaDoor
