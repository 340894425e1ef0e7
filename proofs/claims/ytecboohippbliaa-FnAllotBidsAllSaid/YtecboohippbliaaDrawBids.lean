/- The generator of bids: it ends, with bids of the call's own. -/
import Derived.Test.YtecboohippbliaaRows
import Derived.Test.YtecboohippbliaaBase
import Derived.Test.YtecboohippbliaaReader
import Derived.Test.YtecboohippbliaaBids
namespace Go.Proofs.Ytecboohippbliaa
open Go.RowKit

set_option maxRecDepth 100000 in
set_option maxHeartbeats 400000 in
theorem anyBids_any (rb m : Nat) (w : World) (h : Rdr 70 w rb m) (hm : m ≤ 1000000) :
    Calls Try.prog 65 #[.pointer (some ⟨rb, 0, none⟩)] w fun e w' => ∃ a n cap xs, e = .returned (.slice a n cap) ∧ Ow bidL w' w.heap.size a n xs ∧ n ≤ cap ∧ n ≤ 9 ∧ Rdr 70 w' rb (m + 100) ∧ w.grownBy w' (some rb) := by
  obtain ⟨i0, hi, hz0, hz1, hz2⟩ := info_parts infoBid
  go_enter Try.func65, Try.ntmps65
  go_wp2_with fail
  refine (one_lit rb m [3, 4, 5, 2, 1, 0, 8, 9] _ _ _ rfl rfl (by decide) (by decide) _ _ (by simp) (h.keep0 (gr_alloc (gr_refl _ _) _)) (by omega)).mono ?_
  rintro e w1 ⟨x, rfl, hx, h1, hg⟩
  have hx9 : 0 ≤ x ∧ x ≤ 9 := by simp at hx; omega
  clear hx
  have hlt := h.lt
  have hown : w1.ownsRow w.heap.size 42 2 (.slice (some ⟨w.heap.size, 0, none⟩) 0 0) 0 (([] : List Bid).flatMap bidL.cells) := by
    refine World.ownsRow.kept (World.ownsRow_made w #[] 0 (Nat.le_refl _) (by decide) rfl) hg ?_
    right; simp [Value.ownBlock]; omega
  have hgr : w.grownBy w1 (some rb) := gr_transS (gr_alloc (gr_refl _ _) _) hg
  clear hg
  have Hown := hid hown; clear hown
  have Hgr := hid hgr; clear hgr
  have H1 := hid h1; clear h1
  obtain ⟨x, rfl⟩ := Int.eq_ofNat_of_zero_le hx9.1
  go_wp2_with fail
  go_loopw [3, 4] (fun out i wr => ∃ (k : Nat) (a : Option Addr) (cap : Nat) (xs : List Bid), i = .int .i64 k ∧ k ≤ x ∧ out = .slice a (x - k) cap ∧ xs.length = x - k ∧ wr.ownsRow w.heap.size 42 2 (.slice a (x - k) cap) (x - k) (xs.flatMap bidL.cells) ∧ Rdr 70 wr rb (m + 1 + 2 * (x - k)) ∧ w.grownBy wr (some rb)) (fun _ i _ => (intOf i).toNat)
  case atStart => exact ⟨x, _, _, [], rfl, Nat.le_refl _, by rw [Nat.sub_self], by simp, by rw [Nat.sub_self]; exact Hown.out, by rw [Nat.sub_self]; exact H1.out, Hgr.out⟩
  case round =>
    clear Hown H1 Hgr
    obtain ⟨k, a, cap, xs, rfl, hk, rfl, hlen, hown, hr, hgr⟩ := hrel
    by_cases h0 : 0 < k
    · have Hown := hid hown; clear hown
      have Hgr := hid hgr; clear hgr
      have Hlen := hid hlen; clear hlen
      go_wp2_with fail
      refine (pick_any rb _ 4 wr hr (by omega)).mono ?_
      rintro e w2 ⟨y, rfl, hy0, hy1, hr2, hg2⟩
      have hy : y < 4 := by omega
      clear hy1
      have Hg2 := hid hg2; clear hg2
      have Hr := hid hr; clear hr
      go_wp2_with fail
      refine (one_lit rb _ [10, 5, 33, 100, 7] _ _ _ rfl rfl (by decide) (by decide) _ _ rfl hr2 (by omega)).mono ?_
      rintro e w3 ⟨z, rfl, hz, hr3, hg3⟩
      have hzb : 0 ≤ z ∧ z ≤ 100 := by simp at hz; omega
      have Hz := hid hz; clear hz
      have Hr2 := hid hr2; clear hr2
      have Hg3 := hid hg3; clear hg3
      have Hr3 := hid hr3; clear hr3
      have hown3 := own_pick (own_pick Hown.out hlt Hg2.out) hlt Hg3.out
      have Hown3 := hid hown3; clear hown3
      go_wp2_with (at_builtin; refine wpList_append_own _ rfl _ _ 37 rfl w.heap.size 42 i0 _ 2 16 Try.underlying37 hi hz0 hz1 hz2 rfl (by decide) _ _ _ rfl (Hown3.out.alloc _) ⟨w3.heap.size, 0, none⟩ 1 1 [.int .i64 (400 + y), .int .i64 z] rfl rfl ?c1 ?c2 ?c3 ?c4 ?c5 ?_)
      case c1 => exact cells_new w3 _ _ _ rfl
      case c2 => simp [Value.oneCell']
      case c3 => unfold maxLen; omega
      case c4 => omega
      case c5 => have h1 := Hgr.out.size; have h2 := Hg2.out.size; have h3 := Hg3.out.size; simp; omega
      intro v' w4 hown4 hg4 _
      obtain ⟨a', cap', rfl, hcap'⟩ := own_form hown4
      have hb3 : w.heap.size ≤ w3.heap.size := by have h1 := Hgr.out.size; have h2 := Hg2.out.size; have h3 := Hg3.out.size; omega
      have hgr4 : w.grownBy w4 (some rb) := gr_append (gr_alloc (gr_transS (gr_transS Hgr.out Hg2.out) Hg3.out) _) (Hown3.out.alloc _) (Nat.le_refl _) hg4
      have hr4 := (Hr3.out.keep0 (gr_alloc (gr_refl _ _) _)).append (Hown3.out.alloc _) hlt hg4
      have Hown4 := hid hown4; clear hown4
      have Hgr4 := hid hgr4; clear hgr4
      have Hr4 := hid hr4; clear hr4
      clear hg4
      go_wp2
      go_roundw
      case rel =>
        have e1 : x - (k - 1) = x - k + 1 := by omega
        refine ⟨k - 1, a', cap', xs ++ [⟨400 + y, z⟩], by congr 1; omega, by omega, by rw [e1], by rw [List.length_append, Hlen.out, e1]; rfl, ?_, ?_, Hgr4.out⟩
        · rw [e1, List.flatMap_append]; exact Hown4.out
        · rw [e1]; exact Hr4.out.mono (by omega)
      case measure => simp [intOf]; omega
    · obtain rfl : k = 0 := by omega
      have Hown := hid hown; clear hown
      have Hgr := hid hgr; clear hgr
      have Hlen := hid hlen; clear hlen
      by_cases hx0 : 0 < x
      · go_wp2_with fail
        refine (pick_any rb _ 20 wr hr (by omega)).mono ?_
        rintro e w2 ⟨y, rfl, hy0, hy1, hr2, hg2⟩
        by_cases hy : y = 0
        · subst hy
          have Hg2 := hid hg2; clear hg2
          go_wp2_with fail
          refine (one_lit rb _ [-1, 3000, 3001] _ _ _ rfl rfl (by decide) (by decide) _ _ rfl hr2 (by omega)).mono ?_
          rintro e w3 ⟨u, rfl, _, hr3, hg3⟩
          have Hg3 := hid hg3; clear hg3
          go_wp2_with fail
          refine (one_lit rb _ [0, 9999, 10000] _ _ _ rfl rfl (by decide) (by decide) _ _ rfl hr3 (by omega)).mono ?_
          rintro e w4 ⟨v, rfl, _, hr4, hg4⟩
          have Hg4 := hid hg4; clear hg4
          have hown4 := own_pick (own_pick (own_pick Hown.out hlt Hg2.out) hlt Hg3.out) hlt Hg4.out
          obtain ⟨g, rfl, hge⟩ : ∃ g, a = some ⟨g, 0, none⟩ ∧ w.heap.size ≤ g := by
            rcases hown4.2 with ⟨e, h0⟩ | ⟨g, cap', cur, e, hg, _⟩
            · omega
            · simp only [Value.slice.injEq] at e; exact ⟨g, e.1, hg⟩
          cases xs with
          | nil => have := Hlen.out; simp at this; omega
          | cons x0 rest =>
          have hcs := hown4.2
          have c0 : w4.cell? ⟨g, 0, none⟩ = some (.int .i64 x0.yield) := by rw [hown4.cellAt 0 (by omega)]; rfl
          have c1 : w4.cell? ⟨g, 1, none⟩ = some (.int .i64 x0.many) := by rw [hown4.cellAt 1 (by omega)]; rfl
          have f0 : w4.frozen? ⟨g, 0, none⟩ = false := hown4.frozenAt 0
          have f1 : w4.frozen? ⟨g, 1, none⟩ = false := hown4.frozenAt 1
          have Hown4 := hid hown4; clear hown4 hcs
          have Hr4 := hid hr4; clear hr4
          go_wp2_with fail
          go_ret
          obtain ⟨o1, g1⟩ := Hown4.out.stored 0 (.int .i64 u)
          obtain ⟨o2, g2⟩ := o1.stored 1 (.int .i64 v)
          have hgn : rb < g := by omega
          refine ⟨_, x, cap, ⟨u, v⟩ :: rest, rfl, ?_, ?_, by omega, ?_, ?_⟩
          · exact Ow.of_own (L := bidL) o2 (by have := Hlen.out; simpa using this) (by unfold maxLen; omega)
          · obtain ⟨_, _, e, hc⟩ := own_form o2
            simp at e; omega
          · exact ((Hr4.out.keep g1 (fun k e => by cases e; exact hgn)).keep g2 (fun k e => by cases e; exact hgn)).mono (by omega)
          · exact gr_own (gr_own (gr_transS (gr_transS (gr_transS Hgr.out Hg2.out) Hg3.out) Hg4.out) g1 (fun k e => by cases e; exact hge)) g2 (fun k e => by cases e; exact hge)
        · have hyb : (y == 0) = false := by simp [hy]
          have Hr2 := hid hr2; clear hr2
          have Hg2 := hid hg2; clear hg2
          go_wp2_with fail
          go_ret
          refine ⟨a, x, cap, xs, rfl, ?_, ?_, by omega, Hr2.out.mono (by omega), gr_transS Hgr.out Hg2.out⟩
          · exact Ow.of_own (by have := own_pick Hown.out hlt Hg2.out; exact this) Hlen.out (by unfold maxLen; omega)
          · obtain ⟨_, _, e, hc⟩ := own_form Hown.out
            simp at e; omega
      · go_wp2_with fail
        go_ret
        refine ⟨a, x, cap, xs, rfl, ?_, ?_, by omega, hr.mono (by omega), Hgr.out⟩
        · exact Ow.of_own (by have := Hown.out; exact this) Hlen.out (by unfold maxLen; omega)
        · obtain ⟨_, _, e, hc⟩ := own_form Hown.out
          simp at e; omega


set_option maxRecDepth 100000 in
theorem DrawStopYield_any (a : Option Addr) (n cap : Nat) (xs : List Int) (w : World) (hs : Sl u8L w a n xs) (hcap : n ≤ cap) (hx : ∀ x ∈ xs, 0 ≤ x ∧ x ≤ 255) :
    Calls Try.prog 34 #[.slice a n cap] w fun e w' => ∃ a n cap xs u, e = .returned (.tuple #[.slice a n cap, .int .i64 u]) ∧ (0 ≤ u ∧ u ≤ 1000000001) ∧ Sl bidL w' a n xs ∧ n ≤ cap ∧ n ≤ 9 ∧ w.grownBy w' none := by
  go_enter Try.func34, Try.ntmps34
  go_wp2_with fail
  refine (newReader_any a n cap xs w hs hcap hx).mono ?_
  rintro e w1 ⟨rb, rfl, hrb, h1, hg⟩
  go_wp2_with fail
  refine (anyBids_any rb 0 w1 h1 (by omega)).mono ?_
  rintro e w2 ⟨a', n', cap', xs', rfl, hs', hc', hn', h2, hg2⟩
  have Hs' := hid hs'; clear hs'
  go_wp2_with fail
  refine (one_lit rb _ [20, 50, 100, 1, 200, 0, 1000000000, 1000000001] _ _ _ rfl rfl (by simp) (by simp) _ _ rfl h2 (by omega)).mono ?_
  rintro e w3 ⟨u, rfl, hu, h3, hg3⟩
  have hub : 0 ≤ u ∧ u ≤ 1000000001 := by simp at hu; omega
  clear hu
  go_wp2_with fail
  go_ret2
  exact ⟨a', n', cap', xs', u, rfl, hub, Hs'.out.sl.keep hg3 (fun h0 b off e e2 => by
    obtain ⟨b', off', e', hb, _⟩ := Hs'.out.mem h0
    rw [e] at e'; cases e'; cases e2
    have := h1.lt; omega), hc', hn', gr_own hg (gr_transS hg2 hg3) (fun k e => by cases e; exact hrb)⟩
set_option maxRecDepth 100000 in
theorem DrawAllotBids_any (a : Option Addr) (n cap : Nat) (xs : List Int) (w : World) (hs : Sl u8L w a n xs) (hcap : n ≤ cap) (hx : ∀ x ∈ xs, 0 ≤ x ∧ x ≤ 255) :
    Calls Try.prog 40 #[.slice a n cap] w fun e w' => ∃ a n cap xs u, e = .returned (.tuple #[.slice a n cap, .int .i64 u]) ∧ (0 ≤ u ∧ u ≤ 1000000001) ∧ Sl bidL w' a n xs ∧ n ≤ cap ∧ n ≤ 9 ∧ w.grownBy w' none := by
  go_enter Try.func40, Try.ntmps40
  go_wp2_with fail
  refine (DrawStopYield_any a n cap xs w hs hcap hx).mono ?_
  rintro e w1 ⟨a', n', cap', xs', u, rfl, hub, hs', hc', hn', hg⟩
  have Hs' := hid hs'; clear hs'
  go_wp2_with fail
  go_ret2
  exact ⟨a', n', cap', xs', u, rfl, hub, Hs'.out, hc', hn', hg⟩

end Go.Proofs.Ytecboohippbliaa
