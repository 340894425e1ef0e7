/- DrawCapWeights of the generators. -/
import Derived.Test.YtecboohippbliaaRows
import Derived.Test.YtecboohippbliaaBase
import Derived.Test.YtecboohippbliaaReader
import Derived.Test.YtecboohippbliaaDrawInts
import Derived.Test.YtecboohippbliaaSpecProRate2
import Derived.Test.YtecboohippbliaaSharesLaw
import Derived.Test.YtecboohippbliaaSharesFacts
import Derived.Test.YtecboohippbliaaCap
import Derived.Deep.AppendLies
namespace Go.Proofs.Ytecboohippbliaa
open Go.RowKit

theorem sum_pos_of (ws : List Int) (h : ∀ x ∈ ws, 0 ≤ x) (h0 : sumI ws ≠ 0) : 0 < sumI ws := by
  have := sum_nonneg ws h; omega

theorem spec_bounds (amount : Int) (ws : List Int) (h : holdersOk ws = true) (hs : 0 < sumI ws) (ha0 : 0 ≤ amount) (ha1 : amount ≤ 1000000000) : ∀ x ∈ specF amount ws, 0 ≤ x ∧ x ≤ amount := by
  obtain ⟨q1, q2, q3⟩ := quos_facts amount ws h hs ha0 ha1
  have hl : leftOf amount ws ≤ ws.length := by unfold leftOf; omega
  have e : specF amount ws = sharesF amount ws := (shares_eq amount ws hs hl).symm
  have hp := shares_pos amount ws ha0 (fun x hx => ((holders_facts ws h).2.2.1 x hx).1) hs
  have hsum := shares_sum amount ws q1 hl
  rw [e]
  intro x hx
  exact ⟨hp x hx, by have := mem_le_sum _ hp x hx; omega⟩

set_option maxRecDepth 100000 in
set_option maxHeartbeats 2000000 in
theorem DrawCapWeights_any (a : Option Addr) (n cap : Nat) (xs : List Int) (w : World) (hs : Sl u8L w a n xs) (hcap : n ≤ cap) (hx : ∀ x ∈ xs, 0 ≤ x ∧ x ≤ 255) :
    Calls Try.prog 33 #[.slice a n cap] w fun e w' => ∃ u a n cap xs, e = .returned (.tuple #[.slice a n cap, .int .i64 u]) ∧ (0 ≤ u ∧ u ≤ 1001) ∧ Sl intL w' a n xs ∧ n ≤ cap ∧ n ≤ 10 ∧ (∀ x ∈ xs, -1 ≤ x ∧ x ≤ 1001) ∧ w.grownBy w' none := by
  obtain ⟨i0, hi, hz0, hz1, hz2⟩ := info_parts infoInt
  go_enter Try.func33, Try.ntmps33
  go_wp2_with fail
  refine (newReader_any a n cap xs w hs hcap hx).mono ?_
  rintro e w0 ⟨rb, rfl, hrb, h0, hg0⟩
  have hlt0 := h0.lt
  have Hg0 := hid hg0; clear hg0
  clear hs hcap hx
  go_wp2_with fail
  refine (one_lit rb 0 [3, 4, 5, 2, 8, 1] _ _ _ rfl rfl (by simp) (by simp) _ _ (by simp) (h0.keep0 (gr_alloc (gr_refl _ _) _)) (by omega)).mono ?_
  rintro e w1 ⟨x, rfl, hx, h1, hg⟩
  have hx9 : 1 ≤ x ∧ x ≤ 8 := by simp at hx; omega
  clear hx
  have hown : w1.ownsRow w0.heap.size 3 1 (.slice (some ⟨w0.heap.size, 0, none⟩) 0 0) 0 (([] : List Int).flatMap intL.cells) := by
    refine World.ownsRow.kept (World.ownsRow_made w0 #[] 0 (Nat.le_refl _) (by decide) rfl) hg ?_
    right; simp [Value.ownBlock]; omega
  have hgr : w0.grownBy w1 (some rb) := gr_transS (gr_alloc (gr_refl _ _) _) hg
  clear hg
  have Hown := hid hown; clear hown
  have Hgr := hid hgr; clear hgr
  have H1 := hid h1; clear h1
  obtain ⟨x, rfl⟩ := Int.eq_ofNat_of_zero_le (show 0 ≤ x by omega)
  go_wp2_with fail
  go_loopw [5, 6] (fun out i wr => ∃ (k g cap : Nat) (xs : List Int), i = .int .i64 k ∧ k ≤ x ∧ out = .slice (some ⟨g, 0, none⟩) (x - k) cap ∧ xs.length = x - k ∧ (∀ z ∈ xs, 0 ≤ z ∧ z ≤ 40) ∧ wr.ownsRow w0.heap.size 3 1 (.slice (some ⟨g, 0, none⟩) (x - k) cap) (x - k) (xs.flatMap intL.cells) ∧ Rdr 70 wr rb (1 + 2 * (x - k)) ∧ w0.grownBy wr (some rb)) (fun _ i _ => (intOf i).toNat)
  case atStart => exact ⟨x, _, _, [], rfl, Nat.le_refl _, by rw [Nat.sub_self], by simp, by simp, by rw [Nat.sub_self]; exact Hown.out, by rw [Nat.sub_self]; exact H1.out, Hgr.out⟩
  case round =>
    clear Hown H1 Hgr
    obtain ⟨k, g, cap, xs, rfl, hk, rfl, hlen, hxs, hown, hr, hgr⟩ := hrel
    have Hxs := hid hxs; clear hxs
    by_cases h0 : 0 < k
    · have Hown := hid hown; clear hown
      have Hgr := hid hgr; clear hgr
      have Hlen := hid hlen; clear hlen
      go_wp2_with fail
      refine (pick_any rb _ 20 wr hr (by omega)).mono ?_
      rintro e w2 ⟨y, rfl, hy0, hy1, hr2, hg2⟩
      have hy : y < 20 := by omega
      clear hy1
      have Hg2 := hid hg2; clear hg2
      have Hr := hid hr; clear hr
      go_wp2_with fail
      refine (one_lit rb _ [0, 1, 5, 10, 40, y] _ _ _ rfl rfl (by simp) (by simp) _ _ rfl hr2 (by omega)).mono ?_
      rintro e w3 ⟨z, rfl, hz, hr3, hg3⟩
      have hzb : 0 ≤ z ∧ z ≤ 40 := by simp at hz; omega
      have Hz := hid hz; clear hz
      have Hr2 := hid hr2; clear hr2
      have Hg3 := hid hg3; clear hg3
      have Hr3 := hid hr3; clear hr3
      have hown3 := own_pick (own_pick Hown.out hlt0 Hg2.out) hlt0 Hg3.out
      have Hown3 := hid hown3; clear hown3
      go_wp2_with (at_builtin; go_must (refine wpList_append_lies _ rfl _ _ _ rfl w0.heap.size 3 i0 _ 1 8 Try.underlying22 hi hz0 hz1 hz2 rfl (by decide) _ _ _ rfl (Hown3.out.alloc _) ⟨w3.heap.size, 0, none⟩ 1 1 [.int .i64 z] rfl rfl ?d1 ?d2 (by decide) ?d3 ?d4 ?d5 _ rfl ?_))
      case d1 => exact cells_new w3 _ _ _ rfl
      case d2 => simp [Value.oneCell']
      case d3 => unfold maxLen; omega
      case d4 => omega
      case d5 => have h1 := Hgr.out.size; have h2 := Hg2.out.size; have h3 := Hg3.out.size; simp; omega
      intro g' c' w4 hown4 hg4 _ _
      have hgr4 : w0.grownBy w4 (some rb) := gr_append (gr_alloc (gr_transS (gr_transS Hgr.out Hg2.out) Hg3.out) _) (Hown3.out.alloc _) (Nat.le_refl _) hg4
      have hr4 := (Hr3.out.keep0 (gr_alloc (gr_refl _ _) _)).append (Hown3.out.alloc _) hlt0 hg4
      have Hown4 := hid hown4; clear hown4
      have Hgr4 := hid hgr4; clear hgr4
      have Hr4 := hid hr4; clear hr4
      clear hg4
      go_wp2
      go_roundw
      case rel =>
        have e1 : x - (k - 1) = x - k + 1 := by omega
        refine ⟨k - 1, g', c', xs ++ [z], by congr 1; omega, by omega, by rw [e1], by rw [List.length_append, Hlen.out, e1]; rfl, ?_, ?_, ?_, Hgr4.out⟩
        · intro u hu
          rcases List.mem_append.1 hu with hu | hu
          · exact Hxs.out u hu
          · simp at hu; omega
        · rw [e1, List.flatMap_append]; exact Hown4.out
        · rw [e1]; exact Hr4.out.mono (by omega)
      case measure => simp [intOf]; omega
    · obtain rfl : k = 0 := by omega
      rw [Nat.sub_zero] at *
      have how := Ow.own_ints hown (by omega)
      have Hown := hid hown; clear hown
      have htt := tot_eq xs 0 40 Hxs.out (by omega) (by omega) (by omega) (by omega) (by omega)
      have Htt := hid htt
      have Hrr0 := hid hr
      have Hgg0 := hid hgr
      have Hlen := hid hlen
      have hgB := (Hown.out.lt g rfl)
      clear hr hgr htt hlen
      go_wp2_with fail
      refine (spectotal_any _ x cap xs wr how.sl).mono ?_
      rintro e w2 ⟨rfl, rfl⟩
      rw [Htt.out]
      by_cases hs0 : sumI xs = 0
      · obtain ⟨b5, o5, v, e5, hv, _, _, hf, hc⟩ := how.at 0 (by omega)
        cases e5
        have c0 : wr.cell? ⟨g, 0, none⟩ = some (.int .i64 v) := by have := hc 0 _ rfl; simpa [intL] using this
        have f0 : wr.frozen? ⟨g, 0, none⟩ = false := hf _
        have hyb : ∀ z ∈ xs.set 0 1, 0 ≤ z ∧ z ≤ 40 := by
          intro z hz
          rcases List.mem_or_eq_of_mem_set hz with h | h
          · exact Hxs.out z h
          · omega
        have hok : holdersOk (xs.set 0 1) = true := by
          unfold holdersOk intsIn
          simp only [Bool.and_eq_true, within_iff', List.all_eq_true, List.length_set]
          have := Hlen.out
          exact ⟨by omega, fun z hz => by have := hyb z hz; omega⟩
        have hpos : 0 < sumI (xs.set 0 1) := by
          refine sum_pos_of _ (fun z hz => (hyb z hz).1) (fun h => ?_)
          have h1 : (1 : Int) ∈ xs.set 0 1 := List.mem_iff_getElem?.2 ⟨0, List.getElem?_set_self (by have := Hlen.out; omega)⟩
          have h2 := mem_le_sum _ (fun z hz => (hyb z hz).1) 1 h1
          omega
        obtain ⟨q1, q2, q3⟩ := quos_facts 1000 (xs.set 0 1) hok hpos (by omega) (by omega)
        have hsb := spec_bounds 1000 (xs.set 0 1) hok hpos (by omega) (by omega)
        have hys : Ow intL (wr.setCell ⟨g, 0, none⟩ (.int .i64 1)) w0.heap.size (some ⟨g, 0, none⟩) x (xs.set 0 1) := how.set 0 0 v 1 (.int .i64 1) hv (by simp [intL]) rfl 0 (by simp [intL])
        have Hys := hid hys; have Hyb := hid hyb; have Hpos := hid hpos; have Q1 := hid q1; have Q3 := hid q3; have Hsb := hid hsb
        have Q2 : Hid (1000 - sumI (quos 1000 (xs.set 0 1)) ≤ x) := hid (by rw [List.length_set, Hlen.out] at q2; exact q2)
        have Hrr := hid (Hrr0.out.setCell (p := ⟨g, 0, none⟩) (show rb < g by omega) (.int .i64 1))
        have Hgg : Hid (w0.grownBy (wr.setCell ⟨g, 0, none⟩ (.int .i64 1)) (some rb)) := hid (gr_setCell Hgg0.out (.inr hgB.1) _)
        rw [hs0]
        clear how hv hf hc hyb hok hpos q1 q2 q3 hsb hys hs0 Htt
        go_wp2_with fail
        refine (prorate_any 1000 _ x cap (xs.set 0 1) (wr.setCell ⟨g, 0, none⟩ (.int .i64 1)) Hys.out.sl (by omega) (by omega) (by omega) (by omega) (fun z hz => by have := Hyb.out z hz; omega) Hpos.out Q1.out Q2.out Q3.out).mono ?_
        rintro e w5 ⟨a5, c5, rfl, ho5, hc5, hg5⟩
        have hr5 := Hrr.out.keep0 hg5
        have Hr5 := hid hr5; clear hr5
        have Hs5 := hid ho5.sl
        obtain ⟨b5, off5, rfl, hb5, _⟩ := ho5.mem (by omega)
        have Hg5 := hid (gr_trans0 Hgg.out hg5)
        clear ho5 hg5
        go_wp2_with fail
        refine (spoil_any rb _ _ x c5 (specF 1000 (xs.set 0 1)) (-1) 1001 1001 w5 Hr5.out (by omega) Hs5.out (.inl ⟨_, rfl⟩) (by omega) (fun z hz => by have := Hsb.out z hz; omega) (by omega) (by omega) (by omega)).mono ?_
        rintro e w6 ⟨a6, n6, c6, zs, rfl, ho6, hc6, hn6, hz6, hr6, hg6⟩
        have Ho6 := hid ho6; clear ho6
        have Hz6 := hid hz6; clear hz6
        have Hr6 := hid hr6; clear hr6
        have Hg6 := hid (gr_transS Hg5.out hg6); clear hg6
        go_wp2_with fail
        refine (one_lit rb _ [500, 400, 300, 250, 1000, 334, 125, 1001, 0] _ _ _ rfl rfl (by simp) (by simp) _ _ rfl Hr6.out (by omega)).mono ?_
        rintro e w7 ⟨u, rfl, hu, h7, hg7⟩
        have hub : 0 ≤ u ∧ u ≤ 1001 := by simp at hu; omega
        clear hu
        have hgw := gr_own Hg0.out (gr_transS Hg6.out hg7) (fun k e => by cases e; exact hrb)
        have hsl6 := Ho6.out.sl.keep hg7 (fun h0 b off e1 e2 => by
          obtain ⟨b', off', e', hb', _⟩ := Ho6.out.mem h0
          have := Hr5.out.lt
          rw [e1] at e'; cases e'; cases e2; omega)
        have Hgw := hid hgw; have Hsl6 := hid hsl6
        clear hgw hsl6 hg7
        go_wp2_with fail
        go_ret2
        exact ⟨u, a6, n6, c6, zs, rfl, hub, Hsl6.out, hc6, by omega, Hz6.out, Hgw.out⟩
      · have hb0 : (sumI xs == 0) = false := by simpa using hs0
        have hok : holdersOk xs = true := by
          unfold holdersOk intsIn
          simp only [Bool.and_eq_true, within_iff', List.all_eq_true]
          have := Hlen.out
          exact ⟨by omega, fun z hz => by have := Hxs.out z hz; omega⟩
        have hpos : 0 < sumI xs := sum_pos_of _ (fun z hz => (Hxs.out z hz).1) hs0
        obtain ⟨q1, q2, q3⟩ := quos_facts 1000 xs hok hpos (by omega) (by omega)
        have Hsb := hid (spec_bounds 1000 xs hok hpos (by omega) (by omega))
        have Hys := hid how; have Hyb := hid Hxs.out; have Hpos := hid hpos; have Q1 := hid q1; have Q3 := hid q3
        have Q2 : Hid (1000 - sumI (quos 1000 xs) ≤ x) := hid (by rw [Hlen.out] at q2; exact q2)
        have Hrr := hid Hrr0.out
        have Hgg := hid Hgg0.out
        clear how hok hpos q1 q2 q3 hs0 Htt
        go_wp2_with fail
        refine (prorate_any 1000 _ x cap xs wr Hys.out.sl (by omega) (by omega) (by omega) (by omega) (fun z hz => by have := Hyb.out z hz; omega) Hpos.out Q1.out Q2.out Q3.out).mono ?_
        rintro e w5 ⟨a5, c5, rfl, ho5, hc5, hg5⟩
        have hr5 := Hrr.out.keep0 hg5
        have Hr5 := hid hr5; clear hr5
        have Hs5 := hid ho5.sl
        obtain ⟨b5, off5, rfl, hb5, _⟩ := ho5.mem (by omega)
        have Hg5 := hid (gr_trans0 Hgg.out hg5)
        clear ho5 hg5
        go_wp2_with fail
        refine (spoil_any rb _ _ x c5 (specF 1000 xs) (-1) 1001 1001 w5 Hr5.out (by omega) Hs5.out (.inl ⟨_, rfl⟩) (by omega) (fun z hz => by have := Hsb.out z hz; omega) (by omega) (by omega) (by omega)).mono ?_
        rintro e w6 ⟨a6, n6, c6, zs, rfl, ho6, hc6, hn6, hz6, hr6, hg6⟩
        have Ho6 := hid ho6; clear ho6
        have Hz6 := hid hz6; clear hz6
        have Hr6 := hid hr6; clear hr6
        have Hg6 := hid (gr_transS Hg5.out hg6); clear hg6
        go_wp2_with fail
        refine (one_lit rb _ [500, 400, 300, 250, 1000, 334, 125, 1001, 0] _ _ _ rfl rfl (by simp) (by simp) _ _ rfl Hr6.out (by omega)).mono ?_
        rintro e w7 ⟨u, rfl, hu, h7, hg7⟩
        have hub : 0 ≤ u ∧ u ≤ 1001 := by simp at hu; omega
        clear hu
        have hgw := gr_own Hg0.out (gr_transS Hg6.out hg7) (fun k e => by cases e; exact hrb)
        have hsl6 := Ho6.out.sl.keep hg7 (fun h0 b off e1 e2 => by
          obtain ⟨b', off', e', hb', _⟩ := Ho6.out.mem h0
          have := Hr5.out.lt
          rw [e1] at e'; cases e'; cases e2; omega)
        have Hgw := hid hgw; have Hsl6 := hid hsl6
        clear hgw hsl6 hg7
        go_wp2_with fail
        go_ret2
        exact ⟨u, a6, n6, c6, zs, rfl, hub, Hsl6.out, hc6, by omega, Hz6.out, Hgw.out⟩

end Go.Proofs.Ytecboohippbliaa
