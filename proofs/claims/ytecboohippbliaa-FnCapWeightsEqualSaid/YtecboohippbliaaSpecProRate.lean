/- The reference's shares: the greatest rest gets one more, again and again. -/
import Derived.Test.YtecboohippbliaaRows
import Derived.Test.YtecboohippbliaaBase
import Derived.Test.YtecboohippbliaaHolders
import Derived.Test.YtecboohippbliaaProRate
import Derived.Deep.AppendLies
import Derived.Deep.QuietTactic
import Derived.BigQuiet
namespace Go.Proofs.Ytecboohippbliaa
open Go.RowKit

def restsL (amount : Int) (ws : List Int) : List Int := ws.map fun w => amount * w % sumI ws
/-- The first place of the greatest number among the first k. -/
def amax (rs : List Int) : Nat → Nat
  | 0 => 0
  | k + 1 => if rs.getD (amax rs k) 0 < rs.getD k 0 then k else amax rs k
def specStep (p : List Int × List Int) : List Int × List Int := (bump p.1 (amax p.2 p.2.length : Nat), p.2.set (amax p.2 p.2.length) (-1))
def specIter : Nat → List Int × List Int → List Int × List Int
  | 0, p => p
  | k + 1, p => specIter k (specStep p)
def specF (amount : Int) (ws : List Int) : List Int := (specIter (leftOf amount ws) (quos amount ws, restsL amount ws)).1

theorem specIter_succ (j : Nat) (p : List Int × List Int) : specIter (j + 1) p = specStep (specIter j p) := by
  induction j generalizing p with
  | zero => rfl
  | succ j ih => exact ih (specStep p)

theorem amax_lt (rs : List Int) (k : Nat) (h : 0 < k) : amax rs k < k := by
  induction k with
  | zero => omega
  | succ k ih =>
    unfold amax
    split
    · omega
    · by_cases h0 : k = 0
      · subst h0; simp [amax]
      · have := ih (by omega); omega

set_option maxRecDepth 100000 in
set_option maxHeartbeats 1000000 in
theorem prorate_any (amount : Int) (a : Option Addr) (n cap : Nat) (ws : List Int) (w : World) (hsl : Sl intL w a n ws) (hn0 : 1 ≤ n) (hn : n ≤ 19) (ha0 : 0 ≤ amount) (ha1 : amount ≤ 1000000000) (hw : ∀ x ∈ ws, 0 ≤ x ∧ x ≤ 9999) (hs : 0 < sumI ws)
    (hl0 : 0 ≤ amount - sumI (quos amount ws)) (hl1 : amount - sumI (quos amount ws) ≤ n) (hq : ∀ x ∈ quos amount ws, 0 ≤ x ∧ x ≤ 1000000000) :
    Calls Try.prog 47 #[.int .i64 amount, .slice a n cap] w fun e w' => ∃ a' cap', e = .returned (.slice a' n cap') ∧ Ow intL w' w.heap.size a' n (specF amount ws) ∧ n ≤ cap' ∧ w.grownBy w' none := by
  obtain ⟨i0, hi, hz0, hz1, hz2⟩ := info_parts infoI
  have Hsl := hid hsl; clear hsl
  have Hw := hid hw; clear hw
  have Hq := hid hq; clear hq
  have htot := tot_eq ws 0 9999 Hw.out (by omega) (by omega) (by omega) (by omega) (by rw [Hsl.out.len]; omega)
  have Htot := hid htot; clear htot
  go_enter Try.func47, Try.ntmps47
  go_wp2_with fail
  refine (spectotal_any a n cap ws _ (Hsl.out.keep0 (gr_alloc (gr_alloc (gr0 _) _) _))).mono ?_
  rintro e w1 ⟨rfl, rfl⟩
  rw [Htot.out]
  generalize hsum : sumI ws = s at *
  have Hsum := hid hsum; clear hsum
  have hsb : s ≤ 1000000 := by
    have h1 := sumI_bound ws 0 9999 Hw.out
    have h2 := Hsl.out.len
    have h3 := Hsum.out
    omega
  have hA : ((w.alloc (Obj.cells #[] 3)).alloc (Obj.cells #[] 3)).ownsRow w.heap.size 3 1 (.slice (some ⟨w.heap.size, 0, none⟩) 0 0) 0 (([] : List Int).flatMap intL.cells) := (World.ownsRow_made w #[] 0 (Nat.le_refl _) (by decide) rfl).alloc _
  have hC : ((w.alloc (Obj.cells #[] 3)).alloc (Obj.cells #[] 3)).ownsRow w.heap.size 3 1 (.slice (some ⟨w.heap.size + 1, 0, none⟩) 0 0) 0 (([] : List Int).flatMap intL.cells) := by
    have := World.ownsRow_made (base := w.heap.size) (size := 1) (e := 3) (w.alloc (Obj.cells #[] 3)) #[] 0 (by simp) (by decide) rfl
    simpa using this
  have HA := hid hA; clear hA
  have HC := hid hC; clear hC
  have Hg0 := hid (gr_alloc (gr_alloc (gr0 w) (Obj.cells #[] 3)) (Obj.cells #[] 3))
  go_wp2_with fail
  go_loopw [5, 6, 8, 9] (fun o r l i wr => ∃ (k g1 g2 c1 c2 : Nat), k ≤ n ∧ i = .int .i64 k ∧ o = .slice (some ⟨g1, 0, none⟩) k c1 ∧ r = .slice (some ⟨g2, 0, none⟩) k c2 ∧ g1 ≠ g2 ∧ l = .int .i64 (amount - sumI (((ws.take k).map fun x => amount * x / s))) ∧ wr.ownsRow w.heap.size 3 1 (.slice (some ⟨g1, 0, none⟩) k c1) k (((ws.take k).map fun x => amount * x / s).flatMap intL.cells) ∧ wr.ownsRow w.heap.size 3 1 (.slice (some ⟨g2, 0, none⟩) k c2) k (((ws.take k).map fun x => amount * x % s).flatMap intL.cells) ∧ w.grownBy wr none) (fun _ _ _ i _ => n - (intOf i).toNat)
  case atStart => exact ⟨0, w.heap.size, w.heap.size + 1, 0, 0, by omega, rfl, rfl, rfl, by omega, by simp [sumI], by simpa using HA.out, by simpa using HC.out, Hg0.out⟩
  case round =>
    clear HA HC Hg0
    obtain ⟨k, g1, g2, c1, c2, hk, rfl, rfl, rfl, hne, rfl, hoo, hor, hg⟩ := hrel
    have hslw := Hsl.out.keep0 hg
    have hszg := hg.size
    have Hoo := hid hoo; clear hoo
    have Hor := hid hor; clear hor
    have Hg := hid hg; clear hg
    have Hne := hid hne; clear hne
    by_cases hlt : k < n
    · obtain ⟨b, off, x, rfl, hxk, hcx⟩ := int_at hslw k hlt
      have hxb := Hw.out x (List.mem_of_getElem? hxk)
      have p1 : 0 ≤ amount * x := Int.mul_nonneg ha0 hxb.1
      have p3 : amount * x ≤ 1000000000 * 9999 := Int.mul_le_mul ha1 hxb.2 hxb.1 (by omega)
      have hsumk : sumI ((ws.take (k + 1)).map fun x => amount * x / s) = sumI ((ws.take k).map fun x => amount * x / s) + amount * x / s := by
        rw [take_snoc _ _ _ hxk, List.map_append, sumI_append]; simp [sumI]
      have hqk : ((ws.take k).map fun x => amount * x / s) = (quos amount ws).take k := by unfold quos; rw [List.map_take, Hsum.out]
      have hbk := sumI_bound ((quos amount ws).take k) 0 1000000000 (fun x hx => Hq.out x (List.mem_of_mem_take hx))
      rw [← hqk, List.length_map, List.length_take] at hbk
      have hqx : 0 ≤ amount * x / s ∧ amount * x / s ≤ 1000000000 := by
        have hm : amount * x / s ∈ quos amount ws := by unfold quos; rw [Hsum.out]; exact List.mem_map.2 ⟨x, List.mem_of_getElem? hxk, rfl⟩
        exact Hq.out _ hm
      have hrx : 0 ≤ amount * x % s := Int.emod_nonneg _ (by omega)
      have Hsumk := hid hsumk; clear hsumk hqk
      have Hxk := hid hxk; clear hxk hslw
      generalize hacc : sumI ((ws.take k).map fun x => amount * x / s) = acc at *
      have Hacc := hid hacc; clear hacc
      have hcx2 : ∀ w', wr.grownBy w' (some g1) → True := fun _ _ => trivial
      clear hcx2
      go_wp2_with (at_builtin; go_must (refine wpList_append_lies _ rfl _ _ _ rfl w.heap.size 3 i0 _ 1 8 Try.underlying22 hi hz0 hz1 hz2 rfl (by decide) _ _ _ rfl (Hoo.out.alloc _) ⟨wr.heap.size, 0, none⟩ 1 1 [.int .i64 (amount * x / s)] rfl rfl ?d1 ?d2 (by decide) ?d3 ?d4 ?d5 _ rfl ?_))
      case d1 => exact cells_new wr _ _ _ rfl
      case d2 => simp [Value.oneCell']
      case d3 => unfold maxLen; omega
      case d4 => omega
      case d5 => simp; omega
      intro g1' c1' w2 hoo2 hgo2 hat2 hlt2
      have hg1B := (Hoo.out.lt g1 rfl)
      have hg2B := (Hor.out.lt g2 rfl)
      have hne2 : g1' ≠ g2 := by
        rcases hat2 with h | h
        · intro e; subst e; exact Hne.out (by simpa [Value.ownBlock] using h)
        · omega
      have hor2 : w2.ownsRow w.heap.size 3 1 (.slice (some ⟨g2, 0, none⟩) k c2) k (((ws.take k).map fun x => amount * x % s).flatMap intL.cells) := (Hor.out.alloc _).kept hgo2 (by right; intro h; exact Hne.out (by cases h; rfl))
      have hb2 : Below w.heap.size wr w2 := below_gr (gr_trans (gr_any (gr_alloc (gr0 _) _) _) hgo2 (fun g e => .inl e)) (fun g e => by cases e; exact hg1B.1) (by omega)
      have hg2' : w.grownBy w2 none := gr_below ((below_gr Hg.out (fun _ e => by cases e) (Nat.le_refl _)).trans hb2) (Nat.le_refl _)
      have hslw2 := Hsl.out.keep0 hg2'
      obtain ⟨b', off', x', e', hx', hcx2⟩ := int_at hslw2 k hlt
      cases e'
      obtain rfl : x = x' := by have h := Hxk.out; rw [hx'] at h; cases h; rfl
      clear hx' hcx hslw2
      have hszg2 := hg2'.size
      have Hoo2 := hid hoo2; clear hoo2
      have Hor2 := hid hor2; clear hor2
      have Hg2 := hid hg2'; clear hg2' hb2 hgo2
      have Hne2 := hid hne2; clear hne2
      go_wp2_with (at_builtin; go_must (refine wpList_append_lies _ rfl _ _ _ rfl w.heap.size 3 i0 _ 1 8 Try.underlying22 hi hz0 hz1 hz2 rfl (by decide) _ _ _ rfl (Hor2.out.alloc _) ⟨w2.heap.size, 0, none⟩ 1 1 [.int .i64 (amount * x % s)] rfl rfl ?d1 ?d2 (by decide) ?d3 ?d4 ?d5 _ rfl ?_))
      case d1 => exact cells_new w2 _ _ _ rfl
      case d2 => simp [Value.oneCell']
      case d3 => unfold maxLen; omega
      case d4 => omega
      case d5 => simp; omega
      intro g2' c2' w3 hor3 hgo3 hat3 hlt3
      have hne3 : g1' ≠ g2' := by
        rcases hat3 with h | h
        · intro e; subst e; exact Hne2.out (by simpa [Value.ownBlock] using h.symm)
        · omega
      have hoo3 : w3.ownsRow w.heap.size 3 1 (.slice (some ⟨g1', 0, none⟩) (k + 1) c1') (k + 1) _ := (Hoo2.out.alloc _).kept hgo3 (by right; intro h; exact Hne2.out (by cases h; rfl))
      have hb3 : Below w.heap.size w2 w3 := below_gr (gr_trans (gr_any (gr_alloc (gr0 _) _) _) hgo3 (fun g e => .inl e)) (fun g e => by cases e; exact hg2B.1) (by omega)
      have hg3 : w.grownBy w3 none := gr_below ((below_gr Hg2.out (fun _ e => by cases e) (Nat.le_refl _)).trans hb3) (Nat.le_refl _)
      have Hoo3 := hid hoo3; clear hoo3
      have Hor3 := hid hor3; clear hor3
      have Hg3 := hid hg3; clear hg3 hb3 hgo3
      clear hcx2
      go_wp2
      go_roundw
      case rel =>
        refine ⟨k + 1, g1', g2', c1', c2', by omega, by go_num, rfl, rfl, hne3, ?_, ?_, ?_, Hg3.out⟩
        · rw [Hsumk.out]; go_num
        · have h := Hoo3.out
          rw [take_snoc _ _ _ Hxk.out, List.map_append, List.flatMap_append, List.map_take]
          exact h
        · have h := Hor3.out
          rw [take_snoc _ _ _ Hxk.out, List.map_append, List.flatMap_append, List.map_take]
          exact h
      case measure => simp [intOf]; omega
    · obtain rfl : k = n := by omega
      have hll := Hsl.out.len
      have hqs : (ws.take k).map (fun x => amount * x / s) = quos amount ws := by
        rw [take_len _ _ hll]; unfold quos; rw [Hsum.out]
      have hrs : (ws.take k).map (fun x => amount * x % s) = restsL amount ws := by
        rw [take_len _ _ hll]; unfold restsL; rw [Hsum.out]
      rw [hqs] at Hoo
      rw [hrs] at Hor
      rw [hqs]
      have howo : Ow intL wr w.heap.size (some ⟨g1, 0, none⟩) k (quos amount ws) := Ow.of_own Hoo.out (by unfold quos; rw [List.length_map, hll]) (by unfold maxLen; omega)
      have howr : Ow intL wr w.heap.size (some ⟨g2, 0, none⟩) k (restsL amount ws) := Ow.of_own Hor.out (by unfold restsL; rw [List.length_map, hll]) (by unfold maxLen; omega)
      have hRb : ∀ x ∈ restsL amount ws, -1 ≤ x ∧ x ≤ 1000000 := by
        intro x hx
        unfold restsL at hx
        rw [Hsum.out] at hx
        obtain ⟨y, _, rfl⟩ := List.mem_map.1 hx
        have h1 := Int.emod_nonneg (amount * y) (show s ≠ 0 by omega)
        have h2 := Int.emod_lt_of_pos (amount * y) hs
        omega
      have HRb := hid hRb; clear hRb
      obtain ⟨lft, hlft⟩ := Int.eq_ofNat_of_zero_le hl0
      have hlf : leftOf amount ws = lft := by unfold leftOf; rw [hlft]; rfl
      have Hlf := hid hlf; clear hlf
      rw [hlft]
      have hcap1 : k ≤ c1 := by
        obtain ⟨_, h | ⟨g, cap', cur, hv, hg, hh, hn, hc, hz, ht⟩⟩ := Hoo.out
        · omega
        · simp only [Value.slice.injEq] at hv
          obtain ⟨_, _, rfl⟩ := hv
          omega
      have Howo := hid howo; clear howo
      have Howr := hid howr; clear howr
      clear hqs hrs hlt Hoo Hor hszg hslw
      generalize hp0 : (quos amount ws, restsL amount ws) = p0 at *
      have Hp0 := hid hp0; clear hp0
      go_wp2_with fail
      go_loopw [8] (fun l wr => ∃ j : Nat, j ≤ lft ∧ l = .int .i64 ((lft - j : Nat) : Int) ∧ Ow intL wr w.heap.size (some ⟨g1, 0, none⟩) k (specIter j p0).1 ∧ Ow intL wr w.heap.size (some ⟨g2, 0, none⟩) k (specIter j p0).2 ∧ (∀ x ∈ (specIter j p0).1, 0 ≤ x ∧ x ≤ 1000000000 + j) ∧ (∀ x ∈ (specIter j p0).2, -1 ≤ x ∧ x ≤ 1000000) ∧ w.grownBy wr none) (fun l _ => (intOf l).toNat)
      case atStart =>
        have h := Hp0.out
        subst h
        exact ⟨0, by omega, by simp, Howo.out, Howr.out, fun x hx => by have := Hq.out x hx; omega, HRb.out, Hg.out⟩
      case round =>
        clear Howo Howr HRb Hg
        obtain ⟨j, hj, rfl, hO, hR, hbo, hbr, hg⟩ := hrel
        generalize hp : specIter j p0 = p at *
        have Hp := hid hp; clear hp
        have HO := hid hO; clear hO
        have HR := hid hR; clear hR
        have Hbo := hid hbo; clear hbo
        have Hbr := hid hbr; clear hbr
        have hszg := hg.size
        have Hg := hid hg; clear hg
        by_cases hjl : j < lft
        · have hpos : 0 < lft - j := by omega
          go_wp2_with fail
          go_loopw [11, 12] (fun a i wr2 => ∃ m : Nat, 1 ≤ m ∧ m ≤ k ∧ i = .int .i64 m ∧ a = .int .i64 (amax p.2 m) ∧ wr.grownBy wr2 none) (fun _ i _ => k - (intOf i).toNat)
          case atStart => exact ⟨1, by omega, by omega, rfl, by simp [amax], gr_refl _ _⟩
          case round =>
            obtain ⟨m, hm1, hmk, rfl, rfl, hg2⟩ := hrel
            have HR2 := hid (HR.out.keep0 hg2)
            have Hg2 := hid hg2; clear hg2
            have hal := amax_lt p.2 m (by omega)
            by_cases hmk2 : m < k
            · obtain ⟨b, off, x, e1, hx, cx⟩ := int_at HR2.out.sl m hmk2
              cases e1
              obtain ⟨b, off, y, e1, hy, cy⟩ := int_at HR2.out.sl (amax p.2 m) (by omega)
              cases e1
              simp only [Nat.zero_add] at cx cy
              have Hx := hid hx; clear hx
              have Hy := hid hy; clear hy
              have hstep : Hid (amax p.2 (m + 1) = if y < x then m else amax p.2 m) := hid (by
                show (if p.2.getD (amax p.2 m) 0 < p.2.getD m 0 then m else amax p.2 m) = _
                rw [List.getD_eq_getElem?_getD, List.getD_eq_getElem?_getD, Hx.out, Hy.out]; rfl)
              generalize amax p.2 m = am at *
              by_cases hxy : y < x
              · have hst := hstep.out
                rw [if_pos hxy] at hst
                have Hst := hid hst; clear hst hstep
                go_wp2_with fail
                go_quiet (fail)
                go_wp2
                go_roundw
                case rel => exact ⟨m + 1, by omega, by omega, by go_num, by rw [Hst.out], gr_drewN Hg2.out _⟩
                case measure => simp [intOf]; omega
              · have hst := hstep.out
                rw [if_neg hxy] at hst
                have Hst := hid hst; clear hst hstep
                go_wp2_with fail
                go_quiet (fail)
                go_wp2
                go_roundw
                case rel => exact ⟨m + 1, by omega, by omega, by go_num, by rw [Hst.out], gr_drewN Hg2.out _⟩
                case measure => simp [intOf]; omega
            · obtain rfl : m = k := by omega
              have hlen2 : p.2.length = m := HR2.out.len
              have HO2 := hid (HO.out.keep0 Hg2.out)
              generalize ham : amax p.2 m = am at *
              obtain ⟨b, off, v, e1, hv, hbB, hblt, hf, hc⟩ := HO2.out.at am hal
              cases e1
              have cv : wr.cell? ⟨g1, am, none⟩ = some (.int .i64 v) := by have := hc 0 _ rfl; simpa [intL] using this
              have fv : wr.frozen? ⟨g1, am, none⟩ = false := hf am
              obtain ⟨b, off, y, e1, hy, hbB2, hblt2, hf2, hc2⟩ := HR2.out.at am hal
              cases e1
              have cy : wr.cell? ⟨g2, am, none⟩ = some (.int .i64 y) := by have := hc2 0 _ rfl; simpa [intL] using this
              have fy : wr.frozen? ⟨g2, am, none⟩ = false := hf2 am
              have hvb := Hbo.out v (List.mem_of_getElem? hv)
              have hg12 : ¬ g1 = g2 := Hne.out
              have hg21 : ¬ g2 = g1 := fun e => hg12 e.symm
              have Hst : Hid (specIter (j + 1) p0 = (p.1.set am (v + 1), p.2.set am (-1))) := hid (by
                rw [specIter_succ, Hp.out]
                unfold specStep bump
                rw [hlen2, ham, show ((am : Int)).toNat = am by omega, List.getD_eq_getElem?_getD, hv]; rfl)
              have Hv := hid hv; have Hy := hid hy
              clear hv hy hf hc hf2 hc2 ham hlen2
              have HB := hid (below_gr (gr_trans Hg.out Hg2.out (fun _ e => by cases e)) (fun _ e => by cases e) (Nat.le_refl _) : Below w.heap.size w wr)
              go_wp2
              go_roundw
              case rel =>
                refine ⟨j + 1, by omega, by go_num, ?_, ?_, ?_, ?_, ?_⟩
                · rw [Hst.out]
                  exact (HO2.out.set am 0 v (v + 1) (.int .i64 (v + 1)) Hv.out (by simp [intL]) rfl am (by simp [intL])).keep (gr_setCell (r := some g2) (gr_refl _ _) (.inl rfl) _) (fun _ b off e1 e2 => by cases e1; cases e2; exact hg12 rfl)
                · rw [Hst.out]
                  exact (HR2.out.keep (gr_setCell (r := some g1) (gr_refl _ _) (.inl rfl) _) (fun _ b off e1 e2 => by cases e1; cases e2; exact hg12 rfl)).set am 0 y (-1) (.int .i64 (-1)) Hy.out (by simp [intL]) rfl am (by simp [intL])
                · rw [Hst.out]
                  intro x hx
                  rcases List.mem_or_eq_of_mem_set hx with h | h
                  · have := Hbo.out x h; push_cast; omega
                  · push_cast; omega
                · rw [Hst.out]
                  intro x hx
                  rcases List.mem_or_eq_of_mem_set hx with h | h
                  · exact Hbr.out x h
                  · omega
                · exact gr_below (Below.setCell (Below.setCell HB.out hbB _) hbB2 _) (Nat.le_refl _)
              case measure => simp [intOf]; omega
        · obtain rfl : j = lft := by omega
          go_wp2_with fail
          go_ret
          have h := Hp.out
          subst h
          refine ⟨_, _, rfl, ?_, ?_, Hg.out⟩
          · have h0 := Hp0.out
            subst h0
            unfold specF
            rw [Hlf.out]
            exact HO.out
          · exact hcap1

end Go.Proofs.Ytecboohippbliaa
