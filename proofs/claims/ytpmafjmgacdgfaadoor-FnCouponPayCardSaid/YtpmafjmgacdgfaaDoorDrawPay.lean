/- The generator of CouponPay's arguments: it ends. -/
import Derived.Test.YtpmafjmgacdgfaaDoorRows
import Derived.Test.YtpmafjmgacdgfaaDoorBase
import Derived.Test.YtpmafjmgacdgfaaDoorDrawDay
import Derived.Test.YtpmafjmgacdgfaaDoorDrawHold
import Derived.Test.YtpmafjmgacdgfaaDoorSpecAfter
namespace Go.Proofs.YtpmafjmgacdgfaaDoor
open Go.RowKit

set_option maxRecDepth 100000 in
set_option maxHeartbeats 2000000 in
theorem DrawCouponPay_any (a : Option Addr) (n cap : Nat) (xs : List Int) (w : World) (hs : Sl u8L w a n xs) (hcap : n ≤ cap) (hx : ∀ x ∈ xs, 0 ≤ x ∧ x ≤ 255) :
    Calls Tryd.prog 47 #[.slice a n cap] w fun e w' => ∃ (b : Bond) (ha : Option Addr) (hn hc : Nat) (hs : List Int) (day : Int), e = .returned (.tuple #[.agg #[.int .i64 b.start, .int .i64 b.stop, .int .i64 b.months, .int .i64 b.rate], .slice ha hn hc, .int .i64 day]) ∧ BdB b ∧ Sl intL w' ha hn hs ∧ hn ≤ hc ∧ hn ≤ 10 ∧ (∀ x ∈ hs, -1 ≤ x ∧ x ≤ 10000) ∧ (-3000000 ≤ day ∧ day ≤ 3000000) ∧ w.grownBy w' none := by
  have hs2 := hs.keep0 (gr_alloc (gr0 w) (Obj.cells #[.int .i64 0, .int .i64 0, .int .i64 0, .int .i64 0] 25))
  have Hs := hid hs2
  clear hs hs2
  go_enter Tryd.func47, Tryd.ntmps47
  go_wp2_with fail
  refine (newReader_any a n cap xs _ Hs.out hcap hx).mono ?_
  rintro e w1 ⟨rb, rfl, hrb, h1, hg⟩
  have Hb1 := hid (blk_keep (heap_alloc_new w (Obj.cells #[.int .i64 0, .int .i64 0, .int .i64 0, .int .i64 0] 25)) hg (by simp))
  have Hg1 := hid (gr_trans0 (gr_alloc (gr0 _) _) hg)
  have hrb2 : w.heap.size < rb := by simp at hrb; omega
  clear hg hrb
  go_wp2_with fail
  refine (bondDay_any rb 0 w1 h1 (by omega)).mono ?_
  rintro e w2 ⟨b, day, rfl, hB, ⟨hd0, hd1⟩, h2, hg⟩
  have Hb2 := hid (blk_alloc (blk_keep Hb1.out hg (by simp; omega)) (.cells #[.int .i64 b.start, .int .i64 b.stop, .int .i64 b.months, .int .i64 b.rate] 25))
  have Hg2 := hid (gr_alloc (gr_own Hg1.out hg (fun k e => by cases e; omega)) (.cells #[.int .i64 b.start, .int .i64 b.stop, .int .i64 b.months, .int .i64 b.rate] 25))
  have Hd2 := hid (heap_alloc_new w2 (.cells #[.int .i64 b.start, .int .i64 b.stop, .int .i64 b.months, .int .i64 b.rate] 25))
  have h3 := h2.keep0 (gr_alloc (gr0 w2) (.cells #[.int .i64 b.start, .int .i64 b.stop, .int .i64 b.months, .int .i64 b.rate] 25))
  have HB := hid hB
  have hlt2 := h2.lt
  clear hg h1 h2 hB
  go_wp2_with fail
  refine (anyHolders_any rb _ _ h3 (by omega)).mono ?_
  rintro e w3 ⟨ha, hn, hc, hs, rfl, hh, hhc, hh10, hhb, h4, hg⟩
  have Hh3 := hid hh.sl
  have Hhb := hid hhb
  have Hb3 := hid (blk_keep Hb2.out hg (by simp; omega))
  have Hd3 := hid (blk_keep Hd2.out hg (by simp; omega))
  have Hg3 := hid (gr_own Hg2.out hg (fun k e => by cases e; omega))
  have hDw : w.heap.size < w2.heap.size := by omega
  have Hne := hid (show 0 < hn → ∀ b' off, ha = some ⟨b', off, none⟩ → some w.heap.size ≠ some b' from fun h0 b' off e e2 => by
    obtain ⟨b2, o2, e3, hge, _⟩ := hh.mem h0
    rw [e] at e3; cases e3; cases e2
    simp at hge; omega)
  have Hner := hid (show 0 < hn → ∀ b' off, ha = some ⟨b', off, none⟩ → some rb ≠ some b' from fun h0 b' off e e2 => by
    obtain ⟨b2, o2, e3, hge, _⟩ := hh.mem h0
    rw [e] at e3; cases e3; cases e2
    simp at hge; omega)
  obtain ⟨D, hD⟩ : ∃ D, D = w2.heap.size := ⟨_, rfl⟩
  rw [← hD] at Hd3 hDw hlt2
  have n1 : ¬ D = w.heap.size := by omega
  have n2 : ¬ w.heap.size = D := by omega
  have c0 := blk_cell Hd3.out 0 _ rfl
  have c1 := blk_cell Hd3.out 1 _ rfl
  have c2 := blk_cell Hd3.out 2 _ rfl
  have c3 := blk_cell Hd3.out 3 _ rfl
  have HD := hid hD
  clear hg hh hhb h3 hD Hd2
  rw [← HD.out]
  go_wp2_with fail
  refine (specFlowsOf_any b w3).mono ?_
  rintro e w4 ⟨fa, fn, fc, rfl, ho, _, hg⟩
  have Hh4 := hid (Hh3.out.keep0 hg)
  have Hb4 := hid (blk_keep Hb3.out hg (by simp))
  have Hd4 := hid (blk_keep Hd3.out hg (by simp))
  have Hg4 := hid (gr_trans0 Hg3.out hg)
  have h5 := h4.keep0 hg
  have Hf4 := hid ho.sl
  have hfr : w3.heap.size ≤ w4.heap.size := gr_le hg
  have hrl := h4.lt
  have Hnf := hid (show 0 < fn → ∀ b' off, fa = some ⟨b', off, none⟩ → some rb ≠ some b' from fun h0 b' off e e2 => by
    obtain ⟨b2, o2, e3, hge, _⟩ := ho.mem h0
    rw [e] at e3; cases e3; cases e2
    omega)
  have Hfd := hid (show ∀ f ∈ flowsF b, 0 ≤ f.day ∧ f.day ≤ 36524 from fun f hf => by
    cases hb : bondB b with
    | false => rw [flowsF_no hb] at hf; cases hf
    | true =>
      rw [flowsF_ok hb] at hf
      have hok := ok_bond hb
      have := flows_bd hok f hf
      have := hok.span.s0; have := hok.span.e1
      omega)
  have hfn : fn ≤ 40 := by
    have h1 : (flowsF b).length ≤ 40 := by
      unfold flowsF
      split
      · rename_i h; rw [flows_len]; have := (ok_bond h).span.q2; unfold persF; rw [sched_len]; exact this
      · simp
    have := ho.len; omega
  clear hg ho h4 c0 c1 c2 c3
  by_cases hf0 : fn = 0
  · subst hf0
    clear h5
    have hd9 := Hd4.out
    have hb9 := Hb4.out
    have e0 := blk_cell hd9 0 _ rfl
    have e1 := blk_cell hd9 1 _ rfl
    have e2 := blk_cell hd9 2 _ rfl
    have e3 := blk_cell hd9 3 _ rfl
    have f0 := blk_cell hb9 0 _ rfl
    have f1 := blk_cell hb9 1 _ rfl
    have f2 := blk_cell hb9 2 _ rfl
    have f3 := blk_cell hb9 3 _ rfl
    have k0 := blk_frozen hb9 0
    have k1 := blk_frozen hb9 1
    have k2 := blk_frozen hb9 2
    have k3 := blk_frozen hb9 3
    clear hd9 hb9
    go_wp2_with fail
    refine bodyPost_ret (v := .tuple #[.agg #[.int .i64 b.start, .int .i64 b.stop, .int .i64 b.months, .int .i64 b.rate], .slice ha hn hc, .int .i64 day]) (by simp [results, Tryd.results47, go_sem, *]) rfl ⟨b, ha, hn, hc, hs, _, rfl, HB.out, ?_, hhc, hh10, Hhb.out, ⟨by omega, by omega⟩, ?_⟩
    · exact (((Hh4.out.keep (gr_setCell (r := some w.heap.size) (p := ⟨w.heap.size, 0, none⟩) (gr_refl _ _) (.inl rfl) _) Hne.out).keep (gr_setCell (r := some w.heap.size) (p := ⟨w.heap.size, 1, none⟩) (gr_refl _ _) (.inl rfl) _) Hne.out).keep (gr_setCell (r := some w.heap.size) (p := ⟨w.heap.size, 2, none⟩) (gr_refl _ _) (.inl rfl) _) Hne.out).keep (gr_setCell (r := some w.heap.size) (p := ⟨w.heap.size, 3, none⟩) (gr_refl _ _) (.inl rfl) _) Hne.out
    · exact gr_setCell (gr_setCell (gr_setCell (gr_setCell Hg4.out (.inr (Nat.le_refl _)) _) (.inr (Nat.le_refl _)) _) (.inr (Nat.le_refl _)) _) (.inr (Nat.le_refl _)) _
  · have hfp : (0 : Int) < fn := by omega
    go_wp2_with fail
    refine (pick_any rb _ 4 _ h5 (by omega)).mono ?_
    rintro e w5 ⟨k, rfl, hk0, _, h6, hg⟩
    have Hh5 := hid (Hh4.out.keep hg Hner.out)
    have Hf5 := hid (Hf4.out.keep hg Hnf.out)
    have Hb5 := hid (blk_keep Hb4.out hg (by simp; omega))
    have Hd5 := hid (blk_keep Hd4.out hg (by simp; omega))
    have Hg5 := hid (gr_own Hg4.out hg (fun k e => by cases e; omega))
    clear hg h5
    by_cases hkz : 0 < k
    · have hkd : decide (0 < k) = true := by simpa using hkz
      clear hkz
      go_wp2_with fail
      refine (pick_any rb _ fn _ h6 (by omega)).mono ?_
      rintro e w6 ⟨j, rfl, hj0, hj1, h7, hg⟩
      have hjn : j < fn := by omega
      obtain ⟨j, rfl⟩ := Int.eq_ofNat_of_zero_le hj0
      have Hh6 := hid (Hh5.out.keep hg Hner.out)
      have Hf6 := Hf5.out.keep hg Hnf.out
      have Hb6 := hid (blk_keep Hb5.out hg (by simp; omega))
      have Hd6 := hid (blk_keep Hd5.out hg (by simp; omega))
      have Hg6 := hid (gr_own Hg5.out hg (fun k e => by cases e; omega))
      obtain ⟨lb, lo, f, rfl, hf, l0, l1⟩ := flow_at Hf6 j (by omega)
      have hfd := Hfd.out f (List.mem_of_getElem? hf)
      obtain ⟨hfd0, hfd1⟩ := hfd
      clear hg h6 h7 hj1 hf Hf6
      have hd9 := Hd6.out
      have hb9 := Hb6.out
      have e0 := blk_cell hd9 0 _ rfl
      have e1 := blk_cell hd9 1 _ rfl
      have e2 := blk_cell hd9 2 _ rfl
      have e3 := blk_cell hd9 3 _ rfl
      have f0 := blk_cell hb9 0 _ rfl
      have f1 := blk_cell hb9 1 _ rfl
      have f2 := blk_cell hb9 2 _ rfl
      have f3 := blk_cell hb9 3 _ rfl
      have k0 := blk_frozen hb9 0
      have k1 := blk_frozen hb9 1
      have k2 := blk_frozen hb9 2
      have k3 := blk_frozen hb9 3
      clear hd9 hb9
      go_wp2_with fail
      refine bodyPost_ret (v := .tuple #[.agg #[.int .i64 b.start, .int .i64 b.stop, .int .i64 b.months, .int .i64 b.rate], .slice ha hn hc, .int .i64 f.day]) (by simp [results, Tryd.results47, go_sem, *]) rfl ⟨b, ha, hn, hc, hs, _, rfl, HB.out, ?_, hhc, hh10, Hhb.out, ⟨by omega, by omega⟩, ?_⟩
      · exact (((Hh6.out.keep (gr_setCell (r := some w.heap.size) (p := ⟨w.heap.size, 0, none⟩) (gr_refl _ _) (.inl rfl) _) Hne.out).keep (gr_setCell (r := some w.heap.size) (p := ⟨w.heap.size, 1, none⟩) (gr_refl _ _) (.inl rfl) _) Hne.out).keep (gr_setCell (r := some w.heap.size) (p := ⟨w.heap.size, 2, none⟩) (gr_refl _ _) (.inl rfl) _) Hne.out).keep (gr_setCell (r := some w.heap.size) (p := ⟨w.heap.size, 3, none⟩) (gr_refl _ _) (.inl rfl) _) Hne.out
      · exact gr_setCell (gr_setCell (gr_setCell (gr_setCell Hg6.out (.inr (Nat.le_refl _)) _) (.inr (Nat.le_refl _)) _) (.inr (Nat.le_refl _)) _) (.inr (Nat.le_refl _)) _
    · have hkd : decide (0 < k) = false := by simpa using hkz
      clear hkz h6
      have hd9 := Hd5.out
      have hb9 := Hb5.out
      have e0 := blk_cell hd9 0 _ rfl
      have e1 := blk_cell hd9 1 _ rfl
      have e2 := blk_cell hd9 2 _ rfl
      have e3 := blk_cell hd9 3 _ rfl
      have f0 := blk_cell hb9 0 _ rfl
      have f1 := blk_cell hb9 1 _ rfl
      have f2 := blk_cell hb9 2 _ rfl
      have f3 := blk_cell hb9 3 _ rfl
      have k0 := blk_frozen hb9 0
      have k1 := blk_frozen hb9 1
      have k2 := blk_frozen hb9 2
      have k3 := blk_frozen hb9 3
      clear hd9 hb9
      go_wp2_with fail
      refine bodyPost_ret (v := .tuple #[.agg #[.int .i64 b.start, .int .i64 b.stop, .int .i64 b.months, .int .i64 b.rate], .slice ha hn hc, .int .i64 day]) (by simp [results, Tryd.results47, go_sem, *]) rfl ⟨b, ha, hn, hc, hs, _, rfl, HB.out, ?_, hhc, hh10, Hhb.out, ⟨by omega, by omega⟩, ?_⟩
      · exact (((Hh5.out.keep (gr_setCell (r := some w.heap.size) (p := ⟨w.heap.size, 0, none⟩) (gr_refl _ _) (.inl rfl) _) Hne.out).keep (gr_setCell (r := some w.heap.size) (p := ⟨w.heap.size, 1, none⟩) (gr_refl _ _) (.inl rfl) _) Hne.out).keep (gr_setCell (r := some w.heap.size) (p := ⟨w.heap.size, 2, none⟩) (gr_refl _ _) (.inl rfl) _) Hne.out).keep (gr_setCell (r := some w.heap.size) (p := ⟨w.heap.size, 3, none⟩) (gr_refl _ _) (.inl rfl) _) Hne.out
      · exact gr_setCell (gr_setCell (gr_setCell (gr_setCell Hg5.out (.inr (Nat.le_refl _)) _) (.inr (Nat.le_refl _)) _) (.inr (Nat.le_refl _)) _) (.inr (Nat.le_refl _)) _

end Go.Proofs.YtpmafjmgacdgfaaDoor
