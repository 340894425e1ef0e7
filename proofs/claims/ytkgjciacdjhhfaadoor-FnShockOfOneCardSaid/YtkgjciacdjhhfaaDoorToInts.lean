/- Copies of lists of ints. -/
import Derived.Test.YtkgjciacdjhhfaaDoorRows
import Derived.Test.YtkgjciacdjhhfaaDoorBase
import Derived.Test.YtkgjciacdjhhfaaDoorInts
import Derived.Deep.QuietTactic
import Derived.BigQuiet
import Derived.Laws.AppendOwnNone
namespace Go.Proofs.YtkgjciacdjhhfaaDoor
open Go.RowKit

theorem infoInt : (Tryd.prog.info? 3).map (fun i => (i.zero, i.size, i.bytes)) = some (some (.int .i64 0), 1, 8) := by kernel_rfl

set_option maxRecDepth 100000 in
set_option maxHeartbeats 400000 in
theorem toIntS_any (a : Option Addr) (n cap : Nat) (xs : List Int) (w : World) (hs : Sl intL w a n xs) (hn : n ≤ 1048576) :
    Calls Tryd.prog 27 #[.slice a n cap] w fun e w' => ∃ a', e = .returned (.slice a' n n) ∧ Ow intL w' w.heap.size a' n xs ∧ w.grownBy w' none := by
  obtain ⟨i0, hi, hz0, hz1, hz2⟩ := info_parts infoInt
  have Hs := hid hs; clear hs
  go_enter Tryd.func27, Tryd.ntmps27
  go_wp2_with (at_make; refine wpList_make_full _ rfl _ _ 33 rfl w.heap.size 3 i0 _ 1 Tryd.underlying33 hi hz0 hz1 _ _ _ _ n rfl rfl rfl rfl ?c1 ?c2 ?c3 ?_)
  case c1 => rw [hz2]; omega
  case c2 => unfold maxLen; omega
  case c3 => omega
  intro w1 hown hg
  have how : Ow intL w1 w.heap.size (some ⟨w.heap.size, 0, none⟩) n (List.replicate n 0) := Ow.of_made (L := intL) (x0 := 0) (by simpa [intL] using hown) (by unfold maxLen; omega)
  clear hown
  have How := hid how; clear how
  have Hg := hid hg; clear hg
  go_wp2_with fail
  go_loopw [4] (fun i wr => ∃ k : Nat, k ≤ n ∧ i = .int .i64 k ∧ Ow intL wr w.heap.size (some ⟨w.heap.size, 0, none⟩) n (xs.take k ++ List.replicate (n - k) 0) ∧ w.grownBy wr none) (fun i _ => n - (intOf i).toNat)
  case atStart => exact ⟨0, by omega, rfl, by simpa using How.out, Hg.out⟩
  case round =>
    clear How Hg
    obtain ⟨k, hk, rfl, how, hg⟩ := hrel
    by_cases hlt : k < n
    · obtain ⟨b, off, x, rfl, hxk, h0⟩ := int_at (Hs.out.keep0 hg) k hlt
      have Hxk := hid hxk; clear hxk
      have Hg := hid hg; clear hg
      obtain ⟨b2, off2, z, e2, hz, _, _, hf, hc⟩ := how.at k hlt
      simp only [Option.some.injEq, Addr.mk.injEq, and_true] at e2
      obtain ⟨rfl, rfl⟩ := e2
      have c0 : wr.cell? ⟨w.heap.size, k, none⟩ = some (.int .i64 z) := by have := hc 0 _ rfl; simpa [intL] using this
      have f0 : wr.frozen? ⟨w.heap.size, k, none⟩ = false := hf _
      have Hz := hid hz; clear hc hf hz
      have How := hid how; clear how
      go_wp2
      go_roundw
      case rel =>
        refine ⟨k + 1, by omega, by go_num, ?_, gr_setCell Hg.out (.inr (Nat.le_refl _)) _⟩
        have o0 := How.out.set k 0 z x (.int .i64 x) Hz.out (by simp [intL]) rfl k (by simp [intL])
        rw [fill_step xs n k x 0 Hxk.out Hs.out.len] at o0
        exact o0
      case measure => simp [intOf]; omega
    · have Hg := hid hg; clear hg
      have How := hid how; clear how
      go_wp2
      go_ret
      obtain rfl : k = n := by omega
      exact ⟨_, rfl, by have := How.out; rwa [fill_end _ _ _ Hs.out.len] at this, Hg.out⟩

theorem copyInts_any (a : Option Addr) (n cap : Nat) (xs : List Int) (w : World) (hs : Sl intL w a n xs) (ha : (∃ ad, a = some ad) ∨ (a = none ∧ n = 0 ∧ cap = 0)) (hn : n ≤ 1048576) :
    Calls Tryd.prog 74 #[.slice a n cap] w fun e w' => ∃ a' cap', e = .returned (.slice (some a') n cap') ∧ w'.ownsRow w.heap.size 3 1 (.slice (some a') n cap') n (xs.flatMap intL.cells) ∧ w.grownBy w' none := by
  obtain ⟨i0, hi, hz0, hz1, hz2⟩ := info_parts infoInt
  have Hs := hid hs; clear hs
  have hown : (w.alloc (.cells #[] 3)).ownsRow w.heap.size 3 1 (.slice (some ⟨w.heap.size, 0, none⟩) 0 0) 0 (([] : List Int).flatMap intL.cells) := World.ownsRow_made w #[] 0 (Nat.le_refl _) (by decide) rfl
  have Hown := hid hown; clear hown
  rcases ha with ⟨ad, rfl⟩ | ⟨rfl, rfl, rfl⟩
  · have Hcell : Hid (∀ j u, (xs.flatMap intL.cells)[j]? = some u → (w.alloc (.cells #[] 3)).cell? (ad.add j) = some u) := hid (by
      intro j u hj
      have hjl := lt_of_at hj
      rw [flat_len, Hs.out.len] at hjl
      have hj2 : j < n := by simpa [intL] using hjl
      obtain ⟨b, off, x, e, hx, hc⟩ := int_at Hs.out j hj2
      have hf := flat_at intL xs j x hx 0 (.int .i64 x) rfl
      have e1 : j * intL.sz + 0 = j := by simp [intL]
      rw [e1, hj] at hf
      cases hf
      cases e
      have : (⟨b, off, none⟩ : Addr).add j = ⟨b, off + j, none⟩ := by unfold Addr.add; split <;> simp_all
      rw [this]
      exact (gr_alloc (gr0 w) _).cell hc (by simp))
    have Hl : Hid ((xs.flatMap intL.cells).length = n * 1) := hid (by rw [flat_len, Hs.out.len]; rfl)
    have H1 : Hid (∀ u ∈ xs.flatMap intL.cells, u.oneCell' = true) := hid (by
      intro u hu
      obtain ⟨x, _, hx⟩ := List.mem_flatMap.1 hu
      simp only [intL, List.mem_singleton] at hx
      subst hx; rfl)
    go_enter Tryd.func74, Tryd.ntmps74
    go_wp2_with (at_builtin; go_must (refine wpList_append_own _ rfl _ _ 33 rfl w.heap.size 3 i0 _ 1 8 Tryd.underlying33 hi hz0 hz1 hz2 rfl (by decide) _ _ _ rfl Hown.out ad n cap (xs.flatMap intL.cells) rfl Hl.out Hcell.out H1.out ?c3 ?c4 ?c5 ?_))
    case c3 => unfold maxLen; omega
    case c4 => omega
    case c5 => simp
    intro v' w2 hown2 hg2 hv
    have hne : v' ≠ .slice none 0 0 := hv
    obtain ⟨a', cap', rfl, hc⟩ := own_form hown2
    have Hown2 := hid hown2; clear hown2
    have Hg2 := hid (gr_append (gr_alloc (gr0 w) _) Hown.out (Nat.le_refl _) hg2)
    clear hg2 hv
    go_wp2_with fail
    go_ret
    cases a' with
    | none =>
      exfalso
      rcases Hown2.out.2 with ⟨e, h0⟩ | ⟨g, _, _, e, _⟩
      · simp only [Value.slice.injEq] at e
        exact hne (by simp [e])
      · simp at e
    | some a' => exact ⟨a', cap', rfl, Hown2.out, Hg2.out⟩
  · obtain rfl : xs = [] := List.eq_nil_of_length_eq_zero Hs.out.len
    go_enter Tryd.func74, Tryd.ntmps74
    go_wp2_with (at_builtin; go_must (refine wpList_append_own_none rfl _ _ 33 rfl w.heap.size 3 i0 1 Tryd.underlying33 hi _ _ _ rfl Hown.out rfl ?_))
    go_wp2_with fail
    go_ret
    exact ⟨_, 0, rfl, Hown.out, gr_alloc (gr0 w) _⟩

end Go.Proofs.YtkgjciacdjhhfaaDoor
