/- What CapWeights needs of the library: Clone, Clip, Repeat of lists of ints. -/
import Derived.Test.YtecboohippbliaaRows
import Derived.Test.YtecboohippbliaaBase
import Derived.Test.YtecboohippbliaaDrawInts
import Derived.Laws.CopyOwn
import Derived.Deep.RegionHeld
import Derived.IntWalk
namespace Go.Proofs.Ytecboohippbliaa
open Go.RowKit

def boolL : Lay Bool := ⟨1, fun b => [.bool b], fun _ => rfl⟩

theorem bool_at {w : World} {a : Option Addr} {n : Nat} {xs : List Bool} (h : Sl boolL w a n xs) (k : Nat) (hk : k < n) :
    ∃ b off x, a = some ⟨b, off, none⟩ ∧ xs[k]? = some x ∧ w.cell? ⟨b, off + k, none⟩ = some (.bool x) := by
  obtain ⟨b, off, x, e, hx, _, hc⟩ := h.at k hk
  exact ⟨b, off, x, e, hx, by have := hc 0 _ rfl; simpa [boolL] using this⟩

set_option maxRecDepth 100000 in
set_option maxHeartbeats 400000 in
theorem CloneInts_any (ad : Addr) (n cap : Nat) (xs : List Int) (w : World) (hs : Sl intL w (some ad) n xs) (hn : n ≤ 1048576) :
    Calls Try.prog 60 #[.slice (some ad) n cap] w fun e w' => ∃ a' cap', e = .returned (.slice (some a') n cap') ∧ w'.ownsRow w.heap.size 3 1 (.slice (some a') n cap') n (xs.flatMap intL.cells) ∧ w.grownBy w' none := by
  obtain ⟨i0, hi, hz0, hz1, hz2⟩ := info_parts infoInt
  have Hs := hid hs; clear hs
  have hown : (w.alloc (.cells #[] 3)).ownsRow w.heap.size 3 1 (.slice (some ⟨w.heap.size, 0, none⟩) 0 0) 0 (([] : List Int).flatMap intL.cells) := World.ownsRow_made w #[] 0 (Nat.le_refl _) (by decide) rfl
  have Hown := hid hown; clear hown
  have Hcell : Hid (∀ j u, (xs.flatMap intL.cells)[j]? = some u → (w.alloc (.cells #[] 3)).cell? (ad.add j) = some u) := hid (by
    intro j u hj
    have hjl := lt_of_at hj
    rw [flat_len, Hs.out.len] at hjl
    have hj2 : j < n := by simpa [intL] using hjl
    obtain ⟨b, off, x, e, hx, hc⟩ := int_at Hs.out j hj2
    have hf := flat_at intL xs j x hx 0 (.int .i64 x) rfl
    have e1 : j * intL.sz + 0 = j := by simp [intL]
    rw [e1, hj] at hf
    cases hf
    cases e
    have : (⟨b, off, none⟩ : Addr).add j = ⟨b, off + j, none⟩ := by unfold Addr.add; split <;> simp_all
    rw [this]
    exact (gr_alloc (gr0 w) _).cell hc (by simp))
  have Hl : Hid ((xs.flatMap intL.cells).length = n * 1) := hid (by rw [flat_len, Hs.out.len]; rfl)
  have H1 : Hid (∀ u ∈ xs.flatMap intL.cells, u.oneCell' = true) := hid (by
    intro u hu
    obtain ⟨x, _, hx⟩ := List.mem_flatMap.1 hu
    simp only [intL, List.mem_singleton] at hx
    subst hx; rfl)
  have he : ∀ w' : World, (binOp .eql 22 (.slice (some ad) n cap) (.slice none 0 0)).run Try.prog w' = .ok (.bool false) w' := fun _ => rfl
  go_enter Try.func60, Try.ntmps60
  go_wp2_with (at_builtin; go_must (refine wpList_append_own _ rfl _ _ 22 rfl w.heap.size 3 i0 _ 1 8 Try.underlying22 hi hz0 hz1 hz2 rfl (by decide) _ _ _ rfl Hown.out ad n cap (xs.flatMap intL.cells) rfl Hl.out Hcell.out H1.out ?c3 ?c4 ?c5 ?_))
  case c3 => unfold maxLen; omega
  case c4 => omega
  case c5 => simp
  intro v' w2 hown2 hg2 hv
  have hne : v' ≠ .slice none 0 0 := hv
  obtain ⟨a', cap', rfl, hc⟩ := own_form hown2
  have Hown2 := hid hown2; clear hown2
  have Hg2 := hid (gr_append (gr_alloc (gr0 w) _) Hown.out (Nat.le_refl _) hg2)
  clear hg2 hv
  go_wp2_with fail
  go_ret
  cases a' with
  | none =>
    exfalso
    rcases Hown2.out.2 with ⟨e, h0⟩ | ⟨g, _, _, e, _⟩
    · simp only [Value.slice.injEq] at e
      exact hne (by simp [e])
    · simp at e
  | some a' => exact ⟨a', cap', rfl, Hown2.out, Hg2.out⟩

theorem ClipInts_any (b off n cap : Nat) (w : World) (hc : n ≤ cap) (hm : cap ≤ maxLen) :
    Calls Try.prog 61 #[.slice (some ⟨b, off, none⟩) n cap] w fun e w' => e = .returned (.slice (some ⟨b, off, none⟩) n n) ∧ w = w' := by
  unfold maxLen at hm
  go_enter Try.func61, Try.ntmps61
  go_wp2
  go_ret
  exact ⟨rfl, rfl⟩

set_option maxRecDepth 100000 in
set_option maxHeartbeats 400000 in
theorem Mul64_any (q : Nat) (hq : 1 ≤ q) (hq8 : q ≤ 8) (w : World) :
    Calls Try.prog 87 #[.int .u64 1, .int .u64 q] w fun e w' => e = .returned (.tuple #[.int .u64 0, .int .u64 q]) ∧ w = w' := by
  have h : q = 1 ∨ q = 2 ∨ q = 3 ∨ q = 4 ∨ q = 5 ∨ q = 6 ∨ q = 7 ∨ q = 8 := by omega
  clear hq hq8
  rcases h with rfl | rfl | rfl | rfl | rfl | rfl | rfl | rfl
  all_goals
    go_enter Try.func87, Try.ntmps87
    go_wp2
    go_ret2
    exact ⟨rfl, rfl⟩

set_option maxRecDepth 100000 in
set_option maxHeartbeats 400000 in
theorem Mul_any (q : Nat) (hq : 1 ≤ q) (hq8 : q ≤ 8) (w : World) :
    Calls Try.prog 78 #[.int .u64 1, .int .u64 q] w fun e w' => e = .returned (.tuple #[.int .u64 0, .int .u64 q]) ∧ w = w' := by
  go_enter Try.func78, Try.ntmps78
  go_wp2_with fail
  refine (Mul64_any q hq hq8 w).mono ?_
  rintro e w' ⟨rfl, rfl⟩
  go_wp2_with fail
  go_ret2
  exact ⟨rfl, rfl⟩

/-- A row of q cells: k ones, the rest zeros. -/
def ones (q k : Nat) : List Value := List.replicate k (Value.int .i64 1) ++ List.replicate (q - k) (Value.int .i64 0)
def someOnes (c : Nat) : List Value := List.replicate c (Value.int .i64 1)

theorem repl_flat (q : Nat) (z : Int) : (List.replicate q z).flatMap intL.cells = List.replicate q (Value.int .i64 z) := by
  induction q with
  | zero => rfl
  | succ q ih => simp only [List.replicate_succ, List.flatMap_cons, ih]; rfl
theorem ones_len (q k : Nat) (h : k ≤ q) : (ones q k).length = q := by unfold ones; simp; omega
theorem ones_splice (q k c : Nat) (h : k + c ≤ q) : splice (ones q k) k (someOnes c) = ones q (k + c) := by
  unfold splice ones someOnes
  rw [List.take_left' (by simp), List.length_replicate, List.drop_append, List.drop_eq_nil_of_le (by simp), List.drop_replicate, List.length_replicate, List.nil_append, ← List.append_assoc, List.replicate_append_replicate]
  congr 2
  omega
theorem someOnes_one (c : Nat) : ∀ v ∈ someOnes c, v.oneCell' = true := by
  intro v hv
  rw [List.eq_of_mem_replicate hv]; rfl
theorem ones_cell {w : World} {g q k c : Nat} {t : TypeId} (h : w.heap[g]? = some (.cells (ones q k).toArray t (0, 0))) (hc : c ≤ k) : ∀ j v, (someOnes c)[j]? = some v → w.cell? ((⟨g, 0, none⟩ : Addr).add j) = some v := by
  intro j v hj
  have hjc : j < c := by have := lt_of_at hj; unfold someOnes at this; rwa [List.length_replicate] at this
  have e : (⟨g, 0, none⟩ : Addr).add j = ⟨g, j, none⟩ := by unfold Addr.add; split <;> simp_all
  rw [e]
  refine blk_cell h j v ?_
  unfold someOnes at hj
  unfold ones
  rw [List.getElem?_replicate, if_pos hjc] at hj
  rw [List.getElem?_toArray, List.getElem?_append_left (by simp; omega), List.getElem?_replicate, if_pos (by omega)]
  exact hj

set_option maxRecDepth 100000 in
set_option maxHeartbeats 1000000 in
theorem RepeatInts_any (ad : Addr) (cap q : Nat) (w : World) (hs : w.cell? ad = some (.int .i64 1)) (hq : 1 ≤ q) (hq8 : q ≤ 8) :
    Calls Try.prog 62 #[.slice (some ad) 1 cap, .int .i64 q] w fun e w' => ∃ g, e = .returned (.slice (some ⟨g, 0, none⟩) q q) ∧ Ow intL w' w.heap.size (some ⟨g, 0, none⟩) q (List.replicate q 1) ∧ w.grownBy w' none := by
  obtain ⟨i0, hi, hz0, hz1, hz2⟩ := info_parts infoInt
  have Hs := hid hs; clear hs
  go_enter Try.func62, Try.ntmps62
  go_wp2_with fail
  refine (Mul_any q hq hq8 _).mono ?_
  rintro e w' ⟨rfl, rfl⟩
  go_wp2_with (at_make; refine wpList_make_full _ rfl _ _ 22 rfl w.heap.size 3 i0 _ 1 Try.underlying22 hi hz0 hz1 _ _ _ _ q rfl rfl ?c01 ?c02 ?c1 ?c2 ?c3 ?_)
  case c01 => rfl
  case c02 => rfl
  case c1 => rw [hz2]; omega
  case c2 => unfold maxLen; omega
  case c3 => omega
  intro w1 hown hg
  have hh1 : w1.heap[w.heap.size]? = some (.cells (ones q 0).toArray 3 (0, 0)) := by
    obtain ⟨_, h | ⟨g, cap', cur, hv, hB, hh, hn, hc, hz, ht⟩⟩ := hown
    · cases h.1
    · simp only [Value.slice.injEq, Option.some.injEq, Addr.mk.injEq, and_true, true_and] at hv
      obtain ⟨rfl, rfl⟩ := hv
      have hf := made_flat intL 0 q
      have e : cur = (ones q 0).toArray := by
        apply Array.ext'
        rw [List.toList_toArray]
        have h2 : cur.toList.take (q * 1) = cur.toList := List.take_of_length_le (by simp; omega)
        rw [h2] at ht
        rw [ht]
        have e1 : (madeCells #[Value.int .i64 0] q).toList = (List.replicate q (0 : Int)).flatMap intL.cells := by simpa [intL] using hf
        rw [e1]
        unfold ones
        simp only [List.replicate_zero, List.nil_append, Nat.sub_zero]
        exact repl_flat q 0
      rw [← e]; exact hh
  have Hh1 := hid hh1; clear hh1 hown
  have Hb1 := hid (below_of_gr hg); clear hg
  have Hfit := hid (ones_len q 0 (by omega))
  have Hsp := hid (ones_splice q 0 1 (by omega))
  have Hcell : Hid (∀ j v, (someOnes 1)[j]? = some v → w1.cell? (ad.add j) = some v) := hid (by
    intro j v hj
    have hj0 : j = 0 := by have := lt_of_at hj; unfold someOnes at this; simpa using this
    subst hj0
    have e : ad.add 0 = ad := by
      cases ad; unfold Addr.add; simp
    rw [e]
    obtain rfl : Value.int .i64 1 = v := by simpa [someOnes] using hj
    rw [Hb1.out.cell (World.block_lt_of_cell? w ad Hs.out)]
    exact Hs.out)
  go_wp2_with (with_reducible refine wpList_copy_splice rfl (.tmp 31) (.tmp 32) 22 22 rfl 3 Try.underlying22 (by kernel_rfl) _ _ _ _ _ _ rfl rfl w.heap.size 0 (ones q 0) 3 Hh1.out (someOnes 1) ?e1 ?e2 ?e3 (someOnes_one 1) w.heap.size w Hb1.out (Nat.le_refl _) ?_)
  case e1 => have : (someOnes 1).length = 1 := rfl
             rw [this]; show 1 = min 1 q; omega
  case e2 => exact fun _ => Hcell.out
  case e3 => rw [Hfit.out]; show 0 + 1 ≤ q; omega
  intro w2 hh2 hb2
  rw [Hsp.out, Nat.zero_add] at hh2
  have Hb2 := hid hb2; clear hb2 Hh1 Hb1 Hcell Hfit Hsp
  have e1 : (someOnes 1).length = 1 := rfl
  rw [e1]
  go_wp2_with fail
  go_loopw [8] (fun i wr => ∃ k : Nat, 1 ≤ k ∧ k ≤ q ∧ i = .int .i64 k ∧ Hid (wr.heap[w.heap.size]? = some (.cells (ones q k).toArray 3 (0, 0))) ∧ Below w.heap.size w wr) (fun i _ => q - (intOf i).toNat)
  case atStart => exact ⟨1, by omega, by omega, rfl, hh2, Hb2.out⟩
  case round =>
    clear hh2 Hb2 e1
    obtain ⟨k, hk1, hk, rfl, Hh, hb⟩ := hrel
    have Hb := hid hb; clear hb
    by_cases hlt : k < q
    · obtain ⟨c, hc⟩ : ∃ c, c = min k (q - k) := ⟨_, rfl⟩
      have hck : c ≤ k ∧ c ≤ q - k ∧ 1 ≤ c := by omega
      have hbB := Hb.out.size
      obtain ⟨hc1, hc2, hc3⟩ := hck
      have Hc := hid hc; clear hc
      have Hfit := hid (ones_len q k hk)
      have Hsp := hid (ones_splice q k c (by omega))
      have hcl : (someOnes c).length = c := by unfold someOnes; simp
      have Hcl := hid hcl
      go_wp2_with fail
      have Hbd := hid (below_gr (gr_drew (gr_refl wr none)) (fun _ e => by cases e) hbB : Below w.heap.size wr wr.drew)
      have Hhd : Hid (wr.drew.heap[w.heap.size]? = some (.cells (ones q k).toArray 3 (0, 0))) := Hh
      refine wp_region_held_drew (S := fun _ => True) (by kernel_rfl) trivial (fun _ => ?_)
      refine wpAnyH_take (i := 0) (v := ?_) rfl (by kernel_rfl) (by kernel_rfl) (by kernel_rfl) (fun _ _ _ h => h) (Or.inl ⟨by rfl, ?_⟩) trivial ?_
      rotate_left
      · intro w9 hSw
        clear hSw
        go_simp
        all_goals (try with_reducible rfl)
      (try simp only [Act.put]); (try simp only [List.getElem_toArray]); (try simp only [List.getElem_cons_succ]); (try simp only [List.getElem_cons_zero]); (try simp only [List.setIfInBounds_toArray]); (try simp only [List.set_cons_succ]); (try simp only [List.set_cons_zero])
      refine wpAnyH_take (i := 1) (v := ?_) rfl (by kernel_rfl) (by kernel_rfl) (by kernel_rfl) (fun _ _ _ h => h) (Or.inl ⟨by rfl, ?_⟩) trivial ?_
      rotate_left
      · intro w9 hSw
        clear hSw
        go_simp
        all_goals (try with_reducible rfl)
      (try simp only [Act.put]); (try simp only [List.getElem_toArray]); (try simp only [List.getElem_cons_succ]); (try simp only [List.getElem_cons_zero]); (try simp only [List.setIfInBounds_toArray]); (try simp only [List.set_cons_succ]); (try simp only [List.set_cons_zero])
      refine wpAnyH_take (i := 2) (v := ?_) rfl (by kernel_rfl) (by kernel_rfl) (by kernel_rfl) (fun _ _ _ h => h) (Or.inl ⟨by rfl, ?_⟩) trivial ?_
      rotate_left
      · intro w9 hSw
        clear hSw
        go_simp
        all_goals (try with_reducible rfl)
      (try simp only [Act.put]); (try simp only [List.getElem_toArray]); (try simp only [List.getElem_cons_succ]); (try simp only [List.getElem_cons_zero]); (try simp only [List.setIfInBounds_toArray]); (try simp only [List.set_cons_succ]); (try simp only [List.set_cons_zero])
      refine wpAnyH_take (i := 3) (v := ?_) rfl (by kernel_rfl) (by kernel_rfl) (by kernel_rfl) (fun _ _ _ h => h) (Or.inl ⟨by rfl, ?_⟩) trivial ?_
      rotate_left
      · intro w9 hSw
        clear hSw
        go_simp
        all_goals (try with_reducible rfl)
      (try simp only [Act.put]); (try simp only [List.getElem_toArray]); (try simp only [List.getElem_cons_succ]); (try simp only [List.getElem_cons_zero]); (try simp only [List.setIfInBounds_toArray]); (try simp only [List.set_cons_succ]); (try simp only [List.set_cons_zero])
      refine wpAnyH_take (i := 4) (v := ?_) rfl (by kernel_rfl) (by kernel_rfl) (by kernel_rfl) (fun _ _ _ h => h) (Or.inl ⟨by rfl, ?_⟩) trivial ?_
      rotate_left
      · intro w9 hSw
        clear hSw
        go_simp
        all_goals (try with_reducible rfl)
      (try simp only [Act.put]); (try simp only [List.getElem_toArray]); (try simp only [List.getElem_cons_succ]); (try simp only [List.getElem_cons_zero]); (try simp only [List.setIfInBounds_toArray]); (try simp only [List.set_cons_succ]); (try simp only [List.set_cons_zero])
      refine wpAnyH_take (i := 5) (v := ?_) rfl (by kernel_rfl) (by kernel_rfl) (by kernel_rfl) (fun _ _ _ h => h) (Or.inl ⟨by rfl, ?_⟩) trivial ?_
      rotate_left
      · intro w9 hSw
        clear hSw
        go_simp
        all_goals (try with_reducible rfl)
      (try simp only [Act.put]); (try simp only [List.getElem_toArray]); (try simp only [List.getElem_cons_succ]); (try simp only [List.getElem_cons_zero]); (try simp only [List.setIfInBounds_toArray]); (try simp only [List.set_cons_succ]); (try simp only [List.set_cons_zero])
      refine wpAnyH_take (i := 6) (v := ?_) rfl (by kernel_rfl) (by kernel_rfl) (by kernel_rfl) (fun _ _ _ h => h) (Or.inl ⟨by rfl, ?_⟩) trivial ?_
      rotate_left
      · intro w9 hSw
        clear hSw
        go_simp
        all_goals (try with_reducible rfl)
      (try simp only [Act.put]); (try simp only [List.getElem_toArray]); (try simp only [List.getElem_cons_succ]); (try simp only [List.getElem_cons_zero]); (try simp only [List.setIfInBounds_toArray]); (try simp only [List.set_cons_succ]); (try simp only [List.set_cons_zero])
      refine wpAnyH_ready (rs := [7]) (by kernel_rfl) (by simp) ?_
      refine AllReadyH.cons rfl (fun K hK => ?_) AllReadyH.nil
      refine step_copy_splice rfl (.tmp 41) (.tmp 44) 22 22 rfl 3 Try.underlying22 (by kernel_rfl) (some ⟨w.heap.size, k, none⟩) (some ⟨w.heap.size, 0, none⟩) (q - k) (q - k) k q ?hd ?hs w.heap.size k (ones q k) 3 Hhd.out (someOnes c) ?e1 ?e2 ?e3 (someOnes_one c) w.heap.size w (Hb.out.trans Hbd.out) (Nat.le_refl _) ?_
      case hd => clear hK; go_simp; omega
      case hs => clear hK; go_simp
      case e1 => rw [Hcl.out]; exact Hc.out
      case e2 => exact fun _ => ⟨rfl, _, rfl, ones_cell Hhd.out hc1⟩
      case e3 => rw [Hcl.out, Hfit.out]; omega
      intro w5 hh5 hb5
      rw [Hsp.out] at hh5
      have Hb5 := hid hb5; clear hb5
      rw [Hcl.out]
      refine hK.out _ _ trivial (fun _ => ?_)
      clear hK K
      (try simp only [Act.put]); (try simp only [List.setIfInBounds_toArray]); (try simp only [List.set_cons_succ]); (try simp only [List.set_cons_zero])
      have hwk : IntKind.i64.wrap ((k : Int) + (c : Int)) = (k : Int) + c := IntWalk.i64_in _ (by omega)
      refine wpAnyH_take (i := 8) (v := ?_) rfl (by kernel_rfl) (by kernel_rfl) (by kernel_rfl) (fun _ _ _ h => h) (Or.inl ⟨by rfl, ?_⟩) trivial ?_
      rotate_left
      · intro w9 hSw
        clear hSw
        go_simp
        all_goals (try with_reducible rfl)
      (try simp only [Act.put]); (try simp only [List.getElem_toArray]); (try simp only [List.getElem_cons_succ]); (try simp only [List.getElem_cons_zero]); (try simp only [List.setIfInBounds_toArray]); (try simp only [List.set_cons_succ]); (try simp only [List.set_cons_zero])
      refine wpAnyH_take (i := 9) (v := ?_) rfl (by kernel_rfl) (by kernel_rfl) (by kernel_rfl) (fun _ _ _ h => h) (Or.inl ⟨by rfl, ?_⟩) trivial ?_
      rotate_left
      · intro w9 hSw
        clear hSw
        go_simp
        all_goals (try with_reducible rfl)
      (try simp only [Act.put]); (try simp only [List.getElem_toArray]); (try simp only [List.getElem_cons_succ]); (try simp only [List.getElem_cons_zero]); (try simp only [List.setIfInBounds_toArray]); (try simp only [List.set_cons_succ]); (try simp only [List.set_cons_zero])
      refine wpAnyH_done (by kernel_rfl) ?_ _
      clear hwk
      go_wp2
      go_roundw
      case rel => exact ⟨k + c, by omega, by omega, by go_num, hh5, Hb5.out⟩
      case measure => simp [intOf]; omega
    · obtain rfl : k = q := by omega
      have Hs2 : Hid (Ow intL wr w.heap.size (some ⟨w.heap.size, 0, none⟩) k (List.replicate k 1)) := hid (by
        refine Ow.own_ints (cap := k) (e := 3) ⟨by rw [flat_len]; simp [intL], Or.inr ⟨w.heap.size, k, _, rfl, Nat.le_refl _, Hh.out, Nat.le_refl _, by unfold maxLen; omega, ?_, ?_⟩⟩ (by omega)
        · rw [List.size_toArray, ones_len _ _ (Nat.le_refl _), Nat.mul_one]
        · rw [List.toList_toArray, repl_flat, List.take_of_length_le (by rw [ones_len _ _ (Nat.le_refl _)]; omega)]
          unfold ones; simp)
      go_wp2_with fail
      go_ret
      exact ⟨_, rfl, Hs2.out, gr_below Hb.out (Nat.le_refl _)⟩

end Go.Proofs.Ytecboohippbliaa
