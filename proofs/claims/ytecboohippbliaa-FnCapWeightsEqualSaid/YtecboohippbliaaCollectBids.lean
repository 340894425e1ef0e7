/- slices.Collect(slices.Values(list)) of bids: a copy in a block of the call's own. -/
import Derived.RangeFuncNested
import Derived.RangeFuncBound
import Derived.RangeFuncCalls
import Derived.RangeFuncLeaves
import Derived.RangeFuncBox
import Derived.Shelf.Abstract
import Derived.Shelf.RegionOpen
import Derived.WalkKit
import Derived.OwnWalkIn
import Derived.TacticsInMore
import Derived.LoopNIn
import Derived.LoopIn
import Derived.Test.YtecboohippbliaaRows
import Derived.Test.YtecboohippbliaaBase
import Derived.Test.YtecboohippbliaaFamBid
namespace Go.Proofs.Ytecboohippbliaa
open Go.RowKit Go.Shelf
attribute [local go_sem] Oper.semAt_some

abbrev encBid (x : Bid) : Array Value := #[.agg #[.int .i64 x.yield, .int .i64 x.many]]

set_option maxRecDepth 100000 in
set_option maxHeartbeats 2000000 in
theorem values1_in (F : Fence) (n : Nat) (hF : F.fn 93) (hro : F.round = none) (hn : 1 ≤ n) (l Bs n₀ len cap : Nat) (a : Option Addr) (xs : List Bid) (J Jx : List Bid → World → Prop)
    (hJa : ∀ s A B, J s A → A.grownBy B none → J s B)
    (hY : ∀ pre x W, J pre W → pre.length < len → YieldAt F (n - 1) Try.prog l (encBid x) W fun e W' =>
      (e = .returned (.bool true) ∧ J (pre ++ [x]) W' ∧ Below n₀ W W') ∨ (e = .returned (.bool false) ∧ Jx (pre ++ [x]) W'))
    (W : World) (hBs : W.cell? ⟨Bs, 0, none⟩ = some (.slice a len cap)) (hs : Sl bidL W a len xs) (hb : 0 < len → ∀ b off, a = some ⟨b, off, none⟩ → b < n₀) (hn₀ : n₀ ≤ W.heap.size) (h0 : J [] W) :
    CallsIn F n Try.prog 93 #[.func (.yield l) #[] #[], .pointer (some ⟨Bs, 0, none⟩)] W fun e W' => (∃ v, e = .returned v) ∧
      ((∃ ys, ys = xs ∧ J ys W') ∨ (∃ pre, pre <+: xs ∧ Jx pre W')) := by
  have hlen := hs.len
  have hbig := hs.big
  unfold maxLen at hbig
  have Hs := hid hs; clear hs
  have Hlen := hid hlen; clear hlen
  refine callsIn_of_wp Try.func93 rfl hF ?_ hro
  simp only [Try.ntmps93, List.size_toArray, List.length_cons, List.length_nil, Nat.reduceAdd, Nat.reduceSub, Array.replicate_succ, Array.replicate_zero, List.push_toArray, List.append_toArray, List.nil_append, List.cons_append]
  gi_wp2
  gi_loopw [7] (fun i wr => ∃ k : Nat, k ≤ len ∧ i = .int .i64 k ∧ J (xs.take k) wr ∧ Below n₀ W wr) (fun i _ => len - (intOf i).toNat)
  case atStart => exact ⟨0, Nat.zero_le _, rfl, h0, Below.refl _ _⟩
  case round =>
    obtain ⟨k, hk, rfl, hJs, hnx⟩ := hrel
    by_cases hlt : k < len
    · obtain ⟨b, off, x, rfl, hxk, c0, c1⟩ := bid_at (Hs.out.keepB hnx hb) k hlt
      have hsz := hnx.size
      have Hxk := hid hxk; clear hxk
      obtain ⟨fn, tmps, assign, body, hy, hR⟩ := hY (xs.take k) x (wr.alloc (.cells #[.int .i64 x.yield, .int .i64 x.many] 42)) (hJa _ _ _ hJs (gr_alloc (gr0 _) _)) (by rw [List.length_take, Hlen.out]; omega)
      dsimp only [encBid] at hy
      gi_wp2
      refine hR.mono ?_
      rintro e W3 (⟨rfl, hJ3, hk3⟩ | ⟨rfl, hJx3⟩)
      · gi_wp2
        go_roundw
        case rel => exact ⟨k + 1, by omega, by simp, by rw [take_snoc _ _ _ Hxk.out]; exact hJ3, hnx.trans (((Below.refl n₀ wr).alloc (by omega) _).trans hk3)⟩
        case measure => simp [intOf]; omega
      · gi_wp2
        refine bodyPost_ret (results_none rfl _ _ _) rfl ?_
        exact ⟨⟨_, rfl⟩, .inr ⟨_, by rw [← take_snoc _ _ _ Hxk.out]; exact List.take_prefix _ _, hJx3⟩⟩
    · obtain rfl : k = len := by omega
      gi_wp2
      go_end0
      exact ⟨⟨_, rfl⟩, .inl ⟨_, take_len _ _ Hlen.out, hJs⟩⟩

theorem values_in (F : Fence) (n : Nat) (hF : F.fn 81) (hro : F.round = none) (a : Option Addr) (len cap : Nat) (w : World) :
    CallsIn F n Try.prog 81 #[.slice a len cap] w fun e w' => e = .returned (.func (.func 93) #[] #[.pointer (some ⟨w.heap.size, 0, none⟩)]) ∧ w' = w.alloc (.cells #[.slice a len cap] 37) := by
  refine callsIn_of_wp Try.func81 rfl hF ?_ hro
  simp only [Try.ntmps81, List.size_toArray, List.length_cons, List.length_nil, Nat.reduceAdd, Nat.reduceSub, Array.replicate_succ, Array.replicate_zero, List.push_toArray, List.append_toArray, List.nil_append, List.cons_append]
  gi_wp2
  go_ret
  exact ⟨rfl, rfl⟩

theorem values_stops (F : Fence) (n : Nat) (hF : F.fn 93) (hro : F.round = none) (hn : 1 ≤ n) (Bs n₀ len cap : Nat) (a : Option Addr) (xs : List Bid) (w : World) (hBs : Bs < w.heap.size) (hn₀ : n₀ ≤ w.heap.size)
    (hc : w.cell? ⟨Bs, 0, none⟩ = some (.slice a len cap)) (hs : Sl bidL w a len xs) (hb : 0 < len → ∀ b off, a = some ⟨b, off, none⟩ → b < n₀) :
    SeqStopsK F n Try.prog 93 #[.pointer (some ⟨Bs, 0, none⟩)] encBid (Below n₀) (fun ys => ys = xs) (fun pre => pre <+: xs) len w := fun l J Jx W hW hJ _ hY h0 =>
  values1_in F n hF hro hn l Bs n₀ len cap a xs J Jx (fun s A B hs hg => hJ s A B none hs hg (fun _ e => by cases e)) hY W ((hW.cell (p := ⟨Bs, 0, none⟩) hBs).trans hc) (hs.keepB hW (fun h0 b off e => Nat.lt_of_lt_of_le (hb h0 b off e) hn₀)) hb (Nat.le_trans hn₀ hW.size) h0

set_option maxRecDepth 100000 in
set_option maxHeartbeats 2000000 in
theorem appendSeq_in (F : Fence) (n : Nat) (hF : F.fn 97) (hFv : F.fn 93) (hro : F.round = none) (hn : 3 ≤ n) (Bs len cap : Nat) (a : Option Addr) (xs : List Bid) (w : World)
    (hBs : Bs < w.heap.size) (hc : w.cell? ⟨Bs, 0, none⟩ = some (.slice a len cap)) (hs : Sl bidL w a len xs) (hlen8 : len ≤ 1000) :
    CallsIn F n Try.prog 97 #[.slice none 0 0, .func (.func 93) #[] #[.pointer (some ⟨Bs, 0, none⟩)]] w fun e w' => ∃ v, e = .returned v ∧ w'.ownsRow w.heap.size 42 2 v len (xs.flatMap bidL.cells) ∧ Below w.heap.size w w' := by
  obtain ⟨i0, hi, hz0, hz1, hz2⟩ := info_parts infoBid
  have h1 : 1 ≤ n := by omega
  have hlen := hs.len
  refine callsIn_of_wp_marks Try.func97 rfl hF ?_ hro
  simp only [Try.ntmps97, List.size_toArray, List.length_cons, List.length_nil, Nat.reduceAdd, Nat.reduceSub, Array.replicate_succ, Array.replicate_zero, List.push_toArray, List.append_toArray, List.nil_append, List.cons_append]
  gi_wp2
  have bS := Boxed.new w 37 (.slice none 0 0)
  have hB0 : Below w.heap.size w (w.alloc (.cells #[.slice none 0 0] 37)) := (Below.refl _ w).alloc (Nat.le_refl _) _
  have hsz : (w.alloc (.cells #[.slice none 0 0] 37)).heap.size = w.heap.size + 1 := by simp
  have hs0 : Sl bidL (w.alloc (.cells #[.slice none 0 0] 37)) a len xs := hs.keep0 (gr_alloc (gr0 _) _)
  have hc0 : (w.alloc (.cells #[.slice none 0 0] 37)).cell? ⟨Bs, 0, none⟩ = some (.slice a len cap) := (hB0.cell (p := ⟨Bs, 0, none⟩) hBs).trans hc
  have hab : 0 < len → ∀ b off, a = some ⟨b, off, none⟩ → b < w.heap.size := by
    intro h0 b off e
    obtain ⟨b', off', e', hlt, _⟩ := hs.mem h0
    rw [e] at e'; cases e'; exact hlt
  obtain ⟨W0, hW0⟩ : ∃ W0, w.alloc (.cells #[.slice none 0 0] 37) = W0 := ⟨_, rfl⟩
  rw [hW0] at bS hB0 hsz hs0 hc0 ⊢
  clear hW0
  refine wpIn_rangeFunc_ownH hro h1 (gf := 93) (lb := #[.pointer (some ⟨Bs, 0, none⟩)]) rfl hFv (enters_of Try.func93 (by kernel_rfl) rfl)
    (values_stops F (n - 1) hFv hro (by omega) Bs w.heap.size len cap a xs W0 (by omega) (by omega) hc0 hs0 hab) belowK_t (belowK_b (by omega)) (Below.refl _ _) (fun _ => rfl)
    (fun pre W => (∃ v, Boxed W w.heap.size 37 v ∧ W.ownsRow w.heap.size 42 2 v pre.length (pre.flatMap bidL.cells) ∧ True) ∧ Below w.heap.size w W)
    (fun _ _ _ => False)
    (OwnFrom.and (Own.from (holdsRow_own w.heap.size w.heap.size 37 42 2 (fun pre : List Bid => pre.length) (fun pre => pre.flatMap bidL.cells) (fun _ _ => True)) _) (ownFrom_below (Nat.le_refl _) (by omega)))
    (fun _ _ _ _ _ hs _ _ => hs)
    ⟨⟨_, bS, World.ownsRow_nil _ _ _ _, trivial⟩, hB0⟩
    (fun x a' W => ∃ Bx, w.heap.size < Bx ∧ W.heap[Bx]? = some (.cells #[.int .i64 x.yield, .int .i64 x.many] 42 (0, 0)) ∧ a' = { tmps := #[.slice none 0 0, .func (.func 93) #[] #[.pointer (some ⟨Bs, 0, none⟩)], .pointer (some ⟨w.heap.size, 0, none⟩), undef, .slice none 0 0, .pointer (some ⟨Bx, 0, none⟩), .func (.func 93) #[] #[.pointer (some ⟨Bs, 0, none⟩)], .agg #[.int .i64 x.yield, .int .i64 x.many], undef, undef, undef, undef, undef], defers := [] })
    (fun x a' _ X Y row hs hg hr => by
      obtain ⟨Bx, h1, h2, h3⟩ := hs
      exact ⟨Bx, h1, (hg.block Bx (blk_lt h2) (fun e => by obtain ⟨o, ho, hc⟩ := (hr Bx e.symm).2; rw [h2] at ho; cases ho; cases hc)).trans h2, h3⟩)
    ?assign ?body ?done ?stop
  case assign =>
    rintro l pre x W K ⟨⟨v, bv, hrow, _⟩, hB⟩ hK
    gi_wp2
    exact hK _ _ ((KeepsOthers.alloc _ _).from _) ((Below.refl _ W).alloc hB.size _) ⟨⟨v, bv.alloc _, hrow.alloc _, trivial⟩, hB.alloc hB.size _⟩ ⟨W.heap.size, bv.lt, heap_alloc_new W _, rfl⟩
  case body =>
    rintro l pre x a' W hl ⟨r, hr⟩ ⟨⟨v, hv, hrow, _⟩, hB⟩ ⟨Bx, hBx, bX, rfl⟩ hlt
    have cv := hv.cell
    have x0 := blk_cell bX 0 _ rfl
    have x1 := blk_cell bX 1 _ rfl
    have hle : w.heap.size ≤ w.heap.size := Nat.le_refl _
    have hWs := hB.size
    gi_wp2_with (gi_at_builtin; refine wpListIn_append_own _ rfl _ _ 37 rfl w.heap.size 42 i0 _ 2 16 Try.underlying37 hi hz0 hz1 hz2 rfl (by decide) _ _ _ rfl (hrow.alloc _) ⟨W.heap.size, 0, none⟩ 1 1 [.int .i64 x.yield, .int .i64 x.many] rfl rfl (cells_new W _ _ _ rfl) (by simp [Value.oneCell']) (by unfold maxLen; omega) (by omega) (by simp; omega) ?_; intro v' w1 hown' hgrow _; obtain ⟨g', cap', rfl⟩ := ownsRow_succ hown'; obtain ⟨hv1, hv2, hr2, hk2, hb2⟩ := hv.appended (by decide) hrow hWs hle hown' hgrow; have hc1 := hv1.cell; have hf1 := hv1.frozen)
    refine ⟨hk2.from _, hb2, ⟨⟨_, hv2, ?_, trivial⟩, hB.trans hb2⟩⟩
    rw [List.length_append, List.flatMap_append]
    exact hr2
  case done =>
    rintro D ys W hD rfl ⟨⟨v, hv, hrow, _⟩, hB⟩ hK
    have cv := hv.cell
    gi_wp2
    refine ⟨by simp, .inl ⟨_, _, rfl, run_takeDeferred hK, ?_⟩⟩
    refine ⟨_, results_tmp rfl _ _ _, v, rfl, ?_, hB.trans (belowK_b (w := w) (Nat.le_refl _) W D _ _ (by omega) hK rfl rfl)⟩
    have := ownsRow_putObj hrow (.deferred none) hK rfl
    rw [hlen] at this
    exact this
  case stop =>
    rintro D c pre W _ _ h _
    exact h.elim

theorem collect_in (F : Fence) (n : Nat) (hFc : F.fn 91) (hF : F.fn 97) (hFv : F.fn 93) (hro : F.round = none) (hn : 4 ≤ n) (Bs len cap : Nat) (a : Option Addr) (xs : List Bid) (w : World)
    (hBs : Bs < w.heap.size) (hc : w.cell? ⟨Bs, 0, none⟩ = some (.slice a len cap)) (hs : Sl bidL w a len xs) (hlen8 : len ≤ 1000) :
    CallsIn F n Try.prog 91 #[.func (.func 93) #[] #[.pointer (some ⟨Bs, 0, none⟩)]] w fun e w' => ∃ v, e = .returned v ∧ w'.ownsRow w.heap.size 42 2 v len (xs.flatMap bidL.cells) ∧ Below w.heap.size w w' := by
  have h1 : 1 ≤ n := by omega
  refine callsIn_of_wp Try.func91 rfl hFc ?_ hro
  simp only [Try.ntmps91, List.size_toArray, List.length_cons, List.length_nil, Nat.reduceAdd, Nat.reduceSub, Array.replicate_succ, Array.replicate_zero, List.push_toArray, List.append_toArray, List.nil_append, List.cons_append]
  gi_wp2_with (gi_at_call 97; refine (appendSeq_in F (n - 1) hF hFv hro (by omega) Bs len cap a xs _ hBs hc hs hlen8).mono ?_; rintro e w' ⟨v, rfl, hrow, hb⟩)
  go_ret
  exact ⟨v, rfl, hrow, hb⟩

/-- Plainly: what slices.Values hands back, and what slices.Collect makes of it. -/
theorem Values_any (a : Option Addr) (n cap : Nat) (w : World) :
    Calls Try.prog 81 #[.slice a n cap] w fun e w' => e = .returned (.func (.func 93) #[] #[.pointer (some ⟨w.heap.size, 0, none⟩)]) ∧ w' = w.alloc (.cells #[.slice a n cap] 37) :=
  callsIn_wide.1 (values_in Fence.wide 5 trivial rfl a n cap w)

theorem Collect_any (Bs n cap : Nat) (a : Option Addr) (xs : List Bid) (w : World) (hBs : Bs < w.heap.size) (hc : w.cell? ⟨Bs, 0, none⟩ = some (.slice a n cap)) (hs : Sl bidL w a n xs) (hn : n ≤ 1000) :
    Calls Try.prog 91 #[.func (.func 93) #[] #[.pointer (some ⟨Bs, 0, none⟩)]] w fun e w' => ∃ v, e = .returned v ∧ w'.ownsRow w.heap.size 42 2 v n (xs.flatMap bidL.cells) ∧ Below w.heap.size w w' :=
  callsIn_wide.1 (collect_in Fence.wide 5 trivial trivial trivial rfl (by decide) Bs n cap a xs w hBs hc hs hn)

end Go.Proofs.Ytecboohippbliaa
