/- Bid: its layout in memory, and what the exact laws do with it: copies, comparison, marks. -/
import Derived.Test.YtecboohippbliaaRows
import Derived.Test.YtecboohippbliaaBase
import Derived.StillTailTactics
namespace Go.Proofs.Ytecboohippbliaa
open Go.RowKit

structure Bid where
  yield : Int
  many : Int
  deriving DecidableEq

def bidL : Lay Bid := ⟨2, fun b => [.int .i64 b.yield, .int .i64 b.many], fun _ => rfl⟩

theorem bid_at {w : World} {a : Option Addr} {n : Nat} {xs : List Bid} (h : Sl bidL w a n xs) (k : Nat) (hk : k < n) :
    ∃ b off x, a = some ⟨b, off, none⟩ ∧ xs[k]? = some x ∧ w.cell? ⟨b, off + k * 2, none⟩ = some (.int .i64 x.yield) ∧ w.cell? ⟨b, off + k * 2 + 1, none⟩ = some (.int .i64 x.many) := by
  obtain ⟨b, off, x, ha, hx, _, hc⟩ := h.at k hk
  exact ⟨b, off, x, ha, hx, hc 0 _ rfl, hc 1 _ rfl⟩

theorem toBid_any (x : Bid) (w : World) :
    Calls Try.prog 70 #[.agg #[.int .i64 x.yield, .int .i64 x.many]] w fun e w' => e = .returned (.agg #[.int .i64 x.yield, .int .i64 x.many]) ∧ w.grownBy w' none := by
  go_enter Try.func70, Try.ntmps70
  go_wp2
  exact bodyPost_ret (v := .agg #[.int .i64 x.yield, .int .i64 x.many]) (by simp [results, Try.results70, go_sem]) rfl ⟨rfl, by repeat (first | exact gr_refl _ _ | apply gr_alloc | refine gr_setCell ?_ (.inr (by simp)) _)⟩
theorem infoBid : (Try.prog.info? 42).map (fun i => (i.zero, i.size, i.bytes)) = some (some (.agg #[.int .i64 0, .int .i64 0]), 2, 16) := by kernel_rfl

set_option maxRecDepth 100000 in
set_option maxHeartbeats 400000 in
theorem toBidS_any (a : Option Addr) (n cap : Nat) (xs : List Bid) (w : World) (hs : Sl bidL w a n xs) (hn : n ≤ 1048576) :
    Calls Try.prog 38 #[.slice a n cap] w fun e w' => ∃ a', e = .returned (.slice a' n n) ∧ Ow bidL w' w.heap.size a' n xs ∧ w.grownBy w' none := by
  obtain ⟨i0, hi, hz0, hz1, hz2⟩ := info_parts infoBid
  have Hs := hid hs; clear hs
  go_enter Try.func38, Try.ntmps38
  go_wp2_with (at_make; refine wpList_make_full _ rfl _ _ 37 rfl w.heap.size 42 i0 _ 2 Try.underlying37 hi hz0 hz1 _ _ _ _ n rfl rfl rfl rfl ?c1 ?c2 ?c3 ?_)
  case c1 => rw [hz2]; omega
  case c2 => unfold maxLen; omega
  case c3 => omega
  intro w1 hown hg
  have how : Ow bidL w1 w.heap.size (some ⟨w.heap.size, 0, none⟩) n (List.replicate n ⟨0, 0⟩) := Ow.of_made (L := bidL) (x0 := ⟨0, 0⟩) hown (by unfold maxLen; omega)
  clear hown
  have How := hid how; clear how
  have Hg := hid hg; clear hg
  go_wp2_with fail
  go_loopw [4] (fun i wr => ∃ k : Nat, k ≤ n ∧ i = .int .i64 k ∧ Ow bidL wr w.heap.size (some ⟨w.heap.size, 0, none⟩) n (xs.take k ++ List.replicate (n - k) ⟨0, 0⟩) ∧ w.grownBy wr none) (fun i _ => n - (intOf i).toNat)
  case atStart => exact ⟨0, by omega, rfl, by simpa using How.out, Hg.out⟩
  case round =>
    clear How Hg
    obtain ⟨k, hk, rfl, how, hg⟩ := hrel
    by_cases hlt : k < n
    · obtain ⟨b, off, x, rfl, hxk, h0, h1⟩ := bid_at (Hs.out.keep0 hg) k hlt
      have Hxk := hid hxk; clear hxk
      have Hg := hid hg; clear hg
      have How := hid how; clear how
      go_wp2_with fail
      refine (toBid_any x _).mono ?_
      rintro e w2 ⟨rfl, hg2⟩
      have how2 := How.out.keep0 hg2
      have Hg2 := hid hg2; clear hg2
      obtain ⟨b2, off2, z, e2, hz, _, _, hf, hc⟩ := how2.at k hlt
      simp only [Option.some.injEq, Addr.mk.injEq, and_true] at e2
      obtain ⟨rfl, rfl⟩ := e2
      rw [fill_at _ _ _ _ hlt Hs.out.len] at hz
      obtain rfl := Option.some.inj hz
      have c0 : w2.cell? ⟨w.heap.size, k * 2, none⟩ = some (.int .i64 0) := by have := hc 0 _ rfl; simpa [bidL] using this
      have f0 : w2.frozen? ⟨w.heap.size, k * 2, none⟩ = false := hf _
      have c1 : w2.cell? ⟨w.heap.size, k * 2 + 1, none⟩ = some (.int .i64 0) := by have := hc 1 _ rfl; simpa [bidL] using this
      have f1 : w2.frozen? ⟨w.heap.size, k * 2 + 1, none⟩ = false := hf _
      clear hc hf hz
      have How2 := hid how2; clear how2
      go_wp2
      go_roundw
      case rel =>
        refine ⟨k + 1, by omega, by go_num, ?_, ?_⟩
        · have hz := fill_at xs n k (⟨0, 0⟩ : Bid) hlt Hs.out.len
          have o0 := How2.out.set k 0 ⟨0, 0⟩ ⟨x.yield, 0⟩ (.int .i64 x.yield) hz (by simp [bidL]) rfl (k * 2) (by simp [bidL])
          have o1 := o0.set k 1 ⟨x.yield, 0⟩ ⟨x.yield, x.many⟩ (.int .i64 x.many) (List.getElem?_set_self (by have := lt_of_at hz; simpa using this)) (by simp [bidL]) rfl (k * 2 + 1) (by simp [bidL])
          simp only [List.set_set] at o1
          have e : (xs.take k ++ List.replicate (n - k) (⟨0, 0⟩ : Bid)).set k ⟨x.yield, x.many⟩ = xs.take (k + 1) ++ List.replicate (n - (k + 1)) ⟨0, 0⟩ := fill_step xs n k x _ Hxk.out Hs.out.len
          rw [e] at o1
          exact o1
        · exact gr_setCell (gr_setCell (gr_trans0 Hg.out Hg2.out) (.inr (Nat.le_refl _)) _) (.inr (Nat.le_refl _)) _
      case measure => simp [intOf]; omega
    · have Hg := hid hg; clear hg
      have How := hid how; clear how
      go_wp2
      go_ret
      obtain rfl : k = n := by omega
      exact ⟨_, rfl, by have := How.out; rwa [fill_end _ _ _ Hs.out.len] at this, Hg.out⟩
theorem szBidS_any (a : Option Addr) (n cap : Nat) (l : Int) (w : World) (hn : n ≤ maxLen) (hl : 0 ≤ l) (hl2 : l ≤ 1048576) :
    Calls Try.prog 37 #[.slice a n cap, .int .i64 l] w fun e w' => e = .returned (.int .i64 (if l < n then -1 else l - n)) ∧ w = w' := by
  unfold maxLen at hn
  by_cases h : l < n
  · go_enter Try.func37, Try.ntmps37
    go_wp2
    go_ret
    exact ⟨rfl, rfl⟩
  · go_enter Try.func37, Try.ntmps37
    go_wp2
    go_ret
    exact ⟨rfl, rfl⟩
theorem eqBid_any (x y : Bid) (w : World) :
    Calls Try.prog 71 #[.agg #[.int .i64 x.yield, .int .i64 x.many], .agg #[.int .i64 y.yield, .int .i64 y.many]] w fun e w' => e = .returned (.bool (decide (x = y))) ∧ w.grownBy w' none := by
  obtain ⟨x0, x1⟩ := x
  obtain ⟨y0, y1⟩ := y
  go_enter Try.func71, Try.ntmps71
  go_wp2
  all_goals go_ret
  all_goals (refine ⟨ret_bool ?_, by repeat (first | exact gr_refl _ _ | apply gr_alloc)⟩; go_tidy; simp_all)
set_option maxRecDepth 100000 in
set_option maxHeartbeats 400000 in
theorem eqBidS_any (a a2 : Option Addr) (n n2 cap cap2 : Nat) (xs ys : List Bid) (w : World) (hs : Sl bidL w a n xs) (ht : Sl bidL w a2 n2 ys) :
    Calls Try.prog 39 #[.slice a n cap, .slice a2 n2 cap2] w fun e w' => e = .returned (.bool (decide (xs = ys))) ∧ w.grownBy w' none := by
  have hbig := hs.big
  have hbig2 := ht.big
  unfold maxLen at hbig hbig2
  have Hs := hid hs; clear hs
  have Ht := hid ht; clear ht
  by_cases hne : n = n2
  · subst hne
    go_enter Try.func39, Try.ntmps39
    go_wp2_with fail
    go_loopw [5] (fun i wr => ∃ k : Nat, k ≤ n ∧ i = .int .i64 k ∧ xs.take k = ys.take k ∧ w.grownBy wr none) (fun i _ => n - (intOf i).toNat)
    case atStart => exact ⟨0, by omega, rfl, by simp, gr_refl _ _⟩
    case round =>
      obtain ⟨k, hk, rfl, hall, hg⟩ := hrel
      have Hall := hid hall; clear hall
      by_cases hlt : k < n
      · obtain ⟨b, off, x, rfl, hxk, h0, h1⟩ := bid_at (Hs.out.keep0 hg) k hlt
        obtain ⟨b2, off2, y, rfl, hyk, g0, g1⟩ := bid_at (Ht.out.keep0 hg) k hlt
        have Hxk := hid hxk; clear hxk
        have Hyk := hid hyk; clear hyk
        have Hg := hid hg; clear hg
        go_wp2_with fail
        go_still_tail 8, (by kernel_rfl)
        change wpList _ _ _ _ _ wr.drew
        go_wp2_with fail
        refine (eqBid_any x y _).mono ?_
        rintro e w2 ⟨rfl, hg2⟩
        have hg3 : w.grownBy w2 none := gr_trans0 (gr_drew Hg.out) hg2
        have Hg3 := hid hg3; clear hg3 hg2
        by_cases hxy : x = y
        · have hd : decide (x = y) = true := by simpa using hxy
          have Hxy := hid hxy; clear hxy
          go_wp2
          go_roundw
          case rel => exact ⟨k + 1, by omega, by go_num, by rw [take_snoc _ _ _ Hxk.out, take_snoc _ _ _ Hyk.out, Hall.out, Hxy.out], Hg3.out⟩
          case measure => simp [intOf]; omega
        · have hd : decide (x = y) = false := by simpa using hxy
          have Hxy := hid hxy; clear hxy
          have Hfin := hid (decide_eq_false (take_ne xs ys k x y Hxk.out Hyk.out Hxy.out))
          go_wp2
          go_ret
          exact ⟨ret_bool Hfin.out.symm, Hg3.out⟩
      · have Hg := hid hg; clear hg
        have Hfin : Hid (decide (xs = ys) = true) := by
          obtain rfl : k = n := by omega
          exact hid (decide_eq_true (list_eq_take xs ys k Hs.out.len Ht.out.len Hall.out))
        go_wp2
        go_ret
        exact ⟨ret_bool Hfin.out.symm, Hg.out⟩
  · have hb : ((n : Int) == n2) = false := by simp; omega
    have Hfin : Hid (decide (xs = ys) = false) := by
      refine hid (decide_eq_false ?_)
      rintro rfl
      exact hne (Hs.out.len.symm.trans Ht.out.len)
    go_enter Try.func39, Try.ntmps39
    go_wp2
    go_ret
    exact ⟨ret_bool Hfin.out.symm, gr_refl _ _⟩
set_option maxRecDepth 100000 in
set_option maxHeartbeats 400000 in
theorem markBidS_any (a : Option Addr) (n cap base : Nat) (xs : List Bid) (m : Int) (w : World) (hs : Ow bidL w base a n xs) (hn : n ≤ 1048576) (h0 : 0 ≤ m) (h1 : m ≤ 1048576) :
    Calls Try.prog 43 #[.slice a n cap, .int .i64 m] w fun e w' => e = .returned (.int .i64 (m + 2 * n)) ∧ ∃ r, w.grownBy w' r ∧ ∀ g, r = some g → 0 < n ∧ ∃ off, a = some ⟨g, off, none⟩ := by
  have Hs := hid hs; clear hs
  go_enter Try.func43, Try.ntmps43
  go_wp2_with fail
  go_loopw [1, 5] (fun q i wr => ∃ (k : Nat) (ys : List Bid), k ≤ n ∧ i = .int .i64 k ∧ q = .int .i64 (m + 2 * k) ∧ Ow bidL wr base a n ys ∧ ∃ r, w.grownBy wr r ∧ ∀ g, r = some g → 0 < n ∧ ∃ off, a = some ⟨g, off, none⟩) (fun _ i _ => n - (intOf i).toNat)
  case atStart => exact ⟨0, xs, by omega, rfl, by simp, Hs.out, none, gr_refl _ _, fun _ e => by cases e⟩
  case round =>
    clear Hs
    obtain ⟨k, ys, hk, rfl, rfl, how, r, hg, hr⟩ := hrel
    have Hg := hid hg; clear hg
    have Hr := hid hr; clear hr
    by_cases hlt : k < n
    · obtain ⟨b, off, x, rfl, hxk, _, hblt, hf, hc⟩ := how.at k hlt
      have c0 : wr.cell? ⟨b, off + k * 2, none⟩ = some (.int .i64 x.yield) := hc 0 _ rfl
      have f0 : wr.frozen? ⟨b, off + k * 2, none⟩ = false := hf _
      have c1 : wr.cell? ⟨b, off + k * 2 + 1, none⟩ = some (.int .i64 x.many) := hc 1 _ rfl
      have f1 : wr.frozen? ⟨b, off + k * 2 + 1, none⟩ = false := hf _
      clear hc hf
      have Hxk := hid hxk; clear hxk
      have How := hid how; clear how
      go_wp2
      go_roundw
      case rel =>
        have o0 := How.out.set k 0 x ⟨m + 2 * k, x.many⟩ (.int .i64 (m + 2 * k)) Hxk.out (by simp [bidL]) rfl (off + k * 2) (by simp [bidL])
        have o1 := o0.set k 1 ⟨m + 2 * k, x.many⟩ ⟨m + 2 * k, m + 2 * k + 1⟩ (.int .i64 (m + 2 * k + 1)) (by exact List.getElem?_set_self (by have := lt_of_at Hxk.out; simpa using this)) (by simp [bidL]) rfl (off + k * 2 + 1) (by simp [bidL]; omega)
        have hgb : w.grownBy wr (some b) := by
          cases r with
          | none => exact gr_any Hg.out _
          | some g =>
            obtain ⟨_, off2, e⟩ := Hr.out g rfl
            simp only [Option.some.injEq, Addr.mk.injEq, and_true] at e
            obtain ⟨rfl, rfl⟩ := e
            exact Hg.out
        exact ⟨k + 1, _, by omega, by go_num, by congr 1; push_cast; omega, o1, some b, gr_setCell (gr_setCell (hgb) (.inl rfl) _) (.inl rfl) _, fun g e => by cases e; exact ⟨by omega, off, rfl⟩⟩
      case measure => simp [intOf]; omega
    · go_wp2
      go_ret
      obtain rfl : k = n := by omega
      exact ⟨rfl, r, Hg.out, Hr.out⟩

end Go.Proofs.Ytecboohippbliaa
