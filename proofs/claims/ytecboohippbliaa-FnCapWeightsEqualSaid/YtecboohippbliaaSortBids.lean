/- Sorting bids by yield, as the library does it for at most 12 of them. -/
import Derived.Test.YtecboohippbliaaRows
import Derived.Test.YtecboohippbliaaBase
import Derived.Test.YtecboohippbliaaFamBid
import Derived.Test.YtecboohippbliaaShares
import Derived.Test.YtecboohippbliaaCollectBids
import Derived.Deep.QuietTactic
import Derived.BigQuiet
import Derived.StillTailTactics
namespace Go.Proofs.Ytecboohippbliaa
open Go.RowKit

set_option maxRecDepth 1000000 in
theorem Len64_any (x : Int) (w : World) (h0 : 0 ≤ x) (h1 : x ≤ 255) : Calls Try.prog 110 #[.int .u64 x] w fun e w' => (∃ k, e = .returned (.int .i64 k)) ∧ w = w' := by
  go_enter Try.func110, Try.ntmps110
  go_wp2
  all_goals (go_ret; exact ⟨⟨_, rfl⟩, rfl⟩)

theorem Len_any (x : Int) (w : World) (h0 : 0 ≤ x) (h1 : x ≤ 255) : Calls Try.prog 99 #[.int .u64 x] w fun e w' => (∃ k, e = .returned (.int .i64 k)) ∧ w = w' := by
  go_enter Try.func99, Try.ntmps99
  go_wp2_with fail
  refine (Len64_any x w h0 h1).mono ?_
  rintro e w' ⟨⟨k, rfl⟩, rfl⟩
  go_wp2
  go_ret
  exact ⟨⟨k, rfl⟩, rfl⟩

def ltY (x y : Bid) : Bool := decide (cmpI x.yield y.yield < 0)

theorem stop1_any (x y : Bid) (w : World) :
    Calls Try.prog 82 #[.agg #[.int .i64 x.yield, .int .i64 x.many], .agg #[.int .i64 y.yield, .int .i64 y.many]] w fun e w' => e = .returned (.int .i64 (cmpI x.yield y.yield)) ∧ w.grownBy w' none := by
  go_enter Try.func82, Try.ntmps82
  go_wp2_with fail
  refine (Compare_any _ _ _).mono ?_
  rintro e w' ⟨rfl, rfl⟩
  go_wp2
  go_ret
  exact ⟨rfl, gr_alloc (gr_alloc (gr0 _) _) _⟩

set_option maxRecDepth 100000 in
set_option maxHeartbeats 1000000 in
theorem insertionSortBids_any (g cap2 B n : Nat) (xs : List Bid) (w : World) (hB : B ≤ w.heap.size) (ho : Ow bidL w B (some ⟨g, 0, none⟩) n xs) (hn : n ≤ 100) :
    Calls Try.prog 101 #[.slice (some ⟨g, 0, none⟩) n cap2, .int .i64 0, .int .i64 n, .func (.func 82) #[] #[]] w
      fun e w' => e = .returned (.tuple #[]) ∧ Ow bidL w' B (some ⟨g, 0, none⟩) n (isort ltY xs) ∧ w.grownBy w' (some g) := by
  have Ho := hid ho; clear ho
  by_cases hn0 : n = 0
  · subst hn0
    obtain rfl : xs = [] := List.eq_nil_of_length_eq_zero Ho.out.len
    go_enter Try.func101, Try.ntmps101
    go_wp2_with fail
    go_loop [8] (fun i => i = .int .i64 1) (fun _ => 0)
    case atStart => rfl
    case round =>
      subst hrel
      go_wp2
      go_end0
      exact ⟨rfl, Ho.out, gr_refl _ _⟩
  · have hBg : B ≤ g := by
      obtain ⟨b, off, e, hb, _⟩ := Ho.out.mem (by omega); cases e; exact hb
    go_enter Try.func101, Try.ntmps101
    go_wp2_with fail
    go_loopw [8] (fun i wr => ∃ k : Nat, 1 ≤ k ∧ k ≤ n ∧ i = .int .i64 k ∧ Ow bidL wr B (some ⟨g, 0, none⟩) n (isort ltY (xs.take k) ++ xs.drop k) ∧ w.grownBy wr (some g)) (fun i _ => n - (intOf i).toNat)
    case atStart =>
      refine ⟨1, by omega, by omega, rfl, ?_, gr_refl _ _⟩
      cases hxs : xs with
      | nil => have := Ho.out.len; rw [hxs] at this; simp at this; omega
      | cons x rest =>
        have : isort ltY (List.take 1 (x :: rest)) ++ List.drop 1 (x :: rest) = x :: rest := rfl
        rw [this, ← hxs]; exact Ho.out
    case round =>
      obtain ⟨k, hk1, hk, rfl, how, hb⟩ := hrel
      have How := hid how; clear how
      have Hb := hid hb; clear hb
      by_cases hlt : k < n
      · obtain ⟨wo, rfl⟩ : ∃ wo : World, wo = wr := ⟨_, rfl⟩
        obtain ⟨x, hxk⟩ : ∃ x, xs[k]? = some x := ⟨xs[k]'(by rw [Ho.out.len]; exact hlt), by simp⟩
        have Hd : Hid (xs.drop k = x :: xs.drop (k + 1)) := by
          refine hid ?_
          have e : xs[k]'(lt_of_at hxk) = x := by rw [List.getElem?_eq_getElem (lt_of_at hxk)] at hxk; exact Option.some.inj hxk
          rw [← e, List.getElem_cons_drop]
        have Hxk := hid hxk; clear hxk
        go_wp2_with fail
        go_loopw [9] (fun j wi => ∃ (q : Nat) (P S : List Bid), q ≤ k ∧ j = .int .i64 q ∧ P.length = q ∧ Ow bidL wi B (some ⟨g, 0, none⟩) n (P ++ x :: S) ∧ ins ltY x P ++ S = isort ltY (xs.take (k + 1)) ++ xs.drop (k + 1) ∧ w.grownBy wi (some g)) (fun j _ => (intOf j).toNat)
        case atStart =>
          refine ⟨k, isort ltY (xs.take k), xs.drop (k + 1), Nat.le_refl _, rfl, by rw [isort_len, List.length_take, Ho.out.len]; omega, by rw [← Hd.out]; exact How.out, ?_, Hb.out⟩
          rw [take_snoc _ _ _ Hxk.out, isort_snoc]
        case round =>
          obtain ⟨q, P, S, hq, rfl, hP, hO, hG, hB2⟩ := hrel
          have HG := hid hG; clear hG
          have HP := hid hP; clear hP
          have HO := hid hO; clear hO
          have HB2 := hid hB2; clear hB2
          by_cases hq0 : q = 0
          · subst hq0
            obtain rfl : P = [] := List.eq_nil_of_length_eq_zero HP.out
            rw [show ((0 : Nat) : Int) = 0 from rfl]
            go_wp2_with fail
            go_quiet (fail)
            go_wp2
            go_roundw
            case rel =>
              refine ⟨k + 1, by omega, by omega, by go_num, ?_, gr_drewN HB2.out _⟩
              rw [← HG.out]
              exact HO.out.keep0 (gr_drewN (gr0 _) _)
            case measure => simp [intOf]; omega
          · obtain ⟨P', y, rfl⟩ : ∃ P' y, P = P' ++ [y] := by
              have hne : P ≠ [] := fun e => by have := HP.out; rw [e] at this; simp at this; omega
              exact ⟨P.dropLast, P.getLast hne, (List.dropLast_concat_getLast hne).symm⟩
            have hP' : P'.length + 1 = q := by have := HP.out; simpa using this
            have hat0 : (P' ++ [y] ++ x :: S)[q]? = some x := by
              rw [List.getElem?_append_right (by simp; omega)]
              have : q - (P' ++ [y]).length = 0 := by simp; omega
              rw [this]; rfl
            have hat1 : (P' ++ [y] ++ x :: S)[q - 1]? = some y := by
              rw [List.append_assoc, List.getElem?_append_right (by omega)]
              have : q - 1 - P'.length = 0 := by omega
              rw [this]; rfl
            have Hat0 := hid hat0; clear hat0
            have Hat1 := hid hat1; clear hat1
            have i1 : (0 : Int) < q := by omega
            have i0 : 0 < q := by omega
            have i2 : (q : Int) < n := by omega
            have i3 : IntKind.i64.wrap ((q : Int) - 1) = q - 1 := IntWalk.i64_in _ (by omega)
            have i4 : ((q : Int) - 1).toNat = q - 1 := by omega
            have i5 : (1 : Int) ≤ q := by omega
            have i6 : (q : Int) - 1 < n := by omega
            have hcells : ∀ wr' : World, Ow bidL wr' B (some ⟨g, 0, none⟩) n (P' ++ [y] ++ x :: S) →
                wr'.cell? ⟨g, q * 2, none⟩ = some (.int .i64 x.yield) ∧ wr'.cell? ⟨g, q * 2 + 1, none⟩ = some (.int .i64 x.many) ∧ wr'.cell? ⟨g, (q - 1) * 2, none⟩ = some (.int .i64 y.yield) ∧ wr'.cell? ⟨g, (q - 1) * 2 + 1, none⟩ = some (.int .i64 y.many)
                ∧ ∀ o, wr'.frozen? ⟨g, o, none⟩ = false := by
              intro wr' ho
              obtain ⟨b, off, z, e, hz, c0, c1⟩ := bid_at ho.sl q (by omega)
              cases e
              rw [Hat0.out] at hz
              obtain rfl := Option.some.inj hz
              obtain ⟨b, off, z, e, hz, d0, d1⟩ := bid_at ho.sl (q - 1) (by omega)
              cases e
              rw [Hat1.out] at hz
              obtain rfl := Option.some.inj hz
              obtain ⟨b, off, e, _, _, hf, _⟩ := ho.mem (by omega)
              cases e
              exact ⟨by simpa using c0, by simpa using c1, by simpa using d0, by simpa using d1, hf⟩
            have Hcells := hid hcells; clear hcells
            obtain ⟨c0, c1, d0, d1, _⟩ := Hcells.out wr HO.out
            have hn2 : (0 : Int) ≤ q := by omega
            go_wp2_with fail
            go_still_tail 14, (by kernel_rfl)
            change wpList _ _ _ _ _ wr.drew
            go_wp2_with fail
            refine (stop1_any x y _).mono ?_
            rintro e w8 ⟨rfl, hg8⟩
            have ho8 := (HO.out.keep0 (gr_drew (gr0 _))).keep0 hg8
            have hb8 : w.grownBy w8 (some g) := gr_trans0 (gr_drew HB2.out) hg8
            obtain ⟨c0, c1, d0, d1, f⟩ := Hcells.out w8 ho8
            have f0 : w8.frozen? ⟨g, q * 2, none⟩ = false := f _
            have f1 : w8.frozen? ⟨g, q * 2 + 1, none⟩ = false := f _
            have f2 : w8.frozen? ⟨g, (q - 1) * 2, none⟩ = false := f _
            have f3 : w8.frozen? ⟨g, (q - 1) * 2 + 1, none⟩ = false := f _
            have Ho8 := hid ho8; clear ho8 f hg8
            have Hb8 := hid hb8; clear hb8
            by_cases hlt2 : cmpI x.yield y.yield < 0
            · have Hlt : Hid (ltY x y = true) := hid (decide_eq_true hlt2)
              have n1 : ¬ (q - 1) * 2 = q * 2 := by omega
              have n2 : ¬ (q - 1) * 2 = q * 2 + 1 := by omega
              have n3 : ¬ (q - 1) * 2 + 1 = q * 2 := by omega
              have n4 : ¬ (q - 1) * 2 + 1 = q * 2 + 1 := by omega
              have n5 : ¬ q * 2 = (q - 1) * 2 := by omega
              have n6 : ¬ q * 2 = (q - 1) * 2 + 1 := by omega
              have n7 : ¬ q * 2 + 1 = (q - 1) * 2 := by omega
              have n8 : ¬ q * 2 + 1 = (q - 1) * 2 + 1 := by omega
              go_wp2_with fail
              go_region
              go_wp2
              go_roundw
              case rel =>
                have o1 := Ho8.out.set q 0 x ⟨y.yield, x.many⟩ (.int .i64 y.yield) Hat0.out (by simp [bidL]) rfl (q * 2) (by simp [bidL])
                have o2 := o1.set q 1 ⟨y.yield, x.many⟩ y (.int .i64 y.many) (List.getElem?_set_self (by have := lt_of_at Hat0.out; simpa using this)) (by simp [bidL]) rfl (q * 2 + 1) (by simp [bidL])
                rw [List.set_set] at o2
                have o3 := o2.set (q - 1) 0 y ⟨x.yield, y.many⟩ (.int .i64 x.yield) (by rw [List.getElem?_set_ne (by omega)]; exact Hat1.out) (by simp [bidL]) rfl ((q - 1) * 2) (by simp [bidL])
                have o4 := o3.set (q - 1) 1 ⟨x.yield, y.many⟩ x (.int .i64 x.many) (List.getElem?_set_self (by have := lt_of_at Hat1.out; simpa using this)) (by simp [bidL]) rfl ((q - 1) * 2 + 1) (by simp [bidL])
                rw [List.set_set] at o4
                have e : ((P' ++ [y] ++ x :: S).set q y).set (q - 1) x = P' ++ x :: y :: S := by
                  rw [List.append_assoc]; exact swap_list P' S y x q hP'
                rw [e] at o4
                refine ⟨q - 1, P', y :: S, by omega, by congr 1; omega, by omega, ?_, ?_, ?_⟩
                · exact o4.keep0 (gr_drew (gr0 _))
                · rw [← HG.out, ins_snoc, if_pos Hlt.out, List.append_assoc]; rfl
                · exact gr_drew (gr_setCell (gr_setCell (gr_setCell (gr_setCell Hb8.out (.inl rfl) _) (.inl rfl) _) (.inl rfl) _) (.inl rfl) _)
              case measure => simp [intOf]; omega
            · have Hlt : Hid (ltY x y = false) := hid (decide_eq_false hlt2)
              go_wp2_with fail
              go_roundw
              case rel =>
                refine ⟨k + 1, by omega, by omega, by go_num, ?_, Hb8.out⟩
                rw [← HG.out, ins_snoc, if_neg (by rw [Hlt.out]; simp)]
                have := Ho8.out
                simp only [List.append_assoc, List.cons_append, List.nil_append] at this ⊢
                exact this
              case measure => simp [intOf]; omega
      · go_wp2
        go_end0
        obtain rfl : k = n := by omega
        refine ⟨rfl, ?_, Hb.out⟩
        have := How.out
        rw [take_len _ _ Ho.out.len, List.drop_of_length_le (by rw [Ho.out.len]; exact Nat.le_refl _), List.append_nil] at this
        exact this

theorem pdqsortBids_any (g cap2 B n : Nat) (lim : Int) (xs : List Bid) (w : World) (hB : B ≤ w.heap.size) (ho : Ow bidL w B (some ⟨g, 0, none⟩) n xs) (hn : n ≤ 12) :
    Calls Try.prog 98 #[.slice (some ⟨g, 0, none⟩) n cap2, .int .i64 0, .int .i64 n, .int .i64 lim, .func (.func 82) #[] #[]] w
      fun e w' => e = .returned (.tuple #[]) ∧ Ow bidL w' B (some ⟨g, 0, none⟩) n (isort ltY xs) ∧ w.grownBy w' (some g) := by
  have I := hid (insertionSortBids_any g cap2 B n xs w hB ho (by omega))
  clear ho
  go_enter Try.func98, Try.ntmps98
  go_wp2_with fail
  go_loop [1, 2, 3, 10, 11, 12, 13, 14] (fun a b c _ _ _ _ _ => a = .int .i64 0 ∧ b = .int .i64 n ∧ c = .int .i64 lim) (fun _ _ _ _ _ _ _ _ => 0)
  case atStart => exact ⟨rfl, rfl, rfl⟩
  case round =>
    obtain ⟨rfl, rfl, rfl⟩ := hrel
    go_wp2_with fail
    refine I.out.mono ?_
    rintro e w' ⟨rfl, ho', hb'⟩
    have Ho' := hid ho'; clear ho'
    have Hb' := hid hb'; clear hb'
    go_wp2_with fail
    refine bodyPost_ret (results_none rfl _ _ _) rfl ?_
    exact ⟨rfl, Ho'.out, Hb'.out⟩

theorem SortBids_any (g cap2 B n : Nat) (xs : List Bid) (w : World) (hB : B ≤ w.heap.size) (ho : Ow bidL w B (some ⟨g, 0, none⟩) n xs) (hn : n ≤ 12) :
    Calls Try.prog 92 #[.slice (some ⟨g, 0, none⟩) n cap2, .func (.func 82) #[] #[]] w
      fun e w' => e = .returned (.tuple #[]) ∧ Ow bidL w' B (some ⟨g, 0, none⟩) n (isort ltY xs) ∧ w.grownBy w' (some g) := by
  have I := hid (fun lim => pdqsortBids_any g cap2 B n lim xs w hB ho hn)
  clear ho
  go_enter Try.func92, Try.ntmps92
  go_wp2_with fail
  refine (Len_any n w (by omega) (by omega)).mono ?_
  rintro e w' ⟨⟨lim, rfl⟩, rfl⟩
  go_wp2_with fail
  refine (I.out lim).mono ?_
  rintro e w' ⟨rfl, ho', hb'⟩
  have Ho' := hid ho'; clear ho'
  have Hb' := hid hb'; clear hb'
  go_wp2_with fail
  go_end0
  exact ⟨rfl, Ho'.out, Hb'.out⟩

/-- .. of no bids, wherever the slice lies. -/
theorem insertionNil_any (a : Option Addr) (cap2 : Nat) (w : World) :
    Calls Try.prog 101 #[.slice a 0 cap2, .int .i64 0, .int .i64 0, .func (.func 82) #[] #[]] w fun e w' => e = .returned (.tuple #[]) ∧ w.grownBy w' none := by
  go_enter Try.func101, Try.ntmps101
  go_wp2_with fail
  go_loop [8] (fun i => i = .int .i64 1) (fun _ => 0)
  case atStart => rfl
  case round =>
    subst hrel
    go_wp2
    go_end0
    exact ⟨rfl, gr_refl _ _⟩

theorem pdqsortNil_any (a : Option Addr) (cap2 : Nat) (lim : Int) (w : World) :
    Calls Try.prog 98 #[.slice a 0 cap2, .int .i64 0, .int .i64 0, .int .i64 lim, .func (.func 82) #[] #[]] w fun e w' => e = .returned (.tuple #[]) ∧ w.grownBy w' none := by
  go_enter Try.func98, Try.ntmps98
  go_wp2_with fail
  go_loop [1, 2, 3, 10, 11, 12, 13, 14] (fun a b c _ _ _ _ _ => a = .int .i64 0 ∧ b = .int .i64 0 ∧ c = .int .i64 lim) (fun _ _ _ _ _ _ _ _ => 0)
  case atStart => exact ⟨rfl, rfl, rfl⟩
  case round =>
    obtain ⟨rfl, rfl, rfl⟩ := hrel
    go_wp2_with fail
    refine (insertionNil_any a cap2 _).mono ?_
    rintro e w' ⟨rfl, hb'⟩
    go_wp2_with fail
    refine bodyPost_ret (results_none rfl _ _ _) rfl ?_
    exact ⟨rfl, hb'⟩

theorem SortNil_any (a : Option Addr) (cap2 : Nat) (w : World) :
    Calls Try.prog 92 #[.slice a 0 cap2, .func (.func 82) #[] #[]] w fun e w' => e = .returned (.tuple #[]) ∧ w.grownBy w' none := by
  go_enter Try.func92, Try.ntmps92
  go_wp2_with fail
  refine (Len_any 0 w (by omega) (by omega)).mono ?_
  rintro e w' ⟨⟨lim, rfl⟩, rfl⟩
  go_wp2_with fail
  refine (pdqsortNil_any a cap2 lim w).mono ?_
  rintro e w' ⟨rfl, hb'⟩
  go_wp2_with fail
  go_end0
  exact ⟨rfl, hb'⟩

/-- slices.SortedFunc(slices.Values(list), ..): a sorted copy. -/
theorem SortedBids_any (Bs n cap : Nat) (a : Option Addr) (xs : List Bid) (w : World) (hBs : Bs < w.heap.size) (hc : w.cell? ⟨Bs, 0, none⟩ = some (.slice a n cap)) (hs : Sl bidL w a n xs) (hn : n ≤ 12) :
    Calls Try.prog 80 #[.func (.func 93) #[] #[.pointer (some ⟨Bs, 0, none⟩)], .func (.func 82) #[] #[]] w
      fun e w' => ∃ a' cap', e = .returned (.slice a' n cap') ∧ Ow bidL w' w.heap.size a' n (isort ltY xs) ∧ w.grownBy w' none := by
  have hl := hid hs.len
  have I := hid (Collect_any Bs n cap a xs w hBs hc hs (by omega))
  clear hs hc
  go_enter Try.func80, Try.ntmps80
  go_wp2_with fail
  refine I.out.mono ?_
  rintro e w1 ⟨v, rfl, hrow, hb⟩
  obtain ⟨a1, c1, rfl, hc1⟩ := own_form hrow
  have how : Ow bidL w1 w.heap.size a1 n xs := Ow.of_own hrow hl.out (by unfold maxLen; omega)
  have hsz := hb.size
  have Hg1 := hid (gr_of_below hb); clear hb
  by_cases h0 : n = 0
  · subst h0
    obtain rfl : xs = [] := List.eq_nil_of_length_eq_zero hl.out
    clear hrow how
    have J := hid (SortNil_any a1 c1 w1)
    go_wp2_with fail
    refine J.out.mono ?_
    rintro e w2 ⟨rfl, hg2⟩
    have Hg2 := hid hg2; clear hg2
    go_wp2_with fail
    go_ret
    exact ⟨a1, c1, rfl, Ow.nil _ _ _ _, gr_trans0 Hg1.out Hg2.out⟩
  · obtain ⟨g, rfl, hge⟩ : ∃ g, a1 = some ⟨g, 0, none⟩ ∧ w.heap.size ≤ g := by
      rcases hrow.2 with ⟨e, h0⟩ | ⟨g, cap', cur, e, hg, _⟩
      · omega
      · simp only [Value.slice.injEq] at e; exact ⟨g, e.1, hg⟩
    have J := hid (SortBids_any g c1 w.heap.size n xs w1 hsz how hn)
    clear hrow how
    go_wp2_with fail
    refine J.out.mono ?_
    rintro e w2 ⟨rfl, ho2, hg2⟩
    have Ho2 := hid ho2; clear ho2
    have Hg2 := hid hg2; clear hg2
    go_wp2_with fail
    go_ret
    exact ⟨_, c1, rfl, Ho2.out, gr_own Hg1.out Hg2.out (fun k e => by cases e; exact hge)⟩

end Go.Proofs.Ytecboohippbliaa
