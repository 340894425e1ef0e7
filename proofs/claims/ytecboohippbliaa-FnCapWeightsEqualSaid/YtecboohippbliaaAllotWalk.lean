/- AllotBids of the program, walked whole. -/
import Derived.Test.YtecboohippbliaaRows
import Derived.Test.YtecboohippbliaaBase
import Derived.Test.YtecboohippbliaaAllot
import Derived.Test.YtecboohippbliaaDrawInts
import Derived.Deep.QuietTactic
import Derived.BigQuiet
import Derived.Deep.AppendLies
namespace Go.Proofs.Ytecboohippbliaa
open Go.RowKit

theorem addL_zeros (xs : List Int) (n : Nat) (h : xs.length = n) : addL xs (List.replicate n 0) = xs := by
  subst h
  unfold addL
  induction xs with
  | nil => rfl
  | cons x xs ih => simp only [List.length_cons, List.replicate_succ, List.zipWith_cons_cons]; rw [ih, Int.add_zero]

theorem addL_set (xs ys : List Int) (k : Nat) (v x : Int) (hx : xs[k]? = some x) (hl : xs.length = ys.length) : addL xs (ys.set k v) = (addL xs ys).set k (x + v) := by
  unfold addL
  induction xs generalizing ys k with
  | nil => simp at hx
  | cons z xs ih =>
    cases ys with
    | nil => simp at hl
    | cons y ys =>
      cases k with
      | zero =>
        obtain rfl : z = x := by simpa using hx
        rfl
      | succ k =>
        simp only [List.set_cons_succ, List.zipWith_cons_cons]
        rw [ih ys k (by simpa using hx) (by simpa using hl)]

theorem expand_zeros (m : List Bool) (q : Nat) : expand m (List.replicate q 0) = List.replicate m.length 0 := by
  induction m generalizing q with
  | nil => rfl
  | cons b m ih =>
    cases b with
    | false => simp only [expand, List.length_cons, List.replicate_succ]; rw [ih]
    | true =>
      cases q with
      | zero =>
        have := ih 0
        simp only [List.replicate_zero] at this
        simp only [expand, List.replicate_zero, List.length_cons, List.replicate_succ]; rw [this]
      | succ q => simp only [List.replicate_succ, expand, List.length_cons]; rw [ih]

theorem baseL_snoc (xs : List Bid) (y : Int) (k : Nat) (x : Bid) (hx : xs[k]? = some x) : baseL (xs.take (k + 1)) y = baseL (xs.take k) y ++ [baseOf y x] := by
  unfold baseL; rw [take_snoc _ _ _ hx, List.map_append]; rfl

theorem subW_snoc (xs : List Bid) (y : Int) (k : Nat) (x : Bid) (hx : xs[k]? = some x) : subW (xs.take (k + 1)) y = subW (xs.take k) y ++ (if atStop y x = true then [x.many] else []) := by
  unfold subW; rw [take_snoc _ _ _ hx, List.filter_append, List.map_append]
  congr 1
  cases h : atStop y x with
  | false => rw [List.filter_cons_of_neg (by rw [h]; simp)]; rfl
  | true => rw [List.filter_cons_of_pos h]; rfl

theorem maskL_snoc (xs : List Bid) (y : Int) (k : Nat) (x : Bid) (hx : xs[k]? = some x) : maskL (xs.take (k + 1)) y = maskL (xs.take k) y ++ [atStop y x] := by
  unfold maskL; rw [take_snoc _ _ _ hx, List.map_append]; rfl

theorem marks_snoc (m : List Bool) (b : Bool) : marks (m ++ [b]) = marks m + (if b = true then 1 else 0) := by
  unfold marks; rw [List.count_append]; cases b <;> simp

theorem base_sum_bound (xs : List Bid) (y : Int) (h : ∀ x ∈ xs, 1 ≤ x.many ∧ x.many ≤ 9999) : 0 ≤ sumI (baseL xs y) ∧ sumI (baseL xs y) ≤ 9999 * xs.length := by
  have := sumI_bound (baseL xs y) 0 9999 (fun z hz => by
    unfold baseL at hz
    obtain ⟨b, hb, rfl⟩ := List.mem_map.1 hz
    have := h b hb
    unfold baseOf
    split <;> omega)
  rw [base_len] at this
  omega

theorem mask_pos (m : List Bool) (j : Nat) (h : j < marks m) : m[posOf m j]? = some true := by
  induction m generalizing j with
  | nil => simp [marks] at h
  | cons c m ih =>
    cases c with
    | false => rw [marks_cons_false] at h; simp only [posOf, List.getElem?_cons_succ]; exact ih j h
    | true =>
      rw [marks_cons_true] at h
      cases j with
      | zero => rfl
      | succ j => simp only [posOf, List.getElem?_cons_succ]; exact ih j (by omega)

theorem base_at_pos (xs : List Bid) (y : Int) (j : Nat) (h : j < marks (maskL xs y)) : (baseL xs y)[posOf (maskL xs y) j]? = some 0 := by
  have hm := mask_pos _ _ h
  unfold maskL at hm ⊢
  rw [List.getElem?_map] at hm
  cases hx : xs[posOf (xs.map (atStop y)) j]? with
  | none => rw [hx] at hm; cases hm
  | some b =>
    rw [hx] at hm
    have ha : atStop y b = true := by simpa using hm
    unfold baseL
    rw [List.getElem?_map, hx, Option.map_some]
    congr 1
    unfold atStop at ha
    simp only [Bool.and_eq_true, decide_eq_true_eq] at ha
    unfold baseOf caseA
    rw [if_neg]
    simp only [Bool.or_eq_true, decide_eq_true_eq]
    omega

theorem fill_put (A : List Int) (n k : Nat) (v z : Int) (hA : A.length = k) (hk : k < n) : (A ++ List.replicate (n - k) z).set k v = (A ++ [v]) ++ List.replicate (n - (k + 1)) z := by
  subst hA
  obtain ⟨m, hm⟩ : ∃ m, n - A.length = m + 1 := ⟨n - A.length - 1, by omega⟩
  rw [hm, show n - (A.length + 1) = m by omega, List.replicate_succ, List.set_append_right _ _ (Nat.le_refl _), Nat.sub_self, List.set_cons_zero, List.append_assoc]; rfl

theorem fill_zero (A : List Int) (n k : Nat) (z : Int) (hk : k < n) : A ++ List.replicate (n - k) z = (A ++ [z]) ++ List.replicate (n - (k + 1)) z := by
  obtain ⟨m, hm⟩ : ∃ m, n - k = m + 1 := ⟨n - k - 1, by omega⟩
  rw [hm, show n - (k + 1) = m by omega, List.replicate_succ, List.append_assoc]; rfl

theorem fill_here (A : List Int) (n k : Nat) (z : Int) (hA : A.length = k) (hk : k < n) : (A ++ List.replicate (n - k) z)[k]? = some z := by
  subst hA
  rw [List.getElem?_append_right (Nat.le_refl _), Nat.sub_self, List.getElem?_replicate, if_pos (by omega)]

set_option maxRecDepth 100000 in
set_option maxHeartbeats 4000000 in
theorem AllotOk_any (a : Option Addr) (n cap : Nat) (xs : List Bid) (m : Int) (w : World) (hs : Sl bidL w a n xs) (h : auctionOk xs m = true) :
    Calls Try.prog 41 #[.slice a n cap, .int .i64 m] w fun e w' => ∃ a' cap', e = .returned (.slice a' n cap') ∧ Ow intL w' w.heap.size a' n (allotF xs m) ∧ n ≤ cap' ∧ w.grownBy w' none := by
  obtain ⟨i0, hi, hz0, hz1, hz2⟩ := info_parts infoInt
  obtain ⟨f1, f2, f3, f4, f5⟩ := auction_facts xs m h
  have hl := hs.len
  have F5 := hid f5
  have G := hid (allot_facts xs m h)
  have Hfin : Hid (allotF xs m = addL (baseL xs (stopF xs m)) (expand (maskL xs (stopF xs m)) (sharesF (leftA xs (stopF xs m) m) (subW xs (stopF xs m))))) := hid rfl
  have Hnone := hid (allot_none xs m)
  have Hs := hid hs; clear hs f4 f5
  unfold auctionOk at h
  go_enter Try.func41, Try.ntmps41
  go_wp2_with fail
  refine (bidsValid_any a n cap xs m w Hs.out).mono ?_
  rintro e w1 ⟨rfl, hg1⟩
  rw [h]
  have Hs1 := hid (Hs.out.keep0 hg1)
  go_wp2_with fail
  refine (stop_any a n cap xs m w1 Hs1.out (by omega) (fun x hx => by have := F5.out x hx; omega) f2 f3).mono ?_
  rintro e w2 ⟨rfl, hg2⟩
  generalize stopF xs m = y at *
  have Hs2 := hid (Hs1.out.keep0 hg2)
  have Hg2 := hid (gr_trans0 hg1 hg2); clear hg1 hg2 Hs1
  go_wp2_with (at_make; refine wpList_make_full _ rfl _ _ 22 rfl w2.heap.size 3 i0 _ 1 Try.underlying22 hi hz0 hz1 _ _ _ _ n rfl rfl rfl rfl ?c1 ?c2 ?c3 ?_)
  case c1 => rw [hz2]; omega
  case c2 => unfold maxLen; omega
  case c3 => omega
  intro w3 hown hg3
  have how : Ow intL w3 w2.heap.size (some ⟨w2.heap.size, 0, none⟩) n (List.replicate n 0) := Ow.of_made (L := intL) (x0 := 0) (by simpa [intL] using hown) (by unfold maxLen; omega)
  have hlt3 : w2.heap.size < w3.heap.size := by
    rcases hown.2 with ⟨e, _⟩ | ⟨g, cap', cur, e, _, hh, _⟩
    · cases e
    · simp only [Value.slice.injEq, Option.some.injEq, Addr.mk.injEq, and_true] at e
      rw [e.1]; exact blk_lt hh
  clear hown
  have How := hid how; clear how
  have Hg3 := hid hg3; clear hg3
  have hA : ((w3.alloc (Obj.cells #[] 3)).alloc (Obj.cells #[] 3)).ownsRow w3.heap.size 3 1 (.slice (some ⟨w3.heap.size, 0, none⟩) 0 0) 0 (([] : List Int).flatMap intL.cells) := (World.ownsRow_made w3 #[] 0 (Nat.le_refl _) (by decide) rfl).alloc _
  have hC : ((w3.alloc (Obj.cells #[] 3)).alloc (Obj.cells #[] 3)).ownsRow w3.heap.size 3 1 (.slice (some ⟨w3.heap.size + 1, 0, none⟩) 0 0) 0 (([] : List Int).flatMap intL.cells) := by
    have := World.ownsRow_made (base := w3.heap.size) (size := 1) (e := 3) (w3.alloc (Obj.cells #[] 3)) #[] 0 (by simp) (by decide) rfl
    simpa using this
  have HA := hid hA; clear hA
  have HC := hid hC; clear hC
  have HO0 := hid (How.out.keep0 (gr_alloc (gr_alloc (gr0 w3) (Obj.cells #[] 3)) (Obj.cells #[] 3)))
  have Hb0 := hid (gr_alloc (gr_alloc Hg3.out (Obj.cells #[] 3)) (Obj.cells #[] 3))
  clear How
  go_wp2_with fail
  go_loopw [1, 7, 8, 27] (fun mm p q i wr => ∃ (k g1 g2 c1 c2 qn : Nat), k ≤ n ∧ i = .int .i64 k ∧ mm = .int .i64 (m - sumI (baseL (xs.take k) y)) ∧ p = .slice (some ⟨g1, 0, none⟩) qn c1 ∧ q = .slice (some ⟨g2, 0, none⟩) qn c2 ∧ g1 ≠ g2 ∧ qn = marks (maskL (xs.take k) y) ∧ qn ≤ k ∧ wr.ownsRow w3.heap.size 3 1 (.slice (some ⟨g1, 0, none⟩) qn c1) qn ((placesL 0 (maskL (xs.take k) y)).flatMap intL.cells) ∧ wr.ownsRow w3.heap.size 3 1 (.slice (some ⟨g2, 0, none⟩) qn c2) qn ((subW (xs.take k) y).flatMap intL.cells) ∧ Ow intL wr w2.heap.size (some ⟨w2.heap.size, 0, none⟩) n (baseL (xs.take k) y ++ List.replicate (n - k) 0) ∧ w2.grownBy wr none ∧ w3.heap.size ≤ wr.heap.size) (fun _ _ _ i _ => n - (intOf i).toNat)
  case atStart => exact ⟨0, w3.heap.size, w3.heap.size + 1, 0, 0, 0, by omega, rfl, by simp [baseL, sumI], rfl, rfl, by omega, rfl, by omega, by simpa [placesL, maskL] using HA.out, by simpa [subW] using HC.out, by simpa [baseL] using HO0.out, Hb0.out, by simp; omega⟩
  case round =>
    clear HA HC HO0 Hb0
    obtain ⟨k, g1, g2, c1, c2, qn, hk, rfl, rfl, rfl, rfl, hne, hqn, hqk, ho1, ho2, hO, hg, hsz⟩ := hrel
    have Hqn := hid hqn; clear hqn
    have hg1B := (ho1.lt g1 rfl).1
    have hg2B := (ho2.lt g2 rfl).1
    have hg1L := (ho1.lt g1 rfl).2
    have hg2L := (ho2.lt g2 rfl).2
    have Ho1 := hid ho1; clear ho1
    have Ho2 := hid ho2; clear ho2
    have Hne := hid hne; clear hne
    have hbs := base_sum_bound (xs.take k) y (fun x hx => F5.out x (List.mem_of_mem_take hx))
    have hkl : (xs.take k).length ≤ 8 := by rw [List.length_take]; omega
    by_cases hlt : k < n
    · obtain ⟨b, off, x, rfl, hxk, cy, cm⟩ := bid_at (Hs2.out.keep0 hg) k hlt
      have hxm := F5.out x (List.mem_of_getElem? hxk)
      have e1 := baseL_snoc xs y k x hxk
      have e2 := subW_snoc xs y k x hxk
      have e3 := maskL_snoc xs y k x hxk
      have hbs1 : sumI (baseL (xs.take (k + 1)) y) = sumI (baseL (xs.take k) y) + baseOf y x := by rw [e1, sumI_append]; simp [sumI]
      obtain ⟨b2, off2, z, e4, hz, _, _, hf, hc⟩ := hO.at k hlt
      simp only [Option.some.injEq, Addr.mk.injEq, and_true] at e4
      obtain ⟨rfl, rfl⟩ := e4
      rw [fill_here _ n k 0 (by rw [base_len, List.length_take]; omega) hlt] at hz
      obtain rfl := Option.some.inj hz
      have c0 : wr.cell? ⟨w2.heap.size, k, none⟩ = some (.int .i64 0) := by have := hc 0 _ rfl; simpa [intL] using this
      have f0 : wr.frozen? ⟨w2.heap.size, k, none⟩ = false := hf _
      have HO := hid hO; clear hO hz hc hf hxk
      have Hg := hid hg; clear hg
      have hwl : ¬ w2.heap.size = wr.heap.size := by omega
      have hi3 : (0 : Int) ≤ k := by omega
      have hi2 : (k : Int) < n := by omega
      generalize hS : sumI (baseL (xs.take k) y) = S at *
      have HS := hid hS; clear hS
      by_cases h1 : y < 0
      ·
          have hst : atStop y x = false := by unfold atStop; simp only [Bool.and_eq_false_iff, decide_eq_false_iff_not]; omega
          have hbx : baseOf y x = x.many := by unfold baseOf; rw [if_pos]; unfold caseA; simp only [Bool.or_eq_true, decide_eq_true_eq]; omega
          rw [hbx] at hbs1 e1
          rw [hst] at e2 e3
          have E1 := hid e1; have E2 := hid e2; have E3 := hid e3; have Hbs1 := hid hbs1
          clear e1 e2 e3 hbs1 hst hbx
          go_wp2
          go_roundw
          case rel =>
            refine ⟨k + 1, g1, g2, c1, c2, qn, by omega, by go_num, by rw [Hbs1.out]; congr 1; omega, rfl, rfl, Hne.out, by rw [E3.out, marks_snoc]; simpa using Hqn.out, by omega, ?_, ?_, ?_, gr_alloc (gr_setCell Hg.out (.inr (Nat.le_refl _)) _) _, by simp [World.setCell]; omega⟩
            · refine World.ownsRow.alloc (World.ownsRow.kept (w := wr) ?_ (gr_setCell (r := some w2.heap.size) (gr_refl _ _) (.inl rfl) _) (by right; simp [Value.ownBlock]; omega)) _
              rw [E3.out, placesL_snoc]
              simpa using Ho1.out
            · refine World.ownsRow.alloc (World.ownsRow.kept (w := wr) ?_ (gr_setCell (r := some w2.heap.size) (gr_refl _ _) (.inl rfl) _) (by right; simp [Value.ownBlock]; omega)) _
              rw [E2.out]
              simpa using Ho2.out
            · have o0 := HO.out.set k 0 0 x.many (.int .i64 x.many) (fill_here _ n k 0 (by rw [base_len, List.length_take]; omega) hlt) (by simp [intL]) rfl k (by simp [intL])
              rw [fill_put _ n k _ 0 (by rw [base_len, List.length_take]; omega) hlt] at o0
              rw [E1.out]
              exact o0.keep0 (gr_alloc (gr0 _) _)
          case measure => simp [intOf]; omega
      · by_cases h2 : x.yield < y
        ·
          have hst : atStop y x = false := by unfold atStop; simp only [Bool.and_eq_false_iff, decide_eq_false_iff_not]; omega
          have hbx : baseOf y x = x.many := by unfold baseOf; rw [if_pos]; unfold caseA; simp only [Bool.or_eq_true, decide_eq_true_eq]; omega
          rw [hbx] at hbs1 e1
          rw [hst] at e2 e3
          have E1 := hid e1; have E2 := hid e2; have E3 := hid e3; have Hbs1 := hid hbs1
          clear e1 e2 e3 hbs1 hst hbx
          go_wp2
          go_roundw
          case rel =>
            refine ⟨k + 1, g1, g2, c1, c2, qn, by omega, by go_num, by rw [Hbs1.out]; congr 1; omega, rfl, rfl, Hne.out, by rw [E3.out, marks_snoc]; simpa using Hqn.out, by omega, ?_, ?_, ?_, gr_alloc (gr_setCell Hg.out (.inr (Nat.le_refl _)) _) _, by simp [World.setCell]; omega⟩
            · refine World.ownsRow.alloc (World.ownsRow.kept (w := wr) ?_ (gr_setCell (r := some w2.heap.size) (gr_refl _ _) (.inl rfl) _) (by right; simp [Value.ownBlock]; omega)) _
              rw [E3.out, placesL_snoc]
              simpa using Ho1.out
            · refine World.ownsRow.alloc (World.ownsRow.kept (w := wr) ?_ (gr_setCell (r := some w2.heap.size) (gr_refl _ _) (.inl rfl) _) (by right; simp [Value.ownBlock]; omega)) _
              rw [E2.out]
              simpa using Ho2.out
            · have o0 := HO.out.set k 0 0 x.many (.int .i64 x.many) (fill_here _ n k 0 (by rw [base_len, List.length_take]; omega) hlt) (by simp [intL]) rfl k (by simp [intL])
              rw [fill_put _ n k _ 0 (by rw [base_len, List.length_take]; omega) hlt] at o0
              rw [E1.out]
              exact o0.keep0 (gr_alloc (gr0 _) _)
          case measure => simp [intOf]; omega
        · have hbx : baseOf y x = 0 := by unfold baseOf; rw [if_neg]; unfold caseA; simp only [Bool.or_eq_true, decide_eq_true_eq]; omega
          rw [hbx] at hbs1 e1
          by_cases h3 : x.yield = y
          · have hst : atStop y x = true := by unfold atStop; simp only [Bool.and_eq_true, decide_eq_true_eq]; omega
            rw [hst] at e2 e3
            have E1 := hid e1; have E2 := hid e2; have E3 := hid e3; have Hbs1 := hid hbs1
            clear e1 e2 e3 hbs1 hst hbx
            have h3b : (x.yield == y) = true := by simpa using h3
            clear c0 f0 h3
            go_wp2_with (at_builtin; go_must (refine wpList_append_lies _ rfl _ _ _ rfl w3.heap.size 3 i0 _ 1 8 Try.underlying22 hi hz0 hz1 hz2 rfl (by decide) _ _ _ rfl ((Ho1.out.alloc _).alloc _) ⟨wr.heap.size + 1, 0, none⟩ 1 1 [.int .i64 k] rfl rfl ?d1 ?d2 (by decide) ?d3 ?d4 ?d5 _ rfl ?_))
            case d2 => simp [Value.oneCell']
            case d3 => unfold maxLen; omega
            case d4 => omega
            case d5 => (try simp); omega
            intro g1' c1' w5 ho5 hgo5 hat5 hlt5
            have hblk := blk_keep (blk_alloc (heap_alloc_new wr (Obj.cells #[.int .i64 x.yield, .int .i64 x.many] 42)) _) hgo5 (fun k e => by simp [Value.ownBlock] at e; omega)
            have cm5 := blk_cell hblk 1 _ rfl
            have hne5 : g1' ≠ g2 := by
              rcases hat5 with h | h
              · intro e; subst e; exact Hne.out (by simpa [Value.ownBlock] using h)
              · omega
            have ho25 := ((Ho2.out.alloc _).alloc _).kept hgo5 (by right; intro h; exact Hne.out (by cases h; rfl))
            have hO5 := (HO.out.keep0 (gr_alloc (gr_alloc (gr0 wr) _) _)).keep hgo5 (fun _ b off e1 e2 => by cases e1; simp [Value.ownBlock] at e2; omega)
            have hg5 : w2.grownBy w5 none := gr_own (gr_alloc (gr_alloc Hg.out _) _) hgo5 (fun g e => by simp [Value.ownBlock] at e; omega)
            have hsz5 := hgo5.size
            try simp only [World.size_alloc] at hsz5
            have hg1B5 := (ho5.lt g1' rfl)
            have Ho5 := hid ho5; clear ho5
            have Ho25 := hid ho25; clear ho25
            have HO5 := hid hO5; clear hO5
            have Hg5 := hid hg5; clear hg5 hgo5 hat5 hblk
            have Hne5 := hid hne5; clear hne5
            go_wp2_with (at_builtin; go_must (refine wpList_append_lies _ rfl _ _ _ rfl w3.heap.size 3 i0 _ 1 8 Try.underlying22 hi hz0 hz1 hz2 rfl (by decide) _ _ _ rfl (Ho25.out.alloc _) ⟨w5.heap.size, 0, none⟩ 1 1 [.int .i64 x.many] rfl rfl (cells_new w5 _ _ _ rfl) ?q2 (by decide) ?q3 ?q4 ?q5 _ rfl ?_))
            case q2 => simp [Value.oneCell']
            case q3 => unfold maxLen; omega
            case q4 => omega
            case q5 => simp; omega
            intro g2' c2' w6 ho6 hgo6 hat6 hlt6
            have hne6 : g1' ≠ g2' := by
              rcases hat6 with h | h
              · intro e; subst e; exact Hne5.out (by simpa [Value.ownBlock] using h.symm)
              · omega
            have ho16 := (Ho5.out.alloc _).kept hgo6 (by right; intro h; exact Hne5.out (by cases h; rfl))
            have hO6 := (HO5.out.keep0 (gr_alloc (gr0 w5) _)).keep hgo6 (fun _ b off e1 e2 => by cases e1; simp [Value.ownBlock] at e2; omega)
            have hg6 : w2.grownBy w6 none := gr_own (gr_alloc Hg5.out _) hgo6 (fun g e => by simp [Value.ownBlock] at e; omega)
            have hsz6 := hgo6.size
            try simp only [World.size_alloc] at hsz6
            have Ho6 := hid ho6; clear ho6
            have Ho16 := hid ho16; clear ho16
            have HO6 := hid hO6; clear hO6
            have Hg6 := hid hg6; clear hg6 hgo6 hat6
            have Hne6 := hid hne6; clear hne6
            go_wp2
            go_roundw
            case rel =>
              refine ⟨k + 1, g1', g2', c1', c2', qn + 1, by omega, by go_num, by rw [Hbs1.out]; congr 1; omega, rfl, rfl, Hne6.out, by rw [E3.out, marks_snoc, if_pos rfl, Hqn.out], by omega, ?_, ?_, ?_, Hg6.out, by omega⟩
              · rw [E3.out, placesL_snoc, if_pos rfl, List.flatMap_append]
                have h := Ho16.out
                have hml : (maskL (xs.take k) y).length = k := by rw [mask_len, List.length_take]; omega
                rw [hml, Nat.zero_add]
                exact h
              · rw [E2.out, if_pos trivial, List.flatMap_append]; exact Ho6.out
              · rw [E1.out, ← fill_zero _ n k 0 hlt]; exact HO6.out
            case measure => simp [intOf]; omega
          · have hst : atStop y x = false := by unfold atStop; simp only [Bool.and_eq_false_iff, decide_eq_false_iff_not]; omega
            rw [hst] at e2 e3
            have E1 := hid e1; have E2 := hid e2; have E3 := hid e3; have Hbs1 := hid hbs1
            clear e1 e2 e3 hbs1 hst hbx
            have h3b : (x.yield == y) = false := by simpa using h3
            go_wp2
            go_roundw
            case rel =>
              refine ⟨k + 1, g1, g2, c1, c2, qn, by omega, by go_num, by rw [Hbs1.out]; congr 1; omega, rfl, rfl, Hne.out, by rw [E3.out, marks_snoc]; simpa using Hqn.out, by omega, ?_, ?_, ?_, gr_alloc Hg.out _, by simp; omega⟩
              · rw [E3.out, placesL_snoc]
                simpa using Ho1.out.alloc _
              · rw [E2.out]
                simpa using Ho2.out.alloc _
              · rw [E1.out, ← fill_zero _ n k 0 hlt]; exact HO.out.keep0 (gr_alloc (gr0 _) _)
            case measure => simp [intOf]; omega
    · obtain rfl : k = n := by omega
      rw [take_len xs k hl] at *
      have hcap0 : k ≤ k := Nat.le_refl _
      have hO' : Ow intL wr w2.heap.size (some ⟨w2.heap.size, 0, none⟩) k (baseL xs y) := by simpa using hO
      have HO := hid hO'; clear hO hO'
      have Hg := hid hg; clear hg
      obtain ⟨G1, G2, G3⟩ := G.out
      have hql : qn = (subW xs y).length := by rw [← marks_sub]; exact Hqn.out
      have hW := Hg2.out.size
      rcases G3 with ⟨y1, y2, y3, y4⟩ | ⟨p1, p2, p3, p4, p5, p6, p7, p8⟩
      · have hq0 : qn = 0 := by rw [hql, y2]; rfl
        subst hq0
        have Hn := hid (Hnone.out y4)
        clear G1 G2 y2 y3 y4 hql
        go_wp2
        go_ret
        exact ⟨_, k, rfl, by rw [Hn.out]; exact HO.out.mono hW, Nat.le_refl _, gr_trans0 Hg2.out Hg.out⟩
      · have hq0 : 0 < qn := by omega
        have hq1 : (0 : Int) < qn := by omega
        obtain ⟨q1, q2, q3⟩ := quos_facts (leftA xs y m) (subW xs y) p3 p4 (by omega) p6
        have hla : m - sumI (baseL xs y) = leftA xs y m := rfl
        rw [hla]
        have hsub : Sl intL wr (some ⟨g2, 0, none⟩) qn (subW xs y) := (Ow.own_ints Ho2.out (by omega)).sl
        have hpl : Sl intL wr (some ⟨g1, 0, none⟩) qn (placesL 0 (maskL xs y)) := (Ow.own_ints Ho1.out (by omega)).sl
        have S := hid (shares_any (leftA xs y m) _ qn c2 (subW xs y) wr hsub (by omega) (by omega) p6 (fun x hx => by have := G1 x hx; omega) p4 q1 (by omega) q3)
        have Hsl := hid (shares_len (leftA xs y m) (subW xs y))
        have Hsum := hid (shares_sum (leftA xs y m) (subW xs y) q1 (by unfold leftOf; omega))
        have Hms := hid (marks_sub xs y)
        have Hpl := hid hpl
        have Hql := hid hql
        have hqm : qn = marks (maskL xs y) := Hqn.out
        have Hqm := hid hqm
        clear hqm
        clear G1 G2 p3 p4 p5 p7 p8 q1 q2 q3 hla hsub hpl hql
        go_wp2_with fail
        refine S.out.mono ?_
        rintro e w7 ⟨a7, c7, rfl, ho7, hc7, hg7⟩
        have Ho7 := hid ho7; clear ho7
        have Hpl7 := hid (Hpl.out.keep0 hg7)
        have HO7 := hid (HO.out.keep0 hg7)
        have Hg7 := hid (gr_trans0 Hg.out hg7)
        have hsz7 := hg7.size
        clear hg7
        have hml : (maskL xs y).length = k := by rw [mask_len]; exact hl
        have hbl : (baseL xs y).length = k := by rw [base_len]; exact hl
        generalize hsh : sharesF (leftA xs y m) (subW xs y) = sh at *
        have Hsh := hid hsh; clear hsh
        go_wp2_with fail
        go_loopw [72] (fun i wr' => ∃ j : Nat, j ≤ qn ∧ i = .int .i64 j ∧ Ow intL wr' w2.heap.size (some ⟨w2.heap.size, 0, none⟩) k (addL (baseL xs y) (expand (maskL xs y) (sh.take j ++ List.replicate (qn - j) 0))) ∧ w7.grownBy wr' (some w2.heap.size)) (fun i _ => qn - (intOf i).toNat)
        case atStart => exact ⟨0, by omega, rfl, by simpa [expand_zeros, hml, addL_zeros _ _ hbl] using HO7.out, gr_refl _ _⟩
        case round =>
          obtain ⟨j, hj, rfl, hOj, hgj⟩ := hrel
          by_cases hjl : j < qn
          · have hshl : sh.length = qn := by rw [Hsl.out]; exact Hql.out.symm
            obtain ⟨b1, o1, z, e1, hz, cz⟩ := int_at (Ho7.out.sl.keep hgj (fun h0 b off e1 e2 => by
              obtain ⟨b', off', e', hb', _⟩ := Ho7.out.mem h0
              rw [e1] at e'; cases e'; cases e2; omega)) j (by omega)
            subst e1
            obtain ⟨b2, o2, p, e2, hp, cp⟩ := int_at (Hpl7.out.keep hgj (fun h0 b off e1 e2 => by cases e1; cases e2; omega)) j hjl
            cases e2
            rw [placesL_at 0 _ j (by rw [← Hqm.out]; exact hjl)] at hp
            obtain rfl := Option.some.inj hp
            have hpos := posOf_lt (maskL xs y) j (by rw [← Hqm.out]; exact hjl)
            rw [hml] at hpos
            simp only [Nat.zero_add] at cp
            obtain ⟨b3, o3, v, e3, hv, hB3, _, hf3, hc3⟩ := hOj.at (posOf (maskL xs y) j) (by omega)
            simp only [Option.some.injEq, Addr.mk.injEq, and_true] at e3
            obtain ⟨rfl, rfl⟩ := e3
            have cv : wr.cell? ⟨w2.heap.size, posOf (maskL xs y) j, none⟩ = some (.int .i64 v) := by have := hc3 0 _ rfl; simpa [intL] using this
            have fv : wr.frozen? ⟨w2.heap.size, posOf (maskL xs y) j, none⟩ = false := hf3 _
            have hbp : (baseL xs y)[posOf (maskL xs y) j]? = some 0 := base_at_pos xs y j (by rw [← Hqm.out]; exact hjl)
            have hstep : addL (baseL xs y) (expand (maskL xs y) (sh.take (j + 1) ++ List.replicate (qn - (j + 1)) 0)) = (addL (baseL xs y) (expand (maskL xs y) (sh.take j ++ List.replicate (qn - j) 0))).set (posOf (maskL xs y) j) z := by
              rw [← fill_step sh qn j z 0 hz hshl, expand_set _ _ (by rw [List.length_append, List.length_take, List.length_replicate, ← Hqm.out]; omega) j (by rw [List.length_append, List.length_take, List.length_replicate]; omega), addL_set _ _ _ _ 0 hbp (by rw [hbl, expand_len, hml]), Int.zero_add]
            have Hv := hid hv; have Hstep := hid hstep
            have HOj := hid hOj; have Hgj := hid hgj
            clear hv hstep hOj hgj hc3 hf3 hz hbp
            generalize posOf (maskL xs y) j = pj at *
            have hp3 : (0 : Int) ≤ (pj : Int) := by omega
            have hp2 : (pj : Int) < k := by omega
            go_wp2
            go_roundw
            case rel =>
              refine ⟨j + 1, by omega, by go_num, ?_, gr_setCell Hgj.out (.inl rfl) _⟩
              rw [Hstep.out]
              exact HOj.out.set pj 0 v z (.int .i64 z) Hv.out (by simp [intL]) rfl pj (by simp [intL])
            case measure => simp [intOf]; omega
          · obtain rfl : j = qn := by omega
            have hshl : sh.length = j := by rw [Hsl.out]; exact Hql.out.symm
            have hfin := hOj
            rw [Nat.sub_self, List.replicate_zero, List.append_nil, take_len sh j hshl, ← Hfin.out] at hfin
            have HF := hid hfin
            have Hgj := hid hgj
            clear hOj hfin hgj
            go_wp2
            go_ret
            exact ⟨_, k, rfl, HF.out.mono hW, Nat.le_refl _, gr_own (gr_trans0 Hg2.out Hg7.out) Hgj.out (fun g e => by cases e; exact hW)⟩

end Go.Proofs.Ytecboohippbliaa
