/- Packed: Answer2. -/
import Derived.Test.YtielicmjdhmcjaaGreatDoorRows
import Derived.Test.YtielicmjdhmcjaaGreatDoorPk48
/- A line executed by the program's desk. -/
namespace Go.Proofs.YtielicmjdhmcjaaGreatDoor
open Go.RowKit

theorem cut_line (s : Desk) (l : List UInt8) : ∃ word rest fl, Lib.cut l [32] = (word, rest, fl) ∧ rest.length ≤ l.length ∧ (rest ≠ [] → word = bondW → lineD s l = bondD s rest) ∧ (rest ≠ [] → word = dayW → lineD s l = dayD s rest) ∧ ((rest = [] ∨ (word ≠ bondW ∧ word ≠ dayW)) → lineD s l = wordsD s (spl [] l)) := by
  rcases first_space l with h | ⟨a, r, rfl, ha⟩
  · refine ⟨l, [], false, cut_none l h, by simp, fun h => (h rfl).elim, fun h => (h rfl).elim, fun _ => ?_⟩
    obtain ⟨h1, h2⟩ := bondP_none h
    exact lineD_words h1 h2
  · refine ⟨a, r, true, cut_at a r ha, by simp; omega, fun hr hw => ?_, fun hr hw => ?_, fun h => ?_⟩
    · have : bondP (a ++ 32 :: r) = true := by rw [bondP_at ha, decide_eq_true hw, decide_eq_true hr]; rfl
      show (if _ then _ else _) = _
      rw [if_pos this, hw]
      simp [bondW]
    · have h1 : bondP (a ++ 32 :: r) = false := by rw [bondP_at ha, decide_eq_false (by rw [hw]; decide)]; rfl
      have h2 : dayP (a ++ 32 :: r) = true := by rw [dayP_at ha, decide_eq_true hw, decide_eq_true hr]; rfl
      show (if _ then _ else if _ then _ else _) = _
      rw [h1, if_pos h2, hw]
      simp [dayW]
    · refine lineD_words ?_ ?_
      · rw [bondP_at ha]
        rcases h with h | ⟨h, _⟩
        · rw [decide_eq_false (p := r ≠ []) (fun e => e h)]; simp
        · rw [decide_eq_false h]; rfl
      · rw [dayP_at ha]
        rcases h with h | ⟨_, h⟩
        · rw [decide_eq_false (p := r ≠ []) (fun e => e h)]; simp
        · rw [decide_eq_false h]; rfl

def CmdIs (sb : Nat) (k : List UInt8) (c : Int) (FV : Value) : Prop :=
  (k = accW ∧ c = 0 ∧ FV = (Value.func (.func 25) #[Value.pointer (some ⟨sb, 0, none⟩)] #[])) ∨ (k = totW ∧ c = 0 ∧ FV = (Value.func (.func 26) #[Value.pointer (some ⟨sb, 0, none⟩)] #[])) ∨ (k = buyW ∧ c = 2 ∧ FV = (Value.func (.func 27) #[Value.pointer (some ⟨sb, 0, none⟩)] #[])) ∨ (k = sellW ∧ c = 2 ∧ FV = (Value.func (.func 28) #[Value.pointer (some ⟨sb, 0, none⟩)] #[])) ∨ (k = posW ∧ c = 0 ∧ FV = (Value.func (.func 29) #[Value.pointer (some ⟨sb, 0, none⟩)] #[])) ∨ (k = gainW ∧ c = 0 ∧ FV = (Value.func (.func 30) #[Value.pointer (some ⟨sb, 0, none⟩)] #[])) ∨ (k = priceW ∧ c = 1 ∧ FV = (Value.func (.func 31) #[Value.pointer (some ⟨sb, 0, none⟩)] #[]))
theorem cmd_cell {sb : Nat} {k : List UInt8} {c : Int} {FV : Value} (h : CmdIs sb k c FV) : FV.oneCell' = true := by
  rcases h with ⟨_, _, rfl⟩ | ⟨_, _, rfl⟩ | ⟨_, _, rfl⟩ | ⟨_, _, rfl⟩ | ⟨_, _, rfl⟩ | ⟨_, _, rfl⟩ | ⟨_, _, rfl⟩ <;> rfl
theorem cmd_cases (sb : Nat) (k : List UInt8) : (lookK (cmdsK sb) k = none ∧ ∀ w ∈ [accW, totW, buyW, sellW, posW, gainW, priceW], k ≠ w) ∨ ∃ c FV, lookK (cmdsK sb) k = some (.agg #[.int .i64 c, FV]) ∧ CmdIs sb k c FV := by
  unfold CmdIs
  by_cases h1 : k = accW
  · subst h1; exact .inr ⟨_, _, rfl, .inl ⟨rfl, rfl, rfl⟩⟩
  by_cases h2 : k = totW
  · subst h2; exact .inr ⟨_, _, rfl, .inr (.inl ⟨rfl, rfl, rfl⟩)⟩
  by_cases h3 : k = buyW
  · subst h3; exact .inr ⟨_, _, rfl, .inr (.inr (.inl ⟨rfl, rfl, rfl⟩))⟩
  by_cases h4 : k = sellW
  · subst h4; exact .inr ⟨_, _, rfl, .inr (.inr (.inr (.inl ⟨rfl, rfl, rfl⟩)))⟩
  by_cases h5 : k = posW
  · subst h5; exact .inr ⟨_, _, rfl, .inr (.inr (.inr (.inr (.inl ⟨rfl, rfl, rfl⟩))))⟩
  by_cases h6 : k = gainW
  · subst h6; exact .inr ⟨_, _, rfl, .inr (.inr (.inr (.inr (.inr (.inl ⟨rfl, rfl, rfl⟩)))))⟩
  by_cases h7 : k = priceW
  · subst h7; exact .inr ⟨_, _, rfl, .inr (.inr (.inr (.inr (.inr (.inr ⟨rfl, rfl, rfl⟩)))))⟩
  left
  refine ⟨?_, by simp [h1, h2, h3, h4, h5, h6, h7]⟩
  unfold cmdsK
  simp only [lookK, if_neg h1, if_neg h2, if_neg h3, if_neg h4, if_neg h5, if_neg h6, if_neg h7]
theorem words_what (s : Desk) (x : List UInt8) (xs : List (List UInt8)) (h0 : xs.length = 0 → x ≠ accW ∧ x ≠ totW ∧ x ≠ posW ∧ x ≠ gainW) (h1 : xs.length = 1 → x ≠ priceW) (h2 : xs.length = 2 → x ≠ buyW ∧ x ≠ sellW) : wordsD s (x :: xs) = (s, whatT) := by
  match xs with
  | [] =>
    obtain ⟨a, b, c, d⟩ := h0 rfl
    show (if _ then _ else _) = _
    rw [if_neg a, if_neg b, if_neg c, if_neg d]
  | [y] =>
    show (if _ then _ else _) = _
    rw [if_neg (h1 rfl)]
  | [y, z] =>
    obtain ⟨a, b⟩ := h2 rfl
    show (if _ then _ else _) = _
    rw [if_neg a, if_neg b]
  | _ :: _ :: _ :: _ => rfl
theorem what_miss (s : Desk) (x : List UInt8) (xs : List (List UInt8)) (h : ∀ w ∈ [accW, totW, buyW, sellW, posW, gainW, priceW], x ≠ w) : wordsD s (x :: xs) = (s, whatT) :=
  words_what s x xs (fun _ => ⟨h _ (by simp), h _ (by simp), h _ (by simp), h _ (by simp)⟩) (fun _ => h _ (by simp)) (fun _ => ⟨h _ (by simp), h _ (by simp)⟩)
theorem what_count (sb : Nat) (s : Desk) (x : List UInt8) (xs : List (List UInt8)) (c : Int) (FV : Value) (h : CmdIs sb x c FV) (hc : ¬ (xs.length : Int) = c) : wordsD s (x :: xs) = (s, whatT) := by
  have ne : ∀ a b : List UInt8, x = a → a ≠ b → x ≠ b := fun a b e h2 e2 => h2 (e.symm.trans e2)
  rcases h with ⟨h, rfl, _⟩ | ⟨h, rfl, _⟩ | ⟨h, rfl, _⟩ | ⟨h, rfl, _⟩ | ⟨h, rfl, _⟩ | ⟨h, rfl, _⟩ | ⟨h, rfl, _⟩ <;>
    exact words_what s x xs (fun e => by first | (exfalso; omega) | exact ⟨ne _ _ h (by decide), ne _ _ h (by decide), ne _ _ h (by decide), ne _ _ h (by decide)⟩) (fun e => by first | (exfalso; omega) | exact ne _ _ h (by decide)) (fun e => by first | (exfalso; omega) | exact ⟨ne _ _ h (by decide), ne _ _ h (by decide)⟩)

theorem infoIntA : (Tryz.prog.info? 3).map (fun i => (i.zero, i.size, i.bytes)) = some (some (.int .i64 0), 1, 8) := by kernel_rfl
theorem World.size_alloc' (w : World) (o : Obj) : (w.alloc o).heap.size = w.heap.size + 1 := by simp
set_option maxRecDepth 100000 in
set_option maxHeartbeats 10000000 in
theorem answer_any (sb : Nat) (s : Desk) (l : List UInt8) (w : World) (hd : DeskAt 40 w sb s) (hok : OkDesk s) (hm : Laid4 w) (hl : l.length ≤ 2000000) :
    Calls Tryz.prog 18 #[.pointer (some ⟨sb, 0, none⟩), .string ⟨(l).toArray⟩] w fun e w' => e = .returned (.string ⟨((lineD s l).2).toArray⟩) ∧ DeskAt 40 w' sb (lineD s l).1 ∧ w.grownBy w' (some sb) := by
  have hmf : ∀ (fn : Fn) (first cap : Array Value) (w : World), (Instr.makeFunc fn first cap).run Tryz.prog w = .ok (.func fn first cap) w := fun _ _ _ _ => rfl
  have hmm1 : ∀ w, (Instr.makeMap 56 none).run Tryz.prog w = .ok (.map (some w.heap.size)) (w.alloc (.map #[] 0)) := fun w => run_makeMap_plain w _
  have hmm2 : ∀ w, (Instr.makeMap 60 none).run Tryz.prog w = .ok (.map (some w.heap.size)) (w.alloc (.map #[] 0)) := fun w => run_makeMap_plain w _
  obtain ⟨W1, W2, V1, V2, V3, V4, V5, V6, V7, ⟨i1, i2⟩, ⟨j1, j2, j3, j4, j5, j6, j7⟩, m1, m2, hg⟩ := tables sb w
  have M1 := hid m1
  have M2 := hid m2
  have HG := hid hg
  have HD := hid hd
  have Hm := hid hm
  have Hok := hid hok
  obtain ⟨word, rest, fl, hcut, hrl, hA, hB, hC⟩ := cut_line s l
  have HC := hid (cut_any l V7 (hm.keep0 hg) hl)
  rw [hcut] at HC
  have HP := hid (And.intro hA (And.intro hB hC))
  clear m1 m2 hg hd hm hok hcut hA hB hC
  go_enter Tryz.func18, Tryz.ntmps18
  go_wp2_with fail
  refine HC.out.mono ?_
  rintro e w3 ⟨rfl, hg3⟩
  have HG3 := hid (gr_trans0 HG.out hg3)
  have M13 := hid (M1.out.keep0 hg3)
  have M23 := hid (M2.out.keep0 hg3)
  clear HC hg3 i1 i2 j1 j2 j3 j4 j5 j6 j7 hmm1 hmm2 hmf M1 M2 HG
  generalize w.heap.size = r1 at *
  generalize W2.heap.size = r2 at *
  by_cases hb : word = bondW
  · have HL1 := map_look Tryz.underlying56 word ((Value.func (.func 23) #[Value.pointer (some ⟨sb, 0, none⟩)] #[])) M13.out (by rw [hb]; rfl)
    by_cases hr : rest = []
    · have HW := hid (HP.out.2.2 (.inl hr))
      subst hr
      clear HP hb
      obtain ⟨x0, xs, hws⟩ : ∃ x0 xs, spl [] l = x0 :: xs := by
        cases h : spl [] l with
        | nil => have := spl_pos [] l; rw [h] at this; simp at this
        | cons x xs => exact ⟨x, xs, rfl⟩
      rw [hws] at HW
      go_wp2_with fail
      refine (split_any l w3 (Hm.out.keep0 HG3.out) hl).mono ?_
      rintro e w4 ⟨n, rfl, hs4, hg4, hn4⟩
      rw [hws] at hs4
      have HG4 := hid (gr_trans0 HG3.out hg4)
      have M24 := hid (M23.out.keep0 hg4)
      have k0 := wordsl_at hs4 0 x0 rfl
      have hlen := hs4.len
      rw [List.length_cons] at hlen
      have hn0 : 0 < n := by omega
      have HS4 := hid hs4
      clear hs4 hg4
      rcases cmd_cases sb x0 with ⟨hk, hne⟩ | ⟨cnt, FV, hk, hc⟩
      · have HL := map_miss Tryz.underlying60 Tryz.zeroValue59 x0 M24.out hk
        have HT := hid (what_miss s x0 xs hne)
        have hst : ∀ (a : Addr) (m : Mode) (W : World), (store a .nilFunc m).run Tryz.prog W = stored Tryz.prog W a .nilFunc m := fun a m W => run_store _ W a _ m rfl
        clear hk hne hlen
        go_wp2_with fail
        go_ret
        exact ⟨ret_text (a := whatT) (by rw [HW.out, HT.out]), by rw [HW.out, HT.out]; exact HD.out.keep0 (gr_alloc HG4.out _), gr_any (gr_alloc HG4.out _) _⟩
      · have HL := map_look Tryz.underlying60 x0 _ M24.out hk
        have hst : ∀ (a : Addr) (m : Mode) (W : World), (store a FV m).run Tryz.prog W = stored Tryz.prog W a FV m := fun a m W => run_store _ W a _ m (cmd_cell hc)
        have hu : IntKind.i64.wrap ((n : Int) - 1) = (n : Int) - 1 := IntWalk.i64_in _ (by omega)
        by_cases hq : (xs.length : Int) = cnt
        · have Hc := hid hc
          have hcn : cnt = (n : Int) - 1 := by omega
          subst hcn
          clear hk hq hc
          have HB5 := hid (heap_alloc_new w4 (Obj.cells #[.int .i64 ((n : Int) - 1), FV] 59))
          by_cases hn1 : n = 1
          · subst hn1
            obtain rfl : xs = [] := List.eq_nil_of_length_eq_zero (by omega)
            go_wp2_with fail
            go_loopw [15, 91] (fun o i wr => o = .slice (some ⟨w4.heap.size + 1, 0, none⟩) 0 0 ∧ i = .int .i64 0 ∧ wr = ((w4.alloc (Obj.cells #[.int .i64 0, FV] 59)).alloc (Obj.cells #[] 3))) (fun _ _ _ => 0)
            case atStart => exact ⟨rfl, rfl, rfl⟩
            case round =>
              obtain ⟨rfl, rfl, rfl⟩ := hrel
              have HG5 := hid (gr_alloc (gr_alloc HG4.out (Obj.cells #[.int .i64 0, FV] 59)) (Obj.cells #[] 3))
              have HD5 := hid (HD.out.keep0 HG5.out)
              have Hm5 := hid (Hm.out.keep0 HG5.out)
              rcases Hc.out with ⟨hx, _, rfl⟩ | ⟨hx, _, rfl⟩ | ⟨_, hx, _⟩ | ⟨_, hx, _⟩ | ⟨hx, _, rfl⟩ | ⟨hx, _, rfl⟩ | ⟨_, hx, _⟩
              · have HT := hid (show wordsD s [x0] = (s, amtT (accF s.bond s.day)) by rw [hx]; rfl)
                clear hx
                have HF := hid (accrued_any sb s (.slice (some ⟨w4.heap.size + 1, 0, none⟩) 0 0) _ HD5.out Hm5.out)
                go_wp2_with fail
                refine HF.out.mono ?_
                rintro e w6 ⟨rfl, hg6⟩
                have HG6 := hid (gr_trans0 HG5.out hg6)
                clear hg6
                go_wp2_with fail
                go_ret
                exact ⟨ret_text (by rw [HW.out, HT.out]), by rw [HW.out, HT.out]; exact HD.out.keep0 HG6.out, gr_any HG6.out _⟩
              · have HT := hid (show wordsD s [x0] = (s, amtT (totF s.bond)) by rw [hx]; rfl)
                clear hx
                have HF := hid (total_any sb s (.slice (some ⟨w4.heap.size + 1, 0, none⟩) 0 0) _ HD5.out Hm5.out)
                go_wp2_with fail
                refine HF.out.mono ?_
                rintro e w6 ⟨rfl, hg6⟩
                have HG6 := hid (gr_trans0 HG5.out hg6)
                clear hg6
                go_wp2_with fail
                go_ret
                exact ⟨ret_text (by rw [HW.out, HT.out]), by rw [HW.out, HT.out]; exact HD.out.keep0 HG6.out, gr_any HG6.out _⟩
              · exfalso; omega
              · exfalso; omega
              · have HT := hid (show wordsD s [x0] = (s, sigT (posF s.trades s.day)) by rw [hx]; rfl)
                clear hx
                have HF := hid (position_any sb s (.slice (some ⟨w4.heap.size + 1, 0, none⟩) 0 0) _ HD5.out Hm5.out)
                go_wp2_with fail
                refine HF.out.mono ?_
                rintro e w6 ⟨rfl, hg6⟩
                have HG6 := hid (gr_trans0 HG5.out hg6)
                clear hg6
                go_wp2_with fail
                go_ret
                exact ⟨ret_text (by rw [HW.out, HT.out]), by rw [HW.out, HT.out]; exact HD.out.keep0 HG6.out, gr_any HG6.out _⟩
              · have HT := hid (show wordsD s [x0] = (s, sigT (gainF s.trades)) by rw [hx]; rfl)
                clear hx
                have HF := hid (gain_any sb s (.slice (some ⟨w4.heap.size + 1, 0, none⟩) 0 0) _ HD5.out Hm5.out)
                go_wp2_with fail
                refine HF.out.mono ?_
                rintro e w6 ⟨rfl, hg6⟩
                have HG6 := hid (gr_trans0 HG5.out hg6)
                clear hg6
                go_wp2_with fail
                go_ret
                exact ⟨ret_text (by rw [HW.out, HT.out]), by rw [HW.out, HT.out]; exact HD.out.keep0 HG6.out, gr_any HG6.out _⟩
              · exfalso; omega
          obtain ⟨i0, hi, hz0, hz1, hz2⟩ := infoPtsD infoIntA
          have HO5 := hid (World.ownsRow_made (base := w4.heap.size + 1) (size := 1) (e := 3) (w4.alloc (Obj.cells #[.int .i64 ((n : Int) - 1), FV] 59)) #[] 0 (by simp) (by decide) rfl)
          have HG5 := hid (gr_alloc HG4.out (Obj.cells #[.int .i64 ((n : Int) - 1), FV] 59))
          have HH5 := hid (gr_alloc (gr_refl w4 none) (Obj.cells #[.int .i64 ((n : Int) - 1), FV] 59))
          have hn2 : 1 < n := by omega
          go_wp2_with fail
          go_loopw [15, 91] (fun o i wr => ∃ k g gc : Nat, k ≤ n - 1 ∧ i = .int .i64 k ∧ o = .slice (some ⟨g, 0, none⟩) k gc ∧ Hid (wr.ownsRow (w4.heap.size + 1) 3 1 (.slice (some ⟨g, 0, none⟩) k gc) k (((xs.take k).map numW).flatMap intL.cells)) ∧ Hid ((w4.alloc (Obj.cells #[.int .i64 ((n : Int) - 1), FV] 59)).grownBy wr none)) (fun _ i _ => n - (intOf i).toNat)
          case atStart => exact ⟨0, w4.heap.size + 1, 0, by omega, rfl, rfl, hid (by simpa using HO5.out), hid (gr_alloc (gr_refl _ _) _)⟩
          case round =>
            obtain ⟨k, g, gc, hk, rfl, rfl, HO, HGr⟩ := hrel
            by_cases hkn : k < n - 1
            · have hd : decide (k < n - 1) = true := by simpa using hkn
              obtain ⟨x, hx⟩ : ∃ x, xs[k]? = some x := ⟨xs[k]'(by omega), List.getElem?_eq_getElem (by omega)⟩
              have kx := wordsl_at (HS4.out.keep0 (gr_trans0 HH5.out HGr.out)) (k + 1) x (by simpa using hx)
              rw [Nat.add_comm k 1] at kx
              have hxl : x.length ≤ 2000000 := by
                have := spl_len l [] x (by rw [hws]; exact List.mem_cons_of_mem _ (List.mem_of_getElem? hx))
                simp at this; omega
              have HNW := hid (numberWord_any x wr hxl)
              have Hx := hid hx
              have hk2 := hid hkn
              clear hx hkn
              go_wp2_with fail
              refine HNW.out.mono ?_
              rintro e w6 ⟨rfl, hg6⟩
              have HO6 := hid (own_keep0 HO.out hg6)
              have HGr6 := hid (gr_trans0 HGr.out hg6)
              have hle6 := gr_le HGr6.out
              rw [World.size_alloc'] at hle6
              clear hg6 kx
              go_wp2_with (at_builtin; go_must (refine wpList_append_lies _ rfl _ _ _ rfl (w4.heap.size + 1) 3 i0 _ 1 8 Tryz.underlying66 hi hz0 hz1 hz2 rfl (by decide) _ _ _ rfl (HO6.out.alloc _) ⟨w6.heap.size, 0, none⟩ 1 1 [.int .i64 (numW x)] rfl rfl (cells_new w6 _ _ _ rfl) ?d2 (by decide) ?d3 ?d4 ?d5 _ rfl ?_))
              case d2 => simp [Value.oneCell']
              case d3 => unfold maxLen; omega
              case d4 => omega
              case d5 => simp; omega
              intro g' gc' w9 hown9 hgo9 hat9 hlt9
              have Hf9 := hid hown9
              have Hg9 := hid (gr_own (gr_alloc HGr6.out _) hgo9 (fun x e => by have := (HO6.out.lt x e).1; simp; omega))
              clear hown9 hgo9 hat9 hlt9
              go_wp2_with fail
              go_roundw
              case rel =>
                refine ⟨k + 1, g', gc', by have := hk2.out; omega, by go_num, rfl, hid ?_, Hg9⟩
                rw [take_snoc _ _ _ Hx.out, List.map_append, List.flatMap_append, List.map_take]
                exact Hf9.out
              case measure => have := hk2.out; simp [intOf]; omega
            · have hd : decide (k < n - 1) = false := by simpa using hkn
              obtain rfl : k = n - 1 := by omega
              have HG6 := hid (gr_trans0 HG5.out HGr.out)
              have HD6 := hid (HD.out.keep0 HG6.out)
              have Hm6 := hid (Hm.out.keep0 HG6.out)
              have hB := blk_keep HB5.out HGr.out (by simp)
              have b1 := blk_cell hB 1 _ rfl
              rw [List.take_of_length_le (show xs.length ≤ n - 1 by omega)] at HO
              have HN := hid (Sl.of_own (L := intL) HO.out (by rw [List.length_map]; omega) (by unfold maxLen; omega))
              clear hB hkn
              rcases Hc.out with ⟨_, hx, _⟩ | ⟨_, hx, _⟩ | ⟨hx, hcn, rfl⟩ | ⟨hx, hcn, rfl⟩ | ⟨_, hx, _⟩ | ⟨_, hx, _⟩ | ⟨hx, hcn, rfl⟩
              · exfalso; omega
              · exfalso; omega
              · obtain rfl : n = 3 := by omega
                obtain ⟨p, q, rfl⟩ : ∃ p q, xs = [p, q] := by
                  match xs, hlen with
                  | [p, q], _ => exact ⟨p, q, rfl⟩
                have HT := hid (show wordsD s [x0, p, q] = tradeD s (numW p) (numW q) by rw [hx]; rfl)
                have HF := hid (buy_any sb s (some ⟨g, 0, none⟩) gc (numW p) (numW q) wr HD6.out Hok.out HN.out)
                clear hx hcn hlen
                go_wp2_with fail
                refine HF.out.mono ?_
                rintro e w7 ⟨rfl, hd7, hg7⟩
                have HD7 := hid hd7
                have HG7 := hid (gr_transS (gr_any HG6.out _) hg7)
                clear hd7 hg7
                go_wp2_with fail
                go_ret
                exact ⟨ret_text (by rw [HW.out, HT.out]), by rw [HW.out, HT.out]; exact HD7.out, HG7.out⟩
              · obtain rfl : n = 3 := by omega
                obtain ⟨p, q, rfl⟩ : ∃ p q, xs = [p, q] := by
                  match xs, hlen with
                  | [p, q], _ => exact ⟨p, q, rfl⟩
                have HT := hid (show wordsD s [x0, p, q] = tradeD s (-numW p) (numW q) by rw [hx]; rfl)
                have hpb : -1099511627776 ≤ numW p ∧ numW p ≤ 1099511627776 := by have := numW_bd p; unfold impN at this; omega
                have HF := hid (sell_any sb s (some ⟨g, 0, none⟩) gc (numW p) (numW q) wr HD6.out Hok.out HN.out hpb.1 hpb.2)
                clear hx hcn hlen
                go_wp2_with fail
                refine HF.out.mono ?_
                rintro e w7 ⟨rfl, hd7, hg7⟩
                have HD7 := hid hd7
                have HG7 := hid (gr_transS (gr_any HG6.out _) hg7)
                clear hd7 hg7
                go_wp2_with fail
                go_ret
                exact ⟨ret_text (by rw [HW.out, HT.out]), by rw [HW.out, HT.out]; exact HD7.out, HG7.out⟩
              · exfalso; omega
              · exfalso; omega
              · obtain rfl : n = 2 := by omega
                obtain ⟨p, rfl⟩ : ∃ p, xs = [p] := by
                  match xs, hlen with
                  | [p], _ => exact ⟨p, rfl⟩
                have HT := hid (show wordsD s [x0, p] = (s, priceT s (numW p)) by rw [hx]; rfl)
                have HF := hid (price_any sb s (some ⟨g, 0, none⟩) gc (numW p) wr HD6.out Hm6.out HN.out)
                clear hx hcn hlen
                go_wp2_with fail
                refine HF.out.mono ?_
                rintro e w7 ⟨rfl, hg7⟩
                have HG7 := hid (gr_trans0 HG6.out hg7)
                clear hg7
                go_wp2_with fail
                go_ret
                exact ⟨ret_text (by rw [HW.out, HT.out]), by rw [HW.out, HT.out]; exact HD.out.keep0 HG7.out, gr_any HG7.out _⟩
        · have HT := hid (what_count sb s x0 xs cnt FV hc hq)
          have hq2 : ((n : Int) - 1 != cnt) = true := by simp; omega
          clear hk hq hc hlen
          go_wp2_with fail
          go_ret
          exact ⟨ret_text (a := whatT) (by rw [HW.out, HT.out]), by rw [HW.out, HT.out]; exact HD.out.keep0 (gr_alloc HG4.out _), gr_any (gr_alloc HG4.out _) _⟩
    · have HT := hid (HP.out.1 hr hb)
      have HF := hid (setBond_any sb s rest w3 (HD.out.keep0 HG3.out) (Hm.out.keep0 HG3.out) (by omega))
      have hr1 : (rest != []) = true := by simpa using hr
      have hr2 : (rest == []) = false := by simpa using hr
      clear HP hb
      go_wp2_with fail
      refine HF.out.mono ?_
      rintro e w5 ⟨rfl, hd5, hg5⟩
      have HD5 := hid hd5
      have HG5 := hid (gr_transS (gr_any HG3.out _) hg5)
      clear hd5 hg5
      go_wp2_with fail
      go_ret
      exact ⟨ret_text (by rw [HT.out]), by rw [HT.out]; exact HD5.out, HG5.out⟩
  by_cases hb2 : word = dayW
  · have HL1 := map_look Tryz.underlying56 word ((Value.func (.func 24) #[Value.pointer (some ⟨sb, 0, none⟩)] #[])) M13.out (by rw [hb2]; rfl)
    by_cases hr : rest = []
    · have HW := hid (HP.out.2.2 (.inl hr))
      subst hr
      clear HP hb hb2
      obtain ⟨x0, xs, hws⟩ : ∃ x0 xs, spl [] l = x0 :: xs := by
        cases h : spl [] l with
        | nil => have := spl_pos [] l; rw [h] at this; simp at this
        | cons x xs => exact ⟨x, xs, rfl⟩
      rw [hws] at HW
      go_wp2_with fail
      refine (split_any l w3 (Hm.out.keep0 HG3.out) hl).mono ?_
      rintro e w4 ⟨n, rfl, hs4, hg4, hn4⟩
      rw [hws] at hs4
      have HG4 := hid (gr_trans0 HG3.out hg4)
      have M24 := hid (M23.out.keep0 hg4)
      have k0 := wordsl_at hs4 0 x0 rfl
      have hlen := hs4.len
      rw [List.length_cons] at hlen
      have hn0 : 0 < n := by omega
      have HS4 := hid hs4
      clear hs4 hg4
      rcases cmd_cases sb x0 with ⟨hk, hne⟩ | ⟨cnt, FV, hk, hc⟩
      · have HL := map_miss Tryz.underlying60 Tryz.zeroValue59 x0 M24.out hk
        have HT := hid (what_miss s x0 xs hne)
        have hst : ∀ (a : Addr) (m : Mode) (W : World), (store a .nilFunc m).run Tryz.prog W = stored Tryz.prog W a .nilFunc m := fun a m W => run_store _ W a _ m rfl
        clear hk hne hlen
        go_wp2_with fail
        go_ret
        exact ⟨ret_text (a := whatT) (by rw [HW.out, HT.out]), by rw [HW.out, HT.out]; exact HD.out.keep0 (gr_alloc HG4.out _), gr_any (gr_alloc HG4.out _) _⟩
      · have HL := map_look Tryz.underlying60 x0 _ M24.out hk
        have hst : ∀ (a : Addr) (m : Mode) (W : World), (store a FV m).run Tryz.prog W = stored Tryz.prog W a FV m := fun a m W => run_store _ W a _ m (cmd_cell hc)
        have hu : IntKind.i64.wrap ((n : Int) - 1) = (n : Int) - 1 := IntWalk.i64_in _ (by omega)
        by_cases hq : (xs.length : Int) = cnt
        · have Hc := hid hc
          have hcn : cnt = (n : Int) - 1 := by omega
          subst hcn
          clear hk hq hc
          have HB5 := hid (heap_alloc_new w4 (Obj.cells #[.int .i64 ((n : Int) - 1), FV] 59))
          by_cases hn1 : n = 1
          · subst hn1
            obtain rfl : xs = [] := List.eq_nil_of_length_eq_zero (by omega)
            go_wp2_with fail
            go_loopw [15, 91] (fun o i wr => o = .slice (some ⟨w4.heap.size + 1, 0, none⟩) 0 0 ∧ i = .int .i64 0 ∧ wr = ((w4.alloc (Obj.cells #[.int .i64 0, FV] 59)).alloc (Obj.cells #[] 3))) (fun _ _ _ => 0)
            case atStart => exact ⟨rfl, rfl, rfl⟩
            case round =>
              obtain ⟨rfl, rfl, rfl⟩ := hrel
              have HG5 := hid (gr_alloc (gr_alloc HG4.out (Obj.cells #[.int .i64 0, FV] 59)) (Obj.cells #[] 3))
              have HD5 := hid (HD.out.keep0 HG5.out)
              have Hm5 := hid (Hm.out.keep0 HG5.out)
              rcases Hc.out with ⟨hx, _, rfl⟩ | ⟨hx, _, rfl⟩ | ⟨_, hx, _⟩ | ⟨_, hx, _⟩ | ⟨hx, _, rfl⟩ | ⟨hx, _, rfl⟩ | ⟨_, hx, _⟩
              · have HT := hid (show wordsD s [x0] = (s, amtT (accF s.bond s.day)) by rw [hx]; rfl)
                clear hx
                have HF := hid (accrued_any sb s (.slice (some ⟨w4.heap.size + 1, 0, none⟩) 0 0) _ HD5.out Hm5.out)
                go_wp2_with fail
                refine HF.out.mono ?_
                rintro e w6 ⟨rfl, hg6⟩
                have HG6 := hid (gr_trans0 HG5.out hg6)
                clear hg6
                go_wp2_with fail
                go_ret
                exact ⟨ret_text (by rw [HW.out, HT.out]), by rw [HW.out, HT.out]; exact HD.out.keep0 HG6.out, gr_any HG6.out _⟩
              · have HT := hid (show wordsD s [x0] = (s, amtT (totF s.bond)) by rw [hx]; rfl)
                clear hx
                have HF := hid (total_any sb s (.slice (some ⟨w4.heap.size + 1, 0, none⟩) 0 0) _ HD5.out Hm5.out)
                go_wp2_with fail
                refine HF.out.mono ?_
                rintro e w6 ⟨rfl, hg6⟩
                have HG6 := hid (gr_trans0 HG5.out hg6)
                clear hg6
                go_wp2_with fail
                go_ret
                exact ⟨ret_text (by rw [HW.out, HT.out]), by rw [HW.out, HT.out]; exact HD.out.keep0 HG6.out, gr_any HG6.out _⟩
              · exfalso; omega
              · exfalso; omega
              · have HT := hid (show wordsD s [x0] = (s, sigT (posF s.trades s.day)) by rw [hx]; rfl)
                clear hx
                have HF := hid (position_any sb s (.slice (some ⟨w4.heap.size + 1, 0, none⟩) 0 0) _ HD5.out Hm5.out)
                go_wp2_with fail
                refine HF.out.mono ?_
                rintro e w6 ⟨rfl, hg6⟩
                have HG6 := hid (gr_trans0 HG5.out hg6)
                clear hg6
                go_wp2_with fail
                go_ret
                exact ⟨ret_text (by rw [HW.out, HT.out]), by rw [HW.out, HT.out]; exact HD.out.keep0 HG6.out, gr_any HG6.out _⟩
              · have HT := hid (show wordsD s [x0] = (s, sigT (gainF s.trades)) by rw [hx]; rfl)
                clear hx
                have HF := hid (gain_any sb s (.slice (some ⟨w4.heap.size + 1, 0, none⟩) 0 0) _ HD5.out Hm5.out)
                go_wp2_with fail
                refine HF.out.mono ?_
                rintro e w6 ⟨rfl, hg6⟩
                have HG6 := hid (gr_trans0 HG5.out hg6)
                clear hg6
                go_wp2_with fail
                go_ret
                exact ⟨ret_text (by rw [HW.out, HT.out]), by rw [HW.out, HT.out]; exact HD.out.keep0 HG6.out, gr_any HG6.out _⟩
              · exfalso; omega
          obtain ⟨i0, hi, hz0, hz1, hz2⟩ := infoPtsD infoIntA
          have HO5 := hid (World.ownsRow_made (base := w4.heap.size + 1) (size := 1) (e := 3) (w4.alloc (Obj.cells #[.int .i64 ((n : Int) - 1), FV] 59)) #[] 0 (by simp) (by decide) rfl)
          have HG5 := hid (gr_alloc HG4.out (Obj.cells #[.int .i64 ((n : Int) - 1), FV] 59))
          have HH5 := hid (gr_alloc (gr_refl w4 none) (Obj.cells #[.int .i64 ((n : Int) - 1), FV] 59))
          have hn2 : 1 < n := by omega
          go_wp2_with fail
          go_loopw [15, 91] (fun o i wr => ∃ k g gc : Nat, k ≤ n - 1 ∧ i = .int .i64 k ∧ o = .slice (some ⟨g, 0, none⟩) k gc ∧ Hid (wr.ownsRow (w4.heap.size + 1) 3 1 (.slice (some ⟨g, 0, none⟩) k gc) k (((xs.take k).map numW).flatMap intL.cells)) ∧ Hid ((w4.alloc (Obj.cells #[.int .i64 ((n : Int) - 1), FV] 59)).grownBy wr none)) (fun _ i _ => n - (intOf i).toNat)
          case atStart => exact ⟨0, w4.heap.size + 1, 0, by omega, rfl, rfl, hid (by simpa using HO5.out), hid (gr_alloc (gr_refl _ _) _)⟩
          case round =>
            obtain ⟨k, g, gc, hk, rfl, rfl, HO, HGr⟩ := hrel
            by_cases hkn : k < n - 1
            · have hd : decide (k < n - 1) = true := by simpa using hkn
              obtain ⟨x, hx⟩ : ∃ x, xs[k]? = some x := ⟨xs[k]'(by omega), List.getElem?_eq_getElem (by omega)⟩
              have kx := wordsl_at (HS4.out.keep0 (gr_trans0 HH5.out HGr.out)) (k + 1) x (by simpa using hx)
              rw [Nat.add_comm k 1] at kx
              have hxl : x.length ≤ 2000000 := by
                have := spl_len l [] x (by rw [hws]; exact List.mem_cons_of_mem _ (List.mem_of_getElem? hx))
                simp at this; omega
              have HNW := hid (numberWord_any x wr hxl)
              have Hx := hid hx
              have hk2 := hid hkn
              clear hx hkn
              go_wp2_with fail
              refine HNW.out.mono ?_
              rintro e w6 ⟨rfl, hg6⟩
              have HO6 := hid (own_keep0 HO.out hg6)
              have HGr6 := hid (gr_trans0 HGr.out hg6)
              have hle6 := gr_le HGr6.out
              rw [World.size_alloc'] at hle6
              clear hg6 kx
              go_wp2_with (at_builtin; go_must (refine wpList_append_lies _ rfl _ _ _ rfl (w4.heap.size + 1) 3 i0 _ 1 8 Tryz.underlying66 hi hz0 hz1 hz2 rfl (by decide) _ _ _ rfl (HO6.out.alloc _) ⟨w6.heap.size, 0, none⟩ 1 1 [.int .i64 (numW x)] rfl rfl (cells_new w6 _ _ _ rfl) ?d2 (by decide) ?d3 ?d4 ?d5 _ rfl ?_))
              case d2 => simp [Value.oneCell']
              case d3 => unfold maxLen; omega
              case d4 => omega
              case d5 => simp; omega
              intro g' gc' w9 hown9 hgo9 hat9 hlt9
              have Hf9 := hid hown9
              have Hg9 := hid (gr_own (gr_alloc HGr6.out _) hgo9 (fun x e => by have := (HO6.out.lt x e).1; simp; omega))
              clear hown9 hgo9 hat9 hlt9
              go_wp2_with fail
              go_roundw
              case rel =>
                refine ⟨k + 1, g', gc', by have := hk2.out; omega, by go_num, rfl, hid ?_, Hg9⟩
                rw [take_snoc _ _ _ Hx.out, List.map_append, List.flatMap_append, List.map_take]
                exact Hf9.out
              case measure => have := hk2.out; simp [intOf]; omega
            · have hd : decide (k < n - 1) = false := by simpa using hkn
              obtain rfl : k = n - 1 := by omega
              have HG6 := hid (gr_trans0 HG5.out HGr.out)
              have HD6 := hid (HD.out.keep0 HG6.out)
              have Hm6 := hid (Hm.out.keep0 HG6.out)
              have hB := blk_keep HB5.out HGr.out (by simp)
              have b1 := blk_cell hB 1 _ rfl
              rw [List.take_of_length_le (show xs.length ≤ n - 1 by omega)] at HO
              have HN := hid (Sl.of_own (L := intL) HO.out (by rw [List.length_map]; omega) (by unfold maxLen; omega))
              clear hB hkn
              rcases Hc.out with ⟨_, hx, _⟩ | ⟨_, hx, _⟩ | ⟨hx, hcn, rfl⟩ | ⟨hx, hcn, rfl⟩ | ⟨_, hx, _⟩ | ⟨_, hx, _⟩ | ⟨hx, hcn, rfl⟩
              · exfalso; omega
              · exfalso; omega
              · obtain rfl : n = 3 := by omega
                obtain ⟨p, q, rfl⟩ : ∃ p q, xs = [p, q] := by
                  match xs, hlen with
                  | [p, q], _ => exact ⟨p, q, rfl⟩
                have HT := hid (show wordsD s [x0, p, q] = tradeD s (numW p) (numW q) by rw [hx]; rfl)
                have HF := hid (buy_any sb s (some ⟨g, 0, none⟩) gc (numW p) (numW q) wr HD6.out Hok.out HN.out)
                clear hx hcn hlen
                go_wp2_with fail
                refine HF.out.mono ?_
                rintro e w7 ⟨rfl, hd7, hg7⟩
                have HD7 := hid hd7
                have HG7 := hid (gr_transS (gr_any HG6.out _) hg7)
                clear hd7 hg7
                go_wp2_with fail
                go_ret
                exact ⟨ret_text (by rw [HW.out, HT.out]), by rw [HW.out, HT.out]; exact HD7.out, HG7.out⟩
              · obtain rfl : n = 3 := by omega
                obtain ⟨p, q, rfl⟩ : ∃ p q, xs = [p, q] := by
                  match xs, hlen with
                  | [p, q], _ => exact ⟨p, q, rfl⟩
                have HT := hid (show wordsD s [x0, p, q] = tradeD s (-numW p) (numW q) by rw [hx]; rfl)
                have hpb : -1099511627776 ≤ numW p ∧ numW p ≤ 1099511627776 := by have := numW_bd p; unfold impN at this; omega
                have HF := hid (sell_any sb s (some ⟨g, 0, none⟩) gc (numW p) (numW q) wr HD6.out Hok.out HN.out hpb.1 hpb.2)
                clear hx hcn hlen
                go_wp2_with fail
                refine HF.out.mono ?_
                rintro e w7 ⟨rfl, hd7, hg7⟩
                have HD7 := hid hd7
                have HG7 := hid (gr_transS (gr_any HG6.out _) hg7)
                clear hd7 hg7
                go_wp2_with fail
                go_ret
                exact ⟨ret_text (by rw [HW.out, HT.out]), by rw [HW.out, HT.out]; exact HD7.out, HG7.out⟩
              · exfalso; omega
              · exfalso; omega
              · obtain rfl : n = 2 := by omega
                obtain ⟨p, rfl⟩ : ∃ p, xs = [p] := by
                  match xs, hlen with
                  | [p], _ => exact ⟨p, rfl⟩
                have HT := hid (show wordsD s [x0, p] = (s, priceT s (numW p)) by rw [hx]; rfl)
                have HF := hid (price_any sb s (some ⟨g, 0, none⟩) gc (numW p) wr HD6.out Hm6.out HN.out)
                clear hx hcn hlen
                go_wp2_with fail
                refine HF.out.mono ?_
                rintro e w7 ⟨rfl, hg7⟩
                have HG7 := hid (gr_trans0 HG6.out hg7)
                clear hg7
                go_wp2_with fail
                go_ret
                exact ⟨ret_text (by rw [HW.out, HT.out]), by rw [HW.out, HT.out]; exact HD.out.keep0 HG7.out, gr_any HG7.out _⟩
        · have HT := hid (what_count sb s x0 xs cnt FV hc hq)
          have hq2 : ((n : Int) - 1 != cnt) = true := by simp; omega
          clear hk hq hc hlen
          go_wp2_with fail
          go_ret
          exact ⟨ret_text (a := whatT) (by rw [HW.out, HT.out]), by rw [HW.out, HT.out]; exact HD.out.keep0 (gr_alloc HG4.out _), gr_any (gr_alloc HG4.out _) _⟩
    · have HT := hid (HP.out.2.1 hr hb2)
      have HF := hid (setDay_any sb s rest w3 (HD.out.keep0 HG3.out) (Hm.out.keep0 HG3.out) (by omega))
      have hr1 : (rest != []) = true := by simpa using hr
      have hr2 : (rest == []) = false := by simpa using hr
      clear HP hb hb2
      go_wp2_with fail
      refine HF.out.mono ?_
      rintro e w5 ⟨rfl, hd5, hg5⟩
      have HD5 := hid hd5
      have HG5 := hid (gr_transS (gr_any HG3.out _) hg5)
      clear hd5 hg5
      go_wp2_with fail
      go_ret
      exact ⟨ret_text (by rw [HT.out]), by rw [HT.out]; exact HD5.out, HG5.out⟩
  have HL1 := map_miss Tryz.underlying56 Tryz.zeroValue48 word M13.out (by unfold textsK; simp only [lookK, if_neg hb, if_neg hb2])
  have HW := hid (HP.out.2.2 (.inr ⟨hb, hb2⟩))
  clear HP hb hb2
  obtain ⟨x0, xs, hws⟩ : ∃ x0 xs, spl [] l = x0 :: xs := by
    cases h : spl [] l with
    | nil => have := spl_pos [] l; rw [h] at this; simp at this
    | cons x xs => exact ⟨x, xs, rfl⟩
  rw [hws] at HW
  go_wp2_with fail
  refine (split_any l w3 (Hm.out.keep0 HG3.out) hl).mono ?_
  rintro e w4 ⟨n, rfl, hs4, hg4, hn4⟩
  rw [hws] at hs4
  have HG4 := hid (gr_trans0 HG3.out hg4)
  have M24 := hid (M23.out.keep0 hg4)
  have k0 := wordsl_at hs4 0 x0 rfl
  have hlen := hs4.len
  rw [List.length_cons] at hlen
  have hn0 : 0 < n := by omega
  have HS4 := hid hs4
  clear hs4 hg4
  rcases cmd_cases sb x0 with ⟨hk, hne⟩ | ⟨cnt, FV, hk, hc⟩
  · have HL := map_miss Tryz.underlying60 Tryz.zeroValue59 x0 M24.out hk
    have HT := hid (what_miss s x0 xs hne)
    have hst : ∀ (a : Addr) (m : Mode) (W : World), (store a .nilFunc m).run Tryz.prog W = stored Tryz.prog W a .nilFunc m := fun a m W => run_store _ W a _ m rfl
    clear hk hne hlen
    go_wp2_with fail
    go_ret
    exact ⟨ret_text (a := whatT) (by rw [HW.out, HT.out]), by rw [HW.out, HT.out]; exact HD.out.keep0 (gr_alloc HG4.out _), gr_any (gr_alloc HG4.out _) _⟩
  · have HL := map_look Tryz.underlying60 x0 _ M24.out hk
    have hst : ∀ (a : Addr) (m : Mode) (W : World), (store a FV m).run Tryz.prog W = stored Tryz.prog W a FV m := fun a m W => run_store _ W a _ m (cmd_cell hc)
    have hu : IntKind.i64.wrap ((n : Int) - 1) = (n : Int) - 1 := IntWalk.i64_in _ (by omega)
    by_cases hq : (xs.length : Int) = cnt
    · have Hc := hid hc
      have hcn : cnt = (n : Int) - 1 := by omega
      subst hcn
      clear hk hq hc
      have HB5 := hid (heap_alloc_new w4 (Obj.cells #[.int .i64 ((n : Int) - 1), FV] 59))
      by_cases hn1 : n = 1
      · subst hn1
        obtain rfl : xs = [] := List.eq_nil_of_length_eq_zero (by omega)
        go_wp2_with fail
        go_loopw [15, 91] (fun o i wr => o = .slice (some ⟨w4.heap.size + 1, 0, none⟩) 0 0 ∧ i = .int .i64 0 ∧ wr = ((w4.alloc (Obj.cells #[.int .i64 0, FV] 59)).alloc (Obj.cells #[] 3))) (fun _ _ _ => 0)
        case atStart => exact ⟨rfl, rfl, rfl⟩
        case round =>
          obtain ⟨rfl, rfl, rfl⟩ := hrel
          have HG5 := hid (gr_alloc (gr_alloc HG4.out (Obj.cells #[.int .i64 0, FV] 59)) (Obj.cells #[] 3))
          have HD5 := hid (HD.out.keep0 HG5.out)
          have Hm5 := hid (Hm.out.keep0 HG5.out)
          rcases Hc.out with ⟨hx, _, rfl⟩ | ⟨hx, _, rfl⟩ | ⟨_, hx, _⟩ | ⟨_, hx, _⟩ | ⟨hx, _, rfl⟩ | ⟨hx, _, rfl⟩ | ⟨_, hx, _⟩
          · have HT := hid (show wordsD s [x0] = (s, amtT (accF s.bond s.day)) by rw [hx]; rfl)
            clear hx
            have HF := hid (accrued_any sb s (.slice (some ⟨w4.heap.size + 1, 0, none⟩) 0 0) _ HD5.out Hm5.out)
            go_wp2_with fail
            refine HF.out.mono ?_
            rintro e w6 ⟨rfl, hg6⟩
            have HG6 := hid (gr_trans0 HG5.out hg6)
            clear hg6
            go_wp2_with fail
            go_ret
            exact ⟨ret_text (by rw [HW.out, HT.out]), by rw [HW.out, HT.out]; exact HD.out.keep0 HG6.out, gr_any HG6.out _⟩
          · have HT := hid (show wordsD s [x0] = (s, amtT (totF s.bond)) by rw [hx]; rfl)
            clear hx
            have HF := hid (total_any sb s (.slice (some ⟨w4.heap.size + 1, 0, none⟩) 0 0) _ HD5.out Hm5.out)
            go_wp2_with fail
            refine HF.out.mono ?_
            rintro e w6 ⟨rfl, hg6⟩
            have HG6 := hid (gr_trans0 HG5.out hg6)
            clear hg6
            go_wp2_with fail
            go_ret
            exact ⟨ret_text (by rw [HW.out, HT.out]), by rw [HW.out, HT.out]; exact HD.out.keep0 HG6.out, gr_any HG6.out _⟩
          · exfalso; omega
          · exfalso; omega
          · have HT := hid (show wordsD s [x0] = (s, sigT (posF s.trades s.day)) by rw [hx]; rfl)
            clear hx
            have HF := hid (position_any sb s (.slice (some ⟨w4.heap.size + 1, 0, none⟩) 0 0) _ HD5.out Hm5.out)
            go_wp2_with fail
            refine HF.out.mono ?_
            rintro e w6 ⟨rfl, hg6⟩
            have HG6 := hid (gr_trans0 HG5.out hg6)
            clear hg6
            go_wp2_with fail
            go_ret
            exact ⟨ret_text (by rw [HW.out, HT.out]), by rw [HW.out, HT.out]; exact HD.out.keep0 HG6.out, gr_any HG6.out _⟩
          · have HT := hid (show wordsD s [x0] = (s, sigT (gainF s.trades)) by rw [hx]; rfl)
            clear hx
            have HF := hid (gain_any sb s (.slice (some ⟨w4.heap.size + 1, 0, none⟩) 0 0) _ HD5.out Hm5.out)
            go_wp2_with fail
            refine HF.out.mono ?_
            rintro e w6 ⟨rfl, hg6⟩
            have HG6 := hid (gr_trans0 HG5.out hg6)
            clear hg6
            go_wp2_with fail
            go_ret
            exact ⟨ret_text (by rw [HW.out, HT.out]), by rw [HW.out, HT.out]; exact HD.out.keep0 HG6.out, gr_any HG6.out _⟩
          · exfalso; omega
      obtain ⟨i0, hi, hz0, hz1, hz2⟩ := infoPtsD infoIntA
      have HO5 := hid (World.ownsRow_made (base := w4.heap.size + 1) (size := 1) (e := 3) (w4.alloc (Obj.cells #[.int .i64 ((n : Int) - 1), FV] 59)) #[] 0 (by simp) (by decide) rfl)
      have HG5 := hid (gr_alloc HG4.out (Obj.cells #[.int .i64 ((n : Int) - 1), FV] 59))
      have HH5 := hid (gr_alloc (gr_refl w4 none) (Obj.cells #[.int .i64 ((n : Int) - 1), FV] 59))
      have hn2 : 1 < n := by omega
      go_wp2_with fail
      go_loopw [15, 91] (fun o i wr => ∃ k g gc : Nat, k ≤ n - 1 ∧ i = .int .i64 k ∧ o = .slice (some ⟨g, 0, none⟩) k gc ∧ Hid (wr.ownsRow (w4.heap.size + 1) 3 1 (.slice (some ⟨g, 0, none⟩) k gc) k (((xs.take k).map numW).flatMap intL.cells)) ∧ Hid ((w4.alloc (Obj.cells #[.int .i64 ((n : Int) - 1), FV] 59)).grownBy wr none)) (fun _ i _ => n - (intOf i).toNat)
      case atStart => exact ⟨0, w4.heap.size + 1, 0, by omega, rfl, rfl, hid (by simpa using HO5.out), hid (gr_alloc (gr_refl _ _) _)⟩
      case round =>
        obtain ⟨k, g, gc, hk, rfl, rfl, HO, HGr⟩ := hrel
        by_cases hkn : k < n - 1
        · have hd : decide (k < n - 1) = true := by simpa using hkn
          obtain ⟨x, hx⟩ : ∃ x, xs[k]? = some x := ⟨xs[k]'(by omega), List.getElem?_eq_getElem (by omega)⟩
          have kx := wordsl_at (HS4.out.keep0 (gr_trans0 HH5.out HGr.out)) (k + 1) x (by simpa using hx)
          rw [Nat.add_comm k 1] at kx
          have hxl : x.length ≤ 2000000 := by
            have := spl_len l [] x (by rw [hws]; exact List.mem_cons_of_mem _ (List.mem_of_getElem? hx))
            simp at this; omega
          have HNW := hid (numberWord_any x wr hxl)
          have Hx := hid hx
          have hk2 := hid hkn
          clear hx hkn
          go_wp2_with fail
          refine HNW.out.mono ?_
          rintro e w6 ⟨rfl, hg6⟩
          have HO6 := hid (own_keep0 HO.out hg6)
          have HGr6 := hid (gr_trans0 HGr.out hg6)
          have hle6 := gr_le HGr6.out
          rw [World.size_alloc'] at hle6
          clear hg6 kx
          go_wp2_with (at_builtin; go_must (refine wpList_append_lies _ rfl _ _ _ rfl (w4.heap.size + 1) 3 i0 _ 1 8 Tryz.underlying66 hi hz0 hz1 hz2 rfl (by decide) _ _ _ rfl (HO6.out.alloc _) ⟨w6.heap.size, 0, none⟩ 1 1 [.int .i64 (numW x)] rfl rfl (cells_new w6 _ _ _ rfl) ?d2 (by decide) ?d3 ?d4 ?d5 _ rfl ?_))
          case d2 => simp [Value.oneCell']
          case d3 => unfold maxLen; omega
          case d4 => omega
          case d5 => simp; omega
          intro g' gc' w9 hown9 hgo9 hat9 hlt9
          have Hf9 := hid hown9
          have Hg9 := hid (gr_own (gr_alloc HGr6.out _) hgo9 (fun x e => by have := (HO6.out.lt x e).1; simp; omega))
          clear hown9 hgo9 hat9 hlt9
          go_wp2_with fail
          go_roundw
          case rel =>
            refine ⟨k + 1, g', gc', by have := hk2.out; omega, by go_num, rfl, hid ?_, Hg9⟩
            rw [take_snoc _ _ _ Hx.out, List.map_append, List.flatMap_append, List.map_take]
            exact Hf9.out
          case measure => have := hk2.out; simp [intOf]; omega
        · have hd : decide (k < n - 1) = false := by simpa using hkn
          obtain rfl : k = n - 1 := by omega
          have HG6 := hid (gr_trans0 HG5.out HGr.out)
          have HD6 := hid (HD.out.keep0 HG6.out)
          have Hm6 := hid (Hm.out.keep0 HG6.out)
          have hB := blk_keep HB5.out HGr.out (by simp)
          have b1 := blk_cell hB 1 _ rfl
          rw [List.take_of_length_le (show xs.length ≤ n - 1 by omega)] at HO
          have HN := hid (Sl.of_own (L := intL) HO.out (by rw [List.length_map]; omega) (by unfold maxLen; omega))
          clear hB hkn
          rcases Hc.out with ⟨_, hx, _⟩ | ⟨_, hx, _⟩ | ⟨hx, hcn, rfl⟩ | ⟨hx, hcn, rfl⟩ | ⟨_, hx, _⟩ | ⟨_, hx, _⟩ | ⟨hx, hcn, rfl⟩
          · exfalso; omega
          · exfalso; omega
          · obtain rfl : n = 3 := by omega
            obtain ⟨p, q, rfl⟩ : ∃ p q, xs = [p, q] := by
              match xs, hlen with
              | [p, q], _ => exact ⟨p, q, rfl⟩
            have HT := hid (show wordsD s [x0, p, q] = tradeD s (numW p) (numW q) by rw [hx]; rfl)
            have HF := hid (buy_any sb s (some ⟨g, 0, none⟩) gc (numW p) (numW q) wr HD6.out Hok.out HN.out)
            clear hx hcn hlen
            go_wp2_with fail
            refine HF.out.mono ?_
            rintro e w7 ⟨rfl, hd7, hg7⟩
            have HD7 := hid hd7
            have HG7 := hid (gr_transS (gr_any HG6.out _) hg7)
            clear hd7 hg7
            go_wp2_with fail
            go_ret
            exact ⟨ret_text (by rw [HW.out, HT.out]), by rw [HW.out, HT.out]; exact HD7.out, HG7.out⟩
          · obtain rfl : n = 3 := by omega
            obtain ⟨p, q, rfl⟩ : ∃ p q, xs = [p, q] := by
              match xs, hlen with
              | [p, q], _ => exact ⟨p, q, rfl⟩
            have HT := hid (show wordsD s [x0, p, q] = tradeD s (-numW p) (numW q) by rw [hx]; rfl)
            have hpb : -1099511627776 ≤ numW p ∧ numW p ≤ 1099511627776 := by have := numW_bd p; unfold impN at this; omega
            have HF := hid (sell_any sb s (some ⟨g, 0, none⟩) gc (numW p) (numW q) wr HD6.out Hok.out HN.out hpb.1 hpb.2)
            clear hx hcn hlen
            go_wp2_with fail
            refine HF.out.mono ?_
            rintro e w7 ⟨rfl, hd7, hg7⟩
            have HD7 := hid hd7
            have HG7 := hid (gr_transS (gr_any HG6.out _) hg7)
            clear hd7 hg7
            go_wp2_with fail
            go_ret
            exact ⟨ret_text (by rw [HW.out, HT.out]), by rw [HW.out, HT.out]; exact HD7.out, HG7.out⟩
          · exfalso; omega
          · exfalso; omega
          · obtain rfl : n = 2 := by omega
            obtain ⟨p, rfl⟩ : ∃ p, xs = [p] := by
              match xs, hlen with
              | [p], _ => exact ⟨p, rfl⟩
            have HT := hid (show wordsD s [x0, p] = (s, priceT s (numW p)) by rw [hx]; rfl)
            have HF := hid (price_any sb s (some ⟨g, 0, none⟩) gc (numW p) wr HD6.out Hm6.out HN.out)
            clear hx hcn hlen
            go_wp2_with fail
            refine HF.out.mono ?_
            rintro e w7 ⟨rfl, hg7⟩
            have HG7 := hid (gr_trans0 HG6.out hg7)
            clear hg7
            go_wp2_with fail
            go_ret
            exact ⟨ret_text (by rw [HW.out, HT.out]), by rw [HW.out, HT.out]; exact HD.out.keep0 HG7.out, gr_any HG7.out _⟩
    · have HT := hid (what_count sb s x0 xs cnt FV hc hq)
      have hq2 : ((n : Int) - 1 != cnt) = true := by simp; omega
      clear hk hq hc hlen
      go_wp2_with fail
      go_ret
      exact ⟨ret_text (a := whatT) (by rw [HW.out, HT.out]), by rw [HW.out, HT.out]; exact HD.out.keep0 (gr_alloc HG4.out _), gr_any (gr_alloc HG4.out _) _⟩
end Go.Proofs.YtielicmjdhmcjaaGreatDoor
