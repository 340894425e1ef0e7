/- The period that has a day; accrued interest; the program and the reference, walked. -/
import Derived.Test.YtkgjciacdjhhfaaDoorRows
import Derived.Test.YtkgjciacdjhhfaaDoorBase
import Derived.Test.YtkgjciacdjhhfaaDoorFlows
import Derived.Test.YtkgjciacdjhhfaaDoorBondWalk
import Derived.Deep.QuietTactic
import Derived.BigQuiet
import Derived.Deep.RegionHeld
namespace Go.Proofs.YtkgjciacdjhhfaaDoor
open Go.RowKit


theorem findIdx_of {α : Type} (L : List α) (p : α → Bool) (i : Nat) (hi : i ≤ L.length) (hb : ∀ (t : Nat) (x : α), t < i → L[t]? = some x → p x = false) (ha : ∀ x, L[i]? = some x → p x = true) : L.findIdx p = i := by
  induction L generalizing i with
  | nil => simp at hi; subst hi; rfl
  | cons x L ih =>
    rw [List.findIdx_cons]
    cases i with
    | zero => rw [ha x rfl]; rfl
    | succ i =>
      rw [hb 0 x (by omega) rfl, ih i (by simpa using hi) (fun t y ht hy => hb (t + 1) y (by omega) (by simpa using hy)) (fun y hy => ha y (by simpa using hy))]; rfl

/-- The list of periods and the day, as the closure has captured them. -/
structure Cap (w : World) (Lb Db : Nat) (a : Option Addr) (n cap : Nat) (L : List Per) (day : Int) : Prop where
  lst : w.heap[Lb]? = some (.cells #[.slice a n cap] 65 (0, 0))
  dy : w.heap[Db]? = some (.cells #[.int .i64 day] 3 (0, 0))
  sl : Sl perL w a n L
theorem Cap.keep0 {w w' : World} {Lb Db : Nat} {a : Option Addr} {n cap : Nat} {L : List Per} {day : Int} (h : Cap w Lb Db a n cap L day) (g : w.grownBy w' none) : Cap w' Lb Db a n cap L day :=
  ⟨blk_keep h.lst g (by simp), blk_keep h.dy g (by simp), h.sl.keep0 g⟩

set_option maxRecDepth 100000 in
theorem runpred_any (Lb Db : Nat) (a : Option Addr) (n cap : Nat) (L : List Per) (day : Int) (i : Nat) (p : Per) (w : World) (hc : Cap w Lb Db a n cap L day) (hi : i < n) (hp : L[i]? = some p) (_ : n ≤ 100) :
    Calls Tryd.prog 84 #[.int .i64 i, .pointer (some ⟨Lb, 0, none⟩), .pointer (some ⟨Db, 0, none⟩)] w fun e' w' => e' = .returned (.bool (decide (day < p.till))) ∧ w.grownBy w' none := by
  obtain ⟨b, o, z, rfl, hz, c0, c1, c2⟩ := per_at hc.sl i hi
  rw [hp] at hz
  obtain rfl := Option.some.inj hz
  have l0 := blk_cell hc.lst 0 _ rfl
  have d0 := blk_cell hc.dy 0 _ rfl
  have hi0 : (0 : Int) ≤ i := by omega
  have hi1 : (i : Int) < n := by omega
  clear hz hp hc c0 c2
  go_enter Tryd.func84, Tryd.ntmps84
  go_wp2_with fail
  go_quiet (fail)
  go_wp2_with fail
  go_ret
  exact ⟨rfl, gr_drewN (gr0 _) _⟩

set_option maxRecDepth 100000 in
set_option maxHeartbeats 1000000 in
theorem Search_any (Lb Db : Nat) (a : Option Addr) (n cap : Nat) (L : List Per) (day : Int) (w : World) (hc : Cap w Lb Db a n cap L day) (hn : n ≤ 100) (hmono : ∀ (i j : Nat) (p q : Per), i < j → L[i]? = some p → L[j]? = some q → p.till ≤ q.till) :
    Calls Tryd.prog 83 #[.int .i64 n, .func (.func 84) #[] #[.pointer (some ⟨Lb, 0, none⟩), .pointer (some ⟨Db, 0, none⟩)]] w fun e' w' => e' = .returned (.int .i64 (atF L day)) ∧ w.grownBy w' none := by
  have hl := hc.sl.len
  have Hc := hid hc; have Hm := hid hmono
  clear hc hmono
  go_enter Tryd.func83, Tryd.ntmps83
  go_wp2_with fail
  go_loopw [5, 6] (fun p q wr => ∃ i j : Nat, i ≤ j ∧ j ≤ n ∧ p = .int .i64 i ∧ q = .int .i64 j ∧ Hid (∀ (t : Nat) (x : Per), t < i → L[t]? = some x → x.till ≤ day) ∧ Hid (∀ x, L[j]? = some x → day < x.till) ∧ w.grownBy wr none) (fun p q _ => (intOf q - intOf p).toNat)
  case atStart => exact ⟨0, n, by omega, by omega, rfl, rfl, hid (fun t x ht => by omega), hid (fun x hx => by have := lt_of_at hx; omega), gr0 _⟩
  case round =>
    obtain ⟨i, j, hij, hjn, rfl, rfl, Hlo, Hhi, hg⟩ := hrel
    have Hg := hid hg
    clear hg
    by_cases hlt : i < j
    · obtain ⟨x, hx⟩ : ∃ x, L[(i + j) / 2]? = some x := ⟨L[(i + j) / 2]'(by omega), by simp [show (i + j) / 2 < L.length by omega]⟩
      have HP := hid (fun wx (h : w.grownBy wx none) => runpred_any Lb Db a n cap L day ((i + j) / 2) x wx (Hc.out.keep0 h) (by omega) hx hn)
      have Hx := hid hx
      clear hx
      go_wp2_with fail
      obtain ⟨h, hh⟩ : ∃ h, h = (i + j) / 2 := ⟨_, rfl⟩
      rw [show ((i : Int) + (j : Int)) / 2 = ((h : Nat) : Int) by omega]
      rw [← hh] at HP Hx
      have hih : i ≤ h ∧ h < j := by omega
      obtain ⟨hih1, hih2⟩ := hih
      clear hh
      refine (HP.out wr Hg.out).mono ?_
      rintro e' w2 ⟨rfl, hg2⟩
      have Hg2 := hid (gr_trans0 Hg.out hg2)
      clear hg2
      by_cases hp : day < x.till
      · have Hhi2 : Hid (∀ y, L[h]? = some y → day < y.till) := hid (fun y hy => by rw [Hx.out] at hy; cases hy; exact hp)
        have hpd : decide (day < x.till) = true := by simpa using hp
        clear hp
        go_wp2_with fail
        go_roundw
        case rel => exact ⟨i, h, hih1, by omega, rfl, rfl, Hlo, Hhi2, Hg2.out⟩
        case measure => simp [intOf]; omega
      · have Hlo2 : Hid (∀ (t : Nat) (y : Per), t < h + 1 → L[t]? = some y → y.till ≤ day) := hid (fun t y ht hy => by
          by_cases hth : t = h
          · subst hth; rw [Hx.out] at hy; cases hy; omega
          · have := Hm.out t h y x (by omega) hy Hx.out; omega)
        have hpd : decide (day < x.till) = false := by simpa using hp
        clear hp
        go_wp2_with fail
        go_roundw
        case rel => exact ⟨h + 1, j, by omega, hjn, by go_num, rfl, Hlo2, Hhi, Hg2.out⟩
        case measure => simp [intOf]; omega
    · obtain rfl : i = j := by omega
      have hf : atF L day = i := findIdx_of L _ i (by omega) (fun t x ht hx => by have := Hlo.out t x ht hx; simp; omega) (fun x hx => by have := Hhi.out x hx; simpa using this)
      have Hf := hid hf
      clear hf
      go_wp2_with fail
      go_ret
      exact ⟨ret_int (by rw [Hf.out]), Hg.out⟩

set_option maxRecDepth 100000 in
set_option maxHeartbeats 1000000 in
theorem runningNo_any (b : Bond) (day : Int) (w : World) (hw : Months w) (h : runB b day = false) :
    Calls Tryd.prog 63 #[.agg #[.int .i64 b.start, .int .i64 b.stop, .int .i64 b.months, .int .i64 b.rate], .int .i64 day] w fun e' w' => e' = .returned (.tuple #[.slice none 0 0, .int .i64 0, .bool false]) ∧ w.grownBy w' none := by
  have hgw : w.grownBy ((w.alloc (.cells #[.int .i64 b.start, .int .i64 b.stop, .int .i64 b.months, .int .i64 b.rate] 27)).alloc (.cells #[.int .i64 day] 3)) none := gr_alloc (gr_alloc (gr0 _) _) _
  have HV := hid (ValidBond_any b _ (hw.keep0 hgw))
  have hb1 := blk_alloc (heap_alloc_new w (.cells #[.int .i64 b.start, .int .i64 b.stop, .int .i64 b.months, .int .i64 b.rate] 27)) (.cells #[.int .i64 day] 3)
  have hb2 := heap_alloc_new (w.alloc (.cells #[.int .i64 b.start, .int .i64 b.stop, .int .i64 b.months, .int .i64 b.rate] 27)) (.cells #[.int .i64 day] 3)
  rw [World.size_alloc] at hb2
  have Hb1 := hid hb1; have Hb2 := hid hb2; have Hgw := hid hgw
  clear hb1 hb2 hgw hw
  cases hv : bondB b with
  | false =>
    rw [hv] at HV
    clear h
    go_enter Tryd.func63, Tryd.ntmps63
    go_wp2_with fail
    refine HV.out.mono ?_
    rintro e' w1 ⟨rfl, hg⟩
    have Hg := hid (gr_trans0 Hgw.out hg)
    clear hg
    go_wp2_with fail
    go_ret3
    exact ⟨rfl, Hg.out⟩
  | true =>
    rw [hv] at HV
    have hd : day < b.start ∨ b.stop ≤ day := by
      unfold runB at h; rw [hv] at h
      simp only [Bool.true_and, Bool.and_eq_false_iff, decide_eq_false_iff_not] at h
      omega
    clear h
    by_cases h1 : day < b.start
    · clear hd
      go_enter Tryd.func63, Tryd.ntmps63
      go_wp2_with fail
      refine HV.out.mono ?_
      rintro e' w1 ⟨rfl, hg⟩
      have Hg := hid (gr_trans0 Hgw.out hg)
      have c0 := blk_cell (blk_keep Hb1.out hg (by simp)) 0 _ rfl
      have d0 := blk_cell (blk_keep Hb2.out hg (by simp)) 0 _ rfl
      clear hg
      go_wp2_with fail
      go_ret3
      exact ⟨rfl, Hg.out⟩
    · have h2 : b.stop ≤ day := by omega
      clear hd
      go_enter Tryd.func63, Tryd.ntmps63
      go_wp2_with fail
      refine HV.out.mono ?_
      rintro e' w1 ⟨rfl, hg⟩
      have Hg := hid (gr_trans0 Hgw.out hg)
      have c0 := blk_cell (blk_keep Hb1.out hg (by simp)) 0 _ rfl
      have c1 := blk_cell (blk_keep Hb1.out hg (by simp)) 1 _ rfl
      have d0 := blk_cell (blk_keep Hb2.out hg (by simp)) 0 _ rfl
      clear hg
      go_wp2_with fail
      go_ret3
      exact ⟨rfl, Hg.out⟩

theorem chain_mono {b : Bond} (hb : OkBond b) : ∀ (i j : Nat) (p q : Per), i < j → (persF b)[i]? = some p → (persF b)[j]? = some q → p.till ≤ q.till := by
  intro i j p q hij hp hq
  have h1 := hb.chain.up_till i j p q hp hq hij
  have h2 := (hb.chain.up j q hq).2.1
  omega

set_option maxRecDepth 100000 in
set_option maxHeartbeats 1000000 in
theorem runningYes_any (b : Bond) (day : Int) (w : World) (hw : Months w) (h : runB b day = true) :
    Calls Tryd.prog 63 #[.agg #[.int .i64 b.start, .int .i64 b.stop, .int .i64 b.months, .int .i64 b.rate], .int .i64 day] w fun e' w' => ∃ a n cap, e' = .returned (.tuple #[.slice a n cap, .int .i64 (atF (persF b) day), .bool true]) ∧ Ow perL w' w.heap.size a n (persF b) ∧ n ≤ cap ∧ w.grownBy w' none := by
  obtain ⟨hok, hd0, hd1⟩ := run_facts h
  have hgw : w.grownBy ((w.alloc (.cells #[.int .i64 b.start, .int .i64 b.stop, .int .i64 b.months, .int .i64 b.rate] 27)).alloc (.cells #[.int .i64 day] 3)) none := gr_alloc (gr_alloc (gr0 _) _) _
  have HV := hid (ValidBond_any b _ (hw.keep0 hgw))
  rw [hok.bool] at HV
  have Hmo := hid (hw.keep0 hgw)
  have hb1 := blk_alloc (heap_alloc_new w (.cells #[.int .i64 b.start, .int .i64 b.stop, .int .i64 b.months, .int .i64 b.rate] 27)) (.cells #[.int .i64 day] 3)
  have hb2 := heap_alloc_new (w.alloc (.cells #[.int .i64 b.start, .int .i64 b.stop, .int .i64 b.months, .int .i64 b.rate] 27)) (.cells #[.int .i64 day] 3)
  rw [World.size_alloc] at hb2
  have Hb1 := hid hb1; have Hb2 := hid hb2; have Hgw := hid hgw
  have Hsf := hid (show schedF b.start b.stop b.months = persF b by unfold schedF persF; rw [if_pos hok.ok])
  have Hmn := hid (chain_mono hok)
  have hpl : (persF b).length ≤ 40 := by unfold persF; rw [sched_len]; exact hok.span.q2
  clear hb1 hb2 hgw hw h hok
  go_enter Tryd.func63, Tryd.ntmps63
  go_wp2_with fail
  refine HV.out.mono ?_
  rintro e' w1 ⟨rfl, hg⟩
  have Hg := hid (gr_trans0 Hgw.out hg)
  have Hm1 := hid (Hmo.out.keep0 hg)
  have Hc1 := hid (blk_keep Hb1.out hg (by simp))
  have Hc2 := hid (blk_keep Hb2.out hg (by simp))
  have c0 := blk_cell Hc1.out 0 _ rfl
  have c1 := blk_cell Hc1.out 1 _ rfl
  have c2 := blk_cell Hc1.out 2 _ rfl
  have c3 := blk_cell Hc1.out 3 _ rfl
  have d0 := blk_cell Hc2.out 0 _ rfl
  clear hg
  go_wp2_with fail
  refine (periods_any b w1 Hm1.out).mono ?_
  rintro e' w2 ⟨a, n, cap, rfl, ho, hcap, hg2⟩
  rw [Hsf.out] at ho
  have hnl : n ≤ 40 := by have := ho.len; omega
  have Ho := hid ho
  have Hg2 := hid (gr_trans0 Hg.out hg2)
  have Hd2 := hid (blk_keep Hc2.out hg2 (by simp))
  clear ho hg2 c0 c1 c2 c3 d0
  go_wp2_with fail
  have hcap0 : Cap (w2.alloc (.cells #[.slice a n cap] 65)) w2.heap.size (w.heap.size + 1) a n cap (persF b) day :=
    ⟨heap_alloc_new _ _, blk_alloc Hd2.out _, Ho.out.sl.keep0 (gr_alloc (gr0 _) _)⟩
  have hgD : w.grownBy (w2.alloc (.cells #[.slice a n cap] 65)) none := gr_alloc Hg2.out _
  have HoW := hid ((Ho.out.mono (gr_le Hg.out)).keep0 (gr_alloc (gr0 w2) (.cells #[.slice a n cap] 65)))
  generalize hVb : w2.heap.size = V at *
  generalize (w2.alloc (.cells #[.slice a n cap] 65)) = W at *
  have hV0 := blk_cell hcap0.lst 0 _ rfl
  have HgD := hid hgD
  clear hVb hgD
  refine wp_region_held_drew (S := fun w' => w'.cell? ⟨V, 0, none⟩ = some (.slice a n cap) ∧ W.grownBy w' none) (by kernel_rfl) ⟨hV0, gr_drew (gr0 _)⟩ (fun hHeld => ?_)
  refine wpAnyH_take (i := 0) (v := ?_) rfl (by kernel_rfl) (by kernel_rfl) (by kernel_rfl) (fun _ _ _ h => h) (Or.inl ⟨by rfl, ?_⟩) hHeld ?_
  rotate_left
  · intro w9 hSw
    obtain ⟨s1, s2⟩ := hSw
    go_simp
    all_goals (try with_reducible rfl)
  (try simp only [Act.put]); (try simp only [List.getElem_toArray]); (try simp only [List.getElem_cons_succ]); (try simp only [List.getElem_cons_zero]); (try simp only [List.setIfInBounds_toArray]); (try simp only [List.set_cons_succ]); (try simp only [List.set_cons_zero])
  refine wpAnyH_take (i := 1) (v := ?_) rfl (by kernel_rfl) (by kernel_rfl) (by kernel_rfl) (fun _ _ _ h => h) (Or.inl ⟨by rfl, ?_⟩) hHeld ?_
  rotate_left
  · intro w9 hSw
    obtain ⟨s1, s2⟩ := hSw
    go_simp
    all_goals (try with_reducible rfl)
  (try simp only [Act.put]); (try simp only [List.getElem_toArray]); (try simp only [List.getElem_cons_succ]); (try simp only [List.getElem_cons_zero]); (try simp only [List.setIfInBounds_toArray]); (try simp only [List.set_cons_succ]); (try simp only [List.set_cons_zero])
  refine wpAnyH_take (i := 2) (v := ?_) rfl (by kernel_rfl) (by kernel_rfl) (by kernel_rfl) (fun _ _ _ h => h) (Or.inl ⟨by rfl, ?_⟩) hHeld ?_
  rotate_left
  · intro w9 hSw
    obtain ⟨s1, s2⟩ := hSw
    go_simp
    all_goals (try with_reducible rfl)
  (try simp only [Act.put]); (try simp only [List.getElem_toArray]); (try simp only [List.getElem_cons_succ]); (try simp only [List.getElem_cons_zero]); (try simp only [List.setIfInBounds_toArray]); (try simp only [List.set_cons_succ]); (try simp only [List.set_cons_zero])
  refine wpAnyH_take (i := 3) (v := ?_) rfl (by kernel_rfl) (by kernel_rfl) (by kernel_rfl) (fun _ _ _ h => h) (Or.inl ⟨by rfl, ?_⟩) hHeld ?_
  rotate_left
  · intro w9 hSw
    obtain ⟨s1, s2⟩ := hSw
    go_simp
    all_goals (try with_reducible rfl)
  (try simp only [Act.put]); (try simp only [List.getElem_toArray]); (try simp only [List.getElem_cons_succ]); (try simp only [List.getElem_cons_zero]); (try simp only [List.setIfInBounds_toArray]); (try simp only [List.set_cons_succ]); (try simp only [List.set_cons_zero])
  refine wpAnyH_ready (rs := [4]) (by kernel_rfl) (by simp) ?_
  refine AllReadyH.cons rfl (fun K' hK' => ?_) AllReadyH.nil
  go_simp
  refine (Search_any V (w.heap.size + 1) a n cap (persF b) day _ (hcap0.keep0 (gr_drew (gr0 _))) (by omega) Hmn.out).mono ?_
  rintro e' w5 ⟨rfl, hg5⟩
  (try simp only [])
  refine hK'.out _ _ ⟨hg5.cell hHeld.1 (by simp), gr_trans0 hHeld.2 hg5⟩ (fun hHeld2 => ?_)
  clear hK' K'
  (try simp only [Act.put]); (try simp only [List.getElem_toArray]); (try simp only [List.getElem_cons_succ]); (try simp only [List.getElem_cons_zero]); (try simp only [List.setIfInBounds_toArray]); (try simp only [List.set_cons_succ]); (try simp only [List.set_cons_zero])
  refine wpAnyH_take (i := 5) (v := ?_) rfl (by kernel_rfl) (by kernel_rfl) (by kernel_rfl) (fun _ _ _ h => h) (Or.inl ⟨by rfl, ?_⟩) hHeld2 ?_
  rotate_left
  · intro w9 hSw
    obtain ⟨s1, s2⟩ := hSw
    go_simp
    all_goals (try with_reducible rfl)
  (try simp only [Act.put]); (try simp only [List.getElem_toArray]); (try simp only [List.getElem_cons_succ]); (try simp only [List.getElem_cons_zero]); (try simp only [List.setIfInBounds_toArray]); (try simp only [List.set_cons_succ]); (try simp only [List.set_cons_zero])
  refine wpAnyH_take (i := 6) (v := ?_) rfl (by kernel_rfl) (by kernel_rfl) (by kernel_rfl) (fun _ _ _ h => h) (Or.inl ⟨by rfl, ?_⟩) hHeld2 ?_
  rotate_left
  · intro w9 hSw
    obtain ⟨s1, s2⟩ := hSw
    go_simp
    all_goals (try with_reducible rfl)
  (try simp only [Act.put]); (try simp only [List.getElem_toArray]); (try simp only [List.getElem_cons_succ]); (try simp only [List.getElem_cons_zero]); (try simp only [List.setIfInBounds_toArray]); (try simp only [List.set_cons_succ]); (try simp only [List.set_cons_zero])
  refine wpAnyH_take (i := 7) (v := ?_) rfl (by kernel_rfl) (by kernel_rfl) (by kernel_rfl) (fun _ _ _ h => h) (Or.inl ⟨by rfl, ?_⟩) hHeld2 ?_
  rotate_left
  · intro w9 hSw
    obtain ⟨s1, s2⟩ := hSw
    go_simp
    all_goals (try with_reducible rfl)
  (try simp only [Act.put]); (try simp only [List.getElem_toArray]); (try simp only [List.getElem_cons_succ]); (try simp only [List.getElem_cons_zero]); (try simp only [List.setIfInBounds_toArray]); (try simp only [List.set_cons_succ]); (try simp only [List.set_cons_zero])
  refine wpAnyH_done (by kernel_rfl) ?_ _
  have HgF := hid hHeld2.2
  clear hHeld hHeld2 hg5 hcap0
  go_wp2_with fail
  go_ret3
  exact ⟨a, n, cap, rfl, HoW.out.keep0 HgF.out, hcap, gr_trans0 HgD.out HgF.out⟩

end Go.Proofs.YtkgjciacdjhhfaaDoor
