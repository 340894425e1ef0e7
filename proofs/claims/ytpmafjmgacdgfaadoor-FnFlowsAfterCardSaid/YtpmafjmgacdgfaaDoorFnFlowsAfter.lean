/- For every input, FnFlowsAfter returns true: later days have fewer payments. No condition. -/
import Derived.Test.YtpmafjmgacdgfaaDoorRows
import Derived.Test.YtpmafjmgacdgfaaDoorCards
import Derived.Test.YtpmafjmgacdgfaaDoorTie
import Derived.Test.YtpmafjmgacdgfaaDoorSpecAfter
import Derived.Test.YtpmafjmgacdgfaaDoorDrawDay
import Derived.Test.YtpmafjmgacdgfaaDoorFrame
import Derived.Test.YtpmafjmgacdgfaaDoorFrameL
import Derived.ProofKit
namespace Go.Proofs.YtpmafjmgacdgfaaDoor
open Go.ChangeShapes Go.WideShapes Go.ChangeAt Go.RowKit
namespace FnFlowsAfter

set_option maxRecDepth 100000 in
set_option maxHeartbeats 2000000 in
theorem walk (a : Option Addr) (n cap : Nat) (xs : List Int) (w : World) (hm : Months w) (hs : Sl u8L w a n xs) (hcap : n ≤ cap) (hx : ∀ x ∈ xs, 0 ≤ x ∧ x ≤ 255) :
    Calls Tryd.prog 7 #[.slice a n cap] w fun e w' => e = .returned (.bool true) ∧ w.grownBy w' none := by
  have Hx := hid hx
  have Hs := hid hs
  have Hm := hid hm
  have hbig := hs.big
  unfold maxLen at hbig
  clear hx hs hm
  by_cases hn : 1048576 < n
  · go_enter Tryd.func7, Tryd.ntmps7
    go_wp2_with fail
    go_ret
    exact ⟨rfl, gr_refl _ _⟩
  clear hbig
  go_enter Tryd.func7, Tryd.ntmps7
  go_wp2_with fail
  refine (DrawFlowsAfter_any a n cap xs w Hs.out hcap Hx.out).mono ?_
  rintro e w1 ⟨b, day, rfl, hB, ⟨hd0, hd1⟩, hg⟩
  have Hb1 := hid (heap_alloc_new w1 (Obj.cells #[.int .i64 b.start, .int .i64 b.stop, .int .i64 b.months, .int .i64 b.rate] 25))
  have Hg1 := hid (gr_alloc hg (Obj.cells #[.int .i64 b.start, .int .i64 b.stop, .int .i64 b.months, .int .i64 b.rate] 25))
  have hBs0 := hB.s0; have hBs1 := hB.s1; have hBe0 := hB.e0; have hBe1 := hB.e1
  have hBm0 := hB.m0; have hBm1 := hB.m1; have hBr0 := hB.r0; have hBr1 := hB.r1
  clear hg
  have HA := hid (fun d wx (h : Months wx) => FlowsAfter_any b d wx h)
  have HSp := hid (fun wx => specFlowsAfter_any b day wx)
  have HV := hid (fun wx (h : Months wx) => ValidBond_any b wx h)
  have HF := hid (fun wx (h : Months wx) => FlowsOf_any b wx h)
  have Hl : Hid (∀ d, (afterF b d).length ≤ 40 ∧ (flowsF b).length ≤ 40) := hid (fun d => by
    have h1 : (flowsF b).length ≤ 40 := by
      unfold flowsF
      split
      · rename_i h; rw [flows_len]; have := (ok_bond h).span.q2; unfold persF; rw [sched_len]; exact this
      · simp
    exact ⟨Nat.le_trans (by unfold afterF; exact List.length_filter_le _ _) h1, h1⟩)
  have hee : decide (afterF b day = afterF b day) = true := by simp
  go_wp2_with fail
  refine (HA.out day _ (Hm.out.keep0 Hg1.out)).mono ?_
  rintro e' w2 ⟨na, nn, nc, rfl, ho, _, hg⟩
  have Hgs2 := hid hg
  have Hg2 := hid (gr_trans0 Hg1.out hg)
  have Hb2 := hid (blk_keep Hb1.out hg (by simp))
  clear hg
  (try clear c0 c1 c2 c3)
  have c0 := blk_cell Hb2.out 0 _ rfl
  have c1 := blk_cell Hb2.out 1 _ rfl
  have c2 := blk_cell Hb2.out 2 _ rfl
  have c3 := blk_cell Hb2.out 3 _ rfl
  have How2 := hid ho; clear ho
  go_wp2_with fail
  refine (HSp.out _).mono ?_
  rintro e' w3 ⟨ma, mn, mc, rfl, ho, _, hg⟩
  have Hgs3 := hid hg
  have Hg3 := hid (gr_trans0 Hg2.out hg)
  have Hb3 := hid (blk_keep Hb2.out hg (by simp))
  clear hg
  (try clear c0 c1 c2 c3)
  have c0 := blk_cell Hb3.out 0 _ rfl
  have c1 := blk_cell Hb3.out 1 _ rfl
  have c2 := blk_cell Hb3.out 2 _ rfl
  have c3 := blk_cell Hb3.out 3 _ rfl
  have How3 := hid ho; clear ho
  have h40a : nn ≤ 1000 := by have := How2.out.len; have := (Hl.out day).1; omega
  have h40b : mn ≤ 1000 := by have := How3.out.len; have := (Hl.out day).1; omega
  have HE := hid (fun wx (hx : w3.grownBy wx none) => equalFlows_any na ma nn mn nc mc _ _ wx ((How2.out.keep0 Hgs3.out).sl.keep0 hx) (How3.out.sl.keep0 hx) h40a h40b)
  go_wp2_with fail
  refine (HE.out _ (gr0 _)).mono ?_
  rintro e' w4 ⟨rfl, hg⟩
  have Hgs4 := hid hg
  have Hg4 := hid (gr_trans0 Hg3.out hg)
  have Hb4 := hid (blk_keep Hb3.out hg (by simp))
  clear hg
  (try clear c0 c1 c2 c3)
  have c0 := blk_cell Hb4.out 0 _ rfl
  have c1 := blk_cell Hb4.out 1 _ rfl
  have c2 := blk_cell Hb4.out 2 _ rfl
  have c3 := blk_cell Hb4.out 3 _ rfl
  cases hb : bondB b with
  | false =>
    rw [hb] at HV
    clear hb
    go_wp2_with fail
    refine (HV.out _ (Hm.out.keep0 Hg4.out)).mono ?_
    rintro e' w5 ⟨rfl, hg⟩
    have Hgs5 := hid hg
    have Hg5 := hid (gr_trans0 Hg4.out hg)
    have Hb5 := hid (blk_keep Hb4.out hg (by simp))
    clear hg
    (try clear c0 c1 c2 c3)
    have c0 := blk_cell Hb5.out 0 _ rfl
    have c1 := blk_cell Hb5.out 1 _ rfl
    have c2 := blk_cell Hb5.out 2 _ rfl
    have c3 := blk_cell Hb5.out 3 _ rfl
    go_wp2_with fail
    refine (HSp.out _).mono ?_
    rintro e' w6 ⟨ka, kn, kc, rfl, ho, _, hg⟩
    have Hgs6 := hid hg
    have Hg6 := hid (gr_trans0 Hg5.out hg)
    have Hb6 := hid (blk_keep Hb5.out hg (by simp))
    clear hg
    (try clear c0 c1 c2 c3)
    have c0 := blk_cell Hb6.out 0 _ rfl
    have c1 := blk_cell Hb6.out 1 _ rfl
    have c2 := blk_cell Hb6.out 2 _ rfl
    have c3 := blk_cell Hb6.out 3 _ rfl
    have h40c : kn ≤ 1000 := by have := ho.len; have := (Hl.out day).1; omega
    have HE2 := hid (fun wx (hx : w6.grownBy wx none) => equalFlows_any na ka nn kn nc kc _ _ wx (((((How2.out.keep0 Hgs3.out).keep0 Hgs4.out).keep0 Hgs5.out).keep0 Hgs6.out).sl.keep0 hx) (ho.sl.keep0 hx) h40a h40c)
    clear ho
    go_wp2_with fail
    refine (HE2.out _ (gr0 _)).mono ?_
    rintro e' w7 ⟨rfl, hg⟩
    have Hgs7 := hid hg
    have Hg7 := hid (gr_trans0 Hg6.out hg)
    have Hb7 := hid (blk_keep Hb6.out hg (by simp))
    clear hg
    (try clear c0 c1 c2 c3)
    have c0 := blk_cell Hb7.out 0 _ rfl
    have c1 := blk_cell Hb7.out 1 _ rfl
    have c2 := blk_cell Hb7.out 2 _ rfl
    have c3 := blk_cell Hb7.out 3 _ rfl
    go_wp2_with fail
    go_ret
    exact ⟨rfl, Hg7.out⟩
  | true =>
    rw [hb] at HV
    have Hfe := hid (flowsF_ok hb)
    have Hae := hid (after_eq hb day)
    have Hk := hid (at_le b day)
    have Hbef := hid (fun i f => @after_before b day i f)
    have Hbeh := hid (fun f => after_behind (b := b) day f)
    have Hfl := hid (flows_len b)
    have Hne := hid (ok_bond hb).chain.ne
    clear hb
    go_wp2_with fail
    refine (HV.out _ (Hm.out.keep0 Hg4.out)).mono ?_
    rintro e' w5 ⟨rfl, hg⟩
    have Hgs5 := hid hg
    have Hg5 := hid (gr_trans0 Hg4.out hg)
    have Hb5 := hid (blk_keep Hb4.out hg (by simp))
    clear hg
    (try clear c0 c1 c2 c3)
    have c0 := blk_cell Hb5.out 0 _ rfl
    have c1 := blk_cell Hb5.out 1 _ rfl
    have c2 := blk_cell Hb5.out 2 _ rfl
    have c3 := blk_cell Hb5.out 3 _ rfl
    go_wp2_with fail
    refine (HF.out _ (Hm.out.keep0 Hg5.out)).mono ?_
    rintro e' w6 ⟨fa, fn, fc, rfl, ho, hfc, hg⟩
    have Hgs6 := hid hg
    have Hg6 := hid (gr_trans0 Hg5.out hg)
    clear hg c0 c1 c2 c3
    rw [Hfe.out] at ho
    have hfl : fn ≤ 40 := by have := ho.len; have := (Hl.out 0).2; rw [Hfe.out] at this; omega
    have How6 := hid ho.sl
    clear ho
    have How2b := hid (((((How2.out.keep0 Hgs3.out).keep0 Hgs4.out).keep0 Hgs5.out).keep0 Hgs6.out).sl)
    obtain ⟨k, hk⟩ : ∃ k, atF (persF b) day = k := ⟨_, rfl⟩
    rw [hk] at Hae
    have hkn : fn = k + nn := by
      have h1 := How2b.out.len; have h2 := How6.out.len
      rw [Hae.out, List.length_drop] at h1
      have := Hk.out; have := Hfl.out; omega
    have hf1 : 1 ≤ fn := by have h2 := How6.out.len; have := Hfl.out; have := Hne.out; omega
    obtain ⟨fb, fo, _, rfl, _⟩ := How6.out.at 0 (by omega)
    subst hkn
    have hsub : ((k + nn : Nat) : Int) - (nn : Int) = (k : Int) := by omega
    have HEd : Hid (∀ wx, w6.grownBy wx none → ∀ (a3 : Option Addr) c3, (a3 = some ⟨fb, fo + k * 2, none⟩ ∨ nn = 0) → Calls Tryd.prog 27 #[.slice a3 nn c3, .slice na nn nc] wx fun e' w' => e' = .returned (.bool true) ∧ wx.grownBy w' none) := hid (fun wx hx a3 c3 h => by
      have hs : Sl flowL wx a3 nn (afterF b day) := by
        rcases h with rfl | h0
        · have := (How6.out.keep0 hx).drop k (fo + k * 2) rfl
          rw [show k + nn - k = nn by omega, ← Hae.out] at this
          exact this
        · subst h0
          have he : afterF b day = [] := List.eq_nil_of_length_eq_zero How2b.out.len
          rw [he]; exact Sl.nil _ _ _
      have := equalFlows_any a3 na nn nn c3 nc _ _ wx hs (How2b.out.keep0 hx) (by omega) (by omega)
      rwa [decide_eq_true rfl] at this)
    have Hlast : Hid (∀ j : Nat, k = j + 1 → ∃ d, d ≤ day ∧ w6.cell? ⟨fb, fo + j * 2, none⟩ = some (.int .i64 d)) := hid (fun j hj => by
      obtain ⟨b9, o9, f, e, hf, l0, l1⟩ := flow_at How6.out j (by omega)
      cases e
      exact ⟨f.day, Hbef.out j f (by rw [hk]; omega) hf, l0⟩)
    have Hfirst : Hid (0 < nn → ∃ lb lo d, na = some ⟨lb, lo, none⟩ ∧ day < d ∧ w6.cell? ⟨lb, lo, none⟩ = some (.int .i64 d)) := hid (fun h0 => by
      obtain ⟨lb, lo, f, e, hf, l0, l1⟩ := flow_at How2b.out 0 h0
      exact ⟨lb, lo, f.day, e, Hbeh.out f (List.mem_of_getElem? hf), by simpa using l0⟩)
    have hknm : k + nn ≤ 40 := hfl
    have HK := hid hk
    clear hk hfl hf1
    by_cases hck : fc = k
    · subst hck
      obtain rfl : nn = 0 := by omega
      obtain ⟨j, rfl⟩ : ∃ j, fc = j + 1 := ⟨fc - 1, by have := Hne.out; have := Hfl.out; have := How6.out.len; omega⟩
      go_wp2_with fail
      refine (HEd.out _ (gr0 _) _ _ (by first | exact .inl rfl | exact .inr rfl | exact .inr trivial)).mono ?_
      rintro e' w7 ⟨rfl, hg⟩
      have Hgs7 := hid hg
      have Hg7 := hid (gr_trans0 Hg6.out hg)
      clear hg
      obtain ⟨d, hd, hc⟩ := Hlast.out j rfl
      have hc7 := Hgs7.out.cell hc (by simp)
      have hle1 : (((j + 1 : Nat) : Int) - 1).toNat = j := by omega
      have hle2 : (0 : Int) ≤ ((j + 1 : Nat) : Int) - 1 := by omega
      have hle3 : (((j + 1 : Nat) : Int) == 0) = false := by simp; omega
      have hj0 : (0 : Int) ≤ j := by omega
      have hdd : decide (d ≤ day) = true := by simpa using hd
      clear hc hd
      go_wp2_with fail
      go_ret
      exact ⟨rfl, Hg7.out⟩
    · by_cases hk0 : k = 0
      · subst hk0
        obtain ⟨lb, lo, d2, rfl, hd2, hc2⟩ := Hfirst.out (by have := Hne.out; have := Hfl.out; have := How6.out.len; omega)
        have hnz : ((nn : Int) == 0) = false := by have := Hne.out; have := Hfl.out; have := How6.out.len; simp; omega
        have hn1 : (0 : Int) < nn := by simp at hnz; omega
        go_wp2_with fail
        refine (HEd.out _ (gr0 _) _ _ (by first | exact .inl rfl | exact .inr rfl | exact .inr trivial)).mono ?_
        rintro e' w7 ⟨rfl, hg⟩
        have Hgs7 := hid hg
        have Hg7 := hid (gr_trans0 Hg6.out hg)
        clear hg
        have hc8 := Hgs7.out.cell hc2 (by simp)
        have hd3 : decide (day < d2) = true := by simpa using hd2
        clear hc2 hd2
        go_wp2_with fail
        go_ret
        exact ⟨rfl, Hg7.out⟩
      · obtain ⟨j, rfl⟩ : ∃ j, k = j + 1 := ⟨k - 1, by omega⟩
        by_cases hn0 : nn = 0
        · subst hn0
          go_wp2_with fail
          refine (HEd.out _ (gr0 _) _ _ (by first | exact .inl rfl | exact .inr rfl | exact .inr trivial)).mono ?_
          rintro e' w7 ⟨rfl, hg⟩
          have Hgs7 := hid hg
          have Hg7 := hid (gr_trans0 Hg6.out hg)
          clear hg
          obtain ⟨d, hd, hc⟩ := Hlast.out j rfl
          have hc7 := Hgs7.out.cell hc (by simp)
          have hle1 : (((j + 1 : Nat) : Int) - 1).toNat = j := by omega
          have hle2 : (0 : Int) ≤ ((j + 1 : Nat) : Int) - 1 := by omega
          have hle3 : (((j + 1 : Nat) : Int) == 0) = false := by simp; omega
          have hj0 : (0 : Int) ≤ j := by omega
          have hdd : decide (d ≤ day) = true := by simpa using hd
          clear hc hd
          go_wp2_with fail
          go_ret
          exact ⟨rfl, Hg7.out⟩
        · obtain ⟨lb, lo, d2, rfl, hd2, hc2⟩ := Hfirst.out (by omega)
          have hnz : ((nn : Int) == 0) = false := by simp; omega
          have hn1 : (0 : Int) < nn := by omega
          go_wp2_with fail
          refine (HEd.out _ (gr0 _) _ _ (by first | exact .inl rfl | exact .inr rfl | exact .inr trivial)).mono ?_
          rintro e' w7 ⟨rfl, hg⟩
          have Hgs7 := hid hg
          have Hg7 := hid (gr_trans0 Hg6.out hg)
          clear hg
          obtain ⟨d, hd, hc⟩ := Hlast.out j rfl
          have hc7 := Hgs7.out.cell hc (by simp)
          have hc8 := Hgs7.out.cell hc2 (by simp)
          have hd3 : decide (day < d2) = true := by simpa using hd2
          clear hc2 hd2
          have hle1 : (((j + 1 : Nat) : Int) - 1).toNat = j := by omega
          have hle2 : (0 : Int) ≤ ((j + 1 : Nat) : Int) - 1 := by omega
          have hle3 : (((j + 1 : Nat) : Int) == 0) = false := by simp; omega
          have hj0 : (0 : Int) ≤ j := by omega
          have hdd : decide (d ≤ day) = true := by simpa using hd
          clear hc hd
          go_wp2_with fail
          go_ret
          exact ⟨rfl, Hg7.out⟩

set_option maxRecDepth 100000 in
theorem lifted (os : Os) (started : os.Started) (H : Type) (enc : TypeId × Value → H) :
    ReturnsInHanded {} Tryd.checked os 7 .any (fun w args => (Rows.fnFlowsAfterSpec.pre enc Tryd.prog Tryd.f7 Rows.fnFlowsAfterRow.domain false w args ∧ laidMetH Tryd.prog laidMonths w) ∧ sizedMet enc Tryd.prog Tryd.f7 (OpenSpec.ofChange Rows.fnFlowsAfterSpec) false w args) (Rows.fnFlowsAfterSpec.post enc Tryd.prog Tryd.f7 false true false false) := by
  refine returnsInHanded_of_change_and (C := Tryd.checked) (X := fun w _ => laidMetH Tryd.prog laidMonths w) (fun _ _ _ hh h => h.of_heap hh) Tryd.own started (by kernel_rfl) Tryd.func7
    (ChangeSpec.witness_shaped (enc := enc) (C := Tryd.checked) (os := os) (X := fun w _ => laidMetH Tryd.prog laidMonths w) false (World.doorLaid Tryd.prog 400 os) #[.slice none 0 0] 8 rfl (World.shaped_of_RefB (by kernel_rfl) (by kernel_rfl)) (by kernel_rfl) (by kernel_rfl) (by kernel_rfl) (door_met os _)) ?_
  intro W base args ds gs before hval0 hW _ _ hL _
  have hval : ∀ (j : Nat) t v, Tryd.f7.params[j]? = some t → args[j]? = some v → Value.okWide Tryd.prog W .any base t v := hval0
  have hW' := hW
  obtain ⟨p, q, hA0, hV, rfl, hfz, hnd⟩ := hW
  have hA : DataW.TrodAll enc Tryd.prog W 0 (fun _ => true) true Tryd.f7.params.toList args.toList ds p := hA0
  rw [Tryd.params7] at hA hval
  have hA2 := hA
  obtain ⟨v0, vs0, d0, ds0, p0, q0, hargs, rfl, rfl, h0, r0⟩ := trodAll_cons hA
  obtain ⟨rfl, rfl, rfl⟩ := trodAll_nil r0
  obtain rfl : args = #[v0] := by cases args; simp_all
  obtain ⟨g0, rfl⟩ := vars_one hV
  have hlt : ∀ x ∈ (p0 ++ []) ++ q, x.block < W.heap.size := fun x hx => hW'.lt x hx
  obtain ⟨a0, n0, cap0, rfl⟩ := okWide_slice Tryd.underlying32 (hval 0 32 v0 rfl rfl)
  obtain ⟨fuel0, hf0⟩ := h0
  obtain ⟨xs0, hs0, hc0, hw0⟩ := sl_ints u8L (fun _ => rfl) rfl Tryd.underlying32 Tryd.underlying5 Tryd.cellsU8 hf0
  refine (walk a0 n0 cap0 xs0 W (months_of_laid hL) hs0 hc0 (fun z hz => u8_range (hw0 z hz))).mono fun e W' ⟨he, hg⟩ => ?_
  subst he
  have hb := below_of_gr hg
  refine ⟨_, rfl, _, _, _, [], p0 ++ [], q, hW', ?_, ?_, vars_stay hb hV, hb.frame _, fun h => by cases h⟩
  · exact trodAll_mk1 (shut_bool Tryd.underlying4 _)
  · exact args_stay hb _ _ _ _ hA2 (fun x hx => hlt x (List.mem_append_left _ (by simpa using hx))) (by intro t ht; simp at ht; subst ht; exact ⟨by kernel_rfl, of_decide_eq_true (by kernel_rfl)⟩)

set_option maxRecDepth 100000 in
theorem closed : joinedFacts Tryd.pinned.checked.prog 7 Tryd.f7 Rows.fnFlowsAfterSpec Rows.fnFlowsAfterRow = true := by
  rw [joinedFacts, show Tryd.pinned.checked.prog.mayEnter = true from Tryd.enters, show Tryd.pinned.checked.prog.liftsFinal = false from Tryd.lifts, show Tryd.pinned.checked.prog.make = some .cut from Tryd.cut]
  kernel_rfl

theorem row_holds : Rows.FnFlowsAfterSaid :=
  OpenClaim.holds_of_wide 7 Tryd.f7 rfl rfl rfl rfl rfl rfl rfl ⟨rfl, rfl, rfl, rfl, rfl⟩ rfl rfl rfl rfl rfl (by kernel_rfl) Tryd.func7 closed
    (of_decide_eq_true (by kernel_rfl)) (by unfold Func.isWrapper; first | (rw [if_pos (by decide +kernel)]; kernel_rfl) | (rw [if_neg (by decide +kernel)]; exact ⟨rfl, rfl⟩))
    (fun os started H enc _ => lifted os started H enc)

theorem holds : Rows.FnFlowsAfterCardSaid :=
  Claim7.holds_tied_plain_at .later [] [.data] true (true, "22dfc429811bdb46a90c5d9e37b95d9549ab5b19e19d6b6766dabd62dd407f7b") false
    row_holds (fun _ h => by cases h) (by kernel_rfl) (fun _ h => by cases h) fnFlowsAfter_row_tie rfl ⟨rfl, rfl⟩ (by kernel_rfl) rfl
    (fun f fn hf hfn => by
      obtain rfl : f = 7 := Option.some.inj ((show Tryd.prog.funcNamed "loop.example/bonddesk/laws.FnFlowsAfter" = some 7 by kernel_rfl).symm.trans hf) |>.symm
      obtain rfl : fn = Tryd.f7 := (Option.some.inj (Tryd.func7.symm.trans hfn)).symm
      exact ⟨by kernel_rfl, fun j t ht => by
        rw [Tryd.params7] at ht
        have hm : t ∈ [32] := by simpa using Array.mem_of_getElem? ht
        have hall : ([32].all fun u => !Tryd.prog.wantsStandIn u) = true := by kernel_rfl
        exact (show Tryd.prog.wantsStandIn t = false by simpa using List.all_eq_true.1 hall t hm)⟩)
    (by kernel_rfl)
end FnFlowsAfter
end Go.Proofs.YtpmafjmgacdgfaaDoor
