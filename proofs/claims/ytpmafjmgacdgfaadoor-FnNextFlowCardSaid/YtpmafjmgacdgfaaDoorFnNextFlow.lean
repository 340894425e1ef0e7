/- For every input, FnNextFlow returns true: the next payment is the nearest one. No condition. -/
import Derived.Test.YtpmafjmgacdgfaaDoorRows
import Derived.Test.YtpmafjmgacdgfaaDoorCards
import Derived.Test.YtpmafjmgacdgfaaDoorTie
import Derived.Test.YtpmafjmgacdgfaaDoorSpecAfter
import Derived.Test.YtpmafjmgacdgfaaDoorDrawDay
import Derived.Test.YtpmafjmgacdgfaaDoorFrame
import Derived.Test.YtpmafjmgacdgfaaDoorFrameL
import Derived.ProofKit
namespace Go.Proofs.YtpmafjmgacdgfaaDoor
open Go.ChangeShapes Go.WideShapes Go.ChangeAt Go.RowKit
namespace FnNextFlow

def SomeIn (s : Bool) (f : Flow) (L : List Flow) : Prop := s = true ↔ f ∈ L
set_option maxRecDepth 100000 in
set_option maxHeartbeats 2000000 in
theorem walk (a : Option Addr) (n cap : Nat) (xs : List Int) (w : World) (hm : Months w) (hs : Sl u8L w a n xs) (hcap : n ≤ cap) (hx : ∀ x ∈ xs, 0 ≤ x ∧ x ≤ 255) :
    Calls Tryd.prog 9 #[.slice a n cap] w fun e w' => e = .returned (.bool true) ∧ w.grownBy w' none := by
  have Hx := hid hx
  have Hs := hid hs
  have Hm := hid hm
  have hbig := hs.big
  unfold maxLen at hbig
  clear hx hs hm
  by_cases hn : 1048576 < n
  · go_enter Tryd.func9, Tryd.ntmps9
    go_wp2_with fail
    go_ret
    exact ⟨rfl, gr_refl _ _⟩
  clear hbig
  go_enter Tryd.func9, Tryd.ntmps9
  go_wp2_with fail
  refine (DrawNextFlow_any a n cap xs w Hs.out hcap Hx.out).mono ?_
  rintro e w1 ⟨b, day, rfl, hB, ⟨hd0, hd1⟩, hg⟩
  have Hb1 := hid (heap_alloc_new w1 (Obj.cells #[.int .i64 b.start, .int .i64 b.stop, .int .i64 b.months, .int .i64 b.rate] 25))
  have Hg1 := hid (gr_alloc hg (Obj.cells #[.int .i64 b.start, .int .i64 b.stop, .int .i64 b.months, .int .i64 b.rate] 25))
  have hBs0 := hB.s0; have hBs1 := hB.s1; have hBe0 := hB.e0; have hBe1 := hB.e1
  have hBm0 := hB.m0; have hBm1 := hB.m1; have hBr0 := hB.r0; have hBr1 := hB.r1
  clear hg
  have HA := hid (fun wx (h : Months wx) => NextFlow_any b day wx h)
  have HSp := hid (fun wx => specNextFlow_any b day wx)
  have HF := hid (fun wx (h : Months wx) => FlowsOf_any b wx h)
  cases hnx : (afterF b day)[0]? with
  | none =>
    rw [next_no hnx] at HA HSp
    simp only at HA HSp
    clear hnx
    go_wp2_with fail
    refine (HA.out _ (Hm.out.keep0 Hg1.out)).mono ?_
    rintro e' w2 ⟨rfl, hg⟩
    have Hg2 := hid (gr_alloc (gr_trans0 Hg1.out hg) (Obj.cells #[.int .i64 (0), .int .i64 (0)] 42))
    have Hb2 := hid (blk_alloc (blk_keep Hb1.out hg (by simp)) (Obj.cells #[.int .i64 (0), .int .i64 (0)] 42))
    have He2 := hid (heap_alloc_new w2 (Obj.cells #[.int .i64 (0), .int .i64 (0)] 42))
    have hl2 : w1.heap.size < w2.heap.size := blk_lt (blk_keep Hb1.out hg (by simp))
    have hne2 : ¬ w1.heap.size = w2.heap.size := by omega
    have c0 := blk_cell Hb2.out 0 _ rfl
    have c1 := blk_cell Hb2.out 1 _ rfl
    have c2 := blk_cell Hb2.out 2 _ rfl
    have c3 := blk_cell Hb2.out 3 _ rfl
    clear hg
    go_wp2_with fail
    refine (HSp.out _).mono ?_
    rintro e' w3 ⟨rfl, hg⟩
    have Hg3 := hid (gr_trans0 Hg2.out hg)
    have Hb3 := hid (blk_alloc (blk_keep Hb2.out hg (by simp)) (Obj.cells #[.int .i64 (0), .int .i64 (0)] 42))
    have He3 := hid (blk_keep He2.out hg (by simp))
    have hl3 : w2.heap.size < w3.heap.size := blk_lt He3.out
    have hne3 : ¬ w2.heap.size = w3.heap.size := by omega
    clear hg c0 c1 c2 c3
    have d0 := blk_cell He3.out 0 _ rfl
    have d1 := blk_cell He3.out 1 _ rfl
    go_wp2_with fail
    go_ret
    exact ⟨rfl, gr_alloc Hg3.out _⟩
  | some f =>
    rw [next_yes hnx] at HA HSp
    simp only at HA HSp
    have Hnx := hid (next_spec hnx).2.2.2
    have Hmem := hid (next_spec hnx).2.2.1
    have hfd : day < f.day := (next_spec hnx).2.1
    clear hnx
    go_wp2_with fail
    refine (HA.out _ (Hm.out.keep0 Hg1.out)).mono ?_
    rintro e' w2 ⟨rfl, hg⟩
    have Hg2 := hid (gr_alloc (gr_trans0 Hg1.out hg) (Obj.cells #[.int .i64 (f.day), .int .i64 (f.amount)] 42))
    have Hb2 := hid (blk_alloc (blk_keep Hb1.out hg (by simp)) (Obj.cells #[.int .i64 (f.day), .int .i64 (f.amount)] 42))
    have He2 := hid (heap_alloc_new w2 (Obj.cells #[.int .i64 (f.day), .int .i64 (f.amount)] 42))
    have hl2 : w1.heap.size < w2.heap.size := blk_lt (blk_keep Hb1.out hg (by simp))
    have hne2 : ¬ w1.heap.size = w2.heap.size := by omega
    have c0 := blk_cell Hb2.out 0 _ rfl
    have c1 := blk_cell Hb2.out 1 _ rfl
    have c2 := blk_cell Hb2.out 2 _ rfl
    have c3 := blk_cell Hb2.out 3 _ rfl
    clear hg
    go_wp2_with fail
    refine (HSp.out _).mono ?_
    rintro e' w3 ⟨rfl, hg⟩
    have Hg3 := hid (gr_trans0 Hg2.out hg)
    have Hb3 := hid (blk_alloc (blk_keep Hb2.out hg (by simp)) (Obj.cells #[.int .i64 (f.day), .int .i64 (f.amount)] 42))
    have He3 := hid (blk_keep He2.out hg (by simp))
    have hl3 : w2.heap.size < w3.heap.size := blk_lt He3.out
    have hne3 : ¬ w2.heap.size = w3.heap.size := by omega
    clear hg c0 c1 c2 c3
    have d0 := blk_cell He3.out 0 _ rfl
    have d1 := blk_cell He3.out 1 _ rfl
    have c0 := blk_cell Hb3.out 0 _ rfl
    have c1 := blk_cell Hb3.out 1 _ rfl
    have c2 := blk_cell Hb3.out 2 _ rfl
    have c3 := blk_cell Hb3.out 3 _ rfl
    go_wp2_with fail
    refine (HF.out _ (Hm.out.keep0 (gr_alloc Hg3.out _))).mono ?_
    rintro e' w6 ⟨fa, n6, fc, rfl, ho, _, hg⟩
    have Hs := hid ho.sl
    have Hg6 := hid (gr_trans0 (gr_alloc Hg3.out _) hg)
    have He6 := hid (blk_keep (blk_alloc He3.out _) hg (by simp))
    have hn6 : n6 ≤ 1000 := by
      have h1 : (flowsF b).length ≤ 40 := by
        unfold flowsF
        split
        · rename_i h; rw [flows_len]; have := (ok_bond h).span.q2; unfold persF; rw [sched_len]; exact this
        · simp
      have := ho.len; omega
    clear hg ho c0 c1 c2 c3 d0 d1 HA HSp HF
    generalize flowsF b = L at *
    generalize w2.heap.size = D at *
    go_wp2_with fail
    go_loopw [10, 11] (fun q i wr => ∃ (k : Nat) (s : Bool), k ≤ n6 ∧ i = .int .i64 k ∧ q = .bool s ∧ SomeIn s f (L.take k) ∧ w6.grownBy wr none) (fun _ i _ => n6 - (intOf i).toNat)
    case atStart => exact ⟨0, false, by omega, rfl, rfl, by unfold SomeIn; simp, gr0 _⟩
    case round =>
      obtain ⟨k, s, hk, rfl, rfl, hs2, hgr⟩ := hrel
      have Hs2 := hid hs2
      clear hs2
      have Hgr := hid hgr
      clear hgr
      have he := blk_keep He6.out Hgr.out (by simp)
      have d0 := blk_cell he 0 _ rfl
      have d1 := blk_cell he 1 _ rfl
      clear he
      by_cases hlt : k < n6
      · obtain ⟨lb, lo, x, rfl, hx, l0, l1⟩ := flow_at (Hs.out.keep0 Hgr.out) k hlt
        have Hx := hid hx
        have hi0 : (0 : Int) ≤ k := by omega
        have hi1 : (k : Int) < n6 := by omega
        have Ht := hid (take_snoc _ _ _ hx)
        have hle : day < x.day → f.day ≤ x.day := Hnx.out x (List.mem_of_getElem? hx)
        clear hx
        cases s with
        | true =>
          have Hs3 : Hid (SomeIn true f (L.take (k + 1))) := hid (by unfold SomeIn; rw [Ht.out, List.mem_append]; exact ⟨fun _ => .inl (Hs2.out.1 rfl), fun _ => rfl⟩)
          by_cases hxg : day < x.day
          · have hg1 : decide (day < x.day) = true := by simpa using hxg
            have hg2 : decide (x.day < f.day) = false := by have := hle hxg; simp; omega
            clear hle hxg
            go_wp2_with fail
            go_quiet (fail)
            go_wp2_with fail
            go_quiet (fail)
            go_wp2_with fail
            go_roundw
            case rel => exact ⟨k + 1, true, by omega, by go_num, rfl, Hs3.out, gr_drewN Hgr.out _⟩
            case measure => simp [intOf]; omega
          · have hg1 : decide (day < x.day) = false := by simpa using hxg
            clear hle hxg
            go_wp2_with fail
            go_quiet (fail)
            go_wp2_with fail
            go_quiet (fail)
            go_wp2_with fail
            go_roundw
            case rel => exact ⟨k + 1, true, by omega, by go_num, rfl, Hs3.out, gr_drewN Hgr.out _⟩
            case measure => simp [intOf]; omega
        | false =>
          by_cases hxf : x = f
          · have Hs3 : Hid (SomeIn true f (L.take (k + 1))) := hid (by unfold SomeIn; rw [Ht.out, List.mem_append]; exact ⟨fun _ => .inr (by rw [hxf]; simp), fun _ => rfl⟩)
            subst hxf
            have hg1 : decide (day < x.day) = true := by simpa using hfd
            have hg2 : decide (x.day < x.day) = false := by simp
            clear hle
            go_wp2_with fail
            go_quiet (fail)
            go_wp2_with fail
            go_quiet (fail)
            go_wp2_with fail
            go_roundw
            case rel => exact ⟨k + 1, true, by omega, by go_num, rfl, Hs3.out, gr_drewN Hgr.out _⟩
            case measure => simp [intOf]; omega
          · have Hs3 : Hid (SomeIn false f (L.take (k + 1))) := hid (by
              unfold SomeIn
              rw [Ht.out, List.mem_append]
              refine ⟨(fun h => by cases h), fun h => ?_⟩
              rcases h with h | h
              · exact Hs2.out.2 h
              · exact (hxf (List.mem_singleton.1 h).symm).elim)
            have hxf2 : x.day = f.day → ¬ x.amount = f.amount := fun e1 e2 => hxf (by cases x; cases f; simp_all)
            clear hxf
            by_cases hxd : x.day = f.day
            · have e1 : (x.day == f.day) = true := by simpa using hxd
              have e2 : (x.amount == f.amount) = false := by simpa using hxf2 hxd
              have e3 : ¬ x.amount = f.amount := hxf2 hxd
              have e4 : x.day = f.day := hxd
              clear hxd hxf2
              by_cases hxg : day < x.day
              · have hg1 : decide (day < x.day) = true := by simpa using hxg
                have hg2 : decide (x.day < f.day) = false := by have := hle hxg; simp; omega
                clear hle hxg
                go_wp2_with fail
                go_quiet (fail)
                go_wp2_with fail
                go_quiet (fail)
                go_wp2_with fail
                go_roundw
                case rel => exact ⟨k + 1, false, by omega, by go_num, rfl, Hs3.out, gr_drewN Hgr.out _⟩
                case measure => simp [intOf]; omega
              · have hg1 : decide (day < x.day) = false := by simpa using hxg
                clear hle hxg
                go_wp2_with fail
                go_quiet (fail)
                go_wp2_with fail
                go_quiet (fail)
                go_wp2_with fail
                go_roundw
                case rel => exact ⟨k + 1, false, by omega, by go_num, rfl, Hs3.out, gr_drewN Hgr.out _⟩
                case measure => simp [intOf]; omega
            · have e1 : (x.day == f.day) = false := by simpa using hxd
              clear hxf2
              by_cases hxg : day < x.day
              · have hg1 : decide (day < x.day) = true := by simpa using hxg
                have hg2 : decide (x.day < f.day) = false := by have := hle hxg; simp; omega
                clear hle hxg
                go_wp2_with fail
                go_quiet (fail)
                go_wp2_with fail
                go_quiet (fail)
                go_wp2_with fail
                go_roundw
                case rel => exact ⟨k + 1, false, by omega, by go_num, rfl, Hs3.out, gr_drewN Hgr.out _⟩
                case measure => simp [intOf]; omega
              · have hg1 : decide (day < x.day) = false := by simpa using hxg
                clear hle hxg
                go_wp2_with fail
                go_quiet (fail)
                go_wp2_with fail
                go_quiet (fail)
                go_wp2_with fail
                go_roundw
                case rel => exact ⟨k + 1, false, by omega, by go_num, rfl, Hs3.out, gr_drewN Hgr.out _⟩
                case measure => simp [intOf]; omega
      · obtain rfl : k = n6 := by omega
        have hst : s = true := Hs2.out.2 (by rw [take_len _ _ Hs.out.len]; exact Hmem.out)
        subst hst
        have hfd2 : decide (day < f.day) = true := by simpa using hfd
        go_wp2_with fail
        go_ret
        exact ⟨rfl, gr_trans0 Hg6.out Hgr.out⟩

set_option maxRecDepth 100000 in
theorem lifted (os : Os) (started : os.Started) (H : Type) (enc : TypeId × Value → H) :
    ReturnsInHanded {} Tryd.checked os 9 .any (fun w args => (Rows.fnNextFlowSpec.pre enc Tryd.prog Tryd.f9 Rows.fnNextFlowRow.domain false w args ∧ laidMetH Tryd.prog laidMonths w) ∧ sizedMet enc Tryd.prog Tryd.f9 (OpenSpec.ofChange Rows.fnNextFlowSpec) false w args) (Rows.fnNextFlowSpec.post enc Tryd.prog Tryd.f9 false true false false) := by
  refine returnsInHanded_of_change_and (C := Tryd.checked) (X := fun w _ => laidMetH Tryd.prog laidMonths w) (fun _ _ _ hh h => h.of_heap hh) Tryd.own started (by kernel_rfl) Tryd.func9
    (ChangeSpec.witness_shaped (enc := enc) (C := Tryd.checked) (os := os) (X := fun w _ => laidMetH Tryd.prog laidMonths w) false (World.doorLaid Tryd.prog 400 os) #[.slice none 0 0] 8 rfl (World.shaped_of_RefB (by kernel_rfl) (by kernel_rfl)) (by kernel_rfl) (by kernel_rfl) (by kernel_rfl) (door_met os _)) ?_
  intro W base args ds gs before hval0 hW _ _ hL _
  have hval : ∀ (j : Nat) t v, Tryd.f9.params[j]? = some t → args[j]? = some v → Value.okWide Tryd.prog W .any base t v := hval0
  have hW' := hW
  obtain ⟨p, q, hA0, hV, rfl, hfz, hnd⟩ := hW
  have hA : DataW.TrodAll enc Tryd.prog W 0 (fun _ => true) true Tryd.f9.params.toList args.toList ds p := hA0
  rw [Tryd.params9] at hA hval
  have hA2 := hA
  obtain ⟨v0, vs0, d0, ds0, p0, q0, hargs, rfl, rfl, h0, r0⟩ := trodAll_cons hA
  obtain ⟨rfl, rfl, rfl⟩ := trodAll_nil r0
  obtain rfl : args = #[v0] := by cases args; simp_all
  obtain ⟨g0, rfl⟩ := vars_one hV
  have hlt : ∀ x ∈ (p0 ++ []) ++ q, x.block < W.heap.size := fun x hx => hW'.lt x hx
  obtain ⟨a0, n0, cap0, rfl⟩ := okWide_slice Tryd.underlying32 (hval 0 32 v0 rfl rfl)
  obtain ⟨fuel0, hf0⟩ := h0
  obtain ⟨xs0, hs0, hc0, hw0⟩ := sl_ints u8L (fun _ => rfl) rfl Tryd.underlying32 Tryd.underlying5 Tryd.cellsU8 hf0
  refine (walk a0 n0 cap0 xs0 W (months_of_laid hL) hs0 hc0 (fun z hz => u8_range (hw0 z hz))).mono fun e W' ⟨he, hg⟩ => ?_
  subst he
  have hb := below_of_gr hg
  refine ⟨_, rfl, _, _, _, [], p0 ++ [], q, hW', ?_, ?_, vars_stay hb hV, hb.frame _, fun h => by cases h⟩
  · exact trodAll_mk1 (shut_bool Tryd.underlying4 _)
  · exact args_stay hb _ _ _ _ hA2 (fun x hx => hlt x (List.mem_append_left _ (by simpa using hx))) (by intro t ht; simp at ht; subst ht; exact ⟨by kernel_rfl, of_decide_eq_true (by kernel_rfl)⟩)

set_option maxRecDepth 100000 in
theorem closed : joinedFacts Tryd.pinned.checked.prog 9 Tryd.f9 Rows.fnNextFlowSpec Rows.fnNextFlowRow = true := by
  rw [joinedFacts, show Tryd.pinned.checked.prog.mayEnter = true from Tryd.enters, show Tryd.pinned.checked.prog.liftsFinal = false from Tryd.lifts, show Tryd.pinned.checked.prog.make = some .cut from Tryd.cut]
  kernel_rfl

theorem row_holds : Rows.FnNextFlowSaid :=
  OpenClaim.holds_of_wide 9 Tryd.f9 rfl rfl rfl rfl rfl rfl rfl ⟨rfl, rfl, rfl, rfl, rfl⟩ rfl rfl rfl rfl rfl (by kernel_rfl) Tryd.func9 closed
    (of_decide_eq_true (by kernel_rfl)) (by unfold Func.isWrapper; first | (rw [if_pos (by decide +kernel)]; kernel_rfl) | (rw [if_neg (by decide +kernel)]; exact ⟨rfl, rfl⟩))
    (fun os started H enc _ => lifted os started H enc)

theorem holds : Rows.FnNextFlowCardSaid :=
  Claim7.holds_tied_plain_at .later [] [.data] true (true, "22dfc429811bdb46a90c5d9e37b95d9549ab5b19e19d6b6766dabd62dd407f7b") false
    row_holds (fun _ h => by cases h) (by kernel_rfl) (fun _ h => by cases h) fnNextFlow_row_tie rfl ⟨rfl, rfl⟩ (by kernel_rfl) rfl
    (fun f fn hf hfn => by
      obtain rfl : f = 9 := Option.some.inj ((show Tryd.prog.funcNamed "loop.example/bonddesk/laws.FnNextFlow" = some 9 by kernel_rfl).symm.trans hf) |>.symm
      obtain rfl : fn = Tryd.f9 := (Option.some.inj (Tryd.func9.symm.trans hfn)).symm
      exact ⟨by kernel_rfl, fun j t ht => by
        rw [Tryd.params9] at ht
        have hm : t ∈ [32] := by simpa using Array.mem_of_getElem? ht
        have hall : ([32].all fun u => !Tryd.prog.wantsStandIn u) = true := by kernel_rfl
        exact (show Tryd.prog.wantsStandIn t = false by simpa using List.all_eq_true.1 hall t hm)⟩)
    (by kernel_rfl)
end FnNextFlow
end Go.Proofs.YtpmafjmgacdgfaaDoor
