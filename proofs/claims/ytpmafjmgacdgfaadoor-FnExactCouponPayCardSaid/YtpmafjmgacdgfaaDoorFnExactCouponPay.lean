/- For every input, FnExactCouponPay returns true: the program's coupon payments are the reference's. No condition. -/
import Derived.Test.YtpmafjmgacdgfaaDoorRows
import Derived.Test.YtpmafjmgacdgfaaDoorCards
import Derived.Test.YtpmafjmgacdgfaaDoorTie
import Derived.Test.YtpmafjmgacdgfaaDoorSpecPay
import Derived.Test.YtpmafjmgacdgfaaDoorRowBond
import Derived.Test.YtpmafjmgacdgfaaDoorFrame
import Derived.Test.YtpmafjmgacdgfaaDoorFrameL
import Derived.ProofKit
namespace Go.Proofs.YtpmafjmgacdgfaaDoor
open Go.ChangeShapes Go.WideShapes Go.ChangeAt Go.RowKit
namespace FnExactCouponPay

theorem pay_len (b : Bond) (hs : List Int) (day : Int) (n : Nat) (h : hs.length = n) (hn : n ≤ 1048576) : (payF b hs day).length ≤ 1048576 := by
  unfold payF
  split
  · unfold payL; rw [List.length_map]; omega
  · simp

set_option maxRecDepth 100000 in
set_option maxHeartbeats 2000000 in
theorem walk (b : Bond) (a : Option Addr) (n cap : Nat) (xs : List Int) (day : Int) (w : World) (hm : Months w) (_ : (Lit.int .i64 b.start).wf = true ∧ (Lit.int .i64 b.stop).wf = true ∧ (Lit.int .i64 b.months).wf = true ∧ (Lit.int .i64 b.rate).wf = true) (hs : Sl intL w a n xs) (_ : n ≤ cap) (_ : ∀ x ∈ xs, -9223372036854775808 ≤ x ∧ x ≤ 9223372036854775807) (_ : -9223372036854775808 ≤ day ∧ day ≤ 9223372036854775807) :
    Calls Tryd.prog 15 #[.agg #[.int .i64 b.start, .int .i64 b.stop, .int .i64 b.months, .int .i64 b.rate], .slice a n cap, .int .i64 day] w fun e w' => e = .returned (.bool true) ∧ w.grownBy w' none := by
  have hbig := hs.big
  have hg0 : w.grownBy (w.alloc (.cells #[.int .i64 b.start, .int .i64 b.stop, .int .i64 b.months, .int .i64 b.rate] 23)) none := gr_alloc (gr0 _) _
  have Hb0 := hid (heap_alloc_new w (.cells #[.int .i64 b.start, .int .i64 b.stop, .int .i64 b.months, .int .i64 b.rate] 23))
  have Hm := hid hm
  have Hs := hid (hs.keep0 hg0)
  have Hg0 := hid hg0
  clear hs hm hg0
  by_cases hn : 1048576 < n
  · unfold maxLen at hbig
    go_enter Tryd.func15, Tryd.ntmps15
    go_wp2_with fail
    go_ret
    exact ⟨rfl, Hg0.out⟩
  · have hn2 : n ≤ 1048576 := by omega
    clear hbig
    have Hwl := hid (pay_len b xs day n Hs.out.len hn2)
    have hd : decide (payF b xs day = payF b xs day) = true := by simp
    have hdx : decide (xs = xs) = true := by simp
    have HSp := hid (fun (a : Option Addr) (n cap : Nat) wx (h : Sl intL wx a n xs) => specCouponPay_any b day a n cap xs wx h)
    have HIm := hid (fun (a : Option Addr) (n cap : Nat) wx (hx : Months wx) (h : Sl intL wx a n xs) => CouponPay_any b day a n cap xs wx hx h)
    generalize payF b xs day = V at *
    go_enter Tryd.func15, Tryd.ntmps15
    go_wp2_with fail
    refine (toBond_any b _).mono ?_
    rintro e' w1 ⟨rfl, hg⟩
    have Hg1 := hid (gr_trans0 Hg0.out hg)
    have Hb1 := hid (blk_keep Hb0.out hg (by simp))
    (try clear c0 c1 c2 c3)
    have hgs := hid hg
    clear hg
    have Hs1 := hid (Hs.out.keep0 hgs.out)
    go_wp2_with fail
    refine (toIntS_any a n cap xs w1 Hs1.out hn2).mono ?_
    rintro e w2 ⟨a1, rfl, ho1, hg⟩
    have Ho1 := hid ho1
    have Hg2 := hid (gr_trans0 Hg1.out hg)
    have Hb2 := hid (blk_keep Hb1.out hg (by simp))
    have Hs2 := hid (Hs1.out.keep0 hg)
    clear ho1 hg
    go_wp2_with fail
    refine (HSp.out a1 n n w2 Ho1.out.sl).mono ?_
    rintro e w3 ⟨aw, nw, cw, rfl, how, hcw, hg⟩
    have How3 := hid how
    have Hg3 := hid (gr_trans0 Hg2.out hg)
    have Hb3 := hid (blk_keep Hb2.out hg (by simp))
    have Hs3 := hid (Hs2.out.keep0 hg)
    clear how hg
    go_wp2_with fail
    refine (toIntS_any a n cap xs w3 Hs3.out hn2).mono ?_
    rintro e w4 ⟨ax, rfl, hox, hg⟩
    have Hox4 := hid hox
    have Hg4 := hid (gr_trans0 Hg3.out hg)
    have Hb4 := hid (blk_keep Hb3.out hg (by simp))
    have Hs4 := hid (Hs3.out.keep0 hg)
    have Hw4 := hid (How3.out.keep0 hg)
    clear hox hg
    (try clear c0 c1 c2 c3)
    have c0 := blk_cell Hb4.out 0 _ rfl
    have c1 := blk_cell Hb4.out 1 _ rfl
    have c2 := blk_cell Hb4.out 2 _ rfl
    have c3 := blk_cell Hb4.out 3 _ rfl
    go_wp2_with fail
    refine (toBond_any b _).mono ?_
    rintro e' w5 ⟨rfl, hg⟩
    have Hg5 := hid (gr_trans0 Hg4.out hg)
    have Hb5 := hid (blk_keep Hb4.out hg (by simp))
    (try clear c0 c1 c2 c3)
    have hgs := hid hg
    clear hg
    have Hox5 := hid (Hox4.out.keep0 hgs.out)
    have Hs5 := hid (Hs4.out.keep0 hgs.out)
    have Hw5 := hid (Hw4.out.keep0 hgs.out)
    clear hgs
    go_wp2_with fail
    refine (HIm.out ax n n w5 (Hm.out.keep0 Hg5.out) Hox5.out.sl).mono ?_
    rintro e w6 ⟨ag, ng, cg, rfl, hog, hcg, hg⟩
    have Hog6 := hid hog
    have Hw6 := hid (Hw5.out.keep0 hg)
    have Hx6 := hid (Hox5.out.keep0 hg)
    have Hs6 := hid (Hs5.out.keep0 hg)
    have Hg6 := hid (gr_trans0 Hg5.out hg)
    have Hb6 := hid (blk_keep Hb5.out hg (by simp))
    clear hog hg
    go_wp2_with fail
    refine (eqIntS_any ag aw ng nw cg cw _ _ w6 Hog6.out.sl Hw6.out.sl).mono ?_
    rintro e w7 ⟨rfl, hg⟩
    have Hog7 := hid (Hog6.out.keep0 hg)
    have Hw7 := hid (Hw6.out.keep0 hg)
    have Hx7 := hid (Hx6.out.keep0 hg)
    have Hs7 := hid (Hs6.out.keep0 hg)
    have Hg7 := hid (gr_trans0 Hg6.out hg)
    have Hb7 := hid (blk_keep Hb6.out hg (by simp))
    clear hg
    go_wp2_with fail
    refine (toIntS_any a n cap xs w7 Hs7.out hn2).mono ?_
    rintro e w8 ⟨a8, rfl, ho8, hg⟩
    have Ho8 := hid ho8
    have Hog8 := hid (Hog7.out.keep0 hg)
    have Hw8 := hid (Hw7.out.keep0 hg)
    have Hx8 := hid (Hx7.out.keep0 hg)
    have Hs8 := hid (Hs7.out.keep0 hg)
    have Hg8 := hid (gr_trans0 Hg7.out hg)
    have Hb8 := hid (blk_keep Hb7.out hg (by simp))
    clear ho8 hg
    go_wp2_with fail
    refine (eqIntS_any ax a8 n n n n xs xs w8 Hx8.out.sl Ho8.out.sl).mono ?_
    rintro e w9 ⟨rfl, hg⟩
    have Hog9 := hid (Hog8.out.keep0 hg)
    have Hw9 := hid (Hw8.out.keep0 hg)
    have Hx9 := hid (Hx8.out.keep0 hg)
    have Hs9 := hid (Hs8.out.keep0 hg)
    have Hg9 := hid (gr_trans0 Hg8.out hg)
    have Hb9 := hid (blk_keep Hb8.out hg (by simp))
    clear hg
    go_wp2_with fail
    refine (markIntS_any ax n n _ xs 1 w9 Hx9.out hn2 (by decide) (by decide)).mono ?_
    rintro e w10 ⟨rfl, _, r10, hg10, hr10⟩
    -- x0's block is neither the result's, nor the reference's, nor the argument's
    have hag : 0 < ng → ∀ b' off, ag = some ⟨b', off, none⟩ → r10 ≠ some b' := by
      intro h0 b' off e1 e2
      obtain ⟨hn0, off2, e3⟩ := hr10 b' e2
      exact Ow.apart Hox5.out.sl Hog6.out (Nat.le_refl _) hn0 h0 b' off2 b' off e3 e1 rfl
    have haw : 0 < nw → ∀ b' off, aw = some ⟨b', off, none⟩ → r10 ≠ some b' := by
      intro h0 b' off e1 e2
      obtain ⟨hn0, off2, e3⟩ := hr10 b' e2
      exact Ow.apart How3.out.sl Hox4.out (Nat.le_refl _) h0 hn0 b' off b' off2 e1 e3 rfl
    have hrb : ∀ k, r10 = some k → w3.heap.size ≤ k := fun k e => by
      obtain ⟨hn0, off2, e3⟩ := hr10 k e
      obtain ⟨b', off, e4, hb, _⟩ := Hox4.out.mem hn0
      rw [e3] at e4; cases e4; exact hb
    have hwb := blk_lt Hb3.out
    have has : 0 < n → ∀ b' off, a = some ⟨b', off, none⟩ → r10 ≠ some b' := by
      intro h0 b' off e1 e2
      obtain ⟨b2, o2, e3, hlt, _⟩ := Hs3.out.mem h0
      rw [e1] at e3; cases e3
      have := hrb b' e2; omega
    have Hog10 := hid (Hog9.out.keep hg10 hag)
    have Hw10 := hid (Hw9.out.keep hg10 haw)
    have Hs10 := hid (Hs9.out.keep hg10 has)
    have Hb10 := hid (blk_keep Hb9.out hg10 (fun k e => by have := hrb k e; omega))
    have Hg10 : Hid (w.grownBy w10 none) := hid (gr_own Hg9.out hg10 (fun k e => by have := hrb k e; have := gr_le Hg3.out; omega))
    clear hg10 hr10 hag haw hrb has
    go_wp2_with fail
    refine (eqIntS_any ag aw ng nw cg cw _ _ w10 Hog10.out.sl Hw10.out.sl).mono ?_
    rintro e w11 ⟨rfl, hg⟩
    have Hog11 := hid (Hog10.out.keep0 hg)
    have Hw11 := hid (Hw10.out.keep0 hg)
    have Hs11 := hid (Hs10.out.keep0 hg)
    have Hg11 := hid (gr_trans0 Hg10.out hg)
    have Hb11 := hid (blk_keep Hb10.out hg (by simp))
    clear hg
    have hng : ng ≤ 1048576 := by have h1 := Hog6.out.len; have h2 := Hwl.out; omega
    go_wp2_with fail
    refine (markIntS_any ag ng cg _ _ 1 w11 Hog11.out hng (by decide) (by decide)).mono ?_
    rintro e w12 ⟨rfl, hom, r12, hg12, hr12⟩
    have haw : 0 < nw → ∀ b' off, aw = some ⟨b', off, none⟩ → r12 ≠ some b' := by
      intro h0 b' off e1 e2
      obtain ⟨hn0, off2, e3⟩ := hr12 b' e2
      exact Ow.apart Hw5.out.sl Hog6.out (Nat.le_refl _) h0 hn0 b' off b' off2 e1 e3 rfl
    have hrb : ∀ k, r12 = some k → w5.heap.size ≤ k := fun k e => by
      obtain ⟨hn0, off2, e3⟩ := hr12 k e
      obtain ⟨b', off, e4, hb, _⟩ := Hog6.out.mem hn0
      rw [e3] at e4; cases e4; exact hb
    have hwb5 := blk_lt Hb5.out
    have has : 0 < n → ∀ b' off, a = some ⟨b', off, none⟩ → r12 ≠ some b' := by
      intro h0 b' off e1 e2
      obtain ⟨b2, o2, e3, hlt, _⟩ := Hs5.out.mem h0
      rw [e1] at e3; cases e3
      have := hrb b' e2; omega
    have Hom := hid hom
    have Hw12 := hid (Hw11.out.keep hg12 haw)
    have Hs12 := hid (Hs11.out.keep hg12 has)
    have Hb12 := hid (blk_keep Hb11.out hg12 (fun k e => by have := hrb k e; omega))
    have Hg12 : Hid (w.grownBy w12 none) := hid (gr_own Hg11.out hg12 (fun k e => by have := hrb k e; have := gr_le Hg5.out; omega))
    clear hg12 hr12 haw hrb has hom
    go_wp2_with fail
    refine (heldIntS_any ag ng cg 1 w12 Hom.out.sl hng (by decide) (by decide)).mono ?_
    rintro e w13 ⟨rfl, rfl⟩
    (try clear c0 c1 c2 c3)
    have c0 := blk_cell Hb12.out 0 _ rfl
    have c1 := blk_cell Hb12.out 1 _ rfl
    have c2 := blk_cell Hb12.out 2 _ rfl
    have c3 := blk_cell Hb12.out 3 _ rfl
    go_wp2_with fail
    refine (toBond_any b _).mono ?_
    rintro e' w14 ⟨rfl, hg⟩
    have Hg14 := hid (gr_trans0 Hg12.out hg)
    have Hb14 := hid (blk_keep Hb12.out hg (by simp))
    (try clear c0 c1 c2 c3)
    have hgs := hid hg
    clear hg
    have Hs14 := hid (Hs12.out.keep0 hgs.out)
    have Hom14 := hid (Hom.out.keep0 hgs.out)
    have Hw14 := hid (Hw12.out.keep0 hgs.out)
    clear hgs
    go_wp2_with fail
    refine (toIntS_any a n cap xs w14 Hs14.out hn2).mono ?_
    rintro e w15 ⟨a15, rfl, ho15, hg⟩
    have Ho15 := hid ho15
    have Hom15 := hid (Hom14.out.keep0 hg)
    have Hw15 := hid (Hw14.out.keep0 hg)
    have Hg15 := hid (gr_trans0 Hg14.out hg)
    clear ho15 hg
    go_wp2_with fail
    refine (HIm.out a15 n n w15 (Hm.out.keep0 Hg15.out) Ho15.out.sl).mono ?_
    rintro e w16 ⟨ah, nh, ch, rfl, hoh, hch, hg⟩
    have Hoh := hid hoh
    have Hom16 := hid (Hom15.out.keep0 hg)
    have Hw16 := hid (Hw15.out.keep0 hg)
    have Hg16 := hid (gr_trans0 Hg15.out hg)
    clear hoh hg
    go_wp2_with fail
    refine (eqIntS_any ah aw nh nw ch cw _ _ w16 Hoh.out.sl Hw16.out.sl).mono ?_
    rintro e w17 ⟨rfl, hg⟩
    have Hom17 := hid (Hom16.out.keep0 hg)
    have Hg17 := hid (gr_trans0 Hg16.out hg)
    clear hg
    go_wp2_with fail
    refine (heldIntS_any ag ng cg 1 w17 Hom17.out.sl hng (by decide) (by decide)).mono ?_
    rintro e w18 ⟨rfl, rfl⟩
    go_wp2_with fail
    go_ret
    exact ⟨rfl, Hg17.out⟩

set_option maxRecDepth 100000 in
theorem lifted (os : Os) (started : os.Started) (H : Type) (enc : TypeId × Value → H) :
    ReturnsInHanded {} Tryd.checked os 15 .any (fun w args => (Rows.fnExactCouponPaySpec.pre enc Tryd.prog Tryd.f15 Rows.fnExactCouponPayRow.domain false w args ∧ laidMetH Tryd.prog laidMonths w) ∧ sizedMet enc Tryd.prog Tryd.f15 (OpenSpec.ofChange Rows.fnExactCouponPaySpec) false w args) (Rows.fnExactCouponPaySpec.post enc Tryd.prog Tryd.f15 false true false false) := by
  refine returnsInHanded_of_change_and (C := Tryd.checked) (X := fun w _ => laidMetH Tryd.prog laidMonths w) (fun _ _ _ hh h => h.of_heap hh) Tryd.own started (by kernel_rfl) Tryd.func15
    (ChangeSpec.witness_shaped (enc := enc) (C := Tryd.checked) (os := os) (X := fun w _ => laidMetH Tryd.prog laidMonths w) false (World.doorLaid Tryd.prog 400 os) #[.agg #[.int .i64 0, .int .i64 0, .int .i64 0, .int .i64 0], .slice none 0 0, .int .i64 0] 8 rfl (World.shaped_of_RefB (by kernel_rfl) (by kernel_rfl)) (by kernel_rfl) (by kernel_rfl) (by kernel_rfl) (door_met os _)) ?_
  intro W base args ds gs before hval0 hW _ _ hL _
  have hval : ∀ (j : Nat) t v, Tryd.f15.params[j]? = some t → args[j]? = some v → Value.okWide Tryd.prog W .any base t v := hval0
  have hW' := hW
  obtain ⟨p, q, hA0, hV, rfl, hfz, hnd⟩ := hW
  have hA : DataW.TrodAll enc Tryd.prog W 0 (fun _ => true) true Tryd.f15.params.toList args.toList ds p := hA0
  rw [Tryd.params15] at hA hval
  have hA2 := hA
  obtain ⟨v0, vs0, d0, ds0, p0, q0, hargs, rfl, rfl, h0, r0⟩ := trodAll_cons hA
  obtain ⟨v1, vs1, d1, ds1, p1, q1, rfl, rfl, rfl, h1, r1⟩ := trodAll_cons r0
  obtain ⟨v2, vs2, d2, ds2, p2, q2, rfl, rfl, rfl, h2, r2⟩ := trodAll_cons r1
  obtain ⟨rfl, rfl, rfl⟩ := trodAll_nil r2
  obtain rfl : args = #[v0, v1, v2] := by cases args; simp_all
  obtain ⟨g0, rfl⟩ := vars_one hV
  have hlt : ∀ x ∈ (p0 ++ (p1 ++ (p2 ++ []))) ++ q, x.block < W.heap.size := fun x hx => hW'.lt x hx
  obtain ⟨x0, rfl, hw0⟩ := open_lawsBond (hval 0 23 v0 rfl rfl) h0
  obtain ⟨a1, n1, cap1, rfl⟩ := okWide_slice Tryd.underlying52 (hval 1 52 v1 rfl rfl)
  obtain ⟨fuel1, hf1⟩ := h1
  obtain ⟨xs1, hs1, hc1, hw1⟩ := sl_ints intL (fun _ => rfl) rfl Tryd.underlying52 Tryd.underlying3 Tryd.cellsInt hf1
  obtain ⟨x2, rfl, rfl, rfl, w2⟩ := open_int Tryd.underlying3 (hval 2 3 v2 rfl rfl) h2
  refine (walk x0 a1 n1 cap1 xs1 x2 W (months_of_laid hL) hw0 hs1 hc1 (fun z hz => i64_range (hw1 z hz)) (i64_range w2)).mono fun e W' ⟨he, hg⟩ => ?_
  subst he
  have hb := below_of_gr hg
  refine ⟨_, rfl, _, _, _, [], p0 ++ (p1 ++ ([] ++ [])), q, hW', ?_, ?_, vars_stay hb hV, hb.frame _, fun h => by cases h⟩
  · exact trodAll_mk1 (shut_bool Tryd.underlying4 _)
  · exact args_stay hb _ _ _ _ hA2 (fun x hx => hlt x (List.mem_append_left _ (by simpa using hx))) (by intro t ht; simp at ht; rcases ht with rfl | rfl | rfl <;> exact ⟨by kernel_rfl, of_decide_eq_true (by kernel_rfl)⟩)

set_option maxRecDepth 100000 in
theorem closed : joinedFacts Tryd.pinned.checked.prog 15 Tryd.f15 Rows.fnExactCouponPaySpec Rows.fnExactCouponPayRow = true := by
  rw [joinedFacts, show Tryd.pinned.checked.prog.mayEnter = true from Tryd.enters, show Tryd.pinned.checked.prog.liftsFinal = false from Tryd.lifts, show Tryd.pinned.checked.prog.make = some .cut from Tryd.cut]
  kernel_rfl

theorem row_holds : Rows.FnExactCouponPaySaid :=
  OpenClaim.holds_of_wide 15 Tryd.f15 rfl rfl rfl rfl rfl rfl rfl ⟨rfl, rfl, rfl, rfl, rfl⟩ rfl rfl rfl rfl rfl (by kernel_rfl) Tryd.func15 closed
    (of_decide_eq_true (by kernel_rfl)) (by unfold Func.isWrapper; first | (rw [if_pos (by decide +kernel)]; kernel_rfl) | (rw [if_neg (by decide +kernel)]; exact ⟨rfl, rfl⟩))
    (fun os started H enc _ => lifted os started H enc)

theorem holds : Rows.FnExactCouponPayCardSaid :=
  Claim7.holds_tied_plain_at .later [] [.data] true (true, "22dfc429811bdb46a90c5d9e37b95d9549ab5b19e19d6b6766dabd62dd407f7b") false
    row_holds (fun _ h => by cases h) (by kernel_rfl) (fun _ h => by cases h) fnExactCouponPay_row_tie rfl ⟨rfl, rfl⟩ (by kernel_rfl) rfl
    (fun f fn hf hfn => by
      obtain rfl : f = 15 := Option.some.inj ((show Tryd.prog.funcNamed "loop.example/bonddesk/laws.FnExactCouponPay" = some 15 by kernel_rfl).symm.trans hf) |>.symm
      obtain rfl : fn = Tryd.f15 := (Option.some.inj (Tryd.func15.symm.trans hfn)).symm
      exact ⟨by kernel_rfl, fun j t ht => by
        rw [Tryd.params15] at ht
        have hm : t ∈ [23, 52, 3] := by simpa using Array.mem_of_getElem? ht
        have hall : ([23, 52, 3].all fun u => !Tryd.prog.wantsStandIn u) = true := by kernel_rfl
        exact (show Tryd.prog.wantsStandIn t = false by simpa using List.all_eq_true.1 hall t hm)⟩)
    (by kernel_rfl)
end FnExactCouponPay
end Go.Proofs.YtpmafjmgacdgfaaDoor
