/- For every input, FnExactCapWeights returns true: the program's CapWeights returns what the reference's returns, leaves its argument alone, and returns memory of its own. No condition. -/
import Derived.Test.YtecboohippbliaaRows
import Derived.Test.YtecboohippbliaaCapWalk
import Derived.Test.YtecboohippbliaaSpecCap2
import Derived.Test.YtecboohippbliaaInts
import Derived.Test.YtecboohippbliaaToInts
import Derived.Test.YtecboohippbliaaFrame
import Derived.ProofKit
namespace Go.Proofs.Ytecboohippbliaa
open Go.ChangeShapes Go.WideShapes Go.ChangeAt Go.RowKit
namespace FnExactCapWeights

abbrev val (x : Int) (xs : List Int) : List Int := capWeightsF xs x

theorem len_le (x : Int) (xs : List Int) (n : Nat) (h : xs.length = n) (hn : n ≤ 1048576) : (val x xs).length ≤ 1048576 := by
  unfold val capWeightsF
  split
  · rename_i hok
    have hc := capOk_facts xs x hok
    obtain ⟨gx, h1, _⟩ := capN_ind x xs.length (fun _ _ => True) (fun _ _ _ _ _ => trivial) (xs.length + 1) xs _ hc trivial (by simp)
    have := h1.len
    unfold capF; omega
  · simp

theorem implC (x : Int) (a : Option Addr) (n cap : Nat) (xs : List Int) (w : World) (hs : Sl intL w a n xs) :
    Calls Try.prog 32 #[.slice a n cap, .int .i64 x] w fun e w' => ∃ a' n' cap', e = .returned (.slice a' n' cap') ∧ Ow intL w' w.heap.size a' n' (val x xs) ∧ n' ≤ cap' ∧ w.grownBy w' none := CapWeights_any a n cap xs x w hs

theorem specC (x : Int) (a : Option Addr) (n cap : Nat) (xs : List Int) (w : World) (hs : Sl intL w a n xs) :
    Calls Try.prog 31 #[.slice a n cap, .int .i64 x] w fun e w' => ∃ a' n' cap', e = .returned (.slice a' n' cap') ∧ Ow intL w' w.heap.size a' n' (val x xs) ∧ n' ≤ cap' ∧ w.grownBy w' none := SpecCapWeights_any a n cap xs x w hs


set_option maxRecDepth 100000 in
set_option maxHeartbeats 1000000 in
theorem walk (a : Option Addr) (n cap : Nat) (xs : List Int) (x : Int) (w : World) (hs : Sl intL w a n xs) (_hcap : n ≤ cap) (_ : ∀ z ∈ xs, -9223372036854775808 ≤ z ∧ z ≤ 9223372036854775807) (_ : -9223372036854775808 ≤ x ∧ x ≤ 9223372036854775807) :
    Calls Try.prog 9 #[.slice a n cap, .int .i64 x] w fun e w' => e = .returned (.bool true) ∧ w.grownBy w' none := by
  have hbig := hs.big
  have Hs := hid hs; clear hs
  by_cases hn : 1048576 < n
  · unfold maxLen at hbig
    go_enter Try.func9, Try.ntmps9
    go_wp2_with fail
    go_ret
    exact ⟨rfl, gr_refl _ _⟩
  · have hn2 : n ≤ 1048576 := by omega
    clear hbig
    have Hwl := hid (len_le x xs n Hs.out.len hn2)
    have hd : decide (val x xs = val x xs) = true := by simp
    have hdx : decide (xs = xs) = true := by simp
    go_enter Try.func9, Try.ntmps9
    go_wp2_with fail
    refine (toIntS_any a n cap xs w Hs.out hn2).mono ?_
    rintro e w1 ⟨a1, rfl, ho1, hg1⟩
    have Ho1 := hid ho1; clear ho1
    have Hg1 := hid hg1; clear hg1
    go_wp2_with fail
    refine (specC x  a1 n n xs w1 Ho1.out.sl).mono ?_
    rintro e w2 ⟨aw, nw, cw, rfl, how, hcw, hg2⟩
    have How := hid how; clear how
    have Hg2 := hid (gr_trans0 Hg1.out hg2); clear hg2
    go_wp2_with fail
    refine (toIntS_any a n cap xs w2 (Hs.out.keep0 Hg2.out) hn2).mono ?_
    rintro e w3 ⟨ax, rfl, hox, hg3⟩
    have Hox := hid hox; clear hox
    have Hw3 := hid (How.out.keep0 hg3)
    have Hg3 := hid (gr_trans0 Hg2.out hg3); clear hg3
    go_wp2_with fail
    refine (implC x  ax n n xs w3 Hox.out.sl).mono ?_
    rintro e w4 ⟨ag, ng, cg, rfl, hog, hcg, hg4⟩
    have Hog := hid hog; clear hog
    have Hw4 := hid (Hw3.out.keep0 hg4)
    have Hx4 := hid (Hox.out.keep0 hg4)
    have Hg4 := hid (gr_trans0 Hg3.out hg4); clear hg4
    go_wp2_with fail
    refine (eqIntS_any ag aw ng nw cg cw _ _ w4 Hog.out.sl Hw4.out.sl).mono ?_
    rintro e w5 ⟨rfl, hg5⟩
    have Hog5 := hid (Hog.out.keep0 hg5)
    have Hw5 := hid (Hw4.out.keep0 hg5)
    have Hx5 := hid (Hx4.out.keep0 hg5)
    have Hg5 := hid (gr_trans0 Hg4.out hg5); clear hg5
    go_wp2_with fail
    refine (toIntS_any a n cap xs w5 (Hs.out.keep0 Hg5.out) hn2).mono ?_
    rintro e w6 ⟨a6, rfl, ho6, hg6⟩
    have Ho6 := hid ho6; clear ho6
    have Hog6 := hid (Hog5.out.keep0 hg6)
    have Hw6 := hid (Hw5.out.keep0 hg6)
    have Hx6 := hid (Hx5.out.keep0 hg6)
    have Hg6 := hid (gr_trans0 Hg5.out hg6); clear hg6
    go_wp2_with fail
    refine (eqIntS_any ax a6 n n n n xs xs w6 Hx6.out.sl Ho6.out.sl).mono ?_
    rintro e w7 ⟨rfl, hg7⟩
    have Hog7 := hid (Hog6.out.keep0 hg7)
    have Hw7 := hid (Hw6.out.keep0 hg7)
    have Hx7 := hid (Hx6.out.keep0 hg7)
    have Hg7 := hid (gr_trans0 Hg6.out hg7); clear hg7
    go_wp2_with fail
    refine (markIntS_any ax n n _ xs 1 w7 Hx7.out hn2 (by decide) (by decide)).mono ?_
    rintro e w8 ⟨rfl, _, r8, hg8, hr8⟩
    -- x0's block is neither the result's, nor the reference's, nor the argument's
    have hag : 0 < ng → ∀ b off, ag = some ⟨b, off, none⟩ → r8 ≠ some b := by
      intro h0 b off e1 e2
      obtain ⟨hn0, off2, e3⟩ := hr8 b e2
      exact Ow.apart Hox.out.sl Hog.out (Nat.le_refl _) hn0 h0 b off2 b off e3 e1 rfl
    have haw : 0 < nw → ∀ b off, aw = some ⟨b, off, none⟩ → r8 ≠ some b := by
      intro h0 b off e1 e2
      obtain ⟨hn0, off2, e3⟩ := hr8 b e2
      exact Ow.apart How.out.sl Hox.out (Nat.le_refl _) h0 hn0 b off b off2 e1 e3 rfl
    have Hog8 := hid (Hog7.out.keep hg8 hag)
    have Hw8 := hid (Hw7.out.keep hg8 haw)
    have Hg8 : Hid (w.grownBy w8 none) := hid (gr_own Hg7.out hg8 (fun g e => by
      obtain ⟨hn0, off2, e3⟩ := hr8 g e
      obtain ⟨b, off, e4, hb, _⟩ := Hox.out.mem hn0
      rw [e3] at e4; cases e4
      have := Hg2.out.size; omega))
    clear hg8 hr8 hag haw
    go_wp2_with fail
    refine (eqIntS_any ag aw ng nw cg cw _ _ w8 Hog8.out.sl Hw8.out.sl).mono ?_
    rintro e w9 ⟨rfl, hg9⟩
    have Hog9 := hid (Hog8.out.keep0 hg9)
    have Hw9 := hid (Hw8.out.keep0 hg9)
    have Hg9 := hid (gr_trans0 Hg8.out hg9); clear hg9
    have hng : ng ≤ 1048576 := by have h1 := Hog.out.len; have h2 := Hwl.out; omega
    go_wp2_with fail
    refine (markIntS_any ag ng cg _ _ 1 w9 Hog9.out hng (by decide) (by decide)).mono ?_
    rintro e w10 ⟨rfl, hom, r10, hg10, hr10⟩
    have haw : 0 < nw → ∀ b off, aw = some ⟨b, off, none⟩ → r10 ≠ some b := by
      intro h0 b off e1 e2
      obtain ⟨hn0, off2, e3⟩ := hr10 b e2
      exact Ow.apart Hw3.out.sl Hog.out (Nat.le_refl _) h0 hn0 b off b off2 e1 e3 rfl
    have Hom := hid hom; clear hom
    have Hw10 := hid (Hw9.out.keep hg10 haw)
    have Hg10 : Hid (w.grownBy w10 none) := hid (gr_own Hg9.out hg10 (fun g e => by
      obtain ⟨hn0, off2, e3⟩ := hr10 g e
      obtain ⟨b, off, e4, hb, _⟩ := Hog.out.mem hn0
      rw [e3] at e4; cases e4
      have := Hg3.out.size; omega))
    clear hg10 hr10 haw
    go_wp2_with fail
    refine (heldIntS_any ag ng cg 1 w10 Hom.out.sl hng (by decide) (by decide)).mono ?_
    rintro e w11 ⟨rfl, rfl⟩
    go_wp2_with fail
    refine (toIntS_any a n cap xs w10 (Hs.out.keep0 Hg10.out) hn2).mono ?_
    rintro e w12 ⟨a12, rfl, ho12, hg12⟩
    have Ho12 := hid ho12; clear ho12
    have Hom12 := hid (Hom.out.keep0 hg12)
    have Hw12 := hid (Hw10.out.keep0 hg12)
    have Hg12 := hid (gr_trans0 Hg10.out hg12); clear hg12
    go_wp2_with fail
    refine (implC x  a12 n n xs w12 Ho12.out.sl).mono ?_
    rintro e w13 ⟨ah, nh, ch, rfl, hoh, hch, hg13⟩
    have Hoh := hid hoh; clear hoh
    have Hom13 := hid (Hom12.out.keep0 hg13)
    have Hw13 := hid (Hw12.out.keep0 hg13)
    have Hg13 := hid (gr_trans0 Hg12.out hg13); clear hg13
    go_wp2_with fail
    refine (eqIntS_any ah aw nh nw ch cw _ _ w13 Hoh.out.sl Hw13.out.sl).mono ?_
    rintro e w14 ⟨rfl, hg14⟩
    have Hom14 := hid (Hom13.out.keep0 hg14)
    have Hg14 := hid (gr_trans0 Hg13.out hg14); clear hg14
    go_wp2_with fail
    refine (heldIntS_any ag ng cg 1 w14 Hom14.out.sl hng (by decide) (by decide)).mono ?_
    rintro e w15 ⟨rfl, rfl⟩
    go_wp2_with fail
    go_ret
    exact ⟨rfl, Hg14.out⟩


set_option maxRecDepth 100000 in
theorem lifted (os : Os) (started : os.Started) (H : Type) (enc : TypeId × Value → H) :
    ReturnsInHanded {} Try.checked os 9 .any (Rows.fnExactCapWeightsSpec.pre6 enc Try.prog Try.f9 Rows.fnExactCapWeightsRow.domain false) (Rows.fnExactCapWeightsSpec.post enc Try.prog Try.f9 false true false false) := by
  refine returnsInHanded_of_change (C := Try.checked) Try.own started (by kernel_rfl) Try.func9
    (ChangeSpec.witness6 (enc := enc) (C := Try.checked) false ⟨#[], #[.slice none 0 0, .int .i64 0], []⟩ 8 (by kernel_rfl) (by kernel_rfl) (by kernel_rfl) (by kernel_rfl)) ?_
  intro W base args ds gs before hval0 hW _ _
  have hval : ∀ (j : Nat) t v, Try.f9.params[j]? = some t → args[j]? = some v → Value.okWide Try.prog W .any base t v := hval0
  have hW' := hW
  obtain ⟨p, q, hA0, hV, rfl, hfz, hnd⟩ := hW
  have hA : DataW.TrodAll enc Try.prog W 0 (fun _ => true) true Try.f9.params.toList args.toList ds p := hA0
  rw [Try.params9] at hA hval
  have hA2 := hA
  obtain ⟨v0, vs0, d0, ds0, p0, q0, hargs, rfl, rfl, h0, r0⟩ := trodAll_cons hA
  obtain ⟨v1, vs1, d1, ds1, p1, q1, rfl, rfl, rfl, h1, r1⟩ := trodAll_cons r0
  obtain ⟨rfl, rfl, rfl⟩ := trodAll_nil r1
  obtain rfl : args = #[v0, v1] := by cases args; simp_all
  obtain ⟨rfl, rfl⟩ := trodVars_none hV
  have hlt : ∀ x ∈ (p0 ++ (p1 ++ [])) ++ [], x.block < W.heap.size := fun x hx => hW'.lt x hx
  obtain ⟨a0, n0, cap0, rfl⟩ := okWide_slice Try.underlying22 (hval 0 22 v0 rfl rfl)
  obtain ⟨fuel0, hf0⟩ := h0
  obtain ⟨xs0, hs0, hc0, hw0⟩ := sl_ints intL (fun _ => rfl) rfl Try.underlying22 Try.underlying3 Try.cellsInt hf0
  obtain ⟨x1, rfl, rfl, rfl, w1⟩ := open_int Try.underlying3 (hval 1 3 v1 rfl rfl) h1
  refine (walk a0 n0 cap0 xs0 x1 W hs0 hc0 (fun z hz => i64_range (hw0 z hz)) (i64_range w1)).mono fun e W' ⟨he, hg⟩ => ?_
  subst he
  have hb := below_of_gr hg
  refine ⟨_, rfl, _, _, _, [], p0 ++ ([] ++ []), [], hW', ?_, ?_, rfl, hb.frame _, fun h => by cases h⟩
  · exact trodAll_mk1 (shut_bool Try.underlying4 _)
  · exact args_stay hb _ _ _ _ hA2 (fun x hx => hlt x (by simpa using hx)) (by intro t ht; simp at ht; rcases ht with rfl | rfl <;> exact ⟨by kernel_rfl, of_decide_eq_true (by kernel_rfl)⟩)

set_option maxRecDepth 100000 in
theorem closed : joinedFacts Try.pinned.checked.prog 9 Try.f9 Rows.fnExactCapWeightsSpec Rows.fnExactCapWeightsRow = true := by
  rw [joinedFacts, show Try.pinned.checked.prog.mayEnter = true from Try.enters, show Try.pinned.checked.prog.liftsFinal = false from Try.lifts, show Try.pinned.checked.prog.make = some .cut from Try.cut]
  kernel_rfl

theorem holds : Rows.FnExactCapWeightsSaid :=
  OpenClaim.holds_of_wide 9 Try.f9 rfl rfl rfl rfl rfl rfl rfl ⟨rfl, rfl, rfl, rfl, rfl⟩ rfl rfl rfl rfl rfl (by kernel_rfl) Try.func9 closed
    (of_decide_eq_true (by kernel_rfl)) (by unfold Func.isWrapper; first | (rw [if_pos (by decide +kernel)]; kernel_rfl) | (rw [if_neg (by decide +kernel)]; exact ⟨rfl, rfl⟩))
    (fun os started H enc _ => lifted os started H enc)

end FnExactCapWeights
end Go.Proofs.Ytecboohippbliaa
