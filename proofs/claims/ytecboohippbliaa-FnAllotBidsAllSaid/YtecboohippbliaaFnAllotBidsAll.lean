/- For every input, FnAllotBidsAll returns true: the program's AllotBids agrees with the reference's, and an auction of as many bonds as all bids want, or of one more, gives each what it wants. No condition. -/
import Derived.Test.YtecboohippbliaaRows
import Derived.Test.YtecboohippbliaaSpecAllot2
import Derived.Test.YtecboohippbliaaDrawBids
import Derived.Test.YtecboohippbliaaInts
import Derived.Test.YtecboohippbliaaFrame
import Derived.ProofKit
namespace Go.Proofs.Ytecboohippbliaa
open Go.ChangeShapes Go.WideShapes Go.ChangeAt Go.RowKit
namespace FnAllotBidsAll

theorem all_law (ys : List Bid) (u : Int) (h : 0 < (allotBidsF ys u).length) : (∀ x ∈ ys, 1 ≤ x.many ∧ x.many ≤ 9999) ∧ ys.length ≤ 8 ∧ (allotBidsF ys u).length = ys.length ∧ 0 ≤ manyF ys ∧ manyF ys ≤ 79992 ∧ allotBidsF ys (manyF ys) = ys.map (·.many) ∧ allotBidsF ys (manyF ys + 1) = ys.map (·.many) := by
  obtain ⟨f1, f2, f3⟩ := allotBids_open ys u h
  obtain ⟨g1, g2, g3, g4, g5⟩ := auction_facts ys u f1
  have hb := many_bounds ys g5
  have hok : bidsOk ys = true := by unfold auctionOk at f1; simp only [Bool.and_eq_true] at f1; exact f1.1
  have key : ∀ m, manyF ys ≤ m → 1 ≤ m → m ≤ 1000000000 → allotBidsF ys m = ys.map (·.many) := by
    intro m h1 h2 h3
    have ha : auctionOk ys m = true := by unfold auctionOk; rw [hok, (within_iff2 _ _ _).2 ⟨h2, h3⟩]; rfl
    unfold allotBidsF
    rw [if_pos ha]
    exact allot_all ys m ha h1
  exact ⟨g5, g1, f3, by omega, by omega, key _ (by omega) (by omega) (by omega), key _ (by omega) (by omega) (by omega)⟩

set_option maxRecDepth 100000 in
set_option maxHeartbeats 1000000 in
theorem walk (a : Option Addr) (n cap : Nat) (xs : List Int) (w : World) (hs : Sl u8L w a n xs) (hcap : n ≤ cap) (hx : ∀ x ∈ xs, 0 ≤ x ∧ x ≤ 255) :
    Calls Try.prog 17 #[.slice a n cap] w fun e w' => e = .returned (.bool true) ∧ w.grownBy w' none := by
  obtain ⟨i0, hi, hz0, hz1, hz2⟩ := info_parts infoInt
  have Hx := hid hx; clear hx
  have Hs := hid hs; clear hs
  by_cases hn : 1048576 < n
  · go_enter Try.func17, Try.ntmps17
    go_wp2_with fail
    go_ret
    exact ⟨rfl, gr_refl _ _⟩
  · go_enter Try.func17, Try.ntmps17
    go_wp2_with fail
    refine (DrawAllotBids_any a n cap xs w Hs.out hcap Hx.out).mono ?_
    rintro e w1 ⟨b, l, c, ys, u, rfl, hu, hy, hc, hl, hg⟩
    have hd : decide (allotBidsF ys u = allotBidsF ys u) = true := by simp
    have Hy := hid hy; clear hy
    have Hg := hid hg; clear hg
    go_wp2_with fail
    refine (AllotBids_any b l c ys u w1 Hy.out).mono ?_
    rintro e w2 ⟨aw, nw, cw, rfl, how, hcw, hg2⟩
    have How := hid how; clear how
    have Hy2 := hid (Hy.out.keep0 hg2)
    have Hg2 := hid (gr_trans0 Hg.out hg2); clear hg2
    go_wp2_with fail
    refine (SpecAllotBids_any b l c ys u w2 Hy2.out).mono ?_
    rintro e w3 ⟨a3, ns, cs, rfl, hos, hcs, hg3⟩
    have Hos := hid hos; clear hos
    have How3 := hid (How.out.keep0 hg3)
    have Hy3 := hid (Hy2.out.keep0 hg3)
    have Hg3 := hid (gr_trans0 Hg2.out hg3); clear hg3
    go_wp2_with fail
    refine (equalInts_any aw a3 nw ns cw cs _ _ w3 How3.out.sl Hos.out.sl).mono ?_
    rintro e w4 ⟨rfl, hg4⟩
    have How4 := hid (How3.out.keep0 hg4)
    have Hy4 := hid (Hy3.out.keep0 hg4)
    have Hg4 := hid (gr_trans0 Hg3.out hg4); clear hg4
    clear How How3 Hy Hy2 Hy3 Hg Hg2 Hg3 Hos
    by_cases h0 : nw = 0
    · subst h0
      go_wp2_with fail
      refine (SpecAllotBids_any b l c ys u w4 Hy4.out).mono ?_
      rintro e w5 ⟨a3', ns', cs', rfl, hos', hcs', hg5⟩
      have Hos5 := hid hos'; clear hos'
      have How5 := hid (How4.out.keep0 hg5)
      have Hg5 := hid (gr_trans0 Hg4.out hg5); clear hg5
      go_wp2_with fail
      refine (equalInts_any aw a3' 0 ns' cw cs' _ _ w5 How5.out.sl Hos5.out.sl).mono ?_
      rintro e w6 ⟨rfl, hg6⟩
      have Hg6 := hid (gr_trans0 Hg5.out hg6); clear hg6
      go_wp2_with fail
      go_ret
      exact ⟨rfl, Hg6.out⟩
    · have hb0 : ((nw : Int) == 0) = false := by simp; omega
      have hnl := How4.out.len
      have hyl := Hy4.out.len
      obtain ⟨g5, g1, f3, f4, f5, f6, f7⟩ := all_law ys u (by omega)
      have F6 := hid f6; have F7 := hid f7; have G5 := hid g5
      have hdm : decide (ys.map (fun b => b.many) = ys.map (fun b => b.many)) = true := by simp
      have Hsb1 : Hid (∀ k, -9223372036854775808 ≤ sumI ((ys.map (·.many)).take k) ∧ sumI ((ys.map (·.many)).take k) ≤ 9223372036854775807) := hid (fun k => by
        have h := sumI_bound ((ys.map (·.many)).take k) 0 9999 (fun z hz => by
          obtain ⟨b, hb, rfl⟩ := List.mem_map.1 (List.mem_of_mem_take hz)
          have := g5 b hb
          omega)
        have h2 : ((ys.map (·.many)).take k).length ≤ ys.length := by rw [List.length_take, List.length_map]; omega
        omega)
      have Hml : Hid (sumI (ys.map (·.many)) = manyF ys) := hid rfl
      clear f6 f7 g5 hu hnl
      have Hown : Hid ((w4.alloc (.cells #[] 3)).ownsRow w4.heap.size 3 1 (.slice (some ⟨w4.heap.size, 0, none⟩) 0 0) 0 (([] : List Int).flatMap intL.cells)) := hid (World.ownsRow_made w4 #[] 0 (Nat.le_refl _) (by decide) rfl)
      have Hga := hid (gr_alloc (gr0 w4) (.cells #[] 3))
      go_wp2_with fail
      go_loopw [6, 7] (fun o i wr => ∃ (k g cc : Nat), k ≤ l ∧ i = .int .i64 k ∧ o = .slice (some ⟨g, 0, none⟩) k cc ∧ wr.ownsRow w4.heap.size 3 1 (.slice (some ⟨g, 0, none⟩) k cc) k (((ys.take k).map (·.many)).flatMap intL.cells) ∧ w4.grownBy wr none) (fun _ i _ => l - (intOf i).toNat)
      case atStart => exact ⟨0, _, _, by omega, rfl, rfl, Hown.out, Hga.out⟩
      case round =>
        clear Hown Hga
        obtain ⟨k, g, cc, hk, rfl, rfl, hown, hgk⟩ := hrel
        have Hown := hid hown; clear hown
        by_cases hlt : k < l
        · obtain ⟨b1, o1, x, rfl, hxk, c0, c1⟩ := bid_at (Hy4.out.keep0 hgk) k hlt
          have Hxk := hid hxk; clear hxk
          have Hgk := hid hgk; clear hgk
          go_wp2_with (at_builtin; go_must (refine wpList_append_lies _ rfl _ _ _ rfl w4.heap.size 3 i0 _ 1 8 Try.underlying22 hi hz0 hz1 hz2 rfl (by decide) _ _ _ rfl (Hown.out.alloc _) ⟨wr.heap.size, 0, none⟩ 1 1 [.int .i64 x.many] rfl rfl (cells_new wr _ _ _ rfl) (by simp [Value.oneCell']) (by decide) (by unfold maxLen; omega) (by omega) (by have := Hgk.out.size; simp; omega) _ rfl ?_))
          intro g' c' w5 hown5 hg5 _ _
          have Hg5 := hid (gr_append (gr_alloc Hgk.out _) (Hown.out.alloc _) (Nat.le_refl _) hg5)
          have Hown5 := hid hown5; clear hown5 hg5
          go_wp2
          go_roundw
          case rel => exact ⟨k + 1, g', c', by omega, by go_num, rfl, by have := Hown5.out; rw [take_snoc _ _ _ Hxk.out, List.map_append, List.flatMap_append, List.map_take]; exact this, Hg5.out⟩
          case measure => simp [intOf]; omega
        · obtain rfl : k = l := by omega
          have hsm := (Ow.own_ints Hown.out (by omega)).sl
          rw [take_len _ _ hyl] at hsm
          have Hsm := hid hsm; clear hsm
          have Hyk := hid (Hy4.out.keep0 hgk)
          have Hgk := hid hgk; clear hgk
          go_wp2_with fail
          refine (sum_any _ k cc _ wr Hsm.out Hsb1.out).mono ?_
          rintro e w6 ⟨rfl, rfl⟩
          rw [Hml.out]
          go_wp2_with fail
          refine (AllotBids_any b k c ys (manyF ys) wr Hyk.out).mono ?_
          rintro e w7 ⟨a7, n7, c7, rfl, ho7, hc7, hg7⟩
          rw [F6.out] at ho7
          have Ho7 := hid ho7; clear ho7
          have Hsm7 := hid (Hsm.out.keep0 hg7)
          have Hy7 := hid (Hyk.out.keep0 hg7)
          have Hg7 := hid (gr_trans0 (gr_trans0 Hg4.out Hgk.out) hg7); clear hg7
          go_wp2_with fail
          refine (equalInts_any a7 _ n7 k c7 cc _ _ w7 Ho7.out.sl Hsm7.out).mono ?_
          rintro e w8 ⟨rfl, hg8⟩
          have Hsm8 := hid (Hsm7.out.keep0 hg8)
          have Hy8 := hid (Hy7.out.keep0 hg8)
          have Hg8 := hid (gr_trans0 Hg7.out hg8); clear hg8
          go_wp2_with fail
          refine (sum_any _ k cc _ w8 Hsm8.out Hsb1.out).mono ?_
          rintro e w6 ⟨rfl, rfl⟩
          rw [Hml.out]
          go_wp2_with fail
          refine (AllotBids_any b k c ys (manyF ys + 1) w8 Hy8.out).mono ?_
          rintro e w9 ⟨a9, n9, c9, rfl, ho9, hc9, hg9⟩
          rw [F7.out] at ho9
          have Ho9 := hid ho9; clear ho9
          have Hsm9 := hid (Hsm8.out.keep0 hg9)
          have Hg9 := hid (gr_trans0 Hg8.out hg9); clear hg9
          go_wp2_with fail
          refine (equalInts_any a9 _ n9 k c9 cc _ _ w9 Ho9.out.sl Hsm9.out).mono ?_
          rintro e w10 ⟨rfl, hg10⟩
          have Hg10 := hid (gr_trans0 Hg9.out hg10); clear hg10
          go_wp2_with fail
          go_ret
          exact ⟨rfl, Hg10.out⟩

set_option maxRecDepth 100000 in
theorem lifted (os : Os) (started : os.Started) (H : Type) (enc : TypeId × Value → H) :
    ReturnsInHanded {} Try.checked os 17 .any (Rows.fnAllotBidsAllSpec.pre6 enc Try.prog Try.f17 Rows.fnAllotBidsAllRow.domain false) (Rows.fnAllotBidsAllSpec.post enc Try.prog Try.f17 false true false false) := by
  refine returnsInHanded_of_change (C := Try.checked) Try.own started (by kernel_rfl) Try.func17
    (ChangeSpec.witness6 (enc := enc) (C := Try.checked) false ⟨#[], #[.slice none 0 0], []⟩ 8 (by kernel_rfl) (by kernel_rfl) (by kernel_rfl) (by kernel_rfl)) ?_
  intro W base args ds gs before hval0 hW _ _
  have hval : ∀ (j : Nat) t v, Try.f17.params[j]? = some t → args[j]? = some v → Value.okWide Try.prog W .any base t v := hval0
  have hW' := hW
  obtain ⟨p, q, hA0, hV, rfl, hfz, hnd⟩ := hW
  have hA : DataW.TrodAll enc Try.prog W 0 (fun _ => true) true Try.f17.params.toList args.toList ds p := hA0
  rw [Try.params17] at hA hval
  have hA2 := hA
  obtain ⟨v0, vs0, d0, ds0, p0, q0, hargs, rfl, rfl, h0, r0⟩ := trodAll_cons hA
  obtain ⟨rfl, rfl, rfl⟩ := trodAll_nil r0
  obtain rfl : args = #[v0] := by cases args; simp_all
  obtain ⟨rfl, rfl⟩ := trodVars_none hV
  have hlt : ∀ x ∈ (p0 ++ []) ++ [], x.block < W.heap.size := fun x hx => hW'.lt x hx
  obtain ⟨a0, n0, cap0, rfl⟩ := okWide_slice Try.underlying28 (hval 0 28 v0 rfl rfl)
  obtain ⟨fuel0, hf0⟩ := h0
  obtain ⟨xs0, hs0, hc0, hw0⟩ := sl_ints u8L (fun _ => rfl) rfl Try.underlying28 Try.underlying5 Try.cellsU8 hf0
  refine (walk a0 n0 cap0 xs0 W hs0 hc0 (fun z hz => u8_range (hw0 z hz))).mono fun e W' ⟨he, hg⟩ => ?_
  subst he
  have hb := below_of_gr hg
  refine ⟨_, rfl, _, _, _, [], p0 ++ [], [], hW', ?_, ?_, rfl, hb.frame _, fun h => by cases h⟩
  · exact trodAll_mk1 (shut_bool Try.underlying4 _)
  · exact args_stay hb _ _ _ _ hA2 (fun x hx => hlt x (by simpa using hx)) (by intro t ht; simp at ht; subst ht; exact ⟨by kernel_rfl, of_decide_eq_true (by kernel_rfl)⟩)

set_option maxRecDepth 100000 in
theorem closed : joinedFacts Try.pinned.checked.prog 17 Try.f17 Rows.fnAllotBidsAllSpec Rows.fnAllotBidsAllRow = true := by
  rw [joinedFacts, show Try.pinned.checked.prog.mayEnter = true from Try.enters, show Try.pinned.checked.prog.liftsFinal = false from Try.lifts, show Try.pinned.checked.prog.make = some .cut from Try.cut]
  kernel_rfl

theorem holds : Rows.FnAllotBidsAllSaid :=
  OpenClaim.holds_of_wide 17 Try.f17 rfl rfl rfl rfl rfl rfl rfl ⟨rfl, rfl, rfl, rfl, rfl⟩ rfl rfl rfl rfl rfl (by kernel_rfl) Try.func17 closed
    (of_decide_eq_true (by kernel_rfl)) (by unfold Func.isWrapper; first | (rw [if_pos (by decide +kernel)]; kernel_rfl) | (rw [if_neg (by decide +kernel)]; exact ⟨rfl, rfl⟩))
    (fun os started H enc _ => lifted os started H enc)

end FnAllotBidsAll
end Go.Proofs.Ytecboohippbliaa
