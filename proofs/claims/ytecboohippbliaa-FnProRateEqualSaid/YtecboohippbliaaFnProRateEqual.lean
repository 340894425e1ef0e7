/- For every input, FnProRateEqual returns true: the program's ProRate agrees with the reference's, and equal weights get shares that differ by at most 1, do not rise and add up to the amount. No condition. -/
import Derived.Test.YtecboohippbliaaRows
import Derived.Test.YtecboohippbliaaDrawInts
import Derived.Test.YtecboohippbliaaSharesFacts
import Derived.Test.YtecboohippbliaaInts
import Derived.Test.YtecboohippbliaaFrame
import Derived.ProofKit
namespace Go.Proofs.Ytecboohippbliaa
open Go.ChangeShapes Go.WideShapes Go.ChangeAt Go.RowKit
namespace FnProRateEqual

theorem specC (x : Int) (a : Option Addr) (n cap : Nat) (xs : List Int) (w : World) (hs : Sl intL w a n xs) :
    Calls Try.prog 19 #[.int .i64 x, .slice a n cap] w fun e w' => ∃ a' n' cap', e = .returned (.slice a' n' cap') ∧ Ow intL w' w.heap.size a' n' (proRateF x xs) ∧ n' ≤ cap' ∧ w.grownBy w' none := by
  rw [proRate_eq]; exact specProRate_any x a n cap xs w hs

theorem sum_rep (l : Nat) (v : Int) : sumI (List.replicate l v) = v * l := by
  induction l with
  | zero => simp [sumI]
  | succ l ih => rw [List.replicate_succ]; simp only [sumI, ih]; push_cast; rw [Int.mul_add]; omega

theorem facts (u : Int) (ys : List Int) (h : 0 < (proRateF u ys).length) : 1 ≤ ys.length ∧ ys.length ≤ 8 ∧ (proRateF u (List.replicate ys.length 7)).length = ys.length ∧ sumI (proRateF u (List.replicate ys.length 7)) = u
    ∧ (∀ z ∈ proRateF u (List.replicate ys.length 7), 0 ≤ z ∧ z ≤ 1000000001)
    ∧ (∀ (i : Nat) (z0 z1 z : Int), 1 ≤ i → (proRateF u (List.replicate ys.length 7))[0]? = some z0 → (proRateF u (List.replicate ys.length 7))[i - 1]? = some z1 → (proRateF u (List.replicate ys.length 7))[i]? = some z → ¬ z1 < z ∧ ¬ 1 < z0 - z) := by
  obtain ⟨_, h1, h2, h3, _, _, _⟩ := proRate_open u ys h
  obtain ⟨f1, f2, _, _, _, _⟩ := holders_facts ys h3
  generalize ys.length = l at *
  have hl : (List.replicate l (7 : Int)).length = l := List.length_replicate
  have hs := sum_rep l 7
  have hw : ∀ x ∈ List.replicate l (7 : Int), 0 ≤ x ∧ x ≤ 9999 := fun x hx => by rw [List.eq_of_mem_replicate hx]; omega
  have hok : holdersOk (List.replicate l 7) = true := by
    unfold holdersOk intsIn
    rw [hl]
    simp only [Bool.and_eq_true, within_iff', List.all_eq_true]
    exact ⟨by omega, hw⟩
  have h4 : 0 < sumI (List.replicate l (7 : Int)) := by omega
  obtain ⟨q1, q2, q3⟩ := quos_facts u _ hok h4 h1 h2
  have e : proRateF u (List.replicate l 7) = sharesF u (List.replicate l 7) := by
    unfold proRateF
    rw [if_pos]
    unfold proOk
    rw [hok, (within_iff' _ _ _).2 ⟨h1, h2⟩]
    simp; omega
  rw [e]
  generalize hws : List.replicate l (7 : Int) = ws at *
  have hgd : ∀ i, i < l → ws.getD i 0 = 7 := fun i hi => by rw [← hws, List.getD_eq_getElem?_getD, List.getElem?_replicate, if_pos hi]; rfl
  have hat : ∀ (i : Nat) (zi : Int), (sharesF u ws)[i]? = some zi → i < l ∧ (zi = u * 7 / sumI ws ∧ ¬ picked u ws i ∨ zi = u * 7 / sumI ws + 1 ∧ picked u ws i) := by
    intro i zi hz
    have hi := lt_of_at hz
    rw [shares_len, hl] at hi
    have g3 : (sharesF u ws).getD i 0 = zi := by rw [List.getD_eq_getElem?_getD, hz]; rfl
    have hsa := shares_at u ws i (by omega)
    rw [g3, hgd i hi] at hsa
    exact ⟨hi, hsa⟩
  have hqb : 0 ≤ u * 7 / sumI ws ∧ u * 7 / sumI ws ≤ 1000000000 := q3 _ (by unfold quos; exact List.mem_map.2 ⟨7, by rw [← hws]; exact List.mem_replicate.2 ⟨by omega, rfl⟩, rfl⟩)
  refine ⟨f1, f2, by rw [shares_len, hl], shares_sum u ws q1 (by unfold leftOf; omega), fun z hz => ?_, fun i z0 z1 z hi hz0 hz1 hz => ?_⟩
  · obtain ⟨i, hi⟩ := List.getElem?_of_mem hz
    obtain ⟨_, ho⟩ := hat i z hi
    omega
  · obtain ⟨_, ho0⟩ := hat 0 z0 hz0
    obtain ⟨_, ho1⟩ := hat _ z1 hz1
    obtain ⟨hil, ho⟩ := hat i z hz
    have hpp : picked u ws i → picked u ws (i - 1) := fun hp => picked_before u ws (i - 1) i (by omega) (.inr ⟨by rw [hgd i hil, hgd (i - 1) (by omega)], by omega⟩) hp
    refine ⟨fun hc => ?_, fun hc => ?_⟩
    · rcases ho with ⟨_, _⟩ | ⟨_, hp⟩
      · omega
      · have := hpp hp
        rcases ho1 with ⟨_, hn⟩ | ⟨_, _⟩
        · exact hn this
        · omega
    · omega

set_option maxRecDepth 100000 in
set_option maxHeartbeats 1000000 in
theorem walk (a : Option Addr) (n cap : Nat) (xs : List Int) (w : World) (hs : Sl u8L w a n xs) (hcap : n ≤ cap) (hx : ∀ x ∈ xs, 0 ≤ x ∧ x ≤ 255) :
    Calls Try.prog 7 #[.slice a n cap] w fun e w' => e = .returned (.bool true) ∧ w.grownBy w' none := by
  obtain ⟨i0, hi, hz0, hz1, hz2⟩ := info_parts infoInt
  have Hx := hid hx; clear hx
  have Hs := hid hs; clear hs
  by_cases hn : 1048576 < n
  · go_enter Try.func7, Try.ntmps7
    go_wp2_with fail
    go_ret
    exact ⟨rfl, gr_refl _ _⟩
  · go_enter Try.func7, Try.ntmps7
    go_wp2_with fail
    refine (DrawProRate_any a n cap xs w Hs.out hcap Hx.out).mono ?_
    rintro e w1 ⟨u, b, l, c, ys, rfl, hu, hy, hc, hl, hyb, hg⟩
    have hd : decide (proRateF u ys = proRateF u ys) = true := by simp
    have Hyb := hid hyb; clear hyb
    have Hy := hid hy; clear hy
    have Hg := hid hg; clear hg
    go_wp2_with fail
    refine (ProRate_any u b l c ys w1 Hy.out).mono ?_
    rintro e w2 ⟨aw, nw, cw, rfl, how, hcw, hg2⟩
    have How := hid how; clear how
    have Hy2 := hid (Hy.out.keep0 hg2)
    have Hg2 := hid (gr_trans0 Hg.out hg2); clear hg2
    go_wp2_with fail
    refine (specC u b l c ys w2 Hy2.out).mono ?_
    rintro e w3 ⟨a3, ns, cs, rfl, hos, hcs, hg3⟩
    have Hos := hid hos; clear hos
    have How3 := hid (How.out.keep0 hg3)
    have Hy3 := hid (Hy2.out.keep0 hg3)
    have Hg3 := hid (gr_trans0 Hg2.out hg3); clear hg3
    go_wp2_with fail
    refine (equalInts_any aw a3 nw ns cw cs _ _ w3 How3.out.sl Hos.out.sl).mono ?_
    rintro e w4 ⟨rfl, hg4⟩
    have How4 := hid (How3.out.keep0 hg4)
    have Hy4 := hid (Hy3.out.keep0 hg4)
    have Hg4 := hid (gr_trans0 Hg3.out hg4); clear hg4
    clear How How3 Hy Hy2 Hy3 Hg Hg2 Hg3 Hos
    by_cases h0 : nw = 0
    · subst h0
      go_wp2_with fail
      refine (specC u b l c ys w4 Hy4.out).mono ?_
      rintro e w5 ⟨a3', ns', cs', rfl, hos', hcs', hg5⟩
      have Hos5 := hid hos'; clear hos'
      have How5 := hid (How4.out.keep0 hg5)
      have Hg5 := hid (gr_trans0 Hg4.out hg5); clear hg5
      go_wp2_with fail
      refine (equalInts_any aw a3' 0 ns' cw cs' _ _ w5 How5.out.sl Hos5.out.sl).mono ?_
      rintro e w6 ⟨rfl, hg6⟩
      have Hg6 := hid (gr_trans0 Hg5.out hg6); clear hg6
      go_wp2_with fail
      go_ret
      exact ⟨rfl, Hg6.out⟩
    · have hb0 : ((nw : Int) == 0) = false := by simp; omega
      have hnl := How4.out.len
      have hyl := Hy4.out.len
      obtain ⟨f1, f2, f3, f4, f5, f6⟩ := facts u ys (by omega)
      rw [hyl] at f1 f2 f3 f4 f5 f6
      have Hsb2 : Hid (∀ k, -9223372036854775808 ≤ sumI ((proRateF u (List.replicate l 7)).take k) ∧ sumI ((proRateF u (List.replicate l 7)).take k) ≤ 9223372036854775807) := hid (fun k => by
        have h := sumI_bound ((proRateF u (List.replicate l 7)).take k) 0 1000000001 (fun x hx => f5 x (List.mem_of_mem_take hx))
        have h2 : ((proRateF u (List.replicate l 7)).take k).length ≤ (proRateF u (List.replicate l 7)).length := by rw [List.length_take]; omega
        omega)
      have F3 := hid f3; have F4 := hid f4; have F5 := hid f5; have F6 := hid f6
      clear f3 f4 f5 f6 Hyb hu hd hnl hyl
      have Hown : Hid ((w4.alloc (.cells #[] 3)).ownsRow w4.heap.size 3 1 (.slice (some ⟨w4.heap.size, 0, none⟩) 0 0) 0 (([] : List Int).flatMap intL.cells)) := hid (World.ownsRow_made w4 #[] 0 (Nat.le_refl _) (by decide) rfl)
      have Hga := hid (gr_alloc (gr0 w4) (.cells #[] 3))
      go_wp2_with fail
      go_loopw [6, 7] (fun o i wr => ∃ (k g cc : Nat), k ≤ l ∧ i = .int .i64 k ∧ o = .slice (some ⟨g, 0, none⟩) k cc ∧ wr.ownsRow w4.heap.size 3 1 (.slice (some ⟨g, 0, none⟩) k cc) k ((List.replicate k (7 : Int)).flatMap intL.cells) ∧ w4.grownBy wr none) (fun _ i _ => l - (intOf i).toNat)
      case atStart => exact ⟨0, _, _, by omega, rfl, rfl, Hown.out, Hga.out⟩
      case round =>
        clear Hown Hga
        obtain ⟨k, g, cc, hk, rfl, rfl, hown, hgk⟩ := hrel
        have Hown := hid hown; clear hown
        have Hgk := hid hgk; clear hgk
        by_cases hlt : k < l
        · go_wp2_with (at_builtin; go_must (refine wpList_append_lies _ rfl _ _ _ rfl w4.heap.size 3 i0 _ 1 8 Try.underlying22 hi hz0 hz1 hz2 rfl (by decide) _ _ _ rfl (Hown.out.alloc _) ⟨wr.heap.size, 0, none⟩ 1 1 [.int .i64 7] rfl rfl ?d1 ?d2 (by decide) ?d3 ?d4 ?d5 _ rfl ?_))
          case d1 => exact cells_new wr _ _ _ rfl
          case d2 => simp [Value.oneCell']
          case d3 => unfold maxLen; omega
          case d4 => omega
          case d5 => have := Hgk.out.size; simp; omega
          intro g' c' w5 hown5 hg5 _ _
          have Hg5 := hid (gr_append (gr_alloc Hgk.out _) (Hown.out.alloc _) (Nat.le_refl _) hg5)
          have Hown5 := hid hown5; clear hown5 hg5
          go_wp2
          go_roundw
          case rel => exact ⟨k + 1, g', c', by omega, by go_num, rfl, by have := Hown5.out; rw [List.replicate_succ', List.flatMap_append]; exact this, Hg5.out⟩
          case measure => simp [intOf]; omega
        · obtain rfl : k = l := by omega
          have Hsm := hid (Ow.own_ints Hown.out (by omega)).sl
          go_wp2_with fail
          refine (ProRate_any u _ k cc _ wr Hsm.out).mono ?_
          rintro e w5 ⟨ap, np, cp, rfl, hop, hcp, hg5⟩
          have hnp : np = k := by rw [← hop.len, F3.out]
          subst hnp
          have Hop := hid hop; clear hop
          have Hg5 := hid (gr_trans0 Hgk.out hg5); clear hg5
          go_wp2_with fail
          go_loopw [9] (fun i wr => ∃ k : Nat, 1 ≤ k ∧ k ≤ np ∧ i = .int .i64 k ∧ w5.grownBy wr none) (fun i _ => np - (intOf i).toNat)
          case atStart => exact ⟨1, by omega, by omega, rfl, gr_refl _ _⟩
          case round =>
            obtain ⟨i, hi1, hi, rfl, hgi⟩ := hrel
            by_cases hlt2 : i < np
            · have hi2 : (i : Int) < np := by omega
              have hi3 : (0 : Int) ≤ i := by omega
              have hi4 : (0 : Int) ≤ (i : Int) - 1 := by omega
              have hi5 : (i : Int) - 1 < np := by omega
              have hi6 : ((i : Int) - 1).toNat = i - 1 := by omega
              have hw6 : IntKind.i64.wrap ((i : Int) - 1) = i - 1 := IntWalk.i64_in _ (by omega)
              have hn0 : (0 : Int) < np := by omega
              obtain ⟨b1, o1, z0, rfl, hz0', c0⟩ := int_at (Hop.out.sl.keep0 hgi) 0 (by omega)
              obtain ⟨b2, o2, z1, e2, hz1', c1⟩ := int_at (Hop.out.sl.keep0 hgi) (i - 1) (by omega)
              simp only [Option.some.injEq, Addr.mk.injEq, and_true] at e2
              obtain ⟨rfl, rfl⟩ := e2
              obtain ⟨b2, o2, z, e2, hz', c2⟩ := int_at (Hop.out.sl.keep0 hgi) i (by omega)
              simp only [Option.some.injEq, Addr.mk.injEq, and_true] at e2
              obtain ⟨rfl, rfl⟩ := e2
              obtain ⟨t1, t2⟩ := F6.out i z0 z1 z hi1 hz0' hz1' hz'
              have r0 := F5.out z0 (List.mem_of_getElem? hz0')
              have r2 := F5.out z (List.mem_of_getElem? hz')
              have hw7 : IntKind.i64.wrap (z0 - z) = z0 - z := IntWalk.i64_in _ (by omega)
              have t1b : decide (z1 < z) = false := by simpa using t1
              have t2b : decide (1 < z0 - z) = false := by simpa using t2
              simp only [Nat.add_zero] at c0
              have Hgi := hid hgi; clear hgi hz0' hz1' hz' r0 r2 t1 t2
              go_wp2_with fail
              go_quiet (fail)
              have Hg9 := hid (gr_drewN Hgi.out nq)
              clear hw7 hw6 hi6
              go_wp2
              go_roundw
              case rel => exact ⟨i + 1, by omega, by omega, by go_num, Hg9.out⟩
              case measure => simp [intOf]; omega
            · have Hgi := hid hgi; clear hgi
              have hbu : ((u : Int) == u) = true := by simp
              go_wp2_with fail
              refine (sum_any ap np cp _ wr (Hop.out.sl.keep0 Hgi.out) Hsb2.out).mono ?_
              rintro e w6 ⟨rfl, rfl⟩
              rw [F4.out]
              go_wp2_with fail
              go_ret
              exact ⟨rfl, gr_trans0 Hg4.out (gr_trans0 Hg5.out Hgi.out)⟩

set_option maxRecDepth 100000 in
theorem lifted (os : Os) (started : os.Started) (H : Type) (enc : TypeId × Value → H) :
    ReturnsInHanded {} Try.checked os 7 .any (Rows.fnProRateEqualSpec.pre6 enc Try.prog Try.f7 Rows.fnProRateEqualRow.domain false) (Rows.fnProRateEqualSpec.post enc Try.prog Try.f7 false true false false) := by
  refine returnsInHanded_of_change (C := Try.checked) Try.own started (by kernel_rfl) Try.func7
    (ChangeSpec.witness6 (enc := enc) (C := Try.checked) false ⟨#[], #[.slice none 0 0], []⟩ 8 (by kernel_rfl) (by kernel_rfl) (by kernel_rfl) (by kernel_rfl)) ?_
  intro W base args ds gs before hval0 hW _ _
  have hval : ∀ (j : Nat) t v, Try.f7.params[j]? = some t → args[j]? = some v → Value.okWide Try.prog W .any base t v := hval0
  have hW' := hW
  obtain ⟨p, q, hA0, hV, rfl, hfz, hnd⟩ := hW
  have hA : DataW.TrodAll enc Try.prog W 0 (fun _ => true) true Try.f7.params.toList args.toList ds p := hA0
  rw [Try.params7] at hA hval
  have hA2 := hA
  obtain ⟨v0, vs0, d0, ds0, p0, q0, hargs, rfl, rfl, h0, r0⟩ := trodAll_cons hA
  obtain ⟨rfl, rfl, rfl⟩ := trodAll_nil r0
  obtain rfl : args = #[v0] := by cases args; simp_all
  obtain ⟨rfl, rfl⟩ := trodVars_none hV
  have hlt : ∀ x ∈ (p0 ++ []) ++ [], x.block < W.heap.size := fun x hx => hW'.lt x hx
  obtain ⟨a0, n0, cap0, rfl⟩ := okWide_slice Try.underlying28 (hval 0 28 v0 rfl rfl)
  obtain ⟨fuel0, hf0⟩ := h0
  obtain ⟨xs0, hs0, hc0, hw0⟩ := sl_ints u8L (fun _ => rfl) rfl Try.underlying28 Try.underlying5 Try.cellsU8 hf0
  refine (walk a0 n0 cap0 xs0 W hs0 hc0 (fun z hz => u8_range (hw0 z hz))).mono fun e W' ⟨he, hg⟩ => ?_
  subst he
  have hb := below_of_gr hg
  refine ⟨_, rfl, _, _, _, [], p0 ++ [], [], hW', ?_, ?_, rfl, hb.frame _, fun h => by cases h⟩
  · exact trodAll_mk1 (shut_bool Try.underlying4 _)
  · exact args_stay hb _ _ _ _ hA2 (fun x hx => hlt x (by simpa using hx)) (by intro t ht; simp at ht; subst ht; exact ⟨by kernel_rfl, of_decide_eq_true (by kernel_rfl)⟩)

set_option maxRecDepth 100000 in
theorem closed : joinedFacts Try.pinned.checked.prog 7 Try.f7 Rows.fnProRateEqualSpec Rows.fnProRateEqualRow = true := by
  rw [joinedFacts, show Try.pinned.checked.prog.mayEnter = true from Try.enters, show Try.pinned.checked.prog.liftsFinal = false from Try.lifts, show Try.pinned.checked.prog.make = some .cut from Try.cut]
  kernel_rfl

theorem holds : Rows.FnProRateEqualSaid :=
  OpenClaim.holds_of_wide 7 Try.f7 rfl rfl rfl rfl rfl rfl rfl ⟨rfl, rfl, rfl, rfl, rfl⟩ rfl rfl rfl rfl rfl (by kernel_rfl) Try.func7 closed
    (of_decide_eq_true (by kernel_rfl)) (by unfold Func.isWrapper; first | (rw [if_pos (by decide +kernel)]; kernel_rfl) | (rw [if_neg (by decide +kernel)]; exact ⟨rfl, rfl⟩))
    (fun os started H enc _ => lifted os started H enc)

end FnProRateEqual
end Go.Proofs.Ytecboohippbliaa
