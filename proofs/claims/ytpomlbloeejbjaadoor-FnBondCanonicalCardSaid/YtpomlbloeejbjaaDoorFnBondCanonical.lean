/- For every input, FnBondCanonical returns true: bonds have one text. No condition. -/
import Derived.Test.YtpomlbloeejbjaaDoorRows
import Derived.Test.YtpomlbloeejbjaaDoorCards
import Derived.Test.YtpomlbloeejbjaaDoorTie
import Derived.Test.YtpomlbloeejbjaaDoorParseBond
import Derived.Test.YtpomlbloeejbjaaDoorSpecParseBond
import Derived.Test.YtpomlbloeejbjaaDoorDrawTextB
import Derived.Test.YtpomlbloeejbjaaDoorFrame
import Derived.Test.YtpomlbloeejbjaaDoorFrameL
import Derived.ProofKit
namespace Go.Proofs.YtpomlbloeejbjaaDoor
open Go.ChangeShapes Go.WideShapes Go.ChangeAt Go.RowKit
namespace FnBondCanonical

set_option maxRecDepth 100000 in
set_option maxHeartbeats 2000000 in
theorem walk (a : Option Addr) (n cap : Nat) (xs : List Int) (w : World) (hm : Laid4 w) (hs : Sl u8L w a n xs) (hcap : n ≤ cap) (hx : ∀ x ∈ xs, 0 ≤ x ∧ x ≤ 255) :
    Calls Tryd.prog 9 #[.slice a n cap] w fun e w' => e = .returned (.bool true) ∧ w.grownBy w' none := by
  have Hx := hid hx
  have Hs := hid hs
  have Hm := hid hm
  have hbig := hs.big
  unfold maxLen at hbig
  clear hx hs hm
  by_cases hn : 1048576 < n
  · go_enter Tryd.func9, Tryd.ntmps9
    go_wp2_with fail
    go_ret
    exact ⟨rfl, gr_refl _ _⟩
  clear hbig
  go_enter Tryd.func9, Tryd.ntmps9
  go_wp2_with fail
  refine (DrawParseBond_any a n cap xs w Hs.out hcap Hx.out).mono ?_
  rintro e w1 ⟨l, rfl, hl, hg⟩
  have Hg1 := hid hg
  have HP := hid (ParseBond_any l w1 (Hm.out.keep0 hg) (by omega))
  have HS := hid (fun wx => specParseBond_any l wx (by omega))
  have hfy : pbOk l = true → fmtBond (pbV l) = l ∧ bondB (pbV l) = true := fun h => by
    unfold pbV; rw [if_pos h]; exact ⟨pb_fmt h, (pb_is h).1⟩
  generalize pbV l = b at *
  generalize hok : pbOk l = ok at *
  clear hg hok
  go_wp2_with fail
  refine HP.out.mono ?_
  rintro e w2 ⟨rfl, hg⟩
  have Hg2 := hid (gr_alloc (gr_trans0 Hg1.out hg) (Obj.cells #[.int .i64 b.start, .int .i64 b.stop, .int .i64 b.months, .int .i64 b.rate] 37))
  have Hb2 := hid (heap_alloc_new w2 (Obj.cells #[.int .i64 b.start, .int .i64 b.stop, .int .i64 b.months, .int .i64 b.rate] 37))
  clear hg HP
  go_wp2_with fail
  refine (HS.out _).mono ?_
  rintro e w3 ⟨rfl, hg⟩
  have Hg3 := hid (gr_alloc (gr_trans0 Hg2.out hg) (Obj.cells #[.int .i64 b.start, .int .i64 b.stop, .int .i64 b.months, .int .i64 b.rate] 37))
  have hb3 := blk_keep Hb2.out hg (by simp)
  have Hb3 := hid (blk_alloc hb3 (Obj.cells #[.int .i64 b.start, .int .i64 b.stop, .int .i64 b.months, .int .i64 b.rate] 37))
  have hlt := blk_lt hb3
  have c0 := blk_cell hb3 0 _ rfl
  have c1 := blk_cell hb3 1 _ rfl
  have c2 := blk_cell hb3 2 _ rfl
  have c3 := blk_cell hb3 3 _ rfl
  have n1 : ¬ w2.heap.size = w3.heap.size := by omega
  have n2 : ¬ w3.heap.size = w2.heap.size := by omega
  clear hg HS hb3
  cases ok with
  | false =>
    clear hfy
    go_wp2_with fail
    go_ret
    exact ⟨rfl, Hg3.out⟩
  | true =>
    obtain ⟨hf, hv⟩ := hfy rfl
    have HF := hid (FormatBond_any b _ (Hm.out.keep0 Hg3.out))
    have HVa := hid (fun wx hx => ValidBond_any b wx hx)
    rw [hf] at HF
    rw [hv] at HVa
    clear hfy hf hv
    have hll : (l == l) = true := by simp
    go_wp2_with fail
    refine HF.out.mono ?_
    rintro e w4 ⟨rfl, hg⟩
    have Hg4 := hid (gr_trans0 Hg3.out hg)
    have hb4 := blk_keep Hb3.out hg (by simp)
    clear hg c0 c1 c2 c3
    have c0 := blk_cell hb4 0 _ rfl
    have c1 := blk_cell hb4 1 _ rfl
    have c2 := blk_cell hb4 2 _ rfl
    have c3 := blk_cell hb4 3 _ rfl
    clear hb4
    go_wp2_with fail
    refine (HVa.out _ (Hm.out.mo.keep0 Hg4.out)).mono ?_
    rintro e w5 ⟨rfl, hg⟩
    have Hg5 := hid (gr_trans0 Hg4.out hg)
    clear hg
    go_wp2_with fail
    go_ret
    exact ⟨rfl, Hg5.out⟩

set_option maxRecDepth 100000 in
theorem lifted (os : Os) (started : os.Started) (H : Type) (enc : TypeId × Value → H) :
    ReturnsInHanded {} Tryd.checked os 9 .any (fun w args => (Rows.fnBondCanonicalSpec.pre enc Tryd.prog Tryd.f9 Rows.fnBondCanonicalRow.domain false w args ∧ laidMetH Tryd.prog laidMonths w) ∧ sizedMet enc Tryd.prog Tryd.f9 (OpenSpec.ofChange Rows.fnBondCanonicalSpec) false w args) (Rows.fnBondCanonicalSpec.post enc Tryd.prog Tryd.f9 false true false false) := by
  refine returnsInHanded_of_change_and (C := Tryd.checked) (X := fun w _ => laidMetH Tryd.prog laidMonths w) (fun _ _ _ hh h => h.of_heap hh) Tryd.own started (by kernel_rfl) Tryd.func9
    (ChangeSpec.witness_shaped (enc := enc) (C := Tryd.checked) (os := os) (X := fun w _ => laidMetH Tryd.prog laidMonths w) false (World.doorLaid Tryd.prog 400 os) #[.slice none 0 0] 8 rfl (World.shaped_of_RefB (by kernel_rfl) (by kernel_rfl)) (by kernel_rfl) (by kernel_rfl) (by kernel_rfl) (door_met os _)) ?_
  intro W base args ds gs before hval0 hW _ _ hL _
  have hval : ∀ (j : Nat) t v, Tryd.f9.params[j]? = some t → args[j]? = some v → Value.okWide Tryd.prog W .any base t v := hval0
  have hW' := hW
  obtain ⟨p, q, hA0, hV, rfl, hfz, hnd⟩ := hW
  have hA : DataW.TrodAll enc Tryd.prog W 0 (fun _ => true) true Tryd.f9.params.toList args.toList ds p := hA0
  rw [Tryd.params9] at hA hval
  have hA2 := hA
  obtain ⟨v0, vs0, d0, ds0, p0, q0, hargs, rfl, rfl, h0, r0⟩ := trodAll_cons hA
  obtain ⟨rfl, rfl, rfl⟩ := trodAll_nil r0
  obtain rfl : args = #[v0] := by cases args; simp_all
  obtain ⟨g0, rfl⟩ := vars_one hV
  have hlt : ∀ x ∈ (p0 ++ []) ++ q, x.block < W.heap.size := fun x hx => hW'.lt x hx
  obtain ⟨a0, n0, cap0, rfl⟩ := okWide_slice Tryd.underlying22 (hval 0 22 v0 rfl rfl)
  obtain ⟨fuel0, hf0⟩ := h0
  obtain ⟨xs0, hs0, hc0, hw0⟩ := sl_ints u8L (fun _ => rfl) rfl Tryd.underlying22 Tryd.underlying5 Tryd.cellsU8 hf0
  refine (walk a0 n0 cap0 xs0 W (months_of_laid hL) hs0 hc0 (fun z hz => u8_range (hw0 z hz))).mono fun e W' ⟨he, hg⟩ => ?_
  subst he
  have hb := below_of_gr hg
  refine ⟨_, rfl, _, _, _, [], p0 ++ [], q, hW', ?_, ?_, vars_stay hb hV, hb.frame _, fun h => by cases h⟩
  · exact trodAll_mk1 (shut_bool Tryd.underlying4 _)
  · exact args_stay hb _ _ _ _ hA2 (fun x hx => hlt x (List.mem_append_left _ (by simpa using hx))) (by intro t ht; simp at ht; subst ht; exact ⟨by kernel_rfl, of_decide_eq_true (by kernel_rfl)⟩)

set_option maxRecDepth 100000 in
theorem closed : joinedFacts Tryd.pinned.checked.prog 9 Tryd.f9 Rows.fnBondCanonicalSpec Rows.fnBondCanonicalRow = true := by
  rw [joinedFacts, show Tryd.pinned.checked.prog.mayEnter = true from Tryd.enters, show Tryd.pinned.checked.prog.liftsFinal = false from Tryd.lifts, show Tryd.pinned.checked.prog.make = some .cut from Tryd.cut]
  kernel_rfl

theorem row_holds : Rows.FnBondCanonicalSaid :=
  OpenClaim.holds_of_wide 9 Tryd.f9 rfl rfl rfl rfl rfl rfl rfl ⟨rfl, rfl, rfl, rfl, rfl⟩ rfl rfl rfl rfl rfl (by kernel_rfl) Tryd.func9 closed
    (of_decide_eq_true (by kernel_rfl)) (by unfold Func.isWrapper; first | (rw [if_pos (by decide +kernel)]; kernel_rfl) | (rw [if_neg (by decide +kernel)]; exact ⟨rfl, rfl⟩))
    (fun os started H enc _ => lifted os started H enc)

theorem holds : Rows.FnBondCanonicalCardSaid :=
  Claim7.holds_tied_plain_at .later [] [.data, .data, .data, .data] true (true, "4a249f42968783ff868ac7aef013585a266f6e9017edea4d3bdcc2788fba7da4") false
    row_holds (fun _ h => by cases h) (by kernel_rfl) (fun _ h => by cases h) fnBondCanonical_row_tie rfl ⟨rfl, rfl⟩ (by kernel_rfl) rfl
    (fun f fn hf hfn => by
      obtain rfl : f = 9 := Option.some.inj ((show Tryd.prog.funcNamed "loop.example/bonddesk/laws.FnBondCanonical" = some 9 by kernel_rfl).symm.trans hf) |>.symm
      obtain rfl : fn = Tryd.f9 := (Option.some.inj (Tryd.func9.symm.trans hfn)).symm
      exact ⟨by kernel_rfl, fun j t ht => by
        rw [Tryd.params9] at ht
        have hm : t ∈ [22] := by simpa using Array.mem_of_getElem? ht
        have hall : ([22].all fun u => !Tryd.prog.wantsStandIn u) = true := by kernel_rfl
        exact (show Tryd.prog.wantsStandIn t = false by simpa using List.all_eq_true.1 hall t hm)⟩)
    (by kernel_rfl)
end FnBondCanonical
end Go.Proofs.YtpomlbloeejbjaaDoor
