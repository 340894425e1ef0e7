/- The law, over the packed texts. -/
import Derived.Test.YtielicmjdhmcjaaGreatDoorRows
import Derived.Test.YtielicmjdhmcjaaGreatDoorPk50
import Derived.Test.YtielicmjdhmcjaaGreatDoorPk51
/- For every input, FnExactRunSession returns true: the program's RunSession returns what the reference's returns and leaves its argument alone. No condition. -/
namespace Go.Proofs.YtielicmjdhmcjaaGreatDoor
open Go.ChangeShapes Go.WideShapes Go.ChangeAt Go.RowKit
namespace FnExactRunSession

set_option maxRecDepth 100000 in
set_option maxHeartbeats 1000000 in
theorem walk (a : Option Addr) (n cap : Nat) (xs : List (List UInt8)) (w : World) (hm : Laid4 w) (hs : Sl strL w a n xs) (_hcap : n ≤ cap) (hx : ∀ x ∈ xs, x.length ≤ maxLen) :
    Calls Tryz.prog 6 #[.slice a n cap] w fun e w' => e = .returned (.bool true) ∧ w.grownBy w' none := by
  have Hs := hid hs
  have Hm := hid hm
  have HZ := hid (szStringS_any a n cap xs w hs hx)
  clear hs hm hx
  go_enter Tryz.func6, Tryz.ntmps6
  go_wp2_with fail
  refine HZ.out.mono ?_
  rintro e w1 ⟨⟨z, rfl, hz⟩, rfl⟩
  by_cases h0 : z < 0
  · have hd : decide (z < 0) = true := by simpa using h0
    clear hz h0
    go_wp2_with fail
    go_ret
    exact ⟨rfl, gr_refl _ _⟩
  obtain ⟨hn, hx⟩ := hz (by omega)
  have hd : decide (z < 0) = false := by simpa using h0
  have Hx := hid (show ∀ x ∈ xs, x.length ≤ 2000000 from fun x h => by have := hx x h; omega)
  clear hz h0 hx HZ
  go_wp2_with fail
  refine (toStringS_any a n cap xs _ Hs.out hn).mono ?_
  rintro e w2 ⟨g1, rfl, ho, hg⟩
  have HO1 := hid ho
  have HG1 := hid hg
  clear ho hg
  go_wp2_with fail
  refine (specRunSession_any (some ⟨g1, 0, none⟩) n n xs _ HO1.out.sl Hx.out).mono ?_
  rintro e w3 ⟨rfl, hg⟩
  have HG2 := hid (gr_trans0 HG1.out hg)
  clear hg
  go_wp2_with fail
  refine (toStringS_any a n cap xs _ (Hs.out.keep0 HG2.out) hn).mono ?_
  rintro e w4 ⟨g2, rfl, ho, hg⟩
  have HO2 := hid ho
  have HG3 := hid (gr_trans0 HG2.out hg)
  clear ho hg
  go_wp2_with fail
  refine (RunSession_any (some ⟨g2, 0, none⟩) n n xs _ HO2.out.sl (Hm.out.keep0 HG3.out) Hx.out (Nat.le_refl _) (fun e => by cases e)).mono ?_
  rintro e w5 ⟨rfl, hg⟩
  have HS5 := hid (HO2.out.sl.keep0 hg)
  have HG4 := hid (gr_trans0 HG3.out hg)
  have hq : (sessT xs != sessT xs) = false := by simp
  clear hg
  go_wp2_with fail
  refine (toStringS_any a n cap xs _ (Hs.out.keep0 HG4.out) hn).mono ?_
  rintro e w6 ⟨g3, rfl, ho, hg⟩
  have HO3 := hid ho
  have HS6 := hid (HS5.out.keep0 hg)
  have HG5 := hid (gr_trans0 HG4.out hg)
  clear ho hg
  go_wp2_with fail
  refine (eqStringS_any (some ⟨g2, 0, none⟩) (some ⟨g3, 0, none⟩) n n n xs _ HS6.out HO3.out.sl).mono ?_
  rintro e w7 ⟨rfl, hg⟩
  have HG6 := hid (gr_trans0 HG5.out hg)
  clear hg
  go_wp2_with fail
  go_ret
  exact ⟨rfl, HG6.out⟩

set_option maxRecDepth 100000 in
theorem lifted (os : Os) (started : os.Started) (H : Type) (enc : TypeId × Value → H) :
    ReturnsInHanded {} Tryz.checked os 6 .any (fun w args => (Rows.fnExactRunSessionSpec.pre enc Tryz.prog Tryz.f6 Rows.fnExactRunSessionRow.domain false w args ∧ laidMetH Tryz.prog laidMonths w) ∧ sizedMet enc Tryz.prog Tryz.f6 (OpenSpec.ofChange Rows.fnExactRunSessionSpec) false w args) (Rows.fnExactRunSessionSpec.post enc Tryz.prog Tryz.f6 false true false false) := by
  refine returns_listed_shaped (C := Tryz.checked) (X := fun w _ => laidMetH Tryz.prog laidMonths w) (fun _ _ _ hh h => h.of_heap hh) Tryz.own started (by kernel_rfl) Tryz.func6
    (ChangeSpec.witness_shaped (enc := enc) (C := Tryz.checked) (os := os) (X := fun w _ => laidMetH Tryz.prog laidMonths w) false (World.laidAll Tryz.prog os laidMonths) #[.slice none 0 0] 8 (World.laidAll_os _ _ _) (laid_shaped os _) (by kernel_rfl) (by kernel_rfl) (by kernel_rfl) (door_met os _)) ?_
  intro W base args ds gs before hval0 hW hL hSh
  have hval : ∀ (j : Nat) t v, Tryz.f6.params[j]? = some t → args[j]? = some v → Value.okWide Tryz.prog W .any base t v := hval0
  have hW' := hW
  obtain ⟨p, q, hA0, hV, rfl, hfz, hnd⟩ := hW
  have hA : DataW.TrodAll enc Tryz.prog W 0 (fun _ => true) true Tryz.f6.params.toList args.toList ds p := hA0
  rw [Tryz.params6] at hA hval
  have hA2 := hA
  obtain ⟨v0, vs0, d0, ds0, p0, q0, hargs, rfl, rfl, h0, r0⟩ := trodAll_cons hA
  obtain ⟨rfl, rfl, rfl⟩ := trodAll_nil r0
  obtain rfl : args = #[v0] := by cases args; simp_all
  obtain ⟨g0, g1, rfl⟩ := vars_two hV
  have hlt : ∀ x ∈ (p0 ++ []) ++ q, x.block < W.heap.size := fun x hx => hW'.lt x hx
  obtain ⟨a0, n0, cap0, rfl⟩ := okWide_slice Tryz.underlying23 (hval 0 23 v0 rfl rfl)
  obtain ⟨fuel0, hf0⟩ := h0
  obtain ⟨xs0, hs0, hc0, hw0⟩ := sl_strs Tryz.underlying23 Tryz.underlying9 Tryz.cellsStr hf0
  refine (walk a0 n0 cap0 xs0 W (months_of_laid hL hSh) hs0 hc0 hw0).mono fun e W' ⟨he, hg⟩ => ?_
  subst he
  have hb := below_of_gr hg
  refine ⟨_, rfl, _, _, _, [], p0 ++ [], q, hW', ?_, ?_, vars_stay hb hV, hb.frame _, fun h => by cases h⟩
  · exact trodAll_mk1 (shut_bool Tryz.underlying4 _)
  · exact args_stay hb _ _ _ _ hA2 (fun x hx => hlt x (List.mem_append_left _ (by simpa using hx))) (by intro t ht; simp at ht; subst ht; exact ⟨by kernel_rfl, of_decide_eq_true (by kernel_rfl)⟩)

set_option maxRecDepth 100000 in
theorem closed : joinedFacts Tryz.pinned.checked.prog 6 Tryz.f6 Rows.fnExactRunSessionSpec Rows.fnExactRunSessionRow = true := by
  rw [joinedFacts, show Tryz.pinned.checked.prog.mayEnter = true from Tryz.enters, show Tryz.pinned.checked.prog.liftsFinal = false from Tryz.lifts, show Tryz.pinned.checked.prog.make = some .cut from Tryz.cut]
  kernel_rfl

theorem row_holds : Rows.FnExactRunSessionSaid :=
  OpenClaim.holds_of_wide 6 Tryz.f6 rfl rfl rfl rfl rfl rfl rfl ⟨rfl, rfl, rfl, rfl, rfl⟩ rfl rfl rfl rfl rfl (by kernel_rfl) Tryz.func6 closed
    (of_decide_eq_true (by kernel_rfl)) (by unfold Func.isWrapper; first | (rw [if_pos (by decide +kernel)]; kernel_rfl) | (rw [if_neg (by decide +kernel)]; exact ⟨rfl, rfl⟩))
    (fun os started H enc _ => lifted os started H enc)

theorem holds : Rows.FnExactRunSessionCardSaid :=
  Claim7.holds_tied_plain_at .later [] [.data, .data, .data, .data, .data, .sentinel, .pinned] true (true, "efa8652cb767d110e6de1ad6a8a63b60ce84089dc576426d00f0bc0cbc999c4b") false
    row_holds (fun _ h => by cases h) (by kernel_rfl) (fun _ h => by cases h) fnExactRunSession_row_tie rfl ⟨rfl, rfl⟩ (by kernel_rfl) rfl
    (fun f fn hf hfn => by
      obtain rfl : f = 6 := Option.some.inj ((show Tryz.prog.funcNamed "loop.example/bonddesk/laws.FnExactRunSession" = some 6 by kernel_rfl).symm.trans hf) |>.symm
      obtain rfl : fn = Tryz.f6 := (Option.some.inj (Tryz.func6.symm.trans hfn)).symm
      exact ⟨by kernel_rfl, fun j t ht => by
        rw [Tryz.params6] at ht
        have hm : t ∈ [23] := by simpa using Array.mem_of_getElem? ht
        have hall : ([23].all fun u => !Tryz.prog.wantsStandIn u) = true := by kernel_rfl
        exact (show Tryz.prog.wantsStandIn t = false by simpa using List.all_eq_true.1 hall t hm)⟩)
    (by kernel_rfl)
end FnExactRunSession
end Go.Proofs.YtielicmjdhmcjaaGreatDoor
