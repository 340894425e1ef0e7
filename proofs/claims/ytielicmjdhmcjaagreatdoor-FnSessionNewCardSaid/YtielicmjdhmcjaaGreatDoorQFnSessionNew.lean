/- The law, over the packed texts. -/
import Derived.Test.YtielicmjdhmcjaaGreatDoorRows
import Derived.Test.YtielicmjdhmcjaaGreatDoorPk50
import Derived.Test.YtielicmjdhmcjaaGreatDoorPk52
import Derived.Test.YtielicmjdhmcjaaGreatDoorPk53
/- For every input, FnSessionNew returns true: bonds replace bonds. No condition. -/
namespace Go.Proofs.YtielicmjdhmcjaaGreatDoor
open Go.ChangeShapes Go.WideShapes Go.ChangeAt Go.RowKit
namespace FnSessionNew

set_option maxRecDepth 100000 in
set_option maxHeartbeats 2000000 in
theorem walk (a : Option Addr) (n cap : Nat) (xs : List Int) (w : World) (hm : Laid4 w) (hs : Sl u8L w a n xs) (hcap : n ≤ cap) (hx : ∀ x ∈ xs, 0 ≤ x ∧ x ≤ 255) :
    Calls Tryz.prog 3 #[.slice a n cap] w fun e w' => e = .returned (.bool true) ∧ w.grownBy w' none := by
  have Hx := hid hx
  have Hs := hid hs
  have Hm := hid hm
  have hbig := hs.big
  unfold maxLen at hbig
  clear hx hs hm
  by_cases hn : 1048576 < n
  · go_enter Tryz.func3, Tryz.ntmps3
    go_wp2_with fail
    go_ret
    exact ⟨rfl, gr_refl _ _⟩
  clear hbig
  obtain ⟨i0, hi, hz0, hz1, hz2⟩ := infoPtsS infoStr
  go_enter Tryz.func3, Tryz.ntmps3
  go_wp2_with fail
  refine (DrawRunSession_any a n cap xs w Hs.out hcap Hx.out).mono ?_
  rintro e w1 ⟨g, m, c, ls, rfl, hO, hmc, hm1, hm10, hll, hg⟩
  have HO := hid hO
  have Hg1 := hid hg
  have Hll := hid (show ∀ x ∈ ls, x.length ≤ 2000000 from fun x h => by have := hll x h; omega)
  have hlen := hO.len
  have hq : (sessT ls != sessT ls) = false := by simp
  clear hO hg hll
  go_wp2_with fail
  refine (RunSession_any (some ⟨g, 0, none⟩) m c ls w1 HO.out.sl (Hm.out.keep0 Hg1.out) Hll.out hmc (fun e => by cases e)).mono ?_
  rintro e w2 ⟨rfl, hg⟩
  have HO2 := hid (HO.out.keep0 hg)
  have Hg2 := hid (gr_trans0 Hg1.out hg)
  clear hg
  go_wp2_with fail
  refine (specRunSession_any (some ⟨g, 0, none⟩) m c ls w2 HO2.out.sl Hll.out).mono ?_
  rintro e w3 ⟨rfl, hg⟩
  have HO3 := hid (HO2.out.keep0 hg)
  have Hg3 := hid (gr_trans0 Hg2.out hg)
  have hd : decide (20 < (m : Int) + 2) = false := by simp; omega
  have u0 : IntKind.i64.wrap ((m : Int) + 2) = (m : Int) + 2 := IntWalk.i64_in _ (by omega)
  clear hg
  have HC3 := hid (str_cells ((HO3.out.sl).keep0 (gr_alloc (gr_refl w3 none) (Obj.cells #[] 9))))
  have HL3 : Hid ((ls.flatMap strL.cells).length = m * 1) := hid (by rw [flat_len, hlen]; rfl)
  have H13 := hid (str_one ls)
  have HW3 := hid (World.ownsRow_made (base := w3.heap.size) (e := 9) (size := 1) w3 #[] 0 (Nat.le_refl _) (by decide) rfl)
  go_wp2_with (at_builtin; go_must (refine wpList_append_lies _ rfl _ _ _ rfl w3.heap.size 9 i0 _ 1 16 Tryz.underlying23 hi hz0 hz1 hz2 rfl (by decide) _ _ _ rfl HW3.out ⟨g, 0, none⟩ m c (ls.flatMap strL.cells) rfl HL3.out HC3.out H13.out (by omega) ?c1 ?c2 ?c3 _ rfl ?_))
  case c1 => unfold maxLen; omega
  case c2 => omega
  case c3 => simp
  intro g1 c1 w4 hown hgo hat hlt
  clear hat hlt
  (try rw [Nat.zero_add] at hown)
  have hown2 : w4.ownsRow w3.heap.size 9 1 (.slice (some ⟨g1, 0, none⟩) m c1) m (ls.flatMap strL.cells) := hown
  have HW4 := hid hown2
  have Hg4 := hid (gr_own (gr_alloc Hg3.out _) hgo (fun x e => by simp [Value.ownBlock] at e; have := gr_le Hg3.out; omega))
  clear hown hown2 hgo
  (try rw [Nat.zero_add])
  go_wp2_with (at_builtin; go_must (refine wpList_append_lies _ rfl _ _ _ rfl w3.heap.size 9 i0 _ 1 16 Tryz.underlying23 hi hz0 hz1 hz2 rfl (by decide) _ _ _ rfl (HW4.out.alloc _) ⟨w4.heap.size, 0, none⟩ 2 2 [.string ⟨(newW).toArray⟩, .string ⟨(totW).toArray⟩] rfl rfl (cells_new w4 _ _ _ rfl) ?d0 (by omega) ?d1 ?d2 ?d3 _ rfl ?_))
  case d0 => simp [Value.oneCell']
  case d1 => unfold maxLen; omega
  case d2 => omega
  case d3 => simp; have := gr_le (gr_alloc Hg3.out (Obj.cells #[] 9)); have := HW4.out.lt g1 rfl; omega
  intro g2 c2 w5 hown hgo hat hlt
  clear hat hlt
  have HS5 := hid (sl_more (n := m) (k := 2) (ls := ls) (ms := [newW, totW]) hown hlen rfl (by omega))
  have Hg5 := hid (gr_append (gr_alloc Hg4.out _) (HW4.out.alloc _) (gr_le Hg3.out) hgo)
  clear hown hgo
  have HR := hid (RunSession_any (some ⟨g2, 0, none⟩) (m + 2) c2 (ls ++ [newW, totW]) w5 HS5.out.1 (Hm.out.keep0 Hg5.out) (fun x h => by
    rcases List.mem_append.1 h with h | h
    · exact Hll.out x h
    · rcases List.mem_cons.1 h with rfl | h
      · decide
      · rw [List.mem_singleton.1 h]; decide) HS5.out.2 (fun e => by cases e))
  have hsz := sess_le (ls ++ [newW, totW])
  rw [sess_new ls (by omega)] at HR hsz
  generalize sessT ls = p at *
  have hl1 : p.length ≤ (p ++ [111, 107, 10, 49, 49, 48, 48, 48, 10]).length := by simp
  have hd1 : decide (p.length ≤ (p ++ [111, 107, 10, 49, 49, 48, 48, 48, 10]).length) = true := by simp
  have hd2 : decide ((p.length : Int) ≤ (p ++ [111, 107, 10, 49, 49, 48, 48, 48, 10]).length) = true := by simp; omega
  have hT : ∀ w, (Instr.slice 9 (.string ⟨(p ++ [111, 107, 10, 49, 49, 48, 48, 48, 10]).toArray⟩) (some (.int .i64 (p.length : Int))) none none).run Tryz.prog w = .ok (.string ⟨([111, 107, 10, 49, 49, 48, 48, 48, 10]).toArray⟩) w := fun w => by
    have := str_drop w 9 (p ++ [111, 107, 10, 49, 49, 48, 48, 48, 10]) p.length _ rfl hl1 Tryz.underlying9
    rwa [List.drop_left] at this
  generalize p ++ [111, 107, 10, 49, 49, 48, 48, 48, 10] = o at *
  go_wp2_with fail
  refine HR.out.mono ?_
  rintro e w6 ⟨rfl, hg⟩
  have Hg6 := hid (gr_trans0 Hg5.out hg)
  clear hg
  go_wp2_with fail
  go_ret
  exact ⟨rfl, Hg6.out⟩

set_option maxRecDepth 100000 in
theorem lifted (os : Os) (started : os.Started) (H : Type) (enc : TypeId × Value → H) :
    ReturnsInHanded {} Tryz.checked os 3 .any (fun w args => (Rows.fnSessionNewSpec.pre enc Tryz.prog Tryz.f3 Rows.fnSessionNewRow.domain false w args ∧ laidMetH Tryz.prog laidMonths w) ∧ sizedMet enc Tryz.prog Tryz.f3 (OpenSpec.ofChange Rows.fnSessionNewSpec) false w args) (Rows.fnSessionNewSpec.post enc Tryz.prog Tryz.f3 false true false false) := by
  refine returns_listed_shaped (C := Tryz.checked) (X := fun w _ => laidMetH Tryz.prog laidMonths w) (fun _ _ _ hh h => h.of_heap hh) Tryz.own started (by kernel_rfl) Tryz.func3
    (ChangeSpec.witness_shaped (enc := enc) (C := Tryz.checked) (os := os) (X := fun w _ => laidMetH Tryz.prog laidMonths w) false (World.laidAll Tryz.prog os laidMonths) #[.slice none 0 0] 8 (World.laidAll_os _ _ _) (laid_shaped os _) (by kernel_rfl) (by kernel_rfl) (by kernel_rfl) (door_met os _)) ?_
  intro W base args ds gs before hval0 hW hL hSh
  have hval : ∀ (j : Nat) t v, Tryz.f3.params[j]? = some t → args[j]? = some v → Value.okWide Tryz.prog W .any base t v := hval0
  have hW' := hW
  obtain ⟨p, q, hA0, hV, rfl, hfz, hnd⟩ := hW
  have hA : DataW.TrodAll enc Tryz.prog W 0 (fun _ => true) true Tryz.f3.params.toList args.toList ds p := hA0
  rw [Tryz.params3] at hA hval
  have hA2 := hA
  obtain ⟨v0, vs0, d0, ds0, p0, q0, hargs, rfl, rfl, h0, r0⟩ := trodAll_cons hA
  obtain ⟨rfl, rfl, rfl⟩ := trodAll_nil r0
  obtain rfl : args = #[v0] := by cases args; simp_all
  obtain ⟨g0, g1, rfl⟩ := vars_two hV
  have hlt : ∀ x ∈ (p0 ++ []) ++ q, x.block < W.heap.size := fun x hx => hW'.lt x hx
  obtain ⟨a0, n0, cap0, rfl⟩ := okWide_slice Tryz.underlying22 (hval 0 22 v0 rfl rfl)
  obtain ⟨fuel0, hf0⟩ := h0
  obtain ⟨xs0, hs0, hc0, hw0⟩ := sl_ints u8L (fun _ => rfl) rfl Tryz.underlying22 Tryz.underlying5 Tryz.cellsU8 hf0
  refine (walk a0 n0 cap0 xs0 W (months_of_laid hL hSh) hs0 hc0 (fun z hz => u8_range (hw0 z hz))).mono fun e W' ⟨he, hg⟩ => ?_
  subst he
  have hb := below_of_gr hg
  refine ⟨_, rfl, _, _, _, [], p0 ++ [], q, hW', ?_, ?_, vars_stay hb hV, hb.frame _, fun h => by cases h⟩
  · exact trodAll_mk1 (shut_bool Tryz.underlying4 _)
  · exact args_stay hb _ _ _ _ hA2 (fun x hx => hlt x (List.mem_append_left _ (by simpa using hx))) (by intro t ht; simp at ht; subst ht; exact ⟨by kernel_rfl, of_decide_eq_true (by kernel_rfl)⟩)

set_option maxRecDepth 100000 in
theorem closed : joinedFacts Tryz.pinned.checked.prog 3 Tryz.f3 Rows.fnSessionNewSpec Rows.fnSessionNewRow = true := by
  rw [joinedFacts, show Tryz.pinned.checked.prog.mayEnter = true from Tryz.enters, show Tryz.pinned.checked.prog.liftsFinal = false from Tryz.lifts, show Tryz.pinned.checked.prog.make = some .cut from Tryz.cut]
  kernel_rfl

theorem row_holds : Rows.FnSessionNewSaid :=
  OpenClaim.holds_of_wide 3 Tryz.f3 rfl rfl rfl rfl rfl rfl rfl ⟨rfl, rfl, rfl, rfl, rfl⟩ rfl rfl rfl rfl rfl (by kernel_rfl) Tryz.func3 closed
    (of_decide_eq_true (by kernel_rfl)) (by unfold Func.isWrapper; first | (rw [if_pos (by decide +kernel)]; kernel_rfl) | (rw [if_neg (by decide +kernel)]; exact ⟨rfl, rfl⟩))
    (fun os started H enc _ => lifted os started H enc)

theorem holds : Rows.FnSessionNewCardSaid :=
  Claim7.holds_tied_plain_at .later [] [.data, .data, .data, .data, .data, .sentinel, .pinned] true (true, "efa8652cb767d110e6de1ad6a8a63b60ce84089dc576426d00f0bc0cbc999c4b") false
    row_holds (fun _ h => by cases h) (by kernel_rfl) (fun _ h => by cases h) fnSessionNew_row_tie rfl ⟨rfl, rfl⟩ (by kernel_rfl) rfl
    (fun f fn hf hfn => by
      obtain rfl : f = 3 := Option.some.inj ((show Tryz.prog.funcNamed "loop.example/bonddesk/laws.FnSessionNew" = some 3 by kernel_rfl).symm.trans hf) |>.symm
      obtain rfl : fn = Tryz.f3 := (Option.some.inj (Tryz.func3.symm.trans hfn)).symm
      exact ⟨by kernel_rfl, fun j t ht => by
        rw [Tryz.params3] at ht
        have hm : t ∈ [22] := by simpa using Array.mem_of_getElem? ht
        have hall : ([22].all fun u => !Tryz.prog.wantsStandIn u) = true := by kernel_rfl
        exact (show Tryz.prog.wantsStandIn t = false by simpa using List.all_eq_true.1 hall t hm)⟩)
    (by kernel_rfl)
end FnSessionNew
end Go.Proofs.YtielicmjdhmcjaaGreatDoor
