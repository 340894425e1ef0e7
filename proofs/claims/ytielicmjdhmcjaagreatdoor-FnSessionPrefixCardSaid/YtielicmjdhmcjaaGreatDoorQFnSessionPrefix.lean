/- The law, over the packed texts. -/
import Derived.Test.YtielicmjdhmcjaaGreatDoorRows
import Derived.Test.YtielicmjdhmcjaaGreatDoorPk50
import Derived.Test.YtielicmjdhmcjaaGreatDoorPk52
/- For every input, FnSessionPrefix returns true: sessions run line by line. No condition. -/
namespace Go.Proofs.YtielicmjdhmcjaaGreatDoor
open Go.ChangeShapes Go.WideShapes Go.ChangeAt Go.RowKit
namespace FnSessionPrefix

theorem pre (ls : List (List UInt8)) (k : Nat) (h : ls.length ≤ 20) : ∃ r, sessT ls = sessT (ls.take k) ++ r := by
  unfold sessT
  rw [List.take_of_length_le h, List.take_of_length_le (by rw [List.length_take]; omega)]
  refine ⟨runL (deskL desk0 (ls.take k)) (ls.drop k), ?_⟩
  rw [← runL_append, List.take_append_drop]
theorem sl_take {w : World} {a : Option Addr} {n k : Nat} {xs : List (List UInt8)} (h : Sl strL w a n xs) (hk : k ≤ n) : Sl strL w a k (xs.take k) := by
  refine ⟨by rw [List.length_take, h.len]; omega, Nat.le_trans hk h.big, fun h0 => ?_⟩
  obtain ⟨b, off, e, hlt, hc⟩ := h.mem (by omega)
  refine ⟨b, off, e, hlt, fun i x hx => hc i x ?_⟩
  have hi : i < k := by have := lt_of_at hx; rw [List.length_take] at this; omega
  rwa [List.getElem?_take_of_lt hi] at hx
set_option maxRecDepth 100000 in
set_option maxHeartbeats 2000000 in
theorem walk (a : Option Addr) (n cap : Nat) (xs : List Int) (w : World) (hm : Laid4 w) (hs : Sl u8L w a n xs) (hcap : n ≤ cap) (hx : ∀ x ∈ xs, 0 ≤ x ∧ x ≤ 255) :
    Calls Tryz.prog 4 #[.slice a n cap] w fun e w' => e = .returned (.bool true) ∧ w.grownBy w' none := by
  have Hx := hid hx
  have Hs := hid hs
  have Hm := hid hm
  have hbig := hs.big
  unfold maxLen at hbig
  clear hx hs hm
  by_cases hn : 1048576 < n
  · go_enter Tryz.func4, Tryz.ntmps4
    go_wp2_with fail
    go_ret
    exact ⟨rfl, gr_refl _ _⟩
  clear hbig
  go_enter Tryz.func4, Tryz.ntmps4
  go_wp2_with fail
  refine (DrawRunSession_any a n cap xs w Hs.out hcap Hx.out).mono ?_
  rintro e w1 ⟨g, m, c, ls, rfl, hO, hmc, hm1, hm10, hll, hg⟩
  have HO := hid hO
  have Hg1 := hid hg
  have Hll := hid (show ∀ x ∈ ls, x.length ≤ 2000000 from fun x h => by have := hll x h; omega)
  have hlen := hO.len
  have hq : (sessT ls != sessT ls) = false := by simp
  have hsz : (sessT ls).length ≤ 440 := by
    unfold sessT
    have := runL_le (ls.take 20) desk0
    rw [List.length_take] at this; omega
  clear hO hg hll
  go_wp2_with fail
  refine (RunSession_any (some ⟨g, 0, none⟩) m c ls w1 HO.out.sl (Hm.out.keep0 Hg1.out) Hll.out hmc (fun e => by cases e)).mono ?_
  rintro e w2 ⟨rfl, hg⟩
  have HO2 := hid (HO.out.keep0 hg)
  have Hg2 := hid (gr_trans0 Hg1.out hg)
  clear hg
  go_wp2_with fail
  refine (specRunSession_any (some ⟨g, 0, none⟩) m c ls w2 HO2.out.sl Hll.out).mono ?_
  rintro e w3 ⟨rfl, hg⟩
  have HO3 := hid (HO2.out.keep0 hg)
  have Hg3 := hid (gr_trans0 Hg2.out hg)
  clear hg
  go_wp2_with fail
  go_loopw [5] (fun i wr => ∃ k : Nat, k ≤ m ∧ i = .int .i64 k ∧ Hid (w3.grownBy wr none)) (fun i _ => m - (intOf i).toNat)
  case atStart => exact ⟨0, by omega, rfl, hid (gr_refl _ _)⟩
  case round =>
    obtain ⟨k, hk, rfl, HG⟩ := hrel
    by_cases hlt : k < m
    · have hd : decide (k < m) = true := by simpa using hlt
      obtain ⟨r, hr⟩ := pre ls k (by omega)
      have HR := hid (RunSession_any (some ⟨g, 0, none⟩) k c (ls.take k) wr (sl_take (HO3.out.keep0 HG.out).sl (by omega)) (Hm.out.keep0 (gr_trans0 Hg3.out HG.out)) (fun x h => Hll.out x (List.mem_of_mem_take h)) (by omega) (fun e => by cases e))
      generalize sessT (ls.take k) = p at *
      rw [hr] at hsz ⊢
      have hpl : p.length ≤ (p ++ r).length := by simp
      have hd2 : decide ((p ++ r).length < p.length) = false := by simp
      have hd3 : decide (((p ++ r).length : Int) < p.length) = false := by simp; omega
      have hT : ∀ w, (Instr.slice 9 (.string ⟨(p ++ r).toArray⟩) none (some (.int .i64 (p.length : Int))) none).run Tryz.prog w = .ok (.string ⟨(p).toArray⟩) w := fun w => by
        have := str_take w 9 (p ++ r) p.length hpl Tryz.underlying9
        rwa [List.take_left] at this
      have hpp : (p != p) = false := by simp
      generalize p ++ r = o at *
      go_wp2_with fail
      refine HR.out.mono ?_
      rintro e w4 ⟨rfl, hg⟩
      have HG4 := hid (gr_trans0 HG.out hg)
      clear hg
      go_wp2_with fail
      go_roundw
      case rel => exact ⟨k + 1, by omega, by go_num, HG4⟩
      case measure => simp [intOf]; omega
    · have hd : decide (k < m) = false := by simpa using hlt
      clear hlt
      go_wp2_with fail
      go_ret
      exact ⟨rfl, gr_trans0 Hg3.out HG.out⟩

set_option maxRecDepth 100000 in
theorem lifted (os : Os) (started : os.Started) (H : Type) (enc : TypeId × Value → H) :
    ReturnsInHanded {} Tryz.checked os 4 .any (fun w args => (Rows.fnSessionPrefixSpec.pre enc Tryz.prog Tryz.f4 Rows.fnSessionPrefixRow.domain false w args ∧ laidMetH Tryz.prog laidMonths w) ∧ sizedMet enc Tryz.prog Tryz.f4 (OpenSpec.ofChange Rows.fnSessionPrefixSpec) false w args) (Rows.fnSessionPrefixSpec.post enc Tryz.prog Tryz.f4 false true false false) := by
  refine returns_listed_shaped (C := Tryz.checked) (X := fun w _ => laidMetH Tryz.prog laidMonths w) (fun _ _ _ hh h => h.of_heap hh) Tryz.own started (by kernel_rfl) Tryz.func4
    (ChangeSpec.witness_shaped (enc := enc) (C := Tryz.checked) (os := os) (X := fun w _ => laidMetH Tryz.prog laidMonths w) false (World.laidAll Tryz.prog os laidMonths) #[.slice none 0 0] 8 (World.laidAll_os _ _ _) (laid_shaped os _) (by kernel_rfl) (by kernel_rfl) (by kernel_rfl) (door_met os _)) ?_
  intro W base args ds gs before hval0 hW hL hSh
  have hval : ∀ (j : Nat) t v, Tryz.f4.params[j]? = some t → args[j]? = some v → Value.okWide Tryz.prog W .any base t v := hval0
  have hW' := hW
  obtain ⟨p, q, hA0, hV, rfl, hfz, hnd⟩ := hW
  have hA : DataW.TrodAll enc Tryz.prog W 0 (fun _ => true) true Tryz.f4.params.toList args.toList ds p := hA0
  rw [Tryz.params4] at hA hval
  have hA2 := hA
  obtain ⟨v0, vs0, d0, ds0, p0, q0, hargs, rfl, rfl, h0, r0⟩ := trodAll_cons hA
  obtain ⟨rfl, rfl, rfl⟩ := trodAll_nil r0
  obtain rfl : args = #[v0] := by cases args; simp_all
  obtain ⟨g0, g1, rfl⟩ := vars_two hV
  have hlt : ∀ x ∈ (p0 ++ []) ++ q, x.block < W.heap.size := fun x hx => hW'.lt x hx
  obtain ⟨a0, n0, cap0, rfl⟩ := okWide_slice Tryz.underlying22 (hval 0 22 v0 rfl rfl)
  obtain ⟨fuel0, hf0⟩ := h0
  obtain ⟨xs0, hs0, hc0, hw0⟩ := sl_ints u8L (fun _ => rfl) rfl Tryz.underlying22 Tryz.underlying5 Tryz.cellsU8 hf0
  refine (walk a0 n0 cap0 xs0 W (months_of_laid hL hSh) hs0 hc0 (fun z hz => u8_range (hw0 z hz))).mono fun e W' ⟨he, hg⟩ => ?_
  subst he
  have hb := below_of_gr hg
  refine ⟨_, rfl, _, _, _, [], p0 ++ [], q, hW', ?_, ?_, vars_stay hb hV, hb.frame _, fun h => by cases h⟩
  · exact trodAll_mk1 (shut_bool Tryz.underlying4 _)
  · exact args_stay hb _ _ _ _ hA2 (fun x hx => hlt x (List.mem_append_left _ (by simpa using hx))) (by intro t ht; simp at ht; subst ht; exact ⟨by kernel_rfl, of_decide_eq_true (by kernel_rfl)⟩)

set_option maxRecDepth 100000 in
theorem closed : joinedFacts Tryz.pinned.checked.prog 4 Tryz.f4 Rows.fnSessionPrefixSpec Rows.fnSessionPrefixRow = true := by
  rw [joinedFacts, show Tryz.pinned.checked.prog.mayEnter = true from Tryz.enters, show Tryz.pinned.checked.prog.liftsFinal = false from Tryz.lifts, show Tryz.pinned.checked.prog.make = some .cut from Tryz.cut]
  kernel_rfl

theorem row_holds : Rows.FnSessionPrefixSaid :=
  OpenClaim.holds_of_wide 4 Tryz.f4 rfl rfl rfl rfl rfl rfl rfl ⟨rfl, rfl, rfl, rfl, rfl⟩ rfl rfl rfl rfl rfl (by kernel_rfl) Tryz.func4 closed
    (of_decide_eq_true (by kernel_rfl)) (by unfold Func.isWrapper; first | (rw [if_pos (by decide +kernel)]; kernel_rfl) | (rw [if_neg (by decide +kernel)]; exact ⟨rfl, rfl⟩))
    (fun os started H enc _ => lifted os started H enc)

theorem holds : Rows.FnSessionPrefixCardSaid :=
  Claim7.holds_tied_plain_at .later [] [.data, .data, .data, .data, .data, .sentinel, .pinned] true (true, "efa8652cb767d110e6de1ad6a8a63b60ce84089dc576426d00f0bc0cbc999c4b") false
    row_holds (fun _ h => by cases h) (by kernel_rfl) (fun _ h => by cases h) fnSessionPrefix_row_tie rfl ⟨rfl, rfl⟩ (by kernel_rfl) rfl
    (fun f fn hf hfn => by
      obtain rfl : f = 4 := Option.some.inj ((show Tryz.prog.funcNamed "loop.example/bonddesk/laws.FnSessionPrefix" = some 4 by kernel_rfl).symm.trans hf) |>.symm
      obtain rfl : fn = Tryz.f4 := (Option.some.inj (Tryz.func4.symm.trans hfn)).symm
      exact ⟨by kernel_rfl, fun j t ht => by
        rw [Tryz.params4] at ht
        have hm : t ∈ [22] := by simpa using Array.mem_of_getElem? ht
        have hall : ([22].all fun u => !Tryz.prog.wantsStandIn u) = true := by kernel_rfl
        exact (show Tryz.prog.wantsStandIn t = false by simpa using List.all_eq_true.1 hall t hm)⟩)
    (by kernel_rfl)
end FnSessionPrefix
end Go.Proofs.YtielicmjdhmcjaaGreatDoor
