/- Packed: FrameL, DateWalk. -/
import Derived.Test.YtielicmjdhmcjaaGreatDoorRows
import Derived.Test.YtielicmjdhmcjaaGreatDoorCards
import Derived.Test.YtielicmjdhmcjaaGreatDoorTie
import Derived.Test.YtielicmjdhmcjaaGreatDoorPk09
import Derived.ChangeVars
import Derived.LaidMore
import Derived.OpenShut
import Derived.Stop.Joined
import Derived.SevenTiedAt
import Derived.MakeChecks
import Derived.OpenVars
import Derived.Lay
import Derived.Shelf.Vars
import Derived.HandedShaped
import Derived.Lib.LaidTab
import Derived.Stop.LaidErr
import Derived.Lib.ItoaNum
import Derived.Test.YtielicmjdhmcjaaGreatDoorPk05
/- From a law's walk to its tied card: what the laws that read the table of months have in common. -/
namespace Go.Proofs.YtielicmjdhmcjaaGreatDoor
open Go.ChangeShapes Go.WideShapes Go.ChangeAt Go.RowKit

def months : List Int := [31, 28, 31, 30, 31, 30, 31, 31, 30, 31, 30, 31]
abbrev monthsVar : String := "loop.example/bonddesk/impl.monthDays"
abbrev errVar : String := "loop.example/bonddesk/impl.errRange"
abbrev powVar : String := "internal/strconv.uint64pow10"
abbrev laidMonths : List (String × DataW Unit) := [("math/bits.deBruijn32tab", Rows.laid_math_bits_deBruijn32tab), ("math/bits.deBruijn64tab", Rows.laid_math_bits_deBruijn64tab), (powVar, Rows.laid_internal_strconv_uint64pow10), ("unicode/utf8.acceptRanges", Rows.laid_unicode_utf8_acceptRanges), (monthsVar, Rows.laid_loop_example_bonddesk_impl_monthDays), (errVar, Rows.laid_loop_example_bonddesk_impl_errRange), ("unicode/utf8.first", Rows.laid_unicode_utf8_first)]
abbrev laidVars : List String := [monthsVar, errVar]

theorem Tryz.gMonths : Tryz.prog.globalNamed monthsVar = some 1 := by kernel_rfl
theorem Tryz.tMonths : (Tryz.prog.globals[1]?).map (·.type) = some 153 := by kernel_rfl
theorem Tryz.gPow : Tryz.prog.globalNamed powVar = some 3 := by kernel_rfl
theorem Tryz.tPow : (Tryz.prog.globals[3]?).map (·.type) = some 172 := by kernel_rfl

structure Months (w : World) : Prop where
  cell : ∀ k v, months[k]? = some v → w.cell? ⟨1, k, none⟩ = some (.int .i64 v)
structure Laid4 (w : World) : Prop where
  mo : Months w
  tab : Lib.TabIs Tryz.prog w powVar .u64 Lib.pow10Tab
  mx : ∃ m, w.cell? ⟨0, 0, none⟩ = some (.int .i64 m)

theorem tab_keep {w w' : World} {r : Option Nat} (h : Lib.TabIs Tryz.prog w powVar .u64 Lib.pow10Tab) (g : w.grownBy w' r) (hr : r ≠ some 3) : Lib.TabIs Tryz.prog w' powVar .u64 Lib.pow10Tab := by
  unfold Lib.TabIs World.var? at *
  rw [Tryz.gPow] at *
  simp only [Option.bind_some] at *
  have hlt : 3 < w.heap.size := by
    by_cases hlt : 3 < w.heap.size
    · exact hlt
    · rw [Array.getElem?_eq_none (by omega)] at h; simp at h
  rw [g.block _ hlt (fun e => hr e.symm)]
  exact h
theorem Months.keep {w w' : World} {r : Option Nat} (h : Months w) (g : w.grownBy w' r) (hr : r ≠ some 1) : Months w' :=
  ⟨fun k v hk => g.cell (h.cell k v hk) (fun e => hr e.symm)⟩
theorem Months.keep0 {w w' : World} (h : Months w) (g : w.grownBy w' none) : Months w' := h.keep g (by simp)
theorem Laid4.keep0 {w w' : World} (h : Laid4 w) (g : w.grownBy w' none) : Laid4 w' := ⟨h.mo.keep0 g, tab_keep h.tab g (by simp), h.mx.elim fun m hm => ⟨m, g.cell hm (by simp)⟩⟩

theorem months_of_laid {W : World} (h : laidMetH Tryz.prog laidMonths W) (hsh : W.ShapedOpen Tryz.prog) : Laid4 W := by
  rw [MakeChecks.laidMetH_plain _ _ _ (by kernel_rfl)] at h
  have h2 := laidMet.tail (laidMet.tail h)
  have h3 := laidMet.tail (laidMet.tail h2)
  have tp : Lib.TabIs Tryz.prog W powVar .u64 Lib.pow10Tab := Lib.tabIs_of_head Tryz.gPow Tryz.tPow Tryz.underlying172 Tryz.underlying155 (by kernel_rfl) (by kernel_rfl) (show laidMet Tryz.prog ((powVar, Lib.tabData .u64 Lib.pow10Tab) :: _) W from h2)
  have tm : Lib.TabIs Tryz.prog W monthsVar .i64 months := Lib.tabIs_of_head Tryz.gMonths Tryz.tMonths Tryz.underlying153 Tryz.underlying3 (by kernel_rfl) (by kernel_rfl) (show laidMet Tryz.prog ((monthsVar, Lib.tabData .i64 months) :: _) W from h3)
  refine ⟨⟨fun k v hk => ?_⟩, tp, cell_of_shapedOpen_int (P := Tryz.prog) (g := 0) (t := 3) (zero := #[.int .i64 0]) hsh (of_decide_eq_true (by kernel_rfl)) (by kernel_rfl) rfl (by kernel_rfl) (by kernel_rfl) Tryz.underlying3⟩
  have hk12 := lt_of_at hk
  have := tm.cell Tryz.gMonths k hk12
  rw [this]
  simp only [List.getD_eq_getElem?_getD, hk, Option.getD_some]

theorem vars_stay {H : Type} {enc : TypeId × Value → H} {W W' : World} (hb : Below W.heap.size W W') {gs : List (DataW H)} {q : List MemPlace}
    (hV : DataW.TrodVars enc Tryz.prog W (fun _ => true) laidVars gs q) :
    DataW.TrodVars enc Tryz.prog W' (fun b => decide (b < W.heap.size)) laidVars gs q := by
  exact Below.trodVars Tryz.laidOut hb (by kernel_rfl) hV

theorem laid_shaped (os : Os) (args : Array Value) : ((World.laidAll Tryz.prog os laidMonths).forCall (fun _ _ => 0) ⟨#[], args, []⟩).Shaped Tryz.prog := World.shaped_of_ZipB (by kernel_rfl) (by kernel_rfl)
theorem door_met (os : Os) (args : Array Value) : laidMetH Tryz.prog laidMonths ((World.laidAll Tryz.prog os laidMonths).forCall (fun _ _ => 0) ⟨#[], args, []⟩).memory := by
  rw [MakeChecks.laidMetH_plain _ _ _ (by kernel_rfl)]; exact laidMet_laidAll _ (by kernel_rfl) (by kernel_rfl)

theorem vars_two {H : Type} {enc : TypeId × Value → H} {P : Program} {w : World} {spare : Nat → Bool} {v u : String} {gs : List (DataW H)} {ps : List MemPlace} (h : DataW.TrodVars enc P w spare [v, u] gs ps) : ∃ g g', gs = [g, g'] := by
  match gs, h with
  | [g, g'], _ => exact ⟨g, g', rfl⟩
  | [], h => exact absurd h (by simp [DataW.TrodVars])
  | [_], ⟨_, _, _, _, _, _, _, _, _, _, h, _⟩ => exact absurd h (by simp [DataW.TrodVars])
  | _ :: _ :: g :: gs, ⟨_, _, _, _, _, _, _, _, _, _, ⟨_, _, _, _, _, _, _, _, _, _, h, _⟩, _⟩ => exact absurd h (by simp [DataW.TrodVars])

theorem returns_listed_shaped {H : Type} {enc : TypeId × Value → H} {a : Assume} {C : Checked} {os : Os} {f : FuncId} {fn : Func} {s : ChangeSpec} {conds : List PathCond} {apart fresh handsOn again : Bool} {X : World → Array Value → Prop}
    (hX : ∀ (w w' : World) (args : Array Value), w.heap = w'.heap → X w args → X w' args)
    (own : ownKnob C.prog.godebug = none) (started : os.Started) (noInit : C.prog.inits.idxOf? f = none) (hfn : C.prog.funcs[f]? = some fn)
    (witness : ∃ (w : World) (tape : Tape) (i : Input), w.os = os ∧ (w.forCall tape i).Shaped C.prog ∧ i.vars = [] ∧ Input.okWide C.prog (w.forCall tape i) .any w.heap.size f i ∧
      ((s.pre enc C.prog fn conds apart (w.forCall tape i).memory i.args ∧ X (w.forCall tape i).memory i.args) ∧ sizedMet enc C.prog fn (OpenSpec.ofChange s) apart (w.forCall tape i).memory i.args) ∧ a.holds C.prog (lone (Frame.enter C.prog f i.args .normal) [] (w.forCall tape i)))
    (contract : ∀ (W : World) (base : Nat) (args : Array Value) (ds gs : List (DataW H)) (before : List MemPlace),
      (∀ (j : Nat) t v, fn.params[j]? = some t → args[j]? = some v → Value.okWide C.prog W .any base t v) →
      DataW.Whole enc C.prog fn.params.toList s.vars apart W args.toList ds gs before → X W args → W.ShapedOpen C.prog →
      Calls C.prog f args W fun e W' => ∃ v, e = .returned v ∧ s.post enc C.prog fn apart fresh handsOn again W args v W') :
    ReturnsInHanded a C os f .any (fun w args => (s.pre enc C.prog fn conds apart w args ∧ X w args) ∧ sizedMet enc C.prog fn (OpenSpec.ofChange s) apart w args) (s.post enc C.prog fn apart fresh handsOn again) := by
  refine returnsInHanded_of_calls own started noInit witness fun w tape i _ hsh _ hok hpre _ => ?_
  obtain ⟨_, _, _, fn', hfn', _, _, _, _, hval⟩ := hok
  obtain rfl : fn' = fn := Option.some.inj (hfn'.symm.trans hfn)
  obtain ⟨⟨⟨ds, gs, before, hw, _⟩, hx⟩, _⟩ := hpre
  refine (contract (w.forCall tape i) w.heap.size i.args ds gs before hval (DataW.Whole.of_heap (w' := w.forCall tape i) (by rfl) hw) (hX _ _ _ (by rfl) hx) hsh).mono ?_
  rintro e W' ⟨v, rfl, hp⟩
  exact ChangeSpec.post_blind hp
end Go.Proofs.YtielicmjdhmcjaaGreatDoor

/- Leap years, months' days, numbers of dates, dates of numbers, months added: the program and the reference, walked. -/
namespace Go.Proofs.YtielicmjdhmcjaaGreatDoor
open Go.RowKit

theorem leap_any (y : Int) (w : World) (h0 : 0 ≤ y) (h1 : y ≤ 100000) :
    Calls Tryz.prog 150 #[.int .i64 y] w fun e w' => e = .returned (.bool (leapB y)) ∧ w = w' := by
  have Hl := hid (show leapB y = ((y % 4 == 0) && ((y % 100 != 0) || (y % 400 == 0))) from rfl)
  by_cases h4 : y % 4 = 0
  · have b4 : (y % 4 == 0) = true := by simpa using h4
    by_cases h5 : y % 100 = 0
    · have b5 : (y % 100 != 0) = false := by simpa using h5
      have b5' : (y % 100 == 0) = true := by simpa using h5
      have HL : Hid (leapB y = (y % 400 == 0)) := hid (by rw [Hl.out, b4, b5]; simp)
      clear h4 h5
      go_enter Tryz.func150, Tryz.ntmps150
      go_wp2
      go_ret
      exact ⟨ret_bool HL.out.symm, rfl⟩
    · have b5 : (y % 100 != 0) = true := by simpa using h5
      have HL : Hid (leapB y = true) := hid (by rw [Hl.out, b4, b5]; rfl)
      clear h4 h5
      go_enter Tryz.func150, Tryz.ntmps150
      go_wp2
      go_ret
      exact ⟨ret_bool HL.out.symm, rfl⟩
  · have b4 : (y % 4 == 0) = false := by simpa using h4
    have HL : Hid (leapB y = false) := hid (by rw [Hl.out, b4]; rfl)
    clear h4
    go_enter Tryz.func150, Tryz.ntmps150
    go_wp2
    go_ret
    exact ⟨ret_bool HL.out.symm, rfl⟩

theorem specleap_any (y : Int) (w : World) (h0 : 0 ≤ y) (h1 : y ≤ 100000) :
    Calls Tryz.prog 144 #[.int .i64 y] w fun e w' => e = .returned (.bool (leapB y)) ∧ w = w' := by
  have Hl := hid (show leapB y = ((y % 4 == 0) && ((y % 100 != 0) || (y % 400 == 0))) from rfl)
  by_cases h4 : y % 4 = 0
  · have b4 : (y % 4 == 0) = true := by simpa using h4
    by_cases h5 : y % 100 = 0
    · have b5 : (y % 100 != 0) = false := by simpa using h5
      have b5' : (y % 100 == 0) = true := by simpa using h5
      have HL : Hid (leapB y = (y % 400 == 0)) := hid (by rw [Hl.out, b4, b5]; simp)
      clear h4 h5
      go_enter Tryz.func144, Tryz.ntmps144
      go_wp2
      go_ret
      exact ⟨ret_bool HL.out.symm, rfl⟩
    · have b5 : (y % 100 != 0) = true := by simpa using h5
      have HL : Hid (leapB y = true) := hid (by rw [Hl.out, b4, b5]; rfl)
      clear h4 h5
      go_enter Tryz.func144, Tryz.ntmps144
      go_wp2
      go_ret
      exact ⟨ret_bool HL.out.symm, rfl⟩
  · have b4 : (y % 4 == 0) = false := by simpa using h4
    have HL : Hid (leapB y = false) := hid (by rw [Hl.out, b4]; rfl)
    clear h4
    go_enter Tryz.func144, Tryz.ntmps144
    go_wp2
    go_ret
    exact ⟨ret_bool HL.out.symm, rfl⟩


theorem yearDays_any (y : Int) (w : World) (h0 : 0 ≤ y) (h1 : y ≤ 100000) :
    Calls Tryz.prog 115 #[.int .i64 y] w fun e w' => e = .returned (.int .i64 (yd y)) ∧ w = w' := by
  cases hl : leapB y with
  | true =>
    have H := hid (show yd y = 366 by unfold yd lp; rw [hl]; rfl)
    go_enter Tryz.func115, Tryz.ntmps115
    go_wp2_with fail
    refine (leap_any y w h0 h1).mono ?_
    rintro e w' ⟨rfl, rfl⟩
    rw [hl]
    go_wp2
    go_ret
    exact ⟨ret_int H.out.symm, rfl⟩
  | false =>
    have H := hid (show yd y = 365 by unfold yd lp; rw [hl]; rfl)
    go_enter Tryz.func115, Tryz.ntmps115
    go_wp2_with fail
    refine (leap_any y w h0 h1).mono ?_
    rintro e w' ⟨rfl, rfl⟩
    rw [hl]
    go_wp2
    go_ret
    exact ⟨ret_int H.out.symm, rfl⟩

theorem toInt_any (b : Bool) (w : World) : Calls Tryz.prog 143 #[.bool b] w fun e w' => e = .returned (.int .i64 (if b = true then 1 else 0)) ∧ w = w' := by
  cases b
  · go_enter Tryz.func143, Tryz.ntmps143
    go_wp2
    go_ret
    exact ⟨rfl, rfl⟩
  · go_enter Tryz.func143, Tryz.ntmps143
    go_wp2
    go_ret
    exact ⟨rfl, rfl⟩

theorem specyearDays_any (y : Int) (w : World) (h0 : 0 ≤ y) (h1 : y ≤ 100000) :
    Calls Tryz.prog 98 #[.int .i64 y] w fun e w' => e = .returned (.int .i64 (yd y)) ∧ w = w' := by
  have hb := lp_01 y
  have H := hid (show yd y = 365 + lp y from rfl)
  go_enter Tryz.func98, Tryz.ntmps98
  go_wp2_with fail
  refine (specleap_any y w h0 h1).mono ?_
  rintro e w' ⟨rfl, rfl⟩
  go_wp2_with fail
  refine (toInt_any _ w).mono ?_
  rintro e w' ⟨rfl, rfl⟩
  have e1 : (if leapB y = true then (1 : Int) else 0) = lp y := rfl
  rw [e1]
  clear e1
  generalize hlp : lp y = l at *
  have Hlp := hid hlp; clear hlp
  go_wp2
  go_ret
  exact ⟨ret_int H.out.symm, rfl⟩

theorem months_at (y : Int) (k : Nat) (hk : k < 12) (h : ¬ (k = 1 ∧ leapB y = true)) : months[k]? = some (dim y (k + 1)) := by
  have h1 : k = 0 ∨ k = 1 ∨ k = 2 ∨ k = 3 ∨ k = 4 ∨ k = 5 ∨ k = 6 ∨ k = 7 ∨ k = 8 ∨ k = 9 ∨ k = 10 ∨ k = 11 := by omega
  rcases h1 with rfl | rfl | rfl | rfl | rfl | rfl | rfl | rfl | rfl | rfl | rfl | rfl
  case inr.inl =>
    have : leapB y = false := by
      cases hl : leapB y with
      | false => rfl
      | true => exact absurd ⟨rfl, hl⟩ h
    unfold dim lp; rw [this]; rfl
  all_goals rfl

set_option maxRecDepth 100000 in
theorem daysIn_any (y m : Int) (w : World) (hw : Months w) (h0 : 0 ≤ y) (h1 : y ≤ 100000) (hm0 : 1 ≤ m) (hm1 : m ≤ 12) :
    Calls Tryz.prog 116 #[.int .i64 y, .int .i64 m] w fun e w' => e = .returned (.int .i64 (dim y m)) ∧ w = w' := by
  obtain ⟨k, rfl⟩ : ∃ k : Nat, m = (k : Int) + 1 := ⟨(m - 1).toNat, by omega⟩
  have hk : k < 12 := by omega
  by_cases h2 : k = 1
  · subst h2
    cases hl : leapB y with
    | true =>
      have H := hid (show dim y (((1 : Nat) : Int) + 1) = 29 by unfold dim lp; rw [hl]; rfl)
      have b2 : ((((1 : Nat) : Int) + 1) == 2) = true := rfl
      go_enter Tryz.func116, Tryz.ntmps116
      go_wp2_with fail
      refine (leap_any y w h0 h1).mono ?_
      rintro e w' ⟨rfl, rfl⟩
      rw [hl]
      go_wp2
      go_ret
      exact ⟨ret_int H.out.symm, rfl⟩
    | false =>
      have hc := hw.cell 1 _ (months_at y 1 (by omega) (by rw [hl]; simp))
      have H := hid (show dim y (((1 : Nat) : Int) + 1) = 28 by unfold dim lp; rw [hl]; rfl)
      rw [H.out] at hc
      go_enter Tryz.func116, Tryz.ntmps116
      go_wp2_with fail
      refine (leap_any y w h0 h1).mono ?_
      rintro e w' ⟨rfl, rfl⟩
      rw [hl]
      go_wp2
      go_ret
      exact ⟨ret_int H.out.symm, rfl⟩
  · have hc := hw.cell k _ (months_at y k hk (by omega))
    have b2 : ((k : Int) + 1 == 2) = false := by simp; omega
    have hb := dim_bd y ((k : Int) + 1)
    generalize hdm : dim y ((k : Int) + 1) = dm at *
    have Hdm := hid hdm; clear hdm h2
    go_enter Tryz.func116, Tryz.ntmps116
    go_wp2
    go_ret
    exact ⟨rfl, rfl⟩

def monthCells : Array Value := #[.int .i64 31, .int .i64 28, .int .i64 31, .int .i64 30, .int .i64 31, .int .i64 30, .int .i64 31, .int .i64 31, .int .i64 30, .int .i64 31, .int .i64 30, .int .i64 31]
theorem monthCells_at (k : Nat) (v : Int) (h : months[k]? = some v) : monthCells[k]? = some (.int .i64 v) := by
  have e : monthCells = (months.map (Value.int .i64)).toArray := rfl
  rw [e, List.getElem?_toArray, List.getElem?_map, h]; rfl
theorem monthCells_cell (w : World) (t : TypeId) (k : Nat) (v : Int) (h : months[k]? = some v) : (w.alloc (.cells monthCells t)).cell? ⟨w.heap.size, k, none⟩ = some (.int .i64 v) :=
  blk_cell (heap_alloc_new w _) k _ (monthCells_at k v h)

set_option maxRecDepth 100000 in
theorem specdaysIn_any (y m : Int) (w : World) (h0 : 0 ≤ y) (h1 : y ≤ 100000) (hm0 : 1 ≤ m) (hm1 : m ≤ 12) :
    Calls Tryz.prog 99 #[.int .i64 y, .int .i64 m] w fun e w' => e = .returned (.int .i64 (dim y m)) ∧ w.grownBy w' none := by
  obtain ⟨k, rfl⟩ : ∃ k : Nat, m = (k : Int) + 1 := ⟨(m - 1).toNat, by omega⟩
  have hk : k < 12 := by omega
  by_cases h2 : k = 1
  · subst h2
    cases hl : leapB y with
    | true =>
      have H := hid (show dim y (((1 : Nat) : Int) + 1) = 29 by unfold dim lp; rw [hl]; rfl)
      have b2 : ((((1 : Nat) : Int) + 1) == 2) = true := rfl
      go_enter Tryz.func99, Tryz.ntmps99
      go_wp2_with fail
      refine (specleap_any y w h0 h1).mono ?_
      rintro e w' ⟨rfl, rfl⟩
      rw [hl]
      go_wp2
      go_ret
      exact ⟨ret_int H.out.symm, gr_refl _ _⟩
    | false =>
      have hc := monthCells_cell w 66 1 _ (months_at y 1 (by omega) (by rw [hl]; simp))
      have H := hid (show dim y (((1 : Nat) : Int) + 1) = 28 by unfold dim lp; rw [hl]; rfl)
      rw [H.out] at hc
      go_enter Tryz.func99, Tryz.ntmps99
      go_wp2_with fail
      refine (specleap_any y w h0 h1).mono ?_
      rintro e w' ⟨rfl, rfl⟩
      rw [hl]
      go_wp2
      go_ret
      exact ⟨ret_int H.out.symm, gr_alloc (gr0 _) _⟩
  · have hc := fun t => monthCells_cell w t k _ (months_at y k hk (by omega))
    unfold monthCells at hc
    have b2 : ((k : Int) + 1 == 2) = false := by simp; omega
    have hb := dim_bd y ((k : Int) + 1)
    generalize hdm : dim y ((k : Int) + 1) = dm at *
    have Hdm := hid hdm; clear hdm h2
    go_enter Tryz.func99, Tryz.ntmps99
    go_wp2
    go_ret
    exact ⟨rfl, gr_alloc (gr0 _) _⟩

theorem dby_bd (y : Int) (h1 : 1990 ≤ y) (h2 : y ≤ 2090) : 0 ≤ dby y ∧ dby y ≤ 36525 := by
  have a := dby_mono 1990 y h1
  have b := dby_mono y 2090 h2
  rw [dby_start] at a
  rw [dby_end] at b
  exact ⟨a, b⟩
theorem cum_bd (y m : Int) (h1 : 1 ≤ m) (h2 : m ≤ 13) : 0 ≤ cum y m ∧ cum y m ≤ 366 := by
  have a := cum_mono y 1 m (by omega) h1 h2
  have b := cum_mono y m 13 h1 h2 (by omega)
  rw [cum_start] at a
  rw [cum_end] at b
  have := yd_bd y
  omega

set_option maxRecDepth 100000 in
set_option maxHeartbeats 400000 in
theorem number_any (y m d : Int) (w : World) (hw : Months w) (h : ValidYMD y m d) :
    Calls Tryz.prog 79 #[.agg #[.int .i64 y, .int .i64 m, .int .i64 d]] w fun e w' => e = .returned (.int .i64 (numF y m d)) ∧ w.grownBy w' none := by
  obtain ⟨⟨hy0, hy1⟩, ⟨hm0, hm1⟩, hd0, hd1⟩ := h
  have hdb := dim_bd y m
  have hd31 : d ≤ 31 := by omega
  have Hfin := hid (show numF y m d = d - 1 + dby y + cum y m by unfold numF; omega)
  have hw2 := hid (hw.keep0 (gr_alloc (gr0 w) (Obj.cells #[.int .i64 y, .int .i64 m, .int .i64 d] 81)))
  clear hw hdb hd1
  go_enter Tryz.func79, Tryz.ntmps79
  go_wp2_with fail
  go_loop [3, 4] (fun n i => ∃ x : Int, 1990 ≤ x ∧ x ≤ y ∧ i = .int .i64 x ∧ n = .int .i64 (d - 1 + dby x)) (fun _ i => (y - intOf i).toNat)
  case atStart => exact ⟨1990, by omega, by omega, rfl, by rw [dby_start]; go_num⟩
  case round =>
    obtain ⟨x, hx0, hx1, rfl, rfl⟩ := hrel
    have hb := dby_bd x hx0 (by omega)
    by_cases hlt : x < y
    · have hs := dby_succ x hx0 (by omega)
      have Hs := hid hs; clear hs
      have hyb := yd_bd x
      generalize dby x = dx at *
      go_wp2_with fail
      refine (yearDays_any x _ (by omega) (by omega)).mono ?_
      rintro e w' ⟨rfl, rfl⟩
      generalize hyd : yd x = yx at *
      have Hyd := hid hyd; clear hyd
      go_wp2_with fail
      go_round
      case rel => exact ⟨x + 1, by omega, by omega, rfl, by rw [Hs.out]; congr 1; omega⟩
      case measure => simp [intOf]; omega
    · obtain rfl : x = y := by omega
      have Hcs : Hid (∀ z : Int, 1 ≤ z → z ≤ 12 → cum x (z + 1) = cum x z + dim x z) := hid (fun z a b => cum_succ x z a b)
      generalize hdx : dby x = dx at *
      have Hdx := hid hdx; clear hdx
      go_wp2_with fail
      go_loop [3, 5] (fun n i => ∃ z : Int, 1 ≤ z ∧ z ≤ m ∧ i = .int .i64 z ∧ n = .int .i64 (d - 1 + dx + cum x z)) (fun _ i => (m - intOf i).toNat)
      case atStart => exact ⟨1, by omega, by omega, rfl, by rw [cum_start]; go_num⟩
      case round =>
        obtain ⟨z, hz0, hz1, rfl, rfl⟩ := hrel
        have hcb := cum_bd x z hz0 (by omega)
        by_cases hlt2 : z < m
        · have Hs := hid (Hcs.out z hz0 (by omega))
          have hdb := dim_bd x z
          generalize cum x z = cx at *
          go_wp2_with fail
          refine (daysIn_any x z _ hw2.out (by omega) (by omega) (by omega) (by omega)).mono ?_
          rintro e w' ⟨rfl, rfl⟩
          generalize hdz : dim x z = dz at *
          have Hdz := hid hdz; clear hdz
          go_wp2_with fail
          go_round
          case rel => exact ⟨z + 1, by omega, by omega, rfl, by rw [Hs.out]; congr 1; omega⟩
          case measure => simp [intOf]; omega
        · obtain rfl : z = m := by omega
          go_wp2_with fail
          go_ret
          exact ⟨ret_int (by rw [Hfin.out]), gr_alloc (gr0 _) _⟩

set_option maxRecDepth 100000 in
set_option maxHeartbeats 400000 in
theorem specdayOf_any (y m d : Int) (w : World) (h : ValidYMD y m d) :
    Calls Tryz.prog 62 #[.agg #[.int .i64 y, .int .i64 m, .int .i64 d]] w fun e w' => e = .returned (.int .i64 (numF y m d)) ∧ w.grownBy w' none := by
  obtain ⟨⟨hy0, hy1⟩, ⟨hm0, hm1⟩, hd0, hd1⟩ := h
  have hdb := dim_bd y m
  have hd31 : d ≤ 31 := by omega
  have Hfin := hid (show numF y m d = d - 1 + dby y + cum y m by unfold numF; omega)
  clear hdb hd1
  go_enter Tryz.func62, Tryz.ntmps62
  go_wp2_with fail
  go_loop [3, 4] (fun n i => ∃ x : Int, 1990 ≤ x ∧ x ≤ y ∧ i = .int .i64 x ∧ n = .int .i64 (d - 1 + dby x)) (fun _ i => (y - intOf i).toNat)
  case atStart => exact ⟨1990, by omega, by omega, rfl, by rw [dby_start]; go_num⟩
  case round =>
    obtain ⟨x, hx0, hx1, rfl, rfl⟩ := hrel
    have hb := dby_bd x hx0 (by omega)
    by_cases hlt : x < y
    · have hs := dby_succ x hx0 (by omega)
      have Hs := hid hs; clear hs
      have hyb := yd_bd x
      generalize dby x = dx at *
      go_wp2_with fail
      refine (specyearDays_any x _ (by omega) (by omega)).mono ?_
      rintro e w' ⟨rfl, rfl⟩
      generalize hyd : yd x = yx at *
      have Hyd := hid hyd; clear hyd
      go_wp2_with fail
      go_round
      case rel => exact ⟨x + 1, by omega, by omega, rfl, by rw [Hs.out]; congr 1; omega⟩
      case measure => simp [intOf]; omega
    · obtain rfl : x = y := by omega
      have Hcs : Hid (∀ z : Int, 1 ≤ z → z ≤ 12 → cum x (z + 1) = cum x z + dim x z) := hid (fun z a b => cum_succ x z a b)
      generalize hdx : dby x = dx at *
      have Hdx := hid hdx; clear hdx
      have hblk : (w.alloc (Obj.cells #[.int .i64 x, .int .i64 m, .int .i64 d] 81)).heap[w.heap.size]? = some (.cells #[.int .i64 x, .int .i64 m, .int .i64 d] 81 (0, 0)) := heap_alloc_new _ _
      have hgw : w.grownBy (w.alloc (Obj.cells #[.int .i64 x, .int .i64 m, .int .i64 d] 81)) none := gr_alloc (gr0 _) _
      generalize (w.alloc (Obj.cells #[.int .i64 x, .int .i64 m, .int .i64 d] 81)) = W at *
      have c00 := blk_cell hblk 0 _ rfl
      have Hblk := hid hblk; clear hblk
      have HgW := hid hgw; clear hgw
      go_wp2_with fail
      clear c00
      go_loopw [3, 5] (fun n i wr => ∃ z : Int, 1 ≤ z ∧ z ≤ m ∧ i = .int .i64 z ∧ n = .int .i64 (d - 1 + dx + cum x z) ∧ W.grownBy wr none) (fun _ i _ => (m - intOf i).toNat)
      case atStart => exact ⟨1, by omega, by omega, rfl, by rw [cum_start]; go_num, gr0 _⟩
      case round =>
        obtain ⟨z, hz0, hz1, rfl, rfl, hg⟩ := hrel
        have hcb := cum_bd x z hz0 (by omega)
        have hblk := blk_keep Hblk.out hg (by simp)
        have c0 := blk_cell hblk 0 _ rfl
        have c1 := blk_cell hblk 1 _ rfl
        have Hg := hid hg; clear hg hblk
        by_cases hlt2 : z < m
        · have Hs := hid (Hcs.out z hz0 (by omega))
          have hdb := dim_bd x z
          generalize cum x z = cx at *
          go_wp2_with fail
          refine (specdaysIn_any x z _ (by omega) (by omega) (by omega) (by omega)).mono ?_
          rintro e w' ⟨rfl, hg'⟩
          generalize hdz : dim x z = dz at *
          have Hdz := hid hdz; clear hdz
          have Hg' := hid (gr_trans0 Hg.out hg'); clear hg'
          go_wp2_with fail
          go_roundw
          case rel => exact ⟨z + 1, by omega, by omega, rfl, by rw [Hs.out]; congr 1; omega, Hg'.out⟩
          case measure => simp [intOf]; omega
        · obtain rfl : z = m := by omega
          go_wp2_with fail
          go_ret
          exact ⟨ret_int (by rw [Hfin.out]), gr_trans0 HgW.out Hg.out⟩

theorem yF_lt (n y : Int) (h1 : 1990 ≤ y) (_h2 : y ≤ 2089) (h3 : n ≤ 36524) (h : dby y + yd y ≤ n) : y < 2089 ∧ dby (y + 1) ≤ n := by
  have hs := dby_succ y h1 _h2
  refine ⟨?_, by omega⟩
  by_cases he : y = 2089
  · subst he
    have := dby_end
    rw [show (2089 : Int) + 1 = 2090 by omega, this] at hs
    omega
  · omega
theorem mF_lt (y r m : Int) (h1 : 1 ≤ m) (h2 : m ≤ 12) (h3 : r < yd y) (h : cum y m + dim y m ≤ r) : m < 12 ∧ cum y (m + 1) ≤ r := by
  have hs := cum_succ y m h1 h2
  refine ⟨?_, by omega⟩
  by_cases he : m = 12
  · subst he
    have := cum_end y
    rw [show (12 : Int) + 1 = 13 by omega, this] at hs
    omega
  · omega

set_option maxRecDepth 100000 in
set_option maxHeartbeats 1000000 in
theorem dateOf_any (n : Int) (w : World) (hw : Months w) (h0 : 0 ≤ n) (h1 : n ≤ 36524) :
    Calls Tryz.prog 111 #[.int .i64 n] w fun e w' => e = .returned (.agg #[.int .i64 (yF n), .int .i64 (mF n), .int .i64 (dF n)]) ∧ w.grownBy w' none := by
  have Hw := hid hw; clear hw
  go_enter Tryz.func111, Tryz.ntmps111
  go_wp2_with fail
  have hbR : ((w.alloc (Obj.cells #[.int .i64 0, .int .i64 0, .int .i64 0] 81)).alloc (Obj.cells #[.int .i64 1990, .int .i64 1, .int .i64 0] 81)).heap[w.heap.size]? = some (.cells #[.int .i64 0, .int .i64 0, .int .i64 0] 81 (0, 0)) := blk_alloc (heap_alloc_new _ _) _
  have hbD : ((w.alloc (Obj.cells #[.int .i64 0, .int .i64 0, .int .i64 0] 81)).alloc (Obj.cells #[.int .i64 1990, .int .i64 1, .int .i64 0] 81)).heap[w.heap.size + 1]? = some (.cells #[.int .i64 1990, .int .i64 1, .int .i64 0] 81 (0, 0)) := by
    have := heap_alloc_new (w.alloc (Obj.cells #[.int .i64 0, .int .i64 0, .int .i64 0] 81)) (Obj.cells #[.int .i64 1990, .int .i64 1, .int .i64 0] 81)
    simpa using this
  have hgW : w.grownBy ((w.alloc (Obj.cells #[.int .i64 0, .int .i64 0, .int .i64 0] 81)).alloc (Obj.cells #[.int .i64 1990, .int .i64 1, .int .i64 0] 81)) none := gr_alloc (gr_alloc (gr0 _) _) _
  generalize ((w.alloc (Obj.cells #[.int .i64 0, .int .i64 0, .int .i64 0] 81)).alloc (Obj.cells #[.int .i64 1990, .int .i64 1, .int .i64 0] 81)) = W at *
  have HbR := hid hbR; have HbD := hid hbD; have HgW := hid hgW
  clear hbR hbD hgW
  go_loopw [0] (fun v wr => ∃ y : Int, 1990 ≤ y ∧ y ≤ 2089 ∧ dby y ≤ n ∧ v = .int .i64 (n - dby y) ∧ Hid (wr.heap[w.heap.size]? = some (.cells #[.int .i64 0, .int .i64 0, .int .i64 0] 81 (0, 0))) ∧ Hid (wr.heap[w.heap.size + 1]? = some (.cells #[.int .i64 y, .int .i64 1, .int .i64 0] 81 (0, 0))) ∧ w.grownBy wr none) (fun v _ => (intOf v).toNat)
  case atStart => exact ⟨1990, by omega, by omega, by rw [dby_start]; omega, by rw [dby_start]; go_num, HbR, HbD, HgW.out⟩
  case round =>
    clear HbR HbD HgW
    obtain ⟨y, hy0, hy1, hyn, rfl, HbR, HbD, hg⟩ := hrel
    have hb := dby_bd y hy0 (by omega)
    have hyb := yd_bd y
    have hmo := Hw.out.keep0 hg
    have c0 := blk_cell HbD.out 0 _ rfl
    have c1 := blk_cell HbD.out 1 _ rfl
    have f0 := blk_frozen HbD.out 0
    by_cases hlt : yd y ≤ n - dby y
    · obtain ⟨q1, q2⟩ := yF_lt n y hy0 hy1 h1 (by omega)
      have Hs := hid (dby_succ y hy0 hy1)
      have Hg := hid hg; have Hmo := hid hmo
      have Hyd : Hid (dby (y + 1) ≤ n) := hid q2
      clear hg hmo q2
      generalize dby y = dy at *
      generalize hyd : yd y = yx at *
      have Hyx := hid hyd; clear hyd
      have HY := hid (yearDays_any y wr (by omega) (by omega))
      rw [Hyx.out] at HY
      go_wp2_with fail
      refine HY.out.mono ?_
      rintro e w' ⟨rfl, rfl⟩
      go_wp2_with fail
      refine HY.out.mono ?_
      rintro e w' ⟨rfl, rfl⟩
      go_wp2_with fail
      go_roundw
      case rel => exact ⟨y + 1, by omega, by omega, Hyd.out, by rw [Hs.out]; congr 1; omega, hid (blk_set_other HbR.out _ (by simp) _), hid (by rw [blk_set HbD.out]; rfl), gr_setCell Hg.out (.inr (by simp)) _⟩
      case measure => simp [intOf]; omega
    · have hyF : yF n = y := yF_of n y hy0 hy1 hyn (by have := dby_succ y hy0 hy1; omega)
      have Hr : Hid (n - dby y = rF n) := hid (by unfold rF; rw [hyF])
      have hr := rF_bd n h0 h1
      rw [hyF] at hr
      have Hg := hid hg; have Hmo := hid hmo
      have HyF := hid hyF
      have Hcs : Hid (∀ z : Int, 1 ≤ z → z ≤ 12 → cum y (z + 1) = cum y z + dim y z) := hid (fun z a b => cum_succ y z a b)
      clear hg hmo hyF
      rw [Hr.out] at hlt ⊢
      have HY := hid (yearDays_any y wr (by omega) (by omega))
      generalize hrr : rF n = r at *
      have Hrr := hid hrr; clear hrr
      generalize hyd : yd y = yx at *
      have Hyx := hid hyd; clear hyd
      go_wp2_with fail
      refine HY.out.mono ?_
      rintro e w' ⟨rfl, rfl⟩
      go_wp2_with fail
      clear c0 c1 f0
      obtain ⟨w2, rfl⟩ : ∃ w2 : World, w2 = wr := ⟨_, rfl⟩
      go_loopw [0] (fun v wr => ∃ z : Int, 1 ≤ z ∧ z ≤ 12 ∧ cum y z ≤ r ∧ v = .int .i64 (r - cum y z) ∧ Hid (wr.heap[w.heap.size]? = some (.cells #[.int .i64 0, .int .i64 0, .int .i64 0] 81 (0, 0))) ∧ Hid (wr.heap[w.heap.size + 1]? = some (.cells #[.int .i64 y, .int .i64 z, .int .i64 0] 81 (0, 0))) ∧ w.grownBy wr none) (fun v _ => (intOf v).toNat)
      case atStart => exact ⟨1, by omega, by omega, by rw [cum_start]; omega, by rw [cum_start]; go_num, HbR, HbD, Hg.out⟩
      case round =>
        clear HbR HbD Hg Hmo HY
        obtain ⟨z, hz0, hz1, hzr, rfl, HbR, HbD, hg⟩ := hrel
        have hcb := cum_bd y z hz0 (by omega)
        have hdb := dim_bd y z
        have hmo := Hw.out.keep0 hg
        have c0 := blk_cell HbD.out 0 _ rfl
        have c1 := blk_cell HbD.out 1 _ rfl
        have c2 := blk_cell HbD.out 2 _ rfl
        have f1 := blk_frozen HbD.out 1
        have f2 := blk_frozen HbD.out 2
        have HD := hid (daysIn_any y z wr hmo (by omega) (by omega) hz0 hz1)
        by_cases hlt2 : dim y z ≤ r - cum y z
        · obtain ⟨q1, q2⟩ := mF_lt y r z hz0 hz1 (by rw [Hyx.out]; omega) (by omega)
          have Hs := hid (Hcs.out z hz0 hz1)
          have Hq2 := hid q2
          have Hg := hid hg
          clear hg hmo q2
          generalize cum y z = cz at *
          generalize hdz : dim y z = dz at *
          have Hdz := hid hdz; clear hdz
          go_wp2_with fail
          refine HD.out.mono ?_
          rintro e w' ⟨rfl, rfl⟩
          go_wp2_with fail
          refine HD.out.mono ?_
          rintro e w' ⟨rfl, rfl⟩
          go_wp2_with fail
          go_roundw
          case rel => exact ⟨z + 1, by omega, by omega, Hq2.out, by rw [Hs.out]; congr 1; omega, hid (blk_set_other HbR.out _ (by simp) _), hid (by rw [blk_set HbD.out]; rfl), gr_setCell Hg.out (.inr (by simp)) _⟩
          case measure => simp [intOf]; omega
        · have hmF : mF n = z := by unfold mF; rw [HyF.out, Hrr.out]; exact mOf_of y r z hz0 hz1 hzr (by rw [Hcs.out z hz0 hz1]; omega)
          have hdF : dF n = r - cum y z + 1 := by unfold dF; rw [HyF.out, Hrr.out, hmF]
          have Hfin := hid (show (#[.int .i64 y, .int .i64 z, .int .i64 (r - cum y z + 1)] : Array Value) = #[.int .i64 (yF n), .int .i64 (mF n), .int .i64 (dF n)] by rw [HyF.out, hmF, hdF])
          have Hg := hid hg
          clear hg hmo hmF hdF
          generalize cum y z = cz at *
          generalize hdz : dim y z = dz at *
          have Hdz := hid hdz; clear hdz
          go_wp2_with fail
          refine HD.out.mono ?_
          rintro e w' ⟨rfl, rfl⟩
          have r0 := blk_cell HbR.out 0 _ rfl
          have r1 := blk_cell HbR.out 1 _ rfl
          have r2 := blk_cell HbR.out 2 _ rfl
          have g0 := blk_frozen HbR.out 0
          have g1 := blk_frozen HbR.out 1
          have g2 := blk_frozen HbR.out 2
          go_wp2_with fail
          obtain ⟨WF, hWF⟩ : ∃ WF, WF = (((wr.setCell ⟨w.heap.size + 1, 2, none⟩ (.int .i64 (r - cz + 1))).setCell ⟨w.heap.size, 0, none⟩ (.int .i64 y)).setCell ⟨w.heap.size, 1, none⟩ (.int .i64 z)).setCell ⟨w.heap.size, 2, none⟩ (.int .i64 (r - cz + 1)) := ⟨_, rfl⟩
          rw [← hWF]
          have hbF : WF.heap[w.heap.size]? = some (.cells #[.int .i64 y, .int .i64 z, .int .i64 (r - cz + 1)] 81 (0, 0)) := by
            rw [hWF, blk_set (blk_set (blk_set (blk_set_other HbR.out _ (by simp) _) 0 _) 1 _) 2 _]; rfl
          have e0 := blk_cell hbF 0 _ rfl
          have e1 := blk_cell hbF 1 _ rfl
          have e2 := blk_cell hbF 2 _ rfl
          have hgF : w.grownBy WF none := by
            rw [hWF]
            exact gr_setCell (gr_setCell (gr_setCell (gr_setCell Hg.out (.inr (by simp)) _) (.inr (by simp)) _) (.inr (by simp)) _) (.inr (by simp)) _
          clear hWF hbF r0 r1 r2 g0 g1 g2 c0 c1 c2 f1 f2 HbR HbD
          refine bodyPost_ret (v := .agg #[.int .i64 y, .int .i64 z, .int .i64 (r - cz + 1)]) ?_ rfl ⟨?_, hgF⟩
          · simp [results, Tryz.results111, go_sem, e0, e1, e2]
          · rw [Hfin.out]

set_option maxRecDepth 100000 in
set_option maxHeartbeats 1000000 in
theorem specdateOf_any (n : Int) (w : World) (h0 : 0 ≤ n) (h1 : n ≤ 36524) :
    Calls Tryz.prog 142 #[.int .i64 n] w fun e w' => e = .returned (.agg #[.int .i64 (yF n), .int .i64 (mF n), .int .i64 (dF n)]) ∧ w.grownBy w' none := by
  go_enter Tryz.func142, Tryz.ntmps142
  go_wp2_with fail
  have hbR : (w.alloc (Obj.cells #[.int .i64 0, .int .i64 0, .int .i64 0] 81)).heap[w.heap.size]? = some (.cells #[.int .i64 0, .int .i64 0, .int .i64 0] 81 (0, 0)) := heap_alloc_new _ _
  have hgW : w.grownBy (w.alloc (Obj.cells #[.int .i64 0, .int .i64 0, .int .i64 0] 81)) none := gr_alloc (gr0 _) _
  generalize (w.alloc (Obj.cells #[.int .i64 0, .int .i64 0, .int .i64 0] 81)) = W at *
  have HbR := hid hbR; have HgW := hid hgW
  clear hbR hgW
  go_loopw [0, 3] (fun v i wr => ∃ y : Int, 1990 ≤ y ∧ y ≤ 2089 ∧ dby y ≤ n ∧ i = .int .i64 y ∧ v = .int .i64 (n - dby y) ∧ wr = W) (fun v _ _ => (intOf v).toNat)
  case atStart => exact ⟨1990, by omega, by omega, by rw [dby_start]; omega, by simp [dby_start]⟩
  case round =>
    obtain ⟨y, hy0, hy1, hyn, rfl, rfl, rfl⟩ := hrel
    have hb := dby_bd y hy0 (by omega)
    have hyb := yd_bd y
    by_cases hlt : yd y ≤ n - dby y
    · obtain ⟨q1, q2⟩ := yF_lt n y hy0 hy1 h1 (by omega)
      have Hs := hid (dby_succ y hy0 hy1)
      have Hyd : Hid (dby (y + 1) ≤ n) := hid q2
      clear q2
      generalize dby y = dy at *
      generalize hyd : yd y = yx at *
      have Hyx := hid hyd; clear hyd
      have HY := hid (specyearDays_any y wr (by omega) (by omega))
      rw [Hyx.out] at HY
      go_wp2_with fail
      refine HY.out.mono ?_
      rintro e w' ⟨rfl, rfl⟩
      go_wp2_with fail
      refine HY.out.mono ?_
      rintro e w' ⟨rfl, rfl⟩
      go_wp2_with fail
      go_roundw
      case rel => exact ⟨y + 1, by omega, by omega, Hyd.out, rfl, by rw [Hs.out]; congr 1; omega, by trivial⟩
      case measure => simp [intOf]; omega
    · have hyF : yF n = y := yF_of n y hy0 hy1 hyn (by have := dby_succ y hy0 hy1; omega)
      have Hr : Hid (n - dby y = rF n) := hid (by unfold rF; rw [hyF])
      have hr := rF_bd n h0 h1
      rw [hyF] at hr
      have HyF := hid hyF
      have Hcs : Hid (∀ z : Int, 1 ≤ z → z ≤ 12 → cum y (z + 1) = cum y z + dim y z) := hid (fun z a b => cum_succ y z a b)
      clear hyF
      rw [Hr.out] at hlt ⊢
      have HY := hid (specyearDays_any y wr (by omega) (by omega))
      generalize hrr : rF n = r at *
      have Hrr := hid hrr; clear hrr
      generalize hyd : yd y = yx at *
      have Hyx := hid hyd; clear hyd
      go_wp2_with fail
      refine HY.out.mono ?_
      rintro e w' ⟨rfl, rfl⟩
      go_wp2_with fail
      obtain ⟨w2, rfl⟩ : ∃ w2 : World, w2 = wr := ⟨_, rfl⟩
      go_loopw [0, 4] (fun v i wr => ∃ z : Int, 1 ≤ z ∧ z ≤ 12 ∧ cum y z ≤ r ∧ i = .int .i64 z ∧ v = .int .i64 (r - cum y z) ∧ w2.grownBy wr none) (fun v _ _ => (intOf v).toNat)
      case atStart => exact ⟨1, by omega, by omega, by rw [cum_start]; omega, rfl, by rw [cum_start]; go_num, gr0 _⟩
      case round =>
        clear HY
        obtain ⟨z, hz0, hz1, hzr, rfl, rfl, hg⟩ := hrel
        have hcb := cum_bd y z hz0 (by omega)
        have hdb := dim_bd y z
        by_cases hlt2 : dim y z ≤ r - cum y z
        · obtain ⟨q1, q2⟩ := mF_lt y r z hz0 hz1 (by rw [Hyx.out]; omega) (by omega)
          have Hs := hid (Hcs.out z hz0 hz1)
          have Hq2 := hid q2
          have Hg := hid hg
          clear hg q2
          have HD := fun wx => specdaysIn_any y z wx (by omega) (by omega) hz0 hz1
          have HD := hid HD
          generalize cum y z = cz at *
          generalize hdz : dim y z = dz at *
          have Hdz := hid hdz; clear hdz
          go_wp2_with fail
          refine (HD.out _).mono ?_
          rintro e w3 ⟨rfl, hg3⟩
          have Hg3 := hid (gr_trans0 Hg.out hg3); clear hg3
          go_wp2_with fail
          refine (HD.out _).mono ?_
          rintro e w4 ⟨rfl, hg4⟩
          have Hg4 := hid (gr_trans0 Hg3.out hg4); clear hg4
          go_wp2_with fail
          go_roundw
          case rel => exact ⟨z + 1, by omega, by omega, Hq2.out, rfl, by rw [Hs.out]; congr 1; omega, Hg4.out⟩
          case measure => simp [intOf]; omega
        · have hmF : mF n = z := by unfold mF; rw [HyF.out, Hrr.out]; exact mOf_of y r z hz0 hz1 hzr (by rw [Hcs.out z hz0 hz1]; omega)
          have hdF : dF n = r - cum y z + 1 := by unfold dF; rw [HyF.out, Hrr.out, hmF]
          have Hfin := hid (show (#[.int .i64 y, .int .i64 z, .int .i64 (r - cum y z + 1)] : Array Value) = #[.int .i64 (yF n), .int .i64 (mF n), .int .i64 (dF n)] by rw [HyF.out, hmF, hdF])
          have Hg := hid hg
          clear hg hmF hdF
          have HD := hid (specdaysIn_any y z wr (by omega) (by omega) hz0 hz1)
          generalize cum y z = cz at *
          generalize hdz : dim y z = dz at *
          have Hdz := hid hdz; clear hdz
          go_wp2_with fail
          refine HD.out.mono ?_
          rintro e w3 ⟨rfl, hg3⟩
          have Hg3 := hid (gr_trans0 Hg.out hg3); clear hg3
          have hbR := blk_keep HbR.out Hg3.out (by simp)
          have r0 := blk_cell hbR 0 _ rfl
          have r1 := blk_cell hbR 1 _ rfl
          have r2 := blk_cell hbR 2 _ rfl
          have g0 := blk_frozen hbR 0
          have g1 := blk_frozen hbR 1
          have g2 := blk_frozen hbR 2
          have HbR3 := hid hbR; clear hbR
          go_wp2_with fail
          obtain ⟨WF, hWF⟩ : ∃ WF, WF = ((w3.setCell ⟨w.heap.size, 0, none⟩ (.int .i64 y)).setCell ⟨w.heap.size, 1, none⟩ (.int .i64 z)).setCell ⟨w.heap.size, 2, none⟩ (.int .i64 (r - cz + 1)) := ⟨_, rfl⟩
          rw [← hWF]
          have hbF : WF.heap[w.heap.size]? = some (.cells #[.int .i64 y, .int .i64 z, .int .i64 (r - cz + 1)] 81 (0, 0)) := by
            rw [hWF, blk_set (blk_set (blk_set HbR3.out 0 _) 1 _) 2 _]; rfl
          have e0 := blk_cell hbF 0 _ rfl
          have e1 := blk_cell hbF 1 _ rfl
          have e2 := blk_cell hbF 2 _ rfl
          have hgF : w.grownBy WF none := by
            rw [hWF]
            exact gr_setCell (gr_setCell (gr_setCell (gr_trans0 HgW.out Hg3.out) (.inr (by simp)) _) (.inr (by simp)) _) (.inr (by simp)) _
          clear hWF hbF r0 r1 r2 g0 g1 g2 HbR3
          refine bodyPost_ret (v := .agg #[.int .i64 y, .int .i64 z, .int .i64 (r - cz + 1)]) ?_ rfl ⟨?_, hgF⟩
          · simp [results, Tryz.results142, go_sem, e0, e1, e2]
          · rw [Hfin.out]

end Go.Proofs.YtielicmjdhmcjaaGreatDoor
