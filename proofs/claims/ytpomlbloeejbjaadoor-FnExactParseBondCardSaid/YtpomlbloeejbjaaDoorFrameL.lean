/- From a law's walk to its tied card: what the laws that read the table of months have in common. -/
import Derived.Test.YtpomlbloeejbjaaDoorRows
import Derived.Test.YtpomlbloeejbjaaDoorCards
import Derived.Test.YtpomlbloeejbjaaDoorTie
import Derived.Test.YtpomlbloeejbjaaDoorFrame
import Derived.ChangeVars
import Derived.LaidMore
import Derived.OpenShut
import Derived.Stop.Joined
import Derived.SevenTiedAt
import Derived.MakeChecks
import Derived.OpenVars
import Derived.Lib.LaidTab
import Derived.Stop.LaidErr
import Derived.Lib.ItoaNum
namespace Go.Proofs.YtpomlbloeejbjaaDoor
open Go.ChangeShapes Go.WideShapes Go.ChangeAt Go.RowKit

/-- The table of months, as the program reads it. -/
def months : List Int := [31, 28, 31, 30, 31, 30, 31, 31, 30, 31, 30, 31]
abbrev monthsVar : String := "loop.example/bonddesk/impl.monthDays"
abbrev powVar : String := "internal/strconv.uint64pow10"
abbrev laidMonths : List (String × DataW Unit) := [("math/bits.deBruijn32tab", Rows.laid_math_bits_deBruijn32tab), ("math/bits.deBruijn64tab", Rows.laid_math_bits_deBruijn64tab), (powVar, Rows.laid_internal_strconv_uint64pow10), (monthsVar, Rows.laid_loop_example_bonddesk_impl_monthDays)]

theorem Tryd.gMonths : Tryd.prog.globalNamed monthsVar = some 0 := by kernel_rfl
theorem Tryd.tMonths : (Tryd.prog.globals[0]?).map (·.type) = some 86 := by kernel_rfl
theorem Tryd.gPow : Tryd.prog.globalNamed powVar = some 1 := by kernel_rfl
theorem Tryd.tPow : (Tryd.prog.globals[1]?).map (·.type) = some 108 := by kernel_rfl

structure Months (w : World) : Prop where
  cell : ∀ k v, months[k]? = some v → w.cell? ⟨0, k, none⟩ = some (.int .i64 v)
/-- The table of months and the table of the powers of ten. -/
structure Laid4 (w : World) : Prop where
  mo : Months w
  tab : Lib.TabIs Tryd.prog w powVar .u64 Lib.pow10Tab

theorem tab_keep {w w' : World} {r : Option Nat} (h : Lib.TabIs Tryd.prog w powVar .u64 Lib.pow10Tab) (g : w.grownBy w' r) (hr : r ≠ some 1) : Lib.TabIs Tryd.prog w' powVar .u64 Lib.pow10Tab := by
  unfold Lib.TabIs World.var? at *
  rw [Tryd.gPow] at *
  simp only [Option.bind_some] at *
  have hlt : 1 < w.heap.size := by
    by_cases hlt : 1 < w.heap.size
    · exact hlt
    · rw [Array.getElem?_eq_none (by omega)] at h; simp at h
  rw [g.block _ hlt (fun e => hr e.symm)]
  exact h
theorem Months.keep {w w' : World} {r : Option Nat} (h : Months w) (g : w.grownBy w' r) (hr : r ≠ some 0) : Months w' :=
  ⟨fun k v hk => g.cell (h.cell k v hk) (fun e => hr e.symm)⟩
theorem Months.keep0 {w w' : World} (h : Months w) (g : w.grownBy w' none) : Months w' := h.keep g (by simp)
theorem Laid4.keep0 {w w' : World} (h : Laid4 w) (g : w.grownBy w' none) : Laid4 w' := ⟨h.mo.keep0 g, tab_keep h.tab g (by simp)⟩

theorem months_of_laid {W : World} (h : laidMetH Tryd.prog laidMonths W) : Laid4 W := by
  rw [MakeChecks.laidMetH_plain _ _ _ (by kernel_rfl)] at h
  have h2 := laidMet.tail (laidMet.tail h)
  have h3 := laidMet.tail h2
  have tp : Lib.TabIs Tryd.prog W powVar .u64 Lib.pow10Tab := Lib.tabIs_of_head Tryd.gPow Tryd.tPow Tryd.underlying108 Tryd.underlying98 (by kernel_rfl) (by kernel_rfl) (show laidMet Tryd.prog ((powVar, Lib.tabData .u64 Lib.pow10Tab) :: _) W from h2)
  have tm : Lib.TabIs Tryd.prog W monthsVar .i64 months := Lib.tabIs_of_head Tryd.gMonths Tryd.tMonths Tryd.underlying86 Tryd.underlying3 (by kernel_rfl) (by kernel_rfl) (show laidMet Tryd.prog ((monthsVar, Lib.tabData .i64 months) :: _) W from h3)
  refine ⟨⟨fun k v hk => ?_⟩, tp⟩
  have hk12 := lt_of_at hk
  have := tm.cell Tryd.gMonths k hk12
  rw [this]
  simp only [List.getD_eq_getElem?_getD, hk, Option.getD_some]

/-- The listed variable reads behind the call as it read before. -/
theorem vars_stay {H : Type} {enc : TypeId × Value → H} {W W' : World} (hb : Below W.heap.size W W') {gs : List (DataW H)} {q : List MemPlace}
    (hV : DataW.TrodVars enc Tryd.prog W (fun _ => true) [monthsVar] gs q) :
    DataW.TrodVars enc Tryd.prog W' (fun b => decide (b < W.heap.size)) [monthsVar] gs q := by
  exact Below.trodVars Tryd.laidOut hb (by kernel_rfl) hV

theorem door_met (os : Os) (args : Array Value) : laidMetH Tryd.prog laidMonths ((World.doorLaid Tryd.prog 400 os).forCall (fun _ _ => 0) ⟨#[], args, []⟩).memory :=
  laidMetH_of_parts3 (fuel := 8) (laidMet_of_run' 8 (by kernel_rfl) (by kernel_rfl)) (by kernel_rfl) (by kernel_rfl)

theorem vars_one {H : Type} {enc : TypeId × Value → H} {P : Program} {w : World} {spare : Nat → Bool} {v : String} {gs : List (DataW H)} {ps : List MemPlace} (h : DataW.TrodVars enc P w spare [v] gs ps) : ∃ g, gs = [g] := by
  match gs, h with
  | [g], _ => exact ⟨g, rfl⟩
  | [], h => exact absurd h (by simp [DataW.TrodVars])
  | _ :: g :: gs, ⟨_, _, _, _, _, _, _, _, _, _, h, _⟩ => exact absurd h (by simp [DataW.TrodVars])

end Go.Proofs.YtpomlbloeejbjaaDoor
