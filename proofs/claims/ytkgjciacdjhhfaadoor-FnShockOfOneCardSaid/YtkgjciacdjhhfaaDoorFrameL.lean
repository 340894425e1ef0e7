/- From a law's walk to its tied card: what the laws that read the table of months have in common. -/
import Derived.Test.YtkgjciacdjhhfaaDoorRows
import Derived.Test.YtkgjciacdjhhfaaDoorCards
import Derived.Test.YtkgjciacdjhhfaaDoorTie
import Derived.Test.YtkgjciacdjhhfaaDoorFrame
import Derived.ChangeVars
import Derived.LaidMore
import Derived.OpenShut
import Derived.Stop.Joined
import Derived.SevenTiedAt
import Derived.MakeChecks
import Derived.OpenVars
namespace Go.Proofs.YtkgjciacdjhhfaaDoor
open Go.ChangeShapes Go.WideShapes Go.ChangeAt Go.RowKit

/-- The table of months, as the program reads it. -/
def months : List Int := [31, 28, 31, 30, 31, 30, 31, 31, 30, 31, 30, 31]
abbrev monthsVar : String := "loop.example/bonddesk/impl.monthDays"
abbrev errVar : String := "loop.example/bonddesk/impl.errRange"
abbrev laidMonths : List (String × DataW Unit) := [(monthsVar, Rows.laid_loop_example_bonddesk_impl_monthDays), (errVar, Rows.laid_loop_example_bonddesk_impl_errRange)]
abbrev laidVars : List String := [monthsVar, errVar]

theorem Tryd.gMonths : Tryd.prog.globalNamed monthsVar = some 1 := by kernel_rfl
theorem Tryd.tMonths : (Tryd.prog.globals[1]?).map (·.type) = some 104 := by kernel_rfl

structure Months (w : World) : Prop where
  cell : ∀ k v, months[k]? = some v → w.cell? ⟨1, k, none⟩ = some (.int .i64 v)

theorem Months.keep {w w' : World} {r : Option Nat} (h : Months w) (g : w.grownBy w' r) (hr : r ≠ some 1) : Months w' :=
  ⟨fun k v hk => g.cell (h.cell k v hk) (fun e => hr e.symm)⟩
theorem Months.keep0 {w w' : World} (h : Months w) (g : w.grownBy w' none) : Months w' := h.keep g (by simp)

theorem months_of_laid {W : World} (h : laidMetH Tryd.prog laidMonths W) : Months W := by
  rw [MakeChecks.laidMetH_plain _ _ _ (by kernel_rfl)] at h
  obtain ⟨ps, ⟨g0, t0, cs0, f0, p0, q0, hg0, ht0, hv0, hd0, _⟩, _⟩ := h
  obtain rfl := Option.some.inj (Tryd.gMonths.symm.trans hg0)
  obtain rfl := Option.some.inj (Tryd.tMonths.symm.trans ht0)
  obtain ⟨xs, m1, rfl, hx1, hlen, hn3, hel⟩ := DataW.trod_array Tryd.underlying104 hd0
  simp only [Prod.mk.injEq] at hx1
  refine ⟨fun k v hk => ?_⟩
  have hk12 : k < 12 := lt_of_at hk
  have h0 := hel k (by omega)
  rw [Tryd.cellsInt, Nat.mul_one] at h0
  have hxk : xs[k]? = some (xs[k]'(by omega)) := by simp
  rw [hxk] at h0
  obtain ⟨z, e1, e2, _⟩ := DataW.trod_int Tryd.underlying3 h0
  have hm : xs.map (·.1) = months.map fun m => DataW.lit (.int .i64 m) := by
    have h9 := hx1.1
    have hr : (Rows.laid_loop_example_bonddesk_impl_monthDays : DataW Unit) = .agg (months.map fun m => DataW.lit (.int .i64 m)) := rfl
    rw [hr] at h9
    exact (DataW.agg.inj h9).symm
  have h8 : (xs.map (·.1))[k]? = some (DataW.lit (.int .i64 v)) := by rw [hm, List.getElem?_map, hk]; rfl
  rw [List.getElem?_map, hxk, Option.map_some, e2] at h8
  have hz : z = v := by simpa using h8
  subst hz
  have hc : cs0[k]? = some (.int .i64 z) := by
    have h7 : (cs0.toList.drop k)[0]? = some (.int .i64 z) := by
      have : ((cs0.toList.drop k).take 1)[0]? = some (.int .i64 z) := by rw [e1]; rfl
      rw [List.getElem?_take_of_lt (by omega)] at this
      exact this
    rw [List.getElem?_drop] at h7
    simpa using h7
  rw [World.var?_cell Tryd.gMonths hv0 k]
  exact hc

/-- The listed variable reads behind the call as it read before. -/
theorem vars_stay {H : Type} {enc : TypeId × Value → H} {W W' : World} (hb : Below W.heap.size W W') {gs : List (DataW H)} {q : List MemPlace}
    (hV : DataW.TrodVars enc Tryd.prog W (fun _ => true) laidVars gs q) :
    DataW.TrodVars enc Tryd.prog W' (fun b => decide (b < W.heap.size)) laidVars gs q := by
  exact Below.trodVars Tryd.laidOut hb (by kernel_rfl) hV

theorem door_met (os : Os) (args : Array Value) : laidMetH Tryd.prog laidMonths ((World.doorLaid Tryd.prog 400 os).forCall (fun _ _ => 0) ⟨#[], args, []⟩).memory :=
  laidMetH_of_parts3 (fuel := 8) (laidMet_of_run' 8 (by kernel_rfl) (by kernel_rfl)) (by kernel_rfl) (by kernel_rfl)

theorem vars_one {H : Type} {enc : TypeId × Value → H} {P : Program} {w : World} {spare : Nat → Bool} {v : String} {gs : List (DataW H)} {ps : List MemPlace} (h : DataW.TrodVars enc P w spare [v] gs ps) : ∃ g, gs = [g] := by
  match gs, h with
  | [g], _ => exact ⟨g, rfl⟩
  | [], h => exact absurd h (by simp [DataW.TrodVars])
  | _ :: g :: gs, ⟨_, _, _, _, _, _, _, _, _, _, h, _⟩ => exact absurd h (by simp [DataW.TrodVars])

theorem vars_two {H : Type} {enc : TypeId × Value → H} {P : Program} {w : World} {spare : Nat → Bool} {v u : String} {gs : List (DataW H)} {ps : List MemPlace} (h : DataW.TrodVars enc P w spare [v, u] gs ps) : ∃ g g', gs = [g, g'] := by
  match gs, h with
  | [g, g'], _ => exact ⟨g, g', rfl⟩
  | [], h => exact absurd h (by simp [DataW.TrodVars])
  | [_], ⟨_, _, _, _, _, _, _, _, _, _, h, _⟩ => exact absurd h (by simp [DataW.TrodVars])
  | _ :: _ :: g :: gs, ⟨_, _, _, _, _, _, _, _, _, _, ⟨_, _, _, _, _, _, _, _, _, _, h, _⟩, _⟩ => exact absurd h (by simp [DataW.TrodVars])

end Go.Proofs.YtkgjciacdjhhfaaDoor
