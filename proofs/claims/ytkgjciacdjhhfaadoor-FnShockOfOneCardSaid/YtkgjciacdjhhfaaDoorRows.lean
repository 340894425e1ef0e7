/-
  NARROWER THAN 'FOR EVERY INPUT', by the rows' own cells (each row's printed sentence says how): FnExactPriceOf: ifaces, laid · FnExactRiskOf: ifaces, laid · FnExactYieldOf: ifaces, laid · FnExactShockOf: ifaces, laid · FnPriceOfNarrow: ifaces, laid · FnPriceOfRate: ifaces, laid · FnPriceOfEnd: ifaces, laid · FnRiskOfConvex: ifaces, laid · FnRiskOf: ifaces, laid · FnPriceOf: ifaces, laid · FnYieldOf: ifaces, laid · FnYieldOfNear: ifaces, laid · FnYieldOfZero: ifaces, laid · FnShockOf: ifaces, laid · FnShockOfOne: ifaces, laid.
  DERIVED. THE GIVEN ROWS OF THIS SEAT. 15 by the template 'for every input the law returns true; each argument reads behind the call as it read before'; 0 by the template 'total and deterministic' (their statements: YtkgjciacdjhhfaaDoorTotals.lean).
  GIVEN WITH THE SEED: the statements are not yours to turn. If you find one false, say at which input.
  Laid BY PROGRAM, IN A SANDBOX (cutbox-rows.mjs): the forced cells as the released guide's own fill.sh prints them over the translation e5636ce051d9fcf3… (all of the seat's roots in one cut). By AI agents, Wed Nov 11 2026. No macro, syntax, notation, axiom, sorry.
-/
import Derived.Test.YtkgjciacdjhhfaaDoorChecked
import GoSem.Claim
import GoSem.ClaimJoined
import GoSem.ClaimMapViews
import Derived.JoinedTies
import Derived.KernelRfl
namespace Go.Proofs.YtkgjciacdjhhfaaDoor
/- THE CELL 'sum', in the pinned program and in every row, IS THE sha256 OF THE DUMP (.gsa) THAT YtkgjciacdjhhfaaDoorProg.lean LOADS. Nothing in Lean hashes anything: it is a label: what it is worth is what the hold of that sum in a sandbox is worth. -/
noncomputable def Tryd.pinned : Pinned := { name := "ytkgjciacdjhhfaadoor", sum := "e5636ce051d9fcf3ac7a02829520b66de8fc9f7f25962c9fa77de03dd685d8c6", checked := Tryd.checked }
namespace Rows
def none {H : Type} : Left H := { results := [], args := [] }

/- WHAT THE LISTED PACKAGE-LEVEL VARIABLES READ AS WHEN THE CALL BEGINS. Each datum BY PROGRAM (the guide's laid-datum.mjs) off the statement by which the dump's own 'gosem.cut.vars' lays the variable. In a bare row this is a premise. The card (YtkgjciacdjhhfaaDoorCards.lean) ties it to the program's text. -/
def laid_loop_example_bonddesk_impl_monthDays {H : Type} : DataW H := .agg [.lit (.int .i64 31), .lit (.int .i64 28), .lit (.int .i64 31), .lit (.int .i64 30), .lit (.int .i64 31), .lit (.int .i64 30), .lit (.int .i64 31), .lit (.int .i64 31), .lit (.int .i64 30), .lit (.int .i64 31), .lit (.int .i64 30), .lit (.int .i64 31)]
def laid_loop_example_bonddesk_impl_errRange {H : Type} : DataW H := .iface "*errors.errorString" (.ptr (.agg [.lit (.string [110, 111, 32, 114, 97, 110, 103, 101])]))

/-- 'laws.FnExactPriceOf': WHATEVER THE INPUT: true; the input reads as it did. -/
def fnExactPriceOfSpec : ChangeSpec := { name := "fnExactPriceOf", vars := ["loop.example/bonddesk/impl.monthDays", "loop.example/bonddesk/impl.errRange"], fn := fun _ => fun
  | [d1, d2, d3, g1, g2] => { results := [.lit (.bool true)], args := [d1, d2, d3], vars := [g1, g2] }
  | _ => none }
def fnExactPriceOfRow : OpenClaim := { program := "ytkgjciacdjhhfaadoor", sum := "e5636ce051d9fcf3ac7a02829520b66de8fc9f7f25962c9fa77de03dd685d8c6", func := "loop.example/bonddesk/laws.FnExactPriceOf", spec := "fnExactPriceOf", unfollowed := true, recurses := true, named := ["loop.example/bonddesk/impl.monthDays", "loop.example/bonddesk/impl.errRange"], ifaces := true, apart := false, laid := [("loop.example/bonddesk/impl.monthDays", laid_loop_example_bonddesk_impl_monthDays), ("loop.example/bonddesk/impl.errRange", laid_loop_example_bonddesk_impl_errRange)] }
def FnExactPriceOfSaid : Prop := fnExactPriceOfRow.holds Tryd.pinned (OpenSpec.ofChange fnExactPriceOfSpec)

/-- ITS FALSE NEIGHBOUR: 'it returns false'. Refute it at one input. -/
def fnExactPriceOfWrong : ChangeSpec := { name := "fnExactPriceOf", vars := ["loop.example/bonddesk/impl.monthDays", "loop.example/bonddesk/impl.errRange"], fn := fun _ => fun
  | [d1, d2, d3, g1, g2] => { results := [.lit (.bool false)], args := [d1, d2, d3], vars := [g1, g2] }
  | _ => none }
def FnExactPriceOfWrongFalsely : Prop := fnExactPriceOfRow.holds Tryd.pinned (OpenSpec.ofChange fnExactPriceOfWrong)

/-- 'laws.FnExactRiskOf': WHATEVER THE INPUT: true; the input reads as it did. -/
def fnExactRiskOfSpec : ChangeSpec := { name := "fnExactRiskOf", vars := ["loop.example/bonddesk/impl.monthDays", "loop.example/bonddesk/impl.errRange"], fn := fun _ => fun
  | [d1, d2, d3, g1, g2] => { results := [.lit (.bool true)], args := [d1, d2, d3], vars := [g1, g2] }
  | _ => none }
def fnExactRiskOfRow : OpenClaim := { program := "ytkgjciacdjhhfaadoor", sum := "e5636ce051d9fcf3ac7a02829520b66de8fc9f7f25962c9fa77de03dd685d8c6", func := "loop.example/bonddesk/laws.FnExactRiskOf", spec := "fnExactRiskOf", unfollowed := true, recurses := true, named := ["loop.example/bonddesk/impl.monthDays", "loop.example/bonddesk/impl.errRange"], ifaces := true, apart := false, laid := [("loop.example/bonddesk/impl.monthDays", laid_loop_example_bonddesk_impl_monthDays), ("loop.example/bonddesk/impl.errRange", laid_loop_example_bonddesk_impl_errRange)] }
def FnExactRiskOfSaid : Prop := fnExactRiskOfRow.holds Tryd.pinned (OpenSpec.ofChange fnExactRiskOfSpec)

/-- ITS FALSE NEIGHBOUR: 'it returns false'. Refute it at one input. -/
def fnExactRiskOfWrong : ChangeSpec := { name := "fnExactRiskOf", vars := ["loop.example/bonddesk/impl.monthDays", "loop.example/bonddesk/impl.errRange"], fn := fun _ => fun
  | [d1, d2, d3, g1, g2] => { results := [.lit (.bool false)], args := [d1, d2, d3], vars := [g1, g2] }
  | _ => none }
def FnExactRiskOfWrongFalsely : Prop := fnExactRiskOfRow.holds Tryd.pinned (OpenSpec.ofChange fnExactRiskOfWrong)

/-- 'laws.FnExactYieldOf': WHATEVER THE INPUT: true; the input reads as it did. -/
def fnExactYieldOfSpec : ChangeSpec := { name := "fnExactYieldOf", vars := ["loop.example/bonddesk/impl.monthDays", "loop.example/bonddesk/impl.errRange"], fn := fun _ => fun
  | [d1, d2, d3, g1, g2] => { results := [.lit (.bool true)], args := [d1, d2, d3], vars := [g1, g2] }
  | _ => none }
def fnExactYieldOfRow : OpenClaim := { program := "ytkgjciacdjhhfaadoor", sum := "e5636ce051d9fcf3ac7a02829520b66de8fc9f7f25962c9fa77de03dd685d8c6", func := "loop.example/bonddesk/laws.FnExactYieldOf", spec := "fnExactYieldOf", unfollowed := true, recurses := true, named := ["loop.example/bonddesk/impl.monthDays", "loop.example/bonddesk/impl.errRange"], ifaces := true, apart := false, laid := [("loop.example/bonddesk/impl.monthDays", laid_loop_example_bonddesk_impl_monthDays), ("loop.example/bonddesk/impl.errRange", laid_loop_example_bonddesk_impl_errRange)] }
def FnExactYieldOfSaid : Prop := fnExactYieldOfRow.holds Tryd.pinned (OpenSpec.ofChange fnExactYieldOfSpec)

/-- ITS FALSE NEIGHBOUR: 'it returns false'. Refute it at one input. -/
def fnExactYieldOfWrong : ChangeSpec := { name := "fnExactYieldOf", vars := ["loop.example/bonddesk/impl.monthDays", "loop.example/bonddesk/impl.errRange"], fn := fun _ => fun
  | [d1, d2, d3, g1, g2] => { results := [.lit (.bool false)], args := [d1, d2, d3], vars := [g1, g2] }
  | _ => none }
def FnExactYieldOfWrongFalsely : Prop := fnExactYieldOfRow.holds Tryd.pinned (OpenSpec.ofChange fnExactYieldOfWrong)

/-- 'laws.FnExactShockOf': WHATEVER THE INPUT: true; the input reads as it did. -/
def fnExactShockOfSpec : ChangeSpec := { name := "fnExactShockOf", vars := ["loop.example/bonddesk/impl.monthDays", "loop.example/bonddesk/impl.errRange"], fn := fun _ => fun
  | [d1, d2, d3, d4, g1, g2] => { results := [.lit (.bool true)], args := [d1, d2, d3, d4], vars := [g1, g2] }
  | _ => none }
def fnExactShockOfRow : OpenClaim := { program := "ytkgjciacdjhhfaadoor", sum := "e5636ce051d9fcf3ac7a02829520b66de8fc9f7f25962c9fa77de03dd685d8c6", func := "loop.example/bonddesk/laws.FnExactShockOf", spec := "fnExactShockOf", unfollowed := true, recurses := true, named := ["loop.example/bonddesk/impl.monthDays", "loop.example/bonddesk/impl.errRange"], ifaces := true, apart := false, laid := [("loop.example/bonddesk/impl.monthDays", laid_loop_example_bonddesk_impl_monthDays), ("loop.example/bonddesk/impl.errRange", laid_loop_example_bonddesk_impl_errRange)] }
def FnExactShockOfSaid : Prop := fnExactShockOfRow.holds Tryd.pinned (OpenSpec.ofChange fnExactShockOfSpec)

/-- ITS FALSE NEIGHBOUR: 'it returns false'. Refute it at one input. -/
def fnExactShockOfWrong : ChangeSpec := { name := "fnExactShockOf", vars := ["loop.example/bonddesk/impl.monthDays", "loop.example/bonddesk/impl.errRange"], fn := fun _ => fun
  | [d1, d2, d3, d4, g1, g2] => { results := [.lit (.bool false)], args := [d1, d2, d3, d4], vars := [g1, g2] }
  | _ => none }
def FnExactShockOfWrongFalsely : Prop := fnExactShockOfRow.holds Tryd.pinned (OpenSpec.ofChange fnExactShockOfWrong)

/-- 'laws.FnPriceOfNarrow': WHATEVER THE INPUT: true; the input reads as it did. -/
def fnPriceOfNarrowSpec : ChangeSpec := { name := "fnPriceOfNarrow", vars := ["loop.example/bonddesk/impl.monthDays", "loop.example/bonddesk/impl.errRange"], fn := fun _ => fun
  | [d, g1, g2] => { results := [.lit (.bool true)], args := [d], vars := [g1, g2] }
  | _ => none }
def fnPriceOfNarrowRow : OpenClaim := { program := "ytkgjciacdjhhfaadoor", sum := "e5636ce051d9fcf3ac7a02829520b66de8fc9f7f25962c9fa77de03dd685d8c6", func := "loop.example/bonddesk/laws.FnPriceOfNarrow", spec := "fnPriceOfNarrow", unfollowed := true, recurses := true, named := ["loop.example/bonddesk/impl.monthDays", "loop.example/bonddesk/impl.errRange"], ifaces := true, apart := false, laid := [("loop.example/bonddesk/impl.monthDays", laid_loop_example_bonddesk_impl_monthDays), ("loop.example/bonddesk/impl.errRange", laid_loop_example_bonddesk_impl_errRange)] }
def FnPriceOfNarrowSaid : Prop := fnPriceOfNarrowRow.holds Tryd.pinned (OpenSpec.ofChange fnPriceOfNarrowSpec)

/-- ITS FALSE NEIGHBOUR: 'it returns false'. Refute it at one input. -/
def fnPriceOfNarrowWrong : ChangeSpec := { name := "fnPriceOfNarrow", vars := ["loop.example/bonddesk/impl.monthDays", "loop.example/bonddesk/impl.errRange"], fn := fun _ => fun
  | [d, g1, g2] => { results := [.lit (.bool false)], args := [d], vars := [g1, g2] }
  | _ => none }
def FnPriceOfNarrowWrongFalsely : Prop := fnPriceOfNarrowRow.holds Tryd.pinned (OpenSpec.ofChange fnPriceOfNarrowWrong)

/-- 'laws.FnPriceOfRate': WHATEVER THE INPUT: true; the input reads as it did. -/
def fnPriceOfRateSpec : ChangeSpec := { name := "fnPriceOfRate", vars := ["loop.example/bonddesk/impl.monthDays", "loop.example/bonddesk/impl.errRange"], fn := fun _ => fun
  | [d, g1, g2] => { results := [.lit (.bool true)], args := [d], vars := [g1, g2] }
  | _ => none }
def fnPriceOfRateRow : OpenClaim := { program := "ytkgjciacdjhhfaadoor", sum := "e5636ce051d9fcf3ac7a02829520b66de8fc9f7f25962c9fa77de03dd685d8c6", func := "loop.example/bonddesk/laws.FnPriceOfRate", spec := "fnPriceOfRate", unfollowed := true, recurses := true, named := ["loop.example/bonddesk/impl.monthDays", "loop.example/bonddesk/impl.errRange"], ifaces := true, apart := false, laid := [("loop.example/bonddesk/impl.monthDays", laid_loop_example_bonddesk_impl_monthDays), ("loop.example/bonddesk/impl.errRange", laid_loop_example_bonddesk_impl_errRange)] }
def FnPriceOfRateSaid : Prop := fnPriceOfRateRow.holds Tryd.pinned (OpenSpec.ofChange fnPriceOfRateSpec)

/-- ITS FALSE NEIGHBOUR: 'it returns false'. Refute it at one input. -/
def fnPriceOfRateWrong : ChangeSpec := { name := "fnPriceOfRate", vars := ["loop.example/bonddesk/impl.monthDays", "loop.example/bonddesk/impl.errRange"], fn := fun _ => fun
  | [d, g1, g2] => { results := [.lit (.bool false)], args := [d], vars := [g1, g2] }
  | _ => none }
def FnPriceOfRateWrongFalsely : Prop := fnPriceOfRateRow.holds Tryd.pinned (OpenSpec.ofChange fnPriceOfRateWrong)

/-- 'laws.FnPriceOfEnd': WHATEVER THE INPUT: true; the input reads as it did. -/
def fnPriceOfEndSpec : ChangeSpec := { name := "fnPriceOfEnd", vars := ["loop.example/bonddesk/impl.monthDays", "loop.example/bonddesk/impl.errRange"], fn := fun _ => fun
  | [d, g1, g2] => { results := [.lit (.bool true)], args := [d], vars := [g1, g2] }
  | _ => none }
def fnPriceOfEndRow : OpenClaim := { program := "ytkgjciacdjhhfaadoor", sum := "e5636ce051d9fcf3ac7a02829520b66de8fc9f7f25962c9fa77de03dd685d8c6", func := "loop.example/bonddesk/laws.FnPriceOfEnd", spec := "fnPriceOfEnd", unfollowed := true, recurses := true, named := ["loop.example/bonddesk/impl.monthDays", "loop.example/bonddesk/impl.errRange"], ifaces := true, apart := false, laid := [("loop.example/bonddesk/impl.monthDays", laid_loop_example_bonddesk_impl_monthDays), ("loop.example/bonddesk/impl.errRange", laid_loop_example_bonddesk_impl_errRange)] }
def FnPriceOfEndSaid : Prop := fnPriceOfEndRow.holds Tryd.pinned (OpenSpec.ofChange fnPriceOfEndSpec)

/-- ITS FALSE NEIGHBOUR: 'it returns false'. Refute it at one input. -/
def fnPriceOfEndWrong : ChangeSpec := { name := "fnPriceOfEnd", vars := ["loop.example/bonddesk/impl.monthDays", "loop.example/bonddesk/impl.errRange"], fn := fun _ => fun
  | [d, g1, g2] => { results := [.lit (.bool false)], args := [d], vars := [g1, g2] }
  | _ => none }
def FnPriceOfEndWrongFalsely : Prop := fnPriceOfEndRow.holds Tryd.pinned (OpenSpec.ofChange fnPriceOfEndWrong)

/-- 'laws.FnRiskOfConvex': WHATEVER THE INPUT: true; the input reads as it did. -/
def fnRiskOfConvexSpec : ChangeSpec := { name := "fnRiskOfConvex", vars := ["loop.example/bonddesk/impl.monthDays", "loop.example/bonddesk/impl.errRange"], fn := fun _ => fun
  | [d, g1, g2] => { results := [.lit (.bool true)], args := [d], vars := [g1, g2] }
  | _ => none }
def fnRiskOfConvexRow : OpenClaim := { program := "ytkgjciacdjhhfaadoor", sum := "e5636ce051d9fcf3ac7a02829520b66de8fc9f7f25962c9fa77de03dd685d8c6", func := "loop.example/bonddesk/laws.FnRiskOfConvex", spec := "fnRiskOfConvex", unfollowed := true, recurses := true, named := ["loop.example/bonddesk/impl.monthDays", "loop.example/bonddesk/impl.errRange"], ifaces := true, apart := false, laid := [("loop.example/bonddesk/impl.monthDays", laid_loop_example_bonddesk_impl_monthDays), ("loop.example/bonddesk/impl.errRange", laid_loop_example_bonddesk_impl_errRange)] }
def FnRiskOfConvexSaid : Prop := fnRiskOfConvexRow.holds Tryd.pinned (OpenSpec.ofChange fnRiskOfConvexSpec)

/-- ITS FALSE NEIGHBOUR: 'it returns false'. Refute it at one input. -/
def fnRiskOfConvexWrong : ChangeSpec := { name := "fnRiskOfConvex", vars := ["loop.example/bonddesk/impl.monthDays", "loop.example/bonddesk/impl.errRange"], fn := fun _ => fun
  | [d, g1, g2] => { results := [.lit (.bool false)], args := [d], vars := [g1, g2] }
  | _ => none }
def FnRiskOfConvexWrongFalsely : Prop := fnRiskOfConvexRow.holds Tryd.pinned (OpenSpec.ofChange fnRiskOfConvexWrong)

/-- 'laws.FnRiskOf': WHATEVER THE INPUT: true; the input reads as it did. -/
def fnRiskOfSpec : ChangeSpec := { name := "fnRiskOf", vars := ["loop.example/bonddesk/impl.monthDays", "loop.example/bonddesk/impl.errRange"], fn := fun _ => fun
  | [d, g1, g2] => { results := [.lit (.bool true)], args := [d], vars := [g1, g2] }
  | _ => none }
def fnRiskOfRow : OpenClaim := { program := "ytkgjciacdjhhfaadoor", sum := "e5636ce051d9fcf3ac7a02829520b66de8fc9f7f25962c9fa77de03dd685d8c6", func := "loop.example/bonddesk/laws.FnRiskOf", spec := "fnRiskOf", unfollowed := true, recurses := true, named := ["loop.example/bonddesk/impl.monthDays", "loop.example/bonddesk/impl.errRange"], ifaces := true, apart := false, laid := [("loop.example/bonddesk/impl.monthDays", laid_loop_example_bonddesk_impl_monthDays), ("loop.example/bonddesk/impl.errRange", laid_loop_example_bonddesk_impl_errRange)] }
def FnRiskOfSaid : Prop := fnRiskOfRow.holds Tryd.pinned (OpenSpec.ofChange fnRiskOfSpec)

/-- ITS FALSE NEIGHBOUR: 'it returns false'. Refute it at one input. -/
def fnRiskOfWrong : ChangeSpec := { name := "fnRiskOf", vars := ["loop.example/bonddesk/impl.monthDays", "loop.example/bonddesk/impl.errRange"], fn := fun _ => fun
  | [d, g1, g2] => { results := [.lit (.bool false)], args := [d], vars := [g1, g2] }
  | _ => none }
def FnRiskOfWrongFalsely : Prop := fnRiskOfRow.holds Tryd.pinned (OpenSpec.ofChange fnRiskOfWrong)

/-- 'laws.FnPriceOf': WHATEVER THE INPUT: true; the input reads as it did. -/
def fnPriceOfSpec : ChangeSpec := { name := "fnPriceOf", vars := ["loop.example/bonddesk/impl.monthDays", "loop.example/bonddesk/impl.errRange"], fn := fun _ => fun
  | [d, g1, g2] => { results := [.lit (.bool true)], args := [d], vars := [g1, g2] }
  | _ => none }
def fnPriceOfRow : OpenClaim := { program := "ytkgjciacdjhhfaadoor", sum := "e5636ce051d9fcf3ac7a02829520b66de8fc9f7f25962c9fa77de03dd685d8c6", func := "loop.example/bonddesk/laws.FnPriceOf", spec := "fnPriceOf", unfollowed := true, recurses := true, named := ["loop.example/bonddesk/impl.monthDays", "loop.example/bonddesk/impl.errRange"], ifaces := true, apart := false, laid := [("loop.example/bonddesk/impl.monthDays", laid_loop_example_bonddesk_impl_monthDays), ("loop.example/bonddesk/impl.errRange", laid_loop_example_bonddesk_impl_errRange)] }
def FnPriceOfSaid : Prop := fnPriceOfRow.holds Tryd.pinned (OpenSpec.ofChange fnPriceOfSpec)

/-- ITS FALSE NEIGHBOUR: 'it returns false'. Refute it at one input. -/
def fnPriceOfWrong : ChangeSpec := { name := "fnPriceOf", vars := ["loop.example/bonddesk/impl.monthDays", "loop.example/bonddesk/impl.errRange"], fn := fun _ => fun
  | [d, g1, g2] => { results := [.lit (.bool false)], args := [d], vars := [g1, g2] }
  | _ => none }
def FnPriceOfWrongFalsely : Prop := fnPriceOfRow.holds Tryd.pinned (OpenSpec.ofChange fnPriceOfWrong)

/-- 'laws.FnYieldOf': WHATEVER THE INPUT: true; the input reads as it did. -/
def fnYieldOfSpec : ChangeSpec := { name := "fnYieldOf", vars := ["loop.example/bonddesk/impl.monthDays", "loop.example/bonddesk/impl.errRange"], fn := fun _ => fun
  | [d, g1, g2] => { results := [.lit (.bool true)], args := [d], vars := [g1, g2] }
  | _ => none }
def fnYieldOfRow : OpenClaim := { program := "ytkgjciacdjhhfaadoor", sum := "e5636ce051d9fcf3ac7a02829520b66de8fc9f7f25962c9fa77de03dd685d8c6", func := "loop.example/bonddesk/laws.FnYieldOf", spec := "fnYieldOf", unfollowed := true, recurses := true, named := ["loop.example/bonddesk/impl.monthDays", "loop.example/bonddesk/impl.errRange"], ifaces := true, apart := false, laid := [("loop.example/bonddesk/impl.monthDays", laid_loop_example_bonddesk_impl_monthDays), ("loop.example/bonddesk/impl.errRange", laid_loop_example_bonddesk_impl_errRange)] }
def FnYieldOfSaid : Prop := fnYieldOfRow.holds Tryd.pinned (OpenSpec.ofChange fnYieldOfSpec)

/-- ITS FALSE NEIGHBOUR: 'it returns false'. Refute it at one input. -/
def fnYieldOfWrong : ChangeSpec := { name := "fnYieldOf", vars := ["loop.example/bonddesk/impl.monthDays", "loop.example/bonddesk/impl.errRange"], fn := fun _ => fun
  | [d, g1, g2] => { results := [.lit (.bool false)], args := [d], vars := [g1, g2] }
  | _ => none }
def FnYieldOfWrongFalsely : Prop := fnYieldOfRow.holds Tryd.pinned (OpenSpec.ofChange fnYieldOfWrong)

/-- 'laws.FnYieldOfNear': WHATEVER THE INPUT: true; the input reads as it did. -/
def fnYieldOfNearSpec : ChangeSpec := { name := "fnYieldOfNear", vars := ["loop.example/bonddesk/impl.monthDays", "loop.example/bonddesk/impl.errRange"], fn := fun _ => fun
  | [d, g1, g2] => { results := [.lit (.bool true)], args := [d], vars := [g1, g2] }
  | _ => none }
def fnYieldOfNearRow : OpenClaim := { program := "ytkgjciacdjhhfaadoor", sum := "e5636ce051d9fcf3ac7a02829520b66de8fc9f7f25962c9fa77de03dd685d8c6", func := "loop.example/bonddesk/laws.FnYieldOfNear", spec := "fnYieldOfNear", unfollowed := true, recurses := true, named := ["loop.example/bonddesk/impl.monthDays", "loop.example/bonddesk/impl.errRange"], ifaces := true, apart := false, laid := [("loop.example/bonddesk/impl.monthDays", laid_loop_example_bonddesk_impl_monthDays), ("loop.example/bonddesk/impl.errRange", laid_loop_example_bonddesk_impl_errRange)] }
def FnYieldOfNearSaid : Prop := fnYieldOfNearRow.holds Tryd.pinned (OpenSpec.ofChange fnYieldOfNearSpec)

/-- ITS FALSE NEIGHBOUR: 'it returns false'. Refute it at one input. -/
def fnYieldOfNearWrong : ChangeSpec := { name := "fnYieldOfNear", vars := ["loop.example/bonddesk/impl.monthDays", "loop.example/bonddesk/impl.errRange"], fn := fun _ => fun
  | [d, g1, g2] => { results := [.lit (.bool false)], args := [d], vars := [g1, g2] }
  | _ => none }
def FnYieldOfNearWrongFalsely : Prop := fnYieldOfNearRow.holds Tryd.pinned (OpenSpec.ofChange fnYieldOfNearWrong)

/-- 'laws.FnYieldOfZero': WHATEVER THE INPUT: true; the input reads as it did. -/
def fnYieldOfZeroSpec : ChangeSpec := { name := "fnYieldOfZero", vars := ["loop.example/bonddesk/impl.monthDays", "loop.example/bonddesk/impl.errRange"], fn := fun _ => fun
  | [d, g1, g2] => { results := [.lit (.bool true)], args := [d], vars := [g1, g2] }
  | _ => none }
def fnYieldOfZeroRow : OpenClaim := { program := "ytkgjciacdjhhfaadoor", sum := "e5636ce051d9fcf3ac7a02829520b66de8fc9f7f25962c9fa77de03dd685d8c6", func := "loop.example/bonddesk/laws.FnYieldOfZero", spec := "fnYieldOfZero", unfollowed := true, recurses := true, named := ["loop.example/bonddesk/impl.monthDays", "loop.example/bonddesk/impl.errRange"], ifaces := true, apart := false, laid := [("loop.example/bonddesk/impl.monthDays", laid_loop_example_bonddesk_impl_monthDays), ("loop.example/bonddesk/impl.errRange", laid_loop_example_bonddesk_impl_errRange)] }
def FnYieldOfZeroSaid : Prop := fnYieldOfZeroRow.holds Tryd.pinned (OpenSpec.ofChange fnYieldOfZeroSpec)

/-- ITS FALSE NEIGHBOUR: 'it returns false'. Refute it at one input. -/
def fnYieldOfZeroWrong : ChangeSpec := { name := "fnYieldOfZero", vars := ["loop.example/bonddesk/impl.monthDays", "loop.example/bonddesk/impl.errRange"], fn := fun _ => fun
  | [d, g1, g2] => { results := [.lit (.bool false)], args := [d], vars := [g1, g2] }
  | _ => none }
def FnYieldOfZeroWrongFalsely : Prop := fnYieldOfZeroRow.holds Tryd.pinned (OpenSpec.ofChange fnYieldOfZeroWrong)

/-- 'laws.FnShockOf': WHATEVER THE INPUT: true; the input reads as it did. -/
def fnShockOfSpec : ChangeSpec := { name := "fnShockOf", vars := ["loop.example/bonddesk/impl.monthDays", "loop.example/bonddesk/impl.errRange"], fn := fun _ => fun
  | [d, g1, g2] => { results := [.lit (.bool true)], args := [d], vars := [g1, g2] }
  | _ => none }
def fnShockOfRow : OpenClaim := { program := "ytkgjciacdjhhfaadoor", sum := "e5636ce051d9fcf3ac7a02829520b66de8fc9f7f25962c9fa77de03dd685d8c6", func := "loop.example/bonddesk/laws.FnShockOf", spec := "fnShockOf", unfollowed := true, recurses := true, named := ["loop.example/bonddesk/impl.monthDays", "loop.example/bonddesk/impl.errRange"], ifaces := true, apart := false, laid := [("loop.example/bonddesk/impl.monthDays", laid_loop_example_bonddesk_impl_monthDays), ("loop.example/bonddesk/impl.errRange", laid_loop_example_bonddesk_impl_errRange)] }
def FnShockOfSaid : Prop := fnShockOfRow.holds Tryd.pinned (OpenSpec.ofChange fnShockOfSpec)

/-- ITS FALSE NEIGHBOUR: 'it returns false'. Refute it at one input. -/
def fnShockOfWrong : ChangeSpec := { name := "fnShockOf", vars := ["loop.example/bonddesk/impl.monthDays", "loop.example/bonddesk/impl.errRange"], fn := fun _ => fun
  | [d, g1, g2] => { results := [.lit (.bool false)], args := [d], vars := [g1, g2] }
  | _ => none }
def FnShockOfWrongFalsely : Prop := fnShockOfRow.holds Tryd.pinned (OpenSpec.ofChange fnShockOfWrong)

/-- 'laws.FnShockOfOne': WHATEVER THE INPUT: true; the input reads as it did. -/
def fnShockOfOneSpec : ChangeSpec := { name := "fnShockOfOne", vars := ["loop.example/bonddesk/impl.monthDays", "loop.example/bonddesk/impl.errRange"], fn := fun _ => fun
  | [d, g1, g2] => { results := [.lit (.bool true)], args := [d], vars := [g1, g2] }
  | _ => none }
def fnShockOfOneRow : OpenClaim := { program := "ytkgjciacdjhhfaadoor", sum := "e5636ce051d9fcf3ac7a02829520b66de8fc9f7f25962c9fa77de03dd685d8c6", func := "loop.example/bonddesk/laws.FnShockOfOne", spec := "fnShockOfOne", unfollowed := true, recurses := true, named := ["loop.example/bonddesk/impl.monthDays", "loop.example/bonddesk/impl.errRange"], ifaces := true, apart := false, laid := [("loop.example/bonddesk/impl.monthDays", laid_loop_example_bonddesk_impl_monthDays), ("loop.example/bonddesk/impl.errRange", laid_loop_example_bonddesk_impl_errRange)] }
def FnShockOfOneSaid : Prop := fnShockOfOneRow.holds Tryd.pinned (OpenSpec.ofChange fnShockOfOneSpec)

/-- ITS FALSE NEIGHBOUR: 'it returns false'. Refute it at one input. -/
def fnShockOfOneWrong : ChangeSpec := { name := "fnShockOfOne", vars := ["loop.example/bonddesk/impl.monthDays", "loop.example/bonddesk/impl.errRange"], fn := fun _ => fun
  | [d, g1, g2] => { results := [.lit (.bool false)], args := [d], vars := [g1, g2] }
  | _ => none }
def FnShockOfOneWrongFalsely : Prop := fnShockOfOneRow.holds Tryd.pinned (OpenSpec.ofChange fnShockOfOneWrong)

/- THE SECOND FORM. 'bulk': how many values and letters a reading holds, each counted each time it is reached (what is shared counts as often as it is met; a slice's spare places count too). A statement '..UptoSaid' is the law's where the arguments, and the package variables that the reading takes, are together of bulk at most 1048576: NARROWER than '..Said'. Prove '..Said' where nothing that the law and all that it calls make is longer than what came in: it says more and counts as full. Else prove '..UptoSaid'. A law counts once. -/
mutual
def uptoBulk {H : Type} : DataW H → Nat
  | .lit (.string bytes) => bytes.length + 1
  | .lit _ => 1
  | .nil => 1
  | .ptr d => uptoBulk d + 1
  | .slice elems spare => uptoBulkAll elems + uptoBulkAll spare + 1
  | .agg parts => uptoBulkAll parts + 1
  | .iface _ d => uptoBulk d + 1
  | .map entries => uptoBulkEntries entries + 1
  | .held _ => 1
def uptoBulkAll {H : Type} : List (DataW H) → Nat
  | [] => 0
  | d :: r => uptoBulk d + uptoBulkAll r
def uptoBulkEntries {H : Type} : List (Lit × DataW H) → Nat
  | [] => 0
  | x :: r => uptoBulkEntry x + uptoBulkEntries r
def uptoBulkEntry {H : Type} : Lit × DataW H → Nat
  | (.string bytes, d) => bytes.length + uptoBulk d + 1
  | (_, d) => uptoBulk d + 1
 end
def uptoSmall : (H : Type) → List (DataW H) → Bool := fun _ ds => decide (uptoBulkAll ds ≤ 1048576)
def OpenSpec.upto (s : _root_.Go.ChangeSpec) : _root_.Go.OpenSpec := { _root_.Go.OpenSpec.ofChange s with cond := some uptoSmall }

/-- 'laws.FnExactPriceOf', WHERE WHAT IT READS IS OF BULK AT MOST 1048576: true; the input reads as it did. -/
def fnExactPriceOfUptoRow : OpenClaim := { program := "ytkgjciacdjhhfaadoor", sum := "e5636ce051d9fcf3ac7a02829520b66de8fc9f7f25962c9fa77de03dd685d8c6", func := "loop.example/bonddesk/laws.FnExactPriceOf", spec := "fnExactPriceOf", unfollowed := true, recurses := true, named := ["loop.example/bonddesk/impl.monthDays", "loop.example/bonddesk/impl.errRange"], ifaces := true, apart := false, laid := [("loop.example/bonddesk/impl.monthDays", laid_loop_example_bonddesk_impl_monthDays), ("loop.example/bonddesk/impl.errRange", laid_loop_example_bonddesk_impl_errRange)], narrowed := true }
def FnExactPriceOfUptoSaid : Prop := fnExactPriceOfUptoRow.holds Tryd.pinned (OpenSpec.upto fnExactPriceOfSpec)

/-- 'laws.FnExactRiskOf', WHERE WHAT IT READS IS OF BULK AT MOST 1048576: true; the input reads as it did. -/
def fnExactRiskOfUptoRow : OpenClaim := { program := "ytkgjciacdjhhfaadoor", sum := "e5636ce051d9fcf3ac7a02829520b66de8fc9f7f25962c9fa77de03dd685d8c6", func := "loop.example/bonddesk/laws.FnExactRiskOf", spec := "fnExactRiskOf", unfollowed := true, recurses := true, named := ["loop.example/bonddesk/impl.monthDays", "loop.example/bonddesk/impl.errRange"], ifaces := true, apart := false, laid := [("loop.example/bonddesk/impl.monthDays", laid_loop_example_bonddesk_impl_monthDays), ("loop.example/bonddesk/impl.errRange", laid_loop_example_bonddesk_impl_errRange)], narrowed := true }
def FnExactRiskOfUptoSaid : Prop := fnExactRiskOfUptoRow.holds Tryd.pinned (OpenSpec.upto fnExactRiskOfSpec)

/-- 'laws.FnExactYieldOf', WHERE WHAT IT READS IS OF BULK AT MOST 1048576: true; the input reads as it did. -/
def fnExactYieldOfUptoRow : OpenClaim := { program := "ytkgjciacdjhhfaadoor", sum := "e5636ce051d9fcf3ac7a02829520b66de8fc9f7f25962c9fa77de03dd685d8c6", func := "loop.example/bonddesk/laws.FnExactYieldOf", spec := "fnExactYieldOf", unfollowed := true, recurses := true, named := ["loop.example/bonddesk/impl.monthDays", "loop.example/bonddesk/impl.errRange"], ifaces := true, apart := false, laid := [("loop.example/bonddesk/impl.monthDays", laid_loop_example_bonddesk_impl_monthDays), ("loop.example/bonddesk/impl.errRange", laid_loop_example_bonddesk_impl_errRange)], narrowed := true }
def FnExactYieldOfUptoSaid : Prop := fnExactYieldOfUptoRow.holds Tryd.pinned (OpenSpec.upto fnExactYieldOfSpec)

/-- 'laws.FnExactShockOf', WHERE WHAT IT READS IS OF BULK AT MOST 1048576: true; the input reads as it did. -/
def fnExactShockOfUptoRow : OpenClaim := { program := "ytkgjciacdjhhfaadoor", sum := "e5636ce051d9fcf3ac7a02829520b66de8fc9f7f25962c9fa77de03dd685d8c6", func := "loop.example/bonddesk/laws.FnExactShockOf", spec := "fnExactShockOf", unfollowed := true, recurses := true, named := ["loop.example/bonddesk/impl.monthDays", "loop.example/bonddesk/impl.errRange"], ifaces := true, apart := false, laid := [("loop.example/bonddesk/impl.monthDays", laid_loop_example_bonddesk_impl_monthDays), ("loop.example/bonddesk/impl.errRange", laid_loop_example_bonddesk_impl_errRange)], narrowed := true }
def FnExactShockOfUptoSaid : Prop := fnExactShockOfUptoRow.holds Tryd.pinned (OpenSpec.upto fnExactShockOfSpec)

/-- 'laws.FnPriceOfNarrow', WHERE WHAT IT READS IS OF BULK AT MOST 1048576: true; the input reads as it did. -/
def fnPriceOfNarrowUptoRow : OpenClaim := { program := "ytkgjciacdjhhfaadoor", sum := "e5636ce051d9fcf3ac7a02829520b66de8fc9f7f25962c9fa77de03dd685d8c6", func := "loop.example/bonddesk/laws.FnPriceOfNarrow", spec := "fnPriceOfNarrow", unfollowed := true, recurses := true, named := ["loop.example/bonddesk/impl.monthDays", "loop.example/bonddesk/impl.errRange"], ifaces := true, apart := false, laid := [("loop.example/bonddesk/impl.monthDays", laid_loop_example_bonddesk_impl_monthDays), ("loop.example/bonddesk/impl.errRange", laid_loop_example_bonddesk_impl_errRange)], narrowed := true }
def FnPriceOfNarrowUptoSaid : Prop := fnPriceOfNarrowUptoRow.holds Tryd.pinned (OpenSpec.upto fnPriceOfNarrowSpec)

/-- 'laws.FnPriceOfRate', WHERE WHAT IT READS IS OF BULK AT MOST 1048576: true; the input reads as it did. -/
def fnPriceOfRateUptoRow : OpenClaim := { program := "ytkgjciacdjhhfaadoor", sum := "e5636ce051d9fcf3ac7a02829520b66de8fc9f7f25962c9fa77de03dd685d8c6", func := "loop.example/bonddesk/laws.FnPriceOfRate", spec := "fnPriceOfRate", unfollowed := true, recurses := true, named := ["loop.example/bonddesk/impl.monthDays", "loop.example/bonddesk/impl.errRange"], ifaces := true, apart := false, laid := [("loop.example/bonddesk/impl.monthDays", laid_loop_example_bonddesk_impl_monthDays), ("loop.example/bonddesk/impl.errRange", laid_loop_example_bonddesk_impl_errRange)], narrowed := true }
def FnPriceOfRateUptoSaid : Prop := fnPriceOfRateUptoRow.holds Tryd.pinned (OpenSpec.upto fnPriceOfRateSpec)

/-- 'laws.FnPriceOfEnd', WHERE WHAT IT READS IS OF BULK AT MOST 1048576: true; the input reads as it did. -/
def fnPriceOfEndUptoRow : OpenClaim := { program := "ytkgjciacdjhhfaadoor", sum := "e5636ce051d9fcf3ac7a02829520b66de8fc9f7f25962c9fa77de03dd685d8c6", func := "loop.example/bonddesk/laws.FnPriceOfEnd", spec := "fnPriceOfEnd", unfollowed := true, recurses := true, named := ["loop.example/bonddesk/impl.monthDays", "loop.example/bonddesk/impl.errRange"], ifaces := true, apart := false, laid := [("loop.example/bonddesk/impl.monthDays", laid_loop_example_bonddesk_impl_monthDays), ("loop.example/bonddesk/impl.errRange", laid_loop_example_bonddesk_impl_errRange)], narrowed := true }
def FnPriceOfEndUptoSaid : Prop := fnPriceOfEndUptoRow.holds Tryd.pinned (OpenSpec.upto fnPriceOfEndSpec)

/-- 'laws.FnRiskOfConvex', WHERE WHAT IT READS IS OF BULK AT MOST 1048576: true; the input reads as it did. -/
def fnRiskOfConvexUptoRow : OpenClaim := { program := "ytkgjciacdjhhfaadoor", sum := "e5636ce051d9fcf3ac7a02829520b66de8fc9f7f25962c9fa77de03dd685d8c6", func := "loop.example/bonddesk/laws.FnRiskOfConvex", spec := "fnRiskOfConvex", unfollowed := true, recurses := true, named := ["loop.example/bonddesk/impl.monthDays", "loop.example/bonddesk/impl.errRange"], ifaces := true, apart := false, laid := [("loop.example/bonddesk/impl.monthDays", laid_loop_example_bonddesk_impl_monthDays), ("loop.example/bonddesk/impl.errRange", laid_loop_example_bonddesk_impl_errRange)], narrowed := true }
def FnRiskOfConvexUptoSaid : Prop := fnRiskOfConvexUptoRow.holds Tryd.pinned (OpenSpec.upto fnRiskOfConvexSpec)

/-- 'laws.FnRiskOf', WHERE WHAT IT READS IS OF BULK AT MOST 1048576: true; the input reads as it did. -/
def fnRiskOfUptoRow : OpenClaim := { program := "ytkgjciacdjhhfaadoor", sum := "e5636ce051d9fcf3ac7a02829520b66de8fc9f7f25962c9fa77de03dd685d8c6", func := "loop.example/bonddesk/laws.FnRiskOf", spec := "fnRiskOf", unfollowed := true, recurses := true, named := ["loop.example/bonddesk/impl.monthDays", "loop.example/bonddesk/impl.errRange"], ifaces := true, apart := false, laid := [("loop.example/bonddesk/impl.monthDays", laid_loop_example_bonddesk_impl_monthDays), ("loop.example/bonddesk/impl.errRange", laid_loop_example_bonddesk_impl_errRange)], narrowed := true }
def FnRiskOfUptoSaid : Prop := fnRiskOfUptoRow.holds Tryd.pinned (OpenSpec.upto fnRiskOfSpec)

/-- 'laws.FnPriceOf', WHERE WHAT IT READS IS OF BULK AT MOST 1048576: true; the input reads as it did. -/
def fnPriceOfUptoRow : OpenClaim := { program := "ytkgjciacdjhhfaadoor", sum := "e5636ce051d9fcf3ac7a02829520b66de8fc9f7f25962c9fa77de03dd685d8c6", func := "loop.example/bonddesk/laws.FnPriceOf", spec := "fnPriceOf", unfollowed := true, recurses := true, named := ["loop.example/bonddesk/impl.monthDays", "loop.example/bonddesk/impl.errRange"], ifaces := true, apart := false, laid := [("loop.example/bonddesk/impl.monthDays", laid_loop_example_bonddesk_impl_monthDays), ("loop.example/bonddesk/impl.errRange", laid_loop_example_bonddesk_impl_errRange)], narrowed := true }
def FnPriceOfUptoSaid : Prop := fnPriceOfUptoRow.holds Tryd.pinned (OpenSpec.upto fnPriceOfSpec)

/-- 'laws.FnYieldOf', WHERE WHAT IT READS IS OF BULK AT MOST 1048576: true; the input reads as it did. -/
def fnYieldOfUptoRow : OpenClaim := { program := "ytkgjciacdjhhfaadoor", sum := "e5636ce051d9fcf3ac7a02829520b66de8fc9f7f25962c9fa77de03dd685d8c6", func := "loop.example/bonddesk/laws.FnYieldOf", spec := "fnYieldOf", unfollowed := true, recurses := true, named := ["loop.example/bonddesk/impl.monthDays", "loop.example/bonddesk/impl.errRange"], ifaces := true, apart := false, laid := [("loop.example/bonddesk/impl.monthDays", laid_loop_example_bonddesk_impl_monthDays), ("loop.example/bonddesk/impl.errRange", laid_loop_example_bonddesk_impl_errRange)], narrowed := true }
def FnYieldOfUptoSaid : Prop := fnYieldOfUptoRow.holds Tryd.pinned (OpenSpec.upto fnYieldOfSpec)

/-- 'laws.FnYieldOfNear', WHERE WHAT IT READS IS OF BULK AT MOST 1048576: true; the input reads as it did. -/
def fnYieldOfNearUptoRow : OpenClaim := { program := "ytkgjciacdjhhfaadoor", sum := "e5636ce051d9fcf3ac7a02829520b66de8fc9f7f25962c9fa77de03dd685d8c6", func := "loop.example/bonddesk/laws.FnYieldOfNear", spec := "fnYieldOfNear", unfollowed := true, recurses := true, named := ["loop.example/bonddesk/impl.monthDays", "loop.example/bonddesk/impl.errRange"], ifaces := true, apart := false, laid := [("loop.example/bonddesk/impl.monthDays", laid_loop_example_bonddesk_impl_monthDays), ("loop.example/bonddesk/impl.errRange", laid_loop_example_bonddesk_impl_errRange)], narrowed := true }
def FnYieldOfNearUptoSaid : Prop := fnYieldOfNearUptoRow.holds Tryd.pinned (OpenSpec.upto fnYieldOfNearSpec)

/-- 'laws.FnYieldOfZero', WHERE WHAT IT READS IS OF BULK AT MOST 1048576: true; the input reads as it did. -/
def fnYieldOfZeroUptoRow : OpenClaim := { program := "ytkgjciacdjhhfaadoor", sum := "e5636ce051d9fcf3ac7a02829520b66de8fc9f7f25962c9fa77de03dd685d8c6", func := "loop.example/bonddesk/laws.FnYieldOfZero", spec := "fnYieldOfZero", unfollowed := true, recurses := true, named := ["loop.example/bonddesk/impl.monthDays", "loop.example/bonddesk/impl.errRange"], ifaces := true, apart := false, laid := [("loop.example/bonddesk/impl.monthDays", laid_loop_example_bonddesk_impl_monthDays), ("loop.example/bonddesk/impl.errRange", laid_loop_example_bonddesk_impl_errRange)], narrowed := true }
def FnYieldOfZeroUptoSaid : Prop := fnYieldOfZeroUptoRow.holds Tryd.pinned (OpenSpec.upto fnYieldOfZeroSpec)

/-- 'laws.FnShockOf', WHERE WHAT IT READS IS OF BULK AT MOST 1048576: true; the input reads as it did. -/
def fnShockOfUptoRow : OpenClaim := { program := "ytkgjciacdjhhfaadoor", sum := "e5636ce051d9fcf3ac7a02829520b66de8fc9f7f25962c9fa77de03dd685d8c6", func := "loop.example/bonddesk/laws.FnShockOf", spec := "fnShockOf", unfollowed := true, recurses := true, named := ["loop.example/bonddesk/impl.monthDays", "loop.example/bonddesk/impl.errRange"], ifaces := true, apart := false, laid := [("loop.example/bonddesk/impl.monthDays", laid_loop_example_bonddesk_impl_monthDays), ("loop.example/bonddesk/impl.errRange", laid_loop_example_bonddesk_impl_errRange)], narrowed := true }
def FnShockOfUptoSaid : Prop := fnShockOfUptoRow.holds Tryd.pinned (OpenSpec.upto fnShockOfSpec)

/-- 'laws.FnShockOfOne', WHERE WHAT IT READS IS OF BULK AT MOST 1048576: true; the input reads as it did. -/
def fnShockOfOneUptoRow : OpenClaim := { program := "ytkgjciacdjhhfaadoor", sum := "e5636ce051d9fcf3ac7a02829520b66de8fc9f7f25962c9fa77de03dd685d8c6", func := "loop.example/bonddesk/laws.FnShockOfOne", spec := "fnShockOfOne", unfollowed := true, recurses := true, named := ["loop.example/bonddesk/impl.monthDays", "loop.example/bonddesk/impl.errRange"], ifaces := true, apart := false, laid := [("loop.example/bonddesk/impl.monthDays", laid_loop_example_bonddesk_impl_monthDays), ("loop.example/bonddesk/impl.errRange", laid_loop_example_bonddesk_impl_errRange)], narrowed := true }
def FnShockOfOneUptoSaid : Prop := fnShockOfOneUptoRow.holds Tryd.pinned (OpenSpec.upto fnShockOfOneSpec)

end Rows
end Go.Proofs.YtkgjciacdjhhfaaDoor
