/-
  NARROWER THAN 'FOR EVERY INPUT', by the rows' own cells (each row's printed sentence says how): FnExactAccruedOf: laid · FnExactCleanOf: laid · FnExactDirtyOf: laid · FnAccruedOfRate: laid · FnFlowsAfter: laid · FnFlowsAfterNone: laid · FnNextFlow: laid · FnDirtyOf: laid · FnCleanOf: laid · FnAccruedOf: laid · FnLifeOfZero: laid · FnLifeOf: laid · FnExactCouponPay: laid · FnCouponPay: laid.
  DERIVED. THE GIVEN ROWS OF THIS SEAT. 14 by the template 'for every input the law returns true; each argument reads behind the call as it read before'; 0 by the template 'total and deterministic' (their statements: YtpmafjmgacdgfaaDoorTotals.lean).
  GIVEN WITH THE SEED: the statements are not yours to turn. If you find one false, say at which input.
  Laid BY PROGRAM, IN A SANDBOX (cutbox-rows.mjs): the forced cells as the released guide's own fill.sh prints them over the translation ce3691a1928615a5… (all of the seat's roots in one cut). By AI agents, Wed Nov 11 2026. No macro, syntax, notation, axiom, sorry.
-/
import Derived.Test.YtpmafjmgacdgfaaDoorChecked
import GoSem.Claim
import GoSem.ClaimJoined
import GoSem.ClaimMapViews
import Derived.JoinedTies
import Derived.KernelRfl
namespace Go.Proofs.YtpmafjmgacdgfaaDoor
/- THE CELL 'sum', in the pinned program and in every row, IS THE sha256 OF THE DUMP (.gsa) THAT YtpmafjmgacdgfaaDoorProg.lean LOADS. Nothing in Lean hashes anything: it is a label: what it is worth is what the hold of that sum in a sandbox is worth. -/
noncomputable def Tryd.pinned : Pinned := { name := "ytpmafjmgacdgfaadoor", sum := "ce3691a1928615a5b2afbb39e53a65cd02618dd573ae33298939c46fc54f61fc", checked := Tryd.checked }
namespace Rows
def none {H : Type} : Left H := { results := [], args := [] }

/- WHAT THE LISTED PACKAGE-LEVEL VARIABLES READ AS WHEN THE CALL BEGINS. Each datum BY PROGRAM (the guide's laid-datum.mjs) off the statement by which the dump's own 'gosem.cut.vars' lays the variable. In a bare row this is a premise. The card (YtpmafjmgacdgfaaDoorCards.lean) ties it to the program's text. -/
def laid_loop_example_bonddesk_impl_monthDays {H : Type} : DataW H := .agg [.lit (.int .i64 31), .lit (.int .i64 28), .lit (.int .i64 31), .lit (.int .i64 30), .lit (.int .i64 31), .lit (.int .i64 30), .lit (.int .i64 31), .lit (.int .i64 31), .lit (.int .i64 30), .lit (.int .i64 31), .lit (.int .i64 30), .lit (.int .i64 31)]

/-- 'laws.FnExactAccruedOf': WHATEVER THE INPUT: true; the input reads as it did. -/
def fnExactAccruedOfSpec : ChangeSpec := { name := "fnExactAccruedOf", vars := ["loop.example/bonddesk/impl.monthDays"], fn := fun _ => fun
  | [d1, d2, g1] => { results := [.lit (.bool true)], args := [d1, d2], vars := [g1] }
  | _ => none }
def fnExactAccruedOfRow : OpenClaim := { program := "ytpmafjmgacdgfaadoor", sum := "ce3691a1928615a5b2afbb39e53a65cd02618dd573ae33298939c46fc54f61fc", func := "loop.example/bonddesk/laws.FnExactAccruedOf", spec := "fnExactAccruedOf", unfollowed := true, recurses := true, named := ["loop.example/bonddesk/impl.monthDays"], apart := false, laid := [("loop.example/bonddesk/impl.monthDays", laid_loop_example_bonddesk_impl_monthDays)] }
def FnExactAccruedOfSaid : Prop := fnExactAccruedOfRow.holds Tryd.pinned (OpenSpec.ofChange fnExactAccruedOfSpec)

/-- ITS FALSE NEIGHBOUR: 'it returns false'. Refute it at one input. -/
def fnExactAccruedOfWrong : ChangeSpec := { name := "fnExactAccruedOf", vars := ["loop.example/bonddesk/impl.monthDays"], fn := fun _ => fun
  | [d1, d2, g1] => { results := [.lit (.bool false)], args := [d1, d2], vars := [g1] }
  | _ => none }
def FnExactAccruedOfWrongFalsely : Prop := fnExactAccruedOfRow.holds Tryd.pinned (OpenSpec.ofChange fnExactAccruedOfWrong)

/-- 'laws.FnExactCleanOf': WHATEVER THE INPUT: true; the input reads as it did. -/
def fnExactCleanOfSpec : ChangeSpec := { name := "fnExactCleanOf", vars := ["loop.example/bonddesk/impl.monthDays"], fn := fun _ => fun
  | [d1, d2, d3, g1] => { results := [.lit (.bool true)], args := [d1, d2, d3], vars := [g1] }
  | _ => none }
def fnExactCleanOfRow : OpenClaim := { program := "ytpmafjmgacdgfaadoor", sum := "ce3691a1928615a5b2afbb39e53a65cd02618dd573ae33298939c46fc54f61fc", func := "loop.example/bonddesk/laws.FnExactCleanOf", spec := "fnExactCleanOf", unfollowed := true, recurses := true, named := ["loop.example/bonddesk/impl.monthDays"], apart := false, laid := [("loop.example/bonddesk/impl.monthDays", laid_loop_example_bonddesk_impl_monthDays)] }
def FnExactCleanOfSaid : Prop := fnExactCleanOfRow.holds Tryd.pinned (OpenSpec.ofChange fnExactCleanOfSpec)

/-- ITS FALSE NEIGHBOUR: 'it returns false'. Refute it at one input. -/
def fnExactCleanOfWrong : ChangeSpec := { name := "fnExactCleanOf", vars := ["loop.example/bonddesk/impl.monthDays"], fn := fun _ => fun
  | [d1, d2, d3, g1] => { results := [.lit (.bool false)], args := [d1, d2, d3], vars := [g1] }
  | _ => none }
def FnExactCleanOfWrongFalsely : Prop := fnExactCleanOfRow.holds Tryd.pinned (OpenSpec.ofChange fnExactCleanOfWrong)

/-- 'laws.FnExactDirtyOf': WHATEVER THE INPUT: true; the input reads as it did. -/
def fnExactDirtyOfSpec : ChangeSpec := { name := "fnExactDirtyOf", vars := ["loop.example/bonddesk/impl.monthDays"], fn := fun _ => fun
  | [d1, d2, d3, g1] => { results := [.lit (.bool true)], args := [d1, d2, d3], vars := [g1] }
  | _ => none }
def fnExactDirtyOfRow : OpenClaim := { program := "ytpmafjmgacdgfaadoor", sum := "ce3691a1928615a5b2afbb39e53a65cd02618dd573ae33298939c46fc54f61fc", func := "loop.example/bonddesk/laws.FnExactDirtyOf", spec := "fnExactDirtyOf", unfollowed := true, recurses := true, named := ["loop.example/bonddesk/impl.monthDays"], apart := false, laid := [("loop.example/bonddesk/impl.monthDays", laid_loop_example_bonddesk_impl_monthDays)] }
def FnExactDirtyOfSaid : Prop := fnExactDirtyOfRow.holds Tryd.pinned (OpenSpec.ofChange fnExactDirtyOfSpec)

/-- ITS FALSE NEIGHBOUR: 'it returns false'. Refute it at one input. -/
def fnExactDirtyOfWrong : ChangeSpec := { name := "fnExactDirtyOf", vars := ["loop.example/bonddesk/impl.monthDays"], fn := fun _ => fun
  | [d1, d2, d3, g1] => { results := [.lit (.bool false)], args := [d1, d2, d3], vars := [g1] }
  | _ => none }
def FnExactDirtyOfWrongFalsely : Prop := fnExactDirtyOfRow.holds Tryd.pinned (OpenSpec.ofChange fnExactDirtyOfWrong)

/-- 'laws.FnAccruedOfRate': WHATEVER THE INPUT: true; the input reads as it did. -/
def fnAccruedOfRateSpec : ChangeSpec := { name := "fnAccruedOfRate", vars := ["loop.example/bonddesk/impl.monthDays"], fn := fun _ => fun
  | [d, g1] => { results := [.lit (.bool true)], args := [d], vars := [g1] }
  | _ => none }
def fnAccruedOfRateRow : OpenClaim := { program := "ytpmafjmgacdgfaadoor", sum := "ce3691a1928615a5b2afbb39e53a65cd02618dd573ae33298939c46fc54f61fc", func := "loop.example/bonddesk/laws.FnAccruedOfRate", spec := "fnAccruedOfRate", unfollowed := true, recurses := true, named := ["loop.example/bonddesk/impl.monthDays"], apart := false, laid := [("loop.example/bonddesk/impl.monthDays", laid_loop_example_bonddesk_impl_monthDays)] }
def FnAccruedOfRateSaid : Prop := fnAccruedOfRateRow.holds Tryd.pinned (OpenSpec.ofChange fnAccruedOfRateSpec)

/-- ITS FALSE NEIGHBOUR: 'it returns false'. Refute it at one input. -/
def fnAccruedOfRateWrong : ChangeSpec := { name := "fnAccruedOfRate", vars := ["loop.example/bonddesk/impl.monthDays"], fn := fun _ => fun
  | [d, g1] => { results := [.lit (.bool false)], args := [d], vars := [g1] }
  | _ => none }
def FnAccruedOfRateWrongFalsely : Prop := fnAccruedOfRateRow.holds Tryd.pinned (OpenSpec.ofChange fnAccruedOfRateWrong)

/-- 'laws.FnFlowsAfter': WHATEVER THE INPUT: true; the input reads as it did. -/
def fnFlowsAfterSpec : ChangeSpec := { name := "fnFlowsAfter", vars := ["loop.example/bonddesk/impl.monthDays"], fn := fun _ => fun
  | [d, g1] => { results := [.lit (.bool true)], args := [d], vars := [g1] }
  | _ => none }
def fnFlowsAfterRow : OpenClaim := { program := "ytpmafjmgacdgfaadoor", sum := "ce3691a1928615a5b2afbb39e53a65cd02618dd573ae33298939c46fc54f61fc", func := "loop.example/bonddesk/laws.FnFlowsAfter", spec := "fnFlowsAfter", unfollowed := true, recurses := true, named := ["loop.example/bonddesk/impl.monthDays"], apart := false, laid := [("loop.example/bonddesk/impl.monthDays", laid_loop_example_bonddesk_impl_monthDays)] }
def FnFlowsAfterSaid : Prop := fnFlowsAfterRow.holds Tryd.pinned (OpenSpec.ofChange fnFlowsAfterSpec)

/-- ITS FALSE NEIGHBOUR: 'it returns false'. Refute it at one input. -/
def fnFlowsAfterWrong : ChangeSpec := { name := "fnFlowsAfter", vars := ["loop.example/bonddesk/impl.monthDays"], fn := fun _ => fun
  | [d, g1] => { results := [.lit (.bool false)], args := [d], vars := [g1] }
  | _ => none }
def FnFlowsAfterWrongFalsely : Prop := fnFlowsAfterRow.holds Tryd.pinned (OpenSpec.ofChange fnFlowsAfterWrong)

/-- 'laws.FnFlowsAfterNone': WHATEVER THE INPUT: true; the input reads as it did. -/
def fnFlowsAfterNoneSpec : ChangeSpec := { name := "fnFlowsAfterNone", vars := ["loop.example/bonddesk/impl.monthDays"], fn := fun _ => fun
  | [d, g1] => { results := [.lit (.bool true)], args := [d], vars := [g1] }
  | _ => none }
def fnFlowsAfterNoneRow : OpenClaim := { program := "ytpmafjmgacdgfaadoor", sum := "ce3691a1928615a5b2afbb39e53a65cd02618dd573ae33298939c46fc54f61fc", func := "loop.example/bonddesk/laws.FnFlowsAfterNone", spec := "fnFlowsAfterNone", unfollowed := true, recurses := true, named := ["loop.example/bonddesk/impl.monthDays"], apart := false, laid := [("loop.example/bonddesk/impl.monthDays", laid_loop_example_bonddesk_impl_monthDays)] }
def FnFlowsAfterNoneSaid : Prop := fnFlowsAfterNoneRow.holds Tryd.pinned (OpenSpec.ofChange fnFlowsAfterNoneSpec)

/-- ITS FALSE NEIGHBOUR: 'it returns false'. Refute it at one input. -/
def fnFlowsAfterNoneWrong : ChangeSpec := { name := "fnFlowsAfterNone", vars := ["loop.example/bonddesk/impl.monthDays"], fn := fun _ => fun
  | [d, g1] => { results := [.lit (.bool false)], args := [d], vars := [g1] }
  | _ => none }
def FnFlowsAfterNoneWrongFalsely : Prop := fnFlowsAfterNoneRow.holds Tryd.pinned (OpenSpec.ofChange fnFlowsAfterNoneWrong)

/-- 'laws.FnNextFlow': WHATEVER THE INPUT: true; the input reads as it did. -/
def fnNextFlowSpec : ChangeSpec := { name := "fnNextFlow", vars := ["loop.example/bonddesk/impl.monthDays"], fn := fun _ => fun
  | [d, g1] => { results := [.lit (.bool true)], args := [d], vars := [g1] }
  | _ => none }
def fnNextFlowRow : OpenClaim := { program := "ytpmafjmgacdgfaadoor", sum := "ce3691a1928615a5b2afbb39e53a65cd02618dd573ae33298939c46fc54f61fc", func := "loop.example/bonddesk/laws.FnNextFlow", spec := "fnNextFlow", unfollowed := true, recurses := true, named := ["loop.example/bonddesk/impl.monthDays"], apart := false, laid := [("loop.example/bonddesk/impl.monthDays", laid_loop_example_bonddesk_impl_monthDays)] }
def FnNextFlowSaid : Prop := fnNextFlowRow.holds Tryd.pinned (OpenSpec.ofChange fnNextFlowSpec)

/-- ITS FALSE NEIGHBOUR: 'it returns false'. Refute it at one input. -/
def fnNextFlowWrong : ChangeSpec := { name := "fnNextFlow", vars := ["loop.example/bonddesk/impl.monthDays"], fn := fun _ => fun
  | [d, g1] => { results := [.lit (.bool false)], args := [d], vars := [g1] }
  | _ => none }
def FnNextFlowWrongFalsely : Prop := fnNextFlowRow.holds Tryd.pinned (OpenSpec.ofChange fnNextFlowWrong)

/-- 'laws.FnDirtyOf': WHATEVER THE INPUT: true; the input reads as it did. -/
def fnDirtyOfSpec : ChangeSpec := { name := "fnDirtyOf", vars := ["loop.example/bonddesk/impl.monthDays"], fn := fun _ => fun
  | [d, g1] => { results := [.lit (.bool true)], args := [d], vars := [g1] }
  | _ => none }
def fnDirtyOfRow : OpenClaim := { program := "ytpmafjmgacdgfaadoor", sum := "ce3691a1928615a5b2afbb39e53a65cd02618dd573ae33298939c46fc54f61fc", func := "loop.example/bonddesk/laws.FnDirtyOf", spec := "fnDirtyOf", unfollowed := true, recurses := true, named := ["loop.example/bonddesk/impl.monthDays"], apart := false, laid := [("loop.example/bonddesk/impl.monthDays", laid_loop_example_bonddesk_impl_monthDays)] }
def FnDirtyOfSaid : Prop := fnDirtyOfRow.holds Tryd.pinned (OpenSpec.ofChange fnDirtyOfSpec)

/-- ITS FALSE NEIGHBOUR: 'it returns false'. Refute it at one input. -/
def fnDirtyOfWrong : ChangeSpec := { name := "fnDirtyOf", vars := ["loop.example/bonddesk/impl.monthDays"], fn := fun _ => fun
  | [d, g1] => { results := [.lit (.bool false)], args := [d], vars := [g1] }
  | _ => none }
def FnDirtyOfWrongFalsely : Prop := fnDirtyOfRow.holds Tryd.pinned (OpenSpec.ofChange fnDirtyOfWrong)

/-- 'laws.FnCleanOf': WHATEVER THE INPUT: true; the input reads as it did. -/
def fnCleanOfSpec : ChangeSpec := { name := "fnCleanOf", vars := ["loop.example/bonddesk/impl.monthDays"], fn := fun _ => fun
  | [d, g1] => { results := [.lit (.bool true)], args := [d], vars := [g1] }
  | _ => none }
def fnCleanOfRow : OpenClaim := { program := "ytpmafjmgacdgfaadoor", sum := "ce3691a1928615a5b2afbb39e53a65cd02618dd573ae33298939c46fc54f61fc", func := "loop.example/bonddesk/laws.FnCleanOf", spec := "fnCleanOf", unfollowed := true, recurses := true, named := ["loop.example/bonddesk/impl.monthDays"], apart := false, laid := [("loop.example/bonddesk/impl.monthDays", laid_loop_example_bonddesk_impl_monthDays)] }
def FnCleanOfSaid : Prop := fnCleanOfRow.holds Tryd.pinned (OpenSpec.ofChange fnCleanOfSpec)

/-- ITS FALSE NEIGHBOUR: 'it returns false'. Refute it at one input. -/
def fnCleanOfWrong : ChangeSpec := { name := "fnCleanOf", vars := ["loop.example/bonddesk/impl.monthDays"], fn := fun _ => fun
  | [d, g1] => { results := [.lit (.bool false)], args := [d], vars := [g1] }
  | _ => none }
def FnCleanOfWrongFalsely : Prop := fnCleanOfRow.holds Tryd.pinned (OpenSpec.ofChange fnCleanOfWrong)

/-- 'laws.FnAccruedOf': WHATEVER THE INPUT: true; the input reads as it did. -/
def fnAccruedOfSpec : ChangeSpec := { name := "fnAccruedOf", vars := ["loop.example/bonddesk/impl.monthDays"], fn := fun _ => fun
  | [d, g1] => { results := [.lit (.bool true)], args := [d], vars := [g1] }
  | _ => none }
def fnAccruedOfRow : OpenClaim := { program := "ytpmafjmgacdgfaadoor", sum := "ce3691a1928615a5b2afbb39e53a65cd02618dd573ae33298939c46fc54f61fc", func := "loop.example/bonddesk/laws.FnAccruedOf", spec := "fnAccruedOf", unfollowed := true, recurses := true, named := ["loop.example/bonddesk/impl.monthDays"], apart := false, laid := [("loop.example/bonddesk/impl.monthDays", laid_loop_example_bonddesk_impl_monthDays)] }
def FnAccruedOfSaid : Prop := fnAccruedOfRow.holds Tryd.pinned (OpenSpec.ofChange fnAccruedOfSpec)

/-- ITS FALSE NEIGHBOUR: 'it returns false'. Refute it at one input. -/
def fnAccruedOfWrong : ChangeSpec := { name := "fnAccruedOf", vars := ["loop.example/bonddesk/impl.monthDays"], fn := fun _ => fun
  | [d, g1] => { results := [.lit (.bool false)], args := [d], vars := [g1] }
  | _ => none }
def FnAccruedOfWrongFalsely : Prop := fnAccruedOfRow.holds Tryd.pinned (OpenSpec.ofChange fnAccruedOfWrong)

/-- 'laws.FnLifeOfZero': WHATEVER THE INPUT: true; the input reads as it did. -/
def fnLifeOfZeroSpec : ChangeSpec := { name := "fnLifeOfZero", vars := ["loop.example/bonddesk/impl.monthDays"], fn := fun _ => fun
  | [d, g1] => { results := [.lit (.bool true)], args := [d], vars := [g1] }
  | _ => none }
def fnLifeOfZeroRow : OpenClaim := { program := "ytpmafjmgacdgfaadoor", sum := "ce3691a1928615a5b2afbb39e53a65cd02618dd573ae33298939c46fc54f61fc", func := "loop.example/bonddesk/laws.FnLifeOfZero", spec := "fnLifeOfZero", unfollowed := true, recurses := true, named := ["loop.example/bonddesk/impl.monthDays"], apart := false, laid := [("loop.example/bonddesk/impl.monthDays", laid_loop_example_bonddesk_impl_monthDays)] }
def FnLifeOfZeroSaid : Prop := fnLifeOfZeroRow.holds Tryd.pinned (OpenSpec.ofChange fnLifeOfZeroSpec)

/-- ITS FALSE NEIGHBOUR: 'it returns false'. Refute it at one input. -/
def fnLifeOfZeroWrong : ChangeSpec := { name := "fnLifeOfZero", vars := ["loop.example/bonddesk/impl.monthDays"], fn := fun _ => fun
  | [d, g1] => { results := [.lit (.bool false)], args := [d], vars := [g1] }
  | _ => none }
def FnLifeOfZeroWrongFalsely : Prop := fnLifeOfZeroRow.holds Tryd.pinned (OpenSpec.ofChange fnLifeOfZeroWrong)

/-- 'laws.FnLifeOf': WHATEVER THE INPUT: true; the input reads as it did. -/
def fnLifeOfSpec : ChangeSpec := { name := "fnLifeOf", vars := ["loop.example/bonddesk/impl.monthDays"], fn := fun _ => fun
  | [d, g1] => { results := [.lit (.bool true)], args := [d], vars := [g1] }
  | _ => none }
def fnLifeOfRow : OpenClaim := { program := "ytpmafjmgacdgfaadoor", sum := "ce3691a1928615a5b2afbb39e53a65cd02618dd573ae33298939c46fc54f61fc", func := "loop.example/bonddesk/laws.FnLifeOf", spec := "fnLifeOf", unfollowed := true, recurses := true, named := ["loop.example/bonddesk/impl.monthDays"], apart := false, laid := [("loop.example/bonddesk/impl.monthDays", laid_loop_example_bonddesk_impl_monthDays)] }
def FnLifeOfSaid : Prop := fnLifeOfRow.holds Tryd.pinned (OpenSpec.ofChange fnLifeOfSpec)

/-- ITS FALSE NEIGHBOUR: 'it returns false'. Refute it at one input. -/
def fnLifeOfWrong : ChangeSpec := { name := "fnLifeOf", vars := ["loop.example/bonddesk/impl.monthDays"], fn := fun _ => fun
  | [d, g1] => { results := [.lit (.bool false)], args := [d], vars := [g1] }
  | _ => none }
def FnLifeOfWrongFalsely : Prop := fnLifeOfRow.holds Tryd.pinned (OpenSpec.ofChange fnLifeOfWrong)

/-- 'laws.FnExactCouponPay': WHATEVER THE INPUT: true; the input reads as it did. -/
def fnExactCouponPaySpec : ChangeSpec := { name := "fnExactCouponPay", vars := ["loop.example/bonddesk/impl.monthDays"], fn := fun _ => fun
  | [d1, d2, d3, g1] => { results := [.lit (.bool true)], args := [d1, d2, d3], vars := [g1] }
  | _ => none }
def fnExactCouponPayRow : OpenClaim := { program := "ytpmafjmgacdgfaadoor", sum := "ce3691a1928615a5b2afbb39e53a65cd02618dd573ae33298939c46fc54f61fc", func := "loop.example/bonddesk/laws.FnExactCouponPay", spec := "fnExactCouponPay", unfollowed := true, recurses := true, named := ["loop.example/bonddesk/impl.monthDays"], apart := false, laid := [("loop.example/bonddesk/impl.monthDays", laid_loop_example_bonddesk_impl_monthDays)] }
def FnExactCouponPaySaid : Prop := fnExactCouponPayRow.holds Tryd.pinned (OpenSpec.ofChange fnExactCouponPaySpec)

/-- ITS FALSE NEIGHBOUR: 'it returns false'. Refute it at one input. -/
def fnExactCouponPayWrong : ChangeSpec := { name := "fnExactCouponPay", vars := ["loop.example/bonddesk/impl.monthDays"], fn := fun _ => fun
  | [d1, d2, d3, g1] => { results := [.lit (.bool false)], args := [d1, d2, d3], vars := [g1] }
  | _ => none }
def FnExactCouponPayWrongFalsely : Prop := fnExactCouponPayRow.holds Tryd.pinned (OpenSpec.ofChange fnExactCouponPayWrong)

/-- 'laws.FnCouponPay': WHATEVER THE INPUT: true; the input reads as it did. -/
def fnCouponPaySpec : ChangeSpec := { name := "fnCouponPay", vars := ["loop.example/bonddesk/impl.monthDays"], fn := fun _ => fun
  | [d, g1] => { results := [.lit (.bool true)], args := [d], vars := [g1] }
  | _ => none }
def fnCouponPayRow : OpenClaim := { program := "ytpmafjmgacdgfaadoor", sum := "ce3691a1928615a5b2afbb39e53a65cd02618dd573ae33298939c46fc54f61fc", func := "loop.example/bonddesk/laws.FnCouponPay", spec := "fnCouponPay", unfollowed := true, recurses := true, named := ["loop.example/bonddesk/impl.monthDays"], apart := false, laid := [("loop.example/bonddesk/impl.monthDays", laid_loop_example_bonddesk_impl_monthDays)] }
def FnCouponPaySaid : Prop := fnCouponPayRow.holds Tryd.pinned (OpenSpec.ofChange fnCouponPaySpec)

/-- ITS FALSE NEIGHBOUR: 'it returns false'. Refute it at one input. -/
def fnCouponPayWrong : ChangeSpec := { name := "fnCouponPay", vars := ["loop.example/bonddesk/impl.monthDays"], fn := fun _ => fun
  | [d, g1] => { results := [.lit (.bool false)], args := [d], vars := [g1] }
  | _ => none }
def FnCouponPayWrongFalsely : Prop := fnCouponPayRow.holds Tryd.pinned (OpenSpec.ofChange fnCouponPayWrong)

/- THE SECOND FORM. 'bulk': how many values and letters a reading holds, each counted each time it is reached (what is shared counts as often as it is met; a slice's spare places count too). A statement '..UptoSaid' is the law's where the arguments, and the package variables that the reading takes, are together of bulk at most 1048576: NARROWER than '..Said'. Prove '..Said' where nothing that the law and all that it calls make is longer than what came in: it says more and counts as full. Else prove '..UptoSaid'. A law counts once. -/
mutual
def uptoBulk {H : Type} : DataW H → Nat
  | .lit (.string bytes) => bytes.length + 1
  | .lit _ => 1
  | .nil => 1
  | .ptr d => uptoBulk d + 1
  | .slice elems spare => uptoBulkAll elems + uptoBulkAll spare + 1
  | .agg parts => uptoBulkAll parts + 1
  | .iface _ d => uptoBulk d + 1
  | .map entries => uptoBulkEntries entries + 1
  | .held _ => 1
def uptoBulkAll {H : Type} : List (DataW H) → Nat
  | [] => 0
  | d :: r => uptoBulk d + uptoBulkAll r
def uptoBulkEntries {H : Type} : List (Lit × DataW H) → Nat
  | [] => 0
  | x :: r => uptoBulkEntry x + uptoBulkEntries r
def uptoBulkEntry {H : Type} : Lit × DataW H → Nat
  | (.string bytes, d) => bytes.length + uptoBulk d + 1
  | (_, d) => uptoBulk d + 1
 end
def uptoSmall : (H : Type) → List (DataW H) → Bool := fun _ ds => decide (uptoBulkAll ds ≤ 1048576)
def OpenSpec.upto (s : _root_.Go.ChangeSpec) : _root_.Go.OpenSpec := { _root_.Go.OpenSpec.ofChange s with cond := some uptoSmall }

/-- 'laws.FnExactAccruedOf', WHERE WHAT IT READS IS OF BULK AT MOST 1048576: true; the input reads as it did. -/
def fnExactAccruedOfUptoRow : OpenClaim := { program := "ytpmafjmgacdgfaadoor", sum := "ce3691a1928615a5b2afbb39e53a65cd02618dd573ae33298939c46fc54f61fc", func := "loop.example/bonddesk/laws.FnExactAccruedOf", spec := "fnExactAccruedOf", unfollowed := true, recurses := true, named := ["loop.example/bonddesk/impl.monthDays"], apart := false, laid := [("loop.example/bonddesk/impl.monthDays", laid_loop_example_bonddesk_impl_monthDays)], narrowed := true }
def FnExactAccruedOfUptoSaid : Prop := fnExactAccruedOfUptoRow.holds Tryd.pinned (OpenSpec.upto fnExactAccruedOfSpec)

/-- 'laws.FnExactCleanOf', WHERE WHAT IT READS IS OF BULK AT MOST 1048576: true; the input reads as it did. -/
def fnExactCleanOfUptoRow : OpenClaim := { program := "ytpmafjmgacdgfaadoor", sum := "ce3691a1928615a5b2afbb39e53a65cd02618dd573ae33298939c46fc54f61fc", func := "loop.example/bonddesk/laws.FnExactCleanOf", spec := "fnExactCleanOf", unfollowed := true, recurses := true, named := ["loop.example/bonddesk/impl.monthDays"], apart := false, laid := [("loop.example/bonddesk/impl.monthDays", laid_loop_example_bonddesk_impl_monthDays)], narrowed := true }
def FnExactCleanOfUptoSaid : Prop := fnExactCleanOfUptoRow.holds Tryd.pinned (OpenSpec.upto fnExactCleanOfSpec)

/-- 'laws.FnExactDirtyOf', WHERE WHAT IT READS IS OF BULK AT MOST 1048576: true; the input reads as it did. -/
def fnExactDirtyOfUptoRow : OpenClaim := { program := "ytpmafjmgacdgfaadoor", sum := "ce3691a1928615a5b2afbb39e53a65cd02618dd573ae33298939c46fc54f61fc", func := "loop.example/bonddesk/laws.FnExactDirtyOf", spec := "fnExactDirtyOf", unfollowed := true, recurses := true, named := ["loop.example/bonddesk/impl.monthDays"], apart := false, laid := [("loop.example/bonddesk/impl.monthDays", laid_loop_example_bonddesk_impl_monthDays)], narrowed := true }
def FnExactDirtyOfUptoSaid : Prop := fnExactDirtyOfUptoRow.holds Tryd.pinned (OpenSpec.upto fnExactDirtyOfSpec)

/-- 'laws.FnAccruedOfRate', WHERE WHAT IT READS IS OF BULK AT MOST 1048576: true; the input reads as it did. -/
def fnAccruedOfRateUptoRow : OpenClaim := { program := "ytpmafjmgacdgfaadoor", sum := "ce3691a1928615a5b2afbb39e53a65cd02618dd573ae33298939c46fc54f61fc", func := "loop.example/bonddesk/laws.FnAccruedOfRate", spec := "fnAccruedOfRate", unfollowed := true, recurses := true, named := ["loop.example/bonddesk/impl.monthDays"], apart := false, laid := [("loop.example/bonddesk/impl.monthDays", laid_loop_example_bonddesk_impl_monthDays)], narrowed := true }
def FnAccruedOfRateUptoSaid : Prop := fnAccruedOfRateUptoRow.holds Tryd.pinned (OpenSpec.upto fnAccruedOfRateSpec)

/-- 'laws.FnFlowsAfter', WHERE WHAT IT READS IS OF BULK AT MOST 1048576: true; the input reads as it did. -/
def fnFlowsAfterUptoRow : OpenClaim := { program := "ytpmafjmgacdgfaadoor", sum := "ce3691a1928615a5b2afbb39e53a65cd02618dd573ae33298939c46fc54f61fc", func := "loop.example/bonddesk/laws.FnFlowsAfter", spec := "fnFlowsAfter", unfollowed := true, recurses := true, named := ["loop.example/bonddesk/impl.monthDays"], apart := false, laid := [("loop.example/bonddesk/impl.monthDays", laid_loop_example_bonddesk_impl_monthDays)], narrowed := true }
def FnFlowsAfterUptoSaid : Prop := fnFlowsAfterUptoRow.holds Tryd.pinned (OpenSpec.upto fnFlowsAfterSpec)

/-- 'laws.FnFlowsAfterNone', WHERE WHAT IT READS IS OF BULK AT MOST 1048576: true; the input reads as it did. -/
def fnFlowsAfterNoneUptoRow : OpenClaim := { program := "ytpmafjmgacdgfaadoor", sum := "ce3691a1928615a5b2afbb39e53a65cd02618dd573ae33298939c46fc54f61fc", func := "loop.example/bonddesk/laws.FnFlowsAfterNone", spec := "fnFlowsAfterNone", unfollowed := true, recurses := true, named := ["loop.example/bonddesk/impl.monthDays"], apart := false, laid := [("loop.example/bonddesk/impl.monthDays", laid_loop_example_bonddesk_impl_monthDays)], narrowed := true }
def FnFlowsAfterNoneUptoSaid : Prop := fnFlowsAfterNoneUptoRow.holds Tryd.pinned (OpenSpec.upto fnFlowsAfterNoneSpec)

/-- 'laws.FnNextFlow', WHERE WHAT IT READS IS OF BULK AT MOST 1048576: true; the input reads as it did. -/
def fnNextFlowUptoRow : OpenClaim := { program := "ytpmafjmgacdgfaadoor", sum := "ce3691a1928615a5b2afbb39e53a65cd02618dd573ae33298939c46fc54f61fc", func := "loop.example/bonddesk/laws.FnNextFlow", spec := "fnNextFlow", unfollowed := true, recurses := true, named := ["loop.example/bonddesk/impl.monthDays"], apart := false, laid := [("loop.example/bonddesk/impl.monthDays", laid_loop_example_bonddesk_impl_monthDays)], narrowed := true }
def FnNextFlowUptoSaid : Prop := fnNextFlowUptoRow.holds Tryd.pinned (OpenSpec.upto fnNextFlowSpec)

/-- 'laws.FnDirtyOf', WHERE WHAT IT READS IS OF BULK AT MOST 1048576: true; the input reads as it did. -/
def fnDirtyOfUptoRow : OpenClaim := { program := "ytpmafjmgacdgfaadoor", sum := "ce3691a1928615a5b2afbb39e53a65cd02618dd573ae33298939c46fc54f61fc", func := "loop.example/bonddesk/laws.FnDirtyOf", spec := "fnDirtyOf", unfollowed := true, recurses := true, named := ["loop.example/bonddesk/impl.monthDays"], apart := false, laid := [("loop.example/bonddesk/impl.monthDays", laid_loop_example_bonddesk_impl_monthDays)], narrowed := true }
def FnDirtyOfUptoSaid : Prop := fnDirtyOfUptoRow.holds Tryd.pinned (OpenSpec.upto fnDirtyOfSpec)

/-- 'laws.FnCleanOf', WHERE WHAT IT READS IS OF BULK AT MOST 1048576: true; the input reads as it did. -/
def fnCleanOfUptoRow : OpenClaim := { program := "ytpmafjmgacdgfaadoor", sum := "ce3691a1928615a5b2afbb39e53a65cd02618dd573ae33298939c46fc54f61fc", func := "loop.example/bonddesk/laws.FnCleanOf", spec := "fnCleanOf", unfollowed := true, recurses := true, named := ["loop.example/bonddesk/impl.monthDays"], apart := false, laid := [("loop.example/bonddesk/impl.monthDays", laid_loop_example_bonddesk_impl_monthDays)], narrowed := true }
def FnCleanOfUptoSaid : Prop := fnCleanOfUptoRow.holds Tryd.pinned (OpenSpec.upto fnCleanOfSpec)

/-- 'laws.FnAccruedOf', WHERE WHAT IT READS IS OF BULK AT MOST 1048576: true; the input reads as it did. -/
def fnAccruedOfUptoRow : OpenClaim := { program := "ytpmafjmgacdgfaadoor", sum := "ce3691a1928615a5b2afbb39e53a65cd02618dd573ae33298939c46fc54f61fc", func := "loop.example/bonddesk/laws.FnAccruedOf", spec := "fnAccruedOf", unfollowed := true, recurses := true, named := ["loop.example/bonddesk/impl.monthDays"], apart := false, laid := [("loop.example/bonddesk/impl.monthDays", laid_loop_example_bonddesk_impl_monthDays)], narrowed := true }
def FnAccruedOfUptoSaid : Prop := fnAccruedOfUptoRow.holds Tryd.pinned (OpenSpec.upto fnAccruedOfSpec)

/-- 'laws.FnLifeOfZero', WHERE WHAT IT READS IS OF BULK AT MOST 1048576: true; the input reads as it did. -/
def fnLifeOfZeroUptoRow : OpenClaim := { program := "ytpmafjmgacdgfaadoor", sum := "ce3691a1928615a5b2afbb39e53a65cd02618dd573ae33298939c46fc54f61fc", func := "loop.example/bonddesk/laws.FnLifeOfZero", spec := "fnLifeOfZero", unfollowed := true, recurses := true, named := ["loop.example/bonddesk/impl.monthDays"], apart := false, laid := [("loop.example/bonddesk/impl.monthDays", laid_loop_example_bonddesk_impl_monthDays)], narrowed := true }
def FnLifeOfZeroUptoSaid : Prop := fnLifeOfZeroUptoRow.holds Tryd.pinned (OpenSpec.upto fnLifeOfZeroSpec)

/-- 'laws.FnLifeOf', WHERE WHAT IT READS IS OF BULK AT MOST 1048576: true; the input reads as it did. -/
def fnLifeOfUptoRow : OpenClaim := { program := "ytpmafjmgacdgfaadoor", sum := "ce3691a1928615a5b2afbb39e53a65cd02618dd573ae33298939c46fc54f61fc", func := "loop.example/bonddesk/laws.FnLifeOf", spec := "fnLifeOf", unfollowed := true, recurses := true, named := ["loop.example/bonddesk/impl.monthDays"], apart := false, laid := [("loop.example/bonddesk/impl.monthDays", laid_loop_example_bonddesk_impl_monthDays)], narrowed := true }
def FnLifeOfUptoSaid : Prop := fnLifeOfUptoRow.holds Tryd.pinned (OpenSpec.upto fnLifeOfSpec)

/-- 'laws.FnExactCouponPay', WHERE WHAT IT READS IS OF BULK AT MOST 1048576: true; the input reads as it did. -/
def fnExactCouponPayUptoRow : OpenClaim := { program := "ytpmafjmgacdgfaadoor", sum := "ce3691a1928615a5b2afbb39e53a65cd02618dd573ae33298939c46fc54f61fc", func := "loop.example/bonddesk/laws.FnExactCouponPay", spec := "fnExactCouponPay", unfollowed := true, recurses := true, named := ["loop.example/bonddesk/impl.monthDays"], apart := false, laid := [("loop.example/bonddesk/impl.monthDays", laid_loop_example_bonddesk_impl_monthDays)], narrowed := true }
def FnExactCouponPayUptoSaid : Prop := fnExactCouponPayUptoRow.holds Tryd.pinned (OpenSpec.upto fnExactCouponPaySpec)

/-- 'laws.FnCouponPay', WHERE WHAT IT READS IS OF BULK AT MOST 1048576: true; the input reads as it did. -/
def fnCouponPayUptoRow : OpenClaim := { program := "ytpmafjmgacdgfaadoor", sum := "ce3691a1928615a5b2afbb39e53a65cd02618dd573ae33298939c46fc54f61fc", func := "loop.example/bonddesk/laws.FnCouponPay", spec := "fnCouponPay", unfollowed := true, recurses := true, named := ["loop.example/bonddesk/impl.monthDays"], apart := false, laid := [("loop.example/bonddesk/impl.monthDays", laid_loop_example_bonddesk_impl_monthDays)], narrowed := true }
def FnCouponPayUptoSaid : Prop := fnCouponPayUptoRow.holds Tryd.pinned (OpenSpec.upto fnCouponPaySpec)

end Rows
end Go.Proofs.YtpmafjmgacdgfaaDoor
