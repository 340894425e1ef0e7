/-
  No cell of these rows narrows 'for every input' (looked for: loops, veiled, ifaces, maps, wideKeys, modest, calm, conditions, laid).
  DERIVED. THE GIVEN ROWS OF THIS SEAT. 16 by the template 'for every input the law returns true; each argument reads behind the call as it read before'; 0 by the template 'total and deterministic' (their statements: YtecboohippbliaaTotals.lean).
  GIVEN WITH THE SEED: the statements are not yours to turn. If you find one false, say at which input.
  Laid BY PROGRAM, IN A SANDBOX (cutbox-rows.mjs): the forced cells as the released guide's own fill.sh prints them over the translation 826cd99d8e5de1f6… (all of the seat's roots in one cut). By AI agents, Wed Nov 11 2026. No macro, syntax, notation, axiom, sorry.
-/
import Derived.Test.YtecboohippbliaaChecked
import GoSem.Claim
import GoSem.ClaimJoined
import GoSem.ClaimMapViews
import Derived.JoinedTies
import Derived.KernelRfl
namespace Go.Proofs.Ytecboohippbliaa
/- THE CELL 'sum', in the pinned program and in every row, IS THE sha256 OF THE DUMP (.gsa) THAT YtecboohippbliaaProg.lean LOADS. Nothing in Lean hashes anything: it is a label: what it is worth is what the hold of that sum in a sandbox is worth. -/
noncomputable def Try.pinned : Pinned := { name := "ytecboohippbliaa", sum := "826cd99d8e5de1f659f84bde95c2f05cf4aadd24dcb82f1eafefa023f8193dbb", checked := Try.checked }
namespace Rows
def none {H : Type} : Left H := { results := [], args := [] }

/-- 'laws.FnExactProRate': WHATEVER THE INPUT: true; the input reads as it did. -/
def fnExactProRateSpec : ChangeSpec := { name := "fnExactProRate", fn := fun _ => fun
  | [d1, d2] => { results := [.lit (.bool true)], args := [d1, d2] }
  | _ => none }
def fnExactProRateRow : OpenClaim := { program := "ytecboohippbliaa", sum := "826cd99d8e5de1f659f84bde95c2f05cf4aadd24dcb82f1eafefa023f8193dbb", func := "loop.example/bonddesk/laws.FnExactProRate", spec := "fnExactProRate", unfollowed := true, recurses := true, apart := false }
def FnExactProRateSaid : Prop := fnExactProRateRow.holds Try.pinned (OpenSpec.ofChange fnExactProRateSpec)

/-- ITS FALSE NEIGHBOUR: 'it returns false'. Refute it at one input. -/
def fnExactProRateWrong : ChangeSpec := { name := "fnExactProRate", fn := fun _ => fun
  | [d1, d2] => { results := [.lit (.bool false)], args := [d1, d2] }
  | _ => none }
def FnExactProRateWrongFalsely : Prop := fnExactProRateRow.holds Try.pinned (OpenSpec.ofChange fnExactProRateWrong)

/-- 'laws.FnExactDrawLots': WHATEVER THE INPUT: true; the input reads as it did. -/
def fnExactDrawLotsSpec : ChangeSpec := { name := "fnExactDrawLots", fn := fun _ => fun
  | [d1, d2] => { results := [.lit (.bool true)], args := [d1, d2] }
  | _ => none }
def fnExactDrawLotsRow : OpenClaim := { program := "ytecboohippbliaa", sum := "826cd99d8e5de1f659f84bde95c2f05cf4aadd24dcb82f1eafefa023f8193dbb", func := "loop.example/bonddesk/laws.FnExactDrawLots", spec := "fnExactDrawLots", unfollowed := true, recurses := true, apart := false }
def FnExactDrawLotsSaid : Prop := fnExactDrawLotsRow.holds Try.pinned (OpenSpec.ofChange fnExactDrawLotsSpec)

/-- ITS FALSE NEIGHBOUR: 'it returns false'. Refute it at one input. -/
def fnExactDrawLotsWrong : ChangeSpec := { name := "fnExactDrawLots", fn := fun _ => fun
  | [d1, d2] => { results := [.lit (.bool false)], args := [d1, d2] }
  | _ => none }
def FnExactDrawLotsWrongFalsely : Prop := fnExactDrawLotsRow.holds Try.pinned (OpenSpec.ofChange fnExactDrawLotsWrong)

/-- 'laws.FnProRateOrder': WHATEVER THE INPUT: true; the input reads as it did. -/
def fnProRateOrderSpec : ChangeSpec := { name := "fnProRateOrder", fn := fun _ => fun
  | [d] => { results := [.lit (.bool true)], args := [d] }
  | _ => none }
def fnProRateOrderRow : OpenClaim := { program := "ytecboohippbliaa", sum := "826cd99d8e5de1f659f84bde95c2f05cf4aadd24dcb82f1eafefa023f8193dbb", func := "loop.example/bonddesk/laws.FnProRateOrder", spec := "fnProRateOrder", unfollowed := true, recurses := true, apart := false }
def FnProRateOrderSaid : Prop := fnProRateOrderRow.holds Try.pinned (OpenSpec.ofChange fnProRateOrderSpec)

/-- ITS FALSE NEIGHBOUR: 'it returns false'. Refute it at one input. -/
def fnProRateOrderWrong : ChangeSpec := { name := "fnProRateOrder", fn := fun _ => fun
  | [d] => { results := [.lit (.bool false)], args := [d] }
  | _ => none }
def FnProRateOrderWrongFalsely : Prop := fnProRateOrderRow.holds Try.pinned (OpenSpec.ofChange fnProRateOrderWrong)

/-- 'laws.FnProRate': WHATEVER THE INPUT: true; the input reads as it did. -/
def fnProRateSpec : ChangeSpec := { name := "fnProRate", fn := fun _ => fun
  | [d] => { results := [.lit (.bool true)], args := [d] }
  | _ => none }
def fnProRateRow : OpenClaim := { program := "ytecboohippbliaa", sum := "826cd99d8e5de1f659f84bde95c2f05cf4aadd24dcb82f1eafefa023f8193dbb", func := "loop.example/bonddesk/laws.FnProRate", spec := "fnProRate", unfollowed := true, recurses := true, apart := false }
def FnProRateSaid : Prop := fnProRateRow.holds Try.pinned (OpenSpec.ofChange fnProRateSpec)

/-- ITS FALSE NEIGHBOUR: 'it returns false'. Refute it at one input. -/
def fnProRateWrong : ChangeSpec := { name := "fnProRate", fn := fun _ => fun
  | [d] => { results := [.lit (.bool false)], args := [d] }
  | _ => none }
def FnProRateWrongFalsely : Prop := fnProRateRow.holds Try.pinned (OpenSpec.ofChange fnProRateWrong)

/-- 'laws.FnProRateEqual': WHATEVER THE INPUT: true; the input reads as it did. -/
def fnProRateEqualSpec : ChangeSpec := { name := "fnProRateEqual", fn := fun _ => fun
  | [d] => { results := [.lit (.bool true)], args := [d] }
  | _ => none }
def fnProRateEqualRow : OpenClaim := { program := "ytecboohippbliaa", sum := "826cd99d8e5de1f659f84bde95c2f05cf4aadd24dcb82f1eafefa023f8193dbb", func := "loop.example/bonddesk/laws.FnProRateEqual", spec := "fnProRateEqual", unfollowed := true, recurses := true, apart := false }
def FnProRateEqualSaid : Prop := fnProRateEqualRow.holds Try.pinned (OpenSpec.ofChange fnProRateEqualSpec)

/-- ITS FALSE NEIGHBOUR: 'it returns false'. Refute it at one input. -/
def fnProRateEqualWrong : ChangeSpec := { name := "fnProRateEqual", fn := fun _ => fun
  | [d] => { results := [.lit (.bool false)], args := [d] }
  | _ => none }
def FnProRateEqualWrongFalsely : Prop := fnProRateEqualRow.holds Try.pinned (OpenSpec.ofChange fnProRateEqualWrong)

/-- 'laws.FnDrawLots': WHATEVER THE INPUT: true; the input reads as it did. -/
def fnDrawLotsSpec : ChangeSpec := { name := "fnDrawLots", fn := fun _ => fun
  | [d] => { results := [.lit (.bool true)], args := [d] }
  | _ => none }
def fnDrawLotsRow : OpenClaim := { program := "ytecboohippbliaa", sum := "826cd99d8e5de1f659f84bde95c2f05cf4aadd24dcb82f1eafefa023f8193dbb", func := "loop.example/bonddesk/laws.FnDrawLots", spec := "fnDrawLots", unfollowed := true, recurses := true, apart := false }
def FnDrawLotsSaid : Prop := fnDrawLotsRow.holds Try.pinned (OpenSpec.ofChange fnDrawLotsSpec)

/-- ITS FALSE NEIGHBOUR: 'it returns false'. Refute it at one input. -/
def fnDrawLotsWrong : ChangeSpec := { name := "fnDrawLots", fn := fun _ => fun
  | [d] => { results := [.lit (.bool false)], args := [d] }
  | _ => none }
def FnDrawLotsWrongFalsely : Prop := fnDrawLotsRow.holds Try.pinned (OpenSpec.ofChange fnDrawLotsWrong)

/-- 'laws.FnExactCapWeights': WHATEVER THE INPUT: true; the input reads as it did. -/
def fnExactCapWeightsSpec : ChangeSpec := { name := "fnExactCapWeights", fn := fun _ => fun
  | [d1, d2] => { results := [.lit (.bool true)], args := [d1, d2] }
  | _ => none }
def fnExactCapWeightsRow : OpenClaim := { program := "ytecboohippbliaa", sum := "826cd99d8e5de1f659f84bde95c2f05cf4aadd24dcb82f1eafefa023f8193dbb", func := "loop.example/bonddesk/laws.FnExactCapWeights", spec := "fnExactCapWeights", unfollowed := true, recurses := true, apart := false }
def FnExactCapWeightsSaid : Prop := fnExactCapWeightsRow.holds Try.pinned (OpenSpec.ofChange fnExactCapWeightsSpec)

/-- ITS FALSE NEIGHBOUR: 'it returns false'. Refute it at one input. -/
def fnExactCapWeightsWrong : ChangeSpec := { name := "fnExactCapWeights", fn := fun _ => fun
  | [d1, d2] => { results := [.lit (.bool false)], args := [d1, d2] }
  | _ => none }
def FnExactCapWeightsWrongFalsely : Prop := fnExactCapWeightsRow.holds Try.pinned (OpenSpec.ofChange fnExactCapWeightsWrong)

/-- 'laws.FnCapWeightsEqual': WHATEVER THE INPUT: true; the input reads as it did. -/
def fnCapWeightsEqualSpec : ChangeSpec := { name := "fnCapWeightsEqual", fn := fun _ => fun
  | [d] => { results := [.lit (.bool true)], args := [d] }
  | _ => none }
def fnCapWeightsEqualRow : OpenClaim := { program := "ytecboohippbliaa", sum := "826cd99d8e5de1f659f84bde95c2f05cf4aadd24dcb82f1eafefa023f8193dbb", func := "loop.example/bonddesk/laws.FnCapWeightsEqual", spec := "fnCapWeightsEqual", unfollowed := true, recurses := true, apart := false }
def FnCapWeightsEqualSaid : Prop := fnCapWeightsEqualRow.holds Try.pinned (OpenSpec.ofChange fnCapWeightsEqualSpec)

/-- ITS FALSE NEIGHBOUR: 'it returns false'. Refute it at one input. -/
def fnCapWeightsEqualWrong : ChangeSpec := { name := "fnCapWeightsEqual", fn := fun _ => fun
  | [d] => { results := [.lit (.bool false)], args := [d] }
  | _ => none }
def FnCapWeightsEqualWrongFalsely : Prop := fnCapWeightsEqualRow.holds Try.pinned (OpenSpec.ofChange fnCapWeightsEqualWrong)

/-- 'laws.FnCapWeights': WHATEVER THE INPUT: true; the input reads as it did. -/
def fnCapWeightsSpec : ChangeSpec := { name := "fnCapWeights", fn := fun _ => fun
  | [d] => { results := [.lit (.bool true)], args := [d] }
  | _ => none }
def fnCapWeightsRow : OpenClaim := { program := "ytecboohippbliaa", sum := "826cd99d8e5de1f659f84bde95c2f05cf4aadd24dcb82f1eafefa023f8193dbb", func := "loop.example/bonddesk/laws.FnCapWeights", spec := "fnCapWeights", unfollowed := true, recurses := true, apart := false }
def FnCapWeightsSaid : Prop := fnCapWeightsRow.holds Try.pinned (OpenSpec.ofChange fnCapWeightsSpec)

/-- ITS FALSE NEIGHBOUR: 'it returns false'. Refute it at one input. -/
def fnCapWeightsWrong : ChangeSpec := { name := "fnCapWeights", fn := fun _ => fun
  | [d] => { results := [.lit (.bool false)], args := [d] }
  | _ => none }
def FnCapWeightsWrongFalsely : Prop := fnCapWeightsRow.holds Try.pinned (OpenSpec.ofChange fnCapWeightsWrong)

/-- 'laws.FnStopYield': WHATEVER THE INPUT: true; the input reads as it did. -/
def fnStopYieldSpec : ChangeSpec := { name := "fnStopYield", fn := fun _ => fun
  | [d] => { results := [.lit (.bool true)], args := [d] }
  | _ => none }
def fnStopYieldRow : OpenClaim := { program := "ytecboohippbliaa", sum := "826cd99d8e5de1f659f84bde95c2f05cf4aadd24dcb82f1eafefa023f8193dbb", func := "loop.example/bonddesk/laws.FnStopYield", spec := "fnStopYield", unfollowed := true, recurses := true, apart := false }
def FnStopYieldSaid : Prop := fnStopYieldRow.holds Try.pinned (OpenSpec.ofChange fnStopYieldSpec)

/-- ITS FALSE NEIGHBOUR: 'it returns false'. Refute it at one input. -/
def fnStopYieldWrong : ChangeSpec := { name := "fnStopYield", fn := fun _ => fun
  | [d] => { results := [.lit (.bool false)], args := [d] }
  | _ => none }
def FnStopYieldWrongFalsely : Prop := fnStopYieldRow.holds Try.pinned (OpenSpec.ofChange fnStopYieldWrong)

/-- 'laws.FnStopYieldMore': WHATEVER THE INPUT: true; the input reads as it did. -/
def fnStopYieldMoreSpec : ChangeSpec := { name := "fnStopYieldMore", fn := fun _ => fun
  | [d] => { results := [.lit (.bool true)], args := [d] }
  | _ => none }
def fnStopYieldMoreRow : OpenClaim := { program := "ytecboohippbliaa", sum := "826cd99d8e5de1f659f84bde95c2f05cf4aadd24dcb82f1eafefa023f8193dbb", func := "loop.example/bonddesk/laws.FnStopYieldMore", spec := "fnStopYieldMore", unfollowed := true, recurses := true, apart := false }
def FnStopYieldMoreSaid : Prop := fnStopYieldMoreRow.holds Try.pinned (OpenSpec.ofChange fnStopYieldMoreSpec)

/-- ITS FALSE NEIGHBOUR: 'it returns false'. Refute it at one input. -/
def fnStopYieldMoreWrong : ChangeSpec := { name := "fnStopYieldMore", fn := fun _ => fun
  | [d] => { results := [.lit (.bool false)], args := [d] }
  | _ => none }
def FnStopYieldMoreWrongFalsely : Prop := fnStopYieldMoreRow.holds Try.pinned (OpenSpec.ofChange fnStopYieldMoreWrong)

/-- 'laws.FnExactStopYield': WHATEVER THE INPUT: true; the input reads as it did. -/
def fnExactStopYieldSpec : ChangeSpec := { name := "fnExactStopYield", fn := fun _ => fun
  | [d1, d2] => { results := [.lit (.bool true)], args := [d1, d2] }
  | _ => none }
def fnExactStopYieldRow : OpenClaim := { program := "ytecboohippbliaa", sum := "826cd99d8e5de1f659f84bde95c2f05cf4aadd24dcb82f1eafefa023f8193dbb", func := "loop.example/bonddesk/laws.FnExactStopYield", spec := "fnExactStopYield", unfollowed := true, recurses := true, apart := false }
def FnExactStopYieldSaid : Prop := fnExactStopYieldRow.holds Try.pinned (OpenSpec.ofChange fnExactStopYieldSpec)

/-- ITS FALSE NEIGHBOUR: 'it returns false'. Refute it at one input. -/
def fnExactStopYieldWrong : ChangeSpec := { name := "fnExactStopYield", fn := fun _ => fun
  | [d1, d2] => { results := [.lit (.bool false)], args := [d1, d2] }
  | _ => none }
def FnExactStopYieldWrongFalsely : Prop := fnExactStopYieldRow.holds Try.pinned (OpenSpec.ofChange fnExactStopYieldWrong)

/-- 'laws.FnAllotBidsOrder': WHATEVER THE INPUT: true; the input reads as it did. -/
def fnAllotBidsOrderSpec : ChangeSpec := { name := "fnAllotBidsOrder", fn := fun _ => fun
  | [d] => { results := [.lit (.bool true)], args := [d] }
  | _ => none }
def fnAllotBidsOrderRow : OpenClaim := { program := "ytecboohippbliaa", sum := "826cd99d8e5de1f659f84bde95c2f05cf4aadd24dcb82f1eafefa023f8193dbb", func := "loop.example/bonddesk/laws.FnAllotBidsOrder", spec := "fnAllotBidsOrder", unfollowed := true, recurses := true, apart := false }
def FnAllotBidsOrderSaid : Prop := fnAllotBidsOrderRow.holds Try.pinned (OpenSpec.ofChange fnAllotBidsOrderSpec)

/-- ITS FALSE NEIGHBOUR: 'it returns false'. Refute it at one input. -/
def fnAllotBidsOrderWrong : ChangeSpec := { name := "fnAllotBidsOrder", fn := fun _ => fun
  | [d] => { results := [.lit (.bool false)], args := [d] }
  | _ => none }
def FnAllotBidsOrderWrongFalsely : Prop := fnAllotBidsOrderRow.holds Try.pinned (OpenSpec.ofChange fnAllotBidsOrderWrong)

/-- 'laws.FnAllotBids': WHATEVER THE INPUT: true; the input reads as it did. -/
def fnAllotBidsSpec : ChangeSpec := { name := "fnAllotBids", fn := fun _ => fun
  | [d] => { results := [.lit (.bool true)], args := [d] }
  | _ => none }
def fnAllotBidsRow : OpenClaim := { program := "ytecboohippbliaa", sum := "826cd99d8e5de1f659f84bde95c2f05cf4aadd24dcb82f1eafefa023f8193dbb", func := "loop.example/bonddesk/laws.FnAllotBids", spec := "fnAllotBids", unfollowed := true, recurses := true, apart := false }
def FnAllotBidsSaid : Prop := fnAllotBidsRow.holds Try.pinned (OpenSpec.ofChange fnAllotBidsSpec)

/-- ITS FALSE NEIGHBOUR: 'it returns false'. Refute it at one input. -/
def fnAllotBidsWrong : ChangeSpec := { name := "fnAllotBids", fn := fun _ => fun
  | [d] => { results := [.lit (.bool false)], args := [d] }
  | _ => none }
def FnAllotBidsWrongFalsely : Prop := fnAllotBidsRow.holds Try.pinned (OpenSpec.ofChange fnAllotBidsWrong)

/-- 'laws.FnAllotBidsAll': WHATEVER THE INPUT: true; the input reads as it did. -/
def fnAllotBidsAllSpec : ChangeSpec := { name := "fnAllotBidsAll", fn := fun _ => fun
  | [d] => { results := [.lit (.bool true)], args := [d] }
  | _ => none }
def fnAllotBidsAllRow : OpenClaim := { program := "ytecboohippbliaa", sum := "826cd99d8e5de1f659f84bde95c2f05cf4aadd24dcb82f1eafefa023f8193dbb", func := "loop.example/bonddesk/laws.FnAllotBidsAll", spec := "fnAllotBidsAll", unfollowed := true, recurses := true, apart := false }
def FnAllotBidsAllSaid : Prop := fnAllotBidsAllRow.holds Try.pinned (OpenSpec.ofChange fnAllotBidsAllSpec)

/-- ITS FALSE NEIGHBOUR: 'it returns false'. Refute it at one input. -/
def fnAllotBidsAllWrong : ChangeSpec := { name := "fnAllotBidsAll", fn := fun _ => fun
  | [d] => { results := [.lit (.bool false)], args := [d] }
  | _ => none }
def FnAllotBidsAllWrongFalsely : Prop := fnAllotBidsAllRow.holds Try.pinned (OpenSpec.ofChange fnAllotBidsAllWrong)

/-- 'laws.FnExactAllotBids': WHATEVER THE INPUT: true; the input reads as it did. -/
def fnExactAllotBidsSpec : ChangeSpec := { name := "fnExactAllotBids", fn := fun _ => fun
  | [d1, d2] => { results := [.lit (.bool true)], args := [d1, d2] }
  | _ => none }
def fnExactAllotBidsRow : OpenClaim := { program := "ytecboohippbliaa", sum := "826cd99d8e5de1f659f84bde95c2f05cf4aadd24dcb82f1eafefa023f8193dbb", func := "loop.example/bonddesk/laws.FnExactAllotBids", spec := "fnExactAllotBids", unfollowed := true, recurses := true, apart := false }
def FnExactAllotBidsSaid : Prop := fnExactAllotBidsRow.holds Try.pinned (OpenSpec.ofChange fnExactAllotBidsSpec)

/-- ITS FALSE NEIGHBOUR: 'it returns false'. Refute it at one input. -/
def fnExactAllotBidsWrong : ChangeSpec := { name := "fnExactAllotBids", fn := fun _ => fun
  | [d1, d2] => { results := [.lit (.bool false)], args := [d1, d2] }
  | _ => none }
def FnExactAllotBidsWrongFalsely : Prop := fnExactAllotBidsRow.holds Try.pinned (OpenSpec.ofChange fnExactAllotBidsWrong)

/- THE SECOND FORM. 'bulk': how many values and letters a reading holds, each counted each time it is reached (what is shared counts as often as it is met; a slice's spare places count too). A statement '..UptoSaid' is the law's where the arguments, and the package variables that the reading takes, are together of bulk at most 1048576: NARROWER than '..Said'. Prove '..Said' where nothing that the law and all that it calls make is longer than what came in: it says more and counts as full. Else prove '..UptoSaid'. A law counts once. -/
mutual
def uptoBulk {H : Type} : DataW H → Nat
  | .lit (.string bytes) => bytes.length + 1
  | .lit _ => 1
  | .nil => 1
  | .ptr d => uptoBulk d + 1
  | .slice elems spare => uptoBulkAll elems + uptoBulkAll spare + 1
  | .agg parts => uptoBulkAll parts + 1
  | .iface _ d => uptoBulk d + 1
  | .map entries => uptoBulkEntries entries + 1
  | .held _ => 1
def uptoBulkAll {H : Type} : List (DataW H) → Nat
  | [] => 0
  | d :: r => uptoBulk d + uptoBulkAll r
def uptoBulkEntries {H : Type} : List (Lit × DataW H) → Nat
  | [] => 0
  | x :: r => uptoBulkEntry x + uptoBulkEntries r
def uptoBulkEntry {H : Type} : Lit × DataW H → Nat
  | (.string bytes, d) => bytes.length + uptoBulk d + 1
  | (_, d) => uptoBulk d + 1
 end
def uptoSmall : (H : Type) → List (DataW H) → Bool := fun _ ds => decide (uptoBulkAll ds ≤ 1048576)
def OpenSpec.upto (s : _root_.Go.ChangeSpec) : _root_.Go.OpenSpec := { _root_.Go.OpenSpec.ofChange s with cond := some uptoSmall }

/-- 'laws.FnExactProRate', WHERE WHAT IT READS IS OF BULK AT MOST 1048576: true; the input reads as it did. -/
def fnExactProRateUptoRow : OpenClaim := { program := "ytecboohippbliaa", sum := "826cd99d8e5de1f659f84bde95c2f05cf4aadd24dcb82f1eafefa023f8193dbb", func := "loop.example/bonddesk/laws.FnExactProRate", spec := "fnExactProRate", unfollowed := true, recurses := true, apart := false, narrowed := true }
def FnExactProRateUptoSaid : Prop := fnExactProRateUptoRow.holds Try.pinned (OpenSpec.upto fnExactProRateSpec)

/-- 'laws.FnExactDrawLots', WHERE WHAT IT READS IS OF BULK AT MOST 1048576: true; the input reads as it did. -/
def fnExactDrawLotsUptoRow : OpenClaim := { program := "ytecboohippbliaa", sum := "826cd99d8e5de1f659f84bde95c2f05cf4aadd24dcb82f1eafefa023f8193dbb", func := "loop.example/bonddesk/laws.FnExactDrawLots", spec := "fnExactDrawLots", unfollowed := true, recurses := true, apart := false, narrowed := true }
def FnExactDrawLotsUptoSaid : Prop := fnExactDrawLotsUptoRow.holds Try.pinned (OpenSpec.upto fnExactDrawLotsSpec)

/-- 'laws.FnProRateOrder', WHERE WHAT IT READS IS OF BULK AT MOST 1048576: true; the input reads as it did. -/
def fnProRateOrderUptoRow : OpenClaim := { program := "ytecboohippbliaa", sum := "826cd99d8e5de1f659f84bde95c2f05cf4aadd24dcb82f1eafefa023f8193dbb", func := "loop.example/bonddesk/laws.FnProRateOrder", spec := "fnProRateOrder", unfollowed := true, recurses := true, apart := false, narrowed := true }
def FnProRateOrderUptoSaid : Prop := fnProRateOrderUptoRow.holds Try.pinned (OpenSpec.upto fnProRateOrderSpec)

/-- 'laws.FnProRate', WHERE WHAT IT READS IS OF BULK AT MOST 1048576: true; the input reads as it did. -/
def fnProRateUptoRow : OpenClaim := { program := "ytecboohippbliaa", sum := "826cd99d8e5de1f659f84bde95c2f05cf4aadd24dcb82f1eafefa023f8193dbb", func := "loop.example/bonddesk/laws.FnProRate", spec := "fnProRate", unfollowed := true, recurses := true, apart := false, narrowed := true }
def FnProRateUptoSaid : Prop := fnProRateUptoRow.holds Try.pinned (OpenSpec.upto fnProRateSpec)

/-- 'laws.FnProRateEqual', WHERE WHAT IT READS IS OF BULK AT MOST 1048576: true; the input reads as it did. -/
def fnProRateEqualUptoRow : OpenClaim := { program := "ytecboohippbliaa", sum := "826cd99d8e5de1f659f84bde95c2f05cf4aadd24dcb82f1eafefa023f8193dbb", func := "loop.example/bonddesk/laws.FnProRateEqual", spec := "fnProRateEqual", unfollowed := true, recurses := true, apart := false, narrowed := true }
def FnProRateEqualUptoSaid : Prop := fnProRateEqualUptoRow.holds Try.pinned (OpenSpec.upto fnProRateEqualSpec)

/-- 'laws.FnDrawLots', WHERE WHAT IT READS IS OF BULK AT MOST 1048576: true; the input reads as it did. -/
def fnDrawLotsUptoRow : OpenClaim := { program := "ytecboohippbliaa", sum := "826cd99d8e5de1f659f84bde95c2f05cf4aadd24dcb82f1eafefa023f8193dbb", func := "loop.example/bonddesk/laws.FnDrawLots", spec := "fnDrawLots", unfollowed := true, recurses := true, apart := false, narrowed := true }
def FnDrawLotsUptoSaid : Prop := fnDrawLotsUptoRow.holds Try.pinned (OpenSpec.upto fnDrawLotsSpec)

/-- 'laws.FnExactCapWeights', WHERE WHAT IT READS IS OF BULK AT MOST 1048576: true; the input reads as it did. -/
def fnExactCapWeightsUptoRow : OpenClaim := { program := "ytecboohippbliaa", sum := "826cd99d8e5de1f659f84bde95c2f05cf4aadd24dcb82f1eafefa023f8193dbb", func := "loop.example/bonddesk/laws.FnExactCapWeights", spec := "fnExactCapWeights", unfollowed := true, recurses := true, apart := false, narrowed := true }
def FnExactCapWeightsUptoSaid : Prop := fnExactCapWeightsUptoRow.holds Try.pinned (OpenSpec.upto fnExactCapWeightsSpec)

/-- 'laws.FnCapWeightsEqual', WHERE WHAT IT READS IS OF BULK AT MOST 1048576: true; the input reads as it did. -/
def fnCapWeightsEqualUptoRow : OpenClaim := { program := "ytecboohippbliaa", sum := "826cd99d8e5de1f659f84bde95c2f05cf4aadd24dcb82f1eafefa023f8193dbb", func := "loop.example/bonddesk/laws.FnCapWeightsEqual", spec := "fnCapWeightsEqual", unfollowed := true, recurses := true, apart := false, narrowed := true }
def FnCapWeightsEqualUptoSaid : Prop := fnCapWeightsEqualUptoRow.holds Try.pinned (OpenSpec.upto fnCapWeightsEqualSpec)

/-- 'laws.FnCapWeights', WHERE WHAT IT READS IS OF BULK AT MOST 1048576: true; the input reads as it did. -/
def fnCapWeightsUptoRow : OpenClaim := { program := "ytecboohippbliaa", sum := "826cd99d8e5de1f659f84bde95c2f05cf4aadd24dcb82f1eafefa023f8193dbb", func := "loop.example/bonddesk/laws.FnCapWeights", spec := "fnCapWeights", unfollowed := true, recurses := true, apart := false, narrowed := true }
def FnCapWeightsUptoSaid : Prop := fnCapWeightsUptoRow.holds Try.pinned (OpenSpec.upto fnCapWeightsSpec)

/-- 'laws.FnStopYield', WHERE WHAT IT READS IS OF BULK AT MOST 1048576: true; the input reads as it did. -/
def fnStopYieldUptoRow : OpenClaim := { program := "ytecboohippbliaa", sum := "826cd99d8e5de1f659f84bde95c2f05cf4aadd24dcb82f1eafefa023f8193dbb", func := "loop.example/bonddesk/laws.FnStopYield", spec := "fnStopYield", unfollowed := true, recurses := true, apart := false, narrowed := true }
def FnStopYieldUptoSaid : Prop := fnStopYieldUptoRow.holds Try.pinned (OpenSpec.upto fnStopYieldSpec)

/-- 'laws.FnStopYieldMore', WHERE WHAT IT READS IS OF BULK AT MOST 1048576: true; the input reads as it did. -/
def fnStopYieldMoreUptoRow : OpenClaim := { program := "ytecboohippbliaa", sum := "826cd99d8e5de1f659f84bde95c2f05cf4aadd24dcb82f1eafefa023f8193dbb", func := "loop.example/bonddesk/laws.FnStopYieldMore", spec := "fnStopYieldMore", unfollowed := true, recurses := true, apart := false, narrowed := true }
def FnStopYieldMoreUptoSaid : Prop := fnStopYieldMoreUptoRow.holds Try.pinned (OpenSpec.upto fnStopYieldMoreSpec)

/-- 'laws.FnExactStopYield', WHERE WHAT IT READS IS OF BULK AT MOST 1048576: true; the input reads as it did. -/
def fnExactStopYieldUptoRow : OpenClaim := { program := "ytecboohippbliaa", sum := "826cd99d8e5de1f659f84bde95c2f05cf4aadd24dcb82f1eafefa023f8193dbb", func := "loop.example/bonddesk/laws.FnExactStopYield", spec := "fnExactStopYield", unfollowed := true, recurses := true, apart := false, narrowed := true }
def FnExactStopYieldUptoSaid : Prop := fnExactStopYieldUptoRow.holds Try.pinned (OpenSpec.upto fnExactStopYieldSpec)

/-- 'laws.FnAllotBidsOrder', WHERE WHAT IT READS IS OF BULK AT MOST 1048576: true; the input reads as it did. -/
def fnAllotBidsOrderUptoRow : OpenClaim := { program := "ytecboohippbliaa", sum := "826cd99d8e5de1f659f84bde95c2f05cf4aadd24dcb82f1eafefa023f8193dbb", func := "loop.example/bonddesk/laws.FnAllotBidsOrder", spec := "fnAllotBidsOrder", unfollowed := true, recurses := true, apart := false, narrowed := true }
def FnAllotBidsOrderUptoSaid : Prop := fnAllotBidsOrderUptoRow.holds Try.pinned (OpenSpec.upto fnAllotBidsOrderSpec)

/-- 'laws.FnAllotBids', WHERE WHAT IT READS IS OF BULK AT MOST 1048576: true; the input reads as it did. -/
def fnAllotBidsUptoRow : OpenClaim := { program := "ytecboohippbliaa", sum := "826cd99d8e5de1f659f84bde95c2f05cf4aadd24dcb82f1eafefa023f8193dbb", func := "loop.example/bonddesk/laws.FnAllotBids", spec := "fnAllotBids", unfollowed := true, recurses := true, apart := false, narrowed := true }
def FnAllotBidsUptoSaid : Prop := fnAllotBidsUptoRow.holds Try.pinned (OpenSpec.upto fnAllotBidsSpec)

/-- 'laws.FnAllotBidsAll', WHERE WHAT IT READS IS OF BULK AT MOST 1048576: true; the input reads as it did. -/
def fnAllotBidsAllUptoRow : OpenClaim := { program := "ytecboohippbliaa", sum := "826cd99d8e5de1f659f84bde95c2f05cf4aadd24dcb82f1eafefa023f8193dbb", func := "loop.example/bonddesk/laws.FnAllotBidsAll", spec := "fnAllotBidsAll", unfollowed := true, recurses := true, apart := false, narrowed := true }
def FnAllotBidsAllUptoSaid : Prop := fnAllotBidsAllUptoRow.holds Try.pinned (OpenSpec.upto fnAllotBidsAllSpec)

/-- 'laws.FnExactAllotBids', WHERE WHAT IT READS IS OF BULK AT MOST 1048576: true; the input reads as it did. -/
def fnExactAllotBidsUptoRow : OpenClaim := { program := "ytecboohippbliaa", sum := "826cd99d8e5de1f659f84bde95c2f05cf4aadd24dcb82f1eafefa023f8193dbb", func := "loop.example/bonddesk/laws.FnExactAllotBids", spec := "fnExactAllotBids", unfollowed := true, recurses := true, apart := false, narrowed := true }
def FnExactAllotBidsUptoSaid : Prop := fnExactAllotBidsUptoRow.holds Try.pinned (OpenSpec.upto fnExactAllotBidsSpec)

end Rows
end Go.Proofs.Ytecboohippbliaa
