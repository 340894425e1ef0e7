/-
  No cell of these rows narrows 'for every input' (looked for: loops, veiled, ifaces, maps, wideKeys, modest, calm, conditions, laid).
  DERIVED. THE GIVEN ROWS OF THIS SEAT. 7 by the template 'for every input the law returns true; each argument reads behind the call as it read before'; 0 by the template 'total and deterministic' (their statements: YthehhnckfoappaaTotals.lean).
  GIVEN WITH THE SEED: the statements are not yours to turn. If you find one false, say at which input.
  Laid BY PROGRAM, IN A SANDBOX (cutbox-rows.mjs): the forced cells as the released guide's own fill.sh prints them over the translation 4a4221c25cffb872… (all of the seat's roots in one cut). By AI agents, Wed Nov 11 2026. No macro, syntax, notation, axiom, sorry.
-/
import Derived.Test.YthehhnckfoappaaChecked
import GoSem.Claim
import GoSem.ClaimJoined
import GoSem.ClaimMapViews
import Derived.JoinedTies
import Derived.KernelRfl
namespace Go.Proofs.Ythehhnckfoappaa
/- THE CELL 'sum', in the pinned program and in every row, IS THE sha256 OF THE DUMP (.gsa) THAT YthehhnckfoappaaProg.lean LOADS. Nothing in Lean hashes anything: it is a label: what it is worth is what the hold of that sum in a sandbox is worth. -/
noncomputable def Try.pinned : Pinned := { name := "ythehhnckfoappaa", sum := "4a4221c25cffb8726545a55ddad52b8b582bd9fb28719032d19655c00ba27e1c", checked := Try.checked }
namespace Rows
def none {H : Type} : Left H := { results := [], args := [] }

/-- 'laws.FnValidBids': WHATEVER THE INPUT: true; the input reads as it did. -/
def fnValidBidsSpec : ChangeSpec := { name := "fnValidBids", fn := fun _ => fun
  | [d] => { results := [.lit (.bool true)], args := [d] }
  | _ => none }
def fnValidBidsRow : OpenClaim := { program := "ythehhnckfoappaa", sum := "4a4221c25cffb8726545a55ddad52b8b582bd9fb28719032d19655c00ba27e1c", func := "loop.example/bonddesk/laws.FnValidBids", spec := "fnValidBids", unfollowed := true, recurses := true, apart := false }
def FnValidBidsSaid : Prop := fnValidBidsRow.holds Try.pinned (OpenSpec.ofChange fnValidBidsSpec)

/-- ITS FALSE NEIGHBOUR: 'it returns false'. Refute it at one input. -/
def fnValidBidsWrong : ChangeSpec := { name := "fnValidBids", fn := fun _ => fun
  | [d] => { results := [.lit (.bool false)], args := [d] }
  | _ => none }
def FnValidBidsWrongFalsely : Prop := fnValidBidsRow.holds Try.pinned (OpenSpec.ofChange fnValidBidsWrong)

/-- 'laws.FnExactValidBids': WHATEVER THE INPUT: true; the input reads as it did. -/
def fnExactValidBidsSpec : ChangeSpec := { name := "fnExactValidBids", fn := fun _ => fun
  | [d] => { results := [.lit (.bool true)], args := [d] }
  | _ => none }
def fnExactValidBidsRow : OpenClaim := { program := "ythehhnckfoappaa", sum := "4a4221c25cffb8726545a55ddad52b8b582bd9fb28719032d19655c00ba27e1c", func := "loop.example/bonddesk/laws.FnExactValidBids", spec := "fnExactValidBids", unfollowed := true, recurses := true, apart := false }
def FnExactValidBidsSaid : Prop := fnExactValidBidsRow.holds Try.pinned (OpenSpec.ofChange fnExactValidBidsSpec)

/-- ITS FALSE NEIGHBOUR: 'it returns false'. Refute it at one input. -/
def fnExactValidBidsWrong : ChangeSpec := { name := "fnExactValidBids", fn := fun _ => fun
  | [d] => { results := [.lit (.bool false)], args := [d] }
  | _ => none }
def FnExactValidBidsWrongFalsely : Prop := fnExactValidBidsRow.holds Try.pinned (OpenSpec.ofChange fnExactValidBidsWrong)

/-- 'laws.FnExactBookWorth': WHATEVER THE INPUT: true; the input reads as it did. -/
def fnExactBookWorthSpec : ChangeSpec := { name := "fnExactBookWorth", fn := fun _ => fun
  | [d] => { results := [.lit (.bool true)], args := [d] }
  | _ => none }
def fnExactBookWorthRow : OpenClaim := { program := "ythehhnckfoappaa", sum := "4a4221c25cffb8726545a55ddad52b8b582bd9fb28719032d19655c00ba27e1c", func := "loop.example/bonddesk/laws.FnExactBookWorth", spec := "fnExactBookWorth", unfollowed := true, recurses := true, apart := false }
def FnExactBookWorthSaid : Prop := fnExactBookWorthRow.holds Try.pinned (OpenSpec.ofChange fnExactBookWorthSpec)

/-- ITS FALSE NEIGHBOUR: 'it returns false'. Refute it at one input. -/
def fnExactBookWorthWrong : ChangeSpec := { name := "fnExactBookWorth", fn := fun _ => fun
  | [d] => { results := [.lit (.bool false)], args := [d] }
  | _ => none }
def FnExactBookWorthWrongFalsely : Prop := fnExactBookWorthRow.holds Try.pinned (OpenSpec.ofChange fnExactBookWorthWrong)

/-- 'laws.FnBookWorth': WHATEVER THE INPUT: true; the input reads as it did. -/
def fnBookWorthSpec : ChangeSpec := { name := "fnBookWorth", fn := fun _ => fun
  | [d] => { results := [.lit (.bool true)], args := [d] }
  | _ => none }
def fnBookWorthRow : OpenClaim := { program := "ythehhnckfoappaa", sum := "4a4221c25cffb8726545a55ddad52b8b582bd9fb28719032d19655c00ba27e1c", func := "loop.example/bonddesk/laws.FnBookWorth", spec := "fnBookWorth", unfollowed := true, recurses := true, apart := false }
def FnBookWorthSaid : Prop := fnBookWorthRow.holds Try.pinned (OpenSpec.ofChange fnBookWorthSpec)

/-- ITS FALSE NEIGHBOUR: 'it returns false'. Refute it at one input. -/
def fnBookWorthWrong : ChangeSpec := { name := "fnBookWorth", fn := fun _ => fun
  | [d] => { results := [.lit (.bool false)], args := [d] }
  | _ => none }
def FnBookWorthWrongFalsely : Prop := fnBookWorthRow.holds Try.pinned (OpenSpec.ofChange fnBookWorthWrong)

/-- 'laws.FnWeightsOfEqual': WHATEVER THE INPUT: true; the input reads as it did. -/
def fnWeightsOfEqualSpec : ChangeSpec := { name := "fnWeightsOfEqual", fn := fun _ => fun
  | [d] => { results := [.lit (.bool true)], args := [d] }
  | _ => none }
def fnWeightsOfEqualRow : OpenClaim := { program := "ythehhnckfoappaa", sum := "4a4221c25cffb8726545a55ddad52b8b582bd9fb28719032d19655c00ba27e1c", func := "loop.example/bonddesk/laws.FnWeightsOfEqual", spec := "fnWeightsOfEqual", unfollowed := true, recurses := true, apart := false }
def FnWeightsOfEqualSaid : Prop := fnWeightsOfEqualRow.holds Try.pinned (OpenSpec.ofChange fnWeightsOfEqualSpec)

/-- ITS FALSE NEIGHBOUR: 'it returns false'. Refute it at one input. -/
def fnWeightsOfEqualWrong : ChangeSpec := { name := "fnWeightsOfEqual", fn := fun _ => fun
  | [d] => { results := [.lit (.bool false)], args := [d] }
  | _ => none }
def FnWeightsOfEqualWrongFalsely : Prop := fnWeightsOfEqualRow.holds Try.pinned (OpenSpec.ofChange fnWeightsOfEqualWrong)

/-- 'laws.FnWeightsOf': WHATEVER THE INPUT: true; the input reads as it did. -/
def fnWeightsOfSpec : ChangeSpec := { name := "fnWeightsOf", fn := fun _ => fun
  | [d] => { results := [.lit (.bool true)], args := [d] }
  | _ => none }
def fnWeightsOfRow : OpenClaim := { program := "ythehhnckfoappaa", sum := "4a4221c25cffb8726545a55ddad52b8b582bd9fb28719032d19655c00ba27e1c", func := "loop.example/bonddesk/laws.FnWeightsOf", spec := "fnWeightsOf", unfollowed := true, recurses := true, apart := false }
def FnWeightsOfSaid : Prop := fnWeightsOfRow.holds Try.pinned (OpenSpec.ofChange fnWeightsOfSpec)

/-- ITS FALSE NEIGHBOUR: 'it returns false'. Refute it at one input. -/
def fnWeightsOfWrong : ChangeSpec := { name := "fnWeightsOf", fn := fun _ => fun
  | [d] => { results := [.lit (.bool false)], args := [d] }
  | _ => none }
def FnWeightsOfWrongFalsely : Prop := fnWeightsOfRow.holds Try.pinned (OpenSpec.ofChange fnWeightsOfWrong)

/-- 'laws.FnExactWeightsOf': WHATEVER THE INPUT: true; the input reads as it did. -/
def fnExactWeightsOfSpec : ChangeSpec := { name := "fnExactWeightsOf", fn := fun _ => fun
  | [d] => { results := [.lit (.bool true)], args := [d] }
  | _ => none }
def fnExactWeightsOfRow : OpenClaim := { program := "ythehhnckfoappaa", sum := "4a4221c25cffb8726545a55ddad52b8b582bd9fb28719032d19655c00ba27e1c", func := "loop.example/bonddesk/laws.FnExactWeightsOf", spec := "fnExactWeightsOf", unfollowed := true, recurses := true, apart := false }
def FnExactWeightsOfSaid : Prop := fnExactWeightsOfRow.holds Try.pinned (OpenSpec.ofChange fnExactWeightsOfSpec)

/-- ITS FALSE NEIGHBOUR: 'it returns false'. Refute it at one input. -/
def fnExactWeightsOfWrong : ChangeSpec := { name := "fnExactWeightsOf", fn := fun _ => fun
  | [d] => { results := [.lit (.bool false)], args := [d] }
  | _ => none }
def FnExactWeightsOfWrongFalsely : Prop := fnExactWeightsOfRow.holds Try.pinned (OpenSpec.ofChange fnExactWeightsOfWrong)

/- THE SECOND FORM. 'bulk': how many values and letters a reading holds, each counted each time it is reached (what is shared counts as often as it is met; a slice's spare places count too). A statement '..UptoSaid' is the law's where the arguments, and the package variables that the reading takes, are together of bulk at most 1048576: NARROWER than '..Said'. Prove '..Said' where nothing that the law and all that it calls make is longer than what came in: it says more and counts as full. Else prove '..UptoSaid'. A law counts once. -/
mutual
def uptoBulk {H : Type} : DataW H → Nat
  | .lit (.string bytes) => bytes.length + 1
  | .lit _ => 1
  | .nil => 1
  | .ptr d => uptoBulk d + 1
  | .slice elems spare => uptoBulkAll elems + uptoBulkAll spare + 1
  | .agg parts => uptoBulkAll parts + 1
  | .iface _ d => uptoBulk d + 1
  | .map entries => uptoBulkEntries entries + 1
  | .held _ => 1
def uptoBulkAll {H : Type} : List (DataW H) → Nat
  | [] => 0
  | d :: r => uptoBulk d + uptoBulkAll r
def uptoBulkEntries {H : Type} : List (Lit × DataW H) → Nat
  | [] => 0
  | x :: r => uptoBulkEntry x + uptoBulkEntries r
def uptoBulkEntry {H : Type} : Lit × DataW H → Nat
  | (.string bytes, d) => bytes.length + uptoBulk d + 1
  | (_, d) => uptoBulk d + 1
 end
def uptoSmall : (H : Type) → List (DataW H) → Bool := fun _ ds => decide (uptoBulkAll ds ≤ 1048576)
def OpenSpec.upto (s : _root_.Go.ChangeSpec) : _root_.Go.OpenSpec := { _root_.Go.OpenSpec.ofChange s with cond := some uptoSmall }

/-- 'laws.FnValidBids', WHERE WHAT IT READS IS OF BULK AT MOST 1048576: true; the input reads as it did. -/
def fnValidBidsUptoRow : OpenClaim := { program := "ythehhnckfoappaa", sum := "4a4221c25cffb8726545a55ddad52b8b582bd9fb28719032d19655c00ba27e1c", func := "loop.example/bonddesk/laws.FnValidBids", spec := "fnValidBids", unfollowed := true, recurses := true, apart := false, narrowed := true }
def FnValidBidsUptoSaid : Prop := fnValidBidsUptoRow.holds Try.pinned (OpenSpec.upto fnValidBidsSpec)

/-- 'laws.FnExactValidBids', WHERE WHAT IT READS IS OF BULK AT MOST 1048576: true; the input reads as it did. -/
def fnExactValidBidsUptoRow : OpenClaim := { program := "ythehhnckfoappaa", sum := "4a4221c25cffb8726545a55ddad52b8b582bd9fb28719032d19655c00ba27e1c", func := "loop.example/bonddesk/laws.FnExactValidBids", spec := "fnExactValidBids", unfollowed := true, recurses := true, apart := false, narrowed := true }
def FnExactValidBidsUptoSaid : Prop := fnExactValidBidsUptoRow.holds Try.pinned (OpenSpec.upto fnExactValidBidsSpec)

/-- 'laws.FnExactBookWorth', WHERE WHAT IT READS IS OF BULK AT MOST 1048576: true; the input reads as it did. -/
def fnExactBookWorthUptoRow : OpenClaim := { program := "ythehhnckfoappaa", sum := "4a4221c25cffb8726545a55ddad52b8b582bd9fb28719032d19655c00ba27e1c", func := "loop.example/bonddesk/laws.FnExactBookWorth", spec := "fnExactBookWorth", unfollowed := true, recurses := true, apart := false, narrowed := true }
def FnExactBookWorthUptoSaid : Prop := fnExactBookWorthUptoRow.holds Try.pinned (OpenSpec.upto fnExactBookWorthSpec)

/-- 'laws.FnBookWorth', WHERE WHAT IT READS IS OF BULK AT MOST 1048576: true; the input reads as it did. -/
def fnBookWorthUptoRow : OpenClaim := { program := "ythehhnckfoappaa", sum := "4a4221c25cffb8726545a55ddad52b8b582bd9fb28719032d19655c00ba27e1c", func := "loop.example/bonddesk/laws.FnBookWorth", spec := "fnBookWorth", unfollowed := true, recurses := true, apart := false, narrowed := true }
def FnBookWorthUptoSaid : Prop := fnBookWorthUptoRow.holds Try.pinned (OpenSpec.upto fnBookWorthSpec)

/-- 'laws.FnWeightsOfEqual', WHERE WHAT IT READS IS OF BULK AT MOST 1048576: true; the input reads as it did. -/
def fnWeightsOfEqualUptoRow : OpenClaim := { program := "ythehhnckfoappaa", sum := "4a4221c25cffb8726545a55ddad52b8b582bd9fb28719032d19655c00ba27e1c", func := "loop.example/bonddesk/laws.FnWeightsOfEqual", spec := "fnWeightsOfEqual", unfollowed := true, recurses := true, apart := false, narrowed := true }
def FnWeightsOfEqualUptoSaid : Prop := fnWeightsOfEqualUptoRow.holds Try.pinned (OpenSpec.upto fnWeightsOfEqualSpec)

/-- 'laws.FnWeightsOf', WHERE WHAT IT READS IS OF BULK AT MOST 1048576: true; the input reads as it did. -/
def fnWeightsOfUptoRow : OpenClaim := { program := "ythehhnckfoappaa", sum := "4a4221c25cffb8726545a55ddad52b8b582bd9fb28719032d19655c00ba27e1c", func := "loop.example/bonddesk/laws.FnWeightsOf", spec := "fnWeightsOf", unfollowed := true, recurses := true, apart := false, narrowed := true }
def FnWeightsOfUptoSaid : Prop := fnWeightsOfUptoRow.holds Try.pinned (OpenSpec.upto fnWeightsOfSpec)

/-- 'laws.FnExactWeightsOf', WHERE WHAT IT READS IS OF BULK AT MOST 1048576: true; the input reads as it did. -/
def fnExactWeightsOfUptoRow : OpenClaim := { program := "ythehhnckfoappaa", sum := "4a4221c25cffb8726545a55ddad52b8b582bd9fb28719032d19655c00ba27e1c", func := "loop.example/bonddesk/laws.FnExactWeightsOf", spec := "fnExactWeightsOf", unfollowed := true, recurses := true, apart := false, narrowed := true }
def FnExactWeightsOfUptoSaid : Prop := fnExactWeightsOfUptoRow.holds Try.pinned (OpenSpec.upto fnExactWeightsOfSpec)

end Rows
end Go.Proofs.Ythehhnckfoappaa
