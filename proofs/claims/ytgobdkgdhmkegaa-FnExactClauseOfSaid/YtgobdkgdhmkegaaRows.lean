/-
  No cell of these rows narrows 'for every input' (looked for: loops, veiled, ifaces, maps, wideKeys, modest, calm, conditions, laid).
  DERIVED. THE GIVEN ROWS OF THIS SEAT. 13 by the template 'for every input the law returns true; each argument reads behind the call as it read before'; 0 by the template 'total and deterministic' (their statements: YtgobdkgdhmkegaaTotals.lean).
  GIVEN WITH THE SEED: the statements are not yours to turn. If you find one false, say at which input.
  Laid BY PROGRAM, IN A SANDBOX (cutbox-rows.mjs): the forced cells as the released guide's own fill.sh prints them over the translation b3e9826294fa52dd… (all of the seat's roots in one cut). By AI agents, Wed Nov 11 2026. No macro, syntax, notation, axiom, sorry.
-/
import Derived.Test.YtgobdkgdhmkegaaChecked
import GoSem.Claim
import GoSem.ClaimJoined
import GoSem.ClaimMapViews
import Derived.JoinedTies
import Derived.KernelRfl
namespace Go.Proofs.Ytgobdkgdhmkegaa
/- THE CELL 'sum', in the pinned program and in every row, IS THE sha256 OF THE DUMP (.gsa) THAT YtgobdkgdhmkegaaProg.lean LOADS. Nothing in Lean hashes anything: it is a label: what it is worth is what the hold of that sum in a sandbox is worth. -/
noncomputable def Try.pinned : Pinned := { name := "ytgobdkgdhmkegaa", sum := "b3e9826294fa52dd5cad37f403de6b78ca49b912fc4da2fd72cdd439bb889479", checked := Try.checked }
namespace Rows
def none {H : Type} : Left H := { results := [], args := [] }

/-- 'laws.FnCnfUnits': WHATEVER THE INPUT: true; the input reads as it did. -/
def fnCnfUnitsSpec : ChangeSpec := { name := "fnCnfUnits", fn := fun _ => fun
  | [d] => { results := [.lit (.bool true)], args := [d] }
  | _ => none }
def fnCnfUnitsRow : OpenClaim := { program := "ytgobdkgdhmkegaa", sum := "b3e9826294fa52dd5cad37f403de6b78ca49b912fc4da2fd72cdd439bb889479", func := "loop.example/compurgator/laws.FnCnfUnits", spec := "fnCnfUnits", unfollowed := true, recurses := true, apart := false }
def FnCnfUnitsSaid : Prop := fnCnfUnitsRow.holds Try.pinned (OpenSpec.ofChange fnCnfUnitsSpec)

/-- ITS FALSE NEIGHBOUR: 'it returns false'. Refute it at one input. -/
def fnCnfUnitsWrong : ChangeSpec := { name := "fnCnfUnits", fn := fun _ => fun
  | [d] => { results := [.lit (.bool false)], args := [d] }
  | _ => none }
def FnCnfUnitsWrongFalsely : Prop := fnCnfUnitsRow.holds Try.pinned (OpenSpec.ofChange fnCnfUnitsWrong)

/-- 'laws.FnLogMore': WHATEVER THE INPUT: true; the input reads as it did. -/
def fnLogMoreSpec : ChangeSpec := { name := "fnLogMore", fn := fun _ => fun
  | [d] => { results := [.lit (.bool true)], args := [d] }
  | _ => none }
def fnLogMoreRow : OpenClaim := { program := "ytgobdkgdhmkegaa", sum := "b3e9826294fa52dd5cad37f403de6b78ca49b912fc4da2fd72cdd439bb889479", func := "loop.example/compurgator/laws.FnLogMore", spec := "fnLogMore", unfollowed := true, recurses := true, apart := false }
def FnLogMoreSaid : Prop := fnLogMoreRow.holds Try.pinned (OpenSpec.ofChange fnLogMoreSpec)

/-- ITS FALSE NEIGHBOUR: 'it returns false'. Refute it at one input. -/
def fnLogMoreWrong : ChangeSpec := { name := "fnLogMore", fn := fun _ => fun
  | [d] => { results := [.lit (.bool false)], args := [d] }
  | _ => none }
def FnLogMoreWrongFalsely : Prop := fnLogMoreRow.holds Try.pinned (OpenSpec.ofChange fnLogMoreWrong)

/-- 'laws.FnLogOk': WHATEVER THE INPUT: true; the input reads as it did. -/
def fnLogOkSpec : ChangeSpec := { name := "fnLogOk", fn := fun _ => fun
  | [d1, d2] => { results := [.lit (.bool true)], args := [d1, d2] }
  | _ => none }
def fnLogOkRow : OpenClaim := { program := "ytgobdkgdhmkegaa", sum := "b3e9826294fa52dd5cad37f403de6b78ca49b912fc4da2fd72cdd439bb889479", func := "loop.example/compurgator/laws.FnLogOk", spec := "fnLogOk", unfollowed := true, recurses := true, apart := false }
def FnLogOkSaid : Prop := fnLogOkRow.holds Try.pinned (OpenSpec.ofChange fnLogOkSpec)

/-- ITS FALSE NEIGHBOUR: 'it returns false'. Refute it at one input. -/
def fnLogOkWrong : ChangeSpec := { name := "fnLogOk", fn := fun _ => fun
  | [d1, d2] => { results := [.lit (.bool false)], args := [d1, d2] }
  | _ => none }
def FnLogOkWrongFalsely : Prop := fnLogOkRow.holds Try.pinned (OpenSpec.ofChange fnLogOkWrong)

/-- 'laws.FnLogTrim': WHATEVER THE INPUT: true; the input reads as it did. -/
def fnLogTrimSpec : ChangeSpec := { name := "fnLogTrim", fn := fun _ => fun
  | [d] => { results := [.lit (.bool true)], args := [d] }
  | _ => none }
def fnLogTrimRow : OpenClaim := { program := "ytgobdkgdhmkegaa", sum := "b3e9826294fa52dd5cad37f403de6b78ca49b912fc4da2fd72cdd439bb889479", func := "loop.example/compurgator/laws.FnLogTrim", spec := "fnLogTrim", unfollowed := true, recurses := true, apart := false }
def FnLogTrimSaid : Prop := fnLogTrimRow.holds Try.pinned (OpenSpec.ofChange fnLogTrimSpec)

/-- ITS FALSE NEIGHBOUR: 'it returns false'. Refute it at one input. -/
def fnLogTrimWrong : ChangeSpec := { name := "fnLogTrim", fn := fun _ => fun
  | [d] => { results := [.lit (.bool false)], args := [d] }
  | _ => none }
def FnLogTrimWrongFalsely : Prop := fnLogTrimRow.holds Try.pinned (OpenSpec.ofChange fnLogTrimWrong)

/-- 'laws.FnExactClauseOf': WHATEVER THE INPUT: true; the input reads as it did. -/
def fnExactClauseOfSpec : ChangeSpec := { name := "fnExactClauseOf", fn := fun _ => fun
  | [d] => { results := [.lit (.bool true)], args := [d] }
  | _ => none }
def fnExactClauseOfRow : OpenClaim := { program := "ytgobdkgdhmkegaa", sum := "b3e9826294fa52dd5cad37f403de6b78ca49b912fc4da2fd72cdd439bb889479", func := "loop.example/compurgator/laws.FnExactClauseOf", spec := "fnExactClauseOf", unfollowed := true, recurses := true, apart := false }
def FnExactClauseOfSaid : Prop := fnExactClauseOfRow.holds Try.pinned (OpenSpec.ofChange fnExactClauseOfSpec)

/-- ITS FALSE NEIGHBOUR: 'it returns false'. Refute it at one input. -/
def fnExactClauseOfWrong : ChangeSpec := { name := "fnExactClauseOf", fn := fun _ => fun
  | [d] => { results := [.lit (.bool false)], args := [d] }
  | _ => none }
def FnExactClauseOfWrongFalsely : Prop := fnExactClauseOfRow.holds Try.pinned (OpenSpec.ofChange fnExactClauseOfWrong)

/-- 'laws.FnClauseOf': WHATEVER THE INPUT: true; the input reads as it did. -/
def fnClauseOfSpec : ChangeSpec := { name := "fnClauseOf", fn := fun _ => fun
  | [d] => { results := [.lit (.bool true)], args := [d] }
  | _ => none }
def fnClauseOfRow : OpenClaim := { program := "ytgobdkgdhmkegaa", sum := "b3e9826294fa52dd5cad37f403de6b78ca49b912fc4da2fd72cdd439bb889479", func := "loop.example/compurgator/laws.FnClauseOf", spec := "fnClauseOf", unfollowed := true, recurses := true, apart := false }
def FnClauseOfSaid : Prop := fnClauseOfRow.holds Try.pinned (OpenSpec.ofChange fnClauseOfSpec)

/-- ITS FALSE NEIGHBOUR: 'it returns false'. Refute it at one input. -/
def fnClauseOfWrong : ChangeSpec := { name := "fnClauseOf", fn := fun _ => fun
  | [d] => { results := [.lit (.bool false)], args := [d] }
  | _ => none }
def FnClauseOfWrongFalsely : Prop := fnClauseOfRow.holds Try.pinned (OpenSpec.ofChange fnClauseOfWrong)

/-- 'laws.FnClauseAlways': WHATEVER THE INPUT: true; the input reads as it did. -/
def fnClauseAlwaysSpec : ChangeSpec := { name := "fnClauseAlways", fn := fun _ => fun
  | [d] => { results := [.lit (.bool true)], args := [d] }
  | _ => none }
def fnClauseAlwaysRow : OpenClaim := { program := "ytgobdkgdhmkegaa", sum := "b3e9826294fa52dd5cad37f403de6b78ca49b912fc4da2fd72cdd439bb889479", func := "loop.example/compurgator/laws.FnClauseAlways", spec := "fnClauseAlways", unfollowed := true, recurses := true, apart := false }
def FnClauseAlwaysSaid : Prop := fnClauseAlwaysRow.holds Try.pinned (OpenSpec.ofChange fnClauseAlwaysSpec)

/-- ITS FALSE NEIGHBOUR: 'it returns false'. Refute it at one input. -/
def fnClauseAlwaysWrong : ChangeSpec := { name := "fnClauseAlways", fn := fun _ => fun
  | [d] => { results := [.lit (.bool false)], args := [d] }
  | _ => none }
def FnClauseAlwaysWrongFalsely : Prop := fnClauseAlwaysRow.holds Try.pinned (OpenSpec.ofChange fnClauseAlwaysWrong)

/-- 'laws.FnExactHuntRun': WHATEVER THE INPUT: true; the input reads as it did. -/
def fnExactHuntRunSpec : ChangeSpec := { name := "fnExactHuntRun", fn := fun _ => fun
  | [d1, d2] => { results := [.lit (.bool true)], args := [d1, d2] }
  | _ => none }
def fnExactHuntRunRow : OpenClaim := { program := "ytgobdkgdhmkegaa", sum := "b3e9826294fa52dd5cad37f403de6b78ca49b912fc4da2fd72cdd439bb889479", func := "loop.example/compurgator/laws.FnExactHuntRun", spec := "fnExactHuntRun", unfollowed := true, recurses := true, apart := false }
def FnExactHuntRunSaid : Prop := fnExactHuntRunRow.holds Try.pinned (OpenSpec.ofChange fnExactHuntRunSpec)

/-- ITS FALSE NEIGHBOUR: 'it returns false'. Refute it at one input. -/
def fnExactHuntRunWrong : ChangeSpec := { name := "fnExactHuntRun", fn := fun _ => fun
  | [d1, d2] => { results := [.lit (.bool false)], args := [d1, d2] }
  | _ => none }
def FnExactHuntRunWrongFalsely : Prop := fnExactHuntRunRow.holds Try.pinned (OpenSpec.ofChange fnExactHuntRunWrong)

/-- 'laws.FnHuntRun': WHATEVER THE INPUT: true; the input reads as it did. -/
def fnHuntRunSpec : ChangeSpec := { name := "fnHuntRun", fn := fun _ => fun
  | [d] => { results := [.lit (.bool true)], args := [d] }
  | _ => none }
def fnHuntRunRow : OpenClaim := { program := "ytgobdkgdhmkegaa", sum := "b3e9826294fa52dd5cad37f403de6b78ca49b912fc4da2fd72cdd439bb889479", func := "loop.example/compurgator/laws.FnHuntRun", spec := "fnHuntRun", unfollowed := true, recurses := true, apart := false }
def FnHuntRunSaid : Prop := fnHuntRunRow.holds Try.pinned (OpenSpec.ofChange fnHuntRunSpec)

/-- ITS FALSE NEIGHBOUR: 'it returns false'. Refute it at one input. -/
def fnHuntRunWrong : ChangeSpec := { name := "fnHuntRun", fn := fun _ => fun
  | [d] => { results := [.lit (.bool false)], args := [d] }
  | _ => none }
def FnHuntRunWrongFalsely : Prop := fnHuntRunRow.holds Try.pinned (OpenSpec.ofChange fnHuntRunWrong)

/-- 'laws.FnHuntBent': WHATEVER THE INPUT: true; the input reads as it did. -/
def fnHuntBentSpec : ChangeSpec := { name := "fnHuntBent", fn := fun _ => fun
  | [d] => { results := [.lit (.bool true)], args := [d] }
  | _ => none }
def fnHuntBentRow : OpenClaim := { program := "ytgobdkgdhmkegaa", sum := "b3e9826294fa52dd5cad37f403de6b78ca49b912fc4da2fd72cdd439bb889479", func := "loop.example/compurgator/laws.FnHuntBent", spec := "fnHuntBent", unfollowed := true, recurses := true, apart := false }
def FnHuntBentSaid : Prop := fnHuntBentRow.holds Try.pinned (OpenSpec.ofChange fnHuntBentSpec)

/-- ITS FALSE NEIGHBOUR: 'it returns false'. Refute it at one input. -/
def fnHuntBentWrong : ChangeSpec := { name := "fnHuntBent", fn := fun _ => fun
  | [d] => { results := [.lit (.bool false)], args := [d] }
  | _ => none }
def FnHuntBentWrongFalsely : Prop := fnHuntBentRow.holds Try.pinned (OpenSpec.ofChange fnHuntBentWrong)

/-- 'laws.FnHuntOnly': WHATEVER THE INPUT: true; the input reads as it did. -/
def fnHuntOnlySpec : ChangeSpec := { name := "fnHuntOnly", fn := fun _ => fun
  | [d] => { results := [.lit (.bool true)], args := [d] }
  | _ => none }
def fnHuntOnlyRow : OpenClaim := { program := "ytgobdkgdhmkegaa", sum := "b3e9826294fa52dd5cad37f403de6b78ca49b912fc4da2fd72cdd439bb889479", func := "loop.example/compurgator/laws.FnHuntOnly", spec := "fnHuntOnly", unfollowed := true, recurses := true, apart := false }
def FnHuntOnlySaid : Prop := fnHuntOnlyRow.holds Try.pinned (OpenSpec.ofChange fnHuntOnlySpec)

/-- ITS FALSE NEIGHBOUR: 'it returns false'. Refute it at one input. -/
def fnHuntOnlyWrong : ChangeSpec := { name := "fnHuntOnly", fn := fun _ => fun
  | [d] => { results := [.lit (.bool false)], args := [d] }
  | _ => none }
def FnHuntOnlyWrongFalsely : Prop := fnHuntOnlyRow.holds Try.pinned (OpenSpec.ofChange fnHuntOnlyWrong)

/-- 'laws.FnHuntFuel': WHATEVER THE INPUT: true; the input reads as it did. -/
def fnHuntFuelSpec : ChangeSpec := { name := "fnHuntFuel", fn := fun _ => fun
  | [d] => { results := [.lit (.bool true)], args := [d] }
  | _ => none }
def fnHuntFuelRow : OpenClaim := { program := "ytgobdkgdhmkegaa", sum := "b3e9826294fa52dd5cad37f403de6b78ca49b912fc4da2fd72cdd439bb889479", func := "loop.example/compurgator/laws.FnHuntFuel", spec := "fnHuntFuel", unfollowed := true, recurses := true, apart := false }
def FnHuntFuelSaid : Prop := fnHuntFuelRow.holds Try.pinned (OpenSpec.ofChange fnHuntFuelSpec)

/-- ITS FALSE NEIGHBOUR: 'it returns false'. Refute it at one input. -/
def fnHuntFuelWrong : ChangeSpec := { name := "fnHuntFuel", fn := fun _ => fun
  | [d] => { results := [.lit (.bool false)], args := [d] }
  | _ => none }
def FnHuntFuelWrongFalsely : Prop := fnHuntFuelRow.holds Try.pinned (OpenSpec.ofChange fnHuntFuelWrong)

/-- 'laws.FnLogNever': WHATEVER THE INPUT: true; the input reads as it did. -/
def fnLogNeverSpec : ChangeSpec := { name := "fnLogNever", fn := fun _ => fun
  | [d] => { results := [.lit (.bool true)], args := [d] }
  | _ => none }
def fnLogNeverRow : OpenClaim := { program := "ytgobdkgdhmkegaa", sum := "b3e9826294fa52dd5cad37f403de6b78ca49b912fc4da2fd72cdd439bb889479", func := "loop.example/compurgator/laws.FnLogNever", spec := "fnLogNever", unfollowed := true, recurses := true, apart := false }
def FnLogNeverSaid : Prop := fnLogNeverRow.holds Try.pinned (OpenSpec.ofChange fnLogNeverSpec)

/-- ITS FALSE NEIGHBOUR: 'it returns false'. Refute it at one input. -/
def fnLogNeverWrong : ChangeSpec := { name := "fnLogNever", fn := fun _ => fun
  | [d] => { results := [.lit (.bool false)], args := [d] }
  | _ => none }
def FnLogNeverWrongFalsely : Prop := fnLogNeverRow.holds Try.pinned (OpenSpec.ofChange fnLogNeverWrong)

/- THE SECOND FORM. 'bulk': how many values and letters a reading holds, each counted each time it is reached (what is shared counts as often as it is met; a slice's spare places count too). A statement '..UptoSaid' is the law's where the arguments, and the package variables that the reading takes, are together of bulk at most 1048576: NARROWER than '..Said'. Prove '..Said' where nothing that the law and all that it calls make is longer than what came in: it says more and counts as full. Else prove '..UptoSaid'. A law counts once. -/
mutual
def uptoBulk {H : Type} : DataW H → Nat
  | .lit (.string bytes) => bytes.length + 1
  | .lit _ => 1
  | .nil => 1
  | .ptr d => uptoBulk d + 1
  | .slice elems spare => uptoBulkAll elems + uptoBulkAll spare + 1
  | .agg parts => uptoBulkAll parts + 1
  | .iface _ d => uptoBulk d + 1
  | .map entries => uptoBulkEntries entries + 1
  | .held _ => 1
def uptoBulkAll {H : Type} : List (DataW H) → Nat
  | [] => 0
  | d :: r => uptoBulk d + uptoBulkAll r
def uptoBulkEntries {H : Type} : List (Lit × DataW H) → Nat
  | [] => 0
  | x :: r => uptoBulkEntry x + uptoBulkEntries r
def uptoBulkEntry {H : Type} : Lit × DataW H → Nat
  | (.string bytes, d) => bytes.length + uptoBulk d + 1
  | (_, d) => uptoBulk d + 1
 end
def uptoSmall : (H : Type) → List (DataW H) → Bool := fun _ ds => decide (uptoBulkAll ds ≤ 1048576)
def OpenSpec.upto (s : _root_.Go.ChangeSpec) : _root_.Go.OpenSpec := { _root_.Go.OpenSpec.ofChange s with cond := some uptoSmall }

/-- 'laws.FnCnfUnits', WHERE WHAT IT READS IS OF BULK AT MOST 1048576: true; the input reads as it did. -/
def fnCnfUnitsUptoRow : OpenClaim := { program := "ytgobdkgdhmkegaa", sum := "b3e9826294fa52dd5cad37f403de6b78ca49b912fc4da2fd72cdd439bb889479", func := "loop.example/compurgator/laws.FnCnfUnits", spec := "fnCnfUnits", unfollowed := true, recurses := true, apart := false, narrowed := true }
def FnCnfUnitsUptoSaid : Prop := fnCnfUnitsUptoRow.holds Try.pinned (OpenSpec.upto fnCnfUnitsSpec)

/-- 'laws.FnLogMore', WHERE WHAT IT READS IS OF BULK AT MOST 1048576: true; the input reads as it did. -/
def fnLogMoreUptoRow : OpenClaim := { program := "ytgobdkgdhmkegaa", sum := "b3e9826294fa52dd5cad37f403de6b78ca49b912fc4da2fd72cdd439bb889479", func := "loop.example/compurgator/laws.FnLogMore", spec := "fnLogMore", unfollowed := true, recurses := true, apart := false, narrowed := true }
def FnLogMoreUptoSaid : Prop := fnLogMoreUptoRow.holds Try.pinned (OpenSpec.upto fnLogMoreSpec)

/-- 'laws.FnLogOk', WHERE WHAT IT READS IS OF BULK AT MOST 1048576: true; the input reads as it did. -/
def fnLogOkUptoRow : OpenClaim := { program := "ytgobdkgdhmkegaa", sum := "b3e9826294fa52dd5cad37f403de6b78ca49b912fc4da2fd72cdd439bb889479", func := "loop.example/compurgator/laws.FnLogOk", spec := "fnLogOk", unfollowed := true, recurses := true, apart := false, narrowed := true }
def FnLogOkUptoSaid : Prop := fnLogOkUptoRow.holds Try.pinned (OpenSpec.upto fnLogOkSpec)

/-- 'laws.FnLogTrim', WHERE WHAT IT READS IS OF BULK AT MOST 1048576: true; the input reads as it did. -/
def fnLogTrimUptoRow : OpenClaim := { program := "ytgobdkgdhmkegaa", sum := "b3e9826294fa52dd5cad37f403de6b78ca49b912fc4da2fd72cdd439bb889479", func := "loop.example/compurgator/laws.FnLogTrim", spec := "fnLogTrim", unfollowed := true, recurses := true, apart := false, narrowed := true }
def FnLogTrimUptoSaid : Prop := fnLogTrimUptoRow.holds Try.pinned (OpenSpec.upto fnLogTrimSpec)

/-- 'laws.FnExactClauseOf', WHERE WHAT IT READS IS OF BULK AT MOST 1048576: true; the input reads as it did. -/
def fnExactClauseOfUptoRow : OpenClaim := { program := "ytgobdkgdhmkegaa", sum := "b3e9826294fa52dd5cad37f403de6b78ca49b912fc4da2fd72cdd439bb889479", func := "loop.example/compurgator/laws.FnExactClauseOf", spec := "fnExactClauseOf", unfollowed := true, recurses := true, apart := false, narrowed := true }
def FnExactClauseOfUptoSaid : Prop := fnExactClauseOfUptoRow.holds Try.pinned (OpenSpec.upto fnExactClauseOfSpec)

/-- 'laws.FnClauseOf', WHERE WHAT IT READS IS OF BULK AT MOST 1048576: true; the input reads as it did. -/
def fnClauseOfUptoRow : OpenClaim := { program := "ytgobdkgdhmkegaa", sum := "b3e9826294fa52dd5cad37f403de6b78ca49b912fc4da2fd72cdd439bb889479", func := "loop.example/compurgator/laws.FnClauseOf", spec := "fnClauseOf", unfollowed := true, recurses := true, apart := false, narrowed := true }
def FnClauseOfUptoSaid : Prop := fnClauseOfUptoRow.holds Try.pinned (OpenSpec.upto fnClauseOfSpec)

/-- 'laws.FnClauseAlways', WHERE WHAT IT READS IS OF BULK AT MOST 1048576: true; the input reads as it did. -/
def fnClauseAlwaysUptoRow : OpenClaim := { program := "ytgobdkgdhmkegaa", sum := "b3e9826294fa52dd5cad37f403de6b78ca49b912fc4da2fd72cdd439bb889479", func := "loop.example/compurgator/laws.FnClauseAlways", spec := "fnClauseAlways", unfollowed := true, recurses := true, apart := false, narrowed := true }
def FnClauseAlwaysUptoSaid : Prop := fnClauseAlwaysUptoRow.holds Try.pinned (OpenSpec.upto fnClauseAlwaysSpec)

/-- 'laws.FnExactHuntRun', WHERE WHAT IT READS IS OF BULK AT MOST 1048576: true; the input reads as it did. -/
def fnExactHuntRunUptoRow : OpenClaim := { program := "ytgobdkgdhmkegaa", sum := "b3e9826294fa52dd5cad37f403de6b78ca49b912fc4da2fd72cdd439bb889479", func := "loop.example/compurgator/laws.FnExactHuntRun", spec := "fnExactHuntRun", unfollowed := true, recurses := true, apart := false, narrowed := true }
def FnExactHuntRunUptoSaid : Prop := fnExactHuntRunUptoRow.holds Try.pinned (OpenSpec.upto fnExactHuntRunSpec)

/-- 'laws.FnHuntRun', WHERE WHAT IT READS IS OF BULK AT MOST 1048576: true; the input reads as it did. -/
def fnHuntRunUptoRow : OpenClaim := { program := "ytgobdkgdhmkegaa", sum := "b3e9826294fa52dd5cad37f403de6b78ca49b912fc4da2fd72cdd439bb889479", func := "loop.example/compurgator/laws.FnHuntRun", spec := "fnHuntRun", unfollowed := true, recurses := true, apart := false, narrowed := true }
def FnHuntRunUptoSaid : Prop := fnHuntRunUptoRow.holds Try.pinned (OpenSpec.upto fnHuntRunSpec)

/-- 'laws.FnHuntBent', WHERE WHAT IT READS IS OF BULK AT MOST 1048576: true; the input reads as it did. -/
def fnHuntBentUptoRow : OpenClaim := { program := "ytgobdkgdhmkegaa", sum := "b3e9826294fa52dd5cad37f403de6b78ca49b912fc4da2fd72cdd439bb889479", func := "loop.example/compurgator/laws.FnHuntBent", spec := "fnHuntBent", unfollowed := true, recurses := true, apart := false, narrowed := true }
def FnHuntBentUptoSaid : Prop := fnHuntBentUptoRow.holds Try.pinned (OpenSpec.upto fnHuntBentSpec)

/-- 'laws.FnHuntOnly', WHERE WHAT IT READS IS OF BULK AT MOST 1048576: true; the input reads as it did. -/
def fnHuntOnlyUptoRow : OpenClaim := { program := "ytgobdkgdhmkegaa", sum := "b3e9826294fa52dd5cad37f403de6b78ca49b912fc4da2fd72cdd439bb889479", func := "loop.example/compurgator/laws.FnHuntOnly", spec := "fnHuntOnly", unfollowed := true, recurses := true, apart := false, narrowed := true }
def FnHuntOnlyUptoSaid : Prop := fnHuntOnlyUptoRow.holds Try.pinned (OpenSpec.upto fnHuntOnlySpec)

/-- 'laws.FnHuntFuel', WHERE WHAT IT READS IS OF BULK AT MOST 1048576: true; the input reads as it did. -/
def fnHuntFuelUptoRow : OpenClaim := { program := "ytgobdkgdhmkegaa", sum := "b3e9826294fa52dd5cad37f403de6b78ca49b912fc4da2fd72cdd439bb889479", func := "loop.example/compurgator/laws.FnHuntFuel", spec := "fnHuntFuel", unfollowed := true, recurses := true, apart := false, narrowed := true }
def FnHuntFuelUptoSaid : Prop := fnHuntFuelUptoRow.holds Try.pinned (OpenSpec.upto fnHuntFuelSpec)

/-- 'laws.FnLogNever', WHERE WHAT IT READS IS OF BULK AT MOST 1048576: true; the input reads as it did. -/
def fnLogNeverUptoRow : OpenClaim := { program := "ytgobdkgdhmkegaa", sum := "b3e9826294fa52dd5cad37f403de6b78ca49b912fc4da2fd72cdd439bb889479", func := "loop.example/compurgator/laws.FnLogNever", spec := "fnLogNever", unfollowed := true, recurses := true, apart := false, narrowed := true }
def FnLogNeverUptoSaid : Prop := fnLogNeverUptoRow.holds Try.pinned (OpenSpec.upto fnLogNeverSpec)

end Rows
end Go.Proofs.Ytgobdkgdhmkegaa
