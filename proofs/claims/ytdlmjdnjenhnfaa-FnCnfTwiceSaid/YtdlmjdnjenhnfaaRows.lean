/-
  No cell of these rows narrows 'for every input' (looked for: loops, veiled, ifaces, maps, wideKeys, modest, calm, conditions, laid).
  DERIVED. THE GIVEN ROWS OF THIS SEAT. 15 by the template 'for every input the law returns true; each argument reads behind the call as it read before'; 0 by the template 'total and deterministic' (their statements: YtdlmjdnjenhnfaaTotals.lean).
  GIVEN WITH THE SEED: the statements are not yours to turn. If you find one false, say at which input.
  Laid BY PROGRAM, IN A SANDBOX (cutbox-rows.mjs): the forced cells as the released guide's own fill.sh prints them over the translation abb5628afcfb7fb0… (all of the seat's roots in one cut). By AI agents, Wed Nov 11 2026. No macro, syntax, notation, axiom, sorry.
-/
import Derived.Test.YtdlmjdnjenhnfaaChecked
import GoSem.Claim
import GoSem.ClaimJoined
import GoSem.ClaimMapViews
import Derived.JoinedTies
import Derived.KernelRfl
namespace Go.Proofs.Ytdlmjdnjenhnfaa
/- THE CELL 'sum', in the pinned program and in every row, IS THE sha256 OF THE DUMP (.gsa) THAT YtdlmjdnjenhnfaaProg.lean LOADS. Nothing in Lean hashes anything: it is a label: what it is worth is what the hold of that sum in a sandbox is worth. -/
noncomputable def Try.pinned : Pinned := { name := "ytdlmjdnjenhnfaa", sum := "abb5628afcfb7fb0423232d7c1d6bac1e510f310e891129b8f97afff8ab1f4f3", checked := Try.checked }
namespace Rows
def none {H : Type} : Left H := { results := [], args := [] }

/-- 'laws.FnExactClauseOk': WHATEVER THE INPUT: true; the input reads as it did. -/
def fnExactClauseOkSpec : ChangeSpec := { name := "fnExactClauseOk", fn := fun _ => fun
  | [d1, d2] => { results := [.lit (.bool true)], args := [d1, d2] }
  | _ => none }
def fnExactClauseOkRow : OpenClaim := { program := "ytdlmjdnjenhnfaa", sum := "abb5628afcfb7fb0423232d7c1d6bac1e510f310e891129b8f97afff8ab1f4f3", func := "loop.example/compurgator/laws.FnExactClauseOk", spec := "fnExactClauseOk", apart := false }
def FnExactClauseOkSaid : Prop := fnExactClauseOkRow.holds Try.pinned (OpenSpec.ofChange fnExactClauseOkSpec)

/-- ITS FALSE NEIGHBOUR: 'it returns false'. Refute it at one input. -/
def fnExactClauseOkWrong : ChangeSpec := { name := "fnExactClauseOk", fn := fun _ => fun
  | [d1, d2] => { results := [.lit (.bool false)], args := [d1, d2] }
  | _ => none }
def FnExactClauseOkWrongFalsely : Prop := fnExactClauseOkRow.holds Try.pinned (OpenSpec.ofChange fnExactClauseOkWrong)

/-- 'laws.FnExactLogEnds': WHATEVER THE INPUT: true; the input reads as it did. -/
def fnExactLogEndsSpec : ChangeSpec := { name := "fnExactLogEnds", fn := fun _ => fun
  | [d] => { results := [.lit (.bool true)], args := [d] }
  | _ => none }
def fnExactLogEndsRow : OpenClaim := { program := "ytdlmjdnjenhnfaa", sum := "abb5628afcfb7fb0423232d7c1d6bac1e510f310e891129b8f97afff8ab1f4f3", func := "loop.example/compurgator/laws.FnExactLogEnds", spec := "fnExactLogEnds", apart := false }
def FnExactLogEndsSaid : Prop := fnExactLogEndsRow.holds Try.pinned (OpenSpec.ofChange fnExactLogEndsSpec)

/-- ITS FALSE NEIGHBOUR: 'it returns false'. Refute it at one input. -/
def fnExactLogEndsWrong : ChangeSpec := { name := "fnExactLogEnds", fn := fun _ => fun
  | [d] => { results := [.lit (.bool false)], args := [d] }
  | _ => none }
def FnExactLogEndsWrongFalsely : Prop := fnExactLogEndsRow.holds Try.pinned (OpenSpec.ofChange fnExactLogEndsWrong)

/-- 'laws.FnExactClauseIs': WHATEVER THE INPUT: true; the input reads as it did. -/
def fnExactClauseIsSpec : ChangeSpec := { name := "fnExactClauseIs", fn := fun _ => fun
  | [d1, d2] => { results := [.lit (.bool true)], args := [d1, d2] }
  | _ => none }
def fnExactClauseIsRow : OpenClaim := { program := "ytdlmjdnjenhnfaa", sum := "abb5628afcfb7fb0423232d7c1d6bac1e510f310e891129b8f97afff8ab1f4f3", func := "loop.example/compurgator/laws.FnExactClauseIs", spec := "fnExactClauseIs", unfollowed := true, recurses := true, apart := false }
def FnExactClauseIsSaid : Prop := fnExactClauseIsRow.holds Try.pinned (OpenSpec.ofChange fnExactClauseIsSpec)

/-- ITS FALSE NEIGHBOUR: 'it returns false'. Refute it at one input. -/
def fnExactClauseIsWrong : ChangeSpec := { name := "fnExactClauseIs", fn := fun _ => fun
  | [d1, d2] => { results := [.lit (.bool false)], args := [d1, d2] }
  | _ => none }
def FnExactClauseIsWrongFalsely : Prop := fnExactClauseIsRow.holds Try.pinned (OpenSpec.ofChange fnExactClauseIsWrong)

/-- 'laws.FnExactCnfSame': WHATEVER THE INPUT: true; the input reads as it did. -/
def fnExactCnfSameSpec : ChangeSpec := { name := "fnExactCnfSame", fn := fun _ => fun
  | [d1, d2] => { results := [.lit (.bool true)], args := [d1, d2] }
  | _ => none }
def fnExactCnfSameRow : OpenClaim := { program := "ytdlmjdnjenhnfaa", sum := "abb5628afcfb7fb0423232d7c1d6bac1e510f310e891129b8f97afff8ab1f4f3", func := "loop.example/compurgator/laws.FnExactCnfSame", spec := "fnExactCnfSame", unfollowed := true, recurses := true, apart := false }
def FnExactCnfSameSaid : Prop := fnExactCnfSameRow.holds Try.pinned (OpenSpec.ofChange fnExactCnfSameSpec)

/-- ITS FALSE NEIGHBOUR: 'it returns false'. Refute it at one input. -/
def fnExactCnfSameWrong : ChangeSpec := { name := "fnExactCnfSame", fn := fun _ => fun
  | [d1, d2] => { results := [.lit (.bool false)], args := [d1, d2] }
  | _ => none }
def FnExactCnfSameWrongFalsely : Prop := fnExactCnfSameRow.holds Try.pinned (OpenSpec.ofChange fnExactCnfSameWrong)

/-- 'laws.FnExactCnfOk': WHATEVER THE INPUT: true; the input reads as it did. -/
def fnExactCnfOkSpec : ChangeSpec := { name := "fnExactCnfOk", fn := fun _ => fun
  | [d] => { results := [.lit (.bool true)], args := [d] }
  | _ => none }
def fnExactCnfOkRow : OpenClaim := { program := "ytdlmjdnjenhnfaa", sum := "abb5628afcfb7fb0423232d7c1d6bac1e510f310e891129b8f97afff8ab1f4f3", func := "loop.example/compurgator/laws.FnExactCnfOk", spec := "fnExactCnfOk", unfollowed := true, recurses := true, apart := false }
def FnExactCnfOkSaid : Prop := fnExactCnfOkRow.holds Try.pinned (OpenSpec.ofChange fnExactCnfOkSpec)

/-- ITS FALSE NEIGHBOUR: 'it returns false'. Refute it at one input. -/
def fnExactCnfOkWrong : ChangeSpec := { name := "fnExactCnfOk", fn := fun _ => fun
  | [d] => { results := [.lit (.bool false)], args := [d] }
  | _ => none }
def FnExactCnfOkWrongFalsely : Prop := fnExactCnfOkRow.holds Try.pinned (OpenSpec.ofChange fnExactCnfOkWrong)

/-- 'laws.FnExactCnfIs': WHATEVER THE INPUT: true; the input reads as it did. -/
def fnExactCnfIsSpec : ChangeSpec := { name := "fnExactCnfIs", fn := fun _ => fun
  | [d1, d2] => { results := [.lit (.bool true)], args := [d1, d2] }
  | _ => none }
def fnExactCnfIsRow : OpenClaim := { program := "ytdlmjdnjenhnfaa", sum := "abb5628afcfb7fb0423232d7c1d6bac1e510f310e891129b8f97afff8ab1f4f3", func := "loop.example/compurgator/laws.FnExactCnfIs", spec := "fnExactCnfIs", unfollowed := true, recurses := true, apart := false }
def FnExactCnfIsSaid : Prop := fnExactCnfIsRow.holds Try.pinned (OpenSpec.ofChange fnExactCnfIsSpec)

/-- ITS FALSE NEIGHBOUR: 'it returns false'. Refute it at one input. -/
def fnExactCnfIsWrong : ChangeSpec := { name := "fnExactCnfIs", fn := fun _ => fun
  | [d1, d2] => { results := [.lit (.bool false)], args := [d1, d2] }
  | _ => none }
def FnExactCnfIsWrongFalsely : Prop := fnExactCnfIsRow.holds Try.pinned (OpenSpec.ofChange fnExactCnfIsWrong)

/-- 'laws.FnExactCnfRup': WHATEVER THE INPUT: true; the input reads as it did. -/
def fnExactCnfRupSpec : ChangeSpec := { name := "fnExactCnfRup", fn := fun _ => fun
  | [d1, d2] => { results := [.lit (.bool true)], args := [d1, d2] }
  | _ => none }
def fnExactCnfRupRow : OpenClaim := { program := "ytdlmjdnjenhnfaa", sum := "abb5628afcfb7fb0423232d7c1d6bac1e510f310e891129b8f97afff8ab1f4f3", func := "loop.example/compurgator/laws.FnExactCnfRup", spec := "fnExactCnfRup", unfollowed := true, recurses := true, apart := false }
def FnExactCnfRupSaid : Prop := fnExactCnfRupRow.holds Try.pinned (OpenSpec.ofChange fnExactCnfRupSpec)

/-- ITS FALSE NEIGHBOUR: 'it returns false'. Refute it at one input. -/
def fnExactCnfRupWrong : ChangeSpec := { name := "fnExactCnfRup", fn := fun _ => fun
  | [d1, d2] => { results := [.lit (.bool false)], args := [d1, d2] }
  | _ => none }
def FnExactCnfRupWrongFalsely : Prop := fnExactCnfRupRow.holds Try.pinned (OpenSpec.ofChange fnExactCnfRupWrong)

/-- 'laws.FnExactCnfUnits': WHATEVER THE INPUT: true; the input reads as it did. -/
def fnExactCnfUnitsSpec : ChangeSpec := { name := "fnExactCnfUnits", fn := fun _ => fun
  | [d1, d2] => { results := [.lit (.bool true)], args := [d1, d2] }
  | _ => none }
def fnExactCnfUnitsRow : OpenClaim := { program := "ytdlmjdnjenhnfaa", sum := "abb5628afcfb7fb0423232d7c1d6bac1e510f310e891129b8f97afff8ab1f4f3", func := "loop.example/compurgator/laws.FnExactCnfUnits", spec := "fnExactCnfUnits", unfollowed := true, recurses := true, apart := false }
def FnExactCnfUnitsSaid : Prop := fnExactCnfUnitsRow.holds Try.pinned (OpenSpec.ofChange fnExactCnfUnitsSpec)

/-- ITS FALSE NEIGHBOUR: 'it returns false'. Refute it at one input. -/
def fnExactCnfUnitsWrong : ChangeSpec := { name := "fnExactCnfUnits", fn := fun _ => fun
  | [d1, d2] => { results := [.lit (.bool false)], args := [d1, d2] }
  | _ => none }
def FnExactCnfUnitsWrongFalsely : Prop := fnExactCnfUnitsRow.holds Try.pinned (OpenSpec.ofChange fnExactCnfUnitsWrong)

/-- 'laws.FnExactLogOk': WHATEVER THE INPUT: true; the input reads as it did. -/
def fnExactLogOkSpec : ChangeSpec := { name := "fnExactLogOk", fn := fun _ => fun
  | [d1, d2] => { results := [.lit (.bool true)], args := [d1, d2] }
  | _ => none }
def fnExactLogOkRow : OpenClaim := { program := "ytdlmjdnjenhnfaa", sum := "abb5628afcfb7fb0423232d7c1d6bac1e510f310e891129b8f97afff8ab1f4f3", func := "loop.example/compurgator/laws.FnExactLogOk", spec := "fnExactLogOk", unfollowed := true, recurses := true, apart := false }
def FnExactLogOkSaid : Prop := fnExactLogOkRow.holds Try.pinned (OpenSpec.ofChange fnExactLogOkSpec)

/-- ITS FALSE NEIGHBOUR: 'it returns false'. Refute it at one input. -/
def fnExactLogOkWrong : ChangeSpec := { name := "fnExactLogOk", fn := fun _ => fun
  | [d1, d2] => { results := [.lit (.bool false)], args := [d1, d2] }
  | _ => none }
def FnExactLogOkWrongFalsely : Prop := fnExactLogOkRow.holds Try.pinned (OpenSpec.ofChange fnExactLogOkWrong)

/-- 'laws.FnExactLogTrim': WHATEVER THE INPUT: true; the input reads as it did. -/
def fnExactLogTrimSpec : ChangeSpec := { name := "fnExactLogTrim", fn := fun _ => fun
  | [d1, d2] => { results := [.lit (.bool true)], args := [d1, d2] }
  | _ => none }
def fnExactLogTrimRow : OpenClaim := { program := "ytdlmjdnjenhnfaa", sum := "abb5628afcfb7fb0423232d7c1d6bac1e510f310e891129b8f97afff8ab1f4f3", func := "loop.example/compurgator/laws.FnExactLogTrim", spec := "fnExactLogTrim", unfollowed := true, recurses := true, apart := false }
def FnExactLogTrimSaid : Prop := fnExactLogTrimRow.holds Try.pinned (OpenSpec.ofChange fnExactLogTrimSpec)

/-- ITS FALSE NEIGHBOUR: 'it returns false'. Refute it at one input. -/
def fnExactLogTrimWrong : ChangeSpec := { name := "fnExactLogTrim", fn := fun _ => fun
  | [d1, d2] => { results := [.lit (.bool false)], args := [d1, d2] }
  | _ => none }
def FnExactLogTrimWrongFalsely : Prop := fnExactLogTrimRow.holds Try.pinned (OpenSpec.ofChange fnExactLogTrimWrong)

/-- 'laws.FnCnfSame': WHATEVER THE INPUT: true; the input reads as it did. -/
def fnCnfSameSpec : ChangeSpec := { name := "fnCnfSame", fn := fun _ => fun
  | [d] => { results := [.lit (.bool true)], args := [d] }
  | _ => none }
def fnCnfSameRow : OpenClaim := { program := "ytdlmjdnjenhnfaa", sum := "abb5628afcfb7fb0423232d7c1d6bac1e510f310e891129b8f97afff8ab1f4f3", func := "loop.example/compurgator/laws.FnCnfSame", spec := "fnCnfSame", unfollowed := true, recurses := true, apart := false }
def FnCnfSameSaid : Prop := fnCnfSameRow.holds Try.pinned (OpenSpec.ofChange fnCnfSameSpec)

/-- ITS FALSE NEIGHBOUR: 'it returns false'. Refute it at one input. -/
def fnCnfSameWrong : ChangeSpec := { name := "fnCnfSame", fn := fun _ => fun
  | [d] => { results := [.lit (.bool false)], args := [d] }
  | _ => none }
def FnCnfSameWrongFalsely : Prop := fnCnfSameRow.holds Try.pinned (OpenSpec.ofChange fnCnfSameWrong)

/-- 'laws.FnCnfIs': WHATEVER THE INPUT: true; the input reads as it did. -/
def fnCnfIsSpec : ChangeSpec := { name := "fnCnfIs", fn := fun _ => fun
  | [d1, d2] => { results := [.lit (.bool true)], args := [d1, d2] }
  | _ => none }
def fnCnfIsRow : OpenClaim := { program := "ytdlmjdnjenhnfaa", sum := "abb5628afcfb7fb0423232d7c1d6bac1e510f310e891129b8f97afff8ab1f4f3", func := "loop.example/compurgator/laws.FnCnfIs", spec := "fnCnfIs", unfollowed := true, recurses := true, apart := false }
def FnCnfIsSaid : Prop := fnCnfIsRow.holds Try.pinned (OpenSpec.ofChange fnCnfIsSpec)

/-- ITS FALSE NEIGHBOUR: 'it returns false'. Refute it at one input. -/
def fnCnfIsWrong : ChangeSpec := { name := "fnCnfIs", fn := fun _ => fun
  | [d1, d2] => { results := [.lit (.bool false)], args := [d1, d2] }
  | _ => none }
def FnCnfIsWrongFalsely : Prop := fnCnfIsRow.holds Try.pinned (OpenSpec.ofChange fnCnfIsWrong)

/-- 'laws.FnCnfBent': WHATEVER THE INPUT: true; the input reads as it did. -/
def fnCnfBentSpec : ChangeSpec := { name := "fnCnfBent", fn := fun _ => fun
  | [d] => { results := [.lit (.bool true)], args := [d] }
  | _ => none }
def fnCnfBentRow : OpenClaim := { program := "ytdlmjdnjenhnfaa", sum := "abb5628afcfb7fb0423232d7c1d6bac1e510f310e891129b8f97afff8ab1f4f3", func := "loop.example/compurgator/laws.FnCnfBent", spec := "fnCnfBent", unfollowed := true, recurses := true, apart := false }
def FnCnfBentSaid : Prop := fnCnfBentRow.holds Try.pinned (OpenSpec.ofChange fnCnfBentSpec)

/-- ITS FALSE NEIGHBOUR: 'it returns false'. Refute it at one input. -/
def fnCnfBentWrong : ChangeSpec := { name := "fnCnfBent", fn := fun _ => fun
  | [d] => { results := [.lit (.bool false)], args := [d] }
  | _ => none }
def FnCnfBentWrongFalsely : Prop := fnCnfBentRow.holds Try.pinned (OpenSpec.ofChange fnCnfBentWrong)

/-- 'laws.FnCnfTwice': WHATEVER THE INPUT: true; the input reads as it did. -/
def fnCnfTwiceSpec : ChangeSpec := { name := "fnCnfTwice", fn := fun _ => fun
  | [d] => { results := [.lit (.bool true)], args := [d] }
  | _ => none }
def fnCnfTwiceRow : OpenClaim := { program := "ytdlmjdnjenhnfaa", sum := "abb5628afcfb7fb0423232d7c1d6bac1e510f310e891129b8f97afff8ab1f4f3", func := "loop.example/compurgator/laws.FnCnfTwice", spec := "fnCnfTwice", unfollowed := true, recurses := true, apart := false }
def FnCnfTwiceSaid : Prop := fnCnfTwiceRow.holds Try.pinned (OpenSpec.ofChange fnCnfTwiceSpec)

/-- ITS FALSE NEIGHBOUR: 'it returns false'. Refute it at one input. -/
def fnCnfTwiceWrong : ChangeSpec := { name := "fnCnfTwice", fn := fun _ => fun
  | [d] => { results := [.lit (.bool false)], args := [d] }
  | _ => none }
def FnCnfTwiceWrongFalsely : Prop := fnCnfTwiceRow.holds Try.pinned (OpenSpec.ofChange fnCnfTwiceWrong)

/-- 'laws.FnCnfRup': WHATEVER THE INPUT: true; the input reads as it did. -/
def fnCnfRupSpec : ChangeSpec := { name := "fnCnfRup", fn := fun _ => fun
  | [d] => { results := [.lit (.bool true)], args := [d] }
  | _ => none }
def fnCnfRupRow : OpenClaim := { program := "ytdlmjdnjenhnfaa", sum := "abb5628afcfb7fb0423232d7c1d6bac1e510f310e891129b8f97afff8ab1f4f3", func := "loop.example/compurgator/laws.FnCnfRup", spec := "fnCnfRup", unfollowed := true, recurses := true, apart := false }
def FnCnfRupSaid : Prop := fnCnfRupRow.holds Try.pinned (OpenSpec.ofChange fnCnfRupSpec)

/-- ITS FALSE NEIGHBOUR: 'it returns false'. Refute it at one input. -/
def fnCnfRupWrong : ChangeSpec := { name := "fnCnfRup", fn := fun _ => fun
  | [d] => { results := [.lit (.bool false)], args := [d] }
  | _ => none }
def FnCnfRupWrongFalsely : Prop := fnCnfRupRow.holds Try.pinned (OpenSpec.ofChange fnCnfRupWrong)

/- THE SECOND FORM. 'bulk': how many values and letters a reading holds, each counted each time it is reached (what is shared counts as often as it is met; a slice's spare places count too). A statement '..UptoSaid' is the law's where the arguments, and the package variables that the reading takes, are together of bulk at most 1048576: NARROWER than '..Said'. Prove '..Said' where nothing that the law and all that it calls make is longer than what came in: it says more and counts as full. Else prove '..UptoSaid'. A law counts once. -/
mutual
def uptoBulk {H : Type} : DataW H → Nat
  | .lit (.string bytes) => bytes.length + 1
  | .lit _ => 1
  | .nil => 1
  | .ptr d => uptoBulk d + 1
  | .slice elems spare => uptoBulkAll elems + uptoBulkAll spare + 1
  | .agg parts => uptoBulkAll parts + 1
  | .iface _ d => uptoBulk d + 1
  | .map entries => uptoBulkEntries entries + 1
  | .held _ => 1
def uptoBulkAll {H : Type} : List (DataW H) → Nat
  | [] => 0
  | d :: r => uptoBulk d + uptoBulkAll r
def uptoBulkEntries {H : Type} : List (Lit × DataW H) → Nat
  | [] => 0
  | x :: r => uptoBulkEntry x + uptoBulkEntries r
def uptoBulkEntry {H : Type} : Lit × DataW H → Nat
  | (.string bytes, d) => bytes.length + uptoBulk d + 1
  | (_, d) => uptoBulk d + 1
 end
def uptoSmall : (H : Type) → List (DataW H) → Bool := fun _ ds => decide (uptoBulkAll ds ≤ 1048576)
def OpenSpec.upto (s : _root_.Go.ChangeSpec) : _root_.Go.OpenSpec := { _root_.Go.OpenSpec.ofChange s with cond := some uptoSmall }

/-- 'laws.FnExactClauseOk', WHERE WHAT IT READS IS OF BULK AT MOST 1048576: true; the input reads as it did. -/
def fnExactClauseOkUptoRow : OpenClaim := { program := "ytdlmjdnjenhnfaa", sum := "abb5628afcfb7fb0423232d7c1d6bac1e510f310e891129b8f97afff8ab1f4f3", func := "loop.example/compurgator/laws.FnExactClauseOk", spec := "fnExactClauseOk", apart := false, narrowed := true }
def FnExactClauseOkUptoSaid : Prop := fnExactClauseOkUptoRow.holds Try.pinned (OpenSpec.upto fnExactClauseOkSpec)

/-- 'laws.FnExactLogEnds', WHERE WHAT IT READS IS OF BULK AT MOST 1048576: true; the input reads as it did. -/
def fnExactLogEndsUptoRow : OpenClaim := { program := "ytdlmjdnjenhnfaa", sum := "abb5628afcfb7fb0423232d7c1d6bac1e510f310e891129b8f97afff8ab1f4f3", func := "loop.example/compurgator/laws.FnExactLogEnds", spec := "fnExactLogEnds", apart := false, narrowed := true }
def FnExactLogEndsUptoSaid : Prop := fnExactLogEndsUptoRow.holds Try.pinned (OpenSpec.upto fnExactLogEndsSpec)

/-- 'laws.FnExactClauseIs', WHERE WHAT IT READS IS OF BULK AT MOST 1048576: true; the input reads as it did. -/
def fnExactClauseIsUptoRow : OpenClaim := { program := "ytdlmjdnjenhnfaa", sum := "abb5628afcfb7fb0423232d7c1d6bac1e510f310e891129b8f97afff8ab1f4f3", func := "loop.example/compurgator/laws.FnExactClauseIs", spec := "fnExactClauseIs", unfollowed := true, recurses := true, apart := false, narrowed := true }
def FnExactClauseIsUptoSaid : Prop := fnExactClauseIsUptoRow.holds Try.pinned (OpenSpec.upto fnExactClauseIsSpec)

/-- 'laws.FnExactCnfSame', WHERE WHAT IT READS IS OF BULK AT MOST 1048576: true; the input reads as it did. -/
def fnExactCnfSameUptoRow : OpenClaim := { program := "ytdlmjdnjenhnfaa", sum := "abb5628afcfb7fb0423232d7c1d6bac1e510f310e891129b8f97afff8ab1f4f3", func := "loop.example/compurgator/laws.FnExactCnfSame", spec := "fnExactCnfSame", unfollowed := true, recurses := true, apart := false, narrowed := true }
def FnExactCnfSameUptoSaid : Prop := fnExactCnfSameUptoRow.holds Try.pinned (OpenSpec.upto fnExactCnfSameSpec)

/-- 'laws.FnExactCnfOk', WHERE WHAT IT READS IS OF BULK AT MOST 1048576: true; the input reads as it did. -/
def fnExactCnfOkUptoRow : OpenClaim := { program := "ytdlmjdnjenhnfaa", sum := "abb5628afcfb7fb0423232d7c1d6bac1e510f310e891129b8f97afff8ab1f4f3", func := "loop.example/compurgator/laws.FnExactCnfOk", spec := "fnExactCnfOk", unfollowed := true, recurses := true, apart := false, narrowed := true }
def FnExactCnfOkUptoSaid : Prop := fnExactCnfOkUptoRow.holds Try.pinned (OpenSpec.upto fnExactCnfOkSpec)

/-- 'laws.FnExactCnfIs', WHERE WHAT IT READS IS OF BULK AT MOST 1048576: true; the input reads as it did. -/
def fnExactCnfIsUptoRow : OpenClaim := { program := "ytdlmjdnjenhnfaa", sum := "abb5628afcfb7fb0423232d7c1d6bac1e510f310e891129b8f97afff8ab1f4f3", func := "loop.example/compurgator/laws.FnExactCnfIs", spec := "fnExactCnfIs", unfollowed := true, recurses := true, apart := false, narrowed := true }
def FnExactCnfIsUptoSaid : Prop := fnExactCnfIsUptoRow.holds Try.pinned (OpenSpec.upto fnExactCnfIsSpec)

/-- 'laws.FnExactCnfRup', WHERE WHAT IT READS IS OF BULK AT MOST 1048576: true; the input reads as it did. -/
def fnExactCnfRupUptoRow : OpenClaim := { program := "ytdlmjdnjenhnfaa", sum := "abb5628afcfb7fb0423232d7c1d6bac1e510f310e891129b8f97afff8ab1f4f3", func := "loop.example/compurgator/laws.FnExactCnfRup", spec := "fnExactCnfRup", unfollowed := true, recurses := true, apart := false, narrowed := true }
def FnExactCnfRupUptoSaid : Prop := fnExactCnfRupUptoRow.holds Try.pinned (OpenSpec.upto fnExactCnfRupSpec)

/-- 'laws.FnExactCnfUnits', WHERE WHAT IT READS IS OF BULK AT MOST 1048576: true; the input reads as it did. -/
def fnExactCnfUnitsUptoRow : OpenClaim := { program := "ytdlmjdnjenhnfaa", sum := "abb5628afcfb7fb0423232d7c1d6bac1e510f310e891129b8f97afff8ab1f4f3", func := "loop.example/compurgator/laws.FnExactCnfUnits", spec := "fnExactCnfUnits", unfollowed := true, recurses := true, apart := false, narrowed := true }
def FnExactCnfUnitsUptoSaid : Prop := fnExactCnfUnitsUptoRow.holds Try.pinned (OpenSpec.upto fnExactCnfUnitsSpec)

/-- 'laws.FnExactLogOk', WHERE WHAT IT READS IS OF BULK AT MOST 1048576: true; the input reads as it did. -/
def fnExactLogOkUptoRow : OpenClaim := { program := "ytdlmjdnjenhnfaa", sum := "abb5628afcfb7fb0423232d7c1d6bac1e510f310e891129b8f97afff8ab1f4f3", func := "loop.example/compurgator/laws.FnExactLogOk", spec := "fnExactLogOk", unfollowed := true, recurses := true, apart := false, narrowed := true }
def FnExactLogOkUptoSaid : Prop := fnExactLogOkUptoRow.holds Try.pinned (OpenSpec.upto fnExactLogOkSpec)

/-- 'laws.FnExactLogTrim', WHERE WHAT IT READS IS OF BULK AT MOST 1048576: true; the input reads as it did. -/
def fnExactLogTrimUptoRow : OpenClaim := { program := "ytdlmjdnjenhnfaa", sum := "abb5628afcfb7fb0423232d7c1d6bac1e510f310e891129b8f97afff8ab1f4f3", func := "loop.example/compurgator/laws.FnExactLogTrim", spec := "fnExactLogTrim", unfollowed := true, recurses := true, apart := false, narrowed := true }
def FnExactLogTrimUptoSaid : Prop := fnExactLogTrimUptoRow.holds Try.pinned (OpenSpec.upto fnExactLogTrimSpec)

/-- 'laws.FnCnfSame', WHERE WHAT IT READS IS OF BULK AT MOST 1048576: true; the input reads as it did. -/
def fnCnfSameUptoRow : OpenClaim := { program := "ytdlmjdnjenhnfaa", sum := "abb5628afcfb7fb0423232d7c1d6bac1e510f310e891129b8f97afff8ab1f4f3", func := "loop.example/compurgator/laws.FnCnfSame", spec := "fnCnfSame", unfollowed := true, recurses := true, apart := false, narrowed := true }
def FnCnfSameUptoSaid : Prop := fnCnfSameUptoRow.holds Try.pinned (OpenSpec.upto fnCnfSameSpec)

/-- 'laws.FnCnfIs', WHERE WHAT IT READS IS OF BULK AT MOST 1048576: true; the input reads as it did. -/
def fnCnfIsUptoRow : OpenClaim := { program := "ytdlmjdnjenhnfaa", sum := "abb5628afcfb7fb0423232d7c1d6bac1e510f310e891129b8f97afff8ab1f4f3", func := "loop.example/compurgator/laws.FnCnfIs", spec := "fnCnfIs", unfollowed := true, recurses := true, apart := false, narrowed := true }
def FnCnfIsUptoSaid : Prop := fnCnfIsUptoRow.holds Try.pinned (OpenSpec.upto fnCnfIsSpec)

/-- 'laws.FnCnfBent', WHERE WHAT IT READS IS OF BULK AT MOST 1048576: true; the input reads as it did. -/
def fnCnfBentUptoRow : OpenClaim := { program := "ytdlmjdnjenhnfaa", sum := "abb5628afcfb7fb0423232d7c1d6bac1e510f310e891129b8f97afff8ab1f4f3", func := "loop.example/compurgator/laws.FnCnfBent", spec := "fnCnfBent", unfollowed := true, recurses := true, apart := false, narrowed := true }
def FnCnfBentUptoSaid : Prop := fnCnfBentUptoRow.holds Try.pinned (OpenSpec.upto fnCnfBentSpec)

/-- 'laws.FnCnfTwice', WHERE WHAT IT READS IS OF BULK AT MOST 1048576: true; the input reads as it did. -/
def fnCnfTwiceUptoRow : OpenClaim := { program := "ytdlmjdnjenhnfaa", sum := "abb5628afcfb7fb0423232d7c1d6bac1e510f310e891129b8f97afff8ab1f4f3", func := "loop.example/compurgator/laws.FnCnfTwice", spec := "fnCnfTwice", unfollowed := true, recurses := true, apart := false, narrowed := true }
def FnCnfTwiceUptoSaid : Prop := fnCnfTwiceUptoRow.holds Try.pinned (OpenSpec.upto fnCnfTwiceSpec)

/-- 'laws.FnCnfRup', WHERE WHAT IT READS IS OF BULK AT MOST 1048576: true; the input reads as it did. -/
def fnCnfRupUptoRow : OpenClaim := { program := "ytdlmjdnjenhnfaa", sum := "abb5628afcfb7fb0423232d7c1d6bac1e510f310e891129b8f97afff8ab1f4f3", func := "loop.example/compurgator/laws.FnCnfRup", spec := "fnCnfRup", unfollowed := true, recurses := true, apart := false, narrowed := true }
def FnCnfRupUptoSaid : Prop := fnCnfRupUptoRow.holds Try.pinned (OpenSpec.upto fnCnfRupSpec)

end Rows
end Go.Proofs.Ytdlmjdnjenhnfaa
