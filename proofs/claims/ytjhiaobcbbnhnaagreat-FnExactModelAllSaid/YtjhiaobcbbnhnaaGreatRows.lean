/-
  NARROWER THAN 'FOR EVERY INPUT', by the rows' own cells (each row's printed sentence says how): FnExactModelLit: loops · FnExactModelAll: loops.
  DERIVED. THE GIVEN ROWS OF THIS SEAT. 2 by the template 'for every input the law returns true; each argument reads behind the call as it read before'; 0 by the template 'total and deterministic' (their statements: YtjhiaobcbbnhnaaGreatTotals.lean).
  GIVEN WITH THE SEED: the statements are not yours to turn. If you find one false, say at which input.
  Laid BY PROGRAM, IN A SANDBOX (cutbox-rows.mjs): the forced cells as the released guide's own fill.sh prints them over the translation 9131f37784d2a3e7… (all of the seat's roots in one cut). By AI agents, Wed Nov 11 2026. No macro, syntax, notation, axiom, sorry.
-/
import Derived.Test.YtjhiaobcbbnhnaaGreatChecked
import GoSem.Claim
import GoSem.ClaimJoined
import GoSem.ClaimMapViews
import Derived.JoinedTies
import Derived.KernelRfl
namespace Go.Proofs.YtjhiaobcbbnhnaaGreat
/- THE CELL 'sum', in the pinned program and in every row, IS THE sha256 OF THE DUMP (.gsa) THAT YtjhiaobcbbnhnaaGreatProg.lean LOADS. Nothing in Lean hashes anything: it is a label: what it is worth is what the hold of that sum in a sandbox is worth. -/
noncomputable def Tryz.pinned : Pinned := { name := "ytjhiaobcbbnhnaagreat", sum := "9131f37784d2a3e7974e2f15a8d1b11a44cf9e024708ba22f486d98c9491ced8", checked := Tryz.checked }
namespace Rows
def none {H : Type} : Left H := { results := [], args := [] }

/-- 'laws.FnExactModelLit': WHATEVER THE INPUT: true; the input reads as it did. -/
def fnExactModelLitSpec : ChangeSpec := { name := "fnExactModelLit", fn := fun _ => fun
  | [d1, d2, d3] => { results := [.lit (.bool true)], args := [d1, d2, d3] }
  | _ => none }
def fnExactModelLitRow : OpenClaim := { program := "ytjhiaobcbbnhnaagreat", sum := "9131f37784d2a3e7974e2f15a8d1b11a44cf9e024708ba22f486d98c9491ced8", func := "loop.example/compurgator/laws.FnExactModelLit", spec := "fnExactModelLit", inPlace := ["internal/abi.NoEscape", "internal/bytealg.MakeNoZero"], unfollowed := true, recurses := true, loops := true, apart := false }
def FnExactModelLitSaid : Prop := fnExactModelLitRow.holds Tryz.pinned (OpenSpec.ofChange fnExactModelLitSpec)

/-- ITS FALSE NEIGHBOUR: 'it returns false'. Refute it at one input. -/
def fnExactModelLitWrong : ChangeSpec := { name := "fnExactModelLit", fn := fun _ => fun
  | [d1, d2, d3] => { results := [.lit (.bool false)], args := [d1, d2, d3] }
  | _ => none }
def FnExactModelLitWrongFalsely : Prop := fnExactModelLitRow.holds Tryz.pinned (OpenSpec.ofChange fnExactModelLitWrong)

/-- 'laws.FnExactModelAll': WHATEVER THE INPUT: true; the input reads as it did. -/
def fnExactModelAllSpec : ChangeSpec := { name := "fnExactModelAll", fn := fun _ => fun
  | [d1, d2, d3] => { results := [.lit (.bool true)], args := [d1, d2, d3] }
  | _ => none }
def fnExactModelAllRow : OpenClaim := { program := "ytjhiaobcbbnhnaagreat", sum := "9131f37784d2a3e7974e2f15a8d1b11a44cf9e024708ba22f486d98c9491ced8", func := "loop.example/compurgator/laws.FnExactModelAll", spec := "fnExactModelAll", inPlace := ["internal/abi.NoEscape", "internal/bytealg.MakeNoZero"], unfollowed := true, recurses := true, loops := true, apart := false }
def FnExactModelAllSaid : Prop := fnExactModelAllRow.holds Tryz.pinned (OpenSpec.ofChange fnExactModelAllSpec)

/-- ITS FALSE NEIGHBOUR: 'it returns false'. Refute it at one input. -/
def fnExactModelAllWrong : ChangeSpec := { name := "fnExactModelAll", fn := fun _ => fun
  | [d1, d2, d3] => { results := [.lit (.bool false)], args := [d1, d2, d3] }
  | _ => none }
def FnExactModelAllWrongFalsely : Prop := fnExactModelAllRow.holds Tryz.pinned (OpenSpec.ofChange fnExactModelAllWrong)

/- THE SECOND FORM. 'bulk': how many values and letters a reading holds, each counted each time it is reached (what is shared counts as often as it is met; a slice's spare places count too). A statement '..UptoSaid' is the law's where the arguments, and the package variables that the reading takes, are together of bulk at most 1048576: NARROWER than '..Said'. Prove '..Said' where nothing that the law and all that it calls make is longer than what came in: it says more and counts as full. Else prove '..UptoSaid'. A law counts once. -/
mutual
def uptoBulk {H : Type} : DataW H → Nat
  | .lit (.string bytes) => bytes.length + 1
  | .lit _ => 1
  | .nil => 1
  | .ptr d => uptoBulk d + 1
  | .slice elems spare => uptoBulkAll elems + uptoBulkAll spare + 1
  | .agg parts => uptoBulkAll parts + 1
  | .iface _ d => uptoBulk d + 1
  | .map entries => uptoBulkEntries entries + 1
  | .held _ => 1
def uptoBulkAll {H : Type} : List (DataW H) → Nat
  | [] => 0
  | d :: r => uptoBulk d + uptoBulkAll r
def uptoBulkEntries {H : Type} : List (Lit × DataW H) → Nat
  | [] => 0
  | x :: r => uptoBulkEntry x + uptoBulkEntries r
def uptoBulkEntry {H : Type} : Lit × DataW H → Nat
  | (.string bytes, d) => bytes.length + uptoBulk d + 1
  | (_, d) => uptoBulk d + 1
 end
def uptoSmall : (H : Type) → List (DataW H) → Bool := fun _ ds => decide (uptoBulkAll ds ≤ 1048576)
def OpenSpec.upto (s : _root_.Go.ChangeSpec) : _root_.Go.OpenSpec := { _root_.Go.OpenSpec.ofChange s with cond := some uptoSmall }

/-- 'laws.FnExactModelLit', WHERE WHAT IT READS IS OF BULK AT MOST 1048576: true; the input reads as it did. -/
def fnExactModelLitUptoRow : OpenClaim := { program := "ytjhiaobcbbnhnaagreat", sum := "9131f37784d2a3e7974e2f15a8d1b11a44cf9e024708ba22f486d98c9491ced8", func := "loop.example/compurgator/laws.FnExactModelLit", spec := "fnExactModelLit", inPlace := ["internal/abi.NoEscape", "internal/bytealg.MakeNoZero"], unfollowed := true, recurses := true, loops := true, apart := false, narrowed := true }
def FnExactModelLitUptoSaid : Prop := fnExactModelLitUptoRow.holds Tryz.pinned (OpenSpec.upto fnExactModelLitSpec)

/-- 'laws.FnExactModelAll', WHERE WHAT IT READS IS OF BULK AT MOST 1048576: true; the input reads as it did. -/
def fnExactModelAllUptoRow : OpenClaim := { program := "ytjhiaobcbbnhnaagreat", sum := "9131f37784d2a3e7974e2f15a8d1b11a44cf9e024708ba22f486d98c9491ced8", func := "loop.example/compurgator/laws.FnExactModelAll", spec := "fnExactModelAll", inPlace := ["internal/abi.NoEscape", "internal/bytealg.MakeNoZero"], unfollowed := true, recurses := true, loops := true, apart := false, narrowed := true }
def FnExactModelAllUptoSaid : Prop := fnExactModelAllUptoRow.holds Tryz.pinned (OpenSpec.upto fnExactModelAllSpec)

end Rows
end Go.Proofs.YtjhiaobcbbnhnaaGreat
