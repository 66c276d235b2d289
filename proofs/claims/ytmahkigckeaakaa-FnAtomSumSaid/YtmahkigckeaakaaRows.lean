/-
  No cell of these rows narrows 'for every input' (looked for: loops, veiled, ifaces, maps, wideKeys, modest, calm, conditions, laid).
  DERIVED. THE GIVEN ROWS OF THIS SEAT. 3 by the template 'for every input the law returns true; each argument reads behind the call as it read before'; 0 by the template 'total and deterministic' (their statements: YtmahkigckeaakaaTotals.lean).
  GIVEN WITH THE SEED: the statements are not yours to turn. If you find one false, say at which input.
  Laid BY PROGRAM, IN A SANDBOX (cutbox-rows.mjs): the forced cells as the released guide's own fill.sh prints them over the translation 5c335497c2160a55… (all of the seat's roots in one cut). By AI agents, Wed Nov 11 2026. No macro, syntax, notation, axiom, sorry.
-/
import Derived.Test.YtmahkigckeaakaaChecked
import GoSem.Claim
import GoSem.ClaimJoined
import GoSem.ClaimMapViews
import Derived.JoinedTies
import Derived.KernelRfl
namespace Go.Proofs.Ytmahkigckeaakaa
/- THE CELL 'sum', in the pinned program and in every row, IS THE sha256 OF THE DUMP (.gsa) THAT YtmahkigckeaakaaProg.lean LOADS. Nothing in Lean hashes anything: it is a label: what it is worth is what the hold of that sum in a sandbox is worth. -/
noncomputable def Try.pinned : Pinned := { name := "ytmahkigckeaakaa", sum := "5c335497c2160a558a423ea66d7b2af2e924c461ed4f1a6386825b062a5e0cee", checked := Try.checked }
namespace Rows
def none {H : Type} : Left H := { results := [], args := [] }

/-- 'laws.FnModelEq': WHATEVER THE INPUT: true; the input reads as it did. -/
def fnModelEqSpec : ChangeSpec := { name := "fnModelEq", fn := fun _ => fun
  | [d] => { results := [.lit (.bool true)], args := [d] }
  | _ => none }
def fnModelEqRow : OpenClaim := { program := "ytmahkigckeaakaa", sum := "5c335497c2160a558a423ea66d7b2af2e924c461ed4f1a6386825b062a5e0cee", func := "loop.example/compurgator/laws.FnModelEq", spec := "fnModelEq", unfollowed := true, recurses := true, apart := false }
def FnModelEqSaid : Prop := fnModelEqRow.holds Try.pinned (OpenSpec.ofChange fnModelEqSpec)

/-- ITS FALSE NEIGHBOUR: 'it returns false'. Refute it at one input. -/
def fnModelEqWrong : ChangeSpec := { name := "fnModelEq", fn := fun _ => fun
  | [d] => { results := [.lit (.bool false)], args := [d] }
  | _ => none }
def FnModelEqWrongFalsely : Prop := fnModelEqRow.holds Try.pinned (OpenSpec.ofChange fnModelEqWrong)

/-- 'laws.FnAtomSum': WHATEVER THE INPUT: true; the input reads as it did. -/
def fnAtomSumSpec : ChangeSpec := { name := "fnAtomSum", fn := fun _ => fun
  | [d] => { results := [.lit (.bool true)], args := [d] }
  | _ => none }
def fnAtomSumRow : OpenClaim := { program := "ytmahkigckeaakaa", sum := "5c335497c2160a558a423ea66d7b2af2e924c461ed4f1a6386825b062a5e0cee", func := "loop.example/compurgator/laws.FnAtomSum", spec := "fnAtomSum", inPlace := ["internal/abi.NoEscape", "internal/bytealg.MakeNoZero"], unfollowed := true, recurses := true, apart := false }
def FnAtomSumSaid : Prop := fnAtomSumRow.holds Try.pinned (OpenSpec.ofChange fnAtomSumSpec)

/-- ITS FALSE NEIGHBOUR: 'it returns false'. Refute it at one input. -/
def fnAtomSumWrong : ChangeSpec := { name := "fnAtomSum", fn := fun _ => fun
  | [d] => { results := [.lit (.bool false)], args := [d] }
  | _ => none }
def FnAtomSumWrongFalsely : Prop := fnAtomSumRow.holds Try.pinned (OpenSpec.ofChange fnAtomSumWrong)

/-- 'laws.FnModelTerm': WHATEVER THE INPUT: true; the input reads as it did. -/
def fnModelTermSpec : ChangeSpec := { name := "fnModelTerm", fn := fun _ => fun
  | [d] => { results := [.lit (.bool true)], args := [d] }
  | _ => none }
def fnModelTermRow : OpenClaim := { program := "ytmahkigckeaakaa", sum := "5c335497c2160a558a423ea66d7b2af2e924c461ed4f1a6386825b062a5e0cee", func := "loop.example/compurgator/laws.FnModelTerm", spec := "fnModelTerm", unfollowed := true, recurses := true, apart := false }
def FnModelTermSaid : Prop := fnModelTermRow.holds Try.pinned (OpenSpec.ofChange fnModelTermSpec)

/-- ITS FALSE NEIGHBOUR: 'it returns false'. Refute it at one input. -/
def fnModelTermWrong : ChangeSpec := { name := "fnModelTerm", fn := fun _ => fun
  | [d] => { results := [.lit (.bool false)], args := [d] }
  | _ => none }
def FnModelTermWrongFalsely : Prop := fnModelTermRow.holds Try.pinned (OpenSpec.ofChange fnModelTermWrong)

/- THE SECOND FORM. 'bulk': how many values and letters a reading holds, each counted each time it is reached (what is shared counts as often as it is met; a slice's spare places count too). A statement '..UptoSaid' is the law's where the arguments, and the package variables that the reading takes, are together of bulk at most 1048576: NARROWER than '..Said'. Prove '..Said' where nothing that the law and all that it calls make is longer than what came in: it says more and counts as full. Else prove '..UptoSaid'. A law counts once. -/
mutual
def uptoBulk {H : Type} : DataW H → Nat
  | .lit (.string bytes) => bytes.length + 1
  | .lit _ => 1
  | .nil => 1
  | .ptr d => uptoBulk d + 1
  | .slice elems spare => uptoBulkAll elems + uptoBulkAll spare + 1
  | .agg parts => uptoBulkAll parts + 1
  | .iface _ d => uptoBulk d + 1
  | .map entries => uptoBulkEntries entries + 1
  | .held _ => 1
def uptoBulkAll {H : Type} : List (DataW H) → Nat
  | [] => 0
  | d :: r => uptoBulk d + uptoBulkAll r
def uptoBulkEntries {H : Type} : List (Lit × DataW H) → Nat
  | [] => 0
  | x :: r => uptoBulkEntry x + uptoBulkEntries r
def uptoBulkEntry {H : Type} : Lit × DataW H → Nat
  | (.string bytes, d) => bytes.length + uptoBulk d + 1
  | (_, d) => uptoBulk d + 1
 end
def uptoSmall : (H : Type) → List (DataW H) → Bool := fun _ ds => decide (uptoBulkAll ds ≤ 1048576)
def OpenSpec.upto (s : _root_.Go.ChangeSpec) : _root_.Go.OpenSpec := { _root_.Go.OpenSpec.ofChange s with cond := some uptoSmall }

/-- 'laws.FnModelEq', WHERE WHAT IT READS IS OF BULK AT MOST 1048576: true; the input reads as it did. -/
def fnModelEqUptoRow : OpenClaim := { program := "ytmahkigckeaakaa", sum := "5c335497c2160a558a423ea66d7b2af2e924c461ed4f1a6386825b062a5e0cee", func := "loop.example/compurgator/laws.FnModelEq", spec := "fnModelEq", unfollowed := true, recurses := true, apart := false, narrowed := true }
def FnModelEqUptoSaid : Prop := fnModelEqUptoRow.holds Try.pinned (OpenSpec.upto fnModelEqSpec)

/-- 'laws.FnAtomSum', WHERE WHAT IT READS IS OF BULK AT MOST 1048576: true; the input reads as it did. -/
def fnAtomSumUptoRow : OpenClaim := { program := "ytmahkigckeaakaa", sum := "5c335497c2160a558a423ea66d7b2af2e924c461ed4f1a6386825b062a5e0cee", func := "loop.example/compurgator/laws.FnAtomSum", spec := "fnAtomSum", inPlace := ["internal/abi.NoEscape", "internal/bytealg.MakeNoZero"], unfollowed := true, recurses := true, apart := false, narrowed := true }
def FnAtomSumUptoSaid : Prop := fnAtomSumUptoRow.holds Try.pinned (OpenSpec.upto fnAtomSumSpec)

/-- 'laws.FnModelTerm', WHERE WHAT IT READS IS OF BULK AT MOST 1048576: true; the input reads as it did. -/
def fnModelTermUptoRow : OpenClaim := { program := "ytmahkigckeaakaa", sum := "5c335497c2160a558a423ea66d7b2af2e924c461ed4f1a6386825b062a5e0cee", func := "loop.example/compurgator/laws.FnModelTerm", spec := "fnModelTerm", unfollowed := true, recurses := true, apart := false, narrowed := true }
def FnModelTermUptoSaid : Prop := fnModelTermUptoRow.holds Try.pinned (OpenSpec.upto fnModelTermSpec)

end Rows
end Go.Proofs.Ytmahkigckeaakaa
