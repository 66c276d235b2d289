/-
  No cell of these rows narrows 'for every input' (looked for: loops, veiled, ifaces, maps, wideKeys, modest, calm, conditions, laid).
  DERIVED. THE GIVEN ROWS OF THIS SEAT. 5 by the template 'for every input the law returns true; each argument reads behind the call as it read before'; 0 by the template 'total and deterministic' (their statements: YtmahkigckeaakaaGreatTotals.lean).
  GIVEN WITH THE SEED: the statements are not yours to turn. If you find one false, say at which input.
  Laid BY PROGRAM, IN A SANDBOX (cutbox-rows.mjs): the forced cells as the released guide's own fill.sh prints them over the translation 7e29b910b2f9b870… (all of the seat's roots in one cut). By AI agents, Wed Nov 11 2026. No macro, syntax, notation, axiom, sorry.
-/
import Derived.Test.YtmahkigckeaakaaGreatChecked
import GoSem.Claim
import GoSem.ClaimJoined
import GoSem.ClaimMapViews
import Derived.JoinedTies
import Derived.KernelRfl
namespace Go.Proofs.YtmahkigckeaakaaGreat
/- THE CELL 'sum', in the pinned program and in every row, IS THE sha256 OF THE DUMP (.gsa) THAT YtmahkigckeaakaaGreatProg.lean LOADS. Nothing in Lean hashes anything: it is a label: what it is worth is what the hold of that sum in a sandbox is worth. -/
noncomputable def Tryz.pinned : Pinned := { name := "ytmahkigckeaakaagreat", sum := "7e29b910b2f9b870aa8c14692d47337e8ed14758df9c31b9a0818f20e36d7eeb", checked := Tryz.checked }
namespace Rows
def none {H : Type} : Left H := { results := [], args := [] }

/-- 'laws.FnModelNone': WHATEVER THE INPUT: true; the input reads as it did. -/
def fnModelNoneSpec : ChangeSpec := { name := "fnModelNone", fn := fun _ => fun
  | [d] => { results := [.lit (.bool true)], args := [d] }
  | _ => none }
def fnModelNoneRow : OpenClaim := { program := "ytmahkigckeaakaagreat", sum := "7e29b910b2f9b870aa8c14692d47337e8ed14758df9c31b9a0818f20e36d7eeb", func := "loop.example/compurgator/laws.FnModelNone", spec := "fnModelNone", inPlace := ["internal/abi.NoEscape", "internal/bytealg.MakeNoZero"], unfollowed := true, recurses := true, apart := false }
def FnModelNoneSaid : Prop := fnModelNoneRow.holds Tryz.pinned (OpenSpec.ofChange fnModelNoneSpec)

/-- ITS FALSE NEIGHBOUR: 'it returns false'. Refute it at one input. -/
def fnModelNoneWrong : ChangeSpec := { name := "fnModelNone", fn := fun _ => fun
  | [d] => { results := [.lit (.bool false)], args := [d] }
  | _ => none }
def FnModelNoneWrongFalsely : Prop := fnModelNoneRow.holds Tryz.pinned (OpenSpec.ofChange fnModelNoneWrong)

/-- 'laws.FnModelLoose': WHATEVER THE INPUT: true; the input reads as it did. -/
def fnModelLooseSpec : ChangeSpec := { name := "fnModelLoose", fn := fun _ => fun
  | [d] => { results := [.lit (.bool true)], args := [d] }
  | _ => none }
def fnModelLooseRow : OpenClaim := { program := "ytmahkigckeaakaagreat", sum := "7e29b910b2f9b870aa8c14692d47337e8ed14758df9c31b9a0818f20e36d7eeb", func := "loop.example/compurgator/laws.FnModelLoose", spec := "fnModelLoose", inPlace := ["internal/abi.NoEscape", "internal/bytealg.MakeNoZero"], unfollowed := true, recurses := true, apart := false }
def FnModelLooseSaid : Prop := fnModelLooseRow.holds Tryz.pinned (OpenSpec.ofChange fnModelLooseSpec)

/-- ITS FALSE NEIGHBOUR: 'it returns false'. Refute it at one input. -/
def fnModelLooseWrong : ChangeSpec := { name := "fnModelLoose", fn := fun _ => fun
  | [d] => { results := [.lit (.bool false)], args := [d] }
  | _ => none }
def FnModelLooseWrongFalsely : Prop := fnModelLooseRow.holds Tryz.pinned (OpenSpec.ofChange fnModelLooseWrong)

/-- 'laws.FnModelTurn': WHATEVER THE INPUT: true; the input reads as it did. -/
def fnModelTurnSpec : ChangeSpec := { name := "fnModelTurn", fn := fun _ => fun
  | [d] => { results := [.lit (.bool true)], args := [d] }
  | _ => none }
def fnModelTurnRow : OpenClaim := { program := "ytmahkigckeaakaagreat", sum := "7e29b910b2f9b870aa8c14692d47337e8ed14758df9c31b9a0818f20e36d7eeb", func := "loop.example/compurgator/laws.FnModelTurn", spec := "fnModelTurn", inPlace := ["internal/abi.NoEscape", "internal/bytealg.MakeNoZero"], unfollowed := true, recurses := true, apart := false }
def FnModelTurnSaid : Prop := fnModelTurnRow.holds Tryz.pinned (OpenSpec.ofChange fnModelTurnSpec)

/-- ITS FALSE NEIGHBOUR: 'it returns false'. Refute it at one input. -/
def fnModelTurnWrong : ChangeSpec := { name := "fnModelTurn", fn := fun _ => fun
  | [d] => { results := [.lit (.bool false)], args := [d] }
  | _ => none }
def FnModelTurnWrongFalsely : Prop := fnModelTurnRow.holds Tryz.pinned (OpenSpec.ofChange fnModelTurnWrong)

/-- 'laws.FnModelAll': WHATEVER THE INPUT: true; the input reads as it did. -/
def fnModelAllSpec : ChangeSpec := { name := "fnModelAll", fn := fun _ => fun
  | [d] => { results := [.lit (.bool true)], args := [d] }
  | _ => none }
def fnModelAllRow : OpenClaim := { program := "ytmahkigckeaakaagreat", sum := "7e29b910b2f9b870aa8c14692d47337e8ed14758df9c31b9a0818f20e36d7eeb", func := "loop.example/compurgator/laws.FnModelAll", spec := "fnModelAll", inPlace := ["internal/abi.NoEscape", "internal/bytealg.MakeNoZero"], unfollowed := true, recurses := true, apart := false }
def FnModelAllSaid : Prop := fnModelAllRow.holds Tryz.pinned (OpenSpec.ofChange fnModelAllSpec)

/-- ITS FALSE NEIGHBOUR: 'it returns false'. Refute it at one input. -/
def fnModelAllWrong : ChangeSpec := { name := "fnModelAll", fn := fun _ => fun
  | [d] => { results := [.lit (.bool false)], args := [d] }
  | _ => none }
def FnModelAllWrongFalsely : Prop := fnModelAllRow.holds Tryz.pinned (OpenSpec.ofChange fnModelAllWrong)

/-- 'laws.FnModelBent': WHATEVER THE INPUT: true; the input reads as it did. -/
def fnModelBentSpec : ChangeSpec := { name := "fnModelBent", fn := fun _ => fun
  | [d] => { results := [.lit (.bool true)], args := [d] }
  | _ => none }
def fnModelBentRow : OpenClaim := { program := "ytmahkigckeaakaagreat", sum := "7e29b910b2f9b870aa8c14692d47337e8ed14758df9c31b9a0818f20e36d7eeb", func := "loop.example/compurgator/laws.FnModelBent", spec := "fnModelBent", inPlace := ["internal/abi.NoEscape", "internal/bytealg.MakeNoZero"], unfollowed := true, recurses := true, apart := false }
def FnModelBentSaid : Prop := fnModelBentRow.holds Tryz.pinned (OpenSpec.ofChange fnModelBentSpec)

/-- ITS FALSE NEIGHBOUR: 'it returns false'. Refute it at one input. -/
def fnModelBentWrong : ChangeSpec := { name := "fnModelBent", fn := fun _ => fun
  | [d] => { results := [.lit (.bool false)], args := [d] }
  | _ => none }
def FnModelBentWrongFalsely : Prop := fnModelBentRow.holds Tryz.pinned (OpenSpec.ofChange fnModelBentWrong)

/- THE SECOND FORM. 'bulk': how many values and letters a reading holds, each counted each time it is reached (what is shared counts as often as it is met; a slice's spare places count too). A statement '..UptoSaid' is the law's where the arguments, and the package variables that the reading takes, are together of bulk at most 1048576: NARROWER than '..Said'. Prove '..Said' where nothing that the law and all that it calls make is longer than what came in: it says more and counts as full. Else prove '..UptoSaid'. A law counts once. -/
mutual
def uptoBulk {H : Type} : DataW H → Nat
  | .lit (.string bytes) => bytes.length + 1
  | .lit _ => 1
  | .nil => 1
  | .ptr d => uptoBulk d + 1
  | .slice elems spare => uptoBulkAll elems + uptoBulkAll spare + 1
  | .agg parts => uptoBulkAll parts + 1
  | .iface _ d => uptoBulk d + 1
  | .map entries => uptoBulkEntries entries + 1
  | .held _ => 1
def uptoBulkAll {H : Type} : List (DataW H) → Nat
  | [] => 0
  | d :: r => uptoBulk d + uptoBulkAll r
def uptoBulkEntries {H : Type} : List (Lit × DataW H) → Nat
  | [] => 0
  | x :: r => uptoBulkEntry x + uptoBulkEntries r
def uptoBulkEntry {H : Type} : Lit × DataW H → Nat
  | (.string bytes, d) => bytes.length + uptoBulk d + 1
  | (_, d) => uptoBulk d + 1
 end
def uptoSmall : (H : Type) → List (DataW H) → Bool := fun _ ds => decide (uptoBulkAll ds ≤ 1048576)
def OpenSpec.upto (s : _root_.Go.ChangeSpec) : _root_.Go.OpenSpec := { _root_.Go.OpenSpec.ofChange s with cond := some uptoSmall }

/-- 'laws.FnModelNone', WHERE WHAT IT READS IS OF BULK AT MOST 1048576: true; the input reads as it did. -/
def fnModelNoneUptoRow : OpenClaim := { program := "ytmahkigckeaakaagreat", sum := "7e29b910b2f9b870aa8c14692d47337e8ed14758df9c31b9a0818f20e36d7eeb", func := "loop.example/compurgator/laws.FnModelNone", spec := "fnModelNone", inPlace := ["internal/abi.NoEscape", "internal/bytealg.MakeNoZero"], unfollowed := true, recurses := true, apart := false, narrowed := true }
def FnModelNoneUptoSaid : Prop := fnModelNoneUptoRow.holds Tryz.pinned (OpenSpec.upto fnModelNoneSpec)

/-- 'laws.FnModelLoose', WHERE WHAT IT READS IS OF BULK AT MOST 1048576: true; the input reads as it did. -/
def fnModelLooseUptoRow : OpenClaim := { program := "ytmahkigckeaakaagreat", sum := "7e29b910b2f9b870aa8c14692d47337e8ed14758df9c31b9a0818f20e36d7eeb", func := "loop.example/compurgator/laws.FnModelLoose", spec := "fnModelLoose", inPlace := ["internal/abi.NoEscape", "internal/bytealg.MakeNoZero"], unfollowed := true, recurses := true, apart := false, narrowed := true }
def FnModelLooseUptoSaid : Prop := fnModelLooseUptoRow.holds Tryz.pinned (OpenSpec.upto fnModelLooseSpec)

/-- 'laws.FnModelTurn', WHERE WHAT IT READS IS OF BULK AT MOST 1048576: true; the input reads as it did. -/
def fnModelTurnUptoRow : OpenClaim := { program := "ytmahkigckeaakaagreat", sum := "7e29b910b2f9b870aa8c14692d47337e8ed14758df9c31b9a0818f20e36d7eeb", func := "loop.example/compurgator/laws.FnModelTurn", spec := "fnModelTurn", inPlace := ["internal/abi.NoEscape", "internal/bytealg.MakeNoZero"], unfollowed := true, recurses := true, apart := false, narrowed := true }
def FnModelTurnUptoSaid : Prop := fnModelTurnUptoRow.holds Tryz.pinned (OpenSpec.upto fnModelTurnSpec)

/-- 'laws.FnModelAll', WHERE WHAT IT READS IS OF BULK AT MOST 1048576: true; the input reads as it did. -/
def fnModelAllUptoRow : OpenClaim := { program := "ytmahkigckeaakaagreat", sum := "7e29b910b2f9b870aa8c14692d47337e8ed14758df9c31b9a0818f20e36d7eeb", func := "loop.example/compurgator/laws.FnModelAll", spec := "fnModelAll", inPlace := ["internal/abi.NoEscape", "internal/bytealg.MakeNoZero"], unfollowed := true, recurses := true, apart := false, narrowed := true }
def FnModelAllUptoSaid : Prop := fnModelAllUptoRow.holds Tryz.pinned (OpenSpec.upto fnModelAllSpec)

/-- 'laws.FnModelBent', WHERE WHAT IT READS IS OF BULK AT MOST 1048576: true; the input reads as it did. -/
def fnModelBentUptoRow : OpenClaim := { program := "ytmahkigckeaakaagreat", sum := "7e29b910b2f9b870aa8c14692d47337e8ed14758df9c31b9a0818f20e36d7eeb", func := "loop.example/compurgator/laws.FnModelBent", spec := "fnModelBent", inPlace := ["internal/abi.NoEscape", "internal/bytealg.MakeNoZero"], unfollowed := true, recurses := true, apart := false, narrowed := true }
def FnModelBentUptoSaid : Prop := fnModelBentUptoRow.holds Tryz.pinned (OpenSpec.upto fnModelBentSpec)

end Rows
end Go.Proofs.YtmahkigckeaakaaGreat
