/-
  NARROWER THAN 'FOR EVERY INPUT', by the rows' own cells (each row's printed sentence says how): FnExactAtomSame: loops · FnExactFormSame: loops · FnExactTermSort: loops · FnExactCaseSame: loops · FnExactAtomOk: loops · FnExactWhyUses: loops · FnExactModelTerm: loops.
  DERIVED. THE GIVEN ROWS OF THIS SEAT. 11 by the template 'for every input the law returns true; each argument reads behind the call as it read before'; 0 by the template 'total and deterministic' (their statements: YtjhiaobcbbnhnaaTotals.lean).
  GIVEN WITH THE SEED: the statements are not yours to turn. If you find one false, say at which input.
  Laid BY PROGRAM, IN A SANDBOX (cutbox-rows.mjs): the forced cells as the released guide's own fill.sh prints them over the translation f67128ba400ee87e… (all of the seat's roots in one cut). By AI agents, Wed Nov 11 2026. No macro, syntax, notation, axiom, sorry.
-/
import Derived.Test.YtjhiaobcbbnhnaaChecked
import GoSem.Claim
import GoSem.ClaimJoined
import GoSem.ClaimMapViews
import Derived.JoinedTies
import Derived.KernelRfl
namespace Go.Proofs.Ytjhiaobcbbnhnaa
/- THE CELL 'sum', in the pinned program and in every row, IS THE sha256 OF THE DUMP (.gsa) THAT YtjhiaobcbbnhnaaProg.lean LOADS. Nothing in Lean hashes anything: it is a label: what it is worth is what the hold of that sum in a sandbox is worth. -/
noncomputable def Try.pinned : Pinned := { name := "ytjhiaobcbbnhnaa", sum := "f67128ba400ee87e743adf539a98268fd4e88a23a0b39358a9ebff019fa899b2", checked := Try.checked }
namespace Rows
def none {H : Type} : Left H := { results := [], args := [] }

/-- 'laws.FnExactSigOk': WHATEVER THE INPUT: true; the input reads as it did. -/
def fnExactSigOkSpec : ChangeSpec := { name := "fnExactSigOk", fn := fun _ => fun
  | [d] => { results := [.lit (.bool true)], args := [d] }
  | _ => none }
def fnExactSigOkRow : OpenClaim := { program := "ytjhiaobcbbnhnaa", sum := "f67128ba400ee87e743adf539a98268fd4e88a23a0b39358a9ebff019fa899b2", func := "loop.example/compurgator/laws.FnExactSigOk", spec := "fnExactSigOk", unfollowed := true, recurses := true, apart := false }
def FnExactSigOkSaid : Prop := fnExactSigOkRow.holds Try.pinned (OpenSpec.ofChange fnExactSigOkSpec)

/-- ITS FALSE NEIGHBOUR: 'it returns false'. Refute it at one input. -/
def fnExactSigOkWrong : ChangeSpec := { name := "fnExactSigOk", fn := fun _ => fun
  | [d] => { results := [.lit (.bool false)], args := [d] }
  | _ => none }
def FnExactSigOkWrongFalsely : Prop := fnExactSigOkRow.holds Try.pinned (OpenSpec.ofChange fnExactSigOkWrong)

/-- 'laws.FnSigLess': WHATEVER THE INPUT: true; the input reads as it did. -/
def fnSigLessSpec : ChangeSpec := { name := "fnSigLess", fn := fun _ => fun
  | [d] => { results := [.lit (.bool true)], args := [d] }
  | _ => none }
def fnSigLessRow : OpenClaim := { program := "ytjhiaobcbbnhnaa", sum := "f67128ba400ee87e743adf539a98268fd4e88a23a0b39358a9ebff019fa899b2", func := "loop.example/compurgator/laws.FnSigLess", spec := "fnSigLess", unfollowed := true, recurses := true, apart := false }
def FnSigLessSaid : Prop := fnSigLessRow.holds Try.pinned (OpenSpec.ofChange fnSigLessSpec)

/-- ITS FALSE NEIGHBOUR: 'it returns false'. Refute it at one input. -/
def fnSigLessWrong : ChangeSpec := { name := "fnSigLess", fn := fun _ => fun
  | [d] => { results := [.lit (.bool false)], args := [d] }
  | _ => none }
def FnSigLessWrongFalsely : Prop := fnSigLessRow.holds Try.pinned (OpenSpec.ofChange fnSigLessWrong)

/-- 'laws.FnExactModelSame': WHATEVER THE INPUT: true; the input reads as it did. -/
def fnExactModelSameSpec : ChangeSpec := { name := "fnExactModelSame", fn := fun _ => fun
  | [d1, d2] => { results := [.lit (.bool true)], args := [d1, d2] }
  | _ => none }
def fnExactModelSameRow : OpenClaim := { program := "ytjhiaobcbbnhnaa", sum := "f67128ba400ee87e743adf539a98268fd4e88a23a0b39358a9ebff019fa899b2", func := "loop.example/compurgator/laws.FnExactModelSame", spec := "fnExactModelSame", unfollowed := true, recurses := true, apart := false }
def FnExactModelSameSaid : Prop := fnExactModelSameRow.holds Try.pinned (OpenSpec.ofChange fnExactModelSameSpec)

/-- ITS FALSE NEIGHBOUR: 'it returns false'. Refute it at one input. -/
def fnExactModelSameWrong : ChangeSpec := { name := "fnExactModelSame", fn := fun _ => fun
  | [d1, d2] => { results := [.lit (.bool false)], args := [d1, d2] }
  | _ => none }
def FnExactModelSameWrongFalsely : Prop := fnExactModelSameRow.holds Try.pinned (OpenSpec.ofChange fnExactModelSameWrong)

/-- 'laws.FnExactAtomSame': WHATEVER THE INPUT: true; the input reads as it did. -/
def fnExactAtomSameSpec : ChangeSpec := { name := "fnExactAtomSame", fn := fun _ => fun
  | [d1, d2] => { results := [.lit (.bool true)], args := [d1, d2] }
  | _ => none }
def fnExactAtomSameRow : OpenClaim := { program := "ytjhiaobcbbnhnaa", sum := "f67128ba400ee87e743adf539a98268fd4e88a23a0b39358a9ebff019fa899b2", func := "loop.example/compurgator/laws.FnExactAtomSame", spec := "fnExactAtomSame", unfollowed := true, recurses := true, loops := true, apart := false }
def FnExactAtomSameSaid : Prop := fnExactAtomSameRow.holds Try.pinned (OpenSpec.ofChange fnExactAtomSameSpec)

/-- ITS FALSE NEIGHBOUR: 'it returns false'. Refute it at one input. -/
def fnExactAtomSameWrong : ChangeSpec := { name := "fnExactAtomSame", fn := fun _ => fun
  | [d1, d2] => { results := [.lit (.bool false)], args := [d1, d2] }
  | _ => none }
def FnExactAtomSameWrongFalsely : Prop := fnExactAtomSameRow.holds Try.pinned (OpenSpec.ofChange fnExactAtomSameWrong)

/-- 'laws.FnExactFormSame': WHATEVER THE INPUT: true; the input reads as it did. -/
def fnExactFormSameSpec : ChangeSpec := { name := "fnExactFormSame", fn := fun _ => fun
  | [d1, d2] => { results := [.lit (.bool true)], args := [d1, d2] }
  | _ => none }
def fnExactFormSameRow : OpenClaim := { program := "ytjhiaobcbbnhnaa", sum := "f67128ba400ee87e743adf539a98268fd4e88a23a0b39358a9ebff019fa899b2", func := "loop.example/compurgator/laws.FnExactFormSame", spec := "fnExactFormSame", unfollowed := true, recurses := true, loops := true, apart := false }
def FnExactFormSameSaid : Prop := fnExactFormSameRow.holds Try.pinned (OpenSpec.ofChange fnExactFormSameSpec)

/-- ITS FALSE NEIGHBOUR: 'it returns false'. Refute it at one input. -/
def fnExactFormSameWrong : ChangeSpec := { name := "fnExactFormSame", fn := fun _ => fun
  | [d1, d2] => { results := [.lit (.bool false)], args := [d1, d2] }
  | _ => none }
def FnExactFormSameWrongFalsely : Prop := fnExactFormSameRow.holds Try.pinned (OpenSpec.ofChange fnExactFormSameWrong)

/-- 'laws.FnExactTermSort': WHATEVER THE INPUT: true; the input reads as it did. -/
def fnExactTermSortSpec : ChangeSpec := { name := "fnExactTermSort", fn := fun _ => fun
  | [d1, d2] => { results := [.lit (.bool true)], args := [d1, d2] }
  | _ => none }
def fnExactTermSortRow : OpenClaim := { program := "ytjhiaobcbbnhnaa", sum := "f67128ba400ee87e743adf539a98268fd4e88a23a0b39358a9ebff019fa899b2", func := "loop.example/compurgator/laws.FnExactTermSort", spec := "fnExactTermSort", unfollowed := true, recurses := true, loops := true, apart := false }
def FnExactTermSortSaid : Prop := fnExactTermSortRow.holds Try.pinned (OpenSpec.ofChange fnExactTermSortSpec)

/-- ITS FALSE NEIGHBOUR: 'it returns false'. Refute it at one input. -/
def fnExactTermSortWrong : ChangeSpec := { name := "fnExactTermSort", fn := fun _ => fun
  | [d1, d2] => { results := [.lit (.bool false)], args := [d1, d2] }
  | _ => none }
def FnExactTermSortWrongFalsely : Prop := fnExactTermSortRow.holds Try.pinned (OpenSpec.ofChange fnExactTermSortWrong)

/-- 'laws.FnExactCaseSame': WHATEVER THE INPUT: true; the input reads as it did. -/
def fnExactCaseSameSpec : ChangeSpec := { name := "fnExactCaseSame", fn := fun _ => fun
  | [d1, d2] => { results := [.lit (.bool true)], args := [d1, d2] }
  | _ => none }
def fnExactCaseSameRow : OpenClaim := { program := "ytjhiaobcbbnhnaa", sum := "f67128ba400ee87e743adf539a98268fd4e88a23a0b39358a9ebff019fa899b2", func := "loop.example/compurgator/laws.FnExactCaseSame", spec := "fnExactCaseSame", unfollowed := true, recurses := true, loops := true, apart := false }
def FnExactCaseSameSaid : Prop := fnExactCaseSameRow.holds Try.pinned (OpenSpec.ofChange fnExactCaseSameSpec)

/-- ITS FALSE NEIGHBOUR: 'it returns false'. Refute it at one input. -/
def fnExactCaseSameWrong : ChangeSpec := { name := "fnExactCaseSame", fn := fun _ => fun
  | [d1, d2] => { results := [.lit (.bool false)], args := [d1, d2] }
  | _ => none }
def FnExactCaseSameWrongFalsely : Prop := fnExactCaseSameRow.holds Try.pinned (OpenSpec.ofChange fnExactCaseSameWrong)

/-- 'laws.FnExactModelOk': WHATEVER THE INPUT: true; the input reads as it did. -/
def fnExactModelOkSpec : ChangeSpec := { name := "fnExactModelOk", fn := fun _ => fun
  | [d1, d2] => { results := [.lit (.bool true)], args := [d1, d2] }
  | _ => none }
def fnExactModelOkRow : OpenClaim := { program := "ytjhiaobcbbnhnaa", sum := "f67128ba400ee87e743adf539a98268fd4e88a23a0b39358a9ebff019fa899b2", func := "loop.example/compurgator/laws.FnExactModelOk", spec := "fnExactModelOk", unfollowed := true, recurses := true, apart := false }
def FnExactModelOkSaid : Prop := fnExactModelOkRow.holds Try.pinned (OpenSpec.ofChange fnExactModelOkSpec)

/-- ITS FALSE NEIGHBOUR: 'it returns false'. Refute it at one input. -/
def fnExactModelOkWrong : ChangeSpec := { name := "fnExactModelOk", fn := fun _ => fun
  | [d1, d2] => { results := [.lit (.bool false)], args := [d1, d2] }
  | _ => none }
def FnExactModelOkWrongFalsely : Prop := fnExactModelOkRow.holds Try.pinned (OpenSpec.ofChange fnExactModelOkWrong)

/-- 'laws.FnExactAtomOk': WHATEVER THE INPUT: true; the input reads as it did. -/
def fnExactAtomOkSpec : ChangeSpec := { name := "fnExactAtomOk", fn := fun _ => fun
  | [d1, d2] => { results := [.lit (.bool true)], args := [d1, d2] }
  | _ => none }
def fnExactAtomOkRow : OpenClaim := { program := "ytjhiaobcbbnhnaa", sum := "f67128ba400ee87e743adf539a98268fd4e88a23a0b39358a9ebff019fa899b2", func := "loop.example/compurgator/laws.FnExactAtomOk", spec := "fnExactAtomOk", inPlace := ["internal/abi.NoEscape", "internal/bytealg.MakeNoZero"], unfollowed := true, recurses := true, loops := true, apart := false }
def FnExactAtomOkSaid : Prop := fnExactAtomOkRow.holds Try.pinned (OpenSpec.ofChange fnExactAtomOkSpec)

/-- ITS FALSE NEIGHBOUR: 'it returns false'. Refute it at one input. -/
def fnExactAtomOkWrong : ChangeSpec := { name := "fnExactAtomOk", fn := fun _ => fun
  | [d1, d2] => { results := [.lit (.bool false)], args := [d1, d2] }
  | _ => none }
def FnExactAtomOkWrongFalsely : Prop := fnExactAtomOkRow.holds Try.pinned (OpenSpec.ofChange fnExactAtomOkWrong)

/-- 'laws.FnExactWhyUses': WHATEVER THE INPUT: true; the input reads as it did. -/
def fnExactWhyUsesSpec : ChangeSpec := { name := "fnExactWhyUses", fn := fun _ => fun
  | [d] => { results := [.lit (.bool true)], args := [d] }
  | _ => none }
def fnExactWhyUsesRow : OpenClaim := { program := "ytjhiaobcbbnhnaa", sum := "f67128ba400ee87e743adf539a98268fd4e88a23a0b39358a9ebff019fa899b2", func := "loop.example/compurgator/laws.FnExactWhyUses", spec := "fnExactWhyUses", recurses := true, loops := true, apart := false }
def FnExactWhyUsesSaid : Prop := fnExactWhyUsesRow.holds Try.pinned (OpenSpec.ofChange fnExactWhyUsesSpec)

/-- ITS FALSE NEIGHBOUR: 'it returns false'. Refute it at one input. -/
def fnExactWhyUsesWrong : ChangeSpec := { name := "fnExactWhyUses", fn := fun _ => fun
  | [d] => { results := [.lit (.bool false)], args := [d] }
  | _ => none }
def FnExactWhyUsesWrongFalsely : Prop := fnExactWhyUsesRow.holds Try.pinned (OpenSpec.ofChange fnExactWhyUsesWrong)

/-- 'laws.FnExactModelTerm': WHATEVER THE INPUT: true; the input reads as it did. -/
def fnExactModelTermSpec : ChangeSpec := { name := "fnExactModelTerm", fn := fun _ => fun
  | [d1, d2, d3] => { results := [.lit (.bool true)], args := [d1, d2, d3] }
  | _ => none }
def fnExactModelTermRow : OpenClaim := { program := "ytjhiaobcbbnhnaa", sum := "f67128ba400ee87e743adf539a98268fd4e88a23a0b39358a9ebff019fa899b2", func := "loop.example/compurgator/laws.FnExactModelTerm", spec := "fnExactModelTerm", unfollowed := true, recurses := true, loops := true, apart := false }
def FnExactModelTermSaid : Prop := fnExactModelTermRow.holds Try.pinned (OpenSpec.ofChange fnExactModelTermSpec)

/-- ITS FALSE NEIGHBOUR: 'it returns false'. Refute it at one input. -/
def fnExactModelTermWrong : ChangeSpec := { name := "fnExactModelTerm", fn := fun _ => fun
  | [d1, d2, d3] => { results := [.lit (.bool false)], args := [d1, d2, d3] }
  | _ => none }
def FnExactModelTermWrongFalsely : Prop := fnExactModelTermRow.holds Try.pinned (OpenSpec.ofChange fnExactModelTermWrong)

/- THE SECOND FORM. 'bulk': how many values and letters a reading holds, each counted each time it is reached (what is shared counts as often as it is met; a slice's spare places count too). A statement '..UptoSaid' is the law's where the arguments, and the package variables that the reading takes, are together of bulk at most 1048576: NARROWER than '..Said'. Prove '..Said' where nothing that the law and all that it calls make is longer than what came in: it says more and counts as full. Else prove '..UptoSaid'. A law counts once. -/
mutual
def uptoBulk {H : Type} : DataW H → Nat
  | .lit (.string bytes) => bytes.length + 1
  | .lit _ => 1
  | .nil => 1
  | .ptr d => uptoBulk d + 1
  | .slice elems spare => uptoBulkAll elems + uptoBulkAll spare + 1
  | .agg parts => uptoBulkAll parts + 1
  | .iface _ d => uptoBulk d + 1
  | .map entries => uptoBulkEntries entries + 1
  | .held _ => 1
def uptoBulkAll {H : Type} : List (DataW H) → Nat
  | [] => 0
  | d :: r => uptoBulk d + uptoBulkAll r
def uptoBulkEntries {H : Type} : List (Lit × DataW H) → Nat
  | [] => 0
  | x :: r => uptoBulkEntry x + uptoBulkEntries r
def uptoBulkEntry {H : Type} : Lit × DataW H → Nat
  | (.string bytes, d) => bytes.length + uptoBulk d + 1
  | (_, d) => uptoBulk d + 1
 end
def uptoSmall : (H : Type) → List (DataW H) → Bool := fun _ ds => decide (uptoBulkAll ds ≤ 1048576)
def OpenSpec.upto (s : _root_.Go.ChangeSpec) : _root_.Go.OpenSpec := { _root_.Go.OpenSpec.ofChange s with cond := some uptoSmall }

/-- 'laws.FnExactSigOk', WHERE WHAT IT READS IS OF BULK AT MOST 1048576: true; the input reads as it did. -/
def fnExactSigOkUptoRow : OpenClaim := { program := "ytjhiaobcbbnhnaa", sum := "f67128ba400ee87e743adf539a98268fd4e88a23a0b39358a9ebff019fa899b2", func := "loop.example/compurgator/laws.FnExactSigOk", spec := "fnExactSigOk", unfollowed := true, recurses := true, apart := false, narrowed := true }
def FnExactSigOkUptoSaid : Prop := fnExactSigOkUptoRow.holds Try.pinned (OpenSpec.upto fnExactSigOkSpec)

/-- 'laws.FnSigLess', WHERE WHAT IT READS IS OF BULK AT MOST 1048576: true; the input reads as it did. -/
def fnSigLessUptoRow : OpenClaim := { program := "ytjhiaobcbbnhnaa", sum := "f67128ba400ee87e743adf539a98268fd4e88a23a0b39358a9ebff019fa899b2", func := "loop.example/compurgator/laws.FnSigLess", spec := "fnSigLess", unfollowed := true, recurses := true, apart := false, narrowed := true }
def FnSigLessUptoSaid : Prop := fnSigLessUptoRow.holds Try.pinned (OpenSpec.upto fnSigLessSpec)

/-- 'laws.FnExactModelSame', WHERE WHAT IT READS IS OF BULK AT MOST 1048576: true; the input reads as it did. -/
def fnExactModelSameUptoRow : OpenClaim := { program := "ytjhiaobcbbnhnaa", sum := "f67128ba400ee87e743adf539a98268fd4e88a23a0b39358a9ebff019fa899b2", func := "loop.example/compurgator/laws.FnExactModelSame", spec := "fnExactModelSame", unfollowed := true, recurses := true, apart := false, narrowed := true }
def FnExactModelSameUptoSaid : Prop := fnExactModelSameUptoRow.holds Try.pinned (OpenSpec.upto fnExactModelSameSpec)

/-- 'laws.FnExactAtomSame', WHERE WHAT IT READS IS OF BULK AT MOST 1048576: true; the input reads as it did. -/
def fnExactAtomSameUptoRow : OpenClaim := { program := "ytjhiaobcbbnhnaa", sum := "f67128ba400ee87e743adf539a98268fd4e88a23a0b39358a9ebff019fa899b2", func := "loop.example/compurgator/laws.FnExactAtomSame", spec := "fnExactAtomSame", unfollowed := true, recurses := true, loops := true, apart := false, narrowed := true }
def FnExactAtomSameUptoSaid : Prop := fnExactAtomSameUptoRow.holds Try.pinned (OpenSpec.upto fnExactAtomSameSpec)

/-- 'laws.FnExactFormSame', WHERE WHAT IT READS IS OF BULK AT MOST 1048576: true; the input reads as it did. -/
def fnExactFormSameUptoRow : OpenClaim := { program := "ytjhiaobcbbnhnaa", sum := "f67128ba400ee87e743adf539a98268fd4e88a23a0b39358a9ebff019fa899b2", func := "loop.example/compurgator/laws.FnExactFormSame", spec := "fnExactFormSame", unfollowed := true, recurses := true, loops := true, apart := false, narrowed := true }
def FnExactFormSameUptoSaid : Prop := fnExactFormSameUptoRow.holds Try.pinned (OpenSpec.upto fnExactFormSameSpec)

/-- 'laws.FnExactTermSort', WHERE WHAT IT READS IS OF BULK AT MOST 1048576: true; the input reads as it did. -/
def fnExactTermSortUptoRow : OpenClaim := { program := "ytjhiaobcbbnhnaa", sum := "f67128ba400ee87e743adf539a98268fd4e88a23a0b39358a9ebff019fa899b2", func := "loop.example/compurgator/laws.FnExactTermSort", spec := "fnExactTermSort", unfollowed := true, recurses := true, loops := true, apart := false, narrowed := true }
def FnExactTermSortUptoSaid : Prop := fnExactTermSortUptoRow.holds Try.pinned (OpenSpec.upto fnExactTermSortSpec)

/-- 'laws.FnExactCaseSame', WHERE WHAT IT READS IS OF BULK AT MOST 1048576: true; the input reads as it did. -/
def fnExactCaseSameUptoRow : OpenClaim := { program := "ytjhiaobcbbnhnaa", sum := "f67128ba400ee87e743adf539a98268fd4e88a23a0b39358a9ebff019fa899b2", func := "loop.example/compurgator/laws.FnExactCaseSame", spec := "fnExactCaseSame", unfollowed := true, recurses := true, loops := true, apart := false, narrowed := true }
def FnExactCaseSameUptoSaid : Prop := fnExactCaseSameUptoRow.holds Try.pinned (OpenSpec.upto fnExactCaseSameSpec)

/-- 'laws.FnExactModelOk', WHERE WHAT IT READS IS OF BULK AT MOST 1048576: true; the input reads as it did. -/
def fnExactModelOkUptoRow : OpenClaim := { program := "ytjhiaobcbbnhnaa", sum := "f67128ba400ee87e743adf539a98268fd4e88a23a0b39358a9ebff019fa899b2", func := "loop.example/compurgator/laws.FnExactModelOk", spec := "fnExactModelOk", unfollowed := true, recurses := true, apart := false, narrowed := true }
def FnExactModelOkUptoSaid : Prop := fnExactModelOkUptoRow.holds Try.pinned (OpenSpec.upto fnExactModelOkSpec)

/-- 'laws.FnExactAtomOk', WHERE WHAT IT READS IS OF BULK AT MOST 1048576: true; the input reads as it did. -/
def fnExactAtomOkUptoRow : OpenClaim := { program := "ytjhiaobcbbnhnaa", sum := "f67128ba400ee87e743adf539a98268fd4e88a23a0b39358a9ebff019fa899b2", func := "loop.example/compurgator/laws.FnExactAtomOk", spec := "fnExactAtomOk", inPlace := ["internal/abi.NoEscape", "internal/bytealg.MakeNoZero"], unfollowed := true, recurses := true, loops := true, apart := false, narrowed := true }
def FnExactAtomOkUptoSaid : Prop := fnExactAtomOkUptoRow.holds Try.pinned (OpenSpec.upto fnExactAtomOkSpec)

/-- 'laws.FnExactWhyUses', WHERE WHAT IT READS IS OF BULK AT MOST 1048576: true; the input reads as it did. -/
def fnExactWhyUsesUptoRow : OpenClaim := { program := "ytjhiaobcbbnhnaa", sum := "f67128ba400ee87e743adf539a98268fd4e88a23a0b39358a9ebff019fa899b2", func := "loop.example/compurgator/laws.FnExactWhyUses", spec := "fnExactWhyUses", recurses := true, loops := true, apart := false, narrowed := true }
def FnExactWhyUsesUptoSaid : Prop := fnExactWhyUsesUptoRow.holds Try.pinned (OpenSpec.upto fnExactWhyUsesSpec)

/-- 'laws.FnExactModelTerm', WHERE WHAT IT READS IS OF BULK AT MOST 1048576: true; the input reads as it did. -/
def fnExactModelTermUptoRow : OpenClaim := { program := "ytjhiaobcbbnhnaa", sum := "f67128ba400ee87e743adf539a98268fd4e88a23a0b39358a9ebff019fa899b2", func := "loop.example/compurgator/laws.FnExactModelTerm", spec := "fnExactModelTerm", unfollowed := true, recurses := true, loops := true, apart := false, narrowed := true }
def FnExactModelTermUptoSaid : Prop := fnExactModelTermUptoRow.holds Try.pinned (OpenSpec.upto fnExactModelTermSpec)

end Rows
end Go.Proofs.Ytjhiaobcbbnhnaa
