/-
  What the law leans on, part 1. No condition.
-/
import Derived.Test.YtogagckkbgndiaaTool
import Derived.Test.YtogagckkbgndiaaProg
import Derived.WalkKit
import Derived.BigCall
import Derived.Shelf.SlSortCmp.NoneTotal
import Derived.Ground.SlsfProg
import Derived.WalkSpells
import Derived.WalkLawsBesides
import Derived.Shelf.Slices.CompactI
import Derived.Ground.Names2Prog
/-
  The numbers of the functions, by name. No condition.
-/
namespace Nm
def laws_FnExactCnfUnits : Nat := 3
def laws_FnExactHuntRun : Nat := 4
def laws_FnExactLogTrim : Nat := 5
def laws_szCnf : Nat := 6
def spec_CnfUnits : Nat := 7
def laws_toCnf : Nat := 8
def laws_toIntS : Nat := 9
def impl_CnfUnits : Nat := 10
def laws_eqIntS : Nat := 11
def laws_eqCnf : Nat := 12
def laws_markCnf : Nat := 13
def laws_markIntS : Nat := 14
def laws_heldIntS : Nat := 15
def spec_HuntRun : Nat := 16
def impl_HuntRun : Nat := 17
def laws_eqBoolS : Nat := 18
def laws_eqIntSS : Nat := 19
def laws_markBoolS : Nat := 20
def laws_markIntSS : Nat := 21
def laws_heldBoolS : Nat := 22
def laws_heldIntSS : Nat := 23
def laws_szIntSS : Nat := 24
def spec_LogTrim : Nat := 25
def laws_toIntSS : Nat := 26
def impl_LogTrim : Nat := 27
def spec_CnfOk : Nat := 28
def spec_l10Right : Nat := 29
def spec_l10Units : Nat := 30
def impl_CnfOk : Nat := 31
def impl_isMark : Nat := 32
def slices_Contains_Sint_int : Nat := 33
def impl_units : Nat := 34
def spec_l11Search : Nat := 35
def impl_within : Nat := 36
def impl_hunt_call : Nat := 37
def laws_szIntS : Nat := 38
def spec_LogOk : Nat := 39
def spec_LogEnds : Nat := 40
def spec_l11Copy : Nat := 41
def impl_LogOk : Nat := 42
def impl_LogEnds : Nat := 43
def impl_ownLog : Nat := 44
def slices_Concat_SSint_Sint : Nat := 45
def spec_ClauseOk : Nat := 46
def spec_l10Abs : Nat := 47
def spec_l10At : Nat := 48
def spec_l10Left : Nat := 49
def slices_ContainsFunc_SSint_Sint : Nat := 50
def impl_CnfOk_1 : Nat := 51
def impl_ClauseOk : Nat := 52
def slices_Index_Sint_int : Nat := 53
def slices_Clone_Sint_int : Nat := 54
def impl_unit : Nat := 55
def spec_l11Cost : Nat := 56
def spec_l11Find : Nat := 57
def impl_ClauseOf : Nat := 58
def impl_negated : Nat := 59
def spec_CnfRup : Nat := 60
def impl_CnfRup : Nat := 61
def slices_Grow_SSint_Sint : Nat := 62
def slices_IndexFunc_SSint_Sint : Nat := 63
def impl_variable : Nat := 64
def spec_l11Walk : Nat := 65
def spec_l11Note : Nat := 66
def spec_l11Free : Nat := 67
def spec_l11Vals : Nat := 68
def slices_SortFunc_Sint_int : Nat := 69
def impl_ClauseOf_1 : Nat := 70
def cmp_Compare_int : Nat := 71
def slices_Compact_Sint_int : Nat := 72
def spec_l10Nots : Nat := 73
def spec_ClauseOf : Nat := 74
def slices_pdqsortCmpFunc_int : Nat := 75
def math_bits_Len : Nat := 76
def cmp_isNaN_int : Nat := 77
def spec_l10Put : Nat := 78
def slices_insertionSortCmpFunc_int : Nat := 79
def slices_heapSortCmpFunc_int : Nat := 80
def slices_breakPatternsCmpFunc_int : Nat := 81
def slices_choosePivotCmpFunc_int : Nat := 82
def slices_reverseRangeCmpFunc_int : Nat := 83
def slices_partialInsertionSortCmpFunc_int : Nat := 84
def slices_partitionEqualCmpFunc_int : Nat := 85
def slices_partitionCmpFunc_int : Nat := 86
def math_bits_Len32 : Nat := 87
def math_bits_Len64 : Nat := 88
def slices_siftDownCmpFunc_int : Nat := 89
def slices_nextPowerOfTwo : Nat := 90
def slices_xorshift_Next : Nat := 91
def slices_medianAdjacentCmpFunc_int : Nat := 92
def slices_medianCmpFunc_int : Nat := 93
def slices_order2CmpFunc_int : Nat := 94
def internal_abi_Type_Align : Nat := 107
def internal_runtime_maps_unhashableTypeError_Error : Nat := 108
def internal_runtime_maps_unhashableTypeError_RuntimeError : Nat := 109
def internal_abi_Kind_String : Nat := 110
end Nm

/-
  Plain functions, and what is known of the codes' callees and loops: clauses. No condition.
-/
namespace Pl
open Go
def wneg (x : Int) : Int := IntKind.i64.wrap (0 - x)
def absW (x : Int) : Int := if x < -60 then 61 else if x > 60 then 61 else if x < 0 then wneg x else x
def withinI (n lo hi : Int) : Bool := decide (lo ≤ n) && decide (n ≤ hi)
def isMark (l many : Int) : Bool := decide (l ≠ 0) && withinI l (wneg many) many
def varI (x : Int) : Int := if wneg x > x then wneg x else x
def specLoop (many last : Int) : List Int → Bool
  | [] => decide (many ≥ 0) && decide (many ≤ 60)
  | x :: xs => bif decide (absW x ≤ last) || decide (absW x > many) then false else specLoop many (absW x) xs
def specClause (l : List Int) (many : Int) : Bool := specLoop many 0 l
def implLoop (many : Int) : Option Int → List Int → Bool
  | _, [] => true
  | none, x :: xs => bif !isMark x many then false else implLoop many (some x) xs
  | some p, x :: xs => bif !isMark x many || decide (varI p ≥ varI x) then false else implLoop many (some x) xs
def implClause (l : List Int) (many : Int) : Bool := bif withinI many 0 60 then implLoop many none l else false
def prev (l : List Int) (k : Nat) : Option Int := if k = 0 then none else some (l.getD (k - 1) 0)
end Pl
namespace Cg
open Go
abbrev Sz {α : Type} (l : List α) : Prop := l.length ≤ 4294967296

def K_l10Abs : Nat × Contract := (Nm.spec_l10Abs, .sc Int (fun x => [i64 x]) (fun _ => True) (fun x => i64 (Pl.absW x)))
def K_within : Nat × Contract := (Nm.impl_within, .sc (Int × Int × Int) (fun x => [i64 x.1, i64 x.2.1, i64 x.2.2]) (fun _ => True) (fun x => bl (Pl.withinI x.1 x.2.1 x.2.2)))
def K_isMark : Nat × Contract := (Nm.impl_isMark, .sc (Int × Int) (fun x => [i64 x.1, i64 x.2]) (fun _ => True) (fun x => bl (Pl.isMark x.1 x.2)))
def K_variable : Nat × Contract := (Nm.impl_variable, .sc Int (fun x => [i64 x]) (fun _ => True) (fun x => i64 (Pl.varI x)))
def K_sClauseOk : Nat × Contract := (Nm.spec_ClauseOk, .sc (List Int × Int) (fun x => [ints x.1, i64 x.2]) (fun x => Sz x.1) (fun x => bl (Pl.specClause x.1 x.2)))
def K_iClauseOk : Nat × Contract := (Nm.impl_ClauseOk, .sc (List Int × Int) (fun x => [ints x.1, i64 x.2]) (fun x => Sz x.1) (fun x => bl (Pl.implClause x.1 x.2)))
def K_toIntS : Nat × Contract := (Nm.laws_toIntS, .im (List Int) (fun l => [ints l]) Sz ints)
def K_eqIntS : Nat × Contract := (Nm.laws_eqIntS, .sc (List Int × List Int) (fun x => [ints x.1, ints x.2]) (fun x => Sz x.1) (fun x => bl (decide (x.1 = x.2))))

def A_sClauseOk (l : List Int) (many : Int) : List Ann :=
  [.mk (Nat × Int) (fun x => x.1 ≤ l.length ∧ Pl.specClause l many = Pl.specLoop many x.2 (l.drop x.1)) (fun x => { fr := pad [ints l, i64 many, .any, .any, .any, i64 x.2, i64 x.1] 40, H := [] }) (fun x => l.length - x.1) (fun _ => [])]
def A_iClauseOk (l : List Int) (many : Int) : List Ann :=
  [.mk Nat (fun x => x ≤ l.length ∧ Pl.implClause l many = Pl.implLoop many (Pl.prev l x) (l.drop x)) (fun x => { fr := pad [ints l, i64 many, .any, .any, .any, .any, .any, .any, .any, .any, ints l, i64 l.length, i64 x] 37, H := [] }) (fun x => l.length - x) (fun _ => [])]
def A_toIntS (l : List Int) : List Ann :=
  [.mk (Nat × List Int) (fun x => x.1 ≤ l.length ∧ x.2.length = l.length ∧ x.2.take x.1 = l.take x.1) (fun x => { fr := pad [ints l, .any, .any, .osl 0 0 x.2.length, i64 x.1] 22, H := [arI x.2] }) (fun x => l.length - x.1) (fun _ => [])]
def A_eqIntS (l m : List Int) : List Ann :=
  [.mk Nat (fun x => x ≤ l.length ∧ l.length = m.length ∧ (l = m ↔ l.drop x = m.drop x)) (fun x => { fr := pad [ints l, ints m, .any, .any, .any, i64 x] 26, H := [] }) (fun x => l.length - x) (fun _ => [])]
end Cg

/-
  Plain functions, and what is known of the codes' callees and loops: rows of rows, values of marks. No condition.
-/
namespace Pl
def sz1 (n : Nat) (k : Int) : Int := if k - n < 0 then -1 else k - n
def szL : List (List Int) → Int → Int
  | [], k => k
  | x :: xs, k => if k - x.length < 0 then -1 else szL xs (k - x.length)
def szSS (l : List (List Int)) (k : Int) : Int := if k - l.length < 0 then -1 else szL l (k - l.length)
def logEnds (l : List (List Int)) : Bool := decide (l.length > 0) && decide ((l.getD (l.length - 1) []).length = 0)
def lIs (n : Int) (vals : List Bool) : Bool :=
  if n = 0 ∨ n > vals.length ∨ n < -vals.length then false else if n < 0 then !(vals.getD (-1 - n).toNat false) else vals.getD (n - 1).toNat false
def clauseIs (l : List Int) (vals : List Bool) : Bool := l.any fun x => lIs x vals
/-- Where the first is for which something holds. -/
def idx {α : Type} (p : α → Bool) : List α → Int
  | [] => -1
  | x :: l => if p x then 0 else if idx p l < 0 then -1 else idx p l + 1
end Pl
namespace Cg
open Go
abbrev SzL {α : Type} (l : List (List α)) : Prop := Sz l ∧ ∀ x ∈ l, Sz x
abbrev Ml {α : Type} (l : List α) : Prop := l.length ≤ 9223372036854775807
abbrev MlL {α : Type} (l : List (List α)) : Prop := Ml l ∧ ∀ x ∈ l, Ml x
abbrev Fu (k : Int) : Prop := 0 ≤ k ∧ k ≤ 1048576

def K_szIntS : Nat × Contract := (Nm.laws_szIntS, .sc (List Int × Int) (fun x => [ints x.1, i64 x.2]) (fun x => Ml x.1 ∧ Fu x.2) fun x => i64 (Pl.sz1 x.1.length x.2))
def K_szIntSS : Nat × Contract := (Nm.laws_szIntSS, .sc (List (List Int) × Int) (fun x => [intss x.1, i64 x.2]) (fun x => MlL x.1 ∧ Fu x.2) fun x => i64 (Pl.szSS x.1 x.2))
def K_toIntSS : Nat × Contract := (Nm.laws_toIntSS, .im (List (List Int)) (fun l => [intss l]) SzL intss)
def K_eqIntSS : Nat × Contract := (Nm.laws_eqIntSS, .sc (List (List Int) × List (List Int)) (fun x => [intss x.1, intss x.2]) (fun x => SzL x.1) fun x => bl (decide (x.1 = x.2)))
def K_sLogEnds : Nat × Contract := (Nm.spec_LogEnds, .sc (List (List Int)) (fun l => [intss l]) Sz fun l => bl (Pl.logEnds l))
def K_iLogEnds : Nat × Contract := (Nm.impl_LogEnds, .sc (List (List Int)) (fun l => [intss l]) Sz fun l => bl (Pl.logEnds l))
def K_eqBoolS : Nat × Contract := (Nm.laws_eqBoolS, .sc (List Bool × List Bool) (fun x => [bools x.1, bools x.2]) (fun x => Sz x.1) fun x => bl (decide (x.1 = x.2)))
def A_szIntSS (l : List (List Int)) (k : Int) : List Ann :=
  [.mk (Nat × Int) (fun x => x.1 ≤ l.length ∧ Fu x.2 ∧ Pl.szSS l k = Pl.szL (l.drop x.1) x.2) (fun x => { fr := pad [intss l, i64 x.2, .any, .any, .any, i64 x.1] 27, H := [] }) (fun x => l.length - x.1) (fun _ => [])]
def A_toIntSS (l : List (List Int)) : List Ann :=
  [.mk (Nat × List (List Int)) (fun x => x.1 ≤ l.length ∧ x.2.length = l.length ∧ x.2.take x.1 = l.take x.1) (fun x => { fr := pad [intss l, .any, .any, .osl 0 0 x.2.length, i64 x.1] 23, H := [arII x.2] }) (fun x => l.length - x.1) (fun _ => [])]
def A_eqIntSS (l m : List (List Int)) : List Ann :=
  [.mk Nat (fun x => x ≤ l.length ∧ l.length = m.length ∧ (l = m ↔ l.drop x = m.drop x)) (fun x => { fr := pad [intss l, intss m, .any, .any, .any, i64 x] 27, H := [] }) (fun x => l.length - x) (fun _ => [])]
def A_toBoolS (l : List Bool) : List Ann :=
  [.mk (Nat × List Bool) (fun x => x.1 ≤ l.length ∧ x.2.length = l.length ∧ x.2.take x.1 = l.take x.1) (fun x => { fr := pad [bools l, .any, .any, .osl 0 0 x.2.length, i64 x.1] 22, H := [arB x.2] }) (fun x => l.length - x.1) (fun _ => [])]
def A_eqBoolS (l m : List Bool) : List Ann :=
  [.mk Nat (fun x => x ≤ l.length ∧ l.length = m.length ∧ (l = m ↔ l.drop x = m.drop x)) (fun x => { fr := pad [bools l, bools m, .any, .any, .any, i64 x] 26, H := [] }) (fun x => l.length - x) (fun _ => [])]
def A_sClauseIs (l : List Int) (v : List Bool) : List Ann :=
  [.mk Nat (fun x => x ≤ l.length ∧ Pl.clauseIs l v = Pl.clauseIs (l.drop x) v) (fun x => { fr := pad [ints l, bools v, .any, .any, .any, i64 x] 25, H := [] }) (fun x => l.length - x) (fun _ => [])]
end Cg

/-
  Plain functions, and what is known of the codes' callees and loops: clause sets. No condition.
-/
namespace Pl
abbrev Cnf := Int × List (List Int)
def cnfOk (c : Cnf) : Bool := decide (0 ≤ c.1) && decide (c.1 ≤ 60) && decide (c.2.length ≤ 400) && c.2.all fun x => specClause x c.1
def cnfIs (c : Cnf) (v : List Bool) : Bool := cnfOk c && decide ((v.length : Int) = c.1) && c.2.all fun x => clauseIs x v
end Pl
namespace Cg
open Go
def cnf (c : Pl.Cnf) : AV := .agg [i64 c.1, intss c.2]
def patCnf (m : Int) (l : List (List Int)) : AV := cnf (m, l)
abbrev SzC (c : Pl.Cnf) : Prop := SzL c.2
def K_szCnf : Nat × Contract := (Nm.laws_szCnf, .sc (Pl.Cnf × Int) (fun x => [cnf x.1, i64 x.2]) (fun x => MlL x.1.2 ∧ Fu x.2) fun x => i64 (Pl.szSS x.1.2 x.2))
def K_toCnf : Nat × Contract := (Nm.laws_toCnf, .im Pl.Cnf (fun c => [cnf c]) SzC cnf)
def K_eqCnf : Nat × Contract := (Nm.laws_eqCnf, .sc (Pl.Cnf × Pl.Cnf) (fun x => [cnf x.1, cnf x.2]) (fun x => SzC x.1) fun x => bl (decide (x.1 = x.2)))
def K_sCnfOk : Nat × Contract := (Nm.spec_CnfOk, .sc Pl.Cnf (fun c => [cnf c]) SzC fun c => bl (Pl.cnfOk c))
def K_iCnfOk : Nat × Contract := (Nm.impl_CnfOk, .sc Pl.Cnf (fun c => [cnf c]) SzC fun c => bl (Pl.cnfOk c))
def K_CnfOk1 : Nat × Contract := (Nm.impl_CnfOk_1, .sc (List Int × Pl.Cnf) (fun x => [ints x.1, refs [i64 x.2.1, intss x.2.2]]) (fun x => Sz x.1) fun x => bl (!Pl.specClause x.1 x.2.1))
def K_IndexCnfOk : Nat × Contract := (Nm.slices_IndexFunc_SSint_Sint, .sc (List (List Int) × Pl.Cnf) (fun x => [intss x.1, .fn (.func Nm.impl_CnfOk_1) [refs [i64 x.2.1, intss x.2.2]]]) (fun x => SzL x.1) fun x => i64 (Pl.idx (fun y => !Pl.specClause y x.2.1) x.1))
def K_ContainsCnfOk : Nat × Contract := (Nm.slices_ContainsFunc_SSint_Sint, .sc (List (List Int) × Pl.Cnf) (fun x => [intss x.1, .fn (.func Nm.impl_CnfOk_1) [refs [i64 x.2.1, intss x.2.2]]]) (fun x => SzL x.1) fun x => bl (x.1.any fun y => !Pl.specClause y x.2.1))
def A_l5Ints (l m : List Int) : List Ann :=
  [.mk Nat (fun x => x ≤ l.length ∧ l.length = m.length ∧ (l = m ↔ l.drop x = m.drop x)) (fun x => { fr := pad [ints l, ints m, .any, .any, .any, i64 x] 26, H := [] }) (fun x => l.length - x) (fun _ => [])]
def A_slEqual (l m : List Int) : List Ann :=
  [.mk Nat (fun x => x ≤ l.length ∧ l.length = m.length ∧ (l = m ↔ l.drop x = m.drop x)) (fun x => { fr := pad [ints l, ints m, .any, .any, .any, .any, .any, .any, .any, .any, .any, .any, i64 l.length, i64 x] 26, H := [] }) (fun x => l.length - x) (fun _ => [])]
def A_sCnfSame (c d : Pl.Cnf) : List Ann :=
  [.mk Nat (fun x => x ≤ c.2.length ∧ c.2.length = d.2.length ∧ c.1 = d.1 ∧ (c.2 = d.2 ↔ c.2.drop x = d.2.drop x)) (fun x => { fr := pad [.any, .any, .ptr 0 0, .ptr 1 0, .any, i64 x] 39, H := [.var [i64 c.1, intss c.2], .var [i64 d.1, intss d.2]] }) (fun x => c.2.length - x) (fun _ => [])]
def A_sCnfOk (c : Pl.Cnf) : List Ann :=
  [.mk Nat (fun x => x ≤ c.2.length ∧ Pl.cnfOk c = (c.2.drop x).all fun y => Pl.specClause y c.1) (fun x => { fr := pad [.any, .ptr 0 0, .any, i64 x] 34, H := [.var [i64 c.1, intss c.2]] }) (fun x => c.2.length - x) (fun _ => [])]
def A_IndexCnfOk (l : List (List Int)) (c : Pl.Cnf) : List Ann :=
  [.mk Nat (fun x => x ≤ l.length ∧ Pl.idx (fun x => !Pl.specClause x c.1) l = if Pl.idx (fun x => !Pl.specClause x c.1) (l.drop x) < 0 then -1 else Pl.idx (fun x => !Pl.specClause x c.1) (l.drop x) + x)
    (fun x => { fr := pad [intss l, .fn (.func Nm.impl_CnfOk_1) [refs [i64 c.1, intss c.2]], .any, .any, .any, .any, .any, i64 l.length, i64 x] 19, H := [] }) (fun x => l.length - x) (fun _ => [])]
def A_sCnfIs (c : Pl.Cnf) (v : List Bool) : List Ann :=
  [.mk Nat (fun x => x ≤ c.2.length ∧ Pl.cnfIs c v = (c.2.drop x).all fun y => Pl.clauseIs y v) (fun x => { fr := pad [.any, bools v, .ptr 0 0, .any, .any, i64 x] 31, H := [.var [i64 c.1, intss c.2]] }) (fun x => c.2.length - x) (fun _ => [])]
end Cg

/-
  Plain functions, and what is known of the codes' callees and loops: rows of numbers that are marked. No condition.
-/
set_option linter.unusedVariables false
namespace Pl
/-- So many numbers from one on. -/
def seqI (k : Int) (n : Nat) : List Int := (List.range n).map fun (i : Nat) => k + i
def heldI (l : List Int) (k : Int) : Int := if l = seqI k l.length then k + l.length else -1
end Pl
namespace Cg
open Go
/-- A row of rows whose inner rows are owned too. -/
def xrII (l : List (List Int)) : AObj := .xarr l.length 1 fun i j => eII (l.getD i []) j
def K_toIntSO : Nat × Contract := (Nm.laws_toIntS, .eff (List Int) (fun l => ⟨[ints l], []⟩) Sz Unit (fun _ _ => True) fun l _ => (.osl 0 0 l.length, [arI l]))
abbrev MkX := List Int × List Int × Int
def K_markIntS : Nat × Contract := (Nm.laws_markIntS, .eff MkX (fun x => ⟨[.osl 0 0 x.1.length, i64 x.2.2], [arI (x.1 ++ x.2.1)]⟩) (fun x => Sz x.1 ∧ 0 ≤ x.2.2 ∧ x.2.2 ≤ 1099511627776) Unit (fun _ _ => True) fun x _ => (i64 (x.2.2 + x.1.length), [arI (Pl.seqI x.2.2 x.1.length ++ x.2.1)]))
def K_heldIntS : Nat × Contract := (Nm.laws_heldIntS, .sc (List Int × Int) (fun x => [ints x.1, i64 x.2]) (fun x => Sz x.1 ∧ 0 ≤ x.2 ∧ x.2 ≤ 1099511627776) fun x => i64 (Pl.heldI x.1 x.2))
def A_markIntS (l r : List Int) (k : Int) : List Ann :=
  [.mk Nat (fun x => x ≤ l.length) (fun x => { fr := pad [.osl 0 0 l.length, i64 (k + x), .any, .any, .any, i64 x] 19, H := [arI (Pl.seqI k x ++ (l ++ r).drop x)] }) (fun x => l.length - x) (fun _ => [])]
def A_heldIntS (l : List Int) (k : Int) : List Ann :=
  [.mk Nat (fun x => x ≤ l.length ∧ l.take x = Pl.seqI k x) (fun x => { fr := pad [ints l, i64 (k + x), .any, .any, .any, i64 x] 21, H := [] }) (fun x => l.length - x) (fun _ => [])]
end Cg

/-
  Plain functions, and what is known of the codes' callees and loops: rows of rows that are marked. No condition.
-/
set_option linter.unusedVariables false
namespace Pl
/-- So many numbers from one on, row for row. -/
def mksII (k : Int) : List (List Int) → List (List Int)
  | [] => []
  | r :: rs => seqI k r.length :: mksII (k + r.length) rs
def sumW : List (List Int) → Nat
  | [] => 0
  | r :: rs => r.length + sumW rs
/-- Does a row of rows hold these numbers, and which is the next? -/
def heldII (l : List (List Int)) (k : Int) : Int := if l = mksII k l then k + sumW l else -1
def seqB (k : Int) (n : Nat) : List Bool := (List.range n).map fun (i : Nat) => decide ((k + i).tmod 3 = 0)
def heldB (l : List Bool) (k : Int) : Int := if l = seqB k l.length then k + l.length else -1
end Pl
namespace Cg
open Go Pl
abbrev MaX := List (List Int) × Nat × Int
abbrev MsX := List (List Int) × Int
def K_toIntSSO : Nat × Contract := (Nm.laws_toIntSS, .eff (List (List Int)) (fun l => ⟨[intss l], []⟩) SzL Unit (fun _ _ => True) fun l _ => (.osl 0 0 l.length, [xrII l]))
def K_markAt : Nat × Contract := (Nm.laws_markIntS, .eff MaX (fun x => ⟨[.xsl 0 x.2.1 0 (x.1.getD x.2.1 []).length, i64 x.2.2], [xrII x.1]⟩) (fun x => Sz (x.1.getD x.2.1 []) ∧ 0 ≤ x.2.2 ∧ x.2.2 ≤ 1099511627776 ∧ x.2.1 < x.1.length) Unit (fun _ _ => True) fun x _ => (i64 (x.2.2 + (x.1.getD x.2.1 []).length), [xrII (x.1.set x.2.1 (seqI x.2.2 (x.1.getD x.2.1 []).length))]))
def K_markIntSS : Nat × Contract := (Nm.laws_markIntSS, .eff MsX (fun x => ⟨[.osl 0 0 x.1.length, i64 x.2], [xrII x.1]⟩) (fun x => SzL x.1 ∧ 0 ≤ x.2 ∧ x.2 + sumW x.1 ≤ 1099511627776) Unit (fun _ _ => True) fun x _ => (i64 (x.2 + sumW x.1), [xrII (mksII x.2 x.1)]))
def A_markIntSS (l : List (List Int)) (k : Int) : List Ann :=
  [.mk Nat (fun x => x ≤ l.length) (fun x => { fr := pad [.osl 0 0 l.length, i64 (k + sumW (l.take x)), .any, .any, .any, i64 x] 19, H := [xrII (mksII k (l.take x) ++ l.drop x)] }) (fun x => l.length - x) (fun _ => [])]
abbrev MbX := List Bool × List Bool × Int
def K_heldIntSS : Nat × Contract := (Nm.laws_heldIntSS, .sc MsX (fun x => [intss x.1, i64 x.2]) (fun x => SzL x.1 ∧ 0 ≤ x.2 ∧ x.2 + sumW x.1 ≤ 1099511627776) fun x => i64 (heldII x.1 x.2))
def K_markBoolS : Nat × Contract := (Nm.laws_markBoolS, .eff MbX (fun x => ⟨[.osl 0 0 x.1.length, i64 x.2.2], [arB (x.1 ++ x.2.1)]⟩) (fun x => Sz x.1 ∧ 0 ≤ x.2.2 ∧ x.2.2 ≤ 1099511627776) Unit (fun _ _ => True) fun x _ => (i64 (x.2.2 + x.1.length), [arB (seqB x.2.2 x.1.length ++ x.2.1)]))
def K_heldBoolS : Nat × Contract := (Nm.laws_heldBoolS, .sc (List Bool × Int) (fun x => [bools x.1, i64 x.2]) (fun x => Sz x.1 ∧ 0 ≤ x.2 ∧ x.2 ≤ 1099511627776) fun x => i64 (heldB x.1 x.2))
def A_heldIntSS (l : List (List Int)) (k : Int) : List Ann :=
  [.mk Nat (fun x => x ≤ l.length ∧ l.take x = mksII k (l.take x)) (fun x => { fr := pad [intss l, i64 (k + sumW (l.take x)), .any, .any, .any, i64 x] 21, H := [] }) (fun x => l.length - x) (fun _ => [])]
def A_markBoolS (l r : List Bool) (k : Int) : List Ann :=
  [.mk Nat (fun x => x ≤ l.length) (fun x => { fr := pad [.osl 0 0 l.length, i64 (k + x), .any, .any, .any, i64 x] 21, H := [arB (seqB k x ++ (l ++ r).drop x)] }) (fun x => l.length - x) (fun _ => [])]
def A_heldBoolS (l : List Bool) (k : Int) : List Ann :=
  [.mk Nat (fun x => x ≤ l.length ∧ l.take x = seqB k x) (fun x => { fr := pad [bools l, i64 (k + x), .any, .any, .any, i64 x] 23, H := [] }) (fun x => l.length - x) (fun _ => [])]
end Cg

/-
  Plain functions, and what is known of the codes' callees and loops: unit propagation. No condition.
-/
namespace Pl
/-- 1, if a mark is put as it is wanted, -1, if the other way, else 0. -/
def at_ (n : Int) : List Int → Int
  | [] => 0
  | p :: r => if p = n then 1 else if p = wneg n then -1 else at_ n r
def leftL (put : List Int) : List Int → Nat → Int → Nat × Int
  | [], n, l => (n, l)
  | x :: xs, n, l => if at_ x put = 1 then (2, 0) else if at_ x put = 0 then leftL put xs (n + 1) (if n = 0 then x else l) else leftL put xs n l
def left (put c : List Int) : Nat × Int := leftL put c 0 0
/-- The first clause that is falsified, or that makes a mark true. -/
def scanS (put : List Int) : List (List Int) → Option (Option Int)
  | [] => none
  | c :: cs => if (left put c).1 = 0 then some none else if (left put c).1 = 1 then some (some (left put c).2) else scanS put cs
def unitsF (scan : List Int → List (List Int) → Option (Option Int)) (list : List (List Int)) : Nat → List Int → List Int × Bool
  | 0, put => (put, false)
  | k + 1, put => match scan put list with
    | none => (put, false)
    | some none => (put, true)
    | some (some l) => unitsF scan list k (put ++ [l])
def unitsS (list : List (List Int)) (put : List Int) : List Int × Bool := unitsF scanS list 61 put
def unitL (put : List Int) : List Int → Int → Nat → Int × Bool
  | [], f, k => (if k > 1 then 0 else f, decide (k = 0))
  | x :: xs, f, k => if put.contains x then (0, false) else if put.contains (wneg x) then unitL put xs f k else unitL put xs x (k + 1)
def unit (c put : List Int) : Int × Bool := unitL put c 0 0
def scanI (put : List Int) : List (List Int) → Option (Option Int)
  | [] => none
  | c :: cs => if (unit c put).2 then some none else if (unit c put).1 ≠ 0 then some (some (unit c put).1) else scanI put cs
def unitsI (list : List (List Int)) (put : List Int) : List Int × Bool := unitsF scanI list 61 put
def nots (l : List Int) : List Int := l.map wneg
/-- How many variables are not put yet. -/
def uncov (put : List Int) : Nat := ((List.range 60).filter fun (v : Nat) => !(put.contains ((v : Int) + 1) || put.contains (-((v : Int) + 1)))).length
/-- Nothing is put both ways. -/
def Cons (put : List Int) : Prop := ∀ x ∈ put, x ≠ 0 ∧ -60 ≤ x ∧ x ≤ 60 ∧ -x ∉ put
def sumLen {α : Type} : List (List α) → Int
  | [] => 0
  | x :: xs => x.length + sumLen xs
def rup (c : Cnf) (cl : List Int) : Bool := cnfOk c && specClause cl c.1 && (unitsS c.2 (nots cl)).2
def logAll (c : Cnf) (log : List (List Int)) (i : Nat) : Bool := (List.range' i (log.length - i)).all fun j => rup (c.1, c.2 ++ log.take j) (log.getD j [])
def logOk (c : Cnf) (log : List (List Int)) : Bool := cnfOk c && decide (log.length ≤ 130) && decide (c.2.length + log.length ≤ 400) && logAll c log 0
end Pl
namespace Cg
open Go
abbrev SzH {α : Type} (l : List α) : Prop := l.length ≤ 2147483648
def K_l10At : Nat × Contract := (Nm.spec_l10At, .sc (List Int × Int) (fun x => [ints x.1, i64 x.2]) (fun x => Sz x.1) fun x => i64 (Pl.at_ x.2 x.1))
def K_l10Left : Nat × Contract := (Nm.spec_l10Left, .sc (List Int × List Int) (fun x => [ints x.1, ints x.2]) (fun x => Sz x.1 ∧ Sz x.2) fun x => .tup [i64 (Pl.left x.1 x.2).1, i64 (Pl.left x.1 x.2).2])
def K_l10Units : Nat × Contract := (Nm.spec_l10Units, .im (Pl.Cnf × List Int) (fun x => [cnf x.1, ints x.2]) (fun x => Pl.cnfOk x.1 = true ∧ SzC x.1 ∧ SzH x.2) fun x => .tup [ints (Pl.unitsS x.1.2 x.2).1, bl (Pl.unitsS x.1.2 x.2).2])
def K_l10Nots : Nat × Contract := (Nm.spec_l10Nots, .im (List Int) (fun l => [ints l]) SzH fun l => ints (Pl.nots l))
def K_sCnfRup : Nat × Contract := (Nm.spec_CnfRup, .sc (Pl.Cnf × List Int) (fun x => [cnf x.1, ints x.2]) (fun x => SzC x.1 ∧ SzH x.2) fun x => bl (Pl.rup x.1 x.2))
def K_Index : Nat × Contract := (Nm.slices_Index_Sint_int, .sc (List Int × Int) (fun x => [ints x.1, i64 x.2]) (fun x => Sz x.1) fun x => i64 (Pl.idx (fun y => decide (x.2 = y)) x.1))
def K_Contains : Nat × Contract := (Nm.slices_Contains_Sint_int, .sc (List Int × Int) (fun x => [ints x.1, i64 x.2]) (fun x => Sz x.1) fun x => bl (x.1.contains x.2))
def K_Clone : Nat × Contract := (Nm.slices_Clone_Sint_int, .eff (List Int) (fun l => ⟨[ints l], []⟩) SzH Unit (fun _ _ => True) fun l _ => (.osl 0 0 l.length, [arI l]))
def K_unit : Nat × Contract := (Nm.impl_unit, .sc (List Int × List Int) (fun x => [ints x.1, ints x.2]) (fun x => Sz x.1 ∧ Sz x.2) fun x => .tup [i64 (Pl.unit x.1 x.2).1, bl (Pl.unit x.1 x.2).2])
def K_units : Nat × Contract := (Nm.impl_units, .im (List (List Int) × List Int) (fun x => [intss x.1, ints x.2]) (fun x => (∃ m, Pl.cnfOk (m, x.1) = true) ∧ SzL x.1 ∧ SzH x.2) fun x => .tup [ints (Pl.unitsI x.1 x.2).1, bl (Pl.unitsI x.1 x.2).2])
def K_negated : Nat × Contract := (Nm.impl_negated, .im (List Int) (fun l => [ints l]) SzH fun l => ints (Pl.nots l))
def K_iCnfRup : Nat × Contract := (Nm.impl_CnfRup, .sc (Pl.Cnf × List Int) (fun x => [cnf x.1, ints x.2]) (fun x => SzC x.1 ∧ SzH x.2) fun x => bl (Pl.rup x.1 x.2))
def K_GrowII : Nat × Contract := (Nm.slices_Grow_SSint_Sint, .eff Int (fun n => ⟨[nilA, i64 n], []⟩) (fun n => 0 ≤ n ∧ n ≤ 4294967296) Unit (fun _ _ => True) fun _ _ => (.osl 0 0 0, [arII []]))
def K_ConcatII : Nat × Contract := (Nm.slices_Concat_SSint_Sint, .im (List (List (List Int))) (fun x => [intsss x]) (fun x => x.length ≤ 4 ∧ ∀ y ∈ x, y.length ≤ 1073741824) fun x => intss x.flatten)
def K_sLogOk : Nat × Contract := (Nm.spec_LogOk, .sc (Pl.Cnf × List (List Int)) (fun x => [cnf x.1, intss x.2]) (fun x => SzC x.1 ∧ Sz x.2 ∧ ∀ y ∈ x.2, SzH y) fun x => bl (Pl.logOk x.1 x.2))
def K_iLogOk : Nat × Contract := (Nm.impl_LogOk, .sc (Pl.Cnf × List (List Int)) (fun x => [cnf x.1, intss x.2]) (fun x => SzC x.1 ∧ Sz x.2 ∧ ∀ y ∈ x.2, SzH y) fun x => bl (Pl.logOk x.1 x.2))
def A_l10At (l : List Int) (n : Int) : List Ann :=
  [.mk Nat (fun x => x ≤ l.length ∧ Pl.at_ n l = Pl.at_ n (l.drop x)) (fun x => { fr := pad [ints l, i64 n, .any, .any, .any, i64 x] 25, H := [] }) (fun x => l.length - x) (fun _ => [])]
def A_l10Left (put c : List Int) : List Ann :=
  [.mk (Nat × Nat × Int) (fun x => x.1 ≤ c.length ∧ x.2.1 ≤ x.1 ∧ Pl.left put c = Pl.leftL put (c.drop x.1) x.2.1 x.2.2) (fun x => { fr := pad [ints put, ints c, .any, .any, .any, .any, i64 x.2.1, i64 x.2.2, i64 x.1] 35, H := [] }) (fun x => c.length - x.1) (fun _ => [])]
def A_l10Units (c : Pl.Cnf) (put : List Int) : List Ann :=
  [.mk (Nat × Nat × List Int) (fun x => x.1 ≤ c.2.length ∧ Pl.unitsS c.2 put = Pl.unitsF Pl.scanS c.2 x.2.1 x.2.2 ∧ Pl.uncov x.2.2 < x.2.1 ∧ Pl.scanS x.2.2 c.2 = Pl.scanS x.2.2 (c.2.drop x.1) ∧ x.2.2.length + x.2.1 = put.length + 61)
    (fun x => { fr := pad [.any, ints put, .ptr 0 0, .any, .any, .any, .osl 1 0 x.2.2.length, i64 x.1] 40, H := [.var [i64 c.1, intss c.2], arI x.2.2] }) (fun x => x.2.1 * (c.2.length + 1) + (c.2.length - x.1)) (fun _ => [])]
def A_l10Nots (l : List Int) : List Ann :=
  [.mk (Nat × List Int) (fun x => x.1 ≤ l.length ∧ x.2.length = x.1 ∧ Pl.nots l = x.2 ++ Pl.nots (l.drop x.1)) (fun x => { fr := pad [ints l, .any, .any, .osl 0 0 x.2.length, i64 x.1] 21, H := [arI x.2] }) (fun x => l.length - x.1) (fun _ => [])]
def A_Index (l : List Int) (n : Int) : List Ann :=
  [.mk Nat (fun x => x ≤ l.length ∧ Pl.idx (fun y => decide (n = y)) l = if Pl.idx (fun y => decide (n = y)) (l.drop x) < 0 then -1 else Pl.idx (fun y => decide (n = y)) (l.drop x) + x)
    (fun x => { fr := pad [ints l, i64 n, .any, .any, .any, .any, .any, i64 l.length, i64 x] 19, H := [] }) (fun x => l.length - x) (fun _ => [])]
def A_unit (c put : List Int) : List Ann :=
  [.mk (Nat × Int × Nat) (fun x => x.1 ≤ c.length ∧ x.2.2 ≤ x.1 ∧ Pl.unit c put = Pl.unitL put (c.drop x.1) x.2.1 x.2.2) (fun x => { fr := pad [ints c, ints put, .any, .any, .any, .any, i64 x.2.1, i64 x.2.2, .any, .any, ints c, i64 c.length, i64 x.1] 35, H := [] }) (fun x => c.length - x.1) (fun _ => [])]
def A_units (list : List (List Int)) (put : List Int) : List Ann :=
  [.mk (Nat × List Int) (fun x => Pl.unitsI list put = Pl.unitsF Pl.scanI list x.1 x.2 ∧ Pl.uncov x.2 < x.1 ∧ x.2.length + x.1 = put.length + 61)
    (fun x => { fr := pad [intss list, ints put, .any, .any, .any, .any, .osl 0 0 x.2.length] 39, H := [arI x.2] }) (fun x => x.1)
    (fun x => [.mk Nat (fun i => i ≤ list.length ∧ Pl.scanI x.2 list = Pl.scanI x.2 (list.drop i))
      (fun i => { fr := pad [intss list, ints put, .any, .any, .any, .any, .osl 0 0 x.2.length, i64 0, .any, .any, .any, .any, .any, .any, intss list, i64 list.length, i64 i] 39, H := [arI x.2] }) (fun i => list.length - i) (fun _ => [])])]
def A_negated (l : List Int) : List Ann :=
  [.mk (Nat × List Int) (fun x => x.1 ≤ l.length ∧ x.2.length = x.1 ∧ Pl.nots l = x.2 ++ Pl.nots (l.drop x.1)) (fun x => { fr := pad [ints l, .any, .any, .osl 0 0 x.2.length, .any, .any, ints l, i64 l.length, i64 x.1] 19, H := [arI x.2] }) (fun x => l.length - x.1) (fun _ => [])]
def A_ConcatII (ls : List (List (List Int))) : List Ann :=
  [.mk Nat (fun x => x ≤ ls.length) (fun x => { fr := pad [intsss ls, .any, .any, i64 (Pl.sumLen (ls.take x)), .any, .any, .any, .any, .any, intsss ls, i64 ls.length, i64 x] 36, H := [] }) (fun x => ls.length - x) (fun _ => []),
   .mk (Nat × List (List Int)) (fun x => x.1 ≤ ls.length ∧ Eqq x.2 (ls.take x.1).flatten) (fun x => { fr := pad [intsss ls, .any, .any, .any, .any, .any, .osl 0 0 x.2.length, .any, .any, .any, .any, .any, .any, .any, .any, .any, .any, .any, .any, .any, .any, .any, .any, .any, .any, intsss ls, i64 ls.length, i64 x.1] 36, H := [arII x.2] }) (fun x => ls.length - x.1) (fun _ => [])]
def A_sLogOk (c : Pl.Cnf) (log : List (List Int)) : List Ann :=
  [.mk (Nat × List (List Int)) (fun x => x.1 ≤ log.length ∧ Eqq x.2 (c.2 ++ log.take x.1) ∧ Pl.logOk c log = Pl.logAll c log x.1) (fun x => { fr := pad [.any, intss log, .any, .any, .any, .ptr 0 0, i64 x.1] 53, H := [.var [i64 c.1, .osl 1 0 x.2.length], arII x.2] }) (fun x => log.length - x.1) (fun _ => [])]
def A_iLogOk (c : Pl.Cnf) (log : List (List Int)) : List Ann :=
  [.mk Nat (fun x => x ≤ log.length ∧ Pl.logOk c log = Pl.logAll c log x) (fun x => { fr := pad [.any, intss log, .ptr 0 0, .any, .any, .ptr 1 0, .any, .any, .any, .any, .any, .any, .any, .any, .any, .any, .any, .any, .any, .any, .any, .any, .any, .any, .any, .any, .any, .any, .any, .any, .any, .any, .any, intss log, i64 log.length, i64 x] 55, H := [.var [i64 c.1, intss c.2], .var [i64 c.1, intss (c.2 ++ log)]] }) (fun x => log.length - x) (fun _ => [])]
end Cg

/-
  Plain functions, and what is known of the codes' callees and loops: drawn clause sets. No condition.
-/
namespace Pl
/-- One more mark in order; false, if it is there the other way. -/
def putS : List Int → Int → List Int × Bool
  | [], n => ([n], true)
  | x :: xs, n => if absW x < absW n then (x :: (putS xs n).1, (putS xs n).2) else if absW x = absW n then (x :: xs, decide (x = n)) else (n :: x :: xs, true)
def badMark (x : Int) : Bool := decide (x = 0) || decide (absW x > 60)
def clauseL : List Int → List Int → List Int × Bool
  | [], out => (out, true)
  | x :: xs, out => if (putS out x).2 then clauseL xs (putS out x).1 else ([], false)
def clauseOf (l : List Int) : List Int × Bool := if l.any badMark then ([], false) else clauseL l []
def rightS (many : Int) : List Int → List Int → Bool
  | _, [] => true
  | done, x :: xs => !(decide (x = 0) || decide (absW x > many) || decide (at_ x done ≠ 0)) && rightS many (done ++ [x]) xs
def rightI (many : Int) : List Int → List Int → Bool
  | _, [] => true
  | done, x :: xs => !(!isMark x many || done.contains x || done.contains (wneg x)) && rightI many (done ++ [x]) xs
def cnfUnits (c : Cnf) (put : List Int) : List Int × Bool := if cnfOk c && rightS c.1 [] put then unitsS c.2 put else ([], false)
end Pl
namespace Cg
open Go
/-- A reader over some bytes, at a place up to a bound. -/
def Rd (m : Int) (b : List Int) (p : Int) : Prop := b.length ≤ 2000 ∧ (∀ x ∈ b, 0 ≤ x ∧ x < 256) ∧ 0 ≤ p ∧ p ≤ m
def Byt (b : List Int) : Prop := ∀ x ∈ b, 0 ≤ x ∧ x < 256
/-- A small clause set. -/
def Sm (c : Pl.Cnf) : Prop := c.1 ≤ 61 ∧ c.2.length ≤ 100 ∧ ∀ x ∈ c.2, x.length ≤ 100
def rdO (b : List Int) (p : Int) : AObj := .var [byts b, i64 p]

def K_l10Put : Nat × Contract := (Nm.spec_l10Put, .im (List Int × Int) (fun x => [ints x.1, i64 x.2]) (fun x => SzH x.1) fun x => .tup [ints (Pl.putS x.1 x.2).1, bl (Pl.putS x.1 x.2).2])
def K_sClauseOf : Nat × Contract := (Nm.spec_ClauseOf, .im (List Int) (fun x => [ints x]) (fun x => x.length ≤ 1073741824) fun x => .tup [ints (Pl.clauseOf x).1, bl (Pl.clauseOf x).2])
def K_l10Right : Nat × Contract := (Nm.spec_l10Right, .sc (List Int × Int) (fun x => [ints x.1, i64 x.2]) (fun x => Sz x.1) fun x => bl (Pl.rightS x.2 [] x.1))
def K_sCnfUnits : Nat × Contract := (Nm.spec_CnfUnits, .im (Pl.Cnf × List Int) (fun x => [cnf x.1, ints x.2]) (fun x => SzC x.1 ∧ SzH x.2) fun x => .tup [ints (Pl.cnfUnits x.1 x.2).1, bl (Pl.cnfUnits x.1 x.2).2])
def K_iCnfUnits : Nat × Contract := (Nm.impl_CnfUnits, .im (Pl.Cnf × List Int) (fun x => [cnf x.1, ints x.2]) (fun x => SzC x.1 ∧ SzH x.2) fun x => .tup [ints (Pl.cnfUnits x.1 x.2).1, bl (Pl.cnfUnits x.1 x.2).2])
def A_l10Marks (b : List Int) (p many n : Int) : List Ann :=
  [.mk (Nat × List Int × Int) (fun x => x.2.1.length = x.1 ∧ ((x.1 : Int) ≤ n ∨ x.1 = 0) ∧ p ≤ x.2.2 ∧ x.2.2 ≤ p + 3 * x.1) (fun x => { fr := pad [.ptr 0 0, i64 many, i64 n, .any, .any, .any, .any, .osl 1 0 x.2.1.length, i64 x.1] 22, H := [.var [byts b, i64 x.2.2], arI x.2.1] }) (fun x => (n - x.1).toNat) (fun _ => [])]
def A_l10Vals (b : List Int) (p many : Int) : List Ann :=
  [.mk (Nat × List Bool × Int) (fun x => x.2.1.length = x.1 ∧ ((x.1 : Int) ≤ many ∨ x.1 = 0) ∧ p ≤ x.2.2 ∧ x.2.2 ≤ p + x.1) (fun x => { fr := pad [.ptr 0 0, i64 many, .any, .any, .any, .osl 1 0 x.2.1.length, i64 x.1] 26, H := [.var [byts b, i64 x.2.2], arB x.2.1] }) (fun x => (many - x.1).toNat) (fun _ => [])]
def A_l10Put (l : List Int) (n : Int) : List Ann :=
  [.mk Nat (fun x => x ≤ l.length ∧ Pl.putS l n = (l.take x ++ (Pl.putS (l.drop x) n).1, (Pl.putS (l.drop x) n).2)) (fun x => { fr := pad [ints l, i64 n, .any, .any, .any, .any, i64 x] 60, H := [] }) (fun x => l.length - x) (fun _ => [])]
def A_sClauseOf (l : List Int) : List Ann :=
  [.mk Nat (fun x => x ≤ l.length ∧ l.any Pl.badMark = (l.drop x).any Pl.badMark) (fun x => { fr := pad [ints l, .any, .any, .any, nilA, i64 x] 50, H := [] }) (fun x => l.length - x) (fun _ => []),
   .mk (Nat × List Int) (fun x => x.1 ≤ l.length ∧ Pl.clauseOf l = Pl.clauseL (l.drop x.1) x.2 ∧ x.2.length ≤ x.1) (fun x => { fr := pad [ints l, .any, .any, .any, ints x.2, .any, i64 x.1] 50, H := [] }) (fun x => l.length - x.1) (fun _ => [])]
def A_l10Cnf (b : List Int) (p : Int) : List Ann :=
  [.mk (Int × Int × List (List Int) × Int) (fun x => 0 ≤ x.1 ∧ x.2.2.1.length + x.1 ≤ 12 ∧ x.2.1 ≤ 6 ∧ (∀ y ∈ x.2.2.1, y.length ≤ 100) ∧ p ≤ x.2.2.2 ∧ x.2.2.2 ≤ p + 2 + 400 * (12 - x.1))
    (fun x => { fr := pad [.ptr 0 0, .any, .ptr 1 0, .ptr 2 0, i64 x.1] 61, H := [.var [byts b, i64 x.2.2.2], .var [i64 0, nilA], .var [i64 x.2.1, .osl 3 0 x.2.2.1.length], arII x.2.2.1] }) (fun x => x.1.toNat) (fun _ => [])]
def A_wpNums (l m : List Int) : List Ann :=
  [.mk Nat (fun x => x ≤ l.length ∧ l.length = m.length ∧ (l = m ↔ l.drop x = m.drop x)) (fun x => { fr := pad [ints l, ints m, .any, .any, .any, i64 x] 26, H := [] }) (fun x => l.length - x) (fun _ => [])]
def A_l10Right (l : List Int) (many : Int) : List Ann :=
  [.mk Nat (fun x => x ≤ l.length ∧ Pl.rightS many [] l = Pl.rightS many (l.take x) (l.drop x)) (fun x => { fr := pad [ints l, i64 many, .any, .any, .any, i64 x] 37, H := [] }) (fun x => l.length - x) (fun _ => [])]
def A_iCnfUnits (c : Pl.Cnf) (put : List Int) : List Ann :=
  [.mk Nat (fun x => x ≤ put.length ∧ Pl.rightI c.1 [] put = Pl.rightI c.1 (put.take x) (put.drop x)) (fun x => { fr := pad [.any, ints put, .ptr 0 0, .any, .any, .any, .any, .any, .any, .any, .any, ints put, i64 put.length, i64 x] 45, H := [.var [i64 c.1, intss c.2]] }) (fun x => put.length - x) (fun _ => [])]
def A_yCnfIs (code : List Int) : List Ann :=
  [.mk (Pl.Cnf × List Bool × Nat × Bool × Bool) (fun x => Sm x.1 ∧ x.2.1.length ≤ 101 ∧ x.2.2.1 ≤ x.1.2.length ∧ x.2.2.2.2 = Pl.cnfIs x.1 x.2.1 ∧ (Pl.cnfIs x.1 x.2.1 = (x.2.2.2.1 && (x.1.2.drop x.2.2.1).all fun y => Pl.clauseIs y x.2.1)))
    (fun x => { fr := pad [.any, byts code, .any, .any, .any, .ptr 0 0, bools x.2.1, bl x.2.2.2.2, bl x.2.2.2.1, i64 x.2.2.1] 90, H := [.var [i64 x.1.1, intss x.1.2]] }) (fun x => x.1.2.length - x.2.2.1) (fun _ => [])]
def A_yCnfRup : List Ann :=
  [.mk (Pl.Cnf × List Int × Pl.Cnf × List Bool × Nat) (fun x => Sm x.1 ∧ x.2.1.length ≤ 101 ∧ Sm x.2.2.1 ∧ x.2.2.2.1.length ≤ 101 ∧ x.2.2.2.2 ≤ x.1.2.length)
    (fun x => { fr := pad [.any, .any, .any, .ptr 0 0, ints x.2.1, .ptr 1 0, bools x.2.2.2.1, bl (Pl.rup x.1 x.2.1), i64 x.2.2.2.2] 73, H := [.var [i64 x.1.1, intss x.1.2], .var [i64 x.2.2.1.1, intss x.2.2.1.2]] }) (fun x => x.1.2.length - x.2.2.2.2) (fun _ => [])]
end Cg

/-
  What is known of the codes' callees: the law that units are exact, what it hands over and what it gets marked. No condition.
-/
set_option linter.unusedVariables false
namespace Cg
open Go Pl
abbrev CuX := Pl.Cnf × List Int
def K_toCnfO : Nat × Contract := (Nm.laws_toCnf, .eff Pl.Cnf (fun c => ⟨[cnf c], []⟩) SzC Unit (fun _ _ => True) fun c _ => (.agg [i64 c.1, .osl 0 0 c.2.length], [xrII c.2]))
def K_markCnf : Nat × Contract := (Nm.laws_markCnf, .eff (Pl.Cnf × Int) (fun x => ⟨[.agg [i64 x.1.1, .osl 0 0 x.1.2.length], i64 x.2], [xrII x.1.2]⟩) (fun x => SzC x.1 ∧ 0 ≤ x.2 ∧ x.2 + sumW x.1.2 ≤ 1099511627776) Unit (fun _ _ => True) fun x _ => (i64 (x.2 + sumW x.1.2), [xrII (mksII x.2 x.1.2)]))
def K_unitsO : Nat × Contract := (Nm.impl_units, .eff (List (List Int) × List Int) (fun x => ⟨[intss x.1, ints x.2], []⟩) (fun x => (∃ m, Pl.cnfOk (m, x.1) = true) ∧ SzL x.1 ∧ SzH x.2) Unit (fun _ _ => True) fun x _ => (.tup [.osl 0 0 (Pl.unitsI x.1 x.2).1.length, bl (Pl.unitsI x.1 x.2).2], [arI (Pl.unitsI x.1 x.2).1]))
def K_iCnfUnitsO : Nat × Contract := (Nm.impl_CnfUnits, .eff CuX (fun x => ⟨[cnf x.1, ints x.2], []⟩) (fun x => SzC x.1 ∧ SzH x.2) Unit (fun _ _ => True) fun x _ => (.tup [.osl 0 0 (Pl.cnfUnits x.1 x.2).1.length, bl (Pl.cnfUnits x.1 x.2).2], [arI (Pl.cnfUnits x.1 x.2).1]))
def K_iCnfUnitsL : Nat × Contract := (Nm.impl_CnfUnits, .eff CuX (fun x => ⟨[.agg [i64 x.1.1, .osl 0 0 x.1.2.length], .osl 1 0 x.2.length], [xrII x.1.2, arI x.2]⟩) (fun x => SzC x.1 ∧ SzH x.2) Unit (fun _ _ => True) fun x _ => (.tup [.osl 2 0 (Pl.cnfUnits x.1 x.2).1.length, bl (Pl.cnfUnits x.1 x.2).2], [xrII x.1.2, arI x.2, arI (Pl.cnfUnits x.1 x.2).1]))
def K_l10UnitsO : Nat × Contract := (Nm.spec_l10Units, .eff CuX (fun x => ⟨[cnf x.1, ints x.2], []⟩) (fun x => Pl.cnfOk x.1 = true ∧ SzC x.1 ∧ SzH x.2) Unit (fun _ _ => True) fun x _ => (.tup [.osl 0 0 (Pl.unitsS x.1.2 x.2).1.length, bl (Pl.unitsS x.1.2 x.2).2], [arI (Pl.unitsS x.1.2 x.2).1]))
def K_sCnfUnitsO : Nat × Contract := (Nm.spec_CnfUnits, .eff CuX (fun x => ⟨[cnf x.1, ints x.2], []⟩) (fun x => SzC x.1 ∧ SzH x.2) Unit (fun _ _ => True) fun x _ => (.tup [.osl 0 0 (Pl.cnfUnits x.1 x.2).1.length, bl (Pl.cnfUnits x.1 x.2).2], [arI (Pl.cnfUnits x.1 x.2).1]))
def K_sCnfUnitsL : Nat × Contract := (Nm.spec_CnfUnits, .eff CuX (fun x => ⟨[.agg [i64 x.1.1, .osl 0 0 x.1.2.length], .osl 1 0 x.2.length], [xrII x.1.2, arI x.2]⟩) (fun x => SzC x.1 ∧ SzH x.2) Unit (fun _ _ => True) fun x _ => (.tup [.osl 2 0 (Pl.cnfUnits x.1 x.2).1.length, bl (Pl.cnfUnits x.1 x.2).2], [xrII x.1.2, arI x.2, arI (Pl.cnfUnits x.1 x.2).1]))
def K_xCnfUnits : Nat × Contract := (Nm.laws_FnExactCnfUnits, .sc CuX (fun x => [cnf x.1, ints x.2]) (fun x => MlL x.1.2 ∧ Ml x.2) fun _ => bl true)
end Cg

/-
  What is known of the library's callees: sorted lists of marks, and clauses made of lists. No condition.
-/
namespace Pl
def SortedV (m : List Int) : Prop := ∀ i j, i < j → j < m.length → ¬ varI (m.getD j 0) < varI (m.getD i 0)
def keepsL (l : List Int) (j : Nat) : Bool := decide (j = 0 ∨ l.getD j 0 ≠ l.getD (j - 1) 0)
def compactN (l : List Int) (m : Nat) : List Int := ((List.range m).filter (keepsL l)).map fun j => l.getD j 0
def compactL (l : List Int) : List Int := compactN l l.length
def fineMark (l : List Int) (x : Int) : Bool := isMark x 60 && !l.contains (wneg x)
end Pl
namespace Cg
open Go
def K_SortFunc : Nat × Contract := (Nm.slices_SortFunc_Sint_int, .eff (List Int) (fun l => ⟨[.osl 0 0 l.length, .fn (.func Nm.impl_ClauseOf_1) []], [arI l]⟩) (fun l => l.length ≤ 4294967296) (List Int) (fun l m => l.Perm m ∧ Pl.SortedV m) fun _ m => (.tup [], [arI m]))
def K_Compact : Nat × Contract := (Nm.slices_Compact_Sint_int, .eff (List Int) (fun l => ⟨[.osl 0 0 l.length], [arI l]⟩) (fun l => l.length ≤ 4294967296) Unit (fun _ _ => True) fun l _ => (.osl 0 0 (Pl.compactL l).length, [arI (Pl.compactL l ++ List.replicate (l.length - (Pl.compactL l).length) 0)]))
def K_iClauseOf : Nat × Contract := (Nm.impl_ClauseOf, .im (List Int) (fun x => [ints x]) (fun x => x.length ≤ 1073741824) fun x => .tup [ints (Pl.clauseOf x).1, bl (Pl.clauseOf x).2])
def A_iClauseOf (l : List Int) : List Ann :=
  [.mk Nat (fun x => x ≤ l.length ∧ l.all (Pl.fineMark l) = (l.drop x).all (Pl.fineMark l)) (fun x => { fr := pad [ints l, .any, .any, .any, .any, .any, .any, ints l, i64 l.length, i64 x] 29, H := [] }) (fun x => l.length - x) (fun _ => [])]
end Cg

/-
  Plain functions, and what is known of the codes' callees and loops: rows of numbers that are marked. No condition.
-/
namespace Cg
open Go
def K_CloneO : Nat × Contract := (Nm.slices_Clone_Sint_int, .eff (List Int) (fun l => ⟨[.osl 0 0 l.length], [arI l]⟩) SzH Unit (fun _ _ => True) fun l _ => (.osl 1 0 l.length, [arI l, arI l]))
def K_iClauseOfO : Nat × Contract := (Nm.impl_ClauseOf, .eff (List Int) (fun l => ⟨[.osl 0 0 l.length], [arI l]⟩) (fun l => l.length ≤ 1073741824) (List Int) (fun _ _ => True) fun l y => (.tup [.osl 1 0 (Pl.clauseOf l).1.length, bl (Pl.clauseOf l).2], [arI l, arI ((Pl.clauseOf l).1 ++ y)]))
def K_sClauseOfF : Nat × Contract := (Nm.spec_ClauseOf, .imf (List Int) (fun x => [ints x]) (fun x => x.length ≤ 1073741824) fun x => .tup [ints (Pl.clauseOf x).1, bl (Pl.clauseOf x).2])
def A_iClauseOfO (l : List Int) : List Ann :=
  [.mk Nat (fun x => x ≤ l.length ∧ l.all (Pl.fineMark l) = (l.drop x).all (Pl.fineMark l)) (fun x => { fr := pad [.osl 0 0 l.length, .any, nilA, .any, .any, .any, .any, .osl 0 0 l.length, i64 l.length, i64 x] 29, H := [arI l] }) (fun x => l.length - x) (fun _ => [])]
end Cg

/-
  Plain functions, and what is known of the codes' callees and loops: unit propagation is sound. No condition.
-/
namespace Pl
def ones (l : List Int) (v : List Bool) : Bool := l.all fun x => clauseIs [x] v
end Pl
namespace Cg
open Go
abbrev CuI (x : Pl.Cnf × List Int × Pl.Cnf × List Bool × Nat) : Prop := Sm x.1 ∧ x.2.1.length ≤ 101 ∧ Sm x.2.2.1 ∧ x.2.2.2.1.length ≤ 101 ∧ x.2.1.length ≤ (Pl.cnfUnits x.1 x.2.1).1.length
def A_yCnfUnits : List Ann :=
  [.mk (Pl.Cnf × List Int × Pl.Cnf × List Bool × Nat) (fun x => CuI x ∧ x.2.2.2.2 ≤ x.2.1.length)
    (fun x => { fr := pad [.any, .any, .any, .ptr 0 0, ints x.2.1, .ptr 1 0, bools x.2.2.2.1, ints (Pl.cnfUnits x.1 x.2.1).1, bl (Pl.cnfUnits x.1 x.2.1).2, .any, .any, bl (Pl.cnfIs x.1 x.2.2.2.1 && Pl.ones (x.2.1.take x.2.2.2.2) x.2.2.2.1), i64 x.2.2.2.2] 106, H := [.var [i64 x.1.1, intss x.1.2], .var [i64 x.2.2.1.1, intss x.2.2.1.2]] }) (fun x => x.2.1.length - x.2.2.2.2) (fun _ => []),
   .mk (Pl.Cnf × List Int × Pl.Cnf × List Bool × Nat) (fun x => CuI x ∧ x.2.2.2.2 ≤ (Pl.cnfUnits x.1 x.2.1).1.length ∧ Pl.cnfIs x.1 x.2.2.2.1 = true ∧ Pl.ones x.2.1 x.2.2.2.1 = true)
    (fun x => { fr := pad [.any, .any, .any, .ptr 0 0, ints x.2.1, .ptr 1 0, bools x.2.2.2.1, ints (Pl.cnfUnits x.1 x.2.1).1, bl (Pl.cnfUnits x.1 x.2.1).2, .any, .any, .any, .any, i64 x.2.2.2.2] 106, H := [.var [i64 x.1.1, intss x.1.2], .var [i64 x.2.2.1.1, intss x.2.2.1.2]] }) (fun x => (Pl.cnfUnits x.1 x.2.1).1.length - x.2.2.2.2) (fun _ => [])]
end Cg

/-
  Plain functions, and what is known of the codes' callees and loops: laws of clauses made of lists. No condition.
-/
namespace Cg
open Go
def A_yClauseAlways : List Ann :=
  [.mk (List Int × List Bool × Nat) (fun x => x.1.length ≤ 100 ∧ x.2.1.length ≤ 60 ∧ (Pl.clauseOf x.1).2 = false ∧ x.2.2 ≤ x.1.length ∧ ∀ y ∈ x.1.take x.2.2, y ≠ 0 ∧ -(x.2.1.length : Int) ≤ y ∧ y ≤ x.2.1.length)
    (fun x => { fr := pad [.any, .any, .any, ints x.1, .any, .any, .any, .any, .any, bools x.2.1, i64 x.2.2] 73, H := [] }) (fun x => x.1.length - x.2.2) (fun _ => [])]
end Cg

/-
  Plain functions, and what is known of the codes' callees and loops: searches. No condition.
-/
namespace Pl
def marks (many : Int) : List Int := (List.range many.toNat).map fun (i : Nat) => (i : Int) + 1
/-- The first of some marks that is not put. -/
def freeL (put : List Int) : List Int → Int
  | [] => 0
  | m :: r => if at_ m put = 0 then m else freeL put r
def valsL (put l : List Int) : List Bool := l.map fun m => decide (at_ m put = 1)
/-- The clause that what was chosen can not be. -/
def note (ds : List Int) : List Int := (clauseOf (nots ds)).1
/-- What a search costs, notes, finds. -/
abbrev Hunt := Nat × List (List Int) × List Bool × Bool
def both (ds : List Int) (a b : Hunt) : Hunt :=
  if a.2.2.2 = true then (1 + a.1, a.2.1, a.2.2.1, true)
  else if b.2.2.2 = true then (1 + a.1 + b.1, a.2.1 ++ b.2.1, b.2.2.1, true)
  else (1 + a.1 + b.1, a.2.1 ++ b.2.1 ++ [note ds], [], false)
def next (c : Cnf) (ds : List Int) : Int := freeL (unitsS c.2 ds).1 (marks c.1)
def full (c : Cnf) : Nat → List Int → Hunt
  | 0, _ => (1, [], [], false)
  | k + 1, ds =>
    if (unitsS c.2 ds).2 = true then (1, [note ds], [], false)
    else if next c ds = 0 then (1, [], valsL (unitsS c.2 ds).1 (marks c.1), true)
    else both ds (full c k (ds ++ [-next c ds])) (full c k (ds ++ [next c ds]))
def hunt (c : Cnf) (ds : List Int) : Hunt := full c (61 - ds.length) ds
def huntRun (c : Cnf) (fuel : Int) : List Bool × List (List Int) × Bool :=
  if cnfOk c = true ∧ 0 ≤ fuel ∧ fuel ≤ 130 ∧ ((hunt c []).1 : Int) ≤ fuel then
    if (hunt c []).2.2.2 = true then ((hunt c []).2.2.1, [], true)
    else if c.2.length + (hunt c []).2.1.length > 400 then ([], [], false) else ([], (hunt c []).2.1, true)
  else ([], [], false)

/-- What the first of the two choices, and both, cost and note. -/
def one (c : Cnf) (ds : List Int) : Hunt := hunt c (ds ++ [-next c ds])
def two (c : Cnf) (ds : List Int) : Hunt := hunt c (ds ++ [next c ds])
def accC (c : Cnf) (ds : List Int) : Nat → Int
  | 0 => 1
  | 1 => 1 + (one c ds).1
  | _ => 1 + (one c ds).1 + (two c ds).1
def accL (c : Cnf) (ds : List Int) : Nat → List (List Int)
  | 0 => []
  | 1 => (one c ds).2.1
  | _ => (one c ds).2.1 ++ (two c ds).2.1
def walk (c : Cnf) (most : Int) (ds : List Int) : Int × Bool := if (hunt c ds).1 ≤ most then ((hunt c ds).1, (hunt c ds).2.2.2) else (most, false)
def costOf (c : Cnf) (most : Int) : Int := if most < 1 then 1 else (walk c (most + 1) []).1
def search (c : Cnf) (fuel : Int) : Int × List (List Int) × List Bool × Bool :=
  if (hunt c []).1 ≤ fuel then (fuel - (hunt c []).1, (hunt c []).2.1, (hunt c []).2.2.1, (hunt c []).2.2.2) else (-1, [], [], false)
/-- What is true of all marks, as clauses of one mark each. -/
def pins (vals : List Bool) : List (List Int) := (List.range vals.length).map fun (i : Nat) => [if vals.getD i false = true then (i : Int) + 1 else -((i : Int) + 1)]
abbrev Rgt (c : Cnf) (ds : List Int) : Prop := rightS c.1 [] ds = true
def WalkI (c : Cnf) (ds : List Int) (most : Int) (i : Nat) (n : Int) : Prop :=
  (i = 0 ∧ n = 1) ∨ (i = 1 ∧ ((n = accC c ds 1 ∧ accC c ds 1 ≤ most ∧ (one c ds).2.2.2 = false) ∨ (n = most ∧ accC c ds 1 > most))) ∨
  (i = 2 ∧ (one c ds).2.2.2 = false ∧ ((n = accC c ds 2 ∧ accC c ds 2 ≤ most ∧ (two c ds).2.2.2 = false) ∨ (n = most ∧ accC c ds 2 > most)))
def HuntI (c : Cnf) (ds : List Int) (fuel : Int) (log : List (List Int)) (i : Nat) (f : Int) (l : List (List Int)) : Prop :=
  i ≤ 2 ∧ accC c ds i ≤ fuel ∧ f = fuel - accC c ds i ∧ l = log ++ accL c ds i ∧ (0 < i → (one c ds).2.2.2 = false) ∧ (1 < i → (two c ds).2.2.2 = false)
/-- What a search of so much fuel leaves: fuel, log, whether it was not enough, what is found. -/
abbrev HY := Int × List (List Int) × Bool × List Bool × Bool
def HuntP (c : Cnf) (ds : List Int) (fuel : Int) (log : List (List Int)) (y : HY) : Prop :=
  ((hunt c ds).1 ≤ fuel → y = (fuel - (hunt c ds).1, log ++ (hunt c ds).2.1, false, (hunt c ds).2.2.1, (hunt c ds).2.2.2)) ∧
  (fuel < (hunt c ds).1 → y.2.2.1 = true ∧ y.2.2.2.1 = [] ∧ y.2.2.2.2 = false)
end Pl
namespace Cg
open Go
abbrev HOk (c : Pl.Cnf) (ds : List Int) : Prop := Pl.cnfOk c = true ∧ SzC c ∧ Pl.Rgt c ds
def lh (f : Int) (l : List (List Int)) : AV := .agg [i64 f, intss l]
def K_l11Free : Nat × Contract := (Nm.spec_l11Free, .sc (Pl.Cnf × List Int) (fun x => [cnf x.1, ints x.2]) (fun x => Pl.cnfOk x.1 = true ∧ Sz x.2) fun x => i64 (Pl.freeL x.2 (Pl.marks x.1.1)))
def K_l11Vals : Nat × Contract := (Nm.spec_l11Vals, .im (Pl.Cnf × List Int) (fun x => [cnf x.1, ints x.2]) (fun x => Pl.cnfOk x.1 = true ∧ Sz x.2) fun x => bools (Pl.valsL x.2 (Pl.marks x.1.1)))
def K_l11Note : Nat × Contract := (Nm.spec_l11Note, .imf (Int × List (List Int) × List Int) (fun x => [lh x.1 x.2.1, ints x.2.2]) (fun x => x.2.1.length ≤ 1000 ∧ x.2.2.length ≤ 1000) fun x => lh x.1 (x.2.1 ++ [Pl.note x.2.2]))
abbrev FX := Pl.Cnf × Int × List (List Int) × List Int
abbrev FOk (x : FX) : Prop := HOk x.1 x.2.2.2 ∧ (Pl.hunt x.1 x.2.2.2).1 ≤ x.2.1 ∧ x.2.1 ≤ 130 ∧ x.2.2.1.length + x.2.1 ≤ 1000
def K_l11Find (n : Nat) : Nat × Contract := (Nm.spec_l11Find, .imf FX (fun x => [cnf x.1, lh x.2.1 x.2.2.1, ints x.2.2.2]) (fun x => FOk x ∧ 61 - x.2.2.2.length < n)
  fun x => .tup [lh (x.2.1 - (Pl.hunt x.1 x.2.2.2).1) (x.2.2.1 ++ (Pl.hunt x.1 x.2.2.2).2.1), bools (Pl.hunt x.1 x.2.2.2).2.2.1, bl (Pl.hunt x.1 x.2.2.2).2.2.2])
def K_l11FindA : Nat × Contract := (Nm.spec_l11Find, .imf FX (fun x => [cnf x.1, lh x.2.1 x.2.2.1, ints x.2.2.2]) FOk
  fun x => .tup [lh (x.2.1 - (Pl.hunt x.1 x.2.2.2).1) (x.2.2.1 ++ (Pl.hunt x.1 x.2.2.2).2.1), bools (Pl.hunt x.1 x.2.2.2).2.2.1, bl (Pl.hunt x.1 x.2.2.2).2.2.2])
abbrev WX := Pl.Cnf × Int × List Int
abbrev WOk (x : WX) : Prop := HOk x.1 x.2.2 ∧ 1 ≤ x.2.1 ∧ x.2.1 ≤ 131
def K_l11Walk (n : Nat) : Nat × Contract := (Nm.spec_l11Walk, .sc WX (fun x => [cnf x.1, i64 x.2.1, ints x.2.2]) (fun x => WOk x ∧ 61 - x.2.2.length < n) fun x => .tup [i64 (Pl.walk x.1 x.2.1 x.2.2).1, bl (Pl.walk x.1 x.2.1 x.2.2).2])
def K_l11WalkA : Nat × Contract := (Nm.spec_l11Walk, .sc WX (fun x => [cnf x.1, i64 x.2.1, ints x.2.2]) WOk fun x => .tup [i64 (Pl.walk x.1 x.2.1 x.2.2).1, bl (Pl.walk x.1 x.2.1 x.2.2).2])
def K_l11Cost : Nat × Contract := (Nm.spec_l11Cost, .sc (Pl.Cnf × Int) (fun x => [cnf x.1, i64 x.2, ints []]) (fun x => Pl.cnfOk x.1 = true ∧ SzC x.1 ∧ 0 ≤ x.2 ∧ x.2 ≤ 130) fun x => i64 (Pl.costOf x.1 x.2))
def K_l11Search : Nat × Contract := (Nm.spec_l11Search, .im (Pl.Cnf × Int) (fun x => [cnf x.1, i64 x.2]) (fun x => Pl.cnfOk x.1 = true ∧ SzC x.1 ∧ 0 ≤ x.2 ∧ x.2 ≤ 130) fun x => .tup [lh (Pl.search x.1 x.2).1 (Pl.search x.1 x.2).2.1, bools (Pl.search x.1 x.2).2.2.1, bl (Pl.search x.1 x.2).2.2.2])
def K_sHuntRun : Nat × Contract := (Nm.spec_HuntRun, .im (Pl.Cnf × Int) (fun x => [cnf x.1, i64 x.2]) (fun x => SzC x.1) fun x => .tup [bools (Pl.huntRun x.1 x.2).1, intss (Pl.huntRun x.1 x.2).2.1, bl (Pl.huntRun x.1 x.2).2.2])
abbrev hcY := Pl.HY
def hunO (c : Pl.Cnf) (f : Int) (log : AV) (out : Bool) : AObj := .var [i64 c.1, intss c.2, i64 f, log, bl out]
abbrev COk (x : FX) : Prop := HOk x.1 x.2.2.2 ∧ 0 ≤ x.2.1 ∧ x.2.1 ≤ 130 ∧ x.2.2.1.length + x.2.1 ≤ 1000
def K_hcall (n : Nat) : Nat × Contract := (Nm.impl_hunt_call, .efz FX (fun x => ⟨[.ptr 0 0, ints x.2.2.2], [hunO x.1 x.2.1 (.osl 1 0 x.2.2.1.length) false, arII x.2.2.1]⟩) (fun x => COk x ∧ 61 - x.2.2.2.length < n) Pl.HY (fun x y => Pl.HuntP x.1 x.2.2.2 x.2.1 x.2.2.1 y)
  fun x y => (.tup [bools y.2.2.2.1, bl y.2.2.2.2], [hunO x.1 y.1 (.osl 2 0 y.2.1.length) y.2.2.1, .dead, arII y.2.1]))
def K_hcallA : Nat × Contract := (Nm.impl_hunt_call, .efz FX (fun x => ⟨[.ptr 0 0, ints x.2.2.2], [hunO x.1 x.2.1 (.osl 1 0 x.2.2.1.length) false, arII x.2.2.1]⟩) COk Pl.HY (fun x y => Pl.HuntP x.1 x.2.2.2 x.2.1 x.2.2.1 y)
  fun x y => (.tup [bools y.2.2.2.1, bl y.2.2.2.2], [hunO x.1 y.1 (.osl 2 0 y.2.1.length) y.2.2.1, .dead, arII y.2.1]))
def K_iHuntRun : Nat × Contract := (Nm.impl_HuntRun, .im (Pl.Cnf × Int) (fun x => [cnf x.1, i64 x.2]) (fun x => SzC x.1) fun x => .tup [bools (Pl.huntRun x.1 x.2).1, intss (Pl.huntRun x.1 x.2).2.1, bl (Pl.huntRun x.1 x.2).2.2])
def K_iHuntRunF : Nat × Contract := (Nm.impl_HuntRun, .imf (Pl.Cnf × Int) (fun x => [cnf x.1, i64 x.2]) (fun x => SzC x.1) fun x => .tup [bools (Pl.huntRun x.1 x.2).1, intss (Pl.huntRun x.1 x.2).2.1, bl (Pl.huntRun x.1 x.2).2.2])
def A_l11Free (c : Pl.Cnf) (put : List Int) : List Ann :=
  [.mk Nat (fun x => (x : Int) ≤ c.1 ∧ Pl.freeL put (Pl.marks c.1) = Pl.freeL put ((Pl.marks c.1).drop x)) (fun x => { fr := pad [.any, ints put, .ptr 0 0, .any, .any, i64 (x + 1)] 17, H := [.var [i64 c.1, intss c.2]] }) (fun x => (c.1 - x).toNat) (fun _ => [])]
def A_l11Vals (c : Pl.Cnf) (put : List Int) : List Ann :=
  [.mk (Nat × List Bool) (fun x => (x.1 : Int) ≤ c.1 ∧ x.2.length = x.1 ∧ Pl.valsL put (Pl.marks c.1) = x.2 ++ Pl.valsL put ((Pl.marks c.1).drop x.1)) (fun x => { fr := pad [.any, ints put, .ptr 0 0, .any, .any, .osl 1 0 x.2.length, i64 (x.1 + 1)] 22, H := [.var [i64 c.1, intss c.2], arB x.2] }) (fun x => (c.1 - x.1).toNat) (fun _ => [])]
def A_l11Find (c : Pl.Cnf) (fuel : Int) (log : List (List Int)) (ds : List Int) : List Ann :=
  [.mk (Nat × Int × List (List Int)) (fun x => Pl.HuntI c ds fuel log x.1 x.2.1 x.2.2) (fun x => { fr := pad [.any, .any, ints ds, .ptr 0 0, .ptr 1 0, .any, .ptr 2 0, .any, .any, .any, .any, i64 (Pl.next c ds), i64 x.1] 79, H := [.var [i64 c.1, intss c.2], .var [i64 x.2.1, intss x.2.2], .var [i64 0, nilA]] }) (fun x => 2 - x.1) (fun _ => [])]
def A_l11Walk (c : Pl.Cnf) (most : Int) (ds : List Int) : List Ann :=
  [.mk (Nat × Int) (fun x => Pl.WalkI c ds most x.1 x.2) (fun x => { fr := pad [.any, i64 most, ints ds, .ptr 0 0, .any, .any, .any, .any, .any, .any, i64 (Pl.next c ds), i64 x.2, i64 x.1] 72, H := [.var [i64 c.1, intss c.2]] }) (fun x => 2 - x.1) (fun _ => [])]
def A_hcall (c : Pl.Cnf) (fuel : Int) (log : List (List Int)) (ds : List Int) : List Ann :=
  [.mk (Nat × Int × List Bool) (fun x => (x.1 : Int) ≤ c.1 ∧ x.2.1 = Pl.freeL (Pl.unitsS c.2 ds).1 ((Pl.marks c.1).drop x.1) ∧ x.2.2 = List.replicate x.1 false ++ Pl.valsL (Pl.unitsS c.2 ds).1 ((Pl.marks c.1).drop x.1))
    (fun x => { fr := pad [.ptr 0 0, ints ds, .any, .any, .any, .any, ints (Pl.unitsS c.2 ds).1, .any, i64 x.2.1, .osl 2 0 x.2.2.length, i64 x.1] 122, H := [hunO c (fuel - 1) (.osl 1 0 log.length) false, arII log, arB x.2.2] }) (fun x => x.1) (fun _ => []),
   .mk (Nat × Int × List (List Int)) (fun x => Pl.HuntI c ds fuel log x.1 x.2.1 x.2.2)
    (fun x => { fr := (pad [.ptr 0 0, ints ds] 80) ++ pad [ints [-Pl.next c ds, Pl.next c ds], i64 2, i64 x.1] 42, H := [hunO c x.2.1 (.osl 2 0 x.2.2.length) false, .dead, arII x.2.2] }) (fun x => 2 - x.1) (fun _ => [])]
def A_wpBools (l m : List Bool) : List Ann :=
  [.mk Nat (fun x => x ≤ l.length ∧ l.length = m.length ∧ (l = m ↔ l.drop x = m.drop x)) (fun x => { fr := pad [bools l, bools m, .any, .any, .any, i64 x] 26, H := [] }) (fun x => l.length - x) (fun _ => [])]
def A_wpLog (l m : List (List Int)) : List Ann :=
  [.mk Nat (fun x => x ≤ l.length ∧ l.length = m.length ∧ (l = m ↔ l.drop x = m.drop x)) (fun x => { fr := pad [intss l, intss m, .any, .any, .any, i64 x] 27, H := [] }) (fun x => l.length - x) (fun _ => [])]
def A_yHuntOnly : List Ann :=
  [.mk (Pl.Cnf × List Bool × Nat) (fun x => Sm x.1 ∧ Pl.cnfIs x.1 x.2.1 = true ∧ x.2.1.length ≤ 60 ∧ x.2.2 ≤ x.2.1.length)
    (fun x => { fr := pad [.any, .any, .any, .ptr 0 0, .any, bools x.2.1, .any, .any, .any, .any, .any, .ptr 1 0, i64 x.2.2] 95, H := [.var [i64 x.1.1, intss x.1.2], .var [i64 x.1.1, .osl 2 0 (x.1.2 ++ (Pl.pins x.2.1).take x.2.2).length], arII (x.1.2 ++ (Pl.pins x.2.1).take x.2.2)] }) (fun x => x.2.1.length - x.2.2) (fun _ => [])]
end Cg

/-
  What is known of the codes' callees: the law that searches are exact, what it hands over and what it gets marked. No condition.
-/
set_option linter.unusedVariables false
namespace Cg
open Go Pl
def K_negatedO : Nat × Contract := (Nm.impl_negated, .eff (List Int) (fun l => ⟨[ints l], []⟩) SzH Unit (fun _ _ => True) fun l _ => (.osl 0 0 (Pl.nots l).length, [arI (Pl.nots l)]))
def K_hcallO (n : Nat) : Nat × Contract := (Nm.impl_hunt_call, .efz FX (fun x => ⟨[.ptr 0 0, ints x.2.2.2], [hunO x.1 x.2.1 (.osl 1 0 x.2.2.1.length) false, xrII x.2.2.1]⟩) (fun x => COk x ∧ 61 - x.2.2.2.length < n) Pl.HY (fun x y => Pl.HuntP x.1 x.2.2.2 x.2.1 x.2.2.1 y)
  fun x y => (.tup [.osl 3 0 y.2.2.2.1.length, bl y.2.2.2.2], [hunO x.1 y.1 (.osl 2 0 y.2.1.length) y.2.2.1, .dead, xrII y.2.1, arB y.2.2.2.1]))
def K_hcallOA : Nat × Contract := (Nm.impl_hunt_call, .efz FX (fun x => ⟨[.ptr 0 0, ints x.2.2.2], [hunO x.1 x.2.1 (.osl 1 0 x.2.2.1.length) false, xrII x.2.2.1]⟩) COk Pl.HY (fun x y => Pl.HuntP x.1 x.2.2.2 x.2.1 x.2.2.1 y)
  fun x y => (.tup [.osl 3 0 y.2.2.2.1.length, bl y.2.2.2.2], [hunO x.1 y.1 (.osl 2 0 y.2.1.length) y.2.2.1, .dead, xrII y.2.1, arB y.2.2.2.1]))
abbrev HrX := Pl.Cnf × Int
def K_iHuntRunO : Nat × Contract := (Nm.impl_HuntRun, .eff HrX (fun x => ⟨[cnf x.1, i64 x.2], []⟩) (fun x => SzC x.1) Unit (fun _ _ => True) fun x _ => (.tup [.osl 0 0 (Pl.huntRun x.1 x.2).1.length, .osl 1 0 (Pl.huntRun x.1 x.2).2.1.length, bl (Pl.huntRun x.1 x.2).2.2], [arB (Pl.huntRun x.1 x.2).1, xrII (Pl.huntRun x.1 x.2).2.1]))
def K_iHuntRunL : Nat × Contract := (Nm.impl_HuntRun, .eff HrX (fun x => ⟨[.agg [i64 x.1.1, .osl 0 0 x.1.2.length], i64 x.2], [xrII x.1.2]⟩) (fun x => SzC x.1) Unit (fun _ _ => True) fun x _ => (.tup [.osl 1 0 (Pl.huntRun x.1 x.2).1.length, .osl 2 0 (Pl.huntRun x.1 x.2).2.1.length, bl (Pl.huntRun x.1 x.2).2.2], [xrII x.1.2, arB (Pl.huntRun x.1 x.2).1, xrII (Pl.huntRun x.1 x.2).2.1]))
def K_sHuntRunG : Nat × Contract := (Nm.spec_HuntRun, .eff HrX (fun x => ⟨[.agg [i64 x.1.1, .osl 0 0 x.1.2.length], i64 x.2], [xrII x.1.2]⟩) (fun x => SzC x.1) Unit (fun _ _ => True) fun x _ => (.tup [bools (Pl.huntRun x.1 x.2).1, intss (Pl.huntRun x.1 x.2).2.1, bl (Pl.huntRun x.1 x.2).2.2], [.dead]))
def K_xHuntRun : Nat × Contract := (Nm.laws_FnExactHuntRun, .sc HrX (fun x => [cnf x.1, i64 x.2]) (fun x => MlL x.1.2) fun _ => bl true)
def A_hcallO (c : Pl.Cnf) (fuel : Int) (log : List (List Int)) (ds : List Int) : List Ann :=
  [.mk (Nat × Int × List Bool) (fun x => (x.1 : Int) ≤ c.1 ∧ x.2.1 = Pl.freeL (Pl.unitsS c.2 ds).1 ((Pl.marks c.1).drop x.1) ∧ x.2.2 = List.replicate x.1 false ++ Pl.valsL (Pl.unitsS c.2 ds).1 ((Pl.marks c.1).drop x.1))
    (fun x => { fr := pad [.ptr 0 0, ints ds, .any, .any, .any, .any, ints (Pl.unitsS c.2 ds).1, .any, i64 x.2.1, .osl 2 0 x.2.2.length, i64 x.1] 122, H := [hunO c (fuel - 1) (.osl 1 0 log.length) false, xrII log, arB x.2.2] }) (fun x => x.1) (fun _ => []),
   .mk (Nat × Int × List (List Int)) (fun x => Pl.HuntI c ds fuel log x.1 x.2.1 x.2.2)
    (fun x => { fr := (pad [.ptr 0 0, ints ds] 80) ++ pad [ints [-Pl.next c ds, Pl.next c ds], i64 2, i64 x.1] 42, H := [hunO c x.2.1 (.osl 2 0 x.2.2.length) false, .dead, xrII x.2.2] }) (fun x => 2 - x.1) (fun _ => [])]
end Cg

/-
  What is left to show of each function's code, printed by a program: Xhr. No condition.
-/
set_option maxRecDepth 100000
set_option linter.unusedVariables false
namespace Cg
open Go Go.Proofs
theorem vc_negatedO (l : List Int) : ((∃ x : Nat × List Int,
 (x.1 ≤ l.length ∧ x.2.length = x.1 ∧ Pl.nots l = x.2 ++ Pl.nots (List.drop x.1 l)) ∧ (Is (ints l) (ints l) ∧ ((0 : Nat) = (0 : Nat) ∧ (0 : Nat) = (0 : Nat) ∧ x.2.length = (0 : Nat)) ∧ Is (ints l) (ints l) ∧ (↑l.length : Int) = (↑l.length : Int) ∧ (0 : Int) = (↑x.1 : Int) ∧ True) ∧ x.2.length = (0 : Nat) ∧ True) ∧ ∀ (x : Nat × List Int),
 x.1 ≤ l.length ∧ x.2.length = x.1 ∧ Pl.nots l = x.2 ++ Pl.nots (List.drop x.1 l) →
 condP (decide ((↑x.1 : Int) < (↑l.length : Int)))
 (((0 : Int) ≤ (↑x.1 : Int) ∧ (↑x.1 : Int) < (↑l.length : Int)) ∧ x.1 < l.length ∧ (0 : Nat) + x.2.length ≤ x.2.length ∧ (x.2.length + (1 : Nat)) * (8 : Nat) ≤ (70368744177664 : Nat) ∧ Exists fun (x' : Nat × List Int) =>
 (x'.1 ≤ l.length ∧ x'.2.length = x'.1 ∧ Pl.nots l = x'.2 ++ Pl.nots (List.drop x'.1 l)) ∧ l.length - x'.1 < l.length - x.1 ∧ (Is (ints l) (ints l) ∧ ((0 : Nat) = (0 : Nat) ∧ x.2.length + (1 : Nat) = x'.2.length) ∧ Is (ints l) (ints l) ∧ (↑l.length : Int) = (↑l.length : Int) ∧ IntKind.i64.wrap ((↑x.1 : Int) + (1 : Int)) = (↑x'.1 : Int) ∧ True) ∧ IsO
 (AObj.arr (x.2.length + (1 : Nat)) (1 : Nat) (joinC x.2.length (cI x.2) (rowsCell [[i64 (IntKind.i64.wrap ((0 : Int) - l.getD x.1 (0 : Int)))]])))
 (arI x'.2) ∧ True)
 (∃ y : Unit, True ∧ (((0 : Nat) = (0 : Nat) ∧ x.2.length = (Pl.nots l).length) ∧ True) ∧ IsO (arI x.2) (arI (Pl.nots l)) ∧ True)) = Goal Try.prog [] (A_negated l) K_negatedO.1 K_negatedO.2 (l) := by kernel_rfl

theorem vc_hcallO (n : Nat) (x : FX) : (condP (x.2.1 == (0 : Int))
 (∃ y : Pl.HY,
 Pl.HuntP x.1 x.2.2.2 x.2.1 x.2.2.1 y ∧ ((((0 : Nat) = (0 : Nat) ∧ (0 : Nat) = (0 : Nat) ∧ y.2.2.2.1.length = (0 : Nat)) ∧ false = y.2.2.2.2 ∧ True) ∧ True) ∧ (x.1.1 = x.1.1 ∧ Is (intss x.1.2) (intss x.1.2) ∧ x.2.1 = y.1 ∧ ((0 : Nat) = (0 : Nat) ∧ x.2.2.1.length = y.2.1.length) ∧ true = y.2.2.1 ∧ True) ∧ True ∧ IsO (xrII x.2.2.1) (xrII y.2.1) ∧ y.2.2.2.1.length = (0 : Nat) ∧ True)
 (Exists fun (x_1 : List (List Int) × List Int) =>
 (Is (intss x.1.2) (intss x_1.1) ∧ Is (ints x.2.2.2) (ints x_1.2) ∧ True) ∧ ((∃ m : Int, Pl.cnfOk (m, x_1.1) = true) ∧ SzL x_1.1 ∧ SzH x_1.2) ∧ condP (!(Pl.unitsI x_1.1 x_1.2).2)
 ((0 : Int) ≤ x.1.1 ∧ x.1.1 ≤ x.1.1 ∧ (↑(1 : Nat) : Int) * x.1.1 ≤ (140737488355328 : Int) ∧ x.1.1 ≤ (140737488355328 : Int) ∧ (∃ x_2 : Nat × Int × List Bool,
 ((↑x_2.1 : Int) ≤ x.1.1 ∧ x_2.2.1 = Pl.freeL (Pl.unitsS x.1.2 x.2.2.2).1 (List.drop x_2.1 (Pl.marks x.1.1)) ∧ x_2.2.2 = List.replicate x_2.1 false ++ Pl.valsL (Pl.unitsS x.1.2 x.2.2.2).1 (List.drop x_2.1 (Pl.marks x.1.1))) ∧ ((0 : Nat) = (0 : Nat) ∧ Is (ints x.2.2.2) (ints x.2.2.2) ∧ Is (ints (Pl.unitsI x_1.1 x_1.2).1) (ints (Pl.unitsS x.1.2 x.2.2.2).1) ∧ (0 : Int) = x_2.2.1 ∧ ((0 : Nat) = (0 : Nat) ∧ x.1.1.toNat = x_2.2.2.length) ∧ x.1.1 = (↑x_2.1 : Int) ∧ True) ∧ (x.1.1 = x.1.1 ∧ Is (intss x.1.2) (intss x.1.2) ∧ IntKind.i64.wrap (x.2.1 - (1 : Int)) = x.2.1 - (1 : Int) ∧ ((0 : Nat) = (0 : Nat) ∧ x.2.2.1.length = x.2.2.1.length) ∧ false = false ∧ True) ∧ IsO (xrII x.2.2.1) (xrII x.2.2.1) ∧ IsO (AObj.arr x.1.1.toNat (1 : Nat) fun (x j : Nat) => [bl false].getD j AV.any) (arB x_2.2.2) ∧ True) ∧ ∀ (x_2 : Nat × Int × List Bool),
 (↑x_2.1 : Int) ≤ x.1.1 ∧ x_2.2.1 = Pl.freeL (Pl.unitsS x.1.2 x.2.2.2).1 (List.drop x_2.1 (Pl.marks x.1.1)) ∧ x_2.2.2 = List.replicate x_2.1 false ++ Pl.valsL (Pl.unitsS x.1.2 x.2.2.2).1 (List.drop x_2.1 (Pl.marks x.1.1)) →
 condP (decide ((↑x_2.1 : Int) > (0 : Int)))
 (∃ x_3 : List Int × Int,
 (Is (ints (Pl.unitsS x.1.2 x.2.2.2).1) (ints x_3.1) ∧ (↑x_2.1 : Int) = x_3.2 ∧ True) ∧ Sz x_3.1 ∧ condP (x_3.1.contains x_3.2)
 (((0 : Int) ≤ IntKind.i64.wrap ((↑x_2.1 : Int) - (1 : Int)) ∧ IntKind.i64.wrap ((↑x_2.1 : Int) - (1 : Int)) < (↑x_2.2.2.length : Int)) ∧ (IntKind.i64.wrap ((↑x_2.1 : Int) - (1 : Int))).toNat < x_2.2.2.length ∧ Exists fun (x' : Nat × Int × List Bool) =>
 ((↑x'.1 : Int) ≤ x.1.1 ∧ x'.2.1 = Pl.freeL (Pl.unitsS x.1.2 x.2.2.2).1 (List.drop x'.1 (Pl.marks x.1.1)) ∧ x'.2.2 = List.replicate x'.1 false ++ Pl.valsL (Pl.unitsS x.1.2 x.2.2.2).1 (List.drop x'.1 (Pl.marks x.1.1))) ∧ x'.1 < x_2.1 ∧ ((0 : Nat) = (0 : Nat) ∧ Is (ints x.2.2.2) (ints x.2.2.2) ∧ Is (ints (Pl.unitsS x.1.2 x.2.2.2).1) (ints (Pl.unitsS x.1.2 x.2.2.2).1) ∧ x_2.2.1 = x'.2.1 ∧ ((0 : Nat) = (0 : Nat) ∧ x_2.2.2.length = x'.2.2.length) ∧ IntKind.i64.wrap ((↑x_2.1 : Int) - (1 : Int)) = (↑x'.1 : Int) ∧ True) ∧ (x.1.1 = x.1.1 ∧ Is (intss x.1.2) (intss x.1.2) ∧ x.2.1 - (1 : Int) = x.2.1 - (1 : Int) ∧ ((0 : Nat) = (0 : Nat) ∧ x.2.2.1.length = x.2.2.1.length) ∧ false = false ∧ True) ∧ IsO (xrII x.2.2.1) (xrII x.2.2.1) ∧ IsO
 (AObj.arr x_2.2.2.length (1 : Nat)
 (storeC (cB x_2.2.2) (IntKind.i64.wrap ((↑x_2.1 : Int) - (1 : Int))).toNat (0 : Nat) [bl true]))
 (arB x'.2.2) ∧ True)
 (∃ x_4 : List Int × Int,
 (Is (ints (Pl.unitsS x.1.2 x.2.2.2).1) (ints x_4.1) ∧ IntKind.i64.wrap ((0 : Int) - (↑x_2.1 : Int)) = x_4.2 ∧ True) ∧ Sz x_4.1 ∧ condP (!x_4.1.contains x_4.2)
 (Exists fun (x' : Nat × Int × List Bool) =>
 ((↑x'.1 : Int) ≤ x.1.1 ∧ x'.2.1 = Pl.freeL (Pl.unitsS x.1.2 x.2.2.2).1 (List.drop x'.1 (Pl.marks x.1.1)) ∧ x'.2.2 = List.replicate x'.1 false ++ Pl.valsL (Pl.unitsS x.1.2 x.2.2.2).1 (List.drop x'.1 (Pl.marks x.1.1))) ∧ x'.1 < x_2.1 ∧ ((0 : Nat) = (0 : Nat) ∧ Is (ints x.2.2.2) (ints x.2.2.2) ∧ Is (ints (Pl.unitsS x.1.2 x.2.2.2).1) (ints (Pl.unitsS x.1.2 x.2.2.2).1) ∧ (↑x_2.1 : Int) = x'.2.1 ∧ ((0 : Nat) = (0 : Nat) ∧ x_2.2.2.length = x'.2.2.length) ∧ IntKind.i64.wrap ((↑x_2.1 : Int) - (1 : Int)) = (↑x'.1 : Int) ∧ True) ∧ (x.1.1 = x.1.1 ∧ Is (intss x.1.2) (intss x.1.2) ∧ x.2.1 - (1 : Int) = x.2.1 - (1 : Int) ∧ ((0 : Nat) = (0 : Nat) ∧ x.2.2.1.length = x.2.2.1.length) ∧ false = false ∧ True) ∧ IsO (xrII x.2.2.1) (xrII x.2.2.1) ∧ IsO (arB x_2.2.2) (arB x'.2.2) ∧ True)
 (Exists fun (x' : Nat × Int × List Bool) =>
 ((↑x'.1 : Int) ≤ x.1.1 ∧ x'.2.1 = Pl.freeL (Pl.unitsS x.1.2 x.2.2.2).1 (List.drop x'.1 (Pl.marks x.1.1)) ∧ x'.2.2 = List.replicate x'.1 false ++ Pl.valsL (Pl.unitsS x.1.2 x.2.2.2).1 (List.drop x'.1 (Pl.marks x.1.1))) ∧ x'.1 < x_2.1 ∧ ((0 : Nat) = (0 : Nat) ∧ Is (ints x.2.2.2) (ints x.2.2.2) ∧ Is (ints (Pl.unitsS x.1.2 x.2.2.2).1) (ints (Pl.unitsS x.1.2 x.2.2.2).1) ∧ x_2.2.1 = x'.2.1 ∧ ((0 : Nat) = (0 : Nat) ∧ x_2.2.2.length = x'.2.2.length) ∧ IntKind.i64.wrap ((↑x_2.1 : Int) - (1 : Int)) = (↑x'.1 : Int) ∧ True) ∧ (x.1.1 = x.1.1 ∧ Is (intss x.1.2) (intss x.1.2) ∧ x.2.1 - (1 : Int) = x.2.1 - (1 : Int) ∧ ((0 : Nat) = (0 : Nat) ∧ x.2.2.1.length = x.2.2.1.length) ∧ false = false ∧ True) ∧ IsO (xrII x.2.2.1) (xrII x.2.2.1) ∧ IsO (arB x_2.2.2) (arB x'.2.2) ∧ True)))
 (condP (x_2.2.1 == (0 : Int))
 (∃ y : Pl.HY,
 Pl.HuntP x.1 x.2.2.2 x.2.1 x.2.2.1 y ∧ ((((0 : Nat) = (0 : Nat) ∧ x_2.2.2.length = y.2.2.2.1.length) ∧ true = y.2.2.2.2 ∧ True) ∧ True) ∧ (x.1.1 = x.1.1 ∧ Is (intss x.1.2) (intss x.1.2) ∧ x.2.1 - (1 : Int) = y.1 ∧ ((0 : Nat) = (0 : Nat) ∧ x.2.2.1.length = y.2.1.length) ∧ false = y.2.2.1 ∧ True) ∧ True ∧ IsO (xrII x.2.2.1) (xrII y.2.1) ∧ IsO (arB x_2.2.2) (arB y.2.2.2.1) ∧ True)
 ((Exists fun (x_3 : Nat × Int × List (List Int)) =>
 Pl.HuntI x.1 x.2.2.2 x.2.1 x.2.2.1 x_3.1 x_3.2.1 x_3.2.2 ∧ ((0 : Nat) = (0 : Nat) ∧ Is (ints x.2.2.2) (ints x.2.2.2) ∧ Is (AV.lit (2 : Nat) (1 : Nat) (rowsCell [[i64 (IntKind.i64.wrap ((0 : Int) - x_2.2.1))], [i64 x_2.2.1]]))
 (ints [-Pl.next x.1 x.2.2.2, Pl.next x.1 x.2.2.2]) ∧ (↑(2 : Nat) : Int) = (2 : Int) ∧ (0 : Int) = (↑x_3.1 : Int) ∧ True) ∧ (x.1.1 = x.1.1 ∧ Is (intss x.1.2) (intss x.1.2) ∧ x.2.1 - (1 : Int) = x_3.2.1 ∧ ((0 : Nat) = (0 : Nat) ∧ x.2.2.1.length = x_3.2.2.length) ∧ false = false ∧ True) ∧ True ∧ IsO (xrII x.2.2.1) (xrII x_3.2.2) ∧ True) ∧ ∀ (x_3 : Nat × Int × List (List Int)),
 Pl.HuntI x.1 x.2.2.2 x.2.1 x.2.2.1 x_3.1 x_3.2.1 x_3.2.2 →
 condP (decide ((↑x_3.1 : Int) < (2 : Int)))
 (((0 : Int) ≤ (↑x_3.1 : Int) ∧ (↑x_3.1 : Int) < (↑((2 : Nat)) : Int)) ∧ x_3.1 < (2 : Nat) ∧ ∃ x_4 : List Int,
 SzH x_4 ∧ ((Is (ints x.2.2.2) (ints x_4) ∧ True) ∧ True) ∧ ∀ (y : Unit),
 True →
 (0 : Nat) + x_4.length ≤ x_4.length ∧ (x_4.length + (1 : Nat)) * (8 : Nat) ≤ (70368744177664 : Nat) ∧ (0 : Nat) + (x_4.length + (1 : Nat)) ≤ x_4.length + (1 : Nat) ∧ ∃ x_5 : FX,
 (((Pl.cnfOk x_5.1 = true ∧ SzC x_5.1 ∧ Pl.Rgt x_5.1 x_5.2.2.2) ∧ (0 : Int) ≤ x_5.2.1 ∧ x_5.2.1 ≤ (130 : Int) ∧ (↑x_5.2.2.1.length : Int) + x_5.2.1 ≤ (1000 : Int)) ∧ (61 : Nat) - x_5.2.2.2.length < n) ∧ (((0 : Nat) = (0 : Nat) ∧ Is
 (AV.sl (x_4.length + (1 : Nat)) (1 : Nat) fun (i j : Nat) =>
 joinC x_4.length (cI x_4)
 (rowsCell [[i64 ([-Pl.next x.1 x.2.2.2, Pl.next x.1 x.2.2.2].getD x_3.1 (0 : Int))]]) i j)
 (ints x_5.2.2.2) ∧ True) ∧ (x.1.1 = x_5.1.1 ∧ Is (intss x.1.2) (intss x_5.1.2) ∧ x_3.2.1 = x_5.2.1 ∧ ((0 : Nat) = (0 : Nat) ∧ x_3.2.2.length = x_5.2.2.1.length) ∧ false = false ∧ True) ∧ IsO (xrII x_3.2.2) (xrII x_5.2.2.1) ∧ True) ∧ ∀ (y : Pl.HY),
 Pl.HuntP x_5.1 x_5.2.2.2 x_5.2.1 x_5.2.2.1 y →
 condP y.2.2.2.2
 (∃ y_1 : Pl.HY,
 Pl.HuntP x.1 x.2.2.2 x.2.1 x.2.2.1 y_1 ∧ ((((0 : Nat) = (0 : Nat) ∧ y.2.2.2.1.length = y_1.2.2.2.1.length) ∧ y.2.2.2.2 = y_1.2.2.2.2 ∧ True) ∧ True) ∧ (x_5.1.1 = x.1.1 ∧ Is (intss x_5.1.2) (intss x.1.2) ∧ y.1 = y_1.1 ∧ ((0 : Nat) = (0 : Nat) ∧ y.2.1.length = y_1.2.1.length) ∧ y.2.2.1 = y_1.2.2.1 ∧ True) ∧ True ∧ IsO (xrII y.2.1) (xrII y_1.2.1) ∧ IsO (arB y.2.2.2.1) (arB y_1.2.2.2.1) ∧ True)
 (condP y.2.2.1
 (∃ y_1 : Pl.HY,
 Pl.HuntP x.1 x.2.2.2 x.2.1 x.2.2.1 y_1 ∧ ((((0 : Nat) = (0 : Nat) ∧ y.2.2.2.1.length = y_1.2.2.2.1.length) ∧ y.2.2.2.2 = y_1.2.2.2.2 ∧ True) ∧ True) ∧ (x_5.1.1 = x.1.1 ∧ Is (intss x_5.1.2) (intss x.1.2) ∧ y.1 = y_1.1 ∧ ((0 : Nat) = (0 : Nat) ∧ y.2.1.length = y_1.2.1.length) ∧ y.2.2.1 = y_1.2.2.1 ∧ True) ∧ True ∧ IsO (xrII y.2.1) (xrII y_1.2.1) ∧ IsO (arB y.2.2.2.1) (arB y_1.2.2.2.1) ∧ True)
 (Exists fun (x' : Nat × Int × List (List Int)) =>
 Pl.HuntI x.1 x.2.2.2 x.2.1 x.2.2.1 x'.1 x'.2.1 x'.2.2 ∧ (2 : Nat) - x'.1 < (2 : Nat) - x_3.1 ∧ ((0 : Nat) = (0 : Nat) ∧ Is (ints x.2.2.2) (ints x.2.2.2) ∧ Is (AV.sl ((2 : Nat)) (1 : Nat) (cI [-Pl.next x.1 x.2.2.2, Pl.next x.1 x.2.2.2]))
 (ints [-Pl.next x.1 x.2.2.2, Pl.next x.1 x.2.2.2]) ∧ (2 : Int) = (2 : Int) ∧ IntKind.i64.wrap ((↑x_3.1 : Int) + (1 : Int)) = (↑x'.1 : Int) ∧ True) ∧ (x_5.1.1 = x.1.1 ∧ Is (intss x_5.1.2) (intss x.1.2) ∧ y.1 = x'.2.1 ∧ ((0 : Nat) = (0 : Nat) ∧ y.2.1.length = x'.2.2.length) ∧ y.2.2.1 = false ∧ True) ∧ True ∧ IsO (xrII y.2.1) (xrII x'.2.2) ∧ True)))
 (∃ x_4 : List Int,
 SzH x_4 ∧ ((Is (ints x.2.2.2) (ints x_4) ∧ True) ∧ True) ∧ ∀ (y : Unit),
 True →
 ∃ x_5 : List Int,
 x_5.length ≤ (1073741824 : Nat) ∧ ((((0 : Nat) = (0 : Nat) ∧ (Pl.nots x_4).length = x_5.length) ∧ True) ∧ IsO (arI (Pl.nots x_4)) (arI x_5) ∧ True) ∧ ∀ (y : List Int),
 True →
 x_3.2.2.length = x_3.2.2.length ∧ (0 : Nat) + (Pl.clauseOf x_5).1.length ≤ ((Pl.clauseOf x_5).1 ++ y).length ∧ (x_3.2.2.length + (1 : Nat)) * (24 : Nat) ≤ (70368744177664 : Nat) ∧ ∃ y_1 : Pl.HY,
 Pl.HuntP x.1 x.2.2.2 x.2.1 x.2.2.1 y_1 ∧ ((((0 : Nat) = (0 : Nat) ∧ (0 : Nat) = (0 : Nat) ∧ y_1.2.2.2.1.length = (0 : Nat)) ∧ false = y_1.2.2.2.2 ∧ True) ∧ True) ∧ (x.1.1 = x.1.1 ∧ Is (intss x.1.2) (intss x.1.2) ∧ x_3.2.1 = y_1.1 ∧ ((0 : Nat) = (0 : Nat) ∧ x_3.2.2.length + (1 : Nat) = y_1.2.1.length) ∧ false = y_1.2.2.1 ∧ True) ∧ True ∧ IsO
 (AObj.xarr (x_3.2.2.length + (1 : Nat)) (1 : Nat)
 (joinC x_3.2.2.length (cII x_3.2.2)
 (rowsCell [[AV.sl (Pl.clauseOf x_5).1.length (1 : Nat) (cI ((Pl.clauseOf x_5).1 ++ y))]])))
 (xrII y_1.2.1) ∧ y_1.2.2.2.1.length = (0 : Nat) ∧ True))))
 (∃ x_2 : List Int,
 SzH x_2 ∧ ((Is (ints x.2.2.2) (ints x_2) ∧ True) ∧ True) ∧ ∀ (y : Unit),
 True →
 ∃ x_3 : List Int,
 x_3.length ≤ (1073741824 : Nat) ∧ ((((0 : Nat) = (0 : Nat) ∧ (Pl.nots x_2).length = x_3.length) ∧ True) ∧ IsO (arI (Pl.nots x_2)) (arI x_3) ∧ True) ∧ ∀ (y : List Int),
 True →
 x.2.2.1.length = x.2.2.1.length ∧ (0 : Nat) + (Pl.clauseOf x_3).1.length ≤ ((Pl.clauseOf x_3).1 ++ y).length ∧ (x.2.2.1.length + (1 : Nat)) * (24 : Nat) ≤ (70368744177664 : Nat) ∧ ∃ y_1 : Pl.HY,
 Pl.HuntP x.1 x.2.2.2 x.2.1 x.2.2.1 y_1 ∧ ((((0 : Nat) = (0 : Nat) ∧ (0 : Nat) = (0 : Nat) ∧ y_1.2.2.2.1.length = (0 : Nat)) ∧ false = y_1.2.2.2.2 ∧ True) ∧ True) ∧ (x.1.1 = x.1.1 ∧ Is (intss x.1.2) (intss x.1.2) ∧ IntKind.i64.wrap (x.2.1 - (1 : Int)) = y_1.1 ∧ ((0 : Nat) = (0 : Nat) ∧ x.2.2.1.length + (1 : Nat) = y_1.2.1.length) ∧ false = y_1.2.2.1 ∧ True) ∧ True ∧ IsO
 (AObj.xarr (x.2.2.1.length + (1 : Nat)) (1 : Nat)
 (joinC x.2.2.1.length (cII x.2.2.1)
 (rowsCell [[AV.sl (Pl.clauseOf x_3).1.length (1 : Nat) (cI ((Pl.clauseOf x_3).1 ++ y))]])))
 (xrII y_1.2.1) ∧ y_1.2.2.2.1.length = (0 : Nat) ∧ True))) = Goal Try.prog [K_units, K_Contains, K_Clone, (K_hcallO n), K_negatedO, K_iClauseOfO] (A_hcallO x.1 x.2.1 x.2.2.1 x.2.2.2) (K_hcallO (n + 1)).1 (K_hcallO (n + 1)).2 (x) := by kernel_rfl

theorem vc_iHuntRunO (c : Pl.Cnf) (f : Int) : (∃ x : Pl.Cnf,
 ((c.1 = x.1 ∧ Is (intss c.2) (intss x.2) ∧ True) ∧ True) ∧ SzC x ∧ condP (!Pl.cnfOk x)
 (∃ y : Unit,
 True ∧ ((((0 : Nat) = (0 : Nat) ∧ (0 : Nat) = (0 : Nat) ∧ (Pl.huntRun c f).1.length = (0 : Nat)) ∧ ((0 : Nat) = (0 : Nat) ∧ (0 : Nat) = (0 : Nat) ∧ (Pl.huntRun c f).2.1.length = (0 : Nat)) ∧ false = (Pl.huntRun c f).2.2 ∧ True) ∧ True) ∧ (Pl.huntRun c f).1.length = (0 : Nat) ∧ (Pl.huntRun c f).2.1.length = (0 : Nat) ∧ True)
 (∃ x : Int × Int × Int,
 (f = x.1 ∧ (0 : Int) = x.2.1 ∧ (130 : Int) = x.2.2 ∧ True) ∧ True ∧ condP (!Pl.withinI x.1 x.2.1 x.2.2)
 (∃ y : Unit,
 True ∧ ((((0 : Nat) = (0 : Nat) ∧ (0 : Nat) = (0 : Nat) ∧ (Pl.huntRun c f).1.length = (0 : Nat)) ∧ ((0 : Nat) = (0 : Nat) ∧ (0 : Nat) = (0 : Nat) ∧ (Pl.huntRun c f).2.1.length = (0 : Nat)) ∧ false = (Pl.huntRun c f).2.2 ∧ True) ∧ True) ∧ (Pl.huntRun c f).1.length = (0 : Nat) ∧ (Pl.huntRun c f).2.1.length = (0 : Nat) ∧ True)
 (∃ x : FX,
 ((Pl.cnfOk x.1 = true ∧ SzC x.1 ∧ Pl.Rgt x.1 x.2.2.2) ∧ (0 : Int) ≤ x.2.1 ∧ x.2.1 ≤ (130 : Int) ∧ (↑x.2.2.1.length : Int) + x.2.1 ≤ (1000 : Int)) ∧ (((0 : Nat) = (0 : Nat) ∧ Is (AV.lit (0 : Nat) (1 : Nat) fun (x x_1 : Nat) => AV.any) (ints x.2.2.2) ∧ True) ∧ (c.1 = x.1.1 ∧ Is (intss c.2) (intss x.1.2) ∧ f = x.2.1 ∧ ((0 : Nat) = (0 : Nat) ∧ (0 : Nat) = (0 : Nat) ∧ x.2.2.1.length = (0 : Nat)) ∧ false = false ∧ True) ∧ x.2.2.1.length = (0 : Nat) ∧ True) ∧ ∀ (y : Pl.HY),
 Pl.HuntP x.1 x.2.2.2 x.2.1 x.2.2.1 y →
 condP y.2.2.2.2
 (∃ y_1 : Unit,
 True ∧ ((((0 : Nat) = (0 : Nat) ∧ y.2.2.2.1.length = (Pl.huntRun c f).1.length) ∧ ((0 : Nat) = (0 : Nat) ∧ (0 : Nat) = (0 : Nat) ∧ (Pl.huntRun c f).2.1.length = (0 : Nat)) ∧ true = (Pl.huntRun c f).2.2 ∧ True) ∧ True) ∧ IsO (arB y.2.2.2.1) (arB (Pl.huntRun c f).1) ∧ (Pl.huntRun c f).2.1.length = (0 : Nat) ∧ True)
 (condP y.2.2.1
 (∃ y : Unit,
 True ∧ ((((0 : Nat) = (0 : Nat) ∧ (0 : Nat) = (0 : Nat) ∧ (Pl.huntRun c f).1.length = (0 : Nat)) ∧ ((0 : Nat) = (0 : Nat) ∧ (0 : Nat) = (0 : Nat) ∧ (Pl.huntRun c f).2.1.length = (0 : Nat)) ∧ false = (Pl.huntRun c f).2.2 ∧ True) ∧ True) ∧ (Pl.huntRun c f).1.length = (0 : Nat) ∧ (Pl.huntRun c f).2.1.length = (0 : Nat) ∧ True)
 (condP (decide (IntKind.i64.wrap ((↑y.2.1.length : Int) + (↑c.2.length : Int)) > (400 : Int)))
 (∃ y : Unit,
 True ∧ ((((0 : Nat) = (0 : Nat) ∧ (0 : Nat) = (0 : Nat) ∧ (Pl.huntRun c f).1.length = (0 : Nat)) ∧ ((0 : Nat) = (0 : Nat) ∧ (0 : Nat) = (0 : Nat) ∧ (Pl.huntRun c f).2.1.length = (0 : Nat)) ∧ false = (Pl.huntRun c f).2.2 ∧ True) ∧ True) ∧ (Pl.huntRun c f).1.length = (0 : Nat) ∧ (Pl.huntRun c f).2.1.length = (0 : Nat) ∧ True)
 (∃ y_1 : Unit,
 True ∧ ((((0 : Nat) = (0 : Nat) ∧ (0 : Nat) = (0 : Nat) ∧ (Pl.huntRun c f).1.length = (0 : Nat)) ∧ ((0 : Nat) = (0 : Nat) ∧ y.2.1.length = (Pl.huntRun c f).2.1.length) ∧ true = (Pl.huntRun c f).2.2 ∧ True) ∧ True) ∧ (Pl.huntRun c f).1.length = (0 : Nat) ∧ IsO (xrII y.2.1) (xrII (Pl.huntRun c f).2.1) ∧ True)))))) = Goal Try.prog [K_iCnfOk, K_within, K_hcallOA] ([]) K_iHuntRunO.1 K_iHuntRunO.2 ((c, f)) := by kernel_rfl

theorem vc_xHuntRun (c : Pl.Cnf) (f : Int) : (∃ x : Pl.Cnf × Int,
 ((c.1 = x.1.1 ∧ Is (intss c.2) (intss x.1.2) ∧ True) ∧ (1048576 : Int) = x.2 ∧ True) ∧ (MlL x.1.2 ∧ Fu x.2) ∧ condP (decide (Pl.szSS x.1.2 x.2 < (0 : Int))) (true = true)
 (∃ x : Pl.Cnf,
 SzC x ∧ (((c.1 = x.1 ∧ Is (intss c.2) (intss x.2) ∧ True) ∧ True) ∧ True) ∧ ∀ (y : Unit),
 True →
 ∃ x_1 : HrX,
 SzC x_1.1 ∧ (((x.1 = x_1.1.1 ∧ ((0 : Nat) = (0 : Nat) ∧ x.2.length = x_1.1.2.length) ∧ True) ∧ f = x_1.2 ∧ True) ∧ IsO (xrII x.2) (xrII x_1.1.2) ∧ True) ∧ ∀ (y : Unit),
 True →
 ∃ x : Pl.Cnf,
 SzC x ∧ (((c.1 = x.1 ∧ Is (intss c.2) (intss x.2) ∧ True) ∧ True) ∧ True) ∧ ∀ (y : Unit),
 True →
 ∃ x_2 : HrX,
 SzC x_2.1 ∧ (((x.1 = x_2.1.1 ∧ ((0 : Nat) = (0 : Nat) ∧ x.2.length = x_2.1.2.length) ∧ True) ∧ f = x_2.2 ∧ True) ∧ IsO (xrII x.2) (xrII x_2.1.2) ∧ True) ∧ ∀ (y : Unit),
 True →
 (0 : Nat) + (Pl.huntRun x_2.1 x_2.2).1.length ≤ (Pl.huntRun x_2.1 x_2.2).1.length ∧ ∃ x_3 : List Bool × List Bool,
 (Is (bools (Pl.huntRun x_2.1 x_2.2).1) (bools x_3.1) ∧ Is (bools (Pl.huntRun x_1.1 x_1.2).1) (bools x_3.2) ∧ True) ∧ Sz x_3.1 ∧ condP (!decide (x_3.1 = x_3.2)) (false = true)
 ((0 : Nat) + (Pl.huntRun x_2.1 x_2.2).2.1.length ≤ (Pl.huntRun x_2.1 x_2.2).2.1.length ∧ Exists fun (x_4 : List (List Int) × List (List Int)) =>
 (Is (intss (Pl.huntRun x_2.1 x_2.2).2.1) (intss x_4.1) ∧ Is (intss (Pl.huntRun x_1.1 x_1.2).2.1) (intss x_4.2) ∧ True) ∧ SzL x_4.1 ∧ condP (!decide (x_4.1 = x_4.2)) (false = true)
 (condP (!(Pl.huntRun x_2.1 x_2.2).2.2 == (Pl.huntRun x_1.1 x_1.2).2.2) (false = true)
 ((∃ x_5 : Pl.Cnf,
 SzC x_5 ∧ (((c.1 = x_5.1 ∧ Is (intss c.2) (intss x_5.2) ∧ True) ∧ True) ∧ True) ∧ ∀ (y : Unit),
 True →
 (0 : Nat) + x.2.length ≤ x_2.1.2.length ∧ (0 : Nat) + x_5.2.length ≤ x_5.2.length ∧ ∃ x_6 : Pl.Cnf × Pl.Cnf,
 ((x.1 = x_6.1.1 ∧ Is (AV.sl x.2.length (1 : Nat) (cII x_2.1.2)) (intss x_6.1.2) ∧ True) ∧ (x_5.1 = x_6.2.1 ∧ Is (intss x_5.2) (intss x_6.2.2) ∧ True) ∧ True) ∧ SzC x_6.1 ∧ condP (!decide (x_6.1 = x_6.2)) (false = true)
 (∃ x_7 : Pl.Cnf × Int,
 (SzC x_7.1 ∧ (0 : Int) ≤ x_7.2 ∧ x_7.2 + (↑(Pl.sumW x_7.1.2) : Int) ≤ (1099511627776 : Int)) ∧ (((x.1 = x_7.1.1 ∧ ((0 : Nat) = (0 : Nat) ∧ x.2.length = x_7.1.2.length) ∧ True) ∧ (1 : Int) = x_7.2 ∧ True) ∧ IsO (xrII x_2.1.2) (xrII x_7.1.2) ∧ True) ∧ ∀ (y : Unit),
 True →
 condP (decide (x_7.2 + (↑(Pl.sumW x_7.1.2) : Int) < (0 : Int)))
 (false = true)
 ((0 : Nat) + (Pl.huntRun x_2.1 x_2.2).1.length ≤
 (Pl.huntRun x_2.1 x_2.2).1.length ∧ ∃ x : List Bool × List Bool,
 (Is (bools (Pl.huntRun x_2.1 x_2.2).1) (bools x.1) ∧ Is (bools (Pl.huntRun x_1.1 x_1.2).1) (bools x.2) ∧ True) ∧ Sz x.1 ∧ condP (!decide (x.1 = x.2)) (false = true)
 ((0 : Nat) + (Pl.huntRun x_2.1 x_2.2).2.1.length ≤
 (Pl.huntRun x_2.1 x_2.2).2.1.length ∧ Exists fun (x : List (List Int) × List (List Int)) =>
 (Is (intss (Pl.huntRun x_2.1 x_2.2).2.1) (intss x.1) ∧ Is (intss (Pl.huntRun x_1.1 x_1.2).2.1) (intss x.2) ∧ True) ∧ SzL x.1 ∧ condP (!decide (x.1 = x.2)) (false = true)
 (condP
 (!(Pl.huntRun x_2.1 x_2.2).2.2 ==
 (Pl.huntRun x_1.1 x_1.2).2.2)
 (false = true)
 (∃ x : MbX,
 (Sz x.1 ∧ (0 : Int) ≤ x.2.2 ∧ x.2.2 ≤ (1099511627776 : Int)) ∧ ((((0 : Nat) = (0 : Nat) ∧ (Pl.huntRun x_2.1 x_2.2).1.length = x.1.length) ∧ (1 : Int) = x.2.2 ∧ True) ∧ IsO (arB (Pl.huntRun x_2.1 x_2.2).1)
 (arB (x.1 ++ x.2.1)) ∧ True) ∧ ∀ (y : Unit),
 True →
 ∃ x_8 : MsX,
 (SzL x_8.1 ∧ (0 : Int) ≤ x_8.2 ∧ x_8.2 + (↑(Pl.sumW x_8.1) : Int) ≤
 (1099511627776 : Int)) ∧ ((((0 : Nat) = (0 : Nat) ∧ (Pl.huntRun x_2.1 x_2.2).2.1.length =
 x_8.1.length) ∧ x.2.2 + (↑x.1.length : Int) = x_8.2 ∧ True) ∧ IsO (xrII (Pl.huntRun x_2.1 x_2.2).2.1)
 (xrII x_8.1) ∧ True) ∧ ∀ (y : Unit),
 True →
 (0 : Nat) +
 (Pl.huntRun x_2.1 x_2.2).1.length ≤
 (Pl.seqB x.2.2 x.1.length ++
 x.2.1).length ∧ ∃ x_9 : List Bool × Int,
 (Is
 (AV.sl
 (Pl.huntRun x_2.1 x_2.2).1.length
 (1 : Nat)
 (cB
 (Pl.seqB x.2.2 x.1.length ++
 x.2.1)))
 (bools x_9.1) ∧ (1 : Int) = x_9.2 ∧ True) ∧ (Sz x_9.1 ∧ (0 : Int) ≤ x_9.2 ∧ x_9.2 ≤ (1099511627776 : Int)) ∧ condP
 (decide
 (Pl.heldB x_9.1 x_9.2 < (0 : Int)))
 (false = true)
 ((0 : Nat) +
 (Pl.huntRun x_2.1
 x_2.2).2.1.length ≤
 (Pl.mksII x_8.2 x_8.1).length ∧ ∃ x_10 : MsX,
 (Is
 (AV.sl
 (Pl.huntRun x_2.1
 x_2.2).2.1.length
 (1 : Nat)
 (cII
 (Pl.mksII x_8.2 x_8.1)))
 (intss x_10.1) ∧ Pl.heldB x_9.1 x_9.2 =
 x_10.2 ∧ True) ∧ (SzL x_10.1 ∧ (0 : Int) ≤ x_10.2 ∧ x_10.2 +
 (↑(Pl.sumW x_10.1) :
 Int) ≤
 (1099511627776 : Int)) ∧ condP
 (decide
 (Pl.heldII x_10.1 x_10.2 <
 (0 : Int)))
 (false = true)
 (condP
 (Pl.heldII x_10.1
 x_10.2 !=
 x_8.2 +
 (↑(Pl.sumW x_8.1) :
 Int))
 (false = true)
 (Exists
 fun (x_11 : Pl.Cnf) =>
 SzC x_11 ∧ (((c.1 = x_11.1 ∧ Is
 (intss
 c.2)
 (intss
 x_11.2) ∧ True) ∧ True) ∧ True) ∧ ∀ (y : Unit),
 True →
 Exists
 fun
 (x_12 :
 HrX) =>
 SzC x_12.1 ∧ (((x_11.1 =
 x_12.1.1 ∧ ((0 :
 Nat) =
 (0 :
 Nat) ∧ x_11.2.length =
 x_12.1.2.length) ∧ True) ∧ f =
 x_12.2 ∧ True) ∧ IsO
 (xrII
 x_11.2)
 (xrII
 x_12.1.2) ∧ True) ∧ ∀ (y : Unit),
 True →
 (0 :
 Nat) +
 (Pl.huntRun
 x_12.1
 x_12.2).1.length ≤
 (Pl.huntRun
 x_12.1
 x_12.2).1.length ∧ Exists
 fun
 (x_13 :
 List
 Bool ×
 List
 Bool) =>
 (Is
 (bools
 (Pl.huntRun
 x_12.1
 x_12.2).1)
 (bools
 x_13.1) ∧ Is
 (bools
 (Pl.huntRun
 x_1.1
 x_1.2).1)
 (bools
 x_13.2) ∧ True) ∧ Sz
 x_13.1 ∧ condP
 (!decide
 (x_13.1 =
 x_13.2))
 (false =
 true)
 ((0 :
 Nat) +
 (Pl.huntRun
 x_12.1
 x_12.2).2.1.length ≤
 (Pl.huntRun
 x_12.1
 x_12.2).2.1.length ∧ Exists
 fun
 (x_14 :
 List
 (List
 Int) ×
 List
 (List
 Int)) =>
 (Is
 (intss
 (Pl.huntRun
 x_12.1
 x_12.2).2.1)
 (intss
 x_14.1) ∧ Is
 (intss
 (Pl.huntRun
 x_1.1
 x_1.2).2.1)
 (intss
 x_14.2) ∧ True) ∧ SzL
 x_14.1 ∧ condP
 (!decide
 (x_14.1 =
 x_14.2))
 (false =
 true)
 (condP
 (!(Pl.huntRun
 x_12.1
 x_12.2).2.2 ==
 (Pl.huntRun
 x_1.1
 x_1.2).2.2)
 (false =
 true)
 ((0 :
 Nat) +
 (Pl.huntRun
 x_2.1
 x_2.2).1.length ≤
 (Pl.seqB
 x.2.2
 x.1.length ++
 x.2.1).length ∧ Exists
 fun
 (x_15 :
 List
 Bool ×
 Int) =>
 (Is
 (AV.sl
 (Pl.huntRun
 x_2.1
 x_2.2).1.length
 (1 :
 Nat)
 (cB
 (Pl.seqB
 x.2.2
 x.1.length ++
 x.2.1)))
 (bools
 x_15.1) ∧ (1 :
 Int) =
 x_15.2 ∧ True) ∧ (Sz
 x_15.1 ∧ (0 :
 Int) ≤
 x_15.2 ∧ x_15.2 ≤
 (1099511627776 :
 Int)) ∧ condP
 (decide
 (Pl.heldB
 x_15.1
 x_15.2 <
 (0 :
 Int)))
 (false =
 true)
 ((0 :
 Nat) +
 (Pl.huntRun
 x_2.1
 x_2.2).2.1.length ≤
 (Pl.mksII
 x_8.2
 x_8.1).length ∧ Exists
 fun
 (x :
 MsX) =>
 (Is
 (AV.sl
 (Pl.huntRun
 x_2.1
 x_2.2).2.1.length
 (1 :
 Nat)
 (cII
 (Pl.mksII
 x_8.2
 x_8.1)))
 (intss
 x.1) ∧ Pl.heldB
 x_15.1
 x_15.2 =
 x.2 ∧ True) ∧ (SzL
 x.1 ∧ (0 :
 Int) ≤
 x.2 ∧ x.2 +
 (↑(Pl.sumW
 x.1) :
 Int) ≤
 (1099511627776 :
 Int)) ∧ condP
 (decide
 (Pl.heldII
 x.1
 x.2 <
 (0 :
 Int)))
 (false =
 true)
 (condP
 (Pl.heldII
 x.1
 x.2 !=
 x_8.2 +
 (↑(Pl.sumW
 x_8.1) :
 Int))
 (false =
 true)
 (true =
 true))))))))))))))) ∧ ∃ x_5 : Pl.Cnf,
 SzC x_5 ∧ (((c.1 = x_5.1 ∧ Is (intss c.2) (intss x_5.2) ∧ True) ∧ True) ∧ True) ∧ ∀ (y : Unit),
 True →
 (0 : Nat) + x.2.length ≤ x_2.1.2.length ∧ (0 : Nat) + x_5.2.length ≤ x_5.2.length ∧ ∃ x_6 : Pl.Cnf × Pl.Cnf,
 ((x.1 = x_6.1.1 ∧ Is (AV.sl x.2.length (1 : Nat) (cII x_2.1.2)) (intss x_6.1.2) ∧ True) ∧ (x_5.1 = x_6.2.1 ∧ Is (intss x_5.2) (intss x_6.2.2) ∧ True) ∧ True) ∧ SzC x_6.1 ∧ condP (!decide (x_6.1 = x_6.2)) (false = true)
 (∃ x_7 : Pl.Cnf × Int,
 (SzC x_7.1 ∧ (0 : Int) ≤ x_7.2 ∧ x_7.2 + (↑(Pl.sumW x_7.1.2) : Int) ≤ (1099511627776 : Int)) ∧ (((x.1 = x_7.1.1 ∧ ((0 : Nat) = (0 : Nat) ∧ x.2.length = x_7.1.2.length) ∧ True) ∧ (1 : Int) = x_7.2 ∧ True) ∧ IsO (xrII x_2.1.2) (xrII x_7.1.2) ∧ True) ∧ ∀ (y : Unit),
 True →
 condP (decide (x_7.2 + (↑(Pl.sumW x_7.1.2) : Int) < (0 : Int)))
 (false = true)
 ((0 : Nat) + (Pl.huntRun x_2.1 x_2.2).1.length ≤
 (Pl.huntRun x_2.1 x_2.2).1.length ∧ ∃ x : List Bool × List Bool,
 (Is (bools (Pl.huntRun x_2.1 x_2.2).1) (bools x.1) ∧ Is (bools (Pl.huntRun x_1.1 x_1.2).1) (bools x.2) ∧ True) ∧ Sz x.1 ∧ condP (!decide (x.1 = x.2)) (false = true)
 ((0 : Nat) + (Pl.huntRun x_2.1 x_2.2).2.1.length ≤
 (Pl.huntRun x_2.1 x_2.2).2.1.length ∧ Exists fun (x : List (List Int) × List (List Int)) =>
 (Is (intss (Pl.huntRun x_2.1 x_2.2).2.1) (intss x.1) ∧ Is (intss (Pl.huntRun x_1.1 x_1.2).2.1) (intss x.2) ∧ True) ∧ SzL x.1 ∧ condP (!decide (x.1 = x.2)) (false = true)
 (condP
 (!(Pl.huntRun x_2.1 x_2.2).2.2 ==
 (Pl.huntRun x_1.1 x_1.2).2.2)
 (false = true)
 (∃ x : MbX,
 (Sz x.1 ∧ (0 : Int) ≤ x.2.2 ∧ x.2.2 ≤ (1099511627776 : Int)) ∧ ((((0 : Nat) = (0 : Nat) ∧ (Pl.huntRun x_2.1 x_2.2).1.length = x.1.length) ∧ (1 : Int) = x.2.2 ∧ True) ∧ IsO (arB (Pl.huntRun x_2.1 x_2.2).1)
 (arB (x.1 ++ x.2.1)) ∧ True) ∧ ∀ (y : Unit),
 True →
 ∃ x_8 : MsX,
 (SzL x_8.1 ∧ (0 : Int) ≤ x_8.2 ∧ x_8.2 + (↑(Pl.sumW x_8.1) : Int) ≤
 (1099511627776 : Int)) ∧ ((((0 : Nat) = (0 : Nat) ∧ (Pl.huntRun x_2.1 x_2.2).2.1.length =
 x_8.1.length) ∧ x.2.2 + (↑x.1.length : Int) = x_8.2 ∧ True) ∧ IsO (xrII (Pl.huntRun x_2.1 x_2.2).2.1)
 (xrII x_8.1) ∧ True) ∧ ∀ (y : Unit),
 True →
 (0 : Nat) +
 (Pl.huntRun x_2.1 x_2.2).1.length ≤
 (Pl.seqB x.2.2 x.1.length ++
 x.2.1).length ∧ ∃ x_9 : List Bool × Int,
 (Is
 (AV.sl
 (Pl.huntRun x_2.1 x_2.2).1.length
 (1 : Nat)
 (cB
 (Pl.seqB x.2.2 x.1.length ++
 x.2.1)))
 (bools x_9.1) ∧ (1 : Int) = x_9.2 ∧ True) ∧ (Sz x_9.1 ∧ (0 : Int) ≤ x_9.2 ∧ x_9.2 ≤ (1099511627776 : Int)) ∧ condP
 (decide
 (Pl.heldB x_9.1 x_9.2 < (0 : Int)))
 (false = true)
 ((0 : Nat) +
 (Pl.huntRun x_2.1
 x_2.2).2.1.length ≤
 (Pl.mksII x_8.2 x_8.1).length ∧ ∃ x_10 : MsX,
 (Is
 (AV.sl
 (Pl.huntRun x_2.1
 x_2.2).2.1.length
 (1 : Nat)
 (cII
 (Pl.mksII x_8.2 x_8.1)))
 (intss x_10.1) ∧ Pl.heldB x_9.1 x_9.2 =
 x_10.2 ∧ True) ∧ (SzL x_10.1 ∧ (0 : Int) ≤ x_10.2 ∧ x_10.2 +
 (↑(Pl.sumW x_10.1) :
 Int) ≤
 (1099511627776 : Int)) ∧ condP
 (decide
 (Pl.heldII x_10.1 x_10.2 <
 (0 : Int)))
 (false = true)
 (condP
 (Pl.heldII x_10.1
 x_10.2 !=
 x_8.2 +
 (↑(Pl.sumW x_8.1) :
 Int))
 (false = true)
 (Exists
 fun (x_11 : Pl.Cnf) =>
 SzC x_11 ∧ (((c.1 = x_11.1 ∧ Is
 (intss
 c.2)
 (intss
 x_11.2) ∧ True) ∧ True) ∧ True) ∧ ∀ (y : Unit),
 True →
 Exists
 fun
 (x_12 :
 HrX) =>
 SzC x_12.1 ∧ (((x_11.1 =
 x_12.1.1 ∧ ((0 :
 Nat) =
 (0 :
 Nat) ∧ x_11.2.length =
 x_12.1.2.length) ∧ True) ∧ f =
 x_12.2 ∧ True) ∧ IsO
 (xrII
 x_11.2)
 (xrII
 x_12.1.2) ∧ True) ∧ ∀ (y : Unit),
 True →
 (0 :
 Nat) +
 (Pl.huntRun
 x_12.1
 x_12.2).1.length ≤
 (Pl.huntRun
 x_12.1
 x_12.2).1.length ∧ Exists
 fun
 (x_13 :
 List
 Bool ×
 List
 Bool) =>
 (Is
 (bools
 (Pl.huntRun
 x_12.1
 x_12.2).1)
 (bools
 x_13.1) ∧ Is
 (bools
 (Pl.huntRun
 x_1.1
 x_1.2).1)
 (bools
 x_13.2) ∧ True) ∧ Sz
 x_13.1 ∧ condP
 (!decide
 (x_13.1 =
 x_13.2))
 (false =
 true)
 ((0 :
 Nat) +
 (Pl.huntRun
 x_12.1
 x_12.2).2.1.length ≤
 (Pl.huntRun
 x_12.1
 x_12.2).2.1.length ∧ Exists
 fun
 (x_14 :
 List
 (List
 Int) ×
 List
 (List
 Int)) =>
 (Is
 (intss
 (Pl.huntRun
 x_12.1
 x_12.2).2.1)
 (intss
 x_14.1) ∧ Is
 (intss
 (Pl.huntRun
 x_1.1
 x_1.2).2.1)
 (intss
 x_14.2) ∧ True) ∧ SzL
 x_14.1 ∧ condP
 (!decide
 (x_14.1 =
 x_14.2))
 (false =
 true)
 (condP
 (!(Pl.huntRun
 x_12.1
 x_12.2).2.2 ==
 (Pl.huntRun
 x_1.1
 x_1.2).2.2)
 (false =
 true)
 ((0 :
 Nat) +
 (Pl.huntRun
 x_2.1
 x_2.2).1.length ≤
 (Pl.seqB
 x.2.2
 x.1.length ++
 x.2.1).length ∧ Exists
 fun
 (x_15 :
 List
 Bool ×
 Int) =>
 (Is
 (AV.sl
 (Pl.huntRun
 x_2.1
 x_2.2).1.length
 (1 :
 Nat)
 (cB
 (Pl.seqB
 x.2.2
 x.1.length ++
 x.2.1)))
 (bools
 x_15.1) ∧ (1 :
 Int) =
 x_15.2 ∧ True) ∧ (Sz
 x_15.1 ∧ (0 :
 Int) ≤
 x_15.2 ∧ x_15.2 ≤
 (1099511627776 :
 Int)) ∧ condP
 (decide
 (Pl.heldB
 x_15.1
 x_15.2 <
 (0 :
 Int)))
 (false =
 true)
 ((0 :
 Nat) +
 (Pl.huntRun
 x_2.1
 x_2.2).2.1.length ≤
 (Pl.mksII
 x_8.2
 x_8.1).length ∧ Exists
 fun
 (x :
 MsX) =>
 (Is
 (AV.sl
 (Pl.huntRun
 x_2.1
 x_2.2).2.1.length
 (1 :
 Nat)
 (cII
 (Pl.mksII
 x_8.2
 x_8.1)))
 (intss
 x.1) ∧ Pl.heldB
 x_15.1
 x_15.2 =
 x.2 ∧ True) ∧ (SzL
 x.1 ∧ (0 :
 Int) ≤
 x.2 ∧ x.2 +
 (↑(Pl.sumW
 x.1) :
 Int) ≤
 (1099511627776 :
 Int)) ∧ condP
 (decide
 (Pl.heldII
 x.1
 x.2 <
 (0 :
 Int)))
 (false =
 true)
 (condP
 (Pl.heldII
 x.1
 x.2 !=
 x_8.2 +
 (↑(Pl.sumW
 x_8.1) :
 Int))
 (false =
 true)
 (true =
 true))))))))))))))))))) = Goal Try.prog [K_szCnf, K_toCnfO, K_sHuntRunG, K_iHuntRunL, K_eqBoolS, K_eqIntSS, K_eqCnf, K_markCnf, K_markBoolS, K_markIntSS, K_heldBoolS, K_heldIntSS] ([]) K_xHuntRun.1 K_xHuntRun.2 ((c, f)) := by kernel_rfl

end Cg

/-
  What is left to show of each function's code, printed by a program: Xcu. No condition.
-/
set_option maxRecDepth 100000
set_option linter.unusedVariables false
namespace Cg
open Go Go.Proofs
theorem vc_toCnfO (c : Pl.Cnf) : (Exists fun (x : List (List Int)) =>
 SzL x ∧ ((Is (intss c.2) (intss x) ∧ True) ∧ True) ∧ ∀ (y : Unit), True → ∃ y : Unit, True ∧ ((c.1 = c.1 ∧ ((0 : Nat) = (0 : Nat) ∧ x.length = c.2.length) ∧ True) ∧ True) ∧ IsO (xrII x) (xrII c.2) ∧ True) = Goal Try.prog [K_toIntSSO] ([]) K_toCnfO.1 K_toCnfO.2 (c) := by kernel_rfl

theorem vc_markCnf (c : Pl.Cnf) (k : Int) : (∃ x : MsX,
 (SzL x.1 ∧ (0 : Int) ≤ x.2 ∧ x.2 + (↑(Pl.sumW x.1) : Int) ≤ (1099511627776 : Int)) ∧ ((((0 : Nat) = (0 : Nat) ∧ c.2.length = x.1.length) ∧ k = x.2 ∧ True) ∧ IsO (xrII c.2) (xrII x.1) ∧ True) ∧ ∀ (y : Unit),
 True → ∃ y : Unit, True ∧ (x.2 + (↑(Pl.sumW x.1) : Int) = k + (↑(Pl.sumW c.2) : Int) ∧ True) ∧ IsO (xrII (Pl.mksII x.2 x.1)) (xrII (Pl.mksII k c.2)) ∧ True) = Goal Try.prog [K_markIntSS] ([]) K_markCnf.1 K_markCnf.2 ((c, k)) := by kernel_rfl

end Cg

/-
  What is left to show of each function's code, printed by a program: Mss. No condition.
-/
set_option maxRecDepth 100000
set_option linter.unusedVariables false
namespace Cg
open Go Go.Proofs
theorem vc_markIntSS (l : List (List Int)) (k : Int) : ((∃ x : Nat,
 x ≤ l.length ∧ (((0 : Nat) = (0 : Nat) ∧ l.length = l.length) ∧ k = k + (↑(Pl.sumW (List.take x l)) : Int) ∧ (0 : Int) = (↑x : Int) ∧ True) ∧ IsO (xrII l) (xrII (Pl.mksII k (List.take x l) ++ List.drop x l)) ∧ True) ∧ ∀ (x : Nat),
 x ≤ l.length →
 condP (decide ((↑x : Int) < (↑l.length : Int)))
 (((0 : Int) ≤ (↑x : Int) ∧ (↑x : Int) < (↑l.length : Int)) ∧ x < (Pl.mksII k (List.take x l) ++ List.drop x l).length ∧ ∃ x_1 : MaX,
 (Sz (x_1.1.getD x_1.2.1 []) ∧ (0 : Int) ≤ x_1.2.2 ∧ x_1.2.2 ≤ (1099511627776 : Int) ∧ x_1.2.1 < x_1.1.length) ∧ (((x = x_1.2.1 ∧ (0 : Nat) = (0 : Nat) ∧ ((Pl.mksII k (List.take x l) ++ List.drop x l).getD x []).length = (x_1.1.getD x_1.2.1 []).length) ∧ k + (↑(Pl.sumW (List.take x l)) : Int) = x_1.2.2 ∧ True) ∧ IsO (xrII (Pl.mksII k (List.take x l) ++ List.drop x l)) (xrII x_1.1) ∧ True) ∧ ∀ (y : Unit),
 True →
 Exists fun (x' : Nat) =>
 x' ≤ l.length ∧ l.length - x' < l.length - x ∧ (((0 : Nat) = (0 : Nat) ∧ l.length = l.length) ∧ x_1.2.2 + (↑(x_1.1.getD x_1.2.1 []).length : Int) = k + (↑(Pl.sumW (List.take x' l)) : Int) ∧ IntKind.i64.wrap ((↑x : Int) + (1 : Int)) = (↑x' : Int) ∧ True) ∧ IsO (xrII (x_1.1.set x_1.2.1 (Pl.seqI x_1.2.2 (x_1.1.getD x_1.2.1 []).length))) (xrII (Pl.mksII k (List.take x' l) ++ List.drop x' l)) ∧ True)
 (∃ y : Unit,
 True ∧ (k + (↑(Pl.sumW (List.take x l)) : Int) = k + (↑(Pl.sumW l) : Int) ∧ True) ∧ IsO (xrII (Pl.mksII k (List.take x l) ++ List.drop x l)) (xrII (Pl.mksII k l)) ∧ True)) = Goal Try.prog [K_markAt] (A_markIntSS l k) K_markIntSS.1 K_markIntSS.2 ((l, k)) := by kernel_rfl

theorem vc_heldIntSS (l : List (List Int)) (k : Int) : ((∃ x : Nat,
 (x ≤ l.length ∧ List.take x l = Pl.mksII k (List.take x l)) ∧ (Is (intss l) (intss l) ∧ k = k + (↑(Pl.sumW (List.take x l)) : Int) ∧ (0 : Int) = (↑x : Int) ∧ True) ∧ True) ∧ ∀ (x : Nat),
 x ≤ l.length ∧ List.take x l = Pl.mksII k (List.take x l) →
 condP (decide ((↑x : Int) < (↑l.length : Int)))
 (((0 : Int) ≤ (↑x : Int) ∧ (↑x : Int) < (↑l.length : Int)) ∧ x < l.length ∧ ∃ x_1 : List Int × Int,
 (Is (ints (l.getD x [])) (ints x_1.1) ∧ k + (↑(Pl.sumW (List.take x l)) : Int) = x_1.2 ∧ True) ∧ (Sz x_1.1 ∧ (0 : Int) ≤ x_1.2 ∧ x_1.2 ≤ (1099511627776 : Int)) ∧ condP (decide (Pl.heldI x_1.1 x_1.2 < (0 : Int))) ((-1 : Int) = Pl.heldII l k)
 (Exists fun (x' : Nat) =>
 (x' ≤ l.length ∧ List.take x' l = Pl.mksII k (List.take x' l)) ∧ l.length - x' < l.length - x ∧ (Is (intss l) (intss l) ∧ Pl.heldI x_1.1 x_1.2 = k + (↑(Pl.sumW (List.take x' l)) : Int) ∧ IntKind.i64.wrap ((↑x : Int) + (1 : Int)) = (↑x' : Int) ∧ True) ∧ True))
 (k + (↑(Pl.sumW (List.take x l)) : Int) = Pl.heldII l k)) = Goal Try.prog [K_heldIntS] (A_heldIntSS l k) K_heldIntSS.1 K_heldIntSS.2 ((l, k)) := by kernel_rfl

theorem vc_markBoolS (l r : List Bool) (k : Int) : ((∃ x : Nat,
 x ≤ l.length ∧ (((0 : Nat) = (0 : Nat) ∧ l.length = l.length) ∧ k = k + (↑x : Int) ∧ (0 : Int) = (↑x : Int) ∧ True) ∧ IsO (arB (l ++ r)) (arB (Pl.seqB k x ++ List.drop x (l ++ r))) ∧ True) ∧ ∀ (x : Nat),
 x ≤ l.length →
 condP (decide ((↑x : Int) < (↑l.length : Int)))
 ((3 : Int) ≠ (0 : Int) ∧ ((0 : Int) ≤ (↑x : Int) ∧ (↑x : Int) < (↑l.length : Int)) ∧ x < (Pl.seqB k x ++ List.drop x (l ++ r)).length ∧ Exists fun (x' : Nat) =>
 x' ≤ l.length ∧ l.length - x' < l.length - x ∧ (((0 : Nat) = (0 : Nat) ∧ l.length = l.length) ∧ IntKind.i64.wrap (k + (↑x : Int) + (1 : Int)) = k + (↑x' : Int) ∧ IntKind.i64.wrap ((↑x : Int) + (1 : Int)) = (↑x' : Int) ∧ True) ∧ IsO
 (AObj.arr (Pl.seqB k x ++ List.drop x (l ++ r)).length (1 : Nat)
 (storeC (cB (Pl.seqB k x ++ List.drop x (l ++ r))) x (0 : Nat) [bl ((k + (↑x : Int)).tmod (3 : Int) == (0 : Int))]))
 (arB (Pl.seqB k x' ++ List.drop x' (l ++ r))) ∧ True)
 (∃ y : Unit, True ∧ (k + (↑x : Int) = k + (↑l.length : Int) ∧ True) ∧ IsO (arB (Pl.seqB k x ++ List.drop x (l ++ r))) (arB (Pl.seqB k l.length ++ r)) ∧ True)) = Goal Try.prog [] (A_markBoolS l r k) K_markBoolS.1 K_markBoolS.2 ((l, r, k)) := by kernel_rfl

theorem vc_heldBoolS (l : List Bool) (k : Int) : ((∃ x : Nat, (x ≤ l.length ∧ List.take x l = Pl.seqB k x) ∧ (Is (bools l) (bools l) ∧ k = k + (↑x : Int) ∧ (0 : Int) = (↑x : Int) ∧ True) ∧ True) ∧ ∀ (x : Nat),
 x ≤ l.length ∧ List.take x l = Pl.seqB k x →
 condP (decide ((↑x : Int) < (↑l.length : Int)))
 (((0 : Int) ≤ (↑x : Int) ∧ (↑x : Int) < (↑l.length : Int)) ∧ x < l.length ∧ (3 : Int) ≠ (0 : Int) ∧ condP (!l.getD x false == ((k + (↑x : Int)).tmod (3 : Int) == (0 : Int))) ((-1 : Int) = Pl.heldB l k)
 (Exists fun (x' : Nat) =>
 (x' ≤ l.length ∧ List.take x' l = Pl.seqB k x') ∧ l.length - x' < l.length - x ∧ (Is (bools l) (bools l) ∧ IntKind.i64.wrap (k + (↑x : Int) + (1 : Int)) = k + (↑x' : Int) ∧ IntKind.i64.wrap ((↑x : Int) + (1 : Int)) = (↑x' : Int) ∧ True) ∧ True))
 (k + (↑x : Int) = Pl.heldB l k)) = Goal Try.prog [] (A_heldBoolS l k) K_heldBoolS.1 K_heldBoolS.2 ((l, k)) := by kernel_rfl

end Cg

/-
  What is left to show of each function's code, printed by a program: Xco. No condition.
-/
set_option maxRecDepth 100000
set_option linter.unusedVariables false
namespace Cg
open Go Go.Proofs
theorem vc_toIntSO (l : List Int) : ((0 : Int) ≤ (↑l.length : Int) ∧ (↑l.length : Int) ≤ (↑l.length : Int) ∧ (↑(8 : Nat) : Int) * (↑l.length : Int) ≤ (140737488355328 : Int) ∧ (↑l.length : Int) ≤ (140737488355328 : Int) ∧ (∃ x : Nat × List Int,
 (x.1 ≤ l.length ∧ x.2.length = l.length ∧ List.take x.1 x.2 = List.take x.1 l) ∧ (Is (ints l) (ints l) ∧ ((0 : Nat) = (0 : Nat) ∧ l.length = x.2.length) ∧ (0 : Int) = (↑x.1 : Int) ∧ True) ∧ IsO (AObj.arr l.length (1 : Nat) fun (x j : Nat) => [i64 (0 : Int)].getD j AV.any) (arI x.2) ∧ True) ∧ ∀ (x : Nat × List Int),
 x.1 ≤ l.length ∧ x.2.length = l.length ∧ List.take x.1 x.2 = List.take x.1 l →
 condP (decide ((↑x.1 : Int) < (↑l.length : Int)))
 (((0 : Int) ≤ (↑x.1 : Int) ∧ (↑x.1 : Int) < (↑l.length : Int)) ∧ x.1 < l.length ∧ ((0 : Int) ≤ (↑x.1 : Int) ∧ (↑x.1 : Int) < (↑x.2.length : Int)) ∧ x.1 < x.2.length ∧ Exists fun (x' : Nat × List Int) =>
 (x'.1 ≤ l.length ∧ x'.2.length = l.length ∧ List.take x'.1 x'.2 = List.take x'.1 l) ∧ l.length - x'.1 < l.length - x.1 ∧ (Is (ints l) (ints l) ∧ ((0 : Nat) = (0 : Nat) ∧ x.2.length = x'.2.length) ∧ IntKind.i64.wrap ((↑x.1 : Int) + (1 : Int)) = (↑x'.1 : Int) ∧ True) ∧ IsO (AObj.arr x.2.length (1 : Nat) (storeC (cI x.2) x.1 (0 : Nat) [i64 (l.getD x.1 (0 : Int))])) (arI x'.2) ∧ True)
 (∃ y : Unit, True ∧ (((0 : Nat) = (0 : Nat) ∧ x.2.length = l.length) ∧ True) ∧ IsO (arI x.2) (arI l) ∧ True)) = Goal Try.prog [] (A_toIntS l) K_toIntSO.1 K_toIntSO.2 (l) := by kernel_rfl

theorem vc_markIntS (l r : List Int) (k : Int) : ((∃ x : Nat,
 x ≤ l.length ∧ (((0 : Nat) = (0 : Nat) ∧ l.length = l.length) ∧ k = k + (↑x : Int) ∧ (0 : Int) = (↑x : Int) ∧ True) ∧ IsO (arI (l ++ r)) (arI (Pl.seqI k x ++ List.drop x (l ++ r))) ∧ True) ∧ ∀ (x : Nat),
 x ≤ l.length →
 condP (decide ((↑x : Int) < (↑l.length : Int)))
 (((0 : Int) ≤ (↑x : Int) ∧ (↑x : Int) < (↑l.length : Int)) ∧ x < (Pl.seqI k x ++ List.drop x (l ++ r)).length ∧ Exists fun (x' : Nat) =>
 x' ≤ l.length ∧ l.length - x' < l.length - x ∧ (((0 : Nat) = (0 : Nat) ∧ l.length = l.length) ∧ IntKind.i64.wrap (k + (↑x : Int) + (1 : Int)) = k + (↑x' : Int) ∧ IntKind.i64.wrap ((↑x : Int) + (1 : Int)) = (↑x' : Int) ∧ True) ∧ IsO (AObj.arr (Pl.seqI k x ++ List.drop x (l ++ r)).length (1 : Nat) (storeC (cI (Pl.seqI k x ++ List.drop x (l ++ r))) x (0 : Nat) [i64 (k + (↑x : Int))]))
 (arI (Pl.seqI k x' ++ List.drop x' (l ++ r))) ∧ True)
 (∃ y : Unit, True ∧ (k + (↑x : Int) = k + (↑l.length : Int) ∧ True) ∧ IsO (arI (Pl.seqI k x ++ List.drop x (l ++ r))) (arI (Pl.seqI k l.length ++ r)) ∧ True)) = Goal Try.prog [] (A_markIntS l r k) K_markIntS.1 K_markIntS.2 ((l, r, k)) := by kernel_rfl

theorem vc_heldIntS (l : List Int) (k : Int) : ((∃ x : Nat, (x ≤ l.length ∧ List.take x l = Pl.seqI k x) ∧ (Is (ints l) (ints l) ∧ k = k + (↑x : Int) ∧ (0 : Int) = (↑x : Int) ∧ True) ∧ True) ∧ ∀ (x : Nat),
 x ≤ l.length ∧ List.take x l = Pl.seqI k x →
 condP (decide ((↑x : Int) < (↑l.length : Int)))
 (((0 : Int) ≤ (↑x : Int) ∧ (↑x : Int) < (↑l.length : Int)) ∧ x < l.length ∧ condP (l.getD x (0 : Int) != k + (↑x : Int)) ((-1 : Int) = Pl.heldI l k)
 (Exists fun (x' : Nat) =>
 (x' ≤ l.length ∧ List.take x' l = Pl.seqI k x') ∧ l.length - x' < l.length - x ∧ (Is (ints l) (ints l) ∧ IntKind.i64.wrap (k + (↑x : Int) + (1 : Int)) = k + (↑x' : Int) ∧ IntKind.i64.wrap ((↑x : Int) + (1 : Int)) = (↑x' : Int) ∧ True) ∧ True))
 (k + (↑x : Int) = Pl.heldI l k)) = Goal Try.prog [] (A_heldIntS l k) K_heldIntS.1 K_heldIntS.2 ((l, k)) := by kernel_rfl

end Cg

/-
  What is left to show of each function's code, printed by a program: Cnf. No condition.
-/
set_option maxRecDepth 100000
set_option linter.unusedVariables false
namespace Cg
open Go Go.Proofs
theorem vc_szCnf (c : Pl.Cnf) (k : Int) : (Exists fun (x : List (List Int) × Int) =>
 (Is (intss c.2) (intss x.1) ∧ k = x.2 ∧ True) ∧ (MlL x.1 ∧ Fu x.2) ∧ condP (decide (Pl.szSS x.1 x.2 < (0 : Int))) ((-1 : Int) = Pl.szSS c.2 k) (Pl.szSS x.1 x.2 = Pl.szSS c.2 k)) = Goal Try.prog [K_szIntSS] ([]) K_szCnf.1 K_szCnf.2 ((c, k)) := by kernel_rfl

theorem vc_eqCnf (c d : Pl.Cnf) : (condP (c.1 != d.1) (false = decide (c = d))
 (Exists fun (x : List (List Int) × List (List Int)) =>
 (Is (intss c.2) (intss x.1) ∧ Is (intss d.2) (intss x.2) ∧ True) ∧ SzL x.1 ∧ condP (!decide (x.1 = x.2)) (false = decide (c = d)) (true = decide (c = d)))) = Goal Try.prog [K_eqIntSS] ([]) K_eqCnf.1 K_eqCnf.2 ((c, d)) := by kernel_rfl

theorem vc_sCnfOk (c : Pl.Cnf) : (condP (decide (c.1 < (0 : Int))) (false = Pl.cnfOk c)
 (condP (decide (c.1 > (60 : Int))) (false = Pl.cnfOk c)
 (condP (decide ((↑c.2.length : Int) > (400 : Int))) (false = Pl.cnfOk c)
 ((∃ x : Nat,
 (x ≤ c.2.length ∧ Pl.cnfOk c = (List.drop x c.2).all fun (y : List Int) => Pl.specClause y c.1) ∧ ((0 : Nat) = (0 : Nat) ∧ (0 : Int) = (↑x : Int) ∧ True) ∧ (c.1 = c.1 ∧ Is (intss c.2) (intss c.2) ∧ True) ∧ True) ∧ ∀ (x : Nat),
 (x ≤ c.2.length ∧ Pl.cnfOk c = (List.drop x c.2).all fun (y : List Int) => Pl.specClause y c.1) →
 condP (decide ((↑x : Int) < (↑c.2.length : Int)))
 (((0 : Int) ≤ (↑x : Int) ∧ (↑x : Int) < (↑c.2.length : Int)) ∧ x < c.2.length ∧ ∃ x_1 : List Int × Int,
 (Is (ints (c.2.getD x [])) (ints x_1.1) ∧ c.1 = x_1.2 ∧ True) ∧ Sz x_1.1 ∧ condP (!Pl.specClause x_1.1 x_1.2) (false = Pl.cnfOk c)
 (Exists fun (x' : Nat) =>
 (x' ≤ c.2.length ∧ Pl.cnfOk c = (List.drop x' c.2).all fun (y : List Int) => Pl.specClause y c.1) ∧ c.2.length - x' < c.2.length - x ∧ ((0 : Nat) = (0 : Nat) ∧ IntKind.i64.wrap ((↑x : Int) + (1 : Int)) = (↑x' : Int) ∧ True) ∧ (c.1 = c.1 ∧ Is (intss c.2) (intss c.2) ∧ True) ∧ True))
 (true = Pl.cnfOk c))))) = Goal Try.prog [K_sClauseOk] (A_sCnfOk c) K_sCnfOk.1 K_sCnfOk.2 (c) := by kernel_rfl

theorem vc_CnfOk1 (l : List Int) (c : Pl.Cnf) : ((0 : Nat) < (1 : Nat) ∧ ∃ x : List Int × Int, (Is (ints l) (ints x.1) ∧ c.1 = x.2 ∧ True) ∧ Sz x.1 ∧ (!Pl.implClause x.1 x.2) = !Pl.specClause l c.1) = Goal Try.prog [K_iClauseOk] ([]) K_CnfOk1.1 K_CnfOk1.2 ((l, c)) := by kernel_rfl

theorem vc_IndexCnfOk (l : List (List Int)) (c : Pl.Cnf) : ((∃ x : Nat,
 (x ≤ l.length ∧ Pl.idx (fun (x : List Int) => !Pl.specClause x c.1) l =
 if Pl.idx (fun (x : List Int) => !Pl.specClause x c.1) (List.drop x l) < (0 : Int) then (-1 : Int)
 else Pl.idx (fun (x : List Int) => !Pl.specClause x c.1) (List.drop x l) + (↑x : Int)) ∧ (Is (intss l) (intss l) ∧ (Is (refs [i64 c.1, intss c.2]) (refs [i64 c.1, intss c.2]) ∧ True) ∧ (↑l.length : Int) = (↑l.length : Int) ∧ (0 : Int) = (↑x : Int) ∧ True) ∧ True) ∧ ∀ (x : Nat),
 (x ≤ l.length ∧ Pl.idx (fun (x : List Int) => !Pl.specClause x c.1) l =
 if Pl.idx (fun (x : List Int) => !Pl.specClause x c.1) (List.drop x l) < (0 : Int) then (-1 : Int)
 else Pl.idx (fun (x : List Int) => !Pl.specClause x c.1) (List.drop x l) + (↑x : Int)) →
 condP (decide ((↑x : Int) < (↑l.length : Int)))
 (((0 : Int) ≤ (↑x : Int) ∧ (↑x : Int) < (↑l.length : Int)) ∧ x < l.length ∧ ∃ x_1 : List Int × Pl.Cnf,
 (Is (ints (l.getD x [])) (ints x_1.1) ∧ Is (refs [i64 c.1, intss c.2]) (refs [i64 x_1.2.1, intss x_1.2.2]) ∧ True) ∧ Sz x_1.1 ∧ condP (!Pl.specClause x_1.1 x_1.2.1) ((↑x : Int) = Pl.idx (fun (y : List Int) => !Pl.specClause y c.1) l)
 (Exists fun (x' : Nat) =>
 (x' ≤ l.length ∧ Pl.idx (fun (x : List Int) => !Pl.specClause x c.1) l =
 if Pl.idx (fun (x : List Int) => !Pl.specClause x c.1) (List.drop x' l) < (0 : Int) then (-1 : Int)
 else Pl.idx (fun (x : List Int) => !Pl.specClause x c.1) (List.drop x' l) + (↑x' : Int)) ∧ l.length - x' < l.length - x ∧ (Is (intss l) (intss l) ∧ (Is (refs [i64 c.1, intss c.2]) (refs [i64 c.1, intss c.2]) ∧ True) ∧ (↑l.length : Int) = (↑l.length : Int) ∧ IntKind.i64.wrap ((↑x : Int) + (1 : Int)) = (↑x' : Int) ∧ True) ∧ True))
 ((-1 : Int) = Pl.idx (fun (y : List Int) => !Pl.specClause y c.1) l)) = Goal Try.prog [K_CnfOk1] (A_IndexCnfOk l c) K_IndexCnfOk.1 K_IndexCnfOk.2 ((l, c)) := by kernel_rfl

theorem vc_ContainsCnfOk (l : List (List Int)) (c : Pl.Cnf) : (Exists fun (x : List (List Int) × Pl.Cnf) =>
 (Is (intss l) (intss x.1) ∧ (Is (refs [i64 c.1, intss c.2]) (refs [i64 x.2.1, intss x.2.2]) ∧ True) ∧ True) ∧ SzL x.1 ∧ decide (Pl.idx (fun (y : List Int) => !Pl.specClause y x.2.1) x.1 ≥ (0 : Int)) = l.any fun (y : List Int) => !Pl.specClause y c.1) = Goal Try.prog [K_IndexCnfOk] ([]) K_ContainsCnfOk.1 K_ContainsCnfOk.2 ((l, c)) := by kernel_rfl

theorem vc_iCnfOk (c : Pl.Cnf) : (∃ x : Int × Int × Int,
 (c.1 = x.1 ∧ (0 : Int) = x.2.1 ∧ (60 : Int) = x.2.2 ∧ True) ∧ True ∧ condP (!Pl.withinI x.1 x.2.1 x.2.2) (false = Pl.cnfOk c)
 (condP (decide ((↑c.2.length : Int) > (400 : Int))) (false = Pl.cnfOk c)
 (Exists fun (x : List (List Int) × Pl.Cnf) =>
 (Is (intss c.2) (intss x.1) ∧ (Is (refs [i64 c.1, intss c.2]) (refs [i64 x.2.1, intss x.2.2]) ∧ True) ∧ True) ∧ SzL x.1 ∧ (!x.1.any fun (y : List Int) => !Pl.specClause y x.2.1) = Pl.cnfOk c))) = Goal Try.prog [K_within, K_ContainsCnfOk] ([]) K_iCnfOk.1 K_iCnfOk.2 (c) := by kernel_rfl

end Cg

/-
  What is left to show of each function's code, printed by a program: Rows. No condition.
-/
set_option maxRecDepth 100000
set_option linter.unusedVariables false
namespace Cg
open Go Go.Proofs
theorem vc_szIntS (l : List Int) (k : Int) : (condP (decide (IntKind.i64.wrap (k - (↑l.length : Int)) < (0 : Int))) ((-1 : Int) = Pl.sz1 l.length k) (IntKind.i64.wrap (k - (↑l.length : Int)) = Pl.sz1 l.length k)) = Goal Try.prog [] ([]) K_szIntS.1 K_szIntS.2 ((l, k)) := by kernel_rfl

theorem vc_szIntSS (l : List (List Int)) (k : Int) : (condP (decide (IntKind.i64.wrap (k - (↑l.length : Int)) < (0 : Int))) ((-1 : Int) = Pl.szSS l k)
 ((∃ x : Nat × Int,
 (x.1 ≤ l.length ∧ Fu x.2 ∧ Pl.szSS l k = Pl.szL (List.drop x.1 l) x.2) ∧ (Is (intss l) (intss l) ∧ IntKind.i64.wrap (k - (↑l.length : Int)) = x.2 ∧ (0 : Int) = (↑x.1 : Int) ∧ True) ∧ True) ∧ ∀ (x : Nat × Int),
 x.1 ≤ l.length ∧ Fu x.2 ∧ Pl.szSS l k = Pl.szL (List.drop x.1 l) x.2 →
 condP (decide ((↑x.1 : Int) < (↑l.length : Int)))
 (((0 : Int) ≤ (↑x.1 : Int) ∧ (↑x.1 : Int) < (↑l.length : Int)) ∧ x.1 < l.length ∧ ∃ x_1 : List Int × Int,
 (Is (ints (l.getD x.1 [])) (ints x_1.1) ∧ x.2 = x_1.2 ∧ True) ∧ (Ml x_1.1 ∧ Fu x_1.2) ∧ condP (decide (Pl.sz1 x_1.1.length x_1.2 < (0 : Int))) ((-1 : Int) = Pl.szSS l k)
 (Exists fun (x' : Nat × Int) =>
 (x'.1 ≤ l.length ∧ Fu x'.2 ∧ Pl.szSS l k = Pl.szL (List.drop x'.1 l) x'.2) ∧ l.length - x'.1 < l.length - x.1 ∧ (Is (intss l) (intss l) ∧ Pl.sz1 x_1.1.length x_1.2 = x'.2 ∧ IntKind.i64.wrap ((↑x.1 : Int) + (1 : Int)) = (↑x'.1 : Int) ∧ True) ∧ True))
 (x.2 = Pl.szSS l k))) = Goal Try.prog [K_szIntS] (A_szIntSS l k) K_szIntSS.1 K_szIntSS.2 ((l, k)) := by kernel_rfl

theorem vc_eqIntSS (l m : List (List Int)) : (condP ((↑l.length : Int) != (↑m.length : Int)) (false = decide (l = m))
 ((∃ x : Nat,
 (x ≤ l.length ∧ l.length = m.length ∧ (l = m ↔ List.drop x l = List.drop x m)) ∧ (Is (intss l) (intss l) ∧ Is (intss m) (intss m) ∧ (0 : Int) = (↑x : Int) ∧ True) ∧ True) ∧ ∀ (x : Nat),
 x ≤ l.length ∧ l.length = m.length ∧ (l = m ↔ List.drop x l = List.drop x m) →
 condP (decide ((↑x : Int) < (↑l.length : Int)))
 (((0 : Int) ≤ (↑x : Int) ∧ (↑x : Int) < (↑l.length : Int)) ∧ x < l.length ∧ ((0 : Int) ≤ (↑x : Int) ∧ (↑x : Int) < (↑m.length : Int)) ∧ x < m.length ∧ ∃ x_1 : List Int × List Int,
 (Is (ints (l.getD x [])) (ints x_1.1) ∧ Is (ints (m.getD x [])) (ints x_1.2) ∧ True) ∧ Sz x_1.1 ∧ condP (!decide (x_1.1 = x_1.2)) (false = decide (l = m))
 (Exists fun (x' : Nat) =>
 (x' ≤ l.length ∧ l.length = m.length ∧ (l = m ↔ List.drop x' l = List.drop x' m)) ∧ l.length - x' < l.length - x ∧ (Is (intss l) (intss l) ∧ Is (intss m) (intss m) ∧ IntKind.i64.wrap ((↑x : Int) + (1 : Int)) = (↑x' : Int) ∧ True) ∧ True))
 (true = decide (l = m)))) = Goal Try.prog [K_eqIntS] (A_eqIntSS l m) K_eqIntSS.1 K_eqIntSS.2 ((l, m)) := by kernel_rfl

theorem vc_eqBoolS (l m : List Bool) : (condP ((↑l.length : Int) != (↑m.length : Int)) (false = decide (l = m))
 ((∃ x : Nat,
 (x ≤ l.length ∧ l.length = m.length ∧ (l = m ↔ List.drop x l = List.drop x m)) ∧ (Is (bools l) (bools l) ∧ Is (bools m) (bools m) ∧ (0 : Int) = (↑x : Int) ∧ True) ∧ True) ∧ ∀ (x : Nat),
 x ≤ l.length ∧ l.length = m.length ∧ (l = m ↔ List.drop x l = List.drop x m) →
 condP (decide ((↑x : Int) < (↑l.length : Int)))
 (((0 : Int) ≤ (↑x : Int) ∧ (↑x : Int) < (↑l.length : Int)) ∧ x < l.length ∧ ((0 : Int) ≤ (↑x : Int) ∧ (↑x : Int) < (↑m.length : Int)) ∧ x < m.length ∧ condP (!l.getD x false == m.getD x false) (false = decide (l = m))
 (Exists fun (x' : Nat) =>
 (x' ≤ l.length ∧ l.length = m.length ∧ (l = m ↔ List.drop x' l = List.drop x' m)) ∧ l.length - x' < l.length - x ∧ (Is (bools l) (bools l) ∧ Is (bools m) (bools m) ∧ IntKind.i64.wrap ((↑x : Int) + (1 : Int)) = (↑x' : Int) ∧ True) ∧ True))
 (true = decide (l = m)))) = Goal Try.prog [] (A_eqBoolS l m) K_eqBoolS.1 K_eqBoolS.2 ((l, m)) := by kernel_rfl

end Cg

/-
  What is left to show of each function's code, printed by a program: Clause. No condition.
-/
set_option maxRecDepth 100000
set_option linter.unusedVariables false
namespace Cg
open Go Go.Proofs
theorem vc_l10Abs (x : Int) : (condP (decide (x < (-60 : Int))) ((61 : Int) = Pl.absW x)
 (condP (decide (x > (60 : Int))) ((61 : Int) = Pl.absW x) (condP (decide (x < (0 : Int))) (IntKind.i64.wrap ((0 : Int) - x) = Pl.absW x) (x = Pl.absW x)))) = Goal Try.prog [] ([]) K_l10Abs.1 K_l10Abs.2 (x) := by kernel_rfl

theorem vc_within (x y z : Int) : (condP (decide (y ≤ x)) (decide (x ≤ z) = Pl.withinI x y z) (false = Pl.withinI x y z)) = Goal Try.prog [] ([]) K_within.1 K_within.2 ((x, y, z)) := by kernel_rfl

theorem vc_isMark (x y : Int) : (condP (x != (0 : Int))
 (∃ x_1 : Int × Int × Int,
 (x = x_1.1 ∧ IntKind.i64.wrap ((0 : Int) - y) = x_1.2.1 ∧ y = x_1.2.2 ∧ True) ∧ True ∧ Pl.withinI x_1.1 x_1.2.1 x_1.2.2 = Pl.isMark x y)
 (false = Pl.isMark x y)) = Goal Try.prog [K_within] ([]) K_isMark.1 K_isMark.2 ((x, y)) := by kernel_rfl

theorem vc_variable (x : Int) : ((if IntKind.i64.wrap ((0 : Int) - x) > x then IntKind.i64.wrap ((0 : Int) - x) else x) = Pl.varI x) = Goal Try.prog [] ([]) K_variable.1 K_variable.2 (x) := by kernel_rfl

theorem vc_sClauseOk (l : List Int) (many : Int) : ((∃ x : Nat × Int,
 (x.1 ≤ l.length ∧ Pl.specClause l many = Pl.specLoop many x.2 (List.drop x.1 l)) ∧ (Is (ints l) (ints l) ∧ many = many ∧ (0 : Int) = x.2 ∧ (0 : Int) = (↑x.1 : Int) ∧ True) ∧ True) ∧ ∀ (x : Nat × Int),
 x.1 ≤ l.length ∧ Pl.specClause l many = Pl.specLoop many x.2 (List.drop x.1 l) →
 condP (decide ((↑x.1 : Int) < (↑l.length : Int)))
 (((0 : Int) ≤ (↑x.1 : Int) ∧ (↑x.1 : Int) < (↑l.length : Int)) ∧ x.1 < l.length ∧ ∃ x_1 : Int,
 (l.getD x.1 (0 : Int) = x_1 ∧ True) ∧ True ∧ condP (decide (Pl.absW x_1 ≤ x.2)) (false = Pl.specClause l many)
 (((0 : Int) ≤ (↑x.1 : Int) ∧ (↑x.1 : Int) < (↑l.length : Int)) ∧ x.1 < l.length ∧ ∃ x_2 : Int,
 (l.getD x.1 (0 : Int) = x_2 ∧ True) ∧ True ∧ condP (decide (Pl.absW x_2 > many)) (false = Pl.specClause l many)
 (((0 : Int) ≤ (↑x.1 : Int) ∧ (↑x.1 : Int) < (↑l.length : Int)) ∧ x.1 < l.length ∧ ∃ x_3 : Int,
 (l.getD x.1 (0 : Int) = x_3 ∧ True) ∧ True ∧ Exists fun (x' : Nat × Int) =>
 (x'.1 ≤ l.length ∧ Pl.specClause l many = Pl.specLoop many x'.2 (List.drop x'.1 l)) ∧ l.length - x'.1 < l.length - x.1 ∧ (Is (ints l) (ints l) ∧ many = many ∧ Pl.absW x_3 = x'.2 ∧ IntKind.i64.wrap ((↑x.1 : Int) + (1 : Int)) = (↑x'.1 : Int) ∧ True) ∧ True)))
 (condP (decide (many ≥ (0 : Int))) (decide (many ≤ (60 : Int)) = Pl.specClause l many) (false = Pl.specClause l many))) = Goal Try.prog [K_l10Abs] (A_sClauseOk l many) K_sClauseOk.1 K_sClauseOk.2 ((l, many)) := by kernel_rfl

theorem vc_iClauseOk (l : List Int) (many : Int) : (∃ x : Int × Int × Int,
 (many = x.1 ∧ (0 : Int) = x.2.1 ∧ (60 : Int) = x.2.2 ∧ True) ∧ True ∧ condP (!Pl.withinI x.1 x.2.1 x.2.2) (false = Pl.implClause l many)
 ((∃ x : Nat,
 (x ≤ l.length ∧ Pl.implClause l many = Pl.implLoop many (Pl.prev l x) (List.drop x l)) ∧ (Is (ints l) (ints l) ∧ many = many ∧ Is (ints l) (ints l) ∧ (↑l.length : Int) = (↑l.length : Int) ∧ (0 : Int) = (↑x : Int) ∧ True) ∧ True) ∧ ∀ (x : Nat),
 x ≤ l.length ∧ Pl.implClause l many = Pl.implLoop many (Pl.prev l x) (List.drop x l) →
 condP (decide ((↑x : Int) < (↑l.length : Int)))
 (((0 : Int) ≤ (↑x : Int) ∧ (↑x : Int) < (↑l.length : Int)) ∧ x < l.length ∧ ∃ x_1 : Int × Int,
 (l.getD x (0 : Int) = x_1.1 ∧ many = x_1.2 ∧ True) ∧ True ∧ condP (!Pl.isMark x_1.1 x_1.2) (false = Pl.implClause l many)
 (condP (decide ((↑x : Int) > (0 : Int)))
 (((0 : Int) ≤ IntKind.i64.wrap ((↑x : Int) - (1 : Int)) ∧ IntKind.i64.wrap ((↑x : Int) - (1 : Int)) < (↑l.length : Int)) ∧ (IntKind.i64.wrap ((↑x : Int) - (1 : Int))).toNat < l.length ∧ ∃ x_2 : Int,
 (l.getD (IntKind.i64.wrap ((↑x : Int) - (1 : Int))).toNat (0 : Int) = x_2 ∧ True) ∧ True ∧ ∃ x_3 : Int,
 (l.getD x (0 : Int) = x_3 ∧ True) ∧ True ∧ condP (decide (Pl.varI x_2 ≥ Pl.varI x_3)) (false = Pl.implClause l many)
 (Exists fun (x' : Nat) =>
 (x' ≤ l.length ∧ Pl.implClause l many = Pl.implLoop many (Pl.prev l x') (List.drop x' l)) ∧ l.length - x' < l.length - x ∧ (Is (ints l) (ints l) ∧ many = many ∧ Is (ints l) (ints l) ∧ (↑l.length : Int) = (↑l.length : Int) ∧ IntKind.i64.wrap ((↑x : Int) + (1 : Int)) = (↑x' : Int) ∧ True) ∧ True))
 (Exists fun (x' : Nat) =>
 (x' ≤ l.length ∧ Pl.implClause l many = Pl.implLoop many (Pl.prev l x') (List.drop x' l)) ∧ l.length - x' < l.length - x ∧ (Is (ints l) (ints l) ∧ many = many ∧ Is (ints l) (ints l) ∧ (↑l.length : Int) = (↑l.length : Int) ∧ IntKind.i64.wrap ((↑x : Int) + (1 : Int)) = (↑x' : Int) ∧ True) ∧ True)))
 (true = Pl.implClause l many))) = Goal Try.prog [K_variable, K_isMark, K_within] (A_iClauseOk l many) K_iClauseOk.1 K_iClauseOk.2 ((l, many)) := by kernel_rfl

theorem vc_eqIntS (l m : List Int) : (condP ((↑l.length : Int) != (↑m.length : Int)) (false = decide (l = m))
 ((∃ x : Nat,
 (x ≤ l.length ∧ l.length = m.length ∧ (l = m ↔ List.drop x l = List.drop x m)) ∧ (Is (ints l) (ints l) ∧ Is (ints m) (ints m) ∧ (0 : Int) = (↑x : Int) ∧ True) ∧ True) ∧ ∀ (x : Nat),
 x ≤ l.length ∧ l.length = m.length ∧ (l = m ↔ List.drop x l = List.drop x m) →
 condP (decide ((↑x : Int) < (↑l.length : Int)))
 (((0 : Int) ≤ (↑x : Int) ∧ (↑x : Int) < (↑l.length : Int)) ∧ x < l.length ∧ ((0 : Int) ≤ (↑x : Int) ∧ (↑x : Int) < (↑m.length : Int)) ∧ x < m.length ∧ condP (l.getD x (0 : Int) != m.getD x (0 : Int)) (false = decide (l = m))
 (Exists fun (x' : Nat) =>
 (x' ≤ l.length ∧ l.length = m.length ∧ (l = m ↔ List.drop x' l = List.drop x' m)) ∧ l.length - x' < l.length - x ∧ (Is (ints l) (ints l) ∧ Is (ints m) (ints m) ∧ IntKind.i64.wrap ((↑x : Int) + (1 : Int)) = (↑x' : Int) ∧ True) ∧ True))
 (true = decide (l = m)))) = Goal Try.prog [] (A_eqIntS l m) K_eqIntS.1 K_eqIntS.2 ((l, m)) := by kernel_rfl

end Cg

/-
  The codes' contracts: clauses. No condition.
-/
set_option linter.unusedVariables false
set_option linter.unusedSimpArgs false
set_option maxRecDepth 100000
namespace Cg
open Go Go.Proofs

theorem hm : Try.prog.follows .mixedOrders = true := by kernel_rfl

theorem k_l10Abs : SoundC Try.prog K_l10Abs.1 K_l10Abs.2 := sound_of hm CtxOK.nil (fun _ => []) (by kernel_rfl) fun (x : Int) _ => cast (vc_l10Abs x) (by
  simp only [condP_dec, Pl.absW, Pl.wneg]
  refine ⟨fun h => by rw [if_pos h], fun h => ⟨fun h' => by rw [if_neg h, if_pos h'], fun h' => ⟨fun h'' => by rw [if_neg h, if_neg h', if_pos h''], fun h'' => by rw [if_neg h, if_neg h', if_neg h'']⟩⟩⟩)

theorem k_within : SoundC Try.prog K_within.1 K_within.2 := sound_of hm CtxOK.nil (fun _ => []) (by kernel_rfl) fun ((x, y, z) : Int × Int × Int) _ => cast (vc_within x y z) (by
  simp [Pl.withinI]
  omega)

theorem k_isMark : SoundC Try.prog K_isMark.1 K_isMark.2 := sound_of hm (CtxOK.nil.and k_within) (fun _ => []) (by kernel_rfl) fun ((x, y) : Int × Int) _ => cast (vc_isMark x y) (by
  simp [Pl.isMark, Pl.wneg, and_assoc]
  exact ⟨fun h => by simp [h], fun h h' => absurd h h'⟩)

theorem k_variable : SoundC Try.prog K_variable.1 K_variable.2 := sound_of hm CtxOK.nil (fun _ => []) (by kernel_rfl) fun (x : Int) _ => cast (vc_variable x) rfl

theorem k_sClauseOk : SoundC Try.prog K_sClauseOk.1 K_sClauseOk.2 := sound_of hm (CtxOK.nil.and k_l10Abs) (fun (l, many) => A_sClauseOk l many) (by kernel_rfl) fun (l, many) hl => cast (vc_sClauseOk l many) (by
  replace hl : Sz l := hl
  simp [-List.getD_eq_getElem?_getD, and_assoc]
  refine ⟨⟨0, by simp, by simp [Pl.specClause]⟩, fun k last hk he => ⟨fun hlt => ?_, fun hge => ?_⟩⟩
  · rw [drop_get 0 hlt] at he
    refine ⟨hlt, fun h1 => ?_, fun h1 => ⟨hlt, fun h2 => ?_, fun h2 => ⟨hlt, k + 1, hlt, _, ?_, by omega, rfl, wrap_succ hlt hl⟩⟩⟩
    · rw [he]; simp [Pl.specLoop, h1, -List.getD_eq_getElem?_getD]
    · rw [he]; simp [Pl.specLoop, h2, -List.getD_eq_getElem?_getD]
    · rw [he]; simp [Pl.specLoop, -List.getD_eq_getElem?_getD, Int.not_le.2 h1, Int.not_lt.2 h2]
  · rw [drop_end (by omega)] at he
    rw [he]
    simp [Pl.specLoop]
    omega)

theorem prev_zero (l : List Int) : Pl.prev l 0 = none := rfl
theorem prev_pos (l : List Int) {k : Nat} (h : 0 < k) : Pl.prev l k = some (l.getD (k - 1) 0) := by
  unfold Pl.prev
  rw [if_neg (by omega)]

theorem k_iClauseOk : SoundC Try.prog K_iClauseOk.1 K_iClauseOk.2 := sound_of hm (((CtxOK.nil.and k_within).and k_isMark).and k_variable) (fun (l, many) => A_iClauseOk l many) (by kernel_rfl) fun (l, many) hl => cast (vc_iClauseOk l many) (by
  replace hl : Sz l := hl
  simp [-List.getD_eq_getElem?_getD, and_assoc]
  refine ⟨fun h => by simp [Pl.implClause, h], fun h => ⟨⟨0, by simp, by simp [Pl.implClause, h, prev_zero], rfl⟩, fun k hk he => ⟨fun hlt => ⟨hlt, ?_, ?_⟩, fun hge => ?_⟩⟩⟩
  · intro h1
    rw [he, drop_get 0 hlt]
    by_cases hk0 : k = 0
    · subst hk0; simp [prev_zero, Pl.implLoop, h1, -List.getD_eq_getElem?_getD]
    · simp [prev_pos l (Nat.pos_of_ne_zero hk0), Pl.implLoop, h1, -List.getD_eq_getElem?_getD]
  · intro h1
    rw [drop_get 0 hlt] at he
    refine ⟨fun h0 => ?_, fun h0 => ⟨k + 1, hlt, ?_, by omega, wrap_succ hlt hl⟩⟩
    · rw [wrap_small (by omega) (by omega)]
      have e : ((k : Int) - 1).toNat = k - 1 := by omega
      rw [e]
      rw [prev_pos l h0] at he
      refine ⟨by omega, by omega, by omega, fun h2 => ?_, fun h2 => ⟨k + 1, hlt, ?_, by omega, wrap_succ hlt hl⟩⟩
      · rw [he]; simp [Pl.implLoop, h1, h2, -List.getD_eq_getElem?_getD]
      · rw [he, prev_pos l (Nat.succ_pos k)]
        simp [Pl.implLoop, h1, Int.not_le.2 h2, -List.getD_eq_getElem?_getD]
    · subst h0
      rw [he, prev_pos l (Nat.succ_pos _)]
      simp [Pl.implLoop, h1, prev_zero, -List.getD_eq_getElem?_getD]
  · rw [he, drop_end (by omega)]
    cases Pl.prev l k <;> rfl)

theorem copy_step {α : Type} (d : α) {l b : List α} {k : Nat} (hk : k < l.length) (hb : b.length = l.length) (ht : b.take k = l.take k) : (b.set k (l.getD k d)).take (k + 1) = l.take (k + 1) := by
  refine List.ext_getElem? fun i => ?_
  have hi := congrArg (fun x => x[i]?) ht
  simp only [List.getElem?_take] at hi ⊢
  by_cases h : i < k
  · rw [if_pos (by omega), if_pos (by omega), List.getElem?_set_ne (by omega)]
    rw [if_pos h, if_pos h] at hi
    exact hi
  · by_cases h' : i = k
    · subst h'
      rw [if_pos (by omega), if_pos (by omega), List.getElem?_set_self (by omega)]
      simp [hk]
    · rw [if_neg (by omega), if_neg (by omega)]
theorem copy_end {α : Type} {l b : List α} {k : Nat} (hk : l.length ≤ k) (hb : b.length = l.length) (ht : b.take k = l.take k) : b = l := by
  rwa [List.take_of_length_le (by omega), List.take_of_length_le (by omega)] at ht

theorem eq_step {α : Type} [DecidableEq α] (d : α) {l m : List α} {k : Nat} (hk : k < l.length) (hm : l.length = m.length) (he : l = m ↔ l.drop k = m.drop k) :
    (¬ l.getD k d = m.getD k d → ¬ l = m) ∧ (l.getD k d = m.getD k d → (l = m ↔ l.drop (k + 1) = m.drop (k + 1))) := by
  rw [drop_get d hk, drop_get (l := m) d (by omega)] at he
  exact ⟨fun h e => h (by have := he.1 e; injection this), fun h => by rw [he, h]; simp⟩

theorem k_eqIntS : SoundC Try.prog K_eqIntS.1 K_eqIntS.2 := sound_of hm CtxOK.nil (fun (l, m) => A_eqIntS l m) (by kernel_rfl) fun (l, m) hl => cast (vc_eqIntS l m) (by
  replace hl : Sz l := hl
  simp [-List.getD_eq_getElem?_getD, and_assoc]
  refine ⟨fun h e => h (by rw [e]), fun h => ⟨⟨0, by simp; omega⟩, fun k hk hlm he => ⟨fun hlt => ⟨hlt, by omega, (eq_step 0 hlt hlm he).1, fun h => ⟨k + 1, hlt, hlm, (eq_step 0 hlt hlm he).2 h, by omega, wrap_succ hlt hl⟩⟩, fun hge => ?_⟩⟩⟩
  rw [drop_end (by omega), drop_end (l := m) (by omega)] at he
  exact he.2 rfl)
end Cg

/-
  The plain law of clauses: both ways to tell one give the same. No condition.
-/
set_option linter.unusedVariables false
set_option linter.unusedSimpArgs false
namespace Pl
open Go

theorem wneg_small {x : Int} (h1 : -9223372036854775807 ≤ x) (h2 : x ≤ 9223372036854775807) : wneg x = -x := by
  unfold wneg
  rw [Cg.wrap_small (by omega) (by omega)]
  omega

theorem specLoop_out {many : Int} (h : ¬ (0 ≤ many ∧ many ≤ 60)) : ∀ (l : List Int) (last : Int), specLoop many last l = false
  | [], last => by
    simp only [specLoop]
    by_cases h1 : many ≥ 0
    · simp [h1]; omega
    · simp [h1]
  | x :: l, last => by
    simp only [specLoop, specLoop_out h l]
    cases (decide (absW x ≤ last) || decide (absW x > many)) <;> rfl

theorem isMark_iff {x many : Int} (h : 0 ≤ many ∧ many ≤ 60) : isMark x many = true ↔ x ≠ 0 ∧ -many ≤ x ∧ x ≤ many := by
  unfold isMark withinI
  rw [wneg_small (by omega) (by omega)]
  simp

theorem varI_eq {x : Int} (h : -60 ≤ x ∧ x ≤ 60) : varI x = if x < 0 then -x else x := by
  unfold varI
  rw [wneg_small (by omega) (by omega)]
  split <;> split <;> omega

theorem absW_eq {x : Int} : absW x = if x < -60 then 61 else if x > 60 then 61 else if x < 0 then -x else x := by
  unfold absW
  split
  · rfl
  split
  · rfl
  split
  · rw [wneg_small (by omega) (by omega)]
  · rfl

theorem loops_none {many : Int} (h : 0 ≤ many ∧ many ≤ 60) : ∀ (l : List Int) (p : Int), (-60 ≤ p ∧ p ≤ 60) → specLoop many (varI p) l = implLoop many (some p) l
  | [], p, hp => by
    simp only [specLoop, implLoop]
    have h1 : decide (many ≥ 0) = true := decide_eq_true h.1
    have h2 : decide (many ≤ 60) = true := decide_eq_true h.2
    rw [h1, h2]; rfl
  | x :: l, p, hp => by
    simp only [specLoop, implLoop]
    have hv := varI_eq hp
    cases hm : isMark x many
    · have hn : ¬ (x ≠ 0 ∧ -many ≤ x ∧ x ≤ many) := fun e => by rw [(isMark_iff h).2 e] at hm; cases hm
      have : absW x ≤ varI p ∨ absW x > many := by
        rw [absW_eq, hv]
        (repeat' split) <;> omega
      have : (decide (absW x ≤ varI p) || decide (absW x > many)) = true := by simpa using this
      rw [this]; rfl
    · have hx := (isMark_iff h).1 hm
      have e : absW x = varI x := by
        rw [absW_eq, varI_eq (by omega)]
        (repeat' split) <;> omega
      have e2 : decide (absW x > many) = false := decide_eq_false (by rw [e, varI_eq (by omega)]; split <;> omega)
      rw [e2, e]
      simp only [Bool.or_false, Bool.not_true, Bool.false_or]
      rw [loops_none h l x (by omega)]

theorem clause_same (l : List Int) (many : Int) : implClause l many = specClause l many := by
  unfold implClause specClause
  by_cases h : 0 ≤ many ∧ many ≤ 60
  · have hw : withinI many 0 60 = true := by simp [withinI, h.1, h.2]
    rw [hw]
    simp only [cond_true]
    cases l with
    | nil =>
      simp only [specLoop, implLoop]
      have h1 : decide (many ≥ 0) = true := decide_eq_true h.1
      have h2 : decide (many ≤ 60) = true := decide_eq_true h.2
      rw [h1, h2]; rfl
    | cons x l =>
      simp only [specLoop, implLoop]
      cases hm : isMark x many
      · have hn : ¬ (x ≠ 0 ∧ -many ≤ x ∧ x ≤ many) := fun e => by rw [(isMark_iff h).2 e] at hm; cases hm
        have : absW x ≤ 0 ∨ absW x > many := by
          rw [absW_eq]
          (repeat' split) <;> omega
        have : (decide (absW x ≤ 0) || decide (absW x > many)) = true := by simpa using this
        rw [this]; rfl
      · have hx := (isMark_iff h).1 hm
        have e : absW x = varI x := by
          rw [absW_eq, varI_eq (by omega)]
          (repeat' split) <;> omega
        have e2 : decide (absW x > many) = false := decide_eq_false (by rw [e, varI_eq (by omega)]; split <;> omega)
        have e3 : decide (absW x ≤ 0) = false := decide_eq_false (by rw [e, varI_eq (by omega)]; split <;> omega)
        rw [e2, e3, e, loops_none h l x (by omega)]
        rfl
  · have hw : withinI many 0 60 = false := by
      simp only [withinI, Bool.and_eq_false_iff, decide_eq_false_iff_not]
      omega
    rw [hw, specLoop_out h]
    rfl
end Pl


/-
  The codes' contracts: rows of rows, values of marks. No condition.
-/
set_option linter.unusedVariables false
set_option linter.unusedSimpArgs false
set_option maxRecDepth 100000
namespace Cg
open Go Go.Proofs

theorem k_szIntS : SoundC Try.prog K_szIntS.1 K_szIntS.2 := sound_of hm CtxOK.nil (fun _ => []) (by kernel_rfl) fun (l, k) hl => cast (vc_szIntS l k) (by
  obtain ⟨h1, h2, h3⟩ : Ml l ∧ Fu k := hl
  rw [wrap_small (by omega) (by omega)]
  simp only [condP_dec, Pl.sz1]
  exact ⟨fun h => by rw [if_pos h], fun h => by rw [if_neg h]⟩)

theorem k_szIntSS : SoundC Try.prog K_szIntSS.1 K_szIntSS.2 := sound_of hm (CtxOK.nil.and k_szIntS) (fun (l, k) => A_szIntSS l k) (by kernel_rfl) fun (l, k) hl => cast (vc_szIntSS l k) (by
  obtain ⟨⟨h1, h2⟩, h3, h4⟩ : MlL l ∧ Fu k := hl
  rw [wrap_small (by omega) (by omega)]
  simp [-List.getD_eq_getElem?_getD, and_assoc]
  refine ⟨fun h => by rw [Pl.szSS, if_pos h], fun h => ⟨⟨0, by simp, _, by omega, by omega, by rw [Pl.szSS, if_neg (by omega)]; rfl, rfl, rfl⟩, fun i b hi h5 h6 he => ⟨fun hlt => ?_, fun hge => ?_⟩⟩⟩
  · rw [drop_get [] hlt] at he
    have hx := h2 (l.getD i []) (by simp [hlt])
    simp only [Pl.szL] at he
    refine ⟨hlt, hx, h5, h6, fun hn => ?_, fun hn => ⟨i + 1, hlt, _, ?_, ?_, ?_, by omega, rfl, by rw [wrap_small (by omega) (by omega)]; simp⟩⟩
    · rw [he]
      unfold Pl.sz1 at hn
      split at hn
      · rename_i h; rw [if_pos h]
      · omega
    · exact hn
    · simp only [Pl.sz1]; split <;> omega
    · rw [he]
      unfold Pl.sz1 at hn ⊢
      split at hn
      · omega
      · rename_i h; rw [if_neg h, if_neg h]
  · rw [he, drop_end (by omega)]
    rfl)

theorem k_eqIntSS : SoundC Try.prog K_eqIntSS.1 K_eqIntSS.2 := sound_of hm (CtxOK.nil.and k_eqIntS) (fun (l, m) => A_eqIntSS l m) (by kernel_rfl) fun (l, m) hl => cast (vc_eqIntSS l m) (by
  obtain ⟨hl, h2⟩ : SzL l := hl
  simp [-List.getD_eq_getElem?_getD, and_assoc]
  refine ⟨fun h e => h (by rw [e]), fun h => ⟨⟨0, by simp; omega⟩, fun k hk hlm he => ⟨fun hlt => ⟨hlt, by omega, h2 _ (by simp [hlt]), (eq_step [] hlt hlm he).1, fun h => ⟨k + 1, hlt, hlm, (eq_step [] hlt hlm he).2 h, by omega, wrap_succ hlt hl⟩⟩, fun hge => ?_⟩⟩⟩
  rw [drop_end (by omega), drop_end (l := m) (by omega)] at he
  exact he.2 rfl)

theorem k_eqBoolS : SoundC Try.prog K_eqBoolS.1 K_eqBoolS.2 := sound_of hm CtxOK.nil (fun (l, m) => A_eqBoolS l m) (by kernel_rfl) fun (l, m) hl => cast (vc_eqBoolS l m) (by
  replace hl : Sz l := hl
  simp [-List.getD_eq_getElem?_getD, and_assoc]
  refine ⟨fun h e => h (by rw [e]), fun h => ⟨⟨0, by simp; omega⟩, fun k hk hlm he => ⟨fun hlt => ⟨hlt, by omega, (eq_step false hlt hlm he).1, fun h => ⟨k + 1, hlt, hlm, (eq_step false hlt hlm he).2 h, by omega, wrap_succ hlt hl⟩⟩, fun hge => ?_⟩⟩⟩
  rw [drop_end (by omega), drop_end (l := m) (by omega)] at he
  exact he.2 rfl)

theorem idx_lt {α : Type} (p : α → Bool) : ∀ l : List α, -1 ≤ Pl.idx p l
  | [] => by simp [Pl.idx]
  | x :: l => by have := idx_lt p l; simp only [Pl.idx]; split <;> (try split) <;> omega

/-- One round of slices.IndexFunc. -/
theorem idx_step {α : Type} (d : α) (p : α → Bool) {l : List α} {k : Nat} (hk : k < l.length) (he : Pl.idx p l = if Pl.idx p (l.drop k) < 0 then -1 else Pl.idx p (l.drop k) + k) :
    (p (l.getD k d) = true → (k : Int) = Pl.idx p l) ∧ (p (l.getD k d) = false → Pl.idx p l = if Pl.idx p (l.drop (k + 1)) < 0 then -1 else Pl.idx p (l.drop (k + 1)) + ((k + 1 : Nat) : Int)) := by
  rw [drop_get d hk] at he
  have := idx_lt p (l.drop (k + 1))
  refine ⟨fun h => ?_, fun h => ?_⟩
  · rw [he]; simp only [Pl.idx, h, if_true]; simp
  · rw [he]
    simp only [Pl.idx, h, Bool.false_eq_true, if_false]
    split
    · simp
    · split <;> omega
theorem idx_init {α : Type} (p : α → Bool) (l : List α) : Pl.idx p l = if Pl.idx p (l.drop 0) < 0 then -1 else Pl.idx p (l.drop 0) + ((0 : Nat) : Int) := by
  have := idx_lt p l
  simp only [List.drop_zero]
  split <;> omega
theorem idx_end {α : Type} (p : α → Bool) {l : List α} {k : Nat} (hk : l.length ≤ k) (he : Pl.idx p l = if Pl.idx p (l.drop k) < 0 then -1 else Pl.idx p (l.drop k) + k) : -1 = Pl.idx p l := by
  rw [he, drop_end (by omega)]; simp [Pl.idx]

theorem idx_any {α : Type} (p : α → Bool) : ∀ l : List α, decide (Pl.idx p l ≥ 0) = l.any p
  | [] => by simp [Pl.idx]
  | x :: l => by
    have h := idx_any p l
    have := idx_lt p l
    simp only [Pl.idx, List.any_cons]
    by_cases hp : p x = true
    · simp [hp]
    · simp only [hp, Bool.false_eq_true, if_false, Bool.false_or]
      rw [← h]
      by_cases hq : Pl.idx p l < 0
      · rw [if_pos hq, decide_eq_false (by omega), decide_eq_false (by omega)]
      · rw [if_neg hq, decide_eq_true (by omega), decide_eq_true (by omega)]

end Cg

/-
  The codes' contracts: clause sets. No condition.
-/
set_option linter.unusedVariables false
set_option linter.unusedSimpArgs false
set_option maxRecDepth 100000
namespace Cg
open Go Go.Proofs

theorem all_step {α : Type} (d : α) (p : α → Bool) {F : Bool} {l : List α} {k : Nat} (hk : k < l.length) (he : F = (l.drop k).all p) :
    (p (l.getD k d) = false → F = false) ∧ (p (l.getD k d) = true → F = (l.drop (k + 1)).all p) := by
  rw [drop_get d hk] at he
  exact ⟨fun h => by rw [he, List.all_cons, h]; rfl, fun h => by rw [he, List.all_cons, h]; rfl⟩
theorem all_end {α : Type} {p : α → Bool} {F : Bool} {l : List α} {k : Nat} (hk : l.length ≤ k) (he : F = (l.drop k).all p) : F = true := by
  rw [he, drop_end (by omega)]; rfl

theorem szL_neg : ∀ (l : List (List Int)) (k : Int), 0 ≤ k → True → Pl.szL l k < 0 → -1 = Pl.szL l k
  | [], k, h, _, h' => by simp only [Pl.szL] at h'; omega
  | x :: xs, k, h, _, h' => by
    simp only [Pl.szL] at h' ⊢
    split at h'
    · rename_i h2; rw [if_pos h2]
    · rename_i h2; rw [if_neg h2]; exact szL_neg xs _ (by omega) trivial h'

theorem k_szCnf : SoundC Try.prog K_szCnf.1 K_szCnf.2 := sound_of hm (CtxOK.nil.and k_szIntSS) (fun _ => []) (by kernel_rfl) fun (c, k) hl => cast (vc_szCnf c k) (by
  obtain ⟨h1, h2⟩ : MlL c.2 ∧ Fu k := hl
  simp [and_assoc]
  refine ⟨h1.1, h1.2, h2.1, h2.2, fun h => ?_⟩
  unfold Pl.szSS at h ⊢
  split at h
  · rename_i h'; rw [if_pos h']
  · rename_i h'; rw [if_neg h']; exact szL_neg _ _ (by omega) trivial h)

theorem k_eqCnf : SoundC Try.prog K_eqCnf.1 K_eqCnf.2 := sound_of hm (CtxOK.nil.and k_eqIntSS) (fun _ => []) (by kernel_rfl) fun (c, d) hl => cast (vc_eqCnf c d) (by
  replace hl : SzL c.2 := hl
  obtain ⟨c1, c2⟩ := c
  obtain ⟨d1, d2⟩ := d
  simp [and_assoc]
  exact ⟨fun h h' => absurd h' h, fun h => ⟨hl.1, hl.2, fun h' _ => h', fun h' => ⟨h, h'⟩⟩⟩)

theorem k_sCnfOk : SoundC Try.prog K_sCnfOk.1 K_sCnfOk.2 := sound_of hm (CtxOK.nil.and k_sClauseOk) A_sCnfOk (by kernel_rfl) fun (c : Pl.Cnf) (hl : SzL c.2) => cast (vc_sCnfOk c) (by
  obtain ⟨hl, h2⟩ := hl
  obtain ⟨c1, c2⟩ := c
  simp [-List.getD_eq_getElem?_getD, and_assoc]
  have he0 : 0 ≤ c1 → c1 ≤ 60 → (c2.length : Int) ≤ 400 → Pl.cnfOk (c1, c2) = c2.all fun y => Pl.specClause y c1 := fun h h' h'' => by
    simp [Pl.cnfOk, h, h', show c2.length ≤ 400 by omega]
  refine ⟨fun h => by simp [Pl.cnfOk, show ¬ 0 ≤ c1 by omega], fun h => ⟨fun h1 => by simp [Pl.cnfOk, show ¬ c1 ≤ 60 by omega], fun h1 => ⟨fun h3 => by simp [Pl.cnfOk, show ¬ c2.length ≤ 400 by omega], fun h3 => ⟨⟨0, by simp, by simpa using he0 h h1 h3, rfl⟩, fun k hk he => ⟨fun hlt => ⟨hlt, h2 _ (getD_mem [] hlt), (all_step [] _ hlt he).1, fun h4 => ⟨k + 1, hlt, (all_step [] _ hlt he).2 h4, by omega, wrap_succ hlt hl⟩⟩, fun hge => all_end hge he⟩⟩⟩⟩⟩)

theorem k_CnfOk1 : SoundC Try.prog K_CnfOk1.1 K_CnfOk1.2 := sound_of hm (CtxOK.nil.and k_iClauseOk) (fun _ => []) (by kernel_rfl) fun (l, c) hl => cast (vc_CnfOk1 l c) (by
  replace hl : Sz l := hl
  simp [and_assoc, hl, Pl.clause_same])

theorem k_IndexCnfOk : SoundC Try.prog K_IndexCnfOk.1 K_IndexCnfOk.2 := sound_of hm (CtxOK.nil.and k_CnfOk1) (fun (l, c) => A_IndexCnfOk l c) (by kernel_rfl) fun (l, c) hl => cast (vc_IndexCnfOk l c) (by
  obtain ⟨hl, h2⟩ : SzL l := hl
  obtain ⟨c1, c2⟩ := c
  simp [-List.getD_eq_getElem?_getD, and_assoc]
  exact ⟨⟨0, by simp, idx_init _ _, rfl⟩, fun k hk he => ⟨fun hlt => ⟨hlt, h2 _ (getD_mem [] hlt), fun h => (idx_step [] _ hlt he).1 (by simp [h, -List.getD_eq_getElem?_getD]), fun h => ⟨k + 1, hlt, (idx_step [] _ hlt he).2 (by simp [h, -List.getD_eq_getElem?_getD]), by omega, wrap_succ hlt hl⟩⟩, fun hge => idx_end _ hge he⟩⟩)

theorem k_ContainsCnfOk : SoundC Try.prog K_ContainsCnfOk.1 K_ContainsCnfOk.2 := sound_of hm (CtxOK.nil.and k_IndexCnfOk) (fun _ => []) (by kernel_rfl) fun (l, c) hl => cast (vc_ContainsCnfOk l c) (by
  replace hl : SzL l := hl
  obtain ⟨c1, c2⟩ := c
  simp only [idx_any]
  simp [and_assoc]
  exact hl)

theorem k_iCnfOk : SoundC Try.prog K_iCnfOk.1 K_iCnfOk.2 := sound_of hm ((CtxOK.nil.and k_ContainsCnfOk).and k_within) (fun _ => []) (by kernel_rfl) fun (c : Pl.Cnf) (hl : SzL c.2) => cast (vc_iCnfOk c) (by
  obtain ⟨c1, c2⟩ := c
  simp [and_assoc]
  have e : Pl.withinI c1 0 60 = (decide (0 ≤ c1) && decide (c1 ≤ 60)) := rfl
  refine ⟨fun h => by rw [e] at h; simp [Pl.cnfOk, h], fun h => ⟨fun h1 => by simp [Pl.cnfOk, show ¬ c2.length ≤ 400 by omega], fun h1 => ⟨hl.1, hl.2, ?_⟩⟩⟩
  rw [e] at h
  simp [Pl.cnfOk, h, show c2.length ≤ 400 by omega, List.any_eq_not_all_not])

theorem szL_le : ∀ (l : List (List Int)) (k : Int), k ≤ 1048576 → 0 ≤ Pl.szL l k → ∀ x ∈ l, x.length ≤ 1048576
  | [], _, _, _, x, h => by cases h
  | y :: l, k, hk, h, x, hx => by
    simp only [Pl.szL] at h
    split at h
    · omega
    · rename_i hn
      cases List.mem_cons.1 hx with
      | inl e => subst e; omega
      | inr e => exact szL_le l (k - y.length) (by omega) h x e
theorem szSS_le {l : List (List Int)} {k : Int} (hk : k ≤ 1048576) (h : 0 ≤ Pl.szSS l k) : SzL l := by
  unfold Pl.szSS at h
  split at h
  · exact absurd h (by decide)
  · have := szL_le l (k - l.length) (by omega) (by omega)
    exact ⟨by omega, fun x hx => by have := this x hx; omega⟩
end Cg

/-
  The codes' contracts: rows of numbers that are marked. No condition.
-/
set_option linter.unusedVariables false
set_option linter.unusedSimpArgs false
set_option maxRecDepth 100000
namespace Pl
theorem take_more {α : Type} (d : α) {l : List α} {i : Nat} (h : i < l.length) : l.take (i + 1) = l.take i ++ [l.getD i d] := by
  rw [List.take_add_one]
  simp [h]
@[simp] theorem seqI_len (k : Int) (n : Nat) : (seqI k n).length = n := by unfold seqI; simp
theorem seqI_succ (k : Int) (n : Nat) : seqI k (n + 1) = seqI k n ++ [k + n] := by unfold seqI; rw [List.range_succ, List.map_append]; rfl
@[simp] theorem heldI_seq (k : Int) (n : Nat) : heldI (seqI k n) k = k + n := by unfold heldI; rw [seqI_len, if_pos rfl]
theorem seqI_get {k : Int} {n x : Nat} (h : x < n) : (seqI k n).getD x 0 = k + x := by unfold seqI; simp [h]
end Pl
namespace Cg
open Go Go.Proofs Pl
theorem IsX_ints {v : List Int} : IsX (.sl v.length 1 (cI v)) (ints v) := ⟨rfl, rfl, fun i hi j hj => EncN.eI.self _ hj⟩
@[simp] theorem xrII_self {l : List (List Int)} : IsO (xrII l) (xrII l) := ⟨rfl, rfl, fun i hi j hj => IsX_ints⟩
theorem k_toIntSO : SoundC Try.prog K_toIntSO.1 K_toIntSO.2 := sound_of hm CtxOK.nil A_toIntS (by kernel_rfl) fun (l : List Int) (hl : Sz l) => (by
  rw [← vc_toIntSO l]
  simp [-List.getD_eq_getElem?_getD, -List.mem_cons, -Bool.forall_bool, -Bool.exists_bool, and_assoc, peta, tl_inj, ex_1, ex_2, ex_3, ex_4, ex_5, ex_6, ex_7, ex_8, ex_9, ey_2, ey_3, ey_4, ey_5, ey_6, ey_7, ey_8, ey_9]
  refine ⟨by omega, by omega, ⟨0, by simp, List.replicate l.length 0, by simp, by simp, by simp, by simp, ints_make⟩, fun k b hk hb ht => ⟨fun hlt => ⟨hlt, by omega, k + 1, hlt, b.set k (l.getD k 0), by simp [hb], copy_step 0 hlt hb ht, by omega, by simp, wrap_succ hlt hl, ints_set⟩, fun hge => ?_⟩⟩
  have e := copy_end hge hb ht
  exact ⟨hb, .inr e⟩)
theorem k_markIntS : SoundC Try.prog K_markIntS.1 K_markIntS.2 := sound_of hm CtxOK.nil (fun (l, r, k) => A_markIntS l r k) (by kernel_rfl) fun (l, r, k) hl => (by
  obtain ⟨h1, h2, h3⟩ : Sz l ∧ 0 ≤ k ∧ k ≤ 1099511627776 := hl
  rw [← vc_markIntS l r k]
  simp [-List.getD_eq_getElem?_getD, -List.mem_cons, -Bool.forall_bool, -Bool.exists_bool, and_assoc, peta, tl_inj, ex_1, ex_2, ex_3, ex_4, ex_5, ex_6, ex_7, ex_8, ex_9, ey_2, ey_3, ey_4, ey_5, ey_6, ey_7, ey_8, ey_9]
  refine ⟨⟨0, by omega, by omega, rfl, .inr (by simp [Pl.seqI])⟩, fun x hx => ⟨fun hlt => ⟨hlt, by omega, x + 1, by omega, by omega, by rw [wrap_small (by omega) (by omega)]; omega, wrap_succ hlt h1, ?_⟩, fun hge => ?_⟩⟩
  · have hll : (l ++ r).length = l.length + r.length := List.length_append
    have hL : x + (l.length + r.length - x) = (Pl.seqI k x ++ List.drop x (l ++ r)).length := by simp
    have e : Pl.seqI k (x + 1) ++ List.drop (x + 1) (l ++ r) = (Pl.seqI k x ++ List.drop x (l ++ r)).set x (k + x) := by
      rw [drop_get 0 (by omega : x < (l ++ r).length), List.set_append_right _ _ (by simp), Pl.seqI_len, Nat.sub_self, List.set_cons_zero, Pl.seqI_succ, List.append_assoc]
      rfl
    rw [hL, e]
    exact ints_set
  · have hx' : x = l.length := by omega
    subst hx'
    exact ⟨rfl, .inr (by rw [List.drop_left])⟩)
theorem k_heldIntS : SoundC Try.prog K_heldIntS.1 K_heldIntS.2 := sound_of hm CtxOK.nil (fun (l, k) => A_heldIntS l k) (by kernel_rfl) fun (l, k) hl => (by
  obtain ⟨h1, h2, h3⟩ : Sz l ∧ 0 ≤ k ∧ k ≤ 1099511627776 := hl
  rw [← vc_heldIntS l k]
  simp [-List.getD_eq_getElem?_getD, -List.mem_cons, -Bool.forall_bool, -Bool.exists_bool, and_assoc, peta, tl_inj, ex_1, ex_2, ex_3, ex_4, ex_5, ex_6, ex_7, ex_8, ex_9, ey_2, ey_3, ey_4, ey_5, ey_6, ey_7, ey_8, ey_9]
  refine ⟨⟨0, by omega, by simp [Pl.seqI], by omega, rfl⟩, fun x hx ht => ⟨fun hlt => ⟨hlt, fun hne => ?_, fun he => ⟨x + 1, by omega, ?_, by omega, by rw [wrap_small (by omega) (by omega)]; omega, wrap_succ hlt h1⟩⟩, fun hge => ?_⟩⟩
  · unfold Pl.heldI
    rw [if_neg fun e => hne (by rw [e]; exact Pl.seqI_get hlt)]
  · rw [Pl.take_more 0 hlt, ht, he, Pl.seqI_succ]
  · have hx' : x = l.length := by omega
    subst hx'
    rw [List.take_length] at ht
    unfold Pl.heldI
    rw [if_pos ht])
end Cg

/-
  The codes' contracts: rows of rows that are marked. No condition.
-/
set_option linter.unusedVariables false
set_option linter.unusedSimpArgs false
set_option maxRecDepth 100000
namespace Pl
theorem sumW_take {l : List (List Int)} {x : Nat} (h : x < l.length) : sumW (l.take (x + 1)) = sumW (l.take x) + (l.getD x []).length := by
  induction l generalizing x with
  | nil => simp at h
  | cons r l ih =>
    cases x with
    | zero => simp [sumW]
    | succ x =>
      have := ih (x := x) (by simpa using h)
      simp only [List.take_succ_cons, sumW, List.getD_cons_succ, this]; omega
theorem sumW_le {l : List (List Int)} (x : Nat) : sumW (l.take x) ≤ sumW l := by
  induction l generalizing x with
  | nil => simp
  | cons r l ih =>
    cases x with
    | zero => simp [sumW]
    | succ x => have := ih x; simp only [List.take_succ_cons, sumW]; omega
@[simp] theorem mksII_len : ∀ (k : Int) (l : List (List Int)), (mksII k l).length = l.length
  | _, [] => rfl
  | k, r :: l => by simp [mksII, mksII_len]
theorem mksII_take {l : List (List Int)} {x : Nat} (k : Int) (h : x < l.length) : mksII k (l.take (x + 1)) = mksII k (l.take x) ++ [seqI (k + sumW (l.take x)) (l.getD x []).length] := by
  induction l generalizing x k with
  | nil => simp at h
  | cons r l ih =>
    cases x with
    | zero => simp [mksII, sumW]
    | succ x =>
      have := ih (x := x) (k + r.length) (by simpa using h)
      simp only [List.take_succ_cons, mksII, sumW, List.getD_cons_succ, this, List.cons_append, List.cons.injEq, true_and]
      congr 3
      omega
theorem mid_getD {l : List (List Int)} {x : Nat} (k : Int) (h : x < l.length) : (mksII k (l.take x) ++ l.drop x).getD x [] = l.getD x [] := by
  have h1 : (mksII k (l.take x)).length = x := by simp; omega
  simp [List.getD_eq_getElem?_getD, List.getElem?_append_right, h1, Nat.le_of_lt h]
theorem mid_set {l : List (List Int)} {x : Nat} (k : Int) (h : x < l.length) : (mksII k (l.take x) ++ l.drop x).set x (seqI (k + sumW (l.take x)) (l.getD x []).length) = mksII k (l.take (x + 1)) ++ l.drop (x + 1) := by
  have h1 : (mksII k (l.take x)).length = x := by simp; omega
  have h2 : l.drop x = l.getD x [] :: l.drop (x + 1) := by rw [List.drop_eq_getElem_cons h]; simp [h]
  rw [mksII_take k h, List.set_append_right _ _ (by omega), h1, Nat.sub_self, h2, List.set_cons_zero, List.append_assoc]
  rfl
end Pl
namespace Cg
open Go Go.Proofs Pl
theorem k_markOne : SoundE Try.prog Nm.laws_markIntS MaX (fun x => ⟨[.xsl 0 x.2.1 0 (x.1.getD x.2.1 []).length, i64 x.2.2], [xrII x.1]⟩) (fun x => Sz (x.1.getD x.2.1 []) ∧ 0 ≤ x.2.2 ∧ x.2.2 ≤ 1099511627776 ∧ x.2.1 < x.1.length) Unit (fun _ _ => True)
    fun x _ => (i64 (x.2.2 + (x.1.getD x.2.1 []).length), [.xarr x.1.length 1 (fillX (cII x.1) x.2.1 0 (ints (seqI x.2.2 (x.1.getD x.2.1 []).length)))]) := by
  have base : SoundE Try.prog Nm.laws_markIntS (List Int × Int) (fun x => ⟨.osl 0 0 x.1.length :: [i64 x.2], [.arr x.1.length 1 (cI x.1)]⟩) (fun x => Sz x.1 ∧ 0 ≤ x.2 ∧ x.2 ≤ 1099511627776) Unit (fun _ _ => True)
      fun x _ => (i64 (x.2 + x.1.length), [.arr x.1.length 1 (cI (seqI x.2 x.1.length))]) := fun x hp S μ w vals hok hrel => by
    have hok' : HOK S μ w [arI (x.1 ++ [])] := by rw [List.append_nil]; exact hok
    have := k_markIntS.2 (x.1, [], x.2) hp S μ w vals hok' hrel
    refine this.mono fun e w' ⟨v, y, S', μ', h1, h2, h3, h4⟩ => ⟨v, y, S', μ', h1, h2, ?_, h4⟩
    have h3' : Evo S μ [arI (x.1 ++ [])] w S' μ' [arI (seqI x.2 x.1.length ++ [])] w' := h3
    rw [List.append_nil, List.append_nil] at h3'
    have e : arI (seqI x.2 x.1.length) = AObj.arr x.1.length 1 (cI (seqI x.2 x.1.length)) := by
      show AObj.arr (seqI x.2 x.1.length).length 1 _ = _
      rw [seqI_len]
      rfl
    rw [e] at h3'
    exact h3'
  have := SoundE.at base (fun _ => rfl) (fun _ _ => rfl) (X' := MaX) (fun x => (x.1.getD x.2.1 [], x.2.2)) (fun x => x.1.length) (fun _ => 1) (fun x => x.2.1) (fun _ => 0) (fun x => cII x.1)
  intro x hp
  have q := this x ⟨⟨hp.1, hp.2.1, hp.2.2.1⟩, hp.2.2.2, by omega, rfl⟩
  intro S μ w vals hok hrel
  refine (q S μ w vals hok hrel).mono fun e w' ⟨v, y, S', μ', h1, h2, h3, h4⟩ => ⟨v, y, S', μ', h1, trivial, ?_, h4⟩
  have h3' : Evo S μ [xrII x.1] w S' μ' [.xarr x.1.length 1 (fillX (cII x.1) x.2.1 0 (.sl (x.1.getD x.2.1 []).length 1 (cI (seqI x.2.2 (x.1.getD x.2.1 []).length))))] w' := h3
  have e : AV.sl (x.1.getD x.2.1 []).length 1 (cI (seqI x.2.2 (x.1.getD x.2.1 []).length)) = ints (seqI x.2.2 (x.1.getD x.2.1 []).length) := by
    show _ = AV.sl (seqI x.2.2 (x.1.getD x.2.1 []).length).length 1 _
    rw [seqI_len]
    rfl
  rw [e] at h3'
  exact h3'
set_option maxHeartbeats 8000000 in
theorem g_markIntSS (l : List (List Int)) (k : Int) (h1 : SzL l) (h2 : 0 ≤ k) (h3 : k + sumW l ≤ 1099511627776) : GoalW Try.prog [K_markAt] (A_markIntSS l k) K_markIntSS.1 K_markIntSS.2 ((l, k)) := GoalW.of (vc_markIntSS l k) (by
  simp (maxSteps := 2000000) [-List.getD_eq_getElem?_getD, -List.mem_cons, -Bool.forall_bool, -Bool.exists_bool, and_assoc, peta, tl_inj, ex_1, ex_2, ex_3, ex_4, ex_5, ex_6, ex_7, ex_8, ex_9, ey_2, ey_3, ey_4, ey_5, ey_6, ey_7, ey_8, ey_9]
  have hl : l.length ≤ 4294967296 := h1.1
  refine ⟨⟨0, Nat.zero_le _, by simp [sumW], rfl, xrII_self⟩, fun x hx => ⟨fun hlt => ⟨hlt, by omega, mksII k (l.take x) ++ l.drop x, ?_⟩, fun hge => ?_⟩⟩
  · have e1 := mid_getD k hlt
    have e2 : (l.getD x []).length ≤ 4294967296 := h1.2 _ (getD_mem [] hlt)
    have e3 := sumW_take hlt
    have e4 := sumW_le (l := l) (x + 1)
    have e5 : (mksII k (l.take x) ++ l.drop x).length = l.length := by simp; omega
    rw [e1]
    refine ⟨e2, by omega, by omega, by omega, rfl, xrII_self, x + 1, hlt, by omega, by omega, wrap_small (by omega) (by omega), ?_⟩
    rw [mid_set k hlt]
    exact xrII_self
  · rw [List.take_of_length_le hge, List.drop_eq_nil_of_le hge, List.append_nil]
    exact ⟨rfl, xrII_self⟩)
theorem Evo.xarr {S S' : Nat → Prop} {μ μ' : Nat → OI} {H : List AObj} {w w' : World} {n e : Nat} {c c' : Nat → Nat → AV} (h : Evo S μ H w S' μ' [.xarr n e c] w') (hc : ∀ i, i < n → ∀ j, j < e → c i j = c' i j) : Evo S μ H w S' μ' [.xarr n e c'] w' := by
  have own : ∀ {o b : Nat}, Own μ' [.xarr n e c'] o b → Own μ' [.xarr n e c] o b := fun {o b} ⟨x, hx, hb⟩ => by
    cases o with
    | succ o => simp at hx
    | zero => cases hx; exact ⟨_, rfl, hb⟩
  refine { sub := h.sub, new := h.new, mu := h.mu, len := h.len, kept := h.kept, mine := fun o b hb => h.mine o b (own hb), hok := { obj := fun o x ho => ?_, ids := fun o cs ho => ?_, seps := fun o o' b hne h1 h2 => h.hok.seps o o' b hne (own h1) (own h2), owns := fun o b hb => h.hok.owns o b (own hb), inS := h.hok.inS, gl := h.hok.gl } }
  · cases o with
    | succ o => simp at ho
    | zero =>
      cases ho
      obtain ⟨h1, h2, h3⟩ := h.hok.obj 0 _ rfl
      refine ⟨h1, h2, ?_⟩
      cases hb : (μ' 0).b with
      | none => rw [hb] at h3; exact h3
      | some b =>
        rw [hb] at h3
        obtain ⟨h4, C, T, h5, h6, h7⟩ := h3
        refine ⟨h4, C, T, h5, h6, fun i hi j hj => ?_⟩
        obtain ⟨x, e1, e2⟩ := h7 i hi j hj
        exact ⟨x, e1, by rw [← hc i hi j hj]; exact e2⟩
  · cases o with
    | succ o => simp at ho
    | zero => cases ho
theorem k_markAt : SoundC Try.prog K_markAt.1 K_markAt.2 := ⟨callable_of (by kernel_rfl), fun x hp S μ w vals hok hrel => (k_markOne x hp S μ w vals hok hrel).mono fun e w' ⟨v, y, S', μ', h1, h2, h3, h4⟩ => ⟨v, y, S', μ', h1, h2, by
  obtain ⟨l, i, k⟩ := x
  have hi : i < l.length := hp.2.2.2
  have q := Evo.xarr (c' := cII (l.set i (seqI k (l.getD i []).length))) h3 fun i' hi' j hj => by
    obtain rfl : j = 0 := by omega
    by_cases e : i' = i
    · subst e
      rw [fillX_at]
      show _ = ints ((l.set i' (seqI k (l.getD i' []).length)).getD i' [])
      simp [List.getD_eq_getElem?_getD, hi]
    · rw [fillX_ne (fun h => e h.1)]
      show ints (l.getD i' []) = ints ((l.set i (seqI k (l.getD i []).length)).getD i' [])
      simp [List.getD_eq_getElem?_getD, List.getElem?_set, Ne.symm e]
  have e : xrII (l.set i (seqI k (l.getD i []).length)) = .xarr l.length 1 (cII (l.set i (seqI k (l.getD i []).length))) := by
    show AObj.xarr (l.set i (seqI k (l.getD i []).length)).length 1 _ = _
    rw [List.length_set]
    rfl
  show Evo S μ [xrII l] w S' μ' [xrII (l.set i (seqI k (l.getD i []).length))] w'
  rw [e]
  exact q, h4⟩⟩
theorem k_markIntSS : SoundC Try.prog K_markIntSS.1 K_markIntSS.2 := sound_ofW hm (CtxOK.nil.and k_markAt) (fun (x : MsX) => A_markIntSS x.1 x.2) (by kernel_rfl) fun (x : MsX) hb => g_markIntSS x.1 x.2 hb.1 hb.2.1 hb.2.2
@[simp] theorem seqB_len (k : Int) (n : Nat) : (seqB k n).length = n := by unfold seqB; simp
theorem seqB_succ (k : Int) (n : Nat) : seqB k (n + 1) = seqB k n ++ [decide ((k + n).tmod 3 = 0)] := by unfold seqB; rw [List.range_succ, List.map_append]; rfl
theorem seqB_get {k : Int} {n x : Nat} (h : x < n) : (seqB k n).getD x false = decide ((k + x).tmod 3 = 0) := by unfold seqB; simp [h]
theorem mksII_pre : ∀ (k : Int) (l : List (List Int)) (n : Nat), (mksII k l).take n = mksII k (l.take n)
  | k, [], n => by simp [mksII]
  | k, r :: l, 0 => by simp [mksII]
  | k, r :: l, n + 1 => by simp [mksII, mksII_pre (k + r.length) l n]
theorem mksII_at {l : List (List Int)} {k : Int} {x : Nat} (h : l = mksII k l) (hx : x < l.length) : l.getD x [] = seqI (k + sumW (l.take x)) (l.getD x []).length := by
  have e1 : l.take (x + 1) = mksII k (l.take (x + 1)) := by rw [← mksII_pre, ← h]
  have e0 : l.take x = mksII k (l.take x) := by rw [← mksII_pre, ← h]
  rw [mksII_take k hx, take_more [] hx, ← e0] at e1
  have := List.append_cancel_left e1
  simpa using this
set_option maxHeartbeats 8000000 in
theorem g_heldIntSS (l : List (List Int)) (k : Int) (h1 : SzL l) (h2 : 0 ≤ k) (h3 : k + sumW l ≤ 1099511627776) : GoalW Try.prog [K_heldIntS] (A_heldIntSS l k) K_heldIntSS.1 K_heldIntSS.2 ((l, k)) := GoalW.of (vc_heldIntSS l k) (by
  simp (maxSteps := 2000000) [-List.getD_eq_getElem?_getD, -List.mem_cons, -Bool.forall_bool, -Bool.exists_bool, and_assoc, peta, tl_inj, ex_1, ex_2, ex_3, ex_4, ex_5, ex_6, ex_7, ex_8, ex_9, ey_2, ey_3, ey_4, ey_5, ey_6, ey_7, ey_8, ey_9]
  have hl : l.length ≤ 4294967296 := h1.1
  refine ⟨⟨0, Nat.zero_le _, by simp [mksII], by simp [sumW], rfl⟩, fun x hx ht => ⟨fun hlt => ?_, fun hge => ?_⟩⟩
  · have e2 : (l.getD x []).length ≤ 4294967296 := h1.2 _ (getD_mem [] hlt)
    have e3 := sumW_take hlt
    have e4 := sumW_le (l := l) (x + 1)
    refine ⟨hlt, e2, by omega, by omega, fun hn => ?_, fun hn => ?_⟩
    · unfold heldII
      rw [if_neg fun e => ?_]
      have := mksII_at e hlt
      unfold heldI at hn
      rw [if_pos this] at hn
      omega
    · unfold heldI at hn ⊢
      by_cases e : l.getD x [] = seqI (k + sumW (l.take x)) (l.getD x []).length
      · rw [if_pos e]
        refine ⟨x + 1, hlt, ?_, by omega, by omega, wrap_small (by omega) (by omega)⟩
        rw [mksII_take k hlt, take_more [] hlt, ← ht, ← e]
      · rw [if_neg e] at hn; omega
  · rw [List.take_of_length_le hge] at ht ⊢
    unfold heldII
    rw [if_pos ht])
theorem k_heldIntSS : SoundC Try.prog K_heldIntSS.1 K_heldIntSS.2 := sound_ofW hm (CtxOK.nil.and k_heldIntS) (fun ((l, k) : MsX) => A_heldIntSS l k) (by kernel_rfl) fun ((l, k) : MsX) hb => g_heldIntSS l k hb.1 hb.2.1 hb.2.2
set_option maxHeartbeats 8000000 in
theorem g_markBoolS (l r : List Bool) (k : Int) (h1 : Sz l) (h2 : 0 ≤ k) (h3 : k ≤ 1099511627776) : GoalW Try.prog [] (A_markBoolS l r k) K_markBoolS.1 K_markBoolS.2 ((l, r, k)) := GoalW.of (vc_markBoolS l r k) (by
  simp (maxSteps := 2000000) [-List.getD_eq_getElem?_getD, -List.mem_cons, -Bool.forall_bool, -Bool.exists_bool, and_assoc, peta, tl_inj, ex_1, ex_2, ex_3, ex_4, ex_5, ex_6, ex_7, ex_8, ex_9, ey_2, ey_3, ey_4, ey_5, ey_6, ey_7, ey_8, ey_9]
  have h1 : l.length ≤ 4294967296 := h1
  refine ⟨⟨0, by omega, by omega, rfl, .inr (by simp [seqB])⟩, fun x hx => ⟨fun hlt => ⟨hlt, by omega, x + 1, by omega, by omega, by rw [wrap_small (by omega) (by omega)]; omega, wrap_small (by omega) (by omega), ?_⟩, fun hge => ?_⟩⟩
  · have hll : (l ++ r).length = l.length + r.length := List.length_append
    have hL : x + (l.length + r.length - x) = (seqB k x ++ List.drop x (l ++ r)).length := by simp
    have e : seqB k (x + 1) ++ List.drop (x + 1) (l ++ r) = (seqB k x ++ List.drop x (l ++ r)).set x ((k + x).tmod 3 == 0) := by
      rw [drop_get false (by omega : x < (l ++ r).length), List.set_append_right _ _ (by simp), seqB_len, Nat.sub_self, List.set_cons_zero, seqB_succ, List.append_assoc]
      rfl
    rw [hL, e]
    exact bools_set
  · have hx' : x = l.length := by omega
    subst hx'
    exact ⟨rfl, .inr (by rw [List.drop_left])⟩)
theorem k_markBoolS : SoundC Try.prog K_markBoolS.1 K_markBoolS.2 := sound_ofW hm CtxOK.nil (fun ((l, r, k) : MbX) => A_markBoolS l r k) (by kernel_rfl) fun ((l, r, k) : MbX) hb => g_markBoolS l r k hb.1 hb.2.1 hb.2.2
set_option maxHeartbeats 8000000 in
theorem g_heldBoolS (l : List Bool) (k : Int) (h1 : Sz l) (h2 : 0 ≤ k) (h3 : k ≤ 1099511627776) : GoalW Try.prog [] (A_heldBoolS l k) K_heldBoolS.1 K_heldBoolS.2 ((l, k)) := GoalW.of (vc_heldBoolS l k) (by
  simp (maxSteps := 2000000) [-List.getD_eq_getElem?_getD, -List.mem_cons, -Bool.forall_bool, -Bool.exists_bool, and_assoc, peta, tl_inj, ex_1, ex_2, ex_3, ex_4, ex_5, ex_6, ex_7, ex_8, ex_9, ey_2, ey_3, ey_4, ey_5, ey_6, ey_7, ey_8, ey_9]
  have h1 : l.length ≤ 4294967296 := h1
  refine ⟨⟨0, by omega, by simp [seqB], by omega, rfl⟩, fun x hx ht => ⟨fun hlt => ⟨hlt, fun hne => ?_, fun he => ⟨x + 1, by omega, ?_, by omega, by rw [wrap_small (by omega) (by omega)]; omega, wrap_small (by omega) (by omega)⟩⟩, fun hge => ?_⟩⟩
  · unfold heldB
    rw [if_neg fun e => hne (by rw [e]; exact (seqB_get hlt).trans rfl)]
  · rw [take_more false hlt, ht, he, seqB_succ]
    rfl
  · have hx' : x = l.length := by omega
    subst hx'
    rw [List.take_length] at ht
    unfold heldB
    rw [if_pos ht])
theorem k_heldBoolS : SoundC Try.prog K_heldBoolS.1 K_heldBoolS.2 := sound_ofW hm CtxOK.nil (fun ((l, k) : List Bool × Int) => A_heldBoolS l k) (by kernel_rfl) fun ((l, k) : List Bool × Int) hb => g_heldBoolS l k hb.1 hb.2.1 hb.2.2
end Cg

/-
  The codes' contracts: rows of rows of numbers that a function owns, inner rows too. No condition.
-/
set_option linter.unusedVariables false
set_option linter.unusedSimpArgs false
set_option maxRecDepth 100000
namespace Cg
open Go Go.Proofs Go.RowKit Pl
theorem hok_nil {S : Nat → Prop} {w : World} (hin : ∀ b, S b → b < w.heap.size) (hgl : Gl S w) : HOK S mu0 w [] :=
  { obj := fun o x h => by simp at h, ids := fun o cs h => by simp at h, seps := fun o o' b _ h => by obtain ⟨x, h, _⟩ := h; simp at h, owns := fun o b h => by obtain ⟨x, h, _⟩ := h; simp at h, inS := hin, gl := hgl }
/-- What a call leaves that hands back a row of its own. -/
def NewRow (S : Nat → Prop) (c : List Int) (wr : World) (e : Ending) (W : World) : Prop :=
  ∃ a cap q, e = .returned (.slice a c.length cap) ∧ Ext wr W ∧ RelN S W q c.length 1 (fun i _ => i64 (c.getD i 0)) (.slice a c.length cap) ∧ ∀ u, q = some u → wr.heap.size ≤ u.b ∧ u.b < W.heap.size
theorem call_toIntS {S : Nat → Prop} {c : List Int} (hc : Sz c) {wr : World} {x : Value} (hin : ∀ b, S b → b < wr.heap.size) (hgl : Gl S wr) (hx : RelI S wr (ints c) x) :
    Calls Try.prog 9 #[x] wr (NewRow S c wr) :=
  ((k_toIntSO.2 c hc S mu0 wr [x] (hok_nil hin hgl) ⟨x, [], rfl, hx, rfl⟩)).mono fun e W ⟨v, _, S1, μ1, he, _, hev, hr⟩ => by
    have hx : Ext wr W := ⟨hev.kept.os, hev.kept.tape, hev.kept.output, hev.kept.size, fun b hb => hev.kept.block b hb fun ⟨o, x, h, _⟩ => by simp at h⟩
    obtain ⟨hesz, hob⟩ := hev.hok.obj 0 (arI c) rfl
    unfold Rel at hr
    cases hb : (μ1 0).b with
    | none =>
      rw [hb] at hr hob
      obtain ⟨_, hn, a, rfl⟩ := hr
      have hn : c.length = 0 := hn
      exact ⟨a, 0, none, by rw [he, hn], hx, ⟨hn, a, by rw [hn]⟩, fun u hu => by cases hu⟩
    | some b =>
      rw [hb] at hr hob
      obtain ⟨hcap, C, T, hh, hsz, hel⟩ := hob
      obtain ⟨_, a, rfl, ha⟩ := hr
      have own : Own μ1 [arI c] 0 b := ⟨arI c, rfl, hb⟩
      have hnew : wr.heap.size ≤ b := (hev.mine 0 b own).resolve_right fun ⟨o, x, h, _⟩ => by simp at h
      by_cases h0 : 0 < (μ1 0).cap
      · have ha := ha h0
        rw [Nat.zero_mul, Nat.add_zero] at ha
        subst ha
        refine ⟨_, (μ1 0).cap, some ⟨b, (μ1 0).base, (μ1 0).cap, c.length⟩, he, hx, ⟨rfl, hcap, rfl, C, T, hh, hsz, fun i hi j hj => ?_⟩, fun u hu => by cases hu; exact ⟨hnew, (hev.hok.owns 0 b own).2⟩⟩
        obtain ⟨y, h1, h2⟩ := hel i hi j hj
        exact ⟨y, h1, h2⟩
      · have hn : c.length = 0 := by have : c.length ≤ (μ1 0).cap := hcap; omega
        have hc0 : (μ1 0).cap - 0 = 0 := by omega
        exact ⟨some a, 0, none, by rw [he, hc0], hx, ⟨hn, some a, by rw [hn]⟩, fun u hu => by cases hu⟩
theorem Below.ext' {w w' : World} (h : Below w.heap.size w w') : Ext w w' := ⟨h.os, h.tape, h.output, h.size, h.block⟩
/-- The first rows are laid in a block, each in a block of its own. -/
def Laid (S : Nat → Prop) (l : List (List Int)) (w : World) (b0 k : Nat) (wr : World) : Prop := ∃ (iq : Nat → Option Inn) (C : Array Value),
  wr.heap[b0]? = some (.cells C 25 (0, 0)) ∧ C.size = l.length ∧
  (∀ i, i < k → ∃ x, C[i]? = some x ∧ RelN S wr (iq i) (l.getD i []).length 1 (fun j _ => i64 ((l.getD i []).getD j 0)) x) ∧
  (∀ i u, iq i = some u → i < k ∧ b0 < u.b ∧ u.b < wr.heap.size) ∧ (∀ i j u v, iq i = some u → iq j = some v → u.b = v.b → i = j)
theorem RelN_kept {S : Nat → Prop} {w w' : World} {q : Option Inn} {n : Nat} {c : List Int} {y : Value} (hw : ∀ u, q = some u → w'.heap[u.b]? = w.heap[u.b]?) (h : RelN S w q n 1 (fun j _ => i64 (c.getD j 0)) y) : RelN S w' q n 1 (fun j _ => i64 (c.getD j 0)) y := by
  cases q with
  | none => exact h
  | some u =>
    obtain ⟨h1, h2, h3, C, T, h4, h5, h6⟩ := h
    exact ⟨h1, h2, h3, C, T, by rw [hw u rfl]; exact h4, h5, h6⟩
theorem Laid.step {S : Nat → Prop} {l : List (List Int)} {w wr W : World} {b0 k : Nat} {vk : Value} {q : Option Inn} (h : Laid S l w b0 k wr) (hk : k < l.length) (hb0 : b0 < wr.heap.size) (hx : Ext wr W)
    (hq : RelN S W q (l.getD k []).length 1 (fun i _ => i64 ((l.getD k []).getD i 0)) vk) (hu : ∀ u, q = some u → wr.heap.size ≤ u.b ∧ u.b < W.heap.size) :
    Laid S l w b0 (k + 1) (W.setCell ⟨b0, k, none⟩ vk) := by
  obtain ⟨iq, C, h1, h2, h3, h4, h5⟩ := h
  have hW : W.heap[b0]? = some (.cells C 25 (0, 0)) := by rw [hx.block b0 hb0]; exact h1
  have hoth : ∀ b, b ≠ b0 → (W.setCell ⟨b0, k, none⟩ vk).heap[b]? = W.heap[b]? := fun b hb => by
    simp only [World.setCell, Array.getElem?_modify]
    rw [if_neg (fun e => hb e.symm)]
  refine ⟨fun i => if i = k then q else iq i, C.set! k vk, ?_, by simp [h2], fun i hi => ?_, fun i u hiu => ?_, fun i j u v hi hj e => ?_⟩
  · simp only [World.setCell, Array.getElem?_modify, hW]
    simp
  · dsimp only
    by_cases e : i = k
    · subst e
      refine ⟨vk, by rw [Array.set!_eq_setIfInBounds, Array.getElem?_setIfInBounds]; simp [h2, hk], ?_⟩
      rw [if_pos rfl]
      exact RelN_kept (fun u hq' => hoth _ (by have := (hu u hq').1; omega)) hq
    · rw [if_neg e]
      obtain ⟨x, e1, e2⟩ := h3 i (by omega)
      refine ⟨x, ?_, RelN_kept (fun u hq' => ?_) e2⟩
      · rw [← e1, Array.set!_eq_setIfInBounds, Array.getElem?_setIfInBounds, if_neg (Ne.symm e)]
      · have := h4 i u hq'
        rw [hoth _ (by omega), hx.block _ this.2.2]
  · have hsz : (W.setCell ⟨b0, k, none⟩ vk).heap.size = W.heap.size := by simp [World.setCell]
    rw [hsz]
    dsimp only at hiu
    split at hiu
    · have := hu u hiu; omega
    · have := h4 i u hiu
      have := hx.size
      omega
  · dsimp only at hi hj
    split at hi <;> split at hj
    · omega
    · have := hu u hi; have := h4 j v hj; omega
    · have := hu v hj; have := h4 i u hi; omega
    · exact h5 i j u v hi hj e
theorem z_row : (zeroCells Try.prog 25).isSome = true := by kernel_rfl
theorem c_row : Try.prog.cellsOf 25 = 1 := by kernel_rfl
theorem b_row : Try.prog.bytesOf 25 = 24 := by kernel_rfl
set_option maxHeartbeats 1000000 in
theorem w_toIntSS (l : List (List Int)) (h : SzL l) (S : Nat → Prop) (w : World) (v : Value) (hin : ∀ b, S b → b < w.heap.size) (hgl : Gl S w) (hr : RelI S w (intss l) v) :
    Calls Try.prog 26 #[v] w fun e w' => e = .returned (.slice (some ⟨w.heap.size, 0, none⟩) l.length l.length) ∧ Ext w w' ∧ Laid S l w w.heap.size l.length w' := by
  have hl : l.length ≤ 4294967296 := h.1
  obtain ⟨a, cap, rfl, hcap, hc⟩ := hr
  obtain ⟨zs, hzs⟩ := Option.isSome_iff_exists.1 z_row
  obtain ⟨i, z, hi, hz, hcz⟩ := zeroCells_some hzs
  have hisz : i.size = 1 := by have := c_row; unfold Program.cellsOf at this; rw [hi] at this; exact this
  have hib : i.bytes = 24 := by have := b_row; unfold Program.bytesOf at this; rw [hi] at this; exact this
  have hmk := run_make (P := Try.prog) w 22 25 i z Try.underlying22 hi hz .i64 .i64 l.length l.length (by omega) (Int.le_refl _) (by rw [hib]; omega) (by omega)
  rw [Int.toNat_natCast, hisz, Nat.mul_one] at hmk
  obtain ⟨M, hM⟩ : ∃ M, M = madeCells z.cells l.length := ⟨_, rfl⟩
  have hMs : M.size = l.length := by rw [hM]; exact size_madeCells _ _
  rw [← hM] at hmk
  clear hi hz hcz hM hzs
  go_enter Try.func26, Try.ntmps26
  go_wp2
  go_loopw [4] (fun v4 wr => ∃ k : Nat, v4 = .int .i64 (k : Int) ∧ k ≤ l.length ∧ Ext w wr ∧ Laid S l w w.heap.size k wr) (fun v4 wr => match v4 with | .int _ k => l.length - k.toNat | _ => 0)
  case atStart =>
    exact ⟨0, rfl, Nat.zero_le _, Below.ext' ((Below.refl _ w).alloc (Nat.le_refl _) _), fun _ => none, M, heap_alloc_new w _, hMs, fun i hi => by omega, fun i u hu => by simp at hu, fun i j u v hu => by simp at hu⟩
  case round =>
    obtain ⟨k, rfl, hk, hx, hL⟩ := hrel
    by_cases hp : k < l.length
    · obtain ⟨b, off, rfl, hb, c, T, fr, hh, hel⟩ := hc.resolve_left (by omega)
      obtain ⟨x, hx1, hx2⟩ := hel k hp 0 (by omega)
      have hcell : wr.cell? ⟨b, off + k, none⟩ = some x := by
        unfold World.cell?
        rw [hx.block b (hin b hb), hh]
        simpa using hx1
      have hx3 : RelI S wr (ints (l.getD k [])) x := RelI_mono (fun _ h => h) (fun b hs => hx.block b (hin b hs)) _ _ hx2
      have hcall := call_toIntS (h.2 _ (getD_mem [] hp)) (fun b hs => Nat.lt_of_lt_of_le (hin b hs) hx.size) (hgl.mono (fun _ h => h) fun b hs => hx.block b (hin b hs)) hx3
      have hw64 : wrap64 ((k : Int) + 1) = (k : Int) + 1 := (by unfold wrap64; omega)
      obtain ⟨c0, hc0⟩ : ∃ c0, c0 = l.getD k [] := ⟨_, rfl⟩
      rw [← hc0] at hcall
      clear hx2 hx3 hel hc hx1 hmk
      go_wp2_with (go_at_call 9; refine hcall.mono ?_)
      intro e W1 hN
      obtain ⟨a1, cap1, q, rfl, hx1, hq, hu⟩ := hN
      have hL' := hL
      obtain ⟨iq, C, e1, e2, -⟩ := hL'
      have hb0 : w.heap.size < wr.heap.size := (Array.getElem?_eq_some_iff.1 e1).1
      have e3 : W1.heap[w.heap.size]? = some (.cells C 25 (0, 0)) := by rw [hx1.block _ hb0]; exact e1
      have hcl : ∃ y0, W1.cell? ⟨w.heap.size, k, none⟩ = some y0 := by
        unfold World.cell?
        rw [e3]
        exact ⟨C[k]'(by omega), by simp⟩
      obtain ⟨y0, hcl⟩ := hcl
      have hfr : W1.frozen? ⟨w.heap.size, k, none⟩ = false := by
        unfold World.frozen?
        rw [e3]
        rfl
      rw [hc0] at hq
      have hstep := Laid.step hL hp hb0 hx1 hq hu
      have hxx : ∀ v, Ext w (W1.setCell ⟨w.heap.size, k, none⟩ v) := fun v => by
        have hx2 := hx.trans hx1
        refine ⟨hx2.os, hx2.tape, hx2.output, by simpa [World.setCell] using hx2.size, fun b hb => ?_⟩
        simp only [World.setCell, Array.getElem?_modify]
        rw [if_neg (by show ¬ w.heap.size = b; omega), hx2.block b hb]
      rw [← hc0] at hstep
      clear hL e1 e2 e3 hq hu hc0
      go_wp2
      go_roundw
      case rel =>
        exact ⟨k + 1, rfl, hp, hxx _, hstep⟩
      case measure =>
        show l.length - ((k : Int) + 1).toNat < l.length - (k : Int).toNat
        omega
    · have hkl : k = l.length := by omega
      subst hkl
      go_wp2
      go_ret
      exact ⟨rfl, hx, hL⟩
theorem k_toIntSSO : SoundC Try.prog K_toIntSSO.1 K_toIntSSO.2 := ⟨callable_of (by kernel_rfl), fun l hl S μ w vals hok hrel => by
  obtain ⟨v0, r0, rfl, ha, hc⟩ := hrel
  cases hc
  have ha : RelI S w (intss l) v0 := ha
  refine (w_toIntSS l hl S w v0 hok.inS hok.gl ha).mono fun e w' ⟨he, hx, hL⟩ => ?_
  obtain ⟨iq, C, h1, h2, h3, h4, h5⟩ := hL
  obtain ⟨μ', hμ⟩ : ∃ μ' : Nat → OI, μ' = fun o => ⟨some w.heap.size, 0, l.length, 1, fun i j => if j = 0 then iq i else none⟩ := ⟨_, rfl⟩
  have inn : ∀ {i j : Nat} {u : Inn}, (μ' 0).inn i j = some u → j = 0 ∧ iq i = some u := fun {i j u} h => by
    rw [hμ] at h
    dsimp only at h
    split at h
    · rename_i hj; exact ⟨hj, h⟩
    · cases h
  have hb : (μ' 0).b = some w.heap.size := by rw [hμ]
  have own : ∀ {o b : Nat}, Own μ' [AObj.xarr l.length 1 (cII l)] o b → o = 0 ∧ w.heap.size ≤ b ∧ b < w'.heap.size := fun {o b} ⟨x, hxo, hbb⟩ => by
    cases o with
    | succ o => simp at hxo
    | zero =>
      cases hxo
      refine ⟨rfl, ?_⟩
      rcases hbb with h | ⟨i, j, u, hu, rfl⟩
      · rw [hb] at h
        cases h
        exact ⟨Nat.le_refl _, (Array.getElem?_eq_some_iff.1 h1).1⟩
      · have := h4 i u (inn hu).2
        exact ⟨by omega, this.2.2⟩
  refine ⟨_, (), S, μ', he, trivial, { sub := fun _ h => h, new := fun _ h => .inl h, mu := fun o ho => absurd ho (Nat.not_lt_zero _), len := Nat.zero_le _, kept := ⟨hx.os, hx.tape, hx.output, hx.size, fun b hb _ => hx.block b hb⟩, mine := fun o b h => .inl (own h).2.1, hok := { obj := fun o x ho => ?_, ids := fun o cs ho => ?_, seps := fun o o' b hne h h' => hne ((own h).1.trans (own h').1.symm), owns := fun o b h => ⟨fun hs => ?_, (own h).2.2⟩, inS := fun b hb => Nat.lt_of_lt_of_le (hok.inS b hb) hx.size, gl := hok.gl.mono (fun _ h => h) fun b hs => hx.block b (hok.inS b hs) } }, ?_⟩
  · cases o with
    | succ o => simp at ho
    | zero =>
      cases ho
      refine ⟨by rw [hμ], fun i j u hu => ?_, ?_⟩
      · obtain ⟨rfl, hu2⟩ := inn hu
        have := h4 i u hu2
        refine ⟨fun e => ?_, this.1, by omega, fun i' j' u' hu' e => ?_⟩
        · rw [hb] at e
          have := Option.some.inj e
          omega
        · obtain ⟨rfl, hu3⟩ := inn hu'
          exact ⟨h5 i' i u' u hu3 hu2 e, rfl⟩
      · rw [hμ]
        refine ⟨Nat.le_refl _, C, _, h1, by dsimp only; omega, fun i hi j hj => ?_⟩
        obtain rfl : j = 0 := by omega
        obtain ⟨x, e1, e2⟩ := h3 i hi
        refine ⟨x, by dsimp only; rw [Nat.zero_add, Nat.mul_one, Nat.add_zero]; exact e1, ?_⟩
        show RelN S w' (if (0 : Nat) = 0 then iq i else none) _ _ _ x
        rw [if_pos rfl]
        exact e2
  · cases o with
    | succ o => simp at ho
    | zero => cases ho
  · have := hok.inS b hs
    have := (own h).2.1
    omega
  · unfold Rel
    rw [hb]
    refine ⟨by rw [hμ]; dsimp only; omega, ⟨w.heap.size, 0, none⟩, by rw [hμ]; rfl, fun _ => by rw [hμ]; rfl⟩⟩
end Cg

/-
  What is left to show of each function's code, printed by a program: Draw. No condition.
-/
set_option maxRecDepth 100000
set_option linter.unusedVariables false
namespace Cg
open Go Go.Proofs
theorem vc_l10Put (l : List Int) (n : Int) : ((∃ x : Nat,
 (x ≤ l.length ∧ Pl.putS l n = (List.take x l ++ (Pl.putS (List.drop x l) n).1, (Pl.putS (List.drop x l) n).2)) ∧ (Is (ints l) (ints l) ∧ n = n ∧ (0 : Int) = (↑x : Int) ∧ True) ∧ True) ∧ ∀ (x : Nat),
 x ≤ l.length ∧ Pl.putS l n = (List.take x l ++ (Pl.putS (List.drop x l) n).1, (Pl.putS (List.drop x l) n).2) →
 condP (decide ((↑x : Int) < (↑l.length : Int)))
 (((0 : Int) ≤ (↑x : Int) ∧ (↑x : Int) < (↑l.length : Int)) ∧ x < l.length ∧ ∃ x_1 : Int,
 (l.getD x (0 : Int) = x_1 ∧ True) ∧ True ∧ ∃ x_2 : Int,
 (n = x_2 ∧ True) ∧ True ∧ condP (decide (Pl.absW x_1 < Pl.absW x_2))
 (Exists fun (x' : Nat) =>
 (x' ≤ l.length ∧ Pl.putS l n = (List.take x' l ++ (Pl.putS (List.drop x' l) n).1, (Pl.putS (List.drop x' l) n).2)) ∧ l.length - x' < l.length - x ∧ (Is (ints l) (ints l) ∧ n = n ∧ IntKind.i64.wrap ((↑x : Int) + (1 : Int)) = (↑x' : Int) ∧ True) ∧ True)
 (condP (decide ((↑x : Int) < (↑l.length : Int)))
 (((0 : Int) ≤ (↑x : Int) ∧ (↑x : Int) < (↑l.length : Int)) ∧ x < l.length ∧ ∃ x_3 : Int,
 (l.getD x (0 : Int) = x_3 ∧ True) ∧ True ∧ ∃ x_4 : Int,
 (n = x_4 ∧ True) ∧ True ∧ condP (Pl.absW x_3 == Pl.absW x_4)
 (((0 : Int) ≤ (↑x : Int) ∧ (↑x : Int) < (↑l.length : Int)) ∧ x < l.length ∧ Is (ints l) (ints (Pl.putS l n).1) ∧ (l.getD x (0 : Int) == n) = (Pl.putS l n).2 ∧ True)
 (((0 : Int) ≤ (↑x : Int) ∧ (↑x : Int) ≤ (↑l.length : Int)) ∧ ((0 : Nat) = (0 : Nat) ∨ (0 : Nat) < l.length - x) ∧ ((0 : Nat) + (l.length - x)) * (8 : Nat) ≤ (70368744177664 : Nat) ∧ ((0 : Int) ≤ (↑x : Int) ∧ (↑x : Int) ≤ (↑l.length : Int)) ∧ ((0 : Nat) = (0 : Nat) ∨ (0 : Nat) < x) ∧ ((0 : Nat) + x) * (8 : Nat) ≤ (70368744177664 : Nat) ∧ (0 : Nat) + ((0 : Nat) + x) ≤ (0 : Nat) + x ∧ ((0 : Nat) + x + (1 : Nat)) * (8 : Nat) ≤ (70368744177664 : Nat) ∧ (0 : Nat) + ((0 : Nat) + (l.length - x)) ≤ (0 : Nat) + (l.length - x) ∧ (0 : Nat) + ((0 : Nat) + x + (1 : Nat)) ≤ (0 : Nat) + x + (1 : Nat) ∧ ((0 : Nat) + x + (1 : Nat) + ((0 : Nat) + (l.length - x))) * (8 : Nat) ≤ (70368744177664 : Nat) ∧ (0 : Nat) + ((0 : Nat) + x + (1 : Nat) + ((0 : Nat) + (l.length - x))) ≤ (0 : Nat) + x + (1 : Nat) + ((0 : Nat) + (l.length - x)) ∧ Is
 (AV.sl ((0 : Nat) + x + (1 : Nat) + ((0 : Nat) + (l.length - x))) (1 : Nat) fun (i j : Nat) =>
 joinC ((0 : Nat) + x + (1 : Nat)) (fun (i j : Nat) => joinC ((0 : Nat) + x) (cI l) (rowsCell [[i64 n]]) i j)
 (fun (i j : Nat) => i64 (l.getD (i - (0 : Nat) + x) (0 : Int))) i j)
 (ints (Pl.putS l n).1) ∧ true = (Pl.putS l n).2 ∧ True))
 (((0 : Int) ≤ (↑x : Int) ∧ (↑x : Int) ≤ (↑l.length : Int)) ∧ ((0 : Nat) = (0 : Nat) ∨ (0 : Nat) < l.length - x) ∧ ((0 : Nat) + (l.length - x)) * (8 : Nat) ≤ (70368744177664 : Nat) ∧ ((0 : Int) ≤ (↑x : Int) ∧ (↑x : Int) ≤ (↑l.length : Int)) ∧ ((0 : Nat) = (0 : Nat) ∨ (0 : Nat) < x) ∧ ((0 : Nat) + x) * (8 : Nat) ≤ (70368744177664 : Nat) ∧ (0 : Nat) + ((0 : Nat) + x) ≤ (0 : Nat) + x ∧ ((0 : Nat) + x + (1 : Nat)) * (8 : Nat) ≤ (70368744177664 : Nat) ∧ (0 : Nat) + ((0 : Nat) + (l.length - x)) ≤ (0 : Nat) + (l.length - x) ∧ (0 : Nat) + ((0 : Nat) + x + (1 : Nat)) ≤ (0 : Nat) + x + (1 : Nat) ∧ ((0 : Nat) + x + (1 : Nat) + ((0 : Nat) + (l.length - x))) * (8 : Nat) ≤ (70368744177664 : Nat) ∧ (0 : Nat) + ((0 : Nat) + x + (1 : Nat) + ((0 : Nat) + (l.length - x))) ≤ (0 : Nat) + x + (1 : Nat) + ((0 : Nat) + (l.length - x)) ∧ Is
 (AV.sl ((0 : Nat) + x + (1 : Nat) + ((0 : Nat) + (l.length - x))) (1 : Nat) fun (i j : Nat) =>
 joinC ((0 : Nat) + x + (1 : Nat)) (fun (i j : Nat) => joinC ((0 : Nat) + x) (cI l) (rowsCell [[i64 n]]) i j)
 (fun (i j : Nat) => i64 (l.getD (i - (0 : Nat) + x) (0 : Int))) i j)
 (ints (Pl.putS l n).1) ∧ true = (Pl.putS l n).2 ∧ True)))
 (condP (decide ((↑x : Int) < (↑l.length : Int)))
 (((0 : Int) ≤ (↑x : Int) ∧ (↑x : Int) < (↑l.length : Int)) ∧ x < l.length ∧ ∃ x_1 : Int,
 (l.getD x (0 : Int) = x_1 ∧ True) ∧ True ∧ ∃ x_2 : Int,
 (n = x_2 ∧ True) ∧ True ∧ condP (Pl.absW x_1 == Pl.absW x_2)
 (((0 : Int) ≤ (↑x : Int) ∧ (↑x : Int) < (↑l.length : Int)) ∧ x < l.length ∧ Is (ints l) (ints (Pl.putS l n).1) ∧ (l.getD x (0 : Int) == n) = (Pl.putS l n).2 ∧ True)
 (((0 : Int) ≤ (↑x : Int) ∧ (↑x : Int) ≤ (↑l.length : Int)) ∧ ((0 : Nat) = (0 : Nat) ∨ (0 : Nat) < l.length - x) ∧ ((0 : Nat) + (l.length - x)) * (8 : Nat) ≤ (70368744177664 : Nat) ∧ ((0 : Int) ≤ (↑x : Int) ∧ (↑x : Int) ≤ (↑l.length : Int)) ∧ ((0 : Nat) = (0 : Nat) ∨ (0 : Nat) < x) ∧ ((0 : Nat) + x) * (8 : Nat) ≤ (70368744177664 : Nat) ∧ (0 : Nat) + ((0 : Nat) + x) ≤ (0 : Nat) + x ∧ ((0 : Nat) + x + (1 : Nat)) * (8 : Nat) ≤ (70368744177664 : Nat) ∧ (0 : Nat) + ((0 : Nat) + (l.length - x)) ≤ (0 : Nat) + (l.length - x) ∧ (0 : Nat) + ((0 : Nat) + x + (1 : Nat)) ≤ (0 : Nat) + x + (1 : Nat) ∧ ((0 : Nat) + x + (1 : Nat) + ((0 : Nat) + (l.length - x))) * (8 : Nat) ≤ (70368744177664 : Nat) ∧ (0 : Nat) + ((0 : Nat) + x + (1 : Nat) + ((0 : Nat) + (l.length - x))) ≤ (0 : Nat) + x + (1 : Nat) + ((0 : Nat) + (l.length - x)) ∧ Is
 (AV.sl ((0 : Nat) + x + (1 : Nat) + ((0 : Nat) + (l.length - x))) (1 : Nat) fun (i j : Nat) =>
 joinC ((0 : Nat) + x + (1 : Nat)) (fun (i j : Nat) => joinC ((0 : Nat) + x) (cI l) (rowsCell [[i64 n]]) i j)
 (fun (i j : Nat) => i64 (l.getD (i - (0 : Nat) + x) (0 : Int))) i j)
 (ints (Pl.putS l n).1) ∧ true = (Pl.putS l n).2 ∧ True))
 (((0 : Int) ≤ (↑x : Int) ∧ (↑x : Int) ≤ (↑l.length : Int)) ∧ ((0 : Nat) = (0 : Nat) ∨ (0 : Nat) < l.length - x) ∧ ((0 : Nat) + (l.length - x)) * (8 : Nat) ≤ (70368744177664 : Nat) ∧ ((0 : Int) ≤ (↑x : Int) ∧ (↑x : Int) ≤ (↑l.length : Int)) ∧ ((0 : Nat) = (0 : Nat) ∨ (0 : Nat) < x) ∧ ((0 : Nat) + x) * (8 : Nat) ≤ (70368744177664 : Nat) ∧ (0 : Nat) + ((0 : Nat) + x) ≤ (0 : Nat) + x ∧ ((0 : Nat) + x + (1 : Nat)) * (8 : Nat) ≤ (70368744177664 : Nat) ∧ (0 : Nat) + ((0 : Nat) + (l.length - x)) ≤ (0 : Nat) + (l.length - x) ∧ (0 : Nat) + ((0 : Nat) + x + (1 : Nat)) ≤ (0 : Nat) + x + (1 : Nat) ∧ ((0 : Nat) + x + (1 : Nat) + ((0 : Nat) + (l.length - x))) * (8 : Nat) ≤ (70368744177664 : Nat) ∧ (0 : Nat) + ((0 : Nat) + x + (1 : Nat) + ((0 : Nat) + (l.length - x))) ≤ (0 : Nat) + x + (1 : Nat) + ((0 : Nat) + (l.length - x)) ∧ Is
 (AV.sl ((0 : Nat) + x + (1 : Nat) + ((0 : Nat) + (l.length - x))) (1 : Nat) fun (i j : Nat) =>
 joinC ((0 : Nat) + x + (1 : Nat)) (fun (i j : Nat) => joinC ((0 : Nat) + x) (cI l) (rowsCell [[i64 n]]) i j)
 (fun (i j : Nat) => i64 (l.getD (i - (0 : Nat) + x) (0 : Int))) i j)
 (ints (Pl.putS l n).1) ∧ true = (Pl.putS l n).2 ∧ True))) = Goal Try.prog [K_l10Abs] (A_l10Put l n) K_l10Put.1 K_l10Put.2 ((l, n)) := by kernel_rfl

theorem vc_sClauseOf (l : List Int) : ((∃ x : Nat,
 (x ≤ l.length ∧ l.any Pl.badMark = (List.drop x l).any Pl.badMark) ∧ (Is (ints l) (ints l) ∧ Is (AV.lit (0 : Nat) (1 : Nat) (rowsCell [])) nilA ∧ (0 : Int) = (↑x : Int) ∧ True) ∧ True) ∧ ∀ (x : Nat),
 x ≤ l.length ∧ l.any Pl.badMark = (List.drop x l).any Pl.badMark →
 condP (decide ((↑x : Int) < (↑l.length : Int)))
 (((0 : Int) ≤ (↑x : Int) ∧ (↑x : Int) < (↑l.length : Int)) ∧ x < l.length ∧ condP (l.getD x (0 : Int) == (0 : Int)) (Is (AV.lit (0 : Nat) (1 : Nat) (rowsCell [])) (ints (Pl.clauseOf l).1) ∧ false = (Pl.clauseOf l).2 ∧ True)
 (((0 : Int) ≤ (↑x : Int) ∧ (↑x : Int) < (↑l.length : Int)) ∧ x < l.length ∧ ∃ x_1 : Int,
 (l.getD x (0 : Int) = x_1 ∧ True) ∧ True ∧ condP (decide (Pl.absW x_1 > (60 : Int)))
 (Is (AV.lit (0 : Nat) (1 : Nat) (rowsCell [])) (ints (Pl.clauseOf l).1) ∧ false = (Pl.clauseOf l).2 ∧ True)
 (Exists fun (x' : Nat) =>
 (x' ≤ l.length ∧ l.any Pl.badMark = (List.drop x' l).any Pl.badMark) ∧ l.length - x' < l.length - x ∧ (Is (ints l) (ints l) ∧ Is (AV.lit (0 : Nat) (1 : Nat) fun (x x_2 : Nat) => AV.any) nilA ∧ IntKind.i64.wrap ((↑x : Int) + (1 : Int)) = (↑x' : Int) ∧ True) ∧ True)))
 ((∃ x : Nat × List Int,
 (x.1 ≤ l.length ∧ Pl.clauseOf l = Pl.clauseL (List.drop x.1 l) x.2 ∧ x.2.length ≤ x.1) ∧ (Is (ints l) (ints l) ∧ Is (AV.lit (0 : Nat) (1 : Nat) fun (x x_1 : Nat) => AV.any) (ints x.2) ∧ (0 : Int) = (↑x.1 : Int) ∧ True) ∧ True) ∧ ∀ (x : Nat × List Int),
 x.1 ≤ l.length ∧ Pl.clauseOf l = Pl.clauseL (List.drop x.1 l) x.2 ∧ x.2.length ≤ x.1 →
 condP (decide ((↑x.1 : Int) < (↑l.length : Int)))
 (((0 : Int) ≤ (↑x.1 : Int) ∧ (↑x.1 : Int) < (↑l.length : Int)) ∧ x.1 < l.length ∧ ∃ x_1 : List Int × Int,
 (Is (ints x.2) (ints x_1.1) ∧ l.getD x.1 (0 : Int) = x_1.2 ∧ True) ∧ SzH x_1.1 ∧ condP (!(Pl.putS x_1.1 x_1.2).2) (Is (AV.lit (0 : Nat) (1 : Nat) (rowsCell [])) (ints (Pl.clauseOf l).1) ∧ false = (Pl.clauseOf l).2 ∧ True)
 (Exists fun (x' : Nat × List Int) =>
 (x'.1 ≤ l.length ∧ Pl.clauseOf l = Pl.clauseL (List.drop x'.1 l) x'.2 ∧ x'.2.length ≤ x'.1) ∧ l.length - x'.1 < l.length - x.1 ∧ (Is (ints l) (ints l) ∧ Is (ints (Pl.putS x_1.1 x_1.2).1) (ints x'.2) ∧ IntKind.i64.wrap ((↑x.1 : Int) + (1 : Int)) = (↑x'.1 : Int) ∧ True) ∧ True))
 (Is (ints x.2) (ints (Pl.clauseOf l).1) ∧ true = (Pl.clauseOf l).2 ∧ True))) = Goal Try.prog [K_l10Abs, K_l10Put] (A_sClauseOf l) K_sClauseOf.1 K_sClauseOf.2 (l) := by kernel_rfl

end Cg

/-
  What is left to show of each function's code, printed by a program: Units. No condition.
-/
set_option maxRecDepth 100000
set_option linter.unusedVariables false
namespace Cg
open Go Go.Proofs
theorem vc_l10At (l : List Int) (n : Int) : ((∃ x : Nat, (x ≤ l.length ∧ Pl.at_ n l = Pl.at_ n (List.drop x l)) ∧ (Is (ints l) (ints l) ∧ n = n ∧ (0 : Int) = (↑x : Int) ∧ True) ∧ True) ∧ ∀ (x : Nat),
 x ≤ l.length ∧ Pl.at_ n l = Pl.at_ n (List.drop x l) →
 condP (decide ((↑x : Int) < (↑l.length : Int)))
 (((0 : Int) ≤ (↑x : Int) ∧ (↑x : Int) < (↑l.length : Int)) ∧ x < l.length ∧ condP (l.getD x (0 : Int) == n) ((1 : Int) = Pl.at_ n l)
 (((0 : Int) ≤ (↑x : Int) ∧ (↑x : Int) < (↑l.length : Int)) ∧ x < l.length ∧ condP (l.getD x (0 : Int) == IntKind.i64.wrap ((0 : Int) - n)) ((-1 : Int) = Pl.at_ n l)
 (Exists fun (x' : Nat) =>
 (x' ≤ l.length ∧ Pl.at_ n l = Pl.at_ n (List.drop x' l)) ∧ l.length - x' < l.length - x ∧ (Is (ints l) (ints l) ∧ n = n ∧ IntKind.i64.wrap ((↑x : Int) + (1 : Int)) = (↑x' : Int) ∧ True) ∧ True)))
 ((0 : Int) = Pl.at_ n l)) = Goal Try.prog [] (A_l10At l n) K_l10At.1 K_l10At.2 ((l, n)) := by kernel_rfl

theorem vc_l10Left (put c : List Int) : ((∃ x : Nat × Nat × Int,
 (x.1 ≤ c.length ∧ x.2.1 ≤ x.1 ∧ Pl.left put c = Pl.leftL put (List.drop x.1 c) x.2.1 x.2.2) ∧ (Is (ints put) (ints put) ∧ Is (ints c) (ints c) ∧ (0 : Int) = (↑x.2.1 : Int) ∧ (0 : Int) = x.2.2 ∧ (0 : Int) = (↑x.1 : Int) ∧ True) ∧ True) ∧ ∀ (x : Nat × Nat × Int),
 x.1 ≤ c.length ∧ x.2.1 ≤ x.1 ∧ Pl.left put c = Pl.leftL put (List.drop x.1 c) x.2.1 x.2.2 →
 condP (decide ((↑x.1 : Int) < (↑c.length : Int)))
 (((0 : Int) ≤ (↑x.1 : Int) ∧ (↑x.1 : Int) < (↑c.length : Int)) ∧ x.1 < c.length ∧ ∃ x_1 : List Int × Int,
 (Is (ints put) (ints x_1.1) ∧ c.getD x.1 (0 : Int) = x_1.2 ∧ True) ∧ Sz x_1.1 ∧ condP (Pl.at_ x_1.2 x_1.1 == (1 : Int)) ((2 : Int) = (↑(Pl.left put c).1 : Int) ∧ (0 : Int) = (Pl.left put c).2 ∧ True)
 (condP (Pl.at_ x_1.2 x_1.1 == (0 : Int))
 (condP ((↑x.2.1 : Int) == (0 : Int))
 (((0 : Int) ≤ (↑x.1 : Int) ∧ (↑x.1 : Int) < (↑c.length : Int)) ∧ x.1 < c.length ∧ Exists fun (x' : Nat × Nat × Int) =>
 (x'.1 ≤ c.length ∧ x'.2.1 ≤ x'.1 ∧ Pl.left put c = Pl.leftL put (List.drop x'.1 c) x'.2.1 x'.2.2) ∧ c.length - x'.1 < c.length - x.1 ∧ (Is (ints put) (ints put) ∧ Is (ints c) (ints c) ∧ IntKind.i64.wrap ((↑x.2.1 : Int) + (1 : Int)) = (↑x'.2.1 : Int) ∧ c.getD x.1 (0 : Int) = x'.2.2 ∧ IntKind.i64.wrap ((↑x.1 : Int) + (1 : Int)) = (↑x'.1 : Int) ∧ True) ∧ True)
 (Exists fun (x' : Nat × Nat × Int) =>
 (x'.1 ≤ c.length ∧ x'.2.1 ≤ x'.1 ∧ Pl.left put c = Pl.leftL put (List.drop x'.1 c) x'.2.1 x'.2.2) ∧ c.length - x'.1 < c.length - x.1 ∧ (Is (ints put) (ints put) ∧ Is (ints c) (ints c) ∧ IntKind.i64.wrap ((↑x.2.1 : Int) + (1 : Int)) = (↑x'.2.1 : Int) ∧ x.2.2 = x'.2.2 ∧ IntKind.i64.wrap ((↑x.1 : Int) + (1 : Int)) = (↑x'.1 : Int) ∧ True) ∧ True))
 (Exists fun (x' : Nat × Nat × Int) =>
 (x'.1 ≤ c.length ∧ x'.2.1 ≤ x'.1 ∧ Pl.left put c = Pl.leftL put (List.drop x'.1 c) x'.2.1 x'.2.2) ∧ c.length - x'.1 < c.length - x.1 ∧ (Is (ints put) (ints put) ∧ Is (ints c) (ints c) ∧ (↑x.2.1 : Int) = (↑x'.2.1 : Int) ∧ x.2.2 = x'.2.2 ∧ IntKind.i64.wrap ((↑x.1 : Int) + (1 : Int)) = (↑x'.1 : Int) ∧ True) ∧ True)))
 ((↑x.2.1 : Int) = (↑(Pl.left put c).1 : Int) ∧ x.2.2 = (Pl.left put c).2 ∧ True)) = Goal Try.prog [K_l10At] (A_l10Left put c) K_l10Left.1 K_l10Left.2 ((put, c)) := by kernel_rfl

theorem vc_l10Units (c : Pl.Cnf) (put : List Int) : (((0 : Nat) = (0 : Nat) ∨ (0 : Nat) < put.length) ∧ ((0 : Nat) + put.length) * (8 : Nat) ≤ (70368744177664 : Nat) ∧ (∃ x : Nat × Nat × List Int,
 (x.1 ≤ c.2.length ∧ Pl.unitsS c.2 put = Pl.unitsF Pl.scanS c.2 x.2.1 x.2.2 ∧ Pl.uncov x.2.2 < x.2.1 ∧ Pl.scanS x.2.2 c.2 = Pl.scanS x.2.2 (List.drop x.1 c.2) ∧ x.2.2.length + x.2.1 = put.length + (61 : Nat)) ∧ (Is (ints put) (ints put) ∧ (0 : Nat) = (0 : Nat) ∧ ((0 : Nat) = (0 : Nat) ∧ (0 : Nat) + put.length = x.2.2.length) ∧ (0 : Int) = (↑x.1 : Int) ∧ True) ∧ (c.1 = c.1 ∧ Is (intss c.2) (intss c.2) ∧ True) ∧ IsO (AObj.arr ((0 : Nat) + put.length) (1 : Nat) (joinC (0 : Nat) (rowsCell []) (cI put))) (arI x.2.2) ∧ True) ∧ ∀ (x : Nat × Nat × List Int),
 x.1 ≤ c.2.length ∧ Pl.unitsS c.2 put = Pl.unitsF Pl.scanS c.2 x.2.1 x.2.2 ∧ Pl.uncov x.2.2 < x.2.1 ∧ Pl.scanS x.2.2 c.2 = Pl.scanS x.2.2 (List.drop x.1 c.2) ∧ x.2.2.length + x.2.1 = put.length + (61 : Nat) →
 condP (decide ((↑x.1 : Int) < (↑c.2.length : Int)))
 (((0 : Int) ≤ (↑x.1 : Int) ∧ (↑x.1 : Int) < (↑c.2.length : Int)) ∧ x.1 < c.2.length ∧ (0 : Nat) + x.2.2.length ≤ x.2.2.length ∧ ∃ x_1 : List Int × List Int,
 (Is (ints x.2.2) (ints x_1.1) ∧ Is (ints (c.2.getD x.1 [])) (ints x_1.2) ∧ True) ∧ (Sz x_1.1 ∧ Sz x_1.2) ∧ condP ((↑(Pl.left x_1.1 x_1.2).1 : Int) == (0 : Int))
 ((0 : Nat) + x.2.2.length ≤ x.2.2.length ∧ Is (ints x.2.2) (ints (Pl.unitsS c.2 put).1) ∧ true = (Pl.unitsS c.2 put).2 ∧ True)
 (condP ((↑(Pl.left x_1.1 x_1.2).1 : Int) == (1 : Int))
 ((0 : Nat) + x.2.2.length ≤ x.2.2.length ∧ (x.2.2.length + (1 : Nat)) * (8 : Nat) ≤ (70368744177664 : Nat) ∧ Exists fun (x' : Nat × Nat × List Int) =>
 (x'.1 ≤ c.2.length ∧ Pl.unitsS c.2 put = Pl.unitsF Pl.scanS c.2 x'.2.1 x'.2.2 ∧ Pl.uncov x'.2.2 < x'.2.1 ∧ Pl.scanS x'.2.2 c.2 = Pl.scanS x'.2.2 (List.drop x'.1 c.2) ∧ x'.2.2.length + x'.2.1 = put.length + (61 : Nat)) ∧ x'.2.1 * (c.2.length + (1 : Nat)) + (c.2.length - x'.1) < x.2.1 * (c.2.length + (1 : Nat)) + (c.2.length - x.1) ∧ (Is (ints put) (ints put) ∧ (0 : Nat) = (0 : Nat) ∧ ((0 : Nat) = (0 : Nat) ∧ x.2.2.length + (1 : Nat) = x'.2.2.length) ∧ IntKind.i64.wrap ((-1 : Int) + (1 : Int)) = (↑x'.1 : Int) ∧ True) ∧ (c.1 = c.1 ∧ Is (intss c.2) (intss c.2) ∧ True) ∧ IsO
 (AObj.arr (x.2.2.length + (1 : Nat)) (1 : Nat)
 (joinC x.2.2.length (cI x.2.2) (rowsCell [[i64 (Pl.left x_1.1 x_1.2).2]])))
 (arI x'.2.2) ∧ True)
 (Exists fun (x' : Nat × Nat × List Int) =>
 (x'.1 ≤ c.2.length ∧ Pl.unitsS c.2 put = Pl.unitsF Pl.scanS c.2 x'.2.1 x'.2.2 ∧ Pl.uncov x'.2.2 < x'.2.1 ∧ Pl.scanS x'.2.2 c.2 = Pl.scanS x'.2.2 (List.drop x'.1 c.2) ∧ x'.2.2.length + x'.2.1 = put.length + (61 : Nat)) ∧ x'.2.1 * (c.2.length + (1 : Nat)) + (c.2.length - x'.1) < x.2.1 * (c.2.length + (1 : Nat)) + (c.2.length - x.1) ∧ (Is (ints put) (ints put) ∧ (0 : Nat) = (0 : Nat) ∧ ((0 : Nat) = (0 : Nat) ∧ x.2.2.length = x'.2.2.length) ∧ IntKind.i64.wrap ((↑x.1 : Int) + (1 : Int)) = (↑x'.1 : Int) ∧ True) ∧ (c.1 = c.1 ∧ Is (intss c.2) (intss c.2) ∧ True) ∧ IsO (arI x.2.2) (arI x'.2.2) ∧ True)))
 ((0 : Nat) + x.2.2.length ≤ x.2.2.length ∧ Is (ints x.2.2) (ints (Pl.unitsS c.2 put).1) ∧ false = (Pl.unitsS c.2 put).2 ∧ True)) = Goal Try.prog [K_l10Left] (A_l10Units c put) K_l10Units.1 K_l10Units.2 ((c, put)) := by kernel_rfl

theorem vc_l10Nots (l : List Int) : ((∃ x : Nat × List Int,
 (x.1 ≤ l.length ∧ x.2.length = x.1 ∧ Pl.nots l = x.2 ++ Pl.nots (List.drop x.1 l)) ∧ (Is (ints l) (ints l) ∧ ((0 : Nat) = (0 : Nat) ∧ (0 : Nat) = (0 : Nat) ∧ x.2.length = (0 : Nat)) ∧ (0 : Int) = (↑x.1 : Int) ∧ True) ∧ x.2.length = (0 : Nat) ∧ True) ∧ ∀ (x : Nat × List Int),
 x.1 ≤ l.length ∧ x.2.length = x.1 ∧ Pl.nots l = x.2 ++ Pl.nots (List.drop x.1 l) →
 condP (decide ((↑x.1 : Int) < (↑l.length : Int)))
 (((0 : Int) ≤ (↑x.1 : Int) ∧ (↑x.1 : Int) < (↑l.length : Int)) ∧ x.1 < l.length ∧ (0 : Nat) + x.2.length ≤ x.2.length ∧ (x.2.length + (1 : Nat)) * (8 : Nat) ≤ (70368744177664 : Nat) ∧ Exists fun (x' : Nat × List Int) =>
 (x'.1 ≤ l.length ∧ x'.2.length = x'.1 ∧ Pl.nots l = x'.2 ++ Pl.nots (List.drop x'.1 l)) ∧ l.length - x'.1 < l.length - x.1 ∧ (Is (ints l) (ints l) ∧ ((0 : Nat) = (0 : Nat) ∧ x.2.length + (1 : Nat) = x'.2.length) ∧ IntKind.i64.wrap ((↑x.1 : Int) + (1 : Int)) = (↑x'.1 : Int) ∧ True) ∧ IsO
 (AObj.arr (x.2.length + (1 : Nat)) (1 : Nat) (joinC x.2.length (cI x.2) (rowsCell [[i64 (IntKind.i64.wrap ((0 : Int) - l.getD x.1 (0 : Int)))]])))
 (arI x'.2) ∧ True)
 ((0 : Nat) + x.2.length ≤ x.2.length ∧ Is (ints x.2) (ints (Pl.nots l)))) = Goal Try.prog [] (A_l10Nots l) K_l10Nots.1 K_l10Nots.2 (l) := by kernel_rfl

theorem vc_Index (l : List Int) (n : Int) : ((∃ x : Nat,
 (x ≤ l.length ∧ Pl.idx (fun (y : Int) => decide (n = y)) l =
 if Pl.idx (fun (y : Int) => decide (n = y)) (List.drop x l) < (0 : Int) then (-1 : Int) else Pl.idx (fun (y : Int) => decide (n = y)) (List.drop x l) + (↑x : Int)) ∧ (Is (ints l) (ints l) ∧ n = n ∧ (↑l.length : Int) = (↑l.length : Int) ∧ (0 : Int) = (↑x : Int) ∧ True) ∧ True) ∧ ∀ (x : Nat),
 (x ≤ l.length ∧ Pl.idx (fun (y : Int) => decide (n = y)) l =
 if Pl.idx (fun (y : Int) => decide (n = y)) (List.drop x l) < (0 : Int) then (-1 : Int) else Pl.idx (fun (y : Int) => decide (n = y)) (List.drop x l) + (↑x : Int)) →
 condP (decide ((↑x : Int) < (↑l.length : Int)))
 (((0 : Int) ≤ (↑x : Int) ∧ (↑x : Int) < (↑l.length : Int)) ∧ x < l.length ∧ condP (n == l.getD x (0 : Int)) ((↑x : Int) = Pl.idx (fun (y : Int) => decide (n = y)) l)
 (Exists fun (x' : Nat) =>
 (x' ≤ l.length ∧ Pl.idx (fun (y : Int) => decide (n = y)) l =
 if Pl.idx (fun (y : Int) => decide (n = y)) (List.drop x' l) < (0 : Int) then (-1 : Int)
 else Pl.idx (fun (y : Int) => decide (n = y)) (List.drop x' l) + (↑x' : Int)) ∧ l.length - x' < l.length - x ∧ (Is (ints l) (ints l) ∧ n = n ∧ (↑l.length : Int) = (↑l.length : Int) ∧ IntKind.i64.wrap ((↑x : Int) + (1 : Int)) = (↑x' : Int) ∧ True) ∧ True))
 ((-1 : Int) = Pl.idx (fun (y : Int) => decide (n = y)) l)) = Goal Try.prog [] (A_Index l n) K_Index.1 K_Index.2 ((l, n)) := by kernel_rfl

theorem vc_Contains (l : List Int) (n : Int) : (∃ x : List Int × Int,
 (Is (ints l) (ints x.1) ∧ n = x.2 ∧ True) ∧ Sz x.1 ∧ decide (Pl.idx (fun (y : Int) => decide (x.2 = y)) x.1 ≥ (0 : Int)) = l.contains n) = Goal Try.prog [K_Index] ([]) K_Contains.1 K_Contains.2 ((l, n)) := by kernel_rfl

theorem vc_Clone (l : List Int) : (∀ (b : Bool),
 (b = true → l.length = (0 : Nat)) →
 condP b (∃ y : Unit, True ∧ (((0 : Nat) = (0 : Nat) ∧ (0 : Nat) = (0 : Nat) ∧ l.length = (0 : Nat)) ∧ True) ∧ l.length = (0 : Nat) ∧ True)
 (((0 : Nat) = (0 : Nat) ∨ (0 : Nat) < l.length) ∧ ((0 : Nat) + l.length) * (8 : Nat) ≤ (70368744177664 : Nat) ∧ ∃ y : Unit,
 True ∧ (((0 : Nat) = (0 : Nat) ∧ (0 : Nat) + l.length = l.length) ∧ True) ∧ IsO (AObj.arr ((0 : Nat) + l.length) (1 : Nat) (joinC (0 : Nat) (rowsCell []) (cI l))) (arI l) ∧ True)) = Goal Try.prog [] ([]) K_Clone.1 K_Clone.2 (l) := by kernel_rfl

theorem vc_unit (c put : List Int) : ((∃ x : Nat × Int × Nat,
 (x.1 ≤ c.length ∧ x.2.2 ≤ x.1 ∧ Pl.unit c put = Pl.unitL put (List.drop x.1 c) x.2.1 x.2.2) ∧ (Is (ints c) (ints c) ∧ Is (ints put) (ints put) ∧ (0 : Int) = x.2.1 ∧ (0 : Int) = (↑x.2.2 : Int) ∧ Is (ints c) (ints c) ∧ (↑c.length : Int) = (↑c.length : Int) ∧ (0 : Int) = (↑x.1 : Int) ∧ True) ∧ True) ∧ ∀ (x : Nat × Int × Nat),
 x.1 ≤ c.length ∧ x.2.2 ≤ x.1 ∧ Pl.unit c put = Pl.unitL put (List.drop x.1 c) x.2.1 x.2.2 →
 condP (decide ((↑x.1 : Int) < (↑c.length : Int)))
 (((0 : Int) ≤ (↑x.1 : Int) ∧ (↑x.1 : Int) < (↑c.length : Int)) ∧ x.1 < c.length ∧ ∃ x_1 : List Int × Int,
 (Is (ints put) (ints x_1.1) ∧ c.getD x.1 (0 : Int) = x_1.2 ∧ True) ∧ Sz x_1.1 ∧ condP (x_1.1.contains x_1.2) ((0 : Int) = (Pl.unit c put).1 ∧ false = (Pl.unit c put).2 ∧ True)
 (∃ x_2 : List Int × Int,
 (Is (ints put) (ints x_2.1) ∧ IntKind.i64.wrap ((0 : Int) - c.getD x.1 (0 : Int)) = x_2.2 ∧ True) ∧ Sz x_2.1 ∧ condP (!x_2.1.contains x_2.2)
 (Exists fun (x' : Nat × Int × Nat) =>
 (x'.1 ≤ c.length ∧ x'.2.2 ≤ x'.1 ∧ Pl.unit c put = Pl.unitL put (List.drop x'.1 c) x'.2.1 x'.2.2) ∧ c.length - x'.1 < c.length - x.1 ∧ (Is (ints c) (ints c) ∧ Is (ints put) (ints put) ∧ c.getD x.1 (0 : Int) = x'.2.1 ∧ IntKind.i64.wrap ((↑x.2.2 : Int) + (1 : Int)) = (↑x'.2.2 : Int) ∧ Is (ints c) (ints c) ∧ (↑c.length : Int) = (↑c.length : Int) ∧ IntKind.i64.wrap ((↑x.1 : Int) + (1 : Int)) = (↑x'.1 : Int) ∧ True) ∧ True)
 (Exists fun (x' : Nat × Int × Nat) =>
 (x'.1 ≤ c.length ∧ x'.2.2 ≤ x'.1 ∧ Pl.unit c put = Pl.unitL put (List.drop x'.1 c) x'.2.1 x'.2.2) ∧ c.length - x'.1 < c.length - x.1 ∧ (Is (ints c) (ints c) ∧ Is (ints put) (ints put) ∧ x.2.1 = x'.2.1 ∧ (↑x.2.2 : Int) = (↑x'.2.2 : Int) ∧ Is (ints c) (ints c) ∧ (↑c.length : Int) = (↑c.length : Int) ∧ IntKind.i64.wrap ((↑x.1 : Int) + (1 : Int)) = (↑x'.1 : Int) ∧ True) ∧ True)))
 (condP (decide ((↑x.2.2 : Int) > (1 : Int))) ((0 : Int) = (Pl.unit c put).1 ∧ ((↑x.2.2 : Int) == (0 : Int)) = (Pl.unit c put).2 ∧ True)
 (x.2.1 = (Pl.unit c put).1 ∧ ((↑x.2.2 : Int) == (0 : Int)) = (Pl.unit c put).2 ∧ True))) = Goal Try.prog [K_Contains] (A_unit c put) K_unit.1 K_unit.2 ((c, put)) := by kernel_rfl

theorem vc_units (l : List (List Int)) (put : List Int) : (∃ x : List Int,
 SzH x ∧ ((Is (ints put) (ints x) ∧ True) ∧ True) ∧ ∀ (y : Unit),
 True →
 (∃ x_1 : Nat × List Int,
 (Pl.unitsI l put = Pl.unitsF Pl.scanI l x_1.1 x_1.2 ∧ Pl.uncov x_1.2 < x_1.1 ∧ x_1.2.length + x_1.1 = put.length + (61 : Nat)) ∧ (Is (intss l) (intss l) ∧ Is (ints put) (ints put) ∧ ((0 : Nat) = (0 : Nat) ∧ x.length = x_1.2.length) ∧ True) ∧ IsO (arI x) (arI x_1.2) ∧ True) ∧ ∀ (x : Nat × List Int),
 Pl.unitsI l put = Pl.unitsF Pl.scanI l x.1 x.2 ∧ Pl.uncov x.2 < x.1 ∧ x.2.length + x.1 = put.length + (61 : Nat) →
 (∃ x_1 : Nat,
 (x_1 ≤ l.length ∧ Pl.scanI x.2 l = Pl.scanI x.2 (List.drop x_1 l)) ∧ (Is (intss l) (intss l) ∧ Is (ints put) (ints put) ∧ ((0 : Nat) = (0 : Nat) ∧ x.2.length = x.2.length) ∧ (0 : Int) = (0 : Int) ∧ Is (intss l) (intss l) ∧ (↑l.length : Int) = (↑l.length : Int) ∧ (0 : Int) = (↑x_1 : Int) ∧ True) ∧ IsO (arI x.2) (arI x.2) ∧ True) ∧ ∀ (x_1 : Nat),
 x_1 ≤ l.length ∧ Pl.scanI x.2 l = Pl.scanI x.2 (List.drop x_1 l) →
 condP (decide ((↑x_1 : Int) < (↑l.length : Int)))
 (((0 : Int) ≤ (↑x_1 : Int) ∧ (↑x_1 : Int) < (↑l.length : Int)) ∧ x_1 < l.length ∧ (0 : Nat) + x.2.length ≤ x.2.length ∧ ∃ x_2 : List Int × List Int,
 (Is (ints (l.getD x_1 [])) (ints x_2.1) ∧ Is (ints x.2) (ints x_2.2) ∧ True) ∧ (Sz x_2.1 ∧ Sz x_2.2) ∧ condP (Pl.unit x_2.1 x_2.2).2
 ((0 : Nat) + x.2.length ≤ x.2.length ∧ Is (ints x.2) (ints (Pl.unitsI l put).1) ∧ true = (Pl.unitsI l put).2 ∧ True)
 (condP ((Pl.unit x_2.1 x_2.2).1 != (0 : Int))
 (condP ((Pl.unit x_2.1 x_2.2).1 == (0 : Int))
 ((0 : Nat) + x.2.length ≤ x.2.length ∧ Is (ints x.2) (ints (Pl.unitsI l put).1) ∧ false = (Pl.unitsI l put).2 ∧ True)
 ((0 : Nat) + x.2.length ≤ x.2.length ∧ (x.2.length + (1 : Nat)) * (8 : Nat) ≤ (70368744177664 : Nat) ∧ Exists fun (x' : Nat × List Int) =>
 (Pl.unitsI l put = Pl.unitsF Pl.scanI l x'.1 x'.2 ∧ Pl.uncov x'.2 < x'.1 ∧ x'.2.length + x'.1 = put.length + (61 : Nat)) ∧ x'.1 < x.1 ∧ (Is (intss l) (intss l) ∧ Is (ints put) (ints put) ∧ ((0 : Nat) = (0 : Nat) ∧ x.2.length + (1 : Nat) = x'.2.length) ∧ True) ∧ IsO
 (AObj.arr (x.2.length + (1 : Nat)) (1 : Nat)
 (joinC x.2.length (cI x.2) (rowsCell [[i64 (Pl.unit x_2.1 x_2.2).1]])))
 (arI x'.2) ∧ True))
 (Exists fun (x' : Nat) =>
 (x' ≤ l.length ∧ Pl.scanI x.2 l = Pl.scanI x.2 (List.drop x' l)) ∧ l.length - x' < l.length - x_1 ∧ (Is (intss l) (intss l) ∧ Is (ints put) (ints put) ∧ ((0 : Nat) = (0 : Nat) ∧ x.2.length = x.2.length) ∧ (0 : Int) = (0 : Int) ∧ Is (intss l) (intss l) ∧ (↑l.length : Int) = (↑l.length : Int) ∧ IntKind.i64.wrap ((↑x_1 : Int) + (1 : Int)) = (↑x' : Int) ∧ True) ∧ IsO (arI x.2) (arI x.2) ∧ True)))
 ((0 : Nat) + x.2.length ≤ x.2.length ∧ Is (ints x.2) (ints (Pl.unitsI l put).1) ∧ false = (Pl.unitsI l put).2 ∧ True)) = Goal Try.prog [K_Clone, K_unit] (A_units l put) K_units.1 K_units.2 ((l, put)) := by kernel_rfl

end Cg

/-
  Unit propagation: plain laws. No condition.
-/
set_option linter.unusedVariables false
namespace Pl
open Go Cg

/-- A mark of at most sixty variables. -/
def Mk (x : Int) : Prop := x ≠ 0 ∧ -60 ≤ x ∧ x ≤ 60
theorem Mk.wneg {x : Int} (h : Mk x) : Pl.wneg x = -x := by
  obtain ⟨h1, h2, h3⟩ := h
  unfold Pl.wneg; rw [Cg.wrap_small (by omega) (by omega)]; omega
theorem absW_mk {x : Int} (h0 : 0 < absW x) (h1 : absW x ≤ 60) : Mk x := by
  unfold absW Pl.wneg at h0 h1
  split at h0
  · rw [if_pos ‹_›] at h1; omega
  · rename_i h2
    rw [if_neg h2] at h1
    split at h0
    · rw [if_pos ‹_›] at h1; omega
    · rename_i h3
      rw [if_neg h3] at h1
      split at h0
      · rename_i h4
        rw [if_pos h4, Cg.wrap_small (by omega) (by omega)] at h1
        exact ⟨by omega, by omega, by omega⟩
      · exact ⟨by omega, by omega, by omega⟩
theorem absW_of {x : Int} (h : Mk x) : absW x = if x < 0 then -x else x := by
  obtain ⟨h1, h2, h3⟩ := h
  unfold absW Pl.wneg
  rw [if_neg (by omega), if_neg (by omega)]
  split
  · rw [Cg.wrap_small (by omega) (by omega)]; omega
  · rfl
theorem specLoop_mk {many : Int} : ∀ {l : List Int} {last : Int}, 0 ≤ last → specLoop many last l = true → many ≤ 60 ∧ ∀ x ∈ l, Mk x ∧ last < absW x ∧ absW x ≤ many
  | [], last, h0, h => by
    simp only [specLoop, Bool.and_eq_true, decide_eq_true_eq] at h
    exact ⟨h.2, fun x hx => by cases hx⟩
  | y :: l, last, h0, h => by
    simp only [specLoop] at h
    cases hc : (decide (absW y ≤ last) || decide (absW y > many))
    · rw [hc] at h
      simp only [cond_false] at h
      simp only [Bool.or_eq_false_iff, decide_eq_false_iff_not] at hc
      obtain ⟨h1, h2⟩ := specLoop_mk (by omega) h
      refine ⟨h1, fun x hx => ?_⟩
      cases List.mem_cons.1 hx with
      | inl e => subst e; exact ⟨absW_mk (by omega) (by omega), by omega, by omega⟩
      | inr e =>
        obtain ⟨h3, h4, h5⟩ := h2 x e
        exact ⟨h3, by omega, h5⟩
    · rw [hc] at h; cases h
theorem specClause_mk {l : List Int} {many : Int} (h : specClause l many = true) : ∀ x ∈ l, Mk x := fun x hx => ((specLoop_mk (Int.le_refl 0) h).2 x hx).1
theorem cnfOk_mk {c : Cnf} (h : cnfOk c = true) : ∀ cl ∈ c.2, ∀ x ∈ cl, Mk x := fun cl hc x hx => by
  simp only [cnfOk, Bool.and_eq_true] at h
  exact specClause_mk (List.all_eq_true.1 h.2 cl hc) x hx

/-! ### What is put -/

theorem at_ne {n : Int} : ∀ {put : List Int}, at_ n put = 0 → n ∉ put ∧ Pl.wneg n ∉ put
  | [], _ => by simp
  | p :: r, h => by
    unfold at_ at h
    split at h
    · cases h
    · split at h
      · cases h
      · obtain ⟨h1, h2⟩ := at_ne h
        rename_i h3 h4
        exact ⟨by simp; exact ⟨fun e => h3 e.symm, h1⟩, by simp; exact ⟨fun e => h4 e.symm, h2⟩⟩
theorem at_cases {n : Int} : ∀ (put : List Int), at_ n put = 1 ∨ at_ n put = -1 ∨ at_ n put = 0
  | [] => .inr (.inr rfl)
  | p :: r => by
    unfold at_
    split
    · exact .inl rfl
    · split
      · exact .inr (.inl rfl)
      · exact at_cases r
theorem at_of_not {n : Int} : ∀ {put : List Int}, n ∉ put → Pl.wneg n ∉ put → at_ n put = 0
  | [], _, _ => rfl
  | p :: r, h1, h2 => by
    simp only [List.mem_cons, not_or] at h1 h2
    unfold at_
    rw [if_neg (fun e => h1.1 e.symm), if_neg (fun e => h2.1 e.symm)]
    exact at_of_not h1.2 h2.2
theorem at_pos {n : Int} : ∀ {put : List Int}, Pl.wneg n ∉ put → n ∈ put → at_ n put = 1
  | [], _, h => by cases h
  | p :: r, h1, h2 => by
    simp only [List.mem_cons, not_or] at h1 h2
    unfold at_
    split
    · rfl
    · rename_i h3
      rw [if_neg (fun e => h1.1 e.symm)]
      exact at_pos h1.2 (h2.resolve_left fun e => h3 e.symm)
theorem at_neg {n : Int} : ∀ {put : List Int}, n ∉ put → Pl.wneg n ∈ put → at_ n put = -1
  | [], _, h => by cases h
  | p :: r, h1, h2 => by
    simp only [List.mem_cons, not_or] at h1 h2
    unfold at_
    rw [if_neg (fun e => h1.1 e.symm)]
    split
    · rfl
    · rename_i h3
      exact at_neg h1.2 (h2.resolve_left fun e => h3 e.symm)

/-! ### Clauses -/

theorem leftL_one {put : List Int} : ∀ (c : List Int) (n : Nat) (l : Int), (leftL put c n l).1 = 1 → (n = 1 ∧ (leftL put c n l).2 = l) ∨ (n = 0 ∧ (leftL put c n l).2 ∈ c ∧ at_ (leftL put c n l).2 put = 0)
  | [], n, l, h => by simp only [leftL] at h ⊢; exact .inl ⟨h, by first | rfl | trivial⟩
  | x :: xs, n, l, h => by
    simp only [leftL] at h ⊢
    split at h
    · cases h
    · rename_i h1
      rw [if_neg h1]
      split at h
      · rename_i h2
        rw [if_pos h2]
        rcases leftL_one xs (n + 1) _ h with ⟨h3, h4⟩ | ⟨h3, _⟩
        · have hn : n = 0 := by omega
          subst hn
          simp only [if_true] at h4 ⊢
          rw [h4]
          exact .inr ⟨by first | rfl | trivial, by simp, h2⟩
        · omega
      · rename_i h2
        rw [if_neg h2]
        rcases leftL_one xs n l h with h3 | ⟨h3, h4, h5⟩
        · exact .inl h3
        · exact .inr ⟨h3, List.mem_cons_of_mem _ h4, h5⟩
theorem left_one {put c : List Int} (h : (left put c).1 = 1) : (left put c).2 ∈ c ∧ at_ (left put c).2 put = 0 := by
  rcases leftL_one c 0 0 h with ⟨h1, _⟩ | ⟨_, h1⟩
  · cases h1
  · exact h1
theorem scanS_some {put : List Int} : ∀ {cs : List (List Int)} {l : Int}, scanS put cs = some (some l) → ∃ c ∈ cs, l ∈ c ∧ at_ l put = 0
  | [], l, h => by cases h
  | c :: cs, l, h => by
    unfold scanS at h
    split at h
    · cases h
    · split at h
      · rename_i h1
        cases h
        obtain ⟨h2, h3⟩ := left_one h1
        exact ⟨c, List.mem_cons_self, h2, h3⟩
      · obtain ⟨c', h1, h2⟩ := scanS_some h
        exact ⟨c', List.mem_cons_of_mem _ h1, h2⟩

theorem unitL_free {put : List Int} : ∀ (c : List Int) (f : Int) (k : Nat), (unitL put c f k).1 ≠ 0 → (unitL put c f k).1 = f ∨ ((unitL put c f k).1 ∈ c ∧ (unitL put c f k).1 ∉ put ∧ Pl.wneg (unitL put c f k).1 ∉ put)
  | [], f, k, h => by
    simp only [unitL] at h ⊢
    by_cases h1 : k > 1
    · rw [if_pos h1] at h; exact absurd rfl h
    · rw [if_neg h1]; exact .inl rfl
  | x :: xs, f, k, h => by
    by_cases h1 : x ∈ put
    · have e : unitL put (x :: xs) f k = (0, false) := by simp only [unitL, List.contains_iff_mem, h1, if_true]
      rw [e] at h; exact absurd rfl h
    · by_cases h2 : Pl.wneg x ∈ put
      · have e : unitL put (x :: xs) f k = unitL put xs f k := by simp only [unitL, List.contains_iff_mem, h1, h2, if_true, if_false]
        rw [e] at h ⊢
        exact (unitL_free xs f k h).imp id fun h => ⟨List.mem_cons_of_mem _ h.1, h.2⟩
      · have e : unitL put (x :: xs) f k = unitL put xs x (k + 1) := by simp only [unitL, List.contains_iff_mem, h1, h2, if_false]
        rw [e] at h ⊢
        rcases unitL_free xs x (k + 1) h with h3 | h3
        · rw [h3]; exact .inr ⟨List.mem_cons_self, h1, h2⟩
        · exact .inr ⟨List.mem_cons_of_mem _ h3.1, h3.2⟩
theorem unit_free {put c : List Int} (h : (unit c put).1 ≠ 0) : (unit c put).1 ∈ c ∧ (unit c put).1 ∉ put ∧ Pl.wneg (unit c put).1 ∉ put := (unitL_free c 0 0 h).resolve_left h

/-- The two scans of a clause agree where nothing is put both ways. -/
theorem unit_left {put : List Int} (hp : Cons put) : ∀ (c : List Int), (∀ x ∈ c, Mk x) → ∀ (f : Int) (n : Nat), (n = 0 → f = 0) → ∀ (l : Int), (n = 1 → l = f) →
    (unitL put c f n).2 = decide ((leftL put c n l).1 = 0) ∧ ((leftL put c n l).1 = 1 → (unitL put c f n).1 = (leftL put c n l).2) ∧ ((leftL put c n l).1 ≠ 1 → (unitL put c f n).1 = 0)
  | [], _, f, n, h0, l, h1 => by
    simp only [unitL, leftL]
    refine ⟨by first | rfl | trivial, fun h => ?_, fun h => ?_⟩
    · rw [if_neg (by omega), h1 h]
    · by_cases h2 : n > 1
      · rw [if_pos h2]
      · rw [if_neg h2]; exact h0 (by omega)
  | x :: xs, hx, f, n, h0, l, h1 => by
    have hm := hx x List.mem_cons_self
    have hxs : ∀ y ∈ xs, Mk y := fun y hy => hx y (List.mem_cons_of_mem _ hy)
    by_cases h2 : x ∈ put
    · have h3 : Pl.wneg x ∉ put := by rw [hm.wneg]; exact (hp x h2).2.2.2
      have e1 : unitL put (x :: xs) f n = (0, false) := by simp only [unitL, List.contains_iff_mem, h2, if_true]
      have e2 : leftL put (x :: xs) n l = (2, 0) := by simp only [leftL, at_pos h3 h2, if_true]
      rw [e1, e2]
      exact ⟨rfl, fun h => (by cases h), fun _ => rfl⟩
    · by_cases h3 : Pl.wneg x ∈ put
      · have e1 : unitL put (x :: xs) f n = unitL put xs f n := by simp only [unitL, List.contains_iff_mem, h2, h3, if_true, if_false]
        have e2 : leftL put (x :: xs) n l = leftL put xs n l := by simp only [leftL, at_neg h2 h3]; simp
        rw [e1, e2]
        exact unit_left hp xs hxs f n h0 l h1
      · have e1 : unitL put (x :: xs) f n = unitL put xs x (n + 1) := by simp only [unitL, List.contains_iff_mem, h2, h3, if_false]
        have e2 : leftL put (x :: xs) n l = leftL put xs (n + 1) (if n = 0 then x else l) := by simp only [leftL, at_of_not h2 h3]; simp
        rw [e1, e2]
        exact unit_left hp xs hxs x (n + 1) (by omega) _ (fun h => by rw [if_pos (by omega)])

theorem scan_same {put : List Int} (hp : Cons put) : ∀ (cs : List (List Int)), (∀ c ∈ cs, ∀ x ∈ c, Mk x) → scanI put cs = scanS put cs
  | [], _ => rfl
  | c :: cs, h => by
    obtain ⟨h1, h2, h3⟩ := unit_left hp c (h c List.mem_cons_self) 0 0 (fun _ => rfl) 0 (fun h => (by cases h))
    have ih := scan_same hp cs fun c' hc => h c' (List.mem_cons_of_mem _ hc)
    have e1 : (unit c put).2 = decide ((left put c).1 = 0) := h1
    unfold scanI scanS
    by_cases h4 : (left put c).1 = 0
    · rw [e1, if_pos (by simpa using h4), if_pos h4]
    · rw [e1, if_neg (by simpa using h4), if_neg h4]
      by_cases h5 : (left put c).1 = 1
      · have e2 : (unit c put).1 = (left put c).2 := h2 h5
        have hne : (left put c).2 ≠ 0 := (h c List.mem_cons_self _ (left_one h5).1).1
        rw [e2, if_pos hne, if_pos h5]
      · have e2 : (unit c put).1 = 0 := h3 h5
        rw [e2, if_neg (by simp), if_neg h5]
        exact ih

/-! ### Rounds -/

theorem cov_snoc {put : List Int} {l : Int} (hm : Mk l) (h1 : l ∉ put) (h2 : Pl.wneg l ∉ put) : uncov (put ++ [l]) < uncov put := by
  rw [hm.wneg] at h2
  obtain ⟨h0, h3, h4⟩ := hm
  unfold uncov
  rw [← List.countP_eq_length_filter, ← List.countP_eq_length_filter]
  let v : Nat := (if l < 0 then -l else l).toNat - 1
  have hv : (v : Int) + 1 = if l < 0 then -l else l := by show ((((if l < 0 then -l else l).toNat - 1 : Nat) : Int)) + 1 = _; split <;> omega
  have hlt : v < 60 := by show (if l < 0 then -l else l).toNat - 1 < 60; split <;> omega
  have key : ∀ (r : List Nat), v ∈ r → r.Nodup → (r.countP fun (w : Nat) => !((put ++ [l]).contains ((w : Int) + 1) || (put ++ [l]).contains (-((w : Int) + 1)))) < r.countP fun (w : Nat) => !(put.contains ((w : Int) + 1) || put.contains (-((w : Int) + 1))) := by
    have mono : ∀ (r : List Nat), (r.countP fun (w : Nat) => !((put ++ [l]).contains ((w : Int) + 1) || (put ++ [l]).contains (-((w : Int) + 1)))) ≤ r.countP fun (w : Nat) => !(put.contains ((w : Int) + 1) || put.contains (-((w : Int) + 1))) := fun r =>
      List.countP_mono_left fun w _ h => by
        simp only [Bool.not_eq_true', Bool.or_eq_false_iff, List.contains_eq_mem, List.mem_append, List.mem_singleton, decide_eq_false_iff_not, not_or] at h ⊢
        exact ⟨h.1.1, h.2.1⟩
    intro r
    induction r with
    | nil => intro h; cases h
    | cons w r ih =>
      intro hvr hnd
      rw [List.countP_cons, List.countP_cons]
      by_cases hw : w = v
      · rw [hw]
        have e1 : (!((put ++ [l]).contains ((v : Int) + 1) || (put ++ [l]).contains (-((v : Int) + 1)))) = false := by
          simp only [Bool.not_eq_false', Bool.or_eq_true, List.contains_eq_mem, List.mem_append, List.mem_singleton, decide_eq_true_eq]
          rw [hv]
          by_cases hl : l < 0
          · rw [if_pos hl]; right; right; omega
          · rw [if_neg hl]; left; right; rfl
        have e2 : (!(put.contains ((v : Int) + 1) || put.contains (-((v : Int) + 1)))) = true := by
          simp only [Bool.not_eq_true', Bool.or_eq_false_iff, List.contains_eq_mem, decide_eq_false_iff_not]
          rw [hv]
          by_cases hl : l < 0
          · rw [if_pos hl]; exact ⟨h2, by rw [Int.neg_neg]; exact h1⟩
          · rw [if_neg hl]; exact ⟨h1, h2⟩
        rw [e1, e2]
        have := mono r
        simp only [Bool.false_eq_true, if_false, if_true]
        omega
      · have hin : v ∈ r := by
          cases List.mem_cons.1 hvr with
          | inl e => exact absurd e.symm hw
          | inr e => exact e
        have h5 := ih hin (List.nodup_cons.1 hnd).2
        have h6 := mono [w]
        rw [List.countP_cons, List.countP_cons] at h6
        simp only [List.countP_nil, Nat.zero_add] at h6
        omega
  exact key _ (List.mem_range.2 hlt) List.nodup_range

theorem uncov_le (put : List Int) : uncov put < 61 := by
  unfold uncov
  have := List.length_filter_le (fun (v : Nat) => !(put.contains ((v : Int) + 1) || put.contains (-((v : Int) + 1)))) (List.range 60)
  simp only [List.length_range] at this
  omega

theorem Cons.snoc {put : List Int} {l : Int} (hp : Cons put) (hm : Mk l) (h1 : l ∉ put) (h2 : Pl.wneg l ∉ put) : Cons (put ++ [l]) := fun x hx => by
  rw [hm.wneg] at h2
  rcases List.mem_append.1 hx with h | h
  · obtain ⟨h3, h4, h5, h6⟩ := hp x h
    refine ⟨h3, h4, h5, fun h7 => ?_⟩
    rcases List.mem_append.1 h7 with h8 | h8
    · exact h6 h8
    · simp only [List.mem_singleton] at h8
      subst h8
      rw [Int.neg_neg] at h2
      exact h2 h
  · simp only [List.mem_singleton] at h
    subst h
    refine ⟨hm.1, hm.2.1, hm.2.2, fun h7 => ?_⟩
    rcases List.mem_append.1 h7 with h8 | h8
    · exact h2 h8
    · simp only [List.mem_singleton] at h8
      exact hm.1 (by omega)

theorem units_same {list : List (List Int)} (hl : ∀ c ∈ list, ∀ x ∈ c, Mk x) : ∀ (k : Nat) (put : List Int), Cons put → unitsF scanI list k put = unitsF scanS list k put
  | 0, _, _ => rfl
  | k + 1, put, hp => by
    unfold unitsF
    rw [scan_same hp list hl]
    split
    · rfl
    · rfl
    · rename_i l h
      obtain ⟨c, h1, h2, h3⟩ := scanS_some h
      obtain ⟨h4, h5⟩ := at_ne h3
      exact units_same hl k _ (hp.snoc (hl c h1 l h2) h4 h5)

theorem logAll_step (c : Cnf) {log : List (List Int)} {i : Nat} (h : i < log.length) : logAll c log i = (rup (c.1, c.2 ++ log.take i) (log.getD i []) && logAll c log (i + 1)) := by
  unfold logAll
  rw [show log.length - i = (log.length - (i + 1)) + 1 by omega, List.range'_succ, List.all_cons]
theorem logAll_end (c : Cnf) {log : List (List Int)} {i : Nat} (h : log.length ≤ i) : logAll c log i = true := by
  unfold logAll
  rw [show log.length - i = 0 by omega]; rfl
theorem take_succ_getD {α : Type} (d : α) {l : List α} {i : Nat} (h : i < l.length) : l.take (i + 1) = l.take i ++ [l.getD i d] := by
  rw [List.take_succ_eq_append_getElem h]; simp [h]
end Pl

/-
  The codes' contracts: unit propagation. No condition.
-/
set_option linter.unusedVariables false
set_option linter.unusedSimpArgs false
set_option maxRecDepth 100000
namespace Cg
open Go Go.Proofs

theorem k_l10At : SoundC Try.prog K_l10At.1 K_l10At.2 := sound_of hm CtxOK.nil (fun (l, n) => A_l10At l n) (by kernel_rfl) fun (l, n) hl => cast (vc_l10At l n) (by
  replace hl : Sz l := hl
  simp [-List.getD_eq_getElem?_getD, and_assoc]
  refine ⟨⟨0, by simp, rfl, rfl⟩, fun k hk he => ⟨fun hlt => ?_, fun hge => ?_⟩⟩
  · rw [drop_get 0 hlt] at he
    simp only [Pl.at_] at he
    refine ⟨hlt, fun h1 => ?_, fun h1 => ⟨hlt, fun h2 => ?_, fun h2 => ⟨k + 1, hlt, ?_, by omega, wrap_succ hlt hl⟩⟩⟩
    · rw [he, if_pos h1]
    · rw [he, if_neg h1, if_pos (by rw [h2]; unfold Pl.wneg; congr 1; omega)]
    · rw [he, if_neg h1, if_neg (fun e => h2 (by rw [e]; unfold Pl.wneg; congr 1; omega))]
  · rw [he, drop_end (by omega)]; rfl)

theorem k_l10Left : SoundC Try.prog K_l10Left.1 K_l10Left.2 := sound_of hm (CtxOK.nil.and k_l10At) (fun (put, c) => A_l10Left put c) (by kernel_rfl) fun (put, c) hl => cast (vc_l10Left put c) (by
  obtain ⟨hp, hc⟩ : Sz put ∧ Sz c := hl
  simp [-List.getD_eq_getElem?_getD, and_assoc]
  refine ⟨⟨0, by simp, 0, by simp, 0, rfl, rfl, rfl, rfl⟩, fun k n b hk hn he => ⟨fun hlt => ?_, fun hge => ?_⟩⟩
  · rw [drop_get 0 hlt] at he
    simp only [Pl.leftL] at he
    refine ⟨hlt, hp, fun h1 => ?_, fun h1 => ⟨fun h2 => ⟨fun h3 => ⟨hlt, k + 1, hlt, n + 1, by omega, c.getD k 0, ?_, by omega, by rw [wrap_small (by omega) (by omega)]; omega, rfl, wrap_succ hlt hc⟩, fun h3 => ⟨k + 1, hlt, n + 1, by omega, b, ?_, by omega, by rw [wrap_small (by omega) (by omega)]; omega, rfl, wrap_succ hlt hc⟩⟩, fun h2 => ⟨k + 1, hlt, n, by omega, b, ?_, by omega, rfl, rfl, wrap_succ hlt hc⟩⟩⟩
    · rw [he, if_pos h1]; exact ⟨rfl, rfl⟩
    · rw [he, if_neg h1, if_pos h2, if_pos h3]
    · rw [he, if_neg h1, if_pos h2, if_neg h3]
    · rw [he, if_neg h1, if_neg h2]
  · rw [drop_end (by omega)] at he
    rw [he]
    exact ⟨rfl, rfl⟩)

theorem k_l10Units : SoundC Try.prog K_l10Units.1 K_l10Units.2 := sound_of hm (CtxOK.nil.and k_l10Left) (fun (c, put) => A_l10Units c put) (by kernel_rfl) fun (c, put) hl => cast (vc_l10Units c put) (by
  obtain ⟨hok, ⟨hl, h2⟩, hp⟩ : Pl.cnfOk c = true ∧ SzC c ∧ SzH put := hl
  obtain ⟨m, c⟩ := c
  simp [-List.getD_eq_getElem?_getD, and_assoc]
  have hm := Pl.cnfOk_mk hok
  refine ⟨by omega, ⟨0, by simp, 61, put, rfl, Pl.uncov_le put, by simp, by omega, rfl, rfl, ints_join0'⟩, fun i k b hi he hu hs hk => ⟨fun hlt => ?_, fun hge => ?_⟩⟩
  · have hb : b.length ≤ 4294967296 := by omega
    have hs' := hs
    rw [drop_get [] hlt] at hs'
    simp only [Pl.scanS] at hs'
    obtain ⟨k, rfl⟩ : ∃ k', k = k' + 1 := ⟨k - 1, by omega⟩
    refine ⟨hlt, hb, h2 _ (getD_mem [] hlt), fun h1 => ?_, fun h1 => ⟨fun h3 => ?_, fun h3 => ⟨i + 1, hlt, k + 1, b, he, hu, ?_, hk, ?_, rfl, wrap_succ hlt hl, .inr rfl⟩⟩⟩
    · rw [he]; unfold Pl.unitsF; rw [hs', if_pos h1]; exact ⟨rfl, rfl⟩
    · have h4 : (Pl.left b (c.getD i [])).1 = 1 := by omega
      obtain ⟨h5, h6⟩ := Pl.left_one h4
      obtain ⟨h7, h8⟩ := Pl.at_ne h6
      have h9 := Pl.cov_snoc (hm _ (getD_mem [] hlt) _ h5) h7 h8
      refine ⟨by omega, 0, by simp, k, b ++ [(Pl.left b (c.getD i [])).2], ?_, by omega, by simp, by simp; omega, ?_, by simp, rfl, ints_push⟩
      · rw [he]
        conv => lhs; unfold Pl.unitsF
        rw [hs', if_neg h1, if_pos h4]
      · rw [Nat.succ_mul]; omega
    · rw [hs, drop_get [] hlt]
      simp only [Pl.scanS]
      rw [if_neg h1, if_neg (by omega)]
    · omega
  · obtain ⟨k, rfl⟩ : ∃ k', k = k' + 1 := ⟨k - 1, by omega⟩
    rw [drop_end (by omega)] at hs
    rw [he]; unfold Pl.unitsF; rw [hs]; exact ⟨rfl, rfl⟩)

theorem k_l10Nots : SoundC Try.prog K_l10Nots.1 K_l10Nots.2 := sound_of hm CtxOK.nil A_l10Nots (by kernel_rfl) fun (l : List Int) (hl : SzH l) => cast (vc_l10Nots l) (by
  simp [-List.getD_eq_getElem?_getD, and_assoc]
  refine ⟨⟨0, by simp, [], rfl, by simp, rfl, rfl, rfl⟩, fun k b hk hb he => ⟨fun hlt => ⟨hlt, by omega, k + 1, hlt, b ++ [Pl.wneg (l.getD k 0)], by simp [hb], ?_, by omega, by simp, by rw [wrap_small (by omega) (by omega)]; omega, ?_⟩, fun hge => ?_⟩⟩
  · rw [he, drop_get 0 hlt]; simp [Pl.nots]
  · have e : IntKind.i64.wrap (-l.getD k 0) = Pl.wneg (l.getD k 0) := by unfold Pl.wneg; congr 1; omega
    rw [e]; exact ints_push
  · rw [he, drop_end (by omega)]; simp [Pl.nots])

theorem k_Index : SoundC Try.prog K_Index.1 K_Index.2 := sound_of hm CtxOK.nil (fun (l, n) => A_Index l n) (by kernel_rfl) fun (l, n) hl => cast (vc_Index l n) (by
  replace hl : Sz l := hl
  simp [-List.getD_eq_getElem?_getD, and_assoc]
  exact ⟨⟨0, by simp, idx_init _ _, rfl⟩, fun k hk he => ⟨fun hlt => ⟨hlt, fun h => (idx_step 0 _ hlt he).1 (by simp [h, -List.getD_eq_getElem?_getD]), fun h => ⟨k + 1, hlt, (idx_step 0 _ hlt he).2 (by simp [h, -List.getD_eq_getElem?_getD]), by omega, wrap_succ hlt hl⟩⟩, fun hge => idx_end _ hge he⟩⟩)

theorem any_eq_mem (l : List Int) (n : Int) : (l.any fun y => decide (n = y)) = decide (n ∈ l) := by
  rw [Bool.eq_iff_iff]
  simp

theorem k_Contains : SoundC Try.prog K_Contains.1 K_Contains.2 := sound_of hm (CtxOK.nil.and k_Index) (fun _ => []) (by kernel_rfl) fun (l, n) hl => cast (vc_Contains l n) (by
  replace hl : Sz l := hl
  simp only [idx_any]
  simp [and_assoc, hl]
  exact any_eq_mem l n)

theorem k_Clone : SoundC Try.prog K_Clone.1 K_Clone.2 := sound_of hm CtxOK.nil (fun _ => []) (by kernel_rfl) fun (l : List Int) (hl : SzH l) => cast (vc_Clone l) (by
  simp [-List.getD_eq_getElem?_getD, and_assoc]
  omega)

theorem k_unit : SoundC Try.prog K_unit.1 K_unit.2 := sound_of hm (CtxOK.nil.and k_Contains) (fun (c, put) => A_unit c put) (by kernel_rfl) fun (c, put) hl => cast (vc_unit c put) (by
  obtain ⟨hc, hp⟩ : Sz c ∧ Sz put := hl
  simp [-List.getD_eq_getElem?_getD, and_assoc]
  refine ⟨⟨0, by simp, 0, 0, by simp, rfl, rfl, rfl, rfl⟩, fun k f n hk hn he => ⟨fun hlt => ?_, fun hge => ?_⟩⟩
  · rw [drop_get 0 hlt] at he
    have e : IntKind.i64.wrap (-c.getD k 0) = Pl.wneg (c.getD k 0) := by unfold Pl.wneg; congr 1; omega
    rw [e]
    refine ⟨hlt, hp, fun h1 => ?_, fun h1 => ⟨hp, fun h2 => ⟨k + 1, hlt, c.getD k 0, n + 1, by omega, ?_, by omega, rfl, by rw [wrap_small (by omega) (by omega)]; omega, wrap_succ hlt hc⟩, fun h2 => ⟨k + 1, hlt, f, n, by omega, ?_, by omega, rfl, rfl, wrap_succ hlt hc⟩⟩⟩
    · rw [he]; simp [Pl.unitL, h1, -List.getD_eq_getElem?_getD]
    · rw [he]; simp [Pl.unitL, h1, h2, -List.getD_eq_getElem?_getD]
    · rw [he]; simp [Pl.unitL, h1, h2, -List.getD_eq_getElem?_getD]
  · rw [drop_end (by omega)] at he
    simp only [Pl.unitL] at he
    rw [he]
    have e : ((n : Int) == 0) = decide (n = 0) := by rw [Bool.eq_iff_iff]; simp
    refine ⟨fun h => ⟨by rw [if_pos (by omega)], e⟩, fun h => ⟨by rw [if_neg (by omega)], e⟩⟩)

theorem k_units : SoundC Try.prog K_units.1 K_units.2 := sound_of hm ((CtxOK.nil.and k_unit).and k_Clone) (fun (l, put) => A_units l put) (by kernel_rfl) fun (l, put) hl => cast (vc_units l put) (by
  obtain ⟨⟨m, hok⟩, ⟨hl, h2⟩, hp⟩ : (∃ m, Pl.cnfOk (m, l) = true) ∧ SzL l ∧ SzH put := hl
  simp [-List.getD_eq_getElem?_getD, and_assoc]
  have hm := Pl.cnfOk_mk hok
  refine ⟨put, hp, rfl, ⟨61, put, rfl, Pl.uncov_le put, rfl, rfl, .inr rfl⟩, fun k b he hu hk => ?_⟩
  obtain ⟨k, rfl⟩ : ∃ k', k = k' + 1 := ⟨k - 1, by omega⟩
  refine ⟨⟨0, by simp, by simp, rfl⟩, fun i hi hs => ⟨fun hlt => ?_, fun hge => ?_⟩⟩
  · have hs' := hs
    rw [drop_get [] hlt] at hs'
    simp only [Pl.scanI] at hs'
    refine ⟨hlt, h2 _ (getD_mem [] hlt), by omega, fun h1 => ?_, fun h1 => ⟨fun h3 => ⟨fun h4 => absurd h4 h3, fun _ => ?_⟩, fun h3 => ⟨i + 1, hlt, ?_, by omega, wrap_succ hlt hl⟩⟩⟩
    · rw [he]; unfold Pl.unitsF; rw [hs', if_pos h1]; exact ⟨rfl, rfl⟩
    · rw [h1, if_neg (by simp), if_pos h3] at hs'
      obtain ⟨h5, h7, h8⟩ := Pl.unit_free h3
      have h9 := Pl.cov_snoc (hm _ (getD_mem [] hlt) _ h5) h7 h8
      refine ⟨by omega, k, b ++ [(Pl.unit (l.getD i []) b).1], ?_, by omega, by simp; omega, by omega, by simp, ints_push⟩
      rw [he]
      conv => lhs; unfold Pl.unitsF
      rw [hs']
    · rw [hs, drop_get [] hlt]
      simp only [Pl.scanI]
      rw [h1, if_neg (by simp), if_neg (by simpa using h3)]
  · rw [drop_end (by omega)] at hs
    rw [he]; unfold Pl.unitsF; rw [hs]; exact ⟨rfl, rfl⟩)

end Cg

/-
  The codes' contracts: the reader. No condition.
-/
set_option linter.unusedVariables false
set_option linter.unusedSimpArgs false
set_option maxRecDepth 100000
namespace Cg
open Go Go.Proofs

theorem Rd.mono {m m' : Int} {b : List Int} {p : Int} (h : Rd m b p) (hm : m ≤ m') : Rd m' b p := ⟨h.1, h.2.1, h.2.2.1, Int.le_trans h.2.2.2 hm⟩
theorem Rd.add {m m' : Int} {b : List Int} {p p' : Int} (h : Rd m b p) (h1 : p ≤ p') (h2 : p' ≤ m') : Rd m' b p' := ⟨h.1, h.2.1, Int.le_trans h.2.2.1 h1, h2⟩

end Cg

/-
  Drawn clause sets: plain laws. No condition.
-/
set_option linter.unusedVariables false
set_option linter.unusedSimpArgs false
namespace Pl
open Go Cg

theorem putS_len : ∀ (l : List Int) (n : Int), (putS l n).1.length ≤ l.length + 1
  | [], n => by simp [putS]
  | x :: xs, n => by
    have := putS_len xs n
    simp only [putS]
    split
    · simp only [List.length_cons]; omega
    · split
      · simp only [List.length_cons]; omega
      · simp only [List.length_cons]; omega
theorem rightS_cons {many : Int} (hm : 0 ≤ many ∧ many ≤ 60) : ∀ {l done : List Int}, Cons done → rightS many done l = true → Cons (done ++ l)
  | [], done, hd, _ => by simpa using hd
  | x :: xs, done, hd, h => by
    simp only [rightS, Bool.and_eq_true, Bool.not_eq_true', Bool.or_eq_false_iff, decide_eq_false_iff_not] at h
    obtain ⟨⟨⟨h1, h2⟩, h3⟩, h4⟩ := h
    have hat : at_ x done = 0 := by omega
    obtain ⟨h5, h6⟩ := at_ne hat
    have h0 : 0 < absW x := by
      have ha : absW x = if x < -60 then 61 else if x > 60 then 61 else if x < 0 then -x else x := absW_eq
      rw [ha]; (repeat' split) <;> omega
    have hmk : Mk x := absW_mk h0 (by omega)
    have := rightS_cons hm (hd.snoc hmk h5 h6) h4
    simpa using this
theorem cons_nil : Cons [] := fun x hx => by cases hx
theorem cnfOk_many {c : Cnf} (h : cnfOk c = true) : 0 ≤ c.1 ∧ c.1 ≤ 60 := by
  simp only [cnfOk, Bool.and_eq_true, decide_eq_true_eq] at h
  exact ⟨h.1.1.1, h.1.1.2⟩
theorem units_put {c : Cnf} {put : List Int} (h : cnfOk c = true) (hr : rightS c.1 [] put = true) : unitsI c.2 put = unitsS c.2 put :=
  units_same (cnfOk_mk h) 61 put (by simpa using rightS_cons (cnfOk_many h) cons_nil hr)

/-! ### What a clause says where some marks are put -/

theorem at_mem {n : Int} : ∀ {put : List Int}, at_ n put = -1 → wneg n ∈ put
  | [], h => by cases h
  | p :: r, h => by
    unfold at_ at h
    split at h
    · cases h
    · split at h
      · rename_i h2; rw [h2]; exact List.mem_cons_self
      · exact List.mem_cons_of_mem _ (at_mem h)
theorem leftL_zero {put : List Int} : ∀ (c : List Int) (n : Nat) (l : Int), (leftL put c n l).1 = 0 → n = 0 ∧ ∀ x ∈ c, at_ x put = -1
  | [], n, l, h => ⟨h, fun x hx => by cases hx⟩
  | x :: xs, n, l, h => by
    simp only [leftL] at h
    split at h
    · cases h
    · rename_i h1
      split at h
      · have := (leftL_zero xs _ _ h).1
        omega
      · rename_i h2
        obtain ⟨h3, h4⟩ := leftL_zero xs _ _ h
        refine ⟨h3, fun y hy => ?_⟩
        cases List.mem_cons.1 hy with
        | inl e => subst e; rcases at_cases (n := y) put with h5 | h5 | h5
                   · exact absurd h5 h1
                   · exact h5
                   · exact absurd h5 h2
        | inr e => exact h4 y e
theorem leftL_falls {put : List Int} : ∀ (c : List Int) (n : Nat) (l : Int), (∀ x ∈ c, at_ x put = -1) → leftL put c n l = (n, l)
  | [], n, l, _ => rfl
  | x :: xs, n, l, h => by
    have h1 := h x List.mem_cons_self
    simp only [leftL]
    rw [if_neg (by omega), if_neg (by omega)]
    exact leftL_falls xs n l fun y hy => h y (List.mem_cons_of_mem _ hy)
theorem leftL_rest {put : List Int} : ∀ (c : List Int) (n : Nat) (l : Int), 0 < n → (leftL put c n l).1 = 1 → (leftL put c n l).2 = l ∧ ∀ x ∈ c, at_ x put = -1
  | [], n, l, _, _ => ⟨rfl, fun x hx => by cases hx⟩
  | x :: xs, n, l, hn, h => by
    simp only [leftL] at h ⊢
    split at h
    · cases h
    · rename_i h1
      rw [if_neg h1]
      split at h
      · rename_i h2
        rcases leftL_one xs (n + 1) _ h with ⟨h3, _⟩ | ⟨h3, _⟩
        · omega
        · omega
      · rename_i h2
        rw [if_neg h2]
        obtain ⟨h3, h4⟩ := leftL_rest xs n l hn h
        refine ⟨h3, fun y hy => ?_⟩
        cases List.mem_cons.1 hy with
        | inl e => subst e; rcases at_cases (n := y) put with h5 | h5 | h5
                   · exact absurd h5 h1
                   · exact h5
                   · exact absurd h5 h2
        | inr e => exact h4 y e
theorem leftL_last {put : List Int} : ∀ (c : List Int) (l : Int), (leftL put c 0 l).1 = 1 → ∀ x ∈ c, at_ x put = -1 ∨ x = (leftL put c 0 l).2
  | [], l, h => by cases h
  | x :: xs, l, h => by
    simp only [leftL] at h ⊢
    split at h
    · cases h
    · rename_i h1
      rw [if_neg h1]
      split at h
      · rename_i h2
        rw [if_pos h2]
        obtain ⟨h3, h4⟩ := leftL_rest xs _ _ (by omega) h
        intro y hy
        cases List.mem_cons.1 hy with
        | inl e => subst e; exact .inr (by rw [h3]; simp)
        | inr e => exact .inl (h4 y e)
      · rename_i h2
        rw [if_neg h2]
        intro y hy
        cases List.mem_cons.1 hy with
        | inl e => subst e; rcases at_cases (n := y) put with h5 | h5 | h5
                   · exact absurd h5 h1
                   · exact .inl h5
                   · exact absurd h5 h2
        | inr e => exact leftL_last xs l h y e
theorem scanS_bad {put : List Int} : ∀ {cs : List (List Int)}, scanS put cs = some none → ∃ c ∈ cs, (left put c).1 = 0
  | [], h => by cases h
  | c :: cs, h => by
    unfold scanS at h
    split at h
    · rename_i h1; exact ⟨c, List.mem_cons_self, h1⟩
    · split at h
      · cases h
      · obtain ⟨d, h2, h3⟩ := scanS_bad h
        exact ⟨d, List.mem_cons_of_mem _ h2, h3⟩
theorem scanS_unit {put : List Int} : ∀ {cs : List (List Int)} {l : Int}, scanS put cs = some (some l) → ∃ c ∈ cs, (left put c).1 = 1 ∧ (left put c).2 = l
  | [], _, h => by cases h
  | c :: cs, l, h => by
    unfold scanS at h
    split at h
    · cases h
    · split at h
      · rename_i h1; cases h; exact ⟨c, List.mem_cons_self, h1, rfl⟩
      · obtain ⟨d, h2, h3⟩ := scanS_unit h
        exact ⟨d, List.mem_cons_of_mem _ h2, h3⟩
theorem scanS_none {put : List Int} : ∀ {cs : List (List Int)}, scanS put cs = none → ∀ c ∈ cs, (left put c).1 ≠ 0 ∧ (left put c).1 ≠ 1
  | [], _, c, hc => by cases hc
  | d :: cs, h, c, hc => by
    unfold scanS at h
    split at h
    · cases h
    · rename_i h1
      split at h
      · cases h
      · rename_i h2
        cases List.mem_cons.1 hc with
        | inl e => subst e; exact ⟨h1, h2⟩
        | inr e => exact scanS_none h c e
theorem lIs_neg {x : Int} {v : List Bool} (h0 : x ≠ 0) (h1 : x ≤ v.length) (h2 : -(v.length : Int) ≤ x) : lIs (-x) v = !lIs x v := by
  have e1 : ¬ (-x = 0 ∨ -x > (v.length : Int) ∨ -x < -(v.length : Int)) := by omega
  have e2 : ¬ (x = 0 ∨ x > (v.length : Int) ∨ x < -(v.length : Int)) := by omega
  unfold lIs
  rw [if_neg e1, if_neg e2]
  by_cases h : x < 0
  · have e3 : ¬ -x < 0 := by omega
    rw [if_neg e3, if_pos h, Bool.not_not]; congr 2; omega
  · have e3 : -x < 0 := by omega
    rw [if_pos e3, if_neg h]; congr 3; omega
theorem Mk.le_abs {x n : Int} (h : Mk x) (h1 : absW x ≤ n) : x ≤ n ∧ -n ≤ x := by
  rw [absW_of h] at h1
  split at h1 <;> omega
theorem Mk.lIs {x : Int} {v : List Bool} (h : Mk x) (h1 : absW x ≤ v.length) : Pl.lIs (Pl.wneg x) v = !Pl.lIs x v := by
  obtain ⟨h2, h3⟩ := h.le_abs h1
  rw [h.wneg]
  exact lIs_neg h.1 h2 h3

theorem cnfOk_cl {c : Cnf} (h : cnfOk c = true) : ∀ cl ∈ c.2, ∀ x ∈ cl, Mk x ∧ absW x ≤ c.1 := fun cl hc x hx => by
  have h2 := h
  simp only [cnfOk, Bool.and_eq_true] at h2
  have h3 := (specLoop_mk (Int.le_refl 0) (List.all_eq_true.1 h2.2 cl hc)).2 x hx
  exact ⟨h3.1, h3.2.2⟩
theorem rightS_snoc {many : Int} : ∀ (l done : List Int) (x : Int), rightS many done (l ++ [x]) = (rightS many done l && !(decide (x = 0) || decide (absW x > many) || decide (at_ x (done ++ l) ≠ 0)))
  | [], done, x => by simp [rightS]
  | y :: ys, done, x => by
    simp only [List.cons_append, rightS, rightS_snoc ys]
    rw [Bool.and_assoc, List.append_assoc]
    rfl
theorem units_fix {c : Cnf} (hc : cnfOk c = true) : ∀ (k : Nat) (put : List Int), uncov put < k → rightS c.1 [] put = true → (unitsF scanS c.2 k put).2 = false →
    scanS (unitsF scanS c.2 k put).1 c.2 = none ∧ rightS c.1 [] (unitsF scanS c.2 k put).1 = true
  | 0, put, h, _, _ => by omega
  | k + 1, put, hu, hr, hb => by
    unfold unitsF at hb ⊢
    split
    · rename_i h; exact ⟨h, hr⟩
    · rename_i h; rw [h] at hb; cases hb
    · rename_i l h
      rw [h] at hb
      simp only at hb
      obtain ⟨cl, h1, h2, h3⟩ := scanS_some h
      obtain ⟨h4, h5⟩ := at_ne h3
      obtain ⟨h6, h7⟩ := cnfOk_cl hc cl h1 l h2
      have h8 := cov_snoc h6 h4 h5
      refine units_fix hc k _ (by omega) ?_ hb
      rw [rightS_snoc, hr]
      simp only [List.nil_append, Bool.true_and, Bool.not_eq_true', Bool.or_eq_false_iff, decide_eq_false_iff_not]
      exact ⟨⟨h6.1, by omega⟩, by omega⟩
theorem unitsF_len (scan : List Int → List (List Int) → Option (Option Int)) (list : List (List Int)) : ∀ (k : Nat) (put : List Int), (unitsF scan list k put).1.length ≤ put.length + k
  | 0, put => Nat.le_refl _
  | k + 1, put => by
    unfold unitsF
    split
    · simp only; omega
    · simp only; omega
    · have := unitsF_len scan list k (put ++ [‹Int›])
      simp only [List.length_append, List.length_singleton] at this
      omega
end Pl

/-
  The codes' contracts: drawn clause sets. No condition.
-/
set_option linter.unusedVariables false
set_option linter.unusedSimpArgs false
set_option maxRecDepth 100000
namespace Cg
open Go Go.Proofs

theorem beq_eq_decide (x y : Int) : (x == y) = decide (x = y) := by rw [Bool.eq_iff_iff]; simp

theorem k_l10Put : SoundC Try.prog K_l10Put.1 K_l10Put.2 := sound_of hm (CtxOK.nil.and k_l10Abs) (fun (l, n) => A_l10Put l n) (by kernel_rfl) fun (l, n) hl => cast (vc_l10Put l n) (by
  replace hl : SzH l := hl
  simp [-List.getD_eq_getElem?_getD, and_assoc]
  have tail : ∀ x, x ≤ l.length → Pl.putS l n = (l.take x ++ (n :: l.drop x), true) → Is (AV.sl (x + 1 + (l.length - x)) 1 fun i j => joinC (x + 1) (fun i j => joinC x (cI l) (rowsCell [[i64 n]]) i j) (fun i j => i64 (l.getD (i + x) 0)) i j) (ints (Pl.putS l n).fst) ∧ (Pl.putS l n).snd = true := fun x hx he => by
    have h1 := ((Rds.take EncN.eI hx).join (Rds.row (ints_row n))).join (Rds.drop EncN.eI l x)
    rw [he]
    have e : l.take x ++ n :: l.drop x = l.take x ++ [n] ++ l.drop x := by simp
    rw [e]
    exact ⟨h1.is, rfl⟩
  refine ⟨⟨0, by simp, by simp, rfl⟩, fun k hk he => ⟨fun hlt => ?_, fun hge => ?_⟩⟩
  · rw [drop_get 0 hlt] at he
    simp only [Pl.putS] at he
    refine ⟨hlt, fun h1 => ⟨k + 1, hlt, ?_, by omega, by rw [wrap_small (by omega) (by omega)]; omega⟩, fun h1 => ⟨fun _ => ⟨hlt, fun h2 => ⟨hlt, ?_⟩, fun h2 => ?_⟩, fun h => by omega⟩⟩
    · rw [he, if_pos h1, Pl.take_succ_getD 0 hlt]; simp
    · rw [he, if_neg (by omega), if_pos h2]
      refine ⟨?_, by rw [beq_eq_decide]⟩
      rw [← drop_get 0 hlt, List.take_append_drop]
    · have he' : Pl.putS l n = (l.take k ++ (n :: l.drop k), true) := by rw [he, if_neg (by omega), if_neg h2, drop_get 0 hlt]
      obtain ⟨t1, t2⟩ := tail k hk he'
      exact ⟨hk, by omega, hk, by omega, by omega, by omega, t1, t2⟩
  · refine ⟨fun h => by omega, fun _ => ?_⟩
    rw [drop_end (by omega)] at he
    have he' : Pl.putS l n = (l.take k ++ (n :: l.drop k), true) := by rw [he, drop_end (by omega)]; rfl
    obtain ⟨t1, t2⟩ := tail k hk he'
    exact ⟨hk, by omega, hk, by omega, by omega, by omega, t1, t2⟩)

theorem k_sClauseOf : SoundC Try.prog K_sClauseOf.1 K_sClauseOf.2 := sound_of hm ((CtxOK.nil.and k_l10Put).and k_l10Abs) A_sClauseOf (by kernel_rfl) fun (l : List Int) hl => cast (vc_sClauseOf l) (by
  replace hl : l.length ≤ 1073741824 := hl
  simp [-List.getD_eq_getElem?_getD, and_assoc]
  have step : ∀ k, k < l.length → l.any Pl.badMark = (l.drop k).any Pl.badMark → l.any Pl.badMark = (Pl.badMark (l.getD k 0) || (l.drop (k + 1)).any Pl.badMark) := fun k hlt he => by
    rw [he, drop_get 0 hlt, List.any_cons]
  have bad : l.any Pl.badMark = true → (Pl.clauseOf l).1 = [] ∧ (Pl.clauseOf l).2 = false := fun h => by
    unfold Pl.clauseOf; rw [if_pos h]; exact ⟨rfl, rfl⟩
  refine ⟨⟨0, by simp, by simp, rfl⟩, fun k hk he => ⟨fun hlt => ⟨hlt, fun h1 => bad (by rw [step k hlt he]; unfold Pl.badMark; rw [h1]; rfl), fun h1 => ⟨hlt, fun h2 => bad (by rw [step k hlt he]; unfold Pl.badMark; rw [decide_eq_true h2]; simp), fun h2 => ⟨k + 1, hlt, ?_, by omega, by rw [wrap_small (by omega) (by omega)]; omega⟩⟩⟩, fun hge => ?_⟩⟩
  · rw [step k hlt he]
    unfold Pl.badMark
    rw [decide_eq_false h1, decide_eq_false (by omega)]
    rfl
  · rw [drop_end (by omega)] at he
    have hno : Pl.clauseOf l = Pl.clauseL l [] := by unfold Pl.clauseOf; rw [if_neg (by rw [he]; simp)]
    refine ⟨⟨0, by simp, [], by simpa using hno, by simp, rfl, rfl⟩, fun i out hi he' ho => ⟨fun hlt => ?_, fun hge' => ?_⟩⟩
    · rw [drop_get 0 hlt] at he'
      simp only [Pl.clauseL] at he'
      refine ⟨hlt, by omega, fun h1 => by rw [he', if_neg (by rw [h1]; simp)]; exact ⟨rfl, rfl⟩, fun h1 => ⟨i + 1, hlt, _, ?_, ?_, by omega, rfl, by rw [wrap_small (by omega) (by omega)]; omega⟩⟩
      · rw [he', if_pos h1]
      · have := Pl.putS_len out (l.getD i 0); omega
    · rw [he', drop_end (by omega)]; exact ⟨rfl, rfl⟩)

end Cg

/-
  The codes' contracts: drawn clause sets, the rest. No condition.
-/
set_option linter.unusedVariables false
set_option linter.unusedSimpArgs false
set_option maxRecDepth 100000
namespace Cg
open Go Go.Proofs


theorem Rd.to {m m' : Int} {b : List Int} {p p' : Int} (h : Rd m b p) (h1 : 0 ≤ p') (h2 : p' ≤ m') : Rd m' b p' := ⟨h.1, h.2.1, h1, h2⟩
theorem Rds.two {v w : List Int} {a b : AV} (h1 : Is a (ints v)) (h2 : Is b (ints w)) : Rds 1 eII [] 2 (rowsCell [[a], [b]]) [v, w] := ⟨rfl, fun i hi j hj => by
  match i, j, hi, hj with
  | 0, 0, _, _ => exact h1
  | 1, 0, _, _ => exact h2⟩
theorem Rds.one {v : List Int} {a : AV} (h1 : Is a (ints v)) : Rds 1 eII [] 1 (rowsCell [[a]]) [v] := ⟨rfl, fun i hi j hj => by
  match i, j, hi, hj with
  | 0, 0, _, _ => exact h1⟩

theorem Sm.len {a : Int} {l : List (List Int)} (h : Sm (a, l)) : a ≤ 61 ∧ l.length ≤ 100 ∧ ∀ x ∈ l, x.length ≤ 100 := h
end Cg

/-
  The codes' contracts: the law that units are exact. No condition.
-/
set_option linter.unusedVariables false
set_option linter.unusedSimpArgs false
set_option maxRecDepth 100000
namespace Cg
open Go Go.Proofs Pl
theorem szL_sum : ∀ (l : List (List Int)) (k : Int), 0 ≤ Pl.szL l k → (sumW l : Int) ≤ k
  | [], k, h => h
  | y :: l, k, h => by
    simp only [Pl.szL] at h
    split at h
    · omega
    · have := szL_sum l _ h
      simp only [sumW]; omega
theorem szSS_sum {l : List (List Int)} {k : Int} (h : 0 ≤ Pl.szSS l k) : (sumW l : Int) ≤ k := by
  unfold Pl.szSS at h
  split at h
  · exact absurd h (by decide)
  · have := szL_sum l _ h; omega
theorem intss_self {l : List (List Int)} : Is (AV.sl l.length 1 (cII l)) (intss l) := Enc.intss l l |>.2 rfl
set_option maxHeartbeats 8000000 in
theorem g_toCnfO (c : Pl.Cnf) (h1 : SzC c) : GoalW Try.prog [K_toIntSSO] ([]) K_toCnfO.1 K_toCnfO.2 (c) := GoalW.of (vc_toCnfO c) (by
  simp (maxSteps := 2000000) [-List.getD_eq_getElem?_getD, -List.mem_cons, -Bool.forall_bool, -Bool.exists_bool, and_assoc, peta, tl_inj, ex_1, ex_2, ex_3, ex_4, ex_5, ex_6, ex_7, ex_8, ex_9, ey_2, ey_3, ey_4, ey_5, ey_6, ey_7, ey_8, ey_9]
  exact ⟨h1.1, h1.2⟩)
theorem k_toCnfO : SoundC Try.prog K_toCnfO.1 K_toCnfO.2 := sound_ofW hm (CtxOK.nil.and k_toIntSSO) (fun (c : Pl.Cnf) => []) (by kernel_rfl) fun (c : Pl.Cnf) hb => g_toCnfO c hb
set_option maxHeartbeats 8000000 in
theorem g_markCnf (c : Pl.Cnf) (k : Int) (h1 : SzC c) (h2 : 0 ≤ k) (h3 : k + sumW c.2 ≤ 1099511627776) : GoalW Try.prog [K_markIntSS] ([]) K_markCnf.1 K_markCnf.2 ((c, k)) := GoalW.of (vc_markCnf c k) (by
  simp (maxSteps := 2000000) [-List.getD_eq_getElem?_getD, -List.mem_cons, -Bool.forall_bool, -Bool.exists_bool, and_assoc, peta, tl_inj, ex_1, ex_2, ex_3, ex_4, ex_5, ex_6, ex_7, ex_8, ex_9, ey_2, ey_3, ey_4, ey_5, ey_6, ey_7, ey_8, ey_9]
  exact ⟨c.2, h1.1, h1.2, h2, h3, rfl, xrII_self, rfl, xrII_self⟩)
theorem k_markCnf : SoundC Try.prog K_markCnf.1 K_markCnf.2 := sound_ofW hm (CtxOK.nil.and k_markIntSS) (fun ((c, k) : Pl.Cnf × Int) => []) (by kernel_rfl) fun ((c, k) : Pl.Cnf × Int) hb => g_markCnf c k hb.1 hb.2.1 hb.2.2
end Cg

/-
  What is left to show of each function's code, printed by a program: Xco. No condition.
-/
set_option maxRecDepth 100000
set_option linter.unusedVariables false
namespace Cg
open Go Go.Proofs
theorem vc_CloneO (l : List Int) : (∀ (b : Bool),
 (b = true → l.length = (0 : Nat)) →
 condP b (∃ y : Unit, True ∧ (((0 : Nat) = (0 : Nat) ∧ (0 : Nat) = (0 : Nat) ∧ l.length = (0 : Nat)) ∧ True) ∧ IsO (arI l) (arI l) ∧ l.length = (0 : Nat) ∧ True)
 ((0 : Nat) + l.length ≤ l.length ∧ ((0 : Nat) = (0 : Nat) ∨ (0 : Nat) < l.length) ∧ ((0 : Nat) + l.length) * (8 : Nat) ≤ (70368744177664 : Nat) ∧ ∃ y : Unit,
 True ∧ (((0 : Nat) = (0 : Nat) ∧ (0 : Nat) + l.length = l.length) ∧ True) ∧ IsO (arI l) (arI l) ∧ IsO (AObj.arr ((0 : Nat) + l.length) (1 : Nat) (joinC (0 : Nat) (rowsCell []) (cI l))) (arI l) ∧ True)) = Goal Try.prog [] ([]) K_CloneO.1 K_CloneO.2 (l) := by kernel_rfl

theorem vc_iClauseOfO (l : List Int) : ((∃ x : Nat,
 (x ≤ l.length ∧ l.all (Pl.fineMark l) = (List.drop x l).all (Pl.fineMark l)) ∧ (((0 : Nat) = (0 : Nat) ∧ l.length = l.length) ∧ Is (AV.lit (0 : Nat) (1 : Nat) fun (x x_1 : Nat) => AV.any) nilA ∧ ((0 : Nat) = (0 : Nat) ∧ l.length = l.length) ∧ (↑l.length : Int) = (↑l.length : Int) ∧ (0 : Int) = (↑x : Int) ∧ True) ∧ IsO (arI l) (arI l) ∧ True) ∧ ∀ (x : Nat),
 x ≤ l.length ∧ l.all (Pl.fineMark l) = (List.drop x l).all (Pl.fineMark l) →
 condP (decide ((↑x : Int) < (↑l.length : Int)))
 (((0 : Int) ≤ (↑x : Int) ∧ (↑x : Int) < (↑l.length : Int)) ∧ x < l.length ∧ ∃ x_1 : Int × Int,
 (l.getD x (0 : Int) = x_1.1 ∧ (60 : Int) = x_1.2 ∧ True) ∧ True ∧ condP (!Pl.isMark x_1.1 x_1.2)
 (∃ y : List Int,
 True ∧ ((((0 : Nat) = (0 : Nat) ∧ (0 : Nat) = (0 : Nat) ∧ (Pl.clauseOf l).1.length = (0 : Nat)) ∧ false = (Pl.clauseOf l).2 ∧ True) ∧ True) ∧ IsO (arI l) (arI l) ∧ ((Pl.clauseOf l).1 ++ y).length = (0 : Nat) ∧ True)
 ((0 : Nat) + l.length ≤ l.length ∧ ∃ x_2 : List Int × Int,
 (Is (ints l) (ints x_2.1) ∧ IntKind.i64.wrap ((0 : Int) - l.getD x (0 : Int)) = x_2.2 ∧ True) ∧ Sz x_2.1 ∧ condP (x_2.1.contains x_2.2)
 (∃ y : List Int,
 True ∧ ((((0 : Nat) = (0 : Nat) ∧ (0 : Nat) = (0 : Nat) ∧ (Pl.clauseOf l).1.length = (0 : Nat)) ∧ false = (Pl.clauseOf l).2 ∧ True) ∧ True) ∧ IsO (arI l) (arI l) ∧ ((Pl.clauseOf l).1 ++ y).length = (0 : Nat) ∧ True)
 (Exists fun (x' : Nat) =>
 (x' ≤ l.length ∧ l.all (Pl.fineMark l) = (List.drop x' l).all (Pl.fineMark l)) ∧ l.length - x' < l.length - x ∧ (((0 : Nat) = (0 : Nat) ∧ l.length = l.length) ∧ Is (AV.lit (0 : Nat) (1 : Nat) fun (x x_3 : Nat) => AV.any) nilA ∧ ((0 : Nat) = (0 : Nat) ∧ l.length = l.length) ∧ (↑l.length : Int) = (↑l.length : Int) ∧ IntKind.i64.wrap ((↑x : Int) + (1 : Int)) = (↑x' : Int) ∧ True) ∧ IsO (arI l) (arI l) ∧ True)))
 (∃ x : List Int,
 SzH x ∧ ((((0 : Nat) = (0 : Nat) ∧ l.length = x.length) ∧ True) ∧ IsO (arI l) (arI x) ∧ True) ∧ ∀ (y : Unit),
 True →
 ∃ x_1 : List Int,
 x_1.length ≤ (4294967296 : Nat) ∧ ((((0 : Nat) = (0 : Nat) ∧ x.length = x_1.length) ∧ True ∧ True) ∧ IsO (arI x) (arI x_1) ∧ True) ∧ ∀ (y : List Int),
 x_1.Perm y ∧ Pl.SortedV y →
 ∃ x_2 : List Int,
 x_2.length ≤ (4294967296 : Nat) ∧ ((((0 : Nat) = (0 : Nat) ∧ x.length = x_2.length) ∧ True) ∧ IsO (arI y) (arI x_2) ∧ True) ∧ ∀ (y : Unit),
 True →
 ∃ y : List Int,
 True ∧ ((((0 : Nat) = (0 : Nat) ∧ (Pl.compactL x_2).length = (Pl.clauseOf l).1.length) ∧ true = (Pl.clauseOf l).2 ∧ True) ∧ True) ∧ IsO (arI x) (arI l) ∧ IsO (arI (Pl.compactL x_2 ++ List.replicate (x_2.length - (Pl.compactL x_2).length) (0 : Int))) (arI ((Pl.clauseOf l).1 ++ y)) ∧ True)) = Goal Try.prog [K_isMark, K_Contains, K_CloneO, K_SortFunc, K_Compact] (A_iClauseOfO l) K_iClauseOfO.1 K_iClauseOfO.2 (l) := by kernel_rfl

end Cg

/-
  What is left to show of each function's code, printed by a program: Srt. No condition.
-/
set_option maxRecDepth 100000
set_option linter.unusedVariables false
namespace Cg
open Go Go.Proofs
end Cg

/-
  The library's sort at this program: laid by the kit's own programs (shelf_lay_g, lay-plain); the comparison walked. No condition.
-/
namespace Go.Proofs
open Go.Shelf
def Try.laysSF_ren : Go.Shelf.Ren := ⟨fun | 6 => 69 | 15 => 76 | 14 => 75 | 28 => 87 | 29 => 88 | 20 => 79 | 21 => 80 | 22 => 81 | 23 => 82 | 24 => 83 | 25 => 84 | 26 => 85 | 27 => 86 | 46 => 89 | 47 => 90 | 48 => 91 | 49 => 92 | 50 => 93 | 57 => 94 | n => n, fun | 22 => 25 | 24 => 3 | 25 => 85 | 3 => 3 | 39 => 88 | 0 => 0 | 53 => 99 | 55 => 101 | 4 => 4 | 46 => 93 | 45 => 92 | 50 => 71 | 5 => 5 | 9 => 9 | 66 => 102 | 70 => 106 | 76 => 108 | 77 => 67 | n => n, fun | n => n⟩
theorem Try.laysSF : Go.Proofs.SlLaysF.n6 Try.prog Try.laysSF_ren := {
  mixed := by kernel_rfl
  f6 := ⟨Try.f69.name, by decide, Try.func69.trans (congrArg some (by kernel_rfl))⟩
  f14 := ⟨Try.f75.name, by decide, Try.func75.trans (congrArg some (by kernel_rfl))⟩
  f15 := Try.func76.trans (congrArg some (by kernel_rfl))
  f20 := ⟨Try.f79.name, by decide, Try.func79.trans (congrArg some (by kernel_rfl))⟩
  f21 := ⟨Try.f80.name, by decide, Try.func80.trans (congrArg some (by kernel_rfl))⟩
  f22 := ⟨Try.f81.name, by decide, Try.func81.trans (congrArg some (by kernel_rfl))⟩
  f23 := ⟨Try.f82.name, by decide, Try.func82.trans (congrArg some (by kernel_rfl))⟩
  f24 := ⟨Try.f83.name, by decide, Try.func83.trans (congrArg some (by kernel_rfl))⟩
  f25 := ⟨Try.f84.name, by decide, Try.func84.trans (congrArg some (by kernel_rfl))⟩
  f26 := ⟨Try.f85.name, by decide, Try.func85.trans (congrArg some (by kernel_rfl))⟩
  f27 := ⟨Try.f86.name, by decide, Try.func86.trans (congrArg some (by kernel_rfl))⟩
  f28 := Try.func87.trans (congrArg some (by kernel_rfl))
  f29 := Try.func88.trans (congrArg some (by kernel_rfl))
  f46 := ⟨Try.f89.name, by decide, Try.func89.trans (congrArg some (by kernel_rfl))⟩
  f47 := Try.func90.trans (congrArg some (by kernel_rfl))
  f48 := Try.func91.trans (congrArg some (by kernel_rfl))
  f49 := ⟨Try.f92.name, by decide, Try.func92.trans (congrArg some (by kernel_rfl))⟩
  f50 := ⟨Try.f93.name, by decide, Try.func93.trans (congrArg some (by kernel_rfl))⟩
  f57 := ⟨Try.f94.name, by decide, Try.func94.trans (congrArg some (by kernel_rfl))⟩
  t0 := Try.underlying0
  a0 := Try.isAgg0
  z0 := Try.sizeOf0
  v0 := Try.zeroValue0
  t3 := Try.underlying3
  a3 := Try.isAgg3
  z3 := Try.sizeOf3
  v3 := Try.zeroValue3
  t4 := Try.underlying4
  a4 := Try.isAgg4
  z4 := Try.sizeOf4
  v4 := Try.zeroValue4
  t5 := Try.underlying5
  a5 := Try.isAgg5
  z5 := Try.sizeOf5
  v5 := Try.zeroValue5
  t9 := Try.underlying9
  a9 := Try.isAgg9
  z9 := Try.sizeOf9
  v9 := Try.zeroValue9
  t22 := Try.underlying25
  a22 := Try.isAgg25
  z22 := Try.sizeOf25
  v22 := Try.zeroValue25
  a24 := Try.isAgg3
  z24 := Try.sizeOf3
  t25 := Try.underlying85
  a25 := Try.isAgg85
  z25 := Try.sizeOf85
  v25 := Try.zeroValue85
  t39 := Try.underlying88
  a39 := Try.isAgg88
  z39 := Try.sizeOf88
  v39 := Try.zeroValue88
  t45 := Try.underlying92
  a45 := Try.isAgg92
  z45 := Try.sizeOf92
  v45 := Try.zeroValue92
  t46 := Try.underlying93
  a46 := Try.isAgg93
  z46 := Try.sizeOf93
  v46 := Try.zeroValue93
  t50 := Try.underlying71
  a50 := Try.isAgg71
  z50 := Try.sizeOf71
  v50 := Try.zeroValue71
  t53 := Try.underlying99
  a53 := Try.isAgg99
  z53 := Try.sizeOf99
  v53 := Try.zeroValue99
  t55 := Try.underlying101
  a55 := Try.isAgg101
  z55 := Try.sizeOf101
  v55 := Try.zeroValue101
  t66 := Try.underlying102
  a66 := Try.isAgg102
  z66 := Try.sizeOf102
  v66 := Try.zeroValue102
  t70 := Try.underlying106
  a70 := Try.isAgg106
  z70 := Try.sizeOf106
  v70 := Try.zeroValue106
  t76 := Try.underlying108
  a76 := Try.isAgg108
  z76 := Try.sizeOf108
  v76 := Try.zeroValue108
  t77 := Try.underlying67
  a77 := Try.isAgg67
  z77 := Try.sizeOf67
  v77 := Try.zeroValue67 }
open Go.RowKit
def Srt.abs (a : Int) : Int := if a < wrap64 (-a) then wrap64 (-a) else a
def Srt.cmp (a b : Int) : Int := if a < b then -1 else if b < a then 1 else 0
set_option maxHeartbeats 400000 in
theorem Try.var_calls (a : Int) (w : World) :
    Calls Try.prog 64 #[.int .i64 a] w fun e w' => e = .returned (.int .i64 (Srt.abs a)) ∧ w' = w := by
  go_enter Try.func64, Try.ntmps64
  go_wp2
  go_ret
  refine ⟨?_, rfl⟩
  have e : max a (wrap64 (-a)) = Srt.abs a := by unfold Srt.abs; split <;> omega
  rw [← e]; rfl
set_option maxHeartbeats 400000 in
theorem Try.isnan_calls (a : Int) (w : World) :
    Calls Try.prog 77 #[.int .i64 a] w fun e w' => e = .returned (.bool false) ∧ w' = w := by
  go_enter Try.func77, Try.ntmps77
  go_wp2
  go_ret
  exact ⟨by simp, rfl⟩
set_option maxHeartbeats 400000 in
theorem Try.compare_calls (a b : Int) (w : World) :
    Calls Try.prog 71 #[.int .i64 a, .int .i64 b] w fun e w' => e = .returned (.int .i64 (Srt.cmp a b)) ∧ w' = w := by
  have h1 := fun x => Try.isnan_calls x w
  go_enter Try.func71, Try.ntmps71
  go_wp2_with (go_at_call 77; refine (h1 _).mono ?_; rintro e w' ⟨rfl, rfl⟩)
  all_goals go_ret
  all_goals
    refine ⟨?_, rfl⟩
    unfold Srt.cmp
    first
    | (rw [if_pos (by omega)]; rfl)
    | (rw [if_neg (by omega), if_pos (by omega)]; rfl)
    | (rw [if_neg (by omega), if_neg (by omega)]; rfl)
set_option maxHeartbeats 400000 in
theorem Try.clausecmp_calls (a b : Int) (w : World) :
    Calls Try.prog 70 #[.int .i64 a, .int .i64 b] w fun e w' => e = .returned (.int .i64 (Srt.cmp (Srt.abs a) (Srt.abs b))) ∧ w' = w := by
  have h1 := fun x => Try.var_calls x w
  have h2 := fun x y => Try.compare_calls x y w
  go_enter Try.func70, Try.ntmps70
  go_wp2_with (first | (go_at_call 64; refine (h1 _).mono ?_; rintro e w' ⟨rfl, rfl⟩) | (go_at_call 71; refine (h2 _ _).mono ?_; rintro e w' ⟨rfl, rfl⟩))
  go_ret
  exact ⟨rfl, rfl⟩
end Go.Proofs

/-
  The library functions' contracts at this program, laid by the kit's own programs (lay-shelf, lay-plain). No condition.
-/
namespace Go.Proofs
open Go.Shelf
def Try.laysNm220_ren : Go.Shelf.Ren := ⟨fun | 20 => 72 | n => n, fun | 22 => 25 | 3 => 3 | 4 => 4 | 0 => 0 | n => n, fun | n => n⟩
theorem Try.laysNm220 : Go.Proofs.Lays2.n20 Try.prog Try.laysNm220_ren := {
  mixed := by kernel_rfl
  f20 := Try.func72.trans (congrArg some (by kernel_rfl))
  t0 := Try.underlying0
  a0 := Try.isAgg0
  z0 := Try.sizeOf0
  v0 := Try.zeroValue0
  t3 := Try.underlying3
  a3 := Try.isAgg3
  z3 := Try.sizeOf3
  v3 := Try.zeroValue3
  t4 := Try.underlying4
  a4 := Try.isAgg4
  z4 := Try.sizeOf4
  v4 := Try.zeroValue4
  t22 := Try.underlying25
  a22 := Try.isAgg25
  z22 := Try.sizeOf25
  v22 := Try.zeroValue25
  i3 := by kernel_rfl }
open Go.RowKit Go.Lib Go.Sort in
theorem Try.slices_Compact_int (blk off cap : Nat) (zs : List Int) (w : World) (hH : Holds (Value.int .i64) w blk off zs.toArray) (hsz : zs.length ≤ 9223372036854775807) (hcap : zs.length ≤ cap) :
    Calls Try.prog 72 #[.slice (some ⟨blk, off, none⟩) zs.length cap] w fun e w' => e = .returned (.slice (some ⟨blk, off, none⟩) (Lib.compact zs).length cap) ∧ ∃ q, w' = putRow (Value.int .i64) (Sort.ahead w q) blk off (Lib.compact zs ++ List.replicate (zs.length - (Lib.compact zs).length) 0).toArray := Any.slices_Compact_int Try.laysNm220 blk off cap zs w hH hsz hcap
open Go.RowKit Go.Lib Go.Sort in
theorem Try.slices_Compact_int_empty (a : Option Addr) (cap : Nat) (w : World) :
    Calls Try.prog 72 #[.slice a 0 cap] w fun e w' => e = .returned (.slice a 0 cap) ∧ w' = w := Any.slices_Compact_int_empty Try.laysNm220 a cap w
end Go.Proofs
