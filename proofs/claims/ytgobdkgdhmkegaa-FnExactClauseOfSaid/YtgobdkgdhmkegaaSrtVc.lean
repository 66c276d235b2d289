/-
  What is left to show of each function's code, printed by a program: Srt. No condition.
-/
import Derived.Test.YtgobdkgdhmkegaaSrtDefs
import Derived.Test.YtgobdkgdhmkegaaProg
set_option maxRecDepth 100000
set_option linter.unusedVariables false
namespace Cg
open Go Go.Proofs
theorem vc_iClauseOf (l : List Int) : ((Exists fun (x : Nat) =>
 (x ≤ l.length ∧ l.all (Pl.fineMark l) = (List.drop x l).all (Pl.fineMark l)) ∧
 (Is (ints l) (ints l) ∧ Is (ints l) (ints l) ∧ (↑l.length : Int) = (↑l.length : Int) ∧ (0 : Int) = (↑x : Int) ∧ True) ∧ True) ∧
 ∀ (x : Nat),
 x ≤ l.length ∧ l.all (Pl.fineMark l) = (List.drop x l).all (Pl.fineMark l) →
 condP (Decidable.decide ((↑x : Int) < (↑l.length : Int)))
 (((0 : Int) ≤ (↑x : Int) ∧ (↑x : Int) < (↑l.length : Int)) ∧
 x < l.length ∧
 Exists fun (x_1 : Int × Int) =>
 (l.getD x (0 : Int) = x_1.fst ∧ (60 : Int) = x_1.snd ∧ True) ∧
 True ∧
 condP (!Pl.isMark x_1.fst x_1.snd) (Is (AV.lit (0 : Nat) (1 : Nat) fun (x x_2 : Nat) => AV.any) (ints (Pl.clauseOf l).fst) ∧ Bool.false = (Pl.clauseOf l).snd ∧ True)
 (Exists fun (x_2 : List Int × Int) =>
 (Is (ints l) (ints x_2.fst) ∧ IntKind.i64.wrap ((0 : Int) - l.getD x (0 : Int)) = x_2.snd ∧ True) ∧
 Sz x_2.fst ∧
 condP (x_2.fst.contains x_2.snd)
 (Is (AV.lit (0 : Nat) (1 : Nat) fun (x x_3 : Nat) => AV.any) (ints (Pl.clauseOf l).fst) ∧ Bool.false = (Pl.clauseOf l).snd ∧ True)
 (Exists fun (x' : Nat) =>
 (x' ≤ l.length ∧ l.all (Pl.fineMark l) = (List.drop x' l).all (Pl.fineMark l)) ∧
 l.length - x' < l.length - x ∧
 (Is (ints l) (ints l) ∧
 Is (ints l) (ints l) ∧ (↑l.length : Int) = (↑l.length : Int) ∧ IntKind.i64.wrap ((↑x : Int) + (1 : Int)) = (↑x' : Int) ∧ True) ∧
 True)))
 (Exists fun (x : List Int) =>
 SzH x ∧
 ((Is (ints l) (ints x) ∧ True) ∧ True) ∧
 ∀ (y : Unit),
 True →
 Exists fun (x_1 : List Int) =>
 x_1.length ≤ (4294967296 : Nat) ∧
 ((((0 : Nat) = (0 : Nat) ∧ x.length = x_1.length) ∧ True ∧ True) ∧ IsO (arI x) (arI x_1) ∧ True) ∧
 ∀ (y : List Int),
 x_1.Perm y ∧ Pl.SortedV y →
 Exists fun (x_2 : List Int) =>
 x_2.length ≤ (4294967296 : Nat) ∧
 ((((0 : Nat) = (0 : Nat) ∧ x.length = x_2.length) ∧ True) ∧ IsO (arI y) (arI x_2) ∧ True) ∧
 ∀ (y : Unit),
 True →
 (0 : Nat) + (Pl.compactL x_2).length ≤ (Pl.compactL x_2 ++ List.replicate (x_2.length - (Pl.compactL x_2).length) (0 : Int)).length ∧
 Is (AV.sl (Pl.compactL x_2).length (1 : Nat) (cI (Pl.compactL x_2 ++ List.replicate (x_2.length - (Pl.compactL x_2).length) (0 : Int))))
 (ints (Pl.clauseOf l).fst) ∧
 Bool.true = (Pl.clauseOf l).snd ∧ True)) = Goal Try.prog [K_isMark, K_Contains, K_Clone, K_SortFunc, K_Compact] (A_iClauseOf l) K_iClauseOf.1 K_iClauseOf.2 (l) := by kernel_rfl

end Cg
