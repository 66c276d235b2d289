/-
  What is left to show of each function's code, printed by a program: Xco. No condition.
-/
import Derived.Test.YtgobdkgdhmkegaaXcoDefs
import Derived.Test.YtgobdkgdhmkegaaProg
set_option maxRecDepth 100000
set_option linter.unusedVariables false
namespace Cg
open Go Go.Proofs
theorem vc_toIntSO (l : List Int) : ((0 : Int) ≤ (↑l.length : Int) ∧
 (↑l.length : Int) ≤ (↑l.length : Int) ∧
 (↑(8 : Nat) : Int) * (↑l.length : Int) ≤ (140737488355328 : Int) ∧
 (↑l.length : Int) ≤ (140737488355328 : Int) ∧
 (Exists fun (x : Nat × List Int) =>
 (x.fst ≤ l.length ∧ x.snd.length = l.length ∧ List.take x.fst x.snd = List.take x.fst l) ∧
 (Is (ints l) (ints l) ∧ ((0 : Nat) = (0 : Nat) ∧ l.length = x.snd.length) ∧ (0 : Int) = (↑x.fst : Int) ∧ True) ∧
 IsO (AObj.arr l.length (1 : Nat) fun (x j : Nat) => [i64 (0 : Int)].getD j AV.any) (arI x.snd) ∧ True) ∧
 ∀ (x : Nat × List Int),
 x.fst ≤ l.length ∧ x.snd.length = l.length ∧ List.take x.fst x.snd = List.take x.fst l →
 condP (Decidable.decide ((↑x.fst : Int) < (↑l.length : Int)))
 (((0 : Int) ≤ (↑x.fst : Int) ∧ (↑x.fst : Int) < (↑l.length : Int)) ∧
 x.fst < l.length ∧
 ((0 : Int) ≤ (↑x.fst : Int) ∧ (↑x.fst : Int) < (↑x.snd.length : Int)) ∧
 x.fst < x.snd.length ∧
 Exists fun (x' : Nat × List Int) =>
 (x'.fst ≤ l.length ∧ x'.snd.length = l.length ∧ List.take x'.fst x'.snd = List.take x'.fst l) ∧
 l.length - x'.fst < l.length - x.fst ∧
 (Is (ints l) (ints l) ∧ ((0 : Nat) = (0 : Nat) ∧ x.snd.length = x'.snd.length) ∧ IntKind.i64.wrap ((↑x.fst : Int) + (1 : Int)) = (↑x'.fst : Int) ∧ True) ∧
 IsO (AObj.arr x.snd.length (1 : Nat) (storeC (cI x.snd) x.fst (0 : Nat) [i64 (l.getD x.fst (0 : Int))])) (arI x'.snd) ∧ True)
 (Exists fun (y : Unit) => True ∧ (((0 : Nat) = (0 : Nat) ∧ x.snd.length = l.length) ∧ True) ∧ IsO (arI x.snd) (arI l) ∧ True)) = Goal Try.prog [] (A_toIntS l) K_toIntSO.1 K_toIntSO.2 (l) := by kernel_rfl

theorem vc_CloneO (l : List Int) : (∀ (b : Bool),
 (b = Bool.true → l.length = (0 : Nat)) →
 condP b (Exists fun (y : Unit) => True ∧ (((0 : Nat) = (0 : Nat) ∧ (0 : Nat) = (0 : Nat) ∧ l.length = (0 : Nat)) ∧ True) ∧ IsO (arI l) (arI l) ∧ l.length = (0 : Nat) ∧ True)
 ((0 : Nat) + l.length ≤ l.length ∧
 ((0 : Nat) = (0 : Nat) ∨ (0 : Nat) < l.length) ∧
 ((0 : Nat) + l.length) * (8 : Nat) ≤ (70368744177664 : Nat) ∧
 Exists fun (y : Unit) =>
 True ∧
 (((0 : Nat) = (0 : Nat) ∧ (0 : Nat) + l.length = l.length) ∧ True) ∧
 IsO (arI l) (arI l) ∧ IsO (AObj.arr ((0 : Nat) + l.length) (1 : Nat) (joinC (0 : Nat) (rowsCell []) (cI l))) (arI l) ∧ True)) = Goal Try.prog [] ([]) K_CloneO.1 K_CloneO.2 (l) := by kernel_rfl

theorem vc_iClauseOfO (l : List Int) : ((Exists fun (x : Nat) =>
 (x ≤ l.length ∧ l.all (Pl.fineMark l) = (List.drop x l).all (Pl.fineMark l)) ∧
 (((0 : Nat) = (0 : Nat) ∧ l.length = l.length) ∧
 Is (AV.lit (0 : Nat) (1 : Nat) fun (x x_1 : Nat) => AV.any) nilA ∧
 ((0 : Nat) = (0 : Nat) ∧ l.length = l.length) ∧ (↑l.length : Int) = (↑l.length : Int) ∧ (0 : Int) = (↑x : Int) ∧ True) ∧
 IsO (arI l) (arI l) ∧ True) ∧
 ∀ (x : Nat),
 x ≤ l.length ∧ l.all (Pl.fineMark l) = (List.drop x l).all (Pl.fineMark l) →
 condP (Decidable.decide ((↑x : Int) < (↑l.length : Int)))
 (((0 : Int) ≤ (↑x : Int) ∧ (↑x : Int) < (↑l.length : Int)) ∧
 x < l.length ∧
 Exists fun (x_1 : Int × Int) =>
 (l.getD x (0 : Int) = x_1.fst ∧ (60 : Int) = x_1.snd ∧ True) ∧
 True ∧
 condP (!Pl.isMark x_1.fst x_1.snd)
 (Exists fun (y : List Int) =>
 True ∧
 ((((0 : Nat) = (0 : Nat) ∧ (0 : Nat) = (0 : Nat) ∧ (Pl.clauseOf l).fst.length = (0 : Nat)) ∧ Bool.false = (Pl.clauseOf l).snd ∧ True) ∧ True) ∧
 IsO (arI l) (arI l) ∧ ((Pl.clauseOf l).fst ++ y).length = (0 : Nat) ∧ True)
 ((0 : Nat) + l.length ≤ l.length ∧
 Exists fun (x_2 : List Int × Int) =>
 (Is (ints l) (ints x_2.fst) ∧ IntKind.i64.wrap ((0 : Int) - l.getD x (0 : Int)) = x_2.snd ∧ True) ∧
 Sz x_2.fst ∧
 condP (x_2.fst.contains x_2.snd)
 (Exists fun (y : List Int) =>
 True ∧
 ((((0 : Nat) = (0 : Nat) ∧ (0 : Nat) = (0 : Nat) ∧ (Pl.clauseOf l).fst.length = (0 : Nat)) ∧ Bool.false = (Pl.clauseOf l).snd ∧ True) ∧ True) ∧
 IsO (arI l) (arI l) ∧ ((Pl.clauseOf l).fst ++ y).length = (0 : Nat) ∧ True)
 (Exists fun (x' : Nat) =>
 (x' ≤ l.length ∧ l.all (Pl.fineMark l) = (List.drop x' l).all (Pl.fineMark l)) ∧
 l.length - x' < l.length - x ∧
 (((0 : Nat) = (0 : Nat) ∧ l.length = l.length) ∧
 Is (AV.lit (0 : Nat) (1 : Nat) fun (x x_3 : Nat) => AV.any) nilA ∧
 ((0 : Nat) = (0 : Nat) ∧ l.length = l.length) ∧ (↑l.length : Int) = (↑l.length : Int) ∧ IntKind.i64.wrap ((↑x : Int) + (1 : Int)) = (↑x' : Int) ∧ True) ∧
 IsO (arI l) (arI l) ∧ True)))
 (Exists fun (x : List Int) =>
 SzH x ∧
 ((((0 : Nat) = (0 : Nat) ∧ l.length = x.length) ∧ True) ∧ IsO (arI l) (arI x) ∧ True) ∧
 ∀ (y : Unit),
 True →
 Exists fun (x_1 : List Int) =>
 x_1.length ≤ (4294967296 : Nat) ∧
 ((((0 : Nat) = (0 : Nat) ∧ x.length = x_1.length) ∧ True ∧ True) ∧ IsO (arI x) (arI x_1) ∧ True) ∧
 ∀ (y : List Int),
 x_1.Perm y ∧ Pl.SortedV y →
 Exists fun (x_2 : List Int) =>
 x_2.length ≤ (4294967296 : Nat) ∧
 ((((0 : Nat) = (0 : Nat) ∧ x.length = x_2.length) ∧ True) ∧ IsO (arI y) (arI x_2) ∧ True) ∧
 ∀ (y : Unit),
 True →
 Exists fun (y : List Int) =>
 True ∧
 ((((0 : Nat) = (0 : Nat) ∧ (Pl.compactL x_2).length = (Pl.clauseOf l).fst.length) ∧ Bool.true = (Pl.clauseOf l).snd ∧ True) ∧ True) ∧
 IsO (arI x) (arI l) ∧
 IsO (arI (Pl.compactL x_2 ++ List.replicate (x_2.length - (Pl.compactL x_2).length) (0 : Int))) (arI ((Pl.clauseOf l).fst ++ y)) ∧ True)) = Goal Try.prog [K_isMark, K_Contains, K_CloneO, K_SortFunc, K_Compact] (A_iClauseOfO l) K_iClauseOfO.1 K_iClauseOfO.2 (l) := by kernel_rfl

theorem vc_markIntS (l r : List Int) (k : Int) : ((Exists fun (x : Nat) =>
 x ≤ l.length ∧
 (((0 : Nat) = (0 : Nat) ∧ l.length = l.length) ∧ k = k + (↑x : Int) ∧ (0 : Int) = (↑x : Int) ∧ True) ∧ IsO (arI (l ++ r)) (arI (Pl.seqI k x ++ List.drop x (l ++ r))) ∧ True) ∧
 ∀ (x : Nat),
 x ≤ l.length →
 condP (Decidable.decide ((↑x : Int) < (↑l.length : Int)))
 (((0 : Int) ≤ (↑x : Int) ∧ (↑x : Int) < (↑l.length : Int)) ∧
 x < (Pl.seqI k x ++ List.drop x (l ++ r)).length ∧
 Exists fun (x' : Nat) =>
 x' ≤ l.length ∧
 l.length - x' < l.length - x ∧
 (((0 : Nat) = (0 : Nat) ∧ l.length = l.length) ∧
 IntKind.i64.wrap (k + (↑x : Int) + (1 : Int)) = k + (↑x' : Int) ∧ IntKind.i64.wrap ((↑x : Int) + (1 : Int)) = (↑x' : Int) ∧ True) ∧
 IsO (AObj.arr (Pl.seqI k x ++ List.drop x (l ++ r)).length (1 : Nat) (storeC (cI (Pl.seqI k x ++ List.drop x (l ++ r))) x (0 : Nat) [i64 (k + (↑x : Int))]))
 (arI (Pl.seqI k x' ++ List.drop x' (l ++ r))) ∧
 True)
 (Exists fun (y : Unit) => True ∧ (k + (↑x : Int) = k + (↑l.length : Int) ∧ True) ∧ IsO (arI (Pl.seqI k x ++ List.drop x (l ++ r))) (arI (Pl.seqI k l.length ++ r)) ∧ True)) = Goal Try.prog [] (A_markIntS l r k) K_markIntS.1 K_markIntS.2 ((l, r, k)) := by kernel_rfl

theorem vc_heldIntS (l : List Int) (k : Int) : ((Exists fun (x : Nat) => (x ≤ l.length ∧ List.take x l = Pl.seqI k x) ∧ (Is (ints l) (ints l) ∧ k = k + (↑x : Int) ∧ (0 : Int) = (↑x : Int) ∧ True) ∧ True) ∧
 ∀ (x : Nat),
 x ≤ l.length ∧ List.take x l = Pl.seqI k x →
 condP (Decidable.decide ((↑x : Int) < (↑l.length : Int)))
 (((0 : Int) ≤ (↑x : Int) ∧ (↑x : Int) < (↑l.length : Int)) ∧
 x < l.length ∧
 condP (l.getD x (0 : Int) != k + (↑x : Int)) ((-1 : Int) = Pl.heldI l k)
 (Exists fun (x' : Nat) =>
 (x' ≤ l.length ∧ List.take x' l = Pl.seqI k x') ∧
 l.length - x' < l.length - x ∧
 (Is (ints l) (ints l) ∧ IntKind.i64.wrap (k + (↑x : Int) + (1 : Int)) = k + (↑x' : Int) ∧ IntKind.i64.wrap ((↑x : Int) + (1 : Int)) = (↑x' : Int) ∧ True) ∧ True))
 (k + (↑x : Int) = Pl.heldI l k)) = Goal Try.prog [] (A_heldIntS l k) K_heldIntS.1 K_heldIntS.2 ((l, k)) := by kernel_rfl

theorem vc_xClauseOf (l : List Int) : (condP (Decidable.decide ((↑l.length : Int) > (1048576 : Int))) (Bool.true = Bool.true)
 (Exists fun (x : List Int) =>
 Sz x ∧
 ((Is (ints l) (ints x) ∧ True) ∧ True) ∧
 ∀ (y : Unit),
 True →
 (0 : Nat) + x.length ≤ x.length ∧
 Exists fun (x_1 : List Int) =>
 (Is (ints x) (ints x_1) ∧ True) ∧
 x_1.length ≤ (1073741824 : Nat) ∧
 Exists fun (x : List Int) =>
 Sz x ∧
 ((Is (ints l) (ints x) ∧ True) ∧ True) ∧
 ∀ (y : Unit),
 True →
 Exists fun (x_2 : List Int) =>
 x_2.length ≤ (1073741824 : Nat) ∧
 ((((0 : Nat) = (0 : Nat) ∧ x.length = x_2.length) ∧ True) ∧ IsO (arI x) (arI x_2) ∧ True) ∧
 ∀ (y : List Int),
 True →
 (0 : Nat) + (Pl.clauseOf x_2).fst.length ≤ ((Pl.clauseOf x_2).fst ++ y).length ∧
 Exists fun (x_3 : List Int × List Int) =>
 (Is (AV.sl (Pl.clauseOf x_2).fst.length (1 : Nat) (cI ((Pl.clauseOf x_2).fst ++ y))) (ints x_3.fst) ∧
 Is (ints (Pl.clauseOf x_1).fst) (ints x_3.snd) ∧ True) ∧
 Sz x_3.fst ∧
 condP (!Decidable.decide (x_3.fst = x_3.snd)) (Bool.false = Bool.true)
 (condP (!(Pl.clauseOf x_2).snd == (Pl.clauseOf x_1).snd) (Bool.false = Bool.true)
 (Exists fun (x_4 : List Int) =>
 Sz x_4 ∧
 ((Is (ints l) (ints x_4) ∧ True) ∧ True) ∧
 ∀ (y_1 : Unit),
 True →
 (0 : Nat) + x.length ≤ x_2.length ∧
 (0 : Nat) + x_4.length ≤ x_4.length ∧
 Exists fun (x_5 : List Int × List Int) =>
 (Is (AV.sl x.length (1 : Nat) (cI x_2)) (ints x_5.fst) ∧ Is (ints x_4) (ints x_5.snd) ∧ True) ∧
 Sz x_5.fst ∧
 condP (!Decidable.decide (x_5.fst = x_5.snd)) (Bool.false = Bool.true)
 (Exists fun (x_6 : MkX) =>
 (Sz x_6.fst ∧ (0 : Int) ≤ x_6.snd.snd ∧ x_6.snd.snd ≤ (1099511627776 : Int)) ∧
 ((((0 : Nat) = (0 : Nat) ∧ x.length = x_6.fst.length) ∧ (1 : Int) = x_6.snd.snd ∧ True) ∧
 IsO (arI x_2) (arI (x_6.fst ++ x_6.snd.fst)) ∧ True) ∧
 ∀ (y_2 : Unit),
 True →
 condP (Decidable.decide (x_6.snd.snd + (↑x_6.fst.length : Int) < (0 : Int))) (Bool.false = Bool.true)
 ((0 : Nat) + (Pl.clauseOf x_2).fst.length ≤ ((Pl.clauseOf x_2).fst ++ y).length ∧
 Exists fun (x : List Int × List Int) =>
 (Is (AV.sl (Pl.clauseOf x_2).fst.length (1 : Nat) (cI ((Pl.clauseOf x_2).fst ++ y)))
 (ints x.fst) ∧
 Is (ints (Pl.clauseOf x_1).fst) (ints x.snd) ∧ True) ∧
 Sz x.fst ∧
 condP (!Decidable.decide (x.fst = x.snd)) (Bool.false = Bool.true)
 (condP (!(Pl.clauseOf x_2).snd == (Pl.clauseOf x_1).snd) (Bool.false = Bool.true)
 (Exists fun (x : MkX) =>
 (Sz x.fst ∧ (0 : Int) ≤ x.snd.snd ∧ x.snd.snd ≤ (1099511627776 : Int)) ∧
 ((((0 : Nat) = (0 : Nat) ∧ (Pl.clauseOf x_2).fst.length = x.fst.length) ∧
 (1 : Int) = x.snd.snd ∧ True) ∧
 IsO (arI ((Pl.clauseOf x_2).fst ++ y)) (arI (x.fst ++ x.snd.fst)) ∧ True) ∧
 ∀ (y : Unit),
 True →
 (0 : Nat) + (Pl.clauseOf x_2).fst.length ≤
 (Pl.seqI x.snd.snd x.fst.length ++ x.snd.fst).length ∧
 Exists fun (x_7 : List Int × Int) =>
 (Is
 (AV.sl (Pl.clauseOf x_2).fst.length (1 : Nat)
 (cI (Pl.seqI x.snd.snd x.fst.length ++ x.snd.fst)))
 (ints x_7.fst) ∧
 (1 : Int) = x_7.snd ∧ True) ∧
 (Sz x_7.fst ∧ (0 : Int) ≤ x_7.snd ∧ x_7.snd ≤ (1099511627776 : Int)) ∧
 condP (Decidable.decide (Pl.heldI x_7.fst x_7.snd < (0 : Int)))
 (Bool.false = Bool.true)
 (condP (Pl.heldI x_7.fst x_7.snd != x.snd.snd + (↑x.fst.length : Int))
 (Bool.false = Bool.true)
 (Exists fun (x_8 : List Int) =>
 Sz x_8 ∧
 ((Is (ints l) (ints x_8) ∧ True) ∧ True) ∧
 ∀ (y : Unit),
 True →
 Exists fun (x_9 : List Int) =>
 x_9.length ≤ (1073741824 : Nat) ∧
 ((((0 : Nat) = (0 : Nat) ∧ x_8.length = x_9.length) ∧ True) ∧
 IsO (arI x_8) (arI x_9) ∧ True) ∧
 ∀ (y : List Int),
 True →
 (0 : Nat) + (Pl.clauseOf x_9).fst.length ≤
 ((Pl.clauseOf x_9).fst ++ y).length ∧
 Exists fun (x_10 : List Int × List Int) =>
 (Is
 (AV.sl (Pl.clauseOf x_9).fst.length (1 : Nat)
 (cI ((Pl.clauseOf x_9).fst ++ y)))
 (ints x_10.fst) ∧
 Is (ints (Pl.clauseOf x_1).fst)
 (ints x_10.snd) ∧
 True) ∧
 Sz x_10.fst ∧
 condP (!Decidable.decide (x_10.fst = x_10.snd))
 (Bool.false = Bool.true)
 (condP
 (!(Pl.clauseOf x_9).snd ==
 (Pl.clauseOf x_1).snd)
 (Bool.false = Bool.true)
 ((0 : Nat) + (Pl.clauseOf x_2).fst.length ≤
 (Pl.seqI x.snd.snd x.fst.length ++
 x.snd.fst).length ∧
 Exists fun (x_11 : List Int × Int) =>
 (Is
 (AV.sl (Pl.clauseOf x_2).fst.length
 (1 : Nat)
 (cI
 (Pl.seqI x.snd.snd x.fst.length ++
 x.snd.fst)))
 (ints x_11.fst) ∧
 (1 : Int) = x_11.snd ∧ True) ∧
 (Sz x_11.fst ∧
 (0 : Int) ≤ x_11.snd ∧
 x_11.snd ≤ (1099511627776 : Int)) ∧
 condP
 (Decidable.decide
 (Pl.heldI x_11.fst x_11.snd <
 (0 : Int)))
 (Bool.false = Bool.true)
 (condP
 (Pl.heldI x_11.fst x_11.snd !=
 x.snd.snd + (↑x.fst.length : Int))
 (Bool.false = Bool.true)
 (Bool.true = Bool.true)))))))))))))) = Goal Try.prog [K_toIntSO, K_sClauseOfF, K_iClauseOfO, K_eqIntS, K_markIntS, K_heldIntS] ([]) K_xClauseOf.1 K_xClauseOf.2 (l) := by kernel_rfl

end Cg
