/-
  What is left to show of each function's code, printed by a program: Atm. No condition.
-/
import Derived.Test.YtjhiaobcbbnhnaaGreatAtmDefs
import Derived.Test.YtjhiaobcbbnhnaaGreatProg
set_option maxRecDepth 100000
set_option linter.unusedVariables false
namespace Cg
open Go Go.Proofs
theorem vc_l4Text (n : Nat) (x : Pl.TP) : ((Exists fun (x_1 : Nat) =>
 x_1 ≤ x.snd.length ∧
 ((0 : Nat) = (0 : Nat) ∧ x.fst = Pl.spell x.fst (List.take x_1 x.snd) ∧ (0 : Int) = (↑x_1 : Int) ∧ True) ∧ (x.fst = x.fst ∧ Is (terms x.snd) (terms x.snd) ∧ True) ∧ True) ∧
 ∀ (x_1 : Nat),
 x_1 ≤ x.snd.length →
 condP (Decidable.decide ((↑x_1 : Int) < (↑x.snd.length : Int)))
 (condP ((↑x_1 : Int) == (0 : Int))
 ((↑((Pl.spell x.fst (List.take x_1 x.snd)).size + (1 : Nat)) : Int) ≤ (9223372036854775807 : Int) ∧
 ((0 : Int) ≤ (↑x_1 : Int) ∧ (↑x_1 : Int) < (↑x.snd.length : Int)) ∧
 x_1 < x.snd.length ∧
 Exists fun (x_2 : Pl.TP) =>
 ((Pl.Tree.val (x.snd.getD x_1 Pl.dT) = x_2.fst ∧ Is (kidsT (x.snd.getD x_1 Pl.dT)) (terms x_2.snd) ∧ True) ∧ True) ∧
 (SmT (Pl.Tree.mk x_2.fst x_2.snd) ∧ Pl.manyL x_2.snd < n) ∧
 (↑((ByteArray.mk (Array.mk ((Pl.spell x.fst (List.take x_1 x.snd)).data.toList ++ [(40 : UInt8)]))).size + (Pl.textT (Pl.Tree.mk x_2.fst x_2.snd)).size) : Int) ≤
 (9223372036854775807 : Int) ∧
 Exists fun (x' : Nat) =>
 x' ≤ x.snd.length ∧
 x.snd.length - x' < x.snd.length - x_1 ∧
 ((0 : Nat) = (0 : Nat) ∧
 ByteArray.mk
 (Array.mk
 ((ByteArray.mk (Array.mk ((Pl.spell x.fst (List.take x_1 x.snd)).data.toList ++ [(40 : UInt8)]))).data.toList ++
 (Pl.textT (Pl.Tree.mk x_2.fst x_2.snd)).data.toList)) =
 Pl.spell x.fst (List.take x' x.snd) ∧
 IntKind.i64.wrap ((↑x_1 : Int) + (1 : Int)) = (↑x' : Int) ∧ True) ∧
 (x.fst = x.fst ∧ Is (terms x.snd) (terms x.snd) ∧ True) ∧ True)
 ((↑((Pl.spell x.fst (List.take x_1 x.snd)).size + (1 : Nat)) : Int) ≤ (9223372036854775807 : Int) ∧
 ((0 : Int) ≤ (↑x_1 : Int) ∧ (↑x_1 : Int) < (↑x.snd.length : Int)) ∧
 x_1 < x.snd.length ∧
 Exists fun (x_2 : Pl.TP) =>
 ((Pl.Tree.val (x.snd.getD x_1 Pl.dT) = x_2.fst ∧ Is (kidsT (x.snd.getD x_1 Pl.dT)) (terms x_2.snd) ∧ True) ∧ True) ∧
 (SmT (Pl.Tree.mk x_2.fst x_2.snd) ∧ Pl.manyL x_2.snd < n) ∧
 (↑((ByteArray.mk (Array.mk ((Pl.spell x.fst (List.take x_1 x.snd)).data.toList ++ [(44 : UInt8)]))).size + (Pl.textT (Pl.Tree.mk x_2.fst x_2.snd)).size) : Int) ≤
 (9223372036854775807 : Int) ∧
 Exists fun (x' : Nat) =>
 x' ≤ x.snd.length ∧
 x.snd.length - x' < x.snd.length - x_1 ∧
 ((0 : Nat) = (0 : Nat) ∧
 ByteArray.mk
 (Array.mk
 ((ByteArray.mk (Array.mk ((Pl.spell x.fst (List.take x_1 x.snd)).data.toList ++ [(44 : UInt8)]))).data.toList ++
 (Pl.textT (Pl.Tree.mk x_2.fst x_2.snd)).data.toList)) =
 Pl.spell x.fst (List.take x' x.snd) ∧
 IntKind.i64.wrap ((↑x_1 : Int) + (1 : Int)) = (↑x' : Int) ∧ True) ∧
 (x.fst = x.fst ∧ Is (terms x.snd) (terms x.snd) ∧ True) ∧ True))
 (condP (Decidable.decide ((↑x.snd.length : Int) > (0 : Int)))
 ((↑((Pl.spell x.fst (List.take x_1 x.snd)).size + (1 : Nat)) : Int) ≤ (9223372036854775807 : Int) ∧
 ByteArray.mk (Array.mk ((Pl.spell x.fst (List.take x_1 x.snd)).data.toList ++ [(41 : UInt8)])) = Pl.textT (Pl.Tree.mk x.fst x.snd))
 (Pl.spell x.fst (List.take x_1 x.snd) = Pl.textT (Pl.Tree.mk x.fst x.snd)))) = Goal Tryz.prog [(K_l4Text n)] (A_l4Text x.1 x.2) (K_l4Text (n + 1)).1 (K_l4Text (n + 1)).2 (x) := by kernel_rfl

theorem vc_termText (n : Nat) (x : Pl.TP) : (condP ((↑x.snd.length : Int) == (0 : Int)) (x.fst = Pl.textT (Pl.Tree.mk x.fst x.snd))
 ((Exists fun (x_1 : Nat) =>
 (x_1 ≤ x.snd.length ∧ x.snd ≠ []) ∧
 ((0 : Nat) = (0 : Nat) ∧
 ((0 : Nat) = (0 : Nat) ∧ (0 : Nat) = (0 : Nat) ∧ (Pl.textL (List.take x_1 x.snd)).length = (0 : Nat)) ∧
 Is (terms x.snd) (terms x.snd) ∧ (↑x.snd.length : Int) = (↑x.snd.length : Int) ∧ (0 : Int) = (↑x_1 : Int) ∧ True) ∧
 (x.fst = x.fst ∧ Is (terms x.snd) (terms x.snd) ∧ True) ∧ (Pl.textL (List.take x_1 x.snd)).length = (0 : Nat) ∧ True) ∧
 ∀ (x_1 : Nat),
 x_1 ≤ x.snd.length ∧ x.snd ≠ [] →
 condP (Decidable.decide ((↑x_1 : Int) < (↑x.snd.length : Int)))
 (((0 : Int) ≤ (↑x_1 : Int) ∧ (↑x_1 : Int) < (↑x.snd.length : Int)) ∧
 x_1 < x.snd.length ∧
 Exists fun (x_2 : Pl.TP) =>
 ((Pl.Tree.val (x.snd.getD x_1 Pl.dT) = x_2.fst ∧ Is (kidsT (x.snd.getD x_1 Pl.dT)) (terms x_2.snd) ∧ True) ∧ True) ∧
 (SmT (Pl.Tree.mk x_2.fst x_2.snd) ∧ Pl.manyL x_2.snd < n) ∧
 (0 : Nat) + (Pl.textL (List.take x_1 x.snd)).length ≤ (Pl.textL (List.take x_1 x.snd)).length ∧
 ((Pl.textL (List.take x_1 x.snd)).length + (1 : Nat)) * (16 : Nat) ≤ (70368744177664 : Nat) ∧
 Exists fun (x' : Nat) =>
 (x' ≤ x.snd.length ∧ x.snd ≠ []) ∧
 x.snd.length - x' < x.snd.length - x_1 ∧
 ((0 : Nat) = (0 : Nat) ∧
 ((0 : Nat) = (0 : Nat) ∧ (Pl.textL (List.take x_1 x.snd)).length + (1 : Nat) = (Pl.textL (List.take x' x.snd)).length) ∧
 Is (terms x.snd) (terms x.snd) ∧ (↑x.snd.length : Int) = (↑x.snd.length : Int) ∧ IntKind.i64.wrap ((↑x_1 : Int) + (1 : Int)) = (↑x' : Int) ∧ True) ∧
 (x.fst = x.fst ∧ Is (terms x.snd) (terms x.snd) ∧ True) ∧
 IsO
 (AObj.arr ((Pl.textL (List.take x_1 x.snd)).length + (1 : Nat)) (1 : Nat)
 (joinC (Pl.textL (List.take x_1 x.snd)).length (cS (Pl.textL (List.take x_1 x.snd))) (rowsCell [[st (Pl.textT (Pl.Tree.mk x_2.fst x_2.snd))]])))
 (arS (Pl.textL (List.take x' x.snd))) ∧
 True)
 ((↑(x.fst.size + (1 : Nat)) : Int) ≤ (9223372036854775807 : Int) ∧
 (0 : Nat) + (Pl.textL (List.take x_1 x.snd)).length ≤ (Pl.textL (List.take x_1 x.snd)).length ∧
 Exists fun (x_2 : List ByteArray × ByteArray) =>
 (Is (strs (Pl.textL (List.take x_1 x.snd))) (strs x_2.fst) ∧ ByteArray.mk #[(44 : UInt8)] = x_2.snd ∧ True) ∧
 (x_2.fst.length ≤ (140737488355328 : Nat) ∧ (Pl.joinS x_2.fst x_2.snd).size ≤ (140737488355328 : Nat)) ∧
 (↑((ByteArray.mk (Array.mk (x.fst.data.toList ++ [(40 : UInt8)]))).size + (Pl.joinS x_2.fst x_2.snd).size) : Int) ≤ (9223372036854775807 : Int) ∧
 (↑((ByteArray.mk (Array.mk ((ByteArray.mk (Array.mk (x.fst.data.toList ++ [(40 : UInt8)]))).data.toList ++ (Pl.joinS x_2.fst x_2.snd).data.toList))).size + (1 : Nat)) : Int) ≤
 (9223372036854775807 : Int) ∧
 ByteArray.mk
 (Array.mk
 ((ByteArray.mk (Array.mk ((ByteArray.mk (Array.mk (x.fst.data.toList ++ [(40 : UInt8)]))).data.toList ++ (Pl.joinS x_2.fst x_2.snd).data.toList))).data.toList ++
 [(41 : UInt8)])) =
 Pl.textT (Pl.Tree.mk x.fst x.snd)))) = Goal Tryz.prog [(K_termText n), K_Join] (A_termText x.1 x.2) (K_termText (n + 1)).1 (K_termText (n + 1)).2 (x) := by kernel_rfl

theorem vc_l6None (x : Pl.TP) : (condP (x.fst.toList == (ByteArray.mk #[]).toList) (((↑x.snd.length : Int) == (0 : Int)) = Pl.noneT x) (Bool.false = Pl.noneT x)) = Goal Tryz.prog [] ([]) K_l6None.1 K_l6None.2 (x) := by kernel_rfl

theorem vc_isNone (x : Pl.TP) : (condP (x.fst.toList == (ByteArray.mk #[]).toList) (((↑x.snd.length : Int) == (0 : Int)) = Pl.noneT x) (Bool.false = Pl.noneT x)) = Goal Tryz.prog [] ([]) K_isNone.1 K_isNone.2 (x) := by kernel_rfl

theorem vc_l6Sum (x : Pl.Atm) : (Exists fun (x_1 : Pl.TP) =>
 ((x.snd.fst.fst = x_1.fst ∧ Is (terms x.snd.fst.snd) (terms x_1.snd) ∧ True) ∧ True) ∧
 True ∧
 condP (!Pl.noneT x_1) (Bool.false = Pl.sumRight x)
 (Exists fun (x_2 : Pl.TP) =>
 ((x.snd.snd.fst.fst = x_2.fst ∧ Is (terms x.snd.snd.fst.snd) (terms x_2.snd) ∧ True) ∧ True) ∧
 True ∧
 condP (!Pl.noneT x_2) (Bool.false = Pl.sumRight x)
 (condP ((↑x.snd.snd.snd.fst.length : Int) != (↑x.snd.snd.snd.snd.fst.length : Int)) (Bool.false = Pl.sumRight x)
 (condP (Decidable.decide ((↑x.snd.snd.snd.fst.length : Int) < (1 : Int))) (Bool.false = Pl.sumRight x)
 (condP (Decidable.decide ((↑x.snd.snd.snd.fst.length : Int) > (4 : Int))) (Bool.false = Pl.sumRight x)
 (condP (Decidable.decide (x.snd.snd.snd.snd.snd.fst < (-1000 : Int))) (Bool.false = Pl.sumRight x)
 (condP (Decidable.decide (x.snd.snd.snd.snd.snd.fst > (1000 : Int))) (Bool.false = Pl.sumRight x)
 ((Exists fun (x_3 : Nat) =>
 (Pl.sumHead x = Bool.true ∧
 x_3 ≤ x.snd.snd.snd.fst.length ∧
 Pl.numOk Option.none x.snd.snd.snd.fst x.snd.snd.snd.snd.fst =
 Pl.numOk (Pl.prevN x.snd.snd.snd.fst x_3) (List.drop x_3 x.snd.snd.snd.fst) (List.drop x_3 x.snd.snd.snd.snd.fst)) ∧
 ((0 : Nat) = (0 : Nat) ∧ (0 : Int) = (↑x_3 : Int) ∧ True) ∧
 (x.fst = x.fst ∧
 x.snd.fst.fst = x.snd.fst.fst ∧
 Is (terms x.snd.fst.snd) (terms x.snd.fst.snd) ∧
 x.snd.snd.fst.fst = x.snd.snd.fst.fst ∧
 Is (terms x.snd.snd.fst.snd) (terms x.snd.snd.fst.snd) ∧
 Is (terms x.snd.snd.snd.fst) (terms x.snd.snd.snd.fst) ∧
 Is (ints x.snd.snd.snd.snd.fst) (ints x.snd.snd.snd.snd.fst) ∧
 x.snd.snd.snd.snd.snd.fst = x.snd.snd.snd.snd.snd.fst ∧ x.snd.snd.snd.snd.snd.snd = x.snd.snd.snd.snd.snd.snd ∧ True) ∧
 True) ∧
 ∀ (x_3 : Nat),
 Pl.sumHead x = Bool.true ∧
 x_3 ≤ x.snd.snd.snd.fst.length ∧
 Pl.numOk Option.none x.snd.snd.snd.fst x.snd.snd.snd.snd.fst =
 Pl.numOk (Pl.prevN x.snd.snd.snd.fst x_3) (List.drop x_3 x.snd.snd.snd.fst) (List.drop x_3 x.snd.snd.snd.snd.fst) →
 condP (Decidable.decide ((↑x_3 : Int) < (↑x.snd.snd.snd.fst.length : Int)))
 (((0 : Int) ≤ (↑x_3 : Int) ∧ (↑x_3 : Int) < (↑x.snd.snd.snd.snd.fst.length : Int)) ∧
 x_3 < x.snd.snd.snd.snd.fst.length ∧
 ((0 : Int) ≤ (↑x_3 : Int) ∧ (↑x_3 : Int) < (↑x.snd.snd.snd.fst.length : Int)) ∧
 x_3 < x.snd.snd.snd.fst.length ∧
 Exists fun (x_4 : Pl.TP) =>
 ((Pl.Tree.val (x.snd.snd.snd.fst.getD x_3 Pl.dT) = x_4.fst ∧ Is (kidsT (x.snd.snd.snd.fst.getD x_3 Pl.dT)) (terms x_4.snd) ∧ True) ∧ True) ∧
 SmT (Pl.Tree.mk x_4.fst x_4.snd) ∧
 condP (!Pl.right (Pl.Tree.mk x_4.fst x_4.snd)) (Bool.false = Pl.sumRight x)
 (condP (x.snd.snd.snd.snd.fst.getD x_3 (0 : Int) == (0 : Int)) (Bool.false = Pl.sumRight x)
 (condP (Decidable.decide (x.snd.snd.snd.snd.fst.getD x_3 (0 : Int) < (-50 : Int))) (Bool.false = Pl.sumRight x)
 (condP (Decidable.decide (x.snd.snd.snd.snd.fst.getD x_3 (0 : Int) > (50 : Int))) (Bool.false = Pl.sumRight x)
 (condP (Decidable.decide ((↑x_3 : Int) > (0 : Int)))
 (((0 : Int) ≤ IntKind.i64.wrap ((↑x_3 : Int) - (1 : Int)) ∧
 IntKind.i64.wrap ((↑x_3 : Int) - (1 : Int)) < (↑x.snd.snd.snd.fst.length : Int)) ∧
 (IntKind.i64.wrap ((↑x_3 : Int) - (1 : Int))).toNat < x.snd.snd.snd.fst.length ∧
 Exists fun (x_5 : Pl.TP) =>
 ((Pl.Tree.val (x.snd.snd.snd.fst.getD (IntKind.i64.wrap ((↑x_3 : Int) - (1 : Int))).toNat Pl.dT) = x_5.fst ∧
 Is (kidsT (x.snd.snd.snd.fst.getD (IntKind.i64.wrap ((↑x_3 : Int) - (1 : Int))).toNat Pl.dT)) (terms x_5.snd) ∧
 True) ∧
 True) ∧
 SmT (Pl.Tree.mk x_5.fst x_5.snd) ∧
 ((0 : Int) ≤ (↑x_3 : Int) ∧ (↑x_3 : Int) < (↑x.snd.snd.snd.fst.length : Int)) ∧
 x_3 < x.snd.snd.snd.fst.length ∧
 Exists fun (x_6 : Pl.TP) =>
 ((Pl.Tree.val (x.snd.snd.snd.fst.getD x_3 Pl.dT) = x_6.fst ∧
 Is (kidsT (x.snd.snd.snd.fst.getD x_3 Pl.dT)) (terms x_6.snd) ∧ True) ∧
 True) ∧
 SmT (Pl.Tree.mk x_6.fst x_6.snd) ∧
 condP (!Op.bytesLess (Pl.textT (Pl.Tree.mk x_5.fst x_5.snd)).toList (Pl.textT (Pl.Tree.mk x_6.fst x_6.snd)).toList)
 (Bool.false = Pl.sumRight x)
 (Exists fun (x' : Nat) =>
 (Pl.sumHead x = Bool.true ∧
 x' ≤ x.snd.snd.snd.fst.length ∧
 Pl.numOk Option.none x.snd.snd.snd.fst x.snd.snd.snd.snd.fst =
 Pl.numOk (Pl.prevN x.snd.snd.snd.fst x') (List.drop x' x.snd.snd.snd.fst)
 (List.drop x' x.snd.snd.snd.snd.fst)) ∧
 x.snd.snd.snd.fst.length - x' < x.snd.snd.snd.fst.length - x_3 ∧
 ((0 : Nat) = (0 : Nat) ∧ IntKind.i64.wrap ((↑x_3 : Int) + (1 : Int)) = (↑x' : Int) ∧ True) ∧
 (x.fst = x.fst ∧
 x.snd.fst.fst = x.snd.fst.fst ∧
 Is (terms x.snd.fst.snd) (terms x.snd.fst.snd) ∧
 x.snd.snd.fst.fst = x.snd.snd.fst.fst ∧
 Is (terms x.snd.snd.fst.snd) (terms x.snd.snd.fst.snd) ∧
 Is (terms x.snd.snd.snd.fst) (terms x.snd.snd.snd.fst) ∧
 Is (ints x.snd.snd.snd.snd.fst) (ints x.snd.snd.snd.snd.fst) ∧
 x.snd.snd.snd.snd.snd.fst = x.snd.snd.snd.snd.snd.fst ∧
 x.snd.snd.snd.snd.snd.snd = x.snd.snd.snd.snd.snd.snd ∧ True) ∧
 True))
 (Exists fun (x' : Nat) =>
 (Pl.sumHead x = Bool.true ∧
 x' ≤ x.snd.snd.snd.fst.length ∧
 Pl.numOk Option.none x.snd.snd.snd.fst x.snd.snd.snd.snd.fst =
 Pl.numOk (Pl.prevN x.snd.snd.snd.fst x') (List.drop x' x.snd.snd.snd.fst) (List.drop x' x.snd.snd.snd.snd.fst)) ∧
 x.snd.snd.snd.fst.length - x' < x.snd.snd.snd.fst.length - x_3 ∧
 ((0 : Nat) = (0 : Nat) ∧ IntKind.i64.wrap ((↑x_3 : Int) + (1 : Int)) = (↑x' : Int) ∧ True) ∧
 (x.fst = x.fst ∧
 x.snd.fst.fst = x.snd.fst.fst ∧
 Is (terms x.snd.fst.snd) (terms x.snd.fst.snd) ∧
 x.snd.snd.fst.fst = x.snd.snd.fst.fst ∧
 Is (terms x.snd.snd.fst.snd) (terms x.snd.snd.fst.snd) ∧
 Is (terms x.snd.snd.snd.fst) (terms x.snd.snd.snd.fst) ∧
 Is (ints x.snd.snd.snd.snd.fst) (ints x.snd.snd.snd.snd.fst) ∧
 x.snd.snd.snd.snd.snd.fst = x.snd.snd.snd.snd.snd.fst ∧
 x.snd.snd.snd.snd.snd.snd = x.snd.snd.snd.snd.snd.snd ∧ True) ∧
 True))))))
 (Bool.true = Pl.sumRight x))))))))) = Goal Tryz.prog [K_l6None, K_l4Right, K_lText] (A_l6Sum x) K_l6Sum.1 K_l6Sum.2 (x) := by kernel_rfl

theorem vc_l6Right (x : Pl.Atm) : (condP (x.fst == (2 : Int))
 (Exists fun (x_1 : Pl.Atm) =>
 ((x.fst = x_1.fst ∧
 x.snd.fst.fst = x_1.snd.fst.fst ∧
 Is (terms x.snd.fst.snd) (terms x_1.snd.fst.snd) ∧
 x.snd.snd.fst.fst = x_1.snd.snd.fst.fst ∧
 Is (terms x.snd.snd.fst.snd) (terms x_1.snd.snd.fst.snd) ∧
 Is (terms x.snd.snd.snd.fst) (terms x_1.snd.snd.snd.fst) ∧
 Is (ints x.snd.snd.snd.snd.fst) (ints x_1.snd.snd.snd.snd.fst) ∧
 x.snd.snd.snd.snd.snd.fst = x_1.snd.snd.snd.snd.snd.fst ∧ x.snd.snd.snd.snd.snd.snd = x_1.snd.snd.snd.snd.snd.snd ∧ True) ∧
 True) ∧
 SmA x_1 ∧ Pl.sumRight x_1 = Pl.atomRight x)
 (condP (x.fst == (1 : Int))
 (Exists fun (x_1 : Pl.TP) =>
 ((x.snd.fst.fst = x_1.fst ∧ Is (terms x.snd.fst.snd) (terms x_1.snd) ∧ True) ∧ True) ∧
 SmT (Pl.Tree.mk x_1.fst x_1.snd) ∧
 condP (Pl.right (Pl.Tree.mk x_1.fst x_1.snd))
 (Exists fun (x_2 : Pl.TP) =>
 ((x.snd.snd.fst.fst = x_2.fst ∧ Is (terms x.snd.snd.fst.snd) (terms x_2.snd) ∧ True) ∧ True) ∧
 SmT (Pl.Tree.mk x_2.fst x_2.snd) ∧
 condP (Pl.right (Pl.Tree.mk x_2.fst x_2.snd))
 (condP ((↑x.snd.snd.snd.fst.length : Int) == (0 : Int))
 (condP ((↑x.snd.snd.snd.snd.fst.length : Int) == (0 : Int))
 (condP (x.snd.snd.snd.snd.snd.fst == (0 : Int)) ((!x.snd.snd.snd.snd.snd.snd) = Pl.atomRight x) (Bool.false = Pl.atomRight x)) (Bool.false = Pl.atomRight x))
 (Bool.false = Pl.atomRight x))
 (Bool.false = Pl.atomRight x))
 (Bool.false = Pl.atomRight x))
 (Bool.false = Pl.atomRight x))) = Goal Tryz.prog [K_l6Sum, K_l4Right] ([]) K_l6Right.1 K_l6Right.2 (x) := by kernel_rfl

theorem vc_Atomok (x : Pl.Atm) : (condP (x.fst == (1 : Int))
 (Exists fun (x_1 : Pl.TP) =>
 ((x.snd.fst.fst = x_1.fst ∧ Is (terms x.snd.fst.snd) (terms x_1.snd) ∧ True) ∧ True) ∧
 SmT (Pl.Tree.mk x_1.fst x_1.snd) ∧
 condP (Pl.right (Pl.Tree.mk x_1.fst x_1.snd))
 (Exists fun (x_2 : Pl.TP) =>
 ((x.snd.snd.fst.fst = x_2.fst ∧ Is (terms x.snd.snd.fst.snd) (terms x_2.snd) ∧ True) ∧ True) ∧
 SmT (Pl.Tree.mk x_2.fst x_2.snd) ∧
 condP (Pl.right (Pl.Tree.mk x_2.fst x_2.snd))
 (condP ((↑x.snd.snd.snd.fst.length : Int) == (0 : Int))
 (condP ((↑x.snd.snd.snd.snd.fst.length : Int) == (0 : Int))
 (condP (x.snd.snd.snd.snd.snd.fst == (0 : Int)) ((!x.snd.snd.snd.snd.snd.snd) = Pl.atomRight x) (Bool.false = Pl.atomRight x)) (Bool.false = Pl.atomRight x))
 (Bool.false = Pl.atomRight x))
 (Bool.false = Pl.atomRight x))
 (Bool.false = Pl.atomRight x))
 (condP (x.fst == (2 : Int))
 (Exists fun (x_1 : Pl.TP) =>
 ((x.snd.fst.fst = x_1.fst ∧ Is (terms x.snd.fst.snd) (terms x_1.snd) ∧ True) ∧ True) ∧
 True ∧
 condP (!Pl.noneT x_1) (Bool.false = Pl.atomRight x)
 (Exists fun (x_2 : Pl.TP) =>
 ((x.snd.snd.fst.fst = x_2.fst ∧ Is (terms x.snd.snd.fst.snd) (terms x_2.snd) ∧ True) ∧ True) ∧
 True ∧
 condP (!Pl.noneT x_2) (Bool.false = Pl.atomRight x)
 (Exists fun (x_3 : Int × Int × Int) =>
 ((↑x.snd.snd.snd.fst.length : Int) = x_3.fst ∧ (1 : Int) = x_3.snd.fst ∧ (4 : Int) = x_3.snd.snd ∧ True) ∧
 True ∧
 condP (!Pl.withinI x_3.fst x_3.snd.fst x_3.snd.snd) (Bool.false = Pl.atomRight x)
 (condP ((↑x.snd.snd.snd.snd.fst.length : Int) != (↑x.snd.snd.snd.fst.length : Int)) (Bool.false = Pl.atomRight x)
 (Exists fun (x_4 : Int × Int × Int) =>
 (x.snd.snd.snd.snd.snd.fst = x_4.fst ∧ (-1000 : Int) = x_4.snd.fst ∧ (1000 : Int) = x_4.snd.snd ∧ True) ∧
 True ∧
 condP (!Pl.withinI x_4.fst x_4.snd.fst x_4.snd.snd) (Bool.false = Pl.atomRight x)
 ((Exists fun (x_5 : Nat) =>
 (x.fst = (2 : Int) ∧
 Pl.sumHead x = Bool.true ∧
 x_5 ≤ x.snd.snd.snd.fst.length ∧
 Pl.numOk Option.none x.snd.snd.snd.fst x.snd.snd.snd.snd.fst =
 Pl.numOk (Pl.prevN x.snd.snd.snd.fst x_5) (List.drop x_5 x.snd.snd.snd.fst) (List.drop x_5 x.snd.snd.snd.snd.fst)) ∧
 ((0 : Nat) = (0 : Nat) ∧
 Is (terms x.snd.snd.snd.fst) (terms x.snd.snd.snd.fst) ∧
 (↑x.snd.snd.snd.fst.length : Int) = (↑x.snd.snd.snd.fst.length : Int) ∧ (0 : Int) = (↑x_5 : Int) ∧ True) ∧
 (x.fst = x.fst ∧
 x.snd.fst.fst = x.snd.fst.fst ∧
 Is (terms x.snd.fst.snd) (terms x.snd.fst.snd) ∧
 x.snd.snd.fst.fst = x.snd.snd.fst.fst ∧
 Is (terms x.snd.snd.fst.snd) (terms x.snd.snd.fst.snd) ∧
 Is (terms x.snd.snd.snd.fst) (terms x.snd.snd.snd.fst) ∧
 Is (ints x.snd.snd.snd.snd.fst) (ints x.snd.snd.snd.snd.fst) ∧
 x.snd.snd.snd.snd.snd.fst = x.snd.snd.snd.snd.snd.fst ∧ x.snd.snd.snd.snd.snd.snd = x.snd.snd.snd.snd.snd.snd ∧ True) ∧
 True) ∧
 ∀ (x_5 : Nat),
 x.fst = (2 : Int) ∧
 Pl.sumHead x = Bool.true ∧
 x_5 ≤ x.snd.snd.snd.fst.length ∧
 Pl.numOk Option.none x.snd.snd.snd.fst x.snd.snd.snd.snd.fst =
 Pl.numOk (Pl.prevN x.snd.snd.snd.fst x_5) (List.drop x_5 x.snd.snd.snd.fst) (List.drop x_5 x.snd.snd.snd.snd.fst) →
 condP (Decidable.decide ((↑x_5 : Int) < (↑x.snd.snd.snd.fst.length : Int)))
 (((0 : Int) ≤ (↑x_5 : Int) ∧ (↑x_5 : Int) < (↑x.snd.snd.snd.fst.length : Int)) ∧
 x_5 < x.snd.snd.snd.fst.length ∧
 Exists fun (x_6 : Pl.TP) =>
 ((Pl.Tree.val (x.snd.snd.snd.fst.getD x_5 Pl.dT) = x_6.fst ∧ Is (kidsT (x.snd.snd.snd.fst.getD x_5 Pl.dT)) (terms x_6.snd) ∧ True) ∧
 True) ∧
 SmT (Pl.Tree.mk x_6.fst x_6.snd) ∧
 condP (!Pl.right (Pl.Tree.mk x_6.fst x_6.snd)) (Bool.false = Pl.atomRight x)
 (((0 : Int) ≤ (↑x_5 : Int) ∧ (↑x_5 : Int) < (↑x.snd.snd.snd.snd.fst.length : Int)) ∧
 x_5 < x.snd.snd.snd.snd.fst.length ∧
 Exists fun (x_7 : Int × Int × Int) =>
 (x.snd.snd.snd.snd.fst.getD x_5 (0 : Int) = x_7.fst ∧ (-50 : Int) = x_7.snd.fst ∧ (50 : Int) = x_7.snd.snd ∧ True) ∧
 True ∧
 condP (!Pl.withinI x_7.fst x_7.snd.fst x_7.snd.snd) (Bool.false = Pl.atomRight x)
 (((0 : Int) ≤ (↑x_5 : Int) ∧ (↑x_5 : Int) < (↑x.snd.snd.snd.snd.fst.length : Int)) ∧
 x_5 < x.snd.snd.snd.snd.fst.length ∧
 condP (x.snd.snd.snd.snd.fst.getD x_5 (0 : Int) == (0 : Int)) (Bool.false = Pl.atomRight x)
 (condP (Decidable.decide ((↑x_5 : Int) > (0 : Int)))
 (((0 : Int) ≤ IntKind.i64.wrap ((↑x_5 : Int) - (1 : Int)) ∧
 IntKind.i64.wrap ((↑x_5 : Int) - (1 : Int)) < (↑x.snd.snd.snd.fst.length : Int)) ∧
 (IntKind.i64.wrap ((↑x_5 : Int) - (1 : Int))).toNat < x.snd.snd.snd.fst.length ∧
 Exists fun (x_8 : Pl.TP) =>
 ((Pl.Tree.val (x.snd.snd.snd.fst.getD (IntKind.i64.wrap ((↑x_5 : Int) - (1 : Int))).toNat Pl.dT) = x_8.fst ∧
 Is (kidsT (x.snd.snd.snd.fst.getD (IntKind.i64.wrap ((↑x_5 : Int) - (1 : Int))).toNat Pl.dT))
 (terms x_8.snd) ∧
 True) ∧
 True) ∧
 SmT (Pl.Tree.mk x_8.fst x_8.snd) ∧
 Exists fun (x_9 : Pl.TP) =>
 ((Pl.Tree.val (x.snd.snd.snd.fst.getD x_5 Pl.dT) = x_9.fst ∧
 Is (kidsT (x.snd.snd.snd.fst.getD x_5 Pl.dT)) (terms x_9.snd) ∧ True) ∧
 True) ∧
 SmT (Pl.Tree.mk x_9.fst x_9.snd) ∧
 condP
 (!Op.bytesLess (Pl.textT (Pl.Tree.mk x_8.fst x_8.snd)).toList
 (Pl.textT (Pl.Tree.mk x_9.fst x_9.snd)).toList)
 (Bool.false = Pl.atomRight x)
 (Exists fun (x' : Nat) =>
 (x.fst = (2 : Int) ∧
 Pl.sumHead x = Bool.true ∧
 x' ≤ x.snd.snd.snd.fst.length ∧
 Pl.numOk Option.none x.snd.snd.snd.fst x.snd.snd.snd.snd.fst =
 Pl.numOk (Pl.prevN x.snd.snd.snd.fst x') (List.drop x' x.snd.snd.snd.fst)
 (List.drop x' x.snd.snd.snd.snd.fst)) ∧
 x.snd.snd.snd.fst.length - x' < x.snd.snd.snd.fst.length - x_5 ∧
 ((0 : Nat) = (0 : Nat) ∧
 Is (terms x.snd.snd.snd.fst) (terms x.snd.snd.snd.fst) ∧
 (↑x.snd.snd.snd.fst.length : Int) = (↑x.snd.snd.snd.fst.length : Int) ∧
 IntKind.i64.wrap ((↑x_5 : Int) + (1 : Int)) = (↑x' : Int) ∧ True) ∧
 (x.fst = x.fst ∧
 x.snd.fst.fst = x.snd.fst.fst ∧
 Is (terms x.snd.fst.snd) (terms x.snd.fst.snd) ∧
 x.snd.snd.fst.fst = x.snd.snd.fst.fst ∧
 Is (terms x.snd.snd.fst.snd) (terms x.snd.snd.fst.snd) ∧
 Is (terms x.snd.snd.snd.fst) (terms x.snd.snd.snd.fst) ∧
 Is (ints x.snd.snd.snd.snd.fst) (ints x.snd.snd.snd.snd.fst) ∧
 x.snd.snd.snd.snd.snd.fst = x.snd.snd.snd.snd.snd.fst ∧
 x.snd.snd.snd.snd.snd.snd = x.snd.snd.snd.snd.snd.snd ∧ True) ∧
 True))
 (Exists fun (x' : Nat) =>
 (x.fst = (2 : Int) ∧
 Pl.sumHead x = Bool.true ∧
 x' ≤ x.snd.snd.snd.fst.length ∧
 Pl.numOk Option.none x.snd.snd.snd.fst x.snd.snd.snd.snd.fst =
 Pl.numOk (Pl.prevN x.snd.snd.snd.fst x') (List.drop x' x.snd.snd.snd.fst)
 (List.drop x' x.snd.snd.snd.snd.fst)) ∧
 x.snd.snd.snd.fst.length - x' < x.snd.snd.snd.fst.length - x_5 ∧
 ((0 : Nat) = (0 : Nat) ∧
 Is (terms x.snd.snd.snd.fst) (terms x.snd.snd.snd.fst) ∧
 (↑x.snd.snd.snd.fst.length : Int) = (↑x.snd.snd.snd.fst.length : Int) ∧
 IntKind.i64.wrap ((↑x_5 : Int) + (1 : Int)) = (↑x' : Int) ∧ True) ∧
 (x.fst = x.fst ∧
 x.snd.fst.fst = x.snd.fst.fst ∧
 Is (terms x.snd.fst.snd) (terms x.snd.fst.snd) ∧
 x.snd.snd.fst.fst = x.snd.snd.fst.fst ∧
 Is (terms x.snd.snd.fst.snd) (terms x.snd.snd.fst.snd) ∧
 Is (terms x.snd.snd.snd.fst) (terms x.snd.snd.snd.fst) ∧
 Is (ints x.snd.snd.snd.snd.fst) (ints x.snd.snd.snd.snd.fst) ∧
 x.snd.snd.snd.snd.snd.fst = x.snd.snd.snd.snd.snd.fst ∧
 x.snd.snd.snd.snd.snd.snd = x.snd.snd.snd.snd.snd.snd ∧ True) ∧
 True)))))
 (Bool.true = Pl.atomRight x)))))))
 (Bool.false = Pl.atomRight x))) = Goal Tryz.prog [K_isTerm, K_isNone, K_within, K_tText] (A_Atomok x) K_Atomok.1 K_Atomok.2 (x) := by kernel_rfl

theorem vc_sAtomOk (x : Pl.Sig × Pl.Atm) : (Exists fun (x_1 : Pl.Sig) =>
 ((Is (syms x.fst) (syms x_1) ∧ True) ∧ True) ∧
 SmG x_1 ∧
 condP (!Pl.sigOk x_1) (Bool.false = Pl.atomOk x.fst x.snd)
 (Exists fun (x_2 : Pl.Atm) =>
 ((x.snd.fst = x_2.fst ∧
 x.snd.snd.fst.fst = x_2.snd.fst.fst ∧
 Is (terms x.snd.snd.fst.snd) (terms x_2.snd.fst.snd) ∧
 x.snd.snd.snd.fst.fst = x_2.snd.snd.fst.fst ∧
 Is (terms x.snd.snd.snd.fst.snd) (terms x_2.snd.snd.fst.snd) ∧
 Is (terms x.snd.snd.snd.snd.fst) (terms x_2.snd.snd.snd.fst) ∧
 Is (ints x.snd.snd.snd.snd.snd.fst) (ints x_2.snd.snd.snd.snd.fst) ∧
 x.snd.snd.snd.snd.snd.snd.fst = x_2.snd.snd.snd.snd.snd.fst ∧ x.snd.snd.snd.snd.snd.snd.snd = x_2.snd.snd.snd.snd.snd.snd ∧ True) ∧
 True) ∧
 SmA x_2 ∧
 condP (!Pl.atomRight x_2) (Bool.false = Pl.atomOk x.fst x.snd)
 (condP (x.snd.fst == (1 : Int))
 (Exists fun (x_3 : Pl.Sig × Pl.TP) =>
 ((Is (syms x.fst) (syms x_3.fst) ∧ True) ∧ (x.snd.snd.fst.fst = x_3.snd.fst ∧ Is (terms x.snd.snd.fst.snd) (terms x_3.snd.snd) ∧ True) ∧ True) ∧
 (Pl.sigOk x_3.fst = Bool.true ∧ SmG x_3.fst ∧ SmT (Pl.Tree.mk x_3.snd.fst x_3.snd.snd)) ∧
 condP (Decidable.decide ((Pl.sortT x_3.fst (Pl.Tree.mk x_3.snd.fst x_3.snd.snd)).getD (-1 : Int) ≥ (0 : Int)))
 (Exists fun (x_4 : Pl.Sig × Pl.TP) =>
 ((Is (syms x.fst) (syms x_4.fst) ∧ True) ∧ (x.snd.snd.snd.fst.fst = x_4.snd.fst ∧ Is (terms x.snd.snd.snd.fst.snd) (terms x_4.snd.snd) ∧ True) ∧ True) ∧
 (Pl.sigOk x_4.fst = Bool.true ∧ SmG x_4.fst ∧ SmT (Pl.Tree.mk x_4.snd.fst x_4.snd.snd)) ∧
 ((Pl.sortT x_3.fst (Pl.Tree.mk x_3.snd.fst x_3.snd.snd)).getD (-1 : Int) == (Pl.sortT x_4.fst (Pl.Tree.mk x_4.snd.fst x_4.snd.snd)).getD (-1 : Int)) =
 Pl.atomOk x.fst x.snd)
 (Bool.false = Pl.atomOk x.fst x.snd))
 ((Exists fun (x_3 : Nat) =>
 (Pl.sigOk x.fst = Bool.true ∧
 Pl.atomRight x.snd = Bool.true ∧
 x.snd.fst ≠ (1 : Int) ∧ x_3 ≤ x.snd.snd.snd.snd.fst.length ∧ x.snd.snd.snd.snd.fst.all (Pl.isNum x.fst) = (List.drop x_3 x.snd.snd.snd.snd.fst).all (Pl.isNum x.fst)) ∧
 ((0 : Nat) = (0 : Nat) ∧ (0 : Nat) = (0 : Nat) ∧ (0 : Int) = (↑x_3 : Int) ∧ True) ∧
 (Is (syms x.fst) (syms x.fst) ∧ True) ∧
 (x.snd.fst = x.snd.fst ∧
 x.snd.snd.fst.fst = x.snd.snd.fst.fst ∧
 Is (terms x.snd.snd.fst.snd) (terms x.snd.snd.fst.snd) ∧
 x.snd.snd.snd.fst.fst = x.snd.snd.snd.fst.fst ∧
 Is (terms x.snd.snd.snd.fst.snd) (terms x.snd.snd.snd.fst.snd) ∧
 Is (terms x.snd.snd.snd.snd.fst) (terms x.snd.snd.snd.snd.fst) ∧
 Is (ints x.snd.snd.snd.snd.snd.fst) (ints x.snd.snd.snd.snd.snd.fst) ∧
 x.snd.snd.snd.snd.snd.snd.fst = x.snd.snd.snd.snd.snd.snd.fst ∧ x.snd.snd.snd.snd.snd.snd.snd = x.snd.snd.snd.snd.snd.snd.snd ∧ True) ∧
 True) ∧
 ∀ (x_3 : Nat),
 Pl.sigOk x.fst = Bool.true ∧
 Pl.atomRight x.snd = Bool.true ∧
 x.snd.fst ≠ (1 : Int) ∧ x_3 ≤ x.snd.snd.snd.snd.fst.length ∧ x.snd.snd.snd.snd.fst.all (Pl.isNum x.fst) = (List.drop x_3 x.snd.snd.snd.snd.fst).all (Pl.isNum x.fst) →
 condP (Decidable.decide ((↑x_3 : Int) < (↑x.snd.snd.snd.snd.fst.length : Int)))
 (((0 : Int) ≤ (↑x_3 : Int) ∧ (↑x_3 : Int) < (↑x.snd.snd.snd.snd.fst.length : Int)) ∧
 x_3 < x.snd.snd.snd.snd.fst.length ∧
 Exists fun (x_4 : Pl.Sig × Pl.TP) =>
 ((Is (syms x.fst) (syms x_4.fst) ∧ True) ∧
 (Pl.Tree.val (x.snd.snd.snd.snd.fst.getD x_3 Pl.dT) = x_4.snd.fst ∧ Is (kidsT (x.snd.snd.snd.snd.fst.getD x_3 Pl.dT)) (terms x_4.snd.snd) ∧ True) ∧ True) ∧
 (Pl.sigOk x_4.fst = Bool.true ∧ SmG x_4.fst ∧ SmT (Pl.Tree.mk x_4.snd.fst x_4.snd.snd)) ∧
 condP ((Pl.sortT x_4.fst (Pl.Tree.mk x_4.snd.fst x_4.snd.snd)).getD (-1 : Int) != (1 : Int)) (Bool.false = Pl.atomOk x.fst x.snd)
 (Exists fun (x' : Nat) =>
 (Pl.sigOk x.fst = Bool.true ∧
 Pl.atomRight x.snd = Bool.true ∧
 x.snd.fst ≠ (1 : Int) ∧
 x' ≤ x.snd.snd.snd.snd.fst.length ∧ x.snd.snd.snd.snd.fst.all (Pl.isNum x.fst) = (List.drop x' x.snd.snd.snd.snd.fst).all (Pl.isNum x.fst)) ∧
 x.snd.snd.snd.snd.fst.length - x' < x.snd.snd.snd.snd.fst.length - x_3 ∧
 ((0 : Nat) = (0 : Nat) ∧ (0 : Nat) = (0 : Nat) ∧ IntKind.i64.wrap ((↑x_3 : Int) + (1 : Int)) = (↑x' : Int) ∧ True) ∧
 (Is (syms x.fst) (syms x.fst) ∧ True) ∧
 (x.snd.fst = x.snd.fst ∧
 x.snd.snd.fst.fst = x.snd.snd.fst.fst ∧
 Is (terms x.snd.snd.fst.snd) (terms x.snd.snd.fst.snd) ∧
 x.snd.snd.snd.fst.fst = x.snd.snd.snd.fst.fst ∧
 Is (terms x.snd.snd.snd.fst.snd) (terms x.snd.snd.snd.fst.snd) ∧
 Is (terms x.snd.snd.snd.snd.fst) (terms x.snd.snd.snd.snd.fst) ∧
 Is (ints x.snd.snd.snd.snd.snd.fst) (ints x.snd.snd.snd.snd.snd.fst) ∧
 x.snd.snd.snd.snd.snd.snd.fst = x.snd.snd.snd.snd.snd.snd.fst ∧ x.snd.snd.snd.snd.snd.snd.snd = x.snd.snd.snd.snd.snd.snd.snd ∧ True) ∧
 True))
 (Bool.true = Pl.atomOk x.fst x.snd))))) = Goal Tryz.prog [K_sSigOk, K_l6Right, K_lOf] (A_sAtomOk x.1 x.2) K_sAtomOk.1 K_sAtomOk.2 (x) := by kernel_rfl

theorem vc_isNumber (x : Pl.Sig × Pl.TP) : (Exists fun (x_1 : Pl.Sig × Pl.TP) =>
 ((Is (syms x.fst) (syms x_1.fst) ∧ True) ∧ (x.snd.fst = x_1.snd.fst ∧ Is (terms x.snd.snd) (terms x_1.snd.snd) ∧ True) ∧ True) ∧
 (SmG x_1.fst ∧ SmT (Pl.Tree.mk x_1.snd.fst x_1.snd.snd)) ∧
 condP (Pl.termSort x_1.fst (Pl.Tree.mk x_1.snd.fst x_1.snd.snd)).snd
 (((Pl.termSort x_1.fst (Pl.Tree.mk x_1.snd.fst x_1.snd.snd)).fst == (1 : Int)) = Pl.isNum x.fst (Pl.Tree.mk x.snd.fst x.snd.snd)) (Bool.false = Pl.isNum x.fst (Pl.Tree.mk x.snd.fst x.snd.snd))) = Goal Tryz.prog [K_iTermSort] ([]) K_isNumber.1 K_isNumber.2 (x) := by kernel_rfl

theorem vc_AtomOk1 (x : Pl.TP × Pl.Sig) : ((0 : Nat) < (1 : Nat) ∧
 Exists fun (x_1 : Pl.Sig × Pl.TP) =>
 ((Is (syms x.snd) (syms x_1.fst) ∧ True) ∧ (x.fst.fst = x_1.snd.fst ∧ Is (terms x.fst.snd) (terms x_1.snd.snd) ∧ True) ∧ True) ∧
 (SmG x_1.fst ∧ SmT (Pl.Tree.mk x_1.snd.fst x_1.snd.snd)) ∧ (!Pl.isNum x_1.fst (Pl.Tree.mk x_1.snd.fst x_1.snd.snd)) = !Pl.isNum x.snd (Pl.Tree.mk x.fst.fst x.fst.snd)) = Goal Tryz.prog [K_isNumber] ([]) K_AtomOk1.1 K_AtomOk1.2 (x) := by kernel_rfl

theorem vc_IndexTerm (x : List Pl.Tm × Pl.Sig) : ((Exists fun (x_1 : Nat) =>
 (x_1 ≤ x.fst.length ∧
 Pl.idx (fun (y : Pl.Tm) => !Pl.isNum x.snd y) x.fst =
 if Pl.idx (fun (y : Pl.Tm) => !Pl.isNum x.snd y) (List.drop x_1 x.fst) < (0 : Int) then (-1 : Int) else Pl.idx (fun (y : Pl.Tm) => !Pl.isNum x.snd y) (List.drop x_1 x.fst) + (↑x_1 : Int)) ∧
 (Is (terms x.fst) (terms x.fst) ∧ (Is (refs [syms x.snd]) (refs [syms x.snd]) ∧ True) ∧ (↑x.fst.length : Int) = (↑x.fst.length : Int) ∧ (0 : Int) = (↑x_1 : Int) ∧ True) ∧
 True) ∧
 ∀ (x_1 : Nat),
 (x_1 ≤ x.fst.length ∧
 Pl.idx (fun (y : Pl.Tm) => !Pl.isNum x.snd y) x.fst =
 if Pl.idx (fun (y : Pl.Tm) => !Pl.isNum x.snd y) (List.drop x_1 x.fst) < (0 : Int) then (-1 : Int) else Pl.idx (fun (y : Pl.Tm) => !Pl.isNum x.snd y) (List.drop x_1 x.fst) + (↑x_1 : Int)) →
 condP (Decidable.decide ((↑x_1 : Int) < (↑x.fst.length : Int)))
 (((0 : Int) ≤ (↑x_1 : Int) ∧ (↑x_1 : Int) < (↑x.fst.length : Int)) ∧
 x_1 < x.fst.length ∧
 Exists fun (x_2 : Pl.TP × Pl.Sig) =>
 ((Pl.Tree.val (x.fst.getD x_1 Pl.dT) = x_2.fst.fst ∧ Is (kidsT (x.fst.getD x_1 Pl.dT)) (terms x_2.fst.snd) ∧ True) ∧
 Is (refs [syms x.snd]) (refs [syms x_2.snd]) ∧ True) ∧
 (SmG x_2.snd ∧ SmT (Pl.Tree.mk x_2.fst.fst x_2.fst.snd)) ∧
 condP (!Pl.isNum x_2.snd (Pl.Tree.mk x_2.fst.fst x_2.fst.snd)) ((↑x_1 : Int) = Pl.idx (fun (y : Pl.Tm) => !Pl.isNum x.snd y) x.fst)
 (Exists fun (x' : Nat) =>
 (x' ≤ x.fst.length ∧
 Pl.idx (fun (y : Pl.Tm) => !Pl.isNum x.snd y) x.fst =
 if Pl.idx (fun (y : Pl.Tm) => !Pl.isNum x.snd y) (List.drop x' x.fst) < (0 : Int) then (-1 : Int)
 else Pl.idx (fun (y : Pl.Tm) => !Pl.isNum x.snd y) (List.drop x' x.fst) + (↑x' : Int)) ∧
 x.fst.length - x' < x.fst.length - x_1 ∧
 (Is (terms x.fst) (terms x.fst) ∧
 (Is (refs [syms x.snd]) (refs [syms x.snd]) ∧ True) ∧
 (↑x.fst.length : Int) = (↑x.fst.length : Int) ∧ IntKind.i64.wrap ((↑x_1 : Int) + (1 : Int)) = (↑x' : Int) ∧ True) ∧
 True))
 ((-1 : Int) = Pl.idx (fun (y : Pl.Tm) => !Pl.isNum x.snd y) x.fst)) = Goal Tryz.prog [K_AtomOk1] (A_IndexTerm x.1 x.2) K_IndexTerm.1 K_IndexTerm.2 (x) := by kernel_rfl

theorem vc_ContainsTerm (x : List Pl.Tm × Pl.Sig) : (Exists fun (x_1 : List Pl.Tm × Pl.Sig) =>
 (Is (terms x.fst) (terms x_1.fst) ∧ (Is (refs [syms x.snd]) (refs [syms x_1.snd]) ∧ True) ∧ True) ∧
 (SmTs x_1.fst ∧ SmG x_1.snd) ∧ Decidable.decide (Pl.idx (fun (y : Pl.Tm) => !Pl.isNum x_1.snd y) x_1.fst ≥ (0 : Int)) = x.fst.any fun (y : Pl.Tm) => !Pl.isNum x.snd y) = Goal Tryz.prog [K_IndexTerm] ([]) K_ContainsTerm.1 K_ContainsTerm.2 (x) := by kernel_rfl

theorem vc_Eqsorted (x : Pl.TP × Pl.TP × Pl.Sig) : (Exists fun (x_1 : Pl.Sig × Pl.TP) =>
 ((Is (syms x.snd.snd) (syms x_1.fst) ∧ True) ∧ (x.fst.fst = x_1.snd.fst ∧ Is (terms x.fst.snd) (terms x_1.snd.snd) ∧ True) ∧ True) ∧
 (SmG x_1.fst ∧ SmT (Pl.Tree.mk x_1.snd.fst x_1.snd.snd)) ∧
 Exists fun (x_2 : Pl.Sig × Pl.TP) =>
 ((Is (syms x.snd.snd) (syms x_2.fst) ∧ True) ∧ (x.snd.fst.fst = x_2.snd.fst ∧ Is (terms x.snd.fst.snd) (terms x_2.snd.snd) ∧ True) ∧ True) ∧
 (SmG x_2.fst ∧ SmT (Pl.Tree.mk x_2.snd.fst x_2.snd.snd)) ∧
 condP (Pl.termSort x_1.fst (Pl.Tree.mk x_1.snd.fst x_1.snd.snd)).snd
 (condP (Pl.termSort x_2.fst (Pl.Tree.mk x_2.snd.fst x_2.snd.snd)).snd
 (((Pl.termSort x_1.fst (Pl.Tree.mk x_1.snd.fst x_1.snd.snd)).fst == (Pl.termSort x_2.fst (Pl.Tree.mk x_2.snd.fst x_2.snd.snd)).fst) =
 Pl.eqSorted x.snd.snd (Pl.Tree.mk x.fst.fst x.fst.snd) (Pl.Tree.mk x.snd.fst.fst x.snd.fst.snd))
 (Bool.false = Pl.eqSorted x.snd.snd (Pl.Tree.mk x.fst.fst x.fst.snd) (Pl.Tree.mk x.snd.fst.fst x.snd.fst.snd)))
 (Bool.false = Pl.eqSorted x.snd.snd (Pl.Tree.mk x.fst.fst x.fst.snd) (Pl.Tree.mk x.snd.fst.fst x.snd.fst.snd))) = Goal Tryz.prog [K_iTermSort] ([]) K_Eqsorted.1 K_Eqsorted.2 (x) := by kernel_rfl

theorem vc_iAtomOk (x : Pl.Sig × Pl.Atm) : (Exists fun (x_1 : Pl.Sig) =>
 ((Is (syms x.fst) (syms x_1) ∧ True) ∧ True) ∧
 SmG x_1 ∧
 condP (!Pl.sigOk x_1) (Bool.false = Pl.atomOk x.fst x.snd)
 (Exists fun (x_2 : Pl.Atm) =>
 ((x.snd.fst = x_2.fst ∧
 x.snd.snd.fst.fst = x_2.snd.fst.fst ∧
 Is (terms x.snd.snd.fst.snd) (terms x_2.snd.fst.snd) ∧
 x.snd.snd.snd.fst.fst = x_2.snd.snd.fst.fst ∧
 Is (terms x.snd.snd.snd.fst.snd) (terms x_2.snd.snd.fst.snd) ∧
 Is (terms x.snd.snd.snd.snd.fst) (terms x_2.snd.snd.snd.fst) ∧
 Is (ints x.snd.snd.snd.snd.snd.fst) (ints x_2.snd.snd.snd.snd.fst) ∧
 x.snd.snd.snd.snd.snd.snd.fst = x_2.snd.snd.snd.snd.snd.fst ∧ x.snd.snd.snd.snd.snd.snd.snd = x_2.snd.snd.snd.snd.snd.snd ∧ True) ∧
 True) ∧
 SmA x_2 ∧
 condP (!Pl.atomRight x_2) (Bool.false = Pl.atomOk x.fst x.snd)
 (condP (x.snd.fst == (1 : Int))
 (Exists fun (x_3 : Pl.TP × Pl.TP × Pl.Sig) =>
 ((x.snd.snd.fst.fst = x_3.fst.fst ∧
 Is (terms x.snd.snd.fst.snd) (terms x_3.fst.snd) ∧
 x.snd.snd.snd.fst.fst = x_3.snd.fst.fst ∧ Is (terms x.snd.snd.snd.fst.snd) (terms x_3.snd.fst.snd) ∧ True) ∧
 (Is (syms x.fst) (syms x_3.snd.snd) ∧ True) ∧ True) ∧
 (SmT (Pl.Tree.mk x_3.fst.fst x_3.fst.snd) ∧ SmT (Pl.Tree.mk x_3.snd.fst.fst x_3.snd.fst.snd) ∧ SmG x_3.snd.snd) ∧
 Pl.eqSorted x_3.snd.snd (Pl.Tree.mk x_3.fst.fst x_3.fst.snd) (Pl.Tree.mk x_3.snd.fst.fst x_3.snd.fst.snd) = Pl.atomOk x.fst x.snd)
 (Exists fun (x_3 : List Pl.Tm × Pl.Sig) =>
 (Is (terms x.snd.snd.snd.snd.fst) (terms x_3.fst) ∧ (Is (refs [syms x.fst]) (refs [syms x_3.snd]) ∧ True) ∧ True) ∧
 (SmTs x_3.fst ∧ SmG x_3.snd) ∧ (!x_3.fst.any fun (y : Pl.Tm) => !Pl.isNum x_3.snd y) = Pl.atomOk x.fst x.snd)))) = Goal Tryz.prog [K_iSigOk, K_Atomok, K_Eqsorted, K_ContainsTerm] ([]) K_iAtomOk.1 K_iAtomOk.2 (x) := by kernel_rfl

end Cg
