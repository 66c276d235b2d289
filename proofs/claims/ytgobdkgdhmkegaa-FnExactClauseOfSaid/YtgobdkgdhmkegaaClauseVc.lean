/-
  What is left to show of each function's code, printed by a program: Clause. No condition.
-/
import Derived.Test.YtgobdkgdhmkegaaClauseDefs
import Derived.Test.YtgobdkgdhmkegaaProg
set_option maxRecDepth 100000
set_option linter.unusedVariables false
namespace Cg
open Go Go.Proofs
theorem vc_l10Abs (x : Int) : (condP (Decidable.decide (x < (-60 : Int))) ((61 : Int) = Pl.absW x)
 (condP (Decidable.decide (x > (60 : Int))) ((61 : Int) = Pl.absW x) (condP (Decidable.decide (x < (0 : Int))) (IntKind.i64.wrap ((0 : Int) - x) = Pl.absW x) (x = Pl.absW x)))) = Goal Try.prog [] ([]) K_l10Abs.1 K_l10Abs.2 (x) := by kernel_rfl

theorem vc_within (x y z : Int) : (condP (Decidable.decide (y ≤ x)) (Decidable.decide (x ≤ z) = Pl.withinI x y z) (Bool.false = Pl.withinI x y z)) = Goal Try.prog [] ([]) K_within.1 K_within.2 ((x, y, z)) := by kernel_rfl

theorem vc_isMark (x y : Int) : (condP (x != (0 : Int))
 (Exists fun (x_1 : Int × Int × Int) =>
 (x = x_1.fst ∧ IntKind.i64.wrap ((0 : Int) - y) = x_1.snd.fst ∧ y = x_1.snd.snd ∧ True) ∧ True ∧ Pl.withinI x_1.fst x_1.snd.fst x_1.snd.snd = Pl.isMark x y)
 (Bool.false = Pl.isMark x y)) = Goal Try.prog [K_within] ([]) K_isMark.1 K_isMark.2 ((x, y)) := by kernel_rfl

theorem vc_variable (x : Int) : ((if IntKind.i64.wrap ((0 : Int) - x) > x then IntKind.i64.wrap ((0 : Int) - x) else x) = Pl.varI x) = Goal Try.prog [] ([]) K_variable.1 K_variable.2 (x) := by kernel_rfl

theorem vc_sClauseOk (l : List Int) (many : Int) : ((Exists fun (x : Nat × Int) =>
 (x.fst ≤ l.length ∧ Pl.specClause l many = Pl.specLoop many x.snd (List.drop x.fst l)) ∧
 (Is (ints l) (ints l) ∧ many = many ∧ (0 : Int) = x.snd ∧ (0 : Int) = (↑x.fst : Int) ∧ True) ∧ True) ∧
 ∀ (x : Nat × Int),
 x.fst ≤ l.length ∧ Pl.specClause l many = Pl.specLoop many x.snd (List.drop x.fst l) →
 condP (Decidable.decide ((↑x.fst : Int) < (↑l.length : Int)))
 (((0 : Int) ≤ (↑x.fst : Int) ∧ (↑x.fst : Int) < (↑l.length : Int)) ∧
 x.fst < l.length ∧
 Exists fun (x_1 : Int) =>
 (l.getD x.fst (0 : Int) = x_1 ∧ True) ∧
 True ∧
 condP (Decidable.decide (Pl.absW x_1 ≤ x.snd)) (Bool.false = Pl.specClause l many)
 (((0 : Int) ≤ (↑x.fst : Int) ∧ (↑x.fst : Int) < (↑l.length : Int)) ∧
 x.fst < l.length ∧
 Exists fun (x_2 : Int) =>
 (l.getD x.fst (0 : Int) = x_2 ∧ True) ∧
 True ∧
 condP (Decidable.decide (Pl.absW x_2 > many)) (Bool.false = Pl.specClause l many)
 (((0 : Int) ≤ (↑x.fst : Int) ∧ (↑x.fst : Int) < (↑l.length : Int)) ∧
 x.fst < l.length ∧
 Exists fun (x_3 : Int) =>
 (l.getD x.fst (0 : Int) = x_3 ∧ True) ∧
 True ∧
 Exists fun (x' : Nat × Int) =>
 (x'.fst ≤ l.length ∧ Pl.specClause l many = Pl.specLoop many x'.snd (List.drop x'.fst l)) ∧
 l.length - x'.fst < l.length - x.fst ∧
 (Is (ints l) (ints l) ∧ many = many ∧ Pl.absW x_3 = x'.snd ∧ IntKind.i64.wrap ((↑x.fst : Int) + (1 : Int)) = (↑x'.fst : Int) ∧ True) ∧
 True)))
 (condP (Decidable.decide (many ≥ (0 : Int))) (Decidable.decide (many ≤ (60 : Int)) = Pl.specClause l many) (Bool.false = Pl.specClause l many))) = Goal Try.prog [K_l10Abs] (A_sClauseOk l many) K_sClauseOk.1 K_sClauseOk.2 ((l, many)) := by kernel_rfl

theorem vc_iClauseOk (l : List Int) (many : Int) : (Exists fun (x : Int × Int × Int) =>
 (many = x.fst ∧ (0 : Int) = x.snd.fst ∧ (60 : Int) = x.snd.snd ∧ True) ∧
 True ∧
 condP (!Pl.withinI x.fst x.snd.fst x.snd.snd) (Bool.false = Pl.implClause l many)
 ((Exists fun (x : Nat) =>
 (x ≤ l.length ∧ Pl.implClause l many = Pl.implLoop many (Pl.prev l x) (List.drop x l)) ∧
 (Is (ints l) (ints l) ∧ many = many ∧ Is (ints l) (ints l) ∧ (↑l.length : Int) = (↑l.length : Int) ∧ (0 : Int) = (↑x : Int) ∧ True) ∧ True) ∧
 ∀ (x : Nat),
 x ≤ l.length ∧ Pl.implClause l many = Pl.implLoop many (Pl.prev l x) (List.drop x l) →
 condP (Decidable.decide ((↑x : Int) < (↑l.length : Int)))
 (((0 : Int) ≤ (↑x : Int) ∧ (↑x : Int) < (↑l.length : Int)) ∧
 x < l.length ∧
 Exists fun (x_1 : Int × Int) =>
 (l.getD x (0 : Int) = x_1.fst ∧ many = x_1.snd ∧ True) ∧
 True ∧
 condP (!Pl.isMark x_1.fst x_1.snd) (Bool.false = Pl.implClause l many)
 (condP (Decidable.decide ((↑x : Int) > (0 : Int)))
 (((0 : Int) ≤ IntKind.i64.wrap ((↑x : Int) - (1 : Int)) ∧ IntKind.i64.wrap ((↑x : Int) - (1 : Int)) < (↑l.length : Int)) ∧
 (IntKind.i64.wrap ((↑x : Int) - (1 : Int))).toNat < l.length ∧
 Exists fun (x_2 : Int) =>
 (l.getD (IntKind.i64.wrap ((↑x : Int) - (1 : Int))).toNat (0 : Int) = x_2 ∧ True) ∧
 True ∧
 Exists fun (x_3 : Int) =>
 (l.getD x (0 : Int) = x_3 ∧ True) ∧
 True ∧
 condP (Decidable.decide (Pl.varI x_2 ≥ Pl.varI x_3)) (Bool.false = Pl.implClause l many)
 (Exists fun (x' : Nat) =>
 (x' ≤ l.length ∧ Pl.implClause l many = Pl.implLoop many (Pl.prev l x') (List.drop x' l)) ∧
 l.length - x' < l.length - x ∧
 (Is (ints l) (ints l) ∧
 many = many ∧
 Is (ints l) (ints l) ∧ (↑l.length : Int) = (↑l.length : Int) ∧ IntKind.i64.wrap ((↑x : Int) + (1 : Int)) = (↑x' : Int) ∧ True) ∧
 True))
 (Exists fun (x' : Nat) =>
 (x' ≤ l.length ∧ Pl.implClause l many = Pl.implLoop many (Pl.prev l x') (List.drop x' l)) ∧
 l.length - x' < l.length - x ∧
 (Is (ints l) (ints l) ∧
 many = many ∧ Is (ints l) (ints l) ∧ (↑l.length : Int) = (↑l.length : Int) ∧ IntKind.i64.wrap ((↑x : Int) + (1 : Int)) = (↑x' : Int) ∧ True) ∧
 True)))
 (Bool.true = Pl.implClause l many))) = Goal Try.prog [K_variable, K_isMark, K_within] (A_iClauseOk l many) K_iClauseOk.1 K_iClauseOk.2 ((l, many)) := by kernel_rfl

theorem vc_toIntS (l : List Int) : ((0 : Int) ≤ (↑l.length : Int) ∧
 (↑l.length : Int) ≤ (↑l.length : Int) ∧
 (↑(8 : Nat) : Int) * (↑l.length : Int) ≤ (140737488355328 : Int) ∧
 (↑l.length : Int) ≤ (140737488355328 : Int) ∧
 (Exists fun (x : Nat × List Int) =>
 (x.fst ≤ l.length ∧ x.snd.length = l.length ∧ List.take x.fst x.snd = List.take x.fst l) ∧
 (Is (ints l) (ints l) ∧ ((0 : Nat) = (0 : Nat) ∧ l.length = x.snd.length) ∧ (0 : Int) = (↑x.fst : Int) ∧ True) ∧
 IsO (AObj.arr l.length (1 : Nat) fun (x j : Nat) => [i64 (0 : Int)].getD j AV.any) (arI x.snd) ∧ True) ∧
 ∀ (x : Nat × List Int),
 x.fst ≤ l.length ∧ x.snd.length = l.length ∧ List.take x.fst x.snd = List.take x.fst l →
 condP (Decidable.decide ((↑x.fst : Int) < (↑l.length : Int)))
 (((0 : Int) ≤ (↑x.fst : Int) ∧ (↑x.fst : Int) < (↑l.length : Int)) ∧
 x.fst < l.length ∧
 ((0 : Int) ≤ (↑x.fst : Int) ∧ (↑x.fst : Int) < (↑x.snd.length : Int)) ∧
 x.fst < x.snd.length ∧
 Exists fun (x' : Nat × List Int) =>
 (x'.fst ≤ l.length ∧ x'.snd.length = l.length ∧ List.take x'.fst x'.snd = List.take x'.fst l) ∧
 l.length - x'.fst < l.length - x.fst ∧
 (Is (ints l) (ints l) ∧ ((0 : Nat) = (0 : Nat) ∧ x.snd.length = x'.snd.length) ∧ IntKind.i64.wrap ((↑x.fst : Int) + (1 : Int)) = (↑x'.fst : Int) ∧ True) ∧
 IsO (AObj.arr x.snd.length (1 : Nat) (storeC (cI x.snd) x.fst (0 : Nat) [i64 (l.getD x.fst (0 : Int))])) (arI x'.snd) ∧ True)
 ((0 : Nat) + x.snd.length ≤ x.snd.length ∧ Is (ints x.snd) (ints l))) = Goal Try.prog [] (A_toIntS l) K_toIntS.1 K_toIntS.2 (l) := by kernel_rfl

theorem vc_eqIntS (l m : List Int) : (condP ((↑l.length : Int) != (↑m.length : Int)) (Bool.false = Decidable.decide (l = m))
 ((Exists fun (x : Nat) =>
 (x ≤ l.length ∧ l.length = m.length ∧ (l = m ↔ List.drop x l = List.drop x m)) ∧ (Is (ints l) (ints l) ∧ Is (ints m) (ints m) ∧ (0 : Int) = (↑x : Int) ∧ True) ∧ True) ∧
 ∀ (x : Nat),
 x ≤ l.length ∧ l.length = m.length ∧ (l = m ↔ List.drop x l = List.drop x m) →
 condP (Decidable.decide ((↑x : Int) < (↑l.length : Int)))
 (((0 : Int) ≤ (↑x : Int) ∧ (↑x : Int) < (↑l.length : Int)) ∧
 x < l.length ∧
 ((0 : Int) ≤ (↑x : Int) ∧ (↑x : Int) < (↑m.length : Int)) ∧
 x < m.length ∧
 condP (l.getD x (0 : Int) != m.getD x (0 : Int)) (Bool.false = Decidable.decide (l = m))
 (Exists fun (x' : Nat) =>
 (x' ≤ l.length ∧ l.length = m.length ∧ (l = m ↔ List.drop x' l = List.drop x' m)) ∧
 l.length - x' < l.length - x ∧ (Is (ints l) (ints l) ∧ Is (ints m) (ints m) ∧ IntKind.i64.wrap ((↑x : Int) + (1 : Int)) = (↑x' : Int) ∧ True) ∧ True))
 (Bool.true = Decidable.decide (l = m)))) = Goal Try.prog [] (A_eqIntS l m) K_eqIntS.1 K_eqIntS.2 ((l, m)) := by kernel_rfl

end Cg
