/-
  What is left to show of each function's code, printed by a program: Cu. No condition.
-/
import Derived.Test.YtgobdkgdhmkegaaCuDefs
import Derived.Test.YtgobdkgdhmkegaaProg
set_option maxRecDepth 100000
set_option linter.unusedVariables false
namespace Cg
open Go Go.Proofs
theorem vc_yCnfUnits (b : List Int) : (condP (Decidable.decide ((↑b.length : Int) > (1048576 : Int))) (Bool.true = Bool.true)
 (Exists fun (x : List Int) =>
 (Sz x ∧ Byt x) ∧
 ((Is (byts b) (byts x) ∧ True) ∧ True) ∧
 ∀ (y : Pl.Cnf × List Int),
 Sm y.fst ∧ y.snd.length ≤ (101 : Nat) →
 Exists fun (x : List Int) =>
 (Sz x ∧ Byt x) ∧
 ((Is (byts b) (byts x) ∧ True) ∧ True) ∧
 ∀ (y_1 : Pl.Cnf × List Bool),
 Sm y_1.fst ∧ y_1.snd.length ≤ (101 : Nat) →
 Exists fun (x : Pl.Cnf × List Int) =>
 ((y.fst.fst = x.fst.fst ∧ Is (intss y.fst.snd) (intss x.fst.snd) ∧ True) ∧ Is (ints y.snd) (ints x.snd) ∧ True) ∧
 (SzC x.fst ∧ SzH x.snd) ∧
 Exists fun (x_1 : Pl.Cnf × List Int) =>
 ((y.fst.fst = x_1.fst.fst ∧ Is (intss y.fst.snd) (intss x_1.fst.snd) ∧ True) ∧ Is (ints y.snd) (ints x_1.snd) ∧ True) ∧
 (SzC x_1.fst ∧ SzH x_1.snd) ∧
 condP (!(Pl.cnfUnits x.fst x.snd).snd == (Pl.cnfUnits x_1.fst x_1.snd).snd) (Bool.false = Bool.true)
 (Exists fun (x_2 : List Int × List Int) =>
 (Is (ints (Pl.cnfUnits x.fst x.snd).fst) (ints x_2.fst) ∧ Is (ints (Pl.cnfUnits x_1.fst x_1.snd).fst) (ints x_2.snd) ∧ True) ∧
 Sz x_2.fst ∧
 condP (!Decidable.decide (x_2.fst = x_2.snd)) (Bool.false = Bool.true)
 (condP (Decidable.decide ((↑(Pl.cnfUnits x.fst x.snd).fst.length : Int) < (↑y.snd.length : Int)))
 (condP ((↑(Pl.cnfUnits x.fst x.snd).fst.length : Int) == (0 : Int)) ((!(Pl.cnfUnits x.fst x.snd).snd) = Bool.true) (Bool.false = Bool.true))
 (Exists fun (x_3 : Pl.Cnf × List Bool) =>
 ((y.fst.fst = x_3.fst.fst ∧ Is (intss y.fst.snd) (intss x_3.fst.snd) ∧ True) ∧ Is (bools y_1.snd) (bools x_3.snd) ∧ True) ∧
 (SzC x_3.fst ∧ Sz x_3.snd) ∧
 (Exists fun (x_4 : Pl.Cnf × List Int × Pl.Cnf × List Bool × Nat) =>
 ((Sm x_4.fst ∧
 x_4.snd.fst.length ≤ (101 : Nat) ∧
 Sm x_4.snd.snd.fst ∧ x_4.snd.snd.snd.fst.length ≤ (101 : Nat) ∧ x_4.snd.fst.length ≤ (Pl.cnfUnits x_4.fst x_4.snd.fst).fst.length) ∧
 x_4.snd.snd.snd.snd ≤ x_4.snd.fst.length) ∧
 ((0 : Nat) = (0 : Nat) ∧
 Is (ints y.snd) (ints x_4.snd.fst) ∧
 (0 : Nat) = (0 : Nat) ∧
 Is (bools y_1.snd) (bools x_4.snd.snd.snd.fst) ∧
 Is (ints (Pl.cnfUnits x.fst x.snd).fst) (ints (Pl.cnfUnits x_4.fst x_4.snd.fst).fst) ∧
 (Pl.cnfUnits x.fst x.snd).snd = (Pl.cnfUnits x_4.fst x_4.snd.fst).snd ∧
 Pl.cnfIs x_3.fst x_3.snd =
 (Pl.cnfIs x_4.fst x_4.snd.snd.snd.fst && Pl.ones (List.take x_4.snd.snd.snd.snd x_4.snd.fst) x_4.snd.snd.snd.fst) ∧
 (0 : Int) = (↑x_4.snd.snd.snd.snd : Int) ∧ True) ∧
 (y.fst.fst = x_4.fst.fst ∧ Is (intss y.fst.snd) (intss x_4.fst.snd) ∧ True) ∧
 (y_1.fst.fst = x_4.snd.snd.fst.fst ∧ Is (intss y_1.fst.snd) (intss x_4.snd.snd.fst.snd) ∧ True) ∧ True) ∧
 ∀ (x : Pl.Cnf × List Int × Pl.Cnf × List Bool × Nat),
 (Sm x.fst ∧
 x.snd.fst.length ≤ (101 : Nat) ∧
 Sm x.snd.snd.fst ∧ x.snd.snd.snd.fst.length ≤ (101 : Nat) ∧ x.snd.fst.length ≤ (Pl.cnfUnits x.fst x.snd.fst).fst.length) ∧
 x.snd.snd.snd.snd ≤ x.snd.fst.length →
 condP (Decidable.decide ((↑x.snd.snd.snd.snd : Int) < (↑x.snd.fst.length : Int)))
 (((0 : Int) ≤ (↑x.snd.snd.snd.snd : Int) ∧ (↑x.snd.snd.snd.snd : Int) < (↑(Pl.cnfUnits x.fst x.snd.fst).fst.length : Int)) ∧
 x.snd.snd.snd.snd < (Pl.cnfUnits x.fst x.snd.fst).fst.length ∧
 ((0 : Int) ≤ (↑x.snd.snd.snd.snd : Int) ∧ (↑x.snd.snd.snd.snd : Int) < (↑x.snd.fst.length : Int)) ∧
 x.snd.snd.snd.snd < x.snd.fst.length ∧
 condP ((Pl.cnfUnits x.fst x.snd.fst).fst.getD x.snd.snd.snd.snd (0 : Int) != x.snd.fst.getD x.snd.snd.snd.snd (0 : Int))
 (Bool.false = Bool.true)
 (condP (Pl.cnfIs x.fst x.snd.snd.snd.fst && Pl.ones (List.take x.snd.snd.snd.snd x.snd.fst) x.snd.snd.snd.fst)
 (((0 : Int) ≤ (↑x.snd.snd.snd.snd : Int) ∧ (↑x.snd.snd.snd.snd : Int) < (↑x.snd.fst.length : Int)) ∧
 x.snd.snd.snd.snd < x.snd.fst.length ∧
 Exists fun (x_4 : List Int × List Bool) =>
 (Is (AV.lit (1 : Nat) (1 : Nat) (rowsCell [[i64 (x.snd.fst.getD x.snd.snd.snd.snd (0 : Int))]]))
 (ints x_4.fst) ∧
 Is (bools x.snd.snd.snd.fst) (bools x_4.snd) ∧ True) ∧
 (Sz x_4.fst ∧ Sz x_4.snd) ∧
 Exists fun (x' : Pl.Cnf × List Int × Pl.Cnf × List Bool × Nat) =>
 ((Sm x'.fst ∧
 x'.snd.fst.length ≤ (101 : Nat) ∧
 Sm x'.snd.snd.fst ∧
 x'.snd.snd.snd.fst.length ≤ (101 : Nat) ∧
 x'.snd.fst.length ≤ (Pl.cnfUnits x'.fst x'.snd.fst).fst.length) ∧
 x'.snd.snd.snd.snd ≤ x'.snd.fst.length) ∧
 x'.snd.fst.length - x'.snd.snd.snd.snd < x.snd.fst.length - x.snd.snd.snd.snd ∧
 ((0 : Nat) = (0 : Nat) ∧
 Is (ints x.snd.fst) (ints x'.snd.fst) ∧
 (0 : Nat) = (0 : Nat) ∧
 Is (bools x.snd.snd.snd.fst) (bools x'.snd.snd.snd.fst) ∧
 Is (ints (Pl.cnfUnits x.fst x.snd.fst).fst) (ints (Pl.cnfUnits x'.fst x'.snd.fst).fst) ∧
 (Pl.cnfUnits x.fst x.snd.fst).snd = (Pl.cnfUnits x'.fst x'.snd.fst).snd ∧
 Pl.clauseIs x_4.fst x_4.snd =
 (Pl.cnfIs x'.fst x'.snd.snd.snd.fst &&
 Pl.ones (List.take x'.snd.snd.snd.snd x'.snd.fst) x'.snd.snd.snd.fst) ∧
 IntKind.i64.wrap ((↑x.snd.snd.snd.snd : Int) + (1 : Int)) = (↑x'.snd.snd.snd.snd : Int) ∧
 True) ∧
 (x.fst.fst = x'.fst.fst ∧ Is (intss x.fst.snd) (intss x'.fst.snd) ∧ True) ∧
 (x.snd.snd.fst.fst = x'.snd.snd.fst.fst ∧
 Is (intss x.snd.snd.fst.snd) (intss x'.snd.snd.fst.snd) ∧ True) ∧
 True)
 (Exists fun (x' : Pl.Cnf × List Int × Pl.Cnf × List Bool × Nat) =>
 ((Sm x'.fst ∧
 x'.snd.fst.length ≤ (101 : Nat) ∧
 Sm x'.snd.snd.fst ∧
 x'.snd.snd.snd.fst.length ≤ (101 : Nat) ∧ x'.snd.fst.length ≤ (Pl.cnfUnits x'.fst x'.snd.fst).fst.length) ∧
 x'.snd.snd.snd.snd ≤ x'.snd.fst.length) ∧
 x'.snd.fst.length - x'.snd.snd.snd.snd < x.snd.fst.length - x.snd.snd.snd.snd ∧
 ((0 : Nat) = (0 : Nat) ∧
 Is (ints x.snd.fst) (ints x'.snd.fst) ∧
 (0 : Nat) = (0 : Nat) ∧
 Is (bools x.snd.snd.snd.fst) (bools x'.snd.snd.snd.fst) ∧
 Is (ints (Pl.cnfUnits x.fst x.snd.fst).fst) (ints (Pl.cnfUnits x'.fst x'.snd.fst).fst) ∧
 (Pl.cnfUnits x.fst x.snd.fst).snd = (Pl.cnfUnits x'.fst x'.snd.fst).snd ∧
 Bool.false =
 (Pl.cnfIs x'.fst x'.snd.snd.snd.fst &&
 Pl.ones (List.take x'.snd.snd.snd.snd x'.snd.fst) x'.snd.snd.snd.fst) ∧
 IntKind.i64.wrap ((↑x.snd.snd.snd.snd : Int) + (1 : Int)) = (↑x'.snd.snd.snd.snd : Int) ∧ True) ∧
 (x.fst.fst = x'.fst.fst ∧ Is (intss x.fst.snd) (intss x'.fst.snd) ∧ True) ∧
 (x.snd.snd.fst.fst = x'.snd.snd.fst.fst ∧ Is (intss x.snd.snd.fst.snd) (intss x'.snd.snd.fst.snd) ∧ True) ∧
 True)))
 (condP (!(Pl.cnfIs x.fst x.snd.snd.snd.fst && Pl.ones (List.take x.snd.snd.snd.snd x.snd.fst) x.snd.snd.snd.fst)) (Bool.true = Bool.true)
 ((Exists fun (x_4 : Pl.Cnf × List Int × Pl.Cnf × List Bool × Nat) =>
 ((Sm x_4.fst ∧
 x_4.snd.fst.length ≤ (101 : Nat) ∧
 Sm x_4.snd.snd.fst ∧
 x_4.snd.snd.snd.fst.length ≤ (101 : Nat) ∧ x_4.snd.fst.length ≤ (Pl.cnfUnits x_4.fst x_4.snd.fst).fst.length) ∧
 x_4.snd.snd.snd.snd ≤ (Pl.cnfUnits x_4.fst x_4.snd.fst).fst.length ∧
 Pl.cnfIs x_4.fst x_4.snd.snd.snd.fst = Bool.true ∧ Pl.ones x_4.snd.fst x_4.snd.snd.snd.fst = Bool.true) ∧
 ((0 : Nat) = (0 : Nat) ∧
 Is (ints x.snd.fst) (ints x_4.snd.fst) ∧
 (0 : Nat) = (0 : Nat) ∧
 Is (bools x.snd.snd.snd.fst) (bools x_4.snd.snd.snd.fst) ∧
 Is (ints (Pl.cnfUnits x.fst x.snd.fst).fst) (ints (Pl.cnfUnits x_4.fst x_4.snd.fst).fst) ∧
 (Pl.cnfUnits x.fst x.snd.fst).snd = (Pl.cnfUnits x_4.fst x_4.snd.fst).snd ∧
 (0 : Int) = (↑x_4.snd.snd.snd.snd : Int) ∧ True) ∧
 (x.fst.fst = x_4.fst.fst ∧ Is (intss x.fst.snd) (intss x_4.fst.snd) ∧ True) ∧
 (x.snd.snd.fst.fst = x_4.snd.snd.fst.fst ∧ Is (intss x.snd.snd.fst.snd) (intss x_4.snd.snd.fst.snd) ∧ True) ∧ True) ∧
 ∀ (x : Pl.Cnf × List Int × Pl.Cnf × List Bool × Nat),
 (Sm x.fst ∧
 x.snd.fst.length ≤ (101 : Nat) ∧
 Sm x.snd.snd.fst ∧ x.snd.snd.snd.fst.length ≤ (101 : Nat) ∧ x.snd.fst.length ≤ (Pl.cnfUnits x.fst x.snd.fst).fst.length) ∧
 x.snd.snd.snd.snd ≤ (Pl.cnfUnits x.fst x.snd.fst).fst.length ∧
 Pl.cnfIs x.fst x.snd.snd.snd.fst = Bool.true ∧ Pl.ones x.snd.fst x.snd.snd.snd.fst = Bool.true →
 condP (Decidable.decide ((↑x.snd.snd.snd.snd : Int) < (↑(Pl.cnfUnits x.fst x.snd.fst).fst.length : Int)))
 (((0 : Int) ≤ (↑x.snd.snd.snd.snd : Int) ∧ (↑x.snd.snd.snd.snd : Int) < (↑(Pl.cnfUnits x.fst x.snd.fst).fst.length : Int)) ∧
 x.snd.snd.snd.snd < (Pl.cnfUnits x.fst x.snd.fst).fst.length ∧
 Exists fun (x_4 : List Int × List Bool) =>
 (Is
 (AV.lit (1 : Nat) (1 : Nat)
 (rowsCell [[i64 ((Pl.cnfUnits x.fst x.snd.fst).fst.getD x.snd.snd.snd.snd (0 : Int))]]))
 (ints x_4.fst) ∧
 Is (bools x.snd.snd.snd.fst) (bools x_4.snd) ∧ True) ∧
 (Sz x_4.fst ∧ Sz x_4.snd) ∧
 condP (!Pl.clauseIs x_4.fst x_4.snd) (Bool.false = Bool.true)
 (Exists fun (x' : Pl.Cnf × List Int × Pl.Cnf × List Bool × Nat) =>
 ((Sm x'.fst ∧
 x'.snd.fst.length ≤ (101 : Nat) ∧
 Sm x'.snd.snd.fst ∧
 x'.snd.snd.snd.fst.length ≤ (101 : Nat) ∧
 x'.snd.fst.length ≤ (Pl.cnfUnits x'.fst x'.snd.fst).fst.length) ∧
 x'.snd.snd.snd.snd ≤ (Pl.cnfUnits x'.fst x'.snd.fst).fst.length ∧
 Pl.cnfIs x'.fst x'.snd.snd.snd.fst = Bool.true ∧ Pl.ones x'.snd.fst x'.snd.snd.snd.fst = Bool.true) ∧
 (Pl.cnfUnits x'.fst x'.snd.fst).fst.length - x'.snd.snd.snd.snd <
 (Pl.cnfUnits x.fst x.snd.fst).fst.length - x.snd.snd.snd.snd ∧
 ((0 : Nat) = (0 : Nat) ∧
 Is (ints x.snd.fst) (ints x'.snd.fst) ∧
 (0 : Nat) = (0 : Nat) ∧
 Is (bools x.snd.snd.snd.fst) (bools x'.snd.snd.snd.fst) ∧
 Is (ints (Pl.cnfUnits x.fst x.snd.fst).fst) (ints (Pl.cnfUnits x'.fst x'.snd.fst).fst) ∧
 (Pl.cnfUnits x.fst x.snd.fst).snd = (Pl.cnfUnits x'.fst x'.snd.fst).snd ∧
 IntKind.i64.wrap ((↑x.snd.snd.snd.snd : Int) + (1 : Int)) = (↑x'.snd.snd.snd.snd : Int) ∧
 True) ∧
 (x.fst.fst = x'.fst.fst ∧ Is (intss x.fst.snd) (intss x'.fst.snd) ∧ True) ∧
 (x.snd.snd.fst.fst = x'.snd.snd.fst.fst ∧
 Is (intss x.snd.snd.fst.snd) (intss x'.snd.snd.fst.snd) ∧ True) ∧
 True))
 ((!(Pl.cnfUnits x.fst x.snd.fst).snd) = Bool.true)))))))) = Goal Try.prog [K_DrawCnfUnits, K_DrawCnfIs, K_iCnfUnits, K_sCnfUnits, K_wpNums, K_iCnfIs, K_iClauseIs] (A_yCnfUnits) K_yCnfUnits.1 K_yCnfUnits.2 (b) := by kernel_rfl

end Cg
