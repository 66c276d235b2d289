/-
  What is left to show of each function's code, printed by a program: Model. No condition.
-/
import Derived.Test.YtjhiaobcbbnhnaaGreatModelDefs
import Derived.Test.YtjhiaobcbbnhnaaGreatProg
set_option maxRecDepth 100000
set_option linter.unusedVariables false
namespace Cg
open Go Go.Proofs
theorem vc_szRatS (x : List Pl.Rt × Int) : (condP (Decidable.decide (IntKind.i64.wrap (x.snd - (↑x.fst.length : Int)) < (0 : Int))) ((-1 : Int) = Pl.lim (x.snd - (↑x.fst.length : Int)))
 (IntKind.i64.wrap (x.snd - (↑x.fst.length : Int)) = Pl.lim (x.snd - (↑x.fst.length : Int)))) = Goal Tryz.prog [] ([]) K_szRatS.1 K_szRatS.2 (x) := by kernel_rfl

theorem vc_szRow (x : Pl.Rw × Int) : (condP (Decidable.decide (IntKind.i64.wrap (x.snd - (↑x.fst.fst.size : Int)) < (0 : Int))) ((-1 : Int) = Pl.lim (x.snd - (↑(Pl.costR x.fst) : Int)))
 (Exists fun (x_1 : List Pl.Rt × Int) =>
 (Is (rats x.fst.snd.fst) (rats x_1.fst) ∧ IntKind.i64.wrap (x.snd - (↑x.fst.fst.size : Int)) = x_1.snd ∧ True) ∧
 (Ml x_1.fst ∧ Fu x_1.snd) ∧
 condP (Decidable.decide (Pl.lim (x_1.snd - (↑x_1.fst.length : Int)) < (0 : Int))) ((-1 : Int) = Pl.lim (x.snd - (↑(Pl.costR x.fst) : Int)))
 (Pl.lim (x_1.snd - (↑x_1.fst.length : Int)) = Pl.lim (x.snd - (↑(Pl.costR x.fst) : Int))))) = Goal Tryz.prog [K_szRatS] ([]) K_szRow.1 K_szRow.2 (x) := by kernel_rfl

theorem vc_szRowS (x : Pl.Mdl × Int) : (condP (Decidable.decide (IntKind.i64.wrap (x.snd - (↑(List.length x.fst) : Int)) < (0 : Int))) ((-1 : Int) = Pl.lim (x.snd - (↑(Pl.costM x.fst) : Int)))
 ((Exists fun (x_1 : Nat) =>
 (x_1 ≤ List.length x.fst ∧ (0 : Int) ≤ x.snd - (↑(List.length x.fst) : Int) - (↑(Pl.sumN Pl.costR (List.take x_1 x.fst)) : Int)) ∧
 (Is (mrows x.fst) (mrows x.fst) ∧
 IntKind.i64.wrap (x.snd - (↑(List.length x.fst) : Int)) = x.snd - (↑(List.length x.fst) : Int) - (↑(Pl.sumN Pl.costR (List.take x_1 x.fst)) : Int) ∧ (0 : Int) = (↑x_1 : Int) ∧ True) ∧
 True) ∧
 ∀ (x_1 : Nat),
 x_1 ≤ List.length x.fst ∧ (0 : Int) ≤ x.snd - (↑(List.length x.fst) : Int) - (↑(Pl.sumN Pl.costR (List.take x_1 x.fst)) : Int) →
 condP (Decidable.decide ((↑x_1 : Int) < (↑(List.length x.fst) : Int)))
 (((0 : Int) ≤ (↑x_1 : Int) ∧ (↑x_1 : Int) < (↑(List.length x.fst) : Int)) ∧
 x_1 < List.length x.fst ∧
 Exists fun (x_2 : Pl.Rw × Int) =>
 (((List.getD x.fst x_1 Pl.dR).fst = x_2.fst.fst ∧
 Is (rats (List.getD x.fst x_1 Pl.dR).snd.fst) (rats x_2.fst.snd.fst) ∧
 (List.getD x.fst x_1 Pl.dR).snd.snd.fst = x_2.fst.snd.snd.fst ∧ (List.getD x.fst x_1 Pl.dR).snd.snd.snd = x_2.fst.snd.snd.snd ∧ True) ∧
 x.snd - (↑(List.length x.fst) : Int) - (↑(Pl.sumN Pl.costR (List.take x_1 x.fst)) : Int) = x_2.snd ∧ True) ∧
 (MlR x_2.fst ∧ Fu x_2.snd) ∧
 condP (Decidable.decide (Pl.lim (x_2.snd - (↑(Pl.costR x_2.fst) : Int)) < (0 : Int))) ((-1 : Int) = Pl.lim (x.snd - (↑(Pl.costM x.fst) : Int)))
 (Exists fun (x' : Nat) =>
 (x' ≤ List.length x.fst ∧ (0 : Int) ≤ x.snd - (↑(List.length x.fst) : Int) - (↑(Pl.sumN Pl.costR (List.take x' x.fst)) : Int)) ∧
 List.length x.fst - x' < List.length x.fst - x_1 ∧
 (Is (mrows x.fst) (mrows x.fst) ∧
 Pl.lim (x_2.snd - (↑(Pl.costR x_2.fst) : Int)) = x.snd - (↑(List.length x.fst) : Int) - (↑(Pl.sumN Pl.costR (List.take x' x.fst)) : Int) ∧
 IntKind.i64.wrap ((↑x_1 : Int) + (1 : Int)) = (↑x' : Int) ∧ True) ∧
 True))
 (x.snd - (↑(List.length x.fst) : Int) - (↑(Pl.sumN Pl.costR (List.take x_1 x.fst)) : Int) = Pl.lim (x.snd - (↑(Pl.costM x.fst) : Int))))) = Goal Tryz.prog [K_szRow] (A_szRowS x.1 x.2) K_szRowS.1 K_szRowS.2 (x) := by kernel_rfl

theorem vc_szModel (x : Pl.Mdl × Int) : (Exists fun (x_1 : Pl.Mdl × Int) =>
 (Is (mrows x.fst) (mrows x_1.fst) ∧ x.snd = x_1.snd ∧ True) ∧
 (MlM x_1.fst ∧ Fu x_1.snd) ∧
 condP (Decidable.decide (Pl.lim (x_1.snd - (↑(Pl.costM x_1.fst) : Int)) < (0 : Int))) ((-1 : Int) = Pl.lim (x.snd - (↑(Pl.costM x.fst) : Int)))
 (Pl.lim (x_1.snd - (↑(Pl.costM x_1.fst) : Int)) = Pl.lim (x.snd - (↑(Pl.costM x.fst) : Int)))) = Goal Tryz.prog [K_szRowS] ([]) K_szModel.1 K_szModel.2 (x) := by kernel_rfl

theorem vc_toRat (x : Pl.Rt) : (x.fst = x.fst ∧ x.snd = x.snd ∧ True) = Goal Tryz.prog [] ([]) K_toRat.1 K_toRat.2 (x) := by kernel_rfl

theorem vc_toRatS (x : List Pl.Rt) : ((0 : Int) ≤ (↑x.length : Int) ∧
 (↑x.length : Int) ≤ (↑x.length : Int) ∧
 (↑(16 : Nat) : Int) * (↑x.length : Int) ≤ (140737488355328 : Int) ∧
 (↑x.length : Int) ≤ (140737488355328 : Int) ∧
 (Exists fun (x_1 : Nat × List Pl.Rt) =>
 (x_1.fst ≤ x.length ∧ x_1.snd.length = x.length ∧ List.take x_1.fst x_1.snd = List.take x_1.fst x) ∧
 (Is (rats x) (rats x) ∧ ((0 : Nat) = (0 : Nat) ∧ x.length = x_1.snd.length) ∧ (0 : Int) = (↑x_1.fst : Int) ∧ True) ∧
 IsO (AObj.arr x.length (2 : Nat) fun (x j : Nat) => [i64 (0 : Int), i64 (0 : Int)].getD j AV.any) (arQ x_1.snd) ∧ True) ∧
 ∀ (x_1 : Nat × List Pl.Rt),
 x_1.fst ≤ x.length ∧ x_1.snd.length = x.length ∧ List.take x_1.fst x_1.snd = List.take x_1.fst x →
 condP (Decidable.decide ((↑x_1.fst : Int) < (↑x.length : Int)))
 (((0 : Int) ≤ (↑x_1.fst : Int) ∧ (↑x_1.fst : Int) < (↑x.length : Int)) ∧
 x_1.fst < x.length ∧
 Exists fun (x_2 : Pl.Rt) =>
 (((x.getD x_1.fst Pl.dQ).fst = x_2.fst ∧ (x.getD x_1.fst Pl.dQ).snd = x_2.snd ∧ True) ∧ True) ∧
 True ∧
 ((0 : Int) ≤ (↑x_1.fst : Int) ∧ (↑x_1.fst : Int) < (↑x_1.snd.length : Int)) ∧
 x_1.fst < x_1.snd.length ∧
 Exists fun (x' : Nat × List Pl.Rt) =>
 (x'.fst ≤ x.length ∧ x'.snd.length = x.length ∧ List.take x'.fst x'.snd = List.take x'.fst x) ∧
 x.length - x'.fst < x.length - x_1.fst ∧
 (Is (rats x) (rats x) ∧
 ((0 : Nat) = (0 : Nat) ∧ x_1.snd.length = x'.snd.length) ∧ IntKind.i64.wrap ((↑x_1.fst : Int) + (1 : Int)) = (↑x'.fst : Int) ∧ True) ∧
 IsO (AObj.arr x_1.snd.length (2 : Nat) (storeC (cQ x_1.snd) x_1.fst (0 : Nat) [i64 x_2.fst, i64 x_2.snd])) (arQ x'.snd) ∧ True)
 ((0 : Nat) + x_1.snd.length ≤ x_1.snd.length ∧ Is (rats x_1.snd) (rats x))) = Goal Tryz.prog [K_toRat] (A_toRatS x) K_toRatS.1 K_toRatS.2 (x) := by kernel_rfl

theorem vc_toRow (x : Pl.Rw) : (Exists fun (x_1 : List Pl.Rt) =>
 (Is (rats x.snd.fst) (rats x_1) ∧ True) ∧
 Sz x_1 ∧
 Exists fun (x_2 : Pl.Rt) =>
 ((x.snd.snd.fst = x_2.fst ∧ x.snd.snd.snd = x_2.snd ∧ True) ∧ True) ∧ True ∧ x.fst = x.fst ∧ Is (rats x_1) (rats x.snd.fst) ∧ x_2.fst = x.snd.snd.fst ∧ x_2.snd = x.snd.snd.snd ∧ True) = Goal Tryz.prog [K_toRatS, K_toRat] ([]) K_toRow.1 K_toRow.2 (x) := by kernel_rfl

theorem vc_toRowS (x : Pl.Mdl) : ((0 : Int) ≤ (↑(List.length x) : Int) ∧
 (↑(List.length x) : Int) ≤ (↑(List.length x) : Int) ∧
 (↑(56 : Nat) : Int) * (↑(List.length x) : Int) ≤ (140737488355328 : Int) ∧
 (↑(List.length x) : Int) ≤ (140737488355328 : Int) ∧
 (Exists fun (x_1 : Nat × Pl.Mdl) =>
 (x_1.fst ≤ List.length x ∧ List.length x_1.snd = List.length x ∧ List.take x_1.fst x_1.snd = List.take x_1.fst x) ∧
 (Is (mrows x) (mrows x) ∧ ((0 : Nat) = (0 : Nat) ∧ List.length x = List.length x_1.snd) ∧ (0 : Int) = (↑x_1.fst : Int) ∧ True) ∧
 IsO
 (AObj.arr (List.length x) (4 : Nat) fun (x j : Nat) =>
 [st { data := #[] }, AV.lit (0 : Nat) (1 : Nat) fun (x x_2 : Nat) => AV.any, i64 (0 : Int), i64 (0 : Int)].getD j AV.any)
 (arR x_1.snd) ∧
 True) ∧
 ∀ (x_1 : Nat × Pl.Mdl),
 x_1.fst ≤ List.length x ∧ List.length x_1.snd = List.length x ∧ List.take x_1.fst x_1.snd = List.take x_1.fst x →
 condP (Decidable.decide ((↑x_1.fst : Int) < (↑(List.length x) : Int)))
 (((0 : Int) ≤ (↑x_1.fst : Int) ∧ (↑x_1.fst : Int) < (↑(List.length x) : Int)) ∧
 x_1.fst < List.length x ∧
 Exists fun (x_2 : Pl.Rw) =>
 (((List.getD x x_1.fst Pl.dR).fst = x_2.fst ∧
 Is (rats (List.getD x x_1.fst Pl.dR).snd.fst) (rats x_2.snd.fst) ∧
 (List.getD x x_1.fst Pl.dR).snd.snd.fst = x_2.snd.snd.fst ∧ (List.getD x x_1.fst Pl.dR).snd.snd.snd = x_2.snd.snd.snd ∧ True) ∧
 True) ∧
 Sz x_2.snd.fst ∧
 ((0 : Int) ≤ (↑x_1.fst : Int) ∧ (↑x_1.fst : Int) < (↑(List.length x_1.snd) : Int)) ∧
 x_1.fst < List.length x_1.snd ∧
 Exists fun (x' : Nat × Pl.Mdl) =>
 (x'.fst ≤ List.length x ∧ List.length x'.snd = List.length x ∧ List.take x'.fst x'.snd = List.take x'.fst x) ∧
 List.length x - x'.fst < List.length x - x_1.fst ∧
 (Is (mrows x) (mrows x) ∧
 ((0 : Nat) = (0 : Nat) ∧ List.length x_1.snd = List.length x'.snd) ∧ IntKind.i64.wrap ((↑x_1.fst : Int) + (1 : Int)) = (↑x'.fst : Int) ∧ True) ∧
 IsO
 (AObj.arr (List.length x_1.snd) (4 : Nat)
 (storeC (cR x_1.snd) x_1.fst (0 : Nat) [st x_2.fst, rats x_2.snd.fst, i64 x_2.snd.snd.fst, i64 x_2.snd.snd.snd]))
 (arR x'.snd) ∧
 True)
 ((0 : Nat) + List.length x_1.snd ≤ List.length x_1.snd ∧ Is (mrows x_1.snd) (mrows x))) = Goal Tryz.prog [K_toRow] (A_toRowS x) K_toRowS.1 K_toRowS.2 (x) := by kernel_rfl

theorem vc_toModel (x : Pl.Mdl) : (Exists fun (x_1 : Pl.Mdl) => (Is (mrows x) (mrows x_1) ∧ True) ∧ SmM x_1 ∧ Is (mrows x_1) (mrows x) ∧ True) = Goal Tryz.prog [K_toRowS] ([]) K_toModel.1 K_toModel.2 (x) := by kernel_rfl

theorem vc_eqRat (x : Pl.Rt × Pl.Rt) : (condP (x.fst.fst != x.snd.fst) (Bool.false = Decidable.decide (x.fst = x.snd))
 (condP (x.fst.snd != x.snd.snd) (Bool.false = Decidable.decide (x.fst = x.snd)) (Bool.true = Decidable.decide (x.fst = x.snd)))) = Goal Tryz.prog [] ([]) K_eqRat.1 K_eqRat.2 (x) := by kernel_rfl

theorem vc_eqRatS (x : List Pl.Rt × List Pl.Rt) : (condP ((↑x.fst.length : Int) != (↑x.snd.length : Int)) (Bool.false = Decidable.decide (x.fst = x.snd))
 ((Exists fun (x_1 : Nat) =>
 (x_1 ≤ x.fst.length ∧ x.fst.length = x.snd.length ∧ (x.fst = x.snd ↔ List.drop x_1 x.fst = List.drop x_1 x.snd)) ∧
 (Is (rats x.fst) (rats x.fst) ∧ Is (rats x.snd) (rats x.snd) ∧ (0 : Int) = (↑x_1 : Int) ∧ True) ∧ True) ∧
 ∀ (x_1 : Nat),
 x_1 ≤ x.fst.length ∧ x.fst.length = x.snd.length ∧ (x.fst = x.snd ↔ List.drop x_1 x.fst = List.drop x_1 x.snd) →
 condP (Decidable.decide ((↑x_1 : Int) < (↑x.fst.length : Int)))
 (((0 : Int) ≤ (↑x_1 : Int) ∧ (↑x_1 : Int) < (↑x.fst.length : Int)) ∧
 x_1 < x.fst.length ∧
 ((0 : Int) ≤ (↑x_1 : Int) ∧ (↑x_1 : Int) < (↑x.snd.length : Int)) ∧
 x_1 < x.snd.length ∧
 Exists fun (x_2 : Pl.Rt × Pl.Rt) =>
 (((x.fst.getD x_1 Pl.dQ).fst = x_2.fst.fst ∧ (x.fst.getD x_1 Pl.dQ).snd = x_2.fst.snd ∧ True) ∧
 ((x.snd.getD x_1 Pl.dQ).fst = x_2.snd.fst ∧ (x.snd.getD x_1 Pl.dQ).snd = x_2.snd.snd ∧ True) ∧ True) ∧
 True ∧
 condP (!Decidable.decide (x_2.fst = x_2.snd)) (Bool.false = Decidable.decide (x.fst = x.snd))
 (Exists fun (x' : Nat) =>
 (x' ≤ x.fst.length ∧ x.fst.length = x.snd.length ∧ (x.fst = x.snd ↔ List.drop x' x.fst = List.drop x' x.snd)) ∧
 x.fst.length - x' < x.fst.length - x_1 ∧
 (Is (rats x.fst) (rats x.fst) ∧ Is (rats x.snd) (rats x.snd) ∧ IntKind.i64.wrap ((↑x_1 : Int) + (1 : Int)) = (↑x' : Int) ∧ True) ∧ True))
 (Bool.true = Decidable.decide (x.fst = x.snd)))) = Goal Tryz.prog [K_eqRat] (A_eqRatS x.1 x.2) K_eqRatS.1 K_eqRatS.2 (x) := by kernel_rfl

theorem vc_eqRow (x : Pl.Rw × Pl.Rw) : (condP (!x.fst.fst.toList == x.snd.fst.toList) (Bool.false = Decidable.decide (x.fst = x.snd))
 (Exists fun (x_1 : List Pl.Rt × List Pl.Rt) =>
 (Is (rats x.fst.snd.fst) (rats x_1.fst) ∧ Is (rats x.snd.snd.fst) (rats x_1.snd) ∧ True) ∧
 Sz x_1.fst ∧
 condP (!Decidable.decide (x_1.fst = x_1.snd)) (Bool.false = Decidable.decide (x.fst = x.snd))
 (Exists fun (x_2 : Pl.Rt × Pl.Rt) =>
 ((x.fst.snd.snd.fst = x_2.fst.fst ∧ x.fst.snd.snd.snd = x_2.fst.snd ∧ True) ∧ (x.snd.snd.snd.fst = x_2.snd.fst ∧ x.snd.snd.snd.snd = x_2.snd.snd ∧ True) ∧ True) ∧
 True ∧ condP (!Decidable.decide (x_2.fst = x_2.snd)) (Bool.false = Decidable.decide (x.fst = x.snd)) (Bool.true = Decidable.decide (x.fst = x.snd))))) = Goal Tryz.prog [K_eqRatS, K_eqRat] ([]) K_eqRow.1 K_eqRow.2 (x) := by kernel_rfl

theorem vc_eqRowS (x : Pl.Mdl × Pl.Mdl) : (condP ((↑(List.length x.fst) : Int) != (↑(List.length x.snd) : Int)) (Bool.false = Decidable.decide (x.fst = x.snd))
 ((Exists fun (x_1 : Nat) =>
 (x_1 ≤ List.length x.fst ∧ List.length x.fst = List.length x.snd ∧ (x.fst = x.snd ↔ List.drop x_1 x.fst = List.drop x_1 x.snd)) ∧
 (Is (mrows x.fst) (mrows x.fst) ∧ Is (mrows x.snd) (mrows x.snd) ∧ (0 : Int) = (↑x_1 : Int) ∧ True) ∧ True) ∧
 ∀ (x_1 : Nat),
 x_1 ≤ List.length x.fst ∧ List.length x.fst = List.length x.snd ∧ (x.fst = x.snd ↔ List.drop x_1 x.fst = List.drop x_1 x.snd) →
 condP (Decidable.decide ((↑x_1 : Int) < (↑(List.length x.fst) : Int)))
 (((0 : Int) ≤ (↑x_1 : Int) ∧ (↑x_1 : Int) < (↑(List.length x.fst) : Int)) ∧
 x_1 < List.length x.fst ∧
 ((0 : Int) ≤ (↑x_1 : Int) ∧ (↑x_1 : Int) < (↑(List.length x.snd) : Int)) ∧
 x_1 < List.length x.snd ∧
 Exists fun (x_2 : Pl.Rw × Pl.Rw) =>
 (((List.getD x.fst x_1 Pl.dR).fst = x_2.fst.fst ∧
 Is (rats (List.getD x.fst x_1 Pl.dR).snd.fst) (rats x_2.fst.snd.fst) ∧
 (List.getD x.fst x_1 Pl.dR).snd.snd.fst = x_2.fst.snd.snd.fst ∧ (List.getD x.fst x_1 Pl.dR).snd.snd.snd = x_2.fst.snd.snd.snd ∧ True) ∧
 ((List.getD x.snd x_1 Pl.dR).fst = x_2.snd.fst ∧
 Is (rats (List.getD x.snd x_1 Pl.dR).snd.fst) (rats x_2.snd.snd.fst) ∧
 (List.getD x.snd x_1 Pl.dR).snd.snd.fst = x_2.snd.snd.snd.fst ∧ (List.getD x.snd x_1 Pl.dR).snd.snd.snd = x_2.snd.snd.snd.snd ∧ True) ∧
 True) ∧
 Sz x_2.fst.snd.fst ∧
 condP (!Decidable.decide (x_2.fst = x_2.snd)) (Bool.false = Decidable.decide (x.fst = x.snd))
 (Exists fun (x' : Nat) =>
 (x' ≤ List.length x.fst ∧ List.length x.fst = List.length x.snd ∧ (x.fst = x.snd ↔ List.drop x' x.fst = List.drop x' x.snd)) ∧
 List.length x.fst - x' < List.length x.fst - x_1 ∧
 (Is (mrows x.fst) (mrows x.fst) ∧ Is (mrows x.snd) (mrows x.snd) ∧ IntKind.i64.wrap ((↑x_1 : Int) + (1 : Int)) = (↑x' : Int) ∧ True) ∧ True))
 (Bool.true = Decidable.decide (x.fst = x.snd)))) = Goal Tryz.prog [K_eqRow] (A_eqRowS x.1 x.2) K_eqRowS.1 K_eqRowS.2 (x) := by kernel_rfl

theorem vc_eqModel (x : Pl.Mdl × Pl.Mdl) : (Exists fun (x_1 : Pl.Mdl × Pl.Mdl) =>
 (Is (mrows x.fst) (mrows x_1.fst) ∧ Is (mrows x.snd) (mrows x_1.snd) ∧ True) ∧
 SmM x_1.fst ∧ condP (!Decidable.decide (x_1.fst = x_1.snd)) (Bool.false = Decidable.decide (x.fst = x.snd)) (Bool.true = Decidable.decide (x.fst = x.snd))) = Goal Tryz.prog [K_eqRowS] ([]) K_eqModel.1 K_eqModel.2 (x) := by kernel_rfl

theorem vc_l7Rats (x : List Pl.Rt × List Pl.Rt) : (condP ((↑x.fst.length : Int) != (↑x.snd.length : Int)) (Bool.false = Decidable.decide (x.fst = x.snd))
 ((Exists fun (x_1 : Nat) =>
 (x_1 ≤ x.fst.length ∧ x.fst.length = x.snd.length ∧ (x.fst = x.snd ↔ List.drop x_1 x.fst = List.drop x_1 x.snd)) ∧
 (Is (rats x.fst) (rats x.fst) ∧ Is (rats x.snd) (rats x.snd) ∧ (0 : Int) = (↑x_1 : Int) ∧ True) ∧ True) ∧
 ∀ (x_1 : Nat),
 x_1 ≤ x.fst.length ∧ x.fst.length = x.snd.length ∧ (x.fst = x.snd ↔ List.drop x_1 x.fst = List.drop x_1 x.snd) →
 condP (Decidable.decide ((↑x_1 : Int) < (↑x.fst.length : Int)))
 (((0 : Int) ≤ (↑x_1 : Int) ∧ (↑x_1 : Int) < (↑x.fst.length : Int)) ∧
 x_1 < x.fst.length ∧
 ((0 : Int) ≤ (↑x_1 : Int) ∧ (↑x_1 : Int) < (↑x.snd.length : Int)) ∧
 x_1 < x.snd.length ∧
 condP (!((x.fst.getD x_1 Pl.dQ).fst == (x.snd.getD x_1 Pl.dQ).fst && (x.fst.getD x_1 Pl.dQ).snd == (x.snd.getD x_1 Pl.dQ).snd)) (Bool.false = Decidable.decide (x.fst = x.snd))
 (Exists fun (x' : Nat) =>
 (x' ≤ x.fst.length ∧ x.fst.length = x.snd.length ∧ (x.fst = x.snd ↔ List.drop x' x.fst = List.drop x' x.snd)) ∧
 x.fst.length - x' < x.fst.length - x_1 ∧
 (Is (rats x.fst) (rats x.fst) ∧ Is (rats x.snd) (rats x.snd) ∧ IntKind.i64.wrap ((↑x_1 : Int) + (1 : Int)) = (↑x' : Int) ∧ True) ∧ True))
 (Bool.true = Decidable.decide (x.fst = x.snd)))) = Goal Tryz.prog [] (A_l7Rats x.1 x.2) K_l7Rats.1 K_l7Rats.2 (x) := by kernel_rfl

end Cg
