/-
  What is left to show of each function's code, printed by a program: Units. No condition.
-/
import Derived.Test.YtgobdkgdhmkegaaUnitsDefs
import Derived.Test.YtgobdkgdhmkegaaProg
set_option maxRecDepth 100000
set_option linter.unusedVariables false
namespace Cg
open Go Go.Proofs
theorem vc_l10At (l : List Int) (n : Int) : ((Exists fun (x : Nat) => (x ≤ l.length ∧ Pl.at_ n l = Pl.at_ n (List.drop x l)) ∧ (Is (ints l) (ints l) ∧ n = n ∧ (0 : Int) = (↑x : Int) ∧ True) ∧ True) ∧
 ∀ (x : Nat),
 x ≤ l.length ∧ Pl.at_ n l = Pl.at_ n (List.drop x l) →
 condP (Decidable.decide ((↑x : Int) < (↑l.length : Int)))
 (((0 : Int) ≤ (↑x : Int) ∧ (↑x : Int) < (↑l.length : Int)) ∧
 x < l.length ∧
 condP (l.getD x (0 : Int) == n) ((1 : Int) = Pl.at_ n l)
 (((0 : Int) ≤ (↑x : Int) ∧ (↑x : Int) < (↑l.length : Int)) ∧
 x < l.length ∧
 condP (l.getD x (0 : Int) == IntKind.i64.wrap ((0 : Int) - n)) ((-1 : Int) = Pl.at_ n l)
 (Exists fun (x' : Nat) =>
 (x' ≤ l.length ∧ Pl.at_ n l = Pl.at_ n (List.drop x' l)) ∧
 l.length - x' < l.length - x ∧ (Is (ints l) (ints l) ∧ n = n ∧ IntKind.i64.wrap ((↑x : Int) + (1 : Int)) = (↑x' : Int) ∧ True) ∧ True)))
 ((0 : Int) = Pl.at_ n l)) = Goal Try.prog [] (A_l10At l n) K_l10At.1 K_l10At.2 ((l, n)) := by kernel_rfl

theorem vc_l10Left (put c : List Int) : ((Exists fun (x : Nat × Nat × Int) =>
 (x.fst ≤ c.length ∧ x.snd.fst ≤ x.fst ∧ Pl.left put c = Pl.leftL put (List.drop x.fst c) x.snd.fst x.snd.snd) ∧
 (Is (ints put) (ints put) ∧ Is (ints c) (ints c) ∧ (0 : Int) = (↑x.snd.fst : Int) ∧ (0 : Int) = x.snd.snd ∧ (0 : Int) = (↑x.fst : Int) ∧ True) ∧ True) ∧
 ∀ (x : Nat × Nat × Int),
 x.fst ≤ c.length ∧ x.snd.fst ≤ x.fst ∧ Pl.left put c = Pl.leftL put (List.drop x.fst c) x.snd.fst x.snd.snd →
 condP (Decidable.decide ((↑x.fst : Int) < (↑c.length : Int)))
 (((0 : Int) ≤ (↑x.fst : Int) ∧ (↑x.fst : Int) < (↑c.length : Int)) ∧
 x.fst < c.length ∧
 Exists fun (x_1 : List Int × Int) =>
 (Is (ints put) (ints x_1.fst) ∧ c.getD x.fst (0 : Int) = x_1.snd ∧ True) ∧
 Sz x_1.fst ∧
 condP (Pl.at_ x_1.snd x_1.fst == (1 : Int)) ((2 : Int) = (↑(Pl.left put c).fst : Int) ∧ (0 : Int) = (Pl.left put c).snd ∧ True)
 (condP (Pl.at_ x_1.snd x_1.fst == (0 : Int))
 (condP ((↑x.snd.fst : Int) == (0 : Int))
 (((0 : Int) ≤ (↑x.fst : Int) ∧ (↑x.fst : Int) < (↑c.length : Int)) ∧
 x.fst < c.length ∧
 Exists fun (x' : Nat × Nat × Int) =>
 (x'.fst ≤ c.length ∧ x'.snd.fst ≤ x'.fst ∧ Pl.left put c = Pl.leftL put (List.drop x'.fst c) x'.snd.fst x'.snd.snd) ∧
 c.length - x'.fst < c.length - x.fst ∧
 (Is (ints put) (ints put) ∧
 Is (ints c) (ints c) ∧
 IntKind.i64.wrap ((↑x.snd.fst : Int) + (1 : Int)) = (↑x'.snd.fst : Int) ∧
 c.getD x.fst (0 : Int) = x'.snd.snd ∧ IntKind.i64.wrap ((↑x.fst : Int) + (1 : Int)) = (↑x'.fst : Int) ∧ True) ∧
 True)
 (Exists fun (x' : Nat × Nat × Int) =>
 (x'.fst ≤ c.length ∧ x'.snd.fst ≤ x'.fst ∧ Pl.left put c = Pl.leftL put (List.drop x'.fst c) x'.snd.fst x'.snd.snd) ∧
 c.length - x'.fst < c.length - x.fst ∧
 (Is (ints put) (ints put) ∧
 Is (ints c) (ints c) ∧
 IntKind.i64.wrap ((↑x.snd.fst : Int) + (1 : Int)) = (↑x'.snd.fst : Int) ∧
 x.snd.snd = x'.snd.snd ∧ IntKind.i64.wrap ((↑x.fst : Int) + (1 : Int)) = (↑x'.fst : Int) ∧ True) ∧
 True))
 (Exists fun (x' : Nat × Nat × Int) =>
 (x'.fst ≤ c.length ∧ x'.snd.fst ≤ x'.fst ∧ Pl.left put c = Pl.leftL put (List.drop x'.fst c) x'.snd.fst x'.snd.snd) ∧
 c.length - x'.fst < c.length - x.fst ∧
 (Is (ints put) (ints put) ∧
 Is (ints c) (ints c) ∧
 (↑x.snd.fst : Int) = (↑x'.snd.fst : Int) ∧ x.snd.snd = x'.snd.snd ∧ IntKind.i64.wrap ((↑x.fst : Int) + (1 : Int)) = (↑x'.fst : Int) ∧ True) ∧
 True)))
 ((↑x.snd.fst : Int) = (↑(Pl.left put c).fst : Int) ∧ x.snd.snd = (Pl.left put c).snd ∧ True)) = Goal Try.prog [K_l10At] (A_l10Left put c) K_l10Left.1 K_l10Left.2 ((put, c)) := by kernel_rfl

theorem vc_l10Units (c : Pl.Cnf) (put : List Int) : (((0 : Nat) = (0 : Nat) ∨ (0 : Nat) < put.length) ∧
 ((0 : Nat) + put.length) * (8 : Nat) ≤ (70368744177664 : Nat) ∧
 (Exists fun (x : Nat × Nat × List Int) =>
 (x.fst ≤ c.snd.length ∧
 Pl.unitsS c.snd put = Pl.unitsF Pl.scanS c.snd x.snd.fst x.snd.snd ∧
 Pl.uncov x.snd.snd < x.snd.fst ∧ Pl.scanS x.snd.snd c.snd = Pl.scanS x.snd.snd (List.drop x.fst c.snd) ∧ x.snd.snd.length + x.snd.fst = put.length + (61 : Nat)) ∧
 (Is (ints put) (ints put) ∧ (0 : Nat) = (0 : Nat) ∧ ((0 : Nat) = (0 : Nat) ∧ (0 : Nat) + put.length = x.snd.snd.length) ∧ (0 : Int) = (↑x.fst : Int) ∧ True) ∧
 (c.fst = c.fst ∧ Is (intss c.snd) (intss c.snd) ∧ True) ∧
 IsO (AObj.arr ((0 : Nat) + put.length) (1 : Nat) (joinC (0 : Nat) (rowsCell []) (cI put))) (arI x.snd.snd) ∧ True) ∧
 ∀ (x : Nat × Nat × List Int),
 x.fst ≤ c.snd.length ∧
 Pl.unitsS c.snd put = Pl.unitsF Pl.scanS c.snd x.snd.fst x.snd.snd ∧
 Pl.uncov x.snd.snd < x.snd.fst ∧ Pl.scanS x.snd.snd c.snd = Pl.scanS x.snd.snd (List.drop x.fst c.snd) ∧ x.snd.snd.length + x.snd.fst = put.length + (61 : Nat) →
 condP (Decidable.decide ((↑x.fst : Int) < (↑c.snd.length : Int)))
 (((0 : Int) ≤ (↑x.fst : Int) ∧ (↑x.fst : Int) < (↑c.snd.length : Int)) ∧
 x.fst < c.snd.length ∧
 (0 : Nat) + x.snd.snd.length ≤ x.snd.snd.length ∧
 Exists fun (x_1 : List Int × List Int) =>
 (Is (ints x.snd.snd) (ints x_1.fst) ∧ Is (ints (c.snd.getD x.fst [])) (ints x_1.snd) ∧ True) ∧
 (Sz x_1.fst ∧ Sz x_1.snd) ∧
 condP ((↑(Pl.left x_1.fst x_1.snd).fst : Int) == (0 : Int))
 ((0 : Nat) + x.snd.snd.length ≤ x.snd.snd.length ∧ Is (ints x.snd.snd) (ints (Pl.unitsS c.snd put).fst) ∧ Bool.true = (Pl.unitsS c.snd put).snd ∧ True)
 (condP ((↑(Pl.left x_1.fst x_1.snd).fst : Int) == (1 : Int))
 ((0 : Nat) + x.snd.snd.length ≤ x.snd.snd.length ∧
 (x.snd.snd.length + (1 : Nat)) * (8 : Nat) ≤ (70368744177664 : Nat) ∧
 Exists fun (x' : Nat × Nat × List Int) =>
 (x'.fst ≤ c.snd.length ∧
 Pl.unitsS c.snd put = Pl.unitsF Pl.scanS c.snd x'.snd.fst x'.snd.snd ∧
 Pl.uncov x'.snd.snd < x'.snd.fst ∧
 Pl.scanS x'.snd.snd c.snd = Pl.scanS x'.snd.snd (List.drop x'.fst c.snd) ∧ x'.snd.snd.length + x'.snd.fst = put.length + (61 : Nat)) ∧
 x'.snd.fst * (c.snd.length + (1 : Nat)) + (c.snd.length - x'.fst) < x.snd.fst * (c.snd.length + (1 : Nat)) + (c.snd.length - x.fst) ∧
 (Is (ints put) (ints put) ∧
 (0 : Nat) = (0 : Nat) ∧
 ((0 : Nat) = (0 : Nat) ∧ x.snd.snd.length + (1 : Nat) = x'.snd.snd.length) ∧ IntKind.i64.wrap ((-1 : Int) + (1 : Int)) = (↑x'.fst : Int) ∧ True) ∧
 (c.fst = c.fst ∧ Is (intss c.snd) (intss c.snd) ∧ True) ∧
 IsO
 (AObj.arr (x.snd.snd.length + (1 : Nat)) (1 : Nat)
 (joinC x.snd.snd.length (cI x.snd.snd) (rowsCell [[i64 (Pl.left x_1.fst x_1.snd).snd]])))
 (arI x'.snd.snd) ∧
 True)
 (Exists fun (x' : Nat × Nat × List Int) =>
 (x'.fst ≤ c.snd.length ∧
 Pl.unitsS c.snd put = Pl.unitsF Pl.scanS c.snd x'.snd.fst x'.snd.snd ∧
 Pl.uncov x'.snd.snd < x'.snd.fst ∧
 Pl.scanS x'.snd.snd c.snd = Pl.scanS x'.snd.snd (List.drop x'.fst c.snd) ∧ x'.snd.snd.length + x'.snd.fst = put.length + (61 : Nat)) ∧
 x'.snd.fst * (c.snd.length + (1 : Nat)) + (c.snd.length - x'.fst) < x.snd.fst * (c.snd.length + (1 : Nat)) + (c.snd.length - x.fst) ∧
 (Is (ints put) (ints put) ∧
 (0 : Nat) = (0 : Nat) ∧
 ((0 : Nat) = (0 : Nat) ∧ x.snd.snd.length = x'.snd.snd.length) ∧ IntKind.i64.wrap ((↑x.fst : Int) + (1 : Int)) = (↑x'.fst : Int) ∧ True) ∧
 (c.fst = c.fst ∧ Is (intss c.snd) (intss c.snd) ∧ True) ∧ IsO (arI x.snd.snd) (arI x'.snd.snd) ∧ True)))
 ((0 : Nat) + x.snd.snd.length ≤ x.snd.snd.length ∧ Is (ints x.snd.snd) (ints (Pl.unitsS c.snd put).fst) ∧ Bool.false = (Pl.unitsS c.snd put).snd ∧ True)) = Goal Try.prog [K_l10Left] (A_l10Units c put) K_l10Units.1 K_l10Units.2 ((c, put)) := by kernel_rfl

theorem vc_l10Nots (l : List Int) : ((Exists fun (x : Nat × List Int) =>
 (x.fst ≤ l.length ∧ x.snd.length = x.fst ∧ Pl.nots l = x.snd ++ Pl.nots (List.drop x.fst l)) ∧
 (Is (ints l) (ints l) ∧ ((0 : Nat) = (0 : Nat) ∧ (0 : Nat) = (0 : Nat) ∧ x.snd.length = (0 : Nat)) ∧ (0 : Int) = (↑x.fst : Int) ∧ True) ∧ x.snd.length = (0 : Nat) ∧ True) ∧
 ∀ (x : Nat × List Int),
 x.fst ≤ l.length ∧ x.snd.length = x.fst ∧ Pl.nots l = x.snd ++ Pl.nots (List.drop x.fst l) →
 condP (Decidable.decide ((↑x.fst : Int) < (↑l.length : Int)))
 (((0 : Int) ≤ (↑x.fst : Int) ∧ (↑x.fst : Int) < (↑l.length : Int)) ∧
 x.fst < l.length ∧
 (0 : Nat) + x.snd.length ≤ x.snd.length ∧
 (x.snd.length + (1 : Nat)) * (8 : Nat) ≤ (70368744177664 : Nat) ∧
 Exists fun (x' : Nat × List Int) =>
 (x'.fst ≤ l.length ∧ x'.snd.length = x'.fst ∧ Pl.nots l = x'.snd ++ Pl.nots (List.drop x'.fst l)) ∧
 l.length - x'.fst < l.length - x.fst ∧
 (Is (ints l) (ints l) ∧ ((0 : Nat) = (0 : Nat) ∧ x.snd.length + (1 : Nat) = x'.snd.length) ∧ IntKind.i64.wrap ((↑x.fst : Int) + (1 : Int)) = (↑x'.fst : Int) ∧ True) ∧
 IsO
 (AObj.arr (x.snd.length + (1 : Nat)) (1 : Nat) (joinC x.snd.length (cI x.snd) (rowsCell [[i64 (IntKind.i64.wrap ((0 : Int) - l.getD x.fst (0 : Int)))]])))
 (arI x'.snd) ∧
 True)
 ((0 : Nat) + x.snd.length ≤ x.snd.length ∧ Is (ints x.snd) (ints (Pl.nots l)))) = Goal Try.prog [] (A_l10Nots l) K_l10Nots.1 K_l10Nots.2 (l) := by kernel_rfl

theorem vc_sCnfRup (c : Pl.Cnf) (cl : List Int) : (Exists fun (x : Pl.Cnf) =>
 ((c.fst = x.fst ∧ Is (intss c.snd) (intss x.snd) ∧ True) ∧ True) ∧
 SzC x ∧
 condP (!Pl.cnfOk x) (Bool.false = Pl.rup c cl)
 (Exists fun (x : List Int × Int) =>
 (Is (ints cl) (ints x.fst) ∧ c.fst = x.snd ∧ True) ∧
 Sz x.fst ∧
 condP (!Pl.specClause x.fst x.snd) (Bool.false = Pl.rup c cl)
 (Exists fun (x : List Int) =>
 (Is (ints cl) (ints x) ∧ True) ∧
 SzH x ∧
 Exists fun (x_1 : Pl.Cnf × List Int) =>
 ((c.fst = x_1.fst.fst ∧ Is (intss c.snd) (intss x_1.fst.snd) ∧ True) ∧ Is (ints (Pl.nots x)) (ints x_1.snd) ∧ True) ∧
 (Pl.cnfOk x_1.fst = Bool.true ∧ SzC x_1.fst ∧ SzH x_1.snd) ∧ (Pl.unitsS x_1.fst.snd x_1.snd).snd = Pl.rup c cl))) = Goal Try.prog [K_sCnfOk, K_sClauseOk, K_l10Nots, K_l10Units] ([]) K_sCnfRup.1 K_sCnfRup.2 ((c, cl)) := by kernel_rfl

theorem vc_Index (l : List Int) (n : Int) : ((Exists fun (x : Nat) =>
 (x ≤ l.length ∧
 Pl.idx (fun (y : Int) => Decidable.decide (n = y)) l =
 if Pl.idx (fun (y : Int) => Decidable.decide (n = y)) (List.drop x l) < (0 : Int) then (-1 : Int) else Pl.idx (fun (y : Int) => Decidable.decide (n = y)) (List.drop x l) + (↑x : Int)) ∧
 (Is (ints l) (ints l) ∧ n = n ∧ (↑l.length : Int) = (↑l.length : Int) ∧ (0 : Int) = (↑x : Int) ∧ True) ∧ True) ∧
 ∀ (x : Nat),
 (x ≤ l.length ∧
 Pl.idx (fun (y : Int) => Decidable.decide (n = y)) l =
 if Pl.idx (fun (y : Int) => Decidable.decide (n = y)) (List.drop x l) < (0 : Int) then (-1 : Int) else Pl.idx (fun (y : Int) => Decidable.decide (n = y)) (List.drop x l) + (↑x : Int)) →
 condP (Decidable.decide ((↑x : Int) < (↑l.length : Int)))
 (((0 : Int) ≤ (↑x : Int) ∧ (↑x : Int) < (↑l.length : Int)) ∧
 x < l.length ∧
 condP (n == l.getD x (0 : Int)) ((↑x : Int) = Pl.idx (fun (y : Int) => Decidable.decide (n = y)) l)
 (Exists fun (x' : Nat) =>
 (x' ≤ l.length ∧
 Pl.idx (fun (y : Int) => Decidable.decide (n = y)) l =
 if Pl.idx (fun (y : Int) => Decidable.decide (n = y)) (List.drop x' l) < (0 : Int) then (-1 : Int)
 else Pl.idx (fun (y : Int) => Decidable.decide (n = y)) (List.drop x' l) + (↑x' : Int)) ∧
 l.length - x' < l.length - x ∧
 (Is (ints l) (ints l) ∧ n = n ∧ (↑l.length : Int) = (↑l.length : Int) ∧ IntKind.i64.wrap ((↑x : Int) + (1 : Int)) = (↑x' : Int) ∧ True) ∧ True))
 ((-1 : Int) = Pl.idx (fun (y : Int) => Decidable.decide (n = y)) l)) = Goal Try.prog [] (A_Index l n) K_Index.1 K_Index.2 ((l, n)) := by kernel_rfl

theorem vc_Contains (l : List Int) (n : Int) : (Exists fun (x : List Int × Int) =>
 (Is (ints l) (ints x.fst) ∧ n = x.snd ∧ True) ∧ Sz x.fst ∧ Decidable.decide (Pl.idx (fun (y : Int) => Decidable.decide (x.snd = y)) x.fst ≥ (0 : Int)) = l.contains n) = Goal Try.prog [K_Index] ([]) K_Contains.1 K_Contains.2 ((l, n)) := by kernel_rfl

theorem vc_Clone (l : List Int) : (∀ (b : Bool),
 (b = Bool.true → l.length = (0 : Nat)) →
 condP b (Exists fun (y : Unit) => True ∧ (((0 : Nat) = (0 : Nat) ∧ (0 : Nat) = (0 : Nat) ∧ l.length = (0 : Nat)) ∧ True) ∧ l.length = (0 : Nat) ∧ True)
 (((0 : Nat) = (0 : Nat) ∨ (0 : Nat) < l.length) ∧
 ((0 : Nat) + l.length) * (8 : Nat) ≤ (70368744177664 : Nat) ∧
 Exists fun (y : Unit) =>
 True ∧
 (((0 : Nat) = (0 : Nat) ∧ (0 : Nat) + l.length = l.length) ∧ True) ∧
 IsO (AObj.arr ((0 : Nat) + l.length) (1 : Nat) (joinC (0 : Nat) (rowsCell []) (cI l))) (arI l) ∧ True)) = Goal Try.prog [] ([]) K_Clone.1 K_Clone.2 (l) := by kernel_rfl

theorem vc_unit (c put : List Int) : ((Exists fun (x : Nat × Int × Nat) =>
 (x.fst ≤ c.length ∧ x.snd.snd ≤ x.fst ∧ Pl.unit c put = Pl.unitL put (List.drop x.fst c) x.snd.fst x.snd.snd) ∧
 (Is (ints c) (ints c) ∧
 Is (ints put) (ints put) ∧
 (0 : Int) = x.snd.fst ∧ (0 : Int) = (↑x.snd.snd : Int) ∧ Is (ints c) (ints c) ∧ (↑c.length : Int) = (↑c.length : Int) ∧ (0 : Int) = (↑x.fst : Int) ∧ True) ∧
 True) ∧
 ∀ (x : Nat × Int × Nat),
 x.fst ≤ c.length ∧ x.snd.snd ≤ x.fst ∧ Pl.unit c put = Pl.unitL put (List.drop x.fst c) x.snd.fst x.snd.snd →
 condP (Decidable.decide ((↑x.fst : Int) < (↑c.length : Int)))
 (((0 : Int) ≤ (↑x.fst : Int) ∧ (↑x.fst : Int) < (↑c.length : Int)) ∧
 x.fst < c.length ∧
 Exists fun (x_1 : List Int × Int) =>
 (Is (ints put) (ints x_1.fst) ∧ c.getD x.fst (0 : Int) = x_1.snd ∧ True) ∧
 Sz x_1.fst ∧
 condP (x_1.fst.contains x_1.snd) ((0 : Int) = (Pl.unit c put).fst ∧ Bool.false = (Pl.unit c put).snd ∧ True)
 (Exists fun (x_2 : List Int × Int) =>
 (Is (ints put) (ints x_2.fst) ∧ IntKind.i64.wrap ((0 : Int) - c.getD x.fst (0 : Int)) = x_2.snd ∧ True) ∧
 Sz x_2.fst ∧
 condP (!x_2.fst.contains x_2.snd)
 (Exists fun (x' : Nat × Int × Nat) =>
 (x'.fst ≤ c.length ∧ x'.snd.snd ≤ x'.fst ∧ Pl.unit c put = Pl.unitL put (List.drop x'.fst c) x'.snd.fst x'.snd.snd) ∧
 c.length - x'.fst < c.length - x.fst ∧
 (Is (ints c) (ints c) ∧
 Is (ints put) (ints put) ∧
 c.getD x.fst (0 : Int) = x'.snd.fst ∧
 IntKind.i64.wrap ((↑x.snd.snd : Int) + (1 : Int)) = (↑x'.snd.snd : Int) ∧
 Is (ints c) (ints c) ∧ (↑c.length : Int) = (↑c.length : Int) ∧ IntKind.i64.wrap ((↑x.fst : Int) + (1 : Int)) = (↑x'.fst : Int) ∧ True) ∧
 True)
 (Exists fun (x' : Nat × Int × Nat) =>
 (x'.fst ≤ c.length ∧ x'.snd.snd ≤ x'.fst ∧ Pl.unit c put = Pl.unitL put (List.drop x'.fst c) x'.snd.fst x'.snd.snd) ∧
 c.length - x'.fst < c.length - x.fst ∧
 (Is (ints c) (ints c) ∧
 Is (ints put) (ints put) ∧
 x.snd.fst = x'.snd.fst ∧
 (↑x.snd.snd : Int) = (↑x'.snd.snd : Int) ∧
 Is (ints c) (ints c) ∧ (↑c.length : Int) = (↑c.length : Int) ∧ IntKind.i64.wrap ((↑x.fst : Int) + (1 : Int)) = (↑x'.fst : Int) ∧ True) ∧
 True)))
 (condP (Decidable.decide ((↑x.snd.snd : Int) > (1 : Int))) ((0 : Int) = (Pl.unit c put).fst ∧ ((↑x.snd.snd : Int) == (0 : Int)) = (Pl.unit c put).snd ∧ True)
 (x.snd.fst = (Pl.unit c put).fst ∧ ((↑x.snd.snd : Int) == (0 : Int)) = (Pl.unit c put).snd ∧ True))) = Goal Try.prog [K_Contains] (A_unit c put) K_unit.1 K_unit.2 ((c, put)) := by kernel_rfl

theorem vc_units (l : List (List Int)) (put : List Int) : (Exists fun (x : List Int) =>
 SzH x ∧
 ((Is (ints put) (ints x) ∧ True) ∧ True) ∧
 ∀ (y : Unit),
 True →
 (Exists fun (x_1 : Nat × List Int) =>
 (Pl.unitsI l put = Pl.unitsF Pl.scanI l x_1.fst x_1.snd ∧ Pl.uncov x_1.snd < x_1.fst ∧ x_1.snd.length + x_1.fst = put.length + (61 : Nat)) ∧
 (Is (intss l) (intss l) ∧ Is (ints put) (ints put) ∧ ((0 : Nat) = (0 : Nat) ∧ x.length = x_1.snd.length) ∧ True) ∧ IsO (arI x) (arI x_1.snd) ∧ True) ∧
 ∀ (x : Nat × List Int),
 Pl.unitsI l put = Pl.unitsF Pl.scanI l x.fst x.snd ∧ Pl.uncov x.snd < x.fst ∧ x.snd.length + x.fst = put.length + (61 : Nat) →
 (Exists fun (x_1 : Nat) =>
 (x_1 ≤ l.length ∧ Pl.scanI x.snd l = Pl.scanI x.snd (List.drop x_1 l)) ∧
 (Is (intss l) (intss l) ∧
 Is (ints put) (ints put) ∧
 ((0 : Nat) = (0 : Nat) ∧ x.snd.length = x.snd.length) ∧
 (0 : Int) = (0 : Int) ∧ Is (intss l) (intss l) ∧ (↑l.length : Int) = (↑l.length : Int) ∧ (0 : Int) = (↑x_1 : Int) ∧ True) ∧
 IsO (arI x.snd) (arI x.snd) ∧ True) ∧
 ∀ (x_1 : Nat),
 x_1 ≤ l.length ∧ Pl.scanI x.snd l = Pl.scanI x.snd (List.drop x_1 l) →
 condP (Decidable.decide ((↑x_1 : Int) < (↑l.length : Int)))
 (((0 : Int) ≤ (↑x_1 : Int) ∧ (↑x_1 : Int) < (↑l.length : Int)) ∧
 x_1 < l.length ∧
 (0 : Nat) + x.snd.length ≤ x.snd.length ∧
 Exists fun (x_2 : List Int × List Int) =>
 (Is (ints (l.getD x_1 [])) (ints x_2.fst) ∧ Is (ints x.snd) (ints x_2.snd) ∧ True) ∧
 (Sz x_2.fst ∧ Sz x_2.snd) ∧
 condP (Pl.unit x_2.fst x_2.snd).snd
 ((0 : Nat) + x.snd.length ≤ x.snd.length ∧ Is (ints x.snd) (ints (Pl.unitsI l put).fst) ∧ Bool.true = (Pl.unitsI l put).snd ∧ True)
 (condP ((Pl.unit x_2.fst x_2.snd).fst != (0 : Int))
 (condP ((Pl.unit x_2.fst x_2.snd).fst == (0 : Int))
 ((0 : Nat) + x.snd.length ≤ x.snd.length ∧ Is (ints x.snd) (ints (Pl.unitsI l put).fst) ∧ Bool.false = (Pl.unitsI l put).snd ∧ True)
 ((0 : Nat) + x.snd.length ≤ x.snd.length ∧
 (x.snd.length + (1 : Nat)) * (8 : Nat) ≤ (70368744177664 : Nat) ∧
 Exists fun (x' : Nat × List Int) =>
 (Pl.unitsI l put = Pl.unitsF Pl.scanI l x'.fst x'.snd ∧ Pl.uncov x'.snd < x'.fst ∧ x'.snd.length + x'.fst = put.length + (61 : Nat)) ∧
 x'.fst < x.fst ∧
 (Is (intss l) (intss l) ∧ Is (ints put) (ints put) ∧ ((0 : Nat) = (0 : Nat) ∧ x.snd.length + (1 : Nat) = x'.snd.length) ∧ True) ∧
 IsO
 (AObj.arr (x.snd.length + (1 : Nat)) (1 : Nat)
 (joinC x.snd.length (cI x.snd) (rowsCell [[i64 (Pl.unit x_2.fst x_2.snd).fst]])))
 (arI x'.snd) ∧
 True))
 (Exists fun (x' : Nat) =>
 (x' ≤ l.length ∧ Pl.scanI x.snd l = Pl.scanI x.snd (List.drop x' l)) ∧
 l.length - x' < l.length - x_1 ∧
 (Is (intss l) (intss l) ∧
 Is (ints put) (ints put) ∧
 ((0 : Nat) = (0 : Nat) ∧ x.snd.length = x.snd.length) ∧
 (0 : Int) = (0 : Int) ∧
 Is (intss l) (intss l) ∧ (↑l.length : Int) = (↑l.length : Int) ∧ IntKind.i64.wrap ((↑x_1 : Int) + (1 : Int)) = (↑x' : Int) ∧ True) ∧
 IsO (arI x.snd) (arI x.snd) ∧ True)))
 ((0 : Nat) + x.snd.length ≤ x.snd.length ∧ Is (ints x.snd) (ints (Pl.unitsI l put).fst) ∧ Bool.false = (Pl.unitsI l put).snd ∧ True)) = Goal Try.prog [K_Clone, K_unit] (A_units l put) K_units.1 K_units.2 ((l, put)) := by kernel_rfl

theorem vc_negated (l : List Int) : ((Exists fun (x : Nat × List Int) =>
 (x.fst ≤ l.length ∧ x.snd.length = x.fst ∧ Pl.nots l = x.snd ++ Pl.nots (List.drop x.fst l)) ∧
 (Is (ints l) (ints l) ∧
 ((0 : Nat) = (0 : Nat) ∧ (0 : Nat) = (0 : Nat) ∧ x.snd.length = (0 : Nat)) ∧ Is (ints l) (ints l) ∧ (↑l.length : Int) = (↑l.length : Int) ∧ (0 : Int) = (↑x.fst : Int) ∧ True) ∧
 x.snd.length = (0 : Nat) ∧ True) ∧
 ∀ (x : Nat × List Int),
 x.fst ≤ l.length ∧ x.snd.length = x.fst ∧ Pl.nots l = x.snd ++ Pl.nots (List.drop x.fst l) →
 condP (Decidable.decide ((↑x.fst : Int) < (↑l.length : Int)))
 (((0 : Int) ≤ (↑x.fst : Int) ∧ (↑x.fst : Int) < (↑l.length : Int)) ∧
 x.fst < l.length ∧
 (0 : Nat) + x.snd.length ≤ x.snd.length ∧
 (x.snd.length + (1 : Nat)) * (8 : Nat) ≤ (70368744177664 : Nat) ∧
 Exists fun (x' : Nat × List Int) =>
 (x'.fst ≤ l.length ∧ x'.snd.length = x'.fst ∧ Pl.nots l = x'.snd ++ Pl.nots (List.drop x'.fst l)) ∧
 l.length - x'.fst < l.length - x.fst ∧
 (Is (ints l) (ints l) ∧
 ((0 : Nat) = (0 : Nat) ∧ x.snd.length + (1 : Nat) = x'.snd.length) ∧
 Is (ints l) (ints l) ∧ (↑l.length : Int) = (↑l.length : Int) ∧ IntKind.i64.wrap ((↑x.fst : Int) + (1 : Int)) = (↑x'.fst : Int) ∧ True) ∧
 IsO
 (AObj.arr (x.snd.length + (1 : Nat)) (1 : Nat) (joinC x.snd.length (cI x.snd) (rowsCell [[i64 (IntKind.i64.wrap ((0 : Int) - l.getD x.fst (0 : Int)))]])))
 (arI x'.snd) ∧
 True)
 ((0 : Nat) + x.snd.length ≤ x.snd.length ∧ Is (ints x.snd) (ints (Pl.nots l)))) = Goal Try.prog [] (A_negated l) K_negated.1 K_negated.2 (l) := by kernel_rfl

theorem vc_iCnfRup (c : Pl.Cnf) (cl : List Int) : (Exists fun (x : Pl.Cnf) =>
 ((c.fst = x.fst ∧ Is (intss c.snd) (intss x.snd) ∧ True) ∧ True) ∧
 SzC x ∧
 condP (!Pl.cnfOk x) (Bool.false = Pl.rup c cl)
 (Exists fun (x : List Int × Int) =>
 (Is (ints cl) (ints x.fst) ∧ c.fst = x.snd ∧ True) ∧
 Sz x.fst ∧
 condP (!Pl.implClause x.fst x.snd) (Bool.false = Pl.rup c cl)
 (Exists fun (x : List Int) =>
 (Is (ints cl) (ints x) ∧ True) ∧
 SzH x ∧
 Exists fun (x_1 : List (List Int) × List Int) =>
 (Is (intss c.snd) (intss x_1.fst) ∧ Is (ints (Pl.nots x)) (ints x_1.snd) ∧ True) ∧
 ((Exists fun (m : Int) => Pl.cnfOk (m, x_1.fst) = Bool.true) ∧ SzL x_1.fst ∧ SzH x_1.snd) ∧ (Pl.unitsI x_1.fst x_1.snd).snd = Pl.rup c cl))) = Goal Try.prog [K_iCnfOk, K_iClauseOk, K_negated, K_units] ([]) K_iCnfRup.1 K_iCnfRup.2 ((c, cl)) := by kernel_rfl

theorem vc_GrowII (n : Int) : (condP (Decidable.decide (n < (0 : Int))) False
 (condP (Decidable.decide (IntKind.i64.wrap (n - IntKind.i64.wrap ((↑(0 : Nat) : Int) - (↑(0 : Nat) : Int))) > (0 : Int)))
 ((↑(0 : Nat) : Int) = (0 : Int) ∧
 (0 : Int) < IntKind.i64.wrap (n - IntKind.i64.wrap ((↑(0 : Nat) : Int) - (↑(0 : Nat) : Int))) ∧
 IntKind.i64.wrap (n - IntKind.i64.wrap ((↑(0 : Nat) : Int) - (↑(0 : Nat) : Int))) * (↑(24 : Nat) : Int) ≤ (70368744177664 : Int) ∧
 ((0 : Int) ≤ (↑(0 : Nat) : Int) ∧ (↑(0 : Nat) : Int) ≤ (↑(IntKind.i64.wrap (n - IntKind.i64.wrap ((↑(0 : Nat) : Int) - (↑(0 : Nat) : Int)))).toNat : Int)) ∧
 Exists fun (y : Unit) =>
 True ∧
 (((0 : Nat) = (0 : Nat) ∧ (0 : Nat) = (0 : Nat)) ∧ True) ∧
 IsO
 (AObj.arr (IntKind.i64.wrap (n - IntKind.i64.wrap ((↑(0 : Nat) : Int) - (↑(0 : Nat) : Int)))).toNat (1 : Nat) fun (x j : Nat) =>
 [AV.lit (0 : Nat) (1 : Nat) fun (x x_1 : Nat) => AV.any].getD j AV.any)
 (arII []) ∧
 True)
 (Exists fun (y : Unit) => True ∧ (((0 : Nat) = (0 : Nat) ∧ (0 : Nat) = (0 : Nat) ∧ (0 : Nat) = (0 : Nat)) ∧ True) ∧ (0 : Nat) = (0 : Nat) ∧ True))) = Goal Try.prog [] ([]) K_GrowII.1 K_GrowII.2 (n) := by kernel_rfl

theorem vc_ConcatII (ls : List (List (List Int))) : ((Exists fun (x : Nat) =>
 x ≤ ls.length ∧
 (Is (intsss ls) (intsss ls) ∧ (0 : Int) = Pl.sumLen (List.take x ls) ∧ Is (intsss ls) (intsss ls) ∧ (↑ls.length : Int) = (↑ls.length : Int) ∧ (0 : Int) = (↑x : Int) ∧ True) ∧
 True) ∧
 ∀ (x : Nat),
 x ≤ ls.length →
 condP (Decidable.decide ((↑x : Int) < (↑ls.length : Int)))
 (((0 : Int) ≤ (↑x : Int) ∧ (↑x : Int) < (↑ls.length : Int)) ∧
 x < ls.length ∧
 condP (Decidable.decide (IntKind.i64.wrap (Pl.sumLen (List.take x ls) + (↑(ls.getD x []).length : Int)) < (0 : Int))) False
 (Exists fun (x' : Nat) =>
 x' ≤ ls.length ∧
 ls.length - x' < ls.length - x ∧
 (Is (intsss ls) (intsss ls) ∧
 IntKind.i64.wrap (Pl.sumLen (List.take x ls) + (↑(ls.getD x []).length : Int)) = Pl.sumLen (List.take x' ls) ∧
 Is (intsss ls) (intsss ls) ∧ (↑ls.length : Int) = (↑ls.length : Int) ∧ IntKind.i64.wrap ((↑x : Int) + (1 : Int)) = (↑x' : Int) ∧ True) ∧
 True))
 (Exists fun (x_1 : Int) =>
 ((0 : Int) ≤ x_1 ∧ x_1 ≤ (4294967296 : Int)) ∧
 ((Is (AV.lit (0 : Nat) (1 : Nat) fun (x x_2 : Nat) => AV.any) nilA ∧ Pl.sumLen (List.take x ls) = x_1 ∧ True) ∧ True) ∧
 ∀ (y : Unit),
 True →
 (Exists fun (x : Nat × List (List Int)) =>
 (x.fst ≤ ls.length ∧ Eqq x.snd (List.take x.fst ls).flatten) ∧
 (Is (intsss ls) (intsss ls) ∧
 ((0 : Nat) = (0 : Nat) ∧ (0 : Nat) = x.snd.length) ∧ Is (intsss ls) (intsss ls) ∧ (↑ls.length : Int) = (↑ls.length : Int) ∧ (0 : Int) = (↑x.fst : Int) ∧ True) ∧
 IsO (AObj.arr ((0 : Nat)) (1 : Nat) fun (i j : Nat) => AV.sl ((0 : Nat)) (1 : Nat) fun (i j : Nat) => i64 (Int.ofNat ((0 : Nat)))) (arII x.snd) ∧ True) ∧
 ∀ (x : Nat × List (List Int)),
 x.fst ≤ ls.length ∧ Eqq x.snd (List.take x.fst ls).flatten →
 condP (Decidable.decide ((↑x.fst : Int) < (↑ls.length : Int)))
 (((0 : Int) ≤ (↑x.fst : Int) ∧ (↑x.fst : Int) < (↑ls.length : Int)) ∧
 x.fst < ls.length ∧
 (0 : Nat) + x.snd.length ≤ x.snd.length ∧
 (x.snd.length + (ls.getD x.fst []).length) * (24 : Nat) ≤ (70368744177664 : Nat) ∧
 Exists fun (x' : Nat × List (List Int)) =>
 (x'.fst ≤ ls.length ∧ Eqq x'.snd (List.take x'.fst ls).flatten) ∧
 ls.length - x'.fst < ls.length - x.fst ∧
 (Is (intsss ls) (intsss ls) ∧
 ((0 : Nat) = (0 : Nat) ∧ x.snd.length + (ls.getD x.fst []).length = x'.snd.length) ∧
 Is (intsss ls) (intsss ls) ∧
 (↑ls.length : Int) = (↑ls.length : Int) ∧ IntKind.i64.wrap ((↑x.fst : Int) + (1 : Int)) = (↑x'.fst : Int) ∧ True) ∧
 IsO (AObj.arr (x.snd.length + (ls.getD x.fst []).length) (1 : Nat) (joinC x.snd.length (cII x.snd) (cII (ls.getD x.fst []))))
 (arII x'.snd) ∧
 True)
 ((0 : Nat) + x.snd.length ≤ x.snd.length ∧ Is (intss x.snd) (intss ls.flatten)))) = Goal Try.prog [K_GrowII] (A_ConcatII ls) K_ConcatII.1 K_ConcatII.2 (ls) := by kernel_rfl

theorem vc_sLogOk (c : Pl.Cnf) (log : List (List Int)) : (Exists fun (x : Pl.Cnf) =>
 ((c.fst = x.fst ∧ Is (intss c.snd) (intss x.snd) ∧ True) ∧ True) ∧
 SzC x ∧
 condP (!Pl.cnfOk x) (Bool.false = Pl.logOk c log)
 (condP (Decidable.decide ((↑log.length : Int) > (130 : Int))) (Bool.false = Pl.logOk c log)
 (condP (Decidable.decide (IntKind.i64.wrap ((↑c.snd.length : Int) + (↑log.length : Int)) > (400 : Int))) (Bool.false = Pl.logOk c log)
 ((((0 : Nat) = (0 : Nat) ∨ (0 : Nat) < c.snd.length) ∧
 ((0 : Nat) + c.snd.length) * (24 : Nat) ≤ (70368744177664 : Nat) ∧
 (Exists fun (x : Nat × List (List Int)) =>
 (x.fst ≤ log.length ∧ Eqq x.snd (c.snd ++ List.take x.fst log) ∧ Pl.logOk c log = Pl.logAll c log x.fst) ∧
 (Is (intss log) (intss log) ∧ (0 : Nat) = (0 : Nat) ∧ (0 : Int) = (↑x.fst : Int) ∧ True) ∧
 (c.fst = c.fst ∧ ((0 : Nat) = (0 : Nat) ∧ (0 : Nat) + c.snd.length = x.snd.length) ∧ True) ∧
 IsO (AObj.arr ((0 : Nat) + c.snd.length) (1 : Nat) (joinC (0 : Nat) (rowsCell []) (cII c.snd))) (arII x.snd) ∧ True) ∧
 ∀ (x : Nat × List (List Int)),
 x.fst ≤ log.length ∧ Eqq x.snd (c.snd ++ List.take x.fst log) ∧ Pl.logOk c log = Pl.logAll c log x.fst →
 condP (Decidable.decide ((↑x.fst : Int) < (↑log.length : Int)))
 (((0 : Int) ≤ (↑x.fst : Int) ∧ (↑x.fst : Int) < (↑log.length : Int)) ∧
 x.fst < log.length ∧
 (0 : Nat) + x.snd.length ≤ x.snd.length ∧
 Exists fun (x_1 : Pl.Cnf × List Int) =>
 ((c.fst = x_1.fst.fst ∧ Is (intss x.snd) (intss x_1.fst.snd) ∧ True) ∧ Is (ints (log.getD x.fst [])) (ints x_1.snd) ∧ True) ∧
 (SzC x_1.fst ∧ SzH x_1.snd) ∧
 condP (!Pl.rup x_1.fst x_1.snd) (Bool.false = Pl.logOk c log)
 (((0 : Int) ≤ (↑x.fst : Int) ∧ (↑x.fst : Int) < (↑log.length : Int)) ∧
 x.fst < log.length ∧
 (0 : Nat) + x.snd.length ≤ x.snd.length ∧
 (x.snd.length + (1 : Nat)) * (24 : Nat) ≤ (70368744177664 : Nat) ∧
 Exists fun (x' : Nat × List (List Int)) =>
 (x'.fst ≤ log.length ∧ Eqq x'.snd (c.snd ++ List.take x'.fst log) ∧ Pl.logOk c log = Pl.logAll c log x'.fst) ∧
 log.length - x'.fst < log.length - x.fst ∧
 (Is (intss log) (intss log) ∧ (0 : Nat) = (0 : Nat) ∧ IntKind.i64.wrap ((↑x.fst : Int) + (1 : Int)) = (↑x'.fst : Int) ∧ True) ∧
 (c.fst = c.fst ∧ ((0 : Nat) = (0 : Nat) ∧ x.snd.length + (1 : Nat) = x'.snd.length) ∧ True) ∧
 IsO (AObj.arr (x.snd.length + (1 : Nat)) (1 : Nat) (joinC x.snd.length (cII x.snd) (rowsCell [[ints (log.getD x.fst [])]])))
 (arII x'.snd) ∧
 True))
 (Bool.true = Pl.logOk c log)) ∧
 ((0 : Nat) = (0 : Nat) ∨ (0 : Nat) < c.snd.length) ∧
 ((0 : Nat) + c.snd.length) * (24 : Nat) ≤ (70368744177664 : Nat) ∧
 (Exists fun (x : Nat × List (List Int)) =>
 (x.fst ≤ log.length ∧ Eqq x.snd (c.snd ++ List.take x.fst log) ∧ Pl.logOk c log = Pl.logAll c log x.fst) ∧
 (Is (intss log) (intss log) ∧ (0 : Nat) = (0 : Nat) ∧ (0 : Int) = (↑x.fst : Int) ∧ True) ∧
 (c.fst = c.fst ∧ ((0 : Nat) = (0 : Nat) ∧ (0 : Nat) + c.snd.length = x.snd.length) ∧ True) ∧
 IsO (AObj.arr ((0 : Nat) + c.snd.length) (1 : Nat) (joinC (0 : Nat) (rowsCell []) (cII c.snd))) (arII x.snd) ∧ True) ∧
 ∀ (x : Nat × List (List Int)),
 x.fst ≤ log.length ∧ Eqq x.snd (c.snd ++ List.take x.fst log) ∧ Pl.logOk c log = Pl.logAll c log x.fst →
 condP (Decidable.decide ((↑x.fst : Int) < (↑log.length : Int)))
 (((0 : Int) ≤ (↑x.fst : Int) ∧ (↑x.fst : Int) < (↑log.length : Int)) ∧
 x.fst < log.length ∧
 (0 : Nat) + x.snd.length ≤ x.snd.length ∧
 Exists fun (x_1 : Pl.Cnf × List Int) =>
 ((c.fst = x_1.fst.fst ∧ Is (intss x.snd) (intss x_1.fst.snd) ∧ True) ∧ Is (ints (log.getD x.fst [])) (ints x_1.snd) ∧ True) ∧
 (SzC x_1.fst ∧ SzH x_1.snd) ∧
 condP (!Pl.rup x_1.fst x_1.snd) (Bool.false = Pl.logOk c log)
 (((0 : Int) ≤ (↑x.fst : Int) ∧ (↑x.fst : Int) < (↑log.length : Int)) ∧
 x.fst < log.length ∧
 (0 : Nat) + x.snd.length ≤ x.snd.length ∧
 (x.snd.length + (1 : Nat)) * (24 : Nat) ≤ (70368744177664 : Nat) ∧
 Exists fun (x' : Nat × List (List Int)) =>
 (x'.fst ≤ log.length ∧ Eqq x'.snd (c.snd ++ List.take x'.fst log) ∧ Pl.logOk c log = Pl.logAll c log x'.fst) ∧
 log.length - x'.fst < log.length - x.fst ∧
 (Is (intss log) (intss log) ∧ (0 : Nat) = (0 : Nat) ∧ IntKind.i64.wrap ((↑x.fst : Int) + (1 : Int)) = (↑x'.fst : Int) ∧ True) ∧
 (c.fst = c.fst ∧ ((0 : Nat) = (0 : Nat) ∧ x.snd.length + (1 : Nat) = x'.snd.length) ∧ True) ∧
 IsO (AObj.arr (x.snd.length + (1 : Nat)) (1 : Nat) (joinC x.snd.length (cII x.snd) (rowsCell [[ints (log.getD x.fst [])]])))
 (arII x'.snd) ∧
 True))
 (Bool.true = Pl.logOk c log))))) = Goal Try.prog [K_sCnfOk, K_sCnfRup] (A_sLogOk c log) K_sLogOk.1 K_sLogOk.2 ((c, log)) := by kernel_rfl

theorem vc_iLogOk (c : Pl.Cnf) (log : List (List Int)) : (Exists fun (x : Pl.Cnf) =>
 ((c.fst = x.fst ∧ Is (intss c.snd) (intss x.snd) ∧ True) ∧ True) ∧
 SzC x ∧
 condP (!Pl.cnfOk x) (Bool.false = Pl.logOk c log)
 (condP (Decidable.decide ((↑log.length : Int) > (130 : Int))) (Bool.false = Pl.logOk c log)
 (condP (Decidable.decide (IntKind.i64.wrap ((↑log.length : Int) + (↑c.snd.length : Int)) > (400 : Int))) (Bool.false = Pl.logOk c log)
 (Exists fun (x : List (List (List Int))) =>
 (Is (AV.lit (2 : Nat) (1 : Nat) (rowsCell [[intss c.snd], [intss log]])) (intsss x) ∧ True) ∧
 (x.length ≤ (4 : Nat) ∧ ∀ (y : List (List Int)), y ∈ x → y.length ≤ (1073741824 : Nat)) ∧
 (Exists fun (x_1 : Nat) =>
 (x_1 ≤ log.length ∧ Pl.logOk c log = Pl.logAll c log x_1) ∧
 (Is (intss log) (intss log) ∧
 (0 : Nat) = (0 : Nat) ∧ (0 : Nat) = (0 : Nat) ∧ Is (intss log) (intss log) ∧ (↑log.length : Int) = (↑log.length : Int) ∧ (0 : Int) = (↑x_1 : Int) ∧ True) ∧
 (c.fst = c.fst ∧ Is (intss c.snd) (intss c.snd) ∧ True) ∧ (c.fst = c.fst ∧ Is (intss x.flatten) (intss (c.snd ++ log)) ∧ True) ∧ True) ∧
 ∀ (x : Nat),
 x ≤ log.length ∧ Pl.logOk c log = Pl.logAll c log x →
 condP (Decidable.decide ((↑x : Int) < (↑log.length : Int)))
 (((0 : Int) ≤ (↑x : Int) ∧ (↑x : Int) < (↑log.length : Int)) ∧
 x < log.length ∧
 ((0 : Int) ≤ IntKind.i64.wrap ((↑c.snd.length : Int) + (↑x : Int)) ∧ IntKind.i64.wrap ((↑c.snd.length : Int) + (↑x : Int)) ≤ (↑(c.snd ++ log).length : Int)) ∧
 Exists fun (x_1 : Pl.Cnf × List Int) =>
 ((c.fst = x_1.fst.fst ∧
 Is (AV.sl (IntKind.i64.wrap ((↑c.snd.length : Int) + (↑x : Int))).toNat (1 : Nat) (cII (c.snd ++ log))) (intss x_1.fst.snd) ∧ True) ∧
 Is (ints (log.getD x [])) (ints x_1.snd) ∧ True) ∧
 (SzC x_1.fst ∧ SzH x_1.snd) ∧
 condP (!Pl.rup x_1.fst x_1.snd) (Bool.false = Pl.logOk c log)
 (Exists fun (x' : Nat) =>
 (x' ≤ log.length ∧ Pl.logOk c log = Pl.logAll c log x') ∧
 log.length - x' < log.length - x ∧
 (Is (intss log) (intss log) ∧
 (0 : Nat) = (0 : Nat) ∧
 (0 : Nat) = (0 : Nat) ∧
 Is (intss log) (intss log) ∧
 (↑log.length : Int) = (↑log.length : Int) ∧ IntKind.i64.wrap ((↑x : Int) + (1 : Int)) = (↑x' : Int) ∧ True) ∧
 (c.fst = c.fst ∧ Is (intss c.snd) (intss c.snd) ∧ True) ∧
 (c.fst = c.fst ∧ Is (intss (c.snd ++ log)) (intss (c.snd ++ log)) ∧ True) ∧ True))
 (Bool.true = Pl.logOk c log))))) = Goal Try.prog [K_iCnfOk, K_iCnfRup, K_ConcatII] (A_iLogOk c log) K_iLogOk.1 K_iLogOk.2 ((c, log)) := by kernel_rfl

end Cg
