/-
  What is left to show of each function's code, printed by a program: Lit. No condition.
-/
import Derived.Test.YtjhiaobcbbnhnaaGreatLitDefs
import Derived.Test.YtjhiaobcbbnhnaaGreatProg
set_option maxRecDepth 100000
set_option linter.unusedVariables false
namespace Cg
open Go Go.Proofs
theorem vc_szLitS (x : List Pl.Ltr × Int) : (condP (Decidable.decide (IntKind.i64.wrap (x.snd - (↑x.fst.length : Int)) < (0 : Int))) ((-1 : Int) = Pl.lim (x.snd - (↑(Pl.costLs x.fst) : Int)))
 ((Exists fun (x_1 : Nat) =>
 (x_1 ≤ x.fst.length ∧ (0 : Int) ≤ x.snd - (↑x.fst.length : Int) - (↑(Pl.sumN Pl.costL (List.take x_1 x.fst)) : Int)) ∧
 (Is (litrs x.fst) (litrs x.fst) ∧
 IntKind.i64.wrap (x.snd - (↑x.fst.length : Int)) = x.snd - (↑x.fst.length : Int) - (↑(Pl.sumN Pl.costL (List.take x_1 x.fst)) : Int) ∧ (0 : Int) = (↑x_1 : Int) ∧ True) ∧
 True) ∧
 ∀ (x_1 : Nat),
 x_1 ≤ x.fst.length ∧ (0 : Int) ≤ x.snd - (↑x.fst.length : Int) - (↑(Pl.sumN Pl.costL (List.take x_1 x.fst)) : Int) →
 condP (Decidable.decide ((↑x_1 : Int) < (↑x.fst.length : Int)))
 (((0 : Int) ≤ (↑x_1 : Int) ∧ (↑x_1 : Int) < (↑x.fst.length : Int)) ∧
 x_1 < x.fst.length ∧
 Exists fun (x_2 : Pl.Ltr × Int) =>
 (((x.fst.getD x_1 Pl.dL).fst.fst = x_2.fst.fst.fst ∧
 (x.fst.getD x_1 Pl.dL).fst.snd.fst.fst = x_2.fst.fst.snd.fst.fst ∧
 Is (terms (x.fst.getD x_1 Pl.dL).fst.snd.fst.snd) (terms x_2.fst.fst.snd.fst.snd) ∧
 (x.fst.getD x_1 Pl.dL).fst.snd.snd.fst.fst = x_2.fst.fst.snd.snd.fst.fst ∧
 Is (terms (x.fst.getD x_1 Pl.dL).fst.snd.snd.fst.snd) (terms x_2.fst.fst.snd.snd.fst.snd) ∧
 Is (terms (x.fst.getD x_1 Pl.dL).fst.snd.snd.snd.fst) (terms x_2.fst.fst.snd.snd.snd.fst) ∧
 Is (ints (x.fst.getD x_1 Pl.dL).fst.snd.snd.snd.snd.fst) (ints x_2.fst.fst.snd.snd.snd.snd.fst) ∧
 (x.fst.getD x_1 Pl.dL).fst.snd.snd.snd.snd.snd.fst = x_2.fst.fst.snd.snd.snd.snd.snd.fst ∧
 (x.fst.getD x_1 Pl.dL).fst.snd.snd.snd.snd.snd.snd = x_2.fst.fst.snd.snd.snd.snd.snd.snd ∧ (x.fst.getD x_1 Pl.dL).snd = x_2.fst.snd ∧ True) ∧
 x.snd - (↑x.fst.length : Int) - (↑(Pl.sumN Pl.costL (List.take x_1 x.fst)) : Int) = x_2.snd ∧ True) ∧
 (MlA x_2.fst.fst ∧ Fu x_2.snd) ∧
 condP (Decidable.decide (Pl.lim (x_2.snd - (↑(Pl.costL x_2.fst) : Int)) < (0 : Int))) ((-1 : Int) = Pl.lim (x.snd - (↑(Pl.costLs x.fst) : Int)))
 (Exists fun (x' : Nat) =>
 (x' ≤ x.fst.length ∧ (0 : Int) ≤ x.snd - (↑x.fst.length : Int) - (↑(Pl.sumN Pl.costL (List.take x' x.fst)) : Int)) ∧
 x.fst.length - x' < x.fst.length - x_1 ∧
 (Is (litrs x.fst) (litrs x.fst) ∧
 Pl.lim (x_2.snd - (↑(Pl.costL x_2.fst) : Int)) = x.snd - (↑x.fst.length : Int) - (↑(Pl.sumN Pl.costL (List.take x' x.fst)) : Int) ∧
 IntKind.i64.wrap ((↑x_1 : Int) + (1 : Int)) = (↑x' : Int) ∧ True) ∧
 True))
 (x.snd - (↑x.fst.length : Int) - (↑(Pl.sumN Pl.costL (List.take x_1 x.fst)) : Int) = Pl.lim (x.snd - (↑(Pl.costLs x.fst) : Int))))) = Goal Tryz.prog [K_szLit] (A_szLitS x.1 x.2) K_szLitS.1 K_szLitS.2 (x) := by kernel_rfl

theorem vc_toLitS (x : List Pl.Ltr) : ((0 : Int) ≤ (↑x.length : Int) ∧
 (↑x.length : Int) ≤ (↑x.length : Int) ∧
 (↑(160 : Nat) : Int) * (↑x.length : Int) ≤ (140737488355328 : Int) ∧
 (↑x.length : Int) ≤ (140737488355328 : Int) ∧
 (Exists fun (x_1 : Nat × List Pl.Ltr) =>
 (x_1.fst ≤ x.length ∧ x_1.snd.length = x.length ∧ List.take x_1.fst x_1.snd = List.take x_1.fst x) ∧
 (Is (litrs x) (litrs x) ∧ ((0 : Nat) = (0 : Nat) ∧ x.length = x_1.snd.length) ∧ (0 : Int) = (↑x_1.fst : Int) ∧ True) ∧
 IsO
 (AObj.arr x.length (10 : Nat) fun (x j : Nat) =>
 [i64 (0 : Int), st (ByteArray.mk #[]), AV.lit (0 : Nat) (1 : Nat) fun (x x_2 : Nat) => AV.any, st (ByteArray.mk #[]),
 AV.lit (0 : Nat) (1 : Nat) fun (x x_2 : Nat) => AV.any, AV.lit (0 : Nat) (1 : Nat) fun (x x_2 : Nat) => AV.any,
 AV.lit (0 : Nat) (1 : Nat) fun (x x_2 : Nat) => AV.any, i64 (0 : Int), bl Bool.false, bl Bool.false].getD
 j AV.any)
 (arL x_1.snd) ∧
 True) ∧
 ∀ (x_1 : Nat × List Pl.Ltr),
 x_1.fst ≤ x.length ∧ x_1.snd.length = x.length ∧ List.take x_1.fst x_1.snd = List.take x_1.fst x →
 condP (Decidable.decide ((↑x_1.fst : Int) < (↑x.length : Int)))
 (((0 : Int) ≤ (↑x_1.fst : Int) ∧ (↑x_1.fst : Int) < (↑x.length : Int)) ∧
 x_1.fst < x.length ∧
 Exists fun (x_2 : Pl.Ltr) =>
 (((x.getD x_1.fst Pl.dL).fst.fst = x_2.fst.fst ∧
 (x.getD x_1.fst Pl.dL).fst.snd.fst.fst = x_2.fst.snd.fst.fst ∧
 Is (terms (x.getD x_1.fst Pl.dL).fst.snd.fst.snd) (terms x_2.fst.snd.fst.snd) ∧
 (x.getD x_1.fst Pl.dL).fst.snd.snd.fst.fst = x_2.fst.snd.snd.fst.fst ∧
 Is (terms (x.getD x_1.fst Pl.dL).fst.snd.snd.fst.snd) (terms x_2.fst.snd.snd.fst.snd) ∧
 Is (terms (x.getD x_1.fst Pl.dL).fst.snd.snd.snd.fst) (terms x_2.fst.snd.snd.snd.fst) ∧
 Is (ints (x.getD x_1.fst Pl.dL).fst.snd.snd.snd.snd.fst) (ints x_2.fst.snd.snd.snd.snd.fst) ∧
 (x.getD x_1.fst Pl.dL).fst.snd.snd.snd.snd.snd.fst = x_2.fst.snd.snd.snd.snd.snd.fst ∧
 (x.getD x_1.fst Pl.dL).fst.snd.snd.snd.snd.snd.snd = x_2.fst.snd.snd.snd.snd.snd.snd ∧ (x.getD x_1.fst Pl.dL).snd = x_2.snd ∧ True) ∧
 True) ∧
 SmA x_2.fst ∧
 ((0 : Int) ≤ (↑x_1.fst : Int) ∧ (↑x_1.fst : Int) < (↑x_1.snd.length : Int)) ∧
 x_1.fst < x_1.snd.length ∧
 Exists fun (x' : Nat × List Pl.Ltr) =>
 (x'.fst ≤ x.length ∧ x'.snd.length = x.length ∧ List.take x'.fst x'.snd = List.take x'.fst x) ∧
 x.length - x'.fst < x.length - x_1.fst ∧
 (Is (litrs x) (litrs x) ∧
 ((0 : Nat) = (0 : Nat) ∧ x_1.snd.length = x'.snd.length) ∧ IntKind.i64.wrap ((↑x_1.fst : Int) + (1 : Int)) = (↑x'.fst : Int) ∧ True) ∧
 IsO
 (AObj.arr x_1.snd.length (10 : Nat)
 (storeC (cL x_1.snd) x_1.fst (0 : Nat)
 [i64 x_2.fst.fst, st x_2.fst.snd.fst.fst, terms x_2.fst.snd.fst.snd, st x_2.fst.snd.snd.fst.fst, terms x_2.fst.snd.snd.fst.snd,
 terms x_2.fst.snd.snd.snd.fst, ints x_2.fst.snd.snd.snd.snd.fst, i64 x_2.fst.snd.snd.snd.snd.snd.fst, bl x_2.fst.snd.snd.snd.snd.snd.snd,
 bl x_2.snd]))
 (arL x'.snd) ∧
 True)
 ((0 : Nat) + x_1.snd.length ≤ x_1.snd.length ∧ Is (litrs x_1.snd) (litrs x))) = Goal Tryz.prog [K_toLit] (A_toLitS x) K_toLitS.1 K_toLitS.2 (x) := by kernel_rfl

theorem vc_eqLitS (x : List Pl.Ltr × List Pl.Ltr) : (condP ((↑x.fst.length : Int) != (↑x.snd.length : Int)) (Bool.false = Decidable.decide (x.fst = x.snd))
 ((Exists fun (x_1 : Nat) =>
 (x_1 ≤ x.fst.length ∧ x.fst.length = x.snd.length ∧ (x.fst = x.snd ↔ List.drop x_1 x.fst = List.drop x_1 x.snd)) ∧
 (Is (litrs x.fst) (litrs x.fst) ∧ Is (litrs x.snd) (litrs x.snd) ∧ (0 : Int) = (↑x_1 : Int) ∧ True) ∧ True) ∧
 ∀ (x_1 : Nat),
 x_1 ≤ x.fst.length ∧ x.fst.length = x.snd.length ∧ (x.fst = x.snd ↔ List.drop x_1 x.fst = List.drop x_1 x.snd) →
 condP (Decidable.decide ((↑x_1 : Int) < (↑x.fst.length : Int)))
 (((0 : Int) ≤ (↑x_1 : Int) ∧ (↑x_1 : Int) < (↑x.fst.length : Int)) ∧
 x_1 < x.fst.length ∧
 ((0 : Int) ≤ (↑x_1 : Int) ∧ (↑x_1 : Int) < (↑x.snd.length : Int)) ∧
 x_1 < x.snd.length ∧
 Exists fun (x_2 : Pl.Ltr × Pl.Ltr) =>
 (((x.fst.getD x_1 Pl.dL).fst.fst = x_2.fst.fst.fst ∧
 (x.fst.getD x_1 Pl.dL).fst.snd.fst.fst = x_2.fst.fst.snd.fst.fst ∧
 Is (terms (x.fst.getD x_1 Pl.dL).fst.snd.fst.snd) (terms x_2.fst.fst.snd.fst.snd) ∧
 (x.fst.getD x_1 Pl.dL).fst.snd.snd.fst.fst = x_2.fst.fst.snd.snd.fst.fst ∧
 Is (terms (x.fst.getD x_1 Pl.dL).fst.snd.snd.fst.snd) (terms x_2.fst.fst.snd.snd.fst.snd) ∧
 Is (terms (x.fst.getD x_1 Pl.dL).fst.snd.snd.snd.fst) (terms x_2.fst.fst.snd.snd.snd.fst) ∧
 Is (ints (x.fst.getD x_1 Pl.dL).fst.snd.snd.snd.snd.fst) (ints x_2.fst.fst.snd.snd.snd.snd.fst) ∧
 (x.fst.getD x_1 Pl.dL).fst.snd.snd.snd.snd.snd.fst = x_2.fst.fst.snd.snd.snd.snd.snd.fst ∧
 (x.fst.getD x_1 Pl.dL).fst.snd.snd.snd.snd.snd.snd = x_2.fst.fst.snd.snd.snd.snd.snd.snd ∧ (x.fst.getD x_1 Pl.dL).snd = x_2.fst.snd ∧ True) ∧
 ((x.snd.getD x_1 Pl.dL).fst.fst = x_2.snd.fst.fst ∧
 (x.snd.getD x_1 Pl.dL).fst.snd.fst.fst = x_2.snd.fst.snd.fst.fst ∧
 Is (terms (x.snd.getD x_1 Pl.dL).fst.snd.fst.snd) (terms x_2.snd.fst.snd.fst.snd) ∧
 (x.snd.getD x_1 Pl.dL).fst.snd.snd.fst.fst = x_2.snd.fst.snd.snd.fst.fst ∧
 Is (terms (x.snd.getD x_1 Pl.dL).fst.snd.snd.fst.snd) (terms x_2.snd.fst.snd.snd.fst.snd) ∧
 Is (terms (x.snd.getD x_1 Pl.dL).fst.snd.snd.snd.fst) (terms x_2.snd.fst.snd.snd.snd.fst) ∧
 Is (ints (x.snd.getD x_1 Pl.dL).fst.snd.snd.snd.snd.fst) (ints x_2.snd.fst.snd.snd.snd.snd.fst) ∧
 (x.snd.getD x_1 Pl.dL).fst.snd.snd.snd.snd.snd.fst = x_2.snd.fst.snd.snd.snd.snd.snd.fst ∧
 (x.snd.getD x_1 Pl.dL).fst.snd.snd.snd.snd.snd.snd = x_2.snd.fst.snd.snd.snd.snd.snd.snd ∧ (x.snd.getD x_1 Pl.dL).snd = x_2.snd.snd ∧ True) ∧
 True) ∧
 SmA x_2.fst.fst ∧
 condP (!Decidable.decide (x_2.fst = x_2.snd)) (Bool.false = Decidable.decide (x.fst = x.snd))
 (Exists fun (x' : Nat) =>
 (x' ≤ x.fst.length ∧ x.fst.length = x.snd.length ∧ (x.fst = x.snd ↔ List.drop x' x.fst = List.drop x' x.snd)) ∧
 x.fst.length - x' < x.fst.length - x_1 ∧
 (Is (litrs x.fst) (litrs x.fst) ∧ Is (litrs x.snd) (litrs x.snd) ∧ IntKind.i64.wrap ((↑x_1 : Int) + (1 : Int)) = (↑x' : Int) ∧ True) ∧ True))
 (Bool.true = Decidable.decide (x.fst = x.snd)))) = Goal Tryz.prog [K_eqLit] (A_eqLitS x.1 x.2) K_eqLitS.1 K_eqLitS.2 (x) := by kernel_rfl

end Cg
