/-
  What is left to show of each function's code, printed by a program: Mlt. No condition.
-/
import Derived.Test.YtjhiaobcbbnhnaaGreatMltDefs
import Derived.Test.YtjhiaobcbbnhnaaGreatProg
set_option maxRecDepth 100000
set_option linter.unusedVariables false
namespace Cg
open Go Go.Proofs
theorem vc_l1Least (x : Int × Int) : (condP (Decidable.decide (x.fst < (0 : Int)))
 (Exists fun (x_1 : Nat × Nat) =>
 (IntKind.i64.wrap ((0 : Int) - x.fst) = (↑x_1.fst : Int) ∧ x.snd = (↑x_1.snd : Int) ∧ True) ∧
 (x_1.fst ≤ (4611686018427387904 : Nat) ∧ x_1.snd ≤ (4611686018427387904 : Nat)) ∧
 (↑(x_1.fst.gcd x_1.snd) : Int) ≠ (0 : Int) ∧
 (↑(x_1.fst.gcd x_1.snd) : Int) ≠ (0 : Int) ∧
 Exists fun (x_2 : Pl.Rt) =>
 ((IntKind.i64.wrap (x.fst.tdiv (↑(x_1.fst.gcd x_1.snd) : Int)) = x_2.fst ∧ IntKind.i64.wrap (x.snd.tdiv (↑(x_1.fst.gcd x_1.snd) : Int)) = x_2.snd ∧ True) ∧ True) ∧
 True ∧
 condP (!Pl.ratOk x_2)
 (((0 : Int) = (Pl.ratV (Pl.least x.fst x.snd)).fst ∧ (0 : Int) = (Pl.ratV (Pl.least x.fst x.snd)).snd ∧ True) ∧ Bool.false = (Pl.least x.fst x.snd).isSome ∧ True)
 ((IntKind.i64.wrap (x.fst.tdiv (↑(x_1.fst.gcd x_1.snd) : Int)) = (Pl.ratV (Pl.least x.fst x.snd)).fst ∧
 IntKind.i64.wrap (x.snd.tdiv (↑(x_1.fst.gcd x_1.snd) : Int)) = (Pl.ratV (Pl.least x.fst x.snd)).snd ∧ True) ∧
 Bool.true = (Pl.least x.fst x.snd).isSome ∧ True))
 (Exists fun (x_1 : Nat × Nat) =>
 (x.fst = (↑x_1.fst : Int) ∧ x.snd = (↑x_1.snd : Int) ∧ True) ∧
 (x_1.fst ≤ (4611686018427387904 : Nat) ∧ x_1.snd ≤ (4611686018427387904 : Nat)) ∧
 (↑(x_1.fst.gcd x_1.snd) : Int) ≠ (0 : Int) ∧
 (↑(x_1.fst.gcd x_1.snd) : Int) ≠ (0 : Int) ∧
 Exists fun (x_2 : Pl.Rt) =>
 ((IntKind.i64.wrap (x.fst.tdiv (↑(x_1.fst.gcd x_1.snd) : Int)) = x_2.fst ∧ IntKind.i64.wrap (x.snd.tdiv (↑(x_1.fst.gcd x_1.snd) : Int)) = x_2.snd ∧ True) ∧ True) ∧
 True ∧
 condP (!Pl.ratOk x_2)
 (((0 : Int) = (Pl.ratV (Pl.least x.fst x.snd)).fst ∧ (0 : Int) = (Pl.ratV (Pl.least x.fst x.snd)).snd ∧ True) ∧ Bool.false = (Pl.least x.fst x.snd).isSome ∧ True)
 ((IntKind.i64.wrap (x.fst.tdiv (↑(x_1.fst.gcd x_1.snd) : Int)) = (Pl.ratV (Pl.least x.fst x.snd)).fst ∧
 IntKind.i64.wrap (x.snd.tdiv (↑(x_1.fst.gcd x_1.snd) : Int)) = (Pl.ratV (Pl.least x.fst x.snd)).snd ∧ True) ∧
 Bool.true = (Pl.least x.fst x.snd).isSome ∧ True))) = Goal Tryz.prog [K_l1Gcd, K_sRatOk] ([]) K_l1Least.1 K_l1Least.2 (x) := by kernel_rfl

theorem vc_ratOf (x : Int × Int) : (condP (x.snd == (0 : Int)) (((0 : Int) = (Pl.ratV (Pl.least x.fst x.snd)).fst ∧ (0 : Int) = (Pl.ratV (Pl.least x.fst x.snd)).snd ∧ True) ∧ Bool.false = (Pl.least x.fst x.snd).isSome ∧ True)
 (condP (Decidable.decide (x.snd < (0 : Int)))
 (Exists fun (x_1 : Int × Int) =>
 (IntKind.i64.wrap ((0 : Int) - x.fst) = x_1.fst ∧ IntKind.i64.wrap ((0 : Int) - x.snd) = x_1.snd ∧ True) ∧
 (x_1.fst.natAbs ≤ (4611686018427387904 : Nat) ∧ x_1.snd.natAbs ≤ (4611686018427387904 : Nat)) ∧
 (↑(x_1.fst.natAbs.gcd x_1.snd.natAbs) : Int) ≠ (0 : Int) ∧
 (↑(x_1.fst.natAbs.gcd x_1.snd.natAbs) : Int) ≠ (0 : Int) ∧
 Exists fun (x_2 : Pl.Rt) =>
 ((IntKind.i64.wrap ((IntKind.i64.wrap ((0 : Int) - x.fst)).tdiv (↑(x_1.fst.natAbs.gcd x_1.snd.natAbs) : Int)) = x_2.fst ∧
 IntKind.i64.wrap ((IntKind.i64.wrap ((0 : Int) - x.snd)).tdiv (↑(x_1.fst.natAbs.gcd x_1.snd.natAbs) : Int)) = x_2.snd ∧ True) ∧
 True) ∧
 True ∧
 condP (!Pl.ratOk x_2)
 (((0 : Int) = (Pl.ratV (Pl.least x.fst x.snd)).fst ∧ (0 : Int) = (Pl.ratV (Pl.least x.fst x.snd)).snd ∧ True) ∧ Bool.false = (Pl.least x.fst x.snd).isSome ∧ True)
 ((IntKind.i64.wrap ((IntKind.i64.wrap ((0 : Int) - x.fst)).tdiv (↑(x_1.fst.natAbs.gcd x_1.snd.natAbs) : Int)) = (Pl.ratV (Pl.least x.fst x.snd)).fst ∧
 IntKind.i64.wrap ((IntKind.i64.wrap ((0 : Int) - x.snd)).tdiv (↑(x_1.fst.natAbs.gcd x_1.snd.natAbs) : Int)) = (Pl.ratV (Pl.least x.fst x.snd)).snd ∧ True) ∧
 Bool.true = (Pl.least x.fst x.snd).isSome ∧ True))
 (Exists fun (x_1 : Int × Int) =>
 (x.fst = x_1.fst ∧ x.snd = x_1.snd ∧ True) ∧
 (x_1.fst.natAbs ≤ (4611686018427387904 : Nat) ∧ x_1.snd.natAbs ≤ (4611686018427387904 : Nat)) ∧
 (↑(x_1.fst.natAbs.gcd x_1.snd.natAbs) : Int) ≠ (0 : Int) ∧
 (↑(x_1.fst.natAbs.gcd x_1.snd.natAbs) : Int) ≠ (0 : Int) ∧
 Exists fun (x_2 : Pl.Rt) =>
 ((IntKind.i64.wrap (x.fst.tdiv (↑(x_1.fst.natAbs.gcd x_1.snd.natAbs) : Int)) = x_2.fst ∧
 IntKind.i64.wrap (x.snd.tdiv (↑(x_1.fst.natAbs.gcd x_1.snd.natAbs) : Int)) = x_2.snd ∧ True) ∧
 True) ∧
 True ∧
 condP (!Pl.ratOk x_2)
 (((0 : Int) = (Pl.ratV (Pl.least x.fst x.snd)).fst ∧ (0 : Int) = (Pl.ratV (Pl.least x.fst x.snd)).snd ∧ True) ∧ Bool.false = (Pl.least x.fst x.snd).isSome ∧ True)
 ((IntKind.i64.wrap (x.fst.tdiv (↑(x_1.fst.natAbs.gcd x_1.snd.natAbs) : Int)) = (Pl.ratV (Pl.least x.fst x.snd)).fst ∧
 IntKind.i64.wrap (x.snd.tdiv (↑(x_1.fst.natAbs.gcd x_1.snd.natAbs) : Int)) = (Pl.ratV (Pl.least x.fst x.snd)).snd ∧ True) ∧
 Bool.true = (Pl.least x.fst x.snd).isSome ∧ True)))) = Goal Tryz.prog [K_gcd, K_iRatOk] ([]) K_ratOf.1 K_ratOf.2 (x) := by kernel_rfl

theorem vc_sRatAdd (x : Pl.Rt × Pl.Rt) : (Exists fun (x_1 : Pl.Rt) =>
 ((x.fst.fst = x_1.fst ∧ x.fst.snd = x_1.snd ∧ True) ∧ True) ∧
 True ∧
 condP (!Pl.ratOk x_1) (((0 : Int) = (Pl.ratV (Pl.ratAdd x.fst x.snd)).fst ∧ (0 : Int) = (Pl.ratV (Pl.ratAdd x.fst x.snd)).snd ∧ True) ∧ Bool.false = (Pl.ratAdd x.fst x.snd).isSome ∧ True)
 (Exists fun (x_2 : Pl.Rt) =>
 ((x.snd.fst = x_2.fst ∧ x.snd.snd = x_2.snd ∧ True) ∧ True) ∧
 True ∧
 condP (!Pl.ratOk x_2)
 (((0 : Int) = (Pl.ratV (Pl.ratAdd x.fst x.snd)).fst ∧ (0 : Int) = (Pl.ratV (Pl.ratAdd x.fst x.snd)).snd ∧ True) ∧ Bool.false = (Pl.ratAdd x.fst x.snd).isSome ∧ True)
 (Exists fun (x_3 : Int × Int) =>
 (IntKind.i64.wrap (IntKind.i64.wrap (x.fst.fst * x.snd.snd) + IntKind.i64.wrap (x.snd.fst * x.fst.snd)) = x_3.fst ∧
 IntKind.i64.wrap (x.fst.snd * x.snd.snd) = x_3.snd ∧ True) ∧
 (x_3.fst.natAbs ≤ (2000000000000000000 : Nat) ∧ (1 : Int) ≤ x_3.snd ∧ x_3.snd ≤ (1000000000000000000 : Int)) ∧
 ((Pl.ratV (Pl.least x_3.fst x_3.snd)).fst = (Pl.ratV (Pl.ratAdd x.fst x.snd)).fst ∧ (Pl.ratV (Pl.least x_3.fst x_3.snd)).snd = (Pl.ratV (Pl.ratAdd x.fst x.snd)).snd ∧ True) ∧
 (Pl.least x_3.fst x_3.snd).isSome = (Pl.ratAdd x.fst x.snd).isSome ∧ True))) = Goal Tryz.prog [K_sRatOk, K_l1Least] ([]) K_sRatAdd.1 K_sRatAdd.2 (x) := by kernel_rfl

theorem vc_iRatAdd (x : Pl.Rt × Pl.Rt) : (Exists fun (x_1 : Pl.Rt) =>
 ((x.fst.fst = x_1.fst ∧ x.fst.snd = x_1.snd ∧ True) ∧ True) ∧
 True ∧
 condP (!Pl.ratOk x_1) (((0 : Int) = (Pl.ratV (Pl.ratAdd x.fst x.snd)).fst ∧ (0 : Int) = (Pl.ratV (Pl.ratAdd x.fst x.snd)).snd ∧ True) ∧ Bool.false = (Pl.ratAdd x.fst x.snd).isSome ∧ True)
 (Exists fun (x_2 : Pl.Rt) =>
 ((x.snd.fst = x_2.fst ∧ x.snd.snd = x_2.snd ∧ True) ∧ True) ∧
 True ∧
 condP (!Pl.ratOk x_2)
 (((0 : Int) = (Pl.ratV (Pl.ratAdd x.fst x.snd)).fst ∧ (0 : Int) = (Pl.ratV (Pl.ratAdd x.fst x.snd)).snd ∧ True) ∧ Bool.false = (Pl.ratAdd x.fst x.snd).isSome ∧ True)
 (Exists fun (x_3 : Int × Int) =>
 (IntKind.i64.wrap (IntKind.i64.wrap (x.fst.fst * x.snd.snd) + IntKind.i64.wrap (x.snd.fst * x.fst.snd)) = x_3.fst ∧
 IntKind.i64.wrap (x.fst.snd * x.snd.snd) = x_3.snd ∧ True) ∧
 (x_3.fst.natAbs ≤ (2000000000000000000 : Nat) ∧ (1 : Int) ≤ x_3.snd ∧ x_3.snd ≤ (1000000000000000000 : Int)) ∧
 ((Pl.ratV (Pl.least x_3.fst x_3.snd)).fst = (Pl.ratV (Pl.ratAdd x.fst x.snd)).fst ∧ (Pl.ratV (Pl.least x_3.fst x_3.snd)).snd = (Pl.ratV (Pl.ratAdd x.fst x.snd)).snd ∧ True) ∧
 (Pl.least x_3.fst x_3.snd).isSome = (Pl.ratAdd x.fst x.snd).isSome ∧ True))) = Goal Tryz.prog [K_iRatOk, K_ratOf] ([]) K_iRatAdd.1 K_iRatAdd.2 (x) := by kernel_rfl

theorem vc_sRatMul (x : Pl.Rt × Pl.Rt) : (Exists fun (x_1 : Pl.Rt) =>
 ((x.fst.fst = x_1.fst ∧ x.fst.snd = x_1.snd ∧ True) ∧ True) ∧
 True ∧
 condP (!Pl.ratOk x_1) (((0 : Int) = (Pl.ratV (Pl.ratMul x.fst x.snd)).fst ∧ (0 : Int) = (Pl.ratV (Pl.ratMul x.fst x.snd)).snd ∧ True) ∧ Bool.false = (Pl.ratMul x.fst x.snd).isSome ∧ True)
 (Exists fun (x_2 : Pl.Rt) =>
 ((x.snd.fst = x_2.fst ∧ x.snd.snd = x_2.snd ∧ True) ∧ True) ∧
 True ∧
 condP (!Pl.ratOk x_2)
 (((0 : Int) = (Pl.ratV (Pl.ratMul x.fst x.snd)).fst ∧ (0 : Int) = (Pl.ratV (Pl.ratMul x.fst x.snd)).snd ∧ True) ∧ Bool.false = (Pl.ratMul x.fst x.snd).isSome ∧ True)
 (Exists fun (x_3 : Int × Int) =>
 (IntKind.i64.wrap (x.fst.fst * x.snd.fst) = x_3.fst ∧ IntKind.i64.wrap (x.fst.snd * x.snd.snd) = x_3.snd ∧ True) ∧
 (x_3.fst.natAbs ≤ (2000000000000000000 : Nat) ∧ (1 : Int) ≤ x_3.snd ∧ x_3.snd ≤ (1000000000000000000 : Int)) ∧
 ((Pl.ratV (Pl.least x_3.fst x_3.snd)).fst = (Pl.ratV (Pl.ratMul x.fst x.snd)).fst ∧ (Pl.ratV (Pl.least x_3.fst x_3.snd)).snd = (Pl.ratV (Pl.ratMul x.fst x.snd)).snd ∧ True) ∧
 (Pl.least x_3.fst x_3.snd).isSome = (Pl.ratMul x.fst x.snd).isSome ∧ True))) = Goal Tryz.prog [K_sRatOk, K_l1Least] ([]) K_sRatMul.1 K_sRatMul.2 (x) := by kernel_rfl

theorem vc_iRatMul (x : Pl.Rt × Pl.Rt) : (Exists fun (x_1 : Pl.Rt) =>
 ((x.fst.fst = x_1.fst ∧ x.fst.snd = x_1.snd ∧ True) ∧ True) ∧
 True ∧
 condP (!Pl.ratOk x_1) (((0 : Int) = (Pl.ratV (Pl.ratMul x.fst x.snd)).fst ∧ (0 : Int) = (Pl.ratV (Pl.ratMul x.fst x.snd)).snd ∧ True) ∧ Bool.false = (Pl.ratMul x.fst x.snd).isSome ∧ True)
 (Exists fun (x_2 : Pl.Rt) =>
 ((x.snd.fst = x_2.fst ∧ x.snd.snd = x_2.snd ∧ True) ∧ True) ∧
 True ∧
 condP (!Pl.ratOk x_2)
 (((0 : Int) = (Pl.ratV (Pl.ratMul x.fst x.snd)).fst ∧ (0 : Int) = (Pl.ratV (Pl.ratMul x.fst x.snd)).snd ∧ True) ∧ Bool.false = (Pl.ratMul x.fst x.snd).isSome ∧ True)
 (Exists fun (x_3 : Int × Int) =>
 (IntKind.i64.wrap (x.fst.fst * x.snd.fst) = x_3.fst ∧ IntKind.i64.wrap (x.fst.snd * x.snd.snd) = x_3.snd ∧ True) ∧
 (x_3.fst.natAbs ≤ (2000000000000000000 : Nat) ∧ (1 : Int) ≤ x_3.snd ∧ x_3.snd ≤ (1000000000000000000 : Int)) ∧
 ((Pl.ratV (Pl.least x_3.fst x_3.snd)).fst = (Pl.ratV (Pl.ratMul x.fst x.snd)).fst ∧ (Pl.ratV (Pl.least x_3.fst x_3.snd)).snd = (Pl.ratV (Pl.ratMul x.fst x.snd)).snd ∧ True) ∧
 (Pl.least x_3.fst x_3.snd).isSome = (Pl.ratMul x.fst x.snd).isSome ∧ True))) = Goal Tryz.prog [K_iRatOk, K_ratOf] ([]) K_iRatMul.1 K_iRatMul.2 (x) := by kernel_rfl

theorem vc_plus (x : Pl.Rt × Int × Pl.Rt) : (Exists fun (x_1 : Int) =>
 (x.snd.fst = x_1 ∧ True) ∧
 True ∧
 Exists fun (x_2 : Pl.Rt × Pl.Rt) =>
 ((x_1 = x_2.fst.fst ∧ Int.ofNat ((1 : Nat)) = x_2.fst.snd ∧ True) ∧ (x.snd.snd.fst = x_2.snd.fst ∧ x.snd.snd.snd = x_2.snd.snd ∧ True) ∧ True) ∧
 True ∧
 condP (!(Pl.ratMul x_2.fst x_2.snd).isSome)
 (((0 : Int) = (Pl.ratV (Pl.plusV x.fst x.snd.fst x.snd.snd)).fst ∧ (0 : Int) = (Pl.ratV (Pl.plusV x.fst x.snd.fst x.snd.snd)).snd ∧ True) ∧
 Bool.false = (Pl.plusV x.fst x.snd.fst x.snd.snd).isSome ∧ True)
 (Exists fun (x_3 : Pl.Rt × Pl.Rt) =>
 ((x.fst.fst = x_3.fst.fst ∧ x.fst.snd = x_3.fst.snd ∧ True) ∧
 ((Pl.ratV (Pl.ratMul x_2.fst x_2.snd)).fst = x_3.snd.fst ∧ (Pl.ratV (Pl.ratMul x_2.fst x_2.snd)).snd = x_3.snd.snd ∧ True) ∧ True) ∧
 True ∧
 ((Pl.ratV (Pl.ratAdd x_3.fst x_3.snd)).fst = (Pl.ratV (Pl.plusV x.fst x.snd.fst x.snd.snd)).fst ∧
 (Pl.ratV (Pl.ratAdd x_3.fst x_3.snd)).snd = (Pl.ratV (Pl.plusV x.fst x.snd.fst x.snd.snd)).snd ∧ True) ∧
 (Pl.ratAdd x_3.fst x_3.snd).isSome = (Pl.plusV x.fst x.snd.fst x.snd.snd).isSome ∧ True)) = Goal Tryz.prog [K_whole, K_iRatMul, K_iRatAdd] ([]) K_plus.1 K_plus.2 (x) := by kernel_rfl

theorem vc_below (x : Pl.Rt × Int × Bool) : (condP x.snd.snd
 (Exists fun (x_1 : Int) =>
 (x.snd.fst = x_1 ∧ True) ∧
 True ∧
 Exists fun (x_2 : Pl.Rt × Pl.Rt) =>
 ((x.fst.fst = x_2.fst.fst ∧ x.fst.snd = x_2.fst.snd ∧ True) ∧ (x_1 = x_2.snd.fst ∧ Int.ofNat ((1 : Nat)) = x_2.snd.snd ∧ True) ∧ True) ∧
 True ∧ Pl.ratLess x_2.fst x_2.snd = Pl.under x.fst x.snd.fst x.snd.snd)
 (Exists fun (x_1 : Int) =>
 (x.snd.fst = x_1 ∧ True) ∧
 True ∧
 Exists fun (x_2 : Pl.Rt × Pl.Rt) =>
 ((x_1 = x_2.fst.fst ∧ Int.ofNat ((1 : Nat)) = x_2.fst.snd ∧ True) ∧ (x.fst.fst = x_2.snd.fst ∧ x.fst.snd = x_2.snd.snd ∧ True) ∧ True) ∧
 True ∧ (!Pl.ratLess x_2.fst x_2.snd) = Pl.under x.fst x.snd.fst x.snd.snd)) = Goal Tryz.prog [K_whole, K_iRatLess] ([]) K_below.1 K_below.2 (x) := by kernel_rfl

theorem vc_l7Sum (x : Pl.Mdl × Pl.Atm) : ((Exists fun (x_1 : Nat × Pl.Rt) =>
 (x_1.fst ≤ x.snd.snd.snd.snd.fst.length ∧
 Pl.ratOk x_1.snd = Bool.true ∧
 Pl.sumS x.fst ((0 : Int), (1 : Int)) x.snd.snd.snd.snd.fst x.snd.snd.snd.snd.snd.fst =
 Pl.sumS x.fst x_1.snd (List.drop x_1.fst x.snd.snd.snd.snd.fst) (List.drop x_1.fst x.snd.snd.snd.snd.snd.fst)) ∧
 ((0 : Nat) = (0 : Nat) ∧ (0 : Nat) = (0 : Nat) ∧ (0 : Nat) = (0 : Nat) ∧ (0 : Nat) = (0 : Nat) ∧ (0 : Int) = (↑x_1.fst : Int) ∧ True) ∧
 (Is (mrows x.fst) (mrows x.fst) ∧ True) ∧
 (x.snd.fst = x.snd.fst ∧
 x.snd.snd.fst.fst = x.snd.snd.fst.fst ∧
 Is (terms x.snd.snd.fst.snd) (terms x.snd.snd.fst.snd) ∧
 x.snd.snd.snd.fst.fst = x.snd.snd.snd.fst.fst ∧
 Is (terms x.snd.snd.snd.fst.snd) (terms x.snd.snd.snd.fst.snd) ∧
 Is (terms x.snd.snd.snd.snd.fst) (terms x.snd.snd.snd.snd.fst) ∧
 Is (ints x.snd.snd.snd.snd.snd.fst) (ints x.snd.snd.snd.snd.snd.fst) ∧
 x.snd.snd.snd.snd.snd.snd.fst = x.snd.snd.snd.snd.snd.snd.fst ∧ x.snd.snd.snd.snd.snd.snd.snd = x.snd.snd.snd.snd.snd.snd.snd ∧ True) ∧
 ((0 : Int) = (0 : Int) ∧ (0 : Int) = (0 : Int) ∧ True) ∧ ((0 : Int) = x_1.snd.fst ∧ (1 : Int) = x_1.snd.snd ∧ True) ∧ True) ∧
 ∀ (x_1 : Nat × Pl.Rt),
 x_1.fst ≤ x.snd.snd.snd.snd.fst.length ∧
 Pl.ratOk x_1.snd = Bool.true ∧
 Pl.sumS x.fst ((0 : Int), (1 : Int)) x.snd.snd.snd.snd.fst x.snd.snd.snd.snd.snd.fst =
 Pl.sumS x.fst x_1.snd (List.drop x_1.fst x.snd.snd.snd.snd.fst) (List.drop x_1.fst x.snd.snd.snd.snd.snd.fst) →
 condP (Decidable.decide ((↑x_1.fst : Int) < (↑x.snd.snd.snd.snd.fst.length : Int)))
 (((0 : Int) ≤ (↑x_1.fst : Int) ∧ (↑x_1.fst : Int) < (↑x.snd.snd.snd.snd.snd.fst.length : Int)) ∧
 x_1.fst < x.snd.snd.snd.snd.snd.fst.length ∧
 ((0 : Int) ≤ (↑x_1.fst : Int) ∧ (↑x_1.fst : Int) < (↑x.snd.snd.snd.snd.fst.length : Int)) ∧
 x_1.fst < x.snd.snd.snd.snd.fst.length ∧
 Exists fun (x_2 : Pl.Mdl × Pl.TP) =>
 ((Is (mrows x.fst) (mrows x_2.fst) ∧ True) ∧
 (Pl.Tree.val (x.snd.snd.snd.snd.fst.getD x_1.fst Pl.dT) = x_2.snd.fst ∧ Is (kidsT (x.snd.snd.snd.snd.fst.getD x_1.fst Pl.dT)) (terms x_2.snd.snd) ∧ True) ∧ True) ∧
 (SmM x_2.fst ∧ SmT (Pl.Tree.mk x_2.snd.fst x_2.snd.snd)) ∧
 Exists fun (x_3 : Pl.Rt × Pl.Rt) =>
 ((x.snd.snd.snd.snd.snd.fst.getD x_1.fst (0 : Int) = x_3.fst.fst ∧ (1 : Int) = x_3.fst.snd ∧ True) ∧
 ((Pl.valT x_2.fst (Pl.Tree.mk x_2.snd.fst x_2.snd.snd)).fst = x_3.snd.fst ∧ (Pl.valT x_2.fst (Pl.Tree.mk x_2.snd.fst x_2.snd.snd)).snd = x_3.snd.snd ∧ True) ∧ True) ∧
 True ∧
 condP (!(Pl.ratMul x_3.fst x_3.snd).isSome)
 ((x_1.snd.fst = (Pl.sumS x.fst ((0 : Int), (1 : Int)) x.snd.snd.snd.snd.fst x.snd.snd.snd.snd.snd.fst).fst.fst ∧
 x_1.snd.snd = (Pl.sumS x.fst ((0 : Int), (1 : Int)) x.snd.snd.snd.snd.fst x.snd.snd.snd.snd.snd.fst).fst.snd ∧ True) ∧
 Bool.false = (Pl.sumS x.fst ((0 : Int), (1 : Int)) x.snd.snd.snd.snd.fst x.snd.snd.snd.snd.snd.fst).snd ∧ True)
 (Exists fun (x_4 : Pl.Rt × Pl.Rt) =>
 ((x_1.snd.fst = x_4.fst.fst ∧ x_1.snd.snd = x_4.fst.snd ∧ True) ∧
 ((Pl.ratV (Pl.ratMul x_3.fst x_3.snd)).fst = x_4.snd.fst ∧ (Pl.ratV (Pl.ratMul x_3.fst x_3.snd)).snd = x_4.snd.snd ∧ True) ∧ True) ∧
 True ∧
 condP (!(Pl.ratAdd x_4.fst x_4.snd).isSome)
 (((Pl.ratV (Pl.ratAdd x_4.fst x_4.snd)).fst = (Pl.sumS x.fst ((0 : Int), (1 : Int)) x.snd.snd.snd.snd.fst x.snd.snd.snd.snd.snd.fst).fst.fst ∧
 (Pl.ratV (Pl.ratAdd x_4.fst x_4.snd)).snd = (Pl.sumS x.fst ((0 : Int), (1 : Int)) x.snd.snd.snd.snd.fst x.snd.snd.snd.snd.snd.fst).fst.snd ∧ True) ∧
 Bool.false = (Pl.sumS x.fst ((0 : Int), (1 : Int)) x.snd.snd.snd.snd.fst x.snd.snd.snd.snd.snd.fst).snd ∧ True)
 (Exists fun (x' : Nat × Pl.Rt) =>
 (x'.fst ≤ x.snd.snd.snd.snd.fst.length ∧
 Pl.ratOk x'.snd = Bool.true ∧
 Pl.sumS x.fst ((0 : Int), (1 : Int)) x.snd.snd.snd.snd.fst x.snd.snd.snd.snd.snd.fst =
 Pl.sumS x.fst x'.snd (List.drop x'.fst x.snd.snd.snd.snd.fst) (List.drop x'.fst x.snd.snd.snd.snd.snd.fst)) ∧
 x.snd.snd.snd.snd.fst.length - x'.fst < x.snd.snd.snd.snd.fst.length - x_1.fst ∧
 ((0 : Nat) = (0 : Nat) ∧
 (0 : Nat) = (0 : Nat) ∧ (0 : Nat) = (0 : Nat) ∧ (0 : Nat) = (0 : Nat) ∧ IntKind.i64.wrap ((↑x_1.fst : Int) + (1 : Int)) = (↑x'.fst : Int) ∧ True) ∧
 (Is (mrows x.fst) (mrows x.fst) ∧ True) ∧
 (x.snd.fst = x.snd.fst ∧
 x.snd.snd.fst.fst = x.snd.snd.fst.fst ∧
 Is (terms x.snd.snd.fst.snd) (terms x.snd.snd.fst.snd) ∧
 x.snd.snd.snd.fst.fst = x.snd.snd.snd.fst.fst ∧
 Is (terms x.snd.snd.snd.fst.snd) (terms x.snd.snd.snd.fst.snd) ∧
 Is (terms x.snd.snd.snd.snd.fst) (terms x.snd.snd.snd.snd.fst) ∧
 Is (ints x.snd.snd.snd.snd.snd.fst) (ints x.snd.snd.snd.snd.snd.fst) ∧
 x.snd.snd.snd.snd.snd.snd.fst = x.snd.snd.snd.snd.snd.snd.fst ∧ x.snd.snd.snd.snd.snd.snd.snd = x.snd.snd.snd.snd.snd.snd.snd ∧ True) ∧
 ((0 : Int) = (0 : Int) ∧ (0 : Int) = (0 : Int) ∧ True) ∧
 ((Pl.ratV (Pl.ratAdd x_4.fst x_4.snd)).fst = x'.snd.fst ∧ (Pl.ratV (Pl.ratAdd x_4.fst x_4.snd)).snd = x'.snd.snd ∧ True) ∧ True)))
 ((x_1.snd.fst = (Pl.sumS x.fst ((0 : Int), (1 : Int)) x.snd.snd.snd.snd.fst x.snd.snd.snd.snd.snd.fst).fst.fst ∧
 x_1.snd.snd = (Pl.sumS x.fst ((0 : Int), (1 : Int)) x.snd.snd.snd.snd.fst x.snd.snd.snd.snd.snd.fst).fst.snd ∧ True) ∧
 Bool.true = (Pl.sumS x.fst ((0 : Int), (1 : Int)) x.snd.snd.snd.snd.fst x.snd.snd.snd.snd.snd.fst).snd ∧ True)) = Goal Tryz.prog [K_lTm, K_sRatMul, K_sRatAdd] (A_l7Sum x.1 x.2) K_l7Sum.1 K_l7Sum.2 (x) := by kernel_rfl

theorem vc_atomV (x : Pl.Mdl × Pl.Atm) : (condP (x.snd.fst == (1 : Int))
 (Exists fun (x_1 : Pl.Mdl × Pl.TP) =>
 ((Is (mrows x.fst) (mrows x_1.fst) ∧ True) ∧ (x.snd.snd.fst.fst = x_1.snd.fst ∧ Is (terms x.snd.snd.fst.snd) (terms x_1.snd.snd) ∧ True) ∧ True) ∧
 (Pl.mL Option.none x_1.fst = Bool.true ∧ SmM x_1.fst ∧ SmT (Pl.Tree.mk x_1.snd.fst x_1.snd.snd)) ∧
 Exists fun (x_2 : Pl.Mdl × Pl.TP) =>
 ((Is (mrows x.fst) (mrows x_2.fst) ∧ True) ∧ (x.snd.snd.snd.fst.fst = x_2.snd.fst ∧ Is (terms x.snd.snd.snd.fst.snd) (terms x_2.snd.snd) ∧ True) ∧ True) ∧
 (Pl.mL Option.none x_2.fst = Bool.true ∧ SmM x_2.fst ∧ SmT (Pl.Tree.mk x_2.snd.fst x_2.snd.snd)) ∧
 ((Pl.valT x_1.fst (Pl.Tree.mk x_1.snd.fst x_1.snd.snd)).fst == (Pl.valT x_2.fst (Pl.Tree.mk x_2.snd.fst x_2.snd.snd)).fst &&
 (Pl.valT x_1.fst (Pl.Tree.mk x_1.snd.fst x_1.snd.snd)).snd == (Pl.valT x_2.fst (Pl.Tree.mk x_2.snd.fst x_2.snd.snd)).snd) =
 (Pl.atomV x.fst x.snd).fst ∧
 Bool.true = (Pl.atomV x.fst x.snd).snd ∧ True)
 (Exists fun (x_1 : Int) =>
 ((0 : Int) = x_1 ∧ True) ∧
 True ∧
 (Exists fun (x_2 : Nat × Pl.Rt) =>
 (¬x.snd.fst = (1 : Int) ∧
 x_2.fst ≤ x.snd.snd.snd.snd.fst.length ∧
 Pl.ratOk x_2.snd = Bool.true ∧
 Pl.sumS x.fst ((0 : Int), (1 : Int)) x.snd.snd.snd.snd.fst x.snd.snd.snd.snd.snd.fst =
 Pl.sumS x.fst x_2.snd (List.drop x_2.fst x.snd.snd.snd.snd.fst) (List.drop x_2.fst x.snd.snd.snd.snd.snd.fst)) ∧
 ((0 : Nat) = (0 : Nat) ∧
 (0 : Nat) = (0 : Nat) ∧
 (0 : Nat) = (0 : Nat) ∧
 Is (terms x.snd.snd.snd.snd.fst) (terms x.snd.snd.snd.snd.fst) ∧
 (↑x.snd.snd.snd.snd.fst.length : Int) = (↑x.snd.snd.snd.snd.fst.length : Int) ∧ (0 : Int) = (↑x_2.fst : Int) ∧ True) ∧
 (Is (mrows x.fst) (mrows x.fst) ∧ True) ∧
 (x.snd.fst = x.snd.fst ∧
 x.snd.snd.fst.fst = x.snd.snd.fst.fst ∧
 Is (terms x.snd.snd.fst.snd) (terms x.snd.snd.fst.snd) ∧
 x.snd.snd.snd.fst.fst = x.snd.snd.snd.fst.fst ∧
 Is (terms x.snd.snd.snd.fst.snd) (terms x.snd.snd.snd.fst.snd) ∧
 Is (terms x.snd.snd.snd.snd.fst) (terms x.snd.snd.snd.snd.fst) ∧
 Is (ints x.snd.snd.snd.snd.snd.fst) (ints x.snd.snd.snd.snd.snd.fst) ∧
 x.snd.snd.snd.snd.snd.snd.fst = x.snd.snd.snd.snd.snd.snd.fst ∧ x.snd.snd.snd.snd.snd.snd.snd = x.snd.snd.snd.snd.snd.snd.snd ∧ True) ∧
 (x_1 = x_2.snd.fst ∧ Int.ofNat ((1 : Nat)) = x_2.snd.snd ∧ True) ∧ True) ∧
 ∀ (x_2 : Nat × Pl.Rt),
 ¬x.snd.fst = (1 : Int) ∧
 x_2.fst ≤ x.snd.snd.snd.snd.fst.length ∧
 Pl.ratOk x_2.snd = Bool.true ∧
 Pl.sumS x.fst ((0 : Int), (1 : Int)) x.snd.snd.snd.snd.fst x.snd.snd.snd.snd.snd.fst =
 Pl.sumS x.fst x_2.snd (List.drop x_2.fst x.snd.snd.snd.snd.fst) (List.drop x_2.fst x.snd.snd.snd.snd.snd.fst) →
 condP (Decidable.decide ((↑x_2.fst : Int) < (↑x.snd.snd.snd.snd.fst.length : Int)))
 (((0 : Int) ≤ (↑x_2.fst : Int) ∧ (↑x_2.fst : Int) < (↑x.snd.snd.snd.snd.fst.length : Int)) ∧
 x_2.fst < x.snd.snd.snd.snd.fst.length ∧
 ((0 : Int) ≤ (↑x_2.fst : Int) ∧ (↑x_2.fst : Int) < (↑x.snd.snd.snd.snd.snd.fst.length : Int)) ∧
 x_2.fst < x.snd.snd.snd.snd.snd.fst.length ∧
 Exists fun (x_3 : Pl.Mdl × Pl.TP) =>
 ((Is (mrows x.fst) (mrows x_3.fst) ∧ True) ∧
 (Pl.Tree.val (x.snd.snd.snd.snd.fst.getD x_2.fst Pl.dT) = x_3.snd.fst ∧ Is (kidsT (x.snd.snd.snd.snd.fst.getD x_2.fst Pl.dT)) (terms x_3.snd.snd) ∧ True) ∧
 True) ∧
 (Pl.mL Option.none x_3.fst = Bool.true ∧ SmM x_3.fst ∧ SmT (Pl.Tree.mk x_3.snd.fst x_3.snd.snd)) ∧
 Exists fun (x_4 : Pl.Rt × Int × Pl.Rt) =>
 ((x_2.snd.fst = x_4.fst.fst ∧ x_2.snd.snd = x_4.fst.snd ∧ True) ∧
 x.snd.snd.snd.snd.snd.fst.getD x_2.fst (0 : Int) = x_4.snd.fst ∧
 ((Pl.valT x_3.fst (Pl.Tree.mk x_3.snd.fst x_3.snd.snd)).fst = x_4.snd.snd.fst ∧
 (Pl.valT x_3.fst (Pl.Tree.mk x_3.snd.fst x_3.snd.snd)).snd = x_4.snd.snd.snd ∧ True) ∧
 True) ∧
 True ∧
 condP (!(Pl.plusV x_4.fst x_4.snd.fst x_4.snd.snd).isSome) (Bool.false = (Pl.atomV x.fst x.snd).fst ∧ Bool.false = (Pl.atomV x.fst x.snd).snd ∧ True)
 (Exists fun (x' : Nat × Pl.Rt) =>
 (¬x.snd.fst = (1 : Int) ∧
 x'.fst ≤ x.snd.snd.snd.snd.fst.length ∧
 Pl.ratOk x'.snd = Bool.true ∧
 Pl.sumS x.fst ((0 : Int), (1 : Int)) x.snd.snd.snd.snd.fst x.snd.snd.snd.snd.snd.fst =
 Pl.sumS x.fst x'.snd (List.drop x'.fst x.snd.snd.snd.snd.fst) (List.drop x'.fst x.snd.snd.snd.snd.snd.fst)) ∧
 x.snd.snd.snd.snd.fst.length - x'.fst < x.snd.snd.snd.snd.fst.length - x_2.fst ∧
 ((0 : Nat) = (0 : Nat) ∧
 (0 : Nat) = (0 : Nat) ∧
 (0 : Nat) = (0 : Nat) ∧
 Is (terms x.snd.snd.snd.snd.fst) (terms x.snd.snd.snd.snd.fst) ∧
 (↑x.snd.snd.snd.snd.fst.length : Int) = (↑x.snd.snd.snd.snd.fst.length : Int) ∧
 IntKind.i64.wrap ((↑x_2.fst : Int) + (1 : Int)) = (↑x'.fst : Int) ∧ True) ∧
 (Is (mrows x.fst) (mrows x.fst) ∧ True) ∧
 (x.snd.fst = x.snd.fst ∧
 x.snd.snd.fst.fst = x.snd.snd.fst.fst ∧
 Is (terms x.snd.snd.fst.snd) (terms x.snd.snd.fst.snd) ∧
 x.snd.snd.snd.fst.fst = x.snd.snd.snd.fst.fst ∧
 Is (terms x.snd.snd.snd.fst.snd) (terms x.snd.snd.snd.fst.snd) ∧
 Is (terms x.snd.snd.snd.snd.fst) (terms x.snd.snd.snd.snd.fst) ∧
 Is (ints x.snd.snd.snd.snd.snd.fst) (ints x.snd.snd.snd.snd.snd.fst) ∧
 x.snd.snd.snd.snd.snd.snd.fst = x.snd.snd.snd.snd.snd.snd.fst ∧ x.snd.snd.snd.snd.snd.snd.snd = x.snd.snd.snd.snd.snd.snd.snd ∧ True) ∧
 ((Pl.ratV (Pl.plusV x_4.fst x_4.snd.fst x_4.snd.snd)).fst = x'.snd.fst ∧
 (Pl.ratV (Pl.plusV x_4.fst x_4.snd.fst x_4.snd.snd)).snd = x'.snd.snd ∧ True) ∧
 True))
 (Exists fun (x_3 : Pl.Rt × Int × Bool) =>
 ((x_2.snd.fst = x_3.fst.fst ∧ x_2.snd.snd = x_3.fst.snd ∧ True) ∧ x.snd.snd.snd.snd.snd.snd.fst = x_3.snd.fst ∧ x.snd.snd.snd.snd.snd.snd.snd = x_3.snd.snd ∧ True) ∧
 True ∧ Pl.under x_3.fst x_3.snd.fst x_3.snd.snd = (Pl.atomV x.fst x.snd).fst ∧ Bool.true = (Pl.atomV x.fst x.snd).snd ∧ True))) = Goal Tryz.prog [K_val, K_whole, K_plus, K_below] (A_atomV x.1 x.2) K_atomV.1 K_atomV.2 (x) := by kernel_rfl

theorem vc_sModelLit (x : Pl.Sig × Pl.Mdl × Pl.Ltr) : (Exists fun (x_1 : Pl.Sig × Pl.Mdl) =>
 ((Is (syms x.fst) (syms x_1.fst) ∧ True) ∧ (Is (mrows x.snd.fst) (mrows x_1.snd) ∧ True) ∧ True) ∧
 (SmG x_1.fst ∧ SmM x_1.snd) ∧
 condP (!Pl.modelOk x_1.fst x_1.snd) (Bool.false = (Pl.modelLit x.fst x.snd.fst x.snd.snd).fst ∧ Bool.false = (Pl.modelLit x.fst x.snd.fst x.snd.snd).snd ∧ True)
 (Exists fun (x_2 : Pl.Sig × Pl.Atm) =>
 ((Is (syms x.fst) (syms x_2.fst) ∧ True) ∧
 (x.snd.snd.fst.fst = x_2.snd.fst ∧
 x.snd.snd.fst.snd.fst.fst = x_2.snd.snd.fst.fst ∧
 Is (terms x.snd.snd.fst.snd.fst.snd) (terms x_2.snd.snd.fst.snd) ∧
 x.snd.snd.fst.snd.snd.fst.fst = x_2.snd.snd.snd.fst.fst ∧
 Is (terms x.snd.snd.fst.snd.snd.fst.snd) (terms x_2.snd.snd.snd.fst.snd) ∧
 Is (terms x.snd.snd.fst.snd.snd.snd.fst) (terms x_2.snd.snd.snd.snd.fst) ∧
 Is (ints x.snd.snd.fst.snd.snd.snd.snd.fst) (ints x_2.snd.snd.snd.snd.snd.fst) ∧
 x.snd.snd.fst.snd.snd.snd.snd.snd.fst = x_2.snd.snd.snd.snd.snd.snd.fst ∧ x.snd.snd.fst.snd.snd.snd.snd.snd.snd = x_2.snd.snd.snd.snd.snd.snd.snd ∧ True) ∧
 True) ∧
 (SmG x_2.fst ∧ SmA x_2.snd) ∧
 condP (!Pl.atomOk x_2.fst x_2.snd) (Bool.false = (Pl.modelLit x.fst x.snd.fst x.snd.snd).fst ∧ Bool.false = (Pl.modelLit x.fst x.snd.fst x.snd.snd).snd ∧ True)
 (condP (x.snd.snd.fst.fst == (1 : Int))
 (Exists fun (x_3 : Pl.Mdl × Pl.TP) =>
 ((Is (mrows x.snd.fst) (mrows x_3.fst) ∧ True) ∧
 (x.snd.snd.fst.snd.fst.fst = x_3.snd.fst ∧ Is (terms x.snd.snd.fst.snd.fst.snd) (terms x_3.snd.snd) ∧ True) ∧ True) ∧
 (SmM x_3.fst ∧ SmT (Pl.Tree.mk x_3.snd.fst x_3.snd.snd)) ∧
 Exists fun (x_4 : Pl.Mdl × Pl.TP) =>
 ((Is (mrows x.snd.fst) (mrows x_4.fst) ∧ True) ∧
 (x.snd.snd.fst.snd.snd.fst.fst = x_4.snd.fst ∧ Is (terms x.snd.snd.fst.snd.snd.fst.snd) (terms x_4.snd.snd) ∧ True) ∧ True) ∧
 (SmM x_4.fst ∧ SmT (Pl.Tree.mk x_4.snd.fst x_4.snd.snd)) ∧
 (!((Pl.valT x_3.fst (Pl.Tree.mk x_3.snd.fst x_3.snd.snd)).fst == (Pl.valT x_4.fst (Pl.Tree.mk x_4.snd.fst x_4.snd.snd)).fst &&
 (Pl.valT x_3.fst (Pl.Tree.mk x_3.snd.fst x_3.snd.snd)).snd == (Pl.valT x_4.fst (Pl.Tree.mk x_4.snd.fst x_4.snd.snd)).snd) ==
 x.snd.snd.snd) =
 (Pl.modelLit x.fst x.snd.fst x.snd.snd).fst ∧
 Bool.true = (Pl.modelLit x.fst x.snd.fst x.snd.snd).snd ∧ True)
 (Exists fun (x_3 : Pl.Mdl × Pl.Atm) =>
 ((Is (mrows x.snd.fst) (mrows x_3.fst) ∧ True) ∧
 (x.snd.snd.fst.fst = x_3.snd.fst ∧
 x.snd.snd.fst.snd.fst.fst = x_3.snd.snd.fst.fst ∧
 Is (terms x.snd.snd.fst.snd.fst.snd) (terms x_3.snd.snd.fst.snd) ∧
 x.snd.snd.fst.snd.snd.fst.fst = x_3.snd.snd.snd.fst.fst ∧
 Is (terms x.snd.snd.fst.snd.snd.fst.snd) (terms x_3.snd.snd.snd.fst.snd) ∧
 Is (terms x.snd.snd.fst.snd.snd.snd.fst) (terms x_3.snd.snd.snd.snd.fst) ∧
 Is (ints x.snd.snd.fst.snd.snd.snd.snd.fst) (ints x_3.snd.snd.snd.snd.snd.fst) ∧
 x.snd.snd.fst.snd.snd.snd.snd.snd.fst = x_3.snd.snd.snd.snd.snd.snd.fst ∧ x.snd.snd.fst.snd.snd.snd.snd.snd.snd = x_3.snd.snd.snd.snd.snd.snd.snd ∧ True) ∧
 True) ∧
 (SmM x_3.fst ∧ SmA x_3.snd ∧ x_3.snd.snd.snd.snd.fst.length = x_3.snd.snd.snd.snd.snd.fst.length) ∧
 condP (!(Pl.sumS x_3.fst ((0 : Int), (1 : Int)) x_3.snd.snd.snd.snd.fst x_3.snd.snd.snd.snd.snd.fst).snd)
 (Bool.false = (Pl.modelLit x.fst x.snd.fst x.snd.snd).fst ∧ Bool.false = (Pl.modelLit x.fst x.snd.fst x.snd.snd).snd ∧ True)
 (Exists fun (x_4 : Pl.Rt × Pl.Rt) =>
 (((Pl.sumS x_3.fst ((0 : Int), (1 : Int)) x_3.snd.snd.snd.snd.fst x_3.snd.snd.snd.snd.snd.fst).fst.fst = x_4.fst.fst ∧
 (Pl.sumS x_3.fst ((0 : Int), (1 : Int)) x_3.snd.snd.snd.snd.fst x_3.snd.snd.snd.snd.snd.fst).fst.snd = x_4.fst.snd ∧ True) ∧
 (x.snd.snd.fst.snd.snd.snd.snd.snd.fst = x_4.snd.fst ∧ (1 : Int) = x_4.snd.snd ∧ True) ∧ True) ∧
 True ∧
 condP (Pl.ratLess x_4.fst x_4.snd)
 ((!Bool.true == x.snd.snd.snd) = (Pl.modelLit x.fst x.snd.fst x.snd.snd).fst ∧ Bool.true = (Pl.modelLit x.fst x.snd.fst x.snd.snd).snd ∧ True)
 (condP (!x.snd.snd.fst.snd.snd.snd.snd.snd.snd)
 ((!((Pl.sumS x_3.fst ((0 : Int), (1 : Int)) x_3.snd.snd.snd.snd.fst x_3.snd.snd.snd.snd.snd.fst).fst.fst == x.snd.snd.fst.snd.snd.snd.snd.snd.fst &&
 (Pl.sumS x_3.fst ((0 : Int), (1 : Int)) x_3.snd.snd.snd.snd.fst x_3.snd.snd.snd.snd.snd.fst).fst.snd == (1 : Int)) ==
 x.snd.snd.snd) =
 (Pl.modelLit x.fst x.snd.fst x.snd.snd).fst ∧
 Bool.true = (Pl.modelLit x.fst x.snd.fst x.snd.snd).snd ∧ True)
 ((!Bool.false == x.snd.snd.snd) = (Pl.modelLit x.fst x.snd.fst x.snd.snd).fst ∧ Bool.true = (Pl.modelLit x.fst x.snd.fst x.snd.snd).snd ∧ True))))))) = Goal Tryz.prog [K_sModelOk, K_sAtomOk, K_lTm, K_l7Sum, K_sRatLess] ([]) K_sModelLit.1 K_sModelLit.2 (x) := by kernel_rfl

theorem vc_iModelLit (x : Pl.Sig × Pl.Mdl × Pl.Ltr) : (Exists fun (x_1 : Pl.Sig × Pl.Mdl) =>
 ((Is (syms x.fst) (syms x_1.fst) ∧ True) ∧ (Is (mrows x.snd.fst) (mrows x_1.snd) ∧ True) ∧ True) ∧
 (SmG x_1.fst ∧ SmM x_1.snd) ∧
 condP (!Pl.modelOk x_1.fst x_1.snd) (Bool.false = (Pl.modelLit x.fst x.snd.fst x.snd.snd).fst ∧ Bool.false = (Pl.modelLit x.fst x.snd.fst x.snd.snd).snd ∧ True)
 (Exists fun (x_2 : Pl.Sig × Pl.Atm) =>
 ((Is (syms x.fst) (syms x_2.fst) ∧ True) ∧
 (x.snd.snd.fst.fst = x_2.snd.fst ∧
 x.snd.snd.fst.snd.fst.fst = x_2.snd.snd.fst.fst ∧
 Is (terms x.snd.snd.fst.snd.fst.snd) (terms x_2.snd.snd.fst.snd) ∧
 x.snd.snd.fst.snd.snd.fst.fst = x_2.snd.snd.snd.fst.fst ∧
 Is (terms x.snd.snd.fst.snd.snd.fst.snd) (terms x_2.snd.snd.snd.fst.snd) ∧
 Is (terms x.snd.snd.fst.snd.snd.snd.fst) (terms x_2.snd.snd.snd.snd.fst) ∧
 Is (ints x.snd.snd.fst.snd.snd.snd.snd.fst) (ints x_2.snd.snd.snd.snd.snd.fst) ∧
 x.snd.snd.fst.snd.snd.snd.snd.snd.fst = x_2.snd.snd.snd.snd.snd.snd.fst ∧ x.snd.snd.fst.snd.snd.snd.snd.snd.snd = x_2.snd.snd.snd.snd.snd.snd.snd ∧ True) ∧
 True) ∧
 (SmG x_2.fst ∧ SmA x_2.snd) ∧
 condP (!Pl.atomOk x_2.fst x_2.snd) (Bool.false = (Pl.modelLit x.fst x.snd.fst x.snd.snd).fst ∧ Bool.false = (Pl.modelLit x.fst x.snd.fst x.snd.snd).snd ∧ True)
 (Exists fun (x_3 : Pl.Mdl × Pl.Atm) =>
 ((Is (mrows x.snd.fst) (mrows x_3.fst) ∧ True) ∧
 (x.snd.snd.fst.fst = x_3.snd.fst ∧
 x.snd.snd.fst.snd.fst.fst = x_3.snd.snd.fst.fst ∧
 Is (terms x.snd.snd.fst.snd.fst.snd) (terms x_3.snd.snd.fst.snd) ∧
 x.snd.snd.fst.snd.snd.fst.fst = x_3.snd.snd.snd.fst.fst ∧
 Is (terms x.snd.snd.fst.snd.snd.fst.snd) (terms x_3.snd.snd.snd.fst.snd) ∧
 Is (terms x.snd.snd.fst.snd.snd.snd.fst) (terms x_3.snd.snd.snd.snd.fst) ∧
 Is (ints x.snd.snd.fst.snd.snd.snd.snd.fst) (ints x_3.snd.snd.snd.snd.snd.fst) ∧
 x.snd.snd.fst.snd.snd.snd.snd.snd.fst = x_3.snd.snd.snd.snd.snd.snd.fst ∧ x.snd.snd.fst.snd.snd.snd.snd.snd.snd = x_3.snd.snd.snd.snd.snd.snd.snd ∧ True) ∧
 True) ∧
 (Pl.mL Option.none x_3.fst = Bool.true ∧ SmM x_3.fst ∧ SmA x_3.snd ∧ (¬x_3.snd.fst = (1 : Int) → x_3.snd.snd.snd.snd.fst.length = x_3.snd.snd.snd.snd.snd.fst.length)) ∧
 condP (!(Pl.atomV x_3.fst x_3.snd).snd) (Bool.false = (Pl.modelLit x.fst x.snd.fst x.snd.snd).fst ∧ Bool.false = (Pl.modelLit x.fst x.snd.fst x.snd.snd).snd ∧ True)
 ((!(Pl.atomV x_3.fst x_3.snd).fst == x.snd.snd.snd) = (Pl.modelLit x.fst x.snd.fst x.snd.snd).fst ∧ Bool.true = (Pl.modelLit x.fst x.snd.fst x.snd.snd).snd ∧ True)))) = Goal Tryz.prog [K_iModelOk, K_iAtomOk, K_atomV] ([]) K_iModelLit.1 K_iModelLit.2 (x) := by kernel_rfl

theorem vc_sModelAll (x : Pl.Sig × Pl.Mdl × List Pl.Ltr) : ((Exists fun (x_1 : Nat) =>
 (x_1 ≤ x.snd.snd.length ∧ x.snd.snd.all (Pl.litIs x.fst x.snd.fst) = (List.drop x_1 x.snd.snd).all (Pl.litIs x.fst x.snd.fst)) ∧
 (Is (litrs x.snd.snd) (litrs x.snd.snd) ∧ (0 : Nat) = (0 : Nat) ∧ (0 : Nat) = (0 : Nat) ∧ (0 : Int) = (↑x_1 : Int) ∧ True) ∧
 (Is (syms x.fst) (syms x.fst) ∧ True) ∧ (Is (mrows x.snd.fst) (mrows x.snd.fst) ∧ True) ∧ True) ∧
 ∀ (x_1 : Nat),
 x_1 ≤ x.snd.snd.length ∧ x.snd.snd.all (Pl.litIs x.fst x.snd.fst) = (List.drop x_1 x.snd.snd).all (Pl.litIs x.fst x.snd.fst) →
 condP (Decidable.decide ((↑x_1 : Int) < (↑x.snd.snd.length : Int)))
 (((0 : Int) ≤ (↑x_1 : Int) ∧ (↑x_1 : Int) < (↑x.snd.snd.length : Int)) ∧
 x_1 < x.snd.snd.length ∧
 Exists fun (x_2 : Pl.Sig × Pl.Mdl × Pl.Ltr) =>
 ((Is (syms x.fst) (syms x_2.fst) ∧ True) ∧
 (Is (mrows x.snd.fst) (mrows x_2.snd.fst) ∧ True) ∧
 ((x.snd.snd.getD x_1 Pl.dL).fst.fst = x_2.snd.snd.fst.fst ∧
 (x.snd.snd.getD x_1 Pl.dL).fst.snd.fst.fst = x_2.snd.snd.fst.snd.fst.fst ∧
 Is (terms (x.snd.snd.getD x_1 Pl.dL).fst.snd.fst.snd) (terms x_2.snd.snd.fst.snd.fst.snd) ∧
 (x.snd.snd.getD x_1 Pl.dL).fst.snd.snd.fst.fst = x_2.snd.snd.fst.snd.snd.fst.fst ∧
 Is (terms (x.snd.snd.getD x_1 Pl.dL).fst.snd.snd.fst.snd) (terms x_2.snd.snd.fst.snd.snd.fst.snd) ∧
 Is (terms (x.snd.snd.getD x_1 Pl.dL).fst.snd.snd.snd.fst) (terms x_2.snd.snd.fst.snd.snd.snd.fst) ∧
 Is (ints (x.snd.snd.getD x_1 Pl.dL).fst.snd.snd.snd.snd.fst) (ints x_2.snd.snd.fst.snd.snd.snd.snd.fst) ∧
 (x.snd.snd.getD x_1 Pl.dL).fst.snd.snd.snd.snd.snd.fst = x_2.snd.snd.fst.snd.snd.snd.snd.snd.fst ∧
 (x.snd.snd.getD x_1 Pl.dL).fst.snd.snd.snd.snd.snd.snd = x_2.snd.snd.fst.snd.snd.snd.snd.snd.snd ∧ (x.snd.snd.getD x_1 Pl.dL).snd = x_2.snd.snd.snd ∧ True) ∧
 True) ∧
 (SmG x_2.fst ∧ SmM x_2.snd.fst ∧ SmA x_2.snd.snd.fst) ∧
 condP (!(Pl.modelLit x_2.fst x_2.snd.fst x_2.snd.snd).snd) (Bool.false = Pl.modelAll x.fst x.snd.fst x.snd.snd)
 (condP (!(Pl.modelLit x_2.fst x_2.snd.fst x_2.snd.snd).fst) (Bool.false = Pl.modelAll x.fst x.snd.fst x.snd.snd)
 (Exists fun (x' : Nat) =>
 (x' ≤ x.snd.snd.length ∧ x.snd.snd.all (Pl.litIs x.fst x.snd.fst) = (List.drop x' x.snd.snd).all (Pl.litIs x.fst x.snd.fst)) ∧
 x.snd.snd.length - x' < x.snd.snd.length - x_1 ∧
 (Is (litrs x.snd.snd) (litrs x.snd.snd) ∧ (0 : Nat) = (0 : Nat) ∧ (0 : Nat) = (0 : Nat) ∧ IntKind.i64.wrap ((↑x_1 : Int) + (1 : Int)) = (↑x' : Int) ∧ True) ∧
 (Is (syms x.fst) (syms x.fst) ∧ True) ∧ (Is (mrows x.snd.fst) (mrows x.snd.fst) ∧ True) ∧ True)))
 (Exists fun (x_2 : Pl.Sig × Pl.Mdl) =>
 ((Is (syms x.fst) (syms x_2.fst) ∧ True) ∧ (Is (mrows x.snd.fst) (mrows x_2.snd) ∧ True) ∧ True) ∧
 (SmG x_2.fst ∧ SmM x_2.snd) ∧ Pl.modelOk x_2.fst x_2.snd = Pl.modelAll x.fst x.snd.fst x.snd.snd)) = Goal Tryz.prog [K_sModelLit, K_sModelOk] (A_sModelAll x.1 x.2.1 x.2.2) K_sModelAll.1 K_sModelAll.2 (x) := by kernel_rfl

theorem vc_iModelAll (x : Pl.Sig × Pl.Mdl × List Pl.Ltr) : (Exists fun (x_1 : Pl.Sig × Pl.Mdl) =>
 ((Is (syms x.fst) (syms x_1.fst) ∧ True) ∧ (Is (mrows x.snd.fst) (mrows x_1.snd) ∧ True) ∧ True) ∧
 (SmG x_1.fst ∧ SmM x_1.snd) ∧
 condP (!Pl.modelOk x_1.fst x_1.snd) (Bool.false = Pl.modelAll x.fst x.snd.fst x.snd.snd)
 ((Exists fun (x_2 : Nat) =>
 (Pl.modelOk x.fst x.snd.fst = Bool.true ∧ x_2 ≤ x.snd.snd.length ∧ x.snd.snd.all (Pl.litIs x.fst x.snd.fst) = (List.drop x_2 x.snd.snd).all (Pl.litIs x.fst x.snd.fst)) ∧
 ((0 : Nat) = (0 : Nat) ∧
 (0 : Nat) = (0 : Nat) ∧ Is (litrs x.snd.snd) (litrs x.snd.snd) ∧ (↑x.snd.snd.length : Int) = (↑x.snd.snd.length : Int) ∧ (0 : Int) = (↑x_2 : Int) ∧ True) ∧
 (Is (syms x.fst) (syms x.fst) ∧ True) ∧ (Is (mrows x.snd.fst) (mrows x.snd.fst) ∧ True) ∧ True) ∧
 ∀ (x_2 : Nat),
 Pl.modelOk x.fst x.snd.fst = Bool.true ∧ x_2 ≤ x.snd.snd.length ∧ x.snd.snd.all (Pl.litIs x.fst x.snd.fst) = (List.drop x_2 x.snd.snd).all (Pl.litIs x.fst x.snd.fst) →
 condP (Decidable.decide ((↑x_2 : Int) < (↑x.snd.snd.length : Int)))
 (((0 : Int) ≤ (↑x_2 : Int) ∧ (↑x_2 : Int) < (↑x.snd.snd.length : Int)) ∧
 x_2 < x.snd.snd.length ∧
 Exists fun (x_3 : Pl.Sig × Pl.Mdl × Pl.Ltr) =>
 ((Is (syms x.fst) (syms x_3.fst) ∧ True) ∧
 (Is (mrows x.snd.fst) (mrows x_3.snd.fst) ∧ True) ∧
 ((x.snd.snd.getD x_2 Pl.dL).fst.fst = x_3.snd.snd.fst.fst ∧
 (x.snd.snd.getD x_2 Pl.dL).fst.snd.fst.fst = x_3.snd.snd.fst.snd.fst.fst ∧
 Is (terms (x.snd.snd.getD x_2 Pl.dL).fst.snd.fst.snd) (terms x_3.snd.snd.fst.snd.fst.snd) ∧
 (x.snd.snd.getD x_2 Pl.dL).fst.snd.snd.fst.fst = x_3.snd.snd.fst.snd.snd.fst.fst ∧
 Is (terms (x.snd.snd.getD x_2 Pl.dL).fst.snd.snd.fst.snd) (terms x_3.snd.snd.fst.snd.snd.fst.snd) ∧
 Is (terms (x.snd.snd.getD x_2 Pl.dL).fst.snd.snd.snd.fst) (terms x_3.snd.snd.fst.snd.snd.snd.fst) ∧
 Is (ints (x.snd.snd.getD x_2 Pl.dL).fst.snd.snd.snd.snd.fst) (ints x_3.snd.snd.fst.snd.snd.snd.snd.fst) ∧
 (x.snd.snd.getD x_2 Pl.dL).fst.snd.snd.snd.snd.snd.fst = x_3.snd.snd.fst.snd.snd.snd.snd.snd.fst ∧
 (x.snd.snd.getD x_2 Pl.dL).fst.snd.snd.snd.snd.snd.snd = x_3.snd.snd.fst.snd.snd.snd.snd.snd.snd ∧
 (x.snd.snd.getD x_2 Pl.dL).snd = x_3.snd.snd.snd ∧ True) ∧
 True) ∧
 (SmG x_3.fst ∧ SmM x_3.snd.fst ∧ SmA x_3.snd.snd.fst) ∧
 condP (!(Pl.modelLit x_3.fst x_3.snd.fst x_3.snd.snd).snd) (Bool.false = Pl.modelAll x.fst x.snd.fst x.snd.snd)
 (condP (!(Pl.modelLit x_3.fst x_3.snd.fst x_3.snd.snd).fst) (Bool.false = Pl.modelAll x.fst x.snd.fst x.snd.snd)
 (Exists fun (x' : Nat) =>
 (Pl.modelOk x.fst x.snd.fst = Bool.true ∧ x' ≤ x.snd.snd.length ∧ x.snd.snd.all (Pl.litIs x.fst x.snd.fst) = (List.drop x' x.snd.snd).all (Pl.litIs x.fst x.snd.fst)) ∧
 x.snd.snd.length - x' < x.snd.snd.length - x_2 ∧
 ((0 : Nat) = (0 : Nat) ∧
 (0 : Nat) = (0 : Nat) ∧
 Is (litrs x.snd.snd) (litrs x.snd.snd) ∧
 (↑x.snd.snd.length : Int) = (↑x.snd.snd.length : Int) ∧ IntKind.i64.wrap ((↑x_2 : Int) + (1 : Int)) = (↑x' : Int) ∧ True) ∧
 (Is (syms x.fst) (syms x.fst) ∧ True) ∧ (Is (mrows x.snd.fst) (mrows x.snd.fst) ∧ True) ∧ True)))
 (Bool.true = Pl.modelAll x.fst x.snd.fst x.snd.snd))) = Goal Tryz.prog [K_iModelLit, K_iModelOk] (A_iModelAll x.1 x.2.1 x.2.2) K_iModelAll.1 K_iModelAll.2 (x) := by kernel_rfl

theorem vc_xModelLit (x : Pl.Sig × Pl.Mdl × Pl.Ltr) : (Exists fun (x_1 : Pl.Sig × Int) =>
 ((Is (syms x.fst) (syms x_1.fst) ∧ True) ∧ (1048576 : Int) = x_1.snd ∧ True) ∧
 (MlG x_1.fst ∧ Fu x_1.snd) ∧
 condP (Decidable.decide (Pl.lim (x_1.snd - (↑(Pl.costG x_1.fst) : Int)) < (0 : Int))) (Bool.true = Bool.true)
 (Exists fun (x_2 : Pl.Mdl × Int) =>
 ((Is (mrows x.snd.fst) (mrows x_2.fst) ∧ True) ∧ Pl.lim (x_1.snd - (↑(Pl.costG x_1.fst) : Int)) = x_2.snd ∧ True) ∧
 (MlM x_2.fst ∧ Fu x_2.snd) ∧
 condP (Decidable.decide (Pl.lim (x_2.snd - (↑(Pl.costM x_2.fst) : Int)) < (0 : Int))) (Bool.true = Bool.true)
 (Exists fun (x_3 : Pl.Ltr × Int) =>
 ((x.snd.snd.fst.fst = x_3.fst.fst.fst ∧
 x.snd.snd.fst.snd.fst.fst = x_3.fst.fst.snd.fst.fst ∧
 Is (terms x.snd.snd.fst.snd.fst.snd) (terms x_3.fst.fst.snd.fst.snd) ∧
 x.snd.snd.fst.snd.snd.fst.fst = x_3.fst.fst.snd.snd.fst.fst ∧
 Is (terms x.snd.snd.fst.snd.snd.fst.snd) (terms x_3.fst.fst.snd.snd.fst.snd) ∧
 Is (terms x.snd.snd.fst.snd.snd.snd.fst) (terms x_3.fst.fst.snd.snd.snd.fst) ∧
 Is (ints x.snd.snd.fst.snd.snd.snd.snd.fst) (ints x_3.fst.fst.snd.snd.snd.snd.fst) ∧
 x.snd.snd.fst.snd.snd.snd.snd.snd.fst = x_3.fst.fst.snd.snd.snd.snd.snd.fst ∧
 x.snd.snd.fst.snd.snd.snd.snd.snd.snd = x_3.fst.fst.snd.snd.snd.snd.snd.snd ∧ x.snd.snd.snd = x_3.fst.snd ∧ True) ∧
 Pl.lim (x_2.snd - (↑(Pl.costM x_2.fst) : Int)) = x_3.snd ∧ True) ∧
 (MlA x_3.fst.fst ∧ Fu x_3.snd) ∧
 condP (Decidable.decide (Pl.lim (x_3.snd - (↑(Pl.costL x_3.fst) : Int)) < (0 : Int))) (Bool.true = Bool.true)
 (Exists fun (x_4 : Pl.Sig) =>
 ((Is (syms x.fst) (syms x_4) ∧ True) ∧ True) ∧
 SmG x_4 ∧
 Exists fun (x_5 : Pl.Mdl) =>
 ((Is (mrows x.snd.fst) (mrows x_5) ∧ True) ∧ True) ∧
 SmM x_5 ∧
 Exists fun (x_6 : Pl.Ltr) =>
 ((x.snd.snd.fst.fst = x_6.fst.fst ∧
 x.snd.snd.fst.snd.fst.fst = x_6.fst.snd.fst.fst ∧
 Is (terms x.snd.snd.fst.snd.fst.snd) (terms x_6.fst.snd.fst.snd) ∧
 x.snd.snd.fst.snd.snd.fst.fst = x_6.fst.snd.snd.fst.fst ∧
 Is (terms x.snd.snd.fst.snd.snd.fst.snd) (terms x_6.fst.snd.snd.fst.snd) ∧
 Is (terms x.snd.snd.fst.snd.snd.snd.fst) (terms x_6.fst.snd.snd.snd.fst) ∧
 Is (ints x.snd.snd.fst.snd.snd.snd.snd.fst) (ints x_6.fst.snd.snd.snd.snd.fst) ∧
 x.snd.snd.fst.snd.snd.snd.snd.snd.fst = x_6.fst.snd.snd.snd.snd.snd.fst ∧
 x.snd.snd.fst.snd.snd.snd.snd.snd.snd = x_6.fst.snd.snd.snd.snd.snd.snd ∧ x.snd.snd.snd = x_6.snd ∧ True) ∧
 True) ∧
 SmA x_6.fst ∧
 Exists fun (x_7 : Pl.Sig × Pl.Mdl × Pl.Ltr) =>
 ((Is (syms x_4) (syms x_7.fst) ∧ True) ∧
 (Is (mrows x_5) (mrows x_7.snd.fst) ∧ True) ∧
 (x_6.fst.fst = x_7.snd.snd.fst.fst ∧
 x_6.fst.snd.fst.fst = x_7.snd.snd.fst.snd.fst.fst ∧
 Is (terms x_6.fst.snd.fst.snd) (terms x_7.snd.snd.fst.snd.fst.snd) ∧
 x_6.fst.snd.snd.fst.fst = x_7.snd.snd.fst.snd.snd.fst.fst ∧
 Is (terms x_6.fst.snd.snd.fst.snd) (terms x_7.snd.snd.fst.snd.snd.fst.snd) ∧
 Is (terms x_6.fst.snd.snd.snd.fst) (terms x_7.snd.snd.fst.snd.snd.snd.fst) ∧
 Is (ints x_6.fst.snd.snd.snd.snd.fst) (ints x_7.snd.snd.fst.snd.snd.snd.snd.fst) ∧
 x_6.fst.snd.snd.snd.snd.snd.fst = x_7.snd.snd.fst.snd.snd.snd.snd.snd.fst ∧
 x_6.fst.snd.snd.snd.snd.snd.snd = x_7.snd.snd.fst.snd.snd.snd.snd.snd.snd ∧ x_6.snd = x_7.snd.snd.snd ∧ True) ∧
 True) ∧
 (SmG x_7.fst ∧ SmM x_7.snd.fst ∧ SmA x_7.snd.snd.fst) ∧
 Exists fun (x_8 : Pl.Sig) =>
 ((Is (syms x.fst) (syms x_8) ∧ True) ∧ True) ∧
 SmG x_8 ∧
 Exists fun (x_9 : Pl.Mdl) =>
 ((Is (mrows x.snd.fst) (mrows x_9) ∧ True) ∧ True) ∧
 SmM x_9 ∧
 Exists fun (x_10 : Pl.Ltr) =>
 ((x.snd.snd.fst.fst = x_10.fst.fst ∧
 x.snd.snd.fst.snd.fst.fst = x_10.fst.snd.fst.fst ∧
 Is (terms x.snd.snd.fst.snd.fst.snd) (terms x_10.fst.snd.fst.snd) ∧
 x.snd.snd.fst.snd.snd.fst.fst = x_10.fst.snd.snd.fst.fst ∧
 Is (terms x.snd.snd.fst.snd.snd.fst.snd) (terms x_10.fst.snd.snd.fst.snd) ∧
 Is (terms x.snd.snd.fst.snd.snd.snd.fst) (terms x_10.fst.snd.snd.snd.fst) ∧
 Is (ints x.snd.snd.fst.snd.snd.snd.snd.fst) (ints x_10.fst.snd.snd.snd.snd.fst) ∧
 x.snd.snd.fst.snd.snd.snd.snd.snd.fst = x_10.fst.snd.snd.snd.snd.snd.fst ∧
 x.snd.snd.fst.snd.snd.snd.snd.snd.snd = x_10.fst.snd.snd.snd.snd.snd.snd ∧ x.snd.snd.snd = x_10.snd ∧ True) ∧
 True) ∧
 SmA x_10.fst ∧
 Exists fun (x_11 : Pl.Sig × Pl.Mdl × Pl.Ltr) =>
 ((Is (syms x_8) (syms x_11.fst) ∧ True) ∧
 (Is (mrows x_9) (mrows x_11.snd.fst) ∧ True) ∧
 (x_10.fst.fst = x_11.snd.snd.fst.fst ∧
 x_10.fst.snd.fst.fst = x_11.snd.snd.fst.snd.fst.fst ∧
 Is (terms x_10.fst.snd.fst.snd) (terms x_11.snd.snd.fst.snd.fst.snd) ∧
 x_10.fst.snd.snd.fst.fst = x_11.snd.snd.fst.snd.snd.fst.fst ∧
 Is (terms x_10.fst.snd.snd.fst.snd) (terms x_11.snd.snd.fst.snd.snd.fst.snd) ∧
 Is (terms x_10.fst.snd.snd.snd.fst) (terms x_11.snd.snd.fst.snd.snd.snd.fst) ∧
 Is (ints x_10.fst.snd.snd.snd.snd.fst) (ints x_11.snd.snd.fst.snd.snd.snd.snd.fst) ∧
 x_10.fst.snd.snd.snd.snd.snd.fst = x_11.snd.snd.fst.snd.snd.snd.snd.snd.fst ∧
 x_10.fst.snd.snd.snd.snd.snd.snd = x_11.snd.snd.fst.snd.snd.snd.snd.snd.snd ∧
 x_10.snd = x_11.snd.snd.snd ∧ True) ∧
 True) ∧
 (SmG x_11.fst ∧ SmM x_11.snd.fst ∧ SmA x_11.snd.snd.fst) ∧
 condP (!(Pl.modelLit x_11.fst x_11.snd.fst x_11.snd.snd).fst == (Pl.modelLit x_7.fst x_7.snd.fst x_7.snd.snd).fst)
 (Bool.false = Bool.true)
 (condP (!(Pl.modelLit x_11.fst x_11.snd.fst x_11.snd.snd).snd == (Pl.modelLit x_7.fst x_7.snd.fst x_7.snd.snd).snd)
 (Bool.false = Bool.true)
 (Exists fun (x_12 : Pl.Sig) =>
 ((Is (syms x.fst) (syms x_12) ∧ True) ∧ True) ∧
 SmG x_12 ∧
 Exists fun (x_13 : Pl.Sig × Pl.Sig) =>
 ((Is (syms x_8) (syms x_13.fst) ∧ True) ∧ (Is (syms x_12) (syms x_13.snd) ∧ True) ∧ True) ∧
 SmG x_13.fst ∧
 condP (!Decidable.decide (x_13.fst = x_13.snd)) (Bool.false = Bool.true)
 (Exists fun (x_14 : Pl.Mdl) =>
 ((Is (mrows x.snd.fst) (mrows x_14) ∧ True) ∧ True) ∧
 SmM x_14 ∧
 Exists fun (x_15 : Pl.Mdl × Pl.Mdl) =>
 ((Is (mrows x_9) (mrows x_15.fst) ∧ True) ∧
 (Is (mrows x_14) (mrows x_15.snd) ∧ True) ∧ True) ∧
 SmM x_15.fst ∧
 condP (!Decidable.decide (x_15.fst = x_15.snd)) (Bool.false = Bool.true)
 (Exists fun (x_16 : Pl.Ltr) =>
 ((x.snd.snd.fst.fst = x_16.fst.fst ∧
 x.snd.snd.fst.snd.fst.fst = x_16.fst.snd.fst.fst ∧
 Is (terms x.snd.snd.fst.snd.fst.snd) (terms x_16.fst.snd.fst.snd) ∧
 x.snd.snd.fst.snd.snd.fst.fst = x_16.fst.snd.snd.fst.fst ∧
 Is (terms x.snd.snd.fst.snd.snd.fst.snd)
 (terms x_16.fst.snd.snd.fst.snd) ∧
 Is (terms x.snd.snd.fst.snd.snd.snd.fst)
 (terms x_16.fst.snd.snd.snd.fst) ∧
 Is (ints x.snd.snd.fst.snd.snd.snd.snd.fst)
 (ints x_16.fst.snd.snd.snd.snd.fst) ∧
 x.snd.snd.fst.snd.snd.snd.snd.snd.fst = x_16.fst.snd.snd.snd.snd.snd.fst ∧
 x.snd.snd.fst.snd.snd.snd.snd.snd.snd = x_16.fst.snd.snd.snd.snd.snd.snd ∧
 x.snd.snd.snd = x_16.snd ∧ True) ∧
 True) ∧
 SmA x_16.fst ∧
 Exists fun (x : Pl.Ltr × Pl.Ltr) =>
 ((x_10.fst.fst = x.fst.fst.fst ∧
 x_10.fst.snd.fst.fst = x.fst.fst.snd.fst.fst ∧
 Is (terms x_10.fst.snd.fst.snd) (terms x.fst.fst.snd.fst.snd) ∧
 x_10.fst.snd.snd.fst.fst = x.fst.fst.snd.snd.fst.fst ∧
 Is (terms x_10.fst.snd.snd.fst.snd)
 (terms x.fst.fst.snd.snd.fst.snd) ∧
 Is (terms x_10.fst.snd.snd.snd.fst)
 (terms x.fst.fst.snd.snd.snd.fst) ∧
 Is (ints x_10.fst.snd.snd.snd.snd.fst)
 (ints x.fst.fst.snd.snd.snd.snd.fst) ∧
 x_10.fst.snd.snd.snd.snd.snd.fst = x.fst.fst.snd.snd.snd.snd.snd.fst ∧
 x_10.fst.snd.snd.snd.snd.snd.snd =
 x.fst.fst.snd.snd.snd.snd.snd.snd ∧
 x_10.snd = x.fst.snd ∧ True) ∧
 (x_16.fst.fst = x.snd.fst.fst ∧
 x_16.fst.snd.fst.fst = x.snd.fst.snd.fst.fst ∧
 Is (terms x_16.fst.snd.fst.snd) (terms x.snd.fst.snd.fst.snd) ∧
 x_16.fst.snd.snd.fst.fst = x.snd.fst.snd.snd.fst.fst ∧
 Is (terms x_16.fst.snd.snd.fst.snd)
 (terms x.snd.fst.snd.snd.fst.snd) ∧
 Is (terms x_16.fst.snd.snd.snd.fst)
 (terms x.snd.fst.snd.snd.snd.fst) ∧
 Is (ints x_16.fst.snd.snd.snd.snd.fst)
 (ints x.snd.fst.snd.snd.snd.snd.fst) ∧
 x_16.fst.snd.snd.snd.snd.snd.fst =
 x.snd.fst.snd.snd.snd.snd.snd.fst ∧
 x_16.fst.snd.snd.snd.snd.snd.snd =
 x.snd.fst.snd.snd.snd.snd.snd.snd ∧
 x_16.snd = x.snd.snd ∧ True) ∧
 True) ∧
 SmA x.fst.fst ∧
 condP (!Decidable.decide (x.fst = x.snd)) (Bool.false = Bool.true)
 (Bool.true = Bool.true))))))))) = Goal Tryz.prog [K_szSig, K_szModel, K_szLit, K_toSig, K_toModel, K_toLit, K_sModelLit, K_iModelLit, K_eqSig, K_eqModel, K_eqLit] ([]) K_xModelLit.1 K_xModelLit.2 (x) := by kernel_rfl

theorem vc_xModelAll (x : Pl.Sig × Pl.Mdl × List Pl.Ltr) : (Exists fun (x_1 : Pl.Sig × Int) =>
 ((Is (syms x.fst) (syms x_1.fst) ∧ True) ∧ (1048576 : Int) = x_1.snd ∧ True) ∧
 (MlG x_1.fst ∧ Fu x_1.snd) ∧
 condP (Decidable.decide (Pl.lim (x_1.snd - (↑(Pl.costG x_1.fst) : Int)) < (0 : Int))) (Bool.true = Bool.true)
 (Exists fun (x_2 : Pl.Mdl × Int) =>
 ((Is (mrows x.snd.fst) (mrows x_2.fst) ∧ True) ∧ Pl.lim (x_1.snd - (↑(Pl.costG x_1.fst) : Int)) = x_2.snd ∧ True) ∧
 (MlM x_2.fst ∧ Fu x_2.snd) ∧
 condP (Decidable.decide (Pl.lim (x_2.snd - (↑(Pl.costM x_2.fst) : Int)) < (0 : Int))) (Bool.true = Bool.true)
 (Exists fun (x_3 : List Pl.Ltr × Int) =>
 (Is (litrs x.snd.snd) (litrs x_3.fst) ∧ Pl.lim (x_2.snd - (↑(Pl.costM x_2.fst) : Int)) = x_3.snd ∧ True) ∧
 (MlLs x_3.fst ∧ Fu x_3.snd) ∧
 condP (Decidable.decide (Pl.lim (x_3.snd - (↑(Pl.costLs x_3.fst) : Int)) < (0 : Int))) (Bool.true = Bool.true)
 (Exists fun (x_4 : Pl.Sig) =>
 ((Is (syms x.fst) (syms x_4) ∧ True) ∧ True) ∧
 SmG x_4 ∧
 Exists fun (x_5 : Pl.Mdl) =>
 ((Is (mrows x.snd.fst) (mrows x_5) ∧ True) ∧ True) ∧
 SmM x_5 ∧
 Exists fun (x_6 : List Pl.Ltr) =>
 (Is (litrs x.snd.snd) (litrs x_6) ∧ True) ∧
 SmLs x_6 ∧
 Exists fun (x_7 : Pl.Sig × Pl.Mdl × List Pl.Ltr) =>
 ((Is (syms x_4) (syms x_7.fst) ∧ True) ∧
 (Is (mrows x_5) (mrows x_7.snd.fst) ∧ True) ∧ Is (litrs x_6) (litrs x_7.snd.snd) ∧ True) ∧
 (SmG x_7.fst ∧ SmM x_7.snd.fst ∧ SmLs x_7.snd.snd) ∧
 Exists fun (x_8 : Pl.Sig) =>
 ((Is (syms x.fst) (syms x_8) ∧ True) ∧ True) ∧
 SmG x_8 ∧
 Exists fun (x_9 : Pl.Mdl) =>
 ((Is (mrows x.snd.fst) (mrows x_9) ∧ True) ∧ True) ∧
 SmM x_9 ∧
 Exists fun (x_10 : List Pl.Ltr) =>
 (Is (litrs x.snd.snd) (litrs x_10) ∧ True) ∧
 SmLs x_10 ∧
 Exists fun (x_11 : Pl.Sig × Pl.Mdl × List Pl.Ltr) =>
 ((Is (syms x_8) (syms x_11.fst) ∧ True) ∧
 (Is (mrows x_9) (mrows x_11.snd.fst) ∧ True) ∧ Is (litrs x_10) (litrs x_11.snd.snd) ∧ True) ∧
 (SmG x_11.fst ∧ SmM x_11.snd.fst ∧ SmLs x_11.snd.snd) ∧
 condP (!Pl.modelAll x_11.fst x_11.snd.fst x_11.snd.snd == Pl.modelAll x_7.fst x_7.snd.fst x_7.snd.snd)
 (Bool.false = Bool.true)
 (Exists fun (x_12 : Pl.Sig) =>
 ((Is (syms x.fst) (syms x_12) ∧ True) ∧ True) ∧
 SmG x_12 ∧
 Exists fun (x_13 : Pl.Sig × Pl.Sig) =>
 ((Is (syms x_8) (syms x_13.fst) ∧ True) ∧ (Is (syms x_12) (syms x_13.snd) ∧ True) ∧ True) ∧
 SmG x_13.fst ∧
 condP (!Decidable.decide (x_13.fst = x_13.snd)) (Bool.false = Bool.true)
 (Exists fun (x_14 : Pl.Mdl) =>
 ((Is (mrows x.snd.fst) (mrows x_14) ∧ True) ∧ True) ∧
 SmM x_14 ∧
 Exists fun (x_15 : Pl.Mdl × Pl.Mdl) =>
 ((Is (mrows x_9) (mrows x_15.fst) ∧ True) ∧
 (Is (mrows x_14) (mrows x_15.snd) ∧ True) ∧ True) ∧
 SmM x_15.fst ∧
 condP (!Decidable.decide (x_15.fst = x_15.snd)) (Bool.false = Bool.true)
 (Exists fun (x_16 : List Pl.Ltr) =>
 (Is (litrs x.snd.snd) (litrs x_16) ∧ True) ∧
 SmLs x_16 ∧
 Exists fun (x : List Pl.Ltr × List Pl.Ltr) =>
 (Is (litrs x_10) (litrs x.fst) ∧ Is (litrs x_16) (litrs x.snd) ∧ True) ∧
 SmLs x.fst ∧
 condP (!Decidable.decide (x.fst = x.snd)) (Bool.false = Bool.true)
 (Bool.true = Bool.true)))))))) = Goal Tryz.prog [K_szSig, K_szModel, K_szLitS, K_toSig, K_toModel, K_toLitS, K_sModelAll, K_iModelAll, K_eqSig, K_eqModel, K_eqLitS] ([]) K_xModelAll.1 K_xModelAll.2 (x) := by kernel_rfl

end Cg
