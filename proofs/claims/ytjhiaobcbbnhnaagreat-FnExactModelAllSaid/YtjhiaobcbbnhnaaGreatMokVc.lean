/-
  What is left to show of each function's code, printed by a program: Mok. No condition.
-/
import Derived.Test.YtjhiaobcbbnhnaaGreatMokDefs
import Derived.Test.YtjhiaobcbbnhnaaGreatProg
set_option maxRecDepth 100000
set_option linter.unusedVariables false
namespace Cg
open Go Go.Proofs
theorem vc_l1Abs (x : Int) : (condP (Decidable.decide (x < (-1000000000 : Int))) ((1000000001 : Int) = Pl.abs1 x)
 (condP (Decidable.decide (x > (1000000000 : Int))) ((1000000001 : Int) = Pl.abs1 x)
 (condP (Decidable.decide (x < (0 : Int))) (IntKind.i64.wrap ((0 : Int) - x) = Pl.abs1 x) (x = Pl.abs1 x)))) = Goal Tryz.prog [] ([]) K_l1Abs.1 K_l1Abs.2 (x) := by kernel_rfl

theorem vc_l1Gcd (a b : Nat) : ((Exists fun (x : Nat × Nat) =>
 (x.fst ≤ (4611686018427387904 : Nat) ∧ x.snd ≤ (4611686018427387904 : Nat) ∧ x.fst.gcd x.snd = a.gcd b) ∧ ((↑a : Int) = (↑x.fst : Int) ∧ (↑b : Int) = (↑x.snd : Int) ∧ True) ∧ True) ∧
 ∀ (x : Nat × Nat),
 x.fst ≤ (4611686018427387904 : Nat) ∧ x.snd ≤ (4611686018427387904 : Nat) ∧ x.fst.gcd x.snd = a.gcd b →
 condP (Decidable.decide ((↑x.snd : Int) > (0 : Int)))
 ((↑x.snd : Int) ≠ (0 : Int) ∧
 Exists fun (x' : Nat × Nat) =>
 (x'.fst ≤ (4611686018427387904 : Nat) ∧ x'.snd ≤ (4611686018427387904 : Nat) ∧ x'.fst.gcd x'.snd = a.gcd b) ∧
 x'.snd < x.snd ∧ ((↑x.snd : Int) = (↑x'.fst : Int) ∧ (↑x.fst : Int).tmod (↑x.snd : Int) = (↑x'.snd : Int) ∧ True) ∧ True)
 ((↑x.fst : Int) = (↑(a.gcd b) : Int))) = Goal Tryz.prog [] (A_l1Gcd a b) K_l1Gcd.1 K_l1Gcd.2 ((a, b)) := by kernel_rfl

theorem vc_gcd (a b : Int) : ((Exists fun (x : Nat × Nat) =>
 (x.fst ≤ (4611686018427387904 : Nat) ∧ x.snd ≤ (4611686018427387904 : Nat) ∧ x.fst.gcd x.snd = a.natAbs.gcd b.natAbs) ∧
 ((if IntKind.i64.wrap ((0 : Int) - a) > a then IntKind.i64.wrap ((0 : Int) - a) else a) = (↑x.fst : Int) ∧
 (if IntKind.i64.wrap ((0 : Int) - b) > b then IntKind.i64.wrap ((0 : Int) - b) else b) = (↑x.snd : Int) ∧ True) ∧
 True) ∧
 ∀ (x : Nat × Nat),
 x.fst ≤ (4611686018427387904 : Nat) ∧ x.snd ≤ (4611686018427387904 : Nat) ∧ x.fst.gcd x.snd = a.natAbs.gcd b.natAbs →
 condP (Decidable.decide ((↑x.snd : Int) > (0 : Int)))
 ((↑x.snd : Int) ≠ (0 : Int) ∧
 Exists fun (x' : Nat × Nat) =>
 (x'.fst ≤ (4611686018427387904 : Nat) ∧ x'.snd ≤ (4611686018427387904 : Nat) ∧ x'.fst.gcd x'.snd = a.natAbs.gcd b.natAbs) ∧
 x'.snd < x.snd ∧ ((↑x.snd : Int) = (↑x'.fst : Int) ∧ (↑x.fst : Int).tmod (↑x.snd : Int) = (↑x'.snd : Int) ∧ True) ∧ True)
 ((↑x.fst : Int) = (↑(a.natAbs.gcd b.natAbs) : Int))) = Goal Tryz.prog [] (A_gcd a b) K_gcd.1 K_gcd.2 ((a, b)) := by kernel_rfl

theorem vc_sRatOk (x : Pl.Rt) : (Exists fun (x_1 : Int) =>
 (x.fst = x_1 ∧ True) ∧
 True ∧
 condP (Decidable.decide (Pl.abs1 x_1 ≤ (1000000000 : Int)))
 (condP (Decidable.decide (x.snd ≥ (1 : Int)))
 (condP (Decidable.decide (x.snd ≤ (1000000000 : Int)))
 (Exists fun (x_2 : Int) =>
 (x.fst = x_2 ∧ True) ∧
 True ∧
 Exists fun (x_3 : Nat × Nat) =>
 (Pl.abs1 x_2 = (↑x_3.fst : Int) ∧ x.snd = (↑x_3.snd : Int) ∧ True) ∧
 (x_3.fst ≤ (4611686018427387904 : Nat) ∧ x_3.snd ≤ (4611686018427387904 : Nat)) ∧ ((↑(x_3.fst.gcd x_3.snd) : Int) == (1 : Int)) = Pl.ratOk x)
 (Bool.false = Pl.ratOk x))
 (Bool.false = Pl.ratOk x))
 (Bool.false = Pl.ratOk x)) = Goal Tryz.prog [K_l1Abs, K_l1Gcd] ([]) K_sRatOk.1 K_sRatOk.2 (x) := by kernel_rfl

theorem vc_iRatOk (x : Pl.Rt) : (Exists fun (x_1 : Int × Int × Int) =>
 (x.fst = x_1.fst ∧ (-1000000000 : Int) = x_1.snd.fst ∧ (1000000000 : Int) = x_1.snd.snd ∧ True) ∧
 True ∧
 condP (Pl.withinI x_1.fst x_1.snd.fst x_1.snd.snd)
 (Exists fun (x_2 : Int × Int × Int) =>
 (x.snd = x_2.fst ∧ (1 : Int) = x_2.snd.fst ∧ (1000000000 : Int) = x_2.snd.snd ∧ True) ∧
 True ∧
 condP (Pl.withinI x_2.fst x_2.snd.fst x_2.snd.snd)
 (Exists fun (x_3 : Int × Int) =>
 (x.fst = x_3.fst ∧ x.snd = x_3.snd ∧ True) ∧
 (x_3.fst.natAbs ≤ (4611686018427387904 : Nat) ∧ x_3.snd.natAbs ≤ (4611686018427387904 : Nat)) ∧ ((↑(x_3.fst.natAbs.gcd x_3.snd.natAbs) : Int) == (1 : Int)) = Pl.ratOk x)
 (Bool.false = Pl.ratOk x))
 (Bool.false = Pl.ratOk x)) = Goal Tryz.prog [K_within, K_gcd] ([]) K_iRatOk.1 K_iRatOk.2 (x) := by kernel_rfl

theorem vc_sRatLess (x : Pl.Rt × Pl.Rt) : (Exists fun (x_1 : Pl.Rt) =>
 ((x.fst.fst = x_1.fst ∧ x.fst.snd = x_1.snd ∧ True) ∧ True) ∧
 True ∧
 condP (Pl.ratOk x_1)
 (Exists fun (x_2 : Pl.Rt) =>
 ((x.snd.fst = x_2.fst ∧ x.snd.snd = x_2.snd ∧ True) ∧ True) ∧
 True ∧
 condP (Pl.ratOk x_2) (Decidable.decide (IntKind.i64.wrap (x.fst.fst * x.snd.snd) < IntKind.i64.wrap (x.snd.fst * x.fst.snd)) = Pl.ratLess x.fst x.snd)
 (Bool.false = Pl.ratLess x.fst x.snd))
 (Bool.false = Pl.ratLess x.fst x.snd)) = Goal Tryz.prog [K_sRatOk] ([]) K_sRatLess.1 K_sRatLess.2 (x) := by kernel_rfl

theorem vc_iRatLess (x : Pl.Rt × Pl.Rt) : (Exists fun (x_1 : Pl.Rt) =>
 ((x.fst.fst = x_1.fst ∧ x.fst.snd = x_1.snd ∧ True) ∧ True) ∧
 True ∧
 condP (Pl.ratOk x_1)
 (Exists fun (x_2 : Pl.Rt) =>
 ((x.snd.fst = x_2.fst ∧ x.snd.snd = x_2.snd ∧ True) ∧ True) ∧
 True ∧
 condP (Pl.ratOk x_2) (Decidable.decide (IntKind.i64.wrap (x.fst.fst * x.snd.snd) < IntKind.i64.wrap (x.snd.fst * x.fst.snd)) = Pl.ratLess x.fst x.snd)
 (Bool.false = Pl.ratLess x.fst x.snd))
 (Bool.false = Pl.ratLess x.fst x.snd)) = Goal Tryz.prog [K_iRatOk] ([]) K_iRatLess.1 K_iRatLess.2 (x) := by kernel_rfl

theorem vc_compareRats (x : Pl.Rt × Pl.Rt) : (Exists fun (x_1 : Pl.Rt × Pl.Rt) =>
 ((x.fst.fst = x_1.fst.fst ∧ x.fst.snd = x_1.fst.snd ∧ True) ∧ (x.snd.fst = x_1.snd.fst ∧ x.snd.snd = x_1.snd.snd ∧ True) ∧ True) ∧
 True ∧
 condP (Pl.ratLess x_1.fst x_1.snd) ((-1 : Int) = Pl.cmpRat x.fst x.snd)
 (Exists fun (x_2 : Pl.Rt × Pl.Rt) =>
 ((x.snd.fst = x_2.fst.fst ∧ x.snd.snd = x_2.fst.snd ∧ True) ∧ (x.fst.fst = x_2.snd.fst ∧ x.fst.snd = x_2.snd.snd ∧ True) ∧ True) ∧
 True ∧ condP (Pl.ratLess x_2.fst x_2.snd) ((1 : Int) = Pl.cmpRat x.fst x.snd) ((0 : Int) = Pl.cmpRat x.fst x.snd))) = Goal Tryz.prog [K_iRatLess] ([]) K_compareRats.1 K_compareRats.2 (x) := by kernel_rfl

theorem vc_l7Row (x : Pl.Rw) : ((Exists fun (x_1 : Nat) =>
 (x_1 ≤ x.snd.fst.length ∧ x.snd.fst.all Pl.ratOk = (List.drop x_1 x.snd.fst).all Pl.ratOk) ∧
 ((0 : Nat) = (0 : Nat) ∧ (0 : Int) = (↑x_1 : Int) ∧ True) ∧
 (x.fst = x.fst ∧ Is (rats x.snd.fst) (rats x.snd.fst) ∧ x.snd.snd.fst = x.snd.snd.fst ∧ x.snd.snd.snd = x.snd.snd.snd ∧ True) ∧ True) ∧
 ∀ (x_1 : Nat),
 x_1 ≤ x.snd.fst.length ∧ x.snd.fst.all Pl.ratOk = (List.drop x_1 x.snd.fst).all Pl.ratOk →
 condP (Decidable.decide ((↑x_1 : Int) < (↑x.snd.fst.length : Int)))
 (((0 : Int) ≤ (↑x_1 : Int) ∧ (↑x_1 : Int) < (↑x.snd.fst.length : Int)) ∧
 x_1 < x.snd.fst.length ∧
 Exists fun (x_2 : Pl.Rt) =>
 (((x.snd.fst.getD x_1 Pl.dQ).fst = x_2.fst ∧ (x.snd.fst.getD x_1 Pl.dQ).snd = x_2.snd ∧ True) ∧ True) ∧
 True ∧
 condP (!Pl.ratOk x_2) (Bool.false = Pl.rowOk x)
 (Exists fun (x' : Nat) =>
 (x' ≤ x.snd.fst.length ∧ x.snd.fst.all Pl.ratOk = (List.drop x' x.snd.fst).all Pl.ratOk) ∧
 x.snd.fst.length - x' < x.snd.fst.length - x_1 ∧
 ((0 : Nat) = (0 : Nat) ∧ IntKind.i64.wrap ((↑x_1 : Int) + (1 : Int)) = (↑x' : Int) ∧ True) ∧
 (x.fst = x.fst ∧ Is (rats x.snd.fst) (rats x.snd.fst) ∧ x.snd.snd.fst = x.snd.snd.fst ∧ x.snd.snd.snd = x.snd.snd.snd ∧ True) ∧ True))
 (Exists fun (x_2 : ByteArray) =>
 (x.fst = x_2 ∧ True) ∧
 x_2.size ≤ (1048576 : Nat) ∧
 condP (Pl.nameOk x_2)
 (condP (Decidable.decide ((↑x.snd.fst.length : Int) ≤ (2 : Int)))
 (Exists fun (x_3 : Pl.Rt) => ((x.snd.snd.fst = x_3.fst ∧ x.snd.snd.snd = x_3.snd ∧ True) ∧ True) ∧ True ∧ Pl.ratOk x_3 = Pl.rowOk x) (Bool.false = Pl.rowOk x))
 (Bool.false = Pl.rowOk x))) = Goal Tryz.prog [K_sRatOk, K_sNameOk] (A_l7Row x) K_l7Row.1 K_l7Row.2 (x) := by kernel_rfl

theorem vc_l7Less (x : Pl.Rw × Pl.Rw) : (condP (!x.fst.fst.toList == x.snd.fst.toList) (Op.bytesLess x.fst.fst.toList x.snd.fst.toList = Pl.rowLess x.fst x.snd)
 (condP ((↑x.fst.snd.fst.length : Int) != (↑x.snd.snd.fst.length : Int)) (Decidable.decide ((↑x.fst.snd.fst.length : Int) < (↑x.snd.snd.fst.length : Int)) = Pl.rowLess x.fst x.snd)
 ((Exists fun (x_1 : Nat) =>
 (x_1 ≤ x.fst.snd.fst.length ∧ x.fst.snd.fst.length = x.snd.snd.fst.length ∧ Pl.rowLess x.fst x.snd = Pl.argsLess (List.drop x_1 x.fst.snd.fst) (List.drop x_1 x.snd.snd.fst)) ∧
 ((0 : Nat) = (0 : Nat) ∧ (0 : Nat) = (0 : Nat) ∧ (0 : Int) = (↑x_1 : Int) ∧ True) ∧
 (x.fst.fst = x.fst.fst ∧ Is (rats x.fst.snd.fst) (rats x.fst.snd.fst) ∧ x.fst.snd.snd.fst = x.fst.snd.snd.fst ∧ x.fst.snd.snd.snd = x.fst.snd.snd.snd ∧ True) ∧
 (x.snd.fst = x.snd.fst ∧ Is (rats x.snd.snd.fst) (rats x.snd.snd.fst) ∧ x.snd.snd.snd.fst = x.snd.snd.snd.fst ∧ x.snd.snd.snd.snd = x.snd.snd.snd.snd ∧ True) ∧ True) ∧
 ∀ (x_1 : Nat),
 x_1 ≤ x.fst.snd.fst.length ∧ x.fst.snd.fst.length = x.snd.snd.fst.length ∧ Pl.rowLess x.fst x.snd = Pl.argsLess (List.drop x_1 x.fst.snd.fst) (List.drop x_1 x.snd.snd.fst) →
 condP (Decidable.decide ((↑x_1 : Int) < (↑x.fst.snd.fst.length : Int)))
 (((0 : Int) ≤ (↑x_1 : Int) ∧ (↑x_1 : Int) < (↑x.fst.snd.fst.length : Int)) ∧
 x_1 < x.fst.snd.fst.length ∧
 ((0 : Int) ≤ (↑x_1 : Int) ∧ (↑x_1 : Int) < (↑x.snd.snd.fst.length : Int)) ∧
 x_1 < x.snd.snd.fst.length ∧
 condP (!((x.fst.snd.fst.getD x_1 Pl.dQ).fst == (x.snd.snd.fst.getD x_1 Pl.dQ).fst && (x.fst.snd.fst.getD x_1 Pl.dQ).snd == (x.snd.snd.fst.getD x_1 Pl.dQ).snd))
 (((0 : Int) ≤ (↑x_1 : Int) ∧ (↑x_1 : Int) < (↑x.fst.snd.fst.length : Int)) ∧
 x_1 < x.fst.snd.fst.length ∧
 ((0 : Int) ≤ (↑x_1 : Int) ∧ (↑x_1 : Int) < (↑x.snd.snd.fst.length : Int)) ∧
 x_1 < x.snd.snd.fst.length ∧
 Exists fun (x_2 : Pl.Rt × Pl.Rt) =>
 (((x.fst.snd.fst.getD x_1 Pl.dQ).fst = x_2.fst.fst ∧ (x.fst.snd.fst.getD x_1 Pl.dQ).snd = x_2.fst.snd ∧ True) ∧
 ((x.snd.snd.fst.getD x_1 Pl.dQ).fst = x_2.snd.fst ∧ (x.snd.snd.fst.getD x_1 Pl.dQ).snd = x_2.snd.snd ∧ True) ∧ True) ∧
 True ∧ Pl.ratLess x_2.fst x_2.snd = Pl.rowLess x.fst x.snd)
 (Exists fun (x' : Nat) =>
 (x' ≤ x.fst.snd.fst.length ∧ x.fst.snd.fst.length = x.snd.snd.fst.length ∧ Pl.rowLess x.fst x.snd = Pl.argsLess (List.drop x' x.fst.snd.fst) (List.drop x' x.snd.snd.fst)) ∧
 x.fst.snd.fst.length - x' < x.fst.snd.fst.length - x_1 ∧
 ((0 : Nat) = (0 : Nat) ∧ (0 : Nat) = (0 : Nat) ∧ IntKind.i64.wrap ((↑x_1 : Int) + (1 : Int)) = (↑x' : Int) ∧ True) ∧
 (x.fst.fst = x.fst.fst ∧ Is (rats x.fst.snd.fst) (rats x.fst.snd.fst) ∧ x.fst.snd.snd.fst = x.fst.snd.snd.fst ∧ x.fst.snd.snd.snd = x.fst.snd.snd.snd ∧ True) ∧
 (x.snd.fst = x.snd.fst ∧ Is (rats x.snd.snd.fst) (rats x.snd.snd.fst) ∧ x.snd.snd.snd.fst = x.snd.snd.snd.fst ∧ x.snd.snd.snd.snd = x.snd.snd.snd.snd ∧ True) ∧
 True))
 (Bool.false = Pl.rowLess x.fst x.snd)))) = Goal Tryz.prog [K_sRatLess] (A_l7Less x.1 x.2) K_l7Less.1 K_l7Less.2 (x) := by kernel_rfl

theorem vc_l7Right (x : Pl.Mdl) : ((Exists fun (x_1 : Nat) =>
 (x_1 ≤ List.length x ∧ Pl.mL Option.none x = Pl.mL (Pl.prevR x x_1) (List.drop x_1 x)) ∧
 ((0 : Nat) = (0 : Nat) ∧ (0 : Int) = (↑x_1 : Int) ∧ True) ∧ (Is (mrows x) (mrows x) ∧ True) ∧ True) ∧
 ∀ (x_1 : Nat),
 x_1 ≤ List.length x ∧ Pl.mL Option.none x = Pl.mL (Pl.prevR x x_1) (List.drop x_1 x) →
 condP (Decidable.decide ((↑x_1 : Int) < (↑(List.length x) : Int)))
 (((0 : Int) ≤ (↑x_1 : Int) ∧ (↑x_1 : Int) < (↑(List.length x) : Int)) ∧
 x_1 < List.length x ∧
 Exists fun (x_2 : Pl.Rw) =>
 (((List.getD x x_1 Pl.dR).fst = x_2.fst ∧
 Is (rats (List.getD x x_1 Pl.dR).snd.fst) (rats x_2.snd.fst) ∧
 (List.getD x x_1 Pl.dR).snd.snd.fst = x_2.snd.snd.fst ∧ (List.getD x x_1 Pl.dR).snd.snd.snd = x_2.snd.snd.snd ∧ True) ∧
 True) ∧
 (x_2.fst.size ≤ (1048576 : Nat) ∧ x_2.snd.fst.length ≤ (1048576 : Nat)) ∧
 condP (!Pl.rowOk x_2) (Bool.false = Pl.mRight x)
 (condP (Decidable.decide ((↑x_1 : Int) > (0 : Int)))
 (((0 : Int) ≤ IntKind.i64.wrap ((↑x_1 : Int) - (1 : Int)) ∧ IntKind.i64.wrap ((↑x_1 : Int) - (1 : Int)) < (↑(List.length x) : Int)) ∧
 (IntKind.i64.wrap ((↑x_1 : Int) - (1 : Int))).toNat < List.length x ∧
 ((0 : Int) ≤ (↑x_1 : Int) ∧ (↑x_1 : Int) < (↑(List.length x) : Int)) ∧
 x_1 < List.length x ∧
 Exists fun (x_3 : Pl.Rw × Pl.Rw) =>
 (((List.getD x (IntKind.i64.wrap ((↑x_1 : Int) - (1 : Int))).toNat Pl.dR).fst = x_3.fst.fst ∧
 Is (rats (List.getD x (IntKind.i64.wrap ((↑x_1 : Int) - (1 : Int))).toNat Pl.dR).snd.fst) (rats x_3.fst.snd.fst) ∧
 (List.getD x (IntKind.i64.wrap ((↑x_1 : Int) - (1 : Int))).toNat Pl.dR).snd.snd.fst = x_3.fst.snd.snd.fst ∧
 (List.getD x (IntKind.i64.wrap ((↑x_1 : Int) - (1 : Int))).toNat Pl.dR).snd.snd.snd = x_3.fst.snd.snd.snd ∧ True) ∧
 ((List.getD x x_1 Pl.dR).fst = x_3.snd.fst ∧
 Is (rats (List.getD x x_1 Pl.dR).snd.fst) (rats x_3.snd.snd.fst) ∧
 (List.getD x x_1 Pl.dR).snd.snd.fst = x_3.snd.snd.snd.fst ∧ (List.getD x x_1 Pl.dR).snd.snd.snd = x_3.snd.snd.snd.snd ∧ True) ∧
 True) ∧
 x_3.fst.snd.fst.length ≤ (1048576 : Nat) ∧
 condP (!Pl.rowLess x_3.fst x_3.snd) (Bool.false = Pl.mRight x)
 (Exists fun (x' : Nat) =>
 (x' ≤ List.length x ∧ Pl.mL Option.none x = Pl.mL (Pl.prevR x x') (List.drop x' x)) ∧
 List.length x - x' < List.length x - x_1 ∧
 ((0 : Nat) = (0 : Nat) ∧ IntKind.i64.wrap ((↑x_1 : Int) + (1 : Int)) = (↑x' : Int) ∧ True) ∧ (Is (mrows x) (mrows x) ∧ True) ∧ True))
 (Exists fun (x' : Nat) =>
 (x' ≤ List.length x ∧ Pl.mL Option.none x = Pl.mL (Pl.prevR x x') (List.drop x' x)) ∧
 List.length x - x' < List.length x - x_1 ∧
 ((0 : Nat) = (0 : Nat) ∧ IntKind.i64.wrap ((↑x_1 : Int) + (1 : Int)) = (↑x' : Int) ∧ True) ∧ (Is (mrows x) (mrows x) ∧ True) ∧ True)))
 (Decidable.decide ((↑(List.length x) : Int) ≤ (40 : Int)) = Pl.mRight x)) = Goal Tryz.prog [K_l7Row, K_l7Less] (A_l7Right x) K_l7Right.1 K_l7Right.2 (x) := by kernel_rfl

theorem vc_l7Fit (x : Pl.Rt × Int) : (Exists fun (x_1 : Pl.Rt) =>
 ((x.fst.fst = x_1.fst ∧ x.fst.snd = x_1.snd ∧ True) ∧ True) ∧
 True ∧ condP (Pl.ratOk x_1) (condP (x.snd == (1 : Int)) (Bool.true = Pl.fit x.fst x.snd) ((x.fst.snd == (1 : Int)) = Pl.fit x.fst x.snd)) (Bool.false = Pl.fit x.fst x.snd)) = Goal Tryz.prog [K_sRatOk] ([]) K_l7Fit.1 K_l7Fit.2 (x) := by kernel_rfl

theorem vc_sModelOk (x : Pl.Sig × Pl.Mdl) : (Exists fun (x_1 : Pl.Sig) =>
 ((Is (syms x.fst) (syms x_1) ∧ True) ∧ True) ∧
 SmG x_1 ∧
 condP (!Pl.sigOk x_1) (Bool.false = Pl.modelOk x.fst x.snd)
 (Exists fun (x_2 : Pl.Mdl) =>
 ((Is (mrows x.snd) (mrows x_2) ∧ True) ∧ True) ∧
 SmM x_2 ∧
 condP (!Pl.mRight x_2) (Bool.false = Pl.modelOk x.fst x.snd)
 ((Exists fun (x_3 : Nat) =>
 (x_3 ≤ List.length x.snd ∧ Pl.modelOk x.fst x.snd = (List.drop x_3 x.snd).all (Pl.rowFits x.fst)) ∧
 ((0 : Nat) = (0 : Nat) ∧ (0 : Nat) = (0 : Nat) ∧ (0 : Int) = (↑x_3 : Int) ∧ True) ∧
 (Is (syms x.fst) (syms x.fst) ∧ True) ∧ (Is (mrows x.snd) (mrows x.snd) ∧ True) ∧ True) ∧
 ∀ (x_3 : Nat),
 x_3 ≤ List.length x.snd ∧ Pl.modelOk x.fst x.snd = (List.drop x_3 x.snd).all (Pl.rowFits x.fst) →
 condP (Decidable.decide ((↑x_3 : Int) < (↑(List.length x.snd) : Int)))
 (((0 : Int) ≤ (↑x_3 : Int) ∧ (↑x_3 : Int) < (↑(List.length x.snd) : Int)) ∧
 x_3 < List.length x.snd ∧
 Exists fun (x_4 : Pl.Sig × ByteArray) =>
 ((Is (syms x.fst) (syms x_4.fst) ∧ True) ∧ (List.getD x.snd x_3 Pl.dR).fst = x_4.snd ∧ True) ∧
 SmG x_4.fst ∧
 condP (!(Pl.find x_4.fst x_4.snd).isSome) (Bool.false = Pl.modelOk x.fst x.snd)
 (((0 : Int) ≤ (↑x_3 : Int) ∧ (↑x_3 : Int) < (↑(List.length x.snd) : Int)) ∧
 x_3 < List.length x.snd ∧
 condP ((↑(Pl.symOf x_4.fst x_4.snd).snd.fst.length : Int) != (↑(List.getD x.snd x_3 Pl.dR).snd.fst.length : Int)) (Bool.false = Pl.modelOk x.fst x.snd)
 (((0 : Int) ≤ (↑x_3 : Int) ∧ (↑x_3 : Int) < (↑(List.length x.snd) : Int)) ∧
 x_3 < List.length x.snd ∧
 Exists fun (x_5 : Pl.Rt × Int) =>
 (((List.getD x.snd x_3 Pl.dR).snd.snd.fst = x_5.fst.fst ∧ (List.getD x.snd x_3 Pl.dR).snd.snd.snd = x_5.fst.snd ∧ True) ∧
 (Pl.symOf x_4.fst x_4.snd).snd.snd = x_5.snd ∧ True) ∧
 True ∧
 condP (!Pl.fit x_5.fst x_5.snd) (Bool.false = Pl.modelOk x.fst x.snd)
 ((Exists fun (x_6 : Nat) =>
 (x_3 < List.length x.snd ∧
 x_6 ≤ (List.getD x.snd x_3 Pl.dR).snd.fst.length ∧
 (Pl.symOf x.fst (List.getD x.snd x_3 Pl.dR).fst).snd.fst.length = (List.getD x.snd x_3 Pl.dR).snd.fst.length ∧
 Pl.rowFits x.fst (List.getD x.snd x_3 Pl.dR) =
 Pl.fitL (List.drop x_6 (List.getD x.snd x_3 Pl.dR).snd.fst)
 (List.drop x_6 (Pl.symOf x.fst (List.getD x.snd x_3 Pl.dR).fst).snd.fst)) ∧
 ((0 : Nat) = (0 : Nat) ∧ (0 : Nat) = (0 : Nat) ∧ (↑x_3 : Int) = (↑x_3 : Int) ∧ (0 : Nat) = (0 : Nat) ∧ (0 : Int) = (↑x_6 : Int) ∧ True) ∧
 (Is (syms x.fst) (syms x.fst) ∧ True) ∧
 (Is (mrows x.snd) (mrows x.snd) ∧ True) ∧
 ((Pl.symOf x_4.fst x_4.snd).fst = (Pl.symOf x.fst (List.getD x.snd x_3 Pl.dR).fst).fst ∧
 Is (ints (Pl.symOf x_4.fst x_4.snd).snd.fst) (ints (Pl.symOf x.fst (List.getD x.snd x_3 Pl.dR).fst).snd.fst) ∧
 (Pl.symOf x_4.fst x_4.snd).snd.snd = (Pl.symOf x.fst (List.getD x.snd x_3 Pl.dR).fst).snd.snd ∧ True) ∧
 True) ∧
 ∀ (x_6 : Nat),
 x_3 < List.length x.snd ∧
 x_6 ≤ (List.getD x.snd x_3 Pl.dR).snd.fst.length ∧
 (Pl.symOf x.fst (List.getD x.snd x_3 Pl.dR).fst).snd.fst.length = (List.getD x.snd x_3 Pl.dR).snd.fst.length ∧
 Pl.rowFits x.fst (List.getD x.snd x_3 Pl.dR) =
 Pl.fitL (List.drop x_6 (List.getD x.snd x_3 Pl.dR).snd.fst)
 (List.drop x_6 (Pl.symOf x.fst (List.getD x.snd x_3 Pl.dR).fst).snd.fst) →
 condP (Decidable.decide ((↑x_6 : Int) < (↑(Pl.symOf x.fst (List.getD x.snd x_3 Pl.dR).fst).snd.fst.length : Int)))
 (((0 : Int) ≤ (↑x_3 : Int) ∧ (↑x_3 : Int) < (↑(List.length x.snd) : Int)) ∧
 x_3 < List.length x.snd ∧
 ((0 : Int) ≤ (↑x_6 : Int) ∧ (↑x_6 : Int) < (↑(List.getD x.snd x_3 Pl.dR).snd.fst.length : Int)) ∧
 x_6 < (List.getD x.snd x_3 Pl.dR).snd.fst.length ∧
 ((0 : Int) ≤ (↑x_6 : Int) ∧ (↑x_6 : Int) < (↑(Pl.symOf x.fst (List.getD x.snd x_3 Pl.dR).fst).snd.fst.length : Int)) ∧
 x_6 < (Pl.symOf x.fst (List.getD x.snd x_3 Pl.dR).fst).snd.fst.length ∧
 Exists fun (x_7 : Pl.Rt × Int) =>
 ((((List.getD x.snd x_3 Pl.dR).snd.fst.getD x_6 Pl.dQ).fst = x_7.fst.fst ∧
 ((List.getD x.snd x_3 Pl.dR).snd.fst.getD x_6 Pl.dQ).snd = x_7.fst.snd ∧ True) ∧
 (Pl.symOf x.fst (List.getD x.snd x_3 Pl.dR).fst).snd.fst.getD x_6 (0 : Int) = x_7.snd ∧ True) ∧
 True ∧
 condP (!Pl.fit x_7.fst x_7.snd) (Bool.false = Pl.modelOk x.fst x.snd)
 (Exists fun (x' : Nat) =>
 (x_3 < List.length x.snd ∧
 x' ≤ (List.getD x.snd x_3 Pl.dR).snd.fst.length ∧
 (Pl.symOf x.fst (List.getD x.snd x_3 Pl.dR).fst).snd.fst.length = (List.getD x.snd x_3 Pl.dR).snd.fst.length ∧
 Pl.rowFits x.fst (List.getD x.snd x_3 Pl.dR) =
 Pl.fitL (List.drop x' (List.getD x.snd x_3 Pl.dR).snd.fst)
 (List.drop x' (Pl.symOf x.fst (List.getD x.snd x_3 Pl.dR).fst).snd.fst)) ∧
 (List.getD x.snd x_3 Pl.dR).snd.fst.length - x' < (List.getD x.snd x_3 Pl.dR).snd.fst.length - x_6 ∧
 ((0 : Nat) = (0 : Nat) ∧
 (0 : Nat) = (0 : Nat) ∧
 (↑x_3 : Int) = (↑x_3 : Int) ∧
 (0 : Nat) = (0 : Nat) ∧ IntKind.i64.wrap ((↑x_6 : Int) + (1 : Int)) = (↑x' : Int) ∧ True) ∧
 (Is (syms x.fst) (syms x.fst) ∧ True) ∧
 (Is (mrows x.snd) (mrows x.snd) ∧ True) ∧
 ((Pl.symOf x.fst (List.getD x.snd x_3 Pl.dR).fst).fst =
 (Pl.symOf x.fst (List.getD x.snd x_3 Pl.dR).fst).fst ∧
 Is (ints (Pl.symOf x.fst (List.getD x.snd x_3 Pl.dR).fst).snd.fst)
 (ints (Pl.symOf x.fst (List.getD x.snd x_3 Pl.dR).fst).snd.fst) ∧
 (Pl.symOf x.fst (List.getD x.snd x_3 Pl.dR).fst).snd.snd =
 (Pl.symOf x.fst (List.getD x.snd x_3 Pl.dR).fst).snd.snd ∧
 True) ∧
 True))
 (Exists fun (x' : Nat) =>
 (x' ≤ List.length x.snd ∧ Pl.modelOk x.fst x.snd = (List.drop x' x.snd).all (Pl.rowFits x.fst)) ∧
 List.length x.snd - x' < List.length x.snd - x_3 ∧
 ((0 : Nat) = (0 : Nat) ∧ (0 : Nat) = (0 : Nat) ∧ IntKind.i64.wrap ((↑x_3 : Int) + (1 : Int)) = (↑x' : Int) ∧ True) ∧
 (Is (syms x.fst) (syms x.fst) ∧ True) ∧ (Is (mrows x.snd) (mrows x.snd) ∧ True) ∧ True)))))
 (Bool.true = Pl.modelOk x.fst x.snd)))) = Goal Tryz.prog [K_sSigOk, K_l7Right, K_l4Find, K_l7Fit] (A_sModelOk x.1 x.2) K_sModelOk.1 K_sModelOk.2 (x) := by kernel_rfl

theorem vc_RowOk1 (x : Pl.Rt) : (Exists fun (x_1 : Pl.Rt) => ((x.fst = x_1.fst ∧ x.snd = x_1.snd ∧ True) ∧ True) ∧ True ∧ (!Pl.ratOk x_1) = !Pl.ratOk x) = Goal Tryz.prog [K_iRatOk] ([]) K_RowOk1.1 K_RowOk1.2 (x) := by kernel_rfl

theorem vc_IndexRat (x : List Pl.Rt) : ((Exists fun (x_1 : Nat) =>
 (x_1 ≤ x.length ∧
 Pl.idx (fun (y : Pl.Rt) => !Pl.ratOk y) x =
 if Pl.idx (fun (y : Pl.Rt) => !Pl.ratOk y) (List.drop x_1 x) < (0 : Int) then (-1 : Int) else Pl.idx (fun (y : Pl.Rt) => !Pl.ratOk y) (List.drop x_1 x) + (↑x_1 : Int)) ∧
 (Is (rats x) (rats x) ∧ True ∧ (↑x.length : Int) = (↑x.length : Int) ∧ (0 : Int) = (↑x_1 : Int) ∧ True) ∧ True) ∧
 ∀ (x_1 : Nat),
 (x_1 ≤ x.length ∧
 Pl.idx (fun (y : Pl.Rt) => !Pl.ratOk y) x =
 if Pl.idx (fun (y : Pl.Rt) => !Pl.ratOk y) (List.drop x_1 x) < (0 : Int) then (-1 : Int) else Pl.idx (fun (y : Pl.Rt) => !Pl.ratOk y) (List.drop x_1 x) + (↑x_1 : Int)) →
 condP (Decidable.decide ((↑x_1 : Int) < (↑x.length : Int)))
 (((0 : Int) ≤ (↑x_1 : Int) ∧ (↑x_1 : Int) < (↑x.length : Int)) ∧
 x_1 < x.length ∧
 Exists fun (x_2 : Pl.Rt) =>
 (((x.getD x_1 Pl.dQ).fst = x_2.fst ∧ (x.getD x_1 Pl.dQ).snd = x_2.snd ∧ True) ∧ True) ∧
 True ∧
 condP (!Pl.ratOk x_2) ((↑x_1 : Int) = Pl.idx (fun (y : Pl.Rt) => !Pl.ratOk y) x)
 (Exists fun (x' : Nat) =>
 (x' ≤ x.length ∧
 Pl.idx (fun (y : Pl.Rt) => !Pl.ratOk y) x =
 if Pl.idx (fun (y : Pl.Rt) => !Pl.ratOk y) (List.drop x' x) < (0 : Int) then (-1 : Int) else Pl.idx (fun (y : Pl.Rt) => !Pl.ratOk y) (List.drop x' x) + (↑x' : Int)) ∧
 x.length - x' < x.length - x_1 ∧
 (Is (rats x) (rats x) ∧ True ∧ (↑x.length : Int) = (↑x.length : Int) ∧ IntKind.i64.wrap ((↑x_1 : Int) + (1 : Int)) = (↑x' : Int) ∧ True) ∧ True))
 ((-1 : Int) = Pl.idx (fun (y : Pl.Rt) => !Pl.ratOk y) x)) = Goal Tryz.prog [K_RowOk1] (A_IndexRat x) K_IndexRat.1 K_IndexRat.2 (x) := by kernel_rfl

theorem vc_ContainsRat (x : List Pl.Rt) : (Exists fun (x_1 : List Pl.Rt) =>
 (Is (rats x) (rats x_1) ∧ True ∧ True) ∧ Sz x_1 ∧ Decidable.decide (Pl.idx (fun (y : Pl.Rt) => !Pl.ratOk y) x_1 ≥ (0 : Int)) = x.any fun (y : Pl.Rt) => !Pl.ratOk y) = Goal Tryz.prog [K_IndexRat] ([]) K_ContainsRat.1 K_ContainsRat.2 (x) := by kernel_rfl

theorem vc_rowOk (x : Pl.Rw) : (Exists fun (x_1 : ByteArray) =>
 (x.fst = x_1 ∧ True) ∧
 x_1.size ≤ (1048576 : Nat) ∧
 condP (Pl.nameOk x_1)
 (condP (Decidable.decide ((↑x.snd.fst.length : Int) ≤ (2 : Int)))
 (Exists fun (x_2 : Pl.Rt) =>
 ((x.snd.snd.fst = x_2.fst ∧ x.snd.snd.snd = x_2.snd ∧ True) ∧ True) ∧
 True ∧
 condP (Pl.ratOk x_2) (Exists fun (x_3 : List Pl.Rt) => (Is (rats x.snd.fst) (rats x_3) ∧ True ∧ True) ∧ Sz x_3 ∧ (!x_3.any fun (y : Pl.Rt) => !Pl.ratOk y) = Pl.rowOk x)
 (Bool.false = Pl.rowOk x))
 (Bool.false = Pl.rowOk x))
 (Bool.false = Pl.rowOk x)) = Goal Tryz.prog [K_iNameOk, K_iRatOk, K_ContainsRat] ([]) K_rowOk.1 K_rowOk.2 (x) := by kernel_rfl

theorem vc_isNaNS (x : ByteArray) : ((!x.toList == x.toList) = Bool.false) = Goal Tryz.prog [] ([]) K_isNaNS.1 K_isNaNS.2 (x) := by kernel_rfl

theorem vc_isNaNI (x : Int) : ((x != x) = Bool.false) = Goal Tryz.prog [] ([]) K_isNaNI.1 K_isNaNI.2 (x) := by kernel_rfl

theorem vc_CompareS (x : ByteArray × ByteArray) : (Exists fun (x_1 : ByteArray) =>
 (x.fst = x_1 ∧ True) ∧
 True ∧
 Exists fun (x_2 : ByteArray) =>
 (x.snd = x_2 ∧ True) ∧
 True ∧
 condP (Op.bytesLess x.fst.toList x.snd.toList) ((-1 : Int) = Pl.cmpS x.fst x.snd)
 (condP (!(Op.bytesLess x.fst.toList x.snd.toList || x.fst.toList == x.snd.toList)) ((1 : Int) = Pl.cmpS x.fst x.snd) ((0 : Int) = Pl.cmpS x.fst x.snd))) = Goal Tryz.prog [K_isNaNS] ([]) K_CompareS.1 K_CompareS.2 (x) := by kernel_rfl

theorem vc_CompareI (x : Int × Int) : (Exists fun (x_1 : Int) =>
 (x.fst = x_1 ∧ True) ∧
 True ∧
 Exists fun (x_2 : Int) =>
 (x.snd = x_2 ∧ True) ∧
 True ∧
 condP (Decidable.decide (x.fst < x.snd)) ((-1 : Int) = Pl.cmpI x.fst x.snd)
 (condP (Decidable.decide (x.fst > x.snd)) ((1 : Int) = Pl.cmpI x.fst x.snd) ((0 : Int) = Pl.cmpI x.fst x.snd))) = Goal Tryz.prog [K_isNaNI] ([]) K_CompareI.1 K_CompareI.2 (x) := by kernel_rfl

theorem vc_Or (x : List Int) : ((Exists fun (x_1 : Nat) =>
 (x_1 ≤ x.length ∧ Pl.orI x = Pl.orI (List.drop x_1 x)) ∧ ((0 : Int) = (0 : Int) ∧ Is (ints x) (ints x) ∧ (↑x.length : Int) = (↑x.length : Int) ∧ (0 : Int) = (↑x_1 : Int) ∧ True) ∧ True) ∧
 ∀ (x_1 : Nat),
 x_1 ≤ x.length ∧ Pl.orI x = Pl.orI (List.drop x_1 x) →
 condP (Decidable.decide ((↑x_1 : Int) < (↑x.length : Int)))
 (((0 : Int) ≤ (↑x_1 : Int) ∧ (↑x_1 : Int) < (↑x.length : Int)) ∧
 x_1 < x.length ∧
 condP (x.getD x_1 (0 : Int) != (0 : Int)) (x.getD x_1 (0 : Int) = Pl.orI x)
 (Exists fun (x' : Nat) =>
 (x' ≤ x.length ∧ Pl.orI x = Pl.orI (List.drop x' x)) ∧
 x.length - x' < x.length - x_1 ∧
 ((0 : Int) = (0 : Int) ∧ Is (ints x) (ints x) ∧ (↑x.length : Int) = (↑x.length : Int) ∧ IntKind.i64.wrap ((↑x_1 : Int) + (1 : Int)) = (↑x' : Int) ∧ True) ∧ True))
 ((0 : Int) = Pl.orI x)) = Goal Tryz.prog [] (A_Or x) K_Or.1 K_Or.2 (x) := by kernel_rfl

theorem vc_CompareFunc (x : List Pl.Rt × List Pl.Rt) : ((Exists fun (x_1 : Nat) =>
 (x_1 ≤ x.fst.length ∧ x_1 ≤ x.snd.length ∧ Pl.cmpArgs x.fst x.snd = Pl.cmpArgs (List.drop x_1 x.fst) (List.drop x_1 x.snd)) ∧
 (Is (rats x.fst) (rats x.fst) ∧
 Is (rats x.snd) (rats x.snd) ∧ True ∧ Is (rats x.fst) (rats x.fst) ∧ (↑x.fst.length : Int) = (↑x.fst.length : Int) ∧ (0 : Int) = (↑x_1 : Int) ∧ True) ∧
 True) ∧
 ∀ (x_1 : Nat),
 x_1 ≤ x.fst.length ∧ x_1 ≤ x.snd.length ∧ Pl.cmpArgs x.fst x.snd = Pl.cmpArgs (List.drop x_1 x.fst) (List.drop x_1 x.snd) →
 condP (Decidable.decide ((↑x_1 : Int) < (↑x.fst.length : Int)))
 (((0 : Int) ≤ (↑x_1 : Int) ∧ (↑x_1 : Int) < (↑x.fst.length : Int)) ∧
 x_1 < x.fst.length ∧
 condP (Decidable.decide ((↑x_1 : Int) ≥ (↑x.snd.length : Int))) ((1 : Int) = Pl.cmpArgs x.fst x.snd)
 (((0 : Int) ≤ (↑x_1 : Int) ∧ (↑x_1 : Int) < (↑x.snd.length : Int)) ∧
 x_1 < x.snd.length ∧
 Exists fun (x_2 : Pl.Rt × Pl.Rt) =>
 (((x.fst.getD x_1 Pl.dQ).fst = x_2.fst.fst ∧ (x.fst.getD x_1 Pl.dQ).snd = x_2.fst.snd ∧ True) ∧
 ((x.snd.getD x_1 Pl.dQ).fst = x_2.snd.fst ∧ (x.snd.getD x_1 Pl.dQ).snd = x_2.snd.snd ∧ True) ∧ True) ∧
 True ∧
 condP (Pl.cmpRat x_2.fst x_2.snd != (0 : Int)) (Pl.cmpRat x_2.fst x_2.snd = Pl.cmpArgs x.fst x.snd)
 (Exists fun (x' : Nat) =>
 (x' ≤ x.fst.length ∧ x' ≤ x.snd.length ∧ Pl.cmpArgs x.fst x.snd = Pl.cmpArgs (List.drop x' x.fst) (List.drop x' x.snd)) ∧
 x.fst.length - x' < x.fst.length - x_1 ∧
 (Is (rats x.fst) (rats x.fst) ∧
 Is (rats x.snd) (rats x.snd) ∧
 True ∧
 Is (rats x.fst) (rats x.fst) ∧ (↑x.fst.length : Int) = (↑x.fst.length : Int) ∧ IntKind.i64.wrap ((↑x_1 : Int) + (1 : Int)) = (↑x' : Int) ∧ True) ∧
 True)))
 (condP (Decidable.decide ((↑x.fst.length : Int) < (↑x.snd.length : Int))) ((-1 : Int) = Pl.cmpArgs x.fst x.snd) ((0 : Int) = Pl.cmpArgs x.fst x.snd))) = Goal Tryz.prog [K_compareRats] (A_CompareFunc x.1 x.2) K_CompareFunc.1 K_CompareFunc.2 (x) := by kernel_rfl

theorem vc_compareRows (x : Pl.Rw × Pl.Rw) : (Exists fun (x_1 : ByteArray × ByteArray) =>
 (x.fst.fst = x_1.fst ∧ x.snd.fst = x_1.snd ∧ True) ∧
 True ∧
 Exists fun (x_2 : Int × Int) =>
 ((↑x.fst.snd.fst.length : Int) = x_2.fst ∧ (↑x.snd.snd.fst.length : Int) = x_2.snd ∧ True) ∧
 True ∧
 Exists fun (x_3 : List Pl.Rt × List Pl.Rt) =>
 (Is (rats x.fst.snd.fst) (rats x_3.fst) ∧ Is (rats x.snd.snd.fst) (rats x_3.snd) ∧ True ∧ True) ∧
 (Sz x_3.fst ∧ Sz x_3.snd) ∧
 Exists fun (x_4 : List Int) =>
 (Is (AV.lit (3 : Nat) (1 : Nat) (rowsCell [[i64 (Pl.cmpS x_1.fst x_1.snd)], [i64 (Pl.cmpI x_2.fst x_2.snd)], [i64 (Pl.cmpArgs x_3.fst x_3.snd)]])) (ints x_4) ∧
 True) ∧
 Sz x_4 ∧ Pl.orI x_4 = Pl.cmpRows x.fst x.snd) = Goal Tryz.prog [K_CompareS, K_CompareI, K_CompareFunc, K_Or] ([]) K_compareRows.1 K_compareRows.2 (x) := by kernel_rfl

theorem vc_iModel (x : Pl.Mdl) : (condP (Decidable.decide ((↑(List.length x) : Int) > (40 : Int))) (Bool.false = Pl.mRight x)
 ((Exists fun (x_1 : Nat) =>
 (x_1 ≤ List.length x ∧ Pl.mL Option.none x = Pl.mL (Pl.prevR x x_1) (List.drop x_1 x) ∧ (x_1 ≠ (0 : Nat) → Pl.rowOk (List.getD x (x_1 - (1 : Nat)) Pl.dR) = Bool.true)) ∧
 ((0 : Nat) = (0 : Nat) ∧ Is (mrows x) (mrows x) ∧ (↑(List.length x) : Int) = (↑(List.length x) : Int) ∧ (0 : Int) = (↑x_1 : Int) ∧ True) ∧
 (Is (mrows x) (mrows x) ∧ True) ∧ True) ∧
 ∀ (x_1 : Nat),
 x_1 ≤ List.length x ∧ Pl.mL Option.none x = Pl.mL (Pl.prevR x x_1) (List.drop x_1 x) ∧ (x_1 ≠ (0 : Nat) → Pl.rowOk (List.getD x (x_1 - (1 : Nat)) Pl.dR) = Bool.true) →
 condP (Decidable.decide ((↑x_1 : Int) < (↑(List.length x) : Int)))
 (((0 : Int) ≤ (↑x_1 : Int) ∧ (↑x_1 : Int) < (↑(List.length x) : Int)) ∧
 x_1 < List.length x ∧
 Exists fun (x_2 : Pl.Rw) =>
 (((List.getD x x_1 Pl.dR).fst = x_2.fst ∧
 Is (rats (List.getD x x_1 Pl.dR).snd.fst) (rats x_2.snd.fst) ∧
 (List.getD x x_1 Pl.dR).snd.snd.fst = x_2.snd.snd.fst ∧ (List.getD x x_1 Pl.dR).snd.snd.snd = x_2.snd.snd.snd ∧ True) ∧
 True) ∧
 (x_2.fst.size ≤ (1048576 : Nat) ∧ x_2.snd.fst.length ≤ (1048576 : Nat)) ∧
 condP (!Pl.rowOk x_2) (Bool.false = Pl.mRight x)
 (condP (Decidable.decide ((↑x_1 : Int) > (0 : Int)))
 (((0 : Int) ≤ IntKind.i64.wrap ((↑x_1 : Int) - (1 : Int)) ∧ IntKind.i64.wrap ((↑x_1 : Int) - (1 : Int)) < (↑(List.length x) : Int)) ∧
 (IntKind.i64.wrap ((↑x_1 : Int) - (1 : Int))).toNat < List.length x ∧
 Exists fun (x_3 : Pl.Rw × Pl.Rw) =>
 (((List.getD x (IntKind.i64.wrap ((↑x_1 : Int) - (1 : Int))).toNat Pl.dR).fst = x_3.fst.fst ∧
 Is (rats (List.getD x (IntKind.i64.wrap ((↑x_1 : Int) - (1 : Int))).toNat Pl.dR).snd.fst) (rats x_3.fst.snd.fst) ∧
 (List.getD x (IntKind.i64.wrap ((↑x_1 : Int) - (1 : Int))).toNat Pl.dR).snd.snd.fst = x_3.fst.snd.snd.fst ∧
 (List.getD x (IntKind.i64.wrap ((↑x_1 : Int) - (1 : Int))).toNat Pl.dR).snd.snd.snd = x_3.fst.snd.snd.snd ∧ True) ∧
 ((List.getD x x_1 Pl.dR).fst = x_3.snd.fst ∧
 Is (rats (List.getD x x_1 Pl.dR).snd.fst) (rats x_3.snd.snd.fst) ∧
 (List.getD x x_1 Pl.dR).snd.snd.fst = x_3.snd.snd.snd.fst ∧ (List.getD x x_1 Pl.dR).snd.snd.snd = x_3.snd.snd.snd.snd ∧ True) ∧
 True) ∧
 (Sz x_3.fst.snd.fst ∧ Sz x_3.snd.snd.fst) ∧
 condP (Decidable.decide (Pl.cmpRows x_3.fst x_3.snd ≥ (0 : Int))) (Bool.false = Pl.mRight x)
 (Exists fun (x' : Nat) =>
 (x' ≤ List.length x ∧
 Pl.mL Option.none x = Pl.mL (Pl.prevR x x') (List.drop x' x) ∧ (x' ≠ (0 : Nat) → Pl.rowOk (List.getD x (x' - (1 : Nat)) Pl.dR) = Bool.true)) ∧
 List.length x - x' < List.length x - x_1 ∧
 ((0 : Nat) = (0 : Nat) ∧
 Is (mrows x) (mrows x) ∧
 (↑(List.length x) : Int) = (↑(List.length x) : Int) ∧ IntKind.i64.wrap ((↑x_1 : Int) + (1 : Int)) = (↑x' : Int) ∧ True) ∧
 (Is (mrows x) (mrows x) ∧ True) ∧ True))
 (Exists fun (x' : Nat) =>
 (x' ≤ List.length x ∧ Pl.mL Option.none x = Pl.mL (Pl.prevR x x') (List.drop x' x) ∧ (x' ≠ (0 : Nat) → Pl.rowOk (List.getD x (x' - (1 : Nat)) Pl.dR) = Bool.true)) ∧
 List.length x - x' < List.length x - x_1 ∧
 ((0 : Nat) = (0 : Nat) ∧
 Is (mrows x) (mrows x) ∧ (↑(List.length x) : Int) = (↑(List.length x) : Int) ∧ IntKind.i64.wrap ((↑x_1 : Int) + (1 : Int)) = (↑x' : Int) ∧ True) ∧
 (Is (mrows x) (mrows x) ∧ True) ∧ True)))
 (Bool.true = Pl.mRight x))) = Goal Tryz.prog [K_rowOk, K_compareRows] (A_iModel x) K_iModel.1 K_iModel.2 (x) := by kernel_rfl

theorem vc_suits (x : Pl.Rt × Int) : (condP (x.snd == (1 : Int)) (Bool.true = Pl.suit x.fst x.snd) ((x.fst.snd == (1 : Int)) = Pl.suit x.fst x.snd)) = Goal Tryz.prog [] ([]) K_suits.1 K_suits.2 (x) := by kernel_rfl

theorem vc_iModelOk (x : Pl.Sig × Pl.Mdl) : (Exists fun (x_1 : Pl.Sig) =>
 ((Is (syms x.fst) (syms x_1) ∧ True) ∧ True) ∧
 SmG x_1 ∧
 condP (!Pl.sigOk x_1) (Bool.false = Pl.modelOk x.fst x.snd)
 (Exists fun (x_2 : Pl.Mdl) =>
 ((Is (mrows x.snd) (mrows x_2) ∧ True) ∧ True) ∧
 SmM x_2 ∧
 condP (!Pl.mRight x_2) (Bool.false = Pl.modelOk x.fst x.snd)
 ((Exists fun (x_3 : Nat) =>
 (x_3 ≤ List.length x.snd ∧ Pl.modelOk x.fst x.snd = (List.drop x_3 x.snd).all (Pl.rowFits x.fst) ∧ Pl.mL Option.none x.snd = Bool.true) ∧
 ((0 : Nat) = (0 : Nat) ∧
 (0 : Nat) = (0 : Nat) ∧ Is (mrows x.snd) (mrows x.snd) ∧ (↑(List.length x.snd) : Int) = (↑(List.length x.snd) : Int) ∧ (0 : Int) = (↑x_3 : Int) ∧ True) ∧
 (Is (syms x.fst) (syms x.fst) ∧ True) ∧ (Is (mrows x.snd) (mrows x.snd) ∧ True) ∧ True) ∧
 ∀ (x_3 : Nat),
 x_3 ≤ List.length x.snd ∧ Pl.modelOk x.fst x.snd = (List.drop x_3 x.snd).all (Pl.rowFits x.fst) ∧ Pl.mL Option.none x.snd = Bool.true →
 condP (Decidable.decide ((↑x_3 : Int) < (↑(List.length x.snd) : Int)))
 (((0 : Int) ≤ (↑x_3 : Int) ∧ (↑x_3 : Int) < (↑(List.length x.snd) : Int)) ∧
 x_3 < List.length x.snd ∧
 Exists fun (x_4 : Pl.Sig × ByteArray) =>
 ((Is (syms x.fst) (syms x_4.fst) ∧ True) ∧ (List.getD x.snd x_3 Pl.dR).fst = x_4.snd ∧ True) ∧
 SmG x_4.fst ∧
 condP (!(Pl.find x_4.fst x_4.snd).isSome) (Bool.false = Pl.modelOk x.fst x.snd)
 (condP ((↑(Pl.symOf x_4.fst x_4.snd).snd.fst.length : Int) != (↑(List.getD x.snd x_3 Pl.dR).snd.fst.length : Int)) (Bool.false = Pl.modelOk x.fst x.snd)
 (Exists fun (x_5 : Pl.Rt × Int) =>
 (((List.getD x.snd x_3 Pl.dR).snd.snd.fst = x_5.fst.fst ∧ (List.getD x.snd x_3 Pl.dR).snd.snd.snd = x_5.fst.snd ∧ True) ∧
 (Pl.symOf x_4.fst x_4.snd).snd.snd = x_5.snd ∧ True) ∧
 True ∧
 condP (!Pl.suit x_5.fst x_5.snd) (Bool.false = Pl.modelOk x.fst x.snd)
 ((Exists fun (x_6 : Nat) =>
 (x_3 < List.length x.snd ∧
 x_6 ≤ (List.getD x.snd x_3 Pl.dR).snd.fst.length ∧
 (Pl.symOf x.fst (List.getD x.snd x_3 Pl.dR).fst).snd.fst.length = (List.getD x.snd x_3 Pl.dR).snd.fst.length ∧
 Pl.rowFits x.fst (List.getD x.snd x_3 Pl.dR) =
 Pl.fitL (List.drop x_6 (List.getD x.snd x_3 Pl.dR).snd.fst) (List.drop x_6 (Pl.symOf x.fst (List.getD x.snd x_3 Pl.dR).fst).snd.fst)) ∧
 ((0 : Nat) = (0 : Nat) ∧
 (0 : Nat) = (0 : Nat) ∧
 (0 : Nat) = (0 : Nat) ∧
 Is (mrows x.snd) (mrows x.snd) ∧
 (↑(List.length x.snd) : Int) = (↑(List.length x.snd) : Int) ∧
 (↑x_3 : Int) = (↑x_3 : Int) ∧
 Is (rats (List.getD x.snd x_3 Pl.dR).snd.fst) (rats (List.getD x.snd x_3 Pl.dR).snd.fst) ∧
 (↑(List.getD x.snd x_3 Pl.dR).snd.fst.length : Int) = (↑(List.getD x.snd x_3 Pl.dR).snd.fst.length : Int) ∧
 (0 : Int) = (↑x_6 : Int) ∧ True) ∧
 (Is (syms x.fst) (syms x.fst) ∧ True) ∧
 (Is (mrows x.snd) (mrows x.snd) ∧ True) ∧
 ((Pl.symOf x_4.fst x_4.snd).fst = (Pl.symOf x.fst (List.getD x.snd x_3 Pl.dR).fst).fst ∧
 Is (ints (Pl.symOf x_4.fst x_4.snd).snd.fst) (ints (Pl.symOf x.fst (List.getD x.snd x_3 Pl.dR).fst).snd.fst) ∧
 (Pl.symOf x_4.fst x_4.snd).snd.snd = (Pl.symOf x.fst (List.getD x.snd x_3 Pl.dR).fst).snd.snd ∧ True) ∧
 True) ∧
 ∀ (x_6 : Nat),
 x_3 < List.length x.snd ∧
 x_6 ≤ (List.getD x.snd x_3 Pl.dR).snd.fst.length ∧
 (Pl.symOf x.fst (List.getD x.snd x_3 Pl.dR).fst).snd.fst.length = (List.getD x.snd x_3 Pl.dR).snd.fst.length ∧
 Pl.rowFits x.fst (List.getD x.snd x_3 Pl.dR) =
 Pl.fitL (List.drop x_6 (List.getD x.snd x_3 Pl.dR).snd.fst) (List.drop x_6 (Pl.symOf x.fst (List.getD x.snd x_3 Pl.dR).fst).snd.fst) →
 condP (Decidable.decide ((↑x_6 : Int) < (↑(List.getD x.snd x_3 Pl.dR).snd.fst.length : Int)))
 (((0 : Int) ≤ (↑x_6 : Int) ∧ (↑x_6 : Int) < (↑(List.getD x.snd x_3 Pl.dR).snd.fst.length : Int)) ∧
 x_6 < (List.getD x.snd x_3 Pl.dR).snd.fst.length ∧
 ((0 : Int) ≤ (↑x_6 : Int) ∧ (↑x_6 : Int) < (↑(Pl.symOf x.fst (List.getD x.snd x_3 Pl.dR).fst).snd.fst.length : Int)) ∧
 x_6 < (Pl.symOf x.fst (List.getD x.snd x_3 Pl.dR).fst).snd.fst.length ∧
 Exists fun (x_7 : Pl.Rt × Int) =>
 ((((List.getD x.snd x_3 Pl.dR).snd.fst.getD x_6 Pl.dQ).fst = x_7.fst.fst ∧
 ((List.getD x.snd x_3 Pl.dR).snd.fst.getD x_6 Pl.dQ).snd = x_7.fst.snd ∧ True) ∧
 (Pl.symOf x.fst (List.getD x.snd x_3 Pl.dR).fst).snd.fst.getD x_6 (0 : Int) = x_7.snd ∧ True) ∧
 True ∧
 condP (!Pl.suit x_7.fst x_7.snd) (Bool.false = Pl.modelOk x.fst x.snd)
 (Exists fun (x' : Nat) =>
 (x_3 < List.length x.snd ∧
 x' ≤ (List.getD x.snd x_3 Pl.dR).snd.fst.length ∧
 (Pl.symOf x.fst (List.getD x.snd x_3 Pl.dR).fst).snd.fst.length = (List.getD x.snd x_3 Pl.dR).snd.fst.length ∧
 Pl.rowFits x.fst (List.getD x.snd x_3 Pl.dR) =
 Pl.fitL (List.drop x' (List.getD x.snd x_3 Pl.dR).snd.fst)
 (List.drop x' (Pl.symOf x.fst (List.getD x.snd x_3 Pl.dR).fst).snd.fst)) ∧
 (List.getD x.snd x_3 Pl.dR).snd.fst.length - x' < (List.getD x.snd x_3 Pl.dR).snd.fst.length - x_6 ∧
 ((0 : Nat) = (0 : Nat) ∧
 (0 : Nat) = (0 : Nat) ∧
 (0 : Nat) = (0 : Nat) ∧
 Is (mrows x.snd) (mrows x.snd) ∧
 (↑(List.length x.snd) : Int) = (↑(List.length x.snd) : Int) ∧
 (↑x_3 : Int) = (↑x_3 : Int) ∧
 Is (rats (List.getD x.snd x_3 Pl.dR).snd.fst) (rats (List.getD x.snd x_3 Pl.dR).snd.fst) ∧
 (↑(List.getD x.snd x_3 Pl.dR).snd.fst.length : Int) = (↑(List.getD x.snd x_3 Pl.dR).snd.fst.length : Int) ∧
 IntKind.i64.wrap ((↑x_6 : Int) + (1 : Int)) = (↑x' : Int) ∧ True) ∧
 (Is (syms x.fst) (syms x.fst) ∧ True) ∧
 (Is (mrows x.snd) (mrows x.snd) ∧ True) ∧
 ((Pl.symOf x.fst (List.getD x.snd x_3 Pl.dR).fst).fst = (Pl.symOf x.fst (List.getD x.snd x_3 Pl.dR).fst).fst ∧
 Is (ints (Pl.symOf x.fst (List.getD x.snd x_3 Pl.dR).fst).snd.fst)
 (ints (Pl.symOf x.fst (List.getD x.snd x_3 Pl.dR).fst).snd.fst) ∧
 (Pl.symOf x.fst (List.getD x.snd x_3 Pl.dR).fst).snd.snd =
 (Pl.symOf x.fst (List.getD x.snd x_3 Pl.dR).fst).snd.snd ∧
 True) ∧
 True))
 (Exists fun (x' : Nat) =>
 (x' ≤ List.length x.snd ∧ Pl.modelOk x.fst x.snd = (List.drop x' x.snd).all (Pl.rowFits x.fst) ∧ Pl.mL Option.none x.snd = Bool.true) ∧
 List.length x.snd - x' < List.length x.snd - x_3 ∧
 ((0 : Nat) = (0 : Nat) ∧
 (0 : Nat) = (0 : Nat) ∧
 Is (mrows x.snd) (mrows x.snd) ∧
 (↑(List.length x.snd) : Int) = (↑(List.length x.snd) : Int) ∧ IntKind.i64.wrap ((↑x_3 : Int) + (1 : Int)) = (↑x' : Int) ∧ True) ∧
 (Is (syms x.fst) (syms x.fst) ∧ True) ∧ (Is (mrows x.snd) (mrows x.snd) ∧ True) ∧ True)))))
 (Bool.true = Pl.modelOk x.fst x.snd)))) = Goal Tryz.prog [K_iSigOk, K_iModel, K_symbol, K_suits] (A_iModelOk x.1 x.2) K_iModelOk.1 K_iModelOk.2 (x) := by kernel_rfl

end Cg
