/-
  What the law leans on, part 3. No condition.
-/
import Derived.Test.YtmahkigckeaakaaProg
import Derived.Shelf.Strings.OnBuilder
import Derived.Test.YtmahkigckeaakaaFnModelEqB1
import Derived.Test.YtmahkigckeaakaaFnModelEqB2
/-
  What is left to show of each function's code, printed by a program: Mok. No condition.
-/
set_option maxRecDepth 100000
set_option linter.unusedVariables false
namespace Cg
open Go Go.Proofs
theorem vc_l1Abs (x : Int) : (condP (Decidable.decide (x < (-1000000000 : Int))) ((1000000001 : Int) = Pl.abs1 x)
 (condP (Decidable.decide (x > (1000000000 : Int))) ((1000000001 : Int) = Pl.abs1 x)
 (condP (Decidable.decide (x < (0 : Int))) (IntKind.i64.wrap ((0 : Int) - x) = Pl.abs1 x) (x = Pl.abs1 x)))) = Goal Try.prog [] ([]) K_l1Abs.1 K_l1Abs.2 (x) := by kernel_rfl

theorem vc_l1Gcd (a b : Nat) : ((Exists fun (x : Nat × Nat) =>
 (x.fst ≤ (4611686018427387904 : Nat) ∧ x.snd ≤ (4611686018427387904 : Nat) ∧ x.fst.gcd x.snd = a.gcd b) ∧ ((↑a : Int) = (↑x.fst : Int) ∧ (↑b : Int) = (↑x.snd : Int) ∧ True) ∧ True) ∧
 ∀ (x : Nat × Nat),
 x.fst ≤ (4611686018427387904 : Nat) ∧ x.snd ≤ (4611686018427387904 : Nat) ∧ x.fst.gcd x.snd = a.gcd b →
 condP (Decidable.decide ((↑x.snd : Int) > (0 : Int)))
 ((↑x.snd : Int) ≠ (0 : Int) ∧
 Exists fun (x' : Nat × Nat) =>
 (x'.fst ≤ (4611686018427387904 : Nat) ∧ x'.snd ≤ (4611686018427387904 : Nat) ∧ x'.fst.gcd x'.snd = a.gcd b) ∧
 x'.snd < x.snd ∧ ((↑x.snd : Int) = (↑x'.fst : Int) ∧ (↑x.fst : Int).tmod (↑x.snd : Int) = (↑x'.snd : Int) ∧ True) ∧ True)
 ((↑x.fst : Int) = (↑(a.gcd b) : Int))) = Goal Try.prog [] (A_l1Gcd a b) K_l1Gcd.1 K_l1Gcd.2 ((a, b)) := by kernel_rfl

theorem vc_gcd (a b : Int) : ((Exists fun (x : Nat × Nat) =>
 (x.fst ≤ (4611686018427387904 : Nat) ∧ x.snd ≤ (4611686018427387904 : Nat) ∧ x.fst.gcd x.snd = a.natAbs.gcd b.natAbs) ∧
 ((if IntKind.i64.wrap ((0 : Int) - a) > a then IntKind.i64.wrap ((0 : Int) - a) else a) = (↑x.fst : Int) ∧
 (if IntKind.i64.wrap ((0 : Int) - b) > b then IntKind.i64.wrap ((0 : Int) - b) else b) = (↑x.snd : Int) ∧ True) ∧
 True) ∧
 ∀ (x : Nat × Nat),
 x.fst ≤ (4611686018427387904 : Nat) ∧ x.snd ≤ (4611686018427387904 : Nat) ∧ x.fst.gcd x.snd = a.natAbs.gcd b.natAbs →
 condP (Decidable.decide ((↑x.snd : Int) > (0 : Int)))
 ((↑x.snd : Int) ≠ (0 : Int) ∧
 Exists fun (x' : Nat × Nat) =>
 (x'.fst ≤ (4611686018427387904 : Nat) ∧ x'.snd ≤ (4611686018427387904 : Nat) ∧ x'.fst.gcd x'.snd = a.natAbs.gcd b.natAbs) ∧
 x'.snd < x.snd ∧ ((↑x.snd : Int) = (↑x'.fst : Int) ∧ (↑x.fst : Int).tmod (↑x.snd : Int) = (↑x'.snd : Int) ∧ True) ∧ True)
 ((↑x.fst : Int) = (↑(a.natAbs.gcd b.natAbs) : Int))) = Goal Try.prog [] (A_gcd a b) K_gcd.1 K_gcd.2 ((a, b)) := by kernel_rfl

theorem vc_sRatOk (x : Pl.Rt) : (Exists fun (x_1 : Int) =>
 (x.fst = x_1 ∧ True) ∧
 True ∧
 condP (Decidable.decide (Pl.abs1 x_1 ≤ (1000000000 : Int)))
 (condP (Decidable.decide (x.snd ≥ (1 : Int)))
 (condP (Decidable.decide (x.snd ≤ (1000000000 : Int)))
 (Exists fun (x_2 : Int) =>
 (x.fst = x_2 ∧ True) ∧
 True ∧
 Exists fun (x_3 : Nat × Nat) =>
 (Pl.abs1 x_2 = (↑x_3.fst : Int) ∧ x.snd = (↑x_3.snd : Int) ∧ True) ∧
 (x_3.fst ≤ (4611686018427387904 : Nat) ∧ x_3.snd ≤ (4611686018427387904 : Nat)) ∧ ((↑(x_3.fst.gcd x_3.snd) : Int) == (1 : Int)) = Pl.ratOk x)
 (Bool.false = Pl.ratOk x))
 (Bool.false = Pl.ratOk x))
 (Bool.false = Pl.ratOk x)) = Goal Try.prog [K_l1Abs, K_l1Gcd] ([]) K_sRatOk.1 K_sRatOk.2 (x) := by kernel_rfl

theorem vc_iRatOk (x : Pl.Rt) : (Exists fun (x_1 : Int × Int × Int) =>
 (x.fst = x_1.fst ∧ (-1000000000 : Int) = x_1.snd.fst ∧ (1000000000 : Int) = x_1.snd.snd ∧ True) ∧
 True ∧
 condP (Pl.withinI x_1.fst x_1.snd.fst x_1.snd.snd)
 (Exists fun (x_2 : Int × Int × Int) =>
 (x.snd = x_2.fst ∧ (1 : Int) = x_2.snd.fst ∧ (1000000000 : Int) = x_2.snd.snd ∧ True) ∧
 True ∧
 condP (Pl.withinI x_2.fst x_2.snd.fst x_2.snd.snd)
 (Exists fun (x_3 : Int × Int) =>
 (x.fst = x_3.fst ∧ x.snd = x_3.snd ∧ True) ∧
 (x_3.fst.natAbs ≤ (4611686018427387904 : Nat) ∧ x_3.snd.natAbs ≤ (4611686018427387904 : Nat)) ∧ ((↑(x_3.fst.natAbs.gcd x_3.snd.natAbs) : Int) == (1 : Int)) = Pl.ratOk x)
 (Bool.false = Pl.ratOk x))
 (Bool.false = Pl.ratOk x)) = Goal Try.prog [K_within, K_gcd] ([]) K_iRatOk.1 K_iRatOk.2 (x) := by kernel_rfl

theorem vc_sRatLess (x : Pl.Rt × Pl.Rt) : (Exists fun (x_1 : Pl.Rt) =>
 ((x.fst.fst = x_1.fst ∧ x.fst.snd = x_1.snd ∧ True) ∧ True) ∧
 True ∧
 condP (Pl.ratOk x_1)
 (Exists fun (x_2 : Pl.Rt) =>
 ((x.snd.fst = x_2.fst ∧ x.snd.snd = x_2.snd ∧ True) ∧ True) ∧
 True ∧
 condP (Pl.ratOk x_2) (Decidable.decide (IntKind.i64.wrap (x.fst.fst * x.snd.snd) < IntKind.i64.wrap (x.snd.fst * x.fst.snd)) = Pl.ratLess x.fst x.snd)
 (Bool.false = Pl.ratLess x.fst x.snd))
 (Bool.false = Pl.ratLess x.fst x.snd)) = Goal Try.prog [K_sRatOk] ([]) K_sRatLess.1 K_sRatLess.2 (x) := by kernel_rfl

theorem vc_iRatLess (x : Pl.Rt × Pl.Rt) : (Exists fun (x_1 : Pl.Rt) =>
 ((x.fst.fst = x_1.fst ∧ x.fst.snd = x_1.snd ∧ True) ∧ True) ∧
 True ∧
 condP (Pl.ratOk x_1)
 (Exists fun (x_2 : Pl.Rt) =>
 ((x.snd.fst = x_2.fst ∧ x.snd.snd = x_2.snd ∧ True) ∧ True) ∧
 True ∧
 condP (Pl.ratOk x_2) (Decidable.decide (IntKind.i64.wrap (x.fst.fst * x.snd.snd) < IntKind.i64.wrap (x.snd.fst * x.fst.snd)) = Pl.ratLess x.fst x.snd)
 (Bool.false = Pl.ratLess x.fst x.snd))
 (Bool.false = Pl.ratLess x.fst x.snd)) = Goal Try.prog [K_iRatOk] ([]) K_iRatLess.1 K_iRatLess.2 (x) := by kernel_rfl

theorem vc_compareRats (x : Pl.Rt × Pl.Rt) : (Exists fun (x_1 : Pl.Rt × Pl.Rt) =>
 ((x.fst.fst = x_1.fst.fst ∧ x.fst.snd = x_1.fst.snd ∧ True) ∧ (x.snd.fst = x_1.snd.fst ∧ x.snd.snd = x_1.snd.snd ∧ True) ∧ True) ∧
 True ∧
 condP (Pl.ratLess x_1.fst x_1.snd) ((-1 : Int) = Pl.cmpRat x.fst x.snd)
 (Exists fun (x_2 : Pl.Rt × Pl.Rt) =>
 ((x.snd.fst = x_2.fst.fst ∧ x.snd.snd = x_2.fst.snd ∧ True) ∧ (x.fst.fst = x_2.snd.fst ∧ x.fst.snd = x_2.snd.snd ∧ True) ∧ True) ∧
 True ∧ condP (Pl.ratLess x_2.fst x_2.snd) ((1 : Int) = Pl.cmpRat x.fst x.snd) ((0 : Int) = Pl.cmpRat x.fst x.snd))) = Goal Try.prog [K_iRatLess] ([]) K_compareRats.1 K_compareRats.2 (x) := by kernel_rfl

theorem vc_l7Row (x : Pl.Rw) : ((Exists fun (x_1 : Nat) =>
 (x_1 ≤ x.snd.fst.length ∧ x.snd.fst.all Pl.ratOk = (List.drop x_1 x.snd.fst).all Pl.ratOk) ∧
 ((0 : Nat) = (0 : Nat) ∧ (0 : Int) = (↑x_1 : Int) ∧ True) ∧
 (x.fst = x.fst ∧ Is (rats x.snd.fst) (rats x.snd.fst) ∧ x.snd.snd.fst = x.snd.snd.fst ∧ x.snd.snd.snd = x.snd.snd.snd ∧ True) ∧ True) ∧
 ∀ (x_1 : Nat),
 x_1 ≤ x.snd.fst.length ∧ x.snd.fst.all Pl.ratOk = (List.drop x_1 x.snd.fst).all Pl.ratOk →
 condP (Decidable.decide ((↑x_1 : Int) < (↑x.snd.fst.length : Int)))
 (((0 : Int) ≤ (↑x_1 : Int) ∧ (↑x_1 : Int) < (↑x.snd.fst.length : Int)) ∧
 x_1 < x.snd.fst.length ∧
 Exists fun (x_2 : Pl.Rt) =>
 (((x.snd.fst.getD x_1 Pl.dQ).fst = x_2.fst ∧ (x.snd.fst.getD x_1 Pl.dQ).snd = x_2.snd ∧ True) ∧ True) ∧
 True ∧
 condP (!Pl.ratOk x_2) (Bool.false = Pl.rowOk x)
 (Exists fun (x' : Nat) =>
 (x' ≤ x.snd.fst.length ∧ x.snd.fst.all Pl.ratOk = (List.drop x' x.snd.fst).all Pl.ratOk) ∧
 x.snd.fst.length - x' < x.snd.fst.length - x_1 ∧
 ((0 : Nat) = (0 : Nat) ∧ IntKind.i64.wrap ((↑x_1 : Int) + (1 : Int)) = (↑x' : Int) ∧ True) ∧
 (x.fst = x.fst ∧ Is (rats x.snd.fst) (rats x.snd.fst) ∧ x.snd.snd.fst = x.snd.snd.fst ∧ x.snd.snd.snd = x.snd.snd.snd ∧ True) ∧ True))
 (Exists fun (x_2 : ByteArray) =>
 (x.fst = x_2 ∧ True) ∧
 x_2.size ≤ (1048576 : Nat) ∧
 condP (Pl.nameOk x_2)
 (condP (Decidable.decide ((↑x.snd.fst.length : Int) ≤ (2 : Int)))
 (Exists fun (x_3 : Pl.Rt) => ((x.snd.snd.fst = x_3.fst ∧ x.snd.snd.snd = x_3.snd ∧ True) ∧ True) ∧ True ∧ Pl.ratOk x_3 = Pl.rowOk x) (Bool.false = Pl.rowOk x))
 (Bool.false = Pl.rowOk x))) = Goal Try.prog [K_sRatOk, K_sNameOk] (A_l7Row x) K_l7Row.1 K_l7Row.2 (x) := by kernel_rfl

theorem vc_l7Less (x : Pl.Rw × Pl.Rw) : (condP (!x.fst.fst.toList == x.snd.fst.toList) (Op.bytesLess x.fst.fst.toList x.snd.fst.toList = Pl.rowLess x.fst x.snd)
 (condP ((↑x.fst.snd.fst.length : Int) != (↑x.snd.snd.fst.length : Int)) (Decidable.decide ((↑x.fst.snd.fst.length : Int) < (↑x.snd.snd.fst.length : Int)) = Pl.rowLess x.fst x.snd)
 ((Exists fun (x_1 : Nat) =>
 (x_1 ≤ x.fst.snd.fst.length ∧ x.fst.snd.fst.length = x.snd.snd.fst.length ∧ Pl.rowLess x.fst x.snd = Pl.argsLess (List.drop x_1 x.fst.snd.fst) (List.drop x_1 x.snd.snd.fst)) ∧
 ((0 : Nat) = (0 : Nat) ∧ (0 : Nat) = (0 : Nat) ∧ (0 : Int) = (↑x_1 : Int) ∧ True) ∧
 (x.fst.fst = x.fst.fst ∧ Is (rats x.fst.snd.fst) (rats x.fst.snd.fst) ∧ x.fst.snd.snd.fst = x.fst.snd.snd.fst ∧ x.fst.snd.snd.snd = x.fst.snd.snd.snd ∧ True) ∧
 (x.snd.fst = x.snd.fst ∧ Is (rats x.snd.snd.fst) (rats x.snd.snd.fst) ∧ x.snd.snd.snd.fst = x.snd.snd.snd.fst ∧ x.snd.snd.snd.snd = x.snd.snd.snd.snd ∧ True) ∧ True) ∧
 ∀ (x_1 : Nat),
 x_1 ≤ x.fst.snd.fst.length ∧ x.fst.snd.fst.length = x.snd.snd.fst.length ∧ Pl.rowLess x.fst x.snd = Pl.argsLess (List.drop x_1 x.fst.snd.fst) (List.drop x_1 x.snd.snd.fst) →
 condP (Decidable.decide ((↑x_1 : Int) < (↑x.fst.snd.fst.length : Int)))
 (((0 : Int) ≤ (↑x_1 : Int) ∧ (↑x_1 : Int) < (↑x.fst.snd.fst.length : Int)) ∧
 x_1 < x.fst.snd.fst.length ∧
 ((0 : Int) ≤ (↑x_1 : Int) ∧ (↑x_1 : Int) < (↑x.snd.snd.fst.length : Int)) ∧
 x_1 < x.snd.snd.fst.length ∧
 condP (!((x.fst.snd.fst.getD x_1 Pl.dQ).fst == (x.snd.snd.fst.getD x_1 Pl.dQ).fst && (x.fst.snd.fst.getD x_1 Pl.dQ).snd == (x.snd.snd.fst.getD x_1 Pl.dQ).snd))
 (((0 : Int) ≤ (↑x_1 : Int) ∧ (↑x_1 : Int) < (↑x.fst.snd.fst.length : Int)) ∧
 x_1 < x.fst.snd.fst.length ∧
 ((0 : Int) ≤ (↑x_1 : Int) ∧ (↑x_1 : Int) < (↑x.snd.snd.fst.length : Int)) ∧
 x_1 < x.snd.snd.fst.length ∧
 Exists fun (x_2 : Pl.Rt × Pl.Rt) =>
 (((x.fst.snd.fst.getD x_1 Pl.dQ).fst = x_2.fst.fst ∧ (x.fst.snd.fst.getD x_1 Pl.dQ).snd = x_2.fst.snd ∧ True) ∧
 ((x.snd.snd.fst.getD x_1 Pl.dQ).fst = x_2.snd.fst ∧ (x.snd.snd.fst.getD x_1 Pl.dQ).snd = x_2.snd.snd ∧ True) ∧ True) ∧
 True ∧ Pl.ratLess x_2.fst x_2.snd = Pl.rowLess x.fst x.snd)
 (Exists fun (x' : Nat) =>
 (x' ≤ x.fst.snd.fst.length ∧ x.fst.snd.fst.length = x.snd.snd.fst.length ∧ Pl.rowLess x.fst x.snd = Pl.argsLess (List.drop x' x.fst.snd.fst) (List.drop x' x.snd.snd.fst)) ∧
 x.fst.snd.fst.length - x' < x.fst.snd.fst.length - x_1 ∧
 ((0 : Nat) = (0 : Nat) ∧ (0 : Nat) = (0 : Nat) ∧ IntKind.i64.wrap ((↑x_1 : Int) + (1 : Int)) = (↑x' : Int) ∧ True) ∧
 (x.fst.fst = x.fst.fst ∧ Is (rats x.fst.snd.fst) (rats x.fst.snd.fst) ∧ x.fst.snd.snd.fst = x.fst.snd.snd.fst ∧ x.fst.snd.snd.snd = x.fst.snd.snd.snd ∧ True) ∧
 (x.snd.fst = x.snd.fst ∧ Is (rats x.snd.snd.fst) (rats x.snd.snd.fst) ∧ x.snd.snd.snd.fst = x.snd.snd.snd.fst ∧ x.snd.snd.snd.snd = x.snd.snd.snd.snd ∧ True) ∧
 True))
 (Bool.false = Pl.rowLess x.fst x.snd)))) = Goal Try.prog [K_sRatLess] (A_l7Less x.1 x.2) K_l7Less.1 K_l7Less.2 (x) := by kernel_rfl

theorem vc_l7Right (x : Pl.Mdl) : ((Exists fun (x_1 : Nat) =>
 (x_1 ≤ List.length x ∧ Pl.mL Option.none x = Pl.mL (Pl.prevR x x_1) (List.drop x_1 x)) ∧
 ((0 : Nat) = (0 : Nat) ∧ (0 : Int) = (↑x_1 : Int) ∧ True) ∧ (Is (mrows x) (mrows x) ∧ True) ∧ True) ∧
 ∀ (x_1 : Nat),
 x_1 ≤ List.length x ∧ Pl.mL Option.none x = Pl.mL (Pl.prevR x x_1) (List.drop x_1 x) →
 condP (Decidable.decide ((↑x_1 : Int) < (↑(List.length x) : Int)))
 (((0 : Int) ≤ (↑x_1 : Int) ∧ (↑x_1 : Int) < (↑(List.length x) : Int)) ∧
 x_1 < List.length x ∧
 Exists fun (x_2 : Pl.Rw) =>
 (((List.getD x x_1 Pl.dR).fst = x_2.fst ∧
 Is (rats (List.getD x x_1 Pl.dR).snd.fst) (rats x_2.snd.fst) ∧
 (List.getD x x_1 Pl.dR).snd.snd.fst = x_2.snd.snd.fst ∧ (List.getD x x_1 Pl.dR).snd.snd.snd = x_2.snd.snd.snd ∧ True) ∧
 True) ∧
 (x_2.fst.size ≤ (1048576 : Nat) ∧ x_2.snd.fst.length ≤ (1048576 : Nat)) ∧
 condP (!Pl.rowOk x_2) (Bool.false = Pl.mRight x)
 (condP (Decidable.decide ((↑x_1 : Int) > (0 : Int)))
 (((0 : Int) ≤ IntKind.i64.wrap ((↑x_1 : Int) - (1 : Int)) ∧ IntKind.i64.wrap ((↑x_1 : Int) - (1 : Int)) < (↑(List.length x) : Int)) ∧
 (IntKind.i64.wrap ((↑x_1 : Int) - (1 : Int))).toNat < List.length x ∧
 ((0 : Int) ≤ (↑x_1 : Int) ∧ (↑x_1 : Int) < (↑(List.length x) : Int)) ∧
 x_1 < List.length x ∧
 Exists fun (x_3 : Pl.Rw × Pl.Rw) =>
 (((List.getD x (IntKind.i64.wrap ((↑x_1 : Int) - (1 : Int))).toNat Pl.dR).fst = x_3.fst.fst ∧
 Is (rats (List.getD x (IntKind.i64.wrap ((↑x_1 : Int) - (1 : Int))).toNat Pl.dR).snd.fst) (rats x_3.fst.snd.fst) ∧
 (List.getD x (IntKind.i64.wrap ((↑x_1 : Int) - (1 : Int))).toNat Pl.dR).snd.snd.fst = x_3.fst.snd.snd.fst ∧
 (List.getD x (IntKind.i64.wrap ((↑x_1 : Int) - (1 : Int))).toNat Pl.dR).snd.snd.snd = x_3.fst.snd.snd.snd ∧ True) ∧
 ((List.getD x x_1 Pl.dR).fst = x_3.snd.fst ∧
 Is (rats (List.getD x x_1 Pl.dR).snd.fst) (rats x_3.snd.snd.fst) ∧
 (List.getD x x_1 Pl.dR).snd.snd.fst = x_3.snd.snd.snd.fst ∧ (List.getD x x_1 Pl.dR).snd.snd.snd = x_3.snd.snd.snd.snd ∧ True) ∧
 True) ∧
 x_3.fst.snd.fst.length ≤ (1048576 : Nat) ∧
 condP (!Pl.rowLess x_3.fst x_3.snd) (Bool.false = Pl.mRight x)
 (Exists fun (x' : Nat) =>
 (x' ≤ List.length x ∧ Pl.mL Option.none x = Pl.mL (Pl.prevR x x') (List.drop x' x)) ∧
 List.length x - x' < List.length x - x_1 ∧
 ((0 : Nat) = (0 : Nat) ∧ IntKind.i64.wrap ((↑x_1 : Int) + (1 : Int)) = (↑x' : Int) ∧ True) ∧ (Is (mrows x) (mrows x) ∧ True) ∧ True))
 (Exists fun (x' : Nat) =>
 (x' ≤ List.length x ∧ Pl.mL Option.none x = Pl.mL (Pl.prevR x x') (List.drop x' x)) ∧
 List.length x - x' < List.length x - x_1 ∧
 ((0 : Nat) = (0 : Nat) ∧ IntKind.i64.wrap ((↑x_1 : Int) + (1 : Int)) = (↑x' : Int) ∧ True) ∧ (Is (mrows x) (mrows x) ∧ True) ∧ True)))
 (Decidable.decide ((↑(List.length x) : Int) ≤ (40 : Int)) = Pl.mRight x)) = Goal Try.prog [K_l7Row, K_l7Less] (A_l7Right x) K_l7Right.1 K_l7Right.2 (x) := by kernel_rfl

theorem vc_l7Fit (x : Pl.Rt × Int) : (Exists fun (x_1 : Pl.Rt) =>
 ((x.fst.fst = x_1.fst ∧ x.fst.snd = x_1.snd ∧ True) ∧ True) ∧
 True ∧ condP (Pl.ratOk x_1) (condP (x.snd == (1 : Int)) (Bool.true = Pl.fit x.fst x.snd) ((x.fst.snd == (1 : Int)) = Pl.fit x.fst x.snd)) (Bool.false = Pl.fit x.fst x.snd)) = Goal Try.prog [K_sRatOk] ([]) K_l7Fit.1 K_l7Fit.2 (x) := by kernel_rfl

theorem vc_sModelOk (x : Pl.Sig × Pl.Mdl) : (Exists fun (x_1 : Pl.Sig) =>
 ((Is (syms x.fst) (syms x_1) ∧ True) ∧ True) ∧
 SmG x_1 ∧
 condP (!Pl.sigOk x_1) (Bool.false = Pl.modelOk x.fst x.snd)
 (Exists fun (x_2 : Pl.Mdl) =>
 ((Is (mrows x.snd) (mrows x_2) ∧ True) ∧ True) ∧
 SmM x_2 ∧
 condP (!Pl.mRight x_2) (Bool.false = Pl.modelOk x.fst x.snd)
 ((Exists fun (x_3 : Nat) =>
 (x_3 ≤ List.length x.snd ∧ Pl.modelOk x.fst x.snd = (List.drop x_3 x.snd).all (Pl.rowFits x.fst)) ∧
 ((0 : Nat) = (0 : Nat) ∧ (0 : Nat) = (0 : Nat) ∧ (0 : Int) = (↑x_3 : Int) ∧ True) ∧
 (Is (syms x.fst) (syms x.fst) ∧ True) ∧ (Is (mrows x.snd) (mrows x.snd) ∧ True) ∧ True) ∧
 ∀ (x_3 : Nat),
 x_3 ≤ List.length x.snd ∧ Pl.modelOk x.fst x.snd = (List.drop x_3 x.snd).all (Pl.rowFits x.fst) →
 condP (Decidable.decide ((↑x_3 : Int) < (↑(List.length x.snd) : Int)))
 (((0 : Int) ≤ (↑x_3 : Int) ∧ (↑x_3 : Int) < (↑(List.length x.snd) : Int)) ∧
 x_3 < List.length x.snd ∧
 Exists fun (x_4 : Pl.Sig × ByteArray) =>
 ((Is (syms x.fst) (syms x_4.fst) ∧ True) ∧ (List.getD x.snd x_3 Pl.dR).fst = x_4.snd ∧ True) ∧
 SmG x_4.fst ∧
 condP (!(Pl.find x_4.fst x_4.snd).isSome) (Bool.false = Pl.modelOk x.fst x.snd)
 (((0 : Int) ≤ (↑x_3 : Int) ∧ (↑x_3 : Int) < (↑(List.length x.snd) : Int)) ∧
 x_3 < List.length x.snd ∧
 condP ((↑(Pl.symOf x_4.fst x_4.snd).snd.fst.length : Int) != (↑(List.getD x.snd x_3 Pl.dR).snd.fst.length : Int)) (Bool.false = Pl.modelOk x.fst x.snd)
 (((0 : Int) ≤ (↑x_3 : Int) ∧ (↑x_3 : Int) < (↑(List.length x.snd) : Int)) ∧
 x_3 < List.length x.snd ∧
 Exists fun (x_5 : Pl.Rt × Int) =>
 (((List.getD x.snd x_3 Pl.dR).snd.snd.fst = x_5.fst.fst ∧ (List.getD x.snd x_3 Pl.dR).snd.snd.snd = x_5.fst.snd ∧ True) ∧
 (Pl.symOf x_4.fst x_4.snd).snd.snd = x_5.snd ∧ True) ∧
 True ∧
 condP (!Pl.fit x_5.fst x_5.snd) (Bool.false = Pl.modelOk x.fst x.snd)
 ((Exists fun (x_6 : Nat) =>
 (x_3 < List.length x.snd ∧
 x_6 ≤ (List.getD x.snd x_3 Pl.dR).snd.fst.length ∧
 (Pl.symOf x.fst (List.getD x.snd x_3 Pl.dR).fst).snd.fst.length = (List.getD x.snd x_3 Pl.dR).snd.fst.length ∧
 Pl.rowFits x.fst (List.getD x.snd x_3 Pl.dR) =
 Pl.fitL (List.drop x_6 (List.getD x.snd x_3 Pl.dR).snd.fst)
 (List.drop x_6 (Pl.symOf x.fst (List.getD x.snd x_3 Pl.dR).fst).snd.fst)) ∧
 ((0 : Nat) = (0 : Nat) ∧ (0 : Nat) = (0 : Nat) ∧ (↑x_3 : Int) = (↑x_3 : Int) ∧ (0 : Nat) = (0 : Nat) ∧ (0 : Int) = (↑x_6 : Int) ∧ True) ∧
 (Is (syms x.fst) (syms x.fst) ∧ True) ∧
 (Is (mrows x.snd) (mrows x.snd) ∧ True) ∧
 ((Pl.symOf x_4.fst x_4.snd).fst = (Pl.symOf x.fst (List.getD x.snd x_3 Pl.dR).fst).fst ∧
 Is (ints (Pl.symOf x_4.fst x_4.snd).snd.fst) (ints (Pl.symOf x.fst (List.getD x.snd x_3 Pl.dR).fst).snd.fst) ∧
 (Pl.symOf x_4.fst x_4.snd).snd.snd = (Pl.symOf x.fst (List.getD x.snd x_3 Pl.dR).fst).snd.snd ∧ True) ∧
 True) ∧
 ∀ (x_6 : Nat),
 x_3 < List.length x.snd ∧
 x_6 ≤ (List.getD x.snd x_3 Pl.dR).snd.fst.length ∧
 (Pl.symOf x.fst (List.getD x.snd x_3 Pl.dR).fst).snd.fst.length = (List.getD x.snd x_3 Pl.dR).snd.fst.length ∧
 Pl.rowFits x.fst (List.getD x.snd x_3 Pl.dR) =
 Pl.fitL (List.drop x_6 (List.getD x.snd x_3 Pl.dR).snd.fst)
 (List.drop x_6 (Pl.symOf x.fst (List.getD x.snd x_3 Pl.dR).fst).snd.fst) →
 condP (Decidable.decide ((↑x_6 : Int) < (↑(Pl.symOf x.fst (List.getD x.snd x_3 Pl.dR).fst).snd.fst.length : Int)))
 (((0 : Int) ≤ (↑x_3 : Int) ∧ (↑x_3 : Int) < (↑(List.length x.snd) : Int)) ∧
 x_3 < List.length x.snd ∧
 ((0 : Int) ≤ (↑x_6 : Int) ∧ (↑x_6 : Int) < (↑(List.getD x.snd x_3 Pl.dR).snd.fst.length : Int)) ∧
 x_6 < (List.getD x.snd x_3 Pl.dR).snd.fst.length ∧
 ((0 : Int) ≤ (↑x_6 : Int) ∧ (↑x_6 : Int) < (↑(Pl.symOf x.fst (List.getD x.snd x_3 Pl.dR).fst).snd.fst.length : Int)) ∧
 x_6 < (Pl.symOf x.fst (List.getD x.snd x_3 Pl.dR).fst).snd.fst.length ∧
 Exists fun (x_7 : Pl.Rt × Int) =>
 ((((List.getD x.snd x_3 Pl.dR).snd.fst.getD x_6 Pl.dQ).fst = x_7.fst.fst ∧
 ((List.getD x.snd x_3 Pl.dR).snd.fst.getD x_6 Pl.dQ).snd = x_7.fst.snd ∧ True) ∧
 (Pl.symOf x.fst (List.getD x.snd x_3 Pl.dR).fst).snd.fst.getD x_6 (0 : Int) = x_7.snd ∧ True) ∧
 True ∧
 condP (!Pl.fit x_7.fst x_7.snd) (Bool.false = Pl.modelOk x.fst x.snd)
 (Exists fun (x' : Nat) =>
 (x_3 < List.length x.snd ∧
 x' ≤ (List.getD x.snd x_3 Pl.dR).snd.fst.length ∧
 (Pl.symOf x.fst (List.getD x.snd x_3 Pl.dR).fst).snd.fst.length = (List.getD x.snd x_3 Pl.dR).snd.fst.length ∧
 Pl.rowFits x.fst (List.getD x.snd x_3 Pl.dR) =
 Pl.fitL (List.drop x' (List.getD x.snd x_3 Pl.dR).snd.fst)
 (List.drop x' (Pl.symOf x.fst (List.getD x.snd x_3 Pl.dR).fst).snd.fst)) ∧
 (List.getD x.snd x_3 Pl.dR).snd.fst.length - x' < (List.getD x.snd x_3 Pl.dR).snd.fst.length - x_6 ∧
 ((0 : Nat) = (0 : Nat) ∧
 (0 : Nat) = (0 : Nat) ∧
 (↑x_3 : Int) = (↑x_3 : Int) ∧
 (0 : Nat) = (0 : Nat) ∧ IntKind.i64.wrap ((↑x_6 : Int) + (1 : Int)) = (↑x' : Int) ∧ True) ∧
 (Is (syms x.fst) (syms x.fst) ∧ True) ∧
 (Is (mrows x.snd) (mrows x.snd) ∧ True) ∧
 ((Pl.symOf x.fst (List.getD x.snd x_3 Pl.dR).fst).fst =
 (Pl.symOf x.fst (List.getD x.snd x_3 Pl.dR).fst).fst ∧
 Is (ints (Pl.symOf x.fst (List.getD x.snd x_3 Pl.dR).fst).snd.fst)
 (ints (Pl.symOf x.fst (List.getD x.snd x_3 Pl.dR).fst).snd.fst) ∧
 (Pl.symOf x.fst (List.getD x.snd x_3 Pl.dR).fst).snd.snd =
 (Pl.symOf x.fst (List.getD x.snd x_3 Pl.dR).fst).snd.snd ∧
 True) ∧
 True))
 (Exists fun (x' : Nat) =>
 (x' ≤ List.length x.snd ∧ Pl.modelOk x.fst x.snd = (List.drop x' x.snd).all (Pl.rowFits x.fst)) ∧
 List.length x.snd - x' < List.length x.snd - x_3 ∧
 ((0 : Nat) = (0 : Nat) ∧ (0 : Nat) = (0 : Nat) ∧ IntKind.i64.wrap ((↑x_3 : Int) + (1 : Int)) = (↑x' : Int) ∧ True) ∧
 (Is (syms x.fst) (syms x.fst) ∧ True) ∧ (Is (mrows x.snd) (mrows x.snd) ∧ True) ∧ True)))))
 (Bool.true = Pl.modelOk x.fst x.snd)))) = Goal Try.prog [K_sSigOk, K_l7Right, K_l4Find, K_l7Fit] (A_sModelOk x.1 x.2) K_sModelOk.1 K_sModelOk.2 (x) := by kernel_rfl

theorem vc_RowOk1 (x : Pl.Rt) : (Exists fun (x_1 : Pl.Rt) => ((x.fst = x_1.fst ∧ x.snd = x_1.snd ∧ True) ∧ True) ∧ True ∧ (!Pl.ratOk x_1) = !Pl.ratOk x) = Goal Try.prog [K_iRatOk] ([]) K_RowOk1.1 K_RowOk1.2 (x) := by kernel_rfl

theorem vc_IndexRat (x : List Pl.Rt) : ((Exists fun (x_1 : Nat) =>
 (x_1 ≤ x.length ∧
 Pl.idx (fun (y : Pl.Rt) => !Pl.ratOk y) x =
 if Pl.idx (fun (y : Pl.Rt) => !Pl.ratOk y) (List.drop x_1 x) < (0 : Int) then (-1 : Int) else Pl.idx (fun (y : Pl.Rt) => !Pl.ratOk y) (List.drop x_1 x) + (↑x_1 : Int)) ∧
 (Is (rats x) (rats x) ∧ True ∧ (↑x.length : Int) = (↑x.length : Int) ∧ (0 : Int) = (↑x_1 : Int) ∧ True) ∧ True) ∧
 ∀ (x_1 : Nat),
 (x_1 ≤ x.length ∧
 Pl.idx (fun (y : Pl.Rt) => !Pl.ratOk y) x =
 if Pl.idx (fun (y : Pl.Rt) => !Pl.ratOk y) (List.drop x_1 x) < (0 : Int) then (-1 : Int) else Pl.idx (fun (y : Pl.Rt) => !Pl.ratOk y) (List.drop x_1 x) + (↑x_1 : Int)) →
 condP (Decidable.decide ((↑x_1 : Int) < (↑x.length : Int)))
 (((0 : Int) ≤ (↑x_1 : Int) ∧ (↑x_1 : Int) < (↑x.length : Int)) ∧
 x_1 < x.length ∧
 Exists fun (x_2 : Pl.Rt) =>
 (((x.getD x_1 Pl.dQ).fst = x_2.fst ∧ (x.getD x_1 Pl.dQ).snd = x_2.snd ∧ True) ∧ True) ∧
 True ∧
 condP (!Pl.ratOk x_2) ((↑x_1 : Int) = Pl.idx (fun (y : Pl.Rt) => !Pl.ratOk y) x)
 (Exists fun (x' : Nat) =>
 (x' ≤ x.length ∧
 Pl.idx (fun (y : Pl.Rt) => !Pl.ratOk y) x =
 if Pl.idx (fun (y : Pl.Rt) => !Pl.ratOk y) (List.drop x' x) < (0 : Int) then (-1 : Int) else Pl.idx (fun (y : Pl.Rt) => !Pl.ratOk y) (List.drop x' x) + (↑x' : Int)) ∧
 x.length - x' < x.length - x_1 ∧
 (Is (rats x) (rats x) ∧ True ∧ (↑x.length : Int) = (↑x.length : Int) ∧ IntKind.i64.wrap ((↑x_1 : Int) + (1 : Int)) = (↑x' : Int) ∧ True) ∧ True))
 ((-1 : Int) = Pl.idx (fun (y : Pl.Rt) => !Pl.ratOk y) x)) = Goal Try.prog [K_RowOk1] (A_IndexRat x) K_IndexRat.1 K_IndexRat.2 (x) := by kernel_rfl

theorem vc_ContainsRat (x : List Pl.Rt) : (Exists fun (x_1 : List Pl.Rt) =>
 (Is (rats x) (rats x_1) ∧ True ∧ True) ∧ Sz x_1 ∧ Decidable.decide (Pl.idx (fun (y : Pl.Rt) => !Pl.ratOk y) x_1 ≥ (0 : Int)) = x.any fun (y : Pl.Rt) => !Pl.ratOk y) = Goal Try.prog [K_IndexRat] ([]) K_ContainsRat.1 K_ContainsRat.2 (x) := by kernel_rfl

theorem vc_rowOk (x : Pl.Rw) : (Exists fun (x_1 : ByteArray) =>
 (x.fst = x_1 ∧ True) ∧
 x_1.size ≤ (1048576 : Nat) ∧
 condP (Pl.nameOk x_1)
 (condP (Decidable.decide ((↑x.snd.fst.length : Int) ≤ (2 : Int)))
 (Exists fun (x_2 : Pl.Rt) =>
 ((x.snd.snd.fst = x_2.fst ∧ x.snd.snd.snd = x_2.snd ∧ True) ∧ True) ∧
 True ∧
 condP (Pl.ratOk x_2) (Exists fun (x_3 : List Pl.Rt) => (Is (rats x.snd.fst) (rats x_3) ∧ True ∧ True) ∧ Sz x_3 ∧ (!x_3.any fun (y : Pl.Rt) => !Pl.ratOk y) = Pl.rowOk x)
 (Bool.false = Pl.rowOk x))
 (Bool.false = Pl.rowOk x))
 (Bool.false = Pl.rowOk x)) = Goal Try.prog [K_iNameOk, K_iRatOk, K_ContainsRat] ([]) K_rowOk.1 K_rowOk.2 (x) := by kernel_rfl

theorem vc_isNaNS (x : ByteArray) : ((!x.toList == x.toList) = Bool.false) = Goal Try.prog [] ([]) K_isNaNS.1 K_isNaNS.2 (x) := by kernel_rfl

theorem vc_isNaNI (x : Int) : ((x != x) = Bool.false) = Goal Try.prog [] ([]) K_isNaNI.1 K_isNaNI.2 (x) := by kernel_rfl

theorem vc_CompareS (x : ByteArray × ByteArray) : (Exists fun (x_1 : ByteArray) =>
 (x.fst = x_1 ∧ True) ∧
 True ∧
 Exists fun (x_2 : ByteArray) =>
 (x.snd = x_2 ∧ True) ∧
 True ∧
 condP (Op.bytesLess x.fst.toList x.snd.toList) ((-1 : Int) = Pl.cmpS x.fst x.snd)
 (condP (!(Op.bytesLess x.fst.toList x.snd.toList || x.fst.toList == x.snd.toList)) ((1 : Int) = Pl.cmpS x.fst x.snd) ((0 : Int) = Pl.cmpS x.fst x.snd))) = Goal Try.prog [K_isNaNS] ([]) K_CompareS.1 K_CompareS.2 (x) := by kernel_rfl

theorem vc_CompareI (x : Int × Int) : (Exists fun (x_1 : Int) =>
 (x.fst = x_1 ∧ True) ∧
 True ∧
 Exists fun (x_2 : Int) =>
 (x.snd = x_2 ∧ True) ∧
 True ∧
 condP (Decidable.decide (x.fst < x.snd)) ((-1 : Int) = Pl.cmpI x.fst x.snd)
 (condP (Decidable.decide (x.fst > x.snd)) ((1 : Int) = Pl.cmpI x.fst x.snd) ((0 : Int) = Pl.cmpI x.fst x.snd))) = Goal Try.prog [K_isNaNI] ([]) K_CompareI.1 K_CompareI.2 (x) := by kernel_rfl

theorem vc_Or (x : List Int) : ((Exists fun (x_1 : Nat) =>
 (x_1 ≤ x.length ∧ Pl.orI x = Pl.orI (List.drop x_1 x)) ∧ ((0 : Int) = (0 : Int) ∧ Is (ints x) (ints x) ∧ (↑x.length : Int) = (↑x.length : Int) ∧ (0 : Int) = (↑x_1 : Int) ∧ True) ∧ True) ∧
 ∀ (x_1 : Nat),
 x_1 ≤ x.length ∧ Pl.orI x = Pl.orI (List.drop x_1 x) →
 condP (Decidable.decide ((↑x_1 : Int) < (↑x.length : Int)))
 (((0 : Int) ≤ (↑x_1 : Int) ∧ (↑x_1 : Int) < (↑x.length : Int)) ∧
 x_1 < x.length ∧
 condP (x.getD x_1 (0 : Int) != (0 : Int)) (x.getD x_1 (0 : Int) = Pl.orI x)
 (Exists fun (x' : Nat) =>
 (x' ≤ x.length ∧ Pl.orI x = Pl.orI (List.drop x' x)) ∧
 x.length - x' < x.length - x_1 ∧
 ((0 : Int) = (0 : Int) ∧ Is (ints x) (ints x) ∧ (↑x.length : Int) = (↑x.length : Int) ∧ IntKind.i64.wrap ((↑x_1 : Int) + (1 : Int)) = (↑x' : Int) ∧ True) ∧ True))
 ((0 : Int) = Pl.orI x)) = Goal Try.prog [] (A_Or x) K_Or.1 K_Or.2 (x) := by kernel_rfl

theorem vc_CompareFunc (x : List Pl.Rt × List Pl.Rt) : ((Exists fun (x_1 : Nat) =>
 (x_1 ≤ x.fst.length ∧ x_1 ≤ x.snd.length ∧ Pl.cmpArgs x.fst x.snd = Pl.cmpArgs (List.drop x_1 x.fst) (List.drop x_1 x.snd)) ∧
 (Is (rats x.fst) (rats x.fst) ∧
 Is (rats x.snd) (rats x.snd) ∧ True ∧ Is (rats x.fst) (rats x.fst) ∧ (↑x.fst.length : Int) = (↑x.fst.length : Int) ∧ (0 : Int) = (↑x_1 : Int) ∧ True) ∧
 True) ∧
 ∀ (x_1 : Nat),
 x_1 ≤ x.fst.length ∧ x_1 ≤ x.snd.length ∧ Pl.cmpArgs x.fst x.snd = Pl.cmpArgs (List.drop x_1 x.fst) (List.drop x_1 x.snd) →
 condP (Decidable.decide ((↑x_1 : Int) < (↑x.fst.length : Int)))
 (((0 : Int) ≤ (↑x_1 : Int) ∧ (↑x_1 : Int) < (↑x.fst.length : Int)) ∧
 x_1 < x.fst.length ∧
 condP (Decidable.decide ((↑x_1 : Int) ≥ (↑x.snd.length : Int))) ((1 : Int) = Pl.cmpArgs x.fst x.snd)
 (((0 : Int) ≤ (↑x_1 : Int) ∧ (↑x_1 : Int) < (↑x.snd.length : Int)) ∧
 x_1 < x.snd.length ∧
 Exists fun (x_2 : Pl.Rt × Pl.Rt) =>
 (((x.fst.getD x_1 Pl.dQ).fst = x_2.fst.fst ∧ (x.fst.getD x_1 Pl.dQ).snd = x_2.fst.snd ∧ True) ∧
 ((x.snd.getD x_1 Pl.dQ).fst = x_2.snd.fst ∧ (x.snd.getD x_1 Pl.dQ).snd = x_2.snd.snd ∧ True) ∧ True) ∧
 True ∧
 condP (Pl.cmpRat x_2.fst x_2.snd != (0 : Int)) (Pl.cmpRat x_2.fst x_2.snd = Pl.cmpArgs x.fst x.snd)
 (Exists fun (x' : Nat) =>
 (x' ≤ x.fst.length ∧ x' ≤ x.snd.length ∧ Pl.cmpArgs x.fst x.snd = Pl.cmpArgs (List.drop x' x.fst) (List.drop x' x.snd)) ∧
 x.fst.length - x' < x.fst.length - x_1 ∧
 (Is (rats x.fst) (rats x.fst) ∧
 Is (rats x.snd) (rats x.snd) ∧
 True ∧
 Is (rats x.fst) (rats x.fst) ∧ (↑x.fst.length : Int) = (↑x.fst.length : Int) ∧ IntKind.i64.wrap ((↑x_1 : Int) + (1 : Int)) = (↑x' : Int) ∧ True) ∧
 True)))
 (condP (Decidable.decide ((↑x.fst.length : Int) < (↑x.snd.length : Int))) ((-1 : Int) = Pl.cmpArgs x.fst x.snd) ((0 : Int) = Pl.cmpArgs x.fst x.snd))) = Goal Try.prog [K_compareRats] (A_CompareFunc x.1 x.2) K_CompareFunc.1 K_CompareFunc.2 (x) := by kernel_rfl

theorem vc_compareRows (x : Pl.Rw × Pl.Rw) : (Exists fun (x_1 : ByteArray × ByteArray) =>
 (x.fst.fst = x_1.fst ∧ x.snd.fst = x_1.snd ∧ True) ∧
 True ∧
 Exists fun (x_2 : Int × Int) =>
 ((↑x.fst.snd.fst.length : Int) = x_2.fst ∧ (↑x.snd.snd.fst.length : Int) = x_2.snd ∧ True) ∧
 True ∧
 Exists fun (x_3 : List Pl.Rt × List Pl.Rt) =>
 (Is (rats x.fst.snd.fst) (rats x_3.fst) ∧ Is (rats x.snd.snd.fst) (rats x_3.snd) ∧ True ∧ True) ∧
 (Sz x_3.fst ∧ Sz x_3.snd) ∧
 Exists fun (x_4 : List Int) =>
 (Is (AV.lit (3 : Nat) (1 : Nat) (rowsCell [[i64 (Pl.cmpS x_1.fst x_1.snd)], [i64 (Pl.cmpI x_2.fst x_2.snd)], [i64 (Pl.cmpArgs x_3.fst x_3.snd)]])) (ints x_4) ∧
 True) ∧
 Sz x_4 ∧ Pl.orI x_4 = Pl.cmpRows x.fst x.snd) = Goal Try.prog [K_CompareS, K_CompareI, K_CompareFunc, K_Or] ([]) K_compareRows.1 K_compareRows.2 (x) := by kernel_rfl

theorem vc_iModel (x : Pl.Mdl) : (condP (Decidable.decide ((↑(List.length x) : Int) > (40 : Int))) (Bool.false = Pl.mRight x)
 ((Exists fun (x_1 : Nat) =>
 (x_1 ≤ List.length x ∧ Pl.mL Option.none x = Pl.mL (Pl.prevR x x_1) (List.drop x_1 x) ∧ (x_1 ≠ (0 : Nat) → Pl.rowOk (List.getD x (x_1 - (1 : Nat)) Pl.dR) = Bool.true)) ∧
 ((0 : Nat) = (0 : Nat) ∧ Is (mrows x) (mrows x) ∧ (↑(List.length x) : Int) = (↑(List.length x) : Int) ∧ (0 : Int) = (↑x_1 : Int) ∧ True) ∧
 (Is (mrows x) (mrows x) ∧ True) ∧ True) ∧
 ∀ (x_1 : Nat),
 x_1 ≤ List.length x ∧ Pl.mL Option.none x = Pl.mL (Pl.prevR x x_1) (List.drop x_1 x) ∧ (x_1 ≠ (0 : Nat) → Pl.rowOk (List.getD x (x_1 - (1 : Nat)) Pl.dR) = Bool.true) →
 condP (Decidable.decide ((↑x_1 : Int) < (↑(List.length x) : Int)))
 (((0 : Int) ≤ (↑x_1 : Int) ∧ (↑x_1 : Int) < (↑(List.length x) : Int)) ∧
 x_1 < List.length x ∧
 Exists fun (x_2 : Pl.Rw) =>
 (((List.getD x x_1 Pl.dR).fst = x_2.fst ∧
 Is (rats (List.getD x x_1 Pl.dR).snd.fst) (rats x_2.snd.fst) ∧
 (List.getD x x_1 Pl.dR).snd.snd.fst = x_2.snd.snd.fst ∧ (List.getD x x_1 Pl.dR).snd.snd.snd = x_2.snd.snd.snd ∧ True) ∧
 True) ∧
 (x_2.fst.size ≤ (1048576 : Nat) ∧ x_2.snd.fst.length ≤ (1048576 : Nat)) ∧
 condP (!Pl.rowOk x_2) (Bool.false = Pl.mRight x)
 (condP (Decidable.decide ((↑x_1 : Int) > (0 : Int)))
 (((0 : Int) ≤ IntKind.i64.wrap ((↑x_1 : Int) - (1 : Int)) ∧ IntKind.i64.wrap ((↑x_1 : Int) - (1 : Int)) < (↑(List.length x) : Int)) ∧
 (IntKind.i64.wrap ((↑x_1 : Int) - (1 : Int))).toNat < List.length x ∧
 Exists fun (x_3 : Pl.Rw × Pl.Rw) =>
 (((List.getD x (IntKind.i64.wrap ((↑x_1 : Int) - (1 : Int))).toNat Pl.dR).fst = x_3.fst.fst ∧
 Is (rats (List.getD x (IntKind.i64.wrap ((↑x_1 : Int) - (1 : Int))).toNat Pl.dR).snd.fst) (rats x_3.fst.snd.fst) ∧
 (List.getD x (IntKind.i64.wrap ((↑x_1 : Int) - (1 : Int))).toNat Pl.dR).snd.snd.fst = x_3.fst.snd.snd.fst ∧
 (List.getD x (IntKind.i64.wrap ((↑x_1 : Int) - (1 : Int))).toNat Pl.dR).snd.snd.snd = x_3.fst.snd.snd.snd ∧ True) ∧
 ((List.getD x x_1 Pl.dR).fst = x_3.snd.fst ∧
 Is (rats (List.getD x x_1 Pl.dR).snd.fst) (rats x_3.snd.snd.fst) ∧
 (List.getD x x_1 Pl.dR).snd.snd.fst = x_3.snd.snd.snd.fst ∧ (List.getD x x_1 Pl.dR).snd.snd.snd = x_3.snd.snd.snd.snd ∧ True) ∧
 True) ∧
 (Sz x_3.fst.snd.fst ∧ Sz x_3.snd.snd.fst) ∧
 condP (Decidable.decide (Pl.cmpRows x_3.fst x_3.snd ≥ (0 : Int))) (Bool.false = Pl.mRight x)
 (Exists fun (x' : Nat) =>
 (x' ≤ List.length x ∧
 Pl.mL Option.none x = Pl.mL (Pl.prevR x x') (List.drop x' x) ∧ (x' ≠ (0 : Nat) → Pl.rowOk (List.getD x (x' - (1 : Nat)) Pl.dR) = Bool.true)) ∧
 List.length x - x' < List.length x - x_1 ∧
 ((0 : Nat) = (0 : Nat) ∧
 Is (mrows x) (mrows x) ∧
 (↑(List.length x) : Int) = (↑(List.length x) : Int) ∧ IntKind.i64.wrap ((↑x_1 : Int) + (1 : Int)) = (↑x' : Int) ∧ True) ∧
 (Is (mrows x) (mrows x) ∧ True) ∧ True))
 (Exists fun (x' : Nat) =>
 (x' ≤ List.length x ∧ Pl.mL Option.none x = Pl.mL (Pl.prevR x x') (List.drop x' x) ∧ (x' ≠ (0 : Nat) → Pl.rowOk (List.getD x (x' - (1 : Nat)) Pl.dR) = Bool.true)) ∧
 List.length x - x' < List.length x - x_1 ∧
 ((0 : Nat) = (0 : Nat) ∧
 Is (mrows x) (mrows x) ∧ (↑(List.length x) : Int) = (↑(List.length x) : Int) ∧ IntKind.i64.wrap ((↑x_1 : Int) + (1 : Int)) = (↑x' : Int) ∧ True) ∧
 (Is (mrows x) (mrows x) ∧ True) ∧ True)))
 (Bool.true = Pl.mRight x))) = Goal Try.prog [K_rowOk, K_compareRows] (A_iModel x) K_iModel.1 K_iModel.2 (x) := by kernel_rfl

theorem vc_suits (x : Pl.Rt × Int) : (condP (x.snd == (1 : Int)) (Bool.true = Pl.suit x.fst x.snd) ((x.fst.snd == (1 : Int)) = Pl.suit x.fst x.snd)) = Goal Try.prog [] ([]) K_suits.1 K_suits.2 (x) := by kernel_rfl

theorem vc_iModelOk (x : Pl.Sig × Pl.Mdl) : (Exists fun (x_1 : Pl.Sig) =>
 ((Is (syms x.fst) (syms x_1) ∧ True) ∧ True) ∧
 SmG x_1 ∧
 condP (!Pl.sigOk x_1) (Bool.false = Pl.modelOk x.fst x.snd)
 (Exists fun (x_2 : Pl.Mdl) =>
 ((Is (mrows x.snd) (mrows x_2) ∧ True) ∧ True) ∧
 SmM x_2 ∧
 condP (!Pl.mRight x_2) (Bool.false = Pl.modelOk x.fst x.snd)
 ((Exists fun (x_3 : Nat) =>
 (x_3 ≤ List.length x.snd ∧ Pl.modelOk x.fst x.snd = (List.drop x_3 x.snd).all (Pl.rowFits x.fst) ∧ Pl.mL Option.none x.snd = Bool.true) ∧
 ((0 : Nat) = (0 : Nat) ∧
 (0 : Nat) = (0 : Nat) ∧ Is (mrows x.snd) (mrows x.snd) ∧ (↑(List.length x.snd) : Int) = (↑(List.length x.snd) : Int) ∧ (0 : Int) = (↑x_3 : Int) ∧ True) ∧
 (Is (syms x.fst) (syms x.fst) ∧ True) ∧ (Is (mrows x.snd) (mrows x.snd) ∧ True) ∧ True) ∧
 ∀ (x_3 : Nat),
 x_3 ≤ List.length x.snd ∧ Pl.modelOk x.fst x.snd = (List.drop x_3 x.snd).all (Pl.rowFits x.fst) ∧ Pl.mL Option.none x.snd = Bool.true →
 condP (Decidable.decide ((↑x_3 : Int) < (↑(List.length x.snd) : Int)))
 (((0 : Int) ≤ (↑x_3 : Int) ∧ (↑x_3 : Int) < (↑(List.length x.snd) : Int)) ∧
 x_3 < List.length x.snd ∧
 Exists fun (x_4 : Pl.Sig × ByteArray) =>
 ((Is (syms x.fst) (syms x_4.fst) ∧ True) ∧ (List.getD x.snd x_3 Pl.dR).fst = x_4.snd ∧ True) ∧
 SmG x_4.fst ∧
 condP (!(Pl.find x_4.fst x_4.snd).isSome) (Bool.false = Pl.modelOk x.fst x.snd)
 (condP ((↑(Pl.symOf x_4.fst x_4.snd).snd.fst.length : Int) != (↑(List.getD x.snd x_3 Pl.dR).snd.fst.length : Int)) (Bool.false = Pl.modelOk x.fst x.snd)
 (Exists fun (x_5 : Pl.Rt × Int) =>
 (((List.getD x.snd x_3 Pl.dR).snd.snd.fst = x_5.fst.fst ∧ (List.getD x.snd x_3 Pl.dR).snd.snd.snd = x_5.fst.snd ∧ True) ∧
 (Pl.symOf x_4.fst x_4.snd).snd.snd = x_5.snd ∧ True) ∧
 True ∧
 condP (!Pl.suit x_5.fst x_5.snd) (Bool.false = Pl.modelOk x.fst x.snd)
 ((Exists fun (x_6 : Nat) =>
 (x_3 < List.length x.snd ∧
 x_6 ≤ (List.getD x.snd x_3 Pl.dR).snd.fst.length ∧
 (Pl.symOf x.fst (List.getD x.snd x_3 Pl.dR).fst).snd.fst.length = (List.getD x.snd x_3 Pl.dR).snd.fst.length ∧
 Pl.rowFits x.fst (List.getD x.snd x_3 Pl.dR) =
 Pl.fitL (List.drop x_6 (List.getD x.snd x_3 Pl.dR).snd.fst) (List.drop x_6 (Pl.symOf x.fst (List.getD x.snd x_3 Pl.dR).fst).snd.fst)) ∧
 ((0 : Nat) = (0 : Nat) ∧
 (0 : Nat) = (0 : Nat) ∧
 (0 : Nat) = (0 : Nat) ∧
 Is (mrows x.snd) (mrows x.snd) ∧
 (↑(List.length x.snd) : Int) = (↑(List.length x.snd) : Int) ∧
 (↑x_3 : Int) = (↑x_3 : Int) ∧
 Is (rats (List.getD x.snd x_3 Pl.dR).snd.fst) (rats (List.getD x.snd x_3 Pl.dR).snd.fst) ∧
 (↑(List.getD x.snd x_3 Pl.dR).snd.fst.length : Int) = (↑(List.getD x.snd x_3 Pl.dR).snd.fst.length : Int) ∧
 (0 : Int) = (↑x_6 : Int) ∧ True) ∧
 (Is (syms x.fst) (syms x.fst) ∧ True) ∧
 (Is (mrows x.snd) (mrows x.snd) ∧ True) ∧
 ((Pl.symOf x_4.fst x_4.snd).fst = (Pl.symOf x.fst (List.getD x.snd x_3 Pl.dR).fst).fst ∧
 Is (ints (Pl.symOf x_4.fst x_4.snd).snd.fst) (ints (Pl.symOf x.fst (List.getD x.snd x_3 Pl.dR).fst).snd.fst) ∧
 (Pl.symOf x_4.fst x_4.snd).snd.snd = (Pl.symOf x.fst (List.getD x.snd x_3 Pl.dR).fst).snd.snd ∧ True) ∧
 True) ∧
 ∀ (x_6 : Nat),
 x_3 < List.length x.snd ∧
 x_6 ≤ (List.getD x.snd x_3 Pl.dR).snd.fst.length ∧
 (Pl.symOf x.fst (List.getD x.snd x_3 Pl.dR).fst).snd.fst.length = (List.getD x.snd x_3 Pl.dR).snd.fst.length ∧
 Pl.rowFits x.fst (List.getD x.snd x_3 Pl.dR) =
 Pl.fitL (List.drop x_6 (List.getD x.snd x_3 Pl.dR).snd.fst) (List.drop x_6 (Pl.symOf x.fst (List.getD x.snd x_3 Pl.dR).fst).snd.fst) →
 condP (Decidable.decide ((↑x_6 : Int) < (↑(List.getD x.snd x_3 Pl.dR).snd.fst.length : Int)))
 (((0 : Int) ≤ (↑x_6 : Int) ∧ (↑x_6 : Int) < (↑(List.getD x.snd x_3 Pl.dR).snd.fst.length : Int)) ∧
 x_6 < (List.getD x.snd x_3 Pl.dR).snd.fst.length ∧
 ((0 : Int) ≤ (↑x_6 : Int) ∧ (↑x_6 : Int) < (↑(Pl.symOf x.fst (List.getD x.snd x_3 Pl.dR).fst).snd.fst.length : Int)) ∧
 x_6 < (Pl.symOf x.fst (List.getD x.snd x_3 Pl.dR).fst).snd.fst.length ∧
 Exists fun (x_7 : Pl.Rt × Int) =>
 ((((List.getD x.snd x_3 Pl.dR).snd.fst.getD x_6 Pl.dQ).fst = x_7.fst.fst ∧
 ((List.getD x.snd x_3 Pl.dR).snd.fst.getD x_6 Pl.dQ).snd = x_7.fst.snd ∧ True) ∧
 (Pl.symOf x.fst (List.getD x.snd x_3 Pl.dR).fst).snd.fst.getD x_6 (0 : Int) = x_7.snd ∧ True) ∧
 True ∧
 condP (!Pl.suit x_7.fst x_7.snd) (Bool.false = Pl.modelOk x.fst x.snd)
 (Exists fun (x' : Nat) =>
 (x_3 < List.length x.snd ∧
 x' ≤ (List.getD x.snd x_3 Pl.dR).snd.fst.length ∧
 (Pl.symOf x.fst (List.getD x.snd x_3 Pl.dR).fst).snd.fst.length = (List.getD x.snd x_3 Pl.dR).snd.fst.length ∧
 Pl.rowFits x.fst (List.getD x.snd x_3 Pl.dR) =
 Pl.fitL (List.drop x' (List.getD x.snd x_3 Pl.dR).snd.fst)
 (List.drop x' (Pl.symOf x.fst (List.getD x.snd x_3 Pl.dR).fst).snd.fst)) ∧
 (List.getD x.snd x_3 Pl.dR).snd.fst.length - x' < (List.getD x.snd x_3 Pl.dR).snd.fst.length - x_6 ∧
 ((0 : Nat) = (0 : Nat) ∧
 (0 : Nat) = (0 : Nat) ∧
 (0 : Nat) = (0 : Nat) ∧
 Is (mrows x.snd) (mrows x.snd) ∧
 (↑(List.length x.snd) : Int) = (↑(List.length x.snd) : Int) ∧
 (↑x_3 : Int) = (↑x_3 : Int) ∧
 Is (rats (List.getD x.snd x_3 Pl.dR).snd.fst) (rats (List.getD x.snd x_3 Pl.dR).snd.fst) ∧
 (↑(List.getD x.snd x_3 Pl.dR).snd.fst.length : Int) = (↑(List.getD x.snd x_3 Pl.dR).snd.fst.length : Int) ∧
 IntKind.i64.wrap ((↑x_6 : Int) + (1 : Int)) = (↑x' : Int) ∧ True) ∧
 (Is (syms x.fst) (syms x.fst) ∧ True) ∧
 (Is (mrows x.snd) (mrows x.snd) ∧ True) ∧
 ((Pl.symOf x.fst (List.getD x.snd x_3 Pl.dR).fst).fst = (Pl.symOf x.fst (List.getD x.snd x_3 Pl.dR).fst).fst ∧
 Is (ints (Pl.symOf x.fst (List.getD x.snd x_3 Pl.dR).fst).snd.fst)
 (ints (Pl.symOf x.fst (List.getD x.snd x_3 Pl.dR).fst).snd.fst) ∧
 (Pl.symOf x.fst (List.getD x.snd x_3 Pl.dR).fst).snd.snd =
 (Pl.symOf x.fst (List.getD x.snd x_3 Pl.dR).fst).snd.snd ∧
 True) ∧
 True))
 (Exists fun (x' : Nat) =>
 (x' ≤ List.length x.snd ∧ Pl.modelOk x.fst x.snd = (List.drop x' x.snd).all (Pl.rowFits x.fst) ∧ Pl.mL Option.none x.snd = Bool.true) ∧
 List.length x.snd - x' < List.length x.snd - x_3 ∧
 ((0 : Nat) = (0 : Nat) ∧
 (0 : Nat) = (0 : Nat) ∧
 Is (mrows x.snd) (mrows x.snd) ∧
 (↑(List.length x.snd) : Int) = (↑(List.length x.snd) : Int) ∧ IntKind.i64.wrap ((↑x_3 : Int) + (1 : Int)) = (↑x' : Int) ∧ True) ∧
 (Is (syms x.fst) (syms x.fst) ∧ True) ∧ (Is (mrows x.snd) (mrows x.snd) ∧ True) ∧ True)))))
 (Bool.true = Pl.modelOk x.fst x.snd)))) = Goal Try.prog [K_iSigOk, K_iModel, K_symbol, K_suits] (A_iModelOk x.1 x.2) K_iModelOk.1 K_iModelOk.2 (x) := by kernel_rfl

end Cg

/-
  What is left to show of each function's code, printed by a program: Model. No condition.
-/
set_option maxRecDepth 100000
set_option linter.unusedVariables false
namespace Cg
open Go Go.Proofs
theorem vc_l7Rats (x : List Pl.Rt × List Pl.Rt) : (condP ((↑x.fst.length : Int) != (↑x.snd.length : Int)) (Bool.false = Decidable.decide (x.fst = x.snd))
 ((Exists fun (x_1 : Nat) =>
 (x_1 ≤ x.fst.length ∧ x.fst.length = x.snd.length ∧ (x.fst = x.snd ↔ List.drop x_1 x.fst = List.drop x_1 x.snd)) ∧
 (Is (rats x.fst) (rats x.fst) ∧ Is (rats x.snd) (rats x.snd) ∧ (0 : Int) = (↑x_1 : Int) ∧ True) ∧ True) ∧
 ∀ (x_1 : Nat),
 x_1 ≤ x.fst.length ∧ x.fst.length = x.snd.length ∧ (x.fst = x.snd ↔ List.drop x_1 x.fst = List.drop x_1 x.snd) →
 condP (Decidable.decide ((↑x_1 : Int) < (↑x.fst.length : Int)))
 (((0 : Int) ≤ (↑x_1 : Int) ∧ (↑x_1 : Int) < (↑x.fst.length : Int)) ∧
 x_1 < x.fst.length ∧
 ((0 : Int) ≤ (↑x_1 : Int) ∧ (↑x_1 : Int) < (↑x.snd.length : Int)) ∧
 x_1 < x.snd.length ∧
 condP (!((x.fst.getD x_1 Pl.dQ).fst == (x.snd.getD x_1 Pl.dQ).fst && (x.fst.getD x_1 Pl.dQ).snd == (x.snd.getD x_1 Pl.dQ).snd)) (Bool.false = Decidable.decide (x.fst = x.snd))
 (Exists fun (x' : Nat) =>
 (x' ≤ x.fst.length ∧ x.fst.length = x.snd.length ∧ (x.fst = x.snd ↔ List.drop x' x.fst = List.drop x' x.snd)) ∧
 x.fst.length - x' < x.fst.length - x_1 ∧
 (Is (rats x.fst) (rats x.fst) ∧ Is (rats x.snd) (rats x.snd) ∧ IntKind.i64.wrap ((↑x_1 : Int) + (1 : Int)) = (↑x' : Int) ∧ True) ∧ True))
 (Bool.true = Decidable.decide (x.fst = x.snd)))) = Goal Try.prog [] (A_l7Rats x.1 x.2) K_l7Rats.1 K_l7Rats.2 (x) := by kernel_rfl

theorem vc_EqualRats (x : List Pl.Rt × List Pl.Rt) : (condP ((↑x.fst.length : Int) != (↑x.snd.length : Int)) (Bool.false = Decidable.decide (x.fst = x.snd))
 ((Exists fun (x_1 : Nat) =>
 (x_1 ≤ x.fst.length ∧ x.fst.length = x.snd.length ∧ (x.fst = x.snd ↔ List.drop x_1 x.fst = List.drop x_1 x.snd)) ∧
 (Is (rats x.fst) (rats x.fst) ∧
 Is (rats x.snd) (rats x.snd) ∧ Is (rats x.fst) (rats x.fst) ∧ (↑x.fst.length : Int) = (↑x.fst.length : Int) ∧ (0 : Int) = (↑x_1 : Int) ∧ True) ∧
 True) ∧
 ∀ (x_1 : Nat),
 x_1 ≤ x.fst.length ∧ x.fst.length = x.snd.length ∧ (x.fst = x.snd ↔ List.drop x_1 x.fst = List.drop x_1 x.snd) →
 condP (Decidable.decide ((↑x_1 : Int) < (↑x.fst.length : Int)))
 (((0 : Int) ≤ (↑x_1 : Int) ∧ (↑x_1 : Int) < (↑x.fst.length : Int)) ∧
 x_1 < x.fst.length ∧
 ((0 : Int) ≤ (↑x_1 : Int) ∧ (↑x_1 : Int) < (↑x.snd.length : Int)) ∧
 x_1 < x.snd.length ∧
 condP (!((x.fst.getD x_1 Pl.dQ).fst == (x.snd.getD x_1 Pl.dQ).fst && (x.fst.getD x_1 Pl.dQ).snd == (x.snd.getD x_1 Pl.dQ).snd)) (Bool.false = Decidable.decide (x.fst = x.snd))
 (Exists fun (x' : Nat) =>
 (x' ≤ x.fst.length ∧ x.fst.length = x.snd.length ∧ (x.fst = x.snd ↔ List.drop x' x.fst = List.drop x' x.snd)) ∧
 x.fst.length - x' < x.fst.length - x_1 ∧
 (Is (rats x.fst) (rats x.fst) ∧
 Is (rats x.snd) (rats x.snd) ∧
 Is (rats x.fst) (rats x.fst) ∧ (↑x.fst.length : Int) = (↑x.fst.length : Int) ∧ IntKind.i64.wrap ((↑x_1 : Int) + (1 : Int)) = (↑x' : Int) ∧ True) ∧
 True))
 (Bool.true = Decidable.decide (x.fst = x.snd)))) = Goal Try.prog [] (A_EqualRats x.1 x.2) K_EqualRats.1 K_EqualRats.2 (x) := by kernel_rfl

theorem vc_ModelSame1 (x : Pl.Rw × Pl.Rw) : (condP (x.fst.fst.toList == x.snd.fst.toList)
 (Exists fun (x_1 : List Pl.Rt × List Pl.Rt) =>
 (Is (rats x.fst.snd.fst) (rats x_1.fst) ∧ Is (rats x.snd.snd.fst) (rats x_1.snd) ∧ True) ∧
 Sz x_1.fst ∧
 condP (Decidable.decide (x_1.fst = x_1.snd)) ((x.fst.snd.snd.fst == x.snd.snd.snd.fst && x.fst.snd.snd.snd == x.snd.snd.snd.snd) = Decidable.decide (x.fst = x.snd))
 (Bool.false = Decidable.decide (x.fst = x.snd)))
 (Bool.false = Decidable.decide (x.fst = x.snd))) = Goal Try.prog [K_EqualRats] ([]) K_ModelSame1.1 K_ModelSame1.2 (x) := by kernel_rfl

theorem vc_EqualRows (x : Pl.Mdl × Pl.Mdl) : (condP ((↑(List.length x.fst) : Int) != (↑(List.length x.snd) : Int)) (Bool.false = Decidable.decide (x.fst = x.snd))
 ((Exists fun (x_1 : Nat) =>
 (x_1 ≤ List.length x.fst ∧ List.length x.fst = List.length x.snd ∧ (x.fst = x.snd ↔ List.drop x_1 x.fst = List.drop x_1 x.snd)) ∧
 (Is (mrows x.fst) (mrows x.fst) ∧
 Is (mrows x.snd) (mrows x.snd) ∧ True ∧ Is (mrows x.fst) (mrows x.fst) ∧ (↑(List.length x.fst) : Int) = (↑(List.length x.fst) : Int) ∧ (0 : Int) = (↑x_1 : Int) ∧ True) ∧
 True) ∧
 ∀ (x_1 : Nat),
 x_1 ≤ List.length x.fst ∧ List.length x.fst = List.length x.snd ∧ (x.fst = x.snd ↔ List.drop x_1 x.fst = List.drop x_1 x.snd) →
 condP (Decidable.decide ((↑x_1 : Int) < (↑(List.length x.fst) : Int)))
 (((0 : Int) ≤ (↑x_1 : Int) ∧ (↑x_1 : Int) < (↑(List.length x.fst) : Int)) ∧
 x_1 < List.length x.fst ∧
 ((0 : Int) ≤ (↑x_1 : Int) ∧ (↑x_1 : Int) < (↑(List.length x.snd) : Int)) ∧
 x_1 < List.length x.snd ∧
 Exists fun (x_2 : Pl.Rw × Pl.Rw) =>
 (((List.getD x.fst x_1 Pl.dR).fst = x_2.fst.fst ∧
 Is (rats (List.getD x.fst x_1 Pl.dR).snd.fst) (rats x_2.fst.snd.fst) ∧
 (List.getD x.fst x_1 Pl.dR).snd.snd.fst = x_2.fst.snd.snd.fst ∧ (List.getD x.fst x_1 Pl.dR).snd.snd.snd = x_2.fst.snd.snd.snd ∧ True) ∧
 ((List.getD x.snd x_1 Pl.dR).fst = x_2.snd.fst ∧
 Is (rats (List.getD x.snd x_1 Pl.dR).snd.fst) (rats x_2.snd.snd.fst) ∧
 (List.getD x.snd x_1 Pl.dR).snd.snd.fst = x_2.snd.snd.snd.fst ∧ (List.getD x.snd x_1 Pl.dR).snd.snd.snd = x_2.snd.snd.snd.snd ∧ True) ∧
 True) ∧
 Sz x_2.fst.snd.fst ∧
 condP (!Decidable.decide (x_2.fst = x_2.snd)) (Bool.false = Decidable.decide (x.fst = x.snd))
 (Exists fun (x' : Nat) =>
 (x' ≤ List.length x.fst ∧ List.length x.fst = List.length x.snd ∧ (x.fst = x.snd ↔ List.drop x' x.fst = List.drop x' x.snd)) ∧
 List.length x.fst - x' < List.length x.fst - x_1 ∧
 (Is (mrows x.fst) (mrows x.fst) ∧
 Is (mrows x.snd) (mrows x.snd) ∧
 True ∧
 Is (mrows x.fst) (mrows x.fst) ∧
 (↑(List.length x.fst) : Int) = (↑(List.length x.fst) : Int) ∧ IntKind.i64.wrap ((↑x_1 : Int) + (1 : Int)) = (↑x' : Int) ∧ True) ∧
 True))
 (Bool.true = Decidable.decide (x.fst = x.snd)))) = Goal Try.prog [K_ModelSame1] (A_EqualRows x.1 x.2) K_EqualRows.1 K_EqualRows.2 (x) := by kernel_rfl

theorem vc_sModelSame (x : Pl.Mdl × Pl.Mdl) : (condP ((↑(List.length x.fst) : Int) != (↑(List.length x.snd) : Int)) (Bool.false = Decidable.decide (x.fst = x.snd))
 ((Exists fun (x_1 : Nat) =>
 (x_1 ≤ List.length x.fst ∧ List.length x.fst = List.length x.snd ∧ (x.fst = x.snd ↔ List.drop x_1 x.fst = List.drop x_1 x.snd)) ∧
 ((0 : Nat) = (0 : Nat) ∧ (0 : Nat) = (0 : Nat) ∧ (0 : Int) = (↑x_1 : Int) ∧ True) ∧
 (Is (mrows x.fst) (mrows x.fst) ∧ True) ∧ (Is (mrows x.snd) (mrows x.snd) ∧ True) ∧ True) ∧
 ∀ (x_1 : Nat),
 x_1 ≤ List.length x.fst ∧ List.length x.fst = List.length x.snd ∧ (x.fst = x.snd ↔ List.drop x_1 x.fst = List.drop x_1 x.snd) →
 condP (Decidable.decide ((↑x_1 : Int) < (↑(List.length x.fst) : Int)))
 (((0 : Int) ≤ (↑x_1 : Int) ∧ (↑x_1 : Int) < (↑(List.length x.fst) : Int)) ∧
 x_1 < List.length x.fst ∧
 ((0 : Int) ≤ (↑x_1 : Int) ∧ (↑x_1 : Int) < (↑(List.length x.snd) : Int)) ∧
 x_1 < List.length x.snd ∧
 condP (!(List.getD x.fst x_1 Pl.dR).fst.toList == (List.getD x.snd x_1 Pl.dR).fst.toList) (Bool.false = Decidable.decide (x.fst = x.snd))
 (((0 : Int) ≤ (↑x_1 : Int) ∧ (↑x_1 : Int) < (↑(List.length x.fst) : Int)) ∧
 x_1 < List.length x.fst ∧
 ((0 : Int) ≤ (↑x_1 : Int) ∧ (↑x_1 : Int) < (↑(List.length x.snd) : Int)) ∧
 x_1 < List.length x.snd ∧
 condP
 (!((List.getD x.fst x_1 Pl.dR).snd.snd.fst == (List.getD x.snd x_1 Pl.dR).snd.snd.fst &&
 (List.getD x.fst x_1 Pl.dR).snd.snd.snd == (List.getD x.snd x_1 Pl.dR).snd.snd.snd))
 (Bool.false = Decidable.decide (x.fst = x.snd))
 (((0 : Int) ≤ (↑x_1 : Int) ∧ (↑x_1 : Int) < (↑(List.length x.fst) : Int)) ∧
 x_1 < List.length x.fst ∧
 ((0 : Int) ≤ (↑x_1 : Int) ∧ (↑x_1 : Int) < (↑(List.length x.snd) : Int)) ∧
 x_1 < List.length x.snd ∧
 Exists fun (x_2 : List Pl.Rt × List Pl.Rt) =>
 (Is (rats (List.getD x.fst x_1 Pl.dR).snd.fst) (rats x_2.fst) ∧ Is (rats (List.getD x.snd x_1 Pl.dR).snd.fst) (rats x_2.snd) ∧ True) ∧
 Sz x_2.fst ∧
 condP (!Decidable.decide (x_2.fst = x_2.snd)) (Bool.false = Decidable.decide (x.fst = x.snd))
 (Exists fun (x' : Nat) =>
 (x' ≤ List.length x.fst ∧ List.length x.fst = List.length x.snd ∧ (x.fst = x.snd ↔ List.drop x' x.fst = List.drop x' x.snd)) ∧
 List.length x.fst - x' < List.length x.fst - x_1 ∧
 ((0 : Nat) = (0 : Nat) ∧ (0 : Nat) = (0 : Nat) ∧ IntKind.i64.wrap ((↑x_1 : Int) + (1 : Int)) = (↑x' : Int) ∧ True) ∧
 (Is (mrows x.fst) (mrows x.fst) ∧ True) ∧ (Is (mrows x.snd) (mrows x.snd) ∧ True) ∧ True))))
 (Bool.true = Decidable.decide (x.fst = x.snd)))) = Goal Try.prog [K_l7Rats] (A_sModelSame x.1 x.2) K_sModelSame.1 K_sModelSame.2 (x) := by kernel_rfl

theorem vc_iModelSame (x : Pl.Mdl × Pl.Mdl) : (Exists fun (x_1 : Pl.Mdl × Pl.Mdl) =>
 (Is (mrows x.fst) (mrows x_1.fst) ∧ Is (mrows x.snd) (mrows x_1.snd) ∧ True ∧ True) ∧ SmM x_1.fst ∧ Decidable.decide (x_1.fst = x_1.snd) = Decidable.decide (x.fst = x.snd)) = Goal Try.prog [K_EqualRows] ([]) K_iModelSame.1 K_iModelSame.2 (x) := by kernel_rfl

end Cg

/-
  What is left to show of each function's code, printed by a program: Tsort. No condition.
-/
set_option maxRecDepth 100000
set_option linter.unusedVariables false
namespace Cg
open Go Go.Proofs
theorem vc_l4Find (s : Pl.Sig) (nm : ByteArray) : ((Exists fun (x : Nat) =>
 (x ≤ List.length s ∧ Pl.find s nm = Pl.find (List.drop x s) nm) ∧
 (nm = nm ∧ (0 : Nat) = (0 : Nat) ∧ (0 : Nat) = (0 : Nat) ∧ (0 : Int) = (↑x : Int) ∧ True) ∧
 (Is (syms s) (syms s) ∧ True) ∧
 ({ data := #[] } = ByteArray.empty ∧ Is (AV.lit (0 : Nat) (1 : Nat) fun (x x_1 : Nat) => AV.any) nilA ∧ (0 : Int) = (0 : Int) ∧ True) ∧ True) ∧
 ∀ (x : Nat),
 x ≤ List.length s ∧ Pl.find s nm = Pl.find (List.drop x s) nm →
 condP (Decidable.decide ((↑x : Int) < (↑(List.length s) : Int)))
 (((0 : Int) ≤ (↑x : Int) ∧ (↑x : Int) < (↑(List.length s) : Int)) ∧
 x < List.length s ∧
 condP ((List.getD s x Pl.dY).fst.toList == nm.toList)
 (((0 : Int) ≤ (↑x : Int) ∧ (↑x : Int) < (↑(List.length s) : Int)) ∧
 x < List.length s ∧
 ((List.getD s x Pl.dY).fst = (Pl.symOf s nm).fst ∧
 Is (ints (List.getD s x Pl.dY).snd.fst) (ints (Pl.symOf s nm).snd.fst) ∧ (List.getD s x Pl.dY).snd.snd = (Pl.symOf s nm).snd.snd ∧ True) ∧
 Bool.true = (Pl.find s nm).isSome ∧ True)
 (Exists fun (x' : Nat) =>
 (x' ≤ List.length s ∧ Pl.find s nm = Pl.find (List.drop x' s) nm) ∧
 List.length s - x' < List.length s - x ∧
 (nm = nm ∧ (0 : Nat) = (0 : Nat) ∧ (0 : Nat) = (0 : Nat) ∧ IntKind.i64.wrap ((↑x : Int) + (1 : Int)) = (↑x' : Int) ∧ True) ∧
 (Is (syms s) (syms s) ∧ True) ∧
 (ByteArray.empty = ByteArray.empty ∧ Is (AV.lit (0 : Nat) (1 : Nat) fun (x x_1 : Nat) => AV.any) nilA ∧ (0 : Int) = (0 : Int) ∧ True) ∧ True))
 (({ data := #[] } = (Pl.symOf s nm).fst ∧ Is (AV.lit (0 : Nat) (1 : Nat) fun (x x_1 : Nat) => AV.any) (ints (Pl.symOf s nm).snd.fst) ∧ (0 : Int) = (Pl.symOf s nm).snd.snd ∧ True) ∧
 Bool.false = (Pl.find s nm).isSome ∧ True)) = Goal Try.prog [] (A_l4Find s nm) K_l4Find.1 K_l4Find.2 ((s, nm)) := by kernel_rfl

theorem vc_symbol (s : Pl.Sig) (nm : ByteArray) : ((Exists fun (x : Nat) =>
 (x ≤ List.length s ∧ Pl.find s nm = Pl.find (List.drop x s) nm) ∧
 (nm = nm ∧ (0 : Nat) = (0 : Nat) ∧ (0 : Nat) = (0 : Nat) ∧ Is (syms s) (syms s) ∧ (↑(List.length s) : Int) = (↑(List.length s) : Int) ∧ (0 : Int) = (↑x : Int) ∧ True) ∧
 (Is (syms s) (syms s) ∧ True) ∧
 ({ data := #[] } = ByteArray.empty ∧ Is (AV.lit (0 : Nat) (1 : Nat) fun (x x_1 : Nat) => AV.any) nilA ∧ (0 : Int) = (0 : Int) ∧ True) ∧ True) ∧
 ∀ (x : Nat),
 x ≤ List.length s ∧ Pl.find s nm = Pl.find (List.drop x s) nm →
 condP (Decidable.decide ((↑x : Int) < (↑(List.length s) : Int)))
 (((0 : Int) ≤ (↑x : Int) ∧ (↑x : Int) < (↑(List.length s) : Int)) ∧
 x < List.length s ∧
 condP ((List.getD s x Pl.dY).fst.toList == nm.toList)
 (((List.getD s x Pl.dY).fst = (Pl.symOf s nm).fst ∧
 Is (ints (List.getD s x Pl.dY).snd.fst) (ints (Pl.symOf s nm).snd.fst) ∧ (List.getD s x Pl.dY).snd.snd = (Pl.symOf s nm).snd.snd ∧ True) ∧
 Bool.true = (Pl.find s nm).isSome ∧ True)
 (Exists fun (x' : Nat) =>
 (x' ≤ List.length s ∧ Pl.find s nm = Pl.find (List.drop x' s) nm) ∧
 List.length s - x' < List.length s - x ∧
 (nm = nm ∧
 (0 : Nat) = (0 : Nat) ∧
 (0 : Nat) = (0 : Nat) ∧
 Is (syms s) (syms s) ∧ (↑(List.length s) : Int) = (↑(List.length s) : Int) ∧ IntKind.i64.wrap ((↑x : Int) + (1 : Int)) = (↑x' : Int) ∧ True) ∧
 (Is (syms s) (syms s) ∧ True) ∧
 (ByteArray.empty = ByteArray.empty ∧ Is (AV.lit (0 : Nat) (1 : Nat) fun (x x_1 : Nat) => AV.any) nilA ∧ (0 : Int) = (0 : Int) ∧ True) ∧ True))
 (({ data := #[] } = (Pl.symOf s nm).fst ∧ Is (AV.lit (0 : Nat) (1 : Nat) fun (x x_1 : Nat) => AV.any) (ints (Pl.symOf s nm).snd.fst) ∧ (0 : Int) = (Pl.symOf s nm).snd.snd ∧ True) ∧
 Bool.false = (Pl.find s nm).isSome ∧ True)) = Goal Try.prog [] (A_symbol s nm) K_symbol.1 K_symbol.2 ((s, nm)) := by kernel_rfl

end Cg

/-
  What is left to show of each function's code, printed by a program: Sort. No condition.
-/
set_option maxRecDepth 100000
set_option linter.unusedVariables false
namespace Cg
open Go Go.Proofs
end Cg

/-
  What is left to show of each function's code, printed by a program: Sig. No condition.
-/
set_option maxRecDepth 100000
set_option linter.unusedVariables false
namespace Cg
open Go Go.Proofs
theorem vc_sNameOk (s : ByteArray) : ((Exists fun (x : Nat) => (x ≤ s.size ∧ (Pl.bs s).all Pl.lower = (List.drop x (Pl.bs s)).all Pl.lower) ∧ (s = s ∧ (0 : Int) = (↑x : Int) ∧ True) ∧ True) ∧
 ∀ (x : Nat),
 x ≤ s.size ∧ (Pl.bs s).all Pl.lower = (List.drop x (Pl.bs s)).all Pl.lower →
 condP (Decidable.decide ((↑x : Int) < (↑s.size : Int)))
 (((0 : Int) ≤ (↑x : Int) ∧ (↑x : Int) < (↑s.size : Int)) ∧
 condP (Decidable.decide ((↑(s.data.getD x (0 : UInt8)).toNat : Int) < (97 : Int))) (Bool.false = Pl.nameOk s)
 (((0 : Int) ≤ (↑x : Int) ∧ (↑x : Int) < (↑s.size : Int)) ∧
 condP (Decidable.decide ((↑(s.data.getD x (0 : UInt8)).toNat : Int) > (122 : Int))) (Bool.false = Pl.nameOk s)
 (Exists fun (x' : Nat) =>
 (x' ≤ s.size ∧ (Pl.bs s).all Pl.lower = (List.drop x' (Pl.bs s)).all Pl.lower) ∧
 s.size - x' < s.size - x ∧ (s = s ∧ IntKind.i64.wrap ((↑x : Int) + (1 : Int)) = (↑x' : Int) ∧ True) ∧ True)))
 (condP (Decidable.decide ((↑s.size : Int) ≥ (1 : Int))) (Decidable.decide ((↑s.size : Int) ≤ (2 : Int)) = Pl.nameOk s) (Bool.false = Pl.nameOk s))) = Goal Try.prog [] (A_sNameOk s) K_sNameOk.1 K_sNameOk.2 (s) := by kernel_rfl

theorem vc_iNameOk (s : ByteArray) : (Exists fun (x : Int × Int × Int) =>
 ((↑s.size : Int) = x.fst ∧ (1 : Int) = x.snd.fst ∧ (2 : Int) = x.snd.snd ∧ True) ∧
 True ∧
 condP (!Pl.withinI x.fst x.snd.fst x.snd.snd) (Bool.false = Pl.nameOk s)
 ((Exists fun (x : Nat) => (x ≤ s.size ∧ (Pl.bs s).all Pl.lower = (List.drop x (Pl.bs s)).all Pl.lower) ∧ (s = s ∧ (↑s.size : Int) = (↑s.size : Int) ∧ (0 : Int) = (↑x : Int) ∧ True) ∧ True) ∧
 ∀ (x : Nat),
 x ≤ s.size ∧ (Pl.bs s).all Pl.lower = (List.drop x (Pl.bs s)).all Pl.lower →
 condP (Decidable.decide ((↑x : Int) < (↑s.size : Int)))
 (((0 : Int) ≤ (↑x : Int) ∧ (↑x : Int) < (↑s.size : Int)) ∧
 condP (Decidable.decide ((↑(s.data.getD x (0 : UInt8)).toNat : Int) < (97 : Int))) (Bool.false = Pl.nameOk s)
 (((0 : Int) ≤ (↑x : Int) ∧ (↑x : Int) < (↑s.size : Int)) ∧
 condP (Decidable.decide ((↑(s.data.getD x (0 : UInt8)).toNat : Int) > (122 : Int))) (Bool.false = Pl.nameOk s)
 (Exists fun (x' : Nat) =>
 (x' ≤ s.size ∧ (Pl.bs s).all Pl.lower = (List.drop x' (Pl.bs s)).all Pl.lower) ∧
 s.size - x' < s.size - x ∧ (s = s ∧ (↑s.size : Int) = (↑s.size : Int) ∧ IntKind.i64.wrap ((↑x : Int) + (1 : Int)) = (↑x' : Int) ∧ True) ∧ True)))
 (Bool.true = Pl.nameOk s))) = Goal Try.prog [K_within] (A_iNameOk s) K_iNameOk.1 K_iNameOk.2 (s) := by kernel_rfl

theorem vc_l4Sort (x : Int) : (condP (x == (0 : Int)) (Bool.true = Pl.isSort x) ((x == (1 : Int)) = Pl.isSort x)) = Goal Try.prog [] ([]) K_l4Sort.1 K_l4Sort.2 (x) := by kernel_rfl

theorem vc_isSort (x : Int) : (condP (x == (0 : Int)) (Bool.true = Pl.isSort x) ((x == (1 : Int)) = Pl.isSort x)) = Goal Try.prog [] ([]) K_isSort.1 K_isSort.2 (x) := by kernel_rfl

theorem vc_symok1 (x : Int) : (Exists fun (x_1 : Int) => (x = x_1 ∧ True) ∧ True ∧ (!Pl.isSort x_1) = !Pl.isSort x) = Goal Try.prog [K_isSort] ([]) K_symok1.1 K_symok1.2 (x) := by kernel_rfl

theorem vc_IndexSort (l : List Int) : ((Exists fun (x : Nat) =>
 (x ≤ l.length ∧
 Pl.idx (fun (y : Int) => !Pl.isSort y) l =
 if Pl.idx (fun (y : Int) => !Pl.isSort y) (List.drop x l) < (0 : Int) then (-1 : Int) else Pl.idx (fun (y : Int) => !Pl.isSort y) (List.drop x l) + (↑x : Int)) ∧
 (Is (ints l) (ints l) ∧ True ∧ (↑l.length : Int) = (↑l.length : Int) ∧ (0 : Int) = (↑x : Int) ∧ True) ∧ True) ∧
 ∀ (x : Nat),
 (x ≤ l.length ∧
 Pl.idx (fun (y : Int) => !Pl.isSort y) l =
 if Pl.idx (fun (y : Int) => !Pl.isSort y) (List.drop x l) < (0 : Int) then (-1 : Int) else Pl.idx (fun (y : Int) => !Pl.isSort y) (List.drop x l) + (↑x : Int)) →
 condP (Decidable.decide ((↑x : Int) < (↑l.length : Int)))
 (((0 : Int) ≤ (↑x : Int) ∧ (↑x : Int) < (↑l.length : Int)) ∧
 x < l.length ∧
 Exists fun (x_1 : Int) =>
 (l.getD x (0 : Int) = x_1 ∧ True) ∧
 True ∧
 condP (!Pl.isSort x_1) ((↑x : Int) = Pl.idx (fun (y : Int) => !Pl.isSort y) l)
 (Exists fun (x' : Nat) =>
 (x' ≤ l.length ∧
 Pl.idx (fun (y : Int) => !Pl.isSort y) l =
 if Pl.idx (fun (y : Int) => !Pl.isSort y) (List.drop x' l) < (0 : Int) then (-1 : Int) else Pl.idx (fun (y : Int) => !Pl.isSort y) (List.drop x' l) + (↑x' : Int)) ∧
 l.length - x' < l.length - x ∧
 (Is (ints l) (ints l) ∧ True ∧ (↑l.length : Int) = (↑l.length : Int) ∧ IntKind.i64.wrap ((↑x : Int) + (1 : Int)) = (↑x' : Int) ∧ True) ∧ True))
 ((-1 : Int) = Pl.idx (fun (y : Int) => !Pl.isSort y) l)) = Goal Try.prog [K_symok1] (A_IndexSort l) K_IndexSort.1 K_IndexSort.2 (l) := by kernel_rfl

theorem vc_ContainsSort (l : List Int) : (Exists fun (x : List Int) => (Is (ints l) (ints x) ∧ True ∧ True) ∧ Sz x ∧ Decidable.decide (Pl.idx (fun (y : Int) => !Pl.isSort y) x ≥ (0 : Int)) = l.any fun (y : Int) => !Pl.isSort y) = Goal Try.prog [K_IndexSort] ([]) K_ContainsSort.1 K_ContainsSort.2 (l) := by kernel_rfl

theorem vc_symok (x : Pl.Sym) : (Exists fun (x_1 : ByteArray) =>
 (x.fst = x_1 ∧ True) ∧
 x_1.size ≤ (1048576 : Nat) ∧
 condP (Pl.nameOk x_1)
 (condP (Decidable.decide ((↑x.snd.fst.length : Int) ≤ (2 : Int)))
 (Exists fun (x_2 : Int) =>
 (x.snd.snd = x_2 ∧ True) ∧
 True ∧
 condP (Pl.isSort x_2) (Exists fun (x_3 : List Int) => (Is (ints x.snd.fst) (ints x_3) ∧ True ∧ True) ∧ Sz x_3 ∧ (!x_3.any fun (y : Int) => !Pl.isSort y) = Pl.symOk x)
 (Bool.false = Pl.symOk x))
 (Bool.false = Pl.symOk x))
 (Bool.false = Pl.symOk x)) = Goal Try.prog [K_iNameOk, K_isSort, K_ContainsSort] ([]) K_symok.1 K_symok.2 (x) := by kernel_rfl

theorem vc_sSigOk (s : Pl.Sig) : ((Exists fun (x : Nat) =>
 (x ≤ List.length s ∧ Pl.sigL Option.none s = Pl.sigL (Pl.prevS s x) (List.drop x s)) ∧ ((0 : Nat) = (0 : Nat) ∧ (0 : Int) = (↑x : Int) ∧ True) ∧ (Is (syms s) (syms s) ∧ True) ∧ True) ∧
 ∀ (x : Nat),
 x ≤ List.length s ∧ Pl.sigL Option.none s = Pl.sigL (Pl.prevS s x) (List.drop x s) →
 condP (Decidable.decide ((↑x : Int) < (↑(List.length s) : Int)))
 (((0 : Int) ≤ (↑x : Int) ∧ (↑x : Int) < (↑(List.length s) : Int)) ∧
 x < List.length s ∧
 Exists fun (x_1 : ByteArray) =>
 ((List.getD s x Pl.dY).fst = x_1 ∧ True) ∧
 x_1.size ≤ (1048576 : Nat) ∧
 condP (!Pl.nameOk x_1) (Bool.false = Pl.sigOk s)
 (condP (Decidable.decide ((↑(List.getD s x Pl.dY).snd.fst.length : Int) > (2 : Int))) (Bool.false = Pl.sigOk s)
 (Exists fun (x_2 : Int) =>
 ((List.getD s x Pl.dY).snd.snd = x_2 ∧ True) ∧
 True ∧
 condP (!Pl.isSort x_2) (Bool.false = Pl.sigOk s)
 (condP (Decidable.decide ((↑x : Int) > (0 : Int)))
 (((0 : Int) ≤ IntKind.i64.wrap ((↑x : Int) - (1 : Int)) ∧ IntKind.i64.wrap ((↑x : Int) - (1 : Int)) < (↑(List.length s) : Int)) ∧
 (IntKind.i64.wrap ((↑x : Int) - (1 : Int))).toNat < List.length s ∧
 condP (!Op.bytesLess (List.getD s (IntKind.i64.wrap ((↑x : Int) - (1 : Int))).toNat Pl.dY).fst.toList (List.getD s x Pl.dY).fst.toList)
 (Bool.false = Pl.sigOk s)
 ((Exists fun (x_3 : Nat) =>
 (x < List.length s ∧
 x_3 ≤ (List.getD s x Pl.dY).snd.fst.length ∧
 (List.getD s x Pl.dY).snd.fst.all Pl.isSort = (List.drop x_3 (List.getD s x Pl.dY).snd.fst).all Pl.isSort ∧
 (Pl.nameOk (List.getD s x Pl.dY).fst && Decidable.decide ((List.getD s x Pl.dY).snd.fst.length ≤ (2 : Nat)) &&
 Pl.isSort (List.getD s x Pl.dY).snd.snd) =
 Bool.true ∧
 Pl.before (Pl.prevS s x) (List.getD s x Pl.dY).fst = Bool.true) ∧
 ((0 : Nat) = (0 : Nat) ∧ (↑x : Int) = (↑x : Int) ∧ (0 : Nat) = (0 : Nat) ∧ (0 : Int) = (↑x_3 : Int) ∧ True) ∧
 (Is (syms s) (syms s) ∧ True) ∧
 ((List.getD s x Pl.dY).fst = (List.getD s x Pl.dY).fst ∧
 Is (ints (List.getD s x Pl.dY).snd.fst) (ints (List.getD s x Pl.dY).snd.fst) ∧
 (List.getD s x Pl.dY).snd.snd = (List.getD s x Pl.dY).snd.snd ∧ True) ∧
 True) ∧
 ∀ (x_3 : Nat),
 x < List.length s ∧
 x_3 ≤ (List.getD s x Pl.dY).snd.fst.length ∧
 (List.getD s x Pl.dY).snd.fst.all Pl.isSort = (List.drop x_3 (List.getD s x Pl.dY).snd.fst).all Pl.isSort ∧
 (Pl.nameOk (List.getD s x Pl.dY).fst && Decidable.decide ((List.getD s x Pl.dY).snd.fst.length ≤ (2 : Nat)) &&
 Pl.isSort (List.getD s x Pl.dY).snd.snd) =
 Bool.true ∧
 Pl.before (Pl.prevS s x) (List.getD s x Pl.dY).fst = Bool.true →
 condP (Decidable.decide ((↑x_3 : Int) < (↑(List.getD s x Pl.dY).snd.fst.length : Int)))
 (((0 : Int) ≤ (↑x_3 : Int) ∧ (↑x_3 : Int) < (↑(List.getD s x Pl.dY).snd.fst.length : Int)) ∧
 x_3 < (List.getD s x Pl.dY).snd.fst.length ∧
 Exists fun (x_4 : Int) =>
 ((List.getD s x Pl.dY).snd.fst.getD x_3 (0 : Int) = x_4 ∧ True) ∧
 True ∧
 condP (!Pl.isSort x_4) (Bool.false = Pl.sigOk s)
 (Exists fun (x' : Nat) =>
 (x < List.length s ∧
 x' ≤ (List.getD s x Pl.dY).snd.fst.length ∧
 (List.getD s x Pl.dY).snd.fst.all Pl.isSort = (List.drop x' (List.getD s x Pl.dY).snd.fst).all Pl.isSort ∧
 (Pl.nameOk (List.getD s x Pl.dY).fst && Decidable.decide ((List.getD s x Pl.dY).snd.fst.length ≤ (2 : Nat)) &&
 Pl.isSort (List.getD s x Pl.dY).snd.snd) =
 Bool.true ∧
 Pl.before (Pl.prevS s x) (List.getD s x Pl.dY).fst = Bool.true) ∧
 (List.getD s x Pl.dY).snd.fst.length - x' < (List.getD s x Pl.dY).snd.fst.length - x_3 ∧
 ((0 : Nat) = (0 : Nat) ∧
 (↑x : Int) = (↑x : Int) ∧ (0 : Nat) = (0 : Nat) ∧ IntKind.i64.wrap ((↑x_3 : Int) + (1 : Int)) = (↑x' : Int) ∧ True) ∧
 (Is (syms s) (syms s) ∧ True) ∧
 ((List.getD s x Pl.dY).fst = (List.getD s x Pl.dY).fst ∧
 Is (ints (List.getD s x Pl.dY).snd.fst) (ints (List.getD s x Pl.dY).snd.fst) ∧
 (List.getD s x Pl.dY).snd.snd = (List.getD s x Pl.dY).snd.snd ∧ True) ∧
 True))
 (Exists fun (x' : Nat) =>
 (x' ≤ List.length s ∧ Pl.sigL Option.none s = Pl.sigL (Pl.prevS s x') (List.drop x' s)) ∧
 List.length s - x' < List.length s - x ∧
 ((0 : Nat) = (0 : Nat) ∧ IntKind.i64.wrap ((↑x : Int) + (1 : Int)) = (↑x' : Int) ∧ True) ∧ (Is (syms s) (syms s) ∧ True) ∧ True)))
 ((Exists fun (x_3 : Nat) =>
 (x < List.length s ∧
 x_3 ≤ (List.getD s x Pl.dY).snd.fst.length ∧
 (List.getD s x Pl.dY).snd.fst.all Pl.isSort = (List.drop x_3 (List.getD s x Pl.dY).snd.fst).all Pl.isSort ∧
 (Pl.nameOk (List.getD s x Pl.dY).fst && Decidable.decide ((List.getD s x Pl.dY).snd.fst.length ≤ (2 : Nat)) && Pl.isSort (List.getD s x Pl.dY).snd.snd) =
 Bool.true ∧
 Pl.before (Pl.prevS s x) (List.getD s x Pl.dY).fst = Bool.true) ∧
 ((0 : Nat) = (0 : Nat) ∧ (↑x : Int) = (↑x : Int) ∧ (0 : Nat) = (0 : Nat) ∧ (0 : Int) = (↑x_3 : Int) ∧ True) ∧
 (Is (syms s) (syms s) ∧ True) ∧
 ((List.getD s x Pl.dY).fst = (List.getD s x Pl.dY).fst ∧
 Is (ints (List.getD s x Pl.dY).snd.fst) (ints (List.getD s x Pl.dY).snd.fst) ∧
 (List.getD s x Pl.dY).snd.snd = (List.getD s x Pl.dY).snd.snd ∧ True) ∧
 True) ∧
 ∀ (x_3 : Nat),
 x < List.length s ∧
 x_3 ≤ (List.getD s x Pl.dY).snd.fst.length ∧
 (List.getD s x Pl.dY).snd.fst.all Pl.isSort = (List.drop x_3 (List.getD s x Pl.dY).snd.fst).all Pl.isSort ∧
 (Pl.nameOk (List.getD s x Pl.dY).fst && Decidable.decide ((List.getD s x Pl.dY).snd.fst.length ≤ (2 : Nat)) && Pl.isSort (List.getD s x Pl.dY).snd.snd) =
 Bool.true ∧
 Pl.before (Pl.prevS s x) (List.getD s x Pl.dY).fst = Bool.true →
 condP (Decidable.decide ((↑x_3 : Int) < (↑(List.getD s x Pl.dY).snd.fst.length : Int)))
 (((0 : Int) ≤ (↑x_3 : Int) ∧ (↑x_3 : Int) < (↑(List.getD s x Pl.dY).snd.fst.length : Int)) ∧
 x_3 < (List.getD s x Pl.dY).snd.fst.length ∧
 Exists fun (x_4 : Int) =>
 ((List.getD s x Pl.dY).snd.fst.getD x_3 (0 : Int) = x_4 ∧ True) ∧
 True ∧
 condP (!Pl.isSort x_4) (Bool.false = Pl.sigOk s)
 (Exists fun (x' : Nat) =>
 (x < List.length s ∧
 x' ≤ (List.getD s x Pl.dY).snd.fst.length ∧
 (List.getD s x Pl.dY).snd.fst.all Pl.isSort = (List.drop x' (List.getD s x Pl.dY).snd.fst).all Pl.isSort ∧
 (Pl.nameOk (List.getD s x Pl.dY).fst && Decidable.decide ((List.getD s x Pl.dY).snd.fst.length ≤ (2 : Nat)) &&
 Pl.isSort (List.getD s x Pl.dY).snd.snd) =
 Bool.true ∧
 Pl.before (Pl.prevS s x) (List.getD s x Pl.dY).fst = Bool.true) ∧
 (List.getD s x Pl.dY).snd.fst.length - x' < (List.getD s x Pl.dY).snd.fst.length - x_3 ∧
 ((0 : Nat) = (0 : Nat) ∧
 (↑x : Int) = (↑x : Int) ∧ (0 : Nat) = (0 : Nat) ∧ IntKind.i64.wrap ((↑x_3 : Int) + (1 : Int)) = (↑x' : Int) ∧ True) ∧
 (Is (syms s) (syms s) ∧ True) ∧
 ((List.getD s x Pl.dY).fst = (List.getD s x Pl.dY).fst ∧
 Is (ints (List.getD s x Pl.dY).snd.fst) (ints (List.getD s x Pl.dY).snd.fst) ∧
 (List.getD s x Pl.dY).snd.snd = (List.getD s x Pl.dY).snd.snd ∧ True) ∧
 True))
 (Exists fun (x' : Nat) =>
 (x' ≤ List.length s ∧ Pl.sigL Option.none s = Pl.sigL (Pl.prevS s x') (List.drop x' s)) ∧
 List.length s - x' < List.length s - x ∧
 ((0 : Nat) = (0 : Nat) ∧ IntKind.i64.wrap ((↑x : Int) + (1 : Int)) = (↑x' : Int) ∧ True) ∧ (Is (syms s) (syms s) ∧ True) ∧ True))))))
 (Decidable.decide ((↑(List.length s) : Int) ≤ (7 : Int)) = Pl.sigOk s)) = Goal Try.prog [K_sNameOk, K_l4Sort] (A_sSigOk s) K_sSigOk.1 K_sSigOk.2 (s) := by kernel_rfl

theorem vc_iSigOk (s : Pl.Sig) : ((Exists fun (x : Nat) =>
 (x ≤ List.length s ∧ Pl.sigL Option.none s = Pl.sigL (Pl.prevS s x) (List.drop x s)) ∧
 ((0 : Nat) = (0 : Nat) ∧ Is (syms s) (syms s) ∧ (↑(List.length s) : Int) = (↑(List.length s) : Int) ∧ (0 : Int) = (↑x : Int) ∧ True) ∧ (Is (syms s) (syms s) ∧ True) ∧ True) ∧
 ∀ (x : Nat),
 x ≤ List.length s ∧ Pl.sigL Option.none s = Pl.sigL (Pl.prevS s x) (List.drop x s) →
 condP (Decidable.decide ((↑x : Int) < (↑(List.length s) : Int)))
 (((0 : Int) ≤ (↑x : Int) ∧ (↑x : Int) < (↑(List.length s) : Int)) ∧
 x < List.length s ∧
 Exists fun (x_1 : Pl.Sym) =>
 (((List.getD s x Pl.dY).fst = x_1.fst ∧ Is (ints (List.getD s x Pl.dY).snd.fst) (ints x_1.snd.fst) ∧ (List.getD s x Pl.dY).snd.snd = x_1.snd.snd ∧ True) ∧ True) ∧
 (x_1.fst.size ≤ (1048576 : Nat) ∧ Sz x_1.snd.fst) ∧
 condP (!Pl.symOk x_1) (Bool.false = Pl.sigOk s)
 (condP (Decidable.decide ((↑x : Int) > (0 : Int)))
 (((0 : Int) ≤ IntKind.i64.wrap ((↑x : Int) - (1 : Int)) ∧ IntKind.i64.wrap ((↑x : Int) - (1 : Int)) < (↑(List.length s) : Int)) ∧
 (IntKind.i64.wrap ((↑x : Int) - (1 : Int))).toNat < List.length s ∧
 condP (!Op.bytesLess (List.getD s (IntKind.i64.wrap ((↑x : Int) - (1 : Int))).toNat Pl.dY).fst.toList (List.getD s x Pl.dY).fst.toList) (Bool.false = Pl.sigOk s)
 (Exists fun (x' : Nat) =>
 (x' ≤ List.length s ∧ Pl.sigL Option.none s = Pl.sigL (Pl.prevS s x') (List.drop x' s)) ∧
 List.length s - x' < List.length s - x ∧
 ((0 : Nat) = (0 : Nat) ∧
 Is (syms s) (syms s) ∧ (↑(List.length s) : Int) = (↑(List.length s) : Int) ∧ IntKind.i64.wrap ((↑x : Int) + (1 : Int)) = (↑x' : Int) ∧ True) ∧
 (Is (syms s) (syms s) ∧ True) ∧ True))
 (Exists fun (x' : Nat) =>
 (x' ≤ List.length s ∧ Pl.sigL Option.none s = Pl.sigL (Pl.prevS s x') (List.drop x' s)) ∧
 List.length s - x' < List.length s - x ∧
 ((0 : Nat) = (0 : Nat) ∧
 Is (syms s) (syms s) ∧ (↑(List.length s) : Int) = (↑(List.length s) : Int) ∧ IntKind.i64.wrap ((↑x : Int) + (1 : Int)) = (↑x' : Int) ∧ True) ∧
 (Is (syms s) (syms s) ∧ True) ∧ True)))
 (Decidable.decide ((↑(List.length s) : Int) ≤ (7 : Int)) = Pl.sigOk s)) = Goal Try.prog [K_symok] (A_iSigOk s) K_iSigOk.1 K_iSigOk.2 (s) := by kernel_rfl

end Cg

/-
  What is left to show of each function's code, printed by a program: Rows. No condition.
-/
set_option maxRecDepth 100000
set_option linter.unusedVariables false
namespace Cg
open Go Go.Proofs
end Cg

/-
  What is left to show of each function's code, printed by a program: Clause. No condition.
-/
set_option maxRecDepth 100000
set_option linter.unusedVariables false
namespace Cg
open Go Go.Proofs
theorem vc_within (x y z : Int) : (condP (Decidable.decide (y ≤ x)) (Decidable.decide (x ≤ z) = Pl.withinI x y z) (Bool.false = Pl.withinI x y z)) = Goal Try.prog [] ([]) K_within.1 K_within.2 ((x, y, z)) := by kernel_rfl

end Cg

/-
  The codes' contracts: clauses. No condition.
-/
set_option linter.unusedVariables false
set_option linter.unusedSimpArgs false
set_option maxRecDepth 100000
namespace Cg
open Go Go.Proofs

theorem hm : Try.prog.follows .mixedOrders = true := by kernel_rfl

theorem k_within : SoundC Try.prog K_within.1 K_within.2 := sound_of hm CtxOK.nil (fun _ => []) (by kernel_rfl) fun ((x, y, z) : Int × Int × Int) _ => cast (vc_within x y z) (by
  simp [Pl.withinI]
  omega)

theorem eq_step {α : Type} [DecidableEq α] (d : α) {l m : List α} {k : Nat} (hk : k < l.length) (hm : l.length = m.length) (he : l = m ↔ l.drop k = m.drop k) :
    (¬ l.getD k d = m.getD k d → ¬ l = m) ∧ (l.getD k d = m.getD k d → (l = m ↔ l.drop (k + 1) = m.drop (k + 1))) := by
  rw [drop_get d hk, drop_get (l := m) d (by omega)] at he
  exact ⟨fun h e => h (by have := he.1 e; injection this), fun h => by rw [he, h]; simp⟩

end Cg

/-
  The plain law of clauses: both ways to tell one give the same. No condition.
-/
set_option linter.unusedVariables false
set_option linter.unusedSimpArgs false
namespace Pl
open Go

end Pl


/-
  The codes' contracts: rows of rows, values of marks. No condition.
-/
set_option linter.unusedVariables false
set_option linter.unusedSimpArgs false
set_option maxRecDepth 100000
namespace Cg
open Go Go.Proofs

theorem idx_lt {α : Type} (p : α → Bool) : ∀ l : List α, -1 ≤ Pl.idx p l
  | [] => by simp [Pl.idx]
  | x :: l => by have := idx_lt p l; simp only [Pl.idx]; split <;> (try split) <;> omega

/-- One round of slices.IndexFunc. -/
theorem idx_step {α : Type} (d : α) (p : α → Bool) {l : List α} {k : Nat} (hk : k < l.length) (he : Pl.idx p l = if Pl.idx p (l.drop k) < 0 then -1 else Pl.idx p (l.drop k) + k) :
    (p (l.getD k d) = true → (k : Int) = Pl.idx p l) ∧ (p (l.getD k d) = false → Pl.idx p l = if Pl.idx p (l.drop (k + 1)) < 0 then -1 else Pl.idx p (l.drop (k + 1)) + ((k + 1 : Nat) : Int)) := by
  rw [drop_get d hk] at he
  have := idx_lt p (l.drop (k + 1))
  refine ⟨fun h => ?_, fun h => ?_⟩
  · rw [he]; simp only [Pl.idx, h, if_true]; simp
  · rw [he]
    simp only [Pl.idx, h, Bool.false_eq_true, if_false]
    split
    · simp
    · split <;> omega
theorem idx_init {α : Type} (p : α → Bool) (l : List α) : Pl.idx p l = if Pl.idx p (l.drop 0) < 0 then -1 else Pl.idx p (l.drop 0) + ((0 : Nat) : Int) := by
  have := idx_lt p l
  simp only [List.drop_zero]
  split <;> omega
theorem idx_end {α : Type} (p : α → Bool) {l : List α} {k : Nat} (hk : l.length ≤ k) (he : Pl.idx p l = if Pl.idx p (l.drop k) < 0 then -1 else Pl.idx p (l.drop k) + k) : -1 = Pl.idx p l := by
  rw [he, drop_end (by omega)]; simp [Pl.idx]

theorem idx_any {α : Type} (p : α → Bool) : ∀ l : List α, decide (Pl.idx p l ≥ 0) = l.any p
  | [] => by simp [Pl.idx]
  | x :: l => by
    have h := idx_any p l
    have := idx_lt p l
    simp only [Pl.idx, List.any_cons]
    by_cases hp : p x = true
    · simp [hp]
    · simp only [hp, Bool.false_eq_true, if_false, Bool.false_or]
      rw [← h]
      by_cases hq : Pl.idx p l < 0
      · rw [if_pos hq, decide_eq_false (by omega), decide_eq_false (by omega)]
      · rw [if_neg hq, decide_eq_true (by omega), decide_eq_true (by omega)]

end Cg

/-
  The codes' contracts: words. No condition.
-/
set_option linter.unusedVariables false
set_option linter.unusedSimpArgs false
set_option maxRecDepth 100000
namespace Pl
open Go Cg
theorem bs_len (s : ByteArray) : (bs s).length = s.size := rfl
theorem data_getD (s : ByteArray) (k : Nat) : s.data.getD k 0 = (bs s).getD k 0 := by
  unfold bs
  rw [Array.getD_eq_getD_getElem?, List.getD_eq_getElem?_getD, Array.getElem?_toList]
theorem data_getE (s : ByteArray) (k : Nat) : s.data[k]?.getD 0 = (bs s).getD k 0 := by
  rw [← data_getD, Array.getD_eq_getD_getElem?]
theorem sumN_mem {α : Type} (f : α → Nat) {x : α} : ∀ {l : List α}, x ∈ l → f x ≤ sumN f l
  | y :: r, h => by
    simp only [sumN]
    cases List.mem_cons.1 h with
    | inl e => subst e; omega
    | inr e => have := sumN_mem f e; omega
end Pl
namespace Cg
open Go Go.Proofs Pl

theorem SmG.mem {s : Sig} (h : SmG s) {x : Sym} (hx : x ∈ s) : x.1.size ≤ 1048576 ∧ x.2.1.length ≤ 1048576 := by
  have h1 : s.length + sumN costY s ≤ 1048576 := h
  have h2 := sumN_mem costY hx
  have h3 : costY x = x.1.size + x.2.1.length := rfl
  omega
theorem SmG.len {s : Sig} (h : SmG s) : s.length ≤ 1048576 := by
  have h1 : s.length + sumN costY s ≤ 1048576 := h
  omega

theorem name_step {s : ByteArray} {k : Nat} (hk : k < s.size) (he : (bs s).all lower = ((bs s).drop k).all lower) :
    ((((bs s).getD k 0).toNat : Int) < 97 → nameOk s = false) ∧ (122 < (((bs s).getD k 0).toNat : Int) → nameOk s = false) ∧ (97 ≤ (((bs s).getD k 0).toNat : Int) → (((bs s).getD k 0).toNat : Int) ≤ 122 → (bs s).all lower = ((bs s).drop (k + 1)).all lower) := by
  rw [drop_get 0 (by rw [bs_len]; exact hk), List.all_cons] at he
  have no : lower ((bs s).getD k 0) = false → nameOk s = false := fun h => by
    unfold nameOk; rw [he, h]; simp
  refine ⟨fun h => no (by simp [lower, h, -List.getD_eq_getElem?_getD]), fun h => no (by simp [lower, h, -List.getD_eq_getElem?_getD]), fun h1 h2 => ?_⟩
  have : lower ((bs s).getD k 0) = true := by
    unfold lower; rw [decide_eq_false (by omega), decide_eq_false (by omega)]; rfl
  rw [he, this, Bool.true_and]

theorem k_sNameOk : SoundC Try.prog K_sNameOk.1 K_sNameOk.2 := sound_of hm CtxOK.nil A_sNameOk (by kernel_rfl) fun (s : ByteArray) hl => cast (vc_sNameOk s) (by
  replace hl : s.size ≤ 1048576 := hl
  simp [-List.getD_eq_getElem?_getD, -List.mem_cons, -Bool.forall_bool, -Bool.exists_bool, and_assoc, peta, tl_inj, ex_1, ex_2, ex_3, ex_4, ex_5, ex_6, ex_7, ex_8, ex_9, ey_2, ey_3, ey_4, ey_5, ey_6, ey_7, ey_8, ey_9]
  simp only [data_getE]
  refine ⟨⟨0, by simp, by simp, rfl⟩, fun k hk he => ⟨fun hlt => ?_, fun hge => ?_⟩⟩
  · obtain ⟨h1, h2, h3⟩ := name_step hlt he
    exact ⟨hlt, h1, fun h4 => ⟨hlt, h2, fun h5 => ⟨k + 1, hlt, h3 h4 h5, by omega, wrap_small (by omega) (by omega)⟩⟩⟩
  · rw [drop_end (by rw [bs_len]; omega)] at he
    unfold nameOk
    rw [he]
    refine ⟨fun h => ?_, fun h => ?_⟩
    · rw [decide_eq_true (by omega : 1 ≤ s.size)]; simp; omega
    · rw [decide_eq_false (by omega : ¬ 1 ≤ s.size)]; rfl)

theorem k_iNameOk : SoundC Try.prog K_iNameOk.1 K_iNameOk.2 := sound_of hm (CtxOK.nil.and k_within) A_iNameOk (by kernel_rfl) fun (s : ByteArray) hl => cast (vc_iNameOk s) (by
  replace hl : s.size ≤ 1048576 := hl
  simp [-List.getD_eq_getElem?_getD, -List.mem_cons, -Bool.forall_bool, -Bool.exists_bool, and_assoc, peta, tl_inj, ex_1, ex_2, ex_3, ex_4, ex_5, ex_6, ex_7, ex_8, ex_9, ey_2, ey_3, ey_4, ey_5, ey_6, ey_7, ey_8, ey_9]
  simp only [data_getE]
  refine ⟨fun h => ?_, fun h => ?_⟩
  · simp only [withinI, Bool.and_eq_false_iff, decide_eq_false_iff_not] at h
    unfold nameOk
    rcases h with h | h
    · rw [decide_eq_false (by omega : ¬ 1 ≤ s.size)]; rfl
    · rw [decide_eq_false (by omega : ¬ s.size ≤ 2)]; simp
  · simp only [withinI, Bool.and_eq_true, decide_eq_true_eq] at h
    refine ⟨⟨0, by simp, by simp, rfl⟩, fun k hk he => ⟨fun hlt => ?_, fun hge => ?_⟩⟩
    · obtain ⟨h1, h2, h3⟩ := name_step hlt he
      exact ⟨hlt, h1, fun h4 => ⟨hlt, h2, fun h5 => ⟨k + 1, hlt, h3 h4 h5, by omega, wrap_small (by omega) (by omega)⟩⟩⟩
    · rw [drop_end (by rw [bs_len]; omega)] at he
      unfold nameOk
      rw [he, decide_eq_true (by omega : 1 ≤ s.size), decide_eq_true (by omega : s.size ≤ 2)]
      rfl)

theorem k_l4Sort : SoundC Try.prog K_l4Sort.1 K_l4Sort.2 := sound_of hm CtxOK.nil (fun _ => []) (by kernel_rfl) fun (x : Int) _ => cast (vc_l4Sort x) (by
  simp [-List.getD_eq_getElem?_getD, -List.mem_cons, -Bool.forall_bool, -Bool.exists_bool, and_assoc, peta, tl_inj, ex_1, ex_2, ex_3, ex_4, ex_5, ex_6, ex_7, ex_8, ex_9, ey_2, ey_3, ey_4, ey_5, ey_6, ey_7, ey_8, ey_9]
  exact ⟨fun h => by simp [isSort, h], fun h => by simp [isSort, h, Bool.beq_eq_decide_eq]⟩)
theorem k_isSort : SoundC Try.prog K_isSort.1 K_isSort.2 := sound_of hm CtxOK.nil (fun _ => []) (by kernel_rfl) fun (x : Int) _ => cast (vc_isSort x) (by
  simp [-List.getD_eq_getElem?_getD, -List.mem_cons, -Bool.forall_bool, -Bool.exists_bool, and_assoc, peta, tl_inj, ex_1, ex_2, ex_3, ex_4, ex_5, ex_6, ex_7, ex_8, ex_9, ey_2, ey_3, ey_4, ey_5, ey_6, ey_7, ey_8, ey_9]
  exact ⟨fun h => by simp [isSort, h], fun h => by simp [isSort, h, Bool.beq_eq_decide_eq]⟩)
theorem k_symok1 : SoundC Try.prog K_symok1.1 K_symok1.2 := sound_of hm (CtxOK.nil.and k_isSort) (fun _ => []) (by kernel_rfl) fun (x : Int) _ => cast (vc_symok1 x) (by
  simp [-List.getD_eq_getElem?_getD, -List.mem_cons, -Bool.forall_bool, -Bool.exists_bool, and_assoc, peta, tl_inj, ex_1, ex_2, ex_3, ex_4, ex_5, ex_6, ex_7, ex_8, ex_9, ey_2, ey_3, ey_4, ey_5, ey_6, ey_7, ey_8, ey_9])
theorem k_IndexSort : SoundC Try.prog K_IndexSort.1 K_IndexSort.2 := sound_of hm (CtxOK.nil.and k_symok1) A_IndexSort (by kernel_rfl) fun (l : List Int) hl => cast (vc_IndexSort l) (by
  replace hl : Sz l := hl
  simp [-List.getD_eq_getElem?_getD, -List.mem_cons, -Bool.forall_bool, -Bool.exists_bool, and_assoc, peta, tl_inj, ex_1, ex_2, ex_3, ex_4, ex_5, ex_6, ex_7, ex_8, ex_9, ey_2, ey_3, ey_4, ey_5, ey_6, ey_7, ey_8, ey_9]
  exact ⟨⟨0, by simp, idx_init _ _, rfl⟩, fun k hk he => ⟨fun hlt => ⟨hlt, fun h => (idx_step 0 _ hlt he).1 (by simp [h, -List.getD_eq_getElem?_getD]), fun h => ⟨k + 1, hlt, (idx_step 0 _ hlt he).2 (by simp [h, -List.getD_eq_getElem?_getD]), by omega, wrap_succ hlt hl⟩⟩, fun hge => idx_end _ hge he⟩⟩)
theorem k_ContainsSort : SoundC Try.prog K_ContainsSort.1 K_ContainsSort.2 := sound_of hm (CtxOK.nil.and k_IndexSort) (fun _ => []) (by kernel_rfl) fun (l : List Int) hl => cast (vc_ContainsSort l) (by
  replace hl : Sz l := hl
  simp only [idx_any]
  simp [-List.getD_eq_getElem?_getD, -List.mem_cons, -Bool.forall_bool, -Bool.exists_bool, and_assoc, peta, tl_inj, ex_1, ex_2, ex_3, ex_4, ex_5, ex_6, ex_7, ex_8, ex_9, ey_2, ey_3, ey_4, ey_5, ey_6, ey_7, ey_8, ey_9]
  exact hl)
theorem all_any {α : Type} (p : α → Bool) (l : List α) : l.all p = !(l.any fun y => !p y) := by
  induction l with
  | nil => rfl
  | cons x r ih => simp only [List.all_cons, List.any_cons, ih]; cases p x <;> rfl

theorem k_symok : SoundC Try.prog K_symok.1 K_symok.2 := sound_of hm (((CtxOK.nil.and k_ContainsSort).and k_isSort).and k_iNameOk) (fun _ => []) (by kernel_rfl) fun (x : Sym) hl => cast (vc_symok x) (by
  obtain ⟨h1, h2⟩ : x.1.size ≤ 1048576 ∧ Sz x.2.1 := hl
  simp [-List.getD_eq_getElem?_getD, -List.mem_cons, -Bool.forall_bool, -Bool.exists_bool, and_assoc, peta, tl_inj, ex_1, ex_2, ex_3, ex_4, ex_5, ex_6, ex_7, ex_8, ex_9, ey_2, ey_3, ey_4, ey_5, ey_6, ey_7, ey_8, ey_9]
  refine ⟨h1, fun h3 => ⟨fun h4 => ⟨fun h5 => ⟨h2, ?_⟩, fun h5 => by simp [symOk, h5]⟩, fun h4 => ?_⟩, fun h3 => by simp [symOk, h3]⟩
  · unfold symOk
    rw [h3, h5, decide_eq_true (by omega : x.2.1.length ≤ 2), all_any]; simp
  · unfold symOk
    rw [decide_eq_false (by omega : ¬ x.2.1.length ≤ 2)]; simp)

theorem sig_step {s : Sig} {k : Nat} (hk : k < s.length) (he : sigL none s = sigL (prevS s k) (s.drop k)) :
    (symOk (s.getD k dY) = false → sigOk s = false) ∧ (before (prevS s k) (s.getD k dY).1 = false → sigOk s = false) ∧ (symOk (s.getD k dY) = true → before (prevS s k) (s.getD k dY).1 = true → sigL none s = sigL (prevS s (k + 1)) (s.drop (k + 1))) := by
  rw [drop_get dY hk] at he
  simp only [sigL] at he
  refine ⟨fun h => ?_, fun h => ?_, fun h1 h2 => ?_⟩
  · unfold sigOk; rw [he, h]; simp
  · unfold sigOk; rw [he, h]; simp
  · rw [he, h1, h2]
    simp [prevS, -List.getD_eq_getElem?_getD]
theorem sig_end {s : Sig} {k : Nat} (hk : s.length ≤ k) (he : sigL none s = sigL (prevS s k) (s.drop k)) : sigOk s = decide ((s.length : Int) ≤ 7) := by
  rw [drop_end (by omega)] at he
  unfold sigOk
  rw [he]
  simp only [sigL, Bool.true_and]
  congr 1
  simp only [eq_iff_iff]; omega

theorem sSigOk_inner {s : Sig} (hl : SmG s) {k : Nat} (hlt : k < s.length) (he : sigL none s = sigL (prevS s k) (s.drop k)) (h1 : nameOk (s.getD k dY).1 = true) (h2 : (s.getD k dY).2.1.length ≤ 2) (h3 : isSort (s.getD k dY).2.2 = true) (h4 : before (prevS s k) (s.getD k dY).1 = true) :
    k < s.length ∧
      (∃ x_1, x_1 ≤ (s.getD k dY).2.1.length ∧ (s.getD k dY).2.1.all isSort = ((s.getD k dY).2.1.drop x_1).all isSort ∧ nameOk (s.getD k dY).1 = true ∧ (s.getD k dY).2.1.length ≤ 2 ∧ isSort (s.getD k dY).2.2 = true ∧ before (prevS s k) (s.getD k dY).1 = true ∧ (0 : Int) = (x_1 : Int)) ∧
      ∀ (j : Nat), k < s.length → j ≤ (s.getD k dY).2.1.length → (s.getD k dY).2.1.all isSort = ((s.getD k dY).2.1.drop j).all isSort → nameOk (s.getD k dY).1 = true → (s.getD k dY).2.1.length ≤ 2 → isSort (s.getD k dY).2.2 = true → before (prevS s k) (s.getD k dY).1 = true →
        (j < (s.getD k dY).2.1.length → j < (s.getD k dY).2.1.length ∧ (isSort ((s.getD k dY).2.1.getD j 0) = false → sigOk s = false) ∧
          (isSort ((s.getD k dY).2.1.getD j 0) = true → k < s.length ∧ ∃ x_1, x_1 ≤ (s.getD k dY).2.1.length ∧ (s.getD k dY).2.1.all isSort = ((s.getD k dY).2.1.drop x_1).all isSort ∧ nameOk (s.getD k dY).1 = true ∧ (s.getD k dY).2.1.length ≤ 2 ∧ isSort (s.getD k dY).2.2 = true ∧ before (prevS s k) (s.getD k dY).1 = true ∧ (s.getD k dY).2.1.length - x_1 < (s.getD k dY).2.1.length - j ∧ IntKind.i64.wrap ((j : Int) + 1) = (x_1 : Int))) ∧
        ((s.getD k dY).2.1.length ≤ j → ∃ x', x' ≤ s.length ∧ sigL none s = sigL (prevS s x') (s.drop x') ∧ s.length - x' < s.length - k ∧ IntKind.i64.wrap ((k : Int) + 1) = (x' : Int)) := by
  have hlen := hl.len
  obtain ⟨e1, e2, e3⟩ := sig_step hlt he
  refine ⟨hlt, ⟨0, by simp, by simp, h1, h2, h3, h4, rfl⟩, fun j _ hj hj2 _ _ _ _ => ⟨fun hjl => ⟨hjl, fun h => ?_, fun h => ⟨hlt, j + 1, hjl, ?_, h1, h2, h3, h4, by omega, wrap_small (by omega) (by omega)⟩⟩, fun hge => ⟨k + 1, hlt, e3 ?_ h4, by omega, wrap_small (by omega) (by omega)⟩⟩⟩
  · rw [drop_get 0 hjl, List.all_cons, h, Bool.false_and] at hj2
    exact e1 (by unfold symOk; rw [hj2]; simp)
  · rw [hj2, drop_get 0 hjl, List.all_cons, h, Bool.true_and]
  · rw [drop_end (by omega)] at hj2
    unfold symOk
    rw [hj2, h1, h3, decide_eq_true h2]; rfl

theorem k_sSigOk : SoundC Try.prog K_sSigOk.1 K_sSigOk.2 := sound_of hm ((CtxOK.nil.and k_l4Sort).and k_sNameOk) A_sSigOk (by kernel_rfl) fun (s : Sig) hl => cast (vc_sSigOk s) (by
  replace hl : SmG s := hl
  simp [-List.getD_eq_getElem?_getD, -List.mem_cons, -Bool.forall_bool, -Bool.exists_bool, and_assoc, peta, tl_inj, ex_1, ex_2, ex_3, ex_4, ex_5, ex_6, ex_7, ex_8, ex_9, ey_2, ey_3, ey_4, ey_5, ey_6, ey_7, ey_8, ey_9]
  have hlen := hl.len
  refine ⟨⟨0, by simp, by simp [prevS], rfl⟩, fun k hk he => ⟨fun hlt => ?_, fun hge => (sig_end hge he).symm⟩⟩
  obtain ⟨m1, m2⟩ := hl.mem (getD_mem dY hlt)
  obtain ⟨e1, e2, e3⟩ := sig_step hlt he
  have inner : nameOk (s.getD k dY).1 = true → (s.getD k dY).2.1.length ≤ 2 → isSort (s.getD k dY).2.2 = true → before (prevS s k) (s.getD k dY).1 = true → _ := sSigOk_inner hl hlt he
  refine ⟨hlt, m1, fun h => e1 (by unfold symOk; rw [h]; rfl), fun h1 => ⟨fun h => e1 ?_, fun h2 => ⟨fun h => e1 (by unfold symOk; rw [h]; simp), fun h3 => ⟨fun h4 => ?_, fun h4 => inner h1 (by omega) h3 (by rw [h4]; rfl)⟩⟩⟩⟩
  · unfold symOk; rw [decide_eq_false (by omega : ¬ (s.getD k dY).2.1.length ≤ 2)]; simp
  · rw [wrap_small (by omega) (by omega)]
    have e : ((k : Int) - 1).toNat = k - 1 := by omega
    rw [e]
    have hb : before (prevS s k) (s.getD k dY).1 = Op.bytesLess (s.getD (k - 1) dY).1.toList (s.getD k dY).1.toList := by
      unfold prevS; rw [if_neg (by omega)]; rfl
    exact ⟨by omega, by omega, by omega, fun h => e2 (by rw [hb, h]), fun h => inner h1 (by omega) h3 (by rw [hb, h])⟩)

theorem k_iSigOk : SoundC Try.prog K_iSigOk.1 K_iSigOk.2 := sound_of hm (CtxOK.nil.and k_symok) A_iSigOk (by kernel_rfl) fun (s : Sig) hl => cast (vc_iSigOk s) (by
  replace hl : SmG s := hl
  simp [-List.getD_eq_getElem?_getD, -List.mem_cons, -Bool.forall_bool, -Bool.exists_bool, and_assoc, peta, tl_inj, ex_1, ex_2, ex_3, ex_4, ex_5, ex_6, ex_7, ex_8, ex_9, ey_2, ey_3, ey_4, ey_5, ey_6, ey_7, ey_8, ey_9]
  have hlen := hl.len
  refine ⟨⟨0, by simp, by simp [prevS], rfl⟩, fun k hk he => ⟨fun hlt => ?_, fun hge => (sig_end hge he).symm⟩⟩
  obtain ⟨m1, m2⟩ := hl.mem (getD_mem dY hlt)
  obtain ⟨e1, e2, e3⟩ := sig_step hlt he
  refine ⟨hlt, m1, by omega, e1, fun h1 => ⟨fun h4 => ?_, fun h4 => ⟨k + 1, hlt, e3 h1 (by rw [h4]; rfl), by omega, wrap_small (by omega) (by omega)⟩⟩⟩
  rw [wrap_small (by omega) (by omega)]
  have e : ((k : Int) - 1).toNat = k - 1 := by omega
  rw [e]
  have hb : before (prevS s k) (s.getD k dY).1 = Op.bytesLess (s.getD (k - 1) dY).1.toList (s.getD k dY).1.toList := by
    unfold prevS; rw [if_neg (by omega)]; rfl
  exact ⟨by omega, by omega, by omega, fun h => e2 (by rw [hb, h]), fun h => ⟨k + 1, hlt, e3 h1 (by rw [hb, h]), by omega, wrap_small (by omega) (by omega)⟩⟩)

end Cg

/-
  The codes' contracts: terms. No condition.
-/
set_option linter.unusedVariables false
set_option linter.unusedSimpArgs false
set_option maxRecDepth 100000
set_option maxHeartbeats 4000000
namespace Pl
open Go Cg
end Pl
namespace Cg
open Go Go.Proofs Pl
theorem SmTs.mem {l : List Tm} (h : SmTs l) {t : Tm} (ht : t ∈ l) : SmT t := by
  have := costT_mem ht
  have h1 : l.length + costTs l ≤ 1048576 := h
  show costT t ≤ 1048576
  omega
theorem SmTs.len {l : List Tm} (h : SmTs l) : l.length ≤ 1048576 := by
  have h1 : l.length + costTs l ≤ 1048576 := h
  omega
theorem SmT.kids {v : ByteArray} {ks : List Tm} (h : SmT (.mk v ks)) : SmTs ks := by
  have h1 : costT (.mk v ks) ≤ 1048576 := h
  rw [costT_eq] at h1
  simp only [Tree.val, Tree.kids] at h1
  show ks.length + costTs ks ≤ 1048576
  omega

end Cg

/-
  The codes' contracts: the sorts of terms. No condition.
-/
set_option linter.unusedVariables false
set_option linter.unusedSimpArgs false
set_option maxRecDepth 100000
set_option maxHeartbeats 1000000
namespace Pl
open Go Cg
theorem sumN_le {α : Type} {f : α → Nat} {b : Nat} : ∀ {l : List α}, (∀ x ∈ l, f x ≤ b) → sumN f l ≤ l.length * b
  | [], _ => Nat.zero_le _
  | x :: r, h => by
    simp only [sumN, List.length_cons, Nat.add_mul, Nat.one_mul]
    have := h x List.mem_cons_self
    have := sumN_le (l := r) fun y hy => h y (List.mem_cons_of_mem _ hy)
    omega
theorem find_step {s : Sig} {nm : ByteArray} {k : Nat} (hk : k < s.length) (he : find s nm = find (s.drop k) nm) : ((s.getD k dY).1 = nm → find s nm = some (s.getD k dY)) ∧ ((s.getD k dY).1 ≠ nm → find s nm = find (s.drop (k + 1)) nm) := by
  rw [drop_get dY hk] at he
  unfold find at he ⊢
  rw [List.find?_cons] at he
  refine ⟨fun h => ?_, fun h => ?_⟩
  · rw [he]; simp only [h, decide_true]
  · rw [he]; simp only [h, decide_false]
end Pl
namespace Cg
open Go Go.Proofs Pl

theorem k_l4Find : SoundC Try.prog K_l4Find.1 K_l4Find.2 := sound_of hm CtxOK.nil (fun (s, nm) => A_l4Find s nm) (by kernel_rfl) fun (s, nm) hl => cast (vc_l4Find s nm) (by
  replace hl : SmG s := hl
  simp [-List.getD_eq_getElem?_getD, -List.mem_cons, -Bool.forall_bool, -Bool.exists_bool, and_assoc, peta, tl_inj, ex_1, ex_2, ex_3, ex_4, ex_5, ex_6, ex_7, ex_8, ex_9, ey_2, ey_3, ey_4, ey_5, ey_6, ey_7, ey_8, ey_9]
  have hlen := hl.len
  refine ⟨⟨0, by simp, by simp, rfl, rfl⟩, fun k hk he => ⟨fun hlt => ⟨hlt, fun h => ?_, fun h => ⟨k + 1, hlt, (find_step hlt he).2 h, by omega, wrap_small (by omega) (by omega)⟩⟩, fun hge => ?_⟩⟩
  · have := (find_step hlt he).1 h
    unfold symOf
    rw [this]
    exact ⟨hlt, rfl, rfl, rfl, rfl⟩
  · rw [drop_end (by omega)] at he
    unfold symOf
    rw [he]
    exact ⟨rfl, rfl, rfl, rfl⟩)
theorem k_symbol : SoundC Try.prog K_symbol.1 K_symbol.2 := sound_of hm CtxOK.nil (fun (s, nm) => A_symbol s nm) (by kernel_rfl) fun (s, nm) hl => cast (vc_symbol s nm) (by
  replace hl : SmG s := hl
  simp [-List.getD_eq_getElem?_getD, -List.mem_cons, -Bool.forall_bool, -Bool.exists_bool, and_assoc, peta, tl_inj, ex_1, ex_2, ex_3, ex_4, ex_5, ex_6, ex_7, ex_8, ex_9, ey_2, ey_3, ey_4, ey_5, ey_6, ey_7, ey_8, ey_9]
  have hlen := hl.len
  refine ⟨⟨0, by simp, by simp, rfl, rfl⟩, fun k hk he => ⟨fun hlt => ⟨hlt, fun h => ?_, fun h => ⟨k + 1, hlt, (find_step hlt he).2 h, by omega, wrap_small (by omega) (by omega)⟩⟩, fun hge => ?_⟩⟩
  · have := (find_step hlt he).1 h
    unfold symOf
    rw [this]
    exact ⟨rfl, rfl, rfl, rfl⟩
  · rw [drop_end (by omega)] at he
    unfold symOf
    rw [he]
    exact ⟨rfl, rfl, rfl, rfl⟩)
end Cg

/-
  The codes' contracts: models: sizes, copies, equality. No condition.
-/
set_option linter.unusedVariables false
set_option linter.unusedSimpArgs false
set_option maxRecDepth 100000
set_option maxHeartbeats 1000000
namespace Cg
open Go Go.Proofs Pl
theorem SmM.mem {m : Mdl} (h : SmM m) {x : Rw} (hx : x ∈ m) : x.1.size ≤ 1048576 ∧ x.2.1.length ≤ 1048576 := by
  have h1 : m.length + sumN costR m ≤ 1048576 := h
  have h2 := sumN_mem costR hx
  have h3 : costR x = x.1.size + x.2.1.length := rfl
  omega
theorem SmM.len {m : Mdl} (h : SmM m) : m.length ≤ 1048576 := by
  have h1 : m.length + sumN costR m ≤ 1048576 := h
  omega

theorem k_l7Rats : SoundC Try.prog K_l7Rats.1 K_l7Rats.2 := sound_of hm CtxOK.nil (fun x => A_l7Rats x.1 x.2) (by kernel_rfl) fun (x : List Rt × List Rt) hl => (by
  rw [← vc_l7Rats x]
  have hlen : x.1.length ≤ 4294967296 := hl
  obtain ⟨l, m⟩ := x
  dsimp only at *
  simp [-List.getD_eq_getElem?_getD, -List.mem_cons, -Bool.forall_bool, -Bool.exists_bool, and_assoc, peta, tl_inj, ex_1, ex_2, ex_3, ex_4, ex_5, ex_6, ex_7, ex_8, ex_9, ey_2, ey_3, ey_4, ey_5, ey_6, ey_7, ey_8, ey_9]
  refine ⟨fun h e => h (by rw [e]), fun h => ⟨⟨0, by simp; omega⟩, fun k hk hlm he => ⟨fun hlt => ⟨hlt, by omega, fun h => (eq_step dQ hlt hlm he).1 (fun e => by rw [e] at h; simp at h), fun h1 h2 => ⟨k + 1, hlt, hlm, (eq_step dQ hlt hlm he).2 (Prod.ext h1 h2), by omega, wrap_small (by omega) (by omega)⟩⟩, fun hge => ?_⟩⟩⟩
  rw [drop_end (by omega), drop_end (l := m) (by omega)] at he
  exact he.2 rfl)

theorem k_EqualRats : SoundC Try.prog K_EqualRats.1 K_EqualRats.2 := sound_of hm CtxOK.nil (fun x => A_EqualRats x.1 x.2) (by kernel_rfl) fun (x : List Rt × List Rt) hl => (by
  rw [← vc_EqualRats x]
  have hlen : x.1.length ≤ 4294967296 := hl
  obtain ⟨l, m⟩ := x
  dsimp only at *
  simp [-List.getD_eq_getElem?_getD, -List.mem_cons, -Bool.forall_bool, -Bool.exists_bool, and_assoc, peta, tl_inj, ex_1, ex_2, ex_3, ex_4, ex_5, ex_6, ex_7, ex_8, ex_9, ey_2, ey_3, ey_4, ey_5, ey_6, ey_7, ey_8, ey_9]
  refine ⟨fun h e => h (by rw [e]), fun h => ⟨⟨0, by simp; omega⟩, fun k hk hlm he => ⟨fun hlt => ⟨hlt, by omega, fun h => (eq_step dQ hlt hlm he).1 (fun e => by rw [e] at h; simp at h), fun h1 h2 => ⟨k + 1, hlt, hlm, (eq_step dQ hlt hlm he).2 (Prod.ext h1 h2), by omega, wrap_small (by omega) (by omega)⟩⟩, fun hge => ?_⟩⟩⟩
  rw [drop_end (by omega), drop_end (l := m) (by omega)] at he
  exact he.2 rfl)

theorem k_ModelSame1 : SoundC Try.prog K_ModelSame1.1 K_ModelSame1.2 := sound_of hm (CtxOK.nil.and k_EqualRats) (fun _ => []) (by kernel_rfl) fun (x : Rw × Rw) hl => (by
  rw [← vc_ModelSame1 x]
  have h1 : x.1.2.1.length ≤ 4294967296 := hl
  obtain ⟨⟨a, b, c, d⟩, a', b', c', d'⟩ := x
  dsimp only at *
  simp [-List.getD_eq_getElem?_getD, -List.mem_cons, -Bool.forall_bool, -Bool.exists_bool, and_assoc, peta, tl_inj, ex_1, ex_2, ex_3, ex_4, ex_5, ex_6, ex_7, ex_8, ex_9, ey_2, ey_3, ey_4, ey_5, ey_6, ey_7, ey_8, ey_9]
  refine ⟨fun e1 => ⟨h1, fun e2 => ?_, fun h _ e => absurd e h⟩, fun h e => absurd e h⟩
  rw [decide_eq_true e1, decide_eq_true e2, Bool.true_and, Bool.true_and, Bool.beq_eq_decide_eq, Bool.beq_eq_decide_eq])

theorem k_EqualRows : SoundC Try.prog K_EqualRows.1 K_EqualRows.2 := sound_of hm (CtxOK.nil.and k_ModelSame1) (fun x => A_EqualRows x.1 x.2) (by kernel_rfl) fun (x : Mdl × Mdl) hl => (by
  rw [← vc_EqualRows x]
  have hs : SmM x.1 := hl
  have hlen := SmM.len hs
  obtain ⟨l, m⟩ := x
  dsimp only at *
  simp [-List.getD_eq_getElem?_getD, -List.mem_cons, -Bool.forall_bool, -Bool.exists_bool, and_assoc, peta, tl_inj, ex_1, ex_2, ex_3, ex_4, ex_5, ex_6, ex_7, ex_8, ex_9, ey_2, ey_3, ey_4, ey_5, ey_6, ey_7, ey_8, ey_9]
  refine ⟨fun h e => h (by rw [e]), fun h => ⟨⟨0, by simp; omega⟩, fun k hk hlm he => ⟨fun hlt => ⟨hlt, by omega, by have := (hs.mem (getD_mem dR hlt)).2; omega, (eq_step dR hlt hlm he).1, fun h => ⟨k + 1, hlt, hlm, (eq_step dR hlt hlm he).2 h, by omega, wrap_small (by omega) (by omega)⟩⟩, fun hge => ?_⟩⟩⟩
  rw [drop_end (by omega), drop_end (l := m) (by omega)] at he
  exact he.2 rfl)

theorem k_sModelSame : SoundC Try.prog K_sModelSame.1 K_sModelSame.2 := sound_of hm (CtxOK.nil.and k_l7Rats) (fun x => A_sModelSame x.1 x.2) (by kernel_rfl) fun (x : Mdl × Mdl) hl => (by
  rw [← vc_sModelSame x]
  have hs : SmM x.1 := hl
  have hlen := SmM.len hs
  obtain ⟨l, m⟩ := x
  dsimp only at *
  simp [-List.getD_eq_getElem?_getD, -List.mem_cons, -Bool.forall_bool, -Bool.exists_bool, and_assoc, peta, tl_inj, ex_1, ex_2, ex_3, ex_4, ex_5, ex_6, ex_7, ex_8, ex_9, ey_2, ey_3, ey_4, ey_5, ey_6, ey_7, ey_8, ey_9]
  refine ⟨fun h e => h (by rw [e]), fun h => ⟨⟨0, by simp; omega⟩, fun k hk hlm he => ⟨fun hlt => ⟨hlt, by omega, fun h => (eq_step dR hlt hlm he).1 (fun e => h (by rw [e])), fun h1 => ⟨hlt, by omega, fun h => (eq_step dR hlt hlm he).1 (fun e => by rw [e] at h; simp at h), fun h2 h3 => ⟨hlt, by omega, by have := (hs.mem (getD_mem dR hlt)).2; omega, fun h => (eq_step dR hlt hlm he).1 (fun e => h (by rw [e])), fun h4 => ⟨k + 1, hlt, hlm, (eq_step dR hlt hlm he).2 (Prod.ext h1 (Prod.ext h4 (Prod.ext h2 h3))), by omega, wrap_small (by omega) (by omega)⟩⟩⟩⟩, fun hge => ?_⟩⟩⟩
  rw [drop_end (by omega), drop_end (l := m) (by omega)] at he
  exact he.2 rfl)

theorem k_iModelSame : SoundC Try.prog K_iModelSame.1 K_iModelSame.2 := sound_of hm (CtxOK.nil.and k_EqualRows) (fun _ => []) (by kernel_rfl) fun (x : Mdl × Mdl) hl => (by
  rw [← vc_iModelSame x]
  have h1 : SmM x.1 := hl
  obtain ⟨l, m⟩ := x
  dsimp only at *
  simp [-List.getD_eq_getElem?_getD, -List.mem_cons, -Bool.forall_bool, -Bool.exists_bool, and_assoc, peta, tl_inj, ex_1, ex_2, ex_3, ex_4, ex_5, ex_6, ex_7, ex_8, ex_9, ey_2, ey_3, ey_4, ey_5, ey_6, ey_7, ey_8, ey_9]
  exact h1)

end Cg

/-
  The codes' contracts: valid models. No condition.
-/
set_option linter.unusedVariables false
set_option linter.unusedSimpArgs false
set_option maxRecDepth 100000
set_option maxHeartbeats 1000000
namespace Pl
open Go Cg
theorem bl_asymm : ∀ {x y : List UInt8}, Op.bytesLess x y = true → Op.bytesLess y x = false
  | [], [], _ => rfl
  | _ :: _, [], h => by cases h
  | [], _ :: _, _ => rfl
  | a :: x, b :: y, h => by
    simp only [Op.bytesLess, Bool.or_eq_true, decide_eq_true_eq, Bool.and_eq_true, beq_iff_eq] at h
    simp only [Op.bytesLess, Bool.or_eq_false_iff, decide_eq_false_iff_not, Bool.and_eq_false_iff]
    rcases h with h | ⟨h, h1⟩
    · exact ⟨fun h2 => by simp only [UInt8.lt_iff_toNat_lt] at h h2; omega, .inl (by simp only [beq_eq_false_iff_ne]; intro e; subst e; simp only [UInt8.lt_iff_toNat_lt] at h; omega)⟩
    · subst h
      exact ⟨fun h2 => by simp only [UInt8.lt_iff_toNat_lt] at h2; omega, .inr (bl_asymm h1)⟩
theorem bl_total : ∀ {x y : List UInt8}, Op.bytesLess x y = false → Op.bytesLess y x = false → x = y
  | [], [], _, _ => rfl
  | [], _ :: _, h, _ => by cases h
  | _ :: _, [], _, h => by cases h
  | a :: x, b :: y, h, h' => by
    simp only [Op.bytesLess, Bool.or_eq_false_iff, decide_eq_false_iff_not, Bool.and_eq_false_iff, beq_eq_false_iff_ne] at h h'
    have e : a = b := by
      have h1 := h.1
      have h2 := h'.1
      simp only [UInt8.lt_iff_toNat_lt] at h1 h2
      exact UInt8.toNat_inj.1 (by omega)
    subst e
    have h1 : Op.bytesLess x y = false := by rcases h.2 with h | h <;> simp_all
    have h2 : Op.bytesLess y x = false := by rcases h'.2 with h | h <;> simp_all
    rw [bl_total h1 h2]
theorem bl_irrefl (x : List UInt8) : Op.bytesLess x x = false := by
  cases h : Op.bytesLess x x with
  | false => rfl
  | true => rw [bl_asymm h] at h; cases h
theorem tl_inj' {a b : ByteArray} (h : a.toList = b.toList) : a = b := Cg.tl_inj.1 h
theorem cmpS_zero {a b : ByteArray} : cmpS a b = 0 ↔ a = b := by
  unfold cmpS sLess
  constructor
  · intro h
    cases h1 : Op.bytesLess a.toList b.toList <;> simp only [h1, if_true, if_false] at h
    · cases h2 : Op.bytesLess b.toList a.toList <;> simp only [h2] at h
      · exact tl_inj' (bl_total h1 h2)
      · simp at h
    · simp at h
  · rintro rfl; simp [bl_irrefl]
theorem cmpS_neg {a b : ByteArray} : cmpS a b < 0 ↔ sLess a b = true := by
  unfold cmpS
  cases h1 : sLess a b <;> simp
  split <;> omega
theorem cmpI_zero {a b : Int} : cmpI a b = 0 ↔ a = b := by unfold cmpI; split <;> (try split) <;> omega
theorem cmpI_neg {a b : Int} : cmpI a b < 0 ↔ a < b := by unfold cmpI; split <;> (try split) <;> omega
theorem ratOk_iff {x : Rt} : ratOk x = true ↔ -1000000000 ≤ x.1 ∧ x.1 ≤ 1000000000 ∧ 1 ≤ x.2 ∧ x.2 ≤ 1000000000 ∧ Nat.gcd x.1.natAbs x.2.natAbs = 1 := by
  simp only [ratOk, Bool.and_eq_true, decide_eq_true_eq, and_assoc]
theorem rat_eq {x y : Rt} (hx : ratOk x = true) (hy : ratOk y = true) (h : x.1 * y.2 = y.1 * x.2) : x = y := by
  obtain ⟨a, b⟩ := x
  obtain ⟨c, d⟩ := y
  obtain ⟨h1, h2, h3, h4, h5⟩ := ratOk_iff.1 hx
  obtain ⟨k1, k2, k3, k4, k5⟩ := ratOk_iff.1 hy
  dsimp only at *
  have hn : a.natAbs * d.natAbs = c.natAbs * b.natAbs := by rw [← Int.natAbs_mul, ← Int.natAbs_mul, h]
  have hbd : b.natAbs ∣ d.natAbs := Nat.Coprime.dvd_of_dvd_mul_left (m := a.natAbs) (Nat.coprime_comm.1 h5) (hn ▸ Nat.dvd_mul_left _ _)
  have hdb : d.natAbs ∣ b.natAbs := Nat.Coprime.dvd_of_dvd_mul_left (m := c.natAbs) (Nat.coprime_comm.1 k5) (hn ▸ Nat.dvd_mul_left _ _)
  have hbd' : b.natAbs = d.natAbs := Nat.dvd_antisymm hbd hdb
  have e : b = d := by omega
  subst e
  exact Prod.ext (Int.eq_of_mul_eq_mul_right (by omega) h) rfl
theorem cmpRat_zero {x y : Rt} (hx : ratOk x = true) (hy : ratOk y = true) : cmpRat x y = 0 ↔ x = y := by
  constructor
  · intro h
    unfold cmpRat ratLess at h
    rw [hx, hy] at h
    simp only [Bool.and_true, Bool.true_and, decide_eq_true_eq] at h
    apply rat_eq hx hy
    split at h
    · omega
    · split at h
      · omega
      · omega
  · rintro rfl
    have : ratLess x x = false := by unfold ratLess; simp
    unfold cmpRat; rw [this]; rfl
theorem cmpRat_neg {x y : Rt} : cmpRat x y < 0 ↔ ratLess x y = true := by
  unfold cmpRat
  cases ratLess x y <;> simp
  split <;> omega
theorem cmpArgs_neg : ∀ {a b : List Rt}, a.length = b.length → a.all ratOk = true → b.all ratOk = true → (cmpArgs a b < 0 ↔ argsLess a b = true)
  | [], [], _, _, _ => by simp [cmpArgs, argsLess]
  | [], _ :: _, h, _, _ => by simp at h
  | _ :: _, [], h, _, _ => by simp at h
  | x :: a, y :: b, h, ha, hb => by
    simp only [List.all_cons, Bool.and_eq_true] at ha hb
    simp only [cmpArgs, argsLess, cmpRat_zero ha.1 hb.1]
    split
    · exact cmpArgs_neg (by simpa using h) ha.2 hb.2
    · exact cmpRat_neg
theorem rowOk_iff {x : Rw} : rowOk x = true ↔ nameOk x.1 = true ∧ x.2.1.length ≤ 2 ∧ ratOk x.2.2 = true ∧ x.2.1.all ratOk = true := by
  simp only [rowOk, Bool.and_eq_true, decide_eq_true_eq, and_assoc]
theorem cmpRows_neg {x y : Rw} (hx : rowOk x = true) (hy : rowOk y = true) : cmpRows x y < 0 ↔ rowLess x y = true := by
  have ha := (rowOk_iff.1 hx).2.2.2
  have hb := (rowOk_iff.1 hy).2.2.2
  unfold cmpRows rowLess
  simp only [orI, cmpS_zero, cmpI_zero]
  by_cases h1 : x.1 = y.1
  · rw [if_pos h1, if_pos h1]
    by_cases h2 : x.2.1.length = y.2.1.length
    · rw [if_pos (by omega), if_pos h2]
      have := cmpArgs_neg h2 ha hb
      split
      · rename_i h3; rw [← this, h3]
      · exact this
    · rw [if_neg (by omega), if_neg h2, cmpI_neg]
      simp only [decide_eq_true_eq]; omega
  · rw [if_neg h1, if_neg h1]; exact cmpS_neg
end Pl
namespace Cg
open Go Go.Proofs Pl

theorem k_l1Abs : SoundC Try.prog K_l1Abs.1 K_l1Abs.2 := sound_of hm CtxOK.nil (fun _ => []) (by kernel_rfl) fun (x : Int) hl => (by
  rw [← vc_l1Abs x]
  simp [-List.getD_eq_getElem?_getD, -List.mem_cons, -Bool.forall_bool, -Bool.exists_bool, and_assoc, peta, tl_inj, ex_1, ex_2, ex_3, ex_4, ex_5, ex_6, ex_7, ex_8, ex_9, ey_2, ey_3, ey_4, ey_5, ey_6, ey_7, ey_8, ey_9]
  unfold abs1
  refine ⟨fun h => by rw [if_pos (.inl h)], fun h => ⟨fun h2 => by rw [if_pos (.inr h2)], fun h2 => ⟨fun h3 => ?_, fun h3 => ?_⟩⟩⟩
  · rw [if_neg (by omega), if_pos h3, wrap_small (by omega) (by omega)]
  · rw [if_neg (by omega), if_neg (by omega)])

theorem gcd_step {u v n : Nat} (g1 : u ≤ 4611686018427387904) (g2 : v ≤ 4611686018427387904) (g3 : u.gcd v = n) : (0 < v →
      ¬v = 0 ∧
        ∃ a_2 : Nat, a_2 ≤ 4611686018427387904 ∧ ∃ x : Nat, x ≤ 4611686018427387904 ∧ a_2.gcd x = n ∧ x < v ∧ (v : Int) = (a_2 : Int) ∧ (u : Int).tmod (v : Int) = (x : Int)) ∧
    (v = 0 → (u : Int) = (n : Int)) := by
  refine ⟨fun h => ⟨by omega, v, g2, u % v, ?_, ?_, Nat.mod_lt _ h, rfl, (Int.ofNat_tmod u v).symm⟩, fun h => ?_⟩
  · have := Nat.mod_lt u h; omega
  · rw [← g3, Nat.gcd_comm v, Nat.gcd_comm u, ← Nat.gcd_rec]
  · subst h; rw [Nat.gcd_zero_right] at g3; rw [g3]

theorem k_l1Gcd : SoundC Try.prog K_l1Gcd.1 K_l1Gcd.2 := sound_of hm CtxOK.nil (fun x => A_l1Gcd x.1 x.2) (by kernel_rfl) fun (x : Nat × Nat) hl => (by
  obtain ⟨h1, h2⟩ : x.1 ≤ 4611686018427387904 ∧ x.2 ≤ 4611686018427387904 := hl
  obtain ⟨a, b⟩ := x
  rw [← vc_l1Gcd a b]
  dsimp only at *
  refine ⟨⟨(a, b), ⟨h1, h2, rfl⟩, ⟨rfl, rfl, trivial⟩, trivial⟩, fun (u, v) ⟨g1, g2, g3⟩ => ?_⟩
  dsimp only at *
  simp [-List.getD_eq_getElem?_getD, -List.mem_cons, -Bool.forall_bool, -Bool.exists_bool, and_assoc, peta, tl_inj, ex_1, ex_2, ex_3, ex_4, ex_5, ex_6, ex_7, ex_8, ex_9, ey_2, ey_3, ey_4, ey_5, ey_6, ey_7, ey_8, ey_9]
  exact gcd_step g1 g2 g3)

theorem k_gcd : SoundC Try.prog K_gcd.1 K_gcd.2 := sound_of hm CtxOK.nil (fun x => A_gcd x.1 x.2) (by kernel_rfl) fun (x : Int × Int) hl => (by
  obtain ⟨h1, h2⟩ : x.1.natAbs ≤ 4611686018427387904 ∧ x.2.natAbs ≤ 4611686018427387904 := hl
  obtain ⟨a, b⟩ := x
  rw [← vc_gcd a b]
  dsimp only at *
  rw [wrap_small (x := 0 - a) (by omega) (by omega), wrap_small (x := 0 - b) (by omega) (by omega)]
  refine ⟨⟨(a.natAbs, b.natAbs), ⟨h1, h2, rfl⟩, ⟨by split <;> omega, by split <;> omega, trivial⟩, trivial⟩, fun (u, v) ⟨g1, g2, g3⟩ => ?_⟩
  dsimp only at *
  simp [-List.getD_eq_getElem?_getD, -List.mem_cons, -Bool.forall_bool, -Bool.exists_bool, and_assoc, peta, tl_inj, ex_1, ex_2, ex_3, ex_4, ex_5, ex_6, ex_7, ex_8, ex_9, ey_2, ey_3, ey_4, ey_5, ey_6, ey_7, ey_8, ey_9]
  exact gcd_step g1 g2 g3)

theorem k_sRatOk : SoundC Try.prog K_sRatOk.1 K_sRatOk.2 := sound_of hm ((CtxOK.nil.and k_l1Gcd).and k_l1Abs) (fun _ => []) (by kernel_rfl) fun (x : Rt) hl => (by
  rw [← vc_sRatOk x]
  obtain ⟨a, b⟩ := x
  dsimp only at *
  simp [-List.getD_eq_getElem?_getD, -List.mem_cons, -Bool.forall_bool, -Bool.exists_bool, and_assoc, peta, tl_inj, ex_1, ex_2, ex_3, ex_4, ex_5, ex_6, ex_7, ex_8, ex_9, ey_2, ey_3, ey_4, ey_5, ey_6, ey_7, ey_8, ey_9]
  have no : (ratOk (a, b) = true → False) → ratOk (a, b) = false := fun h => by cases h1 : ratOk (a, b) with
    | false => rfl
    | true => exact (h h1).elim
  have e : abs1 a ≤ 1000000000 ↔ -1000000000 ≤ a ∧ a ≤ 1000000000 := by unfold abs1; split <;> (try split) <;> omega
  refine ⟨fun h1 => ⟨fun h2 => ⟨fun h3 => ?_, fun h3 => no fun h => ?_⟩, fun h2 => no fun h => ?_⟩, fun h1 => no fun h => ?_⟩
  · obtain ⟨u1, u2⟩ := e.1 h1
    refine ⟨a.natAbs, ?_, b.natAbs, by omega, by omega, by omega, ?_⟩
    · unfold abs1; rw [if_neg (by omega)]; split <;> omega
    · unfold ratOk
      simp only
      rw [decide_eq_true u1, decide_eq_true u2, decide_eq_true h2, decide_eq_true h3, Bool.beq_eq_decide_eq]
      simp only [Bool.true_and]
      congr 1
      simp only [eq_iff_iff]; omega
  all_goals
    have := ratOk_iff.1 h
    dsimp only at this
    omega)

theorem k_iRatOk : SoundC Try.prog K_iRatOk.1 K_iRatOk.2 := sound_of hm ((CtxOK.nil.and k_gcd).and k_within) (fun _ => []) (by kernel_rfl) fun (x : Rt) hl => (by
  rw [← vc_iRatOk x]
  obtain ⟨a, b⟩ := x
  dsimp only at *
  simp [-List.getD_eq_getElem?_getD, -List.mem_cons, -Bool.forall_bool, -Bool.exists_bool, and_assoc, peta, tl_inj, ex_1, ex_2, ex_3, ex_4, ex_5, ex_6, ex_7, ex_8, ex_9, ey_2, ey_3, ey_4, ey_5, ey_6, ey_7, ey_8, ey_9]
  simp only [withinI, Bool.and_eq_true, decide_eq_true_eq, Bool.and_eq_false_iff, decide_eq_false_iff_not]
  have no : (ratOk (a, b) = true → False) → ratOk (a, b) = false := fun h => by cases h1 : ratOk (a, b) with
    | false => rfl
    | true => exact (h h1).elim
  refine ⟨fun h1 => ⟨fun h2 => ⟨by omega, by omega, ?_⟩, fun h2 => no fun h => ?_⟩, fun h1 => no fun h => ?_⟩
  · unfold ratOk
    simp only
    rw [decide_eq_true h1.1, decide_eq_true h1.2, decide_eq_true h2.1, decide_eq_true h2.2, Bool.beq_eq_decide_eq]
    simp only [Bool.true_and]
    congr 1
    simp only [eq_iff_iff]; omega
  all_goals
    have := ratOk_iff.1 h
    dsimp only at this
    omega)

theorem less_vc (x : Rt × Rt) : (Exists fun (x_1 : Pl.Rt) =>
 ((x.fst.fst = x_1.fst ∧ x.fst.snd = x_1.snd ∧ True) ∧ True) ∧
 True ∧
 condP (Pl.ratOk x_1)
 (Exists fun (x_2 : Pl.Rt) =>
 ((x.snd.fst = x_2.fst ∧ x.snd.snd = x_2.snd ∧ True) ∧ True) ∧
 True ∧
 condP (Pl.ratOk x_2) (Decidable.decide (IntKind.i64.wrap (x.fst.fst * x.snd.snd) < IntKind.i64.wrap (x.snd.fst * x.fst.snd)) = Pl.ratLess x.fst x.snd)
 (Bool.false = Pl.ratLess x.fst x.snd))
 (Bool.false = Pl.ratLess x.fst x.snd)) := by
  obtain ⟨⟨a, b⟩, c, d⟩ := x
  dsimp only at *
  simp [-List.getD_eq_getElem?_getD, -List.mem_cons, -Bool.forall_bool, -Bool.exists_bool, and_assoc, peta, tl_inj, ex_1, ex_2, ex_3, ex_4, ex_5, ex_6, ex_7, ex_8, ex_9, ey_2, ey_3, ey_4, ey_5, ey_6, ey_7, ey_8, ey_9]
  refine ⟨fun h => ⟨fun h2 => ?_, fun h2 => by unfold ratLess; rw [h2]; simp⟩, fun h => by unfold ratLess; rw [h]; simp⟩
  obtain ⟨h1, h2', h3, h4, h5⟩ := ratOk_iff.1 h
  obtain ⟨k1, k2, k3, k4, k5⟩ := ratOk_iff.1 h2
  unfold ratLess
  rw [h, h2]
  dsimp only at *
  have w : ∀ {p q : Int}, -1000000000 ≤ p → p ≤ 1000000000 → 1 ≤ q → q ≤ 1000000000 → IntKind.i64.wrap (p * q) = p * q := fun {p q} e1 e2 e3 e4 => by
    have u1 : p * q ≤ 1000000000 * q := Int.mul_le_mul_of_nonneg_right e2 (by omega)
    have u2 : -1000000000 * q ≤ p * q := Int.mul_le_mul_of_nonneg_right e1 (by omega)
    exact wrap_small (by omega) (by omega)
  rw [w h1 h2' k3 k4, w k1 k2 h3 h4]
  simp
theorem k_sRatLess : SoundC Try.prog K_sRatLess.1 K_sRatLess.2 := sound_of hm (CtxOK.nil.and k_sRatOk) (fun _ => []) (by kernel_rfl) fun (x : Rt × Rt) hl => (by
  rw [← vc_sRatLess x]; exact less_vc x)
theorem k_iRatLess : SoundC Try.prog K_iRatLess.1 K_iRatLess.2 := sound_of hm (CtxOK.nil.and k_iRatOk) (fun _ => []) (by kernel_rfl) fun (x : Rt × Rt) hl => (by
  rw [← vc_iRatLess x]; exact less_vc x)
theorem k_compareRats : SoundC Try.prog K_compareRats.1 K_compareRats.2 := sound_of hm (CtxOK.nil.and k_iRatLess) (fun _ => []) (by kernel_rfl) fun (x : Rt × Rt) hl => (by
  rw [← vc_compareRats x]
  obtain ⟨⟨a, b⟩, c, d⟩ := x
  dsimp only at *
  simp [-List.getD_eq_getElem?_getD, -List.mem_cons, -Bool.forall_bool, -Bool.exists_bool, and_assoc, peta, tl_inj, ex_1, ex_2, ex_3, ex_4, ex_5, ex_6, ex_7, ex_8, ex_9, ey_2, ey_3, ey_4, ey_5, ey_6, ey_7, ey_8, ey_9]
  unfold cmpRat
  refine ⟨fun h => by rw [if_pos h], fun h => ⟨fun h2 => by rw [if_neg (by rw [h]; simp), if_pos h2], fun h2 => by rw [h, h2]; rfl⟩⟩)

theorem all_stepR {α : Type} (d : α) (p : α → Bool) {l : List α} {k : Nat} (hk : k < l.length) (he : l.all p = (l.drop k).all p) : (p (l.getD k d) = false → l.all p = false) ∧ (p (l.getD k d) = true → l.all p = (l.drop (k + 1)).all p) := by
  rw [drop_get d hk, List.all_cons] at he
  exact ⟨fun h => by rw [he, h]; rfl, fun h => by rw [he, h]; rfl⟩

theorem k_l7Row : SoundC Try.prog K_l7Row.1 K_l7Row.2 := sound_of hm ((CtxOK.nil.and k_sNameOk).and k_sRatOk) (fun x => A_l7Row x) (by kernel_rfl) fun (x : Rw) hl => (by
  rw [← vc_l7Row x]
  obtain ⟨h1, h2⟩ : x.1.size ≤ 1048576 ∧ x.2.1.length ≤ 1048576 := hl
  obtain ⟨nm, args, v⟩ := x
  dsimp only at *
  simp [-List.getD_eq_getElem?_getD, -List.mem_cons, -Bool.forall_bool, -Bool.exists_bool, and_assoc, peta, tl_inj, ex_1, ex_2, ex_3, ex_4, ex_5, ex_6, ex_7, ex_8, ex_9, ey_2, ey_3, ey_4, ey_5, ey_6, ey_7, ey_8, ey_9]
  refine ⟨⟨0, by simp, by simp, rfl⟩, fun k hk he => ⟨fun hlt => ?_, fun hge => ?_⟩⟩
  · obtain ⟨e1, e2⟩ := all_stepR dQ ratOk hlt he
    exact ⟨hlt, fun h => by simp [rowOk, e1 h], fun h => ⟨k + 1, hlt, e2 h, by omega, wrap_small (by omega) (by omega)⟩⟩
  · rw [drop_end (by omega)] at he
    simp only [rowOk]
    rw [he]
    refine ⟨h1, fun h => ⟨fun h3 => ?_, fun h3 => ?_⟩, fun h => by rw [h]; rfl⟩
    · rw [h, decide_eq_true (by omega : args.length ≤ 2)]; simp
    · rw [decide_eq_false (by omega : ¬ args.length ≤ 2)]; simp)

theorem less_step {a b : List Rt} {k : Nat} (h1 : k < a.length) (h2 : k < b.length) : argsLess (a.drop k) (b.drop k) = if a.getD k dQ = b.getD k dQ then argsLess (a.drop (k + 1)) (b.drop (k + 1)) else ratLess (a.getD k dQ) (b.getD k dQ) := by
  rw [drop_get dQ h1, drop_get dQ h2]; rfl

theorem k_l7Less : SoundC Try.prog K_l7Less.1 K_l7Less.2 := sound_of hm (CtxOK.nil.and k_sRatLess) (fun x => A_l7Less x.1 x.2) (by kernel_rfl) fun (x : Rw × Rw) hl => (by
  rw [← vc_l7Less x]
  have h1 : x.1.2.1.length ≤ 1048576 := hl
  obtain ⟨⟨nm, args, u1, u2⟩, nm', args', u1', u2'⟩ := x
  dsimp only at *
  simp [-List.getD_eq_getElem?_getD, -List.mem_cons, -Bool.forall_bool, -Bool.exists_bool, and_assoc, peta, tl_inj, ex_1, ex_2, ex_3, ex_4, ex_5, ex_6, ex_7, ex_8, ex_9, ey_2, ey_3, ey_4, ey_5, ey_6, ey_7, ey_8, ey_9]
  unfold rowLess
  dsimp only
  refine ⟨fun h => by rw [if_neg h]; rfl, fun h => ⟨fun h3 => by rw [if_pos h, if_neg (by omega)], fun h3 => ?_⟩⟩
  rw [if_pos h, if_pos (by omega)]
  refine ⟨⟨0, by simp, by omega, by simp, rfl⟩, fun k hk he hs => ⟨fun hlt => ?_, fun hge => ?_⟩⟩
  · rw [less_step hlt (by omega)] at hs
    refine ⟨hlt, by omega, fun h4 => ⟨hlt, by omega, ?_⟩, fun h4 h5 => ⟨k + 1, hlt, he, ?_, by omega, wrap_small (by omega) (by omega)⟩⟩
    · rw [hs, if_neg]
      intro e; rw [e] at h4; simp at h4
    · rw [hs, if_pos (Prod.ext h4 h5)]
  · rw [hs, drop_end (by omega)]; rfl)

theorem k_RowOk1 : SoundC Try.prog K_RowOk1.1 K_RowOk1.2 := sound_of hm (CtxOK.nil.and k_iRatOk) (fun _ => []) (by kernel_rfl) fun (x : Rt) hl => (by
  rw [← vc_RowOk1 x]
  simp [-List.getD_eq_getElem?_getD, -List.mem_cons, -Bool.forall_bool, -Bool.exists_bool, and_assoc, peta, tl_inj, ex_1, ex_2, ex_3, ex_4, ex_5, ex_6, ex_7, ex_8, ex_9, ey_2, ey_3, ey_4, ey_5, ey_6, ey_7, ey_8, ey_9])

theorem k_IndexRat : SoundC Try.prog K_IndexRat.1 K_IndexRat.2 := sound_of hm (CtxOK.nil.and k_RowOk1) (fun x => A_IndexRat x) (by kernel_rfl) fun (l : List Rt) hl => (by
  rw [← vc_IndexRat l]
  replace hl : Sz l := hl
  simp [-List.getD_eq_getElem?_getD, -List.mem_cons, -Bool.forall_bool, -Bool.exists_bool, and_assoc, peta, tl_inj, ex_1, ex_2, ex_3, ex_4, ex_5, ex_6, ex_7, ex_8, ex_9, ey_2, ey_3, ey_4, ey_5, ey_6, ey_7, ey_8, ey_9]
  exact ⟨⟨0, by simp, idx_init _ _, rfl⟩, fun k hk he => ⟨fun hlt => ⟨hlt, fun h => (idx_step dQ _ hlt he).1 (by simp [h, -List.getD_eq_getElem?_getD]), fun h => ⟨k + 1, hlt, (idx_step dQ _ hlt he).2 (by simp [h, -List.getD_eq_getElem?_getD]), by omega, wrap_succ hlt hl⟩⟩, fun hge => idx_end _ hge he⟩⟩)
theorem k_ContainsRat : SoundC Try.prog K_ContainsRat.1 K_ContainsRat.2 := sound_of hm (CtxOK.nil.and k_IndexRat) (fun _ => []) (by kernel_rfl) fun (l : List Rt) hl => (by
  rw [← vc_ContainsRat l]
  replace hl : Sz l := hl
  simp only [idx_any]
  simp [-List.getD_eq_getElem?_getD, -List.mem_cons, -Bool.forall_bool, -Bool.exists_bool, and_assoc, peta, tl_inj, ex_1, ex_2, ex_3, ex_4, ex_5, ex_6, ex_7, ex_8, ex_9, ey_2, ey_3, ey_4, ey_5, ey_6, ey_7, ey_8, ey_9]
  exact hl)
theorem k_rowOk : SoundC Try.prog K_rowOk.1 K_rowOk.2 := sound_of hm (((CtxOK.nil.and k_ContainsRat).and k_iRatOk).and k_iNameOk) (fun _ => []) (by kernel_rfl) fun (x : Rw) hl => (by
  rw [← vc_rowOk x]
  obtain ⟨h1, h2⟩ : x.1.size ≤ 1048576 ∧ x.2.1.length ≤ 1048576 := hl
  obtain ⟨nm, args, v⟩ := x
  dsimp only at *
  simp [-List.getD_eq_getElem?_getD, -List.mem_cons, -Bool.forall_bool, -Bool.exists_bool, and_assoc, peta, tl_inj, ex_1, ex_2, ex_3, ex_4, ex_5, ex_6, ex_7, ex_8, ex_9, ey_2, ey_3, ey_4, ey_5, ey_6, ey_7, ey_8, ey_9]
  simp only [rowOk]
  refine ⟨h1, fun h => ⟨fun h3 => ⟨fun h4 => ⟨by omega, ?_⟩, fun h4 => by rw [h4]; simp⟩, fun h3 => ?_⟩, fun h => by rw [h]; rfl⟩
  · rw [h, h4, decide_eq_true (by omega : args.length ≤ 2), all_any]; simp
  · rw [decide_eq_false (by omega : ¬ args.length ≤ 2)]; simp)

theorem k_isNaNS : SoundC Try.prog K_isNaNS.1 K_isNaNS.2 := sound_of hm CtxOK.nil (fun _ => []) (by kernel_rfl) fun (x : ByteArray) hl => (by
  rw [← vc_isNaNS x]; simp)
theorem k_isNaNI : SoundC Try.prog K_isNaNI.1 K_isNaNI.2 := sound_of hm CtxOK.nil (fun _ => []) (by kernel_rfl) fun (x : Int) hl => (by
  rw [← vc_isNaNI x]; simp)
theorem k_CompareS : SoundC Try.prog K_CompareS.1 K_CompareS.2 := sound_of hm (CtxOK.nil.and k_isNaNS) (fun _ => []) (by kernel_rfl) fun (x : ByteArray × ByteArray) hl => (by
  rw [← vc_CompareS x]
  obtain ⟨a, b⟩ := x
  refine ⟨a, ⟨rfl, trivial⟩, trivial, b, ⟨rfl, trivial⟩, trivial, ?_⟩
  dsimp only
  unfold cmpS sLess
  cases h1 : Op.bytesLess a.toList b.toList with
  | true => simp [condP]
  | false =>
    cases h2 : Op.bytesLess b.toList a.toList with
    | true =>
      have : (a.toList == b.toList) = false := by
        simp only [beq_eq_false_iff_ne]; intro e; rw [e, bl_irrefl] at h2; cases h2
      simp [condP, this]
    | false =>
      have := bl_total h1 h2
      simp [condP, this])
theorem k_CompareI : SoundC Try.prog K_CompareI.1 K_CompareI.2 := sound_of hm (CtxOK.nil.and k_isNaNI) (fun _ => []) (by kernel_rfl) fun (x : Int × Int) hl => (by
  rw [← vc_CompareI x]
  obtain ⟨a, b⟩ := x
  dsimp only at *
  simp [-List.getD_eq_getElem?_getD, -List.mem_cons, -Bool.forall_bool, -Bool.exists_bool, and_assoc, peta, tl_inj, ex_1, ex_2, ex_3, ex_4, ex_5, ex_6, ex_7, ex_8, ex_9, ey_2, ey_3, ey_4, ey_5, ey_6, ey_7, ey_8, ey_9]
  unfold cmpI
  refine ⟨fun h => by rw [if_pos h], fun h => ⟨fun h2 => by rw [if_neg (by omega), if_pos h2], fun h2 => by rw [if_neg (by omega), if_neg (by omega)]⟩⟩)
theorem k_Or : SoundC Try.prog K_Or.1 K_Or.2 := sound_of hm CtxOK.nil (fun x => A_Or x) (by kernel_rfl) fun (x : List Int) hl => (by
  rw [← vc_Or x]
  replace hl : Sz x := hl
  simp [-List.getD_eq_getElem?_getD, -List.mem_cons, -Bool.forall_bool, -Bool.exists_bool, and_assoc, peta, tl_inj, ex_1, ex_2, ex_3, ex_4, ex_5, ex_6, ex_7, ex_8, ex_9, ey_2, ey_3, ey_4, ey_5, ey_6, ey_7, ey_8, ey_9]
  refine ⟨⟨0, by simp, by simp, rfl⟩, fun k hk he => ⟨fun hlt => ?_, fun hge => ?_⟩⟩
  · rw [drop_get 0 hlt] at he
    simp only [orI] at he
    exact ⟨hlt, fun h => by rw [he, if_neg h], fun h => ⟨k + 1, hlt, by rw [he, if_pos h], by omega, wrap_succ hlt hl⟩⟩
  · rw [he, drop_end (by omega)]; rfl)
theorem k_CompareFunc : SoundC Try.prog K_CompareFunc.1 K_CompareFunc.2 := sound_of hm (CtxOK.nil.and k_compareRats) (fun x => A_CompareFunc x.1 x.2) (by kernel_rfl) fun (x : List Rt × List Rt) hl => (by
  rw [← vc_CompareFunc x]
  obtain ⟨h1, h2⟩ : Sz x.1 ∧ Sz x.2 := hl
  obtain ⟨a, b⟩ := x
  dsimp only at *
  simp [-List.getD_eq_getElem?_getD, -List.mem_cons, -Bool.forall_bool, -Bool.exists_bool, and_assoc, peta, tl_inj, ex_1, ex_2, ex_3, ex_4, ex_5, ex_6, ex_7, ex_8, ex_9, ey_2, ey_3, ey_4, ey_5, ey_6, ey_7, ey_8, ey_9]
  refine ⟨⟨0, by simp, by simp, by simp, rfl⟩, fun k hk hk2 he => ⟨fun hlt => ⟨hlt, fun h => ?_, fun h => ?_⟩, fun hge => ⟨fun h => ?_, fun h => ?_⟩⟩⟩
  · rw [he, drop_get dQ hlt, drop_end (l := b) (by omega)]; rfl
  · rw [drop_get dQ hlt, drop_get dQ h] at he
    simp only [cmpArgs] at he
    exact ⟨h, fun h3 => by rw [he, if_neg h3], fun h3 => ⟨k + 1, hlt, h, by rw [he, if_pos h3], by omega, wrap_succ hlt h1⟩⟩
  · rw [he, drop_end (by omega), drop_get dQ (by omega : k < b.length)]; rfl
  · rw [he, drop_end (by omega), drop_end (l := b) (by omega)]; rfl)
theorem k_compareRows : SoundC Try.prog K_compareRows.1 K_compareRows.2 := sound_of hm ((((CtxOK.nil.and k_Or).and k_CompareFunc).and k_CompareI).and k_CompareS) (fun _ => []) (by kernel_rfl) fun (x : Rw × Rw) hl => (by
  rw [← vc_compareRows x]
  obtain ⟨h1, h2⟩ : Sz x.1.2.1 ∧ Sz x.2.2.1 := hl
  obtain ⟨⟨nm, args, u1, u2⟩, nm', args', u1', u2'⟩ := x
  dsimp only at *
  simp [-List.getD_eq_getElem?_getD, -List.mem_cons, -Bool.forall_bool, -Bool.exists_bool, and_assoc, peta, tl_inj, ex_1, ex_2, ex_3, ex_4, ex_5, ex_6, ex_7, ex_8, ex_9, ey_2, ey_3, ey_4, ey_5, ey_6, ey_7, ey_8, ey_9]
  exact ⟨h1, h2, rfl⟩)
theorem k_suits : SoundC Try.prog K_suits.1 K_suits.2 := sound_of hm CtxOK.nil (fun _ => []) (by kernel_rfl) fun (x : Rt × Int) hl => (by
  rw [← vc_suits x]
  obtain ⟨⟨a, b⟩, n⟩ := x
  dsimp only at *
  simp [-List.getD_eq_getElem?_getD, -List.mem_cons, -Bool.forall_bool, -Bool.exists_bool, and_assoc, peta, tl_inj, ex_1, ex_2, ex_3, ex_4, ex_5, ex_6, ex_7, ex_8, ex_9, ey_2, ey_3, ey_4, ey_5, ey_6, ey_7, ey_8, ey_9]
  exact ⟨fun h => by simp [suit, h], fun h => by simp [suit, h, Bool.beq_eq_decide_eq]⟩)
theorem k_l7Fit : SoundC Try.prog K_l7Fit.1 K_l7Fit.2 := sound_of hm (CtxOK.nil.and k_sRatOk) (fun _ => []) (by kernel_rfl) fun (x : Rt × Int) hl => (by
  rw [← vc_l7Fit x]
  obtain ⟨⟨a, b⟩, n⟩ := x
  dsimp only at *
  simp [-List.getD_eq_getElem?_getD, -List.mem_cons, -Bool.forall_bool, -Bool.exists_bool, and_assoc, peta, tl_inj, ex_1, ex_2, ex_3, ex_4, ex_5, ex_6, ex_7, ex_8, ex_9, ey_2, ey_3, ey_4, ey_5, ey_6, ey_7, ey_8, ey_9]
  exact ⟨fun h => ⟨fun h2 => by simp [fit, suit, h, h2], fun h2 => by simp [fit, suit, h, h2, Bool.beq_eq_decide_eq]⟩, fun h => by simp [fit, h]⟩)

theorem m_step {m : Mdl} {k : Nat} (hk : k < m.length) (he : mL none m = mL (prevR m k) (m.drop k)) :
    (rowOk (m.getD k dR) = false → mRight m = false) ∧ (beforeR (prevR m k) (m.getD k dR) = false → mRight m = false) ∧ (rowOk (m.getD k dR) = true → beforeR (prevR m k) (m.getD k dR) = true → mL none m = mL (prevR m (k + 1)) (m.drop (k + 1))) := by
  rw [drop_get dR hk] at he
  simp only [mL] at he
  refine ⟨fun h => ?_, fun h => ?_, fun h1 h2 => ?_⟩
  · unfold mRight; rw [he, h]; simp
  · unfold mRight; rw [he, h]; simp
  · rw [he, h1, h2]
    simp [prevR, -List.getD_eq_getElem?_getD]

theorem k_l7Right : SoundC Try.prog K_l7Right.1 K_l7Right.2 := sound_of hm ((CtxOK.nil.and k_l7Less).and k_l7Row) (fun x => A_l7Right x) (by kernel_rfl) fun (m : Mdl) hl => (by
  rw [← vc_l7Right m]
  replace hl : SmM m := hl
  simp [-List.getD_eq_getElem?_getD, -List.mem_cons, -Bool.forall_bool, -Bool.exists_bool, and_assoc, peta, tl_inj, ex_1, ex_2, ex_3, ex_4, ex_5, ex_6, ex_7, ex_8, ex_9, ey_2, ey_3, ey_4, ey_5, ey_6, ey_7, ey_8, ey_9]
  have hlen := hl.len
  refine ⟨⟨0, by simp, by simp [prevR], rfl⟩, fun k hk he => ⟨fun hlt => ?_, fun hge => ?_⟩⟩
  · obtain ⟨m1, m2⟩ := hl.mem (getD_mem dR hlt)
    obtain ⟨e1, e2, e3⟩ := m_step hlt he
    refine ⟨hlt, m1, m2, e1, fun h1 => ⟨fun h4 => ?_, fun h4 => ⟨k + 1, hlt, e3 h1 (by rw [h4]; rfl), by omega, wrap_small (by omega) (by omega)⟩⟩⟩
    rw [wrap_small (by omega) (by omega)]
    have e : ((k : Int) - 1).toNat = k - 1 := by omega
    rw [e]
    have hb : beforeR (prevR m k) (m.getD k dR) = rowLess (m.getD (k - 1) dR) (m.getD k dR) := by
      unfold prevR; rw [if_neg (by omega)]; rfl
    exact ⟨by omega, by omega, by omega, hlt, (hl.mem (getD_mem dR (by omega))).2, fun h => e2 (by rw [hb, h]), fun h => ⟨k + 1, hlt, e3 h1 (by rw [hb, h]), by omega, wrap_small (by omega) (by omega)⟩⟩
  · rw [drop_end (by omega)] at he
    unfold mRight
    rw [he]
    simp only [mL, Bool.true_and]
    congr 1
    simp only [eq_iff_iff]; omega)

theorem k_iModel : SoundC Try.prog K_iModel.1 K_iModel.2 := sound_of hm ((CtxOK.nil.and k_compareRows).and k_rowOk) (fun x => A_iModel x) (by kernel_rfl) fun (m : Mdl) hl => (by
  rw [← vc_iModel m]
  replace hl : SmM m := hl
  simp [-List.getD_eq_getElem?_getD, -List.mem_cons, -Bool.forall_bool, -Bool.exists_bool, and_assoc, peta, tl_inj, ex_1, ex_2, ex_3, ex_4, ex_5, ex_6, ex_7, ex_8, ex_9, ey_2, ey_3, ey_4, ey_5, ey_6, ey_7, ey_8, ey_9]
  have hlen := hl.len
  refine ⟨fun h => by unfold mRight; rw [decide_eq_false (by omega : ¬ m.length ≤ 40)]; simp, fun h40 => ⟨⟨0, by simp, by simp [prevR], fun h => (h rfl).elim, rfl⟩, fun k hk he hp => ⟨fun hlt => ?_, fun hge => ?_⟩⟩⟩
  · obtain ⟨m1, m2⟩ := hl.mem (getD_mem dR hlt)
    obtain ⟨e1, e2, e3⟩ := m_step hlt he
    refine ⟨hlt, m1, m2, e1, fun h1 => ⟨fun h4 => ?_, fun h4 => ⟨k + 1, hlt, e3 h1 (by rw [h4]; rfl), fun _ => h1, by omega, wrap_small (by omega) (by omega)⟩⟩⟩
    rw [wrap_small (by omega) (by omega)]
    have e : ((k : Int) - 1).toNat = k - 1 := by omega
    rw [e]
    have hb : beforeR (prevR m k) (m.getD k dR) = rowLess (m.getD (k - 1) dR) (m.getD k dR) := by
      unfold prevR; rw [if_neg (by omega)]; rfl
    have hc := cmpRows_neg (hp (by omega)) h1
    have hz := (hl.mem (getD_mem dR (by omega : k - 1 < m.length))).2
    refine ⟨by omega, by omega, by omega, by omega, by omega, fun h => e2 ?_, fun h => ⟨k + 1, hlt, e3 h1 ?_, fun _ => h1, by omega, wrap_small (by omega) (by omega)⟩⟩
    · rw [hb]
      cases h2 : rowLess (m.getD (k - 1) dR) (m.getD k dR) with
      | false => rfl
      | true => have := hc.2 h2; omega
    · rw [hb]; exact hc.1 h
  · rw [drop_end (by omega)] at he
    unfold mRight
    rw [he, decide_eq_true (by omega : m.length ≤ 40)]
    rfl)

theorem fit_step {a : List Rt} {b : List Int} {k : Nat} (h1 : k < a.length) (h2 : k < b.length) : fitL (a.drop k) (b.drop k) = (fit (a.getD k dQ) (b.getD k 0) && fitL (a.drop (k + 1)) (b.drop (k + 1))) := by
  rw [drop_get dQ h1, drop_get 0 h2]; rfl
theorem fit_end {a : List Rt} {b : List Int} {k : Nat} (h1 : a.length ≤ k) : fitL (a.drop k) (b.drop k) = true := by
  rw [drop_end (by omega)]; cases b.drop k <;> rfl
theorem mL_mem : ∀ {m : Mdl} {p : Option Rw}, mL p m = true → ∀ y ∈ m, rowOk y = true
  | x :: m, p, h, y, hy => by
    simp only [mL, Bool.and_eq_true] at h
    rcases List.mem_cons.1 hy with e | e
    · subst e; exact h.1.1
    · exact mL_mem h.2 y e

theorem k_sModelOk : SoundC Try.prog K_sModelOk.1 K_sModelOk.2 := sound_of hm ((((CtxOK.nil.and k_l7Fit).and k_l4Find).and k_l7Right).and k_sSigOk) (fun x => A_sModelOk x.1 x.2) (by kernel_rfl) fun (x : Sig × Mdl) hl => (by
  rw [← vc_sModelOk x]
  obtain ⟨h1, h2⟩ : SmG x.1 ∧ SmM x.2 := hl
  obtain ⟨s, m⟩ := x
  dsimp only at *
  simp [-List.getD_eq_getElem?_getD, -List.mem_cons, -Bool.forall_bool, -Bool.exists_bool, and_assoc, peta, tl_inj, ex_1, ex_2, ex_3, ex_4, ex_5, ex_6, ex_7, ex_8, ex_9, ey_2, ey_3, ey_4, ey_5, ey_6, ey_7, ey_8, ey_9]
  have hlen := h2.len
  have nos : sigOk s = false → modelOk s m = false := fun h => by simp [modelOk, h]
  have nom : mRight m = false → modelOk s m = false := fun h => by simp [modelOk, h]
  refine ⟨h1, nos, fun hs => ⟨h2, nom, fun hm' => ⟨⟨0, by simp, by simp [modelOk, hs, hm'], rfl⟩, fun k hk he => ⟨fun hlt => ?_, fun hge => by rw [he, drop_end (by omega)]; rfl⟩⟩⟩⟩
  rw [drop_get dR hlt, List.all_cons] at he
  have hr := h2.mem (getD_mem dR hlt)
  generalize m.getD k dR = r at *
  have no : rowFits s r = false → modelOk s m = false := fun h => by rw [he, h]; rfl
  refine ⟨hlt, h1, fun h => no (by simp [rowFits, h]), fun hf => ⟨hlt, fun h => no ?_, fun hl2 => ⟨hlt, fun h => no (by simp [rowFits, h]), fun hv => ⟨hlt, ⟨0, by simp, by omega, ?_, rfl⟩, fun j _ hj _ hj2 => ⟨fun hjl => ?_, fun hge => ?_⟩⟩⟩⟩⟩
  · simp only [rowFits]; rw [decide_eq_false (by omega)]; simp
  · simp only [rowFits, List.drop_zero, hf, hv, Bool.true_and]; rw [decide_eq_true (by omega)]; simp
  · rw [fit_step (by omega) hjl] at hj2
    exact ⟨hlt, by omega, hjl, fun h => no (by rw [hj2, h]; rfl), fun h => ⟨hlt, j + 1, by omega, by omega, by rw [hj2, h]; rfl, by omega, wrap_small (by omega) (by omega)⟩⟩
  · rw [fit_end (by omega)] at hj2
    exact ⟨k + 1, hlt, by rw [he, hj2]; rfl, by omega, wrap_small (by omega) (by omega)⟩)
theorem k_iModelOk : SoundC Try.prog K_iModelOk.1 K_iModelOk.2 := sound_of hm ((((CtxOK.nil.and k_suits).and k_symbol).and k_iModel).and k_iSigOk) (fun x => A_iModelOk x.1 x.2) (by kernel_rfl) fun (x : Sig × Mdl) hl => (by
  rw [← vc_iModelOk x]
  obtain ⟨h1, h2⟩ : SmG x.1 ∧ SmM x.2 := hl
  obtain ⟨s, m⟩ := x
  dsimp only at *
  simp [-List.getD_eq_getElem?_getD, -List.mem_cons, -Bool.forall_bool, -Bool.exists_bool, and_assoc, peta, tl_inj, ex_1, ex_2, ex_3, ex_4, ex_5, ex_6, ex_7, ex_8, ex_9, ey_2, ey_3, ey_4, ey_5, ey_6, ey_7, ey_8, ey_9]
  have hlen := h2.len
  have nos : sigOk s = false → modelOk s m = false := fun h => by simp [modelOk, h]
  have nom : mRight m = false → modelOk s m = false := fun h => by simp [modelOk, h]
  have hmr : mRight m = true → mL none m = true := fun h => by unfold mRight at h; exact (Bool.and_eq_true _ _ ▸ h).1
  refine ⟨h1, nos, fun hs => ⟨h2, nom, fun hm' => ⟨⟨0, by simp, by simp [modelOk, hs, hm'], hmr hm', rfl⟩, fun k hk he hm2 => ⟨fun hlt => ?_, fun hge => by rw [he, drop_end (by omega)]; rfl⟩⟩⟩⟩
  rw [drop_get dR hlt, List.all_cons] at he
  have hr := h2.mem (getD_mem dR hlt)
  obtain ⟨_, _, q1, q2⟩ := rowOk_iff.1 (mL_mem hm2 _ (getD_mem dR hlt))
  generalize m.getD k dR = r at *
  have no : rowFits s r = false → modelOk s m = false := fun h => by rw [he, h]; rfl
  refine ⟨hlt, h1, fun h => no (by simp [rowFits, h]), fun hf => ⟨fun h => no ?_, fun hl2 => ⟨fun h => no (by simp [rowFits, fit, h]), fun hv => ⟨hlt, ⟨0, by simp, by omega, ?_, rfl⟩, fun j _ hj _ hj2 => ⟨fun hjl => ?_, fun hge => ?_⟩⟩⟩⟩⟩
  · simp only [rowFits]; rw [decide_eq_false (by omega)]; simp
  · simp only [rowFits, List.drop_zero, hf, fit, q1, hv, Bool.true_and]; rw [decide_eq_true (by omega)]; simp
  · rw [fit_step hjl (by omega)] at hj2
    have hq : ratOk (r.2.1.getD j dQ) = true := List.all_eq_true.1 q2 _ (getD_mem dQ hjl)
    simp only [fit, hq, Bool.true_and] at hj2
    exact ⟨hjl, by omega, fun h => no (by rw [hj2, h]; rfl), fun h => ⟨hlt, j + 1, by omega, by omega, by rw [hj2, h]; rfl, by omega, wrap_small (by omega) (by omega)⟩⟩
  · rw [fit_end (by omega)] at hj2
    exact ⟨k + 1, hlt, by rw [he, hj2]; rfl, hm2, by omega, wrap_small (by omega) (by omega)⟩)
end Cg

/-
  What is left to show of each function's code, printed by a program: Draw. No condition.
-/
set_option maxRecDepth 100000
set_option linter.unusedVariables false
namespace Cg
open Go Go.Proofs
theorem vc_l16Open (b : List Int) : (condP (Decidable.decide ((↑b.length : Int) > (2000 : Int)))
 (((0 : Int) ≤ (2000 : Int) ∧ (2000 : Int) ≤ (↑b.length : Int)) ∧
 Exists fun (y : List Int) => Rd (0 : Int) y (0 : Int) ∧ ((0 : Nat) = (0 : Nat) ∧ True) ∧ (Is (AV.sl (2000 : Nat) (1 : Nat) (cU b)) (byts y) ∧ (0 : Int) = (0 : Int) ∧ True) ∧ True)
 (Exists fun (y : List Int) => Rd (0 : Int) y (0 : Int) ∧ ((0 : Nat) = (0 : Nat) ∧ True) ∧ (Is (byts b) (byts y) ∧ (0 : Int) = (0 : Int) ∧ True) ∧ True)) = Goal Try.prog [] ([]) K_l16Open.1 K_l16Open.2 (b) := by kernel_rfl

theorem vc_pick (b : List Int) (p n : Int) : (condP (Decidable.decide (n < (1 : Int)))
 (Exists fun (y : Int) =>
 (((1 : Int) ≤ n → (0 : Int) ≤ y ∧ y < n) ∧ (n < (1 : Int) → y = (0 : Int))) ∧
 ((0 : Int) = y ∧ True) ∧ (Is (byts b) (byts b) ∧ IntKind.i64.wrap (p + (1 : Int)) = p + (1 : Int) ∧ True) ∧ True)
 (condP ((↑b.length : Int) == (0 : Int))
 (Exists fun (y : Int) =>
 (((1 : Int) ≤ n → (0 : Int) ≤ y ∧ y < n) ∧ (n < (1 : Int) → y = (0 : Int))) ∧
 ((0 : Int) = y ∧ True) ∧ (Is (byts b) (byts b) ∧ IntKind.i64.wrap (p + (1 : Int)) = p + (1 : Int) ∧ True) ∧ True)
 (condP (Decidable.decide (IntKind.i64.wrap (IntKind.i64.wrap (p + (1 : Int)) - (1 : Int)) < (↑b.length : Int)))
 (((0 : Int) ≤ IntKind.i64.wrap (IntKind.i64.wrap (p + (1 : Int)) - (1 : Int)) ∧ IntKind.i64.wrap (IntKind.i64.wrap (p + (1 : Int)) - (1 : Int)) < (↑b.length : Int)) ∧
 (IntKind.i64.wrap (IntKind.i64.wrap (p + (1 : Int)) - (1 : Int))).toNat < b.length ∧
 n ≠ (0 : Int) ∧
 Exists fun (y : Int) =>
 (((1 : Int) ≤ n → (0 : Int) ≤ y ∧ y < n) ∧ (n < (1 : Int) → y = (0 : Int))) ∧
 ((IntKind.i64.wrap (b.getD (IntKind.i64.wrap (IntKind.i64.wrap (p + (1 : Int)) - (1 : Int))).toNat (0 : Int))).tmod n = y ∧ True) ∧
 (Is (byts b) (byts b) ∧ IntKind.i64.wrap (p + (1 : Int)) = p + (1 : Int) ∧ True) ∧ True)
 ((↑b.length : Int) ≠ (0 : Int) ∧
 ((0 : Int) ≤ (IntKind.i64.wrap (IntKind.i64.wrap (p + (1 : Int)) - (1 : Int))).tmod (↑b.length : Int) ∧
 (IntKind.i64.wrap (IntKind.i64.wrap (p + (1 : Int)) - (1 : Int))).tmod (↑b.length : Int) < (↑b.length : Int)) ∧
 ((IntKind.i64.wrap (IntKind.i64.wrap (p + (1 : Int)) - (1 : Int))).tmod (↑b.length : Int)).toNat < b.length ∧
 (↑b.length : Int) ≠ (0 : Int) ∧
 ((0 : Int) ≤ (IntKind.i64.wrap (IntKind.i64.wrap (IntKind.i64.wrap (IntKind.i64.wrap (p + (1 : Int)) - (1 : Int)) * (7 : Int)) + (3 : Int))).tmod (↑b.length : Int) ∧
 (IntKind.i64.wrap (IntKind.i64.wrap (IntKind.i64.wrap (IntKind.i64.wrap (p + (1 : Int)) - (1 : Int)) * (7 : Int)) + (3 : Int))).tmod (↑b.length : Int) <
 (↑b.length : Int)) ∧
 ((IntKind.i64.wrap (IntKind.i64.wrap (IntKind.i64.wrap (IntKind.i64.wrap (p + (1 : Int)) - (1 : Int)) * (7 : Int)) + (3 : Int))).tmod (↑b.length : Int)).toNat < b.length ∧
 (↑b.length : Int) ≠ (0 : Int) ∧
 (64 : Int) ≠ (0 : Int) ∧
 n ≠ (0 : Int) ∧
 Exists fun (y : Int) =>
 (((1 : Int) ≤ n → (0 : Int) ≤ y ∧ y < n) ∧ (n < (1 : Int) → y = (0 : Int))) ∧
 ((IntKind.i64.wrap
 (↑(BitVec.ofInt (64 : Nat)
 (IntKind.i64.wrap
 (IntKind.i64.wrap
 (IntKind.i64.wrap
 (IntKind.i64.wrap
 (IntKind.i64.wrap
 (b.getD ((IntKind.i64.wrap (IntKind.i64.wrap (p + (1 : Int)) - (1 : Int))).tmod (↑b.length : Int)).toNat (0 : Int)) *
 (131 : Int)) +
 IntKind.i64.wrap
 (IntKind.i64.wrap
 (b.getD
 ((IntKind.i64.wrap
 (IntKind.i64.wrap (IntKind.i64.wrap (IntKind.i64.wrap (p + (1 : Int)) - (1 : Int)) * (7 : Int)) +
 (3 : Int))).tmod
 (↑b.length : Int)).toNat
 (0 : Int)) *
 (1117 : Int))) +
 IntKind.i64.wrap (IntKind.i64.wrap (IntKind.i64.wrap (p + (1 : Int)) - (1 : Int)) * (29 : Int))) +
 IntKind.i64.wrap
 (IntKind.i64.wrap ((IntKind.i64.wrap (IntKind.i64.wrap (p + (1 : Int)) - (1 : Int))).tdiv (↑b.length : Int)) * (53 : Int)))) ^^^
 BitVec.ofInt (64 : Nat)
 (IntKind.i64.wrap
 ((IntKind.i64.wrap
 (IntKind.i64.wrap
 (IntKind.i64.wrap
 (IntKind.i64.wrap
 (IntKind.i64.wrap
 (b.getD ((IntKind.i64.wrap (IntKind.i64.wrap (p + (1 : Int)) - (1 : Int))).tmod (↑b.length : Int)).toNat (0 : Int)) *
 (131 : Int)) +
 IntKind.i64.wrap
 (IntKind.i64.wrap
 (b.getD
 ((IntKind.i64.wrap
 (IntKind.i64.wrap (IntKind.i64.wrap (IntKind.i64.wrap (p + (1 : Int)) - (1 : Int)) * (7 : Int)) +
 (3 : Int))).tmod
 (↑b.length : Int)).toNat
 (0 : Int)) *
 (1117 : Int))) +
 IntKind.i64.wrap (IntKind.i64.wrap (IntKind.i64.wrap (p + (1 : Int)) - (1 : Int)) * (29 : Int))) +
 IntKind.i64.wrap
 (IntKind.i64.wrap ((IntKind.i64.wrap (IntKind.i64.wrap (p + (1 : Int)) - (1 : Int))).tdiv (↑b.length : Int)) * (53 : Int)))).tdiv
 (64 : Int)))).toNat :
 Int)).tmod
 n =
 y ∧
 True) ∧
 (Is (byts b) (byts b) ∧ IntKind.i64.wrap (p + (1 : Int)) = p + (1 : Int) ∧ True) ∧ True)))) = Goal Try.prog [] ([]) K_pick.1 K_pick.2 ((b, p, n)) := by kernel_rfl

theorem vc_num (b : List Int) (p : Int) (l : List Int) : (Exists fun (x : List Int × Int × Int) =>
 Rd (1099511627776 : Int) x.fst x.snd.fst ∧
 (((0 : Nat) = (0 : Nat) ∧ (↑l.length : Int) = x.snd.snd ∧ True) ∧ (Is (byts b) (byts x.fst) ∧ p = x.snd.fst ∧ True) ∧ True) ∧
 ∀ (y : Int),
 ((1 : Int) ≤ x.snd.snd → (0 : Int) ≤ y ∧ y < x.snd.snd) ∧ (x.snd.snd < (1 : Int) → y = (0 : Int)) →
 ((0 : Int) ≤ y ∧ y < (↑l.length : Int)) ∧
 y.toNat < l.length ∧
 Exists fun (y_1 : Int) => y_1 ∈ l ∧ (l.getD y.toNat (0 : Int) = y_1 ∧ True) ∧ (Is (byts x.fst) (byts b) ∧ x.snd.fst + (1 : Int) = p + (1 : Int) ∧ True) ∧ True) = Goal Try.prog [K_pick] ([]) K_num.1 K_num.2 ((b, p, l)) := by kernel_rfl

end Cg

/-
  What is left to show of each function's code, printed by a program: Units. No condition.
-/
set_option maxRecDepth 100000
set_option linter.unusedVariables false
namespace Cg
open Go Go.Proofs
end Cg

/-
  Unit propagation: plain laws. No condition.
-/
set_option linter.unusedVariables false
namespace Pl
open Go Cg

/-- A mark of at most sixty variables. -/
def Mk (x : Int) : Prop := x ≠ 0 ∧ -60 ≤ x ∧ x ≤ 60
theorem Mk.wneg {x : Int} (h : Mk x) : Pl.wneg x = -x := by
  obtain ⟨h1, h2, h3⟩ := h
  unfold Pl.wneg; rw [Cg.wrap_small (by omega) (by omega)]; omega
theorem absW_of {x : Int} (h : Mk x) : absW x = if x < 0 then -x else x := by
  obtain ⟨h1, h2, h3⟩ := h
  unfold absW Pl.wneg
  rw [if_neg (by omega), if_neg (by omega)]
  split
  · rw [Cg.wrap_small (by omega) (by omega)]; omega
  · rfl
theorem take_succ_getD {α : Type} (d : α) {l : List α} {i : Nat} (h : i < l.length) : l.take (i + 1) = l.take i ++ [l.getD i d] := by
  rw [List.take_succ_eq_append_getElem h]; simp [h]
end Pl

/-
  What is left to show of each function's code, printed by a program: Cnf. No condition.
-/
set_option maxRecDepth 100000
set_option linter.unusedVariables false
namespace Cg
open Go Go.Proofs
end Cg

/-
  The codes' contracts: clause sets. No condition.
-/
set_option linter.unusedVariables false
set_option linter.unusedSimpArgs false
set_option maxRecDepth 100000
namespace Cg
open Go Go.Proofs

end Cg

/-
  The codes' contracts: unit propagation. No condition.
-/
set_option linter.unusedVariables false
set_option linter.unusedSimpArgs false
set_option maxRecDepth 100000
namespace Cg
open Go Go.Proofs

end Cg

/-
  The codes' contracts: the reader. No condition.
-/
set_option linter.unusedVariables false
set_option linter.unusedSimpArgs false
set_option maxRecDepth 100000
namespace Cg
open Go Go.Proofs

theorem Rd.mono {m m' : Int} {b : List Int} {p : Int} (h : Rd m b p) (hm : m ≤ m') : Rd m' b p := ⟨h.1, h.2.1, h.2.2.1, Int.le_trans h.2.2.2 hm⟩
theorem Rd.add {m m' : Int} {b : List Int} {p p' : Int} (h : Rd m b p) (h1 : p ≤ p') (h2 : p' ≤ m') : Rd m' b p' := ⟨h.1, h.2.1, Int.le_trans h.2.2.1 h1, h2⟩

theorem k_l16Open : SoundC Try.prog K_l16Open.1 K_l16Open.2 := sound_of hm CtxOK.nil (fun _ => []) (by kernel_rfl) fun (b : List Int) hb => cast (vc_l16Open b) (by
  obtain ⟨h1, h2⟩ : Sz b ∧ Byt b := hb
  simp [-List.getD_eq_getElem?_getD, and_assoc]
  refine ⟨fun h => ⟨by omega, b.take 2000, ⟨by simp; omega, fun x hx => h2 x (List.mem_of_mem_take hx), Int.le_refl 0, Int.le_refl 0⟩, (byts_take (by omega)).2 rfl⟩, fun h => ⟨by omega, h2, Int.le_refl 0, Int.le_refl 0⟩⟩)

theorem xor_nonneg {E : Int} (h0 : 0 ≤ E) (h1 : E < 281474976710656) : 0 ≤ IntKind.i64.wrap ((BitVec.ofInt 64 E ^^^ BitVec.ofInt 64 (IntKind.i64.wrap (E.tdiv 64))).toNat : Int) := by
  have d1 : 0 ≤ E.tdiv 64 := Int.tdiv_nonneg h0 (by omega)
  have d2 : E.tdiv 64 ≤ E := Int.tdiv_le_self _ h0
  rw [wrap_small (x := E.tdiv 64) (by omega) (by omega)]
  have e : ∀ x : Int, 0 ≤ x → x < 281474976710656 → (BitVec.ofInt 64 x).toNat < 2 ^ 48 := fun x h h' => by
    rw [BitVec.toNat_ofInt]
    have : x % ((2 ^ 64 : Nat) : Int) = x := Int.emod_eq_of_lt h (by omega)
    rw [this]; omega
  have h : (BitVec.ofInt 64 E ^^^ BitVec.ofInt 64 (E.tdiv 64)).toNat < 2 ^ 48 := by
    rw [BitVec.toNat_xor]
    exact Nat.xor_lt_two_pow (e E h0 h1) (e _ d1 (by omega))
  rw [wrap_small (by omega) (by omega)]
  omega

set_option maxHeartbeats 2000000 in
theorem k_pick : SoundC Try.prog K_pick.1 K_pick.2 := sound_of hm CtxOK.nil (fun _ => []) (by kernel_rfl) fun (b, p, n) hb => cast (vc_pick b p n) (by
  obtain ⟨h1, h2, h3, h4⟩ : Rd 1099511627776 b p := hb
  rw [wrap_small (x := p + 1) (by omega) (by omega), show p + 1 - 1 = p by omega, wrap_small (x := p) (by omega) (by omega)]
  simp only [condP_iff, decide_eq_true_eq, decide_eq_false_iff_not, beq_iff_eq, beq_eq_false_iff_ne, ne_eq]
  refine ⟨fun h => ⟨0, ⟨fun h' => absurd h' (by omega), fun _ => rfl⟩, by simp⟩, fun h => ⟨fun h' => ⟨0, ⟨fun _ => ⟨by omega, by omega⟩, fun _ => rfl⟩, by simp⟩, fun h' => ?_⟩⟩
  have hL : (0 : Int) < b.length := by
    omega
  have byte : ∀ i, i < b.length → 0 ≤ b.getD i 0 ∧ b.getD i 0 < 256 := fun i hi => h2 _ (getD_mem 0 hi)
  have tm : ∀ x : Int, 0 ≤ x → 0 ≤ x.tmod b.length ∧ x.tmod b.length < b.length := fun x hx => ⟨Int.tmod_nonneg _ hx, Int.tmod_lt_of_pos _ hL⟩
  refine ⟨fun hlt => ?_, fun hge => ?_⟩
  · obtain ⟨b1, b2⟩ := byte p.toNat (by omega)
    refine ⟨⟨by omega, hlt⟩, by omega, by omega, _, ⟨fun _ => ⟨?_, ?_⟩, fun h'' => absurd h'' (by omega)⟩, ⟨rfl, trivial⟩, by simp⟩
    · rw [wrap_small (by omega) (by omega)]; exact Int.tmod_nonneg _ b1
    · exact Int.tmod_lt_of_pos _ (by omega)
  · have e1 : IntKind.i64.wrap (p * 7) = p * 7 := wrap_small (by omega) (by omega)
    have e2 : IntKind.i64.wrap (p * 7 + 3) = p * 7 + 3 := wrap_small (by omega) (by omega)
    simp only [e1, e2]
    obtain ⟨t1, t2⟩ := tm p h3
    obtain ⟨t3, t4⟩ := tm (p * 7 + 3) (by omega)
    obtain ⟨a1, a2⟩ := byte (p.tmod b.length).toNat (by omega)
    obtain ⟨a3, a4⟩ := byte ((p * 7 + 3).tmod b.length).toNat (by omega)
    have d1 : 0 ≤ p.tdiv b.length := Int.tdiv_nonneg h3 (by omega)
    have d2 : p.tdiv b.length ≤ p := Int.tdiv_le_self _ h3
    refine ⟨by omega, ⟨t1, t2⟩, by omega, by omega, ⟨t3, t4⟩, by omega, by omega, by omega, by omega, ?_⟩
    generalize b.getD (p.tmod b.length).toNat 0 = A at a1 a2 ⊢
    generalize b.getD ((p * 7 + 3).tmod b.length).toNat 0 = B at a3 a4 ⊢
    generalize p.tdiv b.length = D at d1 d2 ⊢
    have e3 : IntKind.i64.wrap A = A := wrap_small (by omega) (by omega)
    have e4 : IntKind.i64.wrap (A * 131) = A * 131 := wrap_small (by omega) (by omega)
    have e5 : IntKind.i64.wrap B = B := wrap_small (by omega) (by omega)
    have e6 : IntKind.i64.wrap (B * 1117) = B * 1117 := wrap_small (by omega) (by omega)
    have e7 : IntKind.i64.wrap (A * 131 + B * 1117) = A * 131 + B * 1117 := wrap_small (by omega) (by omega)
    have e8 : IntKind.i64.wrap (p * 29) = p * 29 := wrap_small (by omega) (by omega)
    have e9 : IntKind.i64.wrap (A * 131 + B * 1117 + p * 29) = A * 131 + B * 1117 + p * 29 := wrap_small (by omega) (by omega)
    have e10 : IntKind.i64.wrap D = D := wrap_small (by omega) (by omega)
    have e11 : IntKind.i64.wrap (D * 53) = D * 53 := wrap_small (by omega) (by omega)
    have e12 : IntKind.i64.wrap (A * 131 + B * 1117 + p * 29 + D * 53) = A * 131 + B * 1117 + p * 29 + D * 53 := wrap_small (by omega) (by omega)
    simp only [e3, e4, e5, e6, e7, e8, e9, e10, e11, e12]
    have hE : 0 ≤ A * 131 + B * 1117 + p * 29 + D * 53 ∧ A * 131 + B * 1117 + p * 29 + D * 53 < 281474976710656 := by omega
    generalize A * 131 + B * 1117 + p * 29 + D * 53 = E at hE
    refine ⟨_, ⟨fun _ => ⟨Int.tmod_nonneg _ (xor_nonneg hE.1 hE.2), Int.tmod_lt_of_pos _ (by omega)⟩, fun h'' => absurd h'' (by omega)⟩, ⟨rfl, trivial⟩, by simp⟩)

end Cg

/-
  Drawn clause sets: plain laws. No condition.
-/
set_option linter.unusedVariables false
set_option linter.unusedSimpArgs false
namespace Pl
open Go Cg

theorem lIs_neg {x : Int} {v : List Bool} (h0 : x ≠ 0) (h1 : x ≤ v.length) (h2 : -(v.length : Int) ≤ x) : lIs (-x) v = !lIs x v := by
  have e1 : ¬ (-x = 0 ∨ -x > (v.length : Int) ∨ -x < -(v.length : Int)) := by omega
  have e2 : ¬ (x = 0 ∨ x > (v.length : Int) ∨ x < -(v.length : Int)) := by omega
  unfold lIs
  rw [if_neg e1, if_neg e2]
  by_cases h : x < 0
  · have e3 : ¬ -x < 0 := by omega
    rw [if_neg e3, if_pos h, Bool.not_not]; congr 2; omega
  · have e3 : -x < 0 := by omega
    rw [if_pos e3, if_neg h]; congr 3; omega
theorem Mk.le_abs {x n : Int} (h : Mk x) (h1 : absW x ≤ n) : x ≤ n ∧ -n ≤ x := by
  rw [absW_of h] at h1
  split at h1 <;> omega
theorem Mk.lIs {x : Int} {v : List Bool} (h : Mk x) (h1 : absW x ≤ v.length) : Pl.lIs (Pl.wneg x) v = !Pl.lIs x v := by
  obtain ⟨h2, h3⟩ := h.le_abs h1
  rw [h.wneg]
  exact lIs_neg h.1 h2 h3

end Pl

/-
  The codes' contracts: drawn clause sets. No condition.
-/
set_option linter.unusedVariables false
set_option linter.unusedSimpArgs false
set_option maxRecDepth 100000
namespace Cg
open Go Go.Proofs

theorem k_num : SoundC Try.prog K_num.1 K_num.2 := sound_of hm (CtxOK.nil.and k_pick) (fun _ => []) (by kernel_rfl) fun (b, p, l) hb => cast (vc_num b p l) (by
  obtain ⟨h1, h2, h3⟩ : Rd 1099511627776 b p ∧ l ≠ [] ∧ Sz l := hb
  simp [-List.getD_eq_getElem?_getD, and_assoc]
  have hl : 0 < l.length := List.length_pos_iff.2 h2
  exact ⟨b, p, h1, rfl, rfl, fun y h4 h5 => by
    obtain ⟨h6, h7⟩ := h4 (by omega)
    exact ⟨h6, h7, by omega, _, getD_mem 0 (by omega), rfl, rfl, rfl⟩⟩)

end Cg

/-
  The codes' contracts: drawn clause sets, the rest. No condition.
-/
set_option linter.unusedVariables false
set_option linter.unusedSimpArgs false
set_option maxRecDepth 100000
namespace Cg
open Go Go.Proofs


theorem Rd.to {m m' : Int} {b : List Int} {p p' : Int} (h : Rd m b p) (h1 : 0 ≤ p') (h2 : p' ≤ m') : Rd m' b p' := ⟨h.1, h.2.1, h1, h2⟩
theorem Rds.two {v w : List Int} {a b : AV} (h1 : Is a (ints v)) (h2 : Is b (ints w)) : Rds 1 eII [] 2 (rowsCell [[a], [b]]) [v, w] := ⟨rfl, fun i hi j hj => by
  match i, j, hi, hj with
  | 0, 0, _, _ => exact h1
  | 1, 0, _, _ => exact h2⟩
theorem Rds.one {v : List Int} {a : AV} (h1 : Is a (ints v)) : Rds 1 eII [] 1 (rowsCell [[a]]) [v] := ⟨rfl, fun i hi j hj => by
  match i, j, hi, hj with
  | 0, 0, _, _ => exact h1⟩

theorem Sm.len {a : Int} {l : List (List Int)} (h : Sm (a, l)) : a ≤ 61 ∧ l.length ≤ 100 ∧ ∀ x ∈ l, x.length ≤ 100 := h
end Cg

/-
  The codes' contracts: laws of drawn clause sets. No condition.
-/
set_option linter.unusedVariables false
set_option linter.unusedSimpArgs false
set_option maxRecDepth 100000
namespace Cg
open Go Go.Proofs

theorem byt_of {l : List Int} (h : ∀ x ∈ l, (Lit.int .u8 x).wf = true) : Byt l := fun x hx => by
  have := h x hx
  simp [Lit.wf, IntKind.min, IntKind.max, IntKind.signed, IntKind.bits] at this
  omega
end Cg

/-
  The codes' contracts: drawn models. No condition.
-/
set_option linter.unusedVariables false
set_option linter.unusedSimpArgs false
set_option maxRecDepth 100000
namespace Cg
open Go Go.Proofs Pl
theorem map_range_get {α : Type} {L : List α} {r : α} (d : α) {x : Nat} (hx : x ≤ L.length) : (List.range x).map (fun i => (L ++ [r]).getD i d) = L.take x := by
  refine List.ext_getElem (by simp; omega) fun i h1 h2 => ?_
  have hi : i < x := by simpa using h1
  simp only [List.getElem_map, List.getElem_range, List.getElem_take]
  rw [getD_left d (by omega)]
  simp [show i < L.length by omega]
theorem map_range'_get {α : Type} {L : List α} {r : α} (d : α) {x : Nat} (hx : x ≤ L.length) : (List.range' x (L.length - x)).map (fun i => (L ++ [r]).getD i d) = L.drop x := by
  refine List.ext_getElem (by simp) fun i h1 h2 => ?_
  have hi : i < L.length - x := by simpa using h1
  simp only [List.getElem_map, List.getElem_range', List.getElem_drop]
  rw [getD_left d (by omega)]
  simp [show x + i < L.length by omega]
/-- The places, with the last one put in at x. -/
def insI (x n : Nat) : List Nat := List.range x ++ [n] ++ List.range' x (n - x)
theorem insI_len {x n : Nat} (h : x ≤ n) : (insI x n).length = n + 1 := by unfold insI; simp; omega
theorem hput_ins {x n : Nat} (h : x ≤ n) : HPut n (insI x n) := by
  refine ⟨by rw [insI_len h]; omega, ?_, fun i hi => ?_⟩
  · unfold insI
    rw [List.nodup_append, List.nodup_append]
    refine ⟨⟨List.nodup_range, by simp, fun a ha b hb => ?_⟩, List.nodup_range', fun a ha b hb => ?_⟩
    · have := List.mem_range.1 ha
      rw [List.mem_singleton.1 hb]; omega
    · obtain ⟨k, hk, rfl⟩ := List.mem_range'.1 hb
      rcases List.mem_append.1 ha with e | e
      · have := List.mem_range.1 e; omega
      · rw [List.mem_singleton.1 e]; omega
  · unfold insI at hi
    rcases List.mem_append.1 hi with e | e
    · rcases List.mem_append.1 e with e | e
      · have := List.mem_range.1 e; omega
      · rw [List.mem_singleton.1 e]; omega
    · obtain ⟨k, hk, rfl⟩ := List.mem_range'.1 e
      omega
theorem map_insI {α : Type} {L : List α} {r : α} (d : α) {x : Nat} (hx : x ≤ L.length) : (insI x L.length).map (fun i => (L ++ [r]).getD i d) = L.take x ++ [r] ++ L.drop x := by
  unfold insI
  rw [List.map_append, List.map_append, map_range_get d hx, map_range'_get d hx]
  simp only [List.map_cons, List.map_nil, getD_last d]
theorem row_rH {r : HRw} {j : Nat} (hj : j < 4) : Is ([st r.snd.fst, hdQ r.fst r.snd.snd.fst, i64 r.snd.snd.snd.fst, i64 r.snd.snd.snd.snd].getD j .any) (eRH r j) := by
  match j, hj with
  | 0, _ => exact EncN.eRH.self r (j := 0) (by decide)
  | 1, _ => exact EncN.eRH.self r (j := 1) (by decide)
  | 2, _ => exact EncN.eRH.self r (j := 2) (by decide)
  | 3, _ => exact EncN.eRH.self r (j := 3) (by decide)
theorem k_l7Put : SoundC Try.prog K_l7Put.1 K_l7Put.2 := sound_of hm ((CtxOK.nil.and k_l7Rats).and k_l7Less) (fun (L, r) => A_l7Put L r) (by kernel_rfl) fun (L, r) hb => (by
  obtain ⟨h1, h2, h3⟩ : L.length ≤ 1000 ∧ (∀ y ∈ L, y.2.2.1.length ≤ 1000) ∧ r.2.2.1.length ≤ 1000 := hb
  rw [← vc_l7Put L r]
  simp [-List.getD_eq_getElem?_getD, -List.mem_cons, -Bool.forall_bool, -Bool.exists_bool, and_assoc, peta, tl_inj, ex_1, ex_2, ex_3, ex_4, ex_5, ex_6, ex_7, ex_8, ex_9, ey_2, ey_3, ey_4, ey_5, ey_6, ey_7, ey_8, ey_9]
  have same : ∃ y, HPut L.length y ∧ L.length = y.length ∧ (y = [] ∨ L = List.map (fun i => (L ++ [r]).getD i dH) y) :=
    ⟨List.range L.length, ⟨by simp, List.nodup_range, fun i hi => by have := List.mem_range.1 hi; omega⟩, by simp, .inr (by rw [map_range_get dH (Nat.le_refl _), List.take_length])⟩
  have fin : ∀ x, x ≤ L.length → x ≤ L.length ∧ x + (L.length - x) ≤ L.length ∧ (L.length - x) * 56 ≤ 70368744177664 ∧ x ≤ L.length ∧ x * 56 ≤ 70368744177664 ∧ (x + 1) * 56 ≤ 70368744177664 ∧ (x + 1 + (L.length - x)) * 56 ≤ 70368744177664 ∧
      ∃ y, HPut L.length y ∧ x + 1 + (L.length - x) = y.length ∧ IsO (AObj.arr (x + 1 + (L.length - x)) 4 (joinC (x + 1) (fun i j => joinC x (cRH L) (rowsCell [[st r.snd.fst, hdQ r.fst r.snd.snd.fst, i64 r.snd.snd.snd.fst, i64 r.snd.snd.snd.snd]]) i j) fun i j => joinC 0 (rowsCell []) (fun i j => eRH (L.getD (i + x) dH) j) i j)) (arRH (List.map (fun i => (L ++ [r]).getD i dH) y)) := fun x hx => by
    refine ⟨hx, by omega, by omega, hx, by omega, by omega, by omega, insI x L.length, hput_ins hx, by rw [insI_len hx]; omega, ?_⟩
    rw [map_insI dH hx]
    have hR := ((Rds.take (d := dH) EncN.eRH hx).join (Rds.row (v := r) (IsR_row EncN.eRH fun j hj => row_rH hj))).join ((Rds.nil (c := rowsCell [])).join (Rds.drop EncN.eRH L x))
    exact (hR.cong (n' := x + 1 + (L.length - x)) (by omega) rfl (by simp)).iso
  refine ⟨⟨0, by omega, rfl⟩, fun x hx => ⟨fun hlt => ?_, fun hge => ?_⟩⟩
  · have h4 := h2 _ (getD_mem dH hlt)
    exact ⟨hlt, by omega, fun _ => ⟨x + 1, by omega, by omega, wrap_succ hlt (by omega)⟩, fun _ => ⟨fun _ => ⟨hlt, fun _ => ⟨hlt, by omega, fun _ => same, fun _ => fin x hx⟩, fun _ => fin x hx⟩, fun _ => fin x hx⟩⟩
  · exact ⟨fun h => absurd h (by omega), fun _ => fin x hx⟩)
theorem k_l7PutX : SoundC Try.prog K_l7PutX.1 K_l7PutX.2 := put_own k_l7Put
end Cg

/-
  What is left to show of each function's code, printed by a program: Mlt. No condition.
-/
set_option maxRecDepth 100000
set_option linter.unusedVariables false
namespace Cg
open Go Go.Proofs
theorem vc_l1Least (x : Int × Int) : (condP (Decidable.decide (x.fst < (0 : Int)))
 (Exists fun (x_1 : Nat × Nat) =>
 (IntKind.i64.wrap ((0 : Int) - x.fst) = (↑x_1.fst : Int) ∧ x.snd = (↑x_1.snd : Int) ∧ True) ∧
 (x_1.fst ≤ (4611686018427387904 : Nat) ∧ x_1.snd ≤ (4611686018427387904 : Nat)) ∧
 (↑(x_1.fst.gcd x_1.snd) : Int) ≠ (0 : Int) ∧
 (↑(x_1.fst.gcd x_1.snd) : Int) ≠ (0 : Int) ∧
 Exists fun (x_2 : Pl.Rt) =>
 ((IntKind.i64.wrap (x.fst.tdiv (↑(x_1.fst.gcd x_1.snd) : Int)) = x_2.fst ∧ IntKind.i64.wrap (x.snd.tdiv (↑(x_1.fst.gcd x_1.snd) : Int)) = x_2.snd ∧ True) ∧ True) ∧
 True ∧
 condP (!Pl.ratOk x_2)
 (((0 : Int) = (Pl.ratV (Pl.least x.fst x.snd)).fst ∧ (0 : Int) = (Pl.ratV (Pl.least x.fst x.snd)).snd ∧ True) ∧ Bool.false = (Pl.least x.fst x.snd).isSome ∧ True)
 ((IntKind.i64.wrap (x.fst.tdiv (↑(x_1.fst.gcd x_1.snd) : Int)) = (Pl.ratV (Pl.least x.fst x.snd)).fst ∧
 IntKind.i64.wrap (x.snd.tdiv (↑(x_1.fst.gcd x_1.snd) : Int)) = (Pl.ratV (Pl.least x.fst x.snd)).snd ∧ True) ∧
 Bool.true = (Pl.least x.fst x.snd).isSome ∧ True))
 (Exists fun (x_1 : Nat × Nat) =>
 (x.fst = (↑x_1.fst : Int) ∧ x.snd = (↑x_1.snd : Int) ∧ True) ∧
 (x_1.fst ≤ (4611686018427387904 : Nat) ∧ x_1.snd ≤ (4611686018427387904 : Nat)) ∧
 (↑(x_1.fst.gcd x_1.snd) : Int) ≠ (0 : Int) ∧
 (↑(x_1.fst.gcd x_1.snd) : Int) ≠ (0 : Int) ∧
 Exists fun (x_2 : Pl.Rt) =>
 ((IntKind.i64.wrap (x.fst.tdiv (↑(x_1.fst.gcd x_1.snd) : Int)) = x_2.fst ∧ IntKind.i64.wrap (x.snd.tdiv (↑(x_1.fst.gcd x_1.snd) : Int)) = x_2.snd ∧ True) ∧ True) ∧
 True ∧
 condP (!Pl.ratOk x_2)
 (((0 : Int) = (Pl.ratV (Pl.least x.fst x.snd)).fst ∧ (0 : Int) = (Pl.ratV (Pl.least x.fst x.snd)).snd ∧ True) ∧ Bool.false = (Pl.least x.fst x.snd).isSome ∧ True)
 ((IntKind.i64.wrap (x.fst.tdiv (↑(x_1.fst.gcd x_1.snd) : Int)) = (Pl.ratV (Pl.least x.fst x.snd)).fst ∧
 IntKind.i64.wrap (x.snd.tdiv (↑(x_1.fst.gcd x_1.snd) : Int)) = (Pl.ratV (Pl.least x.fst x.snd)).snd ∧ True) ∧
 Bool.true = (Pl.least x.fst x.snd).isSome ∧ True))) = Goal Try.prog [K_l1Gcd, K_sRatOk] ([]) K_l1Least.1 K_l1Least.2 (x) := by kernel_rfl

end Cg

/-
  What is left to show of each function's code, printed by a program: Lit. No condition.
-/
set_option maxRecDepth 100000
set_option linter.unusedVariables false
namespace Cg
open Go Go.Proofs
end Cg

/-
  What is left to show of each function's code, printed by a program: Same. No condition.
-/
set_option maxRecDepth 100000
set_option linter.unusedVariables false
namespace Cg
open Go Go.Proofs
end Cg

/-
  The codes' contracts: atoms, formulas, explanations, cases: sizes, copies, equality. No condition.
-/
set_option linter.unusedVariables false
set_option linter.unusedSimpArgs false
set_option maxRecDepth 100000
set_option maxHeartbeats 1000000
namespace Cg
open Go Go.Proofs Pl
section
variable {α : Type} {f : α → Nat}
theorem SmTrs.mem {l : List (Tree α)} (h : SmTrs f l) {t : Tree α} (ht : t ∈ l) : SmTr f t := by
  have := costTr_mem (f := f) ht
  have h1 : l.length + costTrs f l ≤ 1048576 := h
  show costTr f t ≤ 1048576
  omega
theorem SmTrs.len {l : List (Tree α)} (h : SmTrs f l) : l.length ≤ 1048576 := by
  have h1 : l.length + costTrs f l ≤ 1048576 := h
  omega
theorem SmTr.kids {v : α} {ks : List (Tree α)} (h : SmTr f (.mk v ks)) : SmTrs f ks := by
  have h1 : costTr f (.mk v ks) ≤ 1048576 := h
  rw [costTr_eq] at h1
  simp only [Tree.val, Tree.kids] at h1
  show ks.length + costTrs f ks ≤ 1048576
  omega
theorem SmTr.here {v : α} {ks : List (Tree α)} (h : SmTr f (.mk v ks)) : f v ≤ 1048576 := by
  have h1 : costTr f (.mk v ks) ≤ 1048576 := h
  rw [costTr_eq] at h1
  simp only [Tree.val, Tree.kids] at h1
  omega
end
theorem SmA.parts {x : Atm} (h : SmA x) : SmT (.mk x.2.1.1 x.2.1.2) ∧ SmT (.mk x.2.2.1.1 x.2.2.1.2) ∧ SmTs x.2.2.2.1 ∧ x.2.2.2.2.1.length ≤ 1048576 := by
  have h1 : costA x ≤ 1048576 := h
  unfold costA at h1
  refine ⟨?_, ?_, ?_, by omega⟩
  · show costT _ ≤ _; omega
  · show costT _ ≤ _; omega
  · show _ + _ ≤ _; omega

end Cg

/-
  The codes' contracts: lists of literals: sizes, copies, equality. No condition.
-/
set_option linter.unusedVariables false
set_option linter.unusedSimpArgs false
set_option maxRecDepth 100000
set_option maxHeartbeats 1000000
namespace Cg
open Go Go.Proofs Pl
theorem SmLs.mem {l : List Ltr} (h : SmLs l) {x : Ltr} (hx : x ∈ l) : SmA x.1 := by
  have h1 : l.length + sumN costL l ≤ 1048576 := h
  have h2 := sumN_mem costL hx
  have h3 : costL x = costA x.1 := rfl
  show costA x.1 ≤ 1048576
  omega
theorem SmLs.len {l : List Ltr} (h : SmLs l) : l.length ≤ 1048576 := by
  have h1 : l.length + sumN costL l ≤ 1048576 := h
  omega
end Cg

/-
  What is left to show of each function's code, printed by a program: Atm. No condition.
-/
set_option maxRecDepth 100000
set_option linter.unusedVariables false
namespace Cg
open Go Go.Proofs
end Cg

/-
  What is left to show of each function's code, printed by a program: Mtm. No condition.
-/
set_option maxRecDepth 100000
set_option linter.unusedVariables false
namespace Cg
open Go Go.Proofs
end Cg

/-
  The codes' contracts: the values of terms. No condition.
-/
set_option linter.unusedVariables false
set_option linter.unusedSimpArgs false
set_option maxRecDepth 100000
set_option maxHeartbeats 1000000
namespace Pl
open Go Cg
theorem bl_trans : ∀ {x y z : List UInt8}, Op.bytesLess x y = true → Op.bytesLess y z = true → Op.bytesLess x z = true
  | [], [], _, h, _ => by cases h
  | [], _ :: _, [], _, h => by cases h
  | [], _ :: _, _ :: _, _, _ => rfl
  | _ :: _, [], _, h, _ => by cases h
  | _ :: _, _ :: _, [], _, h => by cases h
  | a :: x, b :: y, c :: z, h, k => by
    simp only [Op.bytesLess, Bool.or_eq_true, decide_eq_true_eq, Bool.and_eq_true, beq_iff_eq, UInt8.lt_iff_toNat_lt] at h k ⊢
    rcases h with h | ⟨h, h1⟩ <;> rcases k with k | ⟨k, k1⟩
    · exact .inl (by omega)
    · subst k; exact .inl h
    · subst h; exact .inl k
    · subst h; subst k; exact .inr ⟨rfl, bl_trans h1 k1⟩
theorem ratLess_iff {x y : Rt} (hx : ratOk x = true) (hy : ratOk y = true) : ratLess x y = true ↔ x.1 * y.2 < y.1 * x.2 := by
  unfold ratLess; rw [hx, hy]; simp
theorem ratLess_trans {x y z : Rt} (hx : ratOk x = true) (hy : ratOk y = true) (hz : ratOk z = true) (h1 : ratLess x y = true) (h2 : ratLess y z = true) : ratLess x z = true := by
  rw [ratLess_iff hx hy] at h1
  rw [ratLess_iff hy hz] at h2
  rw [ratLess_iff hx hz]
  have p1 := (ratOk_iff.1 hx).2.2.1
  have p2 := (ratOk_iff.1 hy).2.2.1
  have p3 := (ratOk_iff.1 hz).2.2.1
  have e1 : x.1 * y.2 * z.2 < y.1 * x.2 * z.2 := Int.mul_lt_mul_of_pos_right h1 (by omega)
  have e2 : y.1 * z.2 * x.2 < z.1 * y.2 * x.2 := Int.mul_lt_mul_of_pos_right h2 (by omega)
  have e3 : (x.1 * z.2) * y.2 < (z.1 * x.2) * y.2 := by
    have a1 : x.1 * z.2 * y.2 = x.1 * y.2 * z.2 := by rw [Int.mul_assoc, Int.mul_comm z.2, ← Int.mul_assoc]
    have a2 : z.1 * x.2 * y.2 = z.1 * y.2 * x.2 := by rw [Int.mul_assoc, Int.mul_comm x.2, ← Int.mul_assoc]
    have a3 : y.1 * x.2 * z.2 = y.1 * z.2 * x.2 := by rw [Int.mul_assoc, Int.mul_comm x.2, ← Int.mul_assoc]
    rw [a1, a2]; rw [a3] at e1; omega
  exact Int.lt_of_mul_lt_mul_right e3 (by omega)
theorem argsLess_trans : ∀ {a b c : List Rt}, a.length = b.length → b.length = c.length → a.all ratOk = true → b.all ratOk = true → c.all ratOk = true → argsLess a b = true → argsLess b c = true → argsLess a c = true
  | [], _, _, _, _, _, _, _, h, _ => by cases h
  | _ :: _, [], _, h, _, _, _, _, _, _ => by simp at h
  | _ :: _, _ :: _, [], _, h, _, _, _, _, _ => by simp at h
  | x :: a, y :: b, z :: c, h1, h2, ha, hb, hc, l1, l2 => by
    simp only [List.all_cons, Bool.and_eq_true] at ha hb hc
    simp only [argsLess] at l1 l2 ⊢
    by_cases e1 : x = y
    · subst e1
      rw [if_pos rfl] at l1
      by_cases e2 : x = z
      · subst e2
        rw [if_pos rfl] at l2 ⊢
        exact argsLess_trans (by simpa using h1) (by simpa using h2) ha.2 hb.2 hc.2 l1 l2
      · rw [if_neg e2] at l2 ⊢; exact l2
    · rw [if_neg e1] at l1
      by_cases e2 : y = z
      · subst e2
        rw [if_neg e1]; exact l1
      · rw [if_neg e2] at l2
        have l3 := ratLess_trans ha.1 hb.1 hc.1 l1 l2
        by_cases e3 : x = z
        · subst e3
          rw [ratLess_iff ha.1 ha.1] at l3; omega
        · rw [if_neg e3]; exact l3
theorem sLess_trans {a b c : ByteArray} (h1 : sLess a b = true) (h2 : sLess b c = true) : sLess a c = true := bl_trans h1 h2
theorem sLess_irrefl (a : ByteArray) : sLess a a = false := bl_irrefl _
theorem rowLess_trans {x y z : Rw} (hx : x.2.1.all ratOk = true) (hy : y.2.1.all ratOk = true) (hz : z.2.1.all ratOk = true) (h1 : rowLess x y = true) (h2 : rowLess y z = true) : rowLess x z = true := by
  unfold rowLess at h1 h2 ⊢
  by_cases e1 : x.1 = y.1
  · rw [if_pos e1] at h1
    rw [e1]
    by_cases e2 : y.1 = z.1
    · rw [if_pos e2] at h2 ⊢
      by_cases l1 : x.2.1.length = y.2.1.length
      · rw [if_pos l1] at h1
        rw [l1]
        by_cases l2 : y.2.1.length = z.2.1.length
        · rw [if_pos l2] at h2 ⊢; exact argsLess_trans l1 l2 hx hy hz h1 h2
        · rw [if_neg l2] at h2 ⊢; exact h2
      · rw [if_neg l1] at h1
        simp only [decide_eq_true_eq] at h1
        by_cases l2 : y.2.1.length = z.2.1.length
        · rw [← l2, if_neg l1]; simpa using h1
        · rw [if_neg l2] at h2
          simp only [decide_eq_true_eq] at h2
          rw [if_neg (by omega)]; simp only [decide_eq_true_eq]; omega
    · rw [if_neg e2] at h2 ⊢; exact h2
  · rw [if_neg e1] at h1
    by_cases e2 : y.1 = z.1
    · rw [← e2, if_neg e1]; exact h1
    · rw [if_neg e2] at h2
      have h3 := sLess_trans h1 h2
      rw [if_neg]
      · exact h3
      · intro e; rw [e, sLess_irrefl] at h3; cases h3
end Pl
namespace Cg
open Go Go.Proofs Pl

end Cg

/-
  The library functions' contracts at this program, laid by the kit's own programs (lay-shelf, lay-plain). No condition.
-/
namespace Go.Proofs
open Go.Shelf
def Try.lays156_ren : Go.Shelf.Ren := ⟨fun | 156 => 100 | 165 => 111 | 166 => 112 | 169 => 113 | 240 => 114 | 241 => 115 | 276 => 116 | 277 => 117 | n => n, fun | 31 => 101 | 9 => 9 | 3 => 3 | 4 => 4 | 0 => 0 | 20 => 20 | 72 => 130 | 76 => 134 | 70 => 128 | 37 => 22 | 75 => 133 | 127 => 137 | 164 => 138 | 5 => 5 | 80 => 136 | n => n, fun | n => n⟩
theorem Try.lays156 : Go.Proofs.Lays.n156 Try.prog Try.lays156_ren := {
  mixed := by kernel_rfl
  f156 := Try.func100.trans (congrArg some (by kernel_rfl))
  f165 := Try.func111.trans (congrArg some (by kernel_rfl))
  f166 := Try.func112.trans (congrArg some (by kernel_rfl))
  f169 := Try.func113.trans (congrArg some (by kernel_rfl))
  f240 := Try.func114.trans (congrArg some (by kernel_rfl))
  f241 := Try.func115.trans (congrArg some (by kernel_rfl))
  f276 := Try.func116.trans (congrArg some (by kernel_rfl))
  f277 := Try.func117.trans (congrArg some (by kernel_rfl))
  t0 := Try.underlying0
  a0 := Try.isAgg0
  z0 := Try.sizeOf0
  v0 := Try.zeroValue0
  t3 := Try.underlying3
  a3 := Try.isAgg3
  z3 := Try.sizeOf3
  v3 := Try.zeroValue3
  t4 := Try.underlying4
  a4 := Try.isAgg4
  z4 := Try.sizeOf4
  v4 := Try.zeroValue4
  t9 := Try.underlying9
  a9 := Try.isAgg9
  z9 := Try.sizeOf9
  v9 := Try.zeroValue9
  t20 := Try.underlying20
  a20 := Try.isAgg20
  z20 := Try.sizeOf20
  v20 := Try.zeroValue20
  t31 := Try.underlying101
  a31 := Try.isAgg101
  z31 := Try.sizeOf101
  v31 := Try.zeroValue101
  t37 := Try.underlying22
  a37 := Try.isAgg22
  z37 := Try.sizeOf22
  v37 := Try.zeroValue22
  t70 := Try.underlying128
  a70 := Try.isAgg128
  z70 := Try.sizeOf128
  v70 := Try.zeroValue128
  t72 := Try.underlying130
  a72 := Try.isAgg130
  z72 := Try.sizeOf130
  v72 := Try.zeroValue130
  t75 := Try.underlying133
  a75 := Try.isAgg133
  z75 := Try.sizeOf133
  v75 := Try.zeroValue133
  t76 := Try.underlying134
  a76 := Try.isAgg134
  z76 := Try.sizeOf134
  v76 := Try.zeroValue134
  t127 := Try.underlying137
  a127 := Try.isAgg137
  z127 := Try.sizeOf137
  v127 := Try.zeroValue137
  t164 := Try.underlying138
  a164 := Try.isAgg138
  z164 := Try.sizeOf138
  v164 := Try.zeroValue138 }
theorem Try.Builder_Extra_156 : Builder.Extra Try.prog Try.lays156_ren := {
  sizeBuilder := by kernel_rfl
  liesBuilder := by kernel_rfl
  t5 := Try.underlying5
  a5 := Try.isAgg5
  z5 := Try.sizeOf5
  v5 := Try.zeroValue5
  infoByte := by kernel_rfl
  cellsByte := by kernel_rfl
  sizeByte := by kernel_rfl
  neB5 := by decide }
open Go.RowKit in
theorem Try.strings_Join (bk o c : Nat) (xs : List ByteArray) (sep : ByteArray) (w : World) (hcells : ∀ (j : Nat) x, xs[j]? = some x → w.cell? ⟨bk, o + j, none⟩ = some (.string x)) (hbk : bk < w.heap.size) (hN : xs.length ≤ 140737488355328) (hcap : xs.length ≤ c) (hlen : (Lib.join (xs.map (·.data.toList)) sep.data.toList).length ≤ 140737488355328) :
    Calls Try.prog 100 #[.slice (some ⟨bk, o, none⟩) xs.length c, .string sep] w fun e w' => e = .returned (.string ⟨(Lib.join (xs.map (·.data.toList)) sep.data.toList).toArray⟩) ∧ Below w.heap.size w w' := Any.strings_Join Try.lays156 Try.Builder_Extra_156 bk o c xs sep w hcells hbk hN hcap hlen
end Go.Proofs

/-
  The library's contracts: joined texts. No condition.
-/
set_option linter.unusedVariables false
set_option linter.unusedSimpArgs false
namespace Pl
open Go
end Pl
namespace Cg
open Go Go.Proofs Pl
end Cg

/-
  The codes' contracts: valid atoms. No condition.
-/
set_option linter.unusedVariables false
set_option linter.unusedSimpArgs false
set_option maxRecDepth 100000
set_option maxHeartbeats 1000000
namespace Pl
open Go Cg
theorem textBs_map : ∀ l : List Tm, textBs l = l.map textB
  | [] => rfl
  | t :: ts => by simp only [textBs, List.map_cons, textBs_map ts]
theorem interL_len (sep : List UInt8) (h1 : sep.length = 1) : ∀ ts : List (List UInt8), (interL sep ts).length ≤ sumN List.length ts + ts.length - 1
  | [] => by simp [interL]
  | [x] => by simp [interL, sumN]
  | x :: y :: r => by
    have := interL_len sep h1 (y :: r)
    simp only [interL, List.length_append, sumN, List.length_cons] at this ⊢
    omega
theorem textB_mk (v : ByteArray) (ks : List Tm) : textB (.mk v ks) = if ks = [] then bl' v else spellB (bl' v) (textBs ks) ++ [41] := by
  rw [textB]
  cases ks with
  | nil => rfl
  | cons k r => simp [spellB, textBs]
mutual
theorem textB_len : ∀ t : Tm, (textB t).length ≤ 2 * costT t
  | .mk v ks => by
    have h := textBs_len ks
    have hl := interL_len [44] rfl (textBs ks)
    have hm : (textBs ks).length = ks.length := by rw [textBs_map]; simp
    rw [textB_mk]
    rw [costT]
    have e : (bl' v).length = v.size := rfl
    by_cases h0 : ks = []
    · rw [if_pos h0]; omega
    · rw [if_neg h0]
      have hp : 0 < ks.length := by cases ks with
        | nil => exact absurd rfl h0
        | cons _ _ => simp
      have hq : (textBs ks).isEmpty = false := by cases hh : textBs ks with
        | nil => rw [hh] at hm; simp at hm; omega
        | cons _ _ => rfl
      unfold spellB
      rw [hq]
      simp only [Bool.false_eq_true, if_false, List.length_append, List.length_singleton]
      omega
theorem textBs_len : ∀ l : List Tm, sumN List.length (textBs l) ≤ 2 * costTs l
  | [] => by simp [textBs, sumN]
  | t :: ts => by
    have h1 := textB_len t
    have h2 := textBs_len ts
    simp only [textBs, sumN, costTs]
    omega
end
@[simp] theorem mkB_list (l : List UInt8) : (mkB l).data.toList = l := rfl
@[simp] theorem mkB_size (l : List UInt8) : (mkB l).size = l.length := rfl
end Pl
namespace Cg
open Go Go.Proofs Pl
end Cg

/-
  The codes' contracts: the truth of literals in models. No condition.
-/
set_option linter.unusedVariables false
set_option linter.unusedSimpArgs false
set_option maxRecDepth 100000
set_option maxHeartbeats 1000000
namespace Pl
open Go Cg
theorem least_div {n d : Int} (hn : n.natAbs ≤ 2000000000000000000) (h1 : 1 ≤ d) (h2 : d ≤ 1000000000000000000) :
    Nat.gcd n.natAbs d.natAbs ≠ 0 ∧ IntKind.i64.wrap (n.tdiv (Nat.gcd n.natAbs d.natAbs)) = n.tdiv (Nat.gcd n.natAbs d.natAbs) ∧ IntKind.i64.wrap (d.tdiv (Nat.gcd n.natAbs d.natAbs)) = d.tdiv (Nat.gcd n.natAbs d.natAbs) := by
  have hg : Nat.gcd n.natAbs d.natAbs ≠ 0 := fun h => by
    have := Nat.eq_zero_of_gcd_eq_zero_right h
    omega
  have e1 : (n.tdiv (Nat.gcd n.natAbs d.natAbs)).natAbs ≤ n.natAbs := by rw [Int.natAbs_tdiv]; exact Nat.div_le_self _ _
  have e2 : (d.tdiv (Nat.gcd n.natAbs d.natAbs)).natAbs ≤ d.natAbs := by rw [Int.natAbs_tdiv]; exact Nat.div_le_self _ _
  exact ⟨hg, wrap_small (by omega) (by omega), wrap_small (by omega) (by omega)⟩
end Pl
namespace Cg
open Go Go.Proofs Pl
theorem k_l1Least : SoundC Try.prog K_l1Least.1 K_l1Least.2 := sound_of hm ((CtxOK.nil.and k_sRatOk).and k_l1Gcd) (fun _ => []) (by kernel_rfl) fun (x : Int × Int) hl => (by
  obtain ⟨h1, h2, h3⟩ : x.1.natAbs ≤ 2000000000000000000 ∧ 1 ≤ x.2 ∧ x.2 ≤ 1000000000000000000 := hl
  rw [← vc_l1Least x]
  obtain ⟨n, d⟩ := x
  dsimp only at *
  obtain ⟨g1, g2, g3⟩ := least_div h1 h2 h3
  have fin : ∃ x_2 : Rt, ((IntKind.i64.wrap (n.tdiv (Nat.gcd n.natAbs d.natAbs)) = x_2.fst ∧ IntKind.i64.wrap (d.tdiv (Nat.gcd n.natAbs d.natAbs)) = x_2.snd ∧ True) ∧ True) ∧ True ∧
      condP (!ratOk x_2) (((0 : Int) = (ratV (least n d)).fst ∧ (0 : Int) = (ratV (least n d)).snd ∧ True) ∧ false = (least n d).isSome ∧ True)
        ((IntKind.i64.wrap (n.tdiv (Nat.gcd n.natAbs d.natAbs)) = (ratV (least n d)).fst ∧ IntKind.i64.wrap (d.tdiv (Nat.gcd n.natAbs d.natAbs)) = (ratV (least n d)).snd ∧ True) ∧ true = (least n d).isSome ∧ True) := by
    refine ⟨(n.tdiv (Nat.gcd n.natAbs d.natAbs), d.tdiv (Nat.gcd n.natAbs d.natAbs)), ⟨⟨g2, g3, trivial⟩, trivial⟩, trivial, ?_⟩
    rw [g2, g3]
    unfold least
    cases e : ratOk (n.tdiv (Nat.gcd n.natAbs d.natAbs), d.tdiv (Nat.gcd n.natAbs d.natAbs)) <;> simp [condP, ratV]
  rw [condP_iff]
  simp only [decide_eq_true_eq, decide_eq_false_iff_not]
  refine ⟨fun hn => ⟨(n.natAbs, d.natAbs), ⟨by rw [wrap_small (by omega) (by omega)]; simp only; omega, by simp only; omega, trivial⟩, ⟨by simp only; omega, by simp only; omega⟩, by simp only; omega, by simp only; omega, fin⟩, fun hn => ⟨(n.natAbs, d.natAbs), ⟨by simp only; omega, by simp only; omega, trivial⟩, ⟨by simp only; omega, by simp only; omega⟩, by simp only; omega, by simp only; omega, fin⟩⟩)
end Cg

/-
  The codes' contracts: drawn words and models. No condition.
-/
set_option linter.unusedVariables false
set_option linter.unusedSimpArgs false
set_option maxRecDepth 100000
namespace Cg
open Go Go.Proofs Pl
theorem slit (v : ByteArray) (j : Nat) (hj : j < 1) : [st v].getD j .any = eS v j := by
  have : j = 0 := by omega
  subst this
  rfl
@[simp] theorem strs_lit3 {a b c : ByteArray} {m : List ByteArray} : Is (.lit 3 1 (rowsCell [[st a], [st b], [st c]])) (strs m) ↔ [a, b, c] = m := Is_lits (by decide) EncN.eS [a, b, c] m (fun v => [st v]) slit
@[simp] theorem strs_lit5 {a b c d e : ByteArray} {m : List ByteArray} : Is (.lit 5 1 (rowsCell [[st a], [st b], [st c], [st d], [st e]])) (strs m) ↔ [a, b, c, d, e] = m := Is_lits (by decide) EncN.eS [a, b, c, d, e] m (fun v => [st v]) slit
@[simp] theorem strs_lit4 {a b c d : ByteArray} {m : List ByteArray} : Is (.lit 4 1 (rowsCell [[st a], [st b], [st c], [st d]])) (strs m) ↔ [a, b, c, d] = m := Is_lits (by decide) EncN.eS [a, b, c, d] m (fun v => [st v]) slit
theorem k_of : SoundC Try.prog K_of.1 K_of.2 := sound_of hm (CtxOK.nil.and k_pick) (fun _ => []) (by kernel_rfl) fun ((b, p, l) : List Int × Int × List ByteArray) hb => (by
  obtain ⟨h1, h2, h3⟩ : Rd 1099511627776 b p ∧ l ≠ [] ∧ Sz l := hb
  rw [← vc_of b p l]
  simp [-List.getD_eq_getElem?_getD, -List.mem_cons, -Bool.forall_bool, -Bool.exists_bool, and_assoc, peta, tl_inj, ex_1, ex_2, ex_3, ex_4, ex_5, ex_6, ex_7, ex_8, ex_9, ey_2, ey_3, ey_4, ey_5, ey_6, ey_7, ey_8, ey_9]
  have h0 : 0 < l.length := List.length_pos_iff.2 h2
  refine ⟨h1, fun y hy _ => ?_⟩
  obtain ⟨h4, h5⟩ := hy (by omega)
  exact ⟨h4, h5, by omega, getD_mem _ (by omega)⟩)
theorem k_rat : SoundC Try.prog K_rat.1 K_rat.2 := sound_of hm (CtxOK.nil.and k_num) (fun _ => []) (by kernel_rfl) fun ((b, p) : List Int × Int) hb => (by
  replace hb : Rd 549755813888 b p := hb
  rw [← vc_rat b p]
  simp [-List.getD_eq_getElem?_getD, -List.mem_cons, -Bool.forall_bool, -Bool.exists_bool, and_assoc, peta, tl_inj, ex_1, ex_2, ex_3, ex_4, ex_5, ex_6, ex_7, ex_8, ex_9, ey_2, ey_3, ey_4, ey_5, ey_6, ey_7, ey_8, ey_9]
  have g3 := hb.2.2.1
  have g4 := hb.2.2.2
  exact ⟨hb.to (by omega) (by omega), fun y _ => ⟨hb.to (by omega) (by omega), fun z _ => by omega⟩⟩)
theorem k_RatOfP : SoundC Try.prog K_RatOfP.1 K_RatOfP.2 := sound_of hm ((CtxOK.nil.and k_l1Least).and k_l1Abs) (fun _ => []) (by kernel_rfl) fun ((n, d) : Int × Int) hb => (by
  obtain ⟨h1, h2, h3⟩ : n.natAbs ≤ 1000000000 ∧ 1 ≤ d ∧ d ≤ 1000000000 := hb
  rw [← vc_RatOfP n d]
  simp [-List.getD_eq_getElem?_getD, -List.mem_cons, -Bool.forall_bool, -Bool.exists_bool, and_assoc, peta, tl_inj, ex_1, ex_2, ex_3, ex_4, ex_5, ex_6, ex_7, ex_8, ex_9, ey_2, ey_3, ey_4, ey_5, ey_6, ey_7, ey_8, ey_9]
  have e1 : abs1 n ≤ 1000000000 := by unfold abs1; split <;> (try split) <;> omega
  have e2 : abs1 d ≤ 1000000000 := by unfold abs1; split <;> (try split) <;> omega
  exact ⟨fun h => absurd h (by omega), fun _ => ⟨fun h => absurd h (by omega), fun _ => ⟨fun h => absurd h (by omega), fun _ => ⟨fun h => absurd h (by omega), fun _ => ⟨by omega, h2, by omega⟩⟩⟩⟩⟩)
theorem k_l7Value : SoundC Try.prog K_l7Value.1 K_l7Value.2 := sound_of hm (((CtxOK.nil.and k_RatOfP).and k_num).and k_pick) (fun _ => []) (by kernel_rfl) fun ((b, p, s) : List Int × Int × Int) hb => (by
  replace hb : Rd 549755813888 b p := hb
  rw [← vc_l7Value b p s]
  simp [-List.getD_eq_getElem?_getD, -List.mem_cons, -Bool.forall_bool, -Bool.exists_bool, and_assoc, peta, tl_inj, ex_1, ex_2, ex_3, ex_4, ex_5, ex_6, ex_7, ex_8, ex_9, ey_2, ey_3, ey_4, ey_5, ey_6, ey_7, ey_8, ey_9]
  have g3 := hb.2.2.1
  have g4 := hb.2.2.2
  refine ⟨fun _ => ⟨hb.to (by omega) (by omega), fun _ _ _ => by omega⟩, fun _ => ⟨hb.to (by omega) (by omega), fun y hy => ⟨hb.to (by omega) (by omega), fun z hz => ?_⟩⟩⟩
  simp at hy hz
  exact ⟨by omega, by omega, by omega, fun _ => ⟨by omega, by omega⟩, fun _ => ⟨by omega, by omega⟩⟩)
/-- Rows that were written out, one by one. -/
def LitR {α : Type} (k : Nat) (e : α → Nat → AV) (d : α) (rows : List (List AV)) (l : List α) : Prop := rows.length = l.length ∧ ∀ i, i < l.length → ∀ j, j < k → Is ((rows.getD i []).getD j .any) (e (l.getD i d) j)
theorem LitR.nil {α : Type} {k : Nat} {e : α → Nat → AV} {d : α} : LitR k e d [] [] := ⟨rfl, fun i hi => by cases hi⟩
theorem LitR.cons {α : Type} {k : Nat} {e : α → Nat → AV} {d : α} {rows : List (List AV)} {l : List α} (h : LitR k e d rows l) {r : List AV} {v : α} (hr : ∀ j, j < k → Is (r.getD j .any) (e v j)) : LitR k e d (r :: rows) (v :: l) :=
  ⟨by simp [h.1], fun i hi j hj => by
    cases i with
    | zero => exact hr j hj
    | succ i => exact h.2 i (by simpa using hi) j hj⟩
theorem LitR.is {α : Type} {k : Nat} {e : α → Nat → AV} {d : α} {rows : List (List AV)} {l : List α} (h : LitR k e d rows l) : Is (.lit rows.length k (rowsCell rows)) (.sl l.length k fun i j => e (l.getD i d) j) :=
  Is_lit_of h.1 fun i hi j hj => h.2 i hi j hj
theorem rowY {a : ByteArray} {b : AV} {l : List Int} {c : Int} (hb : Is b (ints l)) : ∀ j, j < 3 → Is ([st a, b, i64 c].getD j .any) (eY (a, l, c) j) := Is_rowY hb
theorem ints_l0 {q : Nat} {c : Nat → Nat → AV} : Is (.lit 0 q c) (ints []) := ints_nil.2 rfl
theorem ints_l1 {a : Int} : Is (.lit 1 1 (rowsCell [[i64 a]])) (ints [a]) := ints_lit1.2 rfl
theorem ints_l2 {a b : Int} : Is (.lit 2 1 (rowsCell [[i64 a], [i64 b]])) (ints [a, b]) := ints_lit2.2 rfl
theorem base_small (k : Int) : SgB 5 2 (base k) := by
  unfold base
  split
  · exact ⟨by decide, by simp; decide⟩
  · split
    · exact ⟨by decide, by simp; decide⟩
    · split
      · exact ⟨by decide, by simp; decide⟩
      · split
        · exact ⟨by decide, by simp; decide⟩
        · exact ⟨by decide, by simp⟩
theorem k_l4Base : SoundC Try.prog K_l4Base.1 K_l4Base.2 := sound_of hm CtxOK.nil (fun _ => []) (by kernel_rfl) fun (k : Int) hb => (by
  rw [← vc_l4Base k]
  simp [-List.getD_eq_getElem?_getD, -List.mem_cons, -Bool.forall_bool, -Bool.exists_bool, and_assoc, peta, tl_inj, ex_1, ex_2, ex_3, ex_4, ex_5, ex_6, ex_7, ex_8, ex_9, ey_2, ey_3, ey_4, ey_5, ey_6, ey_7, ey_8, ey_9]
  refine ⟨fun h => ?_, fun h0 => ⟨fun h => ?_, fun h1 => ⟨fun h => ?_, fun h2 => ⟨fun h => ?_, fun h3 => ?_⟩⟩⟩⟩
  · unfold base; rw [if_pos h]
    exact (((((LitR.nil.cons (rowY ints_l2)).cons (rowY ints_l1)).cons (rowY ints_l0)).cons (rowY ints_l0)).cons (rowY ints_l0)).is
  · unfold base; rw [if_neg h0, if_pos h]
    exact (((((LitR.nil.cons (rowY ints_l0)).cons (rowY ints_l0)).cons (rowY ints_l1)).cons (rowY ints_l0)).cons (rowY ints_l0)).is
  · unfold base; rw [if_neg h0, if_neg h1, if_pos h]
    exact ((((LitR.nil.cons (rowY ints_l0)).cons (rowY ints_l0)).cons (rowY ints_l0)).cons (rowY ints_l1)).is
  · unfold base; rw [if_neg h0, if_neg h1, if_neg h2, if_pos h]
    exact (((((LitR.nil.cons (rowY ints_l0)).cons (rowY ints_l0)).cons (rowY ints_l2)).cons (rowY ints_l1)).cons (rowY ints_l0)).is
  · unfold base; rw [if_neg h0, if_neg h1, if_neg h2, if_neg h3])
theorem k_l4Sig : SoundC Try.prog K_l4Sig.1 K_l4Sig.2 := sound_of hm ((CtxOK.nil.and k_l4Base).and k_num) (fun _ => []) (by kernel_rfl) fun ((b, p) : List Int × Int) hb => (by
  replace hb : Rd 549755813888 b p := hb
  rw [← vc_l4Sig b p]
  simp [-List.getD_eq_getElem?_getD, -List.mem_cons, -Bool.forall_bool, -Bool.exists_bool, and_assoc, peta, tl_inj, ex_1, ex_2, ex_3, ex_4, ex_5, ex_6, ex_7, ex_8, ex_9, ey_2, ey_3, ey_4, ey_5, ey_6, ey_7, ey_8, ey_9]
  exact ⟨hb.to hb.2.2.1 (by have := hb.2.2.2; omega), fun y _ => base_small y⟩)
theorem IsR_store {α : Type} {k : Nat} {e : α → Nat → AV} {d : α} (he : EncN k e) {l : List α} {i0 off : Nat} {v : α} {vs : List AV}
    (h : ∀ j, j < k → Is (bif Nat.ble off j && Nat.blt j (off + vs.length) then vs.getD (j - off) .any else e (l.getD i0 d) j) (e v j)) : IsR k e d (storeC (fun i j => e (l.getD i d) j) i0 off vs) (l.set i0 v) := fun i hi j hj => by
  have hi' : i < l.length := by simpa using hi
  unfold storeC
  by_cases hii : i = i0
  · subst hii
    have e1 : (l.set i v).getD i d = v := by simp [hi']
    rw [e1, beq_iff.2 rfl, Bool.true_and]
    exact h j hj
  · have e1 : (l.set i0 v).getD i d = l.getD i d := by simp only [List.getD_eq_getElem?_getD, List.getElem?_set_ne (Ne.symm hii)]
    have e2 : Nat.beq i i0 = false := by
      cases hb : Nat.beq i i0
      · rfl
      · exact absurd (beq_iff.1 hb) hii
    rw [e1, e2]
    exact he.self _ hj
theorem IsR_storeG {α : Type} {k : Nat} {e : α → Nat → AV} {d : α} {c : Nat → Nat → AV} {l : List α} (hc : IsR k e d c l) {i0 : Nat} {v : α} {vs : List AV} (hl : vs.length = k)
    (h : ∀ j, j < k → Is (vs.getD j .any) (e v j)) : IsR k e d (storeC c i0 0 vs) (l.set i0 v) := fun i hi j hj => by
  have hi' : i < l.length := by simpa using hi
  unfold storeC
  by_cases hii : i = i0
  · subst hii
    have e1 : (l.set i v).getD i d = v := by simp [hi']
    rw [e1, beq_iff.2 rfl, Bool.true_and, ble_iff.2 (Nat.zero_le j), blt_true (by omega), Bool.true_and, cond_true, Nat.sub_zero]
    exact h j hj
  · have e1 : (l.set i0 v).getD i d = l.getD i d := by simp only [List.getD_eq_getElem?_getD, List.getElem?_set_ne (Ne.symm hii)]
    have e2 : Nat.beq i i0 = false := by
      cases hb : Nat.beq i i0
      · rfl
      · exact absurd (beq_iff.1 hb) hii
    rw [e1, e2, Bool.false_and, Bool.false_and, cond_false]
    exact hc i hi' j hj
theorem IsO_xpush {α : Type} {k : Nat} {e : α → Nat → AV} {d : α} {l : List α} {n : Nat} {row : List AV} {v : α} (hn : n = l.length) (hs : ∀ x j, j < k → IsX (e x j) (e x j)) (hr : ∀ j, j < k → IsX (row.getD j .any) (e v j)) :
    IsO (.xarr (n + 1) k (joinC n (fun i j => e (l.getD i d) j) (rowsCell [row]))) (.xarr (l ++ [v]).length k fun i j => e ((l ++ [v]).getD i d) j) := by
  subst hn
  refine ⟨rfl, by simp, fun i hi j hj => ?_⟩
  by_cases h' : i < l.length
  · have e1 : (l ++ [v]).getD i d = l.getD i d := by simp only [List.getD_eq_getElem?_getD, List.getElem?_append_left h']
    show IsX (joinC l.length (fun i j => e (l.getD i d) j) (rowsCell [row]) i j) (e ((l ++ [v]).getD i d) j)
    unfold joinC
    rw [blt_true h', e1]
    exact hs _ j hj
  · have hi' : i = l.length := by omega
    subst hi'
    have e1 : (l ++ [v]).getD l.length d = v := by simp
    show IsX (joinC l.length (fun i j => e (l.getD i d) j) (rowsCell [row]) l.length j) (e ((l ++ [v]).getD l.length d) j)
    unfold joinC
    rw [blt_false h', e1, Nat.sub_self]
    exact hr j hj
theorem IsX_v (x : Value) : IsX (.v x) (.v x) := rfl
theorem IsX_intsS {v : List Int} : IsX (ints v) (ints v) := ⟨rfl, rfl, fun i hi j hj => EncN.eI.self _ hj⟩
theorem IsX_eY (x : Sym) (j : Nat) (hj : j < 3) : IsX (eY x j) (eY x j) := by
  match j, hj with
  | 0, _ => exact IsX_v _
  | 1, _ => exact IsX_intsS
  | 2, _ => exact IsX_v _
theorem xrY_push {l : List Sym} {n : Nat} {a : ByteArray} {v : List Int} {c : Int} (hn : n = l.length) : IsO (.xarr (n + 1) 3 (joinC n (cY l) (rowsCell [[st a, AV.sl v.length 1 (cI v), i64 c]]))) (xrY (l ++ [(a, v, c)])) :=
  IsO_xpush hn IsX_eY fun j hj => by
    match j, hj with
    | 0, _ => exact IsX_v _
    | 1, _ => exact IsX_intsS
    | 2, _ => exact IsX_v _
theorem IsX_eR (x : Rw) (j : Nat) (hj : j < 4) : IsX (eR x j) (eR x j) := by
  match j, hj with
  | 0, _ => exact IsX_v _
  | 1, _ => exact ⟨rfl, rfl, fun i hi j hj => EncN.eQ.self _ hj⟩
  | 2, _ => exact IsX_v _
  | 3, _ => exact IsX_v _
@[simp] theorem xrR_self {l : List Rw} : IsO (xrR l) (xrR l) := ⟨rfl, rfl, fun i hi j hj => IsX_eR _ j hj⟩
theorem mem_set_imp {α : Type} {q : α → Prop} {l : List α} {i : Nat} {v : α} (h : ∀ x ∈ l, q x) (hv : q v) : ∀ x ∈ l.set i v, q x := fun x hx => by
  rcases List.mem_or_eq_of_mem_set hx with e | e
  · exact h x e
  · rw [e]; exact hv
theorem mem_push_imp {α : Type} {q : α → Prop} {l : List α} {v : α} (h : ∀ x ∈ l, q x) (hv : q v) : ∀ x ∈ l ++ [v], q x := fun x hx => by
  rcases List.mem_append.1 hx with e | e
  · exact h x e
  · rw [List.mem_singleton.1 e]; exact hv
theorem _root_.Pl.SgB.mono {n k n' k' : Nat} {s : Pl.Sig} (h : SgB n k s) (h1 : n ≤ n') (h2 : k ≤ k') : SgB n' k' s := ⟨Nat.le_trans h.1 h1, fun x hx => ⟨(h.2 x hx).1, Nat.le_trans (h.2 x hx).2 h2⟩⟩
theorem _root_.Pl.SgB.set {n k : Nat} {s : Pl.Sig} (h : SgB n k s) {i : Nat} {x : Sym} (hx : x.1.size ≤ 10 ∧ x.2.1.length ≤ k) : SgB n k (s.set i x) := ⟨by simpa using h.1, mem_set_imp h.2 hx⟩
theorem _root_.Pl.SgB.push {n k : Nat} {s : Pl.Sig} (h : SgB n k s) {x : Sym} (hn : s.length < n) (hx : x.1.size ≤ 10 ∧ x.2.1.length ≤ k) : SgB n k (s ++ [x]) := ⟨by simp; omega, mem_push_imp h.2 hx⟩
theorem _root_.Pl.MdB.mono {n k n' k' : Nat} {s : Mdl} (h : MdB n k s) (h1 : n ≤ n') (h2 : k ≤ k') : MdB n' k' s := ⟨Nat.le_trans h.1 h1, fun x hx => ⟨(h.2 x hx).1, Nat.le_trans (h.2 x hx).2 h2⟩⟩
theorem _root_.Pl.MdB.set {n k : Nat} {s : Mdl} (h : MdB n k s) {i : Nat} {x : Rw} (hx : x.1.size ≤ 10 ∧ x.2.1.length ≤ k) : MdB n k (s.set i x) := ⟨by simpa using h.1, mem_set_imp h.2 hx⟩
theorem _root_.Pl.MdB.push {n k : Nat} {s : Mdl} (h : MdB n k s) {x : Rw} (hn : s.length < n) (hx : x.1.size ≤ 10 ∧ x.2.1.length ≤ k) : MdB n k (s ++ [x]) := ⟨by simp; omega, mem_push_imp h.2 hx⟩
theorem names5 : ∀ y ∈ [(⟨#[]⟩ : ByteArray), ⟨#[65]⟩, ⟨#[97, 98, 99]⟩, ⟨#[122, 122]⟩, ⟨#[97]⟩], y.size ≤ 10 := by decide
theorem names3 : ∀ y ∈ [(⟨#[97]⟩ : ByteArray), ⟨#[98]⟩, ⟨#[122]⟩], ((⟨#[122]⟩ : ByteArray) ++ y).size ≤ 10 ∧ y.size ≤ 10 := by decide
theorem names4 : ∀ y ∈ [(⟨#[]⟩ : ByteArray), ⟨#[65]⟩, ⟨#[122, 122]⟩], y.size ≤ 10 := by decide
theorem k_l4Bent : SoundC Try.prog K_l4Bent.1 K_l4Bent.2 := sound_of hm (((CtxOK.nil.and k_of).and k_num).and k_pick) (fun (b, p, s, n, k) => A_l4Bent b p s n k) (by kernel_rfl) fun ((b, p, s, n, r) : List Int × Int × Pl.Sig × Nat × Nat) hb => (by
  obtain ⟨h1, h2, hn1, hn2, hr2⟩ : Rd 274877906944 b p ∧ SgB n r s ∧ 7 ≤ n ∧ n ≤ 14 ∧ r ≤ 8 := hb
  rw [← vc_l4Bent b p s n r]
  simp [-List.getD_eq_getElem?_getD, -List.mem_cons, -Bool.forall_bool, -Bool.exists_bool, and_assoc, peta, tl_inj, ex_1, ex_2, ex_3, ex_4, ex_5, ex_6, ex_7, ex_8, ex_9, ey_2, ey_3, ey_4, ey_5, ey_6, ey_7, ey_8, ey_9]
  obtain ⟨s1, s2⟩ : s.length ≤ n ∧ ∀ x ∈ s, x.1.size ≤ 10 ∧ x.2.1.length ≤ r := id h2
  have g3 := h1.2.2.1
  have g4 := h1.2.2.2
  have hB : SgB (n + 1) (r + 1) s := h2.mono (by omega) (by omega)
  refine ⟨⟨0, by omega, rfl, rfl, .inl rfl⟩, fun x hx => ⟨fun hlt => ?_, fun hge => ?_⟩⟩
  · have h3 := s2 _ (getD_mem dY hlt)
    refine ⟨hlt, by omega, by omega, by omega, by omega, by omega, wrap_succ hlt (by omega), ?_⟩
    rw [Pl.take_succ_getD dY hlt]
    exact xrY_push (by simp; omega)
  · obtain rfl : x = s.length := by omega
    rw [List.take_length, Nat.min_self]
    have hI : Is (AV.sl s.length 3 (cY s)) (syms s) := (syms_take (Nat.le_refl _)).2 List.take_length
    refine ⟨fun _ => ⟨s, hB, by omega, by omega, hI⟩, fun h0 => ⟨h1.to (by omega) (by omega), fun y y1 y2 => ⟨fun _ => ⟨s, hB, by omega, by omega, hI⟩, fun _ => ⟨h1.to (by omega) (by omega), fun k hk _ => ⟨h1.to (by omega) (by omega), fun z z1 z2 => ?_⟩⟩⟩⟩⟩
    obtain ⟨k1, k2⟩ := hk (by omega)
    have hkl : k.toNat < s.length := by omega
    have h3 := s2 _ (getD_mem dY hkl)
    have hsl : ∀ v : Sym, (s.set k.toNat v).length = s.length := fun v => by simp
    refine ⟨fun _ => ⟨h1.to (by omega) (by omega), fun nm hnm => ?_⟩, fun _ => ⟨fun _ => ?_, fun _ => ⟨fun _ => ⟨h1.to (by omega) (by omega), fun v hv => ?_⟩, fun _ => ⟨fun _ => ?_, fun _ => ⟨⟨s, hB, by omega, by omega, rfl, .inr rfl⟩, fun a q ha q1 q2 => ⟨fun hle => ⟨h1.to (by omega) (by omega), fun nm hnm => ?_⟩, fun _ => ⟨ha, by omega, by have := ha.1; omega⟩⟩⟩⟩⟩⟩⟩
    · exact ⟨by omega, by omega, by omega, _, hB.set (x := (nm, (s.getD k.toNat dY).2)) ⟨names5 nm hnm, Nat.le_trans h3.2 (by omega)⟩, by omega, by omega, by omega, Is_sl_of (hsl _).symm (IsR_store EncN.eY fun j hj => by
        match j, hj with
        | 0, _ => exact Is_st.2 rfl
        | 1, _ => exact EncN.eY.self _ (j := 1) (by decide)
        | 2, _ => exact EncN.eY.self _ (j := 2) (by decide))⟩
    · have main : ∀ v : Int, ∃ a, SgB (n + 1) (r + 1) a ∧ p ≤ p + 1 + 1 + 1 + 1 ∧ p + 1 + 1 + 1 + 1 ≤ p + 100 ∧ s.length ≤ s.length ∧ Is (AV.sl s.length 3 fun i j => storeC (cY s) k.toNat 1 [AV.sl ((s.getD k.toNat dY).snd.fst.length + 1) 1 (joinC (s.getD k.toNat dY).snd.fst.length (cI (s.getD k.toNat dY).snd.fst) (rowsCell [[i64 v]]))] i j) (syms a) := fun v =>
        ⟨_, hB.set (x := ((s.getD k.toNat dY).1, (s.getD k.toNat dY).2.1 ++ [v], (s.getD k.toNat dY).2.2)) ⟨h3.1, by dsimp only; rw [List.length_append, List.length_singleton]; omega⟩, by omega, by omega, by omega, Is_sl_of (hsl _).symm (IsR_store EncN.eY fun j hj => by
          match j, hj with
          | 0, _ => exact EncN.eY.self _ (j := 0) (by decide)
          | 1, _ => exact ((Rds.cel EncN.eI (s.getD k.toNat dY).2.1).join (Rds.row (ints_row v))).is
          | 2, _ => exact EncN.eY.self _ (j := 2) (by decide))⟩
      exact ⟨by omega, by omega, by omega, h1.to (by omega) (by omega), fun v _ => ⟨by omega, by omega, by omega, by omega, by omega, main v⟩, h1.to (by omega) (by omega), fun v _ => ⟨by omega, by omega, by omega, by omega, by omega, by omega, by omega, main v⟩⟩
    · exact ⟨by omega, by omega, by omega, _, hB.set (x := ((s.getD k.toNat dY).1, (s.getD k.toNat dY).2.1, v)) ⟨h3.1, Nat.le_trans h3.2 (by omega)⟩, by omega, by omega, by omega, Is_sl_of (hsl _).symm (IsR_store EncN.eY fun j hj => by
        match j, hj with
        | 0, _ => exact EncN.eY.self _ (j := 0) (by decide)
        | 1, _ => exact EncN.eY.self _ (j := 1) (by decide)
        | 2, _ => exact Is_i64.2 rfl)⟩
    · exact ⟨by omega, by omega, by omega, by omega, by omega, _, hB.push (x := s.getD k.toNat dY) (by omega) ⟨h3.1, by omega⟩, by omega, by omega, ((Rds.cel EncN.eY s).join (Rds.row (IsR_row EncN.eY (Is_rowY (Is_ints.2 rfl))))).is⟩
    · obtain ⟨e1, e2⟩ := names3 nm hnm
      refine ⟨by omega, by omega, _, ha.push (x := (⟨#[122]⟩ ++ nm, [], 0)) (by omega) ⟨e1, Nat.zero_le _⟩, by omega, ?_, ?_, by simp, IsO_join EncN.eY (IsR_row EncN.eY (Is_rowY (ints_nil.2 rfl)))⟩
      · simp; omega
      · simp; omega)
theorem k_l7Some0 (k_l7Any : SoundC Try.prog K_l7Any.1 K_l7Any.2) : SoundC Try.prog K_l7Some.1 K_l7Some.2 := sound_of hm ((((CtxOK.nil.and k_of).and k_rat).and k_pick).and k_l7Any) (fun _ => []) (by kernel_rfl) fun ((b, p, s) : List Int × Int × Pl.Sig) hb => (by
  obtain ⟨h1, h2⟩ : Rd 68719476736 b p ∧ SgB 5 2 s := hb
  rw [← vc_l7Some b p s]
  simp [-List.getD_eq_getElem?_getD, -List.mem_cons, -Bool.forall_bool, -Bool.exists_bool, and_assoc, peta, tl_inj, ex_1, ex_2, ex_3, ex_4, ex_5, ex_6, ex_7, ex_8, ex_9, ey_2, ey_3, ey_4, ey_5, ey_6, ey_7, ey_8, ey_9]
  have g3 := h1.2.2.1
  have g4 := h1.2.2.2
  refine ⟨h1.to (by omega) (by omega), h2, fun m q hm q1 q2 => ?_⟩
  have hB : MdB 16 3 m := hm.mono (by decide) (by decide)
  obtain ⟨m1, m2⟩ : m.length ≤ 15 ∧ ∀ x ∈ m, x.1.size ≤ 10 ∧ x.2.1.length ≤ 2 := id hm
  refine ⟨fun _ => ⟨hB, by omega, by omega⟩, fun hne => ⟨h1.to (by omega) (by omega), fun y y1 y2 => ⟨fun _ => ⟨hB, by omega, by omega⟩, fun _ => ⟨h1.to (by omega) (by omega), fun k hk _ => ⟨h1.to (by omega) (by omega), fun z z1 z2 => ?_⟩⟩⟩⟩⟩
  have h0 : 0 < m.length := List.length_pos_iff.2 hne
  obtain ⟨k1, k2⟩ := hk (by omega)
  have hkl : k.toNat < m.length := by omega
  have h3 := m2 _ (getD_mem dR hkl)
  have h30 := m2 _ (getD_mem dR h0)
  have hsl : ∀ v : Rw, (m.set k.toNat v).length = m.length := fun v => by simp
  refine ⟨fun _ => ⟨h1.to (by omega) (by omega), fun v w => ?_⟩, fun _ => ⟨fun _ => ?_, fun _ => ⟨fun _ => ?_, fun _ => ⟨fun _ => ⟨h1.to (by omega) (by omega), fun nm hnm => ?_⟩, fun _ => ?_⟩⟩⟩⟩
  · exact ⟨by omega, by omega, by omega, _, hB.set (x := ((m.getD k.toNat dR).1, (m.getD k.toNat dR).2.1, v, w)) ⟨h3.1, Nat.le_trans h3.2 (by decide)⟩, by omega, by omega, Is_sl_of (hsl _).symm (IsR_store EncN.eR fun j hj => by
      match j, hj with
      | 0, _ => exact EncN.eR.self _ (j := 0) (by decide)
      | 1, _ => exact EncN.eR.self _ (j := 1) (by decide)
      | 2, _ => exact Is_i64.2 rfl
      | 3, _ => exact Is_i64.2 rfl)⟩
  · exact ⟨by omega, by omega, by omega, by omega, _, hB.push (x := m.getD k.toNat dR) (by omega) ⟨h3.1, by omega⟩, by omega, by omega, ((Rds.cel EncN.eR m).join (Rds.row (IsR_row EncN.eR (Is_rowR (Is_rats.2 rfl))))).is⟩
  · exact ⟨by omega, by omega, by omega, by omega, by omega, by omega, by omega, _, hB.set (x := ((m.getD k.toNat dR).1, (m.getD k.toNat dR).2.1 ++ [(0, 1)], (m.getD k.toNat dR).2.2)) ⟨h3.1, by dsimp only; rw [List.length_append, List.length_singleton]; omega⟩, by omega, by omega, Is_sl_of (hsl _).symm (IsR_store EncN.eR fun j hj => by
      match j, hj with
      | 0, _ => exact EncN.eR.self _ (j := 0) (by decide)
      | 1, _ => exact ((Rds.cel EncN.eQ (m.getD k.toNat dR).2.1).join (Rds.row (d := dQ) (v := ((0, 1) : Rt)) (r := [i64 0, i64 1]) (IsR_row EncN.eQ fun j hj => by
          match j, hj with
          | 0, _ => exact Is_i64.2 rfl
          | 1, _ => exact Is_i64.2 rfl))).is
      | 2, _ => exact EncN.eR.self _ (j := 2) (by decide)
      | 3, _ => exact EncN.eR.self _ (j := 3) (by decide))⟩
  · exact ⟨by omega, by omega, by omega, _, hB.set (x := (nm, (m.getD k.toNat dR).2)) ⟨names4 nm hnm, Nat.le_trans h3.2 (by decide)⟩, by omega, by omega, Is_sl_of (hsl _).symm (IsR_store EncN.eR fun j hj => by
      match j, hj with
      | 0, _ => exact Is_st.2 rfl
      | 1, _ => exact EncN.eR.self _ (j := 1) (by decide)
      | 2, _ => exact EncN.eR.self _ (j := 2) (by decide)
      | 3, _ => exact EncN.eR.self _ (j := 3) (by decide))⟩
  · refine ⟨by omega, by omega, by omega, by omega, by omega, by omega, by omega, by omega, (m.set k.toNat (m.getD 0 dR)).set 0 (m.getD k.toNat dR), (hB.set ⟨h30.1, by omega⟩).set ⟨h3.1, by omega⟩, by omega, by omega, ?_⟩
    exact Is_sl_of (by simp) (IsR_storeG (IsR_storeG (IsR_cel EncN.eR) rfl (Is_rowR (Is_rats.2 rfl))) rfl (Is_rowR (Is_rats.2 rfl))))
end Cg

/-
  Drawn models that stay as they are. No condition.
-/
