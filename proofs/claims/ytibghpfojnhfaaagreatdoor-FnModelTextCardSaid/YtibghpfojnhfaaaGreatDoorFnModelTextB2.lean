/-
  What the law leans on, part 2. No condition.
-/
import Derived.Test.YtibghpfojnhfaaaGreatDoorProg
import Derived.Shelf.Strconv.Itoa3
import Derived.Shelf.Strings.OnBuilder
import Derived.Shelf.Strconv.AtoiAll
import Derived.Shelf.Strings.SplitShaped
import Derived.Shelf.Small.Wraps
import Derived.Shelf.Strings.Cut
import Derived.Shelf.Strings.Prefix
import Derived.Lib.Split
import Derived.Lib.AtoiAllCases
import Derived.Test.YtibghpfojnhfaaaGreatDoorFnModelTextB1
/-
  What is left to show of each function's code, printed by a program: Mok. No condition.
-/
set_option maxRecDepth 100000
set_option linter.unusedVariables false
namespace Cg
open Go Go.Proofs
theorem vc_l1Abs (x : Int) : (condP (decide (x < (-1000000000 : Int))) ((1000000001 : Int) = Pl.abs1 x)
 (condP (decide (x > (1000000000 : Int))) ((1000000001 : Int) = Pl.abs1 x)
 (condP (decide (x < (0 : Int))) (IntKind.i64.wrap ((0 : Int) - x) = Pl.abs1 x) (x = Pl.abs1 x)))) = Goal Tryz.prog [] ([]) K_l1Abs.1 K_l1Abs.2 (x) := by kernel_rfl

theorem vc_l1Gcd (a b : Nat) : ((∃ x : Nat × Nat,
 (x.1 ≤ (4611686018427387904 : Nat) ∧ x.2 ≤ (4611686018427387904 : Nat) ∧ x.1.gcd x.2 = a.gcd b) ∧ ((↑a : Int) = (↑x.1 : Int) ∧ (↑b : Int) = (↑x.2 : Int) ∧ True) ∧ True) ∧ ∀ (x : Nat × Nat),
 x.1 ≤ (4611686018427387904 : Nat) ∧ x.2 ≤ (4611686018427387904 : Nat) ∧ x.1.gcd x.2 = a.gcd b →
 condP (decide ((↑x.2 : Int) > (0 : Int)))
 ((↑x.2 : Int) ≠ (0 : Int) ∧ Exists fun (x' : Nat × Nat) =>
 (x'.1 ≤ (4611686018427387904 : Nat) ∧ x'.2 ≤ (4611686018427387904 : Nat) ∧ x'.1.gcd x'.2 = a.gcd b) ∧ x'.2 < x.2 ∧ ((↑x.2 : Int) = (↑x'.1 : Int) ∧ (↑x.1 : Int).tmod (↑x.2 : Int) = (↑x'.2 : Int) ∧ True) ∧ True)
 ((↑x.1 : Int) = (↑(a.gcd b) : Int))) = Goal Tryz.prog [] (A_l1Gcd a b) K_l1Gcd.1 K_l1Gcd.2 ((a, b)) := by kernel_rfl

theorem vc_gcd (a b : Int) : ((∃ x : Nat × Nat,
 (x.1 ≤ (4611686018427387904 : Nat) ∧ x.2 ≤ (4611686018427387904 : Nat) ∧ x.1.gcd x.2 = a.natAbs.gcd b.natAbs) ∧ ((if IntKind.i64.wrap ((0 : Int) - a) > a then IntKind.i64.wrap ((0 : Int) - a) else a) = (↑x.1 : Int) ∧ (if IntKind.i64.wrap ((0 : Int) - b) > b then IntKind.i64.wrap ((0 : Int) - b) else b) = (↑x.2 : Int) ∧ True) ∧ True) ∧ ∀ (x : Nat × Nat),
 x.1 ≤ (4611686018427387904 : Nat) ∧ x.2 ≤ (4611686018427387904 : Nat) ∧ x.1.gcd x.2 = a.natAbs.gcd b.natAbs →
 condP (decide ((↑x.2 : Int) > (0 : Int)))
 ((↑x.2 : Int) ≠ (0 : Int) ∧ Exists fun (x' : Nat × Nat) =>
 (x'.1 ≤ (4611686018427387904 : Nat) ∧ x'.2 ≤ (4611686018427387904 : Nat) ∧ x'.1.gcd x'.2 = a.natAbs.gcd b.natAbs) ∧ x'.2 < x.2 ∧ ((↑x.2 : Int) = (↑x'.1 : Int) ∧ (↑x.1 : Int).tmod (↑x.2 : Int) = (↑x'.2 : Int) ∧ True) ∧ True)
 ((↑x.1 : Int) = (↑(a.natAbs.gcd b.natAbs) : Int))) = Goal Tryz.prog [] (A_gcd a b) K_gcd.1 K_gcd.2 ((a, b)) := by kernel_rfl

theorem vc_sRatOk (x : Pl.Rt) : (∃ x_1 : Int,
 (x.1 = x_1 ∧ True) ∧ True ∧ condP (decide (Pl.abs1 x_1 ≤ (1000000000 : Int)))
 (condP (decide (x.2 ≥ (1 : Int)))
 (condP (decide (x.2 ≤ (1000000000 : Int)))
 (∃ x_2 : Int,
 (x.1 = x_2 ∧ True) ∧ True ∧ ∃ x_3 : Nat × Nat,
 (Pl.abs1 x_2 = (↑x_3.1 : Int) ∧ x.2 = (↑x_3.2 : Int) ∧ True) ∧ (x_3.1 ≤ (4611686018427387904 : Nat) ∧ x_3.2 ≤ (4611686018427387904 : Nat)) ∧ ((↑(x_3.1.gcd x_3.2) : Int) == (1 : Int)) = Pl.ratOk x)
 (false = Pl.ratOk x))
 (false = Pl.ratOk x))
 (false = Pl.ratOk x)) = Goal Tryz.prog [K_l1Abs, K_l1Gcd] ([]) K_sRatOk.1 K_sRatOk.2 (x) := by kernel_rfl

theorem vc_iRatOk (x : Pl.Rt) : (∃ x_1 : Int × Int × Int,
 (x.1 = x_1.1 ∧ (-1000000000 : Int) = x_1.2.1 ∧ (1000000000 : Int) = x_1.2.2 ∧ True) ∧ True ∧ condP (Pl.withinI x_1.1 x_1.2.1 x_1.2.2)
 (∃ x_2 : Int × Int × Int,
 (x.2 = x_2.1 ∧ (1 : Int) = x_2.2.1 ∧ (1000000000 : Int) = x_2.2.2 ∧ True) ∧ True ∧ condP (Pl.withinI x_2.1 x_2.2.1 x_2.2.2)
 (∃ x_3 : Int × Int,
 (x.1 = x_3.1 ∧ x.2 = x_3.2 ∧ True) ∧ (x_3.1.natAbs ≤ (4611686018427387904 : Nat) ∧ x_3.2.natAbs ≤ (4611686018427387904 : Nat)) ∧ ((↑(x_3.1.natAbs.gcd x_3.2.natAbs) : Int) == (1 : Int)) = Pl.ratOk x)
 (false = Pl.ratOk x))
 (false = Pl.ratOk x)) = Goal Tryz.prog [K_within, K_gcd] ([]) K_iRatOk.1 K_iRatOk.2 (x) := by kernel_rfl

theorem vc_sRatLess (x : Pl.Rt × Pl.Rt) : (∃ x_1 : Pl.Rt,
 ((x.1.1 = x_1.1 ∧ x.1.2 = x_1.2 ∧ True) ∧ True) ∧ True ∧ condP (Pl.ratOk x_1)
 (∃ x_2 : Pl.Rt,
 ((x.2.1 = x_2.1 ∧ x.2.2 = x_2.2 ∧ True) ∧ True) ∧ True ∧ condP (Pl.ratOk x_2) (decide (IntKind.i64.wrap (x.1.1 * x.2.2) < IntKind.i64.wrap (x.2.1 * x.1.2)) = Pl.ratLess x.1 x.2)
 (false = Pl.ratLess x.1 x.2))
 (false = Pl.ratLess x.1 x.2)) = Goal Tryz.prog [K_sRatOk] ([]) K_sRatLess.1 K_sRatLess.2 (x) := by kernel_rfl

theorem vc_iRatLess (x : Pl.Rt × Pl.Rt) : (∃ x_1 : Pl.Rt,
 ((x.1.1 = x_1.1 ∧ x.1.2 = x_1.2 ∧ True) ∧ True) ∧ True ∧ condP (Pl.ratOk x_1)
 (∃ x_2 : Pl.Rt,
 ((x.2.1 = x_2.1 ∧ x.2.2 = x_2.2 ∧ True) ∧ True) ∧ True ∧ condP (Pl.ratOk x_2) (decide (IntKind.i64.wrap (x.1.1 * x.2.2) < IntKind.i64.wrap (x.2.1 * x.1.2)) = Pl.ratLess x.1 x.2)
 (false = Pl.ratLess x.1 x.2))
 (false = Pl.ratLess x.1 x.2)) = Goal Tryz.prog [K_iRatOk] ([]) K_iRatLess.1 K_iRatLess.2 (x) := by kernel_rfl

theorem vc_compareRats (x : Pl.Rt × Pl.Rt) : (∃ x_1 : Pl.Rt × Pl.Rt,
 ((x.1.1 = x_1.1.1 ∧ x.1.2 = x_1.1.2 ∧ True) ∧ (x.2.1 = x_1.2.1 ∧ x.2.2 = x_1.2.2 ∧ True) ∧ True) ∧ True ∧ condP (Pl.ratLess x_1.1 x_1.2) ((-1 : Int) = Pl.cmpRat x.1 x.2)
 (∃ x_2 : Pl.Rt × Pl.Rt,
 ((x.2.1 = x_2.1.1 ∧ x.2.2 = x_2.1.2 ∧ True) ∧ (x.1.1 = x_2.2.1 ∧ x.1.2 = x_2.2.2 ∧ True) ∧ True) ∧ True ∧ condP (Pl.ratLess x_2.1 x_2.2) ((1 : Int) = Pl.cmpRat x.1 x.2) ((0 : Int) = Pl.cmpRat x.1 x.2))) = Goal Tryz.prog [K_iRatLess] ([]) K_compareRats.1 K_compareRats.2 (x) := by kernel_rfl

theorem vc_l7Row (x : Pl.Rw) : ((∃ x_1 : Nat,
 (x_1 ≤ x.2.1.length ∧ x.2.1.all Pl.ratOk = (List.drop x_1 x.2.1).all Pl.ratOk) ∧ ((0 : Nat) = (0 : Nat) ∧ (0 : Int) = (↑x_1 : Int) ∧ True) ∧ (x.1 = x.1 ∧ Is (rats x.2.1) (rats x.2.1) ∧ x.2.2.1 = x.2.2.1 ∧ x.2.2.2 = x.2.2.2 ∧ True) ∧ True) ∧ ∀ (x_1 : Nat),
 x_1 ≤ x.2.1.length ∧ x.2.1.all Pl.ratOk = (List.drop x_1 x.2.1).all Pl.ratOk →
 condP (decide ((↑x_1 : Int) < (↑x.2.1.length : Int)))
 (((0 : Int) ≤ (↑x_1 : Int) ∧ (↑x_1 : Int) < (↑x.2.1.length : Int)) ∧ x_1 < x.2.1.length ∧ ∃ x_2 : Pl.Rt,
 (((x.2.1.getD x_1 Pl.dQ).1 = x_2.1 ∧ (x.2.1.getD x_1 Pl.dQ).2 = x_2.2 ∧ True) ∧ True) ∧ True ∧ condP (!Pl.ratOk x_2) (false = Pl.rowOk x)
 (Exists fun (x' : Nat) =>
 (x' ≤ x.2.1.length ∧ x.2.1.all Pl.ratOk = (List.drop x' x.2.1).all Pl.ratOk) ∧ x.2.1.length - x' < x.2.1.length - x_1 ∧ ((0 : Nat) = (0 : Nat) ∧ IntKind.i64.wrap ((↑x_1 : Int) + (1 : Int)) = (↑x' : Int) ∧ True) ∧ (x.1 = x.1 ∧ Is (rats x.2.1) (rats x.2.1) ∧ x.2.2.1 = x.2.2.1 ∧ x.2.2.2 = x.2.2.2 ∧ True) ∧ True))
 (∃ x_2 : ByteArray,
 (x.1 = x_2 ∧ True) ∧ x_2.size ≤ (1048576 : Nat) ∧ condP (Pl.nameOk x_2)
 (condP (decide ((↑x.2.1.length : Int) ≤ (2 : Int)))
 (∃ x_3 : Pl.Rt, ((x.2.2.1 = x_3.1 ∧ x.2.2.2 = x_3.2 ∧ True) ∧ True) ∧ True ∧ Pl.ratOk x_3 = Pl.rowOk x) (false = Pl.rowOk x))
 (false = Pl.rowOk x))) = Goal Tryz.prog [K_sRatOk, K_sNameOk] (A_l7Row x) K_l7Row.1 K_l7Row.2 (x) := by kernel_rfl

theorem vc_l7Less (x : Pl.Rw × Pl.Rw) : (condP (!x.1.1.toList == x.2.1.toList) (Op.bytesLess x.1.1.toList x.2.1.toList = Pl.rowLess x.1 x.2)
 (condP ((↑x.1.2.1.length : Int) != (↑x.2.2.1.length : Int)) (decide ((↑x.1.2.1.length : Int) < (↑x.2.2.1.length : Int)) = Pl.rowLess x.1 x.2)
 ((∃ x_1 : Nat,
 (x_1 ≤ x.1.2.1.length ∧ x.1.2.1.length = x.2.2.1.length ∧ Pl.rowLess x.1 x.2 = Pl.argsLess (List.drop x_1 x.1.2.1) (List.drop x_1 x.2.2.1)) ∧ ((0 : Nat) = (0 : Nat) ∧ (0 : Nat) = (0 : Nat) ∧ (0 : Int) = (↑x_1 : Int) ∧ True) ∧ (x.1.1 = x.1.1 ∧ Is (rats x.1.2.1) (rats x.1.2.1) ∧ x.1.2.2.1 = x.1.2.2.1 ∧ x.1.2.2.2 = x.1.2.2.2 ∧ True) ∧ (x.2.1 = x.2.1 ∧ Is (rats x.2.2.1) (rats x.2.2.1) ∧ x.2.2.2.1 = x.2.2.2.1 ∧ x.2.2.2.2 = x.2.2.2.2 ∧ True) ∧ True) ∧ ∀ (x_1 : Nat),
 x_1 ≤ x.1.2.1.length ∧ x.1.2.1.length = x.2.2.1.length ∧ Pl.rowLess x.1 x.2 = Pl.argsLess (List.drop x_1 x.1.2.1) (List.drop x_1 x.2.2.1) →
 condP (decide ((↑x_1 : Int) < (↑x.1.2.1.length : Int)))
 (((0 : Int) ≤ (↑x_1 : Int) ∧ (↑x_1 : Int) < (↑x.1.2.1.length : Int)) ∧ x_1 < x.1.2.1.length ∧ ((0 : Int) ≤ (↑x_1 : Int) ∧ (↑x_1 : Int) < (↑x.2.2.1.length : Int)) ∧ x_1 < x.2.2.1.length ∧ condP (!((x.1.2.1.getD x_1 Pl.dQ).1 == (x.2.2.1.getD x_1 Pl.dQ).1 && (x.1.2.1.getD x_1 Pl.dQ).2 == (x.2.2.1.getD x_1 Pl.dQ).2))
 (((0 : Int) ≤ (↑x_1 : Int) ∧ (↑x_1 : Int) < (↑x.1.2.1.length : Int)) ∧ x_1 < x.1.2.1.length ∧ ((0 : Int) ≤ (↑x_1 : Int) ∧ (↑x_1 : Int) < (↑x.2.2.1.length : Int)) ∧ x_1 < x.2.2.1.length ∧ ∃ x_2 : Pl.Rt × Pl.Rt,
 (((x.1.2.1.getD x_1 Pl.dQ).1 = x_2.1.1 ∧ (x.1.2.1.getD x_1 Pl.dQ).2 = x_2.1.2 ∧ True) ∧ ((x.2.2.1.getD x_1 Pl.dQ).1 = x_2.2.1 ∧ (x.2.2.1.getD x_1 Pl.dQ).2 = x_2.2.2 ∧ True) ∧ True) ∧ True ∧ Pl.ratLess x_2.1 x_2.2 = Pl.rowLess x.1 x.2)
 (Exists fun (x' : Nat) =>
 (x' ≤ x.1.2.1.length ∧ x.1.2.1.length = x.2.2.1.length ∧ Pl.rowLess x.1 x.2 = Pl.argsLess (List.drop x' x.1.2.1) (List.drop x' x.2.2.1)) ∧ x.1.2.1.length - x' < x.1.2.1.length - x_1 ∧ ((0 : Nat) = (0 : Nat) ∧ (0 : Nat) = (0 : Nat) ∧ IntKind.i64.wrap ((↑x_1 : Int) + (1 : Int)) = (↑x' : Int) ∧ True) ∧ (x.1.1 = x.1.1 ∧ Is (rats x.1.2.1) (rats x.1.2.1) ∧ x.1.2.2.1 = x.1.2.2.1 ∧ x.1.2.2.2 = x.1.2.2.2 ∧ True) ∧ (x.2.1 = x.2.1 ∧ Is (rats x.2.2.1) (rats x.2.2.1) ∧ x.2.2.2.1 = x.2.2.2.1 ∧ x.2.2.2.2 = x.2.2.2.2 ∧ True) ∧ True))
 (false = Pl.rowLess x.1 x.2)))) = Goal Tryz.prog [K_sRatLess] (A_l7Less x.1 x.2) K_l7Less.1 K_l7Less.2 (x) := by kernel_rfl

theorem vc_l7Right (x : Pl.Mdl) : ((∃ x_1 : Nat,
 (x_1 ≤ List.length x ∧ Pl.mL Option.none x = Pl.mL (Pl.prevR x x_1) (List.drop x_1 x)) ∧ ((0 : Nat) = (0 : Nat) ∧ (0 : Int) = (↑x_1 : Int) ∧ True) ∧ (Is (mrows x) (mrows x) ∧ True) ∧ True) ∧ ∀ (x_1 : Nat),
 x_1 ≤ List.length x ∧ Pl.mL Option.none x = Pl.mL (Pl.prevR x x_1) (List.drop x_1 x) →
 condP (decide ((↑x_1 : Int) < (↑(List.length x) : Int)))
 (((0 : Int) ≤ (↑x_1 : Int) ∧ (↑x_1 : Int) < (↑(List.length x) : Int)) ∧ x_1 < List.length x ∧ ∃ x_2 : Pl.Rw,
 (((List.getD x x_1 Pl.dR).1 = x_2.1 ∧ Is (rats (List.getD x x_1 Pl.dR).2.1) (rats x_2.2.1) ∧ (List.getD x x_1 Pl.dR).2.2.1 = x_2.2.2.1 ∧ (List.getD x x_1 Pl.dR).2.2.2 = x_2.2.2.2 ∧ True) ∧ True) ∧ (x_2.1.size ≤ (1048576 : Nat) ∧ x_2.2.1.length ≤ (1048576 : Nat)) ∧ condP (!Pl.rowOk x_2) (false = Pl.mRight x)
 (condP (decide ((↑x_1 : Int) > (0 : Int)))
 (((0 : Int) ≤ IntKind.i64.wrap ((↑x_1 : Int) - (1 : Int)) ∧ IntKind.i64.wrap ((↑x_1 : Int) - (1 : Int)) < (↑(List.length x) : Int)) ∧ (IntKind.i64.wrap ((↑x_1 : Int) - (1 : Int))).toNat < List.length x ∧ ((0 : Int) ≤ (↑x_1 : Int) ∧ (↑x_1 : Int) < (↑(List.length x) : Int)) ∧ x_1 < List.length x ∧ ∃ x_3 : Pl.Rw × Pl.Rw,
 (((List.getD x (IntKind.i64.wrap ((↑x_1 : Int) - (1 : Int))).toNat Pl.dR).1 = x_3.1.1 ∧ Is (rats (List.getD x (IntKind.i64.wrap ((↑x_1 : Int) - (1 : Int))).toNat Pl.dR).2.1) (rats x_3.1.2.1) ∧ (List.getD x (IntKind.i64.wrap ((↑x_1 : Int) - (1 : Int))).toNat Pl.dR).2.2.1 = x_3.1.2.2.1 ∧ (List.getD x (IntKind.i64.wrap ((↑x_1 : Int) - (1 : Int))).toNat Pl.dR).2.2.2 = x_3.1.2.2.2 ∧ True) ∧ ((List.getD x x_1 Pl.dR).1 = x_3.2.1 ∧ Is (rats (List.getD x x_1 Pl.dR).2.1) (rats x_3.2.2.1) ∧ (List.getD x x_1 Pl.dR).2.2.1 = x_3.2.2.2.1 ∧ (List.getD x x_1 Pl.dR).2.2.2 = x_3.2.2.2.2 ∧ True) ∧ True) ∧ x_3.1.2.1.length ≤ (1048576 : Nat) ∧ condP (!Pl.rowLess x_3.1 x_3.2) (false = Pl.mRight x)
 (Exists fun (x' : Nat) =>
 (x' ≤ List.length x ∧ Pl.mL Option.none x = Pl.mL (Pl.prevR x x') (List.drop x' x)) ∧ List.length x - x' < List.length x - x_1 ∧ ((0 : Nat) = (0 : Nat) ∧ IntKind.i64.wrap ((↑x_1 : Int) + (1 : Int)) = (↑x' : Int) ∧ True) ∧ (Is (mrows x) (mrows x) ∧ True) ∧ True))
 (Exists fun (x' : Nat) =>
 (x' ≤ List.length x ∧ Pl.mL Option.none x = Pl.mL (Pl.prevR x x') (List.drop x' x)) ∧ List.length x - x' < List.length x - x_1 ∧ ((0 : Nat) = (0 : Nat) ∧ IntKind.i64.wrap ((↑x_1 : Int) + (1 : Int)) = (↑x' : Int) ∧ True) ∧ (Is (mrows x) (mrows x) ∧ True) ∧ True)))
 (decide ((↑(List.length x) : Int) ≤ (40 : Int)) = Pl.mRight x)) = Goal Tryz.prog [K_l7Row, K_l7Less] (A_l7Right x) K_l7Right.1 K_l7Right.2 (x) := by kernel_rfl

theorem vc_RowOk1 (x : Pl.Rt) : (∃ x_1 : Pl.Rt, ((x.1 = x_1.1 ∧ x.2 = x_1.2 ∧ True) ∧ True) ∧ True ∧ (!Pl.ratOk x_1) = !Pl.ratOk x) = Goal Tryz.prog [K_iRatOk] ([]) K_RowOk1.1 K_RowOk1.2 (x) := by kernel_rfl

theorem vc_IndexRat (x : List Pl.Rt) : ((∃ x_1 : Nat,
 (x_1 ≤ x.length ∧ Pl.idx (fun (y : Pl.Rt) => !Pl.ratOk y) x =
 if Pl.idx (fun (y : Pl.Rt) => !Pl.ratOk y) (List.drop x_1 x) < (0 : Int) then (-1 : Int) else Pl.idx (fun (y : Pl.Rt) => !Pl.ratOk y) (List.drop x_1 x) + (↑x_1 : Int)) ∧ (Is (rats x) (rats x) ∧ True ∧ (↑x.length : Int) = (↑x.length : Int) ∧ (0 : Int) = (↑x_1 : Int) ∧ True) ∧ True) ∧ ∀ (x_1 : Nat),
 (x_1 ≤ x.length ∧ Pl.idx (fun (y : Pl.Rt) => !Pl.ratOk y) x =
 if Pl.idx (fun (y : Pl.Rt) => !Pl.ratOk y) (List.drop x_1 x) < (0 : Int) then (-1 : Int) else Pl.idx (fun (y : Pl.Rt) => !Pl.ratOk y) (List.drop x_1 x) + (↑x_1 : Int)) →
 condP (decide ((↑x_1 : Int) < (↑x.length : Int)))
 (((0 : Int) ≤ (↑x_1 : Int) ∧ (↑x_1 : Int) < (↑x.length : Int)) ∧ x_1 < x.length ∧ ∃ x_2 : Pl.Rt,
 (((x.getD x_1 Pl.dQ).1 = x_2.1 ∧ (x.getD x_1 Pl.dQ).2 = x_2.2 ∧ True) ∧ True) ∧ True ∧ condP (!Pl.ratOk x_2) ((↑x_1 : Int) = Pl.idx (fun (y : Pl.Rt) => !Pl.ratOk y) x)
 (Exists fun (x' : Nat) =>
 (x' ≤ x.length ∧ Pl.idx (fun (y : Pl.Rt) => !Pl.ratOk y) x =
 if Pl.idx (fun (y : Pl.Rt) => !Pl.ratOk y) (List.drop x' x) < (0 : Int) then (-1 : Int) else Pl.idx (fun (y : Pl.Rt) => !Pl.ratOk y) (List.drop x' x) + (↑x' : Int)) ∧ x.length - x' < x.length - x_1 ∧ (Is (rats x) (rats x) ∧ True ∧ (↑x.length : Int) = (↑x.length : Int) ∧ IntKind.i64.wrap ((↑x_1 : Int) + (1 : Int)) = (↑x' : Int) ∧ True) ∧ True))
 ((-1 : Int) = Pl.idx (fun (y : Pl.Rt) => !Pl.ratOk y) x)) = Goal Tryz.prog [K_RowOk1] (A_IndexRat x) K_IndexRat.1 K_IndexRat.2 (x) := by kernel_rfl

theorem vc_ContainsRat (x : List Pl.Rt) : (∃ x_1 : List Pl.Rt,
 (Is (rats x) (rats x_1) ∧ True ∧ True) ∧ Sz x_1 ∧ decide (Pl.idx (fun (y : Pl.Rt) => !Pl.ratOk y) x_1 ≥ (0 : Int)) = x.any fun (y : Pl.Rt) => !Pl.ratOk y) = Goal Tryz.prog [K_IndexRat] ([]) K_ContainsRat.1 K_ContainsRat.2 (x) := by kernel_rfl

theorem vc_rowOk (x : Pl.Rw) : (∃ x_1 : ByteArray,
 (x.1 = x_1 ∧ True) ∧ x_1.size ≤ (1048576 : Nat) ∧ condP (Pl.nameOk x_1)
 (condP (decide ((↑x.2.1.length : Int) ≤ (2 : Int)))
 (∃ x_2 : Pl.Rt,
 ((x.2.2.1 = x_2.1 ∧ x.2.2.2 = x_2.2 ∧ True) ∧ True) ∧ True ∧ condP (Pl.ratOk x_2) (∃ x_3 : List Pl.Rt, (Is (rats x.2.1) (rats x_3) ∧ True ∧ True) ∧ Sz x_3 ∧ (!x_3.any fun (y : Pl.Rt) => !Pl.ratOk y) = Pl.rowOk x)
 (false = Pl.rowOk x))
 (false = Pl.rowOk x))
 (false = Pl.rowOk x)) = Goal Tryz.prog [K_iNameOk, K_iRatOk, K_ContainsRat] ([]) K_rowOk.1 K_rowOk.2 (x) := by kernel_rfl

theorem vc_isNaNS (x : ByteArray) : ((!x.toList == x.toList) = false) = Goal Tryz.prog [] ([]) K_isNaNS.1 K_isNaNS.2 (x) := by kernel_rfl

theorem vc_isNaNI (x : Int) : ((x != x) = false) = Goal Tryz.prog [] ([]) K_isNaNI.1 K_isNaNI.2 (x) := by kernel_rfl

theorem vc_CompareS (x : ByteArray × ByteArray) : (∃ x_1 : ByteArray,
 (x.1 = x_1 ∧ True) ∧ True ∧ ∃ x_2 : ByteArray,
 (x.2 = x_2 ∧ True) ∧ True ∧ condP (Op.bytesLess x.1.toList x.2.toList) ((-1 : Int) = Pl.cmpS x.1 x.2)
 (condP (!(Op.bytesLess x.1.toList x.2.toList || x.1.toList == x.2.toList)) ((1 : Int) = Pl.cmpS x.1 x.2) ((0 : Int) = Pl.cmpS x.1 x.2))) = Goal Tryz.prog [K_isNaNS] ([]) K_CompareS.1 K_CompareS.2 (x) := by kernel_rfl

theorem vc_CompareI (x : Int × Int) : (∃ x_1 : Int,
 (x.1 = x_1 ∧ True) ∧ True ∧ ∃ x_2 : Int,
 (x.2 = x_2 ∧ True) ∧ True ∧ condP (decide (x.1 < x.2)) ((-1 : Int) = Pl.cmpI x.1 x.2)
 (condP (decide (x.1 > x.2)) ((1 : Int) = Pl.cmpI x.1 x.2) ((0 : Int) = Pl.cmpI x.1 x.2))) = Goal Tryz.prog [K_isNaNI] ([]) K_CompareI.1 K_CompareI.2 (x) := by kernel_rfl

theorem vc_Or (x : List Int) : ((∃ x_1 : Nat,
 (x_1 ≤ x.length ∧ Pl.orI x = Pl.orI (List.drop x_1 x)) ∧ ((0 : Int) = (0 : Int) ∧ Is (ints x) (ints x) ∧ (↑x.length : Int) = (↑x.length : Int) ∧ (0 : Int) = (↑x_1 : Int) ∧ True) ∧ True) ∧ ∀ (x_1 : Nat),
 x_1 ≤ x.length ∧ Pl.orI x = Pl.orI (List.drop x_1 x) →
 condP (decide ((↑x_1 : Int) < (↑x.length : Int)))
 (((0 : Int) ≤ (↑x_1 : Int) ∧ (↑x_1 : Int) < (↑x.length : Int)) ∧ x_1 < x.length ∧ condP (x.getD x_1 (0 : Int) != (0 : Int)) (x.getD x_1 (0 : Int) = Pl.orI x)
 (Exists fun (x' : Nat) =>
 (x' ≤ x.length ∧ Pl.orI x = Pl.orI (List.drop x' x)) ∧ x.length - x' < x.length - x_1 ∧ ((0 : Int) = (0 : Int) ∧ Is (ints x) (ints x) ∧ (↑x.length : Int) = (↑x.length : Int) ∧ IntKind.i64.wrap ((↑x_1 : Int) + (1 : Int)) = (↑x' : Int) ∧ True) ∧ True))
 ((0 : Int) = Pl.orI x)) = Goal Tryz.prog [] (A_Or x) K_Or.1 K_Or.2 (x) := by kernel_rfl

theorem vc_CompareFunc (x : List Pl.Rt × List Pl.Rt) : ((∃ x_1 : Nat,
 (x_1 ≤ x.1.length ∧ x_1 ≤ x.2.length ∧ Pl.cmpArgs x.1 x.2 = Pl.cmpArgs (List.drop x_1 x.1) (List.drop x_1 x.2)) ∧ (Is (rats x.1) (rats x.1) ∧ Is (rats x.2) (rats x.2) ∧ True ∧ Is (rats x.1) (rats x.1) ∧ (↑x.1.length : Int) = (↑x.1.length : Int) ∧ (0 : Int) = (↑x_1 : Int) ∧ True) ∧ True) ∧ ∀ (x_1 : Nat),
 x_1 ≤ x.1.length ∧ x_1 ≤ x.2.length ∧ Pl.cmpArgs x.1 x.2 = Pl.cmpArgs (List.drop x_1 x.1) (List.drop x_1 x.2) →
 condP (decide ((↑x_1 : Int) < (↑x.1.length : Int)))
 (((0 : Int) ≤ (↑x_1 : Int) ∧ (↑x_1 : Int) < (↑x.1.length : Int)) ∧ x_1 < x.1.length ∧ condP (decide ((↑x_1 : Int) ≥ (↑x.2.length : Int))) ((1 : Int) = Pl.cmpArgs x.1 x.2)
 (((0 : Int) ≤ (↑x_1 : Int) ∧ (↑x_1 : Int) < (↑x.2.length : Int)) ∧ x_1 < x.2.length ∧ ∃ x_2 : Pl.Rt × Pl.Rt,
 (((x.1.getD x_1 Pl.dQ).1 = x_2.1.1 ∧ (x.1.getD x_1 Pl.dQ).2 = x_2.1.2 ∧ True) ∧ ((x.2.getD x_1 Pl.dQ).1 = x_2.2.1 ∧ (x.2.getD x_1 Pl.dQ).2 = x_2.2.2 ∧ True) ∧ True) ∧ True ∧ condP (Pl.cmpRat x_2.1 x_2.2 != (0 : Int)) (Pl.cmpRat x_2.1 x_2.2 = Pl.cmpArgs x.1 x.2)
 (Exists fun (x' : Nat) =>
 (x' ≤ x.1.length ∧ x' ≤ x.2.length ∧ Pl.cmpArgs x.1 x.2 = Pl.cmpArgs (List.drop x' x.1) (List.drop x' x.2)) ∧ x.1.length - x' < x.1.length - x_1 ∧ (Is (rats x.1) (rats x.1) ∧ Is (rats x.2) (rats x.2) ∧ True ∧ Is (rats x.1) (rats x.1) ∧ (↑x.1.length : Int) = (↑x.1.length : Int) ∧ IntKind.i64.wrap ((↑x_1 : Int) + (1 : Int)) = (↑x' : Int) ∧ True) ∧ True)))
 (condP (decide ((↑x.1.length : Int) < (↑x.2.length : Int))) ((-1 : Int) = Pl.cmpArgs x.1 x.2) ((0 : Int) = Pl.cmpArgs x.1 x.2))) = Goal Tryz.prog [K_compareRats] (A_CompareFunc x.1 x.2) K_CompareFunc.1 K_CompareFunc.2 (x) := by kernel_rfl

theorem vc_compareRows (x : Pl.Rw × Pl.Rw) : (∃ x_1 : ByteArray × ByteArray,
 (x.1.1 = x_1.1 ∧ x.2.1 = x_1.2 ∧ True) ∧ True ∧ ∃ x_2 : Int × Int,
 ((↑x.1.2.1.length : Int) = x_2.1 ∧ (↑x.2.2.1.length : Int) = x_2.2 ∧ True) ∧ True ∧ ∃ x_3 : List Pl.Rt × List Pl.Rt,
 (Is (rats x.1.2.1) (rats x_3.1) ∧ Is (rats x.2.2.1) (rats x_3.2) ∧ True ∧ True) ∧ (Sz x_3.1 ∧ Sz x_3.2) ∧ ∃ x_4 : List Int,
 (Is (AV.lit (3 : Nat) (1 : Nat) (rowsCell [[i64 (Pl.cmpS x_1.1 x_1.2)], [i64 (Pl.cmpI x_2.1 x_2.2)], [i64 (Pl.cmpArgs x_3.1 x_3.2)]])) (ints x_4) ∧ True) ∧ Sz x_4 ∧ Pl.orI x_4 = Pl.cmpRows x.1 x.2) = Goal Tryz.prog [K_CompareS, K_CompareI, K_CompareFunc, K_Or] ([]) K_compareRows.1 K_compareRows.2 (x) := by kernel_rfl

theorem vc_iModel (x : Pl.Mdl) : (condP (decide ((↑(List.length x) : Int) > (40 : Int))) (false = Pl.mRight x)
 ((∃ x_1 : Nat,
 (x_1 ≤ List.length x ∧ Pl.mL Option.none x = Pl.mL (Pl.prevR x x_1) (List.drop x_1 x) ∧ (x_1 ≠ (0 : Nat) → Pl.rowOk (List.getD x (x_1 - (1 : Nat)) Pl.dR) = true)) ∧ ((0 : Nat) = (0 : Nat) ∧ Is (mrows x) (mrows x) ∧ (↑(List.length x) : Int) = (↑(List.length x) : Int) ∧ (0 : Int) = (↑x_1 : Int) ∧ True) ∧ (Is (mrows x) (mrows x) ∧ True) ∧ True) ∧ ∀ (x_1 : Nat),
 x_1 ≤ List.length x ∧ Pl.mL Option.none x = Pl.mL (Pl.prevR x x_1) (List.drop x_1 x) ∧ (x_1 ≠ (0 : Nat) → Pl.rowOk (List.getD x (x_1 - (1 : Nat)) Pl.dR) = true) →
 condP (decide ((↑x_1 : Int) < (↑(List.length x) : Int)))
 (((0 : Int) ≤ (↑x_1 : Int) ∧ (↑x_1 : Int) < (↑(List.length x) : Int)) ∧ x_1 < List.length x ∧ ∃ x_2 : Pl.Rw,
 (((List.getD x x_1 Pl.dR).1 = x_2.1 ∧ Is (rats (List.getD x x_1 Pl.dR).2.1) (rats x_2.2.1) ∧ (List.getD x x_1 Pl.dR).2.2.1 = x_2.2.2.1 ∧ (List.getD x x_1 Pl.dR).2.2.2 = x_2.2.2.2 ∧ True) ∧ True) ∧ (x_2.1.size ≤ (1048576 : Nat) ∧ x_2.2.1.length ≤ (1048576 : Nat)) ∧ condP (!Pl.rowOk x_2) (false = Pl.mRight x)
 (condP (decide ((↑x_1 : Int) > (0 : Int)))
 (((0 : Int) ≤ IntKind.i64.wrap ((↑x_1 : Int) - (1 : Int)) ∧ IntKind.i64.wrap ((↑x_1 : Int) - (1 : Int)) < (↑(List.length x) : Int)) ∧ (IntKind.i64.wrap ((↑x_1 : Int) - (1 : Int))).toNat < List.length x ∧ ∃ x_3 : Pl.Rw × Pl.Rw,
 (((List.getD x (IntKind.i64.wrap ((↑x_1 : Int) - (1 : Int))).toNat Pl.dR).1 = x_3.1.1 ∧ Is (rats (List.getD x (IntKind.i64.wrap ((↑x_1 : Int) - (1 : Int))).toNat Pl.dR).2.1) (rats x_3.1.2.1) ∧ (List.getD x (IntKind.i64.wrap ((↑x_1 : Int) - (1 : Int))).toNat Pl.dR).2.2.1 = x_3.1.2.2.1 ∧ (List.getD x (IntKind.i64.wrap ((↑x_1 : Int) - (1 : Int))).toNat Pl.dR).2.2.2 = x_3.1.2.2.2 ∧ True) ∧ ((List.getD x x_1 Pl.dR).1 = x_3.2.1 ∧ Is (rats (List.getD x x_1 Pl.dR).2.1) (rats x_3.2.2.1) ∧ (List.getD x x_1 Pl.dR).2.2.1 = x_3.2.2.2.1 ∧ (List.getD x x_1 Pl.dR).2.2.2 = x_3.2.2.2.2 ∧ True) ∧ True) ∧ (Sz x_3.1.2.1 ∧ Sz x_3.2.2.1) ∧ condP (decide (Pl.cmpRows x_3.1 x_3.2 ≥ (0 : Int))) (false = Pl.mRight x)
 (Exists fun (x' : Nat) =>
 (x' ≤ List.length x ∧ Pl.mL Option.none x = Pl.mL (Pl.prevR x x') (List.drop x' x) ∧ (x' ≠ (0 : Nat) → Pl.rowOk (List.getD x (x' - (1 : Nat)) Pl.dR) = true)) ∧ List.length x - x' < List.length x - x_1 ∧ ((0 : Nat) = (0 : Nat) ∧ Is (mrows x) (mrows x) ∧ (↑(List.length x) : Int) = (↑(List.length x) : Int) ∧ IntKind.i64.wrap ((↑x_1 : Int) + (1 : Int)) = (↑x' : Int) ∧ True) ∧ (Is (mrows x) (mrows x) ∧ True) ∧ True))
 (Exists fun (x' : Nat) =>
 (x' ≤ List.length x ∧ Pl.mL Option.none x = Pl.mL (Pl.prevR x x') (List.drop x' x) ∧ (x' ≠ (0 : Nat) → Pl.rowOk (List.getD x (x' - (1 : Nat)) Pl.dR) = true)) ∧ List.length x - x' < List.length x - x_1 ∧ ((0 : Nat) = (0 : Nat) ∧ Is (mrows x) (mrows x) ∧ (↑(List.length x) : Int) = (↑(List.length x) : Int) ∧ IntKind.i64.wrap ((↑x_1 : Int) + (1 : Int)) = (↑x' : Int) ∧ True) ∧ (Is (mrows x) (mrows x) ∧ True) ∧ True)))
 (true = Pl.mRight x))) = Goal Tryz.prog [K_rowOk, K_compareRows] (A_iModel x) K_iModel.1 K_iModel.2 (x) := by kernel_rfl

end Cg

/-
  What is left to show of each function's code, printed by a program: Model. No condition.
-/
set_option maxRecDepth 100000
set_option linter.unusedVariables false
namespace Cg
open Go Go.Proofs
theorem vc_l7Rats (x : List Pl.Rt × List Pl.Rt) : (condP ((↑x.1.length : Int) != (↑x.2.length : Int)) (false = decide (x.1 = x.2))
 ((∃ x_1 : Nat,
 (x_1 ≤ x.1.length ∧ x.1.length = x.2.length ∧ (x.1 = x.2 ↔ List.drop x_1 x.1 = List.drop x_1 x.2)) ∧ (Is (rats x.1) (rats x.1) ∧ Is (rats x.2) (rats x.2) ∧ (0 : Int) = (↑x_1 : Int) ∧ True) ∧ True) ∧ ∀ (x_1 : Nat),
 x_1 ≤ x.1.length ∧ x.1.length = x.2.length ∧ (x.1 = x.2 ↔ List.drop x_1 x.1 = List.drop x_1 x.2) →
 condP (decide ((↑x_1 : Int) < (↑x.1.length : Int)))
 (((0 : Int) ≤ (↑x_1 : Int) ∧ (↑x_1 : Int) < (↑x.1.length : Int)) ∧ x_1 < x.1.length ∧ ((0 : Int) ≤ (↑x_1 : Int) ∧ (↑x_1 : Int) < (↑x.2.length : Int)) ∧ x_1 < x.2.length ∧ condP (!((x.1.getD x_1 Pl.dQ).1 == (x.2.getD x_1 Pl.dQ).1 && (x.1.getD x_1 Pl.dQ).2 == (x.2.getD x_1 Pl.dQ).2)) (false = decide (x.1 = x.2))
 (Exists fun (x' : Nat) =>
 (x' ≤ x.1.length ∧ x.1.length = x.2.length ∧ (x.1 = x.2 ↔ List.drop x' x.1 = List.drop x' x.2)) ∧ x.1.length - x' < x.1.length - x_1 ∧ (Is (rats x.1) (rats x.1) ∧ Is (rats x.2) (rats x.2) ∧ IntKind.i64.wrap ((↑x_1 : Int) + (1 : Int)) = (↑x' : Int) ∧ True) ∧ True))
 (true = decide (x.1 = x.2)))) = Goal Tryz.prog [] (A_l7Rats x.1 x.2) K_l7Rats.1 K_l7Rats.2 (x) := by kernel_rfl

theorem vc_EqualRats (x : List Pl.Rt × List Pl.Rt) : (condP ((↑x.1.length : Int) != (↑x.2.length : Int)) (false = decide (x.1 = x.2))
 ((∃ x_1 : Nat,
 (x_1 ≤ x.1.length ∧ x.1.length = x.2.length ∧ (x.1 = x.2 ↔ List.drop x_1 x.1 = List.drop x_1 x.2)) ∧ (Is (rats x.1) (rats x.1) ∧ Is (rats x.2) (rats x.2) ∧ Is (rats x.1) (rats x.1) ∧ (↑x.1.length : Int) = (↑x.1.length : Int) ∧ (0 : Int) = (↑x_1 : Int) ∧ True) ∧ True) ∧ ∀ (x_1 : Nat),
 x_1 ≤ x.1.length ∧ x.1.length = x.2.length ∧ (x.1 = x.2 ↔ List.drop x_1 x.1 = List.drop x_1 x.2) →
 condP (decide ((↑x_1 : Int) < (↑x.1.length : Int)))
 (((0 : Int) ≤ (↑x_1 : Int) ∧ (↑x_1 : Int) < (↑x.1.length : Int)) ∧ x_1 < x.1.length ∧ ((0 : Int) ≤ (↑x_1 : Int) ∧ (↑x_1 : Int) < (↑x.2.length : Int)) ∧ x_1 < x.2.length ∧ condP (!((x.1.getD x_1 Pl.dQ).1 == (x.2.getD x_1 Pl.dQ).1 && (x.1.getD x_1 Pl.dQ).2 == (x.2.getD x_1 Pl.dQ).2)) (false = decide (x.1 = x.2))
 (Exists fun (x' : Nat) =>
 (x' ≤ x.1.length ∧ x.1.length = x.2.length ∧ (x.1 = x.2 ↔ List.drop x' x.1 = List.drop x' x.2)) ∧ x.1.length - x' < x.1.length - x_1 ∧ (Is (rats x.1) (rats x.1) ∧ Is (rats x.2) (rats x.2) ∧ Is (rats x.1) (rats x.1) ∧ (↑x.1.length : Int) = (↑x.1.length : Int) ∧ IntKind.i64.wrap ((↑x_1 : Int) + (1 : Int)) = (↑x' : Int) ∧ True) ∧ True))
 (true = decide (x.1 = x.2)))) = Goal Tryz.prog [] (A_EqualRats x.1 x.2) K_EqualRats.1 K_EqualRats.2 (x) := by kernel_rfl

theorem vc_ModelSame1 (x : Pl.Rw × Pl.Rw) : (condP (x.1.1.toList == x.2.1.toList)
 (∃ x_1 : List Pl.Rt × List Pl.Rt,
 (Is (rats x.1.2.1) (rats x_1.1) ∧ Is (rats x.2.2.1) (rats x_1.2) ∧ True) ∧ Sz x_1.1 ∧ condP (decide (x_1.1 = x_1.2)) ((x.1.2.2.1 == x.2.2.2.1 && x.1.2.2.2 == x.2.2.2.2) = decide (x.1 = x.2))
 (false = decide (x.1 = x.2)))
 (false = decide (x.1 = x.2))) = Goal Tryz.prog [K_EqualRats] ([]) K_ModelSame1.1 K_ModelSame1.2 (x) := by kernel_rfl

theorem vc_EqualRows (x : Pl.Mdl × Pl.Mdl) : (condP ((↑(List.length x.1) : Int) != (↑(List.length x.2) : Int)) (false = decide (x.1 = x.2))
 ((∃ x_1 : Nat,
 (x_1 ≤ List.length x.1 ∧ List.length x.1 = List.length x.2 ∧ (x.1 = x.2 ↔ List.drop x_1 x.1 = List.drop x_1 x.2)) ∧ (Is (mrows x.1) (mrows x.1) ∧ Is (mrows x.2) (mrows x.2) ∧ True ∧ Is (mrows x.1) (mrows x.1) ∧ (↑(List.length x.1) : Int) = (↑(List.length x.1) : Int) ∧ (0 : Int) = (↑x_1 : Int) ∧ True) ∧ True) ∧ ∀ (x_1 : Nat),
 x_1 ≤ List.length x.1 ∧ List.length x.1 = List.length x.2 ∧ (x.1 = x.2 ↔ List.drop x_1 x.1 = List.drop x_1 x.2) →
 condP (decide ((↑x_1 : Int) < (↑(List.length x.1) : Int)))
 (((0 : Int) ≤ (↑x_1 : Int) ∧ (↑x_1 : Int) < (↑(List.length x.1) : Int)) ∧ x_1 < List.length x.1 ∧ ((0 : Int) ≤ (↑x_1 : Int) ∧ (↑x_1 : Int) < (↑(List.length x.2) : Int)) ∧ x_1 < List.length x.2 ∧ ∃ x_2 : Pl.Rw × Pl.Rw,
 (((List.getD x.1 x_1 Pl.dR).1 = x_2.1.1 ∧ Is (rats (List.getD x.1 x_1 Pl.dR).2.1) (rats x_2.1.2.1) ∧ (List.getD x.1 x_1 Pl.dR).2.2.1 = x_2.1.2.2.1 ∧ (List.getD x.1 x_1 Pl.dR).2.2.2 = x_2.1.2.2.2 ∧ True) ∧ ((List.getD x.2 x_1 Pl.dR).1 = x_2.2.1 ∧ Is (rats (List.getD x.2 x_1 Pl.dR).2.1) (rats x_2.2.2.1) ∧ (List.getD x.2 x_1 Pl.dR).2.2.1 = x_2.2.2.2.1 ∧ (List.getD x.2 x_1 Pl.dR).2.2.2 = x_2.2.2.2.2 ∧ True) ∧ True) ∧ Sz x_2.1.2.1 ∧ condP (!decide (x_2.1 = x_2.2)) (false = decide (x.1 = x.2))
 (Exists fun (x' : Nat) =>
 (x' ≤ List.length x.1 ∧ List.length x.1 = List.length x.2 ∧ (x.1 = x.2 ↔ List.drop x' x.1 = List.drop x' x.2)) ∧ List.length x.1 - x' < List.length x.1 - x_1 ∧ (Is (mrows x.1) (mrows x.1) ∧ Is (mrows x.2) (mrows x.2) ∧ True ∧ Is (mrows x.1) (mrows x.1) ∧ (↑(List.length x.1) : Int) = (↑(List.length x.1) : Int) ∧ IntKind.i64.wrap ((↑x_1 : Int) + (1 : Int)) = (↑x' : Int) ∧ True) ∧ True))
 (true = decide (x.1 = x.2)))) = Goal Tryz.prog [K_ModelSame1] (A_EqualRows x.1 x.2) K_EqualRows.1 K_EqualRows.2 (x) := by kernel_rfl

theorem vc_iModelSame (x : Pl.Mdl × Pl.Mdl) : (∃ x_1 : Pl.Mdl × Pl.Mdl,
 (Is (mrows x.1) (mrows x_1.1) ∧ Is (mrows x.2) (mrows x_1.2) ∧ True ∧ True) ∧ SmM x_1.1 ∧ decide (x_1.1 = x_1.2) = decide (x.1 = x.2)) = Goal Tryz.prog [K_EqualRows] ([]) K_iModelSame.1 K_iModelSame.2 (x) := by kernel_rfl

end Cg

/-
  What is left to show of each function's code, printed by a program: Tsort. No condition.
-/
set_option maxRecDepth 100000
set_option linter.unusedVariables false
namespace Cg
open Go Go.Proofs
end Cg

/-
  What is left to show of each function's code, printed by a program: Sort. No condition.
-/
set_option maxRecDepth 100000
set_option linter.unusedVariables false
namespace Cg
open Go Go.Proofs
end Cg

/-
  What is left to show of each function's code, printed by a program: Sig. No condition.
-/
set_option maxRecDepth 100000
set_option linter.unusedVariables false
namespace Cg
open Go Go.Proofs
theorem vc_sNameOk (s : ByteArray) : ((∃ x : Nat, (x ≤ s.size ∧ (Pl.bs s).all Pl.lower = (List.drop x (Pl.bs s)).all Pl.lower) ∧ (s = s ∧ (0 : Int) = (↑x : Int) ∧ True) ∧ True) ∧ ∀ (x : Nat),
 x ≤ s.size ∧ (Pl.bs s).all Pl.lower = (List.drop x (Pl.bs s)).all Pl.lower →
 condP (decide ((↑x : Int) < (↑s.size : Int)))
 (((0 : Int) ≤ (↑x : Int) ∧ (↑x : Int) < (↑s.size : Int)) ∧ condP (decide ((↑(s.data.getD x (0 : UInt8)).toNat : Int) < (97 : Int))) (false = Pl.nameOk s)
 (((0 : Int) ≤ (↑x : Int) ∧ (↑x : Int) < (↑s.size : Int)) ∧ condP (decide ((↑(s.data.getD x (0 : UInt8)).toNat : Int) > (122 : Int))) (false = Pl.nameOk s)
 (Exists fun (x' : Nat) =>
 (x' ≤ s.size ∧ (Pl.bs s).all Pl.lower = (List.drop x' (Pl.bs s)).all Pl.lower) ∧ s.size - x' < s.size - x ∧ (s = s ∧ IntKind.i64.wrap ((↑x : Int) + (1 : Int)) = (↑x' : Int) ∧ True) ∧ True)))
 (condP (decide ((↑s.size : Int) ≥ (1 : Int))) (decide ((↑s.size : Int) ≤ (2 : Int)) = Pl.nameOk s) (false = Pl.nameOk s))) = Goal Tryz.prog [] (A_sNameOk s) K_sNameOk.1 K_sNameOk.2 (s) := by kernel_rfl

theorem vc_iNameOk (s : ByteArray) : (∃ x : Int × Int × Int,
 ((↑s.size : Int) = x.1 ∧ (1 : Int) = x.2.1 ∧ (2 : Int) = x.2.2 ∧ True) ∧ True ∧ condP (!Pl.withinI x.1 x.2.1 x.2.2) (false = Pl.nameOk s)
 ((∃ x : Nat, (x ≤ s.size ∧ (Pl.bs s).all Pl.lower = (List.drop x (Pl.bs s)).all Pl.lower) ∧ (s = s ∧ (↑s.size : Int) = (↑s.size : Int) ∧ (0 : Int) = (↑x : Int) ∧ True) ∧ True) ∧ ∀ (x : Nat),
 x ≤ s.size ∧ (Pl.bs s).all Pl.lower = (List.drop x (Pl.bs s)).all Pl.lower →
 condP (decide ((↑x : Int) < (↑s.size : Int)))
 (((0 : Int) ≤ (↑x : Int) ∧ (↑x : Int) < (↑s.size : Int)) ∧ condP (decide ((↑(s.data.getD x (0 : UInt8)).toNat : Int) < (97 : Int))) (false = Pl.nameOk s)
 (((0 : Int) ≤ (↑x : Int) ∧ (↑x : Int) < (↑s.size : Int)) ∧ condP (decide ((↑(s.data.getD x (0 : UInt8)).toNat : Int) > (122 : Int))) (false = Pl.nameOk s)
 (Exists fun (x' : Nat) =>
 (x' ≤ s.size ∧ (Pl.bs s).all Pl.lower = (List.drop x' (Pl.bs s)).all Pl.lower) ∧ s.size - x' < s.size - x ∧ (s = s ∧ (↑s.size : Int) = (↑s.size : Int) ∧ IntKind.i64.wrap ((↑x : Int) + (1 : Int)) = (↑x' : Int) ∧ True) ∧ True)))
 (true = Pl.nameOk s))) = Goal Tryz.prog [K_within] (A_iNameOk s) K_iNameOk.1 K_iNameOk.2 (s) := by kernel_rfl

end Cg

/-
  What is left to show of each function's code, printed by a program: Rows. No condition.
-/
set_option maxRecDepth 100000
set_option linter.unusedVariables false
namespace Cg
open Go Go.Proofs
end Cg

/-
  What is left to show of each function's code, printed by a program: Clause. No condition.
-/
set_option maxRecDepth 100000
set_option linter.unusedVariables false
namespace Cg
open Go Go.Proofs
theorem vc_within (x y z : Int) : (condP (decide (y ≤ x)) (decide (x ≤ z) = Pl.withinI x y z) (false = Pl.withinI x y z)) = Goal Tryz.prog [] ([]) K_within.1 K_within.2 ((x, y, z)) := by kernel_rfl

end Cg

/-
  The codes' contracts: clauses. No condition.
-/
set_option linter.unusedVariables false
set_option linter.unusedSimpArgs false
set_option maxRecDepth 100000
namespace Cg
open Go Go.Proofs

theorem hm : Tryz.prog.follows .mixedOrders = true := by kernel_rfl

theorem k_within : SoundC Tryz.prog K_within.1 K_within.2 := sound_of hm CtxOK.nil (fun _ => []) (by kernel_rfl) fun ((x, y, z) : Int × Int × Int) _ => cast (vc_within x y z) (by
  simp [Pl.withinI]
  omega)

theorem eq_step {α : Type} [DecidableEq α] (d : α) {l m : List α} {k : Nat} (hk : k < l.length) (hm : l.length = m.length) (he : l = m ↔ l.drop k = m.drop k) :
    (¬ l.getD k d = m.getD k d → ¬ l = m) ∧ (l.getD k d = m.getD k d → (l = m ↔ l.drop (k + 1) = m.drop (k + 1))) := by
  rw [drop_get d hk, drop_get (l := m) d (by omega)] at he
  exact ⟨fun h e => h (by have := he.1 e; injection this), fun h => by rw [he, h]; simp⟩

end Cg

/-
  The plain law of clauses: both ways to tell one give the same. No condition.
-/
set_option linter.unusedVariables false
set_option linter.unusedSimpArgs false
namespace Pl
open Go

end Pl


/-
  The codes' contracts: rows of rows, values of marks. No condition.
-/
set_option linter.unusedVariables false
set_option linter.unusedSimpArgs false
set_option maxRecDepth 100000
namespace Cg
open Go Go.Proofs

theorem idx_lt {α : Type} (p : α → Bool) : ∀ l : List α, -1 ≤ Pl.idx p l
  | [] => by simp [Pl.idx]
  | x :: l => by have := idx_lt p l; simp only [Pl.idx]; split <;> (try split) <;> omega

/-- One round of slices.IndexFunc. -/
theorem idx_step {α : Type} (d : α) (p : α → Bool) {l : List α} {k : Nat} (hk : k < l.length) (he : Pl.idx p l = if Pl.idx p (l.drop k) < 0 then -1 else Pl.idx p (l.drop k) + k) :
    (p (l.getD k d) = true → (k : Int) = Pl.idx p l) ∧ (p (l.getD k d) = false → Pl.idx p l = if Pl.idx p (l.drop (k + 1)) < 0 then -1 else Pl.idx p (l.drop (k + 1)) + ((k + 1 : Nat) : Int)) := by
  rw [drop_get d hk] at he
  have := idx_lt p (l.drop (k + 1))
  refine ⟨fun h => ?_, fun h => ?_⟩
  · rw [he]; simp only [Pl.idx, h, if_true]; simp
  · rw [he]
    simp only [Pl.idx, h, Bool.false_eq_true, if_false]
    split
    · simp
    · split <;> omega
theorem idx_init {α : Type} (p : α → Bool) (l : List α) : Pl.idx p l = if Pl.idx p (l.drop 0) < 0 then -1 else Pl.idx p (l.drop 0) + ((0 : Nat) : Int) := by
  have := idx_lt p l
  simp only [List.drop_zero]
  split <;> omega
theorem idx_end {α : Type} (p : α → Bool) {l : List α} {k : Nat} (hk : l.length ≤ k) (he : Pl.idx p l = if Pl.idx p (l.drop k) < 0 then -1 else Pl.idx p (l.drop k) + k) : -1 = Pl.idx p l := by
  rw [he, drop_end (by omega)]; simp [Pl.idx]

theorem idx_any {α : Type} (p : α → Bool) : ∀ l : List α, decide (Pl.idx p l ≥ 0) = l.any p
  | [] => by simp [Pl.idx]
  | x :: l => by
    have h := idx_any p l
    have := idx_lt p l
    simp only [Pl.idx, List.any_cons]
    by_cases hp : p x = true
    · simp [hp]
    · simp only [hp, Bool.false_eq_true, if_false, Bool.false_or]
      rw [← h]
      by_cases hq : Pl.idx p l < 0
      · rw [if_pos hq, decide_eq_false (by omega), decide_eq_false (by omega)]
      · rw [if_neg hq, decide_eq_true (by omega), decide_eq_true (by omega)]

end Cg

/-
  The codes' contracts: words. No condition.
-/
set_option linter.unusedVariables false
set_option linter.unusedSimpArgs false
set_option maxRecDepth 100000
namespace Pl
open Go Cg
theorem bs_len (s : ByteArray) : (bs s).length = s.size := rfl
theorem data_getD (s : ByteArray) (k : Nat) : s.data.getD k 0 = (bs s).getD k 0 := by
  unfold bs
  rw [Array.getD_eq_getD_getElem?, List.getD_eq_getElem?_getD, Array.getElem?_toList]
theorem data_getE (s : ByteArray) (k : Nat) : s.data[k]?.getD 0 = (bs s).getD k 0 := by
  rw [← data_getD, Array.getD_eq_getD_getElem?]
theorem sumN_mem {α : Type} (f : α → Nat) {x : α} : ∀ {l : List α}, x ∈ l → f x ≤ sumN f l
  | y :: r, h => by
    simp only [sumN]
    cases List.mem_cons.1 h with
    | inl e => subst e; omega
    | inr e => have := sumN_mem f e; omega
end Pl
namespace Cg
open Go Go.Proofs Pl

theorem SmG.mem {s : Sig} (h : SmG s) {x : Sym} (hx : x ∈ s) : x.1.size ≤ 1048576 ∧ x.2.1.length ≤ 1048576 := by
  have h1 : s.length + sumN costY s ≤ 1048576 := h
  have h2 := sumN_mem costY hx
  have h3 : costY x = x.1.size + x.2.1.length := rfl
  omega
theorem SmG.len {s : Sig} (h : SmG s) : s.length ≤ 1048576 := by
  have h1 : s.length + sumN costY s ≤ 1048576 := h
  omega

theorem name_step {s : ByteArray} {k : Nat} (hk : k < s.size) (he : (bs s).all lower = ((bs s).drop k).all lower) :
    ((((bs s).getD k 0).toNat : Int) < 97 → nameOk s = false) ∧ (122 < (((bs s).getD k 0).toNat : Int) → nameOk s = false) ∧ (97 ≤ (((bs s).getD k 0).toNat : Int) → (((bs s).getD k 0).toNat : Int) ≤ 122 → (bs s).all lower = ((bs s).drop (k + 1)).all lower) := by
  rw [drop_get 0 (by rw [bs_len]; exact hk), List.all_cons] at he
  have no : lower ((bs s).getD k 0) = false → nameOk s = false := fun h => by
    unfold nameOk; rw [he, h]; simp
  refine ⟨fun h => no (by simp [lower, h, -List.getD_eq_getElem?_getD]), fun h => no (by simp [lower, h, -List.getD_eq_getElem?_getD]), fun h1 h2 => ?_⟩
  have : lower ((bs s).getD k 0) = true := by
    unfold lower; rw [decide_eq_false (by omega), decide_eq_false (by omega)]; rfl
  rw [he, this, Bool.true_and]

theorem k_sNameOk : SoundC Tryz.prog K_sNameOk.1 K_sNameOk.2 := sound_of hm CtxOK.nil A_sNameOk (by kernel_rfl) fun (s : ByteArray) hl => cast (vc_sNameOk s) (by
  replace hl : s.size ≤ 1048576 := hl
  simp [-List.getD_eq_getElem?_getD, -List.mem_cons, -Bool.forall_bool, -Bool.exists_bool, and_assoc, peta, tl_inj, ex_1, ex_2, ex_3, ex_4, ex_5, ex_6, ex_7, ex_8, ex_9, ey_2, ey_3, ey_4, ey_5, ey_6, ey_7, ey_8, ey_9]
  simp only [data_getE]
  refine ⟨⟨0, by simp, by simp, rfl⟩, fun k hk he => ⟨fun hlt => ?_, fun hge => ?_⟩⟩
  · obtain ⟨h1, h2, h3⟩ := name_step hlt he
    exact ⟨hlt, h1, fun h4 => ⟨hlt, h2, fun h5 => ⟨k + 1, hlt, h3 h4 h5, by omega, wrap_small (by omega) (by omega)⟩⟩⟩
  · rw [drop_end (by rw [bs_len]; omega)] at he
    unfold nameOk
    rw [he]
    refine ⟨fun h => ?_, fun h => ?_⟩
    · rw [decide_eq_true (by omega : 1 ≤ s.size)]; simp; omega
    · rw [decide_eq_false (by omega : ¬ 1 ≤ s.size)]; rfl)

theorem k_iNameOk : SoundC Tryz.prog K_iNameOk.1 K_iNameOk.2 := sound_of hm (CtxOK.nil.and k_within) A_iNameOk (by kernel_rfl) fun (s : ByteArray) hl => cast (vc_iNameOk s) (by
  replace hl : s.size ≤ 1048576 := hl
  simp [-List.getD_eq_getElem?_getD, -List.mem_cons, -Bool.forall_bool, -Bool.exists_bool, and_assoc, peta, tl_inj, ex_1, ex_2, ex_3, ex_4, ex_5, ex_6, ex_7, ex_8, ex_9, ey_2, ey_3, ey_4, ey_5, ey_6, ey_7, ey_8, ey_9]
  simp only [data_getE]
  refine ⟨fun h => ?_, fun h => ?_⟩
  · simp only [withinI, Bool.and_eq_false_iff, decide_eq_false_iff_not] at h
    unfold nameOk
    rcases h with h | h
    · rw [decide_eq_false (by omega : ¬ 1 ≤ s.size)]; rfl
    · rw [decide_eq_false (by omega : ¬ s.size ≤ 2)]; simp
  · simp only [withinI, Bool.and_eq_true, decide_eq_true_eq] at h
    refine ⟨⟨0, by simp, by simp, rfl⟩, fun k hk he => ⟨fun hlt => ?_, fun hge => ?_⟩⟩
    · obtain ⟨h1, h2, h3⟩ := name_step hlt he
      exact ⟨hlt, h1, fun h4 => ⟨hlt, h2, fun h5 => ⟨k + 1, hlt, h3 h4 h5, by omega, wrap_small (by omega) (by omega)⟩⟩⟩
    · rw [drop_end (by rw [bs_len]; omega)] at he
      unfold nameOk
      rw [he, decide_eq_true (by omega : 1 ≤ s.size), decide_eq_true (by omega : s.size ≤ 2)]
      rfl)

theorem all_any {α : Type} (p : α → Bool) (l : List α) : l.all p = !(l.any fun y => !p y) := by
  induction l with
  | nil => rfl
  | cons x r ih => simp only [List.all_cons, List.any_cons, ih]; cases p x <;> rfl

end Cg

/-
  The codes' contracts: terms. No condition.
-/
set_option linter.unusedVariables false
set_option linter.unusedSimpArgs false
set_option maxRecDepth 100000
set_option maxHeartbeats 4000000
namespace Pl
open Go Cg
end Pl
namespace Cg
open Go Go.Proofs Pl
theorem SmTs.mem {l : List Tm} (h : SmTs l) {t : Tm} (ht : t ∈ l) : SmT t := by
  have := costT_mem ht
  have h1 : l.length + costTs l ≤ 1048576 := h
  show costT t ≤ 1048576
  omega
theorem SmTs.len {l : List Tm} (h : SmTs l) : l.length ≤ 1048576 := by
  have h1 : l.length + costTs l ≤ 1048576 := h
  omega
theorem SmT.kids {v : ByteArray} {ks : List Tm} (h : SmT (.mk v ks)) : SmTs ks := by
  have h1 : costT (.mk v ks) ≤ 1048576 := h
  rw [costT_eq] at h1
  simp only [Tree.val, Tree.kids] at h1
  show ks.length + costTs ks ≤ 1048576
  omega

end Cg

/-
  The codes' contracts: the sorts of terms. No condition.
-/
set_option linter.unusedVariables false
set_option linter.unusedSimpArgs false
set_option maxRecDepth 100000
set_option maxHeartbeats 1000000
namespace Pl
open Go Cg
theorem sumN_le {α : Type} {f : α → Nat} {b : Nat} : ∀ {l : List α}, (∀ x ∈ l, f x ≤ b) → sumN f l ≤ l.length * b
  | [], _ => Nat.zero_le _
  | x :: r, h => by
    simp only [sumN, List.length_cons, Nat.add_mul, Nat.one_mul]
    have := h x List.mem_cons_self
    have := sumN_le (l := r) fun y hy => h y (List.mem_cons_of_mem _ hy)
    omega
end Pl
namespace Cg
open Go Go.Proofs Pl

end Cg

/-
  The codes' contracts: models: sizes, copies, equality. No condition.
-/
set_option linter.unusedVariables false
set_option linter.unusedSimpArgs false
set_option maxRecDepth 100000
set_option maxHeartbeats 1000000
namespace Cg
open Go Go.Proofs Pl
theorem SmM.mem {m : Mdl} (h : SmM m) {x : Rw} (hx : x ∈ m) : x.1.size ≤ 1048576 ∧ x.2.1.length ≤ 1048576 := by
  have h1 : m.length + sumN costR m ≤ 1048576 := h
  have h2 := sumN_mem costR hx
  have h3 : costR x = x.1.size + x.2.1.length := rfl
  omega
theorem SmM.len {m : Mdl} (h : SmM m) : m.length ≤ 1048576 := by
  have h1 : m.length + sumN costR m ≤ 1048576 := h
  omega

theorem k_l7Rats : SoundC Tryz.prog K_l7Rats.1 K_l7Rats.2 := sound_of hm CtxOK.nil (fun x => A_l7Rats x.1 x.2) (by kernel_rfl) fun (x : List Rt × List Rt) hl => (by
  rw [← vc_l7Rats x]
  have hlen : x.1.length ≤ 4294967296 := hl
  obtain ⟨l, m⟩ := x
  dsimp only at *
  simp [-List.getD_eq_getElem?_getD, -List.mem_cons, -Bool.forall_bool, -Bool.exists_bool, and_assoc, peta, tl_inj, ex_1, ex_2, ex_3, ex_4, ex_5, ex_6, ex_7, ex_8, ex_9, ey_2, ey_3, ey_4, ey_5, ey_6, ey_7, ey_8, ey_9]
  refine ⟨fun h e => h (by rw [e]), fun h => ⟨⟨0, by simp; omega⟩, fun k hk hlm he => ⟨fun hlt => ⟨hlt, by omega, fun h => (eq_step dQ hlt hlm he).1 (fun e => by rw [e] at h; simp at h), fun h1 h2 => ⟨k + 1, hlt, hlm, (eq_step dQ hlt hlm he).2 (Prod.ext h1 h2), by omega, wrap_small (by omega) (by omega)⟩⟩, fun hge => ?_⟩⟩⟩
  rw [drop_end (by omega), drop_end (l := m) (by omega)] at he
  exact he.2 rfl)

theorem k_EqualRats : SoundC Tryz.prog K_EqualRats.1 K_EqualRats.2 := sound_of hm CtxOK.nil (fun x => A_EqualRats x.1 x.2) (by kernel_rfl) fun (x : List Rt × List Rt) hl => (by
  rw [← vc_EqualRats x]
  have hlen : x.1.length ≤ 4294967296 := hl
  obtain ⟨l, m⟩ := x
  dsimp only at *
  simp [-List.getD_eq_getElem?_getD, -List.mem_cons, -Bool.forall_bool, -Bool.exists_bool, and_assoc, peta, tl_inj, ex_1, ex_2, ex_3, ex_4, ex_5, ex_6, ex_7, ex_8, ex_9, ey_2, ey_3, ey_4, ey_5, ey_6, ey_7, ey_8, ey_9]
  refine ⟨fun h e => h (by rw [e]), fun h => ⟨⟨0, by simp; omega⟩, fun k hk hlm he => ⟨fun hlt => ⟨hlt, by omega, fun h => (eq_step dQ hlt hlm he).1 (fun e => by rw [e] at h; simp at h), fun h1 h2 => ⟨k + 1, hlt, hlm, (eq_step dQ hlt hlm he).2 (Prod.ext h1 h2), by omega, wrap_small (by omega) (by omega)⟩⟩, fun hge => ?_⟩⟩⟩
  rw [drop_end (by omega), drop_end (l := m) (by omega)] at he
  exact he.2 rfl)

theorem k_ModelSame1 : SoundC Tryz.prog K_ModelSame1.1 K_ModelSame1.2 := sound_of hm (CtxOK.nil.and k_EqualRats) (fun _ => []) (by kernel_rfl) fun (x : Rw × Rw) hl => (by
  rw [← vc_ModelSame1 x]
  have h1 : x.1.2.1.length ≤ 4294967296 := hl
  obtain ⟨⟨a, b, c, d⟩, a', b', c', d'⟩ := x
  dsimp only at *
  simp [-List.getD_eq_getElem?_getD, -List.mem_cons, -Bool.forall_bool, -Bool.exists_bool, and_assoc, peta, tl_inj, ex_1, ex_2, ex_3, ex_4, ex_5, ex_6, ex_7, ex_8, ex_9, ey_2, ey_3, ey_4, ey_5, ey_6, ey_7, ey_8, ey_9]
  refine ⟨fun e1 => ⟨h1, fun e2 => ?_, fun h _ e => absurd e h⟩, fun h e => absurd e h⟩
  rw [decide_eq_true e1, decide_eq_true e2, Bool.true_and, Bool.true_and, Bool.beq_eq_decide_eq, Bool.beq_eq_decide_eq])

theorem k_EqualRows : SoundC Tryz.prog K_EqualRows.1 K_EqualRows.2 := sound_of hm (CtxOK.nil.and k_ModelSame1) (fun x => A_EqualRows x.1 x.2) (by kernel_rfl) fun (x : Mdl × Mdl) hl => (by
  rw [← vc_EqualRows x]
  have hs : SmM x.1 := hl
  have hlen := SmM.len hs
  obtain ⟨l, m⟩ := x
  dsimp only at *
  simp [-List.getD_eq_getElem?_getD, -List.mem_cons, -Bool.forall_bool, -Bool.exists_bool, and_assoc, peta, tl_inj, ex_1, ex_2, ex_3, ex_4, ex_5, ex_6, ex_7, ex_8, ex_9, ey_2, ey_3, ey_4, ey_5, ey_6, ey_7, ey_8, ey_9]
  refine ⟨fun h e => h (by rw [e]), fun h => ⟨⟨0, by simp; omega⟩, fun k hk hlm he => ⟨fun hlt => ⟨hlt, by omega, by have := (hs.mem (getD_mem dR hlt)).2; omega, (eq_step dR hlt hlm he).1, fun h => ⟨k + 1, hlt, hlm, (eq_step dR hlt hlm he).2 h, by omega, wrap_small (by omega) (by omega)⟩⟩, fun hge => ?_⟩⟩⟩
  rw [drop_end (by omega), drop_end (l := m) (by omega)] at he
  exact he.2 rfl)

theorem k_iModelSame : SoundC Tryz.prog K_iModelSame.1 K_iModelSame.2 := sound_of hm (CtxOK.nil.and k_EqualRows) (fun _ => []) (by kernel_rfl) fun (x : Mdl × Mdl) hl => (by
  rw [← vc_iModelSame x]
  have h1 : SmM x.1 := hl
  obtain ⟨l, m⟩ := x
  dsimp only at *
  simp [-List.getD_eq_getElem?_getD, -List.mem_cons, -Bool.forall_bool, -Bool.exists_bool, and_assoc, peta, tl_inj, ex_1, ex_2, ex_3, ex_4, ex_5, ex_6, ex_7, ex_8, ex_9, ey_2, ey_3, ey_4, ey_5, ey_6, ey_7, ey_8, ey_9]
  exact h1)

end Cg

/-
  The codes' contracts: valid models. No condition.
-/
set_option linter.unusedVariables false
set_option linter.unusedSimpArgs false
set_option maxRecDepth 100000
set_option maxHeartbeats 1000000
namespace Pl
open Go Cg
theorem bl_asymm : ∀ {x y : List UInt8}, Op.bytesLess x y = true → Op.bytesLess y x = false
  | [], [], _ => rfl
  | _ :: _, [], h => by cases h
  | [], _ :: _, _ => rfl
  | a :: x, b :: y, h => by
    simp only [Op.bytesLess, Bool.or_eq_true, decide_eq_true_eq, Bool.and_eq_true, beq_iff_eq] at h
    simp only [Op.bytesLess, Bool.or_eq_false_iff, decide_eq_false_iff_not, Bool.and_eq_false_iff]
    rcases h with h | ⟨h, h1⟩
    · exact ⟨fun h2 => by simp only [UInt8.lt_iff_toNat_lt] at h h2; omega, .inl (by simp only [beq_eq_false_iff_ne]; intro e; subst e; simp only [UInt8.lt_iff_toNat_lt] at h; omega)⟩
    · subst h
      exact ⟨fun h2 => by simp only [UInt8.lt_iff_toNat_lt] at h2; omega, .inr (bl_asymm h1)⟩
theorem bl_total : ∀ {x y : List UInt8}, Op.bytesLess x y = false → Op.bytesLess y x = false → x = y
  | [], [], _, _ => rfl
  | [], _ :: _, h, _ => by cases h
  | _ :: _, [], _, h => by cases h
  | a :: x, b :: y, h, h' => by
    simp only [Op.bytesLess, Bool.or_eq_false_iff, decide_eq_false_iff_not, Bool.and_eq_false_iff, beq_eq_false_iff_ne] at h h'
    have e : a = b := by
      have h1 := h.1
      have h2 := h'.1
      simp only [UInt8.lt_iff_toNat_lt] at h1 h2
      exact UInt8.toNat_inj.1 (by omega)
    subst e
    have h1 : Op.bytesLess x y = false := by rcases h.2 with h | h <;> simp_all
    have h2 : Op.bytesLess y x = false := by rcases h'.2 with h | h <;> simp_all
    rw [bl_total h1 h2]
theorem bl_irrefl (x : List UInt8) : Op.bytesLess x x = false := by
  cases h : Op.bytesLess x x with
  | false => rfl
  | true => rw [bl_asymm h] at h; cases h
theorem tl_inj' {a b : ByteArray} (h : a.toList = b.toList) : a = b := Cg.tl_inj.1 h
theorem cmpS_zero {a b : ByteArray} : cmpS a b = 0 ↔ a = b := by
  unfold cmpS sLess
  constructor
  · intro h
    cases h1 : Op.bytesLess a.toList b.toList <;> simp only [h1, if_true, if_false] at h
    · cases h2 : Op.bytesLess b.toList a.toList <;> simp only [h2] at h
      · exact tl_inj' (bl_total h1 h2)
      · simp at h
    · simp at h
  · rintro rfl; simp [bl_irrefl]
theorem cmpS_neg {a b : ByteArray} : cmpS a b < 0 ↔ sLess a b = true := by
  unfold cmpS
  cases h1 : sLess a b <;> simp
  split <;> omega
theorem cmpI_zero {a b : Int} : cmpI a b = 0 ↔ a = b := by unfold cmpI; split <;> (try split) <;> omega
theorem cmpI_neg {a b : Int} : cmpI a b < 0 ↔ a < b := by unfold cmpI; split <;> (try split) <;> omega
theorem ratOk_iff {x : Rt} : ratOk x = true ↔ -1000000000 ≤ x.1 ∧ x.1 ≤ 1000000000 ∧ 1 ≤ x.2 ∧ x.2 ≤ 1000000000 ∧ Nat.gcd x.1.natAbs x.2.natAbs = 1 := by
  simp only [ratOk, Bool.and_eq_true, decide_eq_true_eq, and_assoc]
theorem rat_eq {x y : Rt} (hx : ratOk x = true) (hy : ratOk y = true) (h : x.1 * y.2 = y.1 * x.2) : x = y := by
  obtain ⟨a, b⟩ := x
  obtain ⟨c, d⟩ := y
  obtain ⟨h1, h2, h3, h4, h5⟩ := ratOk_iff.1 hx
  obtain ⟨k1, k2, k3, k4, k5⟩ := ratOk_iff.1 hy
  dsimp only at *
  have hn : a.natAbs * d.natAbs = c.natAbs * b.natAbs := by rw [← Int.natAbs_mul, ← Int.natAbs_mul, h]
  have hbd : b.natAbs ∣ d.natAbs := Nat.Coprime.dvd_of_dvd_mul_left (m := a.natAbs) (Nat.coprime_comm.1 h5) (hn ▸ Nat.dvd_mul_left _ _)
  have hdb : d.natAbs ∣ b.natAbs := Nat.Coprime.dvd_of_dvd_mul_left (m := c.natAbs) (Nat.coprime_comm.1 k5) (hn ▸ Nat.dvd_mul_left _ _)
  have hbd' : b.natAbs = d.natAbs := Nat.dvd_antisymm hbd hdb
  have e : b = d := by omega
  subst e
  exact Prod.ext (Int.eq_of_mul_eq_mul_right (by omega) h) rfl
theorem cmpRat_zero {x y : Rt} (hx : ratOk x = true) (hy : ratOk y = true) : cmpRat x y = 0 ↔ x = y := by
  constructor
  · intro h
    unfold cmpRat ratLess at h
    rw [hx, hy] at h
    simp only [Bool.and_true, Bool.true_and, decide_eq_true_eq] at h
    apply rat_eq hx hy
    split at h
    · omega
    · split at h
      · omega
      · omega
  · rintro rfl
    have : ratLess x x = false := by unfold ratLess; simp
    unfold cmpRat; rw [this]; rfl
theorem cmpRat_neg {x y : Rt} : cmpRat x y < 0 ↔ ratLess x y = true := by
  unfold cmpRat
  cases ratLess x y <;> simp
  split <;> omega
theorem cmpArgs_neg : ∀ {a b : List Rt}, a.length = b.length → a.all ratOk = true → b.all ratOk = true → (cmpArgs a b < 0 ↔ argsLess a b = true)
  | [], [], _, _, _ => by simp [cmpArgs, argsLess]
  | [], _ :: _, h, _, _ => by simp at h
  | _ :: _, [], h, _, _ => by simp at h
  | x :: a, y :: b, h, ha, hb => by
    simp only [List.all_cons, Bool.and_eq_true] at ha hb
    simp only [cmpArgs, argsLess, cmpRat_zero ha.1 hb.1]
    split
    · exact cmpArgs_neg (by simpa using h) ha.2 hb.2
    · exact cmpRat_neg
theorem rowOk_iff {x : Rw} : rowOk x = true ↔ nameOk x.1 = true ∧ x.2.1.length ≤ 2 ∧ ratOk x.2.2 = true ∧ x.2.1.all ratOk = true := by
  simp only [rowOk, Bool.and_eq_true, decide_eq_true_eq, and_assoc]
theorem cmpRows_neg {x y : Rw} (hx : rowOk x = true) (hy : rowOk y = true) : cmpRows x y < 0 ↔ rowLess x y = true := by
  have ha := (rowOk_iff.1 hx).2.2.2
  have hb := (rowOk_iff.1 hy).2.2.2
  unfold cmpRows rowLess
  simp only [orI, cmpS_zero, cmpI_zero]
  by_cases h1 : x.1 = y.1
  · rw [if_pos h1, if_pos h1]
    by_cases h2 : x.2.1.length = y.2.1.length
    · rw [if_pos (by omega), if_pos h2]
      have := cmpArgs_neg h2 ha hb
      split
      · rename_i h3; rw [← this, h3]
      · exact this
    · rw [if_neg (by omega), if_neg h2, cmpI_neg]
      simp only [decide_eq_true_eq]; omega
  · rw [if_neg h1, if_neg h1]; exact cmpS_neg
end Pl
namespace Cg
open Go Go.Proofs Pl

theorem k_l1Abs : SoundC Tryz.prog K_l1Abs.1 K_l1Abs.2 := sound_of hm CtxOK.nil (fun _ => []) (by kernel_rfl) fun (x : Int) hl => (by
  rw [← vc_l1Abs x]
  simp [-List.getD_eq_getElem?_getD, -List.mem_cons, -Bool.forall_bool, -Bool.exists_bool, and_assoc, peta, tl_inj, ex_1, ex_2, ex_3, ex_4, ex_5, ex_6, ex_7, ex_8, ex_9, ey_2, ey_3, ey_4, ey_5, ey_6, ey_7, ey_8, ey_9]
  unfold abs1
  refine ⟨fun h => by rw [if_pos (.inl h)], fun h => ⟨fun h2 => by rw [if_pos (.inr h2)], fun h2 => ⟨fun h3 => ?_, fun h3 => ?_⟩⟩⟩
  · rw [if_neg (by omega), if_pos h3, wrap_small (by omega) (by omega)]
  · rw [if_neg (by omega), if_neg (by omega)])

theorem gcd_step {u v n : Nat} (g1 : u ≤ 4611686018427387904) (g2 : v ≤ 4611686018427387904) (g3 : u.gcd v = n) : (0 < v →
      ¬v = 0 ∧
        ∃ a_2 : Nat, a_2 ≤ 4611686018427387904 ∧ ∃ x : Nat, x ≤ 4611686018427387904 ∧ a_2.gcd x = n ∧ x < v ∧ (v : Int) = (a_2 : Int) ∧ (u : Int).tmod (v : Int) = (x : Int)) ∧
    (v = 0 → (u : Int) = (n : Int)) := by
  refine ⟨fun h => ⟨by omega, v, g2, u % v, ?_, ?_, Nat.mod_lt _ h, rfl, (Int.ofNat_tmod u v).symm⟩, fun h => ?_⟩
  · have := Nat.mod_lt u h; omega
  · rw [← g3, Nat.gcd_comm v, Nat.gcd_comm u, ← Nat.gcd_rec]
  · subst h; rw [Nat.gcd_zero_right] at g3; rw [g3]

theorem k_l1Gcd : SoundC Tryz.prog K_l1Gcd.1 K_l1Gcd.2 := sound_of hm CtxOK.nil (fun x => A_l1Gcd x.1 x.2) (by kernel_rfl) fun (x : Nat × Nat) hl => (by
  obtain ⟨h1, h2⟩ : x.1 ≤ 4611686018427387904 ∧ x.2 ≤ 4611686018427387904 := hl
  obtain ⟨a, b⟩ := x
  rw [← vc_l1Gcd a b]
  dsimp only at *
  refine ⟨⟨(a, b), ⟨h1, h2, rfl⟩, ⟨rfl, rfl, trivial⟩, trivial⟩, fun (u, v) ⟨g1, g2, g3⟩ => ?_⟩
  dsimp only at *
  simp [-List.getD_eq_getElem?_getD, -List.mem_cons, -Bool.forall_bool, -Bool.exists_bool, and_assoc, peta, tl_inj, ex_1, ex_2, ex_3, ex_4, ex_5, ex_6, ex_7, ex_8, ex_9, ey_2, ey_3, ey_4, ey_5, ey_6, ey_7, ey_8, ey_9]
  exact gcd_step g1 g2 g3)

theorem k_gcd : SoundC Tryz.prog K_gcd.1 K_gcd.2 := sound_of hm CtxOK.nil (fun x => A_gcd x.1 x.2) (by kernel_rfl) fun (x : Int × Int) hl => (by
  obtain ⟨h1, h2⟩ : x.1.natAbs ≤ 4611686018427387904 ∧ x.2.natAbs ≤ 4611686018427387904 := hl
  obtain ⟨a, b⟩ := x
  rw [← vc_gcd a b]
  dsimp only at *
  rw [wrap_small (x := 0 - a) (by omega) (by omega), wrap_small (x := 0 - b) (by omega) (by omega)]
  refine ⟨⟨(a.natAbs, b.natAbs), ⟨h1, h2, rfl⟩, ⟨by split <;> omega, by split <;> omega, trivial⟩, trivial⟩, fun (u, v) ⟨g1, g2, g3⟩ => ?_⟩
  dsimp only at *
  simp [-List.getD_eq_getElem?_getD, -List.mem_cons, -Bool.forall_bool, -Bool.exists_bool, and_assoc, peta, tl_inj, ex_1, ex_2, ex_3, ex_4, ex_5, ex_6, ex_7, ex_8, ex_9, ey_2, ey_3, ey_4, ey_5, ey_6, ey_7, ey_8, ey_9]
  exact gcd_step g1 g2 g3)

theorem k_sRatOk : SoundC Tryz.prog K_sRatOk.1 K_sRatOk.2 := sound_of hm ((CtxOK.nil.and k_l1Gcd).and k_l1Abs) (fun _ => []) (by kernel_rfl) fun (x : Rt) hl => (by
  rw [← vc_sRatOk x]
  obtain ⟨a, b⟩ := x
  dsimp only at *
  simp [-List.getD_eq_getElem?_getD, -List.mem_cons, -Bool.forall_bool, -Bool.exists_bool, and_assoc, peta, tl_inj, ex_1, ex_2, ex_3, ex_4, ex_5, ex_6, ex_7, ex_8, ex_9, ey_2, ey_3, ey_4, ey_5, ey_6, ey_7, ey_8, ey_9]
  have no : (ratOk (a, b) = true → False) → ratOk (a, b) = false := fun h => by cases h1 : ratOk (a, b) with
    | false => rfl
    | true => exact (h h1).elim
  have e : abs1 a ≤ 1000000000 ↔ -1000000000 ≤ a ∧ a ≤ 1000000000 := by unfold abs1; split <;> (try split) <;> omega
  refine ⟨fun h1 => ⟨fun h2 => ⟨fun h3 => ?_, fun h3 => no fun h => ?_⟩, fun h2 => no fun h => ?_⟩, fun h1 => no fun h => ?_⟩
  · obtain ⟨u1, u2⟩ := e.1 h1
    refine ⟨a.natAbs, ?_, b.natAbs, by omega, by omega, by omega, ?_⟩
    · unfold abs1; rw [if_neg (by omega)]; split <;> omega
    · unfold ratOk
      simp only
      rw [decide_eq_true u1, decide_eq_true u2, decide_eq_true h2, decide_eq_true h3, Bool.beq_eq_decide_eq]
      simp only [Bool.true_and]
      congr 1
      simp only [eq_iff_iff]; omega
  all_goals
    have := ratOk_iff.1 h
    dsimp only at this
    omega)

theorem k_iRatOk : SoundC Tryz.prog K_iRatOk.1 K_iRatOk.2 := sound_of hm ((CtxOK.nil.and k_gcd).and k_within) (fun _ => []) (by kernel_rfl) fun (x : Rt) hl => (by
  rw [← vc_iRatOk x]
  obtain ⟨a, b⟩ := x
  dsimp only at *
  simp [-List.getD_eq_getElem?_getD, -List.mem_cons, -Bool.forall_bool, -Bool.exists_bool, and_assoc, peta, tl_inj, ex_1, ex_2, ex_3, ex_4, ex_5, ex_6, ex_7, ex_8, ex_9, ey_2, ey_3, ey_4, ey_5, ey_6, ey_7, ey_8, ey_9]
  simp only [withinI, Bool.and_eq_true, decide_eq_true_eq, Bool.and_eq_false_iff, decide_eq_false_iff_not]
  have no : (ratOk (a, b) = true → False) → ratOk (a, b) = false := fun h => by cases h1 : ratOk (a, b) with
    | false => rfl
    | true => exact (h h1).elim
  refine ⟨fun h1 => ⟨fun h2 => ⟨by omega, by omega, ?_⟩, fun h2 => no fun h => ?_⟩, fun h1 => no fun h => ?_⟩
  · unfold ratOk
    simp only
    rw [decide_eq_true h1.1, decide_eq_true h1.2, decide_eq_true h2.1, decide_eq_true h2.2, Bool.beq_eq_decide_eq]
    simp only [Bool.true_and]
    congr 1
    simp only [eq_iff_iff]; omega
  all_goals
    have := ratOk_iff.1 h
    dsimp only at this
    omega)

theorem less_vc (x : Rt × Rt) : (Exists fun (x_1 : Pl.Rt) =>
 ((x.fst.fst = x_1.fst ∧ x.fst.snd = x_1.snd ∧ True) ∧ True) ∧
 True ∧
 condP (Pl.ratOk x_1)
 (Exists fun (x_2 : Pl.Rt) =>
 ((x.snd.fst = x_2.fst ∧ x.snd.snd = x_2.snd ∧ True) ∧ True) ∧
 True ∧
 condP (Pl.ratOk x_2) (Decidable.decide (IntKind.i64.wrap (x.fst.fst * x.snd.snd) < IntKind.i64.wrap (x.snd.fst * x.fst.snd)) = Pl.ratLess x.fst x.snd)
 (Bool.false = Pl.ratLess x.fst x.snd))
 (Bool.false = Pl.ratLess x.fst x.snd)) := by
  obtain ⟨⟨a, b⟩, c, d⟩ := x
  dsimp only at *
  simp [-List.getD_eq_getElem?_getD, -List.mem_cons, -Bool.forall_bool, -Bool.exists_bool, and_assoc, peta, tl_inj, ex_1, ex_2, ex_3, ex_4, ex_5, ex_6, ex_7, ex_8, ex_9, ey_2, ey_3, ey_4, ey_5, ey_6, ey_7, ey_8, ey_9]
  refine ⟨fun h => ⟨fun h2 => ?_, fun h2 => by unfold ratLess; rw [h2]; simp⟩, fun h => by unfold ratLess; rw [h]; simp⟩
  obtain ⟨h1, h2', h3, h4, h5⟩ := ratOk_iff.1 h
  obtain ⟨k1, k2, k3, k4, k5⟩ := ratOk_iff.1 h2
  unfold ratLess
  rw [h, h2]
  dsimp only at *
  have w : ∀ {p q : Int}, -1000000000 ≤ p → p ≤ 1000000000 → 1 ≤ q → q ≤ 1000000000 → IntKind.i64.wrap (p * q) = p * q := fun {p q} e1 e2 e3 e4 => by
    have u1 : p * q ≤ 1000000000 * q := Int.mul_le_mul_of_nonneg_right e2 (by omega)
    have u2 : -1000000000 * q ≤ p * q := Int.mul_le_mul_of_nonneg_right e1 (by omega)
    exact wrap_small (by omega) (by omega)
  rw [w h1 h2' k3 k4, w k1 k2 h3 h4]
  simp
theorem k_sRatLess : SoundC Tryz.prog K_sRatLess.1 K_sRatLess.2 := sound_of hm (CtxOK.nil.and k_sRatOk) (fun _ => []) (by kernel_rfl) fun (x : Rt × Rt) hl => (by
  rw [← vc_sRatLess x]; exact less_vc x)
theorem k_iRatLess : SoundC Tryz.prog K_iRatLess.1 K_iRatLess.2 := sound_of hm (CtxOK.nil.and k_iRatOk) (fun _ => []) (by kernel_rfl) fun (x : Rt × Rt) hl => (by
  rw [← vc_iRatLess x]; exact less_vc x)
theorem k_compareRats : SoundC Tryz.prog K_compareRats.1 K_compareRats.2 := sound_of hm (CtxOK.nil.and k_iRatLess) (fun _ => []) (by kernel_rfl) fun (x : Rt × Rt) hl => (by
  rw [← vc_compareRats x]
  obtain ⟨⟨a, b⟩, c, d⟩ := x
  dsimp only at *
  simp [-List.getD_eq_getElem?_getD, -List.mem_cons, -Bool.forall_bool, -Bool.exists_bool, and_assoc, peta, tl_inj, ex_1, ex_2, ex_3, ex_4, ex_5, ex_6, ex_7, ex_8, ex_9, ey_2, ey_3, ey_4, ey_5, ey_6, ey_7, ey_8, ey_9]
  unfold cmpRat
  refine ⟨fun h => by rw [if_pos h], fun h => ⟨fun h2 => by rw [if_neg (by rw [h]; simp), if_pos h2], fun h2 => by rw [h, h2]; rfl⟩⟩)

theorem all_stepR {α : Type} (d : α) (p : α → Bool) {l : List α} {k : Nat} (hk : k < l.length) (he : l.all p = (l.drop k).all p) : (p (l.getD k d) = false → l.all p = false) ∧ (p (l.getD k d) = true → l.all p = (l.drop (k + 1)).all p) := by
  rw [drop_get d hk, List.all_cons] at he
  exact ⟨fun h => by rw [he, h]; rfl, fun h => by rw [he, h]; rfl⟩

theorem k_l7Row : SoundC Tryz.prog K_l7Row.1 K_l7Row.2 := sound_of hm ((CtxOK.nil.and k_sNameOk).and k_sRatOk) (fun x => A_l7Row x) (by kernel_rfl) fun (x : Rw) hl => (by
  rw [← vc_l7Row x]
  obtain ⟨h1, h2⟩ : x.1.size ≤ 1048576 ∧ x.2.1.length ≤ 1048576 := hl
  obtain ⟨nm, args, v⟩ := x
  dsimp only at *
  simp [-List.getD_eq_getElem?_getD, -List.mem_cons, -Bool.forall_bool, -Bool.exists_bool, and_assoc, peta, tl_inj, ex_1, ex_2, ex_3, ex_4, ex_5, ex_6, ex_7, ex_8, ex_9, ey_2, ey_3, ey_4, ey_5, ey_6, ey_7, ey_8, ey_9]
  refine ⟨⟨0, by simp, by simp, rfl⟩, fun k hk he => ⟨fun hlt => ?_, fun hge => ?_⟩⟩
  · obtain ⟨e1, e2⟩ := all_stepR dQ ratOk hlt he
    exact ⟨hlt, fun h => by simp [rowOk, e1 h], fun h => ⟨k + 1, hlt, e2 h, by omega, wrap_small (by omega) (by omega)⟩⟩
  · rw [drop_end (by omega)] at he
    simp only [rowOk]
    rw [he]
    refine ⟨h1, fun h => ⟨fun h3 => ?_, fun h3 => ?_⟩, fun h => by rw [h]; rfl⟩
    · rw [h, decide_eq_true (by omega : args.length ≤ 2)]; simp
    · rw [decide_eq_false (by omega : ¬ args.length ≤ 2)]; simp)

theorem less_step {a b : List Rt} {k : Nat} (h1 : k < a.length) (h2 : k < b.length) : argsLess (a.drop k) (b.drop k) = if a.getD k dQ = b.getD k dQ then argsLess (a.drop (k + 1)) (b.drop (k + 1)) else ratLess (a.getD k dQ) (b.getD k dQ) := by
  rw [drop_get dQ h1, drop_get dQ h2]; rfl

theorem k_l7Less : SoundC Tryz.prog K_l7Less.1 K_l7Less.2 := sound_of hm (CtxOK.nil.and k_sRatLess) (fun x => A_l7Less x.1 x.2) (by kernel_rfl) fun (x : Rw × Rw) hl => (by
  rw [← vc_l7Less x]
  have h1 : x.1.2.1.length ≤ 1048576 := hl
  obtain ⟨⟨nm, args, u1, u2⟩, nm', args', u1', u2'⟩ := x
  dsimp only at *
  simp [-List.getD_eq_getElem?_getD, -List.mem_cons, -Bool.forall_bool, -Bool.exists_bool, and_assoc, peta, tl_inj, ex_1, ex_2, ex_3, ex_4, ex_5, ex_6, ex_7, ex_8, ex_9, ey_2, ey_3, ey_4, ey_5, ey_6, ey_7, ey_8, ey_9]
  unfold rowLess
  dsimp only
  refine ⟨fun h => by rw [if_neg h]; rfl, fun h => ⟨fun h3 => by rw [if_pos h, if_neg (by omega)], fun h3 => ?_⟩⟩
  rw [if_pos h, if_pos (by omega)]
  refine ⟨⟨0, by simp, by omega, by simp, rfl⟩, fun k hk he hs => ⟨fun hlt => ?_, fun hge => ?_⟩⟩
  · rw [less_step hlt (by omega)] at hs
    refine ⟨hlt, by omega, fun h4 => ⟨hlt, by omega, ?_⟩, fun h4 h5 => ⟨k + 1, hlt, he, ?_, by omega, wrap_small (by omega) (by omega)⟩⟩
    · rw [hs, if_neg]
      intro e; rw [e] at h4; simp at h4
    · rw [hs, if_pos (Prod.ext h4 h5)]
  · rw [hs, drop_end (by omega)]; rfl)

theorem k_RowOk1 : SoundC Tryz.prog K_RowOk1.1 K_RowOk1.2 := sound_of hm (CtxOK.nil.and k_iRatOk) (fun _ => []) (by kernel_rfl) fun (x : Rt) hl => (by
  rw [← vc_RowOk1 x]
  simp [-List.getD_eq_getElem?_getD, -List.mem_cons, -Bool.forall_bool, -Bool.exists_bool, and_assoc, peta, tl_inj, ex_1, ex_2, ex_3, ex_4, ex_5, ex_6, ex_7, ex_8, ex_9, ey_2, ey_3, ey_4, ey_5, ey_6, ey_7, ey_8, ey_9])

theorem k_IndexRat : SoundC Tryz.prog K_IndexRat.1 K_IndexRat.2 := sound_of hm (CtxOK.nil.and k_RowOk1) (fun x => A_IndexRat x) (by kernel_rfl) fun (l : List Rt) hl => (by
  rw [← vc_IndexRat l]
  replace hl : Sz l := hl
  simp [-List.getD_eq_getElem?_getD, -List.mem_cons, -Bool.forall_bool, -Bool.exists_bool, and_assoc, peta, tl_inj, ex_1, ex_2, ex_3, ex_4, ex_5, ex_6, ex_7, ex_8, ex_9, ey_2, ey_3, ey_4, ey_5, ey_6, ey_7, ey_8, ey_9]
  exact ⟨⟨0, by simp, idx_init _ _, rfl⟩, fun k hk he => ⟨fun hlt => ⟨hlt, fun h => (idx_step dQ _ hlt he).1 (by simp [h, -List.getD_eq_getElem?_getD]), fun h => ⟨k + 1, hlt, (idx_step dQ _ hlt he).2 (by simp [h, -List.getD_eq_getElem?_getD]), by omega, wrap_succ hlt hl⟩⟩, fun hge => idx_end _ hge he⟩⟩)
theorem k_ContainsRat : SoundC Tryz.prog K_ContainsRat.1 K_ContainsRat.2 := sound_of hm (CtxOK.nil.and k_IndexRat) (fun _ => []) (by kernel_rfl) fun (l : List Rt) hl => (by
  rw [← vc_ContainsRat l]
  replace hl : Sz l := hl
  simp only [idx_any]
  simp [-List.getD_eq_getElem?_getD, -List.mem_cons, -Bool.forall_bool, -Bool.exists_bool, and_assoc, peta, tl_inj, ex_1, ex_2, ex_3, ex_4, ex_5, ex_6, ex_7, ex_8, ex_9, ey_2, ey_3, ey_4, ey_5, ey_6, ey_7, ey_8, ey_9]
  exact hl)
theorem k_rowOk : SoundC Tryz.prog K_rowOk.1 K_rowOk.2 := sound_of hm (((CtxOK.nil.and k_ContainsRat).and k_iRatOk).and k_iNameOk) (fun _ => []) (by kernel_rfl) fun (x : Rw) hl => (by
  rw [← vc_rowOk x]
  obtain ⟨h1, h2⟩ : x.1.size ≤ 1048576 ∧ x.2.1.length ≤ 1048576 := hl
  obtain ⟨nm, args, v⟩ := x
  dsimp only at *
  simp [-List.getD_eq_getElem?_getD, -List.mem_cons, -Bool.forall_bool, -Bool.exists_bool, and_assoc, peta, tl_inj, ex_1, ex_2, ex_3, ex_4, ex_5, ex_6, ex_7, ex_8, ex_9, ey_2, ey_3, ey_4, ey_5, ey_6, ey_7, ey_8, ey_9]
  simp only [rowOk]
  refine ⟨h1, fun h => ⟨fun h3 => ⟨fun h4 => ⟨by omega, ?_⟩, fun h4 => by rw [h4]; simp⟩, fun h3 => ?_⟩, fun h => by rw [h]; rfl⟩
  · rw [h, h4, decide_eq_true (by omega : args.length ≤ 2), all_any]; simp
  · rw [decide_eq_false (by omega : ¬ args.length ≤ 2)]; simp)

theorem k_isNaNS : SoundC Tryz.prog K_isNaNS.1 K_isNaNS.2 := sound_of hm CtxOK.nil (fun _ => []) (by kernel_rfl) fun (x : ByteArray) hl => (by
  rw [← vc_isNaNS x]; simp)
theorem k_isNaNI : SoundC Tryz.prog K_isNaNI.1 K_isNaNI.2 := sound_of hm CtxOK.nil (fun _ => []) (by kernel_rfl) fun (x : Int) hl => (by
  rw [← vc_isNaNI x]; simp)
theorem k_CompareS : SoundC Tryz.prog K_CompareS.1 K_CompareS.2 := sound_of hm (CtxOK.nil.and k_isNaNS) (fun _ => []) (by kernel_rfl) fun (x : ByteArray × ByteArray) hl => (by
  rw [← vc_CompareS x]
  obtain ⟨a, b⟩ := x
  refine ⟨a, ⟨rfl, trivial⟩, trivial, b, ⟨rfl, trivial⟩, trivial, ?_⟩
  dsimp only
  unfold cmpS sLess
  cases h1 : Op.bytesLess a.toList b.toList with
  | true => simp [condP]
  | false =>
    cases h2 : Op.bytesLess b.toList a.toList with
    | true =>
      have : (a.toList == b.toList) = false := by
        simp only [beq_eq_false_iff_ne]; intro e; rw [e, bl_irrefl] at h2; cases h2
      simp [condP, this]
    | false =>
      have := bl_total h1 h2
      simp [condP, this])
theorem k_CompareI : SoundC Tryz.prog K_CompareI.1 K_CompareI.2 := sound_of hm (CtxOK.nil.and k_isNaNI) (fun _ => []) (by kernel_rfl) fun (x : Int × Int) hl => (by
  rw [← vc_CompareI x]
  obtain ⟨a, b⟩ := x
  dsimp only at *
  simp [-List.getD_eq_getElem?_getD, -List.mem_cons, -Bool.forall_bool, -Bool.exists_bool, and_assoc, peta, tl_inj, ex_1, ex_2, ex_3, ex_4, ex_5, ex_6, ex_7, ex_8, ex_9, ey_2, ey_3, ey_4, ey_5, ey_6, ey_7, ey_8, ey_9]
  unfold cmpI
  refine ⟨fun h => by rw [if_pos h], fun h => ⟨fun h2 => by rw [if_neg (by omega), if_pos h2], fun h2 => by rw [if_neg (by omega), if_neg (by omega)]⟩⟩)
theorem k_Or : SoundC Tryz.prog K_Or.1 K_Or.2 := sound_of hm CtxOK.nil (fun x => A_Or x) (by kernel_rfl) fun (x : List Int) hl => (by
  rw [← vc_Or x]
  replace hl : Sz x := hl
  simp [-List.getD_eq_getElem?_getD, -List.mem_cons, -Bool.forall_bool, -Bool.exists_bool, and_assoc, peta, tl_inj, ex_1, ex_2, ex_3, ex_4, ex_5, ex_6, ex_7, ex_8, ex_9, ey_2, ey_3, ey_4, ey_5, ey_6, ey_7, ey_8, ey_9]
  refine ⟨⟨0, by simp, by simp, rfl⟩, fun k hk he => ⟨fun hlt => ?_, fun hge => ?_⟩⟩
  · rw [drop_get 0 hlt] at he
    simp only [orI] at he
    exact ⟨hlt, fun h => by rw [he, if_neg h], fun h => ⟨k + 1, hlt, by rw [he, if_pos h], by omega, wrap_succ hlt hl⟩⟩
  · rw [he, drop_end (by omega)]; rfl)
theorem k_CompareFunc : SoundC Tryz.prog K_CompareFunc.1 K_CompareFunc.2 := sound_of hm (CtxOK.nil.and k_compareRats) (fun x => A_CompareFunc x.1 x.2) (by kernel_rfl) fun (x : List Rt × List Rt) hl => (by
  rw [← vc_CompareFunc x]
  obtain ⟨h1, h2⟩ : Sz x.1 ∧ Sz x.2 := hl
  obtain ⟨a, b⟩ := x
  dsimp only at *
  simp [-List.getD_eq_getElem?_getD, -List.mem_cons, -Bool.forall_bool, -Bool.exists_bool, and_assoc, peta, tl_inj, ex_1, ex_2, ex_3, ex_4, ex_5, ex_6, ex_7, ex_8, ex_9, ey_2, ey_3, ey_4, ey_5, ey_6, ey_7, ey_8, ey_9]
  refine ⟨⟨0, by simp, by simp, by simp, rfl⟩, fun k hk hk2 he => ⟨fun hlt => ⟨hlt, fun h => ?_, fun h => ?_⟩, fun hge => ⟨fun h => ?_, fun h => ?_⟩⟩⟩
  · rw [he, drop_get dQ hlt, drop_end (l := b) (by omega)]; rfl
  · rw [drop_get dQ hlt, drop_get dQ h] at he
    simp only [cmpArgs] at he
    exact ⟨h, fun h3 => by rw [he, if_neg h3], fun h3 => ⟨k + 1, hlt, h, by rw [he, if_pos h3], by omega, wrap_succ hlt h1⟩⟩
  · rw [he, drop_end (by omega), drop_get dQ (by omega : k < b.length)]; rfl
  · rw [he, drop_end (by omega), drop_end (l := b) (by omega)]; rfl)
theorem k_compareRows : SoundC Tryz.prog K_compareRows.1 K_compareRows.2 := sound_of hm ((((CtxOK.nil.and k_Or).and k_CompareFunc).and k_CompareI).and k_CompareS) (fun _ => []) (by kernel_rfl) fun (x : Rw × Rw) hl => (by
  rw [← vc_compareRows x]
  obtain ⟨h1, h2⟩ : Sz x.1.2.1 ∧ Sz x.2.2.1 := hl
  obtain ⟨⟨nm, args, u1, u2⟩, nm', args', u1', u2'⟩ := x
  dsimp only at *
  simp [-List.getD_eq_getElem?_getD, -List.mem_cons, -Bool.forall_bool, -Bool.exists_bool, and_assoc, peta, tl_inj, ex_1, ex_2, ex_3, ex_4, ex_5, ex_6, ex_7, ex_8, ex_9, ey_2, ey_3, ey_4, ey_5, ey_6, ey_7, ey_8, ey_9]
  exact ⟨h1, h2, rfl⟩)
theorem m_step {m : Mdl} {k : Nat} (hk : k < m.length) (he : mL none m = mL (prevR m k) (m.drop k)) :
    (rowOk (m.getD k dR) = false → mRight m = false) ∧ (beforeR (prevR m k) (m.getD k dR) = false → mRight m = false) ∧ (rowOk (m.getD k dR) = true → beforeR (prevR m k) (m.getD k dR) = true → mL none m = mL (prevR m (k + 1)) (m.drop (k + 1))) := by
  rw [drop_get dR hk] at he
  simp only [mL] at he
  refine ⟨fun h => ?_, fun h => ?_, fun h1 h2 => ?_⟩
  · unfold mRight; rw [he, h]; simp
  · unfold mRight; rw [he, h]; simp
  · rw [he, h1, h2]
    simp [prevR, -List.getD_eq_getElem?_getD]

theorem k_l7Right : SoundC Tryz.prog K_l7Right.1 K_l7Right.2 := sound_of hm ((CtxOK.nil.and k_l7Less).and k_l7Row) (fun x => A_l7Right x) (by kernel_rfl) fun (m : Mdl) hl => (by
  rw [← vc_l7Right m]
  replace hl : SmM m := hl
  simp [-List.getD_eq_getElem?_getD, -List.mem_cons, -Bool.forall_bool, -Bool.exists_bool, and_assoc, peta, tl_inj, ex_1, ex_2, ex_3, ex_4, ex_5, ex_6, ex_7, ex_8, ex_9, ey_2, ey_3, ey_4, ey_5, ey_6, ey_7, ey_8, ey_9]
  have hlen := hl.len
  refine ⟨⟨0, by simp, by simp [prevR], rfl⟩, fun k hk he => ⟨fun hlt => ?_, fun hge => ?_⟩⟩
  · obtain ⟨m1, m2⟩ := hl.mem (getD_mem dR hlt)
    obtain ⟨e1, e2, e3⟩ := m_step hlt he
    refine ⟨hlt, m1, m2, e1, fun h1 => ⟨fun h4 => ?_, fun h4 => ⟨k + 1, hlt, e3 h1 (by rw [h4]; rfl), by omega, wrap_small (by omega) (by omega)⟩⟩⟩
    rw [wrap_small (by omega) (by omega)]
    have e : ((k : Int) - 1).toNat = k - 1 := by omega
    rw [e]
    have hb : beforeR (prevR m k) (m.getD k dR) = rowLess (m.getD (k - 1) dR) (m.getD k dR) := by
      unfold prevR; rw [if_neg (by omega)]; rfl
    exact ⟨by omega, by omega, by omega, hlt, (hl.mem (getD_mem dR (by omega))).2, fun h => e2 (by rw [hb, h]), fun h => ⟨k + 1, hlt, e3 h1 (by rw [hb, h]), by omega, wrap_small (by omega) (by omega)⟩⟩
  · rw [drop_end (by omega)] at he
    unfold mRight
    rw [he]
    simp only [mL, Bool.true_and]
    congr 1
    simp only [eq_iff_iff]; omega)

theorem k_iModel : SoundC Tryz.prog K_iModel.1 K_iModel.2 := sound_of hm ((CtxOK.nil.and k_compareRows).and k_rowOk) (fun x => A_iModel x) (by kernel_rfl) fun (m : Mdl) hl => (by
  rw [← vc_iModel m]
  replace hl : SmM m := hl
  simp [-List.getD_eq_getElem?_getD, -List.mem_cons, -Bool.forall_bool, -Bool.exists_bool, and_assoc, peta, tl_inj, ex_1, ex_2, ex_3, ex_4, ex_5, ex_6, ex_7, ex_8, ex_9, ey_2, ey_3, ey_4, ey_5, ey_6, ey_7, ey_8, ey_9]
  have hlen := hl.len
  refine ⟨fun h => by unfold mRight; rw [decide_eq_false (by omega : ¬ m.length ≤ 40)]; simp, fun h40 => ⟨⟨0, by simp, by simp [prevR], fun h => (h rfl).elim, rfl⟩, fun k hk he hp => ⟨fun hlt => ?_, fun hge => ?_⟩⟩⟩
  · obtain ⟨m1, m2⟩ := hl.mem (getD_mem dR hlt)
    obtain ⟨e1, e2, e3⟩ := m_step hlt he
    refine ⟨hlt, m1, m2, e1, fun h1 => ⟨fun h4 => ?_, fun h4 => ⟨k + 1, hlt, e3 h1 (by rw [h4]; rfl), fun _ => h1, by omega, wrap_small (by omega) (by omega)⟩⟩⟩
    rw [wrap_small (by omega) (by omega)]
    have e : ((k : Int) - 1).toNat = k - 1 := by omega
    rw [e]
    have hb : beforeR (prevR m k) (m.getD k dR) = rowLess (m.getD (k - 1) dR) (m.getD k dR) := by
      unfold prevR; rw [if_neg (by omega)]; rfl
    have hc := cmpRows_neg (hp (by omega)) h1
    have hz := (hl.mem (getD_mem dR (by omega : k - 1 < m.length))).2
    refine ⟨by omega, by omega, by omega, by omega, by omega, fun h => e2 ?_, fun h => ⟨k + 1, hlt, e3 h1 ?_, fun _ => h1, by omega, wrap_small (by omega) (by omega)⟩⟩
    · rw [hb]
      cases h2 : rowLess (m.getD (k - 1) dR) (m.getD k dR) with
      | false => rfl
      | true => have := hc.2 h2; omega
    · rw [hb]; exact hc.1 h
  · rw [drop_end (by omega)] at he
    unfold mRight
    rw [he, decide_eq_true (by omega : m.length ≤ 40)]
    rfl)

theorem mL_mem : ∀ {m : Mdl} {p : Option Rw}, mL p m = true → ∀ y ∈ m, rowOk y = true
  | x :: m, p, h, y, hy => by
    simp only [mL, Bool.and_eq_true] at h
    rcases List.mem_cons.1 hy with e | e
    · subst e; exact h.1.1
    · exact mL_mem h.2 y e

end Cg

/-
  The codes' contracts: the values of terms. No condition.
-/
set_option linter.unusedVariables false
set_option linter.unusedSimpArgs false
set_option maxRecDepth 100000
set_option maxHeartbeats 1000000
namespace Pl
open Go Cg
theorem take_getD {α : Type} (d : α) {l : List α} {i : Nat} (h : i < l.length) : l.take (i + 1) = l.take i ++ [l.getD i d] := by
  rw [List.take_succ_eq_append_getElem h]; simp [h]
end Pl
namespace Cg
open Go Go.Proofs Pl

end Cg

/-
  The library functions' contracts at this program, laid by the kit's own programs (lay-shelf, lay-plain). No condition.
-/
namespace Go.Proofs
open Go.Shelf
def Tryz.lays169_ren : Go.Shelf.Ren := ⟨fun | 169 => 116 | n => n, fun | 70 => 131 | 9 => 9 | 0 => 0 | 72 => 133 | 37 => 35 | 127 => 158 | 3 => 3 | 5 => 5 | n => n, fun | n => n⟩
theorem Tryz.lays169 : Go.Proofs.Lays.n169 Tryz.prog Tryz.lays169_ren := {
  mixed := by kernel_rfl
  f169 := Tryz.func116.trans (congrArg some (by kernel_rfl))
  t0 := Tryz.underlying0
  a0 := Tryz.isAgg0
  z0 := Tryz.sizeOf0
  v0 := Tryz.zeroValue0
  t3 := Tryz.underlying3
  a3 := Tryz.isAgg3
  z3 := Tryz.sizeOf3
  v3 := Tryz.zeroValue3
  t9 := Tryz.underlying9
  a9 := Tryz.isAgg9
  z9 := Tryz.sizeOf9
  v9 := Tryz.zeroValue9
  t37 := Tryz.underlying35
  a37 := Tryz.isAgg35
  z37 := Tryz.sizeOf35
  v37 := Tryz.zeroValue35
  t70 := Tryz.underlying131
  a70 := Tryz.isAgg131
  z70 := Tryz.sizeOf131
  v70 := Tryz.zeroValue131
  t72 := Tryz.underlying133
  a72 := Tryz.isAgg133
  z72 := Tryz.sizeOf133
  v72 := Tryz.zeroValue133
  t127 := Tryz.underlying158
  a127 := Tryz.isAgg158
  z127 := Tryz.sizeOf158
  v127 := Tryz.zeroValue158 }
theorem Tryz.Builder_Extra_169 : Builder.Extra Tryz.prog Tryz.lays169_ren := {
  sizeBuilder := by kernel_rfl
  liesBuilder := by kernel_rfl
  t5 := Tryz.underlying5
  a5 := Tryz.isAgg5
  z5 := Tryz.sizeOf5
  v5 := Tryz.zeroValue5
  infoByte := by kernel_rfl
  cellsByte := by kernel_rfl
  sizeByte := by kernel_rfl
  neB5 := by decide }
open Go.RowKit in
theorem Tryz.Builder_String_any (B b : Nat) (l : List UInt8) (w : World) (h : Lib.IsBuilder 133 5 B b (Lib.byteCells l) w) (hBw : B ≤ w.heap.size) :
    Calls Tryz.prog 116 #[.pointer (some ⟨b, 0, none⟩)] w fun e w' => e = .returned (.string ⟨l.toArray⟩) ∧ Below B w w' := Any.Builder_String_any Tryz.lays169 Tryz.Builder_Extra_169 B b l w h hBw
def Tryz.lays156_ren : Go.Shelf.Ren := ⟨fun | 156 => 127 | 165 => 160 | 166 => 114 | 169 => 116 | 240 => 152 | 241 => 179 | 276 => 177 | 277 => 194 | n => n, fun | 31 => 74 | 9 => 9 | 3 => 3 | 4 => 4 | 0 => 0 | 20 => 20 | 72 => 133 | 76 => 114 | 70 => 131 | 37 => 35 | 75 => 113 | 127 => 158 | 164 => 172 | 5 => 5 | 80 => 134 | n => n, fun | n => n⟩
theorem Tryz.lays156 : Go.Proofs.Lays.n156 Tryz.prog Tryz.lays156_ren := {
  mixed := by kernel_rfl
  f156 := Tryz.func127.trans (congrArg some (by kernel_rfl))
  f165 := Tryz.func160.trans (congrArg some (by kernel_rfl))
  f166 := Tryz.func114.trans (congrArg some (by kernel_rfl))
  f169 := Tryz.func116.trans (congrArg some (by kernel_rfl))
  f240 := Tryz.func152.trans (congrArg some (by kernel_rfl))
  f241 := Tryz.func179.trans (congrArg some (by kernel_rfl))
  f276 := Tryz.func177.trans (congrArg some (by kernel_rfl))
  f277 := Tryz.func194.trans (congrArg some (by kernel_rfl))
  t0 := Tryz.underlying0
  a0 := Tryz.isAgg0
  z0 := Tryz.sizeOf0
  v0 := Tryz.zeroValue0
  t3 := Tryz.underlying3
  a3 := Tryz.isAgg3
  z3 := Tryz.sizeOf3
  v3 := Tryz.zeroValue3
  t4 := Tryz.underlying4
  a4 := Tryz.isAgg4
  z4 := Tryz.sizeOf4
  v4 := Tryz.zeroValue4
  t9 := Tryz.underlying9
  a9 := Tryz.isAgg9
  z9 := Tryz.sizeOf9
  v9 := Tryz.zeroValue9
  t20 := Tryz.underlying20
  a20 := Tryz.isAgg20
  z20 := Tryz.sizeOf20
  v20 := Tryz.zeroValue20
  t31 := Tryz.underlying74
  a31 := Tryz.isAgg74
  z31 := Tryz.sizeOf74
  v31 := Tryz.zeroValue74
  t37 := Tryz.underlying35
  a37 := Tryz.isAgg35
  z37 := Tryz.sizeOf35
  v37 := Tryz.zeroValue35
  t70 := Tryz.underlying131
  a70 := Tryz.isAgg131
  z70 := Tryz.sizeOf131
  v70 := Tryz.zeroValue131
  t72 := Tryz.underlying133
  a72 := Tryz.isAgg133
  z72 := Tryz.sizeOf133
  v72 := Tryz.zeroValue133
  t75 := Tryz.underlying113
  a75 := Tryz.isAgg113
  z75 := Tryz.sizeOf113
  v75 := Tryz.zeroValue113
  t76 := Tryz.underlying114
  a76 := Tryz.isAgg114
  z76 := Tryz.sizeOf114
  v76 := Tryz.zeroValue114
  t127 := Tryz.underlying158
  a127 := Tryz.isAgg158
  z127 := Tryz.sizeOf158
  v127 := Tryz.zeroValue158
  t164 := Tryz.underlying172
  a164 := Tryz.isAgg172
  z164 := Tryz.sizeOf172
  v164 := Tryz.zeroValue172 }
theorem Tryz.Builder_Extra_156 : Builder.Extra Tryz.prog Tryz.lays156_ren := {
  sizeBuilder := by kernel_rfl
  liesBuilder := by kernel_rfl
  t5 := Tryz.underlying5
  a5 := Tryz.isAgg5
  z5 := Tryz.sizeOf5
  v5 := Tryz.zeroValue5
  infoByte := by kernel_rfl
  cellsByte := by kernel_rfl
  sizeByte := by kernel_rfl
  neB5 := by decide }
open Go.RowKit in
theorem Tryz.strings_Join (bk o c : Nat) (xs : List ByteArray) (sep : ByteArray) (w : World) (hcells : ∀ (j : Nat) x, xs[j]? = some x → w.cell? ⟨bk, o + j, none⟩ = some (.string x)) (hbk : bk < w.heap.size) (hN : xs.length ≤ 140737488355328) (hcap : xs.length ≤ c) (hlen : (Lib.join (xs.map (·.data.toList)) sep.data.toList).length ≤ 140737488355328) :
    Calls Tryz.prog 127 #[.slice (some ⟨bk, o, none⟩) xs.length c, .string sep] w fun e w' => e = .returned (.string ⟨(Lib.join (xs.map (·.data.toList)) sep.data.toList).toArray⟩) ∧ Below w.heap.size w w' := Any.strings_Join Tryz.lays156 Tryz.Builder_Extra_156 bk o c xs sep w hcells hbk hN hcap hlen
def Tryz.lays103_ren : Go.Shelf.Ren := ⟨fun | 103 => 38 | 210 => 85 | 206 => 125 | n => n, fun | 9 => 9 | 4 => 4 | 24 => 55 | 3 => 3 | n => n, fun | n => n⟩
theorem Tryz.lays103 : Go.Proofs.Lays.n103 Tryz.prog Tryz.lays103_ren := {
  mixed := by kernel_rfl
  f103 := Tryz.func38.trans (congrArg some (by kernel_rfl))
  f206 := Tryz.func125.trans (congrArg some (by kernel_rfl))
  f210 := Tryz.func85.trans (congrArg some (by kernel_rfl))
  t3 := Tryz.underlying3
  a3 := Tryz.isAgg3
  z3 := Tryz.sizeOf3
  v3 := Tryz.zeroValue3
  t4 := Tryz.underlying4
  a4 := Tryz.isAgg4
  z4 := Tryz.sizeOf4
  v4 := Tryz.zeroValue4
  t9 := Tryz.underlying9
  a9 := Tryz.isAgg9
  z9 := Tryz.sizeOf9
  v9 := Tryz.zeroValue9
  t24 := Tryz.underlying55
  a24 := Tryz.isAgg55
  z24 := Tryz.sizeOf55
  v24 := Tryz.zeroValue55 }
open Go.RowKit in
theorem Tryz.strings_CutPrefix (s p : ByteArray) (w : World) :
    Calls Tryz.prog 38 #[.string s, .string p] w fun e w' => e = .returned (.tuple #[.string ⟨(Lib.trimPrefix s.data.toList p.data.toList).toArray⟩, .bool (Lib.hasPrefix s.data.toList p.data.toList)]) ∧ w' = w := Any.strings_CutPrefix Tryz.lays103 s p w
def Tryz.laysM171_ren : Go.Shelf.Ren := ⟨fun | 171 => 91 | 243 => 128 | 246 => 161 | 283 => 180 | 284 => 181 | 285 => 182 | 286 => 183 | 129 => 196 | 317 => 195 | 318 => 197 | 319 => 198 | 320 => 199 | 337 => 205 | 338 => 206 | n => n, fun | 3 => 3 | 9 => 9 | 2 => 2 | 4 => 4 | 171 => 174 | 0 => 0 | 53 => 175 | 37 => 35 | 5 => 5 | 173 => 178 | 212 => 193 | 51 => 194 | 20 => 20 | 213 => 195 | 46 => 181 | 232 => 208 | 233 => 209 | n => n, fun | 17 => 3 | 18 => 6 | 19 => 7 | n => n⟩
theorem Tryz.laysM171 : Go.Proofs.LaysM.n171 Tryz.prog Tryz.laysM171_ren := {
  mixed := by kernel_rfl
  f129 := Tryz.func196.trans (congrArg some (by kernel_rfl))
  f171 := Tryz.func91.trans (congrArg some (by kernel_rfl))
  f243 := Tryz.func128.trans (congrArg some (by kernel_rfl))
  f246 := Tryz.func161.trans (congrArg some (by kernel_rfl))
  f283 := Tryz.func180.trans (congrArg some (by kernel_rfl))
  f284 := Tryz.func181.trans (congrArg some (by kernel_rfl))
  f285 := Tryz.func182.trans (congrArg some (by kernel_rfl))
  f286 := Tryz.func183.trans (congrArg some (by kernel_rfl))
  f317 := Tryz.func195.trans (congrArg some (by kernel_rfl))
  f318 := Tryz.func197.trans (congrArg some (by kernel_rfl))
  f319 := Tryz.func198.trans (congrArg some (by kernel_rfl))
  f320 := Tryz.func199.trans (congrArg some (by kernel_rfl))
  f337 := Tryz.func205.trans (congrArg some (by kernel_rfl))
  f338 := Tryz.func206.trans (congrArg some (by kernel_rfl))
  t0 := Tryz.underlying0
  a0 := Tryz.isAgg0
  z0 := Tryz.sizeOf0
  v0 := Tryz.zeroValue0
  t2 := Tryz.underlying2
  a2 := Tryz.isAgg2
  z2 := Tryz.sizeOf2
  v2 := Tryz.zeroValue2
  t3 := Tryz.underlying3
  a3 := Tryz.isAgg3
  z3 := Tryz.sizeOf3
  v3 := Tryz.zeroValue3
  t4 := Tryz.underlying4
  a4 := Tryz.isAgg4
  z4 := Tryz.sizeOf4
  v4 := Tryz.zeroValue4
  t5 := Tryz.underlying5
  a5 := Tryz.isAgg5
  z5 := Tryz.sizeOf5
  v5 := Tryz.zeroValue5
  t9 := Tryz.underlying9
  a9 := Tryz.isAgg9
  z9 := Tryz.sizeOf9
  v9 := Tryz.zeroValue9
  t20 := Tryz.underlying20
  a20 := Tryz.isAgg20
  z20 := Tryz.sizeOf20
  v20 := Tryz.zeroValue20
  t37 := Tryz.underlying35
  a37 := Tryz.isAgg35
  z37 := Tryz.sizeOf35
  v37 := Tryz.zeroValue35
  t46 := Tryz.underlying181
  a46 := Tryz.isAgg181
  z46 := Tryz.sizeOf181
  v46 := Tryz.zeroValue181
  t51 := Tryz.underlying194
  a51 := Tryz.isAgg194
  z51 := Tryz.sizeOf194
  v51 := Tryz.zeroValue194
  t53 := Tryz.underlying175
  a53 := Tryz.isAgg175
  z53 := Tryz.sizeOf175
  v53 := Tryz.zeroValue175
  t171 := Tryz.underlying174
  a171 := Tryz.isAgg174
  z171 := Tryz.sizeOf174
  v171 := Tryz.zeroValue174
  t173 := Tryz.underlying178
  a173 := Tryz.isAgg178
  z173 := Tryz.sizeOf178
  v173 := Tryz.zeroValue178
  t212 := Tryz.underlying193
  a212 := Tryz.isAgg193
  z212 := Tryz.sizeOf193
  v212 := Tryz.zeroValue193
  t213 := Tryz.underlying195
  a213 := Tryz.isAgg195
  z213 := Tryz.sizeOf195
  t232 := Tryz.underlying208
  a232 := Tryz.isAgg208
  z232 := Tryz.sizeOf208
  v232 := Tryz.zeroValue208
  t233 := Tryz.underlying209
  a233 := Tryz.isAgg209
  z233 := Tryz.sizeOf209
  v233 := Tryz.zeroValue209
  g17 := by kernel_rfl
  g18 := by kernel_rfl
  g19 := by kernel_rfl
  i0 := by kernel_rfl
  i2 := by kernel_rfl
  i3 := by kernel_rfl
  i4 := by kernel_rfl
  i5 := by kernel_rfl
  i9 := by kernel_rfl
  i20 := by kernel_rfl
  i37 := by kernel_rfl
  i46 := by kernel_rfl
  i51 := by kernel_rfl
  i53 := by kernel_rfl
  i171 := by kernel_rfl
  i173 := by kernel_rfl
  i212 := by kernel_rfl
  i232 := by kernel_rfl
  i233 := by kernel_rfl
  m17 := by kernel_rfl
  m18 := by kernel_rfl
  m19 := by kernel_rfl }
open Go.RowKit Go.Sort Go.Lib in
theorem Tryz.strconv_Itoa (n : Int) (h0 : -9223372036854775808 ≤ n) (h1 : n ≤ 9223372036854775807) (w : World) (htab : Lib.TabIs Tryz.prog w "internal/strconv.uint64pow10" .u64 Lib.pow10Tab) :
    Calls Tryz.prog 91 #[.int .i64 n] w fun e w' => e = .returned (.string ⟨(Lib.itoa n).toArray⟩) ∧ ∃ k os, w' = grow (w.drewN k) os := Any.strconv_Itoa Tryz.laysM171 n h0 h1 w htab
def Tryz.laysC172_ren : Go.Shelf.Ren := ⟨fun | 172 => 96 | 244 => 132 | 245 => 133 | 247 => 167 | 279 => 168 | 280 => 169 | 281 => 170 | 282 => 171 | 287 => 191 | 316 => 192 | 171 => 91 | 205 => 193 | 321 => 203 | 322 => 204 | 243 => 128 | 246 => 161 | 283 => 180 | 284 => 181 | 285 => 182 | 286 => 183 | 129 => 196 | 317 => 195 | 318 => 197 | 319 => 198 | 320 => 199 | 337 => 205 | 338 => 206 | n => n, fun | 9 => 9 | 3 => 3 | 75 => 113 | 76 => 114 | 4 => 4 | 5 => 5 | 167 => 164 | 37 => 35 | 0 => 0 | 85 => 165 | 2 => 2 | 168 => 167 | 53 => 175 | 175 => 185 | 46 => 181 | 210 => 189 | 127 => 158 | 145 => 202 | 143 => 200 | 21 => 21 | 171 => 174 | 173 => 178 | 212 => 193 | 51 => 194 | 20 => 20 | 213 => 195 | 232 => 208 | 233 => 209 | 80 => 134 | n => n, fun | 15 => 1 | 16 => 2 | 17 => 3 | 18 => 6 | 19 => 7 | n => n⟩
theorem Tryz.laysC172 : Go.Proofs.LaysC.n172 Tryz.prog Tryz.laysC172_ren := {
  mixed := by kernel_rfl
  f129 := Tryz.func196.trans (congrArg some (by kernel_rfl))
  f171 := Tryz.func91.trans (congrArg some (by kernel_rfl))
  f172 := Tryz.func96.trans (congrArg some (by kernel_rfl))
  f205 := Tryz.func193.trans (congrArg some (by kernel_rfl))
  f243 := Tryz.func128.trans (congrArg some (by kernel_rfl))
  f244 := Tryz.func132.trans (congrArg some (by kernel_rfl))
  f245 := Tryz.func133.trans (congrArg some (by kernel_rfl))
  f246 := Tryz.func161.trans (congrArg some (by kernel_rfl))
  f247 := Tryz.func167.trans (congrArg some (by kernel_rfl))
  f279 := Tryz.func168.trans (congrArg some (by kernel_rfl))
  f280 := Tryz.func169.trans (congrArg some (by kernel_rfl))
  f281 := Tryz.func170.trans (congrArg some (by kernel_rfl))
  f282 := Tryz.func171.trans (congrArg some (by kernel_rfl))
  f283 := Tryz.func180.trans (congrArg some (by kernel_rfl))
  f284 := Tryz.func181.trans (congrArg some (by kernel_rfl))
  f285 := Tryz.func182.trans (congrArg some (by kernel_rfl))
  f286 := Tryz.func183.trans (congrArg some (by kernel_rfl))
  f287 := Tryz.func191.trans (congrArg some (by kernel_rfl))
  f316 := Tryz.func192.trans (congrArg some (by kernel_rfl))
  f317 := Tryz.func195.trans (congrArg some (by kernel_rfl))
  f318 := Tryz.func197.trans (congrArg some (by kernel_rfl))
  f319 := Tryz.func198.trans (congrArg some (by kernel_rfl))
  f320 := Tryz.func199.trans (congrArg some (by kernel_rfl))
  f321 := Tryz.func203.trans (congrArg some (by kernel_rfl))
  f322 := Tryz.func204.trans (congrArg some (by kernel_rfl))
  f337 := Tryz.func205.trans (congrArg some (by kernel_rfl))
  f338 := Tryz.func206.trans (congrArg some (by kernel_rfl))
  t0 := Tryz.underlying0
  a0 := Tryz.isAgg0
  z0 := Tryz.sizeOf0
  v0 := Tryz.zeroValue0
  t2 := Tryz.underlying2
  a2 := Tryz.isAgg2
  z2 := Tryz.sizeOf2
  v2 := Tryz.zeroValue2
  t3 := Tryz.underlying3
  a3 := Tryz.isAgg3
  z3 := Tryz.sizeOf3
  v3 := Tryz.zeroValue3
  t4 := Tryz.underlying4
  a4 := Tryz.isAgg4
  z4 := Tryz.sizeOf4
  v4 := Tryz.zeroValue4
  t5 := Tryz.underlying5
  a5 := Tryz.isAgg5
  z5 := Tryz.sizeOf5
  v5 := Tryz.zeroValue5
  t9 := Tryz.underlying9
  a9 := Tryz.isAgg9
  z9 := Tryz.sizeOf9
  v9 := Tryz.zeroValue9
  t20 := Tryz.underlying20
  a20 := Tryz.isAgg20
  z20 := Tryz.sizeOf20
  v20 := Tryz.zeroValue20
  t21 := Tryz.underlying21
  a21 := Tryz.isAgg21
  z21 := Tryz.sizeOf21
  v21 := Tryz.zeroValue21
  t37 := Tryz.underlying35
  a37 := Tryz.isAgg35
  z37 := Tryz.sizeOf35
  v37 := Tryz.zeroValue35
  t46 := Tryz.underlying181
  a46 := Tryz.isAgg181
  z46 := Tryz.sizeOf181
  v46 := Tryz.zeroValue181
  t51 := Tryz.underlying194
  a51 := Tryz.isAgg194
  z51 := Tryz.sizeOf194
  v51 := Tryz.zeroValue194
  t53 := Tryz.underlying175
  a53 := Tryz.isAgg175
  z53 := Tryz.sizeOf175
  v53 := Tryz.zeroValue175
  t75 := Tryz.underlying113
  a75 := Tryz.isAgg113
  z75 := Tryz.sizeOf113
  v75 := Tryz.zeroValue113
  t76 := Tryz.underlying114
  a76 := Tryz.isAgg114
  z76 := Tryz.sizeOf114
  v76 := Tryz.zeroValue114
  t85 := Tryz.underlying165
  a85 := Tryz.isAgg165
  z85 := Tryz.sizeOf165
  v85 := Tryz.zeroValue165
  t127 := Tryz.underlying158
  a127 := Tryz.isAgg158
  z127 := Tryz.sizeOf158
  v127 := Tryz.zeroValue158
  t143 := Tryz.underlying200
  a143 := Tryz.isAgg200
  z143 := Tryz.sizeOf200
  v143 := Tryz.zeroValue200
  t145 := Tryz.underlying202
  a145 := Tryz.isAgg202
  z145 := Tryz.sizeOf202
  v145 := Tryz.zeroValue202
  t167 := Tryz.underlying164
  a167 := Tryz.isAgg164
  z167 := Tryz.sizeOf164
  v167 := Tryz.zeroValue164
  t168 := Tryz.underlying167
  a168 := Tryz.isAgg167
  z168 := Tryz.sizeOf167
  v168 := Tryz.zeroValue167
  t171 := Tryz.underlying174
  a171 := Tryz.isAgg174
  z171 := Tryz.sizeOf174
  v171 := Tryz.zeroValue174
  t173 := Tryz.underlying178
  a173 := Tryz.isAgg178
  z173 := Tryz.sizeOf178
  v173 := Tryz.zeroValue178
  t175 := Tryz.underlying185
  a175 := Tryz.isAgg185
  z175 := Tryz.sizeOf185
  v175 := Tryz.zeroValue185
  t210 := Tryz.underlying189
  a210 := Tryz.isAgg189
  z210 := Tryz.sizeOf189
  v210 := Tryz.zeroValue189
  t212 := Tryz.underlying193
  a212 := Tryz.isAgg193
  z212 := Tryz.sizeOf193
  v212 := Tryz.zeroValue193
  t213 := Tryz.underlying195
  a213 := Tryz.isAgg195
  z213 := Tryz.sizeOf195
  t232 := Tryz.underlying208
  a232 := Tryz.isAgg208
  z232 := Tryz.sizeOf208
  v232 := Tryz.zeroValue208
  t233 := Tryz.underlying209
  a233 := Tryz.isAgg209
  z233 := Tryz.sizeOf209
  v233 := Tryz.zeroValue209
  g15 := by kernel_rfl
  g16 := by kernel_rfl
  g17 := by kernel_rfl
  g18 := by kernel_rfl
  g19 := by kernel_rfl
  t80 := Tryz.underlying134
  a80 := Tryz.isAgg134
  z80 := Tryz.sizeOf134
  v80 := Tryz.zeroValue134
  i0 := by kernel_rfl
  i2 := by kernel_rfl
  i3 := by kernel_rfl
  i4 := by kernel_rfl
  i5 := by kernel_rfl
  i9 := by kernel_rfl
  i20 := by kernel_rfl
  i21 := by kernel_rfl
  i37 := by kernel_rfl
  i46 := by kernel_rfl
  i51 := by kernel_rfl
  i53 := by kernel_rfl
  i75 := by kernel_rfl
  i76 := by kernel_rfl
  i80 := by kernel_rfl
  i85 := by kernel_rfl
  i127 := by kernel_rfl
  i143 := by kernel_rfl
  i145 := by kernel_rfl
  i167 := by kernel_rfl
  i168 := by kernel_rfl
  i171 := by kernel_rfl
  i173 := by kernel_rfl
  i175 := by kernel_rfl
  i210 := by kernel_rfl
  i212 := by kernel_rfl
  i232 := by kernel_rfl
  i233 := by kernel_rfl
  m15 := by kernel_rfl
  m16 := by kernel_rfl
  m17 := by kernel_rfl
  m18 := by kernel_rfl
  m19 := by kernel_rfl
  c0 := by kernel_rfl
  c2 := by kernel_rfl
  c3 := by kernel_rfl
  c4 := by kernel_rfl
  c5 := by kernel_rfl
  c9 := by kernel_rfl
  c20 := by kernel_rfl
  c21 := by kernel_rfl
  c37 := by kernel_rfl
  c46 := by kernel_rfl
  c51 := by kernel_rfl
  c53 := by kernel_rfl
  c75 := by kernel_rfl
  c76 := by kernel_rfl
  c80 := by kernel_rfl
  c85 := by kernel_rfl
  c127 := by kernel_rfl
  c143 := by kernel_rfl
  c145 := by kernel_rfl
  c167 := by kernel_rfl
  c168 := by kernel_rfl
  c171 := by kernel_rfl
  c173 := by kernel_rfl
  c175 := by kernel_rfl
  c210 := by kernel_rfl
  c212 := by kernel_rfl
  c213 := by kernel_rfl
  c232 := by kernel_rfl
  c233 := by kernel_rfl }
open Go.RowKit in
theorem Tryz.strconv_Atoi_ok (s : ByteArray) (hmax : s.size ≤ 9223372036854775806) (v : Int) (h : Lib.atoiAll s.data.toList = .ok v) (w : World) :
    Calls Tryz.prog 96 #[.string s] w fun e w' => e = .returned (.tuple #[.int .i64 v, .nilIface]) ∧ (w' = w ∨ ∃ t, w' = Lib.bytesWorld w 5 t) := Any.strconv_Atoi_ok Tryz.laysC172 s hmax v h w
open Go.RowKit in
theorem Tryz.strconv_Atoi_syntax (s : ByteArray) (hlim : s.size ≤ 281474976710656) (h1 : ∀ v, Lib.atoiAll s.data.toList ≠ .ok v) (h2 : Lib.atoiAll s.data.toList ≠ .range) (ev : Value) (w : World) (hv : w.cell? ⟨1, 0, none⟩ = some ev) (hev : ev = .nilIface ∨ ∃ te pe, ev = .iface te pe) :
    Calls Tryz.prog 96 #[.string s] w fun e w' => ∃ N, e = .returned (.tuple #[.int .i64 (0), .iface 167 (.pointer (some ⟨N, 0, none⟩))]) ∧ w.heap.size ≤ N ∧ w'.heap[N]? = some (.cells #[.string ⟨#[65, 116, 111, 105]⟩, .string s, ev] 189 (0, 0)) ∧ Below w.heap.size w w' := by
  cases q : Lib.atoiAll s.data.toList with
  | ok v => exact absurd q (h1 v)
  | range => exact absurd q h2
  | _ => exact Any.strconv_Atoi_syntax Tryz.laysC172 s hlim q ev w hv hev
open Go.RowKit in
theorem Tryz.strconv_Atoi_range (s : ByteArray) (hlim : s.size ≤ 281474976710656) (h : Lib.atoiAll s.data.toList = .range) (ev : Value) (w : World) (hv : w.cell? ⟨2, 0, none⟩ = some ev) (hev : ev = .nilIface ∨ ∃ te pe, ev = .iface te pe) :
    Calls Tryz.prog 96 #[.string s] w fun e w' => ∃ N, e = .returned (.tuple #[.int .i64 (Lib.atoiSat s.data.toList), .iface 167 (.pointer (some ⟨N, 0, none⟩))]) ∧ w.heap.size ≤ N ∧ w'.heap[N]? = some (.cells #[.string ⟨#[65, 116, 111, 105]⟩, .string s, ev] 189 (0, 0)) ∧ Below w.heap.size w w' := Any.strconv_Atoi_range Tryz.laysC172 s hlim h ev w hv hev
def Tryz.lays145_ren : Go.Shelf.Ren := ⟨fun | 145 => 93 | 220 => 129 | 219 => 162 | 217 => 184 | 225 => 185 | 224 => 186 | 267 => 187 | 266 => 200 | 314 => 201 | n => n, fun | 9 => 9 | 4 => 4 | 59 => 109 | 3 => 3 | 5 => 5 | 46 => 181 | 146 => 197 | 51 => 194 | n => n, fun | 1 => 0 | n => n⟩
theorem Tryz.lays145 : Go.Proofs.Lays.n145 Tryz.prog Tryz.lays145_ren := {
  mixed := by kernel_rfl
  f145 := Tryz.func93.trans (congrArg some (by kernel_rfl))
  f217 := Tryz.func184.trans (congrArg some (by kernel_rfl))
  f219 := Tryz.func162.trans (congrArg some (by kernel_rfl))
  f220 := Tryz.func129.trans (congrArg some (by kernel_rfl))
  f224 := Tryz.func186.trans (congrArg some (by kernel_rfl))
  f225 := Tryz.func185.trans (congrArg some (by kernel_rfl))
  f266 := Tryz.func200.trans (congrArg some (by kernel_rfl))
  f267 := Tryz.func187.trans (congrArg some (by kernel_rfl))
  f314 := Tryz.func201.trans (congrArg some (by kernel_rfl))
  t3 := Tryz.underlying3
  a3 := Tryz.isAgg3
  z3 := Tryz.sizeOf3
  v3 := Tryz.zeroValue3
  t4 := Tryz.underlying4
  a4 := Tryz.isAgg4
  z4 := Tryz.sizeOf4
  v4 := Tryz.zeroValue4
  t5 := Tryz.underlying5
  a5 := Tryz.isAgg5
  z5 := Tryz.sizeOf5
  v5 := Tryz.zeroValue5
  t9 := Tryz.underlying9
  a9 := Tryz.isAgg9
  z9 := Tryz.sizeOf9
  v9 := Tryz.zeroValue9
  t46 := Tryz.underlying181
  a46 := Tryz.isAgg181
  z46 := Tryz.sizeOf181
  v46 := Tryz.zeroValue181
  t51 := Tryz.underlying194
  a51 := Tryz.isAgg194
  z51 := Tryz.sizeOf194
  v51 := Tryz.zeroValue194
  t59 := Tryz.underlying109
  a59 := Tryz.isAgg109
  z59 := Tryz.sizeOf109
  v59 := Tryz.zeroValue109
  t146 := Tryz.underlying197
  a146 := Tryz.isAgg197
  z146 := Tryz.sizeOf197
  v146 := Tryz.zeroValue197
  g1 := by kernel_rfl }
open Go.RowKit Go.Lib in
theorem Tryz.strings_Cut (s sep : ByteArray) (m : Int) (w : World) (hs : s.size < 4294967281) (hm : w.cell? ⟨0, 0, none⟩ = some (.int .i64 m)) :
    Calls Tryz.prog 93 #[.string s, .string sep] w fun e w' => e = .returned (.tuple #[.string ⟨(Lib.cut s.data.toList sep.data.toList).1.toArray⟩, .string ⟨(Lib.cut s.data.toList sep.data.toList).2.1.toArray⟩, .bool (Lib.cut s.data.toList sep.data.toList).2.2]) ∧ ∃ n, w' = w.drewN n := Any.strings_Cut Tryz.lays145 s sep m w hs hm
def Tryz.lays99_ren : Go.Shelf.Ren := ⟨fun | 99 => 163 | 206 => 125 | n => n, fun | 9 => 9 | 4 => 4 | 3 => 3 | n => n, fun | n => n⟩
theorem Tryz.lays99 : Go.Proofs.Lays.n99 Tryz.prog Tryz.lays99_ren := {
  mixed := by kernel_rfl
  f99 := Tryz.func163.trans (congrArg some (by kernel_rfl))
  f206 := Tryz.func125.trans (congrArg some (by kernel_rfl))
  t3 := Tryz.underlying3
  a3 := Tryz.isAgg3
  z3 := Tryz.sizeOf3
  v3 := Tryz.zeroValue3
  t4 := Tryz.underlying4
  a4 := Tryz.isAgg4
  z4 := Tryz.sizeOf4
  v4 := Tryz.zeroValue4
  t9 := Tryz.underlying9
  a9 := Tryz.isAgg9
  z9 := Tryz.sizeOf9
  v9 := Tryz.zeroValue9 }
open Go.RowKit Go.Lib in
theorem Tryz.strings_HasPrefix (s p : ByteArray) (w : World) :
    Calls Tryz.prog 163 #[.string s, .string p] w fun e w' => e = .returned (.bool (Lib.hasPrefix s.data.toList p.data.toList)) ∧ w' = w := Any.strings_HasPrefix Tryz.lays99 s p w
def Tryz.lays146_ren : Go.Shelf.Ren := ⟨fun | 146 => 95 | 221 => 131 | 268 => 164 | 138 => 165 | 143 => 166 | 195 => 188 | 197 => 189 | 218 => 190 | 219 => 162 | 260 => 202 | 217 => 184 | 225 => 185 | 224 => 186 | 267 => 187 | 266 => 200 | 314 => 201 | n => n, fun | 9 => 9 | 31 => 74 | 3 => 3 | 4 => 4 | 0 => 0 | 105 => 183 | 21 => 21 | 5 => 5 | 46 => 181 | 119 => 204 | 139 => 207 | 138 => 206 | 146 => 197 | 51 => 194 | n => n, fun | 1 => 0 | 3 => 4 | 4 => 5 | n => n⟩
theorem Tryz.lays146 : Go.Proofs.Lays.n146 Tryz.prog Tryz.lays146_ren := {
  mixed := by kernel_rfl
  f138 := Tryz.func165.trans (congrArg some (by kernel_rfl))
  f143 := Tryz.func166.trans (congrArg some (by kernel_rfl))
  f146 := Tryz.func95.trans (congrArg some (by kernel_rfl))
  f195 := Tryz.func188.trans (congrArg some (by kernel_rfl))
  f197 := Tryz.func189.trans (congrArg some (by kernel_rfl))
  f217 := Tryz.func184.trans (congrArg some (by kernel_rfl))
  f218 := Tryz.func190.trans (congrArg some (by kernel_rfl))
  f219 := Tryz.func162.trans (congrArg some (by kernel_rfl))
  f221 := Tryz.func131.trans (congrArg some (by kernel_rfl))
  f224 := Tryz.func186.trans (congrArg some (by kernel_rfl))
  f225 := Tryz.func185.trans (congrArg some (by kernel_rfl))
  f260 := Tryz.func202.trans (congrArg some (by kernel_rfl))
  f266 := Tryz.func200.trans (congrArg some (by kernel_rfl))
  f267 := Tryz.func187.trans (congrArg some (by kernel_rfl))
  f268 := Tryz.func164.trans (congrArg some (by kernel_rfl))
  f314 := Tryz.func201.trans (congrArg some (by kernel_rfl))
  t0 := Tryz.underlying0
  a0 := Tryz.isAgg0
  z0 := Tryz.sizeOf0
  v0 := Tryz.zeroValue0
  t3 := Tryz.underlying3
  a3 := Tryz.isAgg3
  z3 := Tryz.sizeOf3
  v3 := Tryz.zeroValue3
  t4 := Tryz.underlying4
  a4 := Tryz.isAgg4
  z4 := Tryz.sizeOf4
  v4 := Tryz.zeroValue4
  t5 := Tryz.underlying5
  a5 := Tryz.isAgg5
  z5 := Tryz.sizeOf5
  v5 := Tryz.zeroValue5
  t9 := Tryz.underlying9
  a9 := Tryz.isAgg9
  z9 := Tryz.sizeOf9
  v9 := Tryz.zeroValue9
  t21 := Tryz.underlying21
  a21 := Tryz.isAgg21
  z21 := Tryz.sizeOf21
  v21 := Tryz.zeroValue21
  t31 := Tryz.underlying74
  a31 := Tryz.isAgg74
  z31 := Tryz.sizeOf74
  v31 := Tryz.zeroValue74
  t46 := Tryz.underlying181
  a46 := Tryz.isAgg181
  z46 := Tryz.sizeOf181
  v46 := Tryz.zeroValue181
  t51 := Tryz.underlying194
  a51 := Tryz.isAgg194
  z51 := Tryz.sizeOf194
  v51 := Tryz.zeroValue194
  t105 := Tryz.underlying183
  a105 := Tryz.isAgg183
  z105 := Tryz.sizeOf183
  v105 := Tryz.zeroValue183
  t119 := Tryz.underlying204
  a119 := Tryz.isAgg204
  z119 := Tryz.sizeOf204
  t138 := Tryz.underlying206
  a138 := Tryz.isAgg206
  z138 := Tryz.sizeOf206
  v138 := Tryz.zeroValue206
  t139 := Tryz.underlying207
  a139 := Tryz.isAgg207
  z139 := Tryz.sizeOf207
  v139 := Tryz.zeroValue207
  t146 := Tryz.underlying197
  a146 := Tryz.isAgg197
  z146 := Tryz.sizeOf197
  v146 := Tryz.zeroValue197
  g1 := by kernel_rfl
  g3 := by kernel_rfl
  g4 := by kernel_rfl }
open Go.RowKit Go.Lib in
theorem Tryz.strings_Split (s sep : ByteArray) (m : Int) (w : World) (hs : s.size < 4294967281) (hm : w.cell? ⟨0, 0, none⟩ = some (.int .i64 m)) (h1 : 1 ≤ sep.size) :
    Calls Tryz.prog 95 #[.string s, .string sep] w fun e w' =>
      e = .returned (.slice (some ⟨w.heap.size, 0, none⟩) (Lib.countB s sep + 1) (Lib.countB s sep + 1)) ∧ w' = w.alloc (.cells ((Lib.splitB sep 0 (Lib.countB s sep) s).map Value.string).toArray 9) := Any.strings_Split Tryz.lays146 (by kernel_rfl) s sep m w hs hm h1
def Tryz.lays166_ren : Go.Shelf.Ren := ⟨fun | 166 => 114 | 240 => 152 | 276 => 177 | n => n, fun | 0 => 0 | 3 => 3 | 4 => 4 | 5 => 5 | 9 => 9 | 20 => 20 | 37 => 35 | 70 => 131 | 72 => 133 | 75 => 113 | 80 => 134 | 164 => 172 | n => n, fun | n => n⟩
theorem Tryz.lays166 : Go.Proofs.Lays.n166 Tryz.prog Tryz.lays166_ren := {
  mixed := by kernel_rfl
  f166 := Tryz.func114.trans (congrArg some (by kernel_rfl))
  f240 := Tryz.func152.trans (congrArg some (by kernel_rfl))
  f276 := Tryz.func177.trans (congrArg some (by kernel_rfl))
  t0 := Tryz.underlying0
  a0 := Tryz.isAgg0
  z0 := Tryz.sizeOf0
  v0 := Tryz.zeroValue0
  t3 := Tryz.underlying3
  a3 := Tryz.isAgg3
  z3 := Tryz.sizeOf3
  v3 := Tryz.zeroValue3
  t4 := Tryz.underlying4
  a4 := Tryz.isAgg4
  z4 := Tryz.sizeOf4
  v4 := Tryz.zeroValue4
  t9 := Tryz.underlying9
  a9 := Tryz.isAgg9
  z9 := Tryz.sizeOf9
  v9 := Tryz.zeroValue9
  t20 := Tryz.underlying20
  a20 := Tryz.isAgg20
  z20 := Tryz.sizeOf20
  v20 := Tryz.zeroValue20
  t37 := Tryz.underlying35
  a37 := Tryz.isAgg35
  z37 := Tryz.sizeOf35
  v37 := Tryz.zeroValue35
  t70 := Tryz.underlying131
  a70 := Tryz.isAgg131
  z70 := Tryz.sizeOf131
  v70 := Tryz.zeroValue131
  t72 := Tryz.underlying133
  a72 := Tryz.isAgg133
  z72 := Tryz.sizeOf133
  v72 := Tryz.zeroValue133
  t75 := Tryz.underlying113
  a75 := Tryz.isAgg113
  z75 := Tryz.sizeOf113
  v75 := Tryz.zeroValue113
  t164 := Tryz.underlying172
  a164 := Tryz.isAgg172
  z164 := Tryz.sizeOf172
  v164 := Tryz.zeroValue172 }
theorem Tryz.Builder_Extra_166 : Builder.Extra Tryz.prog Tryz.lays166_ren := {
  sizeBuilder := by kernel_rfl
  liesBuilder := by kernel_rfl
  t5 := Tryz.underlying5
  a5 := Tryz.isAgg5
  z5 := Tryz.sizeOf5
  v5 := Tryz.zeroValue5
  infoByte := by kernel_rfl
  cellsByte := by kernel_rfl
  sizeByte := by kernel_rfl
  neB5 := by decide }
open Go.RowKit in
theorem Tryz.Builder_WriteString (B b : Nat) (bs : List Value) (s : ByteArray) (w : World) (h : Lib.IsBuilder 133 5 B b bs w) (hlen : bs.length + s.size ≤ 140737488355328) (hBw : B ≤ w.heap.size) :
    Calls Tryz.prog 114 #[.pointer (some ⟨b, 0, none⟩), .string s] w fun e w' => e = .returned (.tuple #[.int .i64 s.size, .nilIface]) ∧ (Lib.BuilderAt 133 5 B b (.pointer (some ⟨b, 0, none⟩)) (bs ++ Lib.strCells s) w' ∧ Below B w w') := Any.Builder_WriteString Tryz.lays166 Tryz.Builder_Extra_166 B b bs s w h hlen hBw
end Go.Proofs

/-
  The library's contracts: joined texts. No condition.
-/
set_option linter.unusedVariables false
set_option linter.unusedSimpArgs false
namespace Pl
open Go
end Pl
namespace Cg
open Go Go.Proofs Pl
theorem Ext.ofBelow {w w' : World} (h : Go.RowKit.Below w.heap.size w w') : Ext w w' := ⟨h.os, h.tape, h.output, h.size, h.block⟩
end Cg

/-
  What is left to show of each function's code, printed by a program: Same. No condition.
-/
set_option maxRecDepth 100000
set_option linter.unusedVariables false
namespace Cg
open Go Go.Proofs
end Cg

/-
  What is left to show of each function's code, printed by a program: Cnf. No condition.
-/
set_option maxRecDepth 100000
set_option linter.unusedVariables false
namespace Cg
open Go Go.Proofs
end Cg

/-
  The codes' contracts: clause sets. No condition.
-/
set_option linter.unusedVariables false
set_option linter.unusedSimpArgs false
set_option maxRecDepth 100000
namespace Cg
open Go Go.Proofs

end Cg

/-
  The codes' contracts: atoms, formulas, explanations, cases: sizes, copies, equality. No condition.
-/
set_option linter.unusedVariables false
set_option linter.unusedSimpArgs false
set_option maxRecDepth 100000
set_option maxHeartbeats 1000000
namespace Cg
open Go Go.Proofs Pl
section
variable {α : Type} {f : α → Nat}
theorem SmTrs.mem {l : List (Tree α)} (h : SmTrs f l) {t : Tree α} (ht : t ∈ l) : SmTr f t := by
  have := costTr_mem (f := f) ht
  have h1 : l.length + costTrs f l ≤ 1048576 := h
  show costTr f t ≤ 1048576
  omega
theorem SmTrs.len {l : List (Tree α)} (h : SmTrs f l) : l.length ≤ 1048576 := by
  have h1 : l.length + costTrs f l ≤ 1048576 := h
  omega
theorem SmTr.kids {v : α} {ks : List (Tree α)} (h : SmTr f (.mk v ks)) : SmTrs f ks := by
  have h1 : costTr f (.mk v ks) ≤ 1048576 := h
  rw [costTr_eq] at h1
  simp only [Tree.val, Tree.kids] at h1
  show ks.length + costTrs f ks ≤ 1048576
  omega
theorem SmTr.here {v : α} {ks : List (Tree α)} (h : SmTr f (.mk v ks)) : f v ≤ 1048576 := by
  have h1 : costTr f (.mk v ks) ≤ 1048576 := h
  rw [costTr_eq] at h1
  simp only [Tree.val, Tree.kids] at h1
  omega
end
theorem SmA.parts {x : Atm} (h : SmA x) : SmT (.mk x.2.1.1 x.2.1.2) ∧ SmT (.mk x.2.2.1.1 x.2.2.1.2) ∧ SmTs x.2.2.2.1 ∧ x.2.2.2.2.1.length ≤ 1048576 := by
  have h1 : costA x ≤ 1048576 := h
  unfold costA at h1
  refine ⟨?_, ?_, ?_, by omega⟩
  · show costT _ ≤ _; omega
  · show costT _ ≤ _; omega
  · show _ + _ ≤ _; omega

end Cg

/-
  The codes' contracts: valid atoms. No condition.
-/
set_option linter.unusedVariables false
set_option linter.unusedSimpArgs false
set_option maxRecDepth 100000
set_option maxHeartbeats 1000000
namespace Pl
open Go Cg
theorem textBs_map : ∀ l : List Tm, textBs l = l.map textB
  | [] => rfl
  | t :: ts => by simp only [textBs, List.map_cons, textBs_map ts]
theorem interL_len (sep : List UInt8) (h1 : sep.length = 1) : ∀ ts : List (List UInt8), (interL sep ts).length ≤ sumN List.length ts + ts.length - 1
  | [] => by simp [interL]
  | [x] => by simp [interL, sumN]
  | x :: y :: r => by
    have := interL_len sep h1 (y :: r)
    simp only [interL, List.length_append, sumN, List.length_cons] at this ⊢
    omega
theorem textB_mk (v : ByteArray) (ks : List Tm) : textB (.mk v ks) = if ks = [] then bl' v else spellB (bl' v) (textBs ks) ++ [41] := by
  rw [textB]
  cases ks with
  | nil => rfl
  | cons k r => simp [spellB, textBs]
mutual
theorem textB_len : ∀ t : Tm, (textB t).length ≤ 2 * costT t
  | .mk v ks => by
    have h := textBs_len ks
    have hl := interL_len [44] rfl (textBs ks)
    have hm : (textBs ks).length = ks.length := by rw [textBs_map]; simp
    rw [textB_mk]
    rw [costT]
    have e : (bl' v).length = v.size := rfl
    by_cases h0 : ks = []
    · rw [if_pos h0]; omega
    · rw [if_neg h0]
      have hp : 0 < ks.length := by cases ks with
        | nil => exact absurd rfl h0
        | cons _ _ => simp
      have hq : (textBs ks).isEmpty = false := by cases hh : textBs ks with
        | nil => rw [hh] at hm; simp at hm; omega
        | cons _ _ => rfl
      unfold spellB
      rw [hq]
      simp only [Bool.false_eq_true, if_false, List.length_append, List.length_singleton]
      omega
theorem textBs_len : ∀ l : List Tm, sumN List.length (textBs l) ≤ 2 * costTs l
  | [] => by simp [textBs, sumN]
  | t :: ts => by
    have h1 := textB_len t
    have h2 := textBs_len ts
    simp only [textBs, sumN, costTs]
    omega
end
@[simp] theorem mkB_list (l : List UInt8) : (mkB l).data.toList = l := rfl
@[simp] theorem mkB_size (l : List UInt8) : (mkB l).size = l.length := rfl
end Pl
namespace Cg
open Go Go.Proofs Pl
end Cg

/-
  What is left to show of each function's code, printed by a program: Lit. No condition.
-/
set_option maxRecDepth 100000
set_option linter.unusedVariables false
namespace Cg
open Go Go.Proofs
end Cg

/-
  The codes' contracts: lists of literals: sizes, copies, equality. No condition.
-/
set_option linter.unusedVariables false
set_option linter.unusedSimpArgs false
set_option maxRecDepth 100000
set_option maxHeartbeats 1000000
namespace Cg
open Go Go.Proofs Pl
theorem SmLs.mem {l : List Ltr} (h : SmLs l) {x : Ltr} (hx : x ∈ l) : SmA x.1 := by
  have h1 : l.length + sumN costL l ≤ 1048576 := h
  have h2 := sumN_mem costL hx
  have h3 : costL x = costA x.1 := rfl
  show costA x.1 ≤ 1048576
  omega
theorem SmLs.len {l : List Ltr} (h : SmLs l) : l.length ≤ 1048576 := by
  have h1 : l.length + sumN costL l ≤ 1048576 := h
  omega
end Cg

/-
  The codes' contracts: texts. No condition.
-/
set_option linter.unusedVariables false
set_option linter.unusedSimpArgs false
set_option maxRecDepth 100000
namespace Pl
open Go Cg
theorem bapp (a b : List UInt8) : mkB a ++ mkB b = mkB (a ++ b) := by
  apply ByteArray.ext
  rw [ByteArray.data_append]
  apply Array.toList_inj.1
  rw [Array.toList_append]
  rfl
theorem lit0 : ByteArray.mk #[] = mkB [] := rfl
theorem lit1 (a : UInt8) : ByteArray.mk #[a] = mkB [a] := rfl
theorem lit2 (a b : UInt8) : ByteArray.mk #[a, b] = mkB [a, b] := rfl
theorem lit3 (a b c : UInt8) : ByteArray.mk #[a, b, c] = mkB [a, b, c] := rfl
theorem lit4 (a b c d : UInt8) : ByteArray.mk #[a, b, c, d] = mkB [a, b, c, d] := rfl
theorem dec_eq (n : Int) : dec n = mkB (itoa n) := rfl
theorem textT_eq (t : Tm) : textT t = mkB (textB t) := rfl
theorem byteS_eq (x : Int) : byteS x = mkB [UInt8.ofNat x.toNat] := rfl
theorem mkB_inj {a b : List UInt8} : mkB a = mkB b ↔ a = b := ⟨fun h => by
  have : (mkB a).data.toList = (mkB b).data.toList := by rw [h]
  exact this, fun h => by rw [h]⟩
theorem tx_no {ok : Bool} {l : List UInt8} (h : ok = false) : tx ok l = mkB [] := by unfold tx; rw [if_neg (by rw [h]; decide)]; rfl
theorem tx_yes {ok : Bool} {l : List UInt8} (h : ok = true) : tx ok l = mkB l := by unfold tx; rw [if_pos h]
theorem catB_step {α : Type} (d : α) (f : α → List UInt8) {l : List α} {k : Nat} (h : k < l.length) : catB f (l.take (k + 1)) = catB f (l.take k) ++ f (l.getD k d) := by
  rw [Pl.take_getD d h]
  simp [catB]
theorem catB_len {α : Type} (f : α → List UInt8) (c : Nat) : ∀ {l : List α}, (∀ x ∈ l, (f x).length ≤ c) → (catB f l).length ≤ l.length * c
  | [], _ => Nat.zero_le _
  | x :: xs, h => by
    have h1 := h x List.mem_cons_self
    have h2 := catB_len f c (l := xs) fun y hy => h y (List.mem_cons_of_mem _ hy)
    have e : catB f (x :: xs) = f x ++ catB f xs := rfl
    rw [e, List.length_append, List.length_cons, Nat.succ_mul]; omega
theorem catB_take {α : Type} (f : α → List UInt8) (c : Nat) {l : List α} (h : ∀ x ∈ l, (f x).length ≤ c) (k : Nat) : (catB f (l.take k)).length ≤ l.length * c := by
  have h1 := catB_len f c (l := l.take k) fun x hx => h x (List.mem_of_mem_take hx)
  have h2 : (l.take k).length * c ≤ l.length * c := Nat.mul_le_mul_right _ (by simp; omega)
  omega
theorem digits_len : ∀ (k u : Nat), u < 10 ^ (k + 1) → (Go.Lib.decDigits u).length ≤ k + 1
  | 0, u, h => by rw [Go.Lib.decDigits, dif_pos (by simpa using h)]; simp
  | k + 1, u, h => by
    rw [Go.Lib.decDigits]
    split
    · simp
    · have := digits_len k (u / 10) (by rw [Nat.pow_succ] at h; omega)
      simp; omega
theorem itoa_len {n : Int} (h : In64 n) : (itoa n).length ≤ 21 := by
  obtain ⟨h1, h2⟩ := h
  unfold itoa Go.Lib.itoa
  split
  · have := digits_len 19 n.natAbs (by omega)
    simp only [List.length_cons]; omega
  · have := digits_len 19 n.toNat (by omega)
    omega
theorem ratB_len {q : Rt} (h : ratOk q = true) : (ratB q).length ≤ 43 := by
  have h' := ratOk_iff.1 h
  have j1 := itoa_len (n := q.1) ⟨by omega, by omega⟩
  have j2 := itoa_len (n := q.2) ⟨by omega, by omega⟩
  unfold ratB
  split
  · omega
  · simp only [List.length_append, List.length_singleton]; omega
theorem catB_all {α : Type} (f : α → List UInt8) {l : List α} {k : Nat} (h : l.length ≤ k) : catB f (l.take k) = catB f l := by rw [List.take_of_length_le h]
theorem row_facts {r : Rw} (h : rowOk r = true) : (bl' r.1).length ≤ 2 ∧ r.2.1.length ≤ 2 ∧ ratOk r.2.2 = true ∧ ∀ q ∈ r.2.1, ratOk q = true := by
  obtain ⟨h1, h2, h3, h4⟩ := rowOk_iff.1 h
  simp only [nameOk, Bool.and_eq_true, decide_eq_true_eq] at h1
  exact ⟨h1.1.2, h2, h3, List.all_eq_true.1 h4⟩
theorem spC_len {l : List Rt} (h1 : l.length ≤ 2) (h2 : ∀ q ∈ l, ratOk q = true) (k : Nat) : (catB spB (l.take k)).length ≤ 88 := by
  have := catB_take spB 44 (l := l) (fun q hq => by have := ratB_len (h2 q hq); unfold spB; simp; omega) k
  omega
theorem rwB_len {r : Rw} (h : rowOk r = true) : (rwB r).length ≤ 136 := by
  obtain ⟨h1, h2, h3, h4⟩ := row_facts h
  have := spC_len h2 h4 r.2.1.length
  rw [List.take_length] at this
  have := ratB_len h3
  unfold rwB
  simp only [List.length_append, List.length_cons, List.length_nil]
  omega
theorem model_facts {m : Mdl} (h : mRight m = true) : m.length ≤ 40 ∧ ∀ r ∈ m, rowOk r = true := by
  simp only [mRight, Bool.and_eq_true, decide_eq_true_eq] at h
  exact ⟨h.2, mL_mem h.1⟩
theorem modelB_len {m : Mdl} (h : mRight m = true) (k : Nat) : (modelB (m.take k)).length ≤ 5480 := by
  obtain ⟨h1, h2⟩ := model_facts h
  have := catB_take lineR 137 (l := m) (fun r hr => by have := rwB_len (h2 r hr); unfold lineR; simp; omega) k
  unfold modelB
  omega
theorem in64_ok {q : Rt} (h : ratOk q = true) : In64 q.1 ∧ In64 q.2 := by
  rw [ratOk_iff] at h
  exact ⟨⟨by omega, by omega⟩, ⟨by omega, by omega⟩⟩
end Pl
namespace Cg
open Go Go.Proofs Pl
theorem Ext.grow (w : World) (k : Nat) (os : Array Obj) : Ext w (Go.Sort.grow (w.drewN k) os) := ⟨rfl, rfl, rfl, by show _ ≤ (w.heap ++ os).size; simp, fun b hb => by show (w.heap ++ os)[b]? = _; rw [Array.getElem?_append_left hb]⟩
theorem tab_pow {S : Nat → Prop} {w : World} (h : Gl S w) : Go.Lib.TabIs Tryz.prog w "internal/strconv.uint64pow10" .u64 Go.Lib.pow10Tab := by
  obtain ⟨h1, c, T, fr, h2, h3⟩ := h _ List.mem_cons_self
  unfold Go.Lib.TabIs World.var?
  rw [show Tryz.prog.globalNamed "internal/strconv.uint64pow10" = some 3 by kernel_rfl]
  have h2 : w.heap[(3 : Nat)]? = some (.cells c T fr) := h2
  have h3 : c = ((List.range 20).map fun i => Value.int .u64 ((10 ^ i : Nat) : Int)).toArray := h3
  simp only [Option.bind_some, h2, h3]
  unfold Go.Lib.pow10Tab
  rw [List.map_map]
  rfl
theorem k_Itoa : SoundC Tryz.prog K_Itoa.1 K_Itoa.2 := ⟨callable_of (by kernel_rfl), fun x hx S w vals hin hgl hrel => by
  obtain ⟨y0, r0, rfl, ha, hc⟩ := hrel
  cases hc
  have ha : y0 = .int .i64 x := ha
  subst ha
  exact (Tryz.strconv_Itoa x (Int.le_trans (by decide) hx.1) hx.2 w (tab_pow hgl)).mono fun e w' ⟨he, k, os, hw⟩ => by
    subst hw
    exact ⟨_, S, he, Ext.grow w k os, fun _ h => h, fun _ h => .inl h, fun b hb => Nat.lt_of_lt_of_le (hin b hb) (Ext.grow w k os).size, rfl⟩⟩
theorem digit_eq {m : Nat} (h : m < 10) : UInt8.ofNat (IntKind.u8.wrap (IntKind.i64.wrap (48 + (m : Int)))).toNat = UInt8.ofNat (48 + m) := by
  rw [wrap_small (by omega) (by omega)]
  congr 1
  have : IntKind.u8.wrap (48 + (m : Int)) = 48 + (m : Int) := by
    show (48 + (m : Int)) % 256 = _
    omega
  rw [this]; omega
theorem dec_step {m : Nat} (h : 9 < m) : itoa (m : Int) = itoa ((m / 10 : Nat) : Int) ++ [UInt8.ofNat (48 + m % 10)] := by
  unfold itoa Go.Lib.itoa
  rw [if_neg (by omega), if_neg (by omega)]
  show Go.Lib.decDigits m = Go.Lib.decDigits (m / 10) ++ _
  rw [Go.Lib.decDigits, dif_neg (by omega)]
theorem dec_last {m : Nat} (h : m < 10) : itoa (m : Int) = [UInt8.ofNat (48 + m)] := by
  unfold itoa Go.Lib.itoa
  rw [if_neg (by omega)]
  show Go.Lib.decDigits m = _
  rw [Go.Lib.decDigits, dif_pos h]
set_option maxHeartbeats 8000000 in
theorem g_l16Dec (n : Nat) (x : Int) (h1 : In64 x) (h2 : (if x < 0 then 1 else 0) < n + 1) : GoalW Tryz.prog [K_l16Dec n] (A_l16Dec x) (K_l16Dec (n + 1)).1 (K_l16Dec (n + 1)).2 x := GoalW.of (vc_l16Dec n x) (by
  simp (maxSteps := 2000000) [-List.getD_eq_getElem?_getD, -List.mem_cons, -Bool.forall_bool, -Bool.exists_bool, and_assoc, peta, tl_inj, ex_1, ex_2, ex_3, ex_4, ex_5, ex_6, ex_7, ex_8, ex_9, ey_2, ey_3, ey_4, ey_5, ey_6, ey_7, ey_8, ey_9]
  obtain ⟨b1, b2⟩ := h1
  refine ⟨fun hn => by omega, fun hn => ⟨fun h0 => ?_, fun h0 => ⟨⟨x.toNat, ⟨by omega, by omega⟩, h0, ?_, by omega⟩, fun a b ha _ he => ⟨fun h9 => ?_, fun h9 => ?_⟩⟩⟩⟩
  · have e : IntKind.i64.wrap (-x) = -x := wrap_small (by omega) (by omega)
    have i1 := itoa_len (n := -x) ⟨by omega, by omega⟩
    rw [e]
    rw [if_pos h0] at h2
    refine ⟨⟨by omega, by omega⟩, by rw [if_neg (by omega)]; omega, ?_, ?_⟩
    · show 1 + ((itoa (-x)).length : Int) ≤ _
      omega
    · rw [lit1, dec_eq, bapp]
      unfold dec itoa Go.Lib.itoa
      rw [if_pos h0, if_neg (by omega), show (-x).toNat = x.natAbs by omega]
      rfl
  · rw [lit0, dec_eq, dec_eq, bapp, List.append_nil, Int.toNat_of_nonneg h0]
  · have i1 := itoa_len (n := x) ⟨b1, b2⟩
    have hz : (dec x).size = (dec (a : Int)).size + b.size := by rw [he]; simp
    have hz : (itoa x).length = (itoa (a : Int)).length + b.size := hz
    rw [show ((a : Int)).tmod 10 = ((a % 10 : Nat) : Int) from rfl, digit_eq (Nat.mod_lt _ (by omega))]
    refine ⟨?_, a / 10, ⟨by omega, by have := ha.2; omega⟩, h0, ?_, by omega, ?_⟩
    · show (1 : Int) + b.size ≤ _
      omega
    · rw [he, dec_eq, dec_step (by omega), lit1, ← bapp, ByteArray.append_assoc]; rfl
    · rw [wrap_small (by have := ha.2; omega) (by have := ha.2; omega)]; rfl
  · have i1 := itoa_len (n := x) ⟨b1, b2⟩
    have hz : (dec x).size = (dec (a : Int)).size + b.size := by rw [he]; simp
    have hz : (itoa x).length = (itoa (a : Int)).length + b.size := hz
    rw [digit_eq (by omega)]
    refine ⟨?_, ?_⟩
    · show (1 : Int) + b.size ≤ _
      omega
    · rw [he, dec_eq, dec_last (by omega), lit1])
theorem k_l16Dec (n : Nat) : SoundC Tryz.prog (K_l16Dec n).1 (K_l16Dec n).2 := by
  induction n with
  | zero => exact sound_of hm CtxOK.nil (fun _ => []) (by kernel_rfl) fun x h => absurd h.2 (Nat.not_lt_zero _)
  | succ n ih => exact sound_ofW hm (CtxOK.nil.and (K := K_l16Dec n) ih) (fun (x : Int) => A_l16Dec x) (by kernel_rfl) fun (x : Int) hb => g_l16Dec n x hb.1 hb.2
theorem k_dec : SoundC Tryz.prog K_dec.1 K_dec.2 := SoundC.fam (fun (x : Int) => if x < 0 then 1 else 0) fun n => k_l16Dec n
set_option maxHeartbeats 8000000 in
theorem g_sRatText (x : Pl.Rt)  : GoalW Tryz.prog [K_sRatOk, K_dec] ([]) K_sRatText.1 K_sRatText.2 (x) := GoalW.of (vc_sRatText x) (by
  simp only [lit0, lit1, lit2, lit3, lit4, dec_eq, textT_eq, byteS_eq, bapp, mkB_size, mkB_inj]
  simp (maxSteps := 2000000) [-List.getD_eq_getElem?_getD, -List.mem_cons, -Bool.forall_bool, -Bool.exists_bool, and_assoc, peta, tl_inj, ex_1, ex_2, ex_3, ex_4, ex_5, ex_6, ex_7, ex_8, ex_9, ey_2, ey_3, ey_4, ey_5, ey_6, ey_7, ey_8, ey_9]
  refine ⟨fun h => (tx_no h).symm, fun h => ?_⟩
  obtain ⟨i1, i2⟩ := in64_ok h
  have j1 := itoa_len i1
  have j2 := itoa_len i2
  rw [tx_yes h]
  exact ⟨fun h2 => ⟨i1, by unfold ratB; rw [if_pos h2]⟩, fun h2 => ⟨i1, by omega, i2, by omega, by unfold ratB; rw [if_neg h2]; simp⟩⟩)
theorem k_sRatText : SoundC Tryz.prog K_sRatText.1 K_sRatText.2 := sound_ofW hm ((CtxOK.nil.and k_dec).and k_sRatOk) (fun (x : Pl.Rt) => []) (by kernel_rfl) fun (x : Pl.Rt) hb => g_sRatText x 
set_option maxHeartbeats 8000000 in
theorem g_ratText (x : Pl.Rt) (h1 : ratOk x = true) : GoalW Tryz.prog [K_Itoa] ([]) K_ratText.1 K_ratText.2 (x) := GoalW.of (vc_ratText x) (by
  simp only [lit0, lit1, lit2, lit3, lit4, dec_eq, textT_eq, byteS_eq, bapp, mkB_size, mkB_inj]
  simp (maxSteps := 2000000) [-List.getD_eq_getElem?_getD, -List.mem_cons, -Bool.forall_bool, -Bool.exists_bool, and_assoc, peta, tl_inj, ex_1, ex_2, ex_3, ex_4, ex_5, ex_6, ex_7, ex_8, ex_9, ey_2, ey_3, ey_4, ey_5, ey_6, ey_7, ey_8, ey_9]
  obtain ⟨i1, i2⟩ := in64_ok h1
  have j1 := itoa_len i1
  have j2 := itoa_len i2
  exact ⟨fun h2 => ⟨i1, by unfold ratB; rw [if_pos h2]⟩, fun h2 => ⟨i1, by omega, i2, by omega, by unfold ratB; rw [if_neg h2]; simp⟩⟩)
theorem k_ratText : SoundC Tryz.prog K_ratText.1 K_ratText.2 := sound_ofW hm (CtxOK.nil.and k_Itoa) (fun (x : Pl.Rt) => []) (by kernel_rfl) fun (x : Pl.Rt) hb => g_ratText x hb
set_option maxHeartbeats 8000000 in
theorem g_sModelText (x : Pl.Mdl) (h1 : SmM x) : GoalW Tryz.prog [K_l7Right, K_sRatText] (A_sModelText x) K_sModelText.1 K_sModelText.2 (x) := GoalW.of (vc_sModelText x) (by
  simp only [lit0, lit1, lit2, lit3, lit4, dec_eq, textT_eq, byteS_eq, bapp, mkB_size, mkB_inj]
  simp (maxSteps := 2000000) [-List.getD_eq_getElem?_getD, -List.mem_cons, -Bool.forall_bool, -Bool.exists_bool, and_assoc, peta, tl_inj, ex_1, ex_2, ex_3, ex_4, ex_5, ex_6, ex_7, ex_8, ex_9, ey_2, ey_3, ey_4, ey_5, ey_6, ey_7, ey_8, ey_9]
  have hs := h1
  refine ⟨⟨0, by omega, .inr rfl, rfl, rfl⟩, fun k hk hr => ⟨fun hlt => ⟨h1, fun h2 => ?_, fun h2 => ?_⟩, fun hge => ?_⟩⟩
  · obtain ⟨g1, g2⟩ := model_facts h2
    have g3 := g2 _ (getD_mem dR hlt)
    obtain ⟨f1, f2, f3, f4⟩ := row_facts g3
    have f0 : (List.getD x k dR).1.size ≤ 2 := f1
    have g5 := modelB_len h2 k
    have i3 := ratB_len f3
    have e1 : (List.getD x k dR).1 = mkB (bl' (List.getD x k dR).1) := rfl
    refine ⟨hlt, by omega, hlt, h2, ⟨0, by omega, ?_, rfl⟩, fun j _ _ hj => ⟨hlt, fun hjl => ?_, fun hjg => ?_⟩⟩
    · show _ = mkB (_ ++ (_ ++ []))
      rw [List.append_nil, ← bapp]; rfl
    · have g4 := spC_len f2 f4 j
      have i4 := f4 _ (getD_mem dQ hjl)
      have i5 := ratB_len i4
      simp only [tx_yes i4, mkB_size, bapp, mkB_inj]
      refine ⟨by omega, hlt, hjl, by omega, hlt, h2, j + 1, hjl, by omega, ?_, wrap_small (by omega) (by omega)⟩
      rw [catB_step dQ spB hjl]
      simp [spB]
    · have g4 := spC_len f2 f4 j
      simp only [tx_yes f3, mkB_size, bapp, mkB_inj]
      refine ⟨by omega, hlt, by omega, by omega, k + 1, hlt, .inl h2, by omega, ?_, wrap_small (by omega) (by omega)⟩
      rw [catB_all _ hjg]
      refine Eq.trans ?_ (catB_step dR lineR hlt).symm
      simp only [lineR, rwB, modelB, List.append_assoc]
  · rcases hr with hr | hr
    · rw [hr] at h2; cases h2
    · subst hr; exact (tx_no h2).symm
  · rcases hr with hr | hr
    · rw [tx_yes hr, mkB_inj]; exact catB_all _ hge
    · have : x = [] := List.length_eq_zero_iff.1 (by omega)
      subst this; subst hr; rfl)
theorem k_sModelText : SoundC Tryz.prog K_sModelText.1 K_sModelText.2 := sound_ofW hm ((CtxOK.nil.and k_sRatText).and k_l7Right) (fun (x : Pl.Mdl) => A_sModelText x) (by kernel_rfl) fun (x : Pl.Mdl) hb => g_sModelText x hb
set_option maxHeartbeats 8000000 in
theorem g_rowtext (x : Pl.Rw) (h1 : rowOk x = true) : GoalW Tryz.prog [K_ratText] (A_rowtext x) K_rowtext.1 K_rowtext.2 (x) := GoalW.of (vc_rowtext x) (by
  simp only [lit0, lit1, lit2, lit3, lit4, dec_eq, textT_eq, byteS_eq, bapp, mkB_size, mkB_inj]
  simp (maxSteps := 2000000) [-List.getD_eq_getElem?_getD, -List.mem_cons, -Bool.forall_bool, -Bool.exists_bool, and_assoc, peta, tl_inj, ex_1, ex_2, ex_3, ex_4, ex_5, ex_6, ex_7, ex_8, ex_9, ey_2, ey_3, ey_4, ey_5, ey_6, ey_7, ey_8, ey_9]
  obtain ⟨f1, f2, f3, f4⟩ := row_facts h1
  have i3 := ratB_len f3
  have c3 := fun k => spC_len f2 f4 k
  refine ⟨⟨0, by omega, by show x.1 = mkB (bl' x.1 ++ []); rw [List.append_nil]; rfl, rfl⟩, fun k hk => ⟨fun hlt => ?_, fun hge => ?_⟩⟩
  · have c4 := c3 k
    have i4 := f4 _ (getD_mem dQ hlt)
    have i5 := ratB_len i4
    exact ⟨hlt, i4, by omega, by omega, k + 1, hlt, by omega, (catB_step dQ spB hlt).symm, wrap_small (by omega) (by omega)⟩
  · have c4 := c3 k
    refine ⟨by omega, f3, by omega, ?_⟩
    rw [catB_all _ hge]
    simp [rwB])
theorem k_rowtext : SoundC Tryz.prog K_rowtext.1 K_rowtext.2 := sound_ofW hm (CtxOK.nil.and k_ratText) (fun (x : Pl.Rw) => A_rowtext x) (by kernel_rfl) fun (x : Pl.Rw) hb => g_rowtext x hb
end Cg

/-
  A text is one thing's: no two right atoms have one text. No condition.
-/
set_option linter.unusedVariables false
set_option linter.unusedSimpArgs false
namespace Pl
open Go Cg
/-- Does a list open with a byte of a kind? -/
def opens (p : UInt8 → Bool) : List UInt8 → Bool
  | [] => false
  | c :: _ => p c
def dig (c : UInt8) : Bool := decide (48 ≤ c.toNat) && decide (c.toNat ≤ 57)
theorem split_all {p : UInt8 → Bool} : ∀ {a b r s : List UInt8}, a.all p = true → b.all p = true → opens p r = false → opens p s = false → a ++ r = b ++ s → a = b ∧ r = s
  | [], [], r, s, _, _, _, _, h => ⟨rfl, h⟩
  | [], y :: b, r, s, _, hb, hr, _, h => by
    simp only [List.nil_append, List.cons_append] at h
    subst h
    simp only [List.all_cons, Bool.and_eq_true] at hb
    simp [opens, hb.1] at hr
  | x :: a, [], r, s, ha, _, _, hs, h => by
    simp only [List.nil_append, List.cons_append] at h
    subst h
    simp only [List.all_cons, Bool.and_eq_true] at ha
    simp [opens, ha.1] at hs
  | x :: a, y :: b, r, s, ha, hb, hr, hs, h => by
    simp only [List.cons_append, List.cons.injEq] at h
    simp only [List.all_cons, Bool.and_eq_true] at ha hb
    obtain ⟨h1, h2⟩ := split_all ha.2 hb.2 hr hs h.2
    exact ⟨by rw [h.1, h1], h2⟩
theorem dig_of (d : Nat) (h : d < 10) : dig (UInt8.ofNat (48 + d)) = true := by
  have : d = 0 ∨ d = 1 ∨ d = 2 ∨ d = 3 ∨ d = 4 ∨ d = 5 ∨ d = 6 ∨ d = 7 ∨ d = 8 ∨ d = 9 := by omega
  rcases this with e | e | e | e | e | e | e | e | e | e <;> subst e <;> rfl
theorem dec_dig : ∀ (u : Nat), (Go.Lib.decDigits u).all dig = true := fun u => by
  induction u using Nat.strongRecOn with
  | ind u ih =>
    rw [Go.Lib.decDigits]
    split
    · rename_i h
      rw [List.all_cons, dig_of u h]; rfl
    · rename_i h
      rw [List.all_append, ih (u / 10) (by omega)]
      rw [List.all_cons, dig_of (u % 10) (Nat.mod_lt _ (by omega))]; rfl
def val (l : List UInt8) : Nat := l.foldl (fun a c => a * 10 + (c.toNat - 48)) 0
theorem val_dec (u : Nat) : val (Go.Lib.decDigits u) = u := by
  induction u using Nat.strongRecOn with
  | ind u ih =>
    rw [Go.Lib.decDigits]
    split
    · rename_i h
      show 0 * 10 + ((UInt8.ofNat (48 + u)).toNat - 48) = u
      have : (UInt8.ofNat (48 + u)).toNat = 48 + u := by rw [UInt8.toNat_ofNat']; omega
      rw [this]; omega
    · rename_i h
      unfold val
      rw [List.foldl_append]
      show (val (Go.Lib.decDigits (u / 10))) * 10 + ((UInt8.ofNat (48 + u % 10)).toNat - 48) = u
      have : (UInt8.ofNat (48 + u % 10)).toNat = 48 + u % 10 := by rw [UInt8.toNat_ofNat']; omega
      rw [ih (u / 10) (by omega), this]; omega
theorem dec_ne (u : Nat) : Go.Lib.decDigits u ≠ [] := by
  rw [Go.Lib.decDigits]
  split <;> simp
theorem dec_open (u : Nat) (r : List UInt8) : opens dig (Go.Lib.decDigits u ++ r) = true := by
  have h := dec_dig u
  cases e : Go.Lib.decDigits u with
  | nil => exact absurd e (dec_ne u)
  | cons c l => rw [e] at h; simp only [List.all_cons, Bool.and_eq_true] at h; exact h.1
theorem itoa_split {n m : Int} {r s : List UInt8} (hr : opens dig r = false) (hs : opens dig s = false) (h : itoa n ++ r = itoa m ++ s) : n = m ∧ r = s := by
  unfold itoa Go.Lib.itoa at h
  by_cases h1 : n < 0 <;> by_cases h2 : m < 0
  · rw [if_pos h1, if_pos h2] at h
    simp only [List.cons_append, List.cons.injEq, true_and] at h
    obtain ⟨e1, e2⟩ := split_all (dec_dig _) (dec_dig _) hr hs h
    have := congrArg val e1
    rw [val_dec, val_dec] at this
    exact ⟨by omega, e2⟩
  · rw [if_pos h1, if_neg h2] at h
    have := dec_open m.toNat s
    rw [← h] at this
    simp [opens, dig] at this
  · rw [if_neg h1, if_pos h2] at h
    have := dec_open n.toNat r
    rw [h] at this
    simp [opens, dig] at this
  · rw [if_neg h1, if_neg h2] at h
    obtain ⟨e1, e2⟩ := split_all (dec_dig _) (dec_dig _) hr hs h
    have := congrArg val e1
    rw [val_dec, val_dec] at this
    exact ⟨by omega, e2⟩
theorem itoa_head (n : Int) (r : List UInt8) : opens (fun c => dig c || decide (c = 45)) (itoa n ++ r) = true := by
  unfold itoa Go.Lib.itoa
  split
  · rfl
  · have := dec_open n.toNat r
    cases e : Go.Lib.decDigits n.toNat ++ r with
    | nil => rw [e] at this; cases this
    | cons c l => rw [e] at this; simp only [opens] at this ⊢; rw [this]; rfl
mutual
/-- Is every word of a term a name? -/
def named : Tm → Bool
  | .mk v ks => nameOk v && nameds ks
def nameds : List Tm → Bool
  | [] => true
  | t :: ts => named t && nameds ts
end
/-- What may stand behind a term. -/
def tail (r : List UInt8) : Bool := !opens lower r && !opens (fun c => decide (c = 40)) r
theorem tail_lower {r : List UInt8} (h : tail r = true) : opens lower r = false := by simp only [tail, Bool.and_eq_true, Bool.not_eq_true'] at h; exact h.1
theorem tail_open {r s : List UInt8} (h : tail r = true) : r ≠ 40 :: s := fun e => by subst e; cases h
theorem textB_open (v : ByteArray) (ks : List Tm) (r : List UInt8) : textB (.mk v ks) ++ r = bl' v ++ (if ks = [] then r else 40 :: (interL [44] (textBs ks) ++ 41 :: r)) := by
  rw [textB]
  cases ks with
  | nil => simp
  | cons k ks => simp
theorem name_lower {v : ByteArray} (h : nameOk v = true) : (bl' v).all lower = true := by
  simp only [nameOk, Bool.and_eq_true] at h; exact h.2
mutual
theorem text_split : ∀ (t u : Tm) (r s : List UInt8), named t = true → named u = true → tail r = true → tail s = true → textB t ++ r = textB u ++ s → t = u ∧ r = s
  | .mk v ks, .mk v' ks', r, s, ht, hu, hr, hs, h => by
    simp only [named, Bool.and_eq_true] at ht hu
    rw [textB_open, textB_open] at h
    have o : ∀ (ks : List Tm) (r : List UInt8), tail r = true → opens lower (if ks = [] then r else 40 :: (interL [44] (textBs ks) ++ 41 :: r)) = false := fun ks r hr => by
      split
      · exact tail_lower hr
      · rfl
    obtain ⟨e1, e2⟩ := split_all (name_lower ht.1) (name_lower hu.1) (o ks r hr) (o ks' s hs) h
    have e1 : v = v' := mkB_inj.2 e1
    subst e1
    by_cases h1 : ks = [] <;> by_cases h2 : ks' = []
    · rw [if_pos h1, if_pos h2] at e2; exact ⟨by rw [h1, h2], e2⟩
    · rw [if_pos h1, if_neg h2] at e2; exact absurd e2 (tail_open hr)
    · rw [if_neg h1, if_pos h2] at e2; exact absurd e2.symm (tail_open hs)
    · rw [if_neg h1, if_neg h2] at e2
      simp only [List.cons.injEq, true_and] at e2
      obtain ⟨e3, e4⟩ := texts_split ks ks' r s h1 h2 ht.2 hu.2 e2
      exact ⟨by rw [e3], e4⟩
theorem texts_split : ∀ (ts us : List Tm) (r s : List UInt8), ts ≠ [] → us ≠ [] → nameds ts = true → nameds us = true → interL [44] (textBs ts) ++ 41 :: r = interL [44] (textBs us) ++ 41 :: s → ts = us ∧ r = s
  | [], _, _, _, h, _, _, _, _ => absurd rfl h
  | [t], us, r, s, _, hu, h1, h2, h => by
    simp only [nameds, Bool.and_eq_true, Bool.and_true] at h1
    cases us with
    | nil => exact absurd rfl hu
    | cons u us =>
      simp only [nameds, Bool.and_eq_true] at h2
      cases us with
      | nil =>
        obtain ⟨e1, e2⟩ := text_split t u (41 :: r) (41 :: s) h1 h2.1 rfl rfl h
        simp only [List.cons.injEq, true_and] at e2
        exact ⟨by rw [e1], e2⟩
      | cons u2 us =>
        simp only [textBs, interL, List.append_assoc] at h
        obtain ⟨e1, e2⟩ := text_split t u (41 :: r) _ h1 h2.1 rfl rfl h
        simp at e2
  | t :: t2 :: ts, us, r, s, _, hu, h1, h2, h => by
    rw [nameds, Bool.and_eq_true] at h1
    cases us with
    | nil => exact absurd rfl hu
    | cons u us =>
      rw [nameds, Bool.and_eq_true] at h2
      cases us with
      | nil =>
        simp only [textBs, interL, List.append_assoc] at h
        obtain ⟨e1, e2⟩ := text_split t u _ (41 :: s) h1.1 h2.1 rfl rfl h
        simp at e2
      | cons u2 us =>
        have h' : textB t ++ (44 :: (interL [44] (textBs (t2 :: ts)) ++ 41 :: r)) = textB u ++ (44 :: (interL [44] (textBs (u2 :: us)) ++ 41 :: s)) := by
          simpa [textBs, interL] using h
        obtain ⟨e1, e2⟩ := text_split t u _ _ h1.1 h2.1 rfl rfl h'
        simp only [List.cons.injEq, true_and] at e2
        obtain ⟨e3, e4⟩ := texts_split (t2 :: ts) (u2 :: us) r s (by simp) (by simp) h1.2 h2.2 e2
        exact ⟨by rw [e1, e3], e4⟩
end
theorem rat_split {q p : Rt} {r s : List UInt8} (hr : opens dig r = false) (hs : opens dig s = false) (hr2 : opens (fun c => decide (c = 47)) r = false) (hs2 : opens (fun c => decide (c = 47)) s = false)
    (h : ratB q ++ r = ratB p ++ s) : q = p ∧ r = s := by
  obtain ⟨a, b⟩ := q
  obtain ⟨c, d⟩ := p
  unfold ratB at h
  dsimp only at h
  by_cases h1 : b = 1 <;> by_cases h2 : d = 1
  · rw [if_pos h1, if_pos h2] at h
    obtain ⟨e1, e2⟩ := itoa_split hr hs h
    exact ⟨by rw [e1, h1, h2], e2⟩
  · rw [if_pos h1, if_neg h2] at h
    have h : itoa a ++ r = itoa c ++ (47 :: (itoa d ++ s)) := by simpa using h
    obtain ⟨e1, e2⟩ := itoa_split hr rfl h
    subst e2; cases hr2
  · rw [if_neg h1, if_pos h2] at h
    have h : itoa a ++ (47 :: (itoa b ++ r)) = itoa c ++ s := by simpa using h
    obtain ⟨e1, e2⟩ := itoa_split rfl hs h
    subst e2; cases hs2
  · rw [if_neg h1, if_neg h2] at h
    have h : itoa a ++ (47 :: (itoa b ++ r)) = itoa c ++ (47 :: (itoa d ++ s)) := by simpa using h
    obtain ⟨e1, e2⟩ := itoa_split rfl rfl h
    simp only [List.cons.injEq, true_and] at e2
    obtain ⟨e3, e4⟩ := itoa_split hr hs e2
    exact ⟨by rw [e1, e3], e4⟩
theorem ratB_inj {q p : Rt} (h : ratB q = ratB p) : q = p := (rat_split (r := []) (s := []) rfl rfl rfl rfl (by rw [h])).1
theorem rats_split : ∀ {xs ys : List Rt} {r s : List UInt8}, catB spB xs ++ (32 :: 61 :: r) = catB spB ys ++ (32 :: 61 :: s) → xs = ys ∧ r = s
  | [], [], r, s, h => by simpa [catB] using h
  | q :: xs, [], r, s, h => by
    have e : ratB q ++ (catB spB xs ++ (32 :: 61 :: r)) = 61 :: s := by simpa [catB, spB] using h
    have : opens (fun c => dig c || decide (c = 45)) (ratB q ++ (catB spB xs ++ (32 :: 61 :: r))) = true := by
      unfold ratB
      split
      · exact itoa_head _ _
      · rw [List.append_assoc, List.append_assoc]; exact itoa_head _ _
    rw [e] at this; cases this
  | [], q :: ys, r, s, h => by
    have e : 61 :: r = ratB q ++ (catB spB ys ++ (32 :: 61 :: s)) := by simpa [catB, spB] using h
    have : opens (fun c => dig c || decide (c = 45)) (ratB q ++ (catB spB ys ++ (32 :: 61 :: s))) = true := by
      unfold ratB
      split
      · exact itoa_head _ _
      · rw [List.append_assoc, List.append_assoc]; exact itoa_head _ _
    rw [← e] at this; cases this
  | q :: xs, p :: ys, r, s, h => by
    have e : ratB q ++ (catB spB xs ++ (32 :: 61 :: r)) = ratB p ++ (catB spB ys ++ (32 :: 61 :: s)) := by simpa [catB, spB] using h
    have o : ∀ (p : UInt8 → Bool) (xs : List Rt) (r : List UInt8), p 32 = false → opens p (catB spB xs ++ (32 :: 61 :: r)) = false := fun p xs r hp => by
      cases xs with
      | nil => exact hp
      | cons q xs => exact hp
    obtain ⟨e1, e2⟩ := rat_split (o _ _ _ rfl) (o _ _ _ rfl) (o _ _ _ rfl) (o _ _ _ rfl) e
    obtain ⟨e3, e4⟩ := rats_split e2
    exact ⟨by rw [e1, e3], e4⟩
theorem name_split {v u : ByteArray} {r s : List UInt8} (hv : nameOk v = true) (hu : nameOk u = true) (hr : opens lower r = false) (hs : opens lower s = false) (h : bl' v ++ r = bl' u ++ s) : v = u ∧ r = s := by
  obtain ⟨e1, e2⟩ := split_all (name_lower hv) (name_lower hu) hr hs h
  exact ⟨mkB_inj.2 e1, e2⟩
theorem row_split {x y : Rw} {r s : List UInt8} (hx : rowOk x = true) (hy : rowOk y = true) (h : lineR x ++ r = lineR y ++ s) : x = y ∧ r = s := by
  have hx' := rowOk_iff.1 hx
  have hy' := rowOk_iff.1 hy
  have o : ∀ (xs : List Rt) (r : List UInt8), opens lower (catB spB xs ++ (32 :: 61 :: r)) = false := fun xs r => by cases xs <;> rfl
  have e : bl' x.1 ++ (catB spB x.2.1 ++ (32 :: 61 :: 32 :: (ratB x.2.2 ++ (10 :: r)))) = bl' y.1 ++ (catB spB y.2.1 ++ (32 :: 61 :: 32 :: (ratB y.2.2 ++ (10 :: s)))) := by simpa [lineR, rwB] using h
  obtain ⟨e1, e2⟩ := name_split hx'.1 hy'.1 (o _ _) (o _ _) e
  obtain ⟨e3, e4⟩ := rats_split e2
  simp only [List.cons.injEq, true_and] at e4
  obtain ⟨e5, e6⟩ := rat_split rfl rfl rfl rfl e4
  simp only [List.cons.injEq, true_and] at e6
  exact ⟨Prod.ext e1 (Prod.ext e3 e5), e6⟩
theorem rows_inj : ∀ {m n : Mdl}, (∀ x ∈ m, rowOk x = true) → (∀ x ∈ n, rowOk x = true) → modelB m = modelB n → m = n
  | [], [], _, _, _ => rfl
  | x :: m, [], _, _, h => by simp [modelB, catB, lineR] at h
  | [], y :: n, _, _, h => by simp [modelB, catB, lineR] at h
  | x :: m, y :: n, hm, hn, h => by
    have e : lineR x ++ modelB m = lineR y ++ modelB n := h
    obtain ⟨e1, e2⟩ := row_split (hm x List.mem_cons_self) (hn y List.mem_cons_self) e
    rw [e1, rows_inj (fun z hz => hm z (List.mem_cons_of_mem _ hz)) (fun z hz => hn z (List.mem_cons_of_mem _ hz)) e2]
theorem modelB_inj {m n : Mdl} (hm : mRight m = true) (hn : mRight n = true) (h : modelB m = modelB n) : m = n := rows_inj (model_facts hm).2 (model_facts hn).2 h
/-- What a reader hands back: the right thing with the text, if there is one. -/
noncomputable def rd {α : Type} (R : α → Bool) (T : α → List UInt8) (z : α) (s : List UInt8) : α × Bool := by
  classical exact if h : ∃ a, R a = true ∧ T a = s then (Classical.choose h, true) else (z, false)
section
variable {α : Type} {R : α → Bool} {T : α → List UInt8} {z : α} {s : List UInt8}
theorem rd_yes (inj : ∀ {a b : α}, R a = true → R b = true → T a = T b → a = b) {a : α} (h1 : R a = true) (h2 : T a = s) : rd R T z s = (a, true) := by
  unfold rd
  have h : ∃ a, R a = true ∧ T a = s := ⟨a, h1, h2⟩
  rw [dif_pos h]
  have q := Classical.choose_spec h
  rw [inj q.1 h1 (q.2.trans h2.symm)]
theorem rd_no (h : ∀ a, R a = true → ¬ T a = s) : rd R T z s = (z, false) := by
  unfold rd
  rw [dif_neg fun ⟨a, h1, h2⟩ => h a h1 h2]
theorem rd_ok (h : (rd R T z s).2 = true) : R (rd R T z s).1 = true ∧ T (rd R T z s).1 = s := by
  by_cases he : ∃ a, R a = true ∧ T a = s
  · have q := Classical.choose_spec he
    unfold rd
    rw [dif_pos he]
    exact q
  · unfold rd at h
    rw [dif_neg he] at h
    cases h
end
end Pl

/-
  Plain laws: texts that are read: pieces, numerals. No condition.
-/
set_option linter.unusedVariables false
set_option linter.unusedSimpArgs false
namespace Pl
open Go Cg
theorem take_snoc {α : Type} (d : α) {l : List α} {i : Nat} (h : i < l.length) : l.take (i + 1) = l.take i ++ [l.getD i d] := by
  rw [List.take_add_one]
  simp [h]
theorem cutL_ne (c : UInt8) : ∀ l : List UInt8, cutL c l ≠ []
  | [] => by simp [cutL]
  | x :: r => by
    unfold cutL
    split
    · simp
    · split <;> simp
theorem cutL_cons {c x : UInt8} (h : x ≠ c) (r : List UInt8) : ∃ p ps, cutL c r = p :: ps ∧ cutL c (x :: r) = (x :: p) :: ps := by
  cases hr : cutL c r with
  | nil => exact absurd hr (cutL_ne c r)
  | cons p ps => exact ⟨p, ps, rfl, by rw [cutL, if_neg h, hr]⟩
theorem cutL_no {c : UInt8} : ∀ {a : List UInt8}, (∀ x ∈ a, x ≠ c) → cutL c a = [a]
  | [], _ => rfl
  | x :: a, h => by
    obtain ⟨p, ps, e1, e2⟩ := cutL_cons (h x List.mem_cons_self) a
    rw [cutL_no fun y hy => h y (List.mem_cons_of_mem _ hy)] at e1
    cases e1
    exact e2
theorem cutL_app {c : UInt8} : ∀ {a : List UInt8} (b : List UInt8), (∀ x ∈ a, x ≠ c) → cutL c (a ++ c :: b) = a :: cutL c b
  | [], b, _ => by simp [cutL]
  | x :: a, b, h => by
    obtain ⟨p, ps, e1, e2⟩ := cutL_cons (h x List.mem_cons_self) (a ++ c :: b)
    rw [cutL_app b fun y hy => h y (List.mem_cons_of_mem _ hy)] at e1
    cases e1
    exact e2
theorem cutL_len (c : UInt8) : ∀ l : List UInt8, (cutL c l).length ≤ l.length + 1
  | [] => by simp [cutL]
  | x :: r => by
    have ih := cutL_len c r
    by_cases h : x = c
    · rw [cutL, if_pos h]; simp only [List.length_cons]; omega
    · obtain ⟨p, ps, e1, e2⟩ := cutL_cons h r
      rw [e2]; rw [e1] at ih; simp only [List.length_cons] at ih ⊢; omega
/-- No piece is longer than the text. -/
theorem cutL_le (c : UInt8) : ∀ (l : List UInt8), ∀ p ∈ cutL c l, p.length ≤ l.length
  | [], p, h => by simp [cutL] at h; subst h; simp
  | x :: r, p, h => by
    by_cases hx : x = c
    · rw [cutL, if_pos hx] at h
      rcases List.mem_cons.1 h with rfl | h
      · simp
      · have := cutL_le c r p h; simp only [List.length_cons]; omega
    · obtain ⟨q, qs, e1, e2⟩ := cutL_cons hx r
      rw [e2] at h
      rcases List.mem_cons.1 h with rfl | h
      · have := cutL_le c r q (by rw [e1]; exact List.mem_cons_self); simp only [List.length_cons]; omega
      · have := cutL_le c r p (by rw [e1]; exact List.mem_cons_of_mem _ h); simp only [List.length_cons]; omega
theorem cut_le {c : UInt8} {s p : ByteArray} (h : p ∈ cut c s) : p.size ≤ s.size := by
  obtain ⟨q, hq, rfl⟩ := List.mem_map.1 h
  exact cutL_le c _ q hq
theorem cut_len (c : UInt8) (s : ByteArray) : (cut c s).length ≤ s.size + 1 := by
  unfold cut; rw [List.length_map]; exact cutL_len c (bl' s)
theorem cut_ne (c : UInt8) (s : ByteArray) : 0 < (cut c s).length := by
  unfold cut; rw [List.length_map]
  exact List.length_pos_iff.2 (cutL_ne c _)
theorem vl_val (l : List UInt8) : vl l = val l := rfl
theorem vl_snoc (l : List UInt8) (c : UInt8) : vl (l ++ [c]) = vl l * 10 + (c.toNat - 48) := by unfold vl; rw [List.foldl_append]; rfl
theorem vl_lt' : ∀ (l : List UInt8) (a : Nat), l.all isDig = true → l.foldl (fun a c => a * 10 + (c.toNat - 48)) a + 1 ≤ (a + 1) * 10 ^ l.length
  | [], a, _ => by simp
  | c :: r, a, h => by
    simp only [List.all_cons, Bool.and_eq_true] at h
    have hc := h.1
    simp only [isDig, Bool.and_eq_true, decide_eq_true_eq] at hc
    have ih := vl_lt' r (a * 10 + (c.toNat - 48)) h.2
    rw [List.foldl_cons, List.length_cons, Nat.pow_succ]
    refine Nat.le_trans ih ?_
    rw [Nat.mul_comm (10 ^ r.length) 10, ← Nat.mul_assoc]
    exact Nat.mul_le_mul_right _ (by omega)
theorem vl_lt (l : List UInt8) (h : l.all isDig = true) : vl l < 10 ^ l.length := by
  have := vl_lt' l 0 h
  unfold vl
  omega
/-- A number's digits are few. -/
theorem dec_len : ∀ (k u : Nat), 0 < k → u < 10 ^ k → (Go.Lib.decDigits u).length ≤ k
  | 0, u, h, _ => absurd h (Nat.lt_irrefl _)
  | k + 1, u, _, h => by
    rw [Go.Lib.decDigits]
    split
    · simp
    · rename_i hu
      have hk : 0 < k := by
        cases k with
        | zero => simp at h; omega
        | succ k => exact Nat.succ_pos k
      have := dec_len k (u / 10) hk (by rw [Nat.pow_succ] at h; omega)
      simp only [List.length_append, List.length_cons, List.length_nil]; omega
/-- No number but 0 begins with the digit 0. -/
theorem dec_first (u : Nat) : (Go.Lib.decDigits u).getD 0 0 = 48 → u = 0 := by
  induction u using Nat.strongRecOn with
  | ind u ih =>
    rw [Go.Lib.decDigits]
    split
    · rename_i h
      intro e
      have e : UInt8.ofNat (48 + u) = 48 := e
      have := congrArg UInt8.toNat e
      rw [UInt8.toNat_ofNat'] at this
      have h48 : (48 : UInt8).toNat = 48 := rfl
      rw [h48] at this
      omega
    · rename_i h
      intro e
      have hne := dec_ne (u / 10)
      have e' : (Go.Lib.decDigits (u / 10)).getD 0 0 = 48 := by
        cases hd : Go.Lib.decDigits (u / 10) with
        | nil => exact absurd hd hne
        | cons c l => rw [hd] at e; exact e
      have := ih (u / 10) (by omega) e'
      omega
theorem dec_zero : Go.Lib.decDigits 0 = [48] := by rw [Go.Lib.decDigits]; rfl
theorem numD_dec {u : Nat} {neg : Bool} (h : u < 10 ^ 17) (hn : neg = true → u ≠ 0) : numD neg (Go.Lib.decDigits u) = (if neg = true then -(u : Int) else u, true) := by
  unfold numD
  have h1 := dec_len 17 u (by omega) h
  have h2 : (Go.Lib.decDigits u).length ≠ 0 := fun e => dec_ne u (List.length_eq_zero_iff.1 e)
  rw [if_neg, if_pos (by have := dec_dig u; exact this)]
  · rw [vl_val, val_dec]
  · rintro (h' | h' | ⟨h3, h4⟩)
    · exact h2 h'
    · omega
    · have hz := dec_first u h3
      subst hz
      rcases h4 with h4 | h4
      · rw [dec_zero] at h4; simp at h4
      · exact hn h4 rfl
theorem dec_head (u : Nat) : (Go.Lib.decDigits u).getD 0 0 ≠ 45 := fun e => by
  have h := dec_open u []
  rw [List.append_nil] at h
  cases hd : Go.Lib.decDigits u with
  | nil => exact dec_ne u hd
  | cons c l => rw [hd] at e h; have e : c = 45 := e; subst e; cases h
theorem numL_itoa {n : Int} (h1 : -100000000000000000 < n) (h2 : n < 100000000000000000) : numL (itoa n) = (n, true) := by
  unfold itoa Go.Lib.itoa numL
  by_cases h : n < 0
  · rw [if_pos h, if_pos ⟨by simp, rfl⟩]
    show numD true (Go.Lib.decDigits n.natAbs) = _
    rw [numD_dec (by have : (10 : Nat) ^ 17 = 100000000000000000 := by decide
                     rw [this]; omega) (fun _ => by omega), if_pos rfl]
    refine Prod.ext ?_ rfl
    show -((n.natAbs : Nat) : Int) = n
    omega
  · rw [if_neg h, if_neg fun e => dec_head _ e.2]
    rw [numD_dec (by have : (10 : Nat) ^ 17 = 100000000000000000 := by decide
                     rw [this]; omega) (fun e => by cases e), if_neg (by simp)]
    refine Prod.ext ?_ rfl
    show ((n.toNat : Nat) : Int) = n
    omega
theorem parse_digs : ∀ (l : List UInt8) (acc : Nat), l.all isDig = true → l.foldl (fun a c => a * 10 + (c.toNat - 48)) acc < 9223372036854775809 → Go.Lib.parseUint10 acc l = .ok (l.foldl (fun a c => a * 10 + (c.toNat - 48)) acc)
  | [], acc, _, _ => rfl
  | c :: r, acc, h, hb => by
    simp only [List.all_cons, Bool.and_eq_true] at h
    have hc := h.1
    simp only [isDig, Bool.and_eq_true, decide_eq_true_eq] at hc
    have mono : ∀ (l : List UInt8) (a : Nat), a ≤ l.foldl (fun a c => a * 10 + (c.toNat - 48)) a := fun l => by
      induction l with
      | nil => intro a; exact Nat.le_refl _
      | cons x l ih => intro a; exact Nat.le_trans (show a ≤ a * 10 + (x.toNat - 48) by omega) (ih _)
    have hm := mono r (acc * 10 + (c.toNat - 48))
    rw [List.foldl_cons] at hb
    rw [Go.Lib.parseUint10, if_pos hc, if_neg (by omega), if_neg (by omega), parse_digs r _ h.2 hb]
    rfl
theorem atoiL_itoa {n : Int} (h1 : -9223372036854775808 ≤ n) (h2 : n ≤ 9223372036854775807) : atoiL (itoa n) = n := by
  have mag : ∀ u : Nat, u < 9223372036854775809 → Go.Lib.parseMag (Go.Lib.decDigits u) = .ok u := fun u hu => by
    unfold Go.Lib.parseMag
    have hv : (Go.Lib.decDigits u).foldl (fun a c => a * 10 + (c.toNat - 48)) 0 = u := val_dec u
    rw [if_neg (dec_ne u), parse_digs _ 0 (dec_dig u) (by rw [hv]; exact hu), hv]
  unfold atoiL itoa Go.Lib.itoa
  by_cases h : n < 0
  · rw [if_pos h]
    have : Go.Lib.atoiAll (45 :: Go.Lib.decDigits n.natAbs) = .ok n := by
      unfold Go.Lib.atoiAll
      have h45 : (45 : UInt8).toNat = 45 := rfl
      simp only [h45, or_true, if_true, mag n.natAbs (by omega)]
      rw [if_neg (by simp), if_neg (by omega)]
      refine congrArg Go.Lib.NumEnd.ok ?_
      omega
    rw [this]
  · rw [if_neg h]
    have h' : Go.Lib.atoiAll (Go.Lib.decDigits n.toNat) = .ok n := by
      cases hd : Go.Lib.decDigits n.toNat with
      | nil => exact absurd hd (dec_ne _)
      | cons c l =>
        have ho := dec_open n.toNat []
        rw [List.append_nil, hd] at ho
        simp only [opens, dig, Bool.and_eq_true, decide_eq_true_eq] at ho
        unfold Go.Lib.atoiAll
        have e1 : ¬ c.toNat = 43 := by omega
        have e2 : ¬ c.toNat = 45 := by omega
        simp only [e1, e2, or_self, if_false]
        rw [← hd, mag n.toNat (by omega)]
        simp only [not_false_eq_true, true_and, false_and, if_false]
        rw [if_neg (by omega)]
        refine congrArg Go.Lib.NumEnd.ok ?_
        omega
    rw [h']
end Pl

/-
  The codes' contracts: texts that are read: the library's functions, pieces, numerals. No condition.
-/
set_option linter.unusedVariables false
set_option linter.unusedSimpArgs false
set_option maxRecDepth 100000
namespace Pl
open Go Cg
theorem split_cut (c : UInt8) : ∀ l : List UInt8, Go.Lib.splitK [c] 0 (Go.Lib.count l [c]) l = cutL c l
  | [] => by
    have h : Go.Lib.index [] [c] = -1 := rfl
    rw [Go.Lib.count_miss h]; rfl
  | x :: r => by
    have ih := split_cut c r
    by_cases hx : x = c
    · subst hx
      have h : Go.Lib.index (x :: r) [x] = ((0 : Nat) : Int) := by
        unfold Go.Lib.index
        rw [if_pos (by simp)]; rfl
      rw [Go.Lib.count_hit (by simp) h, Nat.add_comm, Go.Lib.splitK, if_neg (by rw [h]; decide), h]
      rw [cutL, if_pos rfl, ← ih]
      rfl
    · obtain ⟨p, ps, e1, e2⟩ := cutL_cons hx r
      rw [e2]
      have hp : [c].isPrefixOf (x :: r) = false := by simp [List.isPrefixOf, Ne.symm hx]
      rcases Go.Lib.index_spec r [c] with ⟨h1, _⟩ | ⟨i, h1, hi, _, _⟩
      · have h : Go.Lib.index (x :: r) [c] = -1 := by unfold Go.Lib.index; rw [hp, h1]; rfl
        rw [Go.Lib.count_miss h]
        rw [Go.Lib.count_miss h1, e1] at ih
        cases ih
        rfl
      · have h : Go.Lib.index (x :: r) [c] = ((i + 1 : Nat) : Int) := by
          unfold Go.Lib.index
          rw [hp, h1]
          have : ((i : Int) == -1) = false := by rw [beq_eq_false_iff_ne]; omega
          simp [this]
        have hc := Go.Lib.count_hit (sub := [c]) (by simp) h
        have hr := Go.Lib.count_hit (sub := [c]) (by simp) h1
        have hd : (x :: r).drop (i + 1 + [c].length) = r.drop (i + [c].length) := by
          rw [show i + 1 + [c].length = (i + [c].length) + 1 by omega, List.drop_succ_cons]
        rw [hd] at hc
        have m1 : ¬ (Go.Lib.index (x :: r) [c] == -1) = true := by rw [h]; simp only [beq_iff_eq]; omega
        have m2 : ¬ (Go.Lib.index r [c] == -1) = true := by rw [h1]; simp only [beq_iff_eq]; omega
        rw [hr, e1, Nat.add_comm 1, Go.Lib.splitK, if_neg m2, h1] at ih
        rw [hc, Nat.add_comm 1, Go.Lib.splitK, if_neg m1, h]
        simp only [Int.toNat_natCast, Nat.add_zero] at ih ⊢
        rw [hd, List.take_succ_cons]
        rw [List.cons.injEq] at ih ⊢
        exact ⟨by rw [ih.1], ih.2⟩
theorem count_cut (c : UInt8) : ∀ l : List UInt8, (cutL c l).length = Go.Lib.count l [c] + 1
  | [] => by
    have h : Go.Lib.index [] [c] = -1 := rfl
    rw [Go.Lib.count_miss h]; rfl
  | x :: r => by
    have ih := count_cut c r
    by_cases hx : x = c
    · subst hx
      have h : Go.Lib.index (x :: r) [x] = ((0 : Nat) : Int) := by
        unfold Go.Lib.index
        rw [if_pos (by simp)]; rfl
      rw [Go.Lib.count_hit (by simp) h, cutL, if_pos rfl, List.length_cons, ih]
      show Go.Lib.count r [x] + 1 + 1 = 1 + Go.Lib.count ((x :: r).drop 1) [x] + 1
      rw [List.drop_succ_cons, List.drop_zero]; omega
    · obtain ⟨p, ps, e1, e2⟩ := cutL_cons hx r
      rw [e2]
      rw [e1] at ih
      have hp : [c].isPrefixOf (x :: r) = false := by simp [List.isPrefixOf, Ne.symm hx]
      rcases Go.Lib.index_spec r [c] with ⟨h1, _⟩ | ⟨i, h1, hi, _, _⟩
      · have h : Go.Lib.index (x :: r) [c] = -1 := by unfold Go.Lib.index; rw [hp, h1]; rfl
        rw [Go.Lib.count_miss h]
        rw [Go.Lib.count_miss h1] at ih
        simpa using ih
      · have h : Go.Lib.index (x :: r) [c] = ((i + 1 : Nat) : Int) := by
          unfold Go.Lib.index
          rw [hp, h1]
          have : ((i : Int) == -1) = false := by rw [beq_eq_false_iff_ne]; omega
          simp [this]
        have hc := Go.Lib.count_hit (sub := [c]) (by simp) h
        have hr := Go.Lib.count_hit (sub := [c]) (by simp) h1
        have hd : (x :: r).drop (i + 1 + [c].length) = r.drop (i + [c].length) := by
          rw [show i + 1 + [c].length = (i + [c].length) + 1 by omega, List.drop_succ_cons]
        rw [hd] at hc
        rw [hc, ← hr]
        exact ih
theorem bl_mk (l : List UInt8) : bl' (mkB l) = l := rfl
theorem mk_bl (s : ByteArray) : mkB (bl' s) = s := rfl
theorem splitB_cut (c : UInt8) (s : ByteArray) : Go.Lib.splitB (mkB [c]) 0 (Go.Lib.countB s (mkB [c])) s = cut c s := by
  have h := Go.Lib.splitB_data (mkB [c]) 0 (Go.Lib.countB s (mkB [c])) s
  have h2 : Go.Lib.splitK (mkB [c]).data.toList 0 (Go.Lib.countB s (mkB [c])) s.data.toList = cutL c (bl' s) := split_cut c (bl' s)
  rw [h2] at h
  unfold cut
  rw [← h, List.map_map]
  have e : (mkB ∘ fun (x : ByteArray) => x.data.toList) = id := by funext x; rfl
  rw [e, List.map_id]
end Pl
namespace Cg
open Go Go.Proofs Pl
theorem gl_max {S : Nat → Prop} {w : World} (h : Gl S w) : ∃ m, w.cell? ⟨0, 0, none⟩ = some (.int .i64 m) := by
  obtain ⟨h1, c, T, fr, h2, m, h3⟩ := h _ (List.mem_cons_of_mem _ List.mem_cons_self)
  have h2 : w.heap[(0 : Nat)]? = some (.cells c T fr) := h2
  exact ⟨m, by simp only [World.cell?, h2, h3]; rfl⟩
theorem gl_syn {S : Nat → Prop} {w : World} (h : Gl S w) : ∃ ev, w.cell? ⟨1, 0, none⟩ = some ev ∧ (ev = .nilIface ∨ ∃ te pe, ev = .iface te pe) := by
  obtain ⟨h1, c, T, fr, h2, m, h3, h4⟩ := h _ (List.mem_cons_of_mem _ (List.mem_cons_of_mem _ List.mem_cons_self))
  have h2 : w.heap[(1 : Nat)]? = some (.cells c T fr) := h2
  exact ⟨m, by simp only [World.cell?, h2, h3]; rfl, h4⟩
theorem gl_rng {S : Nat → Prop} {w : World} (h : Gl S w) : ∃ ev, w.cell? ⟨2, 0, none⟩ = some ev ∧ (ev = .nilIface ∨ ∃ te pe, ev = .iface te pe) := by
  obtain ⟨h1, c, T, fr, h2, m, h3, h4⟩ := h _ (List.mem_cons_of_mem _ (List.mem_cons_of_mem _ (List.mem_cons_of_mem _ List.mem_cons_self)))
  have h2 : w.heap[(2 : Nat)]? = some (.cells c T fr) := h2
  exact ⟨m, by simp only [World.cell?, h2, h3]; rfl, h4⟩
theorem k_Split : SoundC Tryz.prog K_Split.1 K_Split.2 := ⟨callable_of (by kernel_rfl), fun x hx S w vals hin hgl hrel => by
  obtain ⟨s, c⟩ := x
  replace hx : s.size ≤ 4294967280 := hx
  obtain ⟨y0, r0, rfl, ha, y1, r1, rfl, hb, hc⟩ := hrel
  cases hc
  have ha : y0 = .string s := ha
  have hb : y1 = .string (mkB [c]) := hb
  subst ha; subst hb
  obtain ⟨m, hm⟩ := gl_max hgl
  refine (Tryz.strings_Split s (mkB [c]) m w (by omega) hm (Nat.le_refl 1)).mono fun e w' ⟨he, hw⟩ => ?_
  rw [splitB_cut] at hw
  have hlen : Go.Lib.countB s (mkB [c]) + 1 = (cut c s).length := by
    have h1 := Go.Lib.splitB_length_le (mkB [c]) 0 (Go.Lib.countB s (mkB [c])) s
    rw [splitB_cut] at h1
    have h2 := count_cut c (bl' s)
    have h3 : Go.Lib.countB s (mkB [c]) = Go.Lib.count (bl' s) [c] := rfl
    unfold cut
    rw [List.length_map, h2, h3]
  rw [hlen] at he
  subst hw
  generalize hC : ((cut c s).map Value.string).toArray = C

  have hnew : (w.heap.push (Obj.cells C 9))[w.heap.size]? = some (Obj.cells C 9) := by rw [Array.getElem?_push, if_pos rfl]
  refine ⟨_, fun b => S b ∨ b = w.heap.size, he, Ext.push w _ w.drawn, fun b hb => .inl hb, fun b hb => hb.elim .inl fun e => .inr (by omega), fun b hb => ?_, ?_⟩
  · show b < (w.heap.push _).size
    rw [Array.size_push]
    rcases hb with hb | rfl
    · have := hin b hb; omega
    · omega
  · refine ⟨_, _, rfl, Nat.le_refl _, .inr ⟨_, _, rfl, .inr rfl, _, _, _, hnew, fun i hi j hj => ?_⟩⟩
    have hj0 : j = 0 := by omega
    subst hj0
    refine ⟨.string ((cut c s).getD i ByteArray.empty), ?_, rfl, rfl⟩
    subst hC
    simp [hi, List.getD_eq_getElem?_getD]⟩
theorem k_Atoi : SoundC Tryz.prog K_Atoi.1 K_Atoi.2 := ⟨callable_of (by kernel_rfl), fun s hx S w vals hin hgl hrel => by
  replace hx : s.size ≤ 4294967280 := hx
  obtain ⟨y0, r0, rfl, ha, hc⟩ := hrel
  cases hc
  have ha : y0 = .string s := ha
  subst ha
  have fin : ∀ (n : Int) (v : Value) (w' : World), n = atoi s → Ext w w' → ∃ y S', (Ending.returned (.tuple #[.int .i64 n, v])) = .returned y ∧ After S mu0 w (.tup [i64 (atoi s), .any]) y w' S' := fun n v w' hn he => by
    subst hn
    exact ⟨_, S, rfl, he, fun _ h => h, fun _ h => .inl h, fun b hb => Nat.lt_of_lt_of_le (hin b hb) he.size, [.int .i64 (atoi s), v], rfl, _, _, rfl, rfl, _, _, rfl, trivial, rfl⟩
  cases h : Go.Lib.atoiAll s.data.toList with
  | ok v =>
    refine (Tryz.strconv_Atoi_ok s (by omega) v h w).mono fun e w' ⟨he, hw⟩ => ?_
    subst he
    have hv : v = atoi s := by unfold atoi atoiL bl'; rw [h]
    rcases hw with rfl | ⟨t, rfl⟩
    · exact fin _ _ _ hv (Ext.refl _)
    · exact fin _ _ _ hv (Ext.ofBelow (Go.Lib.bytesWorld_below w _ t))
  | range =>
    obtain ⟨ev, h1, h2⟩ := gl_rng hgl
    refine (Tryz.strconv_Atoi_range s (by omega) h ev w h1 h2).mono fun e w' ⟨N, he, _, _, hw⟩ => ?_
    subst he
    exact fin _ _ _ (by unfold atoi atoiL bl'; rw [h]) (Ext.ofBelow hw)
  | _ =>
    obtain ⟨ev, h1, h2⟩ := gl_syn hgl
    refine (Tryz.strconv_Atoi_syntax s (by omega) (fun v q => by rw [h] at q; cases q) (fun q => by rw [h] at q; cases q) ev w h1 h2).mono fun e w' ⟨N, he, _, _, hw⟩ => ?_
    subst he
    exact fin _ _ _ (by unfold atoi atoiL bl'; rw [h]) (Ext.ofBelow hw)⟩
theorem k_Cut : SoundC Tryz.prog K_Cut.1 K_Cut.2 := ⟨callable_of (by kernel_rfl), fun x hx S w vals hin hgl hrel => by
  obtain ⟨s, sep⟩ := x
  replace hx : s.size ≤ 4294967280 := hx
  obtain ⟨y0, r0, rfl, ha, y1, r1, rfl, hb, hc⟩ := hrel
  cases hc
  have ha : y0 = .string s := ha
  have hb : y1 = .string sep := hb
  subst ha; subst hb
  obtain ⟨m, hm⟩ := gl_max hgl
  refine (Tryz.strings_Cut s sep m w (by omega) hm).mono fun e w' ⟨he, n, hw⟩ => ?_
  subst hw
  exact ⟨_, S, he, Ext.drawn w _, fun _ h => h, fun _ h => .inl h, hin, [_, _, _], rfl, _, _, rfl, rfl, _, _, rfl, rfl, _, _, rfl, rfl, rfl⟩⟩
theorem byte_at (s : ByteArray) (i : Nat) : s.data[i]?.getD 0 = (bl' s).getD i 0 := by
  unfold bl'
  rw [List.getD_eq_getElem?_getD, Array.getElem?_toList]
theorem ext_mk (s : ByteArray) (a b : Nat) : s.extract a b = mkB (((bl' s).drop a).take (b - a)) := by
  apply ByteArray.ext
  apply Array.toList_inj.1
  show (s.extract a b).data.toList = _
  rw [ByteArray.data_extract, Array.toList_extract, List.extract_eq_take_drop]
  rfl
theorem bl_len (s : ByteArray) : (bl' s).length = s.size := rfl
theorem piece_end {c : UInt8} {l : List UInt8} {a : Nat} (h : ∀ k, a ≤ k → k < l.length → l.getD k 0 ≠ c) : cutL c (l.drop a) = [l.drop a] :=
  cutL_no fun x hx => by
    obtain ⟨i, hi, rfl⟩ := List.getElem_of_mem hx
    rw [List.length_drop] at hi
    have := h (a + i) (by omega) (by omega)
    rw [List.getElem_drop]
    rw [List.getD_eq_getElem?_getD, List.getElem?_eq_getElem (by omega)] at this
    exact this
theorem piece_step {c : UInt8} {l : List UInt8} {a i : Nat} (hai : a ≤ i) (hi : i < l.length) (hc : l.getD i 0 = c) (h : ∀ k, a ≤ k → k < i → l.getD k 0 ≠ c) :
    cutL c (l.drop a) = (l.drop a).take (i - a) :: cutL c (l.drop (i + 1)) := by
  have e : l.drop a = (l.drop a).take (i - a) ++ c :: l.drop (i + 1) := by
    have h1 : l.drop i = c :: l.drop (i + 1) := by
      rw [List.drop_eq_getElem_cons hi]
      rw [List.getD_eq_getElem?_getD, List.getElem?_eq_getElem hi] at hc
      rw [show l[i] = c from hc]
    rw [← h1]
    have := (List.take_append_drop (i - a) (l.drop a)).symm
    rw [List.drop_drop, show a + (i - a) = i by omega] at this
    exact this
  conv => lhs; rw [e]
  exact cutL_app _ fun x hx => by
    obtain ⟨k, hk, rfl⟩ := List.getElem_of_mem hx
    rw [List.length_take, List.length_drop] at hk
    have := h (a + k) (by omega) (by omega)
    rw [List.getElem_take, List.getElem_drop]
    rw [List.getD_eq_getElem?_getD, List.getElem?_eq_getElem (by omega)] at this
    exact this
set_option maxHeartbeats 8000000 in
theorem g_l16Cut (s : ByteArray) (c : UInt8) (h1 : SzT s) : GoalW Tryz.prog [] (A_l16Cut s c) K_l16Cut.1 K_l16Cut.2 ((s, c)) := GoalW.of (vc_l16Cut s c) (by
  simp (maxSteps := 2000000) [-List.getD_eq_getElem?_getD, -List.mem_cons, -Bool.forall_bool, -Bool.exists_bool, and_assoc, peta, tl_inj, ex_1, ex_2, ex_3, ex_4, ex_5, ex_6, ex_7, ex_8, ex_9, ey_2, ey_3, ey_4, ey_5, ey_6, ey_7, ey_8, ey_9]
  have hs : s.size ≤ 4294967280 := h1
  have hl := bl_len s
  refine ⟨⟨0, 0, Nat.le_refl _, [], Nat.le_refl _, by omega, fun k h1 h2 => absurd h2 (by omega), fun _ => ⟨by omega, by simp [cut]⟩, fun h => absurd h (by omega), rfl, rfl, rfl, rfl⟩, fun i fr b h2 h3 h4 h5 h6 h7 => ⟨fun hle => ⟨fun he => ?_, fun he => ⟨by omega, fun hc => ?_, fun hc => ?_⟩⟩, fun hgt => h7 hgt⟩⟩
  · have he : i = s.size := by omega
    subst he
    have e := (h6 hle).2
    rw [piece_end fun k k1 k2 => h5 k k1 (by omega) (by omega)] at e
    refine ⟨h2, hle, by omega, s.size + 1, s.size + 1, Nat.le_refl _, b ++ [s.extract fr s.size], by simp; omega, by omega, fun k k1 k2 k3 => by omega, fun h => absurd h (by omega), fun _ => ?_, by omega, by simp, by rw [wrap_small (by omega) (by omega)]; omega, by rw [wrap_small (by omega) (by omega)]; omega, strs_push⟩
    rw [e, ext_mk, List.take_of_length_le (by simp; omega)]
    rfl
  · have hi : i < s.size := by omega
    have hc' : (bl' s).getD i 0 = c := by rw [← byte_at]; exact UInt8.toNat_inj.1 (by omega)
    refine ⟨h2, hle, by omega, i + 1, i + 1, Nat.le_refl _, b ++ [s.extract fr i], by simp; omega, by omega, fun k k1 k2 k3 => by omega, fun h => ⟨h, ?_⟩, fun h => by omega, by omega, by simp, by rw [wrap_small (by omega) (by omega)]; omega, by rw [wrap_small (by omega) (by omega)]; omega, strs_push⟩
    rw [(h6 hle).2, piece_step h2 (by omega) hc' fun k k1 k2 => h5 k k1 k2 (by omega), ext_mk]
    simp
  · have hi : i < s.size := by omega
    have hc' : (bl' s).getD i 0 ≠ c := fun e => hc (by rw [byte_at, e])
    refine ⟨i + 1, fr, by omega, b, h3, by omega, fun k k1 k2 k3 => ?_, fun h => h6 hle, fun h => by omega, by omega, rfl, rfl, by rw [wrap_small (by omega) (by omega)]; omega, .inr rfl⟩
    by_cases hk : k = i
    · rw [hk]; exact hc'
    · exact h5 k k1 (by omega) k3)
theorem k_l16Cut : SoundC Tryz.prog K_l16Cut.1 K_l16Cut.2 := sound_ofW hm CtxOK.nil (fun ((s, c) : ByteArray × UInt8) => A_l16Cut s c) (by kernel_rfl) fun ((s, c) : ByteArray × UInt8) hb => g_l16Cut s c hb
theorem numD_no {neg : Bool} {b : List UInt8} {a : Nat} (ha : a < b.length) (h : isDig (b.getD a 0) = false) : numD neg b = (0, false) := by
  unfold numD
  split
  · rfl
  · rw [if_neg]
    intro hall
    rw [List.all_eq_true] at hall
    have := hall (b.getD a 0) (getD_mem 0 ha)
    rw [h] at this; cases this
theorem num_loop (s : ByteArray) : ∀ (a : Nat) (a_1 : Bool) (b : List UInt8),
    a ≤ b.length → b.length ≤ 17 → num s = numD a_1 b → ¬b = [] → b.length ≤ 17 → (b.getD 0 0 = 48 → b.length ≤ 1 ∧ a_1 = false) → (∀ (x : UInt8), x ∈ List.take a b → isDig x = true) →
    (a < b.length → a < b.length ∧ (((((bl' (mkB b)).getD a 0).toNat : Nat) : Int) < 48 → 0 = (num s).fst ∧ (num s).snd = false) ∧
      ((48 : Int) ≤ ((((bl' (mkB b)).getD a 0).toNat : Nat) : Int) → a < b.length ∧ ((57 : Int) < ((((bl' (mkB b)).getD a 0).toNat : Nat) : Int) → 0 = (num s).fst ∧ (num s).snd = false) ∧
        (((((bl' (mkB b)).getD a 0).toNat : Nat) : Int) ≤ 57 → a < b.length ∧ ∃ a_12 a_13 b_1, a_12 ≤ b_1.length ∧ b_1.length ≤ 17 ∧ num s = numD a_13 b_1 ∧ ¬b_1 = [] ∧ b_1.length ≤ 17 ∧
          (b_1.getD 0 0 = 48 → b_1.length ≤ 1 ∧ a_13 = false) ∧ (∀ (x : UInt8), x ∈ List.take a_12 b_1 → isDig x = true) ∧ b_1.length - a_12 < b.length - a ∧ mkB b = mkB b_1 ∧ a_1 = a_13 ∧
          IntKind.i64.wrap (IntKind.i64.wrap (((vl (List.take a b) : Nat) : Int) * 10) + IntKind.i64.wrap (IntKind.u8.wrap (((((bl' (mkB b)).getD a 0).toNat : Nat) : Int) - 48))) = ((vl (List.take a_12 b_1) : Nat) : Int) ∧
          IntKind.i64.wrap ((a : Int) + 1) = ((a_12 : Nat) : Int)))) ∧
    (b.length ≤ a → (a_1 = true → IntKind.i64.wrap (-((vl (List.take a b) : Nat) : Int)) = (num s).fst ∧ (num s).snd = true) ∧ (a_1 = false → ((vl (List.take a b) : Nat) : Int) = (num s).fst ∧ (num s).snd = true)) := by
  intro a neg b h1 h2 h3 h4 _ h5 h6
  rw [show bl' (mkB b) = b from rfl]
  have no : a < b.length → isDig (b.getD a 0) = false → 0 = (num s).fst ∧ (num s).snd = false := fun ha h => by
    rw [h3, numD_no ha h]; exact ⟨rfl, rfl⟩
  have hlen : (b.take a).length = a := by rw [List.length_take]; omega
  have hv : vl (b.take a) < 10 ^ a := by
    have := vl_lt (b.take a) (List.all_eq_true.2 fun x hx => h6 x hx)
    rwa [hlen] at this
  have hp : (10 : Nat) ^ a ≤ 10 ^ 17 := Nat.pow_le_pow_right (by decide) (by omega)
  have h17 : (10 : Nat) ^ 17 = 100000000000000000 := by decide
  refine ⟨fun ha => ⟨ha, fun h => no ha ?_, fun hlo => ⟨ha, fun h => no ha ?_, fun hhi => ⟨ha, a + 1, neg, b, ha, h2, h3, h4, h2, h5, fun x hx => ?_, by omega, rfl, rfl, ?_, wrap_small (by omega) (by omega)⟩⟩⟩, fun hge => ?_⟩
  · unfold isDig; rw [decide_eq_false (by omega)]; rfl
  · unfold isDig; rw [decide_eq_false (p := (b.getD a 0).toNat ≤ 57) (by omega), Bool.and_false]
  · rw [take_snoc 0 ha, List.mem_append] at hx
    rcases hx with hx | hx
    · exact h6 x hx
    · rw [List.mem_singleton] at hx
      subst hx
      unfold isDig; rw [decide_eq_true (by omega), decide_eq_true (by omega)]; rfl
  · have hu : IntKind.u8.wrap ((((b.getD a 0).toNat : Nat) : Int) - 48) = (((b.getD a 0).toNat : Nat) : Int) - 48 := by
      show ((((b.getD a 0).toNat : Nat) : Int) - 48) % 256 = _
      omega
    rw [hu, wrap_small (x := ((vl (List.take a b) : Nat) : Int) * 10) (by omega) (by omega), wrap_small (x := (((b.getD a 0).toNat : Nat) : Int) - 48) (by omega) (by omega), wrap_small (by omega) (by omega), take_snoc 0 ha, vl_snoc]
    push_cast
    omega
  · have ha : a = b.length := by omega
    subst ha
    rw [List.take_length] at h6 hv ⊢
    have e : numD neg b = (if neg = true then -(vl b : Int) else vl b, true) := by
      unfold numD
      rw [if_neg, if_pos (List.all_eq_true.2 fun x hx => h6 x hx)]
      rintro (h | h | ⟨h, h'⟩)
      · exact h4 (List.length_eq_zero_iff.1 h)
      · omega
      · obtain ⟨q1, q2⟩ := h5 h
        rcases h' with h' | h'
        · omega
        · rw [q2] at h'; cases h'
    rw [h3, e, wrap_small (by omega) (by omega)]
    exact ⟨fun h => by rw [if_pos h]; exact ⟨rfl, rfl⟩, fun h => by rw [if_neg (by rw [h]; simp)]; exact ⟨rfl, rfl⟩⟩
set_option maxHeartbeats 8000000 in
theorem g_l16Num (s : ByteArray) (h1 : SzT s) : GoalW Tryz.prog [] (A_l16Num s) K_l16Num.1 K_l16Num.2 (s) := GoalW.of (vc_l16Num s) (by
  simp (maxSteps := 2000000) [-List.getD_eq_getElem?_getD, -List.mem_cons, -Bool.forall_bool, -Bool.exists_bool, and_assoc, peta, tl_inj, ex_1, ex_2, ex_3, ex_4, ex_5, ex_6, ex_7, ex_8, ex_9, ey_2, ey_3, ey_4, ey_5, ey_6, ey_7, ey_8, ey_9]
  have hs : s.size ≤ 4294967280 := h1
  have hl := bl_len s
  have hd : (bl' s).drop 1 = bl' (s.extract 1 s.size) := by
    rw [ext_mk]
    show _ = List.take (s.size - 1) ((bl' s).drop 1)
    rw [List.take_of_length_le (by simp; omega)]
  have hx : ∀ i, (s.data.extract 1 s.size)[i]?.getD 0 = ((bl' s).drop 1).getD i 0 := fun i => by
    rw [hd, ← byte_at]
    show _ = (s.extract 1 s.size).data[i]?.getD 0
    rw [ByteArray.data_extract]
  simp only [byte_at, hx]
  have i8 : ∀ (x : UInt8) (n : UInt8) (k : Int), k = ((n.toNat : Nat) : Int) → ((((x.toNat : Nat) : Int)) = k ↔ x = n) := fun x n k hk => by
    rw [hk]
    exact ⟨fun h => UInt8.toNat_inj.1 (by omega), fun h => by rw [h]⟩
  simp only [i8 _ 45 45 rfl, i8 _ 48 48 rfl]
  have nlen : ∀ d : List UInt8, ∀ neg, d.length = 0 → numD neg d = (0, false) := fun d neg h => by unfold numD; rw [if_pos (.inl h)]
  have nlong : ∀ d : List UInt8, ∀ neg, 17 < d.length → numD neg d = (0, false) := fun d neg h => by unfold numD; rw [if_pos (.inr (.inl h))]
  have nzero : ∀ d : List UInt8, ∀ neg, d.getD 0 0 = 48 → (1 < d.length ∨ neg = true) → numD neg d = (0, false) := fun d neg h h' => by unfold numD; rw [if_pos (.inr (.inr ⟨h, h'⟩))]
  have fin : ∀ {x : Int × Bool}, num s = x → x = (0, false) → 0 = (num s).fst ∧ (num s).snd = false := fun h1 h2 => by rw [h1, h2]; exact ⟨rfl, rfl⟩
  have yes : 0 < s.size → (bl' s).getD 0 0 = 45 → num s = numD true ((bl' s).drop 1) := fun h h' => by unfold num numL; rw [if_pos ⟨by rw [bl_len]; exact h, h'⟩]
  have not : ¬ (0 < s.size ∧ (bl' s).getD 0 0 = 45) → num s = numD false (bl' s) := fun h => by unfold num numL; rw [if_neg (by rw [bl_len]; exact h)]
  have dl : ((bl' s).drop 1).length = s.size - 1 := by simp; rfl
  have init : ∀ (neg : Bool) (d : List UInt8) (t : ByteArray), num s = numD neg d → t = mkB d → d.length ≠ 0 → d.length ≤ 17 → (d.getD 0 0 = 48 → d.length ≤ 1 ∧ neg = false) →
      ∃ a a_1 b, a ≤ b.length ∧ b.length ≤ 17 ∧ num s = numD a_1 b ∧ ¬b = [] ∧ b.length ≤ 17 ∧ (b.getD 0 0 = 48 → b.length ≤ 1 ∧ a_1 = false) ∧ (∀ (x : UInt8), x ∈ List.take a b → isDig x = true) ∧ t = mkB b ∧ neg = a_1 ∧ (0 : Int) = ((vl (List.take a b) : Nat) : Int) ∧ (0 : Int) = ((a : Nat) : Int) :=
    fun neg d t h1 h2 h3 h4 h5 => ⟨0, neg, d, Nat.zero_le _, h4, h1, fun e => h3 (by rw [e]; rfl), h4, h5, fun x hx => by simp at hx, h2, rfl, rfl, rfl⟩
  have n45 : ∀ h : (bl' s).getD 0 0 = 45, (((((bl' s).getD 0 0).toNat : Nat) : Int) == 45) = true := fun h => by rw [h]; rfl
  have m45 : ¬ (bl' s).getD 0 0 = 45 → (((((bl' s).getD 0 0).toNat : Nat) : Int) == 45) = false := fun h => by
    rw [beq_eq_false_iff_ne]
    exact fun e => h ((i8 _ 45 45 rfl).1 e)
  refine ⟨fun hp => ⟨hp, fun h45 => ⟨by omega, fun hz => fin (yes hp h45) (nlen _ _ (by omega)), fun hz => ⟨fun h17 => fin (yes hp h45) (nlong _ _ (by omega)), fun h17 => ⟨by omega, fun h48 => ⟨fun h1 => fin (yes hp h45) (nzero _ _ h48 (.inl (by omega))), fun h1 => ⟨fun _ => fin (yes hp h45) (nzero _ _ h48 (.inr rfl)), fun hn => absurd h45 hn⟩⟩, fun h48 => ⟨?_, num_loop s⟩⟩⟩⟩, fun h45 => ?_⟩, fun hp => ?_⟩
  · rw [n45 h45]
    exact init true _ _ (yes hp h45) (by rw [hd]; rfl) (by omega) (by omega) fun h => absurd h h48
  · have hnum := not fun e => h45 e.2
    have hne : ¬ s = ByteArray.empty := fun e => by rw [e] at hp; exact absurd hp (by decide)
    refine ⟨fun e => absurd e hne, fun _ => ⟨fun h17 => fin hnum (nlong _ _ (by omega)), fun h17 => ⟨hp, fun h48 => ⟨fun h1 => fin hnum (nzero _ _ h48 (.inl (by omega))), fun h1 => ⟨fun h => absurd h h45, fun _ => ⟨?_, num_loop s⟩⟩⟩, fun h48 => ⟨?_, num_loop s⟩⟩⟩⟩
    · rw [m45 h45]
      exact init false _ _ hnum rfl (by omega) (by omega) fun _ => ⟨by omega, rfl⟩
    · rw [m45 h45]
      exact init false _ _ hnum rfl (by omega) (by omega) fun h => absurd h h48
  · exact ⟨fun _ => fin (not fun e => by rw [hp] at e; exact absurd e.1 (by decide)) (nlen _ _ (by rw [hp]; rfl)), fun h => absurd hp h⟩)
theorem k_l16Num : SoundC Tryz.prog K_l16Num.1 K_l16Num.2 := sound_ofW hm CtxOK.nil (fun (s : ByteArray) => A_l16Num s) (by kernel_rfl) fun (s : ByteArray) hb => g_l16Num s hb
theorem tl_empty (s : ByteArray) : s.toList.isEmpty = decide (s = ByteArray.empty) := by
  have h0 : ByteArray.empty.toList = [] := by rw [ByteArray.toList_eq]; rfl
  rw [Bool.eq_iff_iff, List.isEmpty_iff, decide_eq_true_eq]
  exact ⟨fun h => tl_inj.1 (h.trans h0.symm), fun h => by rw [h, h0]⟩
set_option maxHeartbeats 8000000 in
theorem g_linesOf (s : ByteArray) (h1 : SzT s) : GoalW Tryz.prog [K_Split] ([]) K_linesOf.1 K_linesOf.2 (s) := GoalW.of (vc_linesOf s) (by
  simp (maxSteps := 2000000) [-List.getD_eq_getElem?_getD, -List.mem_cons, -Bool.forall_bool, -Bool.exists_bool, and_assoc, peta, tl_inj, ex_1, ex_2, ex_3, ex_4, ex_5, ex_6, ex_7, ex_8, ex_9, ey_2, ey_3, ey_4, ey_5, ey_6, ey_7, ey_8, ey_9]
  have hs : s.size ≤ 4294967280 := h1
  have hl := cut_len 10 s
  have hp := cut_ne 10 s
  have hw : IntKind.i64.wrap (((cut 10 s).length : Int) - 1) = ((cut 10 s).length : Int) - 1 := wrap_small (by omega) (by omega)
  refine ⟨10, rfl, hs, ?_⟩
  rw [hw]
  have hn : (((cut 10 s).length : Int) - 1).toNat = (cut 10 s).length - 1 := by omega
  rw [hn]
  refine ⟨by omega, by omega, by omega, by omega, by omega, (strs_take (by omega)).2 ?_, ?_⟩
  · unfold linesOf
    rw [List.dropLast_eq_take]
  · have e : (cut 10 s).getD ((cut 10 s).length - 1) ByteArray.empty = (cut 10 s).getLastD ByteArray.empty := by
      rw [List.getD_eq_getElem?_getD, ← List.getLast?_eq_getElem?, List.getLastD_eq_getLast?]
    rw [e]
    unfold linesOf
    rw [tl_empty])
theorem k_linesOf : SoundC Tryz.prog K_linesOf.1 K_linesOf.2 := sound_ofW hm (CtxOK.nil.and k_Split) (fun (s : ByteArray) => []) (by kernel_rfl) fun (s : ByteArray) hb => g_linesOf s hb
end Cg
