/-
  What is left to show of each function's code, printed by a program: Draw. No condition.
-/
import Derived.Test.YtgobdkgdhmkegaaDrawDefs
import Derived.Test.YtgobdkgdhmkegaaProg
set_option maxRecDepth 100000
set_option linter.unusedVariables false
namespace Cg
open Go Go.Proofs
theorem vc_l16Open (b : List Int) : (condP (Decidable.decide ((↑b.length : Int) > (2000 : Int)))
 (((0 : Int) ≤ (2000 : Int) ∧ (2000 : Int) ≤ (↑b.length : Int)) ∧
 Exists fun (y : List Int) => Rd (0 : Int) y (0 : Int) ∧ ((0 : Nat) = (0 : Nat) ∧ True) ∧ (Is (AV.sl (2000 : Nat) (1 : Nat) (cU b)) (byts y) ∧ (0 : Int) = (0 : Int) ∧ True) ∧ True)
 (Exists fun (y : List Int) => Rd (0 : Int) y (0 : Int) ∧ ((0 : Nat) = (0 : Nat) ∧ True) ∧ (Is (byts b) (byts y) ∧ (0 : Int) = (0 : Int) ∧ True) ∧ True)) = Goal Try.prog [] ([]) K_l16Open.1 K_l16Open.2 (b) := by kernel_rfl

theorem vc_pick (b : List Int) (p n : Int) : (condP (Decidable.decide (n < (1 : Int)))
 (Exists fun (y : Int) =>
 (((1 : Int) ≤ n → (0 : Int) ≤ y ∧ y < n) ∧ (n < (1 : Int) → y = (0 : Int))) ∧
 ((0 : Int) = y ∧ True) ∧ (Is (byts b) (byts b) ∧ IntKind.i64.wrap (p + (1 : Int)) = p + (1 : Int) ∧ True) ∧ True)
 (condP ((↑b.length : Int) == (0 : Int))
 (Exists fun (y : Int) =>
 (((1 : Int) ≤ n → (0 : Int) ≤ y ∧ y < n) ∧ (n < (1 : Int) → y = (0 : Int))) ∧
 ((0 : Int) = y ∧ True) ∧ (Is (byts b) (byts b) ∧ IntKind.i64.wrap (p + (1 : Int)) = p + (1 : Int) ∧ True) ∧ True)
 (condP (Decidable.decide (IntKind.i64.wrap (IntKind.i64.wrap (p + (1 : Int)) - (1 : Int)) < (↑b.length : Int)))
 (((0 : Int) ≤ IntKind.i64.wrap (IntKind.i64.wrap (p + (1 : Int)) - (1 : Int)) ∧ IntKind.i64.wrap (IntKind.i64.wrap (p + (1 : Int)) - (1 : Int)) < (↑b.length : Int)) ∧
 (IntKind.i64.wrap (IntKind.i64.wrap (p + (1 : Int)) - (1 : Int))).toNat < b.length ∧
 n ≠ (0 : Int) ∧
 Exists fun (y : Int) =>
 (((1 : Int) ≤ n → (0 : Int) ≤ y ∧ y < n) ∧ (n < (1 : Int) → y = (0 : Int))) ∧
 ((IntKind.i64.wrap (b.getD (IntKind.i64.wrap (IntKind.i64.wrap (p + (1 : Int)) - (1 : Int))).toNat (0 : Int))).tmod n = y ∧ True) ∧
 (Is (byts b) (byts b) ∧ IntKind.i64.wrap (p + (1 : Int)) = p + (1 : Int) ∧ True) ∧ True)
 ((↑b.length : Int) ≠ (0 : Int) ∧
 ((0 : Int) ≤ (IntKind.i64.wrap (IntKind.i64.wrap (p + (1 : Int)) - (1 : Int))).tmod (↑b.length : Int) ∧
 (IntKind.i64.wrap (IntKind.i64.wrap (p + (1 : Int)) - (1 : Int))).tmod (↑b.length : Int) < (↑b.length : Int)) ∧
 ((IntKind.i64.wrap (IntKind.i64.wrap (p + (1 : Int)) - (1 : Int))).tmod (↑b.length : Int)).toNat < b.length ∧
 (↑b.length : Int) ≠ (0 : Int) ∧
 ((0 : Int) ≤ (IntKind.i64.wrap (IntKind.i64.wrap (IntKind.i64.wrap (IntKind.i64.wrap (p + (1 : Int)) - (1 : Int)) * (7 : Int)) + (3 : Int))).tmod (↑b.length : Int) ∧
 (IntKind.i64.wrap (IntKind.i64.wrap (IntKind.i64.wrap (IntKind.i64.wrap (p + (1 : Int)) - (1 : Int)) * (7 : Int)) + (3 : Int))).tmod (↑b.length : Int) <
 (↑b.length : Int)) ∧
 ((IntKind.i64.wrap (IntKind.i64.wrap (IntKind.i64.wrap (IntKind.i64.wrap (p + (1 : Int)) - (1 : Int)) * (7 : Int)) + (3 : Int))).tmod (↑b.length : Int)).toNat < b.length ∧
 (↑b.length : Int) ≠ (0 : Int) ∧
 (64 : Int) ≠ (0 : Int) ∧
 n ≠ (0 : Int) ∧
 Exists fun (y : Int) =>
 (((1 : Int) ≤ n → (0 : Int) ≤ y ∧ y < n) ∧ (n < (1 : Int) → y = (0 : Int))) ∧
 ((IntKind.i64.wrap
 (↑(BitVec.ofInt (64 : Nat)
 (IntKind.i64.wrap
 (IntKind.i64.wrap
 (IntKind.i64.wrap
 (IntKind.i64.wrap
 (IntKind.i64.wrap
 (b.getD ((IntKind.i64.wrap (IntKind.i64.wrap (p + (1 : Int)) - (1 : Int))).tmod (↑b.length : Int)).toNat (0 : Int)) *
 (131 : Int)) +
 IntKind.i64.wrap
 (IntKind.i64.wrap
 (b.getD
 ((IntKind.i64.wrap
 (IntKind.i64.wrap (IntKind.i64.wrap (IntKind.i64.wrap (p + (1 : Int)) - (1 : Int)) * (7 : Int)) +
 (3 : Int))).tmod
 (↑b.length : Int)).toNat
 (0 : Int)) *
 (1117 : Int))) +
 IntKind.i64.wrap (IntKind.i64.wrap (IntKind.i64.wrap (p + (1 : Int)) - (1 : Int)) * (29 : Int))) +
 IntKind.i64.wrap
 (IntKind.i64.wrap ((IntKind.i64.wrap (IntKind.i64.wrap (p + (1 : Int)) - (1 : Int))).tdiv (↑b.length : Int)) * (53 : Int)))) ^^^
 BitVec.ofInt (64 : Nat)
 (IntKind.i64.wrap
 ((IntKind.i64.wrap
 (IntKind.i64.wrap
 (IntKind.i64.wrap
 (IntKind.i64.wrap
 (IntKind.i64.wrap
 (b.getD ((IntKind.i64.wrap (IntKind.i64.wrap (p + (1 : Int)) - (1 : Int))).tmod (↑b.length : Int)).toNat (0 : Int)) *
 (131 : Int)) +
 IntKind.i64.wrap
 (IntKind.i64.wrap
 (b.getD
 ((IntKind.i64.wrap
 (IntKind.i64.wrap (IntKind.i64.wrap (IntKind.i64.wrap (p + (1 : Int)) - (1 : Int)) * (7 : Int)) +
 (3 : Int))).tmod
 (↑b.length : Int)).toNat
 (0 : Int)) *
 (1117 : Int))) +
 IntKind.i64.wrap (IntKind.i64.wrap (IntKind.i64.wrap (p + (1 : Int)) - (1 : Int)) * (29 : Int))) +
 IntKind.i64.wrap
 (IntKind.i64.wrap ((IntKind.i64.wrap (IntKind.i64.wrap (p + (1 : Int)) - (1 : Int))).tdiv (↑b.length : Int)) * (53 : Int)))).tdiv
 (64 : Int)))).toNat :
 Int)).tmod
 n =
 y ∧
 True) ∧
 (Is (byts b) (byts b) ∧ IntKind.i64.wrap (p + (1 : Int)) = p + (1 : Int) ∧ True) ∧ True)))) = Goal Try.prog [] ([]) K_pick.1 K_pick.2 ((b, p, n)) := by kernel_rfl

theorem vc_num (b : List Int) (p : Int) (l : List Int) : (Exists fun (x : List Int × Int × Int) =>
 Rd (1099511627776 : Int) x.fst x.snd.fst ∧
 (((0 : Nat) = (0 : Nat) ∧ (↑l.length : Int) = x.snd.snd ∧ True) ∧ (Is (byts b) (byts x.fst) ∧ p = x.snd.fst ∧ True) ∧ True) ∧
 ∀ (y : Int),
 ((1 : Int) ≤ x.snd.snd → (0 : Int) ≤ y ∧ y < x.snd.snd) ∧ (x.snd.snd < (1 : Int) → y = (0 : Int)) →
 ((0 : Int) ≤ y ∧ y < (↑l.length : Int)) ∧
 y.toNat < l.length ∧
 Exists fun (y_1 : Int) => y_1 ∈ l ∧ (l.getD y.toNat (0 : Int) = y_1 ∧ True) ∧ (Is (byts x.fst) (byts b) ∧ x.snd.fst + (1 : Int) = p + (1 : Int) ∧ True) ∧ True) = Goal Try.prog [K_pick] ([]) K_num.1 K_num.2 ((b, p, l)) := by kernel_rfl

theorem vc_l1Max2 (x y : Int) : (condP (Decidable.decide (x > y)) (x = if x > y then x else y) (y = if x > y then x else y)) = Goal Try.prog [] ([]) K_l1Max2.1 K_l1Max2.2 ((x, y)) := by kernel_rfl

theorem vc_l10Mark (b : List Int) (p n : Int) : (Exists fun (x : List Int × Int × Int) =>
 Rd (1099511627776 : Int) x.fst x.snd.fst ∧
 (((0 : Nat) = (0 : Nat) ∧ (40 : Int) = x.snd.snd ∧ True) ∧ (Is (byts b) (byts x.fst) ∧ p = x.snd.fst ∧ True) ∧ True) ∧
 ∀ (y : Int),
 ((1 : Int) ≤ x.snd.snd → (0 : Int) ≤ y ∧ y < x.snd.snd) ∧ (x.snd.snd < (1 : Int) → y = (0 : Int)) →
 condP (y == (0 : Int))
 (Exists fun (x_1 : List Int × Int × List Int) =>
 (Rd (1099511627776 : Int) x_1.fst x_1.snd.fst ∧ x_1.snd.snd ≠ [] ∧ Sz x_1.snd.snd) ∧
 (((0 : Nat) = (0 : Nat) ∧
 Is
 (AV.lit (5 : Nat) (1 : Nat)
 (rowsCell
 [[i64 (0 : Int)], [i64 (IntKind.i64.wrap (n + (1 : Int)))], [i64 (61 : Int)], [i64 (9223372036854775807 : Int)], [i64 (-9223372036854775808 : Int)]]))
 (ints x_1.snd.snd) ∧
 True) ∧
 (Is (byts x.fst) (byts x_1.fst) ∧ x.snd.fst + (1 : Int) = x_1.snd.fst ∧ True) ∧ True) ∧
 ∀ (y : Int),
 y ∈ x_1.snd.snd →
 Exists fun (y_1 : Int × Int) =>
 (p ≤ y_1.snd ∧ y_1.snd ≤ p + (3 : Int)) ∧ (y = y_1.fst ∧ True) ∧ (Is (byts x_1.fst) (byts b) ∧ x_1.snd.fst + (1 : Int) = y_1.snd ∧ True) ∧ True)
 (Exists fun (x_1 : Int × Int) =>
 ((1 : Int) = x_1.fst ∧ n = x_1.snd ∧ True) ∧
 True ∧
 Exists fun (x_2 : List Int × Int × Int) =>
 Rd (1099511627776 : Int) x_2.fst x_2.snd.fst ∧
 (((0 : Nat) = (0 : Nat) ∧ (if x_1.fst > x_1.snd then x_1.fst else x_1.snd) = x_2.snd.snd ∧ True) ∧
 (Is (byts x.fst) (byts x_2.fst) ∧ x.snd.fst + (1 : Int) = x_2.snd.fst ∧ True) ∧ True) ∧
 ∀ (y : Int),
 ((1 : Int) ≤ x_2.snd.snd → (0 : Int) ≤ y ∧ y < x_2.snd.snd) ∧ (x_2.snd.snd < (1 : Int) → y = (0 : Int)) →
 Exists fun (x : List Int × Int × Int) =>
 Rd (1099511627776 : Int) x.fst x.snd.fst ∧
 (((0 : Nat) = (0 : Nat) ∧ (2 : Int) = x.snd.snd ∧ True) ∧ (Is (byts x_2.fst) (byts x.fst) ∧ x_2.snd.fst + (1 : Int) = x.snd.fst ∧ True) ∧ True) ∧
 ∀ (y_1 : Int),
 ((1 : Int) ≤ x.snd.snd → (0 : Int) ≤ y_1 ∧ y_1 < x.snd.snd) ∧ (x.snd.snd < (1 : Int) → y_1 = (0 : Int)) →
 condP (y_1 == (0 : Int))
 (Exists fun (y_2 : Int × Int) =>
 (p ≤ y_2.snd ∧ y_2.snd ≤ p + (3 : Int)) ∧
 (IntKind.i64.wrap ((0 : Int) - IntKind.i64.wrap ((1 : Int) + y)) = y_2.fst ∧ True) ∧
 (Is (byts x.fst) (byts b) ∧ x.snd.fst + (1 : Int) = y_2.snd ∧ True) ∧ True)
 (Exists fun (y_2 : Int × Int) =>
 (p ≤ y_2.snd ∧ y_2.snd ≤ p + (3 : Int)) ∧
 (IntKind.i64.wrap ((1 : Int) + y) = y_2.fst ∧ True) ∧ (Is (byts x.fst) (byts b) ∧ x.snd.fst + (1 : Int) = y_2.snd ∧ True) ∧ True))) = Goal Try.prog [K_pick, K_num, K_l1Max2] ([]) K_l10Mark.1 K_l10Mark.2 ((b, p, n)) := by kernel_rfl

theorem vc_l10Marks (b : List Int) (p m n : Int) : ((Exists fun (x : Nat × List Int × Int) =>
 (x.snd.fst.length = x.fst ∧ ((↑x.fst : Int) ≤ n ∨ x.fst = (0 : Nat)) ∧ p ≤ x.snd.snd ∧ x.snd.snd ≤ p + (3 : Int) * (↑x.fst : Int)) ∧
 ((0 : Nat) = (0 : Nat) ∧ m = m ∧ n = n ∧ ((0 : Nat) = (0 : Nat) ∧ (0 : Nat) = (0 : Nat) ∧ x.snd.fst.length = (0 : Nat)) ∧ (0 : Int) = (↑x.fst : Int) ∧ True) ∧
 (Is (byts b) (byts b) ∧ p = x.snd.snd ∧ True) ∧ x.snd.fst.length = (0 : Nat) ∧ True) ∧
 ∀ (x : Nat × List Int × Int),
 x.snd.fst.length = x.fst ∧ ((↑x.fst : Int) ≤ n ∨ x.fst = (0 : Nat)) ∧ p ≤ x.snd.snd ∧ x.snd.snd ≤ p + (3 : Int) * (↑x.fst : Int) →
 condP (Decidable.decide ((↑x.fst : Int) < n))
 (Exists fun (x_1 : List Int × Int × Int) =>
 Rd (549755813888 : Int) x_1.fst x_1.snd.fst ∧
 (((0 : Nat) = (0 : Nat) ∧ m = x_1.snd.snd ∧ True) ∧ (Is (byts b) (byts x_1.fst) ∧ x.snd.snd = x_1.snd.fst ∧ True) ∧ True) ∧
 ∀ (y : Int × Int),
 x_1.snd.fst ≤ y.snd ∧ y.snd ≤ x_1.snd.fst + (3 : Int) →
 (0 : Nat) + x.snd.fst.length ≤ x.snd.fst.length ∧
 (x.snd.fst.length + (1 : Nat)) * (8 : Nat) ≤ (70368744177664 : Nat) ∧
 Exists fun (x' : Nat × List Int × Int) =>
 (x'.snd.fst.length = x'.fst ∧ ((↑x'.fst : Int) ≤ n ∨ x'.fst = (0 : Nat)) ∧ p ≤ x'.snd.snd ∧ x'.snd.snd ≤ p + (3 : Int) * (↑x'.fst : Int)) ∧
 (n - (↑x'.fst : Int)).toNat < (n - (↑x.fst : Int)).toNat ∧
 ((0 : Nat) = (0 : Nat) ∧
 m = m ∧
 n = n ∧ ((0 : Nat) = (0 : Nat) ∧ x.snd.fst.length + (1 : Nat) = x'.snd.fst.length) ∧ IntKind.i64.wrap ((↑x.fst : Int) + (1 : Int)) = (↑x'.fst : Int) ∧ True) ∧
 (Is (byts x_1.fst) (byts b) ∧ y.snd = x'.snd.snd ∧ True) ∧
 IsO (AObj.arr (x.snd.fst.length + (1 : Nat)) (1 : Nat) (joinC x.snd.fst.length (cI x.snd.fst) (rowsCell [[i64 y.fst]]))) (arI x'.snd.fst) ∧ True)
 (Exists fun (y : List Int × Int) =>
 (y.fst.length ≤ (100 : Nat) ∧ p ≤ y.snd ∧ y.snd ≤ p + (300 : Int)) ∧
 (0 : Nat) + x.snd.fst.length ≤ x.snd.fst.length ∧ (Is (ints x.snd.fst) (ints y.fst) ∧ True) ∧ (Is (byts b) (byts b) ∧ x.snd.snd = y.snd ∧ True) ∧ True)) = Goal Try.prog [K_l10Mark] (A_l10Marks b p m n) K_l10Marks.1 K_l10Marks.2 ((b, p, m, n)) := by kernel_rfl

theorem vc_l10Vals (b : List Int) (p m : Int) : ((Exists fun (x : Nat × List Bool × Int) =>
 (x.snd.fst.length = x.fst ∧ ((↑x.fst : Int) ≤ m ∨ x.fst = (0 : Nat)) ∧ p ≤ x.snd.snd ∧ x.snd.snd ≤ p + (↑x.fst : Int)) ∧
 ((0 : Nat) = (0 : Nat) ∧ m = m ∧ ((0 : Nat) = (0 : Nat) ∧ (0 : Nat) = (0 : Nat) ∧ x.snd.fst.length = (0 : Nat)) ∧ (0 : Int) = (↑x.fst : Int) ∧ True) ∧
 (Is (byts b) (byts b) ∧ p = x.snd.snd ∧ True) ∧ x.snd.fst.length = (0 : Nat) ∧ True) ∧
 ∀ (x : Nat × List Bool × Int),
 x.snd.fst.length = x.fst ∧ ((↑x.fst : Int) ≤ m ∨ x.fst = (0 : Nat)) ∧ p ≤ x.snd.snd ∧ x.snd.snd ≤ p + (↑x.fst : Int) →
 condP (Decidable.decide ((↑x.fst : Int) < m))
 (Exists fun (x_1 : List Int × Int × Int) =>
 Rd (1099511627776 : Int) x_1.fst x_1.snd.fst ∧
 (((0 : Nat) = (0 : Nat) ∧ (2 : Int) = x_1.snd.snd ∧ True) ∧ (Is (byts b) (byts x_1.fst) ∧ x.snd.snd = x_1.snd.fst ∧ True) ∧ True) ∧
 ∀ (y : Int),
 ((1 : Int) ≤ x_1.snd.snd → (0 : Int) ≤ y ∧ y < x_1.snd.snd) ∧ (x_1.snd.snd < (1 : Int) → y = (0 : Int)) →
 (0 : Nat) + x.snd.fst.length ≤ x.snd.fst.length ∧
 (x.snd.fst.length + (1 : Nat)) * (1 : Nat) ≤ (70368744177664 : Nat) ∧
 Exists fun (x' : Nat × List Bool × Int) =>
 (x'.snd.fst.length = x'.fst ∧ ((↑x'.fst : Int) ≤ m ∨ x'.fst = (0 : Nat)) ∧ p ≤ x'.snd.snd ∧ x'.snd.snd ≤ p + (↑x'.fst : Int)) ∧
 (m - (↑x'.fst : Int)).toNat < (m - (↑x.fst : Int)).toNat ∧
 ((0 : Nat) = (0 : Nat) ∧
 m = m ∧ ((0 : Nat) = (0 : Nat) ∧ x.snd.fst.length + (1 : Nat) = x'.snd.fst.length) ∧ IntKind.i64.wrap ((↑x.fst : Int) + (1 : Int)) = (↑x'.fst : Int) ∧ True) ∧
 (Is (byts x_1.fst) (byts b) ∧ x_1.snd.fst + (1 : Int) = x'.snd.snd ∧ True) ∧
 IsO (AObj.arr (x.snd.fst.length + (1 : Nat)) (1 : Nat) (joinC x.snd.fst.length (cB x.snd.fst) (rowsCell [[bl (y == (0 : Int))]])))
 (arB x'.snd.fst) ∧
 True)
 (Exists fun (x_1 : List Int × Int × Int) =>
 Rd (1099511627776 : Int) x_1.fst x_1.snd.fst ∧
 (((0 : Nat) = (0 : Nat) ∧ (30 : Int) = x_1.snd.snd ∧ True) ∧ (Is (byts b) (byts x_1.fst) ∧ x.snd.snd = x_1.snd.fst ∧ True) ∧ True) ∧
 ∀ (y : Int),
 ((1 : Int) ≤ x_1.snd.snd → (0 : Int) ≤ y ∧ y < x_1.snd.snd) ∧ (x_1.snd.snd < (1 : Int) → y = (0 : Int)) →
 condP (y == (0 : Int))
 ((0 : Nat) + x.snd.fst.length ≤ x.snd.fst.length ∧
 (x.snd.fst.length + (1 : Nat)) * (1 : Nat) ≤ (70368744177664 : Nat) ∧
 Exists fun (y : List Bool × Int) =>
 (y.fst.length ≤ (101 : Nat) ∧ p ≤ y.snd ∧ y.snd ≤ p + (300 : Int)) ∧
 (0 : Nat) + (x.snd.fst.length + (1 : Nat)) ≤ x.snd.fst.length + (1 : Nat) ∧
 (Is (AV.sl (x.snd.fst.length + (1 : Nat)) (1 : Nat) fun (i j : Nat) => joinC x.snd.fst.length (cB x.snd.fst) (rowsCell [[bl Bool.true]]) i j)
 (bools y.fst) ∧
 True) ∧
 (Is (byts x_1.fst) (byts b) ∧ x_1.snd.fst + (1 : Int) = y.snd ∧ True) ∧ True)
 (Exists fun (y : List Bool × Int) =>
 (y.fst.length ≤ (101 : Nat) ∧ p ≤ y.snd ∧ y.snd ≤ p + (300 : Int)) ∧
 (0 : Nat) + x.snd.fst.length ≤ x.snd.fst.length ∧
 (Is (bools x.snd.fst) (bools y.fst) ∧ True) ∧ (Is (byts x_1.fst) (byts b) ∧ x_1.snd.fst + (1 : Int) = y.snd ∧ True) ∧ True))) = Goal Try.prog [K_pick] (A_l10Vals b p m) K_l10Vals.1 K_l10Vals.2 ((b, p, m)) := by kernel_rfl

theorem vc_l10Put (l : List Int) (n : Int) : ((Exists fun (x : Nat) =>
 (x ≤ l.length ∧ Pl.putS l n = (List.take x l ++ (Pl.putS (List.drop x l) n).fst, (Pl.putS (List.drop x l) n).snd)) ∧
 (Is (ints l) (ints l) ∧ n = n ∧ (0 : Int) = (↑x : Int) ∧ True) ∧ True) ∧
 ∀ (x : Nat),
 x ≤ l.length ∧ Pl.putS l n = (List.take x l ++ (Pl.putS (List.drop x l) n).fst, (Pl.putS (List.drop x l) n).snd) →
 condP (Decidable.decide ((↑x : Int) < (↑l.length : Int)))
 (((0 : Int) ≤ (↑x : Int) ∧ (↑x : Int) < (↑l.length : Int)) ∧
 x < l.length ∧
 Exists fun (x_1 : Int) =>
 (l.getD x (0 : Int) = x_1 ∧ True) ∧
 True ∧
 Exists fun (x_2 : Int) =>
 (n = x_2 ∧ True) ∧
 True ∧
 condP (Decidable.decide (Pl.absW x_1 < Pl.absW x_2))
 (Exists fun (x' : Nat) =>
 (x' ≤ l.length ∧ Pl.putS l n = (List.take x' l ++ (Pl.putS (List.drop x' l) n).fst, (Pl.putS (List.drop x' l) n).snd)) ∧
 l.length - x' < l.length - x ∧ (Is (ints l) (ints l) ∧ n = n ∧ IntKind.i64.wrap ((↑x : Int) + (1 : Int)) = (↑x' : Int) ∧ True) ∧ True)
 (condP (Decidable.decide ((↑x : Int) < (↑l.length : Int)))
 (((0 : Int) ≤ (↑x : Int) ∧ (↑x : Int) < (↑l.length : Int)) ∧
 x < l.length ∧
 Exists fun (x_3 : Int) =>
 (l.getD x (0 : Int) = x_3 ∧ True) ∧
 True ∧
 Exists fun (x_4 : Int) =>
 (n = x_4 ∧ True) ∧
 True ∧
 condP (Pl.absW x_3 == Pl.absW x_4)
 (((0 : Int) ≤ (↑x : Int) ∧ (↑x : Int) < (↑l.length : Int)) ∧
 x < l.length ∧ Is (ints l) (ints (Pl.putS l n).fst) ∧ (l.getD x (0 : Int) == n) = (Pl.putS l n).snd ∧ True)
 (((0 : Int) ≤ (↑x : Int) ∧ (↑x : Int) ≤ (↑l.length : Int)) ∧
 ((0 : Nat) = (0 : Nat) ∨ (0 : Nat) < l.length - x) ∧
 ((0 : Nat) + (l.length - x)) * (8 : Nat) ≤ (70368744177664 : Nat) ∧
 ((0 : Int) ≤ (↑x : Int) ∧ (↑x : Int) ≤ (↑l.length : Int)) ∧
 ((0 : Nat) = (0 : Nat) ∨ (0 : Nat) < x) ∧
 ((0 : Nat) + x) * (8 : Nat) ≤ (70368744177664 : Nat) ∧
 (0 : Nat) + ((0 : Nat) + x) ≤ (0 : Nat) + x ∧
 ((0 : Nat) + x + (1 : Nat)) * (8 : Nat) ≤ (70368744177664 : Nat) ∧
 (0 : Nat) + ((0 : Nat) + (l.length - x)) ≤ (0 : Nat) + (l.length - x) ∧
 (0 : Nat) + ((0 : Nat) + x + (1 : Nat)) ≤ (0 : Nat) + x + (1 : Nat) ∧
 ((0 : Nat) + x + (1 : Nat) + ((0 : Nat) + (l.length - x))) * (8 : Nat) ≤ (70368744177664 : Nat) ∧
 (0 : Nat) + ((0 : Nat) + x + (1 : Nat) + ((0 : Nat) + (l.length - x))) ≤ (0 : Nat) + x + (1 : Nat) + ((0 : Nat) + (l.length - x)) ∧
 Is
 (AV.sl ((0 : Nat) + x + (1 : Nat) + ((0 : Nat) + (l.length - x))) (1 : Nat) fun (i j : Nat) =>
 joinC ((0 : Nat) + x + (1 : Nat)) (fun (i j : Nat) => joinC ((0 : Nat) + x) (cI l) (rowsCell [[i64 n]]) i j)
 (fun (i j : Nat) => i64 (l.getD (i - (0 : Nat) + x) (0 : Int))) i j)
 (ints (Pl.putS l n).fst) ∧
 Bool.true = (Pl.putS l n).snd ∧ True))
 (((0 : Int) ≤ (↑x : Int) ∧ (↑x : Int) ≤ (↑l.length : Int)) ∧
 ((0 : Nat) = (0 : Nat) ∨ (0 : Nat) < l.length - x) ∧
 ((0 : Nat) + (l.length - x)) * (8 : Nat) ≤ (70368744177664 : Nat) ∧
 ((0 : Int) ≤ (↑x : Int) ∧ (↑x : Int) ≤ (↑l.length : Int)) ∧
 ((0 : Nat) = (0 : Nat) ∨ (0 : Nat) < x) ∧
 ((0 : Nat) + x) * (8 : Nat) ≤ (70368744177664 : Nat) ∧
 (0 : Nat) + ((0 : Nat) + x) ≤ (0 : Nat) + x ∧
 ((0 : Nat) + x + (1 : Nat)) * (8 : Nat) ≤ (70368744177664 : Nat) ∧
 (0 : Nat) + ((0 : Nat) + (l.length - x)) ≤ (0 : Nat) + (l.length - x) ∧
 (0 : Nat) + ((0 : Nat) + x + (1 : Nat)) ≤ (0 : Nat) + x + (1 : Nat) ∧
 ((0 : Nat) + x + (1 : Nat) + ((0 : Nat) + (l.length - x))) * (8 : Nat) ≤ (70368744177664 : Nat) ∧
 (0 : Nat) + ((0 : Nat) + x + (1 : Nat) + ((0 : Nat) + (l.length - x))) ≤ (0 : Nat) + x + (1 : Nat) + ((0 : Nat) + (l.length - x)) ∧
 Is
 (AV.sl ((0 : Nat) + x + (1 : Nat) + ((0 : Nat) + (l.length - x))) (1 : Nat) fun (i j : Nat) =>
 joinC ((0 : Nat) + x + (1 : Nat)) (fun (i j : Nat) => joinC ((0 : Nat) + x) (cI l) (rowsCell [[i64 n]]) i j)
 (fun (i j : Nat) => i64 (l.getD (i - (0 : Nat) + x) (0 : Int))) i j)
 (ints (Pl.putS l n).fst) ∧
 Bool.true = (Pl.putS l n).snd ∧ True)))
 (condP (Decidable.decide ((↑x : Int) < (↑l.length : Int)))
 (((0 : Int) ≤ (↑x : Int) ∧ (↑x : Int) < (↑l.length : Int)) ∧
 x < l.length ∧
 Exists fun (x_1 : Int) =>
 (l.getD x (0 : Int) = x_1 ∧ True) ∧
 True ∧
 Exists fun (x_2 : Int) =>
 (n = x_2 ∧ True) ∧
 True ∧
 condP (Pl.absW x_1 == Pl.absW x_2)
 (((0 : Int) ≤ (↑x : Int) ∧ (↑x : Int) < (↑l.length : Int)) ∧
 x < l.length ∧ Is (ints l) (ints (Pl.putS l n).fst) ∧ (l.getD x (0 : Int) == n) = (Pl.putS l n).snd ∧ True)
 (((0 : Int) ≤ (↑x : Int) ∧ (↑x : Int) ≤ (↑l.length : Int)) ∧
 ((0 : Nat) = (0 : Nat) ∨ (0 : Nat) < l.length - x) ∧
 ((0 : Nat) + (l.length - x)) * (8 : Nat) ≤ (70368744177664 : Nat) ∧
 ((0 : Int) ≤ (↑x : Int) ∧ (↑x : Int) ≤ (↑l.length : Int)) ∧
 ((0 : Nat) = (0 : Nat) ∨ (0 : Nat) < x) ∧
 ((0 : Nat) + x) * (8 : Nat) ≤ (70368744177664 : Nat) ∧
 (0 : Nat) + ((0 : Nat) + x) ≤ (0 : Nat) + x ∧
 ((0 : Nat) + x + (1 : Nat)) * (8 : Nat) ≤ (70368744177664 : Nat) ∧
 (0 : Nat) + ((0 : Nat) + (l.length - x)) ≤ (0 : Nat) + (l.length - x) ∧
 (0 : Nat) + ((0 : Nat) + x + (1 : Nat)) ≤ (0 : Nat) + x + (1 : Nat) ∧
 ((0 : Nat) + x + (1 : Nat) + ((0 : Nat) + (l.length - x))) * (8 : Nat) ≤ (70368744177664 : Nat) ∧
 (0 : Nat) + ((0 : Nat) + x + (1 : Nat) + ((0 : Nat) + (l.length - x))) ≤ (0 : Nat) + x + (1 : Nat) + ((0 : Nat) + (l.length - x)) ∧
 Is
 (AV.sl ((0 : Nat) + x + (1 : Nat) + ((0 : Nat) + (l.length - x))) (1 : Nat) fun (i j : Nat) =>
 joinC ((0 : Nat) + x + (1 : Nat)) (fun (i j : Nat) => joinC ((0 : Nat) + x) (cI l) (rowsCell [[i64 n]]) i j)
 (fun (i j : Nat) => i64 (l.getD (i - (0 : Nat) + x) (0 : Int))) i j)
 (ints (Pl.putS l n).fst) ∧
 Bool.true = (Pl.putS l n).snd ∧ True))
 (((0 : Int) ≤ (↑x : Int) ∧ (↑x : Int) ≤ (↑l.length : Int)) ∧
 ((0 : Nat) = (0 : Nat) ∨ (0 : Nat) < l.length - x) ∧
 ((0 : Nat) + (l.length - x)) * (8 : Nat) ≤ (70368744177664 : Nat) ∧
 ((0 : Int) ≤ (↑x : Int) ∧ (↑x : Int) ≤ (↑l.length : Int)) ∧
 ((0 : Nat) = (0 : Nat) ∨ (0 : Nat) < x) ∧
 ((0 : Nat) + x) * (8 : Nat) ≤ (70368744177664 : Nat) ∧
 (0 : Nat) + ((0 : Nat) + x) ≤ (0 : Nat) + x ∧
 ((0 : Nat) + x + (1 : Nat)) * (8 : Nat) ≤ (70368744177664 : Nat) ∧
 (0 : Nat) + ((0 : Nat) + (l.length - x)) ≤ (0 : Nat) + (l.length - x) ∧
 (0 : Nat) + ((0 : Nat) + x + (1 : Nat)) ≤ (0 : Nat) + x + (1 : Nat) ∧
 ((0 : Nat) + x + (1 : Nat) + ((0 : Nat) + (l.length - x))) * (8 : Nat) ≤ (70368744177664 : Nat) ∧
 (0 : Nat) + ((0 : Nat) + x + (1 : Nat) + ((0 : Nat) + (l.length - x))) ≤ (0 : Nat) + x + (1 : Nat) + ((0 : Nat) + (l.length - x)) ∧
 Is
 (AV.sl ((0 : Nat) + x + (1 : Nat) + ((0 : Nat) + (l.length - x))) (1 : Nat) fun (i j : Nat) =>
 joinC ((0 : Nat) + x + (1 : Nat)) (fun (i j : Nat) => joinC ((0 : Nat) + x) (cI l) (rowsCell [[i64 n]]) i j)
 (fun (i j : Nat) => i64 (l.getD (i - (0 : Nat) + x) (0 : Int))) i j)
 (ints (Pl.putS l n).fst) ∧
 Bool.true = (Pl.putS l n).snd ∧ True))) = Goal Try.prog [K_l10Abs] (A_l10Put l n) K_l10Put.1 K_l10Put.2 ((l, n)) := by kernel_rfl

theorem vc_sClauseOf (l : List Int) : ((Exists fun (x : Nat) =>
 (x ≤ l.length ∧ l.any Pl.badMark = (List.drop x l).any Pl.badMark) ∧
 (Is (ints l) (ints l) ∧ Is (AV.lit (0 : Nat) (1 : Nat) (rowsCell [])) nilA ∧ (0 : Int) = (↑x : Int) ∧ True) ∧ True) ∧
 ∀ (x : Nat),
 x ≤ l.length ∧ l.any Pl.badMark = (List.drop x l).any Pl.badMark →
 condP (Decidable.decide ((↑x : Int) < (↑l.length : Int)))
 (((0 : Int) ≤ (↑x : Int) ∧ (↑x : Int) < (↑l.length : Int)) ∧
 x < l.length ∧
 condP (l.getD x (0 : Int) == (0 : Int)) (Is (AV.lit (0 : Nat) (1 : Nat) (rowsCell [])) (ints (Pl.clauseOf l).fst) ∧ Bool.false = (Pl.clauseOf l).snd ∧ True)
 (((0 : Int) ≤ (↑x : Int) ∧ (↑x : Int) < (↑l.length : Int)) ∧
 x < l.length ∧
 Exists fun (x_1 : Int) =>
 (l.getD x (0 : Int) = x_1 ∧ True) ∧
 True ∧
 condP (Decidable.decide (Pl.absW x_1 > (60 : Int)))
 (Is (AV.lit (0 : Nat) (1 : Nat) (rowsCell [])) (ints (Pl.clauseOf l).fst) ∧ Bool.false = (Pl.clauseOf l).snd ∧ True)
 (Exists fun (x' : Nat) =>
 (x' ≤ l.length ∧ l.any Pl.badMark = (List.drop x' l).any Pl.badMark) ∧
 l.length - x' < l.length - x ∧
 (Is (ints l) (ints l) ∧
 Is (AV.lit (0 : Nat) (1 : Nat) fun (x x_2 : Nat) => AV.any) nilA ∧ IntKind.i64.wrap ((↑x : Int) + (1 : Int)) = (↑x' : Int) ∧ True) ∧
 True)))
 ((Exists fun (x : Nat × List Int) =>
 (x.fst ≤ l.length ∧ Pl.clauseOf l = Pl.clauseL (List.drop x.fst l) x.snd ∧ x.snd.length ≤ x.fst) ∧
 (Is (ints l) (ints l) ∧ Is (AV.lit (0 : Nat) (1 : Nat) fun (x x_1 : Nat) => AV.any) (ints x.snd) ∧ (0 : Int) = (↑x.fst : Int) ∧ True) ∧ True) ∧
 ∀ (x : Nat × List Int),
 x.fst ≤ l.length ∧ Pl.clauseOf l = Pl.clauseL (List.drop x.fst l) x.snd ∧ x.snd.length ≤ x.fst →
 condP (Decidable.decide ((↑x.fst : Int) < (↑l.length : Int)))
 (((0 : Int) ≤ (↑x.fst : Int) ∧ (↑x.fst : Int) < (↑l.length : Int)) ∧
 x.fst < l.length ∧
 Exists fun (x_1 : List Int × Int) =>
 (Is (ints x.snd) (ints x_1.fst) ∧ l.getD x.fst (0 : Int) = x_1.snd ∧ True) ∧
 SzH x_1.fst ∧
 condP (!(Pl.putS x_1.fst x_1.snd).snd) (Is (AV.lit (0 : Nat) (1 : Nat) (rowsCell [])) (ints (Pl.clauseOf l).fst) ∧ Bool.false = (Pl.clauseOf l).snd ∧ True)
 (Exists fun (x' : Nat × List Int) =>
 (x'.fst ≤ l.length ∧ Pl.clauseOf l = Pl.clauseL (List.drop x'.fst l) x'.snd ∧ x'.snd.length ≤ x'.fst) ∧
 l.length - x'.fst < l.length - x.fst ∧
 (Is (ints l) (ints l) ∧
 Is (ints (Pl.putS x_1.fst x_1.snd).fst) (ints x'.snd) ∧ IntKind.i64.wrap ((↑x.fst : Int) + (1 : Int)) = (↑x'.fst : Int) ∧ True) ∧
 True))
 (Is (ints x.snd) (ints (Pl.clauseOf l).fst) ∧ Bool.true = (Pl.clauseOf l).snd ∧ True))) = Goal Try.prog [K_l10Abs, K_l10Put] (A_sClauseOf l) K_sClauseOf.1 K_sClauseOf.2 (l) := by kernel_rfl

theorem vc_l10Cnf (b : List Int) (p : Int) : (Exists fun (x : List Int × Int × List Int) =>
 (Rd (1099511627776 : Int) x.fst x.snd.fst ∧ x.snd.snd ≠ [] ∧ Sz x.snd.snd) ∧
 (((0 : Nat) = (0 : Nat) ∧
 Is
 (AV.lit (7 : Nat) (1 : Nat) (rowsCell [[i64 (3 : Int)], [i64 (4 : Int)], [i64 (2 : Int)], [i64 (5 : Int)], [i64 (1 : Int)], [i64 (6 : Int)], [i64 (0 : Int)]]))
 (ints x.snd.snd) ∧
 True) ∧
 (Is (byts b) (byts x.fst) ∧ p = x.snd.fst ∧ True) ∧ True) ∧
 ∀ (y : Int),
 y ∈ x.snd.snd →
 Exists fun (x_1 : List Int × Int × List Int) =>
 (Rd (1099511627776 : Int) x_1.fst x_1.snd.fst ∧ x_1.snd.snd ≠ [] ∧ Sz x_1.snd.snd) ∧
 (((0 : Nat) = (0 : Nat) ∧
 Is (AV.lit (6 : Nat) (1 : Nat) (rowsCell [[i64 (4 : Int)], [i64 (6 : Int)], [i64 (8 : Int)], [i64 (2 : Int)], [i64 (12 : Int)], [i64 (0 : Int)]]))
 (ints x_1.snd.snd) ∧
 True) ∧
 (Is (byts x.fst) (byts x_1.fst) ∧ x.snd.fst + (1 : Int) = x_1.snd.fst ∧ True) ∧ True) ∧
 ∀ (y_1 : Int),
 y_1 ∈ x_1.snd.snd →
 (Exists fun (x : Int × Int × List (List Int) × Int) =>
 ((0 : Int) ≤ x.fst ∧
 (↑x.snd.snd.fst.length : Int) + x.fst ≤ (12 : Int) ∧
 x.snd.fst ≤ (6 : Int) ∧
 (∀ (y : List Int), y ∈ x.snd.snd.fst → y.length ≤ (100 : Nat)) ∧ p ≤ x.snd.snd.snd ∧ x.snd.snd.snd ≤ p + (2 : Int) + (400 : Int) * ((12 : Int) - x.fst)) ∧
 ((0 : Nat) = (0 : Nat) ∧ (0 : Nat) = (0 : Nat) ∧ (0 : Nat) = (0 : Nat) ∧ y_1 = x.fst ∧ True) ∧
 (Is (byts x_1.fst) (byts b) ∧ x_1.snd.fst + (1 : Int) = x.snd.snd.snd ∧ True) ∧
 ((0 : Int) = (0 : Int) ∧ Is (AV.lit (0 : Nat) (1 : Nat) fun (x x_2 : Nat) => AV.any) nilA ∧ True) ∧
 (y = x.snd.fst ∧ ((0 : Nat) = (0 : Nat) ∧ (0 : Nat) = (0 : Nat) ∧ x.snd.snd.fst.length = (0 : Nat)) ∧ True) ∧ x.snd.snd.fst.length = (0 : Nat) ∧ True) ∧
 ∀ (x : Int × Int × List (List Int) × Int),
 (0 : Int) ≤ x.fst ∧
 (↑x.snd.snd.fst.length : Int) + x.fst ≤ (12 : Int) ∧
 x.snd.fst ≤ (6 : Int) ∧
 (∀ (y : List Int), y ∈ x.snd.snd.fst → y.length ≤ (100 : Nat)) ∧ p ≤ x.snd.snd.snd ∧ x.snd.snd.snd ≤ p + (2 : Int) + (400 : Int) * ((12 : Int) - x.fst) →
 condP (Decidable.decide (x.fst > (0 : Int)))
 ((Exists fun (x_2 : List Int × Int × List Int) =>
 (Rd (1099511627776 : Int) x_2.fst x_2.snd.fst ∧ x_2.snd.snd ≠ [] ∧ Sz x_2.snd.snd) ∧
 (((0 : Nat) = (0 : Nat) ∧
 Is
 (AV.lit (8 : Nat) (1 : Nat)
 (rowsCell
 [[i64 (2 : Int)], [i64 (2 : Int)], [i64 (3 : Int)], [i64 (1 : Int)], [i64 (3 : Int)], [i64 (2 : Int)], [i64 (3 : Int)],
 [i64 (0 : Int)]]))
 (ints x_2.snd.snd) ∧
 True) ∧
 (Is (byts b) (byts x_2.fst) ∧ x.snd.snd.snd = x_2.snd.fst ∧ True) ∧ True) ∧
 ∀ (y : Int),
 y ∈ x_2.snd.snd →
 Exists fun (x_3 : List Int × Int × Int × Int) =>
 (Rd (274877906944 : Int) x_3.fst x_3.snd.fst ∧ x_3.snd.snd.snd ≤ (100 : Int)) ∧
 (((0 : Nat) = (0 : Nat) ∧ x.snd.fst = x_3.snd.snd.fst ∧ y = x_3.snd.snd.snd ∧ True) ∧
 (Is (byts x_2.fst) (byts x_3.fst) ∧ x_2.snd.fst + (1 : Int) = x_3.snd.fst ∧ True) ∧ True) ∧
 ∀ (y : List Int × Int),
 y.fst.length ≤ (100 : Nat) ∧ x_3.snd.fst ≤ y.snd ∧ y.snd ≤ x_3.snd.fst + (300 : Int) →
 Exists fun (x_4 : List Int) =>
 (Is (ints y.fst) (ints x_4) ∧ True) ∧
 x_4.length ≤ (1073741824 : Nat) ∧
 condP (Pl.clauseOf x_4).snd
 (Exists fun (x_5 : List Int × Int) =>
 (Is (ints (Pl.clauseOf x_4).fst) (ints x_5.fst) ∧ x.snd.fst = x_5.snd ∧ True) ∧
 Sz x_5.fst ∧
 condP (Pl.specClause x_5.fst x_5.snd)
 ((0 : Nat) + x.snd.snd.fst.length ≤ x.snd.snd.fst.length ∧
 (x.snd.snd.fst.length + (1 : Nat)) * (24 : Nat) ≤ (70368744177664 : Nat) ∧
 Exists fun (x' : Int × Int × List (List Int) × Int) =>
 ((0 : Int) ≤ x'.fst ∧
 (↑x'.snd.snd.fst.length : Int) + x'.fst ≤ (12 : Int) ∧
 x'.snd.fst ≤ (6 : Int) ∧
 (∀ (y : List Int), y ∈ x'.snd.snd.fst → y.length ≤ (100 : Nat)) ∧
 p ≤ x'.snd.snd.snd ∧ x'.snd.snd.snd ≤ p + (2 : Int) + (400 : Int) * ((12 : Int) - x'.fst)) ∧
 x'.fst.toNat < x.fst.toNat ∧
 ((0 : Nat) = (0 : Nat) ∧
 (0 : Nat) = (0 : Nat) ∧ (0 : Nat) = (0 : Nat) ∧ IntKind.i64.wrap (x.fst - (1 : Int)) = x'.fst ∧ True) ∧
 (Is (byts x_3.fst) (byts b) ∧ y.snd = x'.snd.snd.snd ∧ True) ∧
 ((0 : Int) = (0 : Int) ∧ Is (AV.lit (0 : Nat) (1 : Nat) fun (x x_6 : Nat) => AV.any) nilA ∧ True) ∧
 (x.snd.fst = x'.snd.fst ∧ ((0 : Nat) = (0 : Nat) ∧ x.snd.snd.fst.length + (1 : Nat) = x'.snd.snd.fst.length) ∧ True) ∧
 IsO
 (AObj.arr (x.snd.snd.fst.length + (1 : Nat)) (1 : Nat)
 (joinC x.snd.snd.fst.length (cII x.snd.snd.fst) (rowsCell [[ints (Pl.clauseOf x_4).fst]])))
 (arII x'.snd.snd.fst) ∧
 True)
 (Exists fun (x' : Int × Int × List (List Int) × Int) =>
 ((0 : Int) ≤ x'.fst ∧
 (↑x'.snd.snd.fst.length : Int) + x'.fst ≤ (12 : Int) ∧
 x'.snd.fst ≤ (6 : Int) ∧
 (∀ (y : List Int), y ∈ x'.snd.snd.fst → y.length ≤ (100 : Nat)) ∧
 p ≤ x'.snd.snd.snd ∧ x'.snd.snd.snd ≤ p + (2 : Int) + (400 : Int) * ((12 : Int) - x'.fst)) ∧
 x'.fst.toNat < x.fst.toNat ∧
 ((0 : Nat) = (0 : Nat) ∧
 (0 : Nat) = (0 : Nat) ∧ (0 : Nat) = (0 : Nat) ∧ IntKind.i64.wrap (x.fst - (1 : Int)) = x'.fst ∧ True) ∧
 (Is (byts x_3.fst) (byts b) ∧ y.snd = x'.snd.snd.snd ∧ True) ∧
 ((0 : Int) = (0 : Int) ∧ Is (AV.lit (0 : Nat) (1 : Nat) fun (x x_6 : Nat) => AV.any) nilA ∧ True) ∧
 (x.snd.fst = x'.snd.fst ∧ ((0 : Nat) = (0 : Nat) ∧ x.snd.snd.fst.length = x'.snd.snd.fst.length) ∧ True) ∧
 IsO (arII x.snd.snd.fst) (arII x'.snd.snd.fst) ∧ True))
 (Exists fun (x' : Int × Int × List (List Int) × Int) =>
 ((0 : Int) ≤ x'.fst ∧
 (↑x'.snd.snd.fst.length : Int) + x'.fst ≤ (12 : Int) ∧
 x'.snd.fst ≤ (6 : Int) ∧
 (∀ (y : List Int), y ∈ x'.snd.snd.fst → y.length ≤ (100 : Nat)) ∧
 p ≤ x'.snd.snd.snd ∧ x'.snd.snd.snd ≤ p + (2 : Int) + (400 : Int) * ((12 : Int) - x'.fst)) ∧
 x'.fst.toNat < x.fst.toNat ∧
 ((0 : Nat) = (0 : Nat) ∧ (0 : Nat) = (0 : Nat) ∧ (0 : Nat) = (0 : Nat) ∧ IntKind.i64.wrap (x.fst - (1 : Int)) = x'.fst ∧ True) ∧
 (Is (byts x_3.fst) (byts b) ∧ y.snd = x'.snd.snd.snd ∧ True) ∧
 ((0 : Int) = (0 : Int) ∧ Is (AV.lit (0 : Nat) (1 : Nat) fun (x x_5 : Nat) => AV.any) nilA ∧ True) ∧
 (x.snd.fst = x'.snd.fst ∧ ((0 : Nat) = (0 : Nat) ∧ x.snd.snd.fst.length = x'.snd.snd.fst.length) ∧ True) ∧
 IsO (arII x.snd.snd.fst) (arII x'.snd.snd.fst) ∧ True)) ∧
 Exists fun (x_2 : List Int × Int × List Int) =>
 (Rd (1099511627776 : Int) x_2.fst x_2.snd.fst ∧ x_2.snd.snd ≠ [] ∧ Sz x_2.snd.snd) ∧
 (((0 : Nat) = (0 : Nat) ∧
 Is
 (AV.lit (8 : Nat) (1 : Nat)
 (rowsCell
 [[i64 (2 : Int)], [i64 (2 : Int)], [i64 (3 : Int)], [i64 (1 : Int)], [i64 (3 : Int)], [i64 (2 : Int)], [i64 (3 : Int)],
 [i64 (0 : Int)]]))
 (ints x_2.snd.snd) ∧
 True) ∧
 (Is (byts b) (byts x_2.fst) ∧ x.snd.snd.snd = x_2.snd.fst ∧ True) ∧ True) ∧
 ∀ (y : Int),
 y ∈ x_2.snd.snd →
 Exists fun (x_3 : List Int × Int × Int × Int) =>
 (Rd (274877906944 : Int) x_3.fst x_3.snd.fst ∧ x_3.snd.snd.snd ≤ (100 : Int)) ∧
 (((0 : Nat) = (0 : Nat) ∧ x.snd.fst = x_3.snd.snd.fst ∧ y = x_3.snd.snd.snd ∧ True) ∧
 (Is (byts x_2.fst) (byts x_3.fst) ∧ x_2.snd.fst + (1 : Int) = x_3.snd.fst ∧ True) ∧ True) ∧
 ∀ (y : List Int × Int),
 y.fst.length ≤ (100 : Nat) ∧ x_3.snd.fst ≤ y.snd ∧ y.snd ≤ x_3.snd.fst + (300 : Int) →
 Exists fun (x_4 : List Int) =>
 (Is (ints y.fst) (ints x_4) ∧ True) ∧
 x_4.length ≤ (1073741824 : Nat) ∧
 condP (Pl.clauseOf x_4).snd
 (Exists fun (x_5 : List Int × Int) =>
 (Is (ints (Pl.clauseOf x_4).fst) (ints x_5.fst) ∧ x.snd.fst = x_5.snd ∧ True) ∧
 Sz x_5.fst ∧
 condP (Pl.specClause x_5.fst x_5.snd)
 ((0 : Nat) + x.snd.snd.fst.length ≤ x.snd.snd.fst.length ∧
 (x.snd.snd.fst.length + (1 : Nat)) * (24 : Nat) ≤ (70368744177664 : Nat) ∧
 Exists fun (x' : Int × Int × List (List Int) × Int) =>
 ((0 : Int) ≤ x'.fst ∧
 (↑x'.snd.snd.fst.length : Int) + x'.fst ≤ (12 : Int) ∧
 x'.snd.fst ≤ (6 : Int) ∧
 (∀ (y : List Int), y ∈ x'.snd.snd.fst → y.length ≤ (100 : Nat)) ∧
 p ≤ x'.snd.snd.snd ∧ x'.snd.snd.snd ≤ p + (2 : Int) + (400 : Int) * ((12 : Int) - x'.fst)) ∧
 x'.fst.toNat < x.fst.toNat ∧
 ((0 : Nat) = (0 : Nat) ∧
 (0 : Nat) = (0 : Nat) ∧ (0 : Nat) = (0 : Nat) ∧ IntKind.i64.wrap (x.fst - (1 : Int)) = x'.fst ∧ True) ∧
 (Is (byts x_3.fst) (byts b) ∧ y.snd = x'.snd.snd.snd ∧ True) ∧
 ((0 : Int) = (0 : Int) ∧ Is (AV.lit (0 : Nat) (1 : Nat) fun (x x_6 : Nat) => AV.any) nilA ∧ True) ∧
 (x.snd.fst = x'.snd.fst ∧ ((0 : Nat) = (0 : Nat) ∧ x.snd.snd.fst.length + (1 : Nat) = x'.snd.snd.fst.length) ∧ True) ∧
 IsO
 (AObj.arr (x.snd.snd.fst.length + (1 : Nat)) (1 : Nat)
 (joinC x.snd.snd.fst.length (cII x.snd.snd.fst) (rowsCell [[ints (Pl.clauseOf x_4).fst]])))
 (arII x'.snd.snd.fst) ∧
 True)
 (Exists fun (x' : Int × Int × List (List Int) × Int) =>
 ((0 : Int) ≤ x'.fst ∧
 (↑x'.snd.snd.fst.length : Int) + x'.fst ≤ (12 : Int) ∧
 x'.snd.fst ≤ (6 : Int) ∧
 (∀ (y : List Int), y ∈ x'.snd.snd.fst → y.length ≤ (100 : Nat)) ∧
 p ≤ x'.snd.snd.snd ∧ x'.snd.snd.snd ≤ p + (2 : Int) + (400 : Int) * ((12 : Int) - x'.fst)) ∧
 x'.fst.toNat < x.fst.toNat ∧
 ((0 : Nat) = (0 : Nat) ∧
 (0 : Nat) = (0 : Nat) ∧ (0 : Nat) = (0 : Nat) ∧ IntKind.i64.wrap (x.fst - (1 : Int)) = x'.fst ∧ True) ∧
 (Is (byts x_3.fst) (byts b) ∧ y.snd = x'.snd.snd.snd ∧ True) ∧
 ((0 : Int) = (0 : Int) ∧ Is (AV.lit (0 : Nat) (1 : Nat) fun (x x_6 : Nat) => AV.any) nilA ∧ True) ∧
 (x.snd.fst = x'.snd.fst ∧ ((0 : Nat) = (0 : Nat) ∧ x.snd.snd.fst.length = x'.snd.snd.fst.length) ∧ True) ∧
 IsO (arII x.snd.snd.fst) (arII x'.snd.snd.fst) ∧ True))
 (Exists fun (x' : Int × Int × List (List Int) × Int) =>
 ((0 : Int) ≤ x'.fst ∧
 (↑x'.snd.snd.fst.length : Int) + x'.fst ≤ (12 : Int) ∧
 x'.snd.fst ≤ (6 : Int) ∧
 (∀ (y : List Int), y ∈ x'.snd.snd.fst → y.length ≤ (100 : Nat)) ∧
 p ≤ x'.snd.snd.snd ∧ x'.snd.snd.snd ≤ p + (2 : Int) + (400 : Int) * ((12 : Int) - x'.fst)) ∧
 x'.fst.toNat < x.fst.toNat ∧
 ((0 : Nat) = (0 : Nat) ∧ (0 : Nat) = (0 : Nat) ∧ (0 : Nat) = (0 : Nat) ∧ IntKind.i64.wrap (x.fst - (1 : Int)) = x'.fst ∧ True) ∧
 (Is (byts x_3.fst) (byts b) ∧ y.snd = x'.snd.snd.snd ∧ True) ∧
 ((0 : Int) = (0 : Int) ∧ Is (AV.lit (0 : Nat) (1 : Nat) fun (x x_5 : Nat) => AV.any) nilA ∧ True) ∧
 (x.snd.fst = x'.snd.fst ∧ ((0 : Nat) = (0 : Nat) ∧ x.snd.snd.fst.length = x'.snd.snd.fst.length) ∧ True) ∧
 IsO (arII x.snd.snd.fst) (arII x'.snd.snd.fst) ∧ True))
 (Exists fun (x_2 : List Int × Int × Int) =>
 Rd (1099511627776 : Int) x_2.fst x_2.snd.fst ∧
 (((0 : Nat) = (0 : Nat) ∧ (40 : Int) = x_2.snd.snd ∧ True) ∧ (Is (byts b) (byts x_2.fst) ∧ x.snd.snd.snd = x_2.snd.fst ∧ True) ∧ True) ∧
 ∀ (y : Int),
 ((1 : Int) ≤ x_2.snd.snd → (0 : Int) ≤ y ∧ y < x_2.snd.snd) ∧ (x_2.snd.snd < (1 : Int) → y = (0 : Int)) →
 condP (y == (0 : Int))
 (Exists fun (x_3 : List Int × Int × List Int) =>
 (Rd (1099511627776 : Int) x_3.fst x_3.snd.fst ∧ x_3.snd.snd ≠ [] ∧ Sz x_3.snd.snd) ∧
 (((0 : Nat) = (0 : Nat) ∧
 Is (AV.lit (3 : Nat) (1 : Nat) (rowsCell [[i64 (-1 : Int)], [i64 (61 : Int)], [i64 (1 : Int)]])) (ints x_3.snd.snd) ∧ True) ∧
 (Is (byts x_2.fst) (byts x_3.fst) ∧ x_2.snd.fst + (1 : Int) = x_3.snd.fst ∧ True) ∧ True) ∧
 ∀ (y : Int),
 y ∈ x_3.snd.snd →
 Exists fun (y_2 : Pl.Cnf × Int) =>
 (Sm y_2.fst ∧ p ≤ y_2.snd ∧ y_2.snd ≤ p + (10000 : Int)) ∧
 (0 : Nat) + x.snd.snd.fst.length ≤ x.snd.snd.fst.length ∧
 ((y = y_2.fst.fst ∧ Is (intss x.snd.snd.fst) (intss y_2.fst.snd) ∧ True) ∧ True) ∧
 (Is (byts x_3.fst) (byts b) ∧ x_3.snd.fst + (1 : Int) = y_2.snd ∧ True) ∧ True)
 (condP (y == (1 : Int))
 ((0 : Nat) + x.snd.snd.fst.length ≤ x.snd.snd.fst.length ∧
 (x.snd.snd.fst.length + (2 : Nat)) * (24 : Nat) ≤ (70368744177664 : Nat) ∧
 Exists fun (y : Pl.Cnf × Int) =>
 (Sm y.fst ∧ p ≤ y.snd ∧ y.snd ≤ p + (10000 : Int)) ∧
 (0 : Nat) + (x.snd.snd.fst.length + (2 : Nat)) ≤ x.snd.snd.fst.length + (2 : Nat) ∧
 ((x.snd.fst = y.fst.fst ∧
 Is
 (AV.sl (x.snd.snd.fst.length + (2 : Nat)) (1 : Nat) fun (i j : Nat) =>
 joinC x.snd.snd.fst.length (cII x.snd.snd.fst)
 (rowsCell
 [[AV.lit (2 : Nat) (1 : Nat) (rowsCell [[i64 (2 : Int)], [i64 (1 : Int)]])],
 [AV.lit (1 : Nat) (1 : Nat) (rowsCell [[i64 (0 : Int)]])]])
 i j)
 (intss y.fst.snd) ∧
 True) ∧
 True) ∧
 (Is (byts x_2.fst) (byts b) ∧ x_2.snd.fst + (1 : Int) = y.snd ∧ True) ∧ True)
 (Exists fun (y : Pl.Cnf × Int) =>
 (Sm y.fst ∧ p ≤ y.snd ∧ y.snd ≤ p + (10000 : Int)) ∧
 (0 : Nat) + x.snd.snd.fst.length ≤ x.snd.snd.fst.length ∧
 ((x.snd.fst = y.fst.fst ∧ Is (intss x.snd.snd.fst) (intss y.fst.snd) ∧ True) ∧ True) ∧
 (Is (byts x_2.fst) (byts b) ∧ x_2.snd.fst + (1 : Int) = y.snd ∧ True) ∧ True)))) = Goal Try.prog [K_pick, K_num, K_l10Marks, K_sClauseOf, K_sClauseOk] (A_l10Cnf b p) K_l10Cnf.1 K_l10Cnf.2 ((b, p)) := by kernel_rfl

theorem vc_DrawCnfIs (b : List Int) : (Exists fun (x : List Int) =>
 (Sz x ∧ Byt x) ∧
 ((Is (byts b) (byts x) ∧ True) ∧ True) ∧
 ∀ (y : List Int),
 Rd (0 : Int) y (0 : Int) →
 Exists fun (x : List Int × Int) =>
 Rd (137438953472 : Int) x.fst x.snd ∧
 (((0 : Nat) = (0 : Nat) ∧ True) ∧ (Is (byts y) (byts x.fst) ∧ (0 : Int) = x.snd ∧ True) ∧ True) ∧
 ∀ (y : Pl.Cnf × Int),
 Sm y.fst ∧ x.snd ≤ y.snd ∧ y.snd ≤ x.snd + (10000 : Int) →
 (Exists fun (x_1 : List Int × Int × Int) =>
 (Rd (274877906944 : Int) x_1.fst x_1.snd.fst ∧ x_1.snd.snd ≤ (100 : Int)) ∧
 (((0 : Nat) = (0 : Nat) ∧ y.fst.fst = x_1.snd.snd ∧ True) ∧ (Is (byts x.fst) (byts x_1.fst) ∧ y.snd = x_1.snd.fst ∧ True) ∧ True) ∧
 ∀ (y_1 : List Bool × Int),
 y_1.fst.length ≤ (101 : Nat) ∧ x_1.snd.fst ≤ y_1.snd ∧ y_1.snd ≤ x_1.snd.fst + (300 : Int) →
 Exists fun (y_2 : Pl.Cnf × List Bool) =>
 (Sm y_2.fst ∧ y_2.snd.length ≤ (101 : Nat)) ∧
 (((y.fst.fst = y_2.fst.fst ∧ Is (intss y.fst.snd) (intss y_2.fst.snd) ∧ True) ∧ Is (bools y_1.fst) (bools y_2.snd) ∧ True) ∧ True) ∧ True) ∧
 (Exists fun (x_1 : List Int × Int × Int) =>
 (Rd (274877906944 : Int) x_1.fst x_1.snd.fst ∧ x_1.snd.snd ≤ (100 : Int)) ∧
 (((0 : Nat) = (0 : Nat) ∧ y.fst.fst = x_1.snd.snd ∧ True) ∧ (Is (byts x.fst) (byts x_1.fst) ∧ y.snd = x_1.snd.fst ∧ True) ∧ True) ∧
 ∀ (y_1 : List Bool × Int),
 y_1.fst.length ≤ (101 : Nat) ∧ x_1.snd.fst ≤ y_1.snd ∧ y_1.snd ≤ x_1.snd.fst + (300 : Int) →
 Exists fun (y_2 : Pl.Cnf × List Bool) =>
 (Sm y_2.fst ∧ y_2.snd.length ≤ (101 : Nat)) ∧
 (((y.fst.fst = y_2.fst.fst ∧ Is (intss y.fst.snd) (intss y_2.fst.snd) ∧ True) ∧ Is (bools y_1.fst) (bools y_2.snd) ∧ True) ∧ True) ∧ True) ∧
 Exists fun (x_1 : List Int × Int × Int) =>
 (Rd (274877906944 : Int) x_1.fst x_1.snd.fst ∧ x_1.snd.snd ≤ (100 : Int)) ∧
 (((0 : Nat) = (0 : Nat) ∧ y.fst.fst = x_1.snd.snd ∧ True) ∧ (Is (byts x.fst) (byts x_1.fst) ∧ y.snd = x_1.snd.fst ∧ True) ∧ True) ∧
 ∀ (y_1 : List Bool × Int),
 y_1.fst.length ≤ (101 : Nat) ∧ x_1.snd.fst ≤ y_1.snd ∧ y_1.snd ≤ x_1.snd.fst + (300 : Int) →
 Exists fun (y_2 : Pl.Cnf × List Bool) =>
 (Sm y_2.fst ∧ y_2.snd.length ≤ (101 : Nat)) ∧
 (((y.fst.fst = y_2.fst.fst ∧ Is (intss y.fst.snd) (intss y_2.fst.snd) ∧ True) ∧ Is (bools y_1.fst) (bools y_2.snd) ∧ True) ∧ True) ∧ True) = Goal Try.prog [K_l16Open, K_l10Cnf, K_l10Vals] ([]) K_DrawCnfIs.1 K_DrawCnfIs.2 (b) := by kernel_rfl

theorem vc_DrawCnfUnits (b : List Int) : (Exists fun (x : List Int) =>
 (Sz x ∧ Byt x) ∧
 ((Is (byts b) (byts x) ∧ True) ∧ True) ∧
 ∀ (y : List Int),
 Rd (0 : Int) y (0 : Int) →
 Exists fun (x : List Int × Int) =>
 Rd (137438953472 : Int) x.fst x.snd ∧
 (((0 : Nat) = (0 : Nat) ∧ True) ∧ (Is (byts y) (byts x.fst) ∧ (0 : Int) = x.snd ∧ True) ∧ True) ∧
 ∀ (y : Pl.Cnf × Int),
 Sm y.fst ∧ x.snd ≤ y.snd ∧ y.snd ≤ x.snd + (10000 : Int) →
 ((Exists fun (x_1 : List Int × Int × List Int) =>
 (Rd (1099511627776 : Int) x_1.fst x_1.snd.fst ∧ x_1.snd.snd ≠ [] ∧ Sz x_1.snd.snd) ∧
 (((0 : Nat) = (0 : Nat) ∧
 Is (AV.lit (4 : Nat) (1 : Nat) (rowsCell [[i64 (1 : Int)], [i64 (0 : Int)], [i64 (1 : Int)], [i64 (2 : Int)]])) (ints x_1.snd.snd) ∧ True) ∧
 (Is (byts x.fst) (byts x_1.fst) ∧ y.snd = x_1.snd.fst ∧ True) ∧ True) ∧
 ∀ (y_1 : Int),
 y_1 ∈ x_1.snd.snd →
 Exists fun (x : List Int × Int × Int × Int) =>
 (Rd (274877906944 : Int) x.fst x.snd.fst ∧ x.snd.snd.snd ≤ (100 : Int)) ∧
 (((0 : Nat) = (0 : Nat) ∧ y.fst.fst = x.snd.snd.fst ∧ y_1 = x.snd.snd.snd ∧ True) ∧
 (Is (byts x_1.fst) (byts x.fst) ∧ x_1.snd.fst + (1 : Int) = x.snd.fst ∧ True) ∧ True) ∧
 ∀ (y_2 : List Int × Int),
 y_2.fst.length ≤ (100 : Nat) ∧ x.snd.fst ≤ y_2.snd ∧ y_2.snd ≤ x.snd.fst + (300 : Int) →
 Exists fun (y_3 : Pl.Cnf × List Int) =>
 (Sm y_3.fst ∧ y_3.snd.length ≤ (101 : Nat)) ∧
 (((y.fst.fst = y_3.fst.fst ∧ Is (intss y.fst.snd) (intss y_3.fst.snd) ∧ True) ∧ Is (ints y_2.fst) (ints y_3.snd) ∧ True) ∧ True) ∧
 True) ∧
 Exists fun (x_1 : List Int × Int × List Int) =>
 (Rd (1099511627776 : Int) x_1.fst x_1.snd.fst ∧ x_1.snd.snd ≠ [] ∧ Sz x_1.snd.snd) ∧
 (((0 : Nat) = (0 : Nat) ∧
 Is (AV.lit (4 : Nat) (1 : Nat) (rowsCell [[i64 (1 : Int)], [i64 (0 : Int)], [i64 (1 : Int)], [i64 (2 : Int)]])) (ints x_1.snd.snd) ∧ True) ∧
 (Is (byts x.fst) (byts x_1.fst) ∧ y.snd = x_1.snd.fst ∧ True) ∧ True) ∧
 ∀ (y_1 : Int),
 y_1 ∈ x_1.snd.snd →
 Exists fun (x : List Int × Int × Int × Int) =>
 (Rd (274877906944 : Int) x.fst x.snd.fst ∧ x.snd.snd.snd ≤ (100 : Int)) ∧
 (((0 : Nat) = (0 : Nat) ∧ y.fst.fst = x.snd.snd.fst ∧ y_1 = x.snd.snd.snd ∧ True) ∧
 (Is (byts x_1.fst) (byts x.fst) ∧ x_1.snd.fst + (1 : Int) = x.snd.fst ∧ True) ∧ True) ∧
 ∀ (y_2 : List Int × Int),
 y_2.fst.length ≤ (100 : Nat) ∧ x.snd.fst ≤ y_2.snd ∧ y_2.snd ≤ x.snd.fst + (300 : Int) →
 Exists fun (y_3 : Pl.Cnf × List Int) =>
 (Sm y_3.fst ∧ y_3.snd.length ≤ (101 : Nat)) ∧
 (((y.fst.fst = y_3.fst.fst ∧ Is (intss y.fst.snd) (intss y_3.fst.snd) ∧ True) ∧ Is (ints y_2.fst) (ints y_3.snd) ∧ True) ∧ True) ∧
 True) ∧
 ((Exists fun (x_1 : List Int × Int × List Int) =>
 (Rd (1099511627776 : Int) x_1.fst x_1.snd.fst ∧ x_1.snd.snd ≠ [] ∧ Sz x_1.snd.snd) ∧
 (((0 : Nat) = (0 : Nat) ∧
 Is (AV.lit (4 : Nat) (1 : Nat) (rowsCell [[i64 (1 : Int)], [i64 (0 : Int)], [i64 (1 : Int)], [i64 (2 : Int)]])) (ints x_1.snd.snd) ∧ True) ∧
 (Is (byts x.fst) (byts x_1.fst) ∧ y.snd = x_1.snd.fst ∧ True) ∧ True) ∧
 ∀ (y_1 : Int),
 y_1 ∈ x_1.snd.snd →
 Exists fun (x : List Int × Int × Int × Int) =>
 (Rd (274877906944 : Int) x.fst x.snd.fst ∧ x.snd.snd.snd ≤ (100 : Int)) ∧
 (((0 : Nat) = (0 : Nat) ∧ y.fst.fst = x.snd.snd.fst ∧ y_1 = x.snd.snd.snd ∧ True) ∧
 (Is (byts x_1.fst) (byts x.fst) ∧ x_1.snd.fst + (1 : Int) = x.snd.fst ∧ True) ∧ True) ∧
 ∀ (y_2 : List Int × Int),
 y_2.fst.length ≤ (100 : Nat) ∧ x.snd.fst ≤ y_2.snd ∧ y_2.snd ≤ x.snd.fst + (300 : Int) →
 Exists fun (y_3 : Pl.Cnf × List Int) =>
 (Sm y_3.fst ∧ y_3.snd.length ≤ (101 : Nat)) ∧
 (((y.fst.fst = y_3.fst.fst ∧ Is (intss y.fst.snd) (intss y_3.fst.snd) ∧ True) ∧ Is (ints y_2.fst) (ints y_3.snd) ∧ True) ∧ True) ∧
 True) ∧
 Exists fun (x_1 : List Int × Int × List Int) =>
 (Rd (1099511627776 : Int) x_1.fst x_1.snd.fst ∧ x_1.snd.snd ≠ [] ∧ Sz x_1.snd.snd) ∧
 (((0 : Nat) = (0 : Nat) ∧
 Is (AV.lit (4 : Nat) (1 : Nat) (rowsCell [[i64 (1 : Int)], [i64 (0 : Int)], [i64 (1 : Int)], [i64 (2 : Int)]])) (ints x_1.snd.snd) ∧ True) ∧
 (Is (byts x.fst) (byts x_1.fst) ∧ y.snd = x_1.snd.fst ∧ True) ∧ True) ∧
 ∀ (y_1 : Int),
 y_1 ∈ x_1.snd.snd →
 (Exists fun (x : List Int × Int × Int × Int) =>
 (Rd (274877906944 : Int) x.fst x.snd.fst ∧ x.snd.snd.snd ≤ (100 : Int)) ∧
 (((0 : Nat) = (0 : Nat) ∧ y.fst.fst = x.snd.snd.fst ∧ y_1 = x.snd.snd.snd ∧ True) ∧
 (Is (byts x_1.fst) (byts x.fst) ∧ x_1.snd.fst + (1 : Int) = x.snd.fst ∧ True) ∧ True) ∧
 ∀ (y_2 : List Int × Int),
 y_2.fst.length ≤ (100 : Nat) ∧ x.snd.fst ≤ y_2.snd ∧ y_2.snd ≤ x.snd.fst + (300 : Int) →
 Exists fun (y_3 : Pl.Cnf × List Int) =>
 (Sm y_3.fst ∧ y_3.snd.length ≤ (101 : Nat)) ∧
 (((y.fst.fst = y_3.fst.fst ∧ Is (intss y.fst.snd) (intss y_3.fst.snd) ∧ True) ∧ Is (ints y_2.fst) (ints y_3.snd) ∧ True) ∧ True) ∧
 True) ∧
 Exists fun (x : List Int × Int × Int × Int) =>
 (Rd (274877906944 : Int) x.fst x.snd.fst ∧ x.snd.snd.snd ≤ (100 : Int)) ∧
 (((0 : Nat) = (0 : Nat) ∧ y.fst.fst = x.snd.snd.fst ∧ y_1 = x.snd.snd.snd ∧ True) ∧
 (Is (byts x_1.fst) (byts x.fst) ∧ x_1.snd.fst + (1 : Int) = x.snd.fst ∧ True) ∧ True) ∧
 ∀ (y_2 : List Int × Int),
 y_2.fst.length ≤ (100 : Nat) ∧ x.snd.fst ≤ y_2.snd ∧ y_2.snd ≤ x.snd.fst + (300 : Int) →
 Exists fun (y_3 : Pl.Cnf × List Int) =>
 (Sm y_3.fst ∧ y_3.snd.length ≤ (101 : Nat)) ∧
 (((y.fst.fst = y_3.fst.fst ∧ Is (intss y.fst.snd) (intss y_3.fst.snd) ∧ True) ∧ Is (ints y_2.fst) (ints y_3.snd) ∧ True) ∧ True) ∧
 True) ∧
 Exists fun (x_1 : List Int × Int × List Int) =>
 (Rd (1099511627776 : Int) x_1.fst x_1.snd.fst ∧ x_1.snd.snd ≠ [] ∧ Sz x_1.snd.snd) ∧
 (((0 : Nat) = (0 : Nat) ∧
 Is (AV.lit (4 : Nat) (1 : Nat) (rowsCell [[i64 (1 : Int)], [i64 (0 : Int)], [i64 (1 : Int)], [i64 (2 : Int)]])) (ints x_1.snd.snd) ∧ True) ∧
 (Is (byts x.fst) (byts x_1.fst) ∧ y.snd = x_1.snd.fst ∧ True) ∧ True) ∧
 ∀ (y_1 : Int),
 y_1 ∈ x_1.snd.snd →
 (Exists fun (x : List Int × Int × Int × Int) =>
 (Rd (274877906944 : Int) x.fst x.snd.fst ∧ x.snd.snd.snd ≤ (100 : Int)) ∧
 (((0 : Nat) = (0 : Nat) ∧ y.fst.fst = x.snd.snd.fst ∧ y_1 = x.snd.snd.snd ∧ True) ∧
 (Is (byts x_1.fst) (byts x.fst) ∧ x_1.snd.fst + (1 : Int) = x.snd.fst ∧ True) ∧ True) ∧
 ∀ (y_2 : List Int × Int),
 y_2.fst.length ≤ (100 : Nat) ∧ x.snd.fst ≤ y_2.snd ∧ y_2.snd ≤ x.snd.fst + (300 : Int) →
 Exists fun (y_3 : Pl.Cnf × List Int) =>
 (Sm y_3.fst ∧ y_3.snd.length ≤ (101 : Nat)) ∧
 (((y.fst.fst = y_3.fst.fst ∧ Is (intss y.fst.snd) (intss y_3.fst.snd) ∧ True) ∧ Is (ints y_2.fst) (ints y_3.snd) ∧ True) ∧ True) ∧
 True) ∧
 (Exists fun (x : List Int × Int × Int × Int) =>
 (Rd (274877906944 : Int) x.fst x.snd.fst ∧ x.snd.snd.snd ≤ (100 : Int)) ∧
 (((0 : Nat) = (0 : Nat) ∧ y.fst.fst = x.snd.snd.fst ∧ y_1 = x.snd.snd.snd ∧ True) ∧
 (Is (byts x_1.fst) (byts x.fst) ∧ x_1.snd.fst + (1 : Int) = x.snd.fst ∧ True) ∧ True) ∧
 ∀ (y_2 : List Int × Int),
 y_2.fst.length ≤ (100 : Nat) ∧ x.snd.fst ≤ y_2.snd ∧ y_2.snd ≤ x.snd.fst + (300 : Int) →
 Exists fun (y_3 : Pl.Cnf × List Int) =>
 (Sm y_3.fst ∧ y_3.snd.length ≤ (101 : Nat)) ∧
 (((y.fst.fst = y_3.fst.fst ∧ Is (intss y.fst.snd) (intss y_3.fst.snd) ∧ True) ∧ Is (ints y_2.fst) (ints y_3.snd) ∧ True) ∧ True) ∧
 True) ∧
 Exists fun (x : List Int × Int × Int × Int) =>
 (Rd (274877906944 : Int) x.fst x.snd.fst ∧ x.snd.snd.snd ≤ (100 : Int)) ∧
 (((0 : Nat) = (0 : Nat) ∧ y.fst.fst = x.snd.snd.fst ∧ y_1 = x.snd.snd.snd ∧ True) ∧
 (Is (byts x_1.fst) (byts x.fst) ∧ x_1.snd.fst + (1 : Int) = x.snd.fst ∧ True) ∧ True) ∧
 ∀ (y_2 : List Int × Int),
 y_2.fst.length ≤ (100 : Nat) ∧ x.snd.fst ≤ y_2.snd ∧ y_2.snd ≤ x.snd.fst + (300 : Int) →
 Exists fun (y_3 : Pl.Cnf × List Int) =>
 (Sm y_3.fst ∧ y_3.snd.length ≤ (101 : Nat)) ∧
 (((y.fst.fst = y_3.fst.fst ∧ Is (intss y.fst.snd) (intss y_3.fst.snd) ∧ True) ∧ Is (ints y_2.fst) (ints y_3.snd) ∧ True) ∧ True) ∧
 True) = Goal Try.prog [K_l16Open, K_l10Cnf, K_num, K_l10Marks] ([]) K_DrawCnfUnits.1 K_DrawCnfUnits.2 (b) := by kernel_rfl

theorem vc_wpNums (l m : List Int) : (condP ((↑l.length : Int) != (↑m.length : Int)) (Bool.false = Decidable.decide (l = m))
 ((Exists fun (x : Nat) =>
 (x ≤ l.length ∧ l.length = m.length ∧ (l = m ↔ List.drop x l = List.drop x m)) ∧ (Is (ints l) (ints l) ∧ Is (ints m) (ints m) ∧ (0 : Int) = (↑x : Int) ∧ True) ∧ True) ∧
 ∀ (x : Nat),
 x ≤ l.length ∧ l.length = m.length ∧ (l = m ↔ List.drop x l = List.drop x m) →
 condP (Decidable.decide ((↑x : Int) < (↑l.length : Int)))
 (((0 : Int) ≤ (↑x : Int) ∧ (↑x : Int) < (↑l.length : Int)) ∧
 x < l.length ∧
 ((0 : Int) ≤ (↑x : Int) ∧ (↑x : Int) < (↑m.length : Int)) ∧
 x < m.length ∧
 condP (l.getD x (0 : Int) != m.getD x (0 : Int)) (Bool.false = Decidable.decide (l = m))
 (Exists fun (x' : Nat) =>
 (x' ≤ l.length ∧ l.length = m.length ∧ (l = m ↔ List.drop x' l = List.drop x' m)) ∧
 l.length - x' < l.length - x ∧ (Is (ints l) (ints l) ∧ Is (ints m) (ints m) ∧ IntKind.i64.wrap ((↑x : Int) + (1 : Int)) = (↑x' : Int) ∧ True) ∧ True))
 (Bool.true = Decidable.decide (l = m)))) = Goal Try.prog [] (A_wpNums l m) K_wpNums.1 K_wpNums.2 ((l, m)) := by kernel_rfl

theorem vc_l10Right (l : List Int) (m : Int) : ((Exists fun (x : Nat) => (x ≤ l.length ∧ Pl.rightS m [] l = Pl.rightS m (List.take x l) (List.drop x l)) ∧ (Is (ints l) (ints l) ∧ m = m ∧ (0 : Int) = (↑x : Int) ∧ True) ∧ True) ∧
 ∀ (x : Nat),
 x ≤ l.length ∧ Pl.rightS m [] l = Pl.rightS m (List.take x l) (List.drop x l) →
 condP (Decidable.decide ((↑x : Int) < (↑l.length : Int)))
 (((0 : Int) ≤ (↑x : Int) ∧ (↑x : Int) < (↑l.length : Int)) ∧
 x < l.length ∧
 condP (l.getD x (0 : Int) == (0 : Int)) (Bool.false = Pl.rightS m [] l)
 (((0 : Int) ≤ (↑x : Int) ∧ (↑x : Int) < (↑l.length : Int)) ∧
 x < l.length ∧
 Exists fun (x_1 : Int) =>
 (l.getD x (0 : Int) = x_1 ∧ True) ∧
 True ∧
 condP (Decidable.decide (Pl.absW x_1 > m)) (Bool.false = Pl.rightS m [] l)
 (((0 : Int) ≤ (↑x : Int) ∧ (↑x : Int) ≤ (↑l.length : Int)) ∧
 ((0 : Int) ≤ (↑x : Int) ∧ (↑x : Int) < (↑l.length : Int)) ∧
 x < l.length ∧
 Exists fun (x_2 : List Int × Int) =>
 (Is (AV.sl x (1 : Nat) (cI l)) (ints x_2.fst) ∧ l.getD x (0 : Int) = x_2.snd ∧ True) ∧
 Sz x_2.fst ∧
 condP (Pl.at_ x_2.snd x_2.fst != (0 : Int)) (Bool.false = Pl.rightS m [] l)
 (Exists fun (x' : Nat) =>
 (x' ≤ l.length ∧ Pl.rightS m [] l = Pl.rightS m (List.take x' l) (List.drop x' l)) ∧
 l.length - x' < l.length - x ∧ (Is (ints l) (ints l) ∧ m = m ∧ IntKind.i64.wrap ((↑x : Int) + (1 : Int)) = (↑x' : Int) ∧ True) ∧ True))))
 (Bool.true = Pl.rightS m [] l)) = Goal Try.prog [K_l10Abs, K_l10At] (A_l10Right l m) K_l10Right.1 K_l10Right.2 ((l, m)) := by kernel_rfl

theorem vc_sCnfUnits (c : Pl.Cnf) (put : List Int) : (Exists fun (x : Pl.Cnf) =>
 ((c.fst = x.fst ∧ Is (intss c.snd) (intss x.snd) ∧ True) ∧ True) ∧
 SzC x ∧
 condP (!Pl.cnfOk x) (Is (AV.lit (0 : Nat) (1 : Nat) (rowsCell [])) (ints (Pl.cnfUnits c put).fst) ∧ Bool.false = (Pl.cnfUnits c put).snd ∧ True)
 (Exists fun (x : List Int × Int) =>
 (Is (ints put) (ints x.fst) ∧ c.fst = x.snd ∧ True) ∧
 Sz x.fst ∧
 condP (!Pl.rightS x.snd [] x.fst) (Is (AV.lit (0 : Nat) (1 : Nat) (rowsCell [])) (ints (Pl.cnfUnits c put).fst) ∧ Bool.false = (Pl.cnfUnits c put).snd ∧ True)
 (Exists fun (x : Pl.Cnf × List Int) =>
 ((c.fst = x.fst.fst ∧ Is (intss c.snd) (intss x.fst.snd) ∧ True) ∧ Is (ints put) (ints x.snd) ∧ True) ∧
 (Pl.cnfOk x.fst = Bool.true ∧ SzC x.fst ∧ SzH x.snd) ∧
 Is (ints (Pl.unitsS x.fst.snd x.snd).fst) (ints (Pl.cnfUnits c put).fst) ∧ (Pl.unitsS x.fst.snd x.snd).snd = (Pl.cnfUnits c put).snd ∧ True))) = Goal Try.prog [K_sCnfOk, K_l10Right, K_l10Units] ([]) K_sCnfUnits.1 K_sCnfUnits.2 ((c, put)) := by kernel_rfl

theorem vc_iCnfUnits (c : Pl.Cnf) (put : List Int) : (Exists fun (x : Pl.Cnf) =>
 ((c.fst = x.fst ∧ Is (intss c.snd) (intss x.snd) ∧ True) ∧ True) ∧
 SzC x ∧
 condP (!Pl.cnfOk x) (Is (AV.lit (0 : Nat) (1 : Nat) fun (x x_1 : Nat) => AV.any) (ints (Pl.cnfUnits c put).fst) ∧ Bool.false = (Pl.cnfUnits c put).snd ∧ True)
 ((Exists fun (x : Nat) =>
 (x ≤ put.length ∧ Pl.rightI c.fst [] put = Pl.rightI c.fst (List.take x put) (List.drop x put)) ∧
 (Is (ints put) (ints put) ∧ (0 : Nat) = (0 : Nat) ∧ Is (ints put) (ints put) ∧ (↑put.length : Int) = (↑put.length : Int) ∧ (0 : Int) = (↑x : Int) ∧ True) ∧
 (c.fst = c.fst ∧ Is (intss c.snd) (intss c.snd) ∧ True) ∧ True) ∧
 ∀ (x : Nat),
 x ≤ put.length ∧ Pl.rightI c.fst [] put = Pl.rightI c.fst (List.take x put) (List.drop x put) →
 condP (Decidable.decide ((↑x : Int) < (↑put.length : Int)))
 (((0 : Int) ≤ (↑x : Int) ∧ (↑x : Int) < (↑put.length : Int)) ∧
 x < put.length ∧
 Exists fun (x_1 : Int × Int) =>
 (put.getD x (0 : Int) = x_1.fst ∧ c.fst = x_1.snd ∧ True) ∧
 True ∧
 condP (!Pl.isMark x_1.fst x_1.snd)
 (Is (AV.lit (0 : Nat) (1 : Nat) fun (x x_2 : Nat) => AV.any) (ints (Pl.cnfUnits c put).fst) ∧ Bool.false = (Pl.cnfUnits c put).snd ∧ True)
 (((0 : Int) ≤ (↑x : Int) ∧ (↑x : Int) ≤ (↑put.length : Int)) ∧
 Exists fun (x_2 : List Int × Int) =>
 (Is (AV.sl x (1 : Nat) (cI put)) (ints x_2.fst) ∧ put.getD x (0 : Int) = x_2.snd ∧ True) ∧
 Sz x_2.fst ∧
 condP (x_2.fst.contains x_2.snd)
 (Is (AV.lit (0 : Nat) (1 : Nat) fun (x x_3 : Nat) => AV.any) (ints (Pl.cnfUnits c put).fst) ∧ Bool.false = (Pl.cnfUnits c put).snd ∧ True)
 (((0 : Int) ≤ (↑x : Int) ∧ (↑x : Int) ≤ (↑put.length : Int)) ∧
 Exists fun (x_3 : List Int × Int) =>
 (Is (AV.sl x (1 : Nat) (cI put)) (ints x_3.fst) ∧ IntKind.i64.wrap ((0 : Int) - put.getD x (0 : Int)) = x_3.snd ∧ True) ∧
 Sz x_3.fst ∧
 condP (x_3.fst.contains x_3.snd)
 (Is (AV.lit (0 : Nat) (1 : Nat) fun (x x_4 : Nat) => AV.any) (ints (Pl.cnfUnits c put).fst) ∧ Bool.false = (Pl.cnfUnits c put).snd ∧ True)
 (Exists fun (x' : Nat) =>
 (x' ≤ put.length ∧ Pl.rightI c.fst [] put = Pl.rightI c.fst (List.take x' put) (List.drop x' put)) ∧
 put.length - x' < put.length - x ∧
 (Is (ints put) (ints put) ∧
 (0 : Nat) = (0 : Nat) ∧
 Is (ints put) (ints put) ∧
 (↑put.length : Int) = (↑put.length : Int) ∧ IntKind.i64.wrap ((↑x : Int) + (1 : Int)) = (↑x' : Int) ∧ True) ∧
 (c.fst = c.fst ∧ Is (intss c.snd) (intss c.snd) ∧ True) ∧ True))))
 (Exists fun (x : List (List Int) × List Int) =>
 (Is (intss c.snd) (intss x.fst) ∧ Is (ints put) (ints x.snd) ∧ True) ∧
 ((Exists fun (m : Int) => Pl.cnfOk (m, x.fst) = Bool.true) ∧ SzL x.fst ∧ SzH x.snd) ∧
 Is (ints (Pl.unitsI x.fst x.snd).fst) (ints (Pl.cnfUnits c put).fst) ∧ (Pl.unitsI x.fst x.snd).snd = (Pl.cnfUnits c put).snd ∧ True))) = Goal Try.prog [K_iCnfOk, K_isMark, K_Contains, K_units] (A_iCnfUnits c put) K_iCnfUnits.1 K_iCnfUnits.2 ((c, put)) := by kernel_rfl

end Cg
