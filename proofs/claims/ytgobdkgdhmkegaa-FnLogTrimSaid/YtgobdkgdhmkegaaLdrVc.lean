/-
  What is left to show of each function's code, printed by a program: Ldr. No condition.
-/
import Derived.Test.YtgobdkgdhmkegaaLdrDefs
import Derived.Test.YtgobdkgdhmkegaaProg
set_option maxRecDepth 100000
set_option linter.unusedVariables false
namespace Cg
open Go Go.Proofs
theorem vc_l11Copy (l : List (List Int)) : ((Exists fun (x : Nat) =>
 x ≤ l.length ∧ (Is (intss l) (intss l) ∧ ((0 : Nat) = (0 : Nat) ∧ (0 : Nat) = (0 : Nat) ∧ x = (0 : Nat)) ∧ (0 : Int) = (↑x : Int) ∧ True) ∧ (List.take x l).length = (0 : Nat) ∧ True) ∧
 ∀ (x : Nat),
 x ≤ l.length →
 condP (Decidable.decide ((↑x : Int) < (↑l.length : Int)))
 (((0 : Int) ≤ (↑x : Int) ∧ (↑x : Int) < (↑l.length : Int)) ∧
 x < l.length ∧
 ((0 : Nat) = (0 : Nat) ∨ (0 : Nat) < (l.getD x []).length) ∧
 ((0 : Nat) + (l.getD x []).length) * (8 : Nat) ≤ (70368744177664 : Nat) ∧
 x = (List.take x l).length ∧
 (0 : Nat) + ((0 : Nat) + (l.getD x []).length) ≤ (0 : Nat) + (l.getD x []).length ∧
 (x + (1 : Nat)) * (24 : Nat) ≤ (70368744177664 : Nat) ∧
 Exists fun (x' : Nat) =>
 x' ≤ l.length ∧
 l.length - x' < l.length - x ∧
 (Is (intss l) (intss l) ∧ ((0 : Nat) = (0 : Nat) ∧ x + (1 : Nat) = x') ∧ IntKind.i64.wrap ((↑x : Int) + (1 : Int)) = (↑x' : Int) ∧ True) ∧
 IsO
 (AObj.xarr (x + (1 : Nat)) (1 : Nat)
 (joinC x (cII (List.take x l)) (rowsCell [[AV.sl ((0 : Nat) + (l.getD x []).length) (1 : Nat) (cI (l.getD x []))]])))
 (xrII (List.take x' l)) ∧
 True)
 (Exists fun (y : Unit) => True ∧ (((0 : Nat) = (0 : Nat) ∧ x = l.length) ∧ True) ∧ IsO (xrII (List.take x l)) (xrII l) ∧ True)) = Goal Try.prog [] (A_l11Copy l) K_l11Copy.1 K_l11Copy.2 (l) := by kernel_rfl

theorem vc_l10CnfO (b : List Int) (p : Int) : (Exists fun (x : List Int × Int × List Int) =>
 (Rd (1099511627776 : Int) x.fst x.snd.fst ∧ x.snd.snd ≠ [] ∧ Sz x.snd.snd) ∧
 (((0 : Nat) = (0 : Nat) ∧
 Is
 (AV.lit (7 : Nat) (1 : Nat) (rowsCell [[i64 (3 : Int)], [i64 (4 : Int)], [i64 (2 : Int)], [i64 (5 : Int)], [i64 (1 : Int)], [i64 (6 : Int)], [i64 (0 : Int)]]))
 (ints x.snd.snd) ∧
 True) ∧
 (Is (byts b) (byts x.fst) ∧ p = x.snd.fst ∧ True) ∧ True) ∧
 ∀ (y : Int),
 y ∈ x.snd.snd →
 Exists fun (x_1 : List Int × Int × List Int) =>
 (Rd (1099511627776 : Int) x_1.fst x_1.snd.fst ∧ x_1.snd.snd ≠ [] ∧ Sz x_1.snd.snd) ∧
 (((0 : Nat) = (0 : Nat) ∧
 Is (AV.lit (6 : Nat) (1 : Nat) (rowsCell [[i64 (4 : Int)], [i64 (6 : Int)], [i64 (8 : Int)], [i64 (2 : Int)], [i64 (12 : Int)], [i64 (0 : Int)]]))
 (ints x_1.snd.snd) ∧
 True) ∧
 (Is (byts x.fst) (byts x_1.fst) ∧ x.snd.fst + (1 : Int) = x_1.snd.fst ∧ True) ∧ True) ∧
 ∀ (y_1 : Int),
 y_1 ∈ x_1.snd.snd →
 (Exists fun (x : Int × Int × List (List Int) × Int) =>
 ((0 : Int) ≤ x.fst ∧
 (↑x.snd.snd.fst.length : Int) + x.fst ≤ (12 : Int) ∧
 x.snd.fst ≤ (6 : Int) ∧
 (∀ (y : List Int), y ∈ x.snd.snd.fst → y.length ≤ (100 : Nat)) ∧ p ≤ x.snd.snd.snd ∧ x.snd.snd.snd ≤ p + (2 : Int) + (400 : Int) * ((12 : Int) - x.fst)) ∧
 ((0 : Nat) = (0 : Nat) ∧ (0 : Nat) = (0 : Nat) ∧ (0 : Nat) = (0 : Nat) ∧ y_1 = x.fst ∧ True) ∧
 (Is (byts x_1.fst) (byts b) ∧ x_1.snd.fst + (1 : Int) = x.snd.snd.snd ∧ True) ∧
 ((0 : Int) = (0 : Int) ∧ Is (AV.lit (0 : Nat) (1 : Nat) fun (x x_2 : Nat) => AV.any) nilA ∧ True) ∧
 (y = x.snd.fst ∧ ((0 : Nat) = (0 : Nat) ∧ (0 : Nat) = (0 : Nat) ∧ x.snd.snd.fst.length = (0 : Nat)) ∧ True) ∧ x.snd.snd.fst.length = (0 : Nat) ∧ True) ∧
 ∀ (x : Int × Int × List (List Int) × Int),
 (0 : Int) ≤ x.fst ∧
 (↑x.snd.snd.fst.length : Int) + x.fst ≤ (12 : Int) ∧
 x.snd.fst ≤ (6 : Int) ∧
 (∀ (y : List Int), y ∈ x.snd.snd.fst → y.length ≤ (100 : Nat)) ∧ p ≤ x.snd.snd.snd ∧ x.snd.snd.snd ≤ p + (2 : Int) + (400 : Int) * ((12 : Int) - x.fst) →
 condP (Decidable.decide (x.fst > (0 : Int)))
 ((Exists fun (x_2 : List Int × Int × List Int) =>
 (Rd (1099511627776 : Int) x_2.fst x_2.snd.fst ∧ x_2.snd.snd ≠ [] ∧ Sz x_2.snd.snd) ∧
 (((0 : Nat) = (0 : Nat) ∧
 Is
 (AV.lit (8 : Nat) (1 : Nat)
 (rowsCell
 [[i64 (2 : Int)], [i64 (2 : Int)], [i64 (3 : Int)], [i64 (1 : Int)], [i64 (3 : Int)], [i64 (2 : Int)], [i64 (3 : Int)],
 [i64 (0 : Int)]]))
 (ints x_2.snd.snd) ∧
 True) ∧
 (Is (byts b) (byts x_2.fst) ∧ x.snd.snd.snd = x_2.snd.fst ∧ True) ∧ True) ∧
 ∀ (y : Int),
 y ∈ x_2.snd.snd →
 Exists fun (x_3 : List Int × Int × Int × Int) =>
 (Rd (274877906944 : Int) x_3.fst x_3.snd.fst ∧ x_3.snd.snd.snd ≤ (100 : Int)) ∧
 (((0 : Nat) = (0 : Nat) ∧ x.snd.fst = x_3.snd.snd.fst ∧ y = x_3.snd.snd.snd ∧ True) ∧
 (Is (byts x_2.fst) (byts x_3.fst) ∧ x_2.snd.fst + (1 : Int) = x_3.snd.fst ∧ True) ∧ True) ∧
 ∀ (y : List Int × Int),
 y.fst.length ≤ (100 : Nat) ∧ x_3.snd.fst ≤ y.snd ∧ y.snd ≤ x_3.snd.fst + (300 : Int) →
 Exists fun (x_4 : List Int) =>
 (Is (ints y.fst) (ints x_4) ∧ True) ∧
 x_4.length ≤ (1073741824 : Nat) ∧
 condP (Pl.clauseOf x_4).snd
 (Exists fun (x_5 : List Int × Int) =>
 (Is (ints (Pl.clauseOf x_4).fst) (ints x_5.fst) ∧ x.snd.fst = x_5.snd ∧ True) ∧
 Sz x_5.fst ∧
 condP (Pl.specClause x_5.fst x_5.snd)
 ((0 : Nat) + x.snd.snd.fst.length ≤ x.snd.snd.fst.length ∧
 (x.snd.snd.fst.length + (1 : Nat)) * (24 : Nat) ≤ (70368744177664 : Nat) ∧
 Exists fun (x' : Int × Int × List (List Int) × Int) =>
 ((0 : Int) ≤ x'.fst ∧
 (↑x'.snd.snd.fst.length : Int) + x'.fst ≤ (12 : Int) ∧
 x'.snd.fst ≤ (6 : Int) ∧
 (∀ (y : List Int), y ∈ x'.snd.snd.fst → y.length ≤ (100 : Nat)) ∧
 p ≤ x'.snd.snd.snd ∧ x'.snd.snd.snd ≤ p + (2 : Int) + (400 : Int) * ((12 : Int) - x'.fst)) ∧
 x'.fst.toNat < x.fst.toNat ∧
 ((0 : Nat) = (0 : Nat) ∧
 (0 : Nat) = (0 : Nat) ∧ (0 : Nat) = (0 : Nat) ∧ IntKind.i64.wrap (x.fst - (1 : Int)) = x'.fst ∧ True) ∧
 (Is (byts x_3.fst) (byts b) ∧ y.snd = x'.snd.snd.snd ∧ True) ∧
 ((0 : Int) = (0 : Int) ∧ Is (AV.lit (0 : Nat) (1 : Nat) fun (x x_6 : Nat) => AV.any) nilA ∧ True) ∧
 (x.snd.fst = x'.snd.fst ∧ ((0 : Nat) = (0 : Nat) ∧ x.snd.snd.fst.length + (1 : Nat) = x'.snd.snd.fst.length) ∧ True) ∧
 IsO
 (AObj.arr (x.snd.snd.fst.length + (1 : Nat)) (1 : Nat)
 (joinC x.snd.snd.fst.length (cII x.snd.snd.fst) (rowsCell [[ints (Pl.clauseOf x_4).fst]])))
 (arII x'.snd.snd.fst) ∧
 True)
 (Exists fun (x' : Int × Int × List (List Int) × Int) =>
 ((0 : Int) ≤ x'.fst ∧
 (↑x'.snd.snd.fst.length : Int) + x'.fst ≤ (12 : Int) ∧
 x'.snd.fst ≤ (6 : Int) ∧
 (∀ (y : List Int), y ∈ x'.snd.snd.fst → y.length ≤ (100 : Nat)) ∧
 p ≤ x'.snd.snd.snd ∧ x'.snd.snd.snd ≤ p + (2 : Int) + (400 : Int) * ((12 : Int) - x'.fst)) ∧
 x'.fst.toNat < x.fst.toNat ∧
 ((0 : Nat) = (0 : Nat) ∧
 (0 : Nat) = (0 : Nat) ∧ (0 : Nat) = (0 : Nat) ∧ IntKind.i64.wrap (x.fst - (1 : Int)) = x'.fst ∧ True) ∧
 (Is (byts x_3.fst) (byts b) ∧ y.snd = x'.snd.snd.snd ∧ True) ∧
 ((0 : Int) = (0 : Int) ∧ Is (AV.lit (0 : Nat) (1 : Nat) fun (x x_6 : Nat) => AV.any) nilA ∧ True) ∧
 (x.snd.fst = x'.snd.fst ∧ ((0 : Nat) = (0 : Nat) ∧ x.snd.snd.fst.length = x'.snd.snd.fst.length) ∧ True) ∧
 IsO (arII x.snd.snd.fst) (arII x'.snd.snd.fst) ∧ True))
 (Exists fun (x' : Int × Int × List (List Int) × Int) =>
 ((0 : Int) ≤ x'.fst ∧
 (↑x'.snd.snd.fst.length : Int) + x'.fst ≤ (12 : Int) ∧
 x'.snd.fst ≤ (6 : Int) ∧
 (∀ (y : List Int), y ∈ x'.snd.snd.fst → y.length ≤ (100 : Nat)) ∧
 p ≤ x'.snd.snd.snd ∧ x'.snd.snd.snd ≤ p + (2 : Int) + (400 : Int) * ((12 : Int) - x'.fst)) ∧
 x'.fst.toNat < x.fst.toNat ∧
 ((0 : Nat) = (0 : Nat) ∧ (0 : Nat) = (0 : Nat) ∧ (0 : Nat) = (0 : Nat) ∧ IntKind.i64.wrap (x.fst - (1 : Int)) = x'.fst ∧ True) ∧
 (Is (byts x_3.fst) (byts b) ∧ y.snd = x'.snd.snd.snd ∧ True) ∧
 ((0 : Int) = (0 : Int) ∧ Is (AV.lit (0 : Nat) (1 : Nat) fun (x x_5 : Nat) => AV.any) nilA ∧ True) ∧
 (x.snd.fst = x'.snd.fst ∧ ((0 : Nat) = (0 : Nat) ∧ x.snd.snd.fst.length = x'.snd.snd.fst.length) ∧ True) ∧
 IsO (arII x.snd.snd.fst) (arII x'.snd.snd.fst) ∧ True)) ∧
 Exists fun (x_2 : List Int × Int × List Int) =>
 (Rd (1099511627776 : Int) x_2.fst x_2.snd.fst ∧ x_2.snd.snd ≠ [] ∧ Sz x_2.snd.snd) ∧
 (((0 : Nat) = (0 : Nat) ∧
 Is
 (AV.lit (8 : Nat) (1 : Nat)
 (rowsCell
 [[i64 (2 : Int)], [i64 (2 : Int)], [i64 (3 : Int)], [i64 (1 : Int)], [i64 (3 : Int)], [i64 (2 : Int)], [i64 (3 : Int)],
 [i64 (0 : Int)]]))
 (ints x_2.snd.snd) ∧
 True) ∧
 (Is (byts b) (byts x_2.fst) ∧ x.snd.snd.snd = x_2.snd.fst ∧ True) ∧ True) ∧
 ∀ (y : Int),
 y ∈ x_2.snd.snd →
 Exists fun (x_3 : List Int × Int × Int × Int) =>
 (Rd (274877906944 : Int) x_3.fst x_3.snd.fst ∧ x_3.snd.snd.snd ≤ (100 : Int)) ∧
 (((0 : Nat) = (0 : Nat) ∧ x.snd.fst = x_3.snd.snd.fst ∧ y = x_3.snd.snd.snd ∧ True) ∧
 (Is (byts x_2.fst) (byts x_3.fst) ∧ x_2.snd.fst + (1 : Int) = x_3.snd.fst ∧ True) ∧ True) ∧
 ∀ (y : List Int × Int),
 y.fst.length ≤ (100 : Nat) ∧ x_3.snd.fst ≤ y.snd ∧ y.snd ≤ x_3.snd.fst + (300 : Int) →
 Exists fun (x_4 : List Int) =>
 (Is (ints y.fst) (ints x_4) ∧ True) ∧
 x_4.length ≤ (1073741824 : Nat) ∧
 condP (Pl.clauseOf x_4).snd
 (Exists fun (x_5 : List Int × Int) =>
 (Is (ints (Pl.clauseOf x_4).fst) (ints x_5.fst) ∧ x.snd.fst = x_5.snd ∧ True) ∧
 Sz x_5.fst ∧
 condP (Pl.specClause x_5.fst x_5.snd)
 ((0 : Nat) + x.snd.snd.fst.length ≤ x.snd.snd.fst.length ∧
 (x.snd.snd.fst.length + (1 : Nat)) * (24 : Nat) ≤ (70368744177664 : Nat) ∧
 Exists fun (x' : Int × Int × List (List Int) × Int) =>
 ((0 : Int) ≤ x'.fst ∧
 (↑x'.snd.snd.fst.length : Int) + x'.fst ≤ (12 : Int) ∧
 x'.snd.fst ≤ (6 : Int) ∧
 (∀ (y : List Int), y ∈ x'.snd.snd.fst → y.length ≤ (100 : Nat)) ∧
 p ≤ x'.snd.snd.snd ∧ x'.snd.snd.snd ≤ p + (2 : Int) + (400 : Int) * ((12 : Int) - x'.fst)) ∧
 x'.fst.toNat < x.fst.toNat ∧
 ((0 : Nat) = (0 : Nat) ∧
 (0 : Nat) = (0 : Nat) ∧ (0 : Nat) = (0 : Nat) ∧ IntKind.i64.wrap (x.fst - (1 : Int)) = x'.fst ∧ True) ∧
 (Is (byts x_3.fst) (byts b) ∧ y.snd = x'.snd.snd.snd ∧ True) ∧
 ((0 : Int) = (0 : Int) ∧ Is (AV.lit (0 : Nat) (1 : Nat) fun (x x_6 : Nat) => AV.any) nilA ∧ True) ∧
 (x.snd.fst = x'.snd.fst ∧ ((0 : Nat) = (0 : Nat) ∧ x.snd.snd.fst.length + (1 : Nat) = x'.snd.snd.fst.length) ∧ True) ∧
 IsO
 (AObj.arr (x.snd.snd.fst.length + (1 : Nat)) (1 : Nat)
 (joinC x.snd.snd.fst.length (cII x.snd.snd.fst) (rowsCell [[ints (Pl.clauseOf x_4).fst]])))
 (arII x'.snd.snd.fst) ∧
 True)
 (Exists fun (x' : Int × Int × List (List Int) × Int) =>
 ((0 : Int) ≤ x'.fst ∧
 (↑x'.snd.snd.fst.length : Int) + x'.fst ≤ (12 : Int) ∧
 x'.snd.fst ≤ (6 : Int) ∧
 (∀ (y : List Int), y ∈ x'.snd.snd.fst → y.length ≤ (100 : Nat)) ∧
 p ≤ x'.snd.snd.snd ∧ x'.snd.snd.snd ≤ p + (2 : Int) + (400 : Int) * ((12 : Int) - x'.fst)) ∧
 x'.fst.toNat < x.fst.toNat ∧
 ((0 : Nat) = (0 : Nat) ∧
 (0 : Nat) = (0 : Nat) ∧ (0 : Nat) = (0 : Nat) ∧ IntKind.i64.wrap (x.fst - (1 : Int)) = x'.fst ∧ True) ∧
 (Is (byts x_3.fst) (byts b) ∧ y.snd = x'.snd.snd.snd ∧ True) ∧
 ((0 : Int) = (0 : Int) ∧ Is (AV.lit (0 : Nat) (1 : Nat) fun (x x_6 : Nat) => AV.any) nilA ∧ True) ∧
 (x.snd.fst = x'.snd.fst ∧ ((0 : Nat) = (0 : Nat) ∧ x.snd.snd.fst.length = x'.snd.snd.fst.length) ∧ True) ∧
 IsO (arII x.snd.snd.fst) (arII x'.snd.snd.fst) ∧ True))
 (Exists fun (x' : Int × Int × List (List Int) × Int) =>
 ((0 : Int) ≤ x'.fst ∧
 (↑x'.snd.snd.fst.length : Int) + x'.fst ≤ (12 : Int) ∧
 x'.snd.fst ≤ (6 : Int) ∧
 (∀ (y : List Int), y ∈ x'.snd.snd.fst → y.length ≤ (100 : Nat)) ∧
 p ≤ x'.snd.snd.snd ∧ x'.snd.snd.snd ≤ p + (2 : Int) + (400 : Int) * ((12 : Int) - x'.fst)) ∧
 x'.fst.toNat < x.fst.toNat ∧
 ((0 : Nat) = (0 : Nat) ∧ (0 : Nat) = (0 : Nat) ∧ (0 : Nat) = (0 : Nat) ∧ IntKind.i64.wrap (x.fst - (1 : Int)) = x'.fst ∧ True) ∧
 (Is (byts x_3.fst) (byts b) ∧ y.snd = x'.snd.snd.snd ∧ True) ∧
 ((0 : Int) = (0 : Int) ∧ Is (AV.lit (0 : Nat) (1 : Nat) fun (x x_5 : Nat) => AV.any) nilA ∧ True) ∧
 (x.snd.fst = x'.snd.fst ∧ ((0 : Nat) = (0 : Nat) ∧ x.snd.snd.fst.length = x'.snd.snd.fst.length) ∧ True) ∧
 IsO (arII x.snd.snd.fst) (arII x'.snd.snd.fst) ∧ True))
 (Exists fun (x_2 : List Int × Int × Int) =>
 Rd (1099511627776 : Int) x_2.fst x_2.snd.fst ∧
 (((0 : Nat) = (0 : Nat) ∧ (40 : Int) = x_2.snd.snd ∧ True) ∧ (Is (byts b) (byts x_2.fst) ∧ x.snd.snd.snd = x_2.snd.fst ∧ True) ∧ True) ∧
 ∀ (y : Int),
 ((1 : Int) ≤ x_2.snd.snd → (0 : Int) ≤ y ∧ y < x_2.snd.snd) ∧ (x_2.snd.snd < (1 : Int) → y = (0 : Int)) →
 condP (y == (0 : Int))
 (Exists fun (x_3 : List Int × Int × List Int) =>
 (Rd (1099511627776 : Int) x_3.fst x_3.snd.fst ∧ x_3.snd.snd ≠ [] ∧ Sz x_3.snd.snd) ∧
 (((0 : Nat) = (0 : Nat) ∧
 Is (AV.lit (3 : Nat) (1 : Nat) (rowsCell [[i64 (-1 : Int)], [i64 (61 : Int)], [i64 (1 : Int)]])) (ints x_3.snd.snd) ∧ True) ∧
 (Is (byts x_2.fst) (byts x_3.fst) ∧ x_2.snd.fst + (1 : Int) = x_3.snd.fst ∧ True) ∧ True) ∧
 ∀ (y : Int),
 y ∈ x_3.snd.snd →
 Exists fun (y_2 : Pl.Cnf × Int) =>
 (Sm y_2.fst ∧ p ≤ y_2.snd ∧ y_2.snd ≤ p + (10000 : Int)) ∧
 ((y = y_2.fst.fst ∧ ((0 : Nat) = (0 : Nat) ∧ x.snd.snd.fst.length = y_2.fst.snd.length) ∧ True) ∧ True) ∧
 (Is (byts x_3.fst) (byts b) ∧ x_3.snd.fst + (1 : Int) = y_2.snd ∧ True) ∧ IsO (arII x.snd.snd.fst) (arII y_2.fst.snd) ∧ True)
 (condP (y == (1 : Int))
 ((0 : Nat) + x.snd.snd.fst.length ≤ x.snd.snd.fst.length ∧
 (x.snd.snd.fst.length + (2 : Nat)) * (24 : Nat) ≤ (70368744177664 : Nat) ∧
 Exists fun (y : Pl.Cnf × Int) =>
 (Sm y.fst ∧ p ≤ y.snd ∧ y.snd ≤ p + (10000 : Int)) ∧
 ((x.snd.fst = y.fst.fst ∧ ((0 : Nat) = (0 : Nat) ∧ x.snd.snd.fst.length + (2 : Nat) = y.fst.snd.length) ∧ True) ∧ True) ∧
 (Is (byts x_2.fst) (byts b) ∧ x_2.snd.fst + (1 : Int) = y.snd ∧ True) ∧
 IsO
 (AObj.arr (x.snd.snd.fst.length + (2 : Nat)) (1 : Nat)
 (joinC x.snd.snd.fst.length (cII x.snd.snd.fst)
 (rowsCell
 [[AV.lit (2 : Nat) (1 : Nat) (rowsCell [[i64 (2 : Int)], [i64 (1 : Int)]])],
 [AV.lit (1 : Nat) (1 : Nat) (rowsCell [[i64 (0 : Int)]])]])))
 (arII y.fst.snd) ∧
 True)
 (Exists fun (y : Pl.Cnf × Int) =>
 (Sm y.fst ∧ p ≤ y.snd ∧ y.snd ≤ p + (10000 : Int)) ∧
 ((x.snd.fst = y.fst.fst ∧ ((0 : Nat) = (0 : Nat) ∧ x.snd.snd.fst.length = y.fst.snd.length) ∧ True) ∧ True) ∧
 (Is (byts x_2.fst) (byts b) ∧ x_2.snd.fst + (1 : Int) = y.snd ∧ True) ∧ IsO (arII x.snd.snd.fst) (arII y.fst.snd) ∧ True)))) = Goal Try.prog [K_pick, K_num, K_l10Marks, K_sClauseOf, K_sClauseOk] (A_l10Cnf b p) K_l10CnfO.1 K_l10CnfO.2 ((b, p)) := by kernel_rfl

theorem vc_l11Draw (b : List Int) : (Exists fun (x : List Int) =>
 (Sz x ∧ Byt x) ∧
 ((Is (byts b) (byts x) ∧ True) ∧ True) ∧
 ∀ (y : List Int),
 Rd (0 : Int) y (0 : Int) →
 Exists fun (x : List Int × Int) =>
 Rd (137438953472 : Int) x.fst x.snd ∧
 (((0 : Nat) = (0 : Nat) ∧ True) ∧ (Is (byts y) (byts x.fst) ∧ (0 : Int) = x.snd ∧ True) ∧ True) ∧
 ∀ (y : Pl.Cnf × Int),
 Sm y.fst ∧ x.snd ≤ y.snd ∧ y.snd ≤ x.snd + (10000 : Int) →
 (Exists fun (x_1 : DX) =>
 (x_1.fst ≤ (3 : Nat) ∧
 Rd (137438963472 : Int) x_1.snd.fst x_1.snd.snd.fst ∧
 x_1.snd.snd.snd.fst ≤ (61 : Int) ∧ x_1.snd.snd.snd.snd.length ≤ (100 : Nat) + x_1.fst ∧ ∀ (y : List Int), y ∈ x_1.snd.snd.snd.snd → y.length ≤ (100 : Nat)) ∧
 ((0 : Nat) = (0 : Nat) ∧ (0 : Nat) = (0 : Nat) ∧ (0 : Nat) = (0 : Nat) ∧ (0 : Int) = (↑x_1.fst : Int) ∧ True) ∧
 ((0 : Int) = (0 : Int) ∧ Is (AV.lit (0 : Nat) (1 : Nat) fun (x x_2 : Nat) => AV.any) nilA ∧ True) ∧
 (Is (byts x.fst) (byts x_1.snd.fst) ∧ y.snd = x_1.snd.snd.fst ∧ True) ∧
 (y.fst.fst = x_1.snd.snd.snd.fst ∧ ((0 : Nat) = (0 : Nat) ∧ y.fst.snd.length = x_1.snd.snd.snd.snd.length) ∧ True) ∧
 IsO (arII y.fst.snd) (arII x_1.snd.snd.snd.snd) ∧ True) ∧
 ∀ (x : Nat × List Int × Int × Pl.Cnf),
 (x.fst ≤ (3 : Nat) ∧
 Rd (137438963472 : Int) x.snd.fst x.snd.snd.fst ∧
 x.snd.snd.snd.fst ≤ (61 : Int) ∧ x.snd.snd.snd.snd.length ≤ (100 : Nat) + x.fst ∧ ∀ (y : List Int), y ∈ x.snd.snd.snd.snd → y.length ≤ (100 : Nat)) →
 condP (Decidable.decide ((↑x.fst : Int) < (3 : Int)))
 ((0 : Nat) + x.snd.snd.snd.snd.length ≤ x.snd.snd.snd.snd.length ∧
 Exists fun (x_1 : Pl.Cnf × Int) =>
 ((x.snd.snd.snd.fst = x_1.fst.fst ∧ Is (intss x.snd.snd.snd.snd) (intss x_1.fst.snd) ∧ True) ∧ (130 : Int) = x_1.snd ∧ True) ∧
 SzC x_1.fst ∧
 condP (!(Pl.huntRun x_1.fst x_1.snd).snd.snd)
 ((0 : Nat) + x.snd.snd.snd.snd.length ≤ x.snd.snd.snd.snd.length ∧
 Exists fun (x_2 : Pl.Cnf × Int) =>
 ((x.snd.snd.snd.fst = x_2.fst.fst ∧ Is (intss x.snd.snd.snd.snd) (intss x_2.fst.snd) ∧ True) ∧ (130 : Int) = x_2.snd ∧ True) ∧
 SzC x_2.fst ∧
 Exists fun (x_3 : List (List Int)) =>
 (x_3.length ≤ (1000 : Nat) ∧ ∀ (x : List Int), x ∈ x_3 → x.length ≤ (1000 : Nat)) ∧
 ((Is (intss (Pl.huntRun x_2.fst x_2.snd).snd.fst) (intss x_3) ∧ True) ∧ True) ∧
 ∀ (y : Unit),
 True →
 condP (Decidable.decide ((↑x_3.length : Int) > (0 : Int)))
 (Exists fun (x_4 : List Int × Int × Int) =>
 Rd (1099511627776 : Int) x_4.fst x_4.snd.fst ∧
 (((0 : Nat) = (0 : Nat) ∧ (4 : Int) = x_4.snd.snd ∧ True) ∧
 (Is (byts x.snd.fst) (byts x_4.fst) ∧ x.snd.snd.fst = x_4.snd.fst ∧ True) ∧ True) ∧
 ∀ (y : Int),
 ((1 : Int) ≤ x_4.snd.snd → (0 : Int) ≤ y ∧ y < x_4.snd.snd) ∧ (x_4.snd.snd < (1 : Int) → y = (0 : Int)) →
 condP (y == (0 : Int))
 (Exists fun (x_5 : List Int × Int × Int) =>
 Rd (1099511627776 : Int) x_5.fst x_5.snd.fst ∧
 (((0 : Nat) = (0 : Nat) ∧ (↑x_3.length : Int) = x_5.snd.snd ∧ True) ∧
 (Is (byts x_4.fst) (byts x_5.fst) ∧ x_4.snd.fst + (1 : Int) = x_5.snd.fst ∧ True) ∧ True) ∧
 ∀ (y : Int),
 ((1 : Int) ≤ x_5.snd.snd → (0 : Int) ≤ y ∧ y < x_5.snd.snd) ∧ (x_5.snd.snd < (1 : Int) → y = (0 : Int)) →
 Exists fun (x_6 : List Int × Int × Int) =>
 Rd (1099511627776 : Int) x_6.fst x_6.snd.fst ∧
 (((0 : Nat) = (0 : Nat) ∧ (3 : Int) = x_6.snd.snd ∧ True) ∧
 (Is (byts x_5.fst) (byts x_6.fst) ∧ x_5.snd.fst + (1 : Int) = x_6.snd.fst ∧ True) ∧ True) ∧
 ∀ (y_1 : Int),
 ((1 : Int) ≤ x_6.snd.snd → (0 : Int) ≤ y_1 ∧ y_1 < x_6.snd.snd) ∧ (x_6.snd.snd < (1 : Int) → y_1 = (0 : Int)) →
 condP (y_1 == (0 : Int))
 ((((0 : Int) ≤ y ∧ y ≤ (↑x_3.length : Int)) ∧
 ((0 : Int) ≤ IntKind.i64.wrap (y + (1 : Int)) ∧
 IntKind.i64.wrap (y + (1 : Int)) ≤ (↑x_3.length : Int)) ∧
 (IntKind.i64.wrap (y + (1 : Int))).toNat +
 (x_3.length - (IntKind.i64.wrap (y + (1 : Int))).toNat) ≤
 x_3.length ∧
 (0 : Nat) + y.toNat ≤ x_3.length ∧
 (y.toNat + (x_3.length - (IntKind.i64.wrap (y + (1 : Int))).toNat)) * (24 : Nat) ≤
 (70368744177664 : Nat) ∧
 Exists fun (y_2 : Pl.Cnf × List (List Int)) =>
 LgOk y_2 ∧
 (0 : Nat) + x.snd.snd.snd.snd.length ≤ x.snd.snd.snd.snd.length ∧
 (0 : Nat) + (y.toNat + (x_3.length - (IntKind.i64.wrap (y + (1 : Int))).toNat)) ≤
 y.toNat + (x_3.length - (IntKind.i64.wrap (y + (1 : Int))).toNat) ∧
 (((x.snd.snd.snd.fst = y_2.fst.fst ∧
 Is (intss x.snd.snd.snd.snd) (intss y_2.fst.snd) ∧ True) ∧
 Is
 (AV.sl
 (y.toNat + (x_3.length - (IntKind.i64.wrap (y + (1 : Int))).toNat))
 (1 : Nat) fun (i j : Nat) =>
 joinC y.toNat (cII x_3)
 (fun (i j : Nat) =>
 ints (x_3.getD (i + (IntKind.i64.wrap (y + (1 : Int))).toNat) []))
 i j)
 (intss y_2.snd) ∧
 True) ∧
 True) ∧
 True) ∧
 ((0 : Int) ≤ IntKind.i64.wrap (y + (1 : Int)) ∧
 IntKind.i64.wrap (y + (1 : Int)) ≤ (↑x_3.length : Int)) ∧
 ((0 : Int) ≤ y ∧ y ≤ (↑x_3.length : Int)) ∧
 (IntKind.i64.wrap (y + (1 : Int))).toNat +
 (x_3.length - (IntKind.i64.wrap (y + (1 : Int))).toNat) ≤
 x_3.length ∧
 (0 : Nat) + y.toNat ≤ x_3.length ∧
 (y.toNat + (x_3.length - (IntKind.i64.wrap (y + (1 : Int))).toNat)) * (24 : Nat) ≤
 (70368744177664 : Nat) ∧
 Exists fun (y_2 : Pl.Cnf × List (List Int)) =>
 LgOk y_2 ∧
 (0 : Nat) + x.snd.snd.snd.snd.length ≤ x.snd.snd.snd.snd.length ∧
 (0 : Nat) + (y.toNat + (x_3.length - (IntKind.i64.wrap (y + (1 : Int))).toNat)) ≤
 y.toNat + (x_3.length - (IntKind.i64.wrap (y + (1 : Int))).toNat) ∧
 (((x.snd.snd.snd.fst = y_2.fst.fst ∧
 Is (intss x.snd.snd.snd.snd) (intss y_2.fst.snd) ∧ True) ∧
 Is
 (AV.sl
 (y.toNat + (x_3.length - (IntKind.i64.wrap (y + (1 : Int))).toNat))
 (1 : Nat) fun (i j : Nat) =>
 joinC y.toNat (cII x_3)
 (fun (i j : Nat) =>
 ints (x_3.getD (i + (IntKind.i64.wrap (y + (1 : Int))).toNat) []))
 i j)
 (intss y_2.snd) ∧
 True) ∧
 True) ∧
 True)
 (condP (y_1 == (1 : Int))
 (((0 : Int) ≤ y ∧ y < (↑x_3.length : Int)) ∧
 y.toNat < x_3.length ∧
 (x_3.getD y.toNat []).length = (x_3.getD y.toNat []).length ∧
 y.toNat < x_3.length ∧
 (0 : Nat) < (1 : Nat) ∧
 ((x_3.getD y.toNat []).length + (1 : Nat)) * (8 : Nat) ≤ (70368744177664 : Nat) ∧
 ((0 : Int) ≤ y ∧ y < (↑x_3.length : Int)) ∧
 y.toNat < x_3.length ∧
 Exists fun (y_2 : Pl.Cnf × List (List Int)) =>
 LgOk y_2 ∧
 (0 : Nat) + x.snd.snd.snd.snd.length ≤ x.snd.snd.snd.snd.length ∧
 (0 : Nat) + x_3.length ≤ x_3.length ∧
 (((x.snd.snd.snd.fst = y_2.fst.fst ∧
 Is (intss x.snd.snd.snd.snd) (intss y_2.fst.snd) ∧ True) ∧
 Is
 (AV.sl x_3.length (1 : Nat) fun (i j : Nat) =>
 storeC (cII x_3) y.toNat (0 : Nat)
 [AV.sl ((x_3.getD y.toNat []).length + (1 : Nat)) (1 : Nat)
 (joinC (x_3.getD y.toNat []).length
 (cI (x_3.getD y.toNat []))
 (rowsCell [[i64 (1 : Int)]]))]
 i j)
 (intss y_2.snd) ∧
 True) ∧
 True) ∧
 True)
 ((0 : Nat) + x_3.length ≤ x_3.length ∧
 (x_3.length + (1 : Nat)) * (24 : Nat) ≤ (70368744177664 : Nat) ∧
 Exists fun (y : Pl.Cnf × List (List Int)) =>
 LgOk y ∧
 (0 : Nat) + x.snd.snd.snd.snd.length ≤ x.snd.snd.snd.snd.length ∧
 (0 : Nat) + (x_3.length + (1 : Nat)) ≤ x_3.length + (1 : Nat) ∧
 (((x.snd.snd.snd.fst = y.fst.fst ∧
 Is (intss x.snd.snd.snd.snd) (intss y.fst.snd) ∧ True) ∧
 Is
 (AV.sl (x_3.length + (1 : Nat)) (1 : Nat) fun (i j : Nat) =>
 joinC x_3.length (cII x_3)
 (rowsCell [[AV.lit (0 : Nat) (1 : Nat) (rowsCell [])]]) i j)
 (intss y.snd) ∧
 True) ∧
 True) ∧
 True)))
 (Exists fun (y : Pl.Cnf × List (List Int)) =>
 LgOk y ∧
 (0 : Nat) + x.snd.snd.snd.snd.length ≤ x.snd.snd.snd.snd.length ∧
 (0 : Nat) + x_3.length ≤ x_3.length ∧
 (((x.snd.snd.snd.fst = y.fst.fst ∧ Is (intss x.snd.snd.snd.snd) (intss y.fst.snd) ∧ True) ∧
 Is (intss x_3) (intss y.snd) ∧ True) ∧
 True) ∧
 True))
 (Exists fun (y : Pl.Cnf × List (List Int)) =>
 LgOk y ∧
 (0 : Nat) + x.snd.snd.snd.snd.length ≤ x.snd.snd.snd.snd.length ∧
 (0 : Nat) + x_3.length ≤ x_3.length ∧
 (((x.snd.snd.snd.fst = y.fst.fst ∧ Is (intss x.snd.snd.snd.snd) (intss y.fst.snd) ∧ True) ∧
 Is (intss x_3) (intss y.snd) ∧ True) ∧
 True) ∧
 True))
 (condP ((↑(Pl.huntRun x_1.fst x_1.snd).fst.length : Int) == (0 : Int))
 ((0 : Nat) + x.snd.snd.snd.snd.length ≤ x.snd.snd.snd.snd.length ∧
 Exists fun (x_2 : Pl.Cnf × Int) =>
 ((x.snd.snd.snd.fst = x_2.fst.fst ∧ Is (intss x.snd.snd.snd.snd) (intss x_2.fst.snd) ∧ True) ∧ (130 : Int) = x_2.snd ∧ True) ∧
 SzC x_2.fst ∧
 Exists fun (x_3 : List (List Int)) =>
 (x_3.length ≤ (1000 : Nat) ∧ ∀ (x : List Int), x ∈ x_3 → x.length ≤ (1000 : Nat)) ∧
 ((Is (intss (Pl.huntRun x_2.fst x_2.snd).snd.fst) (intss x_3) ∧ True) ∧ True) ∧
 ∀ (y : Unit),
 True →
 condP (Decidable.decide ((↑x_3.length : Int) > (0 : Int)))
 (Exists fun (x_4 : List Int × Int × Int) =>
 Rd (1099511627776 : Int) x_4.fst x_4.snd.fst ∧
 (((0 : Nat) = (0 : Nat) ∧ (4 : Int) = x_4.snd.snd ∧ True) ∧
 (Is (byts x.snd.fst) (byts x_4.fst) ∧ x.snd.snd.fst = x_4.snd.fst ∧ True) ∧ True) ∧
 ∀ (y : Int),
 ((1 : Int) ≤ x_4.snd.snd → (0 : Int) ≤ y ∧ y < x_4.snd.snd) ∧ (x_4.snd.snd < (1 : Int) → y = (0 : Int)) →
 condP (y == (0 : Int))
 (Exists fun (x_5 : List Int × Int × Int) =>
 Rd (1099511627776 : Int) x_5.fst x_5.snd.fst ∧
 (((0 : Nat) = (0 : Nat) ∧ (↑x_3.length : Int) = x_5.snd.snd ∧ True) ∧
 (Is (byts x_4.fst) (byts x_5.fst) ∧ x_4.snd.fst + (1 : Int) = x_5.snd.fst ∧ True) ∧ True) ∧
 ∀ (y : Int),
 ((1 : Int) ≤ x_5.snd.snd → (0 : Int) ≤ y ∧ y < x_5.snd.snd) ∧ (x_5.snd.snd < (1 : Int) → y = (0 : Int)) →
 Exists fun (x_6 : List Int × Int × Int) =>
 Rd (1099511627776 : Int) x_6.fst x_6.snd.fst ∧
 (((0 : Nat) = (0 : Nat) ∧ (3 : Int) = x_6.snd.snd ∧ True) ∧
 (Is (byts x_5.fst) (byts x_6.fst) ∧ x_5.snd.fst + (1 : Int) = x_6.snd.fst ∧ True) ∧ True) ∧
 ∀ (y_1 : Int),
 ((1 : Int) ≤ x_6.snd.snd → (0 : Int) ≤ y_1 ∧ y_1 < x_6.snd.snd) ∧
 (x_6.snd.snd < (1 : Int) → y_1 = (0 : Int)) →
 condP (y_1 == (0 : Int))
 ((((0 : Int) ≤ y ∧ y ≤ (↑x_3.length : Int)) ∧
 ((0 : Int) ≤ IntKind.i64.wrap (y + (1 : Int)) ∧
 IntKind.i64.wrap (y + (1 : Int)) ≤ (↑x_3.length : Int)) ∧
 (IntKind.i64.wrap (y + (1 : Int))).toNat +
 (x_3.length - (IntKind.i64.wrap (y + (1 : Int))).toNat) ≤
 x_3.length ∧
 (0 : Nat) + y.toNat ≤ x_3.length ∧
 (y.toNat + (x_3.length - (IntKind.i64.wrap (y + (1 : Int))).toNat)) * (24 : Nat) ≤
 (70368744177664 : Nat) ∧
 Exists fun (y_2 : Pl.Cnf × List (List Int)) =>
 LgOk y_2 ∧
 (0 : Nat) + x.snd.snd.snd.snd.length ≤ x.snd.snd.snd.snd.length ∧
 (0 : Nat) + (y.toNat + (x_3.length - (IntKind.i64.wrap (y + (1 : Int))).toNat)) ≤
 y.toNat + (x_3.length - (IntKind.i64.wrap (y + (1 : Int))).toNat) ∧
 (((x.snd.snd.snd.fst = y_2.fst.fst ∧
 Is (intss x.snd.snd.snd.snd) (intss y_2.fst.snd) ∧ True) ∧
 Is
 (AV.sl
 (y.toNat + (x_3.length - (IntKind.i64.wrap (y + (1 : Int))).toNat))
 (1 : Nat) fun (i j : Nat) =>
 joinC y.toNat (cII x_3)
 (fun (i j : Nat) =>
 ints
 (x_3.getD (i + (IntKind.i64.wrap (y + (1 : Int))).toNat) []))
 i j)
 (intss y_2.snd) ∧
 True) ∧
 True) ∧
 True) ∧
 ((0 : Int) ≤ IntKind.i64.wrap (y + (1 : Int)) ∧
 IntKind.i64.wrap (y + (1 : Int)) ≤ (↑x_3.length : Int)) ∧
 ((0 : Int) ≤ y ∧ y ≤ (↑x_3.length : Int)) ∧
 (IntKind.i64.wrap (y + (1 : Int))).toNat +
 (x_3.length - (IntKind.i64.wrap (y + (1 : Int))).toNat) ≤
 x_3.length ∧
 (0 : Nat) + y.toNat ≤ x_3.length ∧
 (y.toNat + (x_3.length - (IntKind.i64.wrap (y + (1 : Int))).toNat)) * (24 : Nat) ≤
 (70368744177664 : Nat) ∧
 Exists fun (y_2 : Pl.Cnf × List (List Int)) =>
 LgOk y_2 ∧
 (0 : Nat) + x.snd.snd.snd.snd.length ≤ x.snd.snd.snd.snd.length ∧
 (0 : Nat) + (y.toNat + (x_3.length - (IntKind.i64.wrap (y + (1 : Int))).toNat)) ≤
 y.toNat + (x_3.length - (IntKind.i64.wrap (y + (1 : Int))).toNat) ∧
 (((x.snd.snd.snd.fst = y_2.fst.fst ∧
 Is (intss x.snd.snd.snd.snd) (intss y_2.fst.snd) ∧ True) ∧
 Is
 (AV.sl
 (y.toNat + (x_3.length - (IntKind.i64.wrap (y + (1 : Int))).toNat))
 (1 : Nat) fun (i j : Nat) =>
 joinC y.toNat (cII x_3)
 (fun (i j : Nat) =>
 ints
 (x_3.getD (i + (IntKind.i64.wrap (y + (1 : Int))).toNat) []))
 i j)
 (intss y_2.snd) ∧
 True) ∧
 True) ∧
 True)
 (condP (y_1 == (1 : Int))
 (((0 : Int) ≤ y ∧ y < (↑x_3.length : Int)) ∧
 y.toNat < x_3.length ∧
 (x_3.getD y.toNat []).length = (x_3.getD y.toNat []).length ∧
 y.toNat < x_3.length ∧
 (0 : Nat) < (1 : Nat) ∧
 ((x_3.getD y.toNat []).length + (1 : Nat)) * (8 : Nat) ≤ (70368744177664 : Nat) ∧
 ((0 : Int) ≤ y ∧ y < (↑x_3.length : Int)) ∧
 y.toNat < x_3.length ∧
 Exists fun (y_2 : Pl.Cnf × List (List Int)) =>
 LgOk y_2 ∧
 (0 : Nat) + x.snd.snd.snd.snd.length ≤ x.snd.snd.snd.snd.length ∧
 (0 : Nat) + x_3.length ≤ x_3.length ∧
 (((x.snd.snd.snd.fst = y_2.fst.fst ∧
 Is (intss x.snd.snd.snd.snd) (intss y_2.fst.snd) ∧ True) ∧
 Is
 (AV.sl x_3.length (1 : Nat) fun (i j : Nat) =>
 storeC (cII x_3) y.toNat (0 : Nat)
 [AV.sl ((x_3.getD y.toNat []).length + (1 : Nat)) (1 : Nat)
 (joinC (x_3.getD y.toNat []).length
 (cI (x_3.getD y.toNat []))
 (rowsCell [[i64 (1 : Int)]]))]
 i j)
 (intss y_2.snd) ∧
 True) ∧
 True) ∧
 True)
 ((0 : Nat) + x_3.length ≤ x_3.length ∧
 (x_3.length + (1 : Nat)) * (24 : Nat) ≤ (70368744177664 : Nat) ∧
 Exists fun (y : Pl.Cnf × List (List Int)) =>
 LgOk y ∧
 (0 : Nat) + x.snd.snd.snd.snd.length ≤ x.snd.snd.snd.snd.length ∧
 (0 : Nat) + (x_3.length + (1 : Nat)) ≤ x_3.length + (1 : Nat) ∧
 (((x.snd.snd.snd.fst = y.fst.fst ∧
 Is (intss x.snd.snd.snd.snd) (intss y.fst.snd) ∧ True) ∧
 Is
 (AV.sl (x_3.length + (1 : Nat)) (1 : Nat) fun (i j : Nat) =>
 joinC x_3.length (cII x_3)
 (rowsCell [[AV.lit (0 : Nat) (1 : Nat) (rowsCell [])]]) i j)
 (intss y.snd) ∧
 True) ∧
 True) ∧
 True)))
 (Exists fun (y : Pl.Cnf × List (List Int)) =>
 LgOk y ∧
 (0 : Nat) + x.snd.snd.snd.snd.length ≤ x.snd.snd.snd.snd.length ∧
 (0 : Nat) + x_3.length ≤ x_3.length ∧
 (((x.snd.snd.snd.fst = y.fst.fst ∧ Is (intss x.snd.snd.snd.snd) (intss y.fst.snd) ∧ True) ∧
 Is (intss x_3) (intss y.snd) ∧ True) ∧
 True) ∧
 True))
 (Exists fun (y : Pl.Cnf × List (List Int)) =>
 LgOk y ∧
 (0 : Nat) + x.snd.snd.snd.snd.length ≤ x.snd.snd.snd.snd.length ∧
 (0 : Nat) + x_3.length ≤ x_3.length ∧
 (((x.snd.snd.snd.fst = y.fst.fst ∧ Is (intss x.snd.snd.snd.snd) (intss y.fst.snd) ∧ True) ∧
 Is (intss x_3) (intss y.snd) ∧ True) ∧
 True) ∧
 True))
 ((Exists fun (x_2 : Nat × List Int × List Bool) =>
 (x_2.fst ≤ (2 : Nat) ∧ x_2.snd.fst.length = x_2.fst) ∧
 ((0 : Nat) = (0 : Nat) ∧
 (0 : Nat) = (0 : Nat) ∧
 (0 : Nat) = (0 : Nat) ∧
 (↑x.fst : Int) = (↑x.fst : Int) ∧
 Is (bools (Pl.huntRun x_1.fst x_1.snd).fst) (bools x_2.snd.snd) ∧
 ((0 : Nat) = (0 : Nat) ∧ (0 : Nat) = (0 : Nat) ∧ x_2.snd.fst.length = (0 : Nat)) ∧ (0 : Int) = (↑x_2.fst : Int) ∧ True) ∧
 ((0 : Int) = (0 : Int) ∧ Is (AV.lit (0 : Nat) (1 : Nat) fun (x x_3 : Nat) => AV.any) nilA ∧ True) ∧
 (Is (byts x.snd.fst) (byts x.snd.fst) ∧ x.snd.snd.fst = x.snd.snd.fst ∧ True) ∧
 (x.snd.snd.snd.fst = x.snd.snd.snd.fst ∧
 ((0 : Nat) + x.snd.snd.snd.snd.length ≤ x.snd.snd.snd.snd.length ∧ Is (intss x.snd.snd.snd.snd) (intss x.snd.snd.snd.snd)) ∧ True) ∧
 x_2.snd.fst.length = (0 : Nat) ∧ True) ∧
 ∀ (x_2 : Nat × List Int × List Bool),
 x_2.fst ≤ (2 : Nat) ∧ x_2.snd.fst.length = x_2.fst →
 condP (Decidable.decide ((↑x_2.fst : Int) < (↑x_2.snd.snd.length : Int)))
 (condP (Decidable.decide ((↑x_2.fst : Int) < (2 : Int)))
 (((0 : Int) ≤ (↑x_2.fst : Int) ∧ (↑x_2.fst : Int) < (↑x_2.snd.snd.length : Int)) ∧
 x_2.fst < x_2.snd.snd.length ∧
 condP (x_2.snd.snd.getD x_2.fst Bool.false)
 ((0 : Nat) + x_2.snd.fst.length ≤ x_2.snd.fst.length ∧
 (x_2.snd.fst.length + (1 : Nat)) * (8 : Nat) ≤ (70368744177664 : Nat) ∧
 Exists fun (x' : Nat × List Int × List Bool) =>
 (x'.fst ≤ (2 : Nat) ∧ x'.snd.fst.length = x'.fst) ∧
 (2 : Nat) - x'.fst < (2 : Nat) - x_2.fst ∧
 ((0 : Nat) = (0 : Nat) ∧
 (0 : Nat) = (0 : Nat) ∧
 (0 : Nat) = (0 : Nat) ∧
 (↑x.fst : Int) = (↑x.fst : Int) ∧
 Is (bools x_2.snd.snd) (bools x'.snd.snd) ∧
 ((0 : Nat) = (0 : Nat) ∧ x_2.snd.fst.length + (1 : Nat) = x'.snd.fst.length) ∧
 IntKind.i64.wrap ((↑x_2.fst : Int) + (1 : Int)) = (↑x'.fst : Int) ∧ True) ∧
 ((0 : Int) = (0 : Int) ∧ Is (AV.lit (0 : Nat) (1 : Nat) fun (x x_3 : Nat) => AV.any) nilA ∧ True) ∧
 (Is (byts x.snd.fst) (byts x.snd.fst) ∧ x.snd.snd.fst = x.snd.snd.fst ∧ True) ∧
 (x.snd.snd.snd.fst = x.snd.snd.snd.fst ∧ Is (intss x.snd.snd.snd.snd) (intss x.snd.snd.snd.snd) ∧ True) ∧
 IsO
 (AObj.arr (x_2.snd.fst.length + (1 : Nat)) (1 : Nat)
 (joinC x_2.snd.fst.length (cI x_2.snd.fst)
 (rowsCell [[i64 (IntKind.i64.wrap ((0 : Int) - IntKind.i64.wrap ((↑x_2.fst : Int) + (1 : Int))))]])))
 (arI x'.snd.fst) ∧
 True)
 ((0 : Nat) + x_2.snd.fst.length ≤ x_2.snd.fst.length ∧
 (x_2.snd.fst.length + (1 : Nat)) * (8 : Nat) ≤ (70368744177664 : Nat) ∧
 Exists fun (x' : Nat × List Int × List Bool) =>
 (x'.fst ≤ (2 : Nat) ∧ x'.snd.fst.length = x'.fst) ∧
 (2 : Nat) - x'.fst < (2 : Nat) - x_2.fst ∧
 ((0 : Nat) = (0 : Nat) ∧
 (0 : Nat) = (0 : Nat) ∧
 (0 : Nat) = (0 : Nat) ∧
 (↑x.fst : Int) = (↑x.fst : Int) ∧
 Is (bools x_2.snd.snd) (bools x'.snd.snd) ∧
 ((0 : Nat) = (0 : Nat) ∧ x_2.snd.fst.length + (1 : Nat) = x'.snd.fst.length) ∧
 IntKind.i64.wrap ((↑x_2.fst : Int) + (1 : Int)) = (↑x'.fst : Int) ∧ True) ∧
 ((0 : Int) = (0 : Int) ∧ Is (AV.lit (0 : Nat) (1 : Nat) fun (x x_3 : Nat) => AV.any) nilA ∧ True) ∧
 (Is (byts x.snd.fst) (byts x.snd.fst) ∧ x.snd.snd.fst = x.snd.snd.fst ∧ True) ∧
 (x.snd.snd.snd.fst = x.snd.snd.snd.fst ∧ Is (intss x.snd.snd.snd.snd) (intss x.snd.snd.snd.snd) ∧ True) ∧
 IsO
 (AObj.arr (x_2.snd.fst.length + (1 : Nat)) (1 : Nat)
 (joinC x_2.snd.fst.length (cI x_2.snd.fst)
 (rowsCell [[i64 (IntKind.i64.wrap ((↑x_2.fst : Int) + (1 : Int)))]])))
 (arI x'.snd.fst) ∧
 True))
 (((0 : Nat) = (0 : Nat) ∨ (0 : Nat) < x.snd.snd.snd.snd.length) ∧
 ((0 : Nat) + x.snd.snd.snd.snd.length) * (24 : Nat) ≤ (70368744177664 : Nat) ∧
 (0 : Nat) + x_2.snd.fst.length ≤ x_2.snd.fst.length ∧
 (0 : Nat) + ((0 : Nat) + x.snd.snd.snd.snd.length) ≤ (0 : Nat) + x.snd.snd.snd.snd.length ∧
 ((0 : Nat) + x.snd.snd.snd.snd.length + (1 : Nat)) * (24 : Nat) ≤ (70368744177664 : Nat) ∧
 Exists fun (x' : DX) =>
 (x'.fst ≤ (3 : Nat) ∧
 Rd (137438963472 : Int) x'.snd.fst x'.snd.snd.fst ∧
 x'.snd.snd.snd.fst ≤ (61 : Int) ∧
 x'.snd.snd.snd.snd.length ≤ (100 : Nat) + x'.fst ∧ ∀ (y : List Int), y ∈ x'.snd.snd.snd.snd → y.length ≤ (100 : Nat)) ∧
 (3 : Nat) - x'.fst < (3 : Nat) - x.fst ∧
 ((0 : Nat) = (0 : Nat) ∧
 (0 : Nat) = (0 : Nat) ∧ (0 : Nat) = (0 : Nat) ∧ IntKind.i64.wrap ((↑x.fst : Int) + (1 : Int)) = (↑x'.fst : Int) ∧ True) ∧
 ((0 : Int) = (0 : Int) ∧ Is (AV.lit (0 : Nat) (1 : Nat) fun (x x_3 : Nat) => AV.any) nilA ∧ True) ∧
 (Is (byts x.snd.fst) (byts x'.snd.fst) ∧ x.snd.snd.fst = x'.snd.snd.fst ∧ True) ∧
 (x.snd.snd.snd.fst = x'.snd.snd.snd.fst ∧
 ((0 : Nat) = (0 : Nat) ∧ (0 : Nat) + x.snd.snd.snd.snd.length + (1 : Nat) = x'.snd.snd.snd.snd.length) ∧ True) ∧
 IsO
 (AObj.arr ((0 : Nat) + x.snd.snd.snd.snd.length + (1 : Nat)) (1 : Nat)
 (joinC ((0 : Nat) + x.snd.snd.snd.snd.length) (cII x.snd.snd.snd.snd) (rowsCell [[ints x_2.snd.fst]])))
 (arII x'.snd.snd.snd.snd) ∧
 True))
 (((0 : Nat) = (0 : Nat) ∨ (0 : Nat) < x.snd.snd.snd.snd.length) ∧
 ((0 : Nat) + x.snd.snd.snd.snd.length) * (24 : Nat) ≤ (70368744177664 : Nat) ∧
 (0 : Nat) + x_2.snd.fst.length ≤ x_2.snd.fst.length ∧
 (0 : Nat) + ((0 : Nat) + x.snd.snd.snd.snd.length) ≤ (0 : Nat) + x.snd.snd.snd.snd.length ∧
 ((0 : Nat) + x.snd.snd.snd.snd.length + (1 : Nat)) * (24 : Nat) ≤ (70368744177664 : Nat) ∧
 Exists fun (x' : DX) =>
 (x'.fst ≤ (3 : Nat) ∧
 Rd (137438963472 : Int) x'.snd.fst x'.snd.snd.fst ∧
 x'.snd.snd.snd.fst ≤ (61 : Int) ∧
 x'.snd.snd.snd.snd.length ≤ (100 : Nat) + x'.fst ∧ ∀ (y : List Int), y ∈ x'.snd.snd.snd.snd → y.length ≤ (100 : Nat)) ∧
 (3 : Nat) - x'.fst < (3 : Nat) - x.fst ∧
 ((0 : Nat) = (0 : Nat) ∧
 (0 : Nat) = (0 : Nat) ∧ (0 : Nat) = (0 : Nat) ∧ IntKind.i64.wrap ((↑x.fst : Int) + (1 : Int)) = (↑x'.fst : Int) ∧ True) ∧
 ((0 : Int) = (0 : Int) ∧ Is (AV.lit (0 : Nat) (1 : Nat) fun (x x_3 : Nat) => AV.any) nilA ∧ True) ∧
 (Is (byts x.snd.fst) (byts x'.snd.fst) ∧ x.snd.snd.fst = x'.snd.snd.fst ∧ True) ∧
 (x.snd.snd.snd.fst = x'.snd.snd.snd.fst ∧
 ((0 : Nat) = (0 : Nat) ∧ (0 : Nat) + x.snd.snd.snd.snd.length + (1 : Nat) = x'.snd.snd.snd.snd.length) ∧ True) ∧
 IsO
 (AObj.arr ((0 : Nat) + x.snd.snd.snd.snd.length + (1 : Nat)) (1 : Nat)
 (joinC ((0 : Nat) + x.snd.snd.snd.snd.length) (cII x.snd.snd.snd.snd) (rowsCell [[ints x_2.snd.fst]])))
 (arII x'.snd.snd.snd.snd) ∧
 True))))
 ((0 : Nat) + x.snd.snd.snd.snd.length ≤ x.snd.snd.snd.snd.length ∧
 Exists fun (x_1 : Pl.Cnf × Int) =>
 ((x.snd.snd.snd.fst = x_1.fst.fst ∧ Is (intss x.snd.snd.snd.snd) (intss x_1.fst.snd) ∧ True) ∧ (130 : Int) = x_1.snd ∧ True) ∧
 SzC x_1.fst ∧
 Exists fun (x_2 : List (List Int)) =>
 (x_2.length ≤ (1000 : Nat) ∧ ∀ (x : List Int), x ∈ x_2 → x.length ≤ (1000 : Nat)) ∧
 ((Is (intss (Pl.huntRun x_1.fst x_1.snd).snd.fst) (intss x_2) ∧ True) ∧ True) ∧
 ∀ (y : Unit),
 True →
 condP (Decidable.decide ((↑x_2.length : Int) > (0 : Int)))
 (Exists fun (x_3 : List Int × Int × Int) =>
 Rd (1099511627776 : Int) x_3.fst x_3.snd.fst ∧
 (((0 : Nat) = (0 : Nat) ∧ (4 : Int) = x_3.snd.snd ∧ True) ∧
 (Is (byts x.snd.fst) (byts x_3.fst) ∧ x.snd.snd.fst = x_3.snd.fst ∧ True) ∧ True) ∧
 ∀ (y : Int),
 ((1 : Int) ≤ x_3.snd.snd → (0 : Int) ≤ y ∧ y < x_3.snd.snd) ∧ (x_3.snd.snd < (1 : Int) → y = (0 : Int)) →
 condP (y == (0 : Int))
 (Exists fun (x_4 : List Int × Int × Int) =>
 Rd (1099511627776 : Int) x_4.fst x_4.snd.fst ∧
 (((0 : Nat) = (0 : Nat) ∧ (↑x_2.length : Int) = x_4.snd.snd ∧ True) ∧
 (Is (byts x_3.fst) (byts x_4.fst) ∧ x_3.snd.fst + (1 : Int) = x_4.snd.fst ∧ True) ∧ True) ∧
 ∀ (y : Int),
 ((1 : Int) ≤ x_4.snd.snd → (0 : Int) ≤ y ∧ y < x_4.snd.snd) ∧ (x_4.snd.snd < (1 : Int) → y = (0 : Int)) →
 Exists fun (x_5 : List Int × Int × Int) =>
 Rd (1099511627776 : Int) x_5.fst x_5.snd.fst ∧
 (((0 : Nat) = (0 : Nat) ∧ (3 : Int) = x_5.snd.snd ∧ True) ∧
 (Is (byts x_4.fst) (byts x_5.fst) ∧ x_4.snd.fst + (1 : Int) = x_5.snd.fst ∧ True) ∧ True) ∧
 ∀ (y_1 : Int),
 ((1 : Int) ≤ x_5.snd.snd → (0 : Int) ≤ y_1 ∧ y_1 < x_5.snd.snd) ∧ (x_5.snd.snd < (1 : Int) → y_1 = (0 : Int)) →
 condP (y_1 == (0 : Int))
 ((((0 : Int) ≤ y ∧ y ≤ (↑x_2.length : Int)) ∧
 ((0 : Int) ≤ IntKind.i64.wrap (y + (1 : Int)) ∧ IntKind.i64.wrap (y + (1 : Int)) ≤ (↑x_2.length : Int)) ∧
 (IntKind.i64.wrap (y + (1 : Int))).toNat + (x_2.length - (IntKind.i64.wrap (y + (1 : Int))).toNat) ≤
 x_2.length ∧
 (0 : Nat) + y.toNat ≤ x_2.length ∧
 (y.toNat + (x_2.length - (IntKind.i64.wrap (y + (1 : Int))).toNat)) * (24 : Nat) ≤
 (70368744177664 : Nat) ∧
 Exists fun (y_2 : Pl.Cnf × List (List Int)) =>
 LgOk y_2 ∧
 (0 : Nat) + x.snd.snd.snd.snd.length ≤ x.snd.snd.snd.snd.length ∧
 (0 : Nat) + (y.toNat + (x_2.length - (IntKind.i64.wrap (y + (1 : Int))).toNat)) ≤
 y.toNat + (x_2.length - (IntKind.i64.wrap (y + (1 : Int))).toNat) ∧
 (((x.snd.snd.snd.fst = y_2.fst.fst ∧
 Is (intss x.snd.snd.snd.snd) (intss y_2.fst.snd) ∧ True) ∧
 Is
 (AV.sl (y.toNat + (x_2.length - (IntKind.i64.wrap (y + (1 : Int))).toNat))
 (1 : Nat) fun (i j : Nat) =>
 joinC y.toNat (cII x_2)
 (fun (i j : Nat) =>
 ints (x_2.getD (i + (IntKind.i64.wrap (y + (1 : Int))).toNat) []))
 i j)
 (intss y_2.snd) ∧
 True) ∧
 True) ∧
 True) ∧
 ((0 : Int) ≤ IntKind.i64.wrap (y + (1 : Int)) ∧ IntKind.i64.wrap (y + (1 : Int)) ≤ (↑x_2.length : Int)) ∧
 ((0 : Int) ≤ y ∧ y ≤ (↑x_2.length : Int)) ∧
 (IntKind.i64.wrap (y + (1 : Int))).toNat + (x_2.length - (IntKind.i64.wrap (y + (1 : Int))).toNat) ≤
 x_2.length ∧
 (0 : Nat) + y.toNat ≤ x_2.length ∧
 (y.toNat + (x_2.length - (IntKind.i64.wrap (y + (1 : Int))).toNat)) * (24 : Nat) ≤
 (70368744177664 : Nat) ∧
 Exists fun (y_2 : Pl.Cnf × List (List Int)) =>
 LgOk y_2 ∧
 (0 : Nat) + x.snd.snd.snd.snd.length ≤ x.snd.snd.snd.snd.length ∧
 (0 : Nat) + (y.toNat + (x_2.length - (IntKind.i64.wrap (y + (1 : Int))).toNat)) ≤
 y.toNat + (x_2.length - (IntKind.i64.wrap (y + (1 : Int))).toNat) ∧
 (((x.snd.snd.snd.fst = y_2.fst.fst ∧
 Is (intss x.snd.snd.snd.snd) (intss y_2.fst.snd) ∧ True) ∧
 Is
 (AV.sl (y.toNat + (x_2.length - (IntKind.i64.wrap (y + (1 : Int))).toNat))
 (1 : Nat) fun (i j : Nat) =>
 joinC y.toNat (cII x_2)
 (fun (i j : Nat) =>
 ints (x_2.getD (i + (IntKind.i64.wrap (y + (1 : Int))).toNat) []))
 i j)
 (intss y_2.snd) ∧
 True) ∧
 True) ∧
 True)
 (condP (y_1 == (1 : Int))
 (((0 : Int) ≤ y ∧ y < (↑x_2.length : Int)) ∧
 y.toNat < x_2.length ∧
 (x_2.getD y.toNat []).length = (x_2.getD y.toNat []).length ∧
 y.toNat < x_2.length ∧
 (0 : Nat) < (1 : Nat) ∧
 ((x_2.getD y.toNat []).length + (1 : Nat)) * (8 : Nat) ≤ (70368744177664 : Nat) ∧
 ((0 : Int) ≤ y ∧ y < (↑x_2.length : Int)) ∧
 y.toNat < x_2.length ∧
 Exists fun (y_2 : Pl.Cnf × List (List Int)) =>
 LgOk y_2 ∧
 (0 : Nat) + x.snd.snd.snd.snd.length ≤ x.snd.snd.snd.snd.length ∧
 (0 : Nat) + x_2.length ≤ x_2.length ∧
 (((x.snd.snd.snd.fst = y_2.fst.fst ∧
 Is (intss x.snd.snd.snd.snd) (intss y_2.fst.snd) ∧ True) ∧
 Is
 (AV.sl x_2.length (1 : Nat) fun (i j : Nat) =>
 storeC (cII x_2) y.toNat (0 : Nat)
 [AV.sl ((x_2.getD y.toNat []).length + (1 : Nat)) (1 : Nat)
 (joinC (x_2.getD y.toNat []).length (cI (x_2.getD y.toNat []))
 (rowsCell [[i64 (1 : Int)]]))]
 i j)
 (intss y_2.snd) ∧
 True) ∧
 True) ∧
 True)
 ((0 : Nat) + x_2.length ≤ x_2.length ∧
 (x_2.length + (1 : Nat)) * (24 : Nat) ≤ (70368744177664 : Nat) ∧
 Exists fun (y : Pl.Cnf × List (List Int)) =>
 LgOk y ∧
 (0 : Nat) + x.snd.snd.snd.snd.length ≤ x.snd.snd.snd.snd.length ∧
 (0 : Nat) + (x_2.length + (1 : Nat)) ≤ x_2.length + (1 : Nat) ∧
 (((x.snd.snd.snd.fst = y.fst.fst ∧ Is (intss x.snd.snd.snd.snd) (intss y.fst.snd) ∧ True) ∧
 Is
 (AV.sl (x_2.length + (1 : Nat)) (1 : Nat) fun (i j : Nat) =>
 joinC x_2.length (cII x_2)
 (rowsCell [[AV.lit (0 : Nat) (1 : Nat) (rowsCell [])]]) i j)
 (intss y.snd) ∧
 True) ∧
 True) ∧
 True)))
 (Exists fun (y : Pl.Cnf × List (List Int)) =>
 LgOk y ∧
 (0 : Nat) + x.snd.snd.snd.snd.length ≤ x.snd.snd.snd.snd.length ∧
 (0 : Nat) + x_2.length ≤ x_2.length ∧
 (((x.snd.snd.snd.fst = y.fst.fst ∧ Is (intss x.snd.snd.snd.snd) (intss y.fst.snd) ∧ True) ∧
 Is (intss x_2) (intss y.snd) ∧ True) ∧
 True) ∧
 True))
 (Exists fun (y : Pl.Cnf × List (List Int)) =>
 LgOk y ∧
 (0 : Nat) + x.snd.snd.snd.snd.length ≤ x.snd.snd.snd.snd.length ∧
 (0 : Nat) + x_2.length ≤ x_2.length ∧
 (((x.snd.snd.snd.fst = y.fst.fst ∧ Is (intss x.snd.snd.snd.snd) (intss y.fst.snd) ∧ True) ∧
 Is (intss x_2) (intss y.snd) ∧ True) ∧
 True) ∧
 True))) = Goal Try.prog [K_l16Open, K_l10CnfO, K_sHuntRunF, K_l11Copy, K_pick] (A_l11Draw) K_l11Draw.1 K_l11Draw.2 (b) := by kernel_rfl

theorem vc_DrawLogOk (b : List Int) : (Exists fun (x : List Int) =>
 (Sz x ∧ Byt x) ∧
 ((Is (byts b) (byts x) ∧ True) ∧ True) ∧
 ∀ (y : Pl.Cnf × List (List Int)),
 LgOk y →
 Exists fun (y_1 : Pl.Cnf × List (List Int)) =>
 LgOk y_1 ∧ (((y.fst.fst = y_1.fst.fst ∧ Is (intss y.fst.snd) (intss y_1.fst.snd) ∧ True) ∧ Is (intss y.snd) (intss y_1.snd) ∧ True) ∧ True) ∧ True) = Goal Try.prog [K_l11Draw] ([]) K_DrawLogOk.1 K_DrawLogOk.2 (b) := by kernel_rfl

theorem vc_DrawLogTrim (b : List Int) : (Exists fun (x : List Int) =>
 (Sz x ∧ Byt x) ∧
 ((Is (byts b) (byts x) ∧ True) ∧ True) ∧
 ∀ (y : Pl.Cnf × List (List Int)),
 LgOk y →
 Exists fun (y_1 : Pl.Cnf × List (List Int)) =>
 LgOk y_1 ∧ (((y.fst.fst = y_1.fst.fst ∧ Is (intss y.fst.snd) (intss y_1.fst.snd) ∧ True) ∧ Is (intss y.snd) (intss y_1.snd) ∧ True) ∧ True) ∧ True) = Goal Try.prog [K_l11Draw] ([]) K_DrawLogTrim.1 K_DrawLogTrim.2 (b) := by kernel_rfl

theorem vc_yLogOk (b1 b2 : List Int) : (condP (Decidable.decide ((↑b1.length : Int) > (1048576 : Int))) (Bool.true = Bool.true)
 (condP (Decidable.decide ((↑b2.length : Int) > (1048576 : Int))) (Bool.true = Bool.true)
 (Exists fun (x : List Int) =>
 (Sz x ∧ Byt x) ∧
 ((Is (byts b1) (byts x) ∧ True) ∧ True) ∧
 ∀ (y : Pl.Cnf × List (List Int)),
 LgOk y →
 Exists fun (x : List Int) =>
 (Sz x ∧ Byt x) ∧
 ((Is (byts b1) (byts x) ∧ True) ∧ True) ∧
 ∀ (y_1 : Pl.Cnf × List Bool),
 Sm y_1.fst ∧ y_1.snd.length ≤ (101 : Nat) →
 Exists fun (x : Pl.Cnf × List (List Int)) =>
 ((y.fst.fst = x.fst.fst ∧ Is (intss y.fst.snd) (intss x.fst.snd) ∧ True) ∧ Is (intss y.snd) (intss x.snd) ∧ True) ∧
 (SzC x.fst ∧ Sz x.snd ∧ ∀ (y : List Int), y ∈ x.snd → SzH y) ∧
 Exists fun (x_1 : Pl.Cnf × List (List Int)) =>
 ((y.fst.fst = x_1.fst.fst ∧ Is (intss y.fst.snd) (intss x_1.fst.snd) ∧ True) ∧ Is (intss y.snd) (intss x_1.snd) ∧ True) ∧
 (SzC x_1.fst ∧ Sz x_1.snd ∧ ∀ (y : List Int), y ∈ x_1.snd → SzH y) ∧
 condP (!Pl.logOk x.fst x.snd == Pl.logOk x_1.fst x_1.snd)
 (Exists fun (x_2 : Pl.Cnf × List (List Int)) =>
 ((y.fst.fst = x_2.fst.fst ∧ Is (intss y.fst.snd) (intss x_2.fst.snd) ∧ True) ∧ Is (intss y.snd) (intss x_2.snd) ∧ True) ∧
 (SzC x_2.fst ∧ Sz x_2.snd ∧ ∀ (y : List Int), y ∈ x_2.snd → SzH y) ∧ (Pl.logOk x.fst x.snd == Pl.logOk x_2.fst x_2.snd) = Bool.true)
 (condP (!Pl.logOk x.fst x.snd)
 (Exists fun (x_2 : Pl.Cnf × List (List Int)) =>
 ((y.fst.fst = x_2.fst.fst ∧ Is (intss y.fst.snd) (intss x_2.fst.snd) ∧ True) ∧ Is (intss y.snd) (intss x_2.snd) ∧ True) ∧
 (SzC x_2.fst ∧ Sz x_2.snd ∧ ∀ (y : List Int), y ∈ x_2.snd → SzH y) ∧ (Pl.logOk x.fst x.snd == Pl.logOk x_2.fst x_2.snd) = Bool.true)
 (Exists fun (x : Pl.Cnf × List Bool) =>
 ((y.fst.fst = x.fst.fst ∧ Is (intss y.fst.snd) (intss x.fst.snd) ∧ True) ∧ Is (bools y_1.snd) (bools x.snd) ∧ True) ∧
 (SzC x.fst ∧ Sz x.snd) ∧
 (Exists fun (x_2 : Pl.Cnf × List (List Int) × List Bool × List Int × Nat) =>
 (LgOk (x_2.fst, x_2.snd.fst) ∧
 Pl.logOk x_2.fst x_2.snd.fst = Bool.true ∧
 x_2.snd.snd.fst.length ≤ (101 : Nat) ∧
 Byt x_2.snd.snd.snd.fst ∧ x_2.snd.snd.snd.fst.length ≤ (1048576 : Nat) ∧ x_2.snd.snd.snd.snd ≤ x_2.snd.fst.length) ∧
 (Is (byts b2) (byts x_2.snd.snd.snd.fst) ∧
 (0 : Nat) = (0 : Nat) ∧
 Is (intss y.snd) (intss x_2.snd.fst) ∧
 Is (bools y_1.snd) (bools x_2.snd.snd.fst) ∧
 Pl.cnfIs x.fst x.snd = Pl.cnfIs x_2.fst x_2.snd.snd.fst ∧ (0 : Int) = (↑x_2.snd.snd.snd.snd : Int) ∧ True) ∧
 (y.fst.fst = x_2.fst.fst ∧ Is (intss y.fst.snd) (intss x_2.fst.snd) ∧ True) ∧ True) ∧
 ∀ (x : Pl.Cnf × List (List Int) × List Bool × List Int × Nat),
 LgOk (x.fst, x.snd.fst) ∧
 Pl.logOk x.fst x.snd.fst = Bool.true ∧
 x.snd.snd.fst.length ≤ (101 : Nat) ∧
 Byt x.snd.snd.snd.fst ∧ x.snd.snd.snd.fst.length ≤ (1048576 : Nat) ∧ x.snd.snd.snd.snd ≤ x.snd.fst.length →
 condP (Decidable.decide ((↑x.snd.snd.snd.snd : Int) < (↑x.snd.fst.length : Int)))
 (condP (Pl.cnfIs x.fst x.snd.snd.fst)
 (((0 : Int) ≤ (↑x.snd.snd.snd.snd : Int) ∧ (↑x.snd.snd.snd.snd : Int) < (↑x.snd.fst.length : Int)) ∧
 x.snd.snd.snd.snd < x.snd.fst.length ∧
 Exists fun (x_2 : List Int × List Bool) =>
 (Is (ints (x.snd.fst.getD x.snd.snd.snd.snd [])) (ints x_2.fst) ∧ Is (bools x.snd.snd.fst) (bools x_2.snd) ∧ True) ∧
 (Sz x_2.fst ∧ Sz x_2.snd) ∧
 condP (!Pl.clauseIs x_2.fst x_2.snd) (Bool.false = Bool.true)
 (Exists fun (x' : Pl.Cnf × List (List Int) × List Bool × List Int × Nat) =>
 (LgOk (x'.fst, x'.snd.fst) ∧
 Pl.logOk x'.fst x'.snd.fst = Bool.true ∧
 x'.snd.snd.fst.length ≤ (101 : Nat) ∧
 Byt x'.snd.snd.snd.fst ∧ x'.snd.snd.snd.fst.length ≤ (1048576 : Nat) ∧ x'.snd.snd.snd.snd ≤ x'.snd.fst.length) ∧
 x'.snd.fst.length - x'.snd.snd.snd.snd < x.snd.fst.length - x.snd.snd.snd.snd ∧
 (Is (byts x.snd.snd.snd.fst) (byts x'.snd.snd.snd.fst) ∧
 (0 : Nat) = (0 : Nat) ∧
 Is (intss x.snd.fst) (intss x'.snd.fst) ∧
 Is (bools x.snd.snd.fst) (bools x'.snd.snd.fst) ∧
 Pl.cnfIs x.fst x.snd.snd.fst = Pl.cnfIs x'.fst x'.snd.snd.fst ∧
 IntKind.i64.wrap ((↑x.snd.snd.snd.snd : Int) + (1 : Int)) = (↑x'.snd.snd.snd.snd : Int) ∧ True) ∧
 (x.fst.fst = x'.fst.fst ∧ Is (intss x.fst.snd) (intss x'.fst.snd) ∧ True) ∧ True))
 (Exists fun (x' : Pl.Cnf × List (List Int) × List Bool × List Int × Nat) =>
 (LgOk (x'.fst, x'.snd.fst) ∧
 Pl.logOk x'.fst x'.snd.fst = Bool.true ∧
 x'.snd.snd.fst.length ≤ (101 : Nat) ∧
 Byt x'.snd.snd.snd.fst ∧ x'.snd.snd.snd.fst.length ≤ (1048576 : Nat) ∧ x'.snd.snd.snd.snd ≤ x'.snd.fst.length) ∧
 x'.snd.fst.length - x'.snd.snd.snd.snd < x.snd.fst.length - x.snd.snd.snd.snd ∧
 (Is (byts x.snd.snd.snd.fst) (byts x'.snd.snd.snd.fst) ∧
 (0 : Nat) = (0 : Nat) ∧
 Is (intss x.snd.fst) (intss x'.snd.fst) ∧
 Is (bools x.snd.snd.fst) (bools x'.snd.snd.fst) ∧
 Pl.cnfIs x.fst x.snd.snd.fst = Pl.cnfIs x'.fst x'.snd.snd.fst ∧
 IntKind.i64.wrap ((↑x.snd.snd.snd.snd : Int) + (1 : Int)) = (↑x'.snd.snd.snd.snd : Int) ∧ True) ∧
 (x.fst.fst = x'.fst.fst ∧ Is (intss x.fst.snd) (intss x'.fst.snd) ∧ True) ∧ True))
 (IntKind.i64.wrap ((↑x.snd.fst.length : Int) + (1 : Int)) ≠ (0 : Int) ∧
 ((0 : Int) ≤ (↑x.snd.snd.snd.fst.length : Int).tmod (IntKind.i64.wrap ((↑x.snd.fst.length : Int) + (1 : Int))) ∧
 (↑x.snd.snd.snd.fst.length : Int).tmod (IntKind.i64.wrap ((↑x.snd.fst.length : Int) + (1 : Int))) ≤ (↑x.snd.fst.length : Int)) ∧
 Exists fun (x_2 : Pl.Cnf × List (List Int)) =>
 ((x.fst.fst = x_2.fst.fst ∧ Is (intss x.fst.snd) (intss x_2.fst.snd) ∧ True) ∧
 Is
 (AV.sl ((↑x.snd.snd.snd.fst.length : Int).tmod (IntKind.i64.wrap ((↑x.snd.fst.length : Int) + (1 : Int)))).toNat (1 : Nat)
 (cII x.snd.fst))
 (intss x_2.snd) ∧
 True) ∧
 (SzC x_2.fst ∧ Sz x_2.snd ∧ ∀ (y : List Int), y ∈ x_2.snd → SzH y) ∧ Pl.logOk x_2.fst x_2.snd = Bool.true)))))) = Goal Try.prog [K_DrawLogOk, K_DrawCnfIs, K_iLogOk, K_sLogOk, K_iCnfIs, K_iClauseIs] (A_yLogOk) K_yLogOk.1 K_yLogOk.2 ((b1, b2)) := by kernel_rfl

theorem vc_yLogNever (b : List Int) : (condP (Decidable.decide ((↑b.length : Int) > (1048576 : Int))) (Bool.true = Bool.true)
 (Exists fun (x : List Int) =>
 (Sz x ∧ Byt x) ∧
 ((Is (byts b) (byts x) ∧ True) ∧ True) ∧
 ∀ (y : Pl.Cnf × List (List Int)),
 LgOk y →
 Exists fun (x : List Int) =>
 (Sz x ∧ Byt x) ∧
 ((Is (byts b) (byts x) ∧ True) ∧ True) ∧
 ∀ (y_1 : Pl.Cnf × List Bool),
 Sm y_1.fst ∧ y_1.snd.length ≤ (101 : Nat) →
 Exists fun (x : Pl.Cnf × List (List Int)) =>
 ((y.fst.fst = x.fst.fst ∧ Is (intss y.fst.snd) (intss x.fst.snd) ∧ True) ∧ Is (intss y.snd) (intss x.snd) ∧ True) ∧
 (SzC x.fst ∧ Sz x.snd ∧ ∀ (y : List Int), y ∈ x.snd → SzH y) ∧
 Exists fun (x_1 : List (List Int)) =>
 (Is (intss y.snd) (intss x_1) ∧ True) ∧
 Sz x_1 ∧
 Exists fun (x_2 : Pl.Cnf × List (List Int)) =>
 ((y.fst.fst = x_2.fst.fst ∧ Is (intss y.fst.snd) (intss x_2.fst.snd) ∧ True) ∧ Is (intss y.snd) (intss x_2.snd) ∧ True) ∧
 (SzC x_2.fst ∧ Sz x_2.snd ∧ ∀ (y : List Int), y ∈ x_2.snd → SzH y) ∧
 condP (!Pl.logOk x.fst x.snd == Pl.logOk x_2.fst x_2.snd) (Bool.false = Bool.true)
 (Exists fun (x_3 : List (List Int)) =>
 (Is (intss y.snd) (intss x_3) ∧ True) ∧
 Sz x_3 ∧
 condP (!Pl.logEnds x_1 == Pl.logEnds x_3) (Bool.false = Bool.true)
 (condP (!Pl.logOk x.fst x.snd) (Bool.true = Bool.true)
 (condP (!Pl.logEnds x_1) (Bool.true = Bool.true)
 (Exists fun (x : Pl.Cnf × Int) =>
 ((y.fst.fst = x.fst.fst ∧ Is (intss y.fst.snd) (intss x.fst.snd) ∧ True) ∧ (130 : Int) = x.snd ∧ True) ∧
 SzC x.fst ∧
 Exists fun (x_4 : Pl.Cnf × List Bool) =>
 ((y.fst.fst = x_4.fst.fst ∧ Is (intss y.fst.snd) (intss x_4.fst.snd) ∧ True) ∧
 Is (bools y_1.snd) (bools x_4.snd) ∧ True) ∧
 (SzC x_4.fst ∧ Sz x_4.snd) ∧
 condP (!Pl.cnfIs x_4.fst x_4.snd)
 (condP (!(Pl.huntRun x.fst x.snd).snd.snd) (Bool.true = Bool.true)
 (((↑(Pl.huntRun x.fst x.snd).fst.length : Int) == (0 : Int)) = Bool.true))
 (Bool.false = Bool.true))))))) = Goal Try.prog [K_DrawLogOk, K_DrawCnfIs, K_iLogOk, K_sLogOk, K_iLogEnds, K_sLogEnds, K_iCnfIs, K_iHuntRun] ([]) K_yLogNever.1 K_yLogNever.2 (b) := by kernel_rfl

theorem vc_yLogMore (b : List Int) : (condP (Decidable.decide ((↑b.length : Int) > (1048576 : Int))) (Bool.true = Bool.true)
 (Exists fun (x : List Int) =>
 (Sz x ∧ Byt x) ∧
 ((Is (byts b) (byts x) ∧ True) ∧ True) ∧
 ∀ (y : Pl.Cnf × List (List Int)),
 LgOk y →
 Exists fun (x : Pl.Cnf × List (List Int)) =>
 ((y.fst.fst = x.fst.fst ∧ Is (intss y.fst.snd) (intss x.fst.snd) ∧ True) ∧ Is (intss y.snd) (intss x.snd) ∧ True) ∧
 (SzC x.fst ∧ Sz x.snd ∧ ∀ (y : List Int), y ∈ x.snd → SzH y) ∧
 Exists fun (x_1 : Pl.Cnf × List (List Int)) =>
 ((y.fst.fst = x_1.fst.fst ∧ Is (intss y.fst.snd) (intss x_1.fst.snd) ∧ True) ∧ Is (intss y.snd) (intss x_1.snd) ∧ True) ∧
 (SzC x_1.fst ∧ Sz x_1.snd ∧ ∀ (y : List Int), y ∈ x_1.snd → SzH y) ∧
 condP (!Pl.logOk x.fst x.snd == Pl.logOk x_1.fst x_1.snd)
 (Exists fun (x_2 : Pl.Cnf × List (List Int)) =>
 ((y.fst.fst = x_2.fst.fst ∧ Is (intss y.fst.snd) (intss x_2.fst.snd) ∧ True) ∧ Is (intss y.snd) (intss x_2.snd) ∧ True) ∧
 (SzC x_2.fst ∧ Sz x_2.snd ∧ ∀ (y : List Int), y ∈ x_2.snd → SzH y) ∧ (Pl.logOk x.fst x.snd == Pl.logOk x_2.fst x_2.snd) = Bool.true)
 (condP (!Pl.logOk x.fst x.snd)
 (Exists fun (x_2 : Pl.Cnf × List (List Int)) =>
 ((y.fst.fst = x_2.fst.fst ∧ Is (intss y.fst.snd) (intss x_2.fst.snd) ∧ True) ∧ Is (intss y.snd) (intss x_2.snd) ∧ True) ∧
 (SzC x_2.fst ∧ Sz x_2.snd ∧ ∀ (y : List Int), y ∈ x_2.snd → SzH y) ∧ (Pl.logOk x.fst x.snd == Pl.logOk x_2.fst x_2.snd) = Bool.true)
 (condP ((↑y.fst.snd.length : Int) == (0 : Int))
 (Exists fun (x_2 : Pl.Cnf × List (List Int)) =>
 ((y.fst.fst = x_2.fst.fst ∧ Is (intss y.fst.snd) (intss x_2.fst.snd) ∧ True) ∧ Is (intss y.snd) (intss x_2.snd) ∧ True) ∧
 (SzC x_2.fst ∧ Sz x_2.snd ∧ ∀ (y : List Int), y ∈ x_2.snd → SzH y) ∧ (Pl.logOk x.fst x.snd == Pl.logOk x_2.fst x_2.snd) = Bool.true)
 (((0 : Int) ≤ (0 : Int) ∧ (0 : Int) < (↑y.fst.snd.length : Int)) ∧
 (0 : Nat) < y.fst.snd.length ∧
 (((0 : Nat) = (0 : Nat) ∨ (0 : Nat) < y.fst.snd.length) ∧
 ((0 : Nat) + y.fst.snd.length) * (24 : Nat) ≤ (70368744177664 : Nat) ∧
 ((0 : Nat) + ((0 : Nat) + y.fst.snd.length) ≤ (0 : Nat) + y.fst.snd.length ∧
 ((0 : Nat) + y.fst.snd.length + (1 : Nat)) * (24 : Nat) ≤ (70368744177664 : Nat) ∧
 (0 : Nat) + ((0 : Nat) + y.fst.snd.length + (1 : Nat)) ≤ (0 : Nat) + y.fst.snd.length + (1 : Nat) ∧
 Exists fun (x : Pl.Cnf × List (List Int)) =>
 ((y.fst.fst = x.fst.fst ∧
 Is
 (AV.sl ((0 : Nat) + y.fst.snd.length + (1 : Nat)) (1 : Nat) fun (i j : Nat) =>
 joinC ((0 : Nat) + y.fst.snd.length) (cII y.fst.snd) (rowsCell [[ints (y.fst.snd.getD (0 : Nat) [])]]) i j)
 (intss x.fst.snd) ∧
 True) ∧
 Is (intss y.snd) (intss x.snd) ∧ True) ∧
 (SzC x.fst ∧ Sz x.snd ∧ ∀ (y : List Int), y ∈ x.snd → SzH y) ∧ Pl.logOk x.fst x.snd = Bool.true) ∧
 (0 : Nat) + ((0 : Nat) + y.fst.snd.length) ≤ (0 : Nat) + y.fst.snd.length ∧
 ((0 : Nat) + y.fst.snd.length + (1 : Nat)) * (24 : Nat) ≤ (70368744177664 : Nat) ∧
 (0 : Nat) + ((0 : Nat) + y.fst.snd.length + (1 : Nat)) ≤ (0 : Nat) + y.fst.snd.length + (1 : Nat) ∧
 Exists fun (x : Pl.Cnf × List (List Int)) =>
 ((y.fst.fst = x.fst.fst ∧
 Is
 (AV.sl ((0 : Nat) + y.fst.snd.length + (1 : Nat)) (1 : Nat) fun (i j : Nat) =>
 joinC ((0 : Nat) + y.fst.snd.length) (cII y.fst.snd) (rowsCell [[ints (y.fst.snd.getD (0 : Nat) [])]]) i j)
 (intss x.fst.snd) ∧
 True) ∧
 Is (intss y.snd) (intss x.snd) ∧ True) ∧
 (SzC x.fst ∧ Sz x.snd ∧ ∀ (y : List Int), y ∈ x.snd → SzH y) ∧ Pl.logOk x.fst x.snd = Bool.true) ∧
 ((0 : Nat) = (0 : Nat) ∨ (0 : Nat) < y.fst.snd.length) ∧
 ((0 : Nat) + y.fst.snd.length) * (24 : Nat) ≤ (70368744177664 : Nat) ∧
 (0 : Nat) + ((0 : Nat) + y.fst.snd.length) ≤ (0 : Nat) + y.fst.snd.length ∧
 ((0 : Nat) + y.fst.snd.length + (1 : Nat)) * (24 : Nat) ≤ (70368744177664 : Nat) ∧
 (0 : Nat) + ((0 : Nat) + y.fst.snd.length + (1 : Nat)) ≤ (0 : Nat) + y.fst.snd.length + (1 : Nat) ∧
 Exists fun (x : Pl.Cnf × List (List Int)) =>
 ((y.fst.fst = x.fst.fst ∧
 Is
 (AV.sl ((0 : Nat) + y.fst.snd.length + (1 : Nat)) (1 : Nat) fun (i j : Nat) =>
 joinC ((0 : Nat) + y.fst.snd.length) (cII y.fst.snd) (rowsCell [[ints (y.fst.snd.getD (0 : Nat) [])]]) i j)
 (intss x.fst.snd) ∧
 True) ∧
 Is (intss y.snd) (intss x.snd) ∧ True) ∧
 (SzC x.fst ∧ Sz x.snd ∧ ∀ (y : List Int), y ∈ x.snd → SzH y) ∧ Pl.logOk x.fst x.snd = Bool.true))))) = Goal Try.prog [K_DrawLogOk, K_iLogOk, K_sLogOk] ([]) K_yLogMore.1 K_yLogMore.2 (b) := by kernel_rfl

end Cg
