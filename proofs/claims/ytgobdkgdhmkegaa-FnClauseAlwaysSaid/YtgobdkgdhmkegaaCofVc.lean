/-
  What is left to show of each function's code, printed by a program: Cof. No condition.
-/
import Derived.Test.YtgobdkgdhmkegaaCofDefs
import Derived.Test.YtgobdkgdhmkegaaProg
set_option maxRecDepth 100000
set_option linter.unusedVariables false
namespace Cg
open Go Go.Proofs
theorem vc_l10ValsN (b : List Int) (p m : Int) : ((Exists fun (x : Nat × List Bool × Int) =>
 (x.snd.fst.length = x.fst ∧ ((↑x.fst : Int) ≤ m ∨ x.fst = (0 : Nat)) ∧ p ≤ x.snd.snd ∧ x.snd.snd ≤ p + (↑x.fst : Int)) ∧
 ((0 : Nat) = (0 : Nat) ∧ m = m ∧ ((0 : Nat) = (0 : Nat) ∧ (0 : Nat) = (0 : Nat) ∧ x.snd.fst.length = (0 : Nat)) ∧ (0 : Int) = (↑x.fst : Int) ∧ True) ∧
 (Is (byts b) (byts b) ∧ p = x.snd.snd ∧ True) ∧ x.snd.fst.length = (0 : Nat) ∧ True) ∧
 ∀ (x : Nat × List Bool × Int),
 x.snd.fst.length = x.fst ∧ ((↑x.fst : Int) ≤ m ∨ x.fst = (0 : Nat)) ∧ p ≤ x.snd.snd ∧ x.snd.snd ≤ p + (↑x.fst : Int) →
 condP (Decidable.decide ((↑x.fst : Int) < m))
 (Exists fun (x_1 : List Int × Int × Int) =>
 Rd (1099511627776 : Int) x_1.fst x_1.snd.fst ∧
 (((0 : Nat) = (0 : Nat) ∧ (2 : Int) = x_1.snd.snd ∧ True) ∧ (Is (byts b) (byts x_1.fst) ∧ x.snd.snd = x_1.snd.fst ∧ True) ∧ True) ∧
 ∀ (y : Int),
 ((1 : Int) ≤ x_1.snd.snd → (0 : Int) ≤ y ∧ y < x_1.snd.snd) ∧ (x_1.snd.snd < (1 : Int) → y = (0 : Int)) →
 (0 : Nat) + x.snd.fst.length ≤ x.snd.fst.length ∧
 (x.snd.fst.length + (1 : Nat)) * (1 : Nat) ≤ (70368744177664 : Nat) ∧
 Exists fun (x' : Nat × List Bool × Int) =>
 (x'.snd.fst.length = x'.fst ∧ ((↑x'.fst : Int) ≤ m ∨ x'.fst = (0 : Nat)) ∧ p ≤ x'.snd.snd ∧ x'.snd.snd ≤ p + (↑x'.fst : Int)) ∧
 (m - (↑x'.fst : Int)).toNat < (m - (↑x.fst : Int)).toNat ∧
 ((0 : Nat) = (0 : Nat) ∧
 m = m ∧ ((0 : Nat) = (0 : Nat) ∧ x.snd.fst.length + (1 : Nat) = x'.snd.fst.length) ∧ IntKind.i64.wrap ((↑x.fst : Int) + (1 : Int)) = (↑x'.fst : Int) ∧ True) ∧
 (Is (byts x_1.fst) (byts b) ∧ x_1.snd.fst + (1 : Int) = x'.snd.snd ∧ True) ∧
 IsO (AObj.arr (x.snd.fst.length + (1 : Nat)) (1 : Nat) (joinC x.snd.fst.length (cB x.snd.fst) (rowsCell [[bl (y == (0 : Int))]])))
 (arB x'.snd.fst) ∧
 True)
 (Exists fun (x_1 : List Int × Int × Int) =>
 Rd (1099511627776 : Int) x_1.fst x_1.snd.fst ∧
 (((0 : Nat) = (0 : Nat) ∧ (30 : Int) = x_1.snd.snd ∧ True) ∧ (Is (byts b) (byts x_1.fst) ∧ x.snd.snd = x_1.snd.fst ∧ True) ∧ True) ∧
 ∀ (y : Int),
 ((1 : Int) ≤ x_1.snd.snd → (0 : Int) ≤ y ∧ y < x_1.snd.snd) ∧ (x_1.snd.snd < (1 : Int) → y = (0 : Int)) →
 condP (y == (0 : Int))
 ((0 : Nat) + x.snd.fst.length ≤ x.snd.fst.length ∧
 (x.snd.fst.length + (1 : Nat)) * (1 : Nat) ≤ (70368744177664 : Nat) ∧
 Exists fun (y : List Bool × Int) =>
 (((↑y.fst.length : Int) ≤ m + (1 : Int) ∨ y.fst.length ≤ (1 : Nat)) ∧ p ≤ y.snd ∧ y.snd ≤ p + (300 : Int)) ∧
 (0 : Nat) + (x.snd.fst.length + (1 : Nat)) ≤ x.snd.fst.length + (1 : Nat) ∧
 (Is (AV.sl (x.snd.fst.length + (1 : Nat)) (1 : Nat) fun (i j : Nat) => joinC x.snd.fst.length (cB x.snd.fst) (rowsCell [[bl Bool.true]]) i j)
 (bools y.fst) ∧
 True) ∧
 (Is (byts x_1.fst) (byts b) ∧ x_1.snd.fst + (1 : Int) = y.snd ∧ True) ∧ True)
 (Exists fun (y : List Bool × Int) =>
 (((↑y.fst.length : Int) ≤ m + (1 : Int) ∨ y.fst.length ≤ (1 : Nat)) ∧ p ≤ y.snd ∧ y.snd ≤ p + (300 : Int)) ∧
 (0 : Nat) + x.snd.fst.length ≤ x.snd.fst.length ∧
 (Is (bools x.snd.fst) (bools y.fst) ∧ True) ∧ (Is (byts x_1.fst) (byts b) ∧ x_1.snd.fst + (1 : Int) = y.snd ∧ True) ∧ True))) = Goal Try.prog [K_pick] (A_l10Vals b p m) K_l10ValsN.1 K_l10ValsN.2 ((b, p, m)) := by kernel_rfl

theorem vc_DrawClauseOf (b : List Int) : (Exists fun (x : List Int) =>
 (Sz x ∧ Byt x) ∧
 ((Is (byts b) (byts x) ∧ True) ∧ True) ∧
 ∀ (y : List Int),
 Rd (0 : Int) y (0 : Int) →
 Exists fun (x : List Int × Int × Int) =>
 Rd (1099511627776 : Int) x.fst x.snd.fst ∧
 (((0 : Nat) = (0 : Nat) ∧ (6 : Int) = x.snd.snd ∧ True) ∧ (Is (byts y) (byts x.fst) ∧ (0 : Int) = x.snd.fst ∧ True) ∧ True) ∧
 ∀ (y : Int),
 ((1 : Int) ≤ x.snd.snd → (0 : Int) ≤ y ∧ y < x.snd.snd) ∧ (x.snd.snd < (1 : Int) → y = (0 : Int)) →
 Exists fun (x_1 : List Int × Int × Int × Int) =>
 (Rd (274877906944 : Int) x_1.fst x_1.snd.fst ∧ x_1.snd.snd.snd ≤ (100 : Int)) ∧
 (((0 : Nat) = (0 : Nat) ∧ (5 : Int) = x_1.snd.snd.fst ∧ y = x_1.snd.snd.snd ∧ True) ∧
 (Is (byts x.fst) (byts x_1.fst) ∧ x.snd.fst + (1 : Int) = x_1.snd.fst ∧ True) ∧ True) ∧
 ∀ (y : List Int × Int),
 y.fst.length ≤ (100 : Nat) ∧ x_1.snd.fst ≤ y.snd ∧ y.snd ≤ x_1.snd.fst + (300 : Int) →
 Exists fun (y_1 : List Int) => y_1.length ≤ (100 : Nat) ∧ (Is (ints y.fst) (ints y_1) ∧ True) ∧ True) = Goal Try.prog [K_l16Open, K_pick, K_l10Marks] ([]) K_DrawClauseOf.1 K_DrawClauseOf.2 (b) := by kernel_rfl

theorem vc_DrawClauseIs (b : List Int) : (Exists fun (x : List Int) =>
 (Sz x ∧ Byt x) ∧
 ((Is (byts b) (byts x) ∧ True) ∧ True) ∧
 ∀ (y : List Int),
 Rd (0 : Int) y (0 : Int) →
 Exists fun (x : List Int × Int × Int) =>
 Rd (1099511627776 : Int) x.fst x.snd.fst ∧
 (((0 : Nat) = (0 : Nat) ∧ (4 : Int) = x.snd.snd ∧ True) ∧ (Is (byts y) (byts x.fst) ∧ (0 : Int) = x.snd.fst ∧ True) ∧ True) ∧
 ∀ (y : Int),
 ((1 : Int) ≤ x.snd.snd → (0 : Int) ≤ y ∧ y < x.snd.snd) ∧ (x.snd.snd < (1 : Int) → y = (0 : Int)) →
 Exists fun (x_1 : List Int × Int × Int × Int) =>
 (Rd (274877906944 : Int) x_1.fst x_1.snd.fst ∧ x_1.snd.snd.snd ≤ (100 : Int)) ∧
 (((0 : Nat) = (0 : Nat) ∧ (4 : Int) = x_1.snd.snd.fst ∧ y = x_1.snd.snd.snd ∧ True) ∧
 (Is (byts x.fst) (byts x_1.fst) ∧ x.snd.fst + (1 : Int) = x_1.snd.fst ∧ True) ∧ True) ∧
 ∀ (y : List Int × Int),
 y.fst.length ≤ (100 : Nat) ∧ x_1.snd.fst ≤ y.snd ∧ y.snd ≤ x_1.snd.fst + (300 : Int) →
 Exists fun (x : List Int × Int × Int) =>
 Rd (1099511627776 : Int) x.fst x.snd.fst ∧
 (((0 : Nat) = (0 : Nat) ∧ (6 : Int) = x.snd.snd ∧ True) ∧ (Is (byts x_1.fst) (byts x.fst) ∧ y.snd = x.snd.fst ∧ True) ∧ True) ∧
 ∀ (y_1 : Int),
 ((1 : Int) ≤ x.snd.snd → (0 : Int) ≤ y_1 ∧ y_1 < x.snd.snd) ∧ (x.snd.snd < (1 : Int) → y_1 = (0 : Int)) →
 Exists fun (x_2 : List Int × Int × Int) =>
 (Rd (274877906944 : Int) x_2.fst x_2.snd.fst ∧ x_2.snd.snd ≤ (100 : Int)) ∧
 (((0 : Nat) = (0 : Nat) ∧ y_1 = x_2.snd.snd ∧ True) ∧ (Is (byts x.fst) (byts x_2.fst) ∧ x.snd.fst + (1 : Int) = x_2.snd.fst ∧ True) ∧ True) ∧
 ∀ (y_2 : List Bool × Int),
 ((↑y_2.fst.length : Int) ≤ x_2.snd.snd + (1 : Int) ∨ y_2.fst.length ≤ (1 : Nat)) ∧ x_2.snd.fst ≤ y_2.snd ∧ y_2.snd ≤ x_2.snd.fst + (300 : Int) →
 Exists fun (y_3 : List Int × List Bool) =>
 (y_3.fst.length ≤ (100 : Nat) ∧ y_3.snd.length ≤ (60 : Nat)) ∧
 ((Is (ints y.fst) (ints y_3.fst) ∧ Is (bools y_2.fst) (bools y_3.snd) ∧ True) ∧ True) ∧ True) = Goal Try.prog [K_l16Open, K_pick, K_l10Marks, K_l10ValsN] ([]) K_DrawClauseIs.1 K_DrawClauseIs.2 (b) := by kernel_rfl

theorem vc_yClauseOf (b : List Int) : (condP (Decidable.decide ((↑b.length : Int) > (1048576 : Int))) (Bool.true = Bool.true)
 (Exists fun (x : List Int) =>
 (Sz x ∧ Byt x) ∧
 ((Is (byts b) (byts x) ∧ True) ∧ True) ∧
 ∀ (y : List Int),
 y.length ≤ (100 : Nat) →
 Exists fun (x : List Int) =>
 (Sz x ∧ Byt x) ∧
 ((Is (byts b) (byts x) ∧ True) ∧ True) ∧
 ∀ (y_1 : List Int × List Bool),
 y_1.fst.length ≤ (100 : Nat) ∧ y_1.snd.length ≤ (60 : Nat) →
 Exists fun (x : List Int) =>
 (Is (ints y) (ints x) ∧ True) ∧
 x.length ≤ (1073741824 : Nat) ∧
 Exists fun (x_1 : List Int) =>
 (Is (ints y) (ints x_1) ∧ True) ∧
 x_1.length ≤ (1073741824 : Nat) ∧
 condP (!(Pl.clauseOf x).snd == (Pl.clauseOf x_1).snd) (Bool.false = Bool.true)
 (Exists fun (x_2 : List Int × List Int) =>
 (Is (ints (Pl.clauseOf x).fst) (ints x_2.fst) ∧ Is (ints (Pl.clauseOf x_1).fst) (ints x_2.snd) ∧ True) ∧
 Sz x_2.fst ∧
 condP (!Decidable.decide (x_2.fst = x_2.snd)) (Bool.false = Bool.true)
 (Exists fun (x_3 : List Int × List Bool) =>
 (Is (ints y) (ints x_3.fst) ∧ Is (bools y_1.snd) (bools x_3.snd) ∧ True) ∧
 (Sz x_3.fst ∧ Sz x_3.snd) ∧
 Exists fun (x_4 : List Int × List Bool) =>
 (Is (ints y) (ints x_4.fst) ∧ Is (bools y_1.snd) (bools x_4.snd) ∧ True) ∧
 (Sz x_4.fst ∧ Sz x_4.snd) ∧
 condP (!Pl.clauseIs x_3.fst x_3.snd == Pl.clauseIs x_4.fst x_4.snd) (Bool.false = Bool.true)
 (condP (!(Pl.clauseOf x).snd) (((↑(Pl.clauseOf x).fst.length : Int) == (0 : Int)) = Bool.true)
 (Exists fun (x_5 : List Int) =>
 (Is (ints (Pl.clauseOf x).fst) (ints x_5) ∧ True) ∧
 x_5.length ≤ (1073741824 : Nat) ∧
 Exists fun (x_6 : List Int × Int) =>
 (Is (ints (Pl.clauseOf x).fst) (ints x_6.fst) ∧ (60 : Int) = x_6.snd ∧ True) ∧
 Sz x_6.fst ∧
 condP (Pl.implClause x_6.fst x_6.snd)
 (Exists fun (x_7 : List Int × List Bool) =>
 (Is (ints (Pl.clauseOf x).fst) (ints x_7.fst) ∧ Is (bools y_1.snd) (bools x_7.snd) ∧ True) ∧
 (Sz x_7.fst ∧ Sz x_7.snd) ∧
 Exists fun (x_8 : List Int × List Bool) =>
 (Is (ints y) (ints x_8.fst) ∧ Is (bools y_1.snd) (bools x_8.snd) ∧ True) ∧
 (Sz x_8.fst ∧ Sz x_8.snd) ∧
 condP (Pl.clauseIs x_7.fst x_7.snd == Pl.clauseIs x_8.fst x_8.snd)
 (condP (Pl.clauseOf x_5).snd
 (Exists fun (x_9 : List Int × List Int) =>
 (Is (ints (Pl.clauseOf x_5).fst) (ints x_9.fst) ∧
 Is (ints (Pl.clauseOf x).fst) (ints x_9.snd) ∧ True) ∧
 Sz x_9.fst ∧ Decidable.decide (x_9.fst = x_9.snd) = Bool.true)
 (Bool.false = Bool.true))
 (Bool.false = Bool.true))
 (Bool.false = Bool.true))))))) = Goal Try.prog [K_DrawClauseOf, K_DrawClauseIs, K_iClauseOf, K_sClauseOf, K_wpNums, K_iClauseIs, K_sClauseIs, K_iClauseOk] ([]) K_yClauseOf.1 K_yClauseOf.2 (b) := by kernel_rfl

theorem vc_yClauseAlways (b : List Int) : (condP (Decidable.decide ((↑b.length : Int) > (1048576 : Int))) (Bool.true = Bool.true)
 (Exists fun (x : List Int) =>
 (Sz x ∧ Byt x) ∧
 ((Is (byts b) (byts x) ∧ True) ∧ True) ∧
 ∀ (y : List Int),
 y.length ≤ (100 : Nat) →
 Exists fun (x : List Int) =>
 (Is (ints y) (ints x) ∧ True) ∧
 x.length ≤ (1073741824 : Nat) ∧
 Exists fun (x_1 : List Int) =>
 (Is (ints y) (ints x_1) ∧ True) ∧
 x_1.length ≤ (1073741824 : Nat) ∧
 condP (!(Pl.clauseOf x).snd == (Pl.clauseOf x_1).snd) (((Pl.clauseOf x).snd == (Pl.clauseOf x_1).snd) = Bool.true)
 (condP (Pl.clauseOf x).snd (((Pl.clauseOf x).snd == (Pl.clauseOf x_1).snd) = Bool.true)
 (Exists fun (x : List Int) =>
 (Sz x ∧ Byt x) ∧
 ((Is (byts b) (byts x) ∧ True) ∧ True) ∧
 ∀ (y_1 : List Int × List Bool),
 y_1.fst.length ≤ (100 : Nat) ∧ y_1.snd.length ≤ (60 : Nat) →
 (Exists fun (x : List Int × List Bool × Nat) =>
 (x.fst.length ≤ (100 : Nat) ∧
 x.snd.fst.length ≤ (60 : Nat) ∧
 (Pl.clauseOf x.fst).snd = Bool.false ∧
 x.snd.snd ≤ x.fst.length ∧
 ∀ (y : Int), y ∈ List.take x.snd.snd x.fst → y ≠ (0 : Int) ∧ -(↑x.snd.fst.length : Int) ≤ y ∧ y ≤ (↑x.snd.fst.length : Int)) ∧
 (Is (ints y) (ints x.fst) ∧ Is (bools y_1.snd) (bools x.snd.fst) ∧ (0 : Int) = (↑x.snd.snd : Int) ∧ True) ∧ True) ∧
 ∀ (x : List Int × List Bool × Nat),
 (x.fst.length ≤ (100 : Nat) ∧
 x.snd.fst.length ≤ (60 : Nat) ∧
 (Pl.clauseOf x.fst).snd = Bool.false ∧
 x.snd.snd ≤ x.fst.length ∧
 ∀ (y : Int), y ∈ List.take x.snd.snd x.fst → y ≠ (0 : Int) ∧ -(↑x.snd.fst.length : Int) ≤ y ∧ y ≤ (↑x.snd.fst.length : Int)) →
 condP (Decidable.decide ((↑x.snd.snd : Int) < (↑x.fst.length : Int)))
 (((0 : Int) ≤ (↑x.snd.snd : Int) ∧ (↑x.snd.snd : Int) < (↑x.fst.length : Int)) ∧
 x.snd.snd < x.fst.length ∧
 condP (x.fst.getD x.snd.snd (0 : Int) == (0 : Int)) (Bool.true = Bool.true)
 (((0 : Int) ≤ (↑x.snd.snd : Int) ∧ (↑x.snd.snd : Int) < (↑x.fst.length : Int)) ∧
 x.snd.snd < x.fst.length ∧
 condP (Decidable.decide (x.fst.getD x.snd.snd (0 : Int) > (↑x.snd.fst.length : Int))) (Bool.true = Bool.true)
 (((0 : Int) ≤ (↑x.snd.snd : Int) ∧ (↑x.snd.snd : Int) < (↑x.fst.length : Int)) ∧
 x.snd.snd < x.fst.length ∧
 condP (Decidable.decide (x.fst.getD x.snd.snd (0 : Int) < IntKind.i64.wrap ((0 : Int) - (↑x.snd.fst.length : Int))))
 (Bool.true = Bool.true)
 (Exists fun (x' : List Int × List Bool × Nat) =>
 (x'.fst.length ≤ (100 : Nat) ∧
 x'.snd.fst.length ≤ (60 : Nat) ∧
 (Pl.clauseOf x'.fst).snd = Bool.false ∧
 x'.snd.snd ≤ x'.fst.length ∧
 ∀ (y : Int),
 y ∈ List.take x'.snd.snd x'.fst → y ≠ (0 : Int) ∧ -(↑x'.snd.fst.length : Int) ≤ y ∧ y ≤ (↑x'.snd.fst.length : Int)) ∧
 x'.fst.length - x'.snd.snd < x.fst.length - x.snd.snd ∧
 (Is (ints x.fst) (ints x'.fst) ∧
 Is (bools x.snd.fst) (bools x'.snd.fst) ∧
 IntKind.i64.wrap ((↑x.snd.snd : Int) + (1 : Int)) = (↑x'.snd.snd : Int) ∧ True) ∧
 True))))
 (Exists fun (x_2 : List Int × List Bool) =>
 (Is (ints x.fst) (ints x_2.fst) ∧ Is (bools x.snd.fst) (bools x_2.snd) ∧ True) ∧
 (Sz x_2.fst ∧ Sz x_2.snd) ∧ Pl.clauseIs x_2.fst x_2.snd = Bool.true))))) = Goal Try.prog [K_DrawClauseOf, K_DrawClauseIs, K_iClauseOf, K_sClauseOf, K_iClauseIs] (A_yClauseAlways) K_yClauseAlways.1 K_yClauseAlways.2 (b) := by kernel_rfl

end Cg
