/-
  What the law leans on, part 2. No condition.
-/
import Derived.Test.YtmahkigckeaakaaGreatProg
import Derived.Test.YtmahkigckeaakaaGreatFnModelTurnB1
/-
  What is left to show of each function's code, printed by a program: Mad. No condition.
-/
set_option maxRecDepth 100000
set_option linter.unusedVariables false
namespace Cg
open Go Go.Proofs
theorem vc_l6Put (a : Pl.Atm) (v : ByteArray) (ks : List Pl.Tm) (n : Int) : ((∃ x : Nat × Bool × List Pl.Tm × List Int,
 (x.1 ≤ a.2.2.2.1.length ∧ Pl.PutB a.2.2.2.1 (Pl.Tree.mk v ks) (x.1 + if x.2.1 = true then (1 : Nat) else (0 : Nat)) x.2.2.1 x.2.2.2) ∧ (n = n ∧ (0 : Nat) = (0 : Nat) ∧ (0 : Nat) = (0 : Nat) ∧ (0 : Nat) = (0 : Nat) ∧ (0 : Nat) = (0 : Nat) ∧ false = x.2.1 ∧ (0 : Int) = (↑x.1 : Int) ∧ True) ∧ (a.1 = a.1 ∧ a.2.1.1 = a.2.1.1 ∧ Is (terms a.2.1.2) (terms a.2.1.2) ∧ a.2.2.1.1 = a.2.2.1.1 ∧ Is (terms a.2.2.1.2) (terms a.2.2.1.2) ∧ Is (terms a.2.2.2.1) (terms a.2.2.2.1) ∧ Is (ints a.2.2.2.2.1) (ints a.2.2.2.2.1) ∧ a.2.2.2.2.2.1 = a.2.2.2.2.2.1 ∧ a.2.2.2.2.2.2 = a.2.2.2.2.2.2 ∧ True) ∧ (v = v ∧ Is (terms ks) (terms ks) ∧ True) ∧ ((0 : Int) = (0 : Int) ∧ ByteArray.mk #[] = ByteArray.empty ∧ Is (AV.lit (0 : Nat) (1 : Nat) fun (x x_1 : Nat) => AV.any) nilA ∧ ByteArray.mk #[] = ByteArray.empty ∧ Is (AV.lit (0 : Nat) (1 : Nat) fun (x x_1 : Nat) => AV.any) nilA ∧ Is (AV.lit (0 : Nat) (1 : Nat) fun (x x_1 : Nat) => AV.any) nilA ∧ Is (AV.lit (0 : Nat) (1 : Nat) fun (x x_1 : Nat) => AV.any) nilA ∧ (0 : Int) = (0 : Int) ∧ false = false ∧ True) ∧ (a.1 = a.1 ∧ ByteArray.mk #[] = ByteArray.empty ∧ Is (AV.lit (0 : Nat) (1 : Nat) fun (x x_1 : Nat) => AV.any) nilA ∧ ByteArray.mk #[] = ByteArray.empty ∧ Is (AV.lit (0 : Nat) (1 : Nat) fun (x x_1 : Nat) => AV.any) nilA ∧ ((0 : Nat) = (0 : Nat) ∧ (0 : Nat) = (0 : Nat) ∧ x.2.2.1.length = (0 : Nat)) ∧ ((0 : Nat) = (0 : Nat) ∧ (0 : Nat) = (0 : Nat) ∧ x.2.2.2.length = (0 : Nat)) ∧ a.2.2.2.2.2.1 = a.2.2.2.2.2.1 ∧ a.2.2.2.2.2.2 = a.2.2.2.2.2.2 ∧ True) ∧ x.2.2.1.length = (0 : Nat) ∧ x.2.2.2.length = (0 : Nat) ∧ True) ∧ ∀ (x : Nat × Bool × List Pl.Tm × List Int),
 x.1 ≤ a.2.2.2.1.length ∧ Pl.PutB a.2.2.2.1 (Pl.Tree.mk v ks) (x.1 + if x.2.1 = true then (1 : Nat) else (0 : Nat)) x.2.2.1 x.2.2.2 →
 condP (decide ((↑x.1 : Int) < (↑a.2.2.2.1.length : Int)))
 (((0 : Int) ≤ (↑x.1 : Int) ∧ (↑x.1 : Int) < (↑a.2.2.2.1.length : Int)) ∧ x.1 < a.2.2.2.1.length ∧ ∃ x_1 : Pl.TP,
 ((Pl.Tree.val (a.2.2.2.1.getD x.1 Pl.dT) = x_1.1 ∧ Is (kidsT (a.2.2.2.1.getD x.1 Pl.dT)) (terms x_1.2) ∧ True) ∧ True) ∧ SmT (Pl.Tree.mk x_1.1 x_1.2) ∧ condP (!x.2.1)
 (∃ x_2 : Pl.TP,
 ((v = x_2.1 ∧ Is (terms ks) (terms x_2.2) ∧ True) ∧ True) ∧ SmT (Pl.Tree.mk x_2.1 x_2.2) ∧ condP (!Op.bytesLess (Pl.textT (Pl.Tree.mk x_1.1 x_1.2)).toList (Pl.textT (Pl.Tree.mk x_2.1 x_2.2)).toList)
 ((0 : Nat) + x.2.2.1.length ≤ x.2.2.1.length ∧ (x.2.2.1.length + (1 : Nat)) * (40 : Nat) ≤ (70368744177664 : Nat) ∧ (0 : Nat) + x.2.2.2.length ≤ x.2.2.2.length ∧ (x.2.2.2.length + (1 : Nat)) * (8 : Nat) ≤ (70368744177664 : Nat) ∧ ∃ x_3 : Pl.TP,
 ((v = x_3.1 ∧ Is (terms ks) (terms x_3.2) ∧ True) ∧ True) ∧ SmT (Pl.Tree.mk x_3.1 x_3.2) ∧ condP (!(Pl.textT (Pl.Tree.mk x_1.1 x_1.2)).toList == (Pl.textT (Pl.Tree.mk x_3.1 x_3.2)).toList)
 (((0 : Int) ≤ (↑x.1 : Int) ∧ (↑x.1 : Int) < (↑a.2.2.2.1.length : Int)) ∧ x.1 < a.2.2.2.1.length ∧ (0 : Nat) + (x.2.2.1.length + (1 : Nat)) ≤ x.2.2.1.length + (1 : Nat) ∧ (x.2.2.1.length + (1 : Nat) + (1 : Nat)) * (40 : Nat) ≤ (70368744177664 : Nat) ∧ ((0 : Int) ≤ (↑x.1 : Int) ∧ (↑x.1 : Int) < (↑a.2.2.2.2.1.length : Int)) ∧ x.1 < a.2.2.2.2.1.length ∧ (0 : Nat) + (x.2.2.2.length + (1 : Nat)) ≤ x.2.2.2.length + (1 : Nat) ∧ (x.2.2.2.length + (1 : Nat) + (1 : Nat)) * (8 : Nat) ≤ (70368744177664 : Nat) ∧ Exists fun (x' : Nat × Bool × List Pl.Tm × List Int) =>
 (x'.1 ≤ a.2.2.2.1.length ∧ Pl.PutB a.2.2.2.1 (Pl.Tree.mk v ks) (x'.1 + if x'.2.1 = true then (1 : Nat) else (0 : Nat)) x'.2.2.1
 x'.2.2.2) ∧ a.2.2.2.1.length - x'.1 < a.2.2.2.1.length - x.1 ∧ (n = n ∧ (0 : Nat) = (0 : Nat) ∧ (0 : Nat) = (0 : Nat) ∧ (0 : Nat) = (0 : Nat) ∧ (0 : Nat) = (0 : Nat) ∧ true = x'.2.1 ∧ IntKind.i64.wrap ((↑x.1 : Int) + (1 : Int)) = (↑x'.1 : Int) ∧ True) ∧ (a.1 = a.1 ∧ a.2.1.1 = a.2.1.1 ∧ Is (terms a.2.1.2) (terms a.2.1.2) ∧ a.2.2.1.1 = a.2.2.1.1 ∧ Is (terms a.2.2.1.2) (terms a.2.2.1.2) ∧ Is (terms a.2.2.2.1) (terms a.2.2.2.1) ∧ Is (ints a.2.2.2.2.1) (ints a.2.2.2.2.1) ∧ a.2.2.2.2.2.1 = a.2.2.2.2.2.1 ∧ a.2.2.2.2.2.2 = a.2.2.2.2.2.2 ∧ True) ∧ (v = v ∧ Is (terms ks) (terms ks) ∧ True) ∧ ((0 : Int) = (0 : Int) ∧ ByteArray.empty = ByteArray.empty ∧ Is (AV.lit (0 : Nat) (1 : Nat) fun (x x_4 : Nat) => AV.any) nilA ∧ ByteArray.empty = ByteArray.empty ∧ Is (AV.lit (0 : Nat) (1 : Nat) fun (x x_4 : Nat) => AV.any) nilA ∧ Is (AV.lit (0 : Nat) (1 : Nat) fun (x x_4 : Nat) => AV.any) nilA ∧ Is (AV.lit (0 : Nat) (1 : Nat) fun (x x_4 : Nat) => AV.any) nilA ∧ (0 : Int) = (0 : Int) ∧ false = false ∧ True) ∧ (a.1 = a.1 ∧ ByteArray.empty = ByteArray.empty ∧ Is (AV.lit (0 : Nat) (1 : Nat) fun (x x_4 : Nat) => AV.any) nilA ∧ ByteArray.empty = ByteArray.empty ∧ Is (AV.lit (0 : Nat) (1 : Nat) fun (x x_4 : Nat) => AV.any) nilA ∧ ((0 : Nat) = (0 : Nat) ∧ x.2.2.1.length + (1 : Nat) + (1 : Nat) = x'.2.2.1.length) ∧ ((0 : Nat) = (0 : Nat) ∧ x.2.2.2.length + (1 : Nat) + (1 : Nat) = x'.2.2.2.length) ∧ a.2.2.2.2.2.1 = a.2.2.2.2.2.1 ∧ a.2.2.2.2.2.2 = a.2.2.2.2.2.2 ∧ True) ∧ IsO
 (AObj.arr (x.2.2.1.length + (1 : Nat) + (1 : Nat)) (2 : Nat)
 (joinC (x.2.2.1.length + (1 : Nat))
 (fun (i j : Nat) => joinC x.2.2.1.length (cT x.2.2.1) (rowsCell [[st v, terms ks]]) i j)
 (rowsCell
 [[st (Pl.Tree.val (a.2.2.2.1.getD x.1 Pl.dT)), kidsT (a.2.2.2.1.getD x.1 Pl.dT)]])))
 (arT x'.2.2.1) ∧ IsO
 (AObj.arr (x.2.2.2.length + (1 : Nat) + (1 : Nat)) (1 : Nat)
 (joinC (x.2.2.2.length + (1 : Nat))
 (fun (i j : Nat) => joinC x.2.2.2.length (cI x.2.2.2) (rowsCell [[i64 n]]) i j)
 (rowsCell [[i64 (a.2.2.2.2.1.getD x.1 (0 : Int))]])))
 (arI x'.2.2.2) ∧ True)
 (Exists fun (x' : Nat × Bool × List Pl.Tm × List Int) =>
 (x'.1 ≤ a.2.2.2.1.length ∧ Pl.PutB a.2.2.2.1 (Pl.Tree.mk v ks) (x'.1 + if x'.2.1 = true then (1 : Nat) else (0 : Nat)) x'.2.2.1 x'.2.2.2) ∧ a.2.2.2.1.length - x'.1 < a.2.2.2.1.length - x.1 ∧ (n = n ∧ (0 : Nat) = (0 : Nat) ∧ (0 : Nat) = (0 : Nat) ∧ (0 : Nat) = (0 : Nat) ∧ (0 : Nat) = (0 : Nat) ∧ true = x'.2.1 ∧ IntKind.i64.wrap ((↑x.1 : Int) + (1 : Int)) = (↑x'.1 : Int) ∧ True) ∧ (a.1 = a.1 ∧ a.2.1.1 = a.2.1.1 ∧ Is (terms a.2.1.2) (terms a.2.1.2) ∧ a.2.2.1.1 = a.2.2.1.1 ∧ Is (terms a.2.2.1.2) (terms a.2.2.1.2) ∧ Is (terms a.2.2.2.1) (terms a.2.2.2.1) ∧ Is (ints a.2.2.2.2.1) (ints a.2.2.2.2.1) ∧ a.2.2.2.2.2.1 = a.2.2.2.2.2.1 ∧ a.2.2.2.2.2.2 = a.2.2.2.2.2.2 ∧ True) ∧ (v = v ∧ Is (terms ks) (terms ks) ∧ True) ∧ ((0 : Int) = (0 : Int) ∧ ByteArray.empty = ByteArray.empty ∧ Is (AV.lit (0 : Nat) (1 : Nat) fun (x x_4 : Nat) => AV.any) nilA ∧ ByteArray.empty = ByteArray.empty ∧ Is (AV.lit (0 : Nat) (1 : Nat) fun (x x_4 : Nat) => AV.any) nilA ∧ Is (AV.lit (0 : Nat) (1 : Nat) fun (x x_4 : Nat) => AV.any) nilA ∧ Is (AV.lit (0 : Nat) (1 : Nat) fun (x x_4 : Nat) => AV.any) nilA ∧ (0 : Int) = (0 : Int) ∧ false = false ∧ True) ∧ (a.1 = a.1 ∧ ByteArray.empty = ByteArray.empty ∧ Is (AV.lit (0 : Nat) (1 : Nat) fun (x x_4 : Nat) => AV.any) nilA ∧ ByteArray.empty = ByteArray.empty ∧ Is (AV.lit (0 : Nat) (1 : Nat) fun (x x_4 : Nat) => AV.any) nilA ∧ ((0 : Nat) = (0 : Nat) ∧ x.2.2.1.length + (1 : Nat) = x'.2.2.1.length) ∧ ((0 : Nat) = (0 : Nat) ∧ x.2.2.2.length + (1 : Nat) = x'.2.2.2.length) ∧ a.2.2.2.2.2.1 = a.2.2.2.2.2.1 ∧ a.2.2.2.2.2.2 = a.2.2.2.2.2.2 ∧ True) ∧ IsO
 (AObj.arr (x.2.2.1.length + (1 : Nat)) (2 : Nat)
 (joinC x.2.2.1.length (cT x.2.2.1) (rowsCell [[st v, terms ks]])))
 (arT x'.2.2.1) ∧ IsO
 (AObj.arr (x.2.2.2.length + (1 : Nat)) (1 : Nat)
 (joinC x.2.2.2.length (cI x.2.2.2) (rowsCell [[i64 n]])))
 (arI x'.2.2.2) ∧ True))
 (∃ x_3 : Pl.TP,
 ((v = x_3.1 ∧ Is (terms ks) (terms x_3.2) ∧ True) ∧ True) ∧ SmT (Pl.Tree.mk x_3.1 x_3.2) ∧ condP (!(Pl.textT (Pl.Tree.mk x_1.1 x_1.2)).toList == (Pl.textT (Pl.Tree.mk x_3.1 x_3.2)).toList)
 (((0 : Int) ≤ (↑x.1 : Int) ∧ (↑x.1 : Int) < (↑a.2.2.2.1.length : Int)) ∧ x.1 < a.2.2.2.1.length ∧ (0 : Nat) + x.2.2.1.length ≤ x.2.2.1.length ∧ (x.2.2.1.length + (1 : Nat)) * (40 : Nat) ≤ (70368744177664 : Nat) ∧ ((0 : Int) ≤ (↑x.1 : Int) ∧ (↑x.1 : Int) < (↑a.2.2.2.2.1.length : Int)) ∧ x.1 < a.2.2.2.2.1.length ∧ (0 : Nat) + x.2.2.2.length ≤ x.2.2.2.length ∧ (x.2.2.2.length + (1 : Nat)) * (8 : Nat) ≤ (70368744177664 : Nat) ∧ Exists fun (x' : Nat × Bool × List Pl.Tm × List Int) =>
 (x'.1 ≤ a.2.2.2.1.length ∧ Pl.PutB a.2.2.2.1 (Pl.Tree.mk v ks) (x'.1 + if x'.2.1 = true then (1 : Nat) else (0 : Nat)) x'.2.2.1
 x'.2.2.2) ∧ a.2.2.2.1.length - x'.1 < a.2.2.2.1.length - x.1 ∧ (n = n ∧ (0 : Nat) = (0 : Nat) ∧ (0 : Nat) = (0 : Nat) ∧ (0 : Nat) = (0 : Nat) ∧ (0 : Nat) = (0 : Nat) ∧ x.2.1 = x'.2.1 ∧ IntKind.i64.wrap ((↑x.1 : Int) + (1 : Int)) = (↑x'.1 : Int) ∧ True) ∧ (a.1 = a.1 ∧ a.2.1.1 = a.2.1.1 ∧ Is (terms a.2.1.2) (terms a.2.1.2) ∧ a.2.2.1.1 = a.2.2.1.1 ∧ Is (terms a.2.2.1.2) (terms a.2.2.1.2) ∧ Is (terms a.2.2.2.1) (terms a.2.2.2.1) ∧ Is (ints a.2.2.2.2.1) (ints a.2.2.2.2.1) ∧ a.2.2.2.2.2.1 = a.2.2.2.2.2.1 ∧ a.2.2.2.2.2.2 = a.2.2.2.2.2.2 ∧ True) ∧ (v = v ∧ Is (terms ks) (terms ks) ∧ True) ∧ ((0 : Int) = (0 : Int) ∧ ByteArray.empty = ByteArray.empty ∧ Is (AV.lit (0 : Nat) (1 : Nat) fun (x x_4 : Nat) => AV.any) nilA ∧ ByteArray.empty = ByteArray.empty ∧ Is (AV.lit (0 : Nat) (1 : Nat) fun (x x_4 : Nat) => AV.any) nilA ∧ Is (AV.lit (0 : Nat) (1 : Nat) fun (x x_4 : Nat) => AV.any) nilA ∧ Is (AV.lit (0 : Nat) (1 : Nat) fun (x x_4 : Nat) => AV.any) nilA ∧ (0 : Int) = (0 : Int) ∧ false = false ∧ True) ∧ (a.1 = a.1 ∧ ByteArray.empty = ByteArray.empty ∧ Is (AV.lit (0 : Nat) (1 : Nat) fun (x x_4 : Nat) => AV.any) nilA ∧ ByteArray.empty = ByteArray.empty ∧ Is (AV.lit (0 : Nat) (1 : Nat) fun (x x_4 : Nat) => AV.any) nilA ∧ ((0 : Nat) = (0 : Nat) ∧ x.2.2.1.length + (1 : Nat) = x'.2.2.1.length) ∧ ((0 : Nat) = (0 : Nat) ∧ x.2.2.2.length + (1 : Nat) = x'.2.2.2.length) ∧ a.2.2.2.2.2.1 = a.2.2.2.2.2.1 ∧ a.2.2.2.2.2.2 = a.2.2.2.2.2.2 ∧ True) ∧ IsO
 (AObj.arr (x.2.2.1.length + (1 : Nat)) (2 : Nat)
 (joinC x.2.2.1.length (cT x.2.2.1)
 (rowsCell [[st (Pl.Tree.val (a.2.2.2.1.getD x.1 Pl.dT)), kidsT (a.2.2.2.1.getD x.1 Pl.dT)]])))
 (arT x'.2.2.1) ∧ IsO
 (AObj.arr (x.2.2.2.length + (1 : Nat)) (1 : Nat)
 (joinC x.2.2.2.length (cI x.2.2.2) (rowsCell [[i64 (a.2.2.2.2.1.getD x.1 (0 : Int))]])))
 (arI x'.2.2.2) ∧ True)
 (Exists fun (x' : Nat × Bool × List Pl.Tm × List Int) =>
 (x'.1 ≤ a.2.2.2.1.length ∧ Pl.PutB a.2.2.2.1 (Pl.Tree.mk v ks) (x'.1 + if x'.2.1 = true then (1 : Nat) else (0 : Nat)) x'.2.2.1 x'.2.2.2) ∧ a.2.2.2.1.length - x'.1 < a.2.2.2.1.length - x.1 ∧ (n = n ∧ (0 : Nat) = (0 : Nat) ∧ (0 : Nat) = (0 : Nat) ∧ (0 : Nat) = (0 : Nat) ∧ (0 : Nat) = (0 : Nat) ∧ x.2.1 = x'.2.1 ∧ IntKind.i64.wrap ((↑x.1 : Int) + (1 : Int)) = (↑x'.1 : Int) ∧ True) ∧ (a.1 = a.1 ∧ a.2.1.1 = a.2.1.1 ∧ Is (terms a.2.1.2) (terms a.2.1.2) ∧ a.2.2.1.1 = a.2.2.1.1 ∧ Is (terms a.2.2.1.2) (terms a.2.2.1.2) ∧ Is (terms a.2.2.2.1) (terms a.2.2.2.1) ∧ Is (ints a.2.2.2.2.1) (ints a.2.2.2.2.1) ∧ a.2.2.2.2.2.1 = a.2.2.2.2.2.1 ∧ a.2.2.2.2.2.2 = a.2.2.2.2.2.2 ∧ True) ∧ (v = v ∧ Is (terms ks) (terms ks) ∧ True) ∧ ((0 : Int) = (0 : Int) ∧ ByteArray.empty = ByteArray.empty ∧ Is (AV.lit (0 : Nat) (1 : Nat) fun (x x_4 : Nat) => AV.any) nilA ∧ ByteArray.empty = ByteArray.empty ∧ Is (AV.lit (0 : Nat) (1 : Nat) fun (x x_4 : Nat) => AV.any) nilA ∧ Is (AV.lit (0 : Nat) (1 : Nat) fun (x x_4 : Nat) => AV.any) nilA ∧ Is (AV.lit (0 : Nat) (1 : Nat) fun (x x_4 : Nat) => AV.any) nilA ∧ (0 : Int) = (0 : Int) ∧ false = false ∧ True) ∧ (a.1 = a.1 ∧ ByteArray.empty = ByteArray.empty ∧ Is (AV.lit (0 : Nat) (1 : Nat) fun (x x_4 : Nat) => AV.any) nilA ∧ ByteArray.empty = ByteArray.empty ∧ Is (AV.lit (0 : Nat) (1 : Nat) fun (x x_4 : Nat) => AV.any) nilA ∧ ((0 : Nat) = (0 : Nat) ∧ x.2.2.1.length = x'.2.2.1.length) ∧ ((0 : Nat) = (0 : Nat) ∧ x.2.2.2.length = x'.2.2.2.length) ∧ a.2.2.2.2.2.1 = a.2.2.2.2.2.1 ∧ a.2.2.2.2.2.2 = a.2.2.2.2.2.2 ∧ True) ∧ IsO (arT x.2.2.1) (arT x'.2.2.1) ∧ IsO (arI x.2.2.2) (arI x'.2.2.2) ∧ True)))
 (∃ x_2 : Pl.TP,
 ((v = x_2.1 ∧ Is (terms ks) (terms x_2.2) ∧ True) ∧ True) ∧ SmT (Pl.Tree.mk x_2.1 x_2.2) ∧ condP (!(Pl.textT (Pl.Tree.mk x_1.1 x_1.2)).toList == (Pl.textT (Pl.Tree.mk x_2.1 x_2.2)).toList)
 (((0 : Int) ≤ (↑x.1 : Int) ∧ (↑x.1 : Int) < (↑a.2.2.2.1.length : Int)) ∧ x.1 < a.2.2.2.1.length ∧ (0 : Nat) + x.2.2.1.length ≤ x.2.2.1.length ∧ (x.2.2.1.length + (1 : Nat)) * (40 : Nat) ≤ (70368744177664 : Nat) ∧ ((0 : Int) ≤ (↑x.1 : Int) ∧ (↑x.1 : Int) < (↑a.2.2.2.2.1.length : Int)) ∧ x.1 < a.2.2.2.2.1.length ∧ (0 : Nat) + x.2.2.2.length ≤ x.2.2.2.length ∧ (x.2.2.2.length + (1 : Nat)) * (8 : Nat) ≤ (70368744177664 : Nat) ∧ Exists fun (x' : Nat × Bool × List Pl.Tm × List Int) =>
 (x'.1 ≤ a.2.2.2.1.length ∧ Pl.PutB a.2.2.2.1 (Pl.Tree.mk v ks) (x'.1 + if x'.2.1 = true then (1 : Nat) else (0 : Nat)) x'.2.2.1 x'.2.2.2) ∧ a.2.2.2.1.length - x'.1 < a.2.2.2.1.length - x.1 ∧ (n = n ∧ (0 : Nat) = (0 : Nat) ∧ (0 : Nat) = (0 : Nat) ∧ (0 : Nat) = (0 : Nat) ∧ (0 : Nat) = (0 : Nat) ∧ x.2.1 = x'.2.1 ∧ IntKind.i64.wrap ((↑x.1 : Int) + (1 : Int)) = (↑x'.1 : Int) ∧ True) ∧ (a.1 = a.1 ∧ a.2.1.1 = a.2.1.1 ∧ Is (terms a.2.1.2) (terms a.2.1.2) ∧ a.2.2.1.1 = a.2.2.1.1 ∧ Is (terms a.2.2.1.2) (terms a.2.2.1.2) ∧ Is (terms a.2.2.2.1) (terms a.2.2.2.1) ∧ Is (ints a.2.2.2.2.1) (ints a.2.2.2.2.1) ∧ a.2.2.2.2.2.1 = a.2.2.2.2.2.1 ∧ a.2.2.2.2.2.2 = a.2.2.2.2.2.2 ∧ True) ∧ (v = v ∧ Is (terms ks) (terms ks) ∧ True) ∧ ((0 : Int) = (0 : Int) ∧ ByteArray.empty = ByteArray.empty ∧ Is (AV.lit (0 : Nat) (1 : Nat) fun (x x_3 : Nat) => AV.any) nilA ∧ ByteArray.empty = ByteArray.empty ∧ Is (AV.lit (0 : Nat) (1 : Nat) fun (x x_3 : Nat) => AV.any) nilA ∧ Is (AV.lit (0 : Nat) (1 : Nat) fun (x x_3 : Nat) => AV.any) nilA ∧ Is (AV.lit (0 : Nat) (1 : Nat) fun (x x_3 : Nat) => AV.any) nilA ∧ (0 : Int) = (0 : Int) ∧ false = false ∧ True) ∧ (a.1 = a.1 ∧ ByteArray.empty = ByteArray.empty ∧ Is (AV.lit (0 : Nat) (1 : Nat) fun (x x_3 : Nat) => AV.any) nilA ∧ ByteArray.empty = ByteArray.empty ∧ Is (AV.lit (0 : Nat) (1 : Nat) fun (x x_3 : Nat) => AV.any) nilA ∧ ((0 : Nat) = (0 : Nat) ∧ x.2.2.1.length + (1 : Nat) = x'.2.2.1.length) ∧ ((0 : Nat) = (0 : Nat) ∧ x.2.2.2.length + (1 : Nat) = x'.2.2.2.length) ∧ a.2.2.2.2.2.1 = a.2.2.2.2.2.1 ∧ a.2.2.2.2.2.2 = a.2.2.2.2.2.2 ∧ True) ∧ IsO
 (AObj.arr (x.2.2.1.length + (1 : Nat)) (2 : Nat)
 (joinC x.2.2.1.length (cT x.2.2.1)
 (rowsCell [[st (Pl.Tree.val (a.2.2.2.1.getD x.1 Pl.dT)), kidsT (a.2.2.2.1.getD x.1 Pl.dT)]])))
 (arT x'.2.2.1) ∧ IsO
 (AObj.arr (x.2.2.2.length + (1 : Nat)) (1 : Nat)
 (joinC x.2.2.2.length (cI x.2.2.2) (rowsCell [[i64 (a.2.2.2.2.1.getD x.1 (0 : Int))]])))
 (arI x'.2.2.2) ∧ True)
 (Exists fun (x' : Nat × Bool × List Pl.Tm × List Int) =>
 (x'.1 ≤ a.2.2.2.1.length ∧ Pl.PutB a.2.2.2.1 (Pl.Tree.mk v ks) (x'.1 + if x'.2.1 = true then (1 : Nat) else (0 : Nat)) x'.2.2.1 x'.2.2.2) ∧ a.2.2.2.1.length - x'.1 < a.2.2.2.1.length - x.1 ∧ (n = n ∧ (0 : Nat) = (0 : Nat) ∧ (0 : Nat) = (0 : Nat) ∧ (0 : Nat) = (0 : Nat) ∧ (0 : Nat) = (0 : Nat) ∧ x.2.1 = x'.2.1 ∧ IntKind.i64.wrap ((↑x.1 : Int) + (1 : Int)) = (↑x'.1 : Int) ∧ True) ∧ (a.1 = a.1 ∧ a.2.1.1 = a.2.1.1 ∧ Is (terms a.2.1.2) (terms a.2.1.2) ∧ a.2.2.1.1 = a.2.2.1.1 ∧ Is (terms a.2.2.1.2) (terms a.2.2.1.2) ∧ Is (terms a.2.2.2.1) (terms a.2.2.2.1) ∧ Is (ints a.2.2.2.2.1) (ints a.2.2.2.2.1) ∧ a.2.2.2.2.2.1 = a.2.2.2.2.2.1 ∧ a.2.2.2.2.2.2 = a.2.2.2.2.2.2 ∧ True) ∧ (v = v ∧ Is (terms ks) (terms ks) ∧ True) ∧ ((0 : Int) = (0 : Int) ∧ ByteArray.empty = ByteArray.empty ∧ Is (AV.lit (0 : Nat) (1 : Nat) fun (x x_3 : Nat) => AV.any) nilA ∧ ByteArray.empty = ByteArray.empty ∧ Is (AV.lit (0 : Nat) (1 : Nat) fun (x x_3 : Nat) => AV.any) nilA ∧ Is (AV.lit (0 : Nat) (1 : Nat) fun (x x_3 : Nat) => AV.any) nilA ∧ Is (AV.lit (0 : Nat) (1 : Nat) fun (x x_3 : Nat) => AV.any) nilA ∧ (0 : Int) = (0 : Int) ∧ false = false ∧ True) ∧ (a.1 = a.1 ∧ ByteArray.empty = ByteArray.empty ∧ Is (AV.lit (0 : Nat) (1 : Nat) fun (x x_3 : Nat) => AV.any) nilA ∧ ByteArray.empty = ByteArray.empty ∧ Is (AV.lit (0 : Nat) (1 : Nat) fun (x x_3 : Nat) => AV.any) nilA ∧ ((0 : Nat) = (0 : Nat) ∧ x.2.2.1.length = x'.2.2.1.length) ∧ ((0 : Nat) = (0 : Nat) ∧ x.2.2.2.length = x'.2.2.2.length) ∧ a.2.2.2.2.2.1 = a.2.2.2.2.2.1 ∧ a.2.2.2.2.2.2 = a.2.2.2.2.2.2 ∧ True) ∧ IsO (arT x.2.2.1) (arT x'.2.2.1) ∧ IsO (arI x.2.2.2) (arI x'.2.2.2) ∧ True)))
 (condP (!x.2.1)
 ((0 : Nat) + x.2.2.1.length ≤ x.2.2.1.length ∧ (x.2.2.1.length + (1 : Nat)) * (40 : Nat) ≤ (70368744177664 : Nat) ∧ (0 : Nat) + x.2.2.2.length ≤ x.2.2.2.length ∧ (x.2.2.2.length + (1 : Nat)) * (8 : Nat) ≤ (70368744177664 : Nat) ∧ ∃ y : List Pl.Tm × List Int,
 Pl.PutB a.2.2.2.1 (Pl.Tree.mk v ks) (a.2.2.2.1.length + (1 : Nat)) y.1 y.2 ∧ ((a.1 = (a.1, Pl.noTP, Pl.noTP, y.1, y.2, a.2.2.2.2.2.1, a.2.2.2.2.2.2).1 ∧ ByteArray.empty = ByteArray.mk #[] ∧ Is (AV.lit (0 : Nat) (1 : Nat) fun (x x_1 : Nat) => AV.any) (terms []) ∧ ByteArray.empty = ByteArray.mk #[] ∧ Is (AV.lit (0 : Nat) (1 : Nat) fun (x x_1 : Nat) => AV.any) (terms []) ∧ ((0 : Nat) = (0 : Nat) ∧ x.2.2.1.length + (1 : Nat) = (y.1, y.2, a.2.2.2.2.2.1, a.2.2.2.2.2.2).1.length) ∧ ((0 : Nat) = (0 : Nat) ∧ x.2.2.2.length + (1 : Nat) = (y.2, a.2.2.2.2.2.1, a.2.2.2.2.2.2).1.length) ∧ a.2.2.2.2.2.1 = (a.2.2.2.2.2.1, a.2.2.2.2.2.2).1 ∧ a.2.2.2.2.2.2 = (a.2.2.2.2.2.1, a.2.2.2.2.2.2).2 ∧ True) ∧ True) ∧ IsO (AObj.arr (x.2.2.1.length + (1 : Nat)) (2 : Nat) (joinC x.2.2.1.length (cT x.2.2.1) (rowsCell [[st v, terms ks]]))) (arT y.1) ∧ IsO (AObj.arr (x.2.2.2.length + (1 : Nat)) (1 : Nat) (joinC x.2.2.2.length (cI x.2.2.2) (rowsCell [[i64 n]]))) (arI y.2) ∧ True)
 (∃ y : List Pl.Tm × List Int,
 Pl.PutB a.2.2.2.1 (Pl.Tree.mk v ks) (a.2.2.2.1.length + (1 : Nat)) y.1 y.2 ∧ ((a.1 = (a.1, Pl.noTP, Pl.noTP, y.1, y.2, a.2.2.2.2.2.1, a.2.2.2.2.2.2).1 ∧ ByteArray.empty = ByteArray.mk #[] ∧ Is (AV.lit (0 : Nat) (1 : Nat) fun (x x_1 : Nat) => AV.any) (terms []) ∧ ByteArray.empty = ByteArray.mk #[] ∧ Is (AV.lit (0 : Nat) (1 : Nat) fun (x x_1 : Nat) => AV.any) (terms []) ∧ ((0 : Nat) = (0 : Nat) ∧ x.2.2.1.length = (y.1, y.2, a.2.2.2.2.2.1, a.2.2.2.2.2.2).1.length) ∧ ((0 : Nat) = (0 : Nat) ∧ x.2.2.2.length = (y.2, a.2.2.2.2.2.1, a.2.2.2.2.2.2).1.length) ∧ a.2.2.2.2.2.1 = (a.2.2.2.2.2.1, a.2.2.2.2.2.2).1 ∧ a.2.2.2.2.2.2 = (a.2.2.2.2.2.1, a.2.2.2.2.2.2).2 ∧ True) ∧ True) ∧ IsO (arT x.2.2.1) (arT y.1) ∧ IsO (arI x.2.2.2) (arI y.2) ∧ True))) = Goal Tryz.prog [K_lText] (A_l6Put a v ks n) K_l6Put.1 K_l6Put.2 ((a, (v, ks), n)) := by kernel_rfl

theorem vc_l6Any (b : List Int) (p : Int) (s : Pl.Sig) : (∃ x : List Int × Int × Int,
 Rd (1099511627776 : Int) x.1 x.2.1 ∧ (((0 : Nat) = (0 : Nat) ∧ (2 : Int) = x.2.2 ∧ True) ∧ (Is (byts b) (byts x.1) ∧ p = x.2.1 ∧ True) ∧ True) ∧ ∀ (y : Int),
 ((1 : Int) ≤ x.2.2 → (0 : Int) ≤ y ∧ y < x.2.2) ∧ (x.2.2 < (1 : Int) → y = (0 : Int)) →
 condP (y == (0 : Int))
 (∃ x_1 : List Int × Int × Int,
 Rd (1099511627776 : Int) x_1.1 x_1.2.1 ∧ (((0 : Nat) = (0 : Nat) ∧ (2 : Int) = x_1.2.2 ∧ True) ∧ (Is (byts x.1) (byts x_1.1) ∧ x.2.1 + (1 : Int) = x_1.2.1 ∧ True) ∧ True) ∧ ∀ (y : Int),
 ((1 : Int) ≤ x_1.2.2 → (0 : Int) ≤ y ∧ y < x_1.2.2) ∧ (x_1.2.2 < (1 : Int) → y = (0 : Int)) →
 ((∃ x : List Int × Int × List Int,
 (Rd (1099511627776 : Int) x.1 x.2.1 ∧ x.2.2 ≠ [] ∧ Sz x.2.2) ∧ (((0 : Nat) = (0 : Nat) ∧ Is (AV.lit (2 : Nat) (1 : Nat) (rowsCell [[i64 (1 : Int)], [i64 (2 : Int)]])) (ints x.2.2) ∧ True) ∧ (Is (byts x_1.1) (byts x.1) ∧ x_1.2.1 + (1 : Int) = x.2.1 ∧ True) ∧ True) ∧ ∀ (y_1 : Int),
 y_1 ∈ x.2.2 →
 (∃ x_2 : AX,
 (Rd (137438953472 : Int) x_2.1 x_2.2.1 ∧ x_2.2.1 + (↑(Pl.CB x_2.2.2.2.2.toNat) : Int) ≤ (137438953472 : Int) ∧ Pl.SgB (5 : Nat) (2 : Nat) x_2.2.2.1 ∧ x_2.2.2.2.2 ≤ (4 : Int)) ∧ (((0 : Nat) = (0 : Nat) ∧ (Is (syms s) (syms x_2.2.2.1) ∧ True) ∧ y = x_2.2.2.2.1 ∧ y_1 = x_2.2.2.2.2 ∧ True) ∧ (Is (byts x.1) (byts x_2.1) ∧ x.2.1 + (1 : Int) = x_2.2.1 ∧ True) ∧ True) ∧ ∀ (y_2 : Pl.TP × Int),
 Pl.TmB (Pl.CB x_2.2.2.2.2.toNat) y_2.1 ∧ x_2.2.1 ≤ y_2.2 ∧ y_2.2 ≤ x_2.2.1 + (↑(Pl.CB x_2.2.2.2.2.toNat) : Int) →
 (∃ x : List Int × Int × List Int,
 (Rd (1099511627776 : Int) x.1 x.2.1 ∧ x.2.2 ≠ [] ∧ Sz x.2.2) ∧ (((0 : Nat) = (0 : Nat) ∧ Is (AV.lit (3 : Nat) (1 : Nat) (rowsCell [[i64 (1 : Int)], [i64 (1 : Int)], [i64 (2 : Int)]])) (ints x.2.2) ∧ True) ∧ (Is (byts x_2.1) (byts x.1) ∧ y_2.2 = x.2.1 ∧ True) ∧ True) ∧ ∀ (y_3 : Int),
 y_3 ∈ x.2.2 →
 ∃ x_3 : AX,
 (Rd (137438953472 : Int) x_3.1 x_3.2.1 ∧ x_3.2.1 + (↑(Pl.CB x_3.2.2.2.2.toNat) : Int) ≤ (137438953472 : Int) ∧ Pl.SgB (5 : Nat) (2 : Nat) x_3.2.2.1 ∧ x_3.2.2.2.2 ≤ (4 : Int)) ∧ (((0 : Nat) = (0 : Nat) ∧ (Is (syms s) (syms x_3.2.2.1) ∧ True) ∧ y = x_3.2.2.2.1 ∧ y_3 = x_3.2.2.2.2 ∧ True) ∧ (Is (byts x.1) (byts x_3.1) ∧ x.2.1 + (1 : Int) = x_3.2.1 ∧ True) ∧ True) ∧ ∀ (y : Pl.TP × Int),
 Pl.TmB (Pl.CB x_3.2.2.2.2.toNat) y.1 ∧ x_3.2.1 ≤ y.2 ∧ y.2 ≤ x_3.2.1 + (↑(Pl.CB x_3.2.2.2.2.toNat) : Int) →
 ∃ y_4 : Pl.Atm × Int,
 (Pl.AtB (3 : Nat) y_4.1 ∧ p ≤ y_4.2 ∧ y_4.2 ≤ p + (500 : Int)) ∧ (0 : Nat) + y_2.1.2.length ≤ y_2.1.2.length ∧ (0 : Nat) + y.1.2.length ≤ y.1.2.length ∧ (((1 : Int) = y_4.1.1 ∧ y_2.1.1 = y_4.1.2.1.1 ∧ Is (terms y_2.1.2) (terms y_4.1.2.1.2) ∧ y.1.1 = y_4.1.2.2.1.1 ∧ Is (terms y.1.2) (terms y_4.1.2.2.1.2) ∧ ((0 : Nat) = (0 : Nat) ∧ (0 : Nat) = (0 : Nat) ∧ y_4.1.2.2.2.1.length = (0 : Nat)) ∧ ((0 : Nat) = (0 : Nat) ∧ (0 : Nat) = (0 : Nat) ∧ y_4.1.2.2.2.2.1.length = (0 : Nat)) ∧ (0 : Int) = y_4.1.2.2.2.2.2.1 ∧ false = y_4.1.2.2.2.2.2.2 ∧ True) ∧ True) ∧ (Is (byts x_3.1) (byts b) ∧ y.2 = y_4.2 ∧ True) ∧ y_4.1.2.2.2.1.length = (0 : Nat) ∧ y_4.1.2.2.2.2.1.length = (0 : Nat) ∧ True) ∧ ∃ x : List Int × Int × List Int,
 (Rd (1099511627776 : Int) x.1 x.2.1 ∧ x.2.2 ≠ [] ∧ Sz x.2.2) ∧ (((0 : Nat) = (0 : Nat) ∧ Is (AV.lit (3 : Nat) (1 : Nat) (rowsCell [[i64 (1 : Int)], [i64 (1 : Int)], [i64 (2 : Int)]])) (ints x.2.2) ∧ True) ∧ (Is (byts x_2.1) (byts x.1) ∧ y_2.2 = x.2.1 ∧ True) ∧ True) ∧ ∀ (y_3 : Int),
 y_3 ∈ x.2.2 →
 ∃ x_3 : AX,
 (Rd (137438953472 : Int) x_3.1 x_3.2.1 ∧ x_3.2.1 + (↑(Pl.CB x_3.2.2.2.2.toNat) : Int) ≤ (137438953472 : Int) ∧ Pl.SgB (5 : Nat) (2 : Nat) x_3.2.2.1 ∧ x_3.2.2.2.2 ≤ (4 : Int)) ∧ (((0 : Nat) = (0 : Nat) ∧ (Is (syms s) (syms x_3.2.2.1) ∧ True) ∧ y = x_3.2.2.2.1 ∧ y_3 = x_3.2.2.2.2 ∧ True) ∧ (Is (byts x.1) (byts x_3.1) ∧ x.2.1 + (1 : Int) = x_3.2.1 ∧ True) ∧ True) ∧ ∀ (y : Pl.TP × Int),
 Pl.TmB (Pl.CB x_3.2.2.2.2.toNat) y.1 ∧ x_3.2.1 ≤ y.2 ∧ y.2 ≤ x_3.2.1 + (↑(Pl.CB x_3.2.2.2.2.toNat) : Int) →
 ∃ y_4 : Pl.Atm × Int,
 (Pl.AtB (3 : Nat) y_4.1 ∧ p ≤ y_4.2 ∧ y_4.2 ≤ p + (500 : Int)) ∧ (0 : Nat) + y_2.1.2.length ≤ y_2.1.2.length ∧ (0 : Nat) + y.1.2.length ≤ y.1.2.length ∧ (((1 : Int) = y_4.1.1 ∧ y_2.1.1 = y_4.1.2.1.1 ∧ Is (terms y_2.1.2) (terms y_4.1.2.1.2) ∧ y.1.1 = y_4.1.2.2.1.1 ∧ Is (terms y.1.2) (terms y_4.1.2.2.1.2) ∧ ((0 : Nat) = (0 : Nat) ∧ (0 : Nat) = (0 : Nat) ∧ y_4.1.2.2.2.1.length = (0 : Nat)) ∧ ((0 : Nat) = (0 : Nat) ∧ (0 : Nat) = (0 : Nat) ∧ y_4.1.2.2.2.2.1.length = (0 : Nat)) ∧ (0 : Int) = y_4.1.2.2.2.2.2.1 ∧ false = y_4.1.2.2.2.2.2.2 ∧ True) ∧ True) ∧ (Is (byts x_3.1) (byts b) ∧ y.2 = y_4.2 ∧ True) ∧ y_4.1.2.2.2.1.length = (0 : Nat) ∧ y_4.1.2.2.2.2.1.length = (0 : Nat) ∧ True) ∧ ∃ x_2 : AX,
 (Rd (137438953472 : Int) x_2.1 x_2.2.1 ∧ x_2.2.1 + (↑(Pl.CB x_2.2.2.2.2.toNat) : Int) ≤ (137438953472 : Int) ∧ Pl.SgB (5 : Nat) (2 : Nat) x_2.2.2.1 ∧ x_2.2.2.2.2 ≤ (4 : Int)) ∧ (((0 : Nat) = (0 : Nat) ∧ (Is (syms s) (syms x_2.2.2.1) ∧ True) ∧ y = x_2.2.2.2.1 ∧ y_1 = x_2.2.2.2.2 ∧ True) ∧ (Is (byts x.1) (byts x_2.1) ∧ x.2.1 + (1 : Int) = x_2.2.1 ∧ True) ∧ True) ∧ ∀ (y_2 : Pl.TP × Int),
 Pl.TmB (Pl.CB x_2.2.2.2.2.toNat) y_2.1 ∧ x_2.2.1 ≤ y_2.2 ∧ y_2.2 ≤ x_2.2.1 + (↑(Pl.CB x_2.2.2.2.2.toNat) : Int) →
 ∃ x : List Int × Int × List Int,
 (Rd (1099511627776 : Int) x.1 x.2.1 ∧ x.2.2 ≠ [] ∧ Sz x.2.2) ∧ (((0 : Nat) = (0 : Nat) ∧ Is (AV.lit (3 : Nat) (1 : Nat) (rowsCell [[i64 (1 : Int)], [i64 (1 : Int)], [i64 (2 : Int)]])) (ints x.2.2) ∧ True) ∧ (Is (byts x_2.1) (byts x.1) ∧ y_2.2 = x.2.1 ∧ True) ∧ True) ∧ ∀ (y_3 : Int),
 y_3 ∈ x.2.2 →
 ∃ x_3 : AX,
 (Rd (137438953472 : Int) x_3.1 x_3.2.1 ∧ x_3.2.1 + (↑(Pl.CB x_3.2.2.2.2.toNat) : Int) ≤ (137438953472 : Int) ∧ Pl.SgB (5 : Nat) (2 : Nat) x_3.2.2.1 ∧ x_3.2.2.2.2 ≤ (4 : Int)) ∧ (((0 : Nat) = (0 : Nat) ∧ (Is (syms s) (syms x_3.2.2.1) ∧ True) ∧ y = x_3.2.2.2.1 ∧ y_3 = x_3.2.2.2.2 ∧ True) ∧ (Is (byts x.1) (byts x_3.1) ∧ x.2.1 + (1 : Int) = x_3.2.1 ∧ True) ∧ True) ∧ ∀ (y : Pl.TP × Int),
 Pl.TmB (Pl.CB x_3.2.2.2.2.toNat) y.1 ∧ x_3.2.1 ≤ y.2 ∧ y.2 ≤ x_3.2.1 + (↑(Pl.CB x_3.2.2.2.2.toNat) : Int) →
 ∃ y_4 : Pl.Atm × Int,
 (Pl.AtB (3 : Nat) y_4.1 ∧ p ≤ y_4.2 ∧ y_4.2 ≤ p + (500 : Int)) ∧ (0 : Nat) + y_2.1.2.length ≤ y_2.1.2.length ∧ (0 : Nat) + y.1.2.length ≤ y.1.2.length ∧ (((1 : Int) = y_4.1.1 ∧ y_2.1.1 = y_4.1.2.1.1 ∧ Is (terms y_2.1.2) (terms y_4.1.2.1.2) ∧ y.1.1 = y_4.1.2.2.1.1 ∧ Is (terms y.1.2) (terms y_4.1.2.2.1.2) ∧ ((0 : Nat) = (0 : Nat) ∧ (0 : Nat) = (0 : Nat) ∧ y_4.1.2.2.2.1.length = (0 : Nat)) ∧ ((0 : Nat) = (0 : Nat) ∧ (0 : Nat) = (0 : Nat) ∧ y_4.1.2.2.2.2.1.length = (0 : Nat)) ∧ (0 : Int) = y_4.1.2.2.2.2.2.1 ∧ false = y_4.1.2.2.2.2.2.2 ∧ True) ∧ True) ∧ (Is (byts x_3.1) (byts b) ∧ y.2 = y_4.2 ∧ True) ∧ y_4.1.2.2.2.1.length = (0 : Nat) ∧ y_4.1.2.2.2.2.1.length = (0 : Nat) ∧ True) ∧ ∃ x : List Int × Int × List Int,
 (Rd (1099511627776 : Int) x.1 x.2.1 ∧ x.2.2 ≠ [] ∧ Sz x.2.2) ∧ (((0 : Nat) = (0 : Nat) ∧ Is (AV.lit (2 : Nat) (1 : Nat) (rowsCell [[i64 (1 : Int)], [i64 (2 : Int)]])) (ints x.2.2) ∧ True) ∧ (Is (byts x_1.1) (byts x.1) ∧ x_1.2.1 + (1 : Int) = x.2.1 ∧ True) ∧ True) ∧ ∀ (y_1 : Int),
 y_1 ∈ x.2.2 →
 ∃ x_2 : AX,
 (Rd (137438953472 : Int) x_2.1 x_2.2.1 ∧ x_2.2.1 + (↑(Pl.CB x_2.2.2.2.2.toNat) : Int) ≤ (137438953472 : Int) ∧ Pl.SgB (5 : Nat) (2 : Nat) x_2.2.2.1 ∧ x_2.2.2.2.2 ≤ (4 : Int)) ∧ (((0 : Nat) = (0 : Nat) ∧ (Is (syms s) (syms x_2.2.2.1) ∧ True) ∧ y = x_2.2.2.2.1 ∧ y_1 = x_2.2.2.2.2 ∧ True) ∧ (Is (byts x.1) (byts x_2.1) ∧ x.2.1 + (1 : Int) = x_2.2.1 ∧ True) ∧ True) ∧ ∀ (y_2 : Pl.TP × Int),
 Pl.TmB (Pl.CB x_2.2.2.2.2.toNat) y_2.1 ∧ x_2.2.1 ≤ y_2.2 ∧ y_2.2 ≤ x_2.2.1 + (↑(Pl.CB x_2.2.2.2.2.toNat) : Int) →
 ∃ x : List Int × Int × List Int,
 (Rd (1099511627776 : Int) x.1 x.2.1 ∧ x.2.2 ≠ [] ∧ Sz x.2.2) ∧ (((0 : Nat) = (0 : Nat) ∧ Is (AV.lit (3 : Nat) (1 : Nat) (rowsCell [[i64 (1 : Int)], [i64 (1 : Int)], [i64 (2 : Int)]])) (ints x.2.2) ∧ True) ∧ (Is (byts x_2.1) (byts x.1) ∧ y_2.2 = x.2.1 ∧ True) ∧ True) ∧ ∀ (y_3 : Int),
 y_3 ∈ x.2.2 →
 ∃ x_3 : AX,
 (Rd (137438953472 : Int) x_3.1 x_3.2.1 ∧ x_3.2.1 + (↑(Pl.CB x_3.2.2.2.2.toNat) : Int) ≤ (137438953472 : Int) ∧ Pl.SgB (5 : Nat) (2 : Nat) x_3.2.2.1 ∧ x_3.2.2.2.2 ≤ (4 : Int)) ∧ (((0 : Nat) = (0 : Nat) ∧ (Is (syms s) (syms x_3.2.2.1) ∧ True) ∧ y = x_3.2.2.2.1 ∧ y_3 = x_3.2.2.2.2 ∧ True) ∧ (Is (byts x.1) (byts x_3.1) ∧ x.2.1 + (1 : Int) = x_3.2.1 ∧ True) ∧ True) ∧ ∀ (y : Pl.TP × Int),
 Pl.TmB (Pl.CB x_3.2.2.2.2.toNat) y.1 ∧ x_3.2.1 ≤ y.2 ∧ y.2 ≤ x_3.2.1 + (↑(Pl.CB x_3.2.2.2.2.toNat) : Int) →
 ∃ y_4 : Pl.Atm × Int,
 (Pl.AtB (3 : Nat) y_4.1 ∧ p ≤ y_4.2 ∧ y_4.2 ≤ p + (500 : Int)) ∧ (0 : Nat) + y_2.1.2.length ≤ y_2.1.2.length ∧ (0 : Nat) + y.1.2.length ≤ y.1.2.length ∧ (((1 : Int) = y_4.1.1 ∧ y_2.1.1 = y_4.1.2.1.1 ∧ Is (terms y_2.1.2) (terms y_4.1.2.1.2) ∧ y.1.1 = y_4.1.2.2.1.1 ∧ Is (terms y.1.2) (terms y_4.1.2.2.1.2) ∧ ((0 : Nat) = (0 : Nat) ∧ (0 : Nat) = (0 : Nat) ∧ y_4.1.2.2.2.1.length = (0 : Nat)) ∧ ((0 : Nat) = (0 : Nat) ∧ (0 : Nat) = (0 : Nat) ∧ y_4.1.2.2.2.2.1.length = (0 : Nat)) ∧ (0 : Int) = y_4.1.2.2.2.2.2.1 ∧ false = y_4.1.2.2.2.2.2.2 ∧ True) ∧ True) ∧ (Is (byts x_3.1) (byts b) ∧ y.2 = y_4.2 ∧ True) ∧ y_4.1.2.2.2.1.length = (0 : Nat) ∧ y_4.1.2.2.2.2.1.length = (0 : Nat) ∧ True) ∧ (∃ x : List Int × Int × List Int,
 (Rd (1099511627776 : Int) x.1 x.2.1 ∧ x.2.2 ≠ [] ∧ Sz x.2.2) ∧ (((0 : Nat) = (0 : Nat) ∧ Is (AV.lit (2 : Nat) (1 : Nat) (rowsCell [[i64 (1 : Int)], [i64 (2 : Int)]])) (ints x.2.2) ∧ True) ∧ (Is (byts x_1.1) (byts x.1) ∧ x_1.2.1 + (1 : Int) = x.2.1 ∧ True) ∧ True) ∧ ∀ (y_1 : Int),
 y_1 ∈ x.2.2 →
 ((∃ x_2 : AX,
 (Rd (137438953472 : Int) x_2.1 x_2.2.1 ∧ x_2.2.1 + (↑(Pl.CB x_2.2.2.2.2.toNat) : Int) ≤ (137438953472 : Int) ∧ Pl.SgB (5 : Nat) (2 : Nat) x_2.2.2.1 ∧ x_2.2.2.2.2 ≤ (4 : Int)) ∧ (((0 : Nat) = (0 : Nat) ∧ (Is (syms s) (syms x_2.2.2.1) ∧ True) ∧ y = x_2.2.2.2.1 ∧ y_1 = x_2.2.2.2.2 ∧ True) ∧ (Is (byts x.1) (byts x_2.1) ∧ x.2.1 + (1 : Int) = x_2.2.1 ∧ True) ∧ True) ∧ ∀ (y_2 : Pl.TP × Int),
 Pl.TmB (Pl.CB x_2.2.2.2.2.toNat) y_2.1 ∧ x_2.2.1 ≤ y_2.2 ∧ y_2.2 ≤ x_2.2.1 + (↑(Pl.CB x_2.2.2.2.2.toNat) : Int) →
 (∃ x : List Int × Int × List Int,
 (Rd (1099511627776 : Int) x.1 x.2.1 ∧ x.2.2 ≠ [] ∧ Sz x.2.2) ∧ (((0 : Nat) = (0 : Nat) ∧ Is (AV.lit (3 : Nat) (1 : Nat) (rowsCell [[i64 (1 : Int)], [i64 (1 : Int)], [i64 (2 : Int)]])) (ints x.2.2) ∧ True) ∧ (Is (byts x_2.1) (byts x.1) ∧ y_2.2 = x.2.1 ∧ True) ∧ True) ∧ ∀ (y_3 : Int),
 y_3 ∈ x.2.2 →
 ∃ x_3 : AX,
 (Rd (137438953472 : Int) x_3.1 x_3.2.1 ∧ x_3.2.1 + (↑(Pl.CB x_3.2.2.2.2.toNat) : Int) ≤ (137438953472 : Int) ∧ Pl.SgB (5 : Nat) (2 : Nat) x_3.2.2.1 ∧ x_3.2.2.2.2 ≤ (4 : Int)) ∧ (((0 : Nat) = (0 : Nat) ∧ (Is (syms s) (syms x_3.2.2.1) ∧ True) ∧ y = x_3.2.2.2.1 ∧ y_3 = x_3.2.2.2.2 ∧ True) ∧ (Is (byts x.1) (byts x_3.1) ∧ x.2.1 + (1 : Int) = x_3.2.1 ∧ True) ∧ True) ∧ ∀ (y : Pl.TP × Int),
 Pl.TmB (Pl.CB x_3.2.2.2.2.toNat) y.1 ∧ x_3.2.1 ≤ y.2 ∧ y.2 ≤ x_3.2.1 + (↑(Pl.CB x_3.2.2.2.2.toNat) : Int) →
 ∃ y_4 : Pl.Atm × Int,
 (Pl.AtB (3 : Nat) y_4.1 ∧ p ≤ y_4.2 ∧ y_4.2 ≤ p + (500 : Int)) ∧ (0 : Nat) + y_2.1.2.length ≤ y_2.1.2.length ∧ (0 : Nat) + y.1.2.length ≤ y.1.2.length ∧ (((1 : Int) = y_4.1.1 ∧ y_2.1.1 = y_4.1.2.1.1 ∧ Is (terms y_2.1.2) (terms y_4.1.2.1.2) ∧ y.1.1 = y_4.1.2.2.1.1 ∧ Is (terms y.1.2) (terms y_4.1.2.2.1.2) ∧ ((0 : Nat) = (0 : Nat) ∧ (0 : Nat) = (0 : Nat) ∧ y_4.1.2.2.2.1.length = (0 : Nat)) ∧ ((0 : Nat) = (0 : Nat) ∧ (0 : Nat) = (0 : Nat) ∧ y_4.1.2.2.2.2.1.length = (0 : Nat)) ∧ (0 : Int) = y_4.1.2.2.2.2.2.1 ∧ false = y_4.1.2.2.2.2.2.2 ∧ True) ∧ True) ∧ (Is (byts x_3.1) (byts b) ∧ y.2 = y_4.2 ∧ True) ∧ y_4.1.2.2.2.1.length = (0 : Nat) ∧ y_4.1.2.2.2.2.1.length = (0 : Nat) ∧ True) ∧ ∃ x : List Int × Int × List Int,
 (Rd (1099511627776 : Int) x.1 x.2.1 ∧ x.2.2 ≠ [] ∧ Sz x.2.2) ∧ (((0 : Nat) = (0 : Nat) ∧ Is (AV.lit (3 : Nat) (1 : Nat) (rowsCell [[i64 (1 : Int)], [i64 (1 : Int)], [i64 (2 : Int)]])) (ints x.2.2) ∧ True) ∧ (Is (byts x_2.1) (byts x.1) ∧ y_2.2 = x.2.1 ∧ True) ∧ True) ∧ ∀ (y_3 : Int),
 y_3 ∈ x.2.2 →
 ∃ x_3 : AX,
 (Rd (137438953472 : Int) x_3.1 x_3.2.1 ∧ x_3.2.1 + (↑(Pl.CB x_3.2.2.2.2.toNat) : Int) ≤ (137438953472 : Int) ∧ Pl.SgB (5 : Nat) (2 : Nat) x_3.2.2.1 ∧ x_3.2.2.2.2 ≤ (4 : Int)) ∧ (((0 : Nat) = (0 : Nat) ∧ (Is (syms s) (syms x_3.2.2.1) ∧ True) ∧ y = x_3.2.2.2.1 ∧ y_3 = x_3.2.2.2.2 ∧ True) ∧ (Is (byts x.1) (byts x_3.1) ∧ x.2.1 + (1 : Int) = x_3.2.1 ∧ True) ∧ True) ∧ ∀ (y : Pl.TP × Int),
 Pl.TmB (Pl.CB x_3.2.2.2.2.toNat) y.1 ∧ x_3.2.1 ≤ y.2 ∧ y.2 ≤ x_3.2.1 + (↑(Pl.CB x_3.2.2.2.2.toNat) : Int) →
 ∃ y_4 : Pl.Atm × Int,
 (Pl.AtB (3 : Nat) y_4.1 ∧ p ≤ y_4.2 ∧ y_4.2 ≤ p + (500 : Int)) ∧ (0 : Nat) + y_2.1.2.length ≤ y_2.1.2.length ∧ (0 : Nat) + y.1.2.length ≤ y.1.2.length ∧ (((1 : Int) = y_4.1.1 ∧ y_2.1.1 = y_4.1.2.1.1 ∧ Is (terms y_2.1.2) (terms y_4.1.2.1.2) ∧ y.1.1 = y_4.1.2.2.1.1 ∧ Is (terms y.1.2) (terms y_4.1.2.2.1.2) ∧ ((0 : Nat) = (0 : Nat) ∧ (0 : Nat) = (0 : Nat) ∧ y_4.1.2.2.2.1.length = (0 : Nat)) ∧ ((0 : Nat) = (0 : Nat) ∧ (0 : Nat) = (0 : Nat) ∧ y_4.1.2.2.2.2.1.length = (0 : Nat)) ∧ (0 : Int) = y_4.1.2.2.2.2.2.1 ∧ false = y_4.1.2.2.2.2.2.2 ∧ True) ∧ True) ∧ (Is (byts x_3.1) (byts b) ∧ y.2 = y_4.2 ∧ True) ∧ y_4.1.2.2.2.1.length = (0 : Nat) ∧ y_4.1.2.2.2.2.1.length = (0 : Nat) ∧ True) ∧ ∃ x_2 : AX,
 (Rd (137438953472 : Int) x_2.1 x_2.2.1 ∧ x_2.2.1 + (↑(Pl.CB x_2.2.2.2.2.toNat) : Int) ≤ (137438953472 : Int) ∧ Pl.SgB (5 : Nat) (2 : Nat) x_2.2.2.1 ∧ x_2.2.2.2.2 ≤ (4 : Int)) ∧ (((0 : Nat) = (0 : Nat) ∧ (Is (syms s) (syms x_2.2.2.1) ∧ True) ∧ y = x_2.2.2.2.1 ∧ y_1 = x_2.2.2.2.2 ∧ True) ∧ (Is (byts x.1) (byts x_2.1) ∧ x.2.1 + (1 : Int) = x_2.2.1 ∧ True) ∧ True) ∧ ∀ (y_2 : Pl.TP × Int),
 Pl.TmB (Pl.CB x_2.2.2.2.2.toNat) y_2.1 ∧ x_2.2.1 ≤ y_2.2 ∧ y_2.2 ≤ x_2.2.1 + (↑(Pl.CB x_2.2.2.2.2.toNat) : Int) →
 ∃ x : List Int × Int × List Int,
 (Rd (1099511627776 : Int) x.1 x.2.1 ∧ x.2.2 ≠ [] ∧ Sz x.2.2) ∧ (((0 : Nat) = (0 : Nat) ∧ Is (AV.lit (3 : Nat) (1 : Nat) (rowsCell [[i64 (1 : Int)], [i64 (1 : Int)], [i64 (2 : Int)]])) (ints x.2.2) ∧ True) ∧ (Is (byts x_2.1) (byts x.1) ∧ y_2.2 = x.2.1 ∧ True) ∧ True) ∧ ∀ (y_3 : Int),
 y_3 ∈ x.2.2 →
 ∃ x_3 : AX,
 (Rd (137438953472 : Int) x_3.1 x_3.2.1 ∧ x_3.2.1 + (↑(Pl.CB x_3.2.2.2.2.toNat) : Int) ≤ (137438953472 : Int) ∧ Pl.SgB (5 : Nat) (2 : Nat) x_3.2.2.1 ∧ x_3.2.2.2.2 ≤ (4 : Int)) ∧ (((0 : Nat) = (0 : Nat) ∧ (Is (syms s) (syms x_3.2.2.1) ∧ True) ∧ y = x_3.2.2.2.1 ∧ y_3 = x_3.2.2.2.2 ∧ True) ∧ (Is (byts x.1) (byts x_3.1) ∧ x.2.1 + (1 : Int) = x_3.2.1 ∧ True) ∧ True) ∧ ∀ (y : Pl.TP × Int),
 Pl.TmB (Pl.CB x_3.2.2.2.2.toNat) y.1 ∧ x_3.2.1 ≤ y.2 ∧ y.2 ≤ x_3.2.1 + (↑(Pl.CB x_3.2.2.2.2.toNat) : Int) →
 ∃ y_4 : Pl.Atm × Int,
 (Pl.AtB (3 : Nat) y_4.1 ∧ p ≤ y_4.2 ∧ y_4.2 ≤ p + (500 : Int)) ∧ (0 : Nat) + y_2.1.2.length ≤ y_2.1.2.length ∧ (0 : Nat) + y.1.2.length ≤ y.1.2.length ∧ (((1 : Int) = y_4.1.1 ∧ y_2.1.1 = y_4.1.2.1.1 ∧ Is (terms y_2.1.2) (terms y_4.1.2.1.2) ∧ y.1.1 = y_4.1.2.2.1.1 ∧ Is (terms y.1.2) (terms y_4.1.2.2.1.2) ∧ ((0 : Nat) = (0 : Nat) ∧ (0 : Nat) = (0 : Nat) ∧ y_4.1.2.2.2.1.length = (0 : Nat)) ∧ ((0 : Nat) = (0 : Nat) ∧ (0 : Nat) = (0 : Nat) ∧ y_4.1.2.2.2.2.1.length = (0 : Nat)) ∧ (0 : Int) = y_4.1.2.2.2.2.2.1 ∧ false = y_4.1.2.2.2.2.2.2 ∧ True) ∧ True) ∧ (Is (byts x_3.1) (byts b) ∧ y.2 = y_4.2 ∧ True) ∧ y_4.1.2.2.2.1.length = (0 : Nat) ∧ y_4.1.2.2.2.2.1.length = (0 : Nat) ∧ True) ∧ ∃ x_2 : AX,
 (Rd (137438953472 : Int) x_2.1 x_2.2.1 ∧ x_2.2.1 + (↑(Pl.CB x_2.2.2.2.2.toNat) : Int) ≤ (137438953472 : Int) ∧ Pl.SgB (5 : Nat) (2 : Nat) x_2.2.2.1 ∧ x_2.2.2.2.2 ≤ (4 : Int)) ∧ (((0 : Nat) = (0 : Nat) ∧ (Is (syms s) (syms x_2.2.2.1) ∧ True) ∧ y = x_2.2.2.2.1 ∧ y_1 = x_2.2.2.2.2 ∧ True) ∧ (Is (byts x.1) (byts x_2.1) ∧ x.2.1 + (1 : Int) = x_2.2.1 ∧ True) ∧ True) ∧ ∀ (y_2 : Pl.TP × Int),
 Pl.TmB (Pl.CB x_2.2.2.2.2.toNat) y_2.1 ∧ x_2.2.1 ≤ y_2.2 ∧ y_2.2 ≤ x_2.2.1 + (↑(Pl.CB x_2.2.2.2.2.toNat) : Int) →
 ∃ x : List Int × Int × List Int,
 (Rd (1099511627776 : Int) x.1 x.2.1 ∧ x.2.2 ≠ [] ∧ Sz x.2.2) ∧ (((0 : Nat) = (0 : Nat) ∧ Is (AV.lit (3 : Nat) (1 : Nat) (rowsCell [[i64 (1 : Int)], [i64 (1 : Int)], [i64 (2 : Int)]])) (ints x.2.2) ∧ True) ∧ (Is (byts x_2.1) (byts x.1) ∧ y_2.2 = x.2.1 ∧ True) ∧ True) ∧ ∀ (y_3 : Int),
 y_3 ∈ x.2.2 →
 ∃ x_3 : AX,
 (Rd (137438953472 : Int) x_3.1 x_3.2.1 ∧ x_3.2.1 + (↑(Pl.CB x_3.2.2.2.2.toNat) : Int) ≤ (137438953472 : Int) ∧ Pl.SgB (5 : Nat) (2 : Nat) x_3.2.2.1 ∧ x_3.2.2.2.2 ≤ (4 : Int)) ∧ (((0 : Nat) = (0 : Nat) ∧ (Is (syms s) (syms x_3.2.2.1) ∧ True) ∧ y = x_3.2.2.2.1 ∧ y_3 = x_3.2.2.2.2 ∧ True) ∧ (Is (byts x.1) (byts x_3.1) ∧ x.2.1 + (1 : Int) = x_3.2.1 ∧ True) ∧ True) ∧ ∀ (y : Pl.TP × Int),
 Pl.TmB (Pl.CB x_3.2.2.2.2.toNat) y.1 ∧ x_3.2.1 ≤ y.2 ∧ y.2 ≤ x_3.2.1 + (↑(Pl.CB x_3.2.2.2.2.toNat) : Int) →
 ∃ y_4 : Pl.Atm × Int,
 (Pl.AtB (3 : Nat) y_4.1 ∧ p ≤ y_4.2 ∧ y_4.2 ≤ p + (500 : Int)) ∧ (0 : Nat) + y_2.1.2.length ≤ y_2.1.2.length ∧ (0 : Nat) + y.1.2.length ≤ y.1.2.length ∧ (((1 : Int) = y_4.1.1 ∧ y_2.1.1 = y_4.1.2.1.1 ∧ Is (terms y_2.1.2) (terms y_4.1.2.1.2) ∧ y.1.1 = y_4.1.2.2.1.1 ∧ Is (terms y.1.2) (terms y_4.1.2.2.1.2) ∧ ((0 : Nat) = (0 : Nat) ∧ (0 : Nat) = (0 : Nat) ∧ y_4.1.2.2.2.1.length = (0 : Nat)) ∧ ((0 : Nat) = (0 : Nat) ∧ (0 : Nat) = (0 : Nat) ∧ y_4.1.2.2.2.2.1.length = (0 : Nat)) ∧ (0 : Int) = y_4.1.2.2.2.2.2.1 ∧ false = y_4.1.2.2.2.2.2.2 ∧ True) ∧ True) ∧ (Is (byts x_3.1) (byts b) ∧ y.2 = y_4.2 ∧ True) ∧ y_4.1.2.2.2.1.length = (0 : Nat) ∧ y_4.1.2.2.2.2.1.length = (0 : Nat) ∧ True) ∧ (∃ x : List Int × Int × List Int,
 (Rd (1099511627776 : Int) x.1 x.2.1 ∧ x.2.2 ≠ [] ∧ Sz x.2.2) ∧ (((0 : Nat) = (0 : Nat) ∧ Is (AV.lit (2 : Nat) (1 : Nat) (rowsCell [[i64 (1 : Int)], [i64 (2 : Int)]])) (ints x.2.2) ∧ True) ∧ (Is (byts x_1.1) (byts x.1) ∧ x_1.2.1 + (1 : Int) = x.2.1 ∧ True) ∧ True) ∧ ∀ (y_1 : Int),
 y_1 ∈ x.2.2 →
 ∃ x_2 : AX,
 (Rd (137438953472 : Int) x_2.1 x_2.2.1 ∧ x_2.2.1 + (↑(Pl.CB x_2.2.2.2.2.toNat) : Int) ≤ (137438953472 : Int) ∧ Pl.SgB (5 : Nat) (2 : Nat) x_2.2.2.1 ∧ x_2.2.2.2.2 ≤ (4 : Int)) ∧ (((0 : Nat) = (0 : Nat) ∧ (Is (syms s) (syms x_2.2.2.1) ∧ True) ∧ y = x_2.2.2.2.1 ∧ y_1 = x_2.2.2.2.2 ∧ True) ∧ (Is (byts x.1) (byts x_2.1) ∧ x.2.1 + (1 : Int) = x_2.2.1 ∧ True) ∧ True) ∧ ∀ (y_2 : Pl.TP × Int),
 Pl.TmB (Pl.CB x_2.2.2.2.2.toNat) y_2.1 ∧ x_2.2.1 ≤ y_2.2 ∧ y_2.2 ≤ x_2.2.1 + (↑(Pl.CB x_2.2.2.2.2.toNat) : Int) →
 ∃ x : List Int × Int × List Int,
 (Rd (1099511627776 : Int) x.1 x.2.1 ∧ x.2.2 ≠ [] ∧ Sz x.2.2) ∧ (((0 : Nat) = (0 : Nat) ∧ Is (AV.lit (3 : Nat) (1 : Nat) (rowsCell [[i64 (1 : Int)], [i64 (1 : Int)], [i64 (2 : Int)]])) (ints x.2.2) ∧ True) ∧ (Is (byts x_2.1) (byts x.1) ∧ y_2.2 = x.2.1 ∧ True) ∧ True) ∧ ∀ (y_3 : Int),
 y_3 ∈ x.2.2 →
 ∃ x_3 : AX,
 (Rd (137438953472 : Int) x_3.1 x_3.2.1 ∧ x_3.2.1 + (↑(Pl.CB x_3.2.2.2.2.toNat) : Int) ≤ (137438953472 : Int) ∧ Pl.SgB (5 : Nat) (2 : Nat) x_3.2.2.1 ∧ x_3.2.2.2.2 ≤ (4 : Int)) ∧ (((0 : Nat) = (0 : Nat) ∧ (Is (syms s) (syms x_3.2.2.1) ∧ True) ∧ y = x_3.2.2.2.1 ∧ y_3 = x_3.2.2.2.2 ∧ True) ∧ (Is (byts x.1) (byts x_3.1) ∧ x.2.1 + (1 : Int) = x_3.2.1 ∧ True) ∧ True) ∧ ∀ (y : Pl.TP × Int),
 Pl.TmB (Pl.CB x_3.2.2.2.2.toNat) y.1 ∧ x_3.2.1 ≤ y.2 ∧ y.2 ≤ x_3.2.1 + (↑(Pl.CB x_3.2.2.2.2.toNat) : Int) →
 ∃ y_4 : Pl.Atm × Int,
 (Pl.AtB (3 : Nat) y_4.1 ∧ p ≤ y_4.2 ∧ y_4.2 ≤ p + (500 : Int)) ∧ (0 : Nat) + y_2.1.2.length ≤ y_2.1.2.length ∧ (0 : Nat) + y.1.2.length ≤ y.1.2.length ∧ (((1 : Int) = y_4.1.1 ∧ y_2.1.1 = y_4.1.2.1.1 ∧ Is (terms y_2.1.2) (terms y_4.1.2.1.2) ∧ y.1.1 = y_4.1.2.2.1.1 ∧ Is (terms y.1.2) (terms y_4.1.2.2.1.2) ∧ ((0 : Nat) = (0 : Nat) ∧ (0 : Nat) = (0 : Nat) ∧ y_4.1.2.2.2.1.length = (0 : Nat)) ∧ ((0 : Nat) = (0 : Nat) ∧ (0 : Nat) = (0 : Nat) ∧ y_4.1.2.2.2.2.1.length = (0 : Nat)) ∧ (0 : Int) = y_4.1.2.2.2.2.2.1 ∧ false = y_4.1.2.2.2.2.2.2 ∧ True) ∧ True) ∧ (Is (byts x_3.1) (byts b) ∧ y.2 = y_4.2 ∧ True) ∧ y_4.1.2.2.2.1.length = (0 : Nat) ∧ y_4.1.2.2.2.2.1.length = (0 : Nat) ∧ True) ∧ ∃ x : List Int × Int × List Int,
 (Rd (1099511627776 : Int) x.1 x.2.1 ∧ x.2.2 ≠ [] ∧ Sz x.2.2) ∧ (((0 : Nat) = (0 : Nat) ∧ Is (AV.lit (2 : Nat) (1 : Nat) (rowsCell [[i64 (1 : Int)], [i64 (2 : Int)]])) (ints x.2.2) ∧ True) ∧ (Is (byts x_1.1) (byts x.1) ∧ x_1.2.1 + (1 : Int) = x.2.1 ∧ True) ∧ True) ∧ ∀ (y_1 : Int),
 y_1 ∈ x.2.2 →
 ∃ x_2 : AX,
 (Rd (137438953472 : Int) x_2.1 x_2.2.1 ∧ x_2.2.1 + (↑(Pl.CB x_2.2.2.2.2.toNat) : Int) ≤ (137438953472 : Int) ∧ Pl.SgB (5 : Nat) (2 : Nat) x_2.2.2.1 ∧ x_2.2.2.2.2 ≤ (4 : Int)) ∧ (((0 : Nat) = (0 : Nat) ∧ (Is (syms s) (syms x_2.2.2.1) ∧ True) ∧ y = x_2.2.2.2.1 ∧ y_1 = x_2.2.2.2.2 ∧ True) ∧ (Is (byts x.1) (byts x_2.1) ∧ x.2.1 + (1 : Int) = x_2.2.1 ∧ True) ∧ True) ∧ ∀ (y_2 : Pl.TP × Int),
 Pl.TmB (Pl.CB x_2.2.2.2.2.toNat) y_2.1 ∧ x_2.2.1 ≤ y_2.2 ∧ y_2.2 ≤ x_2.2.1 + (↑(Pl.CB x_2.2.2.2.2.toNat) : Int) →
 ∃ x : List Int × Int × List Int,
 (Rd (1099511627776 : Int) x.1 x.2.1 ∧ x.2.2 ≠ [] ∧ Sz x.2.2) ∧ (((0 : Nat) = (0 : Nat) ∧ Is (AV.lit (3 : Nat) (1 : Nat) (rowsCell [[i64 (1 : Int)], [i64 (1 : Int)], [i64 (2 : Int)]])) (ints x.2.2) ∧ True) ∧ (Is (byts x_2.1) (byts x.1) ∧ y_2.2 = x.2.1 ∧ True) ∧ True) ∧ ∀ (y_3 : Int),
 y_3 ∈ x.2.2 →
 ∃ x_3 : AX,
 (Rd (137438953472 : Int) x_3.1 x_3.2.1 ∧ x_3.2.1 + (↑(Pl.CB x_3.2.2.2.2.toNat) : Int) ≤ (137438953472 : Int) ∧ Pl.SgB (5 : Nat) (2 : Nat) x_3.2.2.1 ∧ x_3.2.2.2.2 ≤ (4 : Int)) ∧ (((0 : Nat) = (0 : Nat) ∧ (Is (syms s) (syms x_3.2.2.1) ∧ True) ∧ y = x_3.2.2.2.1 ∧ y_3 = x_3.2.2.2.2 ∧ True) ∧ (Is (byts x.1) (byts x_3.1) ∧ x.2.1 + (1 : Int) = x_3.2.1 ∧ True) ∧ True) ∧ ∀ (y : Pl.TP × Int),
 Pl.TmB (Pl.CB x_3.2.2.2.2.toNat) y.1 ∧ x_3.2.1 ≤ y.2 ∧ y.2 ≤ x_3.2.1 + (↑(Pl.CB x_3.2.2.2.2.toNat) : Int) →
 ∃ y_4 : Pl.Atm × Int,
 (Pl.AtB (3 : Nat) y_4.1 ∧ p ≤ y_4.2 ∧ y_4.2 ≤ p + (500 : Int)) ∧ (0 : Nat) + y_2.1.2.length ≤ y_2.1.2.length ∧ (0 : Nat) + y.1.2.length ≤ y.1.2.length ∧ (((1 : Int) = y_4.1.1 ∧ y_2.1.1 = y_4.1.2.1.1 ∧ Is (terms y_2.1.2) (terms y_4.1.2.1.2) ∧ y.1.1 = y_4.1.2.2.1.1 ∧ Is (terms y.1.2) (terms y_4.1.2.2.1.2) ∧ ((0 : Nat) = (0 : Nat) ∧ (0 : Nat) = (0 : Nat) ∧ y_4.1.2.2.2.1.length = (0 : Nat)) ∧ ((0 : Nat) = (0 : Nat) ∧ (0 : Nat) = (0 : Nat) ∧ y_4.1.2.2.2.2.1.length = (0 : Nat)) ∧ (0 : Int) = y_4.1.2.2.2.2.2.1 ∧ false = y_4.1.2.2.2.2.2.2 ∧ True) ∧ True) ∧ (Is (byts x_3.1) (byts b) ∧ y.2 = y_4.2 ∧ True) ∧ y_4.1.2.2.2.1.length = (0 : Nat) ∧ y_4.1.2.2.2.2.1.length = (0 : Nat) ∧ True)
 (∃ x_1 : List Int × Int × List Int,
 (Rd (1099511627776 : Int) x_1.1 x_1.2.1 ∧ x_1.2.2 ≠ [] ∧ Sz x_1.2.2) ∧ (((0 : Nat) = (0 : Nat) ∧ Is (AV.lit (6 : Nat) (1 : Nat) (rowsCell [[i64 (0 : Int)], [i64 (1 : Int)], [i64 (-1 : Int)], [i64 (2 : Int)], [i64 (3 : Int)], [i64 (-4 : Int)]]))
 (ints x_1.2.2) ∧ True) ∧ (Is (byts x.1) (byts x_1.1) ∧ x.2.1 + (1 : Int) = x_1.2.1 ∧ True) ∧ True) ∧ ∀ (y : Int),
 y ∈ x_1.2.2 →
 ∃ x : List Int × Int × Int,
 Rd (1099511627776 : Int) x.1 x.2.1 ∧ (((0 : Nat) = (0 : Nat) ∧ (3 : Int) = x.2.2 ∧ True) ∧ (Is (byts x_1.1) (byts x.1) ∧ x_1.2.1 + (1 : Int) = x.2.1 ∧ True) ∧ True) ∧ ∀ (y_1 : Int),
 ((1 : Int) ≤ x.2.2 → (0 : Int) ≤ y_1 ∧ y_1 < x.2.2) ∧ (x.2.2 < (1 : Int) → y_1 = (0 : Int)) →
 ∃ x_2 : List Int × Int × List Int,
 (Rd (1099511627776 : Int) x_2.1 x_2.2.1 ∧ x_2.2.2 ≠ [] ∧ Sz x_2.2.2) ∧ (((0 : Nat) = (0 : Nat) ∧ Is (AV.lit (4 : Nat) (1 : Nat) (rowsCell [[i64 (1 : Int)], [i64 (2 : Int)], [i64 (2 : Int)], [i64 (3 : Int)]])) (ints x_2.2.2) ∧ True) ∧ (Is (byts x.1) (byts x_2.1) ∧ x.2.1 + (1 : Int) = x_2.2.1 ∧ True) ∧ True) ∧ ∀ (y_2 : Int),
 y_2 ∈ x_2.2.2 →
 (∃ x : Int × List Pl.Tm × List Int × Int × Bool × Int,
 ((0 : Int) ≤ x.1 ∧ x.1 ≤ (3 : Int) ∧ (↑x.2.1.length : Int) + x.1 ≤ (3 : Int) ∧ x.2.2.1.length = x.2.1.length ∧ (∀ (t : Pl.Tm), t ∈ x.2.1 → Pl.costT t ≤ (400 : Nat)) ∧ p ≤ x.2.2.2.2.2 ∧ x.2.2.2.2.2 + (100 : Int) * x.1 ≤ p + (310 : Int)) ∧ ((0 : Nat) = (0 : Nat) ∧ (0 : Nat) = (0 : Nat) ∧ (0 : Nat) = (0 : Nat) ∧ (0 : Nat) = (0 : Nat) ∧ y_2 = x.1 ∧ True) ∧ (Is (byts x_2.1) (byts b) ∧ x_2.2.1 + (1 : Int) = x.2.2.2.2.2 ∧ True) ∧ (Is (syms s) (syms s) ∧ True) ∧ ((0 : Int) = (0 : Int) ∧ ByteArray.mk #[] = ByteArray.empty ∧ Is (AV.lit (0 : Nat) (1 : Nat) fun (x x_3 : Nat) => AV.any) nilA ∧ ByteArray.mk #[] = ByteArray.empty ∧ Is (AV.lit (0 : Nat) (1 : Nat) fun (x x_3 : Nat) => AV.any) nilA ∧ Is (AV.lit (0 : Nat) (1 : Nat) fun (x x_3 : Nat) => AV.any) nilA ∧ Is (AV.lit (0 : Nat) (1 : Nat) fun (x x_3 : Nat) => AV.any) nilA ∧ (0 : Int) = (0 : Int) ∧ false = false ∧ True) ∧ ((2 : Int) = (2 : Int) ∧ ByteArray.mk #[] = ByteArray.empty ∧ Is (AV.lit (0 : Nat) (1 : Nat) fun (x x_3 : Nat) => AV.any) (terms []) ∧ ByteArray.mk #[] = ByteArray.empty ∧ Is (AV.lit (0 : Nat) (1 : Nat) fun (x x_3 : Nat) => AV.any) (terms []) ∧ ((0 : Nat) = (0 : Nat) ∧ (0 : Nat) = (0 : Nat) ∧ x.2.1.length = (0 : Nat)) ∧ ((0 : Nat) = (0 : Nat) ∧ (0 : Nat) = (0 : Nat) ∧ x.2.2.1.length = (0 : Nat)) ∧ y = x.2.2.2.1 ∧ (y_1 == (0 : Int)) = x.2.2.2.2.1 ∧ True) ∧ x.2.1.length = (0 : Nat) ∧ x.2.2.1.length = (0 : Nat) ∧ True) ∧ ∀ (x : Int × List Pl.Tm × List Int × Int × Bool × Int),
 (0 : Int) ≤ x.1 ∧ x.1 ≤ (3 : Int) ∧ (↑x.2.1.length : Int) + x.1 ≤ (3 : Int) ∧ x.2.2.1.length = x.2.1.length ∧ (∀ (t : Pl.Tm), t ∈ x.2.1 → Pl.costT t ≤ (400 : Nat)) ∧ p ≤ x.2.2.2.2.2 ∧ x.2.2.2.2.2 + (100 : Int) * x.1 ≤ p + (310 : Int) →
 condP (decide (x.1 > (0 : Int)))
 (((∃ x_3 : List Int × Int × List Int,
 (Rd (1099511627776 : Int) x_3.1 x_3.2.1 ∧ x_3.2.2 ≠ [] ∧ Sz x_3.2.2) ∧ (((0 : Nat) = (0 : Nat) ∧ Is (AV.lit (3 : Nat) (1 : Nat) (rowsCell [[i64 (1 : Int)], [i64 (1 : Int)], [i64 (2 : Int)]])) (ints x_3.2.2) ∧ True) ∧ (Is (byts b) (byts x_3.1) ∧ x.2.2.2.2.2 = x_3.2.1 ∧ True) ∧ True) ∧ ∀ (y : Int),
 y ∈ x_3.2.2 →
 ∃ x_4 : AX,
 (Rd (137438953472 : Int) x_4.1 x_4.2.1 ∧ x_4.2.1 + (↑(Pl.CB x_4.2.2.2.2.toNat) : Int) ≤ (137438953472 : Int) ∧ Pl.SgB (5 : Nat) (2 : Nat) x_4.2.2.1 ∧ x_4.2.2.2.2 ≤ (4 : Int)) ∧ (((0 : Nat) = (0 : Nat) ∧ (Is (syms s) (syms x_4.2.2.1) ∧ True) ∧ (1 : Int) = x_4.2.2.2.1 ∧ y = x_4.2.2.2.2 ∧ True) ∧ (Is (byts x_3.1) (byts x_4.1) ∧ x_3.2.1 + (1 : Int) = x_4.2.1 ∧ True) ∧ True) ∧ ∀ (y : Pl.TP × Int),
 Pl.TmB (Pl.CB x_4.2.2.2.2.toNat) y.1 ∧ x_4.2.1 ≤ y.2 ∧ y.2 ≤ x_4.2.1 + (↑(Pl.CB x_4.2.2.2.2.toNat) : Int) →
 ∃ x_5 : List Int × Int × List Int,
 (Rd (1099511627776 : Int) x_5.1 x_5.2.1 ∧ x_5.2.2 ≠ [] ∧ Sz x_5.2.2) ∧ (((0 : Nat) = (0 : Nat) ∧ Is
 (AV.lit (6 : Nat) (1 : Nat)
 (rowsCell
 [[i64 (1 : Int)], [i64 (-1 : Int)], [i64 (1 : Int)], [i64 (-1 : Int)], [i64 (2 : Int)],
 [i64 (-2 : Int)]]))
 (ints x_5.2.2) ∧ True) ∧ (Is (byts x_4.1) (byts x_5.1) ∧ y.2 = x_5.2.1 ∧ True) ∧ True) ∧ ∀ (y_3 : Int),
 y_3 ∈ x_5.2.2 →
 (0 : Nat) + x.2.1.length ≤ x.2.1.length ∧ (0 : Nat) + x.2.2.1.length ≤ x.2.2.1.length ∧ (0 : Nat) + y.1.2.length ≤ y.1.2.length ∧ ∃ x_6 : Pl.Atm × Pl.TP × Int,
 (SmA x_6.1 ∧ SmT (Pl.Tree.mk x_6.2.1.1 x_6.2.1.2) ∧ x_6.1.2.2.2.1.length ≤ (100 : Nat) ∧ x_6.1.2.2.2.2.1.length = x_6.1.2.2.2.1.length) ∧ ((((2 : Int) = x_6.1.1 ∧ ByteArray.empty = x_6.1.2.1.1 ∧ Is
 (AV.sl ((0 : Nat)) (2 : Nat) fun (i j : Nat) => eT (Pl.Tree.mk ByteArray.empty []) j)
 (terms x_6.1.2.1.2) ∧ ByteArray.empty = x_6.1.2.2.1.1 ∧ Is
 (AV.sl ((0 : Nat)) (2 : Nat) fun (i j : Nat) =>
 eT (Pl.Tree.mk ByteArray.empty []) j)
 (terms x_6.1.2.2.1.2) ∧ Is (terms x.2.1) (terms x_6.1.2.2.2.1) ∧ Is (ints x.2.2.1) (ints x_6.1.2.2.2.2.1) ∧ x.2.2.2.1 = x_6.1.2.2.2.2.2.1 ∧ x.2.2.2.2.1 = x_6.1.2.2.2.2.2.2 ∧ True) ∧ (y.1.1 = x_6.2.1.1 ∧ Is (terms y.1.2) (terms x_6.2.1.2) ∧ True) ∧ y_3 = x_6.2.2 ∧ True) ∧ True) ∧ ∀ (y : List Pl.Tm × List Int),
 Pl.PutB x_6.1.2.2.2.1 (Pl.Tree.mk x_6.2.1.1 x_6.2.1.2)
 (x_6.1.2.2.2.1.length + (1 : Nat)) y.1 y.2 →
 Exists fun (x' : Int × List Pl.Tm × List Int × Int × Bool × Int) =>
 ((0 : Int) ≤ x'.1 ∧ x'.1 ≤ (3 : Int) ∧ (↑x'.2.1.length : Int) + x'.1 ≤ (3 : Int) ∧ x'.2.2.1.length = x'.2.1.length ∧ (∀ (t : Pl.Tm), t ∈ x'.2.1 → Pl.costT t ≤ (400 : Nat)) ∧ p ≤ x'.2.2.2.2.2 ∧ x'.2.2.2.2.2 + (100 : Int) * x'.1 ≤ p + (310 : Int)) ∧ x'.1.toNat < x.1.toNat ∧ ((0 : Nat) = (0 : Nat) ∧ (0 : Nat) = (0 : Nat) ∧ (0 : Nat) = (0 : Nat) ∧ (0 : Nat) = (0 : Nat) ∧ IntKind.i64.wrap (x.1 - (1 : Int)) = x'.1 ∧ True) ∧ (Is (byts x_5.1) (byts b) ∧ x_5.2.1 + (1 : Int) = x'.2.2.2.2.2 ∧ True) ∧ (Is (syms s) (syms s) ∧ True) ∧ ((0 : Int) = (0 : Int) ∧ ByteArray.empty = ByteArray.empty ∧ Is (AV.lit (0 : Nat) (1 : Nat) fun (x x_7 : Nat) => AV.any) nilA ∧ ByteArray.empty = ByteArray.empty ∧ Is (AV.lit (0 : Nat) (1 : Nat) fun (x x_7 : Nat) => AV.any) nilA ∧ Is (AV.lit (0 : Nat) (1 : Nat) fun (x x_7 : Nat) => AV.any)
 nilA ∧ Is (AV.lit (0 : Nat) (1 : Nat) fun (x x_7 : Nat) => AV.any)
 nilA ∧ (0 : Int) = (0 : Int) ∧ false = false ∧ True) ∧ ((x_6.1.1, Pl.noTP, Pl.noTP, y.1, y.2, x_6.1.2.2.2.2.2.1,
 x_6.1.2.2.2.2.2.2).1 =
 (2 : Int) ∧ ByteArray.mk #[] = ByteArray.empty ∧ Is
 (AV.sl ((0 : Nat)) (2 : Nat) fun (i j : Nat) =>
 eT (Pl.Tree.mk ByteArray.empty []) j)
 (terms []) ∧ ByteArray.mk #[] = ByteArray.empty ∧ Is
 (AV.sl ((0 : Nat)) (2 : Nat) fun (i j : Nat) =>
 eT (Pl.Tree.mk ByteArray.empty []) j)
 (terms []) ∧ ((0 : Nat) = (0 : Nat) ∧ (y.1, y.2, x_6.1.2.2.2.2.2.1,
 x_6.1.2.2.2.2.2.2).1.length =
 x'.2.1.length) ∧ ((0 : Nat) = (0 : Nat) ∧ (y.2, x_6.1.2.2.2.2.2.1,
 x_6.1.2.2.2.2.2.2).1.length =
 x'.2.2.1.length) ∧ (x_6.1.2.2.2.2.2.1,
 x_6.1.2.2.2.2.2.2).1 =
 x'.2.2.2.1 ∧ (x_6.1.2.2.2.2.2.1,
 x_6.1.2.2.2.2.2.2).2 =
 x'.2.2.2.2.1 ∧ True) ∧ IsO (arT y.1) (arT x'.2.1) ∧ IsO (arI y.2) (arI x'.2.2.1) ∧ True) ∧ ∃ x_3 : List Int × Int × List Int,
 (Rd (1099511627776 : Int) x_3.1 x_3.2.1 ∧ x_3.2.2 ≠ [] ∧ Sz x_3.2.2) ∧ (((0 : Nat) = (0 : Nat) ∧ Is (AV.lit (3 : Nat) (1 : Nat) (rowsCell [[i64 (1 : Int)], [i64 (1 : Int)], [i64 (2 : Int)]])) (ints x_3.2.2) ∧ True) ∧ (Is (byts b) (byts x_3.1) ∧ x.2.2.2.2.2 = x_3.2.1 ∧ True) ∧ True) ∧ ∀ (y : Int),
 y ∈ x_3.2.2 →
 ∃ x_4 : AX,
 (Rd (137438953472 : Int) x_4.1 x_4.2.1 ∧ x_4.2.1 + (↑(Pl.CB x_4.2.2.2.2.toNat) : Int) ≤ (137438953472 : Int) ∧ Pl.SgB (5 : Nat) (2 : Nat) x_4.2.2.1 ∧ x_4.2.2.2.2 ≤ (4 : Int)) ∧ (((0 : Nat) = (0 : Nat) ∧ (Is (syms s) (syms x_4.2.2.1) ∧ True) ∧ (1 : Int) = x_4.2.2.2.1 ∧ y = x_4.2.2.2.2 ∧ True) ∧ (Is (byts x_3.1) (byts x_4.1) ∧ x_3.2.1 + (1 : Int) = x_4.2.1 ∧ True) ∧ True) ∧ ∀ (y : Pl.TP × Int),
 Pl.TmB (Pl.CB x_4.2.2.2.2.toNat) y.1 ∧ x_4.2.1 ≤ y.2 ∧ y.2 ≤ x_4.2.1 + (↑(Pl.CB x_4.2.2.2.2.toNat) : Int) →
 ∃ x_5 : List Int × Int × List Int,
 (Rd (1099511627776 : Int) x_5.1 x_5.2.1 ∧ x_5.2.2 ≠ [] ∧ Sz x_5.2.2) ∧ (((0 : Nat) = (0 : Nat) ∧ Is
 (AV.lit (6 : Nat) (1 : Nat)
 (rowsCell
 [[i64 (1 : Int)], [i64 (-1 : Int)], [i64 (1 : Int)], [i64 (-1 : Int)], [i64 (2 : Int)],
 [i64 (-2 : Int)]]))
 (ints x_5.2.2) ∧ True) ∧ (Is (byts x_4.1) (byts x_5.1) ∧ y.2 = x_5.2.1 ∧ True) ∧ True) ∧ ∀ (y_3 : Int),
 y_3 ∈ x_5.2.2 →
 (0 : Nat) + x.2.1.length ≤ x.2.1.length ∧ (0 : Nat) + x.2.2.1.length ≤ x.2.2.1.length ∧ (0 : Nat) + y.1.2.length ≤ y.1.2.length ∧ ∃ x_6 : Pl.Atm × Pl.TP × Int,
 (SmA x_6.1 ∧ SmT (Pl.Tree.mk x_6.2.1.1 x_6.2.1.2) ∧ x_6.1.2.2.2.1.length ≤ (100 : Nat) ∧ x_6.1.2.2.2.2.1.length = x_6.1.2.2.2.1.length) ∧ ((((2 : Int) = x_6.1.1 ∧ ByteArray.empty = x_6.1.2.1.1 ∧ Is
 (AV.sl ((0 : Nat)) (2 : Nat) fun (i j : Nat) => eT (Pl.Tree.mk ByteArray.empty []) j)
 (terms x_6.1.2.1.2) ∧ ByteArray.empty = x_6.1.2.2.1.1 ∧ Is
 (AV.sl ((0 : Nat)) (2 : Nat) fun (i j : Nat) =>
 eT (Pl.Tree.mk ByteArray.empty []) j)
 (terms x_6.1.2.2.1.2) ∧ Is (terms x.2.1) (terms x_6.1.2.2.2.1) ∧ Is (ints x.2.2.1) (ints x_6.1.2.2.2.2.1) ∧ x.2.2.2.1 = x_6.1.2.2.2.2.2.1 ∧ x.2.2.2.2.1 = x_6.1.2.2.2.2.2.2 ∧ True) ∧ (y.1.1 = x_6.2.1.1 ∧ Is (terms y.1.2) (terms x_6.2.1.2) ∧ True) ∧ y_3 = x_6.2.2 ∧ True) ∧ True) ∧ ∀ (y : List Pl.Tm × List Int),
 Pl.PutB x_6.1.2.2.2.1 (Pl.Tree.mk x_6.2.1.1 x_6.2.1.2)
 (x_6.1.2.2.2.1.length + (1 : Nat)) y.1 y.2 →
 Exists fun (x' : Int × List Pl.Tm × List Int × Int × Bool × Int) =>
 ((0 : Int) ≤ x'.1 ∧ x'.1 ≤ (3 : Int) ∧ (↑x'.2.1.length : Int) + x'.1 ≤ (3 : Int) ∧ x'.2.2.1.length = x'.2.1.length ∧ (∀ (t : Pl.Tm), t ∈ x'.2.1 → Pl.costT t ≤ (400 : Nat)) ∧ p ≤ x'.2.2.2.2.2 ∧ x'.2.2.2.2.2 + (100 : Int) * x'.1 ≤ p + (310 : Int)) ∧ x'.1.toNat < x.1.toNat ∧ ((0 : Nat) = (0 : Nat) ∧ (0 : Nat) = (0 : Nat) ∧ (0 : Nat) = (0 : Nat) ∧ (0 : Nat) = (0 : Nat) ∧ IntKind.i64.wrap (x.1 - (1 : Int)) = x'.1 ∧ True) ∧ (Is (byts x_5.1) (byts b) ∧ x_5.2.1 + (1 : Int) = x'.2.2.2.2.2 ∧ True) ∧ (Is (syms s) (syms s) ∧ True) ∧ ((0 : Int) = (0 : Int) ∧ ByteArray.empty = ByteArray.empty ∧ Is (AV.lit (0 : Nat) (1 : Nat) fun (x x_7 : Nat) => AV.any) nilA ∧ ByteArray.empty = ByteArray.empty ∧ Is (AV.lit (0 : Nat) (1 : Nat) fun (x x_7 : Nat) => AV.any) nilA ∧ Is (AV.lit (0 : Nat) (1 : Nat) fun (x x_7 : Nat) => AV.any)
 nilA ∧ Is (AV.lit (0 : Nat) (1 : Nat) fun (x x_7 : Nat) => AV.any)
 nilA ∧ (0 : Int) = (0 : Int) ∧ false = false ∧ True) ∧ ((x_6.1.1, Pl.noTP, Pl.noTP, y.1, y.2, x_6.1.2.2.2.2.2.1,
 x_6.1.2.2.2.2.2.2).1 =
 (2 : Int) ∧ ByteArray.mk #[] = ByteArray.empty ∧ Is
 (AV.sl ((0 : Nat)) (2 : Nat) fun (i j : Nat) =>
 eT (Pl.Tree.mk ByteArray.empty []) j)
 (terms []) ∧ ByteArray.mk #[] = ByteArray.empty ∧ Is
 (AV.sl ((0 : Nat)) (2 : Nat) fun (i j : Nat) =>
 eT (Pl.Tree.mk ByteArray.empty []) j)
 (terms []) ∧ ((0 : Nat) = (0 : Nat) ∧ (y.1, y.2, x_6.1.2.2.2.2.2.1,
 x_6.1.2.2.2.2.2.2).1.length =
 x'.2.1.length) ∧ ((0 : Nat) = (0 : Nat) ∧ (y.2, x_6.1.2.2.2.2.2.1,
 x_6.1.2.2.2.2.2.2).1.length =
 x'.2.2.1.length) ∧ (x_6.1.2.2.2.2.2.1,
 x_6.1.2.2.2.2.2.2).1 =
 x'.2.2.2.1 ∧ (x_6.1.2.2.2.2.2.1,
 x_6.1.2.2.2.2.2.2).2 =
 x'.2.2.2.2.1 ∧ True) ∧ IsO (arT y.1) (arT x'.2.1) ∧ IsO (arI y.2) (arI x'.2.2.1) ∧ True) ∧ ((∃ x_3 : List Int × Int × List Int,
 (Rd (1099511627776 : Int) x_3.1 x_3.2.1 ∧ x_3.2.2 ≠ [] ∧ Sz x_3.2.2) ∧ (((0 : Nat) = (0 : Nat) ∧ Is (AV.lit (3 : Nat) (1 : Nat) (rowsCell [[i64 (1 : Int)], [i64 (1 : Int)], [i64 (2 : Int)]]))
 (ints x_3.2.2) ∧ True) ∧ (Is (byts b) (byts x_3.1) ∧ x.2.2.2.2.2 = x_3.2.1 ∧ True) ∧ True) ∧ ∀ (y : Int),
 y ∈ x_3.2.2 →
 ∃ x_4 : AX,
 (Rd (137438953472 : Int) x_4.1 x_4.2.1 ∧ x_4.2.1 + (↑(Pl.CB x_4.2.2.2.2.toNat) : Int) ≤ (137438953472 : Int) ∧ Pl.SgB (5 : Nat) (2 : Nat) x_4.2.2.1 ∧ x_4.2.2.2.2 ≤ (4 : Int)) ∧ (((0 : Nat) = (0 : Nat) ∧ (Is (syms s) (syms x_4.2.2.1) ∧ True) ∧ (1 : Int) = x_4.2.2.2.1 ∧ y = x_4.2.2.2.2 ∧ True) ∧ (Is (byts x_3.1) (byts x_4.1) ∧ x_3.2.1 + (1 : Int) = x_4.2.1 ∧ True) ∧ True) ∧ ∀ (y : Pl.TP × Int),
 Pl.TmB (Pl.CB x_4.2.2.2.2.toNat) y.1 ∧ x_4.2.1 ≤ y.2 ∧ y.2 ≤ x_4.2.1 + (↑(Pl.CB x_4.2.2.2.2.toNat) : Int) →
 ∃ x_5 : List Int × Int × List Int,
 (Rd (1099511627776 : Int) x_5.1 x_5.2.1 ∧ x_5.2.2 ≠ [] ∧ Sz x_5.2.2) ∧ (((0 : Nat) = (0 : Nat) ∧ Is
 (AV.lit (6 : Nat) (1 : Nat)
 (rowsCell
 [[i64 (1 : Int)], [i64 (-1 : Int)], [i64 (1 : Int)], [i64 (-1 : Int)], [i64 (2 : Int)],
 [i64 (-2 : Int)]]))
 (ints x_5.2.2) ∧ True) ∧ (Is (byts x_4.1) (byts x_5.1) ∧ y.2 = x_5.2.1 ∧ True) ∧ True) ∧ ∀ (y_3 : Int),
 y_3 ∈ x_5.2.2 →
 (0 : Nat) + x.2.1.length ≤ x.2.1.length ∧ (0 : Nat) + x.2.2.1.length ≤ x.2.2.1.length ∧ (0 : Nat) + y.1.2.length ≤ y.1.2.length ∧ ∃ x_6 : Pl.Atm × Pl.TP × Int,
 (SmA x_6.1 ∧ SmT (Pl.Tree.mk x_6.2.1.1 x_6.2.1.2) ∧ x_6.1.2.2.2.1.length ≤ (100 : Nat) ∧ x_6.1.2.2.2.2.1.length = x_6.1.2.2.2.1.length) ∧ ((((2 : Int) = x_6.1.1 ∧ ByteArray.empty = x_6.1.2.1.1 ∧ Is
 (AV.sl ((0 : Nat)) (2 : Nat) fun (i j : Nat) =>
 eT (Pl.Tree.mk ByteArray.empty []) j)
 (terms x_6.1.2.1.2) ∧ ByteArray.empty = x_6.1.2.2.1.1 ∧ Is
 (AV.sl ((0 : Nat)) (2 : Nat) fun (i j : Nat) =>
 eT (Pl.Tree.mk ByteArray.empty []) j)
 (terms x_6.1.2.2.1.2) ∧ Is (terms x.2.1) (terms x_6.1.2.2.2.1) ∧ Is (ints x.2.2.1) (ints x_6.1.2.2.2.2.1) ∧ x.2.2.2.1 = x_6.1.2.2.2.2.2.1 ∧ x.2.2.2.2.1 = x_6.1.2.2.2.2.2.2 ∧ True) ∧ (y.1.1 = x_6.2.1.1 ∧ Is (terms y.1.2) (terms x_6.2.1.2) ∧ True) ∧ y_3 = x_6.2.2 ∧ True) ∧ True) ∧ ∀ (y : List Pl.Tm × List Int),
 Pl.PutB x_6.1.2.2.2.1 (Pl.Tree.mk x_6.2.1.1 x_6.2.1.2)
 (x_6.1.2.2.2.1.length + (1 : Nat)) y.1 y.2 →
 Exists fun (x' : Int × List Pl.Tm × List Int × Int × Bool × Int) =>
 ((0 : Int) ≤ x'.1 ∧ x'.1 ≤ (3 : Int) ∧ (↑x'.2.1.length : Int) + x'.1 ≤ (3 : Int) ∧ x'.2.2.1.length = x'.2.1.length ∧ (∀ (t : Pl.Tm), t ∈ x'.2.1 → Pl.costT t ≤ (400 : Nat)) ∧ p ≤ x'.2.2.2.2.2 ∧ x'.2.2.2.2.2 + (100 : Int) * x'.1 ≤ p + (310 : Int)) ∧ x'.1.toNat < x.1.toNat ∧ ((0 : Nat) = (0 : Nat) ∧ (0 : Nat) = (0 : Nat) ∧ (0 : Nat) = (0 : Nat) ∧ (0 : Nat) = (0 : Nat) ∧ IntKind.i64.wrap (x.1 - (1 : Int)) = x'.1 ∧ True) ∧ (Is (byts x_5.1) (byts b) ∧ x_5.2.1 + (1 : Int) = x'.2.2.2.2.2 ∧ True) ∧ (Is (syms s) (syms s) ∧ True) ∧ ((0 : Int) = (0 : Int) ∧ ByteArray.empty = ByteArray.empty ∧ Is (AV.lit (0 : Nat) (1 : Nat) fun (x x_7 : Nat) => AV.any) nilA ∧ ByteArray.empty = ByteArray.empty ∧ Is (AV.lit (0 : Nat) (1 : Nat) fun (x x_7 : Nat) => AV.any)
 nilA ∧ Is (AV.lit (0 : Nat) (1 : Nat) fun (x x_7 : Nat) => AV.any)
 nilA ∧ Is (AV.lit (0 : Nat) (1 : Nat) fun (x x_7 : Nat) => AV.any)
 nilA ∧ (0 : Int) = (0 : Int) ∧ false = false ∧ True) ∧ ((x_6.1.1, Pl.noTP, Pl.noTP, y.1, y.2, x_6.1.2.2.2.2.2.1,
 x_6.1.2.2.2.2.2.2).1 =
 (2 : Int) ∧ ByteArray.mk #[] = ByteArray.empty ∧ Is
 (AV.sl ((0 : Nat)) (2 : Nat) fun (i j : Nat) =>
 eT (Pl.Tree.mk ByteArray.empty []) j)
 (terms []) ∧ ByteArray.mk #[] = ByteArray.empty ∧ Is
 (AV.sl ((0 : Nat)) (2 : Nat) fun (i j : Nat) =>
 eT (Pl.Tree.mk ByteArray.empty []) j)
 (terms []) ∧ ((0 : Nat) = (0 : Nat) ∧ (y.1, y.2, x_6.1.2.2.2.2.2.1,
 x_6.1.2.2.2.2.2.2).1.length =
 x'.2.1.length) ∧ ((0 : Nat) = (0 : Nat) ∧ (y.2, x_6.1.2.2.2.2.2.1,
 x_6.1.2.2.2.2.2.2).1.length =
 x'.2.2.1.length) ∧ (x_6.1.2.2.2.2.2.1,
 x_6.1.2.2.2.2.2.2).1 =
 x'.2.2.2.1 ∧ (x_6.1.2.2.2.2.2.1,
 x_6.1.2.2.2.2.2.2).2 =
 x'.2.2.2.2.1 ∧ True) ∧ IsO (arT y.1) (arT x'.2.1) ∧ IsO (arI y.2) (arI x'.2.2.1) ∧ True) ∧ ∃ x_3 : List Int × Int × List Int,
 (Rd (1099511627776 : Int) x_3.1 x_3.2.1 ∧ x_3.2.2 ≠ [] ∧ Sz x_3.2.2) ∧ (((0 : Nat) = (0 : Nat) ∧ Is (AV.lit (3 : Nat) (1 : Nat) (rowsCell [[i64 (1 : Int)], [i64 (1 : Int)], [i64 (2 : Int)]]))
 (ints x_3.2.2) ∧ True) ∧ (Is (byts b) (byts x_3.1) ∧ x.2.2.2.2.2 = x_3.2.1 ∧ True) ∧ True) ∧ ∀ (y : Int),
 y ∈ x_3.2.2 →
 (∃ x_4 : AX,
 (Rd (137438953472 : Int) x_4.1 x_4.2.1 ∧ x_4.2.1 + (↑(Pl.CB x_4.2.2.2.2.toNat) : Int) ≤ (137438953472 : Int) ∧ Pl.SgB (5 : Nat) (2 : Nat) x_4.2.2.1 ∧ x_4.2.2.2.2 ≤ (4 : Int)) ∧ (((0 : Nat) = (0 : Nat) ∧ (Is (syms s) (syms x_4.2.2.1) ∧ True) ∧ (1 : Int) = x_4.2.2.2.1 ∧ y = x_4.2.2.2.2 ∧ True) ∧ (Is (byts x_3.1) (byts x_4.1) ∧ x_3.2.1 + (1 : Int) = x_4.2.1 ∧ True) ∧ True) ∧ ∀ (y : Pl.TP × Int),
 Pl.TmB (Pl.CB x_4.2.2.2.2.toNat) y.1 ∧ x_4.2.1 ≤ y.2 ∧ y.2 ≤ x_4.2.1 + (↑(Pl.CB x_4.2.2.2.2.toNat) : Int) →
 ∃ x_5 : List Int × Int × List Int,
 (Rd (1099511627776 : Int) x_5.1 x_5.2.1 ∧ x_5.2.2 ≠ [] ∧ Sz x_5.2.2) ∧ (((0 : Nat) = (0 : Nat) ∧ Is
 (AV.lit (6 : Nat) (1 : Nat)
 (rowsCell
 [[i64 (1 : Int)], [i64 (-1 : Int)], [i64 (1 : Int)], [i64 (-1 : Int)], [i64 (2 : Int)],
 [i64 (-2 : Int)]]))
 (ints x_5.2.2) ∧ True) ∧ (Is (byts x_4.1) (byts x_5.1) ∧ y.2 = x_5.2.1 ∧ True) ∧ True) ∧ ∀ (y_3 : Int),
 y_3 ∈ x_5.2.2 →
 (0 : Nat) + x.2.1.length ≤ x.2.1.length ∧ (0 : Nat) + x.2.2.1.length ≤ x.2.2.1.length ∧ (0 : Nat) + y.1.2.length ≤ y.1.2.length ∧ ∃ x_6 : Pl.Atm × Pl.TP × Int,
 (SmA x_6.1 ∧ SmT (Pl.Tree.mk x_6.2.1.1 x_6.2.1.2) ∧ x_6.1.2.2.2.1.length ≤ (100 : Nat) ∧ x_6.1.2.2.2.2.1.length = x_6.1.2.2.2.1.length) ∧ ((((2 : Int) = x_6.1.1 ∧ ByteArray.empty = x_6.1.2.1.1 ∧ Is
 (AV.sl ((0 : Nat)) (2 : Nat) fun (i j : Nat) =>
 eT (Pl.Tree.mk ByteArray.empty []) j)
 (terms x_6.1.2.1.2) ∧ ByteArray.empty = x_6.1.2.2.1.1 ∧ Is
 (AV.sl ((0 : Nat)) (2 : Nat) fun (i j : Nat) =>
 eT (Pl.Tree.mk ByteArray.empty []) j)
 (terms x_6.1.2.2.1.2) ∧ Is (terms x.2.1) (terms x_6.1.2.2.2.1) ∧ Is (ints x.2.2.1) (ints x_6.1.2.2.2.2.1) ∧ x.2.2.2.1 = x_6.1.2.2.2.2.2.1 ∧ x.2.2.2.2.1 = x_6.1.2.2.2.2.2.2 ∧ True) ∧ (y.1.1 = x_6.2.1.1 ∧ Is (terms y.1.2) (terms x_6.2.1.2) ∧ True) ∧ y_3 = x_6.2.2 ∧ True) ∧ True) ∧ ∀ (y : List Pl.Tm × List Int),
 Pl.PutB x_6.1.2.2.2.1 (Pl.Tree.mk x_6.2.1.1 x_6.2.1.2)
 (x_6.1.2.2.2.1.length + (1 : Nat)) y.1 y.2 →
 Exists fun (x' : Int × List Pl.Tm × List Int × Int × Bool × Int) =>
 ((0 : Int) ≤ x'.1 ∧ x'.1 ≤ (3 : Int) ∧ (↑x'.2.1.length : Int) + x'.1 ≤ (3 : Int) ∧ x'.2.2.1.length = x'.2.1.length ∧ (∀ (t : Pl.Tm), t ∈ x'.2.1 → Pl.costT t ≤ (400 : Nat)) ∧ p ≤ x'.2.2.2.2.2 ∧ x'.2.2.2.2.2 + (100 : Int) * x'.1 ≤ p + (310 : Int)) ∧ x'.1.toNat < x.1.toNat ∧ ((0 : Nat) = (0 : Nat) ∧ (0 : Nat) = (0 : Nat) ∧ (0 : Nat) = (0 : Nat) ∧ (0 : Nat) = (0 : Nat) ∧ IntKind.i64.wrap (x.1 - (1 : Int)) = x'.1 ∧ True) ∧ (Is (byts x_5.1) (byts b) ∧ x_5.2.1 + (1 : Int) = x'.2.2.2.2.2 ∧ True) ∧ (Is (syms s) (syms s) ∧ True) ∧ ((0 : Int) = (0 : Int) ∧ ByteArray.empty = ByteArray.empty ∧ Is (AV.lit (0 : Nat) (1 : Nat) fun (x x_7 : Nat) => AV.any) nilA ∧ ByteArray.empty = ByteArray.empty ∧ Is (AV.lit (0 : Nat) (1 : Nat) fun (x x_7 : Nat) => AV.any)
 nilA ∧ Is (AV.lit (0 : Nat) (1 : Nat) fun (x x_7 : Nat) => AV.any)
 nilA ∧ Is (AV.lit (0 : Nat) (1 : Nat) fun (x x_7 : Nat) => AV.any)
 nilA ∧ (0 : Int) = (0 : Int) ∧ false = false ∧ True) ∧ ((x_6.1.1, Pl.noTP, Pl.noTP, y.1, y.2, x_6.1.2.2.2.2.2.1,
 x_6.1.2.2.2.2.2.2).1 =
 (2 : Int) ∧ ByteArray.mk #[] = ByteArray.empty ∧ Is
 (AV.sl ((0 : Nat)) (2 : Nat) fun (i j : Nat) =>
 eT (Pl.Tree.mk ByteArray.empty []) j)
 (terms []) ∧ ByteArray.mk #[] = ByteArray.empty ∧ Is
 (AV.sl ((0 : Nat)) (2 : Nat) fun (i j : Nat) =>
 eT (Pl.Tree.mk ByteArray.empty []) j)
 (terms []) ∧ ((0 : Nat) = (0 : Nat) ∧ (y.1, y.2, x_6.1.2.2.2.2.2.1,
 x_6.1.2.2.2.2.2.2).1.length =
 x'.2.1.length) ∧ ((0 : Nat) = (0 : Nat) ∧ (y.2, x_6.1.2.2.2.2.2.1,
 x_6.1.2.2.2.2.2.2).1.length =
 x'.2.2.1.length) ∧ (x_6.1.2.2.2.2.2.1,
 x_6.1.2.2.2.2.2.2).1 =
 x'.2.2.2.1 ∧ (x_6.1.2.2.2.2.2.1,
 x_6.1.2.2.2.2.2.2).2 =
 x'.2.2.2.2.1 ∧ True) ∧ IsO (arT y.1) (arT x'.2.1) ∧ IsO (arI y.2) (arI x'.2.2.1) ∧ True) ∧ ∃ x_4 : AX,
 (Rd (137438953472 : Int) x_4.1 x_4.2.1 ∧ x_4.2.1 + (↑(Pl.CB x_4.2.2.2.2.toNat) : Int) ≤ (137438953472 : Int) ∧ Pl.SgB (5 : Nat) (2 : Nat) x_4.2.2.1 ∧ x_4.2.2.2.2 ≤ (4 : Int)) ∧ (((0 : Nat) = (0 : Nat) ∧ (Is (syms s) (syms x_4.2.2.1) ∧ True) ∧ (1 : Int) = x_4.2.2.2.1 ∧ y = x_4.2.2.2.2 ∧ True) ∧ (Is (byts x_3.1) (byts x_4.1) ∧ x_3.2.1 + (1 : Int) = x_4.2.1 ∧ True) ∧ True) ∧ ∀ (y : Pl.TP × Int),
 Pl.TmB (Pl.CB x_4.2.2.2.2.toNat) y.1 ∧ x_4.2.1 ≤ y.2 ∧ y.2 ≤ x_4.2.1 + (↑(Pl.CB x_4.2.2.2.2.toNat) : Int) →
 (∃ x_5 : List Int × Int × List Int,
 (Rd (1099511627776 : Int) x_5.1 x_5.2.1 ∧ x_5.2.2 ≠ [] ∧ Sz x_5.2.2) ∧ (((0 : Nat) = (0 : Nat) ∧ Is
 (AV.lit (6 : Nat) (1 : Nat)
 (rowsCell
 [[i64 (1 : Int)], [i64 (-1 : Int)], [i64 (1 : Int)], [i64 (-1 : Int)], [i64 (2 : Int)],
 [i64 (-2 : Int)]]))
 (ints x_5.2.2) ∧ True) ∧ (Is (byts x_4.1) (byts x_5.1) ∧ y.2 = x_5.2.1 ∧ True) ∧ True) ∧ ∀ (y_3 : Int),
 y_3 ∈ x_5.2.2 →
 (0 : Nat) + x.2.1.length ≤ x.2.1.length ∧ (0 : Nat) + x.2.2.1.length ≤ x.2.2.1.length ∧ (0 : Nat) + y.1.2.length ≤ y.1.2.length ∧ ∃ x_6 : Pl.Atm × Pl.TP × Int,
 (SmA x_6.1 ∧ SmT (Pl.Tree.mk x_6.2.1.1 x_6.2.1.2) ∧ x_6.1.2.2.2.1.length ≤ (100 : Nat) ∧ x_6.1.2.2.2.2.1.length = x_6.1.2.2.2.1.length) ∧ ((((2 : Int) = x_6.1.1 ∧ ByteArray.empty = x_6.1.2.1.1 ∧ Is
 (AV.sl ((0 : Nat)) (2 : Nat) fun (i j : Nat) =>
 eT (Pl.Tree.mk ByteArray.empty []) j)
 (terms x_6.1.2.1.2) ∧ ByteArray.empty = x_6.1.2.2.1.1 ∧ Is
 (AV.sl ((0 : Nat)) (2 : Nat) fun (i j : Nat) =>
 eT (Pl.Tree.mk ByteArray.empty []) j)
 (terms x_6.1.2.2.1.2) ∧ Is (terms x.2.1) (terms x_6.1.2.2.2.1) ∧ Is (ints x.2.2.1) (ints x_6.1.2.2.2.2.1) ∧ x.2.2.2.1 = x_6.1.2.2.2.2.2.1 ∧ x.2.2.2.2.1 = x_6.1.2.2.2.2.2.2 ∧ True) ∧ (y.1.1 = x_6.2.1.1 ∧ Is (terms y.1.2) (terms x_6.2.1.2) ∧ True) ∧ y_3 = x_6.2.2 ∧ True) ∧ True) ∧ ∀ (y : List Pl.Tm × List Int),
 Pl.PutB x_6.1.2.2.2.1 (Pl.Tree.mk x_6.2.1.1 x_6.2.1.2)
 (x_6.1.2.2.2.1.length + (1 : Nat)) y.1 y.2 →
 Exists fun (x' : Int × List Pl.Tm × List Int × Int × Bool × Int) =>
 ((0 : Int) ≤ x'.1 ∧ x'.1 ≤ (3 : Int) ∧ (↑x'.2.1.length : Int) + x'.1 ≤ (3 : Int) ∧ x'.2.2.1.length = x'.2.1.length ∧ (∀ (t : Pl.Tm), t ∈ x'.2.1 → Pl.costT t ≤ (400 : Nat)) ∧ p ≤ x'.2.2.2.2.2 ∧ x'.2.2.2.2.2 + (100 : Int) * x'.1 ≤ p + (310 : Int)) ∧ x'.1.toNat < x.1.toNat ∧ ((0 : Nat) = (0 : Nat) ∧ (0 : Nat) = (0 : Nat) ∧ (0 : Nat) = (0 : Nat) ∧ (0 : Nat) = (0 : Nat) ∧ IntKind.i64.wrap (x.1 - (1 : Int)) = x'.1 ∧ True) ∧ (Is (byts x_5.1) (byts b) ∧ x_5.2.1 + (1 : Int) = x'.2.2.2.2.2 ∧ True) ∧ (Is (syms s) (syms s) ∧ True) ∧ ((0 : Int) = (0 : Int) ∧ ByteArray.empty = ByteArray.empty ∧ Is (AV.lit (0 : Nat) (1 : Nat) fun (x x_7 : Nat) => AV.any)
 nilA ∧ ByteArray.empty = ByteArray.empty ∧ Is (AV.lit (0 : Nat) (1 : Nat) fun (x x_7 : Nat) => AV.any)
 nilA ∧ Is (AV.lit (0 : Nat) (1 : Nat) fun (x x_7 : Nat) => AV.any)
 nilA ∧ Is (AV.lit (0 : Nat) (1 : Nat) fun (x x_7 : Nat) => AV.any)
 nilA ∧ (0 : Int) = (0 : Int) ∧ false = false ∧ True) ∧ ((x_6.1.1, Pl.noTP, Pl.noTP, y.1, y.2, x_6.1.2.2.2.2.2.1,
 x_6.1.2.2.2.2.2.2).1 =
 (2 : Int) ∧ ByteArray.mk #[] = ByteArray.empty ∧ Is
 (AV.sl ((0 : Nat)) (2 : Nat) fun (i j : Nat) =>
 eT (Pl.Tree.mk ByteArray.empty []) j)
 (terms []) ∧ ByteArray.mk #[] = ByteArray.empty ∧ Is
 (AV.sl ((0 : Nat)) (2 : Nat) fun (i j : Nat) =>
 eT (Pl.Tree.mk ByteArray.empty []) j)
 (terms []) ∧ ((0 : Nat) = (0 : Nat) ∧ (y.1, y.2, x_6.1.2.2.2.2.2.1,
 x_6.1.2.2.2.2.2.2).1.length =
 x'.2.1.length) ∧ ((0 : Nat) = (0 : Nat) ∧ (y.2, x_6.1.2.2.2.2.2.1,
 x_6.1.2.2.2.2.2.2).1.length =
 x'.2.2.1.length) ∧ (x_6.1.2.2.2.2.2.1,
 x_6.1.2.2.2.2.2.2).1 =
 x'.2.2.2.1 ∧ (x_6.1.2.2.2.2.2.1,
 x_6.1.2.2.2.2.2.2).2 =
 x'.2.2.2.2.1 ∧ True) ∧ IsO (arT y.1) (arT x'.2.1) ∧ IsO (arI y.2) (arI x'.2.2.1) ∧ True) ∧ ∃ x_5 : List Int × Int × List Int,
 (Rd (1099511627776 : Int) x_5.1 x_5.2.1 ∧ x_5.2.2 ≠ [] ∧ Sz x_5.2.2) ∧ (((0 : Nat) = (0 : Nat) ∧ Is
 (AV.lit (6 : Nat) (1 : Nat)
 (rowsCell
 [[i64 (1 : Int)], [i64 (-1 : Int)], [i64 (1 : Int)], [i64 (-1 : Int)], [i64 (2 : Int)],
 [i64 (-2 : Int)]]))
 (ints x_5.2.2) ∧ True) ∧ (Is (byts x_4.1) (byts x_5.1) ∧ y.2 = x_5.2.1 ∧ True) ∧ True) ∧ ∀ (y_3 : Int),
 y_3 ∈ x_5.2.2 →
 (0 : Nat) + x.2.1.length ≤ x.2.1.length ∧ (0 : Nat) + x.2.2.1.length ≤ x.2.2.1.length ∧ (0 : Nat) + y.1.2.length ≤ y.1.2.length ∧ ∃ x_6 : Pl.Atm × Pl.TP × Int,
 (SmA x_6.1 ∧ SmT (Pl.Tree.mk x_6.2.1.1 x_6.2.1.2) ∧ x_6.1.2.2.2.1.length ≤ (100 : Nat) ∧ x_6.1.2.2.2.2.1.length = x_6.1.2.2.2.1.length) ∧ ((((2 : Int) = x_6.1.1 ∧ ByteArray.empty = x_6.1.2.1.1 ∧ Is
 (AV.sl ((0 : Nat)) (2 : Nat) fun (i j : Nat) =>
 eT (Pl.Tree.mk ByteArray.empty []) j)
 (terms x_6.1.2.1.2) ∧ ByteArray.empty = x_6.1.2.2.1.1 ∧ Is
 (AV.sl ((0 : Nat)) (2 : Nat) fun (i j : Nat) =>
 eT (Pl.Tree.mk ByteArray.empty []) j)
 (terms x_6.1.2.2.1.2) ∧ Is (terms x.2.1) (terms x_6.1.2.2.2.1) ∧ Is (ints x.2.2.1) (ints x_6.1.2.2.2.2.1) ∧ x.2.2.2.1 = x_6.1.2.2.2.2.2.1 ∧ x.2.2.2.2.1 = x_6.1.2.2.2.2.2.2 ∧ True) ∧ (y.1.1 = x_6.2.1.1 ∧ Is (terms y.1.2) (terms x_6.2.1.2) ∧ True) ∧ y_3 = x_6.2.2 ∧ True) ∧ True) ∧ ∀ (y : List Pl.Tm × List Int),
 Pl.PutB x_6.1.2.2.2.1 (Pl.Tree.mk x_6.2.1.1 x_6.2.1.2)
 (x_6.1.2.2.2.1.length + (1 : Nat)) y.1 y.2 →
 Exists fun (x' : Int × List Pl.Tm × List Int × Int × Bool × Int) =>
 ((0 : Int) ≤ x'.1 ∧ x'.1 ≤ (3 : Int) ∧ (↑x'.2.1.length : Int) + x'.1 ≤ (3 : Int) ∧ x'.2.2.1.length = x'.2.1.length ∧ (∀ (t : Pl.Tm), t ∈ x'.2.1 → Pl.costT t ≤ (400 : Nat)) ∧ p ≤ x'.2.2.2.2.2 ∧ x'.2.2.2.2.2 + (100 : Int) * x'.1 ≤ p + (310 : Int)) ∧ x'.1.toNat < x.1.toNat ∧ ((0 : Nat) = (0 : Nat) ∧ (0 : Nat) = (0 : Nat) ∧ (0 : Nat) = (0 : Nat) ∧ (0 : Nat) = (0 : Nat) ∧ IntKind.i64.wrap (x.1 - (1 : Int)) = x'.1 ∧ True) ∧ (Is (byts x_5.1) (byts b) ∧ x_5.2.1 + (1 : Int) = x'.2.2.2.2.2 ∧ True) ∧ (Is (syms s) (syms s) ∧ True) ∧ ((0 : Int) = (0 : Int) ∧ ByteArray.empty = ByteArray.empty ∧ Is (AV.lit (0 : Nat) (1 : Nat) fun (x x_7 : Nat) => AV.any)
 nilA ∧ ByteArray.empty = ByteArray.empty ∧ Is (AV.lit (0 : Nat) (1 : Nat) fun (x x_7 : Nat) => AV.any)
 nilA ∧ Is (AV.lit (0 : Nat) (1 : Nat) fun (x x_7 : Nat) => AV.any)
 nilA ∧ Is (AV.lit (0 : Nat) (1 : Nat) fun (x x_7 : Nat) => AV.any)
 nilA ∧ (0 : Int) = (0 : Int) ∧ false = false ∧ True) ∧ ((x_6.1.1, Pl.noTP, Pl.noTP, y.1, y.2, x_6.1.2.2.2.2.2.1,
 x_6.1.2.2.2.2.2.2).1 =
 (2 : Int) ∧ ByteArray.mk #[] = ByteArray.empty ∧ Is
 (AV.sl ((0 : Nat)) (2 : Nat) fun (i j : Nat) =>
 eT (Pl.Tree.mk ByteArray.empty []) j)
 (terms []) ∧ ByteArray.mk #[] = ByteArray.empty ∧ Is
 (AV.sl ((0 : Nat)) (2 : Nat) fun (i j : Nat) =>
 eT (Pl.Tree.mk ByteArray.empty []) j)
 (terms []) ∧ ((0 : Nat) = (0 : Nat) ∧ (y.1, y.2, x_6.1.2.2.2.2.2.1,
 x_6.1.2.2.2.2.2.2).1.length =
 x'.2.1.length) ∧ ((0 : Nat) = (0 : Nat) ∧ (y.2, x_6.1.2.2.2.2.2.1,
 x_6.1.2.2.2.2.2.2).1.length =
 x'.2.2.1.length) ∧ (x_6.1.2.2.2.2.2.1,
 x_6.1.2.2.2.2.2.2).1 =
 x'.2.2.2.1 ∧ (x_6.1.2.2.2.2.2.1,
 x_6.1.2.2.2.2.2.2).2 =
 x'.2.2.2.2.1 ∧ True) ∧ IsO (arT y.1) (arT x'.2.1) ∧ IsO (arI y.2) (arI x'.2.2.1) ∧ True) ∧ ∃ x_3 : List Int × Int × List Int,
 (Rd (1099511627776 : Int) x_3.1 x_3.2.1 ∧ x_3.2.2 ≠ [] ∧ Sz x_3.2.2) ∧ (((0 : Nat) = (0 : Nat) ∧ Is (AV.lit (3 : Nat) (1 : Nat) (rowsCell [[i64 (1 : Int)], [i64 (1 : Int)], [i64 (2 : Int)]])) (ints x_3.2.2) ∧ True) ∧ (Is (byts b) (byts x_3.1) ∧ x.2.2.2.2.2 = x_3.2.1 ∧ True) ∧ True) ∧ ∀ (y : Int),
 y ∈ x_3.2.2 →
 (∃ x_4 : AX,
 (Rd (137438953472 : Int) x_4.1 x_4.2.1 ∧ x_4.2.1 + (↑(Pl.CB x_4.2.2.2.2.toNat) : Int) ≤ (137438953472 : Int) ∧ Pl.SgB (5 : Nat) (2 : Nat) x_4.2.2.1 ∧ x_4.2.2.2.2 ≤ (4 : Int)) ∧ (((0 : Nat) = (0 : Nat) ∧ (Is (syms s) (syms x_4.2.2.1) ∧ True) ∧ (1 : Int) = x_4.2.2.2.1 ∧ y = x_4.2.2.2.2 ∧ True) ∧ (Is (byts x_3.1) (byts x_4.1) ∧ x_3.2.1 + (1 : Int) = x_4.2.1 ∧ True) ∧ True) ∧ ∀ (y : Pl.TP × Int),
 Pl.TmB (Pl.CB x_4.2.2.2.2.toNat) y.1 ∧ x_4.2.1 ≤ y.2 ∧ y.2 ≤ x_4.2.1 + (↑(Pl.CB x_4.2.2.2.2.toNat) : Int) →
 ∃ x_5 : List Int × Int × List Int,
 (Rd (1099511627776 : Int) x_5.1 x_5.2.1 ∧ x_5.2.2 ≠ [] ∧ Sz x_5.2.2) ∧ (((0 : Nat) = (0 : Nat) ∧ Is
 (AV.lit (6 : Nat) (1 : Nat)
 (rowsCell
 [[i64 (1 : Int)], [i64 (-1 : Int)], [i64 (1 : Int)], [i64 (-1 : Int)], [i64 (2 : Int)],
 [i64 (-2 : Int)]]))
 (ints x_5.2.2) ∧ True) ∧ (Is (byts x_4.1) (byts x_5.1) ∧ y.2 = x_5.2.1 ∧ True) ∧ True) ∧ ∀ (y_3 : Int),
 y_3 ∈ x_5.2.2 →
 (0 : Nat) + x.2.1.length ≤ x.2.1.length ∧ (0 : Nat) + x.2.2.1.length ≤ x.2.2.1.length ∧ (0 : Nat) + y.1.2.length ≤ y.1.2.length ∧ ∃ x_6 : Pl.Atm × Pl.TP × Int,
 (SmA x_6.1 ∧ SmT (Pl.Tree.mk x_6.2.1.1 x_6.2.1.2) ∧ x_6.1.2.2.2.1.length ≤ (100 : Nat) ∧ x_6.1.2.2.2.2.1.length = x_6.1.2.2.2.1.length) ∧ ((((2 : Int) = x_6.1.1 ∧ ByteArray.empty = x_6.1.2.1.1 ∧ Is
 (AV.sl ((0 : Nat)) (2 : Nat) fun (i j : Nat) =>
 eT (Pl.Tree.mk ByteArray.empty []) j)
 (terms x_6.1.2.1.2) ∧ ByteArray.empty = x_6.1.2.2.1.1 ∧ Is
 (AV.sl ((0 : Nat)) (2 : Nat) fun (i j : Nat) =>
 eT (Pl.Tree.mk ByteArray.empty []) j)
 (terms x_6.1.2.2.1.2) ∧ Is (terms x.2.1) (terms x_6.1.2.2.2.1) ∧ Is (ints x.2.2.1) (ints x_6.1.2.2.2.2.1) ∧ x.2.2.2.1 = x_6.1.2.2.2.2.2.1 ∧ x.2.2.2.2.1 = x_6.1.2.2.2.2.2.2 ∧ True) ∧ (y.1.1 = x_6.2.1.1 ∧ Is (terms y.1.2) (terms x_6.2.1.2) ∧ True) ∧ y_3 = x_6.2.2 ∧ True) ∧ True) ∧ ∀ (y : List Pl.Tm × List Int),
 Pl.PutB x_6.1.2.2.2.1 (Pl.Tree.mk x_6.2.1.1 x_6.2.1.2)
 (x_6.1.2.2.2.1.length + (1 : Nat)) y.1 y.2 →
 Exists fun (x' : Int × List Pl.Tm × List Int × Int × Bool × Int) =>
 ((0 : Int) ≤ x'.1 ∧ x'.1 ≤ (3 : Int) ∧ (↑x'.2.1.length : Int) + x'.1 ≤ (3 : Int) ∧ x'.2.2.1.length = x'.2.1.length ∧ (∀ (t : Pl.Tm), t ∈ x'.2.1 → Pl.costT t ≤ (400 : Nat)) ∧ p ≤ x'.2.2.2.2.2 ∧ x'.2.2.2.2.2 + (100 : Int) * x'.1 ≤ p + (310 : Int)) ∧ x'.1.toNat < x.1.toNat ∧ ((0 : Nat) = (0 : Nat) ∧ (0 : Nat) = (0 : Nat) ∧ (0 : Nat) = (0 : Nat) ∧ (0 : Nat) = (0 : Nat) ∧ IntKind.i64.wrap (x.1 - (1 : Int)) = x'.1 ∧ True) ∧ (Is (byts x_5.1) (byts b) ∧ x_5.2.1 + (1 : Int) = x'.2.2.2.2.2 ∧ True) ∧ (Is (syms s) (syms s) ∧ True) ∧ ((0 : Int) = (0 : Int) ∧ ByteArray.empty = ByteArray.empty ∧ Is (AV.lit (0 : Nat) (1 : Nat) fun (x x_7 : Nat) => AV.any) nilA ∧ ByteArray.empty = ByteArray.empty ∧ Is (AV.lit (0 : Nat) (1 : Nat) fun (x x_7 : Nat) => AV.any)
 nilA ∧ Is (AV.lit (0 : Nat) (1 : Nat) fun (x x_7 : Nat) => AV.any)
 nilA ∧ Is (AV.lit (0 : Nat) (1 : Nat) fun (x x_7 : Nat) => AV.any)
 nilA ∧ (0 : Int) = (0 : Int) ∧ false = false ∧ True) ∧ ((x_6.1.1, Pl.noTP, Pl.noTP, y.1, y.2, x_6.1.2.2.2.2.2.1,
 x_6.1.2.2.2.2.2.2).1 =
 (2 : Int) ∧ ByteArray.mk #[] = ByteArray.empty ∧ Is
 (AV.sl ((0 : Nat)) (2 : Nat) fun (i j : Nat) =>
 eT (Pl.Tree.mk ByteArray.empty []) j)
 (terms []) ∧ ByteArray.mk #[] = ByteArray.empty ∧ Is
 (AV.sl ((0 : Nat)) (2 : Nat) fun (i j : Nat) =>
 eT (Pl.Tree.mk ByteArray.empty []) j)
 (terms []) ∧ ((0 : Nat) = (0 : Nat) ∧ (y.1, y.2, x_6.1.2.2.2.2.2.1,
 x_6.1.2.2.2.2.2.2).1.length =
 x'.2.1.length) ∧ ((0 : Nat) = (0 : Nat) ∧ (y.2, x_6.1.2.2.2.2.2.1,
 x_6.1.2.2.2.2.2.2).1.length =
 x'.2.2.1.length) ∧ (x_6.1.2.2.2.2.2.1,
 x_6.1.2.2.2.2.2.2).1 =
 x'.2.2.2.1 ∧ (x_6.1.2.2.2.2.2.1,
 x_6.1.2.2.2.2.2.2).2 =
 x'.2.2.2.2.1 ∧ True) ∧ IsO (arT y.1) (arT x'.2.1) ∧ IsO (arI y.2) (arI x'.2.2.1) ∧ True) ∧ (∃ x_4 : AX,
 (Rd (137438953472 : Int) x_4.1 x_4.2.1 ∧ x_4.2.1 + (↑(Pl.CB x_4.2.2.2.2.toNat) : Int) ≤ (137438953472 : Int) ∧ Pl.SgB (5 : Nat) (2 : Nat) x_4.2.2.1 ∧ x_4.2.2.2.2 ≤ (4 : Int)) ∧ (((0 : Nat) = (0 : Nat) ∧ (Is (syms s) (syms x_4.2.2.1) ∧ True) ∧ (1 : Int) = x_4.2.2.2.1 ∧ y = x_4.2.2.2.2 ∧ True) ∧ (Is (byts x_3.1) (byts x_4.1) ∧ x_3.2.1 + (1 : Int) = x_4.2.1 ∧ True) ∧ True) ∧ ∀ (y : Pl.TP × Int),
 Pl.TmB (Pl.CB x_4.2.2.2.2.toNat) y.1 ∧ x_4.2.1 ≤ y.2 ∧ y.2 ≤ x_4.2.1 + (↑(Pl.CB x_4.2.2.2.2.toNat) : Int) →
 ∃ x_5 : List Int × Int × List Int,
 (Rd (1099511627776 : Int) x_5.1 x_5.2.1 ∧ x_5.2.2 ≠ [] ∧ Sz x_5.2.2) ∧ (((0 : Nat) = (0 : Nat) ∧ Is
 (AV.lit (6 : Nat) (1 : Nat)
 (rowsCell
 [[i64 (1 : Int)], [i64 (-1 : Int)], [i64 (1 : Int)], [i64 (-1 : Int)], [i64 (2 : Int)],
 [i64 (-2 : Int)]]))
 (ints x_5.2.2) ∧ True) ∧ (Is (byts x_4.1) (byts x_5.1) ∧ y.2 = x_5.2.1 ∧ True) ∧ True) ∧ ∀ (y_3 : Int),
 y_3 ∈ x_5.2.2 →
 (0 : Nat) + x.2.1.length ≤ x.2.1.length ∧ (0 : Nat) + x.2.2.1.length ≤ x.2.2.1.length ∧ (0 : Nat) + y.1.2.length ≤ y.1.2.length ∧ ∃ x_6 : Pl.Atm × Pl.TP × Int,
 (SmA x_6.1 ∧ SmT (Pl.Tree.mk x_6.2.1.1 x_6.2.1.2) ∧ x_6.1.2.2.2.1.length ≤ (100 : Nat) ∧ x_6.1.2.2.2.2.1.length = x_6.1.2.2.2.1.length) ∧ ((((2 : Int) = x_6.1.1 ∧ ByteArray.empty = x_6.1.2.1.1 ∧ Is
 (AV.sl ((0 : Nat)) (2 : Nat) fun (i j : Nat) =>
 eT (Pl.Tree.mk ByteArray.empty []) j)
 (terms x_6.1.2.1.2) ∧ ByteArray.empty = x_6.1.2.2.1.1 ∧ Is
 (AV.sl ((0 : Nat)) (2 : Nat) fun (i j : Nat) =>
 eT (Pl.Tree.mk ByteArray.empty []) j)
 (terms x_6.1.2.2.1.2) ∧ Is (terms x.2.1) (terms x_6.1.2.2.2.1) ∧ Is (ints x.2.2.1) (ints x_6.1.2.2.2.2.1) ∧ x.2.2.2.1 = x_6.1.2.2.2.2.2.1 ∧ x.2.2.2.2.1 = x_6.1.2.2.2.2.2.2 ∧ True) ∧ (y.1.1 = x_6.2.1.1 ∧ Is (terms y.1.2) (terms x_6.2.1.2) ∧ True) ∧ y_3 = x_6.2.2 ∧ True) ∧ True) ∧ ∀ (y : List Pl.Tm × List Int),
 Pl.PutB x_6.1.2.2.2.1 (Pl.Tree.mk x_6.2.1.1 x_6.2.1.2)
 (x_6.1.2.2.2.1.length + (1 : Nat)) y.1 y.2 →
 Exists fun (x' : Int × List Pl.Tm × List Int × Int × Bool × Int) =>
 ((0 : Int) ≤ x'.1 ∧ x'.1 ≤ (3 : Int) ∧ (↑x'.2.1.length : Int) + x'.1 ≤ (3 : Int) ∧ x'.2.2.1.length = x'.2.1.length ∧ (∀ (t : Pl.Tm), t ∈ x'.2.1 → Pl.costT t ≤ (400 : Nat)) ∧ p ≤ x'.2.2.2.2.2 ∧ x'.2.2.2.2.2 + (100 : Int) * x'.1 ≤ p + (310 : Int)) ∧ x'.1.toNat < x.1.toNat ∧ ((0 : Nat) = (0 : Nat) ∧ (0 : Nat) = (0 : Nat) ∧ (0 : Nat) = (0 : Nat) ∧ (0 : Nat) = (0 : Nat) ∧ IntKind.i64.wrap (x.1 - (1 : Int)) = x'.1 ∧ True) ∧ (Is (byts x_5.1) (byts b) ∧ x_5.2.1 + (1 : Int) = x'.2.2.2.2.2 ∧ True) ∧ (Is (syms s) (syms s) ∧ True) ∧ ((0 : Int) = (0 : Int) ∧ ByteArray.empty = ByteArray.empty ∧ Is (AV.lit (0 : Nat) (1 : Nat) fun (x x_7 : Nat) => AV.any) nilA ∧ ByteArray.empty = ByteArray.empty ∧ Is (AV.lit (0 : Nat) (1 : Nat) fun (x x_7 : Nat) => AV.any)
 nilA ∧ Is (AV.lit (0 : Nat) (1 : Nat) fun (x x_7 : Nat) => AV.any)
 nilA ∧ Is (AV.lit (0 : Nat) (1 : Nat) fun (x x_7 : Nat) => AV.any)
 nilA ∧ (0 : Int) = (0 : Int) ∧ false = false ∧ True) ∧ ((x_6.1.1, Pl.noTP, Pl.noTP, y.1, y.2, x_6.1.2.2.2.2.2.1,
 x_6.1.2.2.2.2.2.2).1 =
 (2 : Int) ∧ ByteArray.mk #[] = ByteArray.empty ∧ Is
 (AV.sl ((0 : Nat)) (2 : Nat) fun (i j : Nat) =>
 eT (Pl.Tree.mk ByteArray.empty []) j)
 (terms []) ∧ ByteArray.mk #[] = ByteArray.empty ∧ Is
 (AV.sl ((0 : Nat)) (2 : Nat) fun (i j : Nat) =>
 eT (Pl.Tree.mk ByteArray.empty []) j)
 (terms []) ∧ ((0 : Nat) = (0 : Nat) ∧ (y.1, y.2, x_6.1.2.2.2.2.2.1,
 x_6.1.2.2.2.2.2.2).1.length =
 x'.2.1.length) ∧ ((0 : Nat) = (0 : Nat) ∧ (y.2, x_6.1.2.2.2.2.2.1,
 x_6.1.2.2.2.2.2.2).1.length =
 x'.2.2.1.length) ∧ (x_6.1.2.2.2.2.2.1,
 x_6.1.2.2.2.2.2.2).1 =
 x'.2.2.2.1 ∧ (x_6.1.2.2.2.2.2.1,
 x_6.1.2.2.2.2.2.2).2 =
 x'.2.2.2.2.1 ∧ True) ∧ IsO (arT y.1) (arT x'.2.1) ∧ IsO (arI y.2) (arI x'.2.2.1) ∧ True) ∧ ∃ x_4 : AX,
 (Rd (137438953472 : Int) x_4.1 x_4.2.1 ∧ x_4.2.1 + (↑(Pl.CB x_4.2.2.2.2.toNat) : Int) ≤ (137438953472 : Int) ∧ Pl.SgB (5 : Nat) (2 : Nat) x_4.2.2.1 ∧ x_4.2.2.2.2 ≤ (4 : Int)) ∧ (((0 : Nat) = (0 : Nat) ∧ (Is (syms s) (syms x_4.2.2.1) ∧ True) ∧ (1 : Int) = x_4.2.2.2.1 ∧ y = x_4.2.2.2.2 ∧ True) ∧ (Is (byts x_3.1) (byts x_4.1) ∧ x_3.2.1 + (1 : Int) = x_4.2.1 ∧ True) ∧ True) ∧ ∀ (y : Pl.TP × Int),
 Pl.TmB (Pl.CB x_4.2.2.2.2.toNat) y.1 ∧ x_4.2.1 ≤ y.2 ∧ y.2 ≤ x_4.2.1 + (↑(Pl.CB x_4.2.2.2.2.toNat) : Int) →
 (∃ x_5 : List Int × Int × List Int,
 (Rd (1099511627776 : Int) x_5.1 x_5.2.1 ∧ x_5.2.2 ≠ [] ∧ Sz x_5.2.2) ∧ (((0 : Nat) = (0 : Nat) ∧ Is
 (AV.lit (6 : Nat) (1 : Nat)
 (rowsCell
 [[i64 (1 : Int)], [i64 (-1 : Int)], [i64 (1 : Int)], [i64 (-1 : Int)], [i64 (2 : Int)],
 [i64 (-2 : Int)]]))
 (ints x_5.2.2) ∧ True) ∧ (Is (byts x_4.1) (byts x_5.1) ∧ y.2 = x_5.2.1 ∧ True) ∧ True) ∧ ∀ (y_3 : Int),
 y_3 ∈ x_5.2.2 →
 (0 : Nat) + x.2.1.length ≤ x.2.1.length ∧ (0 : Nat) + x.2.2.1.length ≤ x.2.2.1.length ∧ (0 : Nat) + y.1.2.length ≤ y.1.2.length ∧ ∃ x_6 : Pl.Atm × Pl.TP × Int,
 (SmA x_6.1 ∧ SmT (Pl.Tree.mk x_6.2.1.1 x_6.2.1.2) ∧ x_6.1.2.2.2.1.length ≤ (100 : Nat) ∧ x_6.1.2.2.2.2.1.length = x_6.1.2.2.2.1.length) ∧ ((((2 : Int) = x_6.1.1 ∧ ByteArray.empty = x_6.1.2.1.1 ∧ Is
 (AV.sl ((0 : Nat)) (2 : Nat) fun (i j : Nat) =>
 eT (Pl.Tree.mk ByteArray.empty []) j)
 (terms x_6.1.2.1.2) ∧ ByteArray.empty = x_6.1.2.2.1.1 ∧ Is
 (AV.sl ((0 : Nat)) (2 : Nat) fun (i j : Nat) =>
 eT (Pl.Tree.mk ByteArray.empty []) j)
 (terms x_6.1.2.2.1.2) ∧ Is (terms x.2.1) (terms x_6.1.2.2.2.1) ∧ Is (ints x.2.2.1) (ints x_6.1.2.2.2.2.1) ∧ x.2.2.2.1 = x_6.1.2.2.2.2.2.1 ∧ x.2.2.2.2.1 = x_6.1.2.2.2.2.2.2 ∧ True) ∧ (y.1.1 = x_6.2.1.1 ∧ Is (terms y.1.2) (terms x_6.2.1.2) ∧ True) ∧ y_3 = x_6.2.2 ∧ True) ∧ True) ∧ ∀ (y : List Pl.Tm × List Int),
 Pl.PutB x_6.1.2.2.2.1 (Pl.Tree.mk x_6.2.1.1 x_6.2.1.2)
 (x_6.1.2.2.2.1.length + (1 : Nat)) y.1 y.2 →
 Exists fun (x' : Int × List Pl.Tm × List Int × Int × Bool × Int) =>
 ((0 : Int) ≤ x'.1 ∧ x'.1 ≤ (3 : Int) ∧ (↑x'.2.1.length : Int) + x'.1 ≤ (3 : Int) ∧ x'.2.2.1.length = x'.2.1.length ∧ (∀ (t : Pl.Tm), t ∈ x'.2.1 → Pl.costT t ≤ (400 : Nat)) ∧ p ≤ x'.2.2.2.2.2 ∧ x'.2.2.2.2.2 + (100 : Int) * x'.1 ≤ p + (310 : Int)) ∧ x'.1.toNat < x.1.toNat ∧ ((0 : Nat) = (0 : Nat) ∧ (0 : Nat) = (0 : Nat) ∧ (0 : Nat) = (0 : Nat) ∧ (0 : Nat) = (0 : Nat) ∧ IntKind.i64.wrap (x.1 - (1 : Int)) = x'.1 ∧ True) ∧ (Is (byts x_5.1) (byts b) ∧ x_5.2.1 + (1 : Int) = x'.2.2.2.2.2 ∧ True) ∧ (Is (syms s) (syms s) ∧ True) ∧ ((0 : Int) = (0 : Int) ∧ ByteArray.empty = ByteArray.empty ∧ Is (AV.lit (0 : Nat) (1 : Nat) fun (x x_7 : Nat) => AV.any)
 nilA ∧ ByteArray.empty = ByteArray.empty ∧ Is (AV.lit (0 : Nat) (1 : Nat) fun (x x_7 : Nat) => AV.any)
 nilA ∧ Is (AV.lit (0 : Nat) (1 : Nat) fun (x x_7 : Nat) => AV.any)
 nilA ∧ Is (AV.lit (0 : Nat) (1 : Nat) fun (x x_7 : Nat) => AV.any)
 nilA ∧ (0 : Int) = (0 : Int) ∧ false = false ∧ True) ∧ ((x_6.1.1, Pl.noTP, Pl.noTP, y.1, y.2, x_6.1.2.2.2.2.2.1,
 x_6.1.2.2.2.2.2.2).1 =
 (2 : Int) ∧ ByteArray.mk #[] = ByteArray.empty ∧ Is
 (AV.sl ((0 : Nat)) (2 : Nat) fun (i j : Nat) =>
 eT (Pl.Tree.mk ByteArray.empty []) j)
 (terms []) ∧ ByteArray.mk #[] = ByteArray.empty ∧ Is
 (AV.sl ((0 : Nat)) (2 : Nat) fun (i j : Nat) =>
 eT (Pl.Tree.mk ByteArray.empty []) j)
 (terms []) ∧ ((0 : Nat) = (0 : Nat) ∧ (y.1, y.2, x_6.1.2.2.2.2.2.1,
 x_6.1.2.2.2.2.2.2).1.length =
 x'.2.1.length) ∧ ((0 : Nat) = (0 : Nat) ∧ (y.2, x_6.1.2.2.2.2.2.1,
 x_6.1.2.2.2.2.2.2).1.length =
 x'.2.2.1.length) ∧ (x_6.1.2.2.2.2.2.1,
 x_6.1.2.2.2.2.2.2).1 =
 x'.2.2.2.1 ∧ (x_6.1.2.2.2.2.2.1,
 x_6.1.2.2.2.2.2.2).2 =
 x'.2.2.2.2.1 ∧ True) ∧ IsO (arT y.1) (arT x'.2.1) ∧ IsO (arI y.2) (arI x'.2.2.1) ∧ True) ∧ ∃ x_5 : List Int × Int × List Int,
 (Rd (1099511627776 : Int) x_5.1 x_5.2.1 ∧ x_5.2.2 ≠ [] ∧ Sz x_5.2.2) ∧ (((0 : Nat) = (0 : Nat) ∧ Is
 (AV.lit (6 : Nat) (1 : Nat)
 (rowsCell
 [[i64 (1 : Int)], [i64 (-1 : Int)], [i64 (1 : Int)], [i64 (-1 : Int)], [i64 (2 : Int)],
 [i64 (-2 : Int)]]))
 (ints x_5.2.2) ∧ True) ∧ (Is (byts x_4.1) (byts x_5.1) ∧ y.2 = x_5.2.1 ∧ True) ∧ True) ∧ ∀ (y_3 : Int),
 y_3 ∈ x_5.2.2 →
 (0 : Nat) + x.2.1.length ≤ x.2.1.length ∧ (0 : Nat) + x.2.2.1.length ≤ x.2.2.1.length ∧ (0 : Nat) + y.1.2.length ≤ y.1.2.length ∧ ∃ x_6 : Pl.Atm × Pl.TP × Int,
 (SmA x_6.1 ∧ SmT (Pl.Tree.mk x_6.2.1.1 x_6.2.1.2) ∧ x_6.1.2.2.2.1.length ≤ (100 : Nat) ∧ x_6.1.2.2.2.2.1.length = x_6.1.2.2.2.1.length) ∧ ((((2 : Int) = x_6.1.1 ∧ ByteArray.empty = x_6.1.2.1.1 ∧ Is
 (AV.sl ((0 : Nat)) (2 : Nat) fun (i j : Nat) =>
 eT (Pl.Tree.mk ByteArray.empty []) j)
 (terms x_6.1.2.1.2) ∧ ByteArray.empty = x_6.1.2.2.1.1 ∧ Is
 (AV.sl ((0 : Nat)) (2 : Nat) fun (i j : Nat) =>
 eT (Pl.Tree.mk ByteArray.empty []) j)
 (terms x_6.1.2.2.1.2) ∧ Is (terms x.2.1) (terms x_6.1.2.2.2.1) ∧ Is (ints x.2.2.1) (ints x_6.1.2.2.2.2.1) ∧ x.2.2.2.1 = x_6.1.2.2.2.2.2.1 ∧ x.2.2.2.2.1 = x_6.1.2.2.2.2.2.2 ∧ True) ∧ (y.1.1 = x_6.2.1.1 ∧ Is (terms y.1.2) (terms x_6.2.1.2) ∧ True) ∧ y_3 = x_6.2.2 ∧ True) ∧ True) ∧ ∀ (y : List Pl.Tm × List Int),
 Pl.PutB x_6.1.2.2.2.1 (Pl.Tree.mk x_6.2.1.1 x_6.2.1.2)
 (x_6.1.2.2.2.1.length + (1 : Nat)) y.1 y.2 →
 Exists fun (x' : Int × List Pl.Tm × List Int × Int × Bool × Int) =>
 ((0 : Int) ≤ x'.1 ∧ x'.1 ≤ (3 : Int) ∧ (↑x'.2.1.length : Int) + x'.1 ≤ (3 : Int) ∧ x'.2.2.1.length = x'.2.1.length ∧ (∀ (t : Pl.Tm), t ∈ x'.2.1 → Pl.costT t ≤ (400 : Nat)) ∧ p ≤ x'.2.2.2.2.2 ∧ x'.2.2.2.2.2 + (100 : Int) * x'.1 ≤ p + (310 : Int)) ∧ x'.1.toNat < x.1.toNat ∧ ((0 : Nat) = (0 : Nat) ∧ (0 : Nat) = (0 : Nat) ∧ (0 : Nat) = (0 : Nat) ∧ (0 : Nat) = (0 : Nat) ∧ IntKind.i64.wrap (x.1 - (1 : Int)) = x'.1 ∧ True) ∧ (Is (byts x_5.1) (byts b) ∧ x_5.2.1 + (1 : Int) = x'.2.2.2.2.2 ∧ True) ∧ (Is (syms s) (syms s) ∧ True) ∧ ((0 : Int) = (0 : Int) ∧ ByteArray.empty = ByteArray.empty ∧ Is (AV.lit (0 : Nat) (1 : Nat) fun (x x_7 : Nat) => AV.any)
 nilA ∧ ByteArray.empty = ByteArray.empty ∧ Is (AV.lit (0 : Nat) (1 : Nat) fun (x x_7 : Nat) => AV.any)
 nilA ∧ Is (AV.lit (0 : Nat) (1 : Nat) fun (x x_7 : Nat) => AV.any)
 nilA ∧ Is (AV.lit (0 : Nat) (1 : Nat) fun (x x_7 : Nat) => AV.any)
 nilA ∧ (0 : Int) = (0 : Int) ∧ false = false ∧ True) ∧ ((x_6.1.1, Pl.noTP, Pl.noTP, y.1, y.2, x_6.1.2.2.2.2.2.1,
 x_6.1.2.2.2.2.2.2).1 =
 (2 : Int) ∧ ByteArray.mk #[] = ByteArray.empty ∧ Is
 (AV.sl ((0 : Nat)) (2 : Nat) fun (i j : Nat) =>
 eT (Pl.Tree.mk ByteArray.empty []) j)
 (terms []) ∧ ByteArray.mk #[] = ByteArray.empty ∧ Is
 (AV.sl ((0 : Nat)) (2 : Nat) fun (i j : Nat) =>
 eT (Pl.Tree.mk ByteArray.empty []) j)
 (terms []) ∧ ((0 : Nat) = (0 : Nat) ∧ (y.1, y.2, x_6.1.2.2.2.2.2.1,
 x_6.1.2.2.2.2.2.2).1.length =
 x'.2.1.length) ∧ ((0 : Nat) = (0 : Nat) ∧ (y.2, x_6.1.2.2.2.2.2.1,
 x_6.1.2.2.2.2.2.2).1.length =
 x'.2.2.1.length) ∧ (x_6.1.2.2.2.2.2.1,
 x_6.1.2.2.2.2.2.2).1 =
 x'.2.2.2.1 ∧ (x_6.1.2.2.2.2.2.1,
 x_6.1.2.2.2.2.2.2).2 =
 x'.2.2.2.2.1 ∧ True) ∧ IsO (arT y.1) (arT x'.2.1) ∧ IsO (arI y.2) (arI x'.2.2.1) ∧ True)
 (∃ y : Pl.Atm × Int,
 (Pl.AtB (3 : Nat) y.1 ∧ p ≤ y.2 ∧ y.2 ≤ p + (500 : Int)) ∧ (((2 : Int) = y.1.1 ∧ ByteArray.empty = y.1.2.1.1 ∧ Is (AV.sl ((0 : Nat)) (2 : Nat) fun (i j : Nat) => eT (Pl.Tree.mk ByteArray.empty []) j) (terms y.1.2.1.2) ∧ ByteArray.empty = y.1.2.2.1.1 ∧ Is (AV.sl ((0 : Nat)) (2 : Nat) fun (i j : Nat) => eT (Pl.Tree.mk ByteArray.empty []) j) (terms y.1.2.2.1.2) ∧ ((0 : Nat) = (0 : Nat) ∧ x.2.1.length = y.1.2.2.2.1.length) ∧ ((0 : Nat) = (0 : Nat) ∧ x.2.2.1.length = y.1.2.2.2.2.1.length) ∧ x.2.2.2.1 = y.1.2.2.2.2.2.1 ∧ x.2.2.2.2.1 = y.1.2.2.2.2.2.2 ∧ True) ∧ True) ∧ (Is (byts b) (byts b) ∧ x.2.2.2.2.2 = y.2 ∧ True) ∧ IsO (arT x.2.1) (arT y.1.2.2.2.1) ∧ IsO (arI x.2.2.1) (arI y.1.2.2.2.2.1) ∧ True))) = Goal Tryz.prog [K_pick, K_num, K_lAny, K_l6Put] (A_l6Any b p s) K_l6Any.1 K_l6Any.2 ((b, p, s)) := by kernel_rfl

theorem vc_l6Some (b : List Int) (p : Int) (s : Pl.Sig) : (∃ x : BX,
 (Rd (68719476736 : Int) x.1 x.2.1 ∧ Pl.SgB (5 : Nat) (2 : Nat) x.2.2) ∧ (((0 : Nat) = (0 : Nat) ∧ (Is (syms s) (syms x.2.2) ∧ True) ∧ True) ∧ (Is (byts b) (byts x.1) ∧ p = x.2.1 ∧ True) ∧ True) ∧ ∀ (y : Pl.Atm × Int),
 Pl.AtB (3 : Nat) y.1 ∧ x.2.1 ≤ y.2 ∧ y.2 ≤ x.2.1 + (500 : Int) →
 ∃ x_1 : List Int × Int × Int,
 Rd (1099511627776 : Int) x_1.1 x_1.2.1 ∧ (((0 : Nat) = (0 : Nat) ∧ (80 : Int) = x_1.2.2 ∧ True) ∧ (Is (byts x.1) (byts x_1.1) ∧ y.2 = x_1.2.1 ∧ True) ∧ True) ∧ ∀ (y_1 : Int),
 ((1 : Int) ≤ x_1.2.2 → (0 : Int) ≤ y_1 ∧ y_1 < x_1.2.2) ∧ (x_1.2.2 < (1 : Int) → y_1 = (0 : Int)) →
 condP (y_1 == (0 : Int))
 (∃ x : List Int × Int × List Int,
 (Rd (1099511627776 : Int) x.1 x.2.1 ∧ x.2.2 ≠ [] ∧ Sz x.2.2) ∧ (((0 : Nat) = (0 : Nat) ∧ Is (AV.lit (4 : Nat) (1 : Nat) (rowsCell [[i64 (0 : Int)], [i64 (3 : Int)], [i64 (1 : Int)], [i64 (2 : Int)]])) (ints x.2.2) ∧ True) ∧ (Is (byts x_1.1) (byts x.1) ∧ x_1.2.1 + (1 : Int) = x.2.1 ∧ True) ∧ True) ∧ ∀ (y_2 : Int),
 y_2 ∈ x.2.2 →
 ∃ y_3 : Pl.Atm × Int,
 (Pl.AtB (4 : Nat) y_3.1 ∧ p ≤ y_3.2 ∧ y_3.2 ≤ p + (1500 : Int)) ∧ (0 : Nat) + y.1.2.2.2.1.length ≤ y.1.2.2.2.1.length ∧ (0 : Nat) + y.1.2.2.2.2.1.length ≤ y.1.2.2.2.2.1.length ∧ ((y_2 = y_3.1.1 ∧ y.1.2.1.1 = y_3.1.2.1.1 ∧ Is (terms y.1.2.1.2) (terms y_3.1.2.1.2) ∧ y.1.2.2.1.1 = y_3.1.2.2.1.1 ∧ Is (terms y.1.2.2.1.2) (terms y_3.1.2.2.1.2) ∧ Is (terms y.1.2.2.2.1) (terms y_3.1.2.2.2.1) ∧ Is (ints y.1.2.2.2.2.1) (ints y_3.1.2.2.2.2.1) ∧ y.1.2.2.2.2.2.1 = y_3.1.2.2.2.2.2.1 ∧ y.1.2.2.2.2.2.2 = y_3.1.2.2.2.2.2.2 ∧ True) ∧ True) ∧ (Is (byts x.1) (byts b) ∧ x.2.1 + (1 : Int) = y_3.2 ∧ True) ∧ True)
 (condP (y_1 == (1 : Int))
 (∃ x : List Int × Int × List Int,
 (Rd (1099511627776 : Int) x.1 x.2.1 ∧ x.2.2 ≠ [] ∧ Sz x.2.2) ∧ (((0 : Nat) = (0 : Nat) ∧ Is (AV.lit (3 : Nat) (1 : Nat) (rowsCell [[i64 (1001 : Int)], [i64 (-9223372036854775808 : Int)], [i64 (5 : Int)]])) (ints x.2.2) ∧ True) ∧ (Is (byts x_1.1) (byts x.1) ∧ x_1.2.1 + (1 : Int) = x.2.1 ∧ True) ∧ True) ∧ ∀ (y_2 : Int),
 y_2 ∈ x.2.2 →
 ∃ y_3 : Pl.Atm × Int,
 (Pl.AtB (4 : Nat) y_3.1 ∧ p ≤ y_3.2 ∧ y_3.2 ≤ p + (1500 : Int)) ∧ (0 : Nat) + y.1.2.2.2.1.length ≤ y.1.2.2.2.1.length ∧ (0 : Nat) + y.1.2.2.2.2.1.length ≤ y.1.2.2.2.2.1.length ∧ ((y.1.1 = y_3.1.1 ∧ y.1.2.1.1 = y_3.1.2.1.1 ∧ Is (terms y.1.2.1.2) (terms y_3.1.2.1.2) ∧ y.1.2.2.1.1 = y_3.1.2.2.1.1 ∧ Is (terms y.1.2.2.1.2) (terms y_3.1.2.2.1.2) ∧ Is (terms y.1.2.2.2.1) (terms y_3.1.2.2.2.1) ∧ Is (ints y.1.2.2.2.2.1) (ints y_3.1.2.2.2.2.1) ∧ y_2 = y_3.1.2.2.2.2.2.1 ∧ y.1.2.2.2.2.2.2 = y_3.1.2.2.2.2.2.2 ∧ True) ∧ True) ∧ (Is (byts x.1) (byts b) ∧ x.2.1 + (1 : Int) = y_3.2 ∧ True) ∧ True)
 (condP (y_1 == (2 : Int))
 (∃ x : BX,
 (Rd (68719476736 : Int) x.1 x.2.1 ∧ Pl.SgB (5 : Nat) (2 : Nat) x.2.2) ∧ (((0 : Nat) = (0 : Nat) ∧ (Is (syms s) (syms x.2.2) ∧ True) ∧ True) ∧ (Is (byts x_1.1) (byts x.1) ∧ x_1.2.1 + (1 : Int) = x.2.1 ∧ True) ∧ True) ∧ ∀ (y_2 : Pl.TP × Int),
 Pl.TmB (1500 : Nat) y_2.1 ∧ x.2.1 ≤ y_2.2 ∧ y_2.2 ≤ x.2.1 + (500 : Int) →
 ∃ y_3 : Pl.Atm × Int,
 (Pl.AtB (4 : Nat) y_3.1 ∧ p ≤ y_3.2 ∧ y_3.2 ≤ p + (1500 : Int)) ∧ (0 : Nat) + y.1.2.2.2.1.length ≤ y.1.2.2.2.1.length ∧ (0 : Nat) + y.1.2.2.2.2.1.length ≤ y.1.2.2.2.2.1.length ∧ ((y.1.1 = y_3.1.1 ∧ y_2.1.1 = y_3.1.2.1.1 ∧ Is (terms y_2.1.2) (terms y_3.1.2.1.2) ∧ y.1.2.2.1.1 = y_3.1.2.2.1.1 ∧ Is (terms y.1.2.2.1.2) (terms y_3.1.2.2.1.2) ∧ Is (terms y.1.2.2.2.1) (terms y_3.1.2.2.2.1) ∧ Is (ints y.1.2.2.2.2.1) (ints y_3.1.2.2.2.2.1) ∧ y.1.2.2.2.2.2.1 = y_3.1.2.2.2.2.2.1 ∧ y.1.2.2.2.2.2.2 = y_3.1.2.2.2.2.2.2 ∧ True) ∧ True) ∧ (Is (byts x.1) (byts b) ∧ y_2.2 = y_3.2 ∧ True) ∧ True)
 (condP (y_1 == (3 : Int))
 (condP (decide ((↑y.1.2.2.2.2.1.length : Int) > (0 : Int)))
 ((∃ x : List Int × Int × List Int,
 (Rd (1099511627776 : Int) x.1 x.2.1 ∧ x.2.2 ≠ [] ∧ Sz x.2.2) ∧ (((0 : Nat) = (0 : Nat) ∧ Is (AV.lit (3 : Nat) (1 : Nat) (rowsCell [[i64 (0 : Int)], [i64 (51 : Int)], [i64 (-9223372036854775808 : Int)]])) (ints x.2.2) ∧ True) ∧ (Is (byts x_1.1) (byts x.1) ∧ x_1.2.1 + (1 : Int) = x.2.1 ∧ True) ∧ True) ∧ ∀ (y_2 : Int),
 y_2 ∈ x.2.2 →
 ((0 : Int) ≤ (0 : Int) ∧ (0 : Int) < (↑y.1.2.2.2.2.1.length : Int)) ∧ (0 : Nat) < y.1.2.2.2.2.1.length ∧ ∃ y_3 : Pl.Atm × Int,
 (Pl.AtB (4 : Nat) y_3.1 ∧ p ≤ y_3.2 ∧ y_3.2 ≤ p + (1500 : Int)) ∧ (0 : Nat) + y.1.2.2.2.1.length ≤ y.1.2.2.2.1.length ∧ (0 : Nat) + y.1.2.2.2.2.1.length ≤ y.1.2.2.2.2.1.length ∧ ((y.1.1 = y_3.1.1 ∧ y.1.2.1.1 = y_3.1.2.1.1 ∧ Is (terms y.1.2.1.2) (terms y_3.1.2.1.2) ∧ y.1.2.2.1.1 = y_3.1.2.2.1.1 ∧ Is (terms y.1.2.2.1.2) (terms y_3.1.2.2.1.2) ∧ Is (terms y.1.2.2.2.1) (terms y_3.1.2.2.2.1) ∧ Is
 (AV.sl y.1.2.2.2.2.1.length (1 : Nat) fun (i j : Nat) =>
 storeC (cI y.1.2.2.2.2.1) (0 : Nat) (0 : Nat) [i64 y_2] i j)
 (ints y_3.1.2.2.2.2.1) ∧ y.1.2.2.2.2.2.1 = y_3.1.2.2.2.2.2.1 ∧ y.1.2.2.2.2.2.2 = y_3.1.2.2.2.2.2.2 ∧ True) ∧ True) ∧ (Is (byts x.1) (byts b) ∧ x.2.1 + (1 : Int) = y_3.2 ∧ True) ∧ True) ∧ ∃ x : List Int × Int × List Int,
 (Rd (1099511627776 : Int) x.1 x.2.1 ∧ x.2.2 ≠ [] ∧ Sz x.2.2) ∧ (((0 : Nat) = (0 : Nat) ∧ Is (AV.lit (3 : Nat) (1 : Nat) (rowsCell [[i64 (0 : Int)], [i64 (51 : Int)], [i64 (-9223372036854775808 : Int)]])) (ints x.2.2) ∧ True) ∧ (Is (byts x_1.1) (byts x.1) ∧ x_1.2.1 + (1 : Int) = x.2.1 ∧ True) ∧ True) ∧ ∀ (y_2 : Int),
 y_2 ∈ x.2.2 →
 ((0 : Int) ≤ (0 : Int) ∧ (0 : Int) < (↑y.1.2.2.2.2.1.length : Int)) ∧ (0 : Nat) < y.1.2.2.2.2.1.length ∧ ∃ y_3 : Pl.Atm × Int,
 (Pl.AtB (4 : Nat) y_3.1 ∧ p ≤ y_3.2 ∧ y_3.2 ≤ p + (1500 : Int)) ∧ (0 : Nat) + y.1.2.2.2.1.length ≤ y.1.2.2.2.1.length ∧ (0 : Nat) + y.1.2.2.2.2.1.length ≤ y.1.2.2.2.2.1.length ∧ ((y.1.1 = y_3.1.1 ∧ y.1.2.1.1 = y_3.1.2.1.1 ∧ Is (terms y.1.2.1.2) (terms y_3.1.2.1.2) ∧ y.1.2.2.1.1 = y_3.1.2.2.1.1 ∧ Is (terms y.1.2.2.1.2) (terms y_3.1.2.2.1.2) ∧ Is (terms y.1.2.2.2.1) (terms y_3.1.2.2.2.1) ∧ Is
 (AV.sl y.1.2.2.2.2.1.length (1 : Nat) fun (i j : Nat) =>
 storeC (cI y.1.2.2.2.2.1) (0 : Nat) (0 : Nat) [i64 y_2] i j)
 (ints y_3.1.2.2.2.2.1) ∧ y.1.2.2.2.2.2.1 = y_3.1.2.2.2.2.2.1 ∧ y.1.2.2.2.2.2.2 = y_3.1.2.2.2.2.2.2 ∧ True) ∧ True) ∧ (Is (byts x.1) (byts b) ∧ x.2.1 + (1 : Int) = y_3.2 ∧ True) ∧ True)
 (∃ y_2 : Pl.Atm × Int,
 (Pl.AtB (4 : Nat) y_2.1 ∧ p ≤ y_2.2 ∧ y_2.2 ≤ p + (1500 : Int)) ∧ (0 : Nat) + y.1.2.2.2.1.length ≤ y.1.2.2.2.1.length ∧ (0 : Nat) + y.1.2.2.2.2.1.length ≤ y.1.2.2.2.2.1.length ∧ ((y.1.1 = y_2.1.1 ∧ y.1.2.1.1 = y_2.1.2.1.1 ∧ Is (terms y.1.2.1.2) (terms y_2.1.2.1.2) ∧ y.1.2.2.1.1 = y_2.1.2.2.1.1 ∧ Is (terms y.1.2.2.1.2) (terms y_2.1.2.2.1.2) ∧ Is (terms y.1.2.2.2.1) (terms y_2.1.2.2.2.1) ∧ Is (ints y.1.2.2.2.2.1) (ints y_2.1.2.2.2.2.1) ∧ y.1.2.2.2.2.2.1 = y_2.1.2.2.2.2.2.1 ∧ y.1.2.2.2.2.2.2 = y_2.1.2.2.2.2.2.2 ∧ True) ∧ True) ∧ (Is (byts x_1.1) (byts b) ∧ x_1.2.1 + (1 : Int) = y_2.2 ∧ True) ∧ True))
 (condP (y_1 == (4 : Int))
 ((∃ x : AX,
 (Rd (137438953472 : Int) x.1 x.2.1 ∧ x.2.1 + (↑(Pl.CB x.2.2.2.2.toNat) : Int) ≤ (137438953472 : Int) ∧ Pl.SgB (5 : Nat) (2 : Nat) x.2.2.1 ∧ x.2.2.2.2 ≤ (4 : Int)) ∧ (((0 : Nat) = (0 : Nat) ∧ (Is (syms s) (syms x.2.2.1) ∧ True) ∧ (1 : Int) = x.2.2.2.1 ∧ (1 : Int) = x.2.2.2.2 ∧ True) ∧ (Is (byts x_1.1) (byts x.1) ∧ x_1.2.1 + (1 : Int) = x.2.1 ∧ True) ∧ True) ∧ ∀ (y_2 : Pl.TP × Int),
 Pl.TmB (Pl.CB x.2.2.2.2.toNat) y_2.1 ∧ x.2.1 ≤ y_2.2 ∧ y_2.2 ≤ x.2.1 + (↑(Pl.CB x.2.2.2.2.toNat) : Int) →
 (0 : Nat) + y_2.1.2.length ≤ y_2.1.2.length ∧ (0 : Nat) + y.1.2.2.2.1.length ≤ y.1.2.2.2.1.length ∧ (y.1.2.2.2.1.length + (1 : Nat)) * (40 : Nat) ≤ (70368744177664 : Nat) ∧ ∃ y_3 : Pl.Atm × Int,
 (Pl.AtB (4 : Nat) y_3.1 ∧ p ≤ y_3.2 ∧ y_3.2 ≤ p + (1500 : Int)) ∧ (0 : Nat) + (y.1.2.2.2.1.length + (1 : Nat)) ≤ y.1.2.2.2.1.length + (1 : Nat) ∧ (0 : Nat) + y.1.2.2.2.2.1.length ≤ y.1.2.2.2.2.1.length ∧ ((y.1.1 = y_3.1.1 ∧ y.1.2.1.1 = y_3.1.2.1.1 ∧ Is (terms y.1.2.1.2) (terms y_3.1.2.1.2) ∧ y.1.2.2.1.1 = y_3.1.2.2.1.1 ∧ Is (terms y.1.2.2.1.2) (terms y_3.1.2.2.1.2) ∧ Is
 (AV.sl (y.1.2.2.2.1.length + (1 : Nat)) (2 : Nat) fun (i j : Nat) =>
 joinC y.1.2.2.2.1.length (cT y.1.2.2.2.1)
 (rowsCell [[st y_2.1.1, terms y_2.1.2]]) i j)
 (terms y_3.1.2.2.2.1) ∧ Is (ints y.1.2.2.2.2.1) (ints y_3.1.2.2.2.2.1) ∧ y.1.2.2.2.2.2.1 = y_3.1.2.2.2.2.2.1 ∧ y.1.2.2.2.2.2.2 = y_3.1.2.2.2.2.2.2 ∧ True) ∧ True) ∧ (Is (byts x.1) (byts b) ∧ y_2.2 = y_3.2 ∧ True) ∧ True) ∧ ∃ x : AX,
 (Rd (137438953472 : Int) x.1 x.2.1 ∧ x.2.1 + (↑(Pl.CB x.2.2.2.2.toNat) : Int) ≤ (137438953472 : Int) ∧ Pl.SgB (5 : Nat) (2 : Nat) x.2.2.1 ∧ x.2.2.2.2 ≤ (4 : Int)) ∧ (((0 : Nat) = (0 : Nat) ∧ (Is (syms s) (syms x.2.2.1) ∧ True) ∧ (1 : Int) = x.2.2.2.1 ∧ (1 : Int) = x.2.2.2.2 ∧ True) ∧ (Is (byts x_1.1) (byts x.1) ∧ x_1.2.1 + (1 : Int) = x.2.1 ∧ True) ∧ True) ∧ ∀ (y_2 : Pl.TP × Int),
 Pl.TmB (Pl.CB x.2.2.2.2.toNat) y_2.1 ∧ x.2.1 ≤ y_2.2 ∧ y_2.2 ≤ x.2.1 + (↑(Pl.CB x.2.2.2.2.toNat) : Int) →
 (0 : Nat) + y_2.1.2.length ≤ y_2.1.2.length ∧ (0 : Nat) + y.1.2.2.2.1.length ≤ y.1.2.2.2.1.length ∧ (y.1.2.2.2.1.length + (1 : Nat)) * (40 : Nat) ≤ (70368744177664 : Nat) ∧ ∃ y_3 : Pl.Atm × Int,
 (Pl.AtB (4 : Nat) y_3.1 ∧ p ≤ y_3.2 ∧ y_3.2 ≤ p + (1500 : Int)) ∧ (0 : Nat) + (y.1.2.2.2.1.length + (1 : Nat)) ≤ y.1.2.2.2.1.length + (1 : Nat) ∧ (0 : Nat) + y.1.2.2.2.2.1.length ≤ y.1.2.2.2.2.1.length ∧ ((y.1.1 = y_3.1.1 ∧ y.1.2.1.1 = y_3.1.2.1.1 ∧ Is (terms y.1.2.1.2) (terms y_3.1.2.1.2) ∧ y.1.2.2.1.1 = y_3.1.2.2.1.1 ∧ Is (terms y.1.2.2.1.2) (terms y_3.1.2.2.1.2) ∧ Is
 (AV.sl (y.1.2.2.2.1.length + (1 : Nat)) (2 : Nat) fun (i j : Nat) =>
 joinC y.1.2.2.2.1.length (cT y.1.2.2.2.1)
 (rowsCell [[st y_2.1.1, terms y_2.1.2]]) i j)
 (terms y_3.1.2.2.2.1) ∧ Is (ints y.1.2.2.2.2.1) (ints y_3.1.2.2.2.2.1) ∧ y.1.2.2.2.2.2.1 = y_3.1.2.2.2.2.2.1 ∧ y.1.2.2.2.2.2.2 = y_3.1.2.2.2.2.2.2 ∧ True) ∧ True) ∧ (Is (byts x.1) (byts b) ∧ y_2.2 = y_3.2 ∧ True) ∧ True)
 (∃ y_2 : Pl.Atm × Int,
 (Pl.AtB (4 : Nat) y_2.1 ∧ p ≤ y_2.2 ∧ y_2.2 ≤ p + (1500 : Int)) ∧ (0 : Nat) + y.1.2.2.2.1.length ≤ y.1.2.2.2.1.length ∧ (0 : Nat) + y.1.2.2.2.2.1.length ≤ y.1.2.2.2.2.1.length ∧ ((y.1.1 = y_2.1.1 ∧ y.1.2.1.1 = y_2.1.2.1.1 ∧ Is (terms y.1.2.1.2) (terms y_2.1.2.1.2) ∧ y.1.2.2.1.1 = y_2.1.2.2.1.1 ∧ Is (terms y.1.2.2.1.2) (terms y_2.1.2.2.1.2) ∧ Is (terms y.1.2.2.2.1) (terms y_2.1.2.2.2.1) ∧ Is (ints y.1.2.2.2.2.1) (ints y_2.1.2.2.2.2.1) ∧ y.1.2.2.2.2.2.1 = y_2.1.2.2.2.2.2.1 ∧ y.1.2.2.2.2.2.2 = y_2.1.2.2.2.2.2.2 ∧ True) ∧ True) ∧ (Is (byts x_1.1) (byts b) ∧ x_1.2.1 + (1 : Int) = y_2.2 ∧ True) ∧ True)))))) = Goal Tryz.prog [K_l6Any, K_pick, K_num, K_l4Some, K_lAny] ([]) K_l6Some.1 K_l6Some.2 ((b, p, s)) := by kernel_rfl

end Cg

/-
  What is left to show of each function's code, printed by a program: Mtd. No condition.
-/
set_option maxRecDepth 100000
set_option linter.unusedVariables false
namespace Cg
open Go Go.Proofs
theorem vc_l4Copy (n : Nat) (v : ByteArray) (ks : List Pl.Tm) : ((∃ x : Nat,
 x ≤ ks.length ∧ ((0 : Nat) = (0 : Nat) ∧ (0 : Nat) = (0 : Nat) ∧ (0 : Nat) = (0 : Nat) ∧ (0 : Int) = (↑x : Int) ∧ True) ∧ (v = v ∧ Is (terms ks) (terms ks) ∧ True) ∧ (ByteArray.mk #[] = ByteArray.empty ∧ Is (AV.lit (0 : Nat) (1 : Nat) fun (x x_1 : Nat) => AV.any) nilA ∧ True) ∧ (v = v ∧ ((0 : Nat) = (0 : Nat) ∧ (0 : Nat) = (0 : Nat) ∧ (List.take x ks).length = (0 : Nat)) ∧ True) ∧ (List.take x ks).length = (0 : Nat) ∧ True) ∧ ∀ (x : Nat),
 x ≤ ks.length →
 condP (decide ((↑x : Int) < (↑ks.length : Int)))
 (((0 : Int) ≤ (↑x : Int) ∧ (↑x : Int) < (↑ks.length : Int)) ∧ x < ks.length ∧ ∃ x_1 : Pl.TP,
 ((Pl.Tree.val (ks.getD x Pl.dT) = x_1.1 ∧ Is (kidsT (ks.getD x Pl.dT)) (terms x_1.2) ∧ True) ∧ True) ∧ (SmT (Pl.Tree.mk x_1.1 x_1.2) ∧ Pl.manyL x_1.2 < n) ∧ (0 : Nat) + (List.take x ks).length ≤ (List.take x ks).length ∧ ((List.take x ks).length + (1 : Nat)) * (40 : Nat) ≤ (70368744177664 : Nat) ∧ Exists fun (x' : Nat) =>
 x' ≤ ks.length ∧ ks.length - x' < ks.length - x ∧ ((0 : Nat) = (0 : Nat) ∧ (0 : Nat) = (0 : Nat) ∧ (0 : Nat) = (0 : Nat) ∧ IntKind.i64.wrap ((↑x : Int) + (1 : Int)) = (↑x' : Int) ∧ True) ∧ (v = v ∧ Is (terms ks) (terms ks) ∧ True) ∧ (ByteArray.empty = ByteArray.empty ∧ Is (AV.lit (0 : Nat) (1 : Nat) fun (x x_2 : Nat) => AV.any) nilA ∧ True) ∧ (v = v ∧ ((0 : Nat) = (0 : Nat) ∧ (List.take x ks).length + (1 : Nat) = (List.take x' ks).length) ∧ True) ∧ IsO
 (AObj.arr ((List.take x ks).length + (1 : Nat)) (2 : Nat)
 (joinC (List.take x ks).length (cT (List.take x ks)) (rowsCell [[st x_1.1, terms x_1.2]])))
 (arT (List.take x' ks)) ∧ True)
 ((0 : Nat) + (List.take x ks).length ≤ (List.take x ks).length ∧ v = v ∧ Is (terms (List.take x ks)) (terms ks) ∧ True)) = Goal Tryz.prog [(K_l4Copy n)] (A_l4Copy v ks) (K_l4Copy (n + 1)).1 (K_l4Copy (n + 1)).2 ((v, ks)) := by kernel_rfl

theorem vc_l4CopyO (v : ByteArray) (ks : List Pl.Tm) : ((∃ x : Nat,
 x ≤ ks.length ∧ ((0 : Nat) = (0 : Nat) ∧ (0 : Nat) = (0 : Nat) ∧ (0 : Nat) = (0 : Nat) ∧ (0 : Int) = (↑x : Int) ∧ True) ∧ IsO (arT ks) (arT ks) ∧ (v = v ∧ ((0 : Nat) = (0 : Nat) ∧ ks.length = ks.length) ∧ True) ∧ (ByteArray.mk #[] = ByteArray.empty ∧ Is (AV.lit (0 : Nat) (1 : Nat) fun (x x_1 : Nat) => AV.any) nilA ∧ True) ∧ (v = v ∧ ((0 : Nat) = (0 : Nat) ∧ (0 : Nat) = (0 : Nat) ∧ (List.take x ks).length = (0 : Nat)) ∧ True) ∧ (List.take x ks).length = (0 : Nat) ∧ True) ∧ ∀ (x : Nat),
 x ≤ ks.length →
 condP (decide ((↑x : Int) < (↑ks.length : Int)))
 (((0 : Int) ≤ (↑x : Int) ∧ (↑x : Int) < (↑ks.length : Int)) ∧ x < ks.length ∧ ∃ x_1 : Pl.TP,
 ((Pl.Tree.val (ks.getD x Pl.dT) = x_1.1 ∧ Is (kidsT (ks.getD x Pl.dT)) (terms x_1.2) ∧ True) ∧ True) ∧ SmT (Pl.Tree.mk x_1.1 x_1.2) ∧ (0 : Nat) + (List.take x ks).length ≤ (List.take x ks).length ∧ ((List.take x ks).length + (1 : Nat)) * (40 : Nat) ≤ (70368744177664 : Nat) ∧ Exists fun (x' : Nat) =>
 x' ≤ ks.length ∧ ks.length - x' < ks.length - x ∧ ((0 : Nat) = (0 : Nat) ∧ (0 : Nat) = (0 : Nat) ∧ (0 : Nat) = (0 : Nat) ∧ IntKind.i64.wrap ((↑x : Int) + (1 : Int)) = (↑x' : Int) ∧ True) ∧ IsO (arT ks) (arT ks) ∧ (v = v ∧ ((0 : Nat) = (0 : Nat) ∧ ks.length = ks.length) ∧ True) ∧ (ByteArray.empty = ByteArray.empty ∧ Is (AV.lit (0 : Nat) (1 : Nat) fun (x x_2 : Nat) => AV.any) nilA ∧ True) ∧ (v = v ∧ ((0 : Nat) = (0 : Nat) ∧ (List.take x ks).length + (1 : Nat) = (List.take x' ks).length) ∧ True) ∧ IsO
 (AObj.arr ((List.take x ks).length + (1 : Nat)) (2 : Nat)
 (joinC (List.take x ks).length (cT (List.take x ks)) (rowsCell [[st x_1.1, terms x_1.2]])))
 (arT (List.take x' ks)) ∧ True)
 (∃ y : Unit,
 True ∧ (0 : Nat) + (List.take x ks).length ≤ (List.take x ks).length ∧ ((v = v ∧ Is (terms (List.take x ks)) (terms ks) ∧ True) ∧ True) ∧ IsO (arT ks) (arT ks) ∧ True)) = Goal Tryz.prog [K_lCopy] (A_l4CopyO v ks) K_l4CopyO.1 K_l4CopyO.2 ((v, ks)) := by kernel_rfl

theorem vc_l4Any (n : Nat) (b : List Int) (p : Int) (s : Pl.Sig) (u d : Int) : ((∃ x : Nat × List Pl.Sym,
 (x.1 ≤ List.length s ∧ x.2.length ≤ x.1 ∧ Pl.WdB d x.2) ∧ ((0 : Nat) = (0 : Nat) ∧ u = u ∧ d = d ∧ (0 : Nat) = (0 : Nat) ∧ (0 : Nat) = (0 : Nat) ∧ ((0 : Nat) = (0 : Nat) ∧ (0 : Nat) = (0 : Nat) ∧ x.2.length = (0 : Nat)) ∧ (0 : Int) = (↑x.1 : Int) ∧ True) ∧ (Is (byts b) (byts b) ∧ p = p ∧ True) ∧ (Is (syms s) (syms s) ∧ True) ∧ (ByteArray.mk #[] = ByteArray.empty ∧ Is (AV.lit (0 : Nat) (1 : Nat) fun (x x_1 : Nat) => AV.any) nilA ∧ True) ∧ x.2.length = (0 : Nat) ∧ True) ∧ ∀ (x : Nat × List Pl.Sym),
 x.1 ≤ List.length s ∧ x.2.length ≤ x.1 ∧ Pl.WdB d x.2 →
 condP (decide ((↑x.1 : Int) < (↑(List.length s) : Int)))
 (((0 : Int) ≤ (↑x.1 : Int) ∧ (↑x.1 : Int) < (↑(List.length s) : Int)) ∧ x.1 < List.length s ∧ condP ((List.getD s x.1 Pl.dY).2.2 == u)
 (condP (decide (d > (1 : Int)))
 (((0 : Int) ≤ (↑x.1 : Int) ∧ (↑x.1 : Int) < (↑(List.length s) : Int)) ∧ x.1 < List.length s ∧ (0 : Nat) + x.2.length ≤ x.2.length ∧ (x.2.length + (1 : Nat)) * (48 : Nat) ≤ (70368744177664 : Nat) ∧ Exists fun (x' : Nat × List Pl.Sym) =>
 (x'.1 ≤ List.length s ∧ x'.2.length ≤ x'.1 ∧ Pl.WdB d x'.2) ∧ List.length s - x'.1 < List.length s - x.1 ∧ ((0 : Nat) = (0 : Nat) ∧ u = u ∧ d = d ∧ (0 : Nat) = (0 : Nat) ∧ (0 : Nat) = (0 : Nat) ∧ ((0 : Nat) = (0 : Nat) ∧ x.2.length + (1 : Nat) = x'.2.length) ∧ IntKind.i64.wrap ((↑x.1 : Int) + (1 : Int)) = (↑x'.1 : Int) ∧ True) ∧ (Is (byts b) (byts b) ∧ p = p ∧ True) ∧ (Is (syms s) (syms s) ∧ True) ∧ (ByteArray.empty = ByteArray.empty ∧ Is (AV.lit (0 : Nat) (1 : Nat) fun (x x_1 : Nat) => AV.any) nilA ∧ True) ∧ IsO
 (AObj.arr (x.2.length + (1 : Nat)) (3 : Nat)
 (joinC x.2.length (cY x.2)
 (rowsCell [[st (List.getD s x.1 Pl.dY).1, ints (List.getD s x.1 Pl.dY).2.1, i64 (List.getD s x.1 Pl.dY).2.2]])))
 (arY x'.2) ∧ True)
 (((0 : Int) ≤ (↑x.1 : Int) ∧ (↑x.1 : Int) < (↑(List.length s) : Int)) ∧ x.1 < List.length s ∧ condP ((↑(List.getD s x.1 Pl.dY).2.1.length : Int) == (0 : Int))
 (((0 : Int) ≤ (↑x.1 : Int) ∧ (↑x.1 : Int) < (↑(List.length s) : Int)) ∧ x.1 < List.length s ∧ (0 : Nat) + x.2.length ≤ x.2.length ∧ (x.2.length + (1 : Nat)) * (48 : Nat) ≤ (70368744177664 : Nat) ∧ Exists fun (x' : Nat × List Pl.Sym) =>
 (x'.1 ≤ List.length s ∧ x'.2.length ≤ x'.1 ∧ Pl.WdB d x'.2) ∧ List.length s - x'.1 < List.length s - x.1 ∧ ((0 : Nat) = (0 : Nat) ∧ u = u ∧ d = d ∧ (0 : Nat) = (0 : Nat) ∧ (0 : Nat) = (0 : Nat) ∧ ((0 : Nat) = (0 : Nat) ∧ x.2.length + (1 : Nat) = x'.2.length) ∧ IntKind.i64.wrap ((↑x.1 : Int) + (1 : Int)) = (↑x'.1 : Int) ∧ True) ∧ (Is (byts b) (byts b) ∧ p = p ∧ True) ∧ (Is (syms s) (syms s) ∧ True) ∧ (ByteArray.empty = ByteArray.empty ∧ Is (AV.lit (0 : Nat) (1 : Nat) fun (x x_1 : Nat) => AV.any) nilA ∧ True) ∧ IsO
 (AObj.arr (x.2.length + (1 : Nat)) (3 : Nat)
 (joinC x.2.length (cY x.2)
 (rowsCell [[st (List.getD s x.1 Pl.dY).1, ints (List.getD s x.1 Pl.dY).2.1, i64 (List.getD s x.1 Pl.dY).2.2]])))
 (arY x'.2) ∧ True)
 (Exists fun (x' : Nat × List Pl.Sym) =>
 (x'.1 ≤ List.length s ∧ x'.2.length ≤ x'.1 ∧ Pl.WdB d x'.2) ∧ List.length s - x'.1 < List.length s - x.1 ∧ ((0 : Nat) = (0 : Nat) ∧ u = u ∧ d = d ∧ (0 : Nat) = (0 : Nat) ∧ (0 : Nat) = (0 : Nat) ∧ ((0 : Nat) = (0 : Nat) ∧ x.2.length = x'.2.length) ∧ IntKind.i64.wrap ((↑x.1 : Int) + (1 : Int)) = (↑x'.1 : Int) ∧ True) ∧ (Is (byts b) (byts b) ∧ p = p ∧ True) ∧ (Is (syms s) (syms s) ∧ True) ∧ (ByteArray.empty = ByteArray.empty ∧ Is (AV.lit (0 : Nat) (1 : Nat) fun (x x_1 : Nat) => AV.any) nilA ∧ True) ∧ IsO (arY x.2) (arY x'.2) ∧ True)))
 (Exists fun (x' : Nat × List Pl.Sym) =>
 (x'.1 ≤ List.length s ∧ x'.2.length ≤ x'.1 ∧ Pl.WdB d x'.2) ∧ List.length s - x'.1 < List.length s - x.1 ∧ ((0 : Nat) = (0 : Nat) ∧ u = u ∧ d = d ∧ (0 : Nat) = (0 : Nat) ∧ (0 : Nat) = (0 : Nat) ∧ ((0 : Nat) = (0 : Nat) ∧ x.2.length = x'.2.length) ∧ IntKind.i64.wrap ((↑x.1 : Int) + (1 : Int)) = (↑x'.1 : Int) ∧ True) ∧ (Is (byts b) (byts b) ∧ p = p ∧ True) ∧ (Is (syms s) (syms s) ∧ True) ∧ (ByteArray.empty = ByteArray.empty ∧ Is (AV.lit (0 : Nat) (1 : Nat) fun (x x_1 : Nat) => AV.any) nilA ∧ True) ∧ IsO (arY x.2) (arY x'.2) ∧ True))
 (condP ((↑x.2.length : Int) == (0 : Int))
 (∃ y : Pl.TP × Int,
 (Pl.TmB (Pl.CB d.toNat) y.1 ∧ p ≤ y.2 ∧ y.2 ≤ p + (↑(Pl.CB d.toNat) : Int)) ∧ ((ByteArray.mk #[(113 : UInt8)] = y.1.1 ∧ ((0 : Nat) = (0 : Nat) ∧ (0 : Nat) = (0 : Nat) ∧ y.1.2.length = (0 : Nat)) ∧ True) ∧ True) ∧ (Is (byts b) (byts b) ∧ p = y.2 ∧ True) ∧ y.1.2.length = (0 : Nat) ∧ True)
 (∃ x_1 : List Int × Int × Int,
 Rd (1099511627776 : Int) x_1.1 x_1.2.1 ∧ (((0 : Nat) = (0 : Nat) ∧ (↑x.2.length : Int) = x_1.2.2 ∧ True) ∧ (Is (byts b) (byts x_1.1) ∧ p = x_1.2.1 ∧ True) ∧ True) ∧ ∀ (y : Int),
 ((1 : Int) ≤ x_1.2.2 → (0 : Int) ≤ y ∧ y < x_1.2.2) ∧ (x_1.2.2 < (1 : Int) → y = (0 : Int)) →
 ((0 : Int) ≤ y ∧ y < (↑x.2.length : Int)) ∧ y.toNat < x.2.length ∧ (∃ x_2 : Pl.Sym × Nat × List Pl.Tm × Int,
 (Pl.WdB d [x_2.1] ∧ x_2.2.1 ≤ x_2.1.2.1.length ∧ x_2.2.2.1.length = x_2.2.1 ∧ Pl.costTs x_2.2.2.1 ≤ x_2.2.1 * Pl.CB (d - (1 : Int)).toNat ∧ p ≤ x_2.2.2.2 ∧ x_2.2.2.2 ≤ p + (1 : Int) + (↑x_2.2.1 : Int) * (↑(Pl.CB (d - (1 : Int)).toNat) : Int)) ∧ ((0 : Nat) = (0 : Nat) ∧ d = d ∧ (0 : Nat) = (0 : Nat) ∧ (0 : Nat) = (0 : Nat) ∧ (0 : Nat) = (0 : Nat) ∧ (0 : Nat) = (0 : Nat) ∧ (0 : Int) = (↑x_2.2.1 : Int) ∧ True) ∧ (Is (byts x_1.1) (byts b) ∧ x_1.2.1 + (1 : Int) = x_2.2.2.2 ∧ True) ∧ (Is (syms s) (syms s) ∧ True) ∧ (ByteArray.empty = ByteArray.empty ∧ Is (AV.lit (0 : Nat) (1 : Nat) fun (x x_3 : Nat) => AV.any) nilA ∧ True) ∧ ((x.2.getD y.toNat Pl.dY).1 = x_2.1.1 ∧ Is (ints (x.2.getD y.toNat Pl.dY).2.1) (ints x_2.1.2.1) ∧ (x.2.getD y.toNat Pl.dY).2.2 = x_2.1.2.2 ∧ True) ∧ ((x.2.getD y.toNat Pl.dY).1 = x_2.1.1 ∧ ((0 : Nat) = (0 : Nat) ∧ (0 : Nat) = (0 : Nat) ∧ x_2.2.2.1.length = (0 : Nat)) ∧ True) ∧ x_2.2.2.1.length = (0 : Nat) ∧ True) ∧ ∀ (x : Pl.Sym × Nat × List Pl.Tm × Int),
 Pl.WdB d [x.1] ∧ x.2.1 ≤ x.1.2.1.length ∧ x.2.2.1.length = x.2.1 ∧ Pl.costTs x.2.2.1 ≤ x.2.1 * Pl.CB (d - (1 : Int)).toNat ∧ p ≤ x.2.2.2 ∧ x.2.2.2 ≤ p + (1 : Int) + (↑x.2.1 : Int) * (↑(Pl.CB (d - (1 : Int)).toNat) : Int) →
 condP (decide ((↑x.2.1 : Int) < (↑x.1.2.1.length : Int)))
 ((((0 : Int) ≤ (↑x.2.1 : Int) ∧ (↑x.2.1 : Int) < (↑x.1.2.1.length : Int)) ∧ x.2.1 < x.1.2.1.length ∧ ∃ x_2 : AX,
 ((Rd (137438953472 : Int) x_2.1 x_2.2.1 ∧ x_2.2.1 + (↑(Pl.CB x_2.2.2.2.2.toNat) : Int) ≤ (137438953472 : Int) ∧ Pl.SgB (5 : Nat) (2 : Nat) x_2.2.2.1 ∧ x_2.2.2.2.2 ≤ (4 : Int)) ∧ x_2.2.2.2.2.toNat < n) ∧ (((0 : Nat) = (0 : Nat) ∧ (Is (syms s) (syms x_2.2.2.1) ∧ True) ∧ x.1.2.1.getD x.2.1 (0 : Int) = x_2.2.2.2.1 ∧ IntKind.i64.wrap (d - (1 : Int)) = x_2.2.2.2.2 ∧ True) ∧ (Is (byts b) (byts x_2.1) ∧ x.2.2.2 = x_2.2.1 ∧ True) ∧ True) ∧ ∀ (y : Pl.TP × Int),
 Pl.TmB (Pl.CB x_2.2.2.2.2.toNat) y.1 ∧ x_2.2.1 ≤ y.2 ∧ y.2 ≤ x_2.2.1 + (↑(Pl.CB x_2.2.2.2.2.toNat) : Int) →
 (0 : Nat) + y.1.2.length ≤ y.1.2.length ∧ (0 : Nat) + x.2.2.1.length ≤ x.2.2.1.length ∧ (x.2.2.1.length + (1 : Nat)) * (40 : Nat) ≤ (70368744177664 : Nat) ∧ Exists fun (x' : Pl.Sym × Nat × List Pl.Tm × Int) =>
 (Pl.WdB d [x'.1] ∧ x'.2.1 ≤ x'.1.2.1.length ∧ x'.2.2.1.length = x'.2.1 ∧ Pl.costTs x'.2.2.1 ≤ x'.2.1 * Pl.CB (d - (1 : Int)).toNat ∧ p ≤ x'.2.2.2 ∧ x'.2.2.2 ≤ p + (1 : Int) + (↑x'.2.1 : Int) * (↑(Pl.CB (d - (1 : Int)).toNat) : Int)) ∧ x'.1.2.1.length - x'.2.1 < x.1.2.1.length - x.2.1 ∧ ((0 : Nat) = (0 : Nat) ∧ d = d ∧ (0 : Nat) = (0 : Nat) ∧ (0 : Nat) = (0 : Nat) ∧ (0 : Nat) = (0 : Nat) ∧ (0 : Nat) = (0 : Nat) ∧ IntKind.i64.wrap ((↑x.2.1 : Int) + (1 : Int)) = (↑x'.2.1 : Int) ∧ True) ∧ (Is (byts x_2.1) (byts b) ∧ y.2 = x'.2.2.2 ∧ True) ∧ (Is (syms s) (syms s) ∧ True) ∧ (ByteArray.empty = ByteArray.empty ∧ Is (AV.lit (0 : Nat) (1 : Nat) fun (x x_3 : Nat) => AV.any) nilA ∧ True) ∧ (x.1.1 = x'.1.1 ∧ Is (ints x.1.2.1) (ints x'.1.2.1) ∧ x.1.2.2 = x'.1.2.2 ∧ True) ∧ (x.1.1 = x'.1.1 ∧ ((0 : Nat) = (0 : Nat) ∧ x.2.2.1.length + (1 : Nat) = x'.2.2.1.length) ∧ True) ∧ IsO
 (AObj.arr (x.2.2.1.length + (1 : Nat)) (2 : Nat)
 (joinC x.2.2.1.length (cT x.2.2.1) (rowsCell [[st y.1.1, terms y.1.2]])))
 (arT x'.2.2.1) ∧ True) ∧ ((0 : Int) ≤ (↑x.2.1 : Int) ∧ (↑x.2.1 : Int) < (↑x.1.2.1.length : Int)) ∧ x.2.1 < x.1.2.1.length ∧ (∃ x_2 : AX,
 ((Rd (137438953472 : Int) x_2.1 x_2.2.1 ∧ x_2.2.1 + (↑(Pl.CB x_2.2.2.2.2.toNat) : Int) ≤ (137438953472 : Int) ∧ Pl.SgB (5 : Nat) (2 : Nat) x_2.2.2.1 ∧ x_2.2.2.2.2 ≤ (4 : Int)) ∧ x_2.2.2.2.2.toNat < n) ∧ (((0 : Nat) = (0 : Nat) ∧ (Is (syms s) (syms x_2.2.2.1) ∧ True) ∧ x.1.2.1.getD x.2.1 (0 : Int) = x_2.2.2.2.1 ∧ IntKind.i64.wrap (d - (1 : Int)) = x_2.2.2.2.2 ∧ True) ∧ (Is (byts b) (byts x_2.1) ∧ x.2.2.2 = x_2.2.1 ∧ True) ∧ True) ∧ ∀ (y : Pl.TP × Int),
 Pl.TmB (Pl.CB x_2.2.2.2.2.toNat) y.1 ∧ x_2.2.1 ≤ y.2 ∧ y.2 ≤ x_2.2.1 + (↑(Pl.CB x_2.2.2.2.2.toNat) : Int) →
 (0 : Nat) + y.1.2.length ≤ y.1.2.length ∧ (0 : Nat) + x.2.2.1.length ≤ x.2.2.1.length ∧ (x.2.2.1.length + (1 : Nat)) * (40 : Nat) ≤ (70368744177664 : Nat) ∧ Exists fun (x' : Pl.Sym × Nat × List Pl.Tm × Int) =>
 (Pl.WdB d [x'.1] ∧ x'.2.1 ≤ x'.1.2.1.length ∧ x'.2.2.1.length = x'.2.1 ∧ Pl.costTs x'.2.2.1 ≤ x'.2.1 * Pl.CB (d - (1 : Int)).toNat ∧ p ≤ x'.2.2.2 ∧ x'.2.2.2 ≤ p + (1 : Int) + (↑x'.2.1 : Int) * (↑(Pl.CB (d - (1 : Int)).toNat) : Int)) ∧ x'.1.2.1.length - x'.2.1 < x.1.2.1.length - x.2.1 ∧ ((0 : Nat) = (0 : Nat) ∧ d = d ∧ (0 : Nat) = (0 : Nat) ∧ (0 : Nat) = (0 : Nat) ∧ (0 : Nat) = (0 : Nat) ∧ (0 : Nat) = (0 : Nat) ∧ IntKind.i64.wrap ((↑x.2.1 : Int) + (1 : Int)) = (↑x'.2.1 : Int) ∧ True) ∧ (Is (byts x_2.1) (byts b) ∧ y.2 = x'.2.2.2 ∧ True) ∧ (Is (syms s) (syms s) ∧ True) ∧ (ByteArray.empty = ByteArray.empty ∧ Is (AV.lit (0 : Nat) (1 : Nat) fun (x x_3 : Nat) => AV.any) nilA ∧ True) ∧ (x.1.1 = x'.1.1 ∧ Is (ints x.1.2.1) (ints x'.1.2.1) ∧ x.1.2.2 = x'.1.2.2 ∧ True) ∧ (x.1.1 = x'.1.1 ∧ ((0 : Nat) = (0 : Nat) ∧ x.2.2.1.length + (1 : Nat) = x'.2.2.1.length) ∧ True) ∧ IsO
 (AObj.arr (x.2.2.1.length + (1 : Nat)) (2 : Nat)
 (joinC x.2.2.1.length (cT x.2.2.1) (rowsCell [[st y.1.1, terms y.1.2]])))
 (arT x'.2.2.1) ∧ True) ∧ ∃ x_2 : AX,
 ((Rd (137438953472 : Int) x_2.1 x_2.2.1 ∧ x_2.2.1 + (↑(Pl.CB x_2.2.2.2.2.toNat) : Int) ≤ (137438953472 : Int) ∧ Pl.SgB (5 : Nat) (2 : Nat) x_2.2.2.1 ∧ x_2.2.2.2.2 ≤ (4 : Int)) ∧ x_2.2.2.2.2.toNat < n) ∧ (((0 : Nat) = (0 : Nat) ∧ (Is (syms s) (syms x_2.2.2.1) ∧ True) ∧ x.1.2.1.getD x.2.1 (0 : Int) = x_2.2.2.2.1 ∧ IntKind.i64.wrap (d - (1 : Int)) = x_2.2.2.2.2 ∧ True) ∧ (Is (byts b) (byts x_2.1) ∧ x.2.2.2 = x_2.2.1 ∧ True) ∧ True) ∧ ∀ (y : Pl.TP × Int),
 Pl.TmB (Pl.CB x_2.2.2.2.2.toNat) y.1 ∧ x_2.2.1 ≤ y.2 ∧ y.2 ≤ x_2.2.1 + (↑(Pl.CB x_2.2.2.2.2.toNat) : Int) →
 (0 : Nat) + y.1.2.length ≤ y.1.2.length ∧ (0 : Nat) + x.2.2.1.length ≤ x.2.2.1.length ∧ (x.2.2.1.length + (1 : Nat)) * (40 : Nat) ≤ (70368744177664 : Nat) ∧ Exists fun (x' : Pl.Sym × Nat × List Pl.Tm × Int) =>
 (Pl.WdB d [x'.1] ∧ x'.2.1 ≤ x'.1.2.1.length ∧ x'.2.2.1.length = x'.2.1 ∧ Pl.costTs x'.2.2.1 ≤ x'.2.1 * Pl.CB (d - (1 : Int)).toNat ∧ p ≤ x'.2.2.2 ∧ x'.2.2.2 ≤ p + (1 : Int) + (↑x'.2.1 : Int) * (↑(Pl.CB (d - (1 : Int)).toNat) : Int)) ∧ x'.1.2.1.length - x'.2.1 < x.1.2.1.length - x.2.1 ∧ ((0 : Nat) = (0 : Nat) ∧ d = d ∧ (0 : Nat) = (0 : Nat) ∧ (0 : Nat) = (0 : Nat) ∧ (0 : Nat) = (0 : Nat) ∧ (0 : Nat) = (0 : Nat) ∧ IntKind.i64.wrap ((↑x.2.1 : Int) + (1 : Int)) = (↑x'.2.1 : Int) ∧ True) ∧ (Is (byts x_2.1) (byts b) ∧ y.2 = x'.2.2.2 ∧ True) ∧ (Is (syms s) (syms s) ∧ True) ∧ (ByteArray.empty = ByteArray.empty ∧ Is (AV.lit (0 : Nat) (1 : Nat) fun (x x_3 : Nat) => AV.any) nilA ∧ True) ∧ (x.1.1 = x'.1.1 ∧ Is (ints x.1.2.1) (ints x'.1.2.1) ∧ x.1.2.2 = x'.1.2.2 ∧ True) ∧ (x.1.1 = x'.1.1 ∧ ((0 : Nat) = (0 : Nat) ∧ x.2.2.1.length + (1 : Nat) = x'.2.2.1.length) ∧ True) ∧ IsO
 (AObj.arr (x.2.2.1.length + (1 : Nat)) (2 : Nat)
 (joinC x.2.2.1.length (cT x.2.2.1) (rowsCell [[st y.1.1, terms y.1.2]])))
 (arT x'.2.2.1) ∧ True)
 (∃ y : Pl.TP × Int,
 (Pl.TmB (Pl.CB d.toNat) y.1 ∧ p ≤ y.2 ∧ y.2 ≤ p + (↑(Pl.CB d.toNat) : Int)) ∧ ((x.1.1 = y.1.1 ∧ ((0 : Nat) = (0 : Nat) ∧ x.2.2.1.length = y.1.2.length) ∧ True) ∧ True) ∧ (Is (byts b) (byts b) ∧ x.2.2.2 = y.2 ∧ True) ∧ IsO (arT x.2.2.1) (arT y.1.2) ∧ True)))) = Goal Tryz.prog [K_pick, (K_l4Any n)] (A_l4Any b p s u d) (K_l4Any (n + 1)).1 (K_l4Any (n + 1)).2 ((b, p, s, u, d)) := by kernel_rfl

theorem vc_l4Some (b : List Int) (p : Int) (s : Pl.Sig) : (((∃ x : List Int × Int × Int,
 Rd (1099511627776 : Int) x.1 x.2.1 ∧ (((0 : Nat) = (0 : Nat) ∧ (2 : Int) = x.2.2 ∧ True) ∧ (Is (byts b) (byts x.1) ∧ p = x.2.1 ∧ True) ∧ True) ∧ ∀ (y : Int),
 ((1 : Int) ≤ x.2.2 → (0 : Int) ≤ y ∧ y < x.2.2) ∧ (x.2.2 < (1 : Int) → y = (0 : Int)) →
 (∃ x_1 : List Int × Int × List Int,
 (Rd (1099511627776 : Int) x_1.1 x_1.2.1 ∧ x_1.2.2 ≠ [] ∧ Sz x_1.2.2) ∧ (((0 : Nat) = (0 : Nat) ∧ Is (AV.lit (4 : Nat) (1 : Nat) (rowsCell [[i64 (2 : Int)], [i64 (3 : Int)], [i64 (1 : Int)], [i64 (4 : Int)]])) (ints x_1.2.2) ∧ True) ∧ (Is (byts x.1) (byts x_1.1) ∧ x.2.1 + (1 : Int) = x_1.2.1 ∧ True) ∧ True) ∧ ∀ (y_1 : Int),
 y_1 ∈ x_1.2.2 →
 (∃ x : AX,
 (Rd (137438953472 : Int) x.1 x.2.1 ∧ x.2.1 + (↑(Pl.CB x.2.2.2.2.toNat) : Int) ≤ (137438953472 : Int) ∧ Pl.SgB (5 : Nat) (2 : Nat) x.2.2.1 ∧ x.2.2.2.2 ≤ (4 : Int)) ∧ (((0 : Nat) = (0 : Nat) ∧ (Is (syms s) (syms x.2.2.1) ∧ True) ∧ y = x.2.2.2.1 ∧ y_1 = x.2.2.2.2 ∧ True) ∧ (Is (byts x_1.1) (byts x.1) ∧ x_1.2.1 + (1 : Int) = x.2.1 ∧ True) ∧ True) ∧ ∀ (y : Pl.TP × Int),
 Pl.TmB (Pl.CB x.2.2.2.2.toNat) y.1 ∧ x.2.1 ≤ y.2 ∧ y.2 ≤ x.2.1 + (↑(Pl.CB x.2.2.2.2.toNat) : Int) →
 ∃ x_2 : List Int × Int × Int,
 Rd (1099511627776 : Int) x_2.1 x_2.2.1 ∧ (((0 : Nat) = (0 : Nat) ∧ (48 : Int) = x_2.2.2 ∧ True) ∧ (Is (byts x.1) (byts x_2.1) ∧ y.2 = x_2.2.1 ∧ True) ∧ True) ∧ ∀ (y_2 : Int),
 ((1 : Int) ≤ x_2.2.2 → (0 : Int) ≤ y_2 ∧ y_2 < x_2.2.2) ∧ (x_2.2.2 < (1 : Int) → y_2 = (0 : Int)) →
 condP (y_2 == (0 : Int))
 (∃ x : List Int × Int × List ByteArray,
 (Rd (1099511627776 : Int) x.1 x.2.1 ∧ x.2.2 ≠ [] ∧ Sz x.2.2) ∧ (((0 : Nat) = (0 : Nat) ∧ Is
 (AV.lit (4 : Nat) (1 : Nat)
 (rowsCell
 [[st (ByteArray.mk #[])], [st (ByteArray.mk #[(65 : UInt8)])],
 [st (ByteArray.mk #[(97 : UInt8), (98 : UInt8), (99 : UInt8)])], [st (ByteArray.mk #[(102 : UInt8)])]]))
 (strs x.2.2) ∧ True) ∧ (Is (byts x_2.1) (byts x.1) ∧ x_2.2.1 + (1 : Int) = x.2.1 ∧ True) ∧ True) ∧ ∀ (y_3 : ByteArray),
 y_3 ∈ x.2.2 →
 ∃ y_4 : Pl.TP × Int,
 (Pl.TmB (1500 : Nat) y_4.1 ∧ p ≤ y_4.2 ∧ y_4.2 ≤ p + (500 : Int)) ∧ (0 : Nat) + y.1.2.length ≤ y.1.2.length ∧ ((y_3 = y_4.1.1 ∧ Is (terms y.1.2) (terms y_4.1.2) ∧ True) ∧ True) ∧ (Is (byts x.1) (byts b) ∧ x.2.1 + (1 : Int) = y_4.2 ∧ True) ∧ True)
 (condP (y_2 == (1 : Int))
 (∃ x : Pl.TP,
 SmT (Pl.Tree.mk x.1 x.2) ∧ (((y.1.1 = x.1 ∧ ((0 : Nat) = (0 : Nat) ∧ y.1.2.length = x.2.length) ∧ True) ∧ True) ∧ IsO (arT y.1.2) (arT x.2) ∧ True) ∧ ∀ (y_3 : Unit),
 True →
 (0 : Nat) + y.1.2.length ≤ x.2.length ∧ (y.1.2.length + (1 : Nat)) * (40 : Nat) ≤ (70368744177664 : Nat) ∧ ∃ y_4 : Pl.TP × Int,
 (Pl.TmB (1500 : Nat) y_4.1 ∧ p ≤ y_4.2 ∧ y_4.2 ≤ p + (500 : Int)) ∧ (0 : Nat) + (y.1.2.length + (1 : Nat)) ≤ y.1.2.length + (1 : Nat) ∧ ((y.1.1 = y_4.1.1 ∧ Is
 (AV.sl (y.1.2.length + (1 : Nat)) (2 : Nat) fun (i j : Nat) =>
 joinC y.1.2.length (cT x.2) (rowsCell [[st x.1, terms x.2]]) i j)
 (terms y_4.1.2) ∧ True) ∧ True) ∧ (Is (byts x_2.1) (byts b) ∧ x_2.2.1 + (1 : Int) = y_4.2 ∧ True) ∧ True)
 (condP (y_2 == (2 : Int))
 (∃ x : Pl.TP,
 SmT (Pl.Tree.mk x.1 x.2) ∧ (((y.1.1 = x.1 ∧ ((0 : Nat) = (0 : Nat) ∧ y.1.2.length = x.2.length) ∧ True) ∧ True) ∧ IsO (arT y.1.2) (arT x.2) ∧ True) ∧ ∀ (y_3 : Unit),
 True →
 ∃ x_3 : Pl.TP,
 SmT (Pl.Tree.mk x_3.1 x_3.2) ∧ (((y.1.1 = x_3.1 ∧ ((0 : Nat) = (0 : Nat) ∧ y.1.2.length = x_3.2.length) ∧ True) ∧ True) ∧ IsO (arT x.2) (arT x_3.2) ∧ True) ∧ ∀ (y_4 : Unit),
 True →
 (0 : Nat) + y.1.2.length ≤ x_3.2.length ∧ (y.1.2.length + (2 : Nat)) * (40 : Nat) ≤ (70368744177664 : Nat) ∧ ∃ y_5 : Pl.TP × Int,
 (Pl.TmB (1500 : Nat) y_5.1 ∧ p ≤ y_5.2 ∧ y_5.2 ≤ p + (500 : Int)) ∧ (0 : Nat) + (y.1.2.length + (2 : Nat)) ≤ y.1.2.length + (2 : Nat) ∧ ((y.1.1 = y_5.1.1 ∧ Is
 (AV.sl (y.1.2.length + (2 : Nat)) (2 : Nat) fun (i j : Nat) =>
 joinC y.1.2.length (cT x_3.2)
 (rowsCell [[st x.1, terms x.2], [st x_3.1, terms x_3.2]]) i j)
 (terms y_5.1.2) ∧ True) ∧ True) ∧ (Is (byts x_2.1) (byts b) ∧ x_2.2.1 + (1 : Int) = y_5.2 ∧ True) ∧ True)
 (∃ y_3 : Pl.TP × Int,
 (Pl.TmB (1500 : Nat) y_3.1 ∧ p ≤ y_3.2 ∧ y_3.2 ≤ p + (500 : Int)) ∧ (0 : Nat) + y.1.2.length ≤ y.1.2.length ∧ ((y.1.1 = y_3.1.1 ∧ Is (terms y.1.2) (terms y_3.1.2) ∧ True) ∧ True) ∧ (Is (byts x_2.1) (byts b) ∧ x_2.2.1 + (1 : Int) = y_3.2 ∧ True) ∧ True)))) ∧ ∃ x : AX,
 (Rd (137438953472 : Int) x.1 x.2.1 ∧ x.2.1 + (↑(Pl.CB x.2.2.2.2.toNat) : Int) ≤ (137438953472 : Int) ∧ Pl.SgB (5 : Nat) (2 : Nat) x.2.2.1 ∧ x.2.2.2.2 ≤ (4 : Int)) ∧ (((0 : Nat) = (0 : Nat) ∧ (Is (syms s) (syms x.2.2.1) ∧ True) ∧ y = x.2.2.2.1 ∧ y_1 = x.2.2.2.2 ∧ True) ∧ (Is (byts x_1.1) (byts x.1) ∧ x_1.2.1 + (1 : Int) = x.2.1 ∧ True) ∧ True) ∧ ∀ (y : Pl.TP × Int),
 Pl.TmB (Pl.CB x.2.2.2.2.toNat) y.1 ∧ x.2.1 ≤ y.2 ∧ y.2 ≤ x.2.1 + (↑(Pl.CB x.2.2.2.2.toNat) : Int) →
 ∃ x_2 : List Int × Int × Int,
 Rd (1099511627776 : Int) x_2.1 x_2.2.1 ∧ (((0 : Nat) = (0 : Nat) ∧ (48 : Int) = x_2.2.2 ∧ True) ∧ (Is (byts x.1) (byts x_2.1) ∧ y.2 = x_2.2.1 ∧ True) ∧ True) ∧ ∀ (y_2 : Int),
 ((1 : Int) ≤ x_2.2.2 → (0 : Int) ≤ y_2 ∧ y_2 < x_2.2.2) ∧ (x_2.2.2 < (1 : Int) → y_2 = (0 : Int)) →
 condP (y_2 == (0 : Int))
 (∃ x : List Int × Int × List ByteArray,
 (Rd (1099511627776 : Int) x.1 x.2.1 ∧ x.2.2 ≠ [] ∧ Sz x.2.2) ∧ (((0 : Nat) = (0 : Nat) ∧ Is
 (AV.lit (4 : Nat) (1 : Nat)
 (rowsCell
 [[st (ByteArray.mk #[])], [st (ByteArray.mk #[(65 : UInt8)])],
 [st (ByteArray.mk #[(97 : UInt8), (98 : UInt8), (99 : UInt8)])], [st (ByteArray.mk #[(102 : UInt8)])]]))
 (strs x.2.2) ∧ True) ∧ (Is (byts x_2.1) (byts x.1) ∧ x_2.2.1 + (1 : Int) = x.2.1 ∧ True) ∧ True) ∧ ∀ (y_3 : ByteArray),
 y_3 ∈ x.2.2 →
 ∃ y_4 : Pl.TP × Int,
 (Pl.TmB (1500 : Nat) y_4.1 ∧ p ≤ y_4.2 ∧ y_4.2 ≤ p + (500 : Int)) ∧ (0 : Nat) + y.1.2.length ≤ y.1.2.length ∧ ((y_3 = y_4.1.1 ∧ Is (terms y.1.2) (terms y_4.1.2) ∧ True) ∧ True) ∧ (Is (byts x.1) (byts b) ∧ x.2.1 + (1 : Int) = y_4.2 ∧ True) ∧ True)
 (condP (y_2 == (1 : Int))
 (∃ x : Pl.TP,
 SmT (Pl.Tree.mk x.1 x.2) ∧ (((y.1.1 = x.1 ∧ ((0 : Nat) = (0 : Nat) ∧ y.1.2.length = x.2.length) ∧ True) ∧ True) ∧ IsO (arT y.1.2) (arT x.2) ∧ True) ∧ ∀ (y_3 : Unit),
 True →
 (0 : Nat) + y.1.2.length ≤ x.2.length ∧ (y.1.2.length + (1 : Nat)) * (40 : Nat) ≤ (70368744177664 : Nat) ∧ ∃ y_4 : Pl.TP × Int,
 (Pl.TmB (1500 : Nat) y_4.1 ∧ p ≤ y_4.2 ∧ y_4.2 ≤ p + (500 : Int)) ∧ (0 : Nat) + (y.1.2.length + (1 : Nat)) ≤ y.1.2.length + (1 : Nat) ∧ ((y.1.1 = y_4.1.1 ∧ Is
 (AV.sl (y.1.2.length + (1 : Nat)) (2 : Nat) fun (i j : Nat) =>
 joinC y.1.2.length (cT x.2) (rowsCell [[st x.1, terms x.2]]) i j)
 (terms y_4.1.2) ∧ True) ∧ True) ∧ (Is (byts x_2.1) (byts b) ∧ x_2.2.1 + (1 : Int) = y_4.2 ∧ True) ∧ True)
 (condP (y_2 == (2 : Int))
 (∃ x : Pl.TP,
 SmT (Pl.Tree.mk x.1 x.2) ∧ (((y.1.1 = x.1 ∧ ((0 : Nat) = (0 : Nat) ∧ y.1.2.length = x.2.length) ∧ True) ∧ True) ∧ IsO (arT y.1.2) (arT x.2) ∧ True) ∧ ∀ (y_3 : Unit),
 True →
 ∃ x_3 : Pl.TP,
 SmT (Pl.Tree.mk x_3.1 x_3.2) ∧ (((y.1.1 = x_3.1 ∧ ((0 : Nat) = (0 : Nat) ∧ y.1.2.length = x_3.2.length) ∧ True) ∧ True) ∧ IsO (arT x.2) (arT x_3.2) ∧ True) ∧ ∀ (y_4 : Unit),
 True →
 (0 : Nat) + y.1.2.length ≤ x_3.2.length ∧ (y.1.2.length + (2 : Nat)) * (40 : Nat) ≤ (70368744177664 : Nat) ∧ ∃ y_5 : Pl.TP × Int,
 (Pl.TmB (1500 : Nat) y_5.1 ∧ p ≤ y_5.2 ∧ y_5.2 ≤ p + (500 : Int)) ∧ (0 : Nat) + (y.1.2.length + (2 : Nat)) ≤ y.1.2.length + (2 : Nat) ∧ ((y.1.1 = y_5.1.1 ∧ Is
 (AV.sl (y.1.2.length + (2 : Nat)) (2 : Nat) fun (i j : Nat) =>
 joinC y.1.2.length (cT x_3.2)
 (rowsCell [[st x.1, terms x.2], [st x_3.1, terms x_3.2]]) i j)
 (terms y_5.1.2) ∧ True) ∧ True) ∧ (Is (byts x_2.1) (byts b) ∧ x_2.2.1 + (1 : Int) = y_5.2 ∧ True) ∧ True)
 (∃ y_3 : Pl.TP × Int,
 (Pl.TmB (1500 : Nat) y_3.1 ∧ p ≤ y_3.2 ∧ y_3.2 ≤ p + (500 : Int)) ∧ (0 : Nat) + y.1.2.length ≤ y.1.2.length ∧ ((y.1.1 = y_3.1.1 ∧ Is (terms y.1.2) (terms y_3.1.2) ∧ True) ∧ True) ∧ (Is (byts x_2.1) (byts b) ∧ x_2.2.1 + (1 : Int) = y_3.2 ∧ True) ∧ True)))) ∧ ∃ x_1 : List Int × Int × List Int,
 (Rd (1099511627776 : Int) x_1.1 x_1.2.1 ∧ x_1.2.2 ≠ [] ∧ Sz x_1.2.2) ∧ (((0 : Nat) = (0 : Nat) ∧ Is (AV.lit (4 : Nat) (1 : Nat) (rowsCell [[i64 (2 : Int)], [i64 (3 : Int)], [i64 (1 : Int)], [i64 (4 : Int)]])) (ints x_1.2.2) ∧ True) ∧ (Is (byts x.1) (byts x_1.1) ∧ x.2.1 + (1 : Int) = x_1.2.1 ∧ True) ∧ True) ∧ ∀ (y_1 : Int),
 y_1 ∈ x_1.2.2 →
 ∃ x : AX,
 (Rd (137438953472 : Int) x.1 x.2.1 ∧ x.2.1 + (↑(Pl.CB x.2.2.2.2.toNat) : Int) ≤ (137438953472 : Int) ∧ Pl.SgB (5 : Nat) (2 : Nat) x.2.2.1 ∧ x.2.2.2.2 ≤ (4 : Int)) ∧ (((0 : Nat) = (0 : Nat) ∧ (Is (syms s) (syms x.2.2.1) ∧ True) ∧ y = x.2.2.2.1 ∧ y_1 = x.2.2.2.2 ∧ True) ∧ (Is (byts x_1.1) (byts x.1) ∧ x_1.2.1 + (1 : Int) = x.2.1 ∧ True) ∧ True) ∧ ∀ (y : Pl.TP × Int),
 Pl.TmB (Pl.CB x.2.2.2.2.toNat) y.1 ∧ x.2.1 ≤ y.2 ∧ y.2 ≤ x.2.1 + (↑(Pl.CB x.2.2.2.2.toNat) : Int) →
 ∃ x_2 : List Int × Int × Int,
 Rd (1099511627776 : Int) x_2.1 x_2.2.1 ∧ (((0 : Nat) = (0 : Nat) ∧ (48 : Int) = x_2.2.2 ∧ True) ∧ (Is (byts x.1) (byts x_2.1) ∧ y.2 = x_2.2.1 ∧ True) ∧ True) ∧ ∀ (y_2 : Int),
 ((1 : Int) ≤ x_2.2.2 → (0 : Int) ≤ y_2 ∧ y_2 < x_2.2.2) ∧ (x_2.2.2 < (1 : Int) → y_2 = (0 : Int)) →
 condP (y_2 == (0 : Int))
 (∃ x : List Int × Int × List ByteArray,
 (Rd (1099511627776 : Int) x.1 x.2.1 ∧ x.2.2 ≠ [] ∧ Sz x.2.2) ∧ (((0 : Nat) = (0 : Nat) ∧ Is
 (AV.lit (4 : Nat) (1 : Nat)
 (rowsCell
 [[st (ByteArray.mk #[])], [st (ByteArray.mk #[(65 : UInt8)])],
 [st (ByteArray.mk #[(97 : UInt8), (98 : UInt8), (99 : UInt8)])], [st (ByteArray.mk #[(102 : UInt8)])]]))
 (strs x.2.2) ∧ True) ∧ (Is (byts x_2.1) (byts x.1) ∧ x_2.2.1 + (1 : Int) = x.2.1 ∧ True) ∧ True) ∧ ∀ (y_3 : ByteArray),
 y_3 ∈ x.2.2 →
 ∃ y_4 : Pl.TP × Int,
 (Pl.TmB (1500 : Nat) y_4.1 ∧ p ≤ y_4.2 ∧ y_4.2 ≤ p + (500 : Int)) ∧ (0 : Nat) + y.1.2.length ≤ y.1.2.length ∧ ((y_3 = y_4.1.1 ∧ Is (terms y.1.2) (terms y_4.1.2) ∧ True) ∧ True) ∧ (Is (byts x.1) (byts b) ∧ x.2.1 + (1 : Int) = y_4.2 ∧ True) ∧ True)
 (condP (y_2 == (1 : Int))
 (∃ x : Pl.TP,
 SmT (Pl.Tree.mk x.1 x.2) ∧ (((y.1.1 = x.1 ∧ ((0 : Nat) = (0 : Nat) ∧ y.1.2.length = x.2.length) ∧ True) ∧ True) ∧ IsO (arT y.1.2) (arT x.2) ∧ True) ∧ ∀ (y_3 : Unit),
 True →
 (0 : Nat) + y.1.2.length ≤ x.2.length ∧ (y.1.2.length + (1 : Nat)) * (40 : Nat) ≤ (70368744177664 : Nat) ∧ ∃ y_4 : Pl.TP × Int,
 (Pl.TmB (1500 : Nat) y_4.1 ∧ p ≤ y_4.2 ∧ y_4.2 ≤ p + (500 : Int)) ∧ (0 : Nat) + (y.1.2.length + (1 : Nat)) ≤ y.1.2.length + (1 : Nat) ∧ ((y.1.1 = y_4.1.1 ∧ Is
 (AV.sl (y.1.2.length + (1 : Nat)) (2 : Nat) fun (i j : Nat) =>
 joinC y.1.2.length (cT x.2) (rowsCell [[st x.1, terms x.2]]) i j)
 (terms y_4.1.2) ∧ True) ∧ True) ∧ (Is (byts x_2.1) (byts b) ∧ x_2.2.1 + (1 : Int) = y_4.2 ∧ True) ∧ True)
 (condP (y_2 == (2 : Int))
 (∃ x : Pl.TP,
 SmT (Pl.Tree.mk x.1 x.2) ∧ (((y.1.1 = x.1 ∧ ((0 : Nat) = (0 : Nat) ∧ y.1.2.length = x.2.length) ∧ True) ∧ True) ∧ IsO (arT y.1.2) (arT x.2) ∧ True) ∧ ∀ (y_3 : Unit),
 True →
 ∃ x_3 : Pl.TP,
 SmT (Pl.Tree.mk x_3.1 x_3.2) ∧ (((y.1.1 = x_3.1 ∧ ((0 : Nat) = (0 : Nat) ∧ y.1.2.length = x_3.2.length) ∧ True) ∧ True) ∧ IsO (arT x.2) (arT x_3.2) ∧ True) ∧ ∀ (y_4 : Unit),
 True →
 (0 : Nat) + y.1.2.length ≤ x_3.2.length ∧ (y.1.2.length + (2 : Nat)) * (40 : Nat) ≤ (70368744177664 : Nat) ∧ ∃ y_5 : Pl.TP × Int,
 (Pl.TmB (1500 : Nat) y_5.1 ∧ p ≤ y_5.2 ∧ y_5.2 ≤ p + (500 : Int)) ∧ (0 : Nat) + (y.1.2.length + (2 : Nat)) ≤ y.1.2.length + (2 : Nat) ∧ ((y.1.1 = y_5.1.1 ∧ Is
 (AV.sl (y.1.2.length + (2 : Nat)) (2 : Nat) fun (i j : Nat) =>
 joinC y.1.2.length (cT x_3.2)
 (rowsCell [[st x.1, terms x.2], [st x_3.1, terms x_3.2]]) i j)
 (terms y_5.1.2) ∧ True) ∧ True) ∧ (Is (byts x_2.1) (byts b) ∧ x_2.2.1 + (1 : Int) = y_5.2 ∧ True) ∧ True)
 (∃ y_3 : Pl.TP × Int,
 (Pl.TmB (1500 : Nat) y_3.1 ∧ p ≤ y_3.2 ∧ y_3.2 ≤ p + (500 : Int)) ∧ (0 : Nat) + y.1.2.length ≤ y.1.2.length ∧ ((y.1.1 = y_3.1.1 ∧ Is (terms y.1.2) (terms y_3.1.2) ∧ True) ∧ True) ∧ (Is (byts x_2.1) (byts b) ∧ x_2.2.1 + (1 : Int) = y_3.2 ∧ True) ∧ True)))) ∧ ∃ x : List Int × Int × Int,
 Rd (1099511627776 : Int) x.1 x.2.1 ∧ (((0 : Nat) = (0 : Nat) ∧ (2 : Int) = x.2.2 ∧ True) ∧ (Is (byts b) (byts x.1) ∧ p = x.2.1 ∧ True) ∧ True) ∧ ∀ (y : Int),
 ((1 : Int) ≤ x.2.2 → (0 : Int) ≤ y ∧ y < x.2.2) ∧ (x.2.2 < (1 : Int) → y = (0 : Int)) →
 ∃ x_1 : List Int × Int × List Int,
 (Rd (1099511627776 : Int) x_1.1 x_1.2.1 ∧ x_1.2.2 ≠ [] ∧ Sz x_1.2.2) ∧ (((0 : Nat) = (0 : Nat) ∧ Is (AV.lit (4 : Nat) (1 : Nat) (rowsCell [[i64 (2 : Int)], [i64 (3 : Int)], [i64 (1 : Int)], [i64 (4 : Int)]])) (ints x_1.2.2) ∧ True) ∧ (Is (byts x.1) (byts x_1.1) ∧ x.2.1 + (1 : Int) = x_1.2.1 ∧ True) ∧ True) ∧ ∀ (y_1 : Int),
 y_1 ∈ x_1.2.2 →
 ∃ x : AX,
 (Rd (137438953472 : Int) x.1 x.2.1 ∧ x.2.1 + (↑(Pl.CB x.2.2.2.2.toNat) : Int) ≤ (137438953472 : Int) ∧ Pl.SgB (5 : Nat) (2 : Nat) x.2.2.1 ∧ x.2.2.2.2 ≤ (4 : Int)) ∧ (((0 : Nat) = (0 : Nat) ∧ (Is (syms s) (syms x.2.2.1) ∧ True) ∧ y = x.2.2.2.1 ∧ y_1 = x.2.2.2.2 ∧ True) ∧ (Is (byts x_1.1) (byts x.1) ∧ x_1.2.1 + (1 : Int) = x.2.1 ∧ True) ∧ True) ∧ ∀ (y : Pl.TP × Int),
 Pl.TmB (Pl.CB x.2.2.2.2.toNat) y.1 ∧ x.2.1 ≤ y.2 ∧ y.2 ≤ x.2.1 + (↑(Pl.CB x.2.2.2.2.toNat) : Int) →
 ∃ x_2 : List Int × Int × Int,
 Rd (1099511627776 : Int) x_2.1 x_2.2.1 ∧ (((0 : Nat) = (0 : Nat) ∧ (48 : Int) = x_2.2.2 ∧ True) ∧ (Is (byts x.1) (byts x_2.1) ∧ y.2 = x_2.2.1 ∧ True) ∧ True) ∧ ∀ (y_2 : Int),
 ((1 : Int) ≤ x_2.2.2 → (0 : Int) ≤ y_2 ∧ y_2 < x_2.2.2) ∧ (x_2.2.2 < (1 : Int) → y_2 = (0 : Int)) →
 condP (y_2 == (0 : Int))
 (∃ x : List Int × Int × List ByteArray,
 (Rd (1099511627776 : Int) x.1 x.2.1 ∧ x.2.2 ≠ [] ∧ Sz x.2.2) ∧ (((0 : Nat) = (0 : Nat) ∧ Is
 (AV.lit (4 : Nat) (1 : Nat)
 (rowsCell
 [[st (ByteArray.mk #[])], [st (ByteArray.mk #[(65 : UInt8)])], [st (ByteArray.mk #[(97 : UInt8), (98 : UInt8), (99 : UInt8)])],
 [st (ByteArray.mk #[(102 : UInt8)])]]))
 (strs x.2.2) ∧ True) ∧ (Is (byts x_2.1) (byts x.1) ∧ x_2.2.1 + (1 : Int) = x.2.1 ∧ True) ∧ True) ∧ ∀ (y_3 : ByteArray),
 y_3 ∈ x.2.2 →
 ∃ y_4 : Pl.TP × Int,
 (Pl.TmB (1500 : Nat) y_4.1 ∧ p ≤ y_4.2 ∧ y_4.2 ≤ p + (500 : Int)) ∧ (0 : Nat) + y.1.2.length ≤ y.1.2.length ∧ ((y_3 = y_4.1.1 ∧ Is (terms y.1.2) (terms y_4.1.2) ∧ True) ∧ True) ∧ (Is (byts x.1) (byts b) ∧ x.2.1 + (1 : Int) = y_4.2 ∧ True) ∧ True)
 (condP (y_2 == (1 : Int))
 (∃ x : Pl.TP,
 SmT (Pl.Tree.mk x.1 x.2) ∧ (((y.1.1 = x.1 ∧ ((0 : Nat) = (0 : Nat) ∧ y.1.2.length = x.2.length) ∧ True) ∧ True) ∧ IsO (arT y.1.2) (arT x.2) ∧ True) ∧ ∀ (y_3 : Unit),
 True →
 (0 : Nat) + y.1.2.length ≤ x.2.length ∧ (y.1.2.length + (1 : Nat)) * (40 : Nat) ≤ (70368744177664 : Nat) ∧ ∃ y_4 : Pl.TP × Int,
 (Pl.TmB (1500 : Nat) y_4.1 ∧ p ≤ y_4.2 ∧ y_4.2 ≤ p + (500 : Int)) ∧ (0 : Nat) + (y.1.2.length + (1 : Nat)) ≤ y.1.2.length + (1 : Nat) ∧ ((y.1.1 = y_4.1.1 ∧ Is
 (AV.sl (y.1.2.length + (1 : Nat)) (2 : Nat) fun (i j : Nat) =>
 joinC y.1.2.length (cT x.2) (rowsCell [[st x.1, terms x.2]]) i j)
 (terms y_4.1.2) ∧ True) ∧ True) ∧ (Is (byts x_2.1) (byts b) ∧ x_2.2.1 + (1 : Int) = y_4.2 ∧ True) ∧ True)
 (condP (y_2 == (2 : Int))
 (∃ x : Pl.TP,
 SmT (Pl.Tree.mk x.1 x.2) ∧ (((y.1.1 = x.1 ∧ ((0 : Nat) = (0 : Nat) ∧ y.1.2.length = x.2.length) ∧ True) ∧ True) ∧ IsO (arT y.1.2) (arT x.2) ∧ True) ∧ ∀ (y_3 : Unit),
 True →
 ∃ x_3 : Pl.TP,
 SmT (Pl.Tree.mk x_3.1 x_3.2) ∧ (((y.1.1 = x_3.1 ∧ ((0 : Nat) = (0 : Nat) ∧ y.1.2.length = x_3.2.length) ∧ True) ∧ True) ∧ IsO (arT x.2) (arT x_3.2) ∧ True) ∧ ∀ (y_4 : Unit),
 True →
 (0 : Nat) + y.1.2.length ≤ x_3.2.length ∧ (y.1.2.length + (2 : Nat)) * (40 : Nat) ≤ (70368744177664 : Nat) ∧ ∃ y_5 : Pl.TP × Int,
 (Pl.TmB (1500 : Nat) y_5.1 ∧ p ≤ y_5.2 ∧ y_5.2 ≤ p + (500 : Int)) ∧ (0 : Nat) + (y.1.2.length + (2 : Nat)) ≤ y.1.2.length + (2 : Nat) ∧ ((y.1.1 = y_5.1.1 ∧ Is
 (AV.sl (y.1.2.length + (2 : Nat)) (2 : Nat) fun (i j : Nat) =>
 joinC y.1.2.length (cT x_3.2)
 (rowsCell [[st x.1, terms x.2], [st x_3.1, terms x_3.2]]) i j)
 (terms y_5.1.2) ∧ True) ∧ True) ∧ (Is (byts x_2.1) (byts b) ∧ x_2.2.1 + (1 : Int) = y_5.2 ∧ True) ∧ True)
 (∃ y_3 : Pl.TP × Int,
 (Pl.TmB (1500 : Nat) y_3.1 ∧ p ≤ y_3.2 ∧ y_3.2 ≤ p + (500 : Int)) ∧ (0 : Nat) + y.1.2.length ≤ y.1.2.length ∧ ((y.1.1 = y_3.1.1 ∧ Is (terms y.1.2) (terms y_3.1.2) ∧ True) ∧ True) ∧ (Is (byts x_2.1) (byts b) ∧ x_2.2.1 + (1 : Int) = y_3.2 ∧ True) ∧ True)))) ∧ (∃ x : List Int × Int × Int,
 Rd (1099511627776 : Int) x.1 x.2.1 ∧ (((0 : Nat) = (0 : Nat) ∧ (2 : Int) = x.2.2 ∧ True) ∧ (Is (byts b) (byts x.1) ∧ p = x.2.1 ∧ True) ∧ True) ∧ ∀ (y : Int),
 ((1 : Int) ≤ x.2.2 → (0 : Int) ≤ y ∧ y < x.2.2) ∧ (x.2.2 < (1 : Int) → y = (0 : Int)) →
 ((∃ x_1 : List Int × Int × List Int,
 (Rd (1099511627776 : Int) x_1.1 x_1.2.1 ∧ x_1.2.2 ≠ [] ∧ Sz x_1.2.2) ∧ (((0 : Nat) = (0 : Nat) ∧ Is (AV.lit (4 : Nat) (1 : Nat) (rowsCell [[i64 (2 : Int)], [i64 (3 : Int)], [i64 (1 : Int)], [i64 (4 : Int)]])) (ints x_1.2.2) ∧ True) ∧ (Is (byts x.1) (byts x_1.1) ∧ x.2.1 + (1 : Int) = x_1.2.1 ∧ True) ∧ True) ∧ ∀ (y_1 : Int),
 y_1 ∈ x_1.2.2 →
 (∃ x : AX,
 (Rd (137438953472 : Int) x.1 x.2.1 ∧ x.2.1 + (↑(Pl.CB x.2.2.2.2.toNat) : Int) ≤ (137438953472 : Int) ∧ Pl.SgB (5 : Nat) (2 : Nat) x.2.2.1 ∧ x.2.2.2.2 ≤ (4 : Int)) ∧ (((0 : Nat) = (0 : Nat) ∧ (Is (syms s) (syms x.2.2.1) ∧ True) ∧ y = x.2.2.2.1 ∧ y_1 = x.2.2.2.2 ∧ True) ∧ (Is (byts x_1.1) (byts x.1) ∧ x_1.2.1 + (1 : Int) = x.2.1 ∧ True) ∧ True) ∧ ∀ (y : Pl.TP × Int),
 Pl.TmB (Pl.CB x.2.2.2.2.toNat) y.1 ∧ x.2.1 ≤ y.2 ∧ y.2 ≤ x.2.1 + (↑(Pl.CB x.2.2.2.2.toNat) : Int) →
 ∃ x_2 : List Int × Int × Int,
 Rd (1099511627776 : Int) x_2.1 x_2.2.1 ∧ (((0 : Nat) = (0 : Nat) ∧ (48 : Int) = x_2.2.2 ∧ True) ∧ (Is (byts x.1) (byts x_2.1) ∧ y.2 = x_2.2.1 ∧ True) ∧ True) ∧ ∀ (y_2 : Int),
 ((1 : Int) ≤ x_2.2.2 → (0 : Int) ≤ y_2 ∧ y_2 < x_2.2.2) ∧ (x_2.2.2 < (1 : Int) → y_2 = (0 : Int)) →
 condP (y_2 == (0 : Int))
 (∃ x : List Int × Int × List ByteArray,
 (Rd (1099511627776 : Int) x.1 x.2.1 ∧ x.2.2 ≠ [] ∧ Sz x.2.2) ∧ (((0 : Nat) = (0 : Nat) ∧ Is
 (AV.lit (4 : Nat) (1 : Nat)
 (rowsCell
 [[st (ByteArray.mk #[])], [st (ByteArray.mk #[(65 : UInt8)])],
 [st (ByteArray.mk #[(97 : UInt8), (98 : UInt8), (99 : UInt8)])], [st (ByteArray.mk #[(102 : UInt8)])]]))
 (strs x.2.2) ∧ True) ∧ (Is (byts x_2.1) (byts x.1) ∧ x_2.2.1 + (1 : Int) = x.2.1 ∧ True) ∧ True) ∧ ∀ (y_3 : ByteArray),
 y_3 ∈ x.2.2 →
 ∃ y_4 : Pl.TP × Int,
 (Pl.TmB (1500 : Nat) y_4.1 ∧ p ≤ y_4.2 ∧ y_4.2 ≤ p + (500 : Int)) ∧ (0 : Nat) + y.1.2.length ≤ y.1.2.length ∧ ((y_3 = y_4.1.1 ∧ Is (terms y.1.2) (terms y_4.1.2) ∧ True) ∧ True) ∧ (Is (byts x.1) (byts b) ∧ x.2.1 + (1 : Int) = y_4.2 ∧ True) ∧ True)
 (condP (y_2 == (1 : Int))
 (∃ x : Pl.TP,
 SmT (Pl.Tree.mk x.1 x.2) ∧ (((y.1.1 = x.1 ∧ ((0 : Nat) = (0 : Nat) ∧ y.1.2.length = x.2.length) ∧ True) ∧ True) ∧ IsO (arT y.1.2) (arT x.2) ∧ True) ∧ ∀ (y_3 : Unit),
 True →
 (0 : Nat) + y.1.2.length ≤ x.2.length ∧ (y.1.2.length + (1 : Nat)) * (40 : Nat) ≤ (70368744177664 : Nat) ∧ ∃ y_4 : Pl.TP × Int,
 (Pl.TmB (1500 : Nat) y_4.1 ∧ p ≤ y_4.2 ∧ y_4.2 ≤ p + (500 : Int)) ∧ (0 : Nat) + (y.1.2.length + (1 : Nat)) ≤ y.1.2.length + (1 : Nat) ∧ ((y.1.1 = y_4.1.1 ∧ Is
 (AV.sl (y.1.2.length + (1 : Nat)) (2 : Nat) fun (i j : Nat) =>
 joinC y.1.2.length (cT x.2) (rowsCell [[st x.1, terms x.2]]) i j)
 (terms y_4.1.2) ∧ True) ∧ True) ∧ (Is (byts x_2.1) (byts b) ∧ x_2.2.1 + (1 : Int) = y_4.2 ∧ True) ∧ True)
 (condP (y_2 == (2 : Int))
 (∃ x : Pl.TP,
 SmT (Pl.Tree.mk x.1 x.2) ∧ (((y.1.1 = x.1 ∧ ((0 : Nat) = (0 : Nat) ∧ y.1.2.length = x.2.length) ∧ True) ∧ True) ∧ IsO (arT y.1.2) (arT x.2) ∧ True) ∧ ∀ (y_3 : Unit),
 True →
 ∃ x_3 : Pl.TP,
 SmT (Pl.Tree.mk x_3.1 x_3.2) ∧ (((y.1.1 = x_3.1 ∧ ((0 : Nat) = (0 : Nat) ∧ y.1.2.length = x_3.2.length) ∧ True) ∧ True) ∧ IsO (arT x.2) (arT x_3.2) ∧ True) ∧ ∀ (y_4 : Unit),
 True →
 (0 : Nat) + y.1.2.length ≤ x_3.2.length ∧ (y.1.2.length + (2 : Nat)) * (40 : Nat) ≤ (70368744177664 : Nat) ∧ ∃ y_5 : Pl.TP × Int,
 (Pl.TmB (1500 : Nat) y_5.1 ∧ p ≤ y_5.2 ∧ y_5.2 ≤ p + (500 : Int)) ∧ (0 : Nat) + (y.1.2.length + (2 : Nat)) ≤ y.1.2.length + (2 : Nat) ∧ ((y.1.1 = y_5.1.1 ∧ Is
 (AV.sl (y.1.2.length + (2 : Nat)) (2 : Nat) fun (i j : Nat) =>
 joinC y.1.2.length (cT x_3.2)
 (rowsCell [[st x.1, terms x.2], [st x_3.1, terms x_3.2]]) i j)
 (terms y_5.1.2) ∧ True) ∧ True) ∧ (Is (byts x_2.1) (byts b) ∧ x_2.2.1 + (1 : Int) = y_5.2 ∧ True) ∧ True)
 (∃ y_3 : Pl.TP × Int,
 (Pl.TmB (1500 : Nat) y_3.1 ∧ p ≤ y_3.2 ∧ y_3.2 ≤ p + (500 : Int)) ∧ (0 : Nat) + y.1.2.length ≤ y.1.2.length ∧ ((y.1.1 = y_3.1.1 ∧ Is (terms y.1.2) (terms y_3.1.2) ∧ True) ∧ True) ∧ (Is (byts x_2.1) (byts b) ∧ x_2.2.1 + (1 : Int) = y_3.2 ∧ True) ∧ True)))) ∧ ∃ x : AX,
 (Rd (137438953472 : Int) x.1 x.2.1 ∧ x.2.1 + (↑(Pl.CB x.2.2.2.2.toNat) : Int) ≤ (137438953472 : Int) ∧ Pl.SgB (5 : Nat) (2 : Nat) x.2.2.1 ∧ x.2.2.2.2 ≤ (4 : Int)) ∧ (((0 : Nat) = (0 : Nat) ∧ (Is (syms s) (syms x.2.2.1) ∧ True) ∧ y = x.2.2.2.1 ∧ y_1 = x.2.2.2.2 ∧ True) ∧ (Is (byts x_1.1) (byts x.1) ∧ x_1.2.1 + (1 : Int) = x.2.1 ∧ True) ∧ True) ∧ ∀ (y : Pl.TP × Int),
 Pl.TmB (Pl.CB x.2.2.2.2.toNat) y.1 ∧ x.2.1 ≤ y.2 ∧ y.2 ≤ x.2.1 + (↑(Pl.CB x.2.2.2.2.toNat) : Int) →
 ∃ x_2 : List Int × Int × Int,
 Rd (1099511627776 : Int) x_2.1 x_2.2.1 ∧ (((0 : Nat) = (0 : Nat) ∧ (48 : Int) = x_2.2.2 ∧ True) ∧ (Is (byts x.1) (byts x_2.1) ∧ y.2 = x_2.2.1 ∧ True) ∧ True) ∧ ∀ (y_2 : Int),
 ((1 : Int) ≤ x_2.2.2 → (0 : Int) ≤ y_2 ∧ y_2 < x_2.2.2) ∧ (x_2.2.2 < (1 : Int) → y_2 = (0 : Int)) →
 condP (y_2 == (0 : Int))
 (∃ x : List Int × Int × List ByteArray,
 (Rd (1099511627776 : Int) x.1 x.2.1 ∧ x.2.2 ≠ [] ∧ Sz x.2.2) ∧ (((0 : Nat) = (0 : Nat) ∧ Is
 (AV.lit (4 : Nat) (1 : Nat)
 (rowsCell
 [[st (ByteArray.mk #[])], [st (ByteArray.mk #[(65 : UInt8)])],
 [st (ByteArray.mk #[(97 : UInt8), (98 : UInt8), (99 : UInt8)])], [st (ByteArray.mk #[(102 : UInt8)])]]))
 (strs x.2.2) ∧ True) ∧ (Is (byts x_2.1) (byts x.1) ∧ x_2.2.1 + (1 : Int) = x.2.1 ∧ True) ∧ True) ∧ ∀ (y_3 : ByteArray),
 y_3 ∈ x.2.2 →
 ∃ y_4 : Pl.TP × Int,
 (Pl.TmB (1500 : Nat) y_4.1 ∧ p ≤ y_4.2 ∧ y_4.2 ≤ p + (500 : Int)) ∧ (0 : Nat) + y.1.2.length ≤ y.1.2.length ∧ ((y_3 = y_4.1.1 ∧ Is (terms y.1.2) (terms y_4.1.2) ∧ True) ∧ True) ∧ (Is (byts x.1) (byts b) ∧ x.2.1 + (1 : Int) = y_4.2 ∧ True) ∧ True)
 (condP (y_2 == (1 : Int))
 (∃ x : Pl.TP,
 SmT (Pl.Tree.mk x.1 x.2) ∧ (((y.1.1 = x.1 ∧ ((0 : Nat) = (0 : Nat) ∧ y.1.2.length = x.2.length) ∧ True) ∧ True) ∧ IsO (arT y.1.2) (arT x.2) ∧ True) ∧ ∀ (y_3 : Unit),
 True →
 (0 : Nat) + y.1.2.length ≤ x.2.length ∧ (y.1.2.length + (1 : Nat)) * (40 : Nat) ≤ (70368744177664 : Nat) ∧ ∃ y_4 : Pl.TP × Int,
 (Pl.TmB (1500 : Nat) y_4.1 ∧ p ≤ y_4.2 ∧ y_4.2 ≤ p + (500 : Int)) ∧ (0 : Nat) + (y.1.2.length + (1 : Nat)) ≤ y.1.2.length + (1 : Nat) ∧ ((y.1.1 = y_4.1.1 ∧ Is
 (AV.sl (y.1.2.length + (1 : Nat)) (2 : Nat) fun (i j : Nat) =>
 joinC y.1.2.length (cT x.2) (rowsCell [[st x.1, terms x.2]]) i j)
 (terms y_4.1.2) ∧ True) ∧ True) ∧ (Is (byts x_2.1) (byts b) ∧ x_2.2.1 + (1 : Int) = y_4.2 ∧ True) ∧ True)
 (condP (y_2 == (2 : Int))
 (∃ x : Pl.TP,
 SmT (Pl.Tree.mk x.1 x.2) ∧ (((y.1.1 = x.1 ∧ ((0 : Nat) = (0 : Nat) ∧ y.1.2.length = x.2.length) ∧ True) ∧ True) ∧ IsO (arT y.1.2) (arT x.2) ∧ True) ∧ ∀ (y_3 : Unit),
 True →
 ∃ x_3 : Pl.TP,
 SmT (Pl.Tree.mk x_3.1 x_3.2) ∧ (((y.1.1 = x_3.1 ∧ ((0 : Nat) = (0 : Nat) ∧ y.1.2.length = x_3.2.length) ∧ True) ∧ True) ∧ IsO (arT x.2) (arT x_3.2) ∧ True) ∧ ∀ (y_4 : Unit),
 True →
 (0 : Nat) + y.1.2.length ≤ x_3.2.length ∧ (y.1.2.length + (2 : Nat)) * (40 : Nat) ≤ (70368744177664 : Nat) ∧ ∃ y_5 : Pl.TP × Int,
 (Pl.TmB (1500 : Nat) y_5.1 ∧ p ≤ y_5.2 ∧ y_5.2 ≤ p + (500 : Int)) ∧ (0 : Nat) + (y.1.2.length + (2 : Nat)) ≤ y.1.2.length + (2 : Nat) ∧ ((y.1.1 = y_5.1.1 ∧ Is
 (AV.sl (y.1.2.length + (2 : Nat)) (2 : Nat) fun (i j : Nat) =>
 joinC y.1.2.length (cT x_3.2)
 (rowsCell [[st x.1, terms x.2], [st x_3.1, terms x_3.2]]) i j)
 (terms y_5.1.2) ∧ True) ∧ True) ∧ (Is (byts x_2.1) (byts b) ∧ x_2.2.1 + (1 : Int) = y_5.2 ∧ True) ∧ True)
 (∃ y_3 : Pl.TP × Int,
 (Pl.TmB (1500 : Nat) y_3.1 ∧ p ≤ y_3.2 ∧ y_3.2 ≤ p + (500 : Int)) ∧ (0 : Nat) + y.1.2.length ≤ y.1.2.length ∧ ((y.1.1 = y_3.1.1 ∧ Is (terms y.1.2) (terms y_3.1.2) ∧ True) ∧ True) ∧ (Is (byts x_2.1) (byts b) ∧ x_2.2.1 + (1 : Int) = y_3.2 ∧ True) ∧ True)))) ∧ ∃ x_1 : List Int × Int × List Int,
 (Rd (1099511627776 : Int) x_1.1 x_1.2.1 ∧ x_1.2.2 ≠ [] ∧ Sz x_1.2.2) ∧ (((0 : Nat) = (0 : Nat) ∧ Is (AV.lit (4 : Nat) (1 : Nat) (rowsCell [[i64 (2 : Int)], [i64 (3 : Int)], [i64 (1 : Int)], [i64 (4 : Int)]])) (ints x_1.2.2) ∧ True) ∧ (Is (byts x.1) (byts x_1.1) ∧ x.2.1 + (1 : Int) = x_1.2.1 ∧ True) ∧ True) ∧ ∀ (y_1 : Int),
 y_1 ∈ x_1.2.2 →
 ∃ x : AX,
 (Rd (137438953472 : Int) x.1 x.2.1 ∧ x.2.1 + (↑(Pl.CB x.2.2.2.2.toNat) : Int) ≤ (137438953472 : Int) ∧ Pl.SgB (5 : Nat) (2 : Nat) x.2.2.1 ∧ x.2.2.2.2 ≤ (4 : Int)) ∧ (((0 : Nat) = (0 : Nat) ∧ (Is (syms s) (syms x.2.2.1) ∧ True) ∧ y = x.2.2.2.1 ∧ y_1 = x.2.2.2.2 ∧ True) ∧ (Is (byts x_1.1) (byts x.1) ∧ x_1.2.1 + (1 : Int) = x.2.1 ∧ True) ∧ True) ∧ ∀ (y : Pl.TP × Int),
 Pl.TmB (Pl.CB x.2.2.2.2.toNat) y.1 ∧ x.2.1 ≤ y.2 ∧ y.2 ≤ x.2.1 + (↑(Pl.CB x.2.2.2.2.toNat) : Int) →
 ∃ x_2 : List Int × Int × Int,
 Rd (1099511627776 : Int) x_2.1 x_2.2.1 ∧ (((0 : Nat) = (0 : Nat) ∧ (48 : Int) = x_2.2.2 ∧ True) ∧ (Is (byts x.1) (byts x_2.1) ∧ y.2 = x_2.2.1 ∧ True) ∧ True) ∧ ∀ (y_2 : Int),
 ((1 : Int) ≤ x_2.2.2 → (0 : Int) ≤ y_2 ∧ y_2 < x_2.2.2) ∧ (x_2.2.2 < (1 : Int) → y_2 = (0 : Int)) →
 condP (y_2 == (0 : Int))
 (∃ x : List Int × Int × List ByteArray,
 (Rd (1099511627776 : Int) x.1 x.2.1 ∧ x.2.2 ≠ [] ∧ Sz x.2.2) ∧ (((0 : Nat) = (0 : Nat) ∧ Is
 (AV.lit (4 : Nat) (1 : Nat)
 (rowsCell
 [[st (ByteArray.mk #[])], [st (ByteArray.mk #[(65 : UInt8)])],
 [st (ByteArray.mk #[(97 : UInt8), (98 : UInt8), (99 : UInt8)])], [st (ByteArray.mk #[(102 : UInt8)])]]))
 (strs x.2.2) ∧ True) ∧ (Is (byts x_2.1) (byts x.1) ∧ x_2.2.1 + (1 : Int) = x.2.1 ∧ True) ∧ True) ∧ ∀ (y_3 : ByteArray),
 y_3 ∈ x.2.2 →
 ∃ y_4 : Pl.TP × Int,
 (Pl.TmB (1500 : Nat) y_4.1 ∧ p ≤ y_4.2 ∧ y_4.2 ≤ p + (500 : Int)) ∧ (0 : Nat) + y.1.2.length ≤ y.1.2.length ∧ ((y_3 = y_4.1.1 ∧ Is (terms y.1.2) (terms y_4.1.2) ∧ True) ∧ True) ∧ (Is (byts x.1) (byts b) ∧ x.2.1 + (1 : Int) = y_4.2 ∧ True) ∧ True)
 (condP (y_2 == (1 : Int))
 (∃ x : Pl.TP,
 SmT (Pl.Tree.mk x.1 x.2) ∧ (((y.1.1 = x.1 ∧ ((0 : Nat) = (0 : Nat) ∧ y.1.2.length = x.2.length) ∧ True) ∧ True) ∧ IsO (arT y.1.2) (arT x.2) ∧ True) ∧ ∀ (y_3 : Unit),
 True →
 (0 : Nat) + y.1.2.length ≤ x.2.length ∧ (y.1.2.length + (1 : Nat)) * (40 : Nat) ≤ (70368744177664 : Nat) ∧ ∃ y_4 : Pl.TP × Int,
 (Pl.TmB (1500 : Nat) y_4.1 ∧ p ≤ y_4.2 ∧ y_4.2 ≤ p + (500 : Int)) ∧ (0 : Nat) + (y.1.2.length + (1 : Nat)) ≤ y.1.2.length + (1 : Nat) ∧ ((y.1.1 = y_4.1.1 ∧ Is
 (AV.sl (y.1.2.length + (1 : Nat)) (2 : Nat) fun (i j : Nat) =>
 joinC y.1.2.length (cT x.2) (rowsCell [[st x.1, terms x.2]]) i j)
 (terms y_4.1.2) ∧ True) ∧ True) ∧ (Is (byts x_2.1) (byts b) ∧ x_2.2.1 + (1 : Int) = y_4.2 ∧ True) ∧ True)
 (condP (y_2 == (2 : Int))
 (∃ x : Pl.TP,
 SmT (Pl.Tree.mk x.1 x.2) ∧ (((y.1.1 = x.1 ∧ ((0 : Nat) = (0 : Nat) ∧ y.1.2.length = x.2.length) ∧ True) ∧ True) ∧ IsO (arT y.1.2) (arT x.2) ∧ True) ∧ ∀ (y_3 : Unit),
 True →
 ∃ x_3 : Pl.TP,
 SmT (Pl.Tree.mk x_3.1 x_3.2) ∧ (((y.1.1 = x_3.1 ∧ ((0 : Nat) = (0 : Nat) ∧ y.1.2.length = x_3.2.length) ∧ True) ∧ True) ∧ IsO (arT x.2) (arT x_3.2) ∧ True) ∧ ∀ (y_4 : Unit),
 True →
 (0 : Nat) + y.1.2.length ≤ x_3.2.length ∧ (y.1.2.length + (2 : Nat)) * (40 : Nat) ≤ (70368744177664 : Nat) ∧ ∃ y_5 : Pl.TP × Int,
 (Pl.TmB (1500 : Nat) y_5.1 ∧ p ≤ y_5.2 ∧ y_5.2 ≤ p + (500 : Int)) ∧ (0 : Nat) + (y.1.2.length + (2 : Nat)) ≤ y.1.2.length + (2 : Nat) ∧ ((y.1.1 = y_5.1.1 ∧ Is
 (AV.sl (y.1.2.length + (2 : Nat)) (2 : Nat) fun (i j : Nat) =>
 joinC y.1.2.length (cT x_3.2)
 (rowsCell [[st x.1, terms x.2], [st x_3.1, terms x_3.2]]) i j)
 (terms y_5.1.2) ∧ True) ∧ True) ∧ (Is (byts x_2.1) (byts b) ∧ x_2.2.1 + (1 : Int) = y_5.2 ∧ True) ∧ True)
 (∃ y_3 : Pl.TP × Int,
 (Pl.TmB (1500 : Nat) y_3.1 ∧ p ≤ y_3.2 ∧ y_3.2 ≤ p + (500 : Int)) ∧ (0 : Nat) + y.1.2.length ≤ y.1.2.length ∧ ((y.1.1 = y_3.1.1 ∧ Is (terms y.1.2) (terms y_3.1.2) ∧ True) ∧ True) ∧ (Is (byts x_2.1) (byts b) ∧ x_2.2.1 + (1 : Int) = y_3.2 ∧ True) ∧ True)))) ∧ (∃ x_1 : List Int × Int × List Int,
 (Rd (1099511627776 : Int) x_1.1 x_1.2.1 ∧ x_1.2.2 ≠ [] ∧ Sz x_1.2.2) ∧ (((0 : Nat) = (0 : Nat) ∧ Is (AV.lit (4 : Nat) (1 : Nat) (rowsCell [[i64 (2 : Int)], [i64 (3 : Int)], [i64 (1 : Int)], [i64 (4 : Int)]])) (ints x_1.2.2) ∧ True) ∧ (Is (byts x.1) (byts x_1.1) ∧ x.2.1 + (1 : Int) = x_1.2.1 ∧ True) ∧ True) ∧ ∀ (y_1 : Int),
 y_1 ∈ x_1.2.2 →
 (∃ x : AX,
 (Rd (137438953472 : Int) x.1 x.2.1 ∧ x.2.1 + (↑(Pl.CB x.2.2.2.2.toNat) : Int) ≤ (137438953472 : Int) ∧ Pl.SgB (5 : Nat) (2 : Nat) x.2.2.1 ∧ x.2.2.2.2 ≤ (4 : Int)) ∧ (((0 : Nat) = (0 : Nat) ∧ (Is (syms s) (syms x.2.2.1) ∧ True) ∧ y = x.2.2.2.1 ∧ y_1 = x.2.2.2.2 ∧ True) ∧ (Is (byts x_1.1) (byts x.1) ∧ x_1.2.1 + (1 : Int) = x.2.1 ∧ True) ∧ True) ∧ ∀ (y : Pl.TP × Int),
 Pl.TmB (Pl.CB x.2.2.2.2.toNat) y.1 ∧ x.2.1 ≤ y.2 ∧ y.2 ≤ x.2.1 + (↑(Pl.CB x.2.2.2.2.toNat) : Int) →
 ∃ x_2 : List Int × Int × Int,
 Rd (1099511627776 : Int) x_2.1 x_2.2.1 ∧ (((0 : Nat) = (0 : Nat) ∧ (48 : Int) = x_2.2.2 ∧ True) ∧ (Is (byts x.1) (byts x_2.1) ∧ y.2 = x_2.2.1 ∧ True) ∧ True) ∧ ∀ (y_2 : Int),
 ((1 : Int) ≤ x_2.2.2 → (0 : Int) ≤ y_2 ∧ y_2 < x_2.2.2) ∧ (x_2.2.2 < (1 : Int) → y_2 = (0 : Int)) →
 condP (y_2 == (0 : Int))
 (∃ x : List Int × Int × List ByteArray,
 (Rd (1099511627776 : Int) x.1 x.2.1 ∧ x.2.2 ≠ [] ∧ Sz x.2.2) ∧ (((0 : Nat) = (0 : Nat) ∧ Is
 (AV.lit (4 : Nat) (1 : Nat)
 (rowsCell
 [[st (ByteArray.mk #[])], [st (ByteArray.mk #[(65 : UInt8)])],
 [st (ByteArray.mk #[(97 : UInt8), (98 : UInt8), (99 : UInt8)])], [st (ByteArray.mk #[(102 : UInt8)])]]))
 (strs x.2.2) ∧ True) ∧ (Is (byts x_2.1) (byts x.1) ∧ x_2.2.1 + (1 : Int) = x.2.1 ∧ True) ∧ True) ∧ ∀ (y_3 : ByteArray),
 y_3 ∈ x.2.2 →
 ∃ y_4 : Pl.TP × Int,
 (Pl.TmB (1500 : Nat) y_4.1 ∧ p ≤ y_4.2 ∧ y_4.2 ≤ p + (500 : Int)) ∧ (0 : Nat) + y.1.2.length ≤ y.1.2.length ∧ ((y_3 = y_4.1.1 ∧ Is (terms y.1.2) (terms y_4.1.2) ∧ True) ∧ True) ∧ (Is (byts x.1) (byts b) ∧ x.2.1 + (1 : Int) = y_4.2 ∧ True) ∧ True)
 (condP (y_2 == (1 : Int))
 (∃ x : Pl.TP,
 SmT (Pl.Tree.mk x.1 x.2) ∧ (((y.1.1 = x.1 ∧ ((0 : Nat) = (0 : Nat) ∧ y.1.2.length = x.2.length) ∧ True) ∧ True) ∧ IsO (arT y.1.2) (arT x.2) ∧ True) ∧ ∀ (y_3 : Unit),
 True →
 (0 : Nat) + y.1.2.length ≤ x.2.length ∧ (y.1.2.length + (1 : Nat)) * (40 : Nat) ≤ (70368744177664 : Nat) ∧ ∃ y_4 : Pl.TP × Int,
 (Pl.TmB (1500 : Nat) y_4.1 ∧ p ≤ y_4.2 ∧ y_4.2 ≤ p + (500 : Int)) ∧ (0 : Nat) + (y.1.2.length + (1 : Nat)) ≤ y.1.2.length + (1 : Nat) ∧ ((y.1.1 = y_4.1.1 ∧ Is
 (AV.sl (y.1.2.length + (1 : Nat)) (2 : Nat) fun (i j : Nat) =>
 joinC y.1.2.length (cT x.2) (rowsCell [[st x.1, terms x.2]]) i j)
 (terms y_4.1.2) ∧ True) ∧ True) ∧ (Is (byts x_2.1) (byts b) ∧ x_2.2.1 + (1 : Int) = y_4.2 ∧ True) ∧ True)
 (condP (y_2 == (2 : Int))
 (∃ x : Pl.TP,
 SmT (Pl.Tree.mk x.1 x.2) ∧ (((y.1.1 = x.1 ∧ ((0 : Nat) = (0 : Nat) ∧ y.1.2.length = x.2.length) ∧ True) ∧ True) ∧ IsO (arT y.1.2) (arT x.2) ∧ True) ∧ ∀ (y_3 : Unit),
 True →
 ∃ x_3 : Pl.TP,
 SmT (Pl.Tree.mk x_3.1 x_3.2) ∧ (((y.1.1 = x_3.1 ∧ ((0 : Nat) = (0 : Nat) ∧ y.1.2.length = x_3.2.length) ∧ True) ∧ True) ∧ IsO (arT x.2) (arT x_3.2) ∧ True) ∧ ∀ (y_4 : Unit),
 True →
 (0 : Nat) + y.1.2.length ≤ x_3.2.length ∧ (y.1.2.length + (2 : Nat)) * (40 : Nat) ≤ (70368744177664 : Nat) ∧ ∃ y_5 : Pl.TP × Int,
 (Pl.TmB (1500 : Nat) y_5.1 ∧ p ≤ y_5.2 ∧ y_5.2 ≤ p + (500 : Int)) ∧ (0 : Nat) + (y.1.2.length + (2 : Nat)) ≤ y.1.2.length + (2 : Nat) ∧ ((y.1.1 = y_5.1.1 ∧ Is
 (AV.sl (y.1.2.length + (2 : Nat)) (2 : Nat) fun (i j : Nat) =>
 joinC y.1.2.length (cT x_3.2)
 (rowsCell [[st x.1, terms x.2], [st x_3.1, terms x_3.2]]) i j)
 (terms y_5.1.2) ∧ True) ∧ True) ∧ (Is (byts x_2.1) (byts b) ∧ x_2.2.1 + (1 : Int) = y_5.2 ∧ True) ∧ True)
 (∃ y_3 : Pl.TP × Int,
 (Pl.TmB (1500 : Nat) y_3.1 ∧ p ≤ y_3.2 ∧ y_3.2 ≤ p + (500 : Int)) ∧ (0 : Nat) + y.1.2.length ≤ y.1.2.length ∧ ((y.1.1 = y_3.1.1 ∧ Is (terms y.1.2) (terms y_3.1.2) ∧ True) ∧ True) ∧ (Is (byts x_2.1) (byts b) ∧ x_2.2.1 + (1 : Int) = y_3.2 ∧ True) ∧ True)))) ∧ ∃ x : AX,
 (Rd (137438953472 : Int) x.1 x.2.1 ∧ x.2.1 + (↑(Pl.CB x.2.2.2.2.toNat) : Int) ≤ (137438953472 : Int) ∧ Pl.SgB (5 : Nat) (2 : Nat) x.2.2.1 ∧ x.2.2.2.2 ≤ (4 : Int)) ∧ (((0 : Nat) = (0 : Nat) ∧ (Is (syms s) (syms x.2.2.1) ∧ True) ∧ y = x.2.2.2.1 ∧ y_1 = x.2.2.2.2 ∧ True) ∧ (Is (byts x_1.1) (byts x.1) ∧ x_1.2.1 + (1 : Int) = x.2.1 ∧ True) ∧ True) ∧ ∀ (y : Pl.TP × Int),
 Pl.TmB (Pl.CB x.2.2.2.2.toNat) y.1 ∧ x.2.1 ≤ y.2 ∧ y.2 ≤ x.2.1 + (↑(Pl.CB x.2.2.2.2.toNat) : Int) →
 ∃ x_2 : List Int × Int × Int,
 Rd (1099511627776 : Int) x_2.1 x_2.2.1 ∧ (((0 : Nat) = (0 : Nat) ∧ (48 : Int) = x_2.2.2 ∧ True) ∧ (Is (byts x.1) (byts x_2.1) ∧ y.2 = x_2.2.1 ∧ True) ∧ True) ∧ ∀ (y_2 : Int),
 ((1 : Int) ≤ x_2.2.2 → (0 : Int) ≤ y_2 ∧ y_2 < x_2.2.2) ∧ (x_2.2.2 < (1 : Int) → y_2 = (0 : Int)) →
 condP (y_2 == (0 : Int))
 (∃ x : List Int × Int × List ByteArray,
 (Rd (1099511627776 : Int) x.1 x.2.1 ∧ x.2.2 ≠ [] ∧ Sz x.2.2) ∧ (((0 : Nat) = (0 : Nat) ∧ Is
 (AV.lit (4 : Nat) (1 : Nat)
 (rowsCell
 [[st (ByteArray.mk #[])], [st (ByteArray.mk #[(65 : UInt8)])],
 [st (ByteArray.mk #[(97 : UInt8), (98 : UInt8), (99 : UInt8)])], [st (ByteArray.mk #[(102 : UInt8)])]]))
 (strs x.2.2) ∧ True) ∧ (Is (byts x_2.1) (byts x.1) ∧ x_2.2.1 + (1 : Int) = x.2.1 ∧ True) ∧ True) ∧ ∀ (y_3 : ByteArray),
 y_3 ∈ x.2.2 →
 ∃ y_4 : Pl.TP × Int,
 (Pl.TmB (1500 : Nat) y_4.1 ∧ p ≤ y_4.2 ∧ y_4.2 ≤ p + (500 : Int)) ∧ (0 : Nat) + y.1.2.length ≤ y.1.2.length ∧ ((y_3 = y_4.1.1 ∧ Is (terms y.1.2) (terms y_4.1.2) ∧ True) ∧ True) ∧ (Is (byts x.1) (byts b) ∧ x.2.1 + (1 : Int) = y_4.2 ∧ True) ∧ True)
 (condP (y_2 == (1 : Int))
 (∃ x : Pl.TP,
 SmT (Pl.Tree.mk x.1 x.2) ∧ (((y.1.1 = x.1 ∧ ((0 : Nat) = (0 : Nat) ∧ y.1.2.length = x.2.length) ∧ True) ∧ True) ∧ IsO (arT y.1.2) (arT x.2) ∧ True) ∧ ∀ (y_3 : Unit),
 True →
 (0 : Nat) + y.1.2.length ≤ x.2.length ∧ (y.1.2.length + (1 : Nat)) * (40 : Nat) ≤ (70368744177664 : Nat) ∧ ∃ y_4 : Pl.TP × Int,
 (Pl.TmB (1500 : Nat) y_4.1 ∧ p ≤ y_4.2 ∧ y_4.2 ≤ p + (500 : Int)) ∧ (0 : Nat) + (y.1.2.length + (1 : Nat)) ≤ y.1.2.length + (1 : Nat) ∧ ((y.1.1 = y_4.1.1 ∧ Is
 (AV.sl (y.1.2.length + (1 : Nat)) (2 : Nat) fun (i j : Nat) =>
 joinC y.1.2.length (cT x.2) (rowsCell [[st x.1, terms x.2]]) i j)
 (terms y_4.1.2) ∧ True) ∧ True) ∧ (Is (byts x_2.1) (byts b) ∧ x_2.2.1 + (1 : Int) = y_4.2 ∧ True) ∧ True)
 (condP (y_2 == (2 : Int))
 (∃ x : Pl.TP,
 SmT (Pl.Tree.mk x.1 x.2) ∧ (((y.1.1 = x.1 ∧ ((0 : Nat) = (0 : Nat) ∧ y.1.2.length = x.2.length) ∧ True) ∧ True) ∧ IsO (arT y.1.2) (arT x.2) ∧ True) ∧ ∀ (y_3 : Unit),
 True →
 ∃ x_3 : Pl.TP,
 SmT (Pl.Tree.mk x_3.1 x_3.2) ∧ (((y.1.1 = x_3.1 ∧ ((0 : Nat) = (0 : Nat) ∧ y.1.2.length = x_3.2.length) ∧ True) ∧ True) ∧ IsO (arT x.2) (arT x_3.2) ∧ True) ∧ ∀ (y_4 : Unit),
 True →
 (0 : Nat) + y.1.2.length ≤ x_3.2.length ∧ (y.1.2.length + (2 : Nat)) * (40 : Nat) ≤ (70368744177664 : Nat) ∧ ∃ y_5 : Pl.TP × Int,
 (Pl.TmB (1500 : Nat) y_5.1 ∧ p ≤ y_5.2 ∧ y_5.2 ≤ p + (500 : Int)) ∧ (0 : Nat) + (y.1.2.length + (2 : Nat)) ≤ y.1.2.length + (2 : Nat) ∧ ((y.1.1 = y_5.1.1 ∧ Is
 (AV.sl (y.1.2.length + (2 : Nat)) (2 : Nat) fun (i j : Nat) =>
 joinC y.1.2.length (cT x_3.2)
 (rowsCell [[st x.1, terms x.2], [st x_3.1, terms x_3.2]]) i j)
 (terms y_5.1.2) ∧ True) ∧ True) ∧ (Is (byts x_2.1) (byts b) ∧ x_2.2.1 + (1 : Int) = y_5.2 ∧ True) ∧ True)
 (∃ y_3 : Pl.TP × Int,
 (Pl.TmB (1500 : Nat) y_3.1 ∧ p ≤ y_3.2 ∧ y_3.2 ≤ p + (500 : Int)) ∧ (0 : Nat) + y.1.2.length ≤ y.1.2.length ∧ ((y.1.1 = y_3.1.1 ∧ Is (terms y.1.2) (terms y_3.1.2) ∧ True) ∧ True) ∧ (Is (byts x_2.1) (byts b) ∧ x_2.2.1 + (1 : Int) = y_3.2 ∧ True) ∧ True)))) ∧ (∃ x_1 : List Int × Int × List Int,
 (Rd (1099511627776 : Int) x_1.1 x_1.2.1 ∧ x_1.2.2 ≠ [] ∧ Sz x_1.2.2) ∧ (((0 : Nat) = (0 : Nat) ∧ Is (AV.lit (4 : Nat) (1 : Nat) (rowsCell [[i64 (2 : Int)], [i64 (3 : Int)], [i64 (1 : Int)], [i64 (4 : Int)]])) (ints x_1.2.2) ∧ True) ∧ (Is (byts x.1) (byts x_1.1) ∧ x.2.1 + (1 : Int) = x_1.2.1 ∧ True) ∧ True) ∧ ∀ (y_1 : Int),
 y_1 ∈ x_1.2.2 →
 ∃ x : AX,
 (Rd (137438953472 : Int) x.1 x.2.1 ∧ x.2.1 + (↑(Pl.CB x.2.2.2.2.toNat) : Int) ≤ (137438953472 : Int) ∧ Pl.SgB (5 : Nat) (2 : Nat) x.2.2.1 ∧ x.2.2.2.2 ≤ (4 : Int)) ∧ (((0 : Nat) = (0 : Nat) ∧ (Is (syms s) (syms x.2.2.1) ∧ True) ∧ y = x.2.2.2.1 ∧ y_1 = x.2.2.2.2 ∧ True) ∧ (Is (byts x_1.1) (byts x.1) ∧ x_1.2.1 + (1 : Int) = x.2.1 ∧ True) ∧ True) ∧ ∀ (y : Pl.TP × Int),
 Pl.TmB (Pl.CB x.2.2.2.2.toNat) y.1 ∧ x.2.1 ≤ y.2 ∧ y.2 ≤ x.2.1 + (↑(Pl.CB x.2.2.2.2.toNat) : Int) →
 ∃ x_2 : List Int × Int × Int,
 Rd (1099511627776 : Int) x_2.1 x_2.2.1 ∧ (((0 : Nat) = (0 : Nat) ∧ (48 : Int) = x_2.2.2 ∧ True) ∧ (Is (byts x.1) (byts x_2.1) ∧ y.2 = x_2.2.1 ∧ True) ∧ True) ∧ ∀ (y_2 : Int),
 ((1 : Int) ≤ x_2.2.2 → (0 : Int) ≤ y_2 ∧ y_2 < x_2.2.2) ∧ (x_2.2.2 < (1 : Int) → y_2 = (0 : Int)) →
 condP (y_2 == (0 : Int))
 (∃ x : List Int × Int × List ByteArray,
 (Rd (1099511627776 : Int) x.1 x.2.1 ∧ x.2.2 ≠ [] ∧ Sz x.2.2) ∧ (((0 : Nat) = (0 : Nat) ∧ Is
 (AV.lit (4 : Nat) (1 : Nat)
 (rowsCell
 [[st (ByteArray.mk #[])], [st (ByteArray.mk #[(65 : UInt8)])],
 [st (ByteArray.mk #[(97 : UInt8), (98 : UInt8), (99 : UInt8)])], [st (ByteArray.mk #[(102 : UInt8)])]]))
 (strs x.2.2) ∧ True) ∧ (Is (byts x_2.1) (byts x.1) ∧ x_2.2.1 + (1 : Int) = x.2.1 ∧ True) ∧ True) ∧ ∀ (y_3 : ByteArray),
 y_3 ∈ x.2.2 →
 ∃ y_4 : Pl.TP × Int,
 (Pl.TmB (1500 : Nat) y_4.1 ∧ p ≤ y_4.2 ∧ y_4.2 ≤ p + (500 : Int)) ∧ (0 : Nat) + y.1.2.length ≤ y.1.2.length ∧ ((y_3 = y_4.1.1 ∧ Is (terms y.1.2) (terms y_4.1.2) ∧ True) ∧ True) ∧ (Is (byts x.1) (byts b) ∧ x.2.1 + (1 : Int) = y_4.2 ∧ True) ∧ True)
 (condP (y_2 == (1 : Int))
 (∃ x : Pl.TP,
 SmT (Pl.Tree.mk x.1 x.2) ∧ (((y.1.1 = x.1 ∧ ((0 : Nat) = (0 : Nat) ∧ y.1.2.length = x.2.length) ∧ True) ∧ True) ∧ IsO (arT y.1.2) (arT x.2) ∧ True) ∧ ∀ (y_3 : Unit),
 True →
 (0 : Nat) + y.1.2.length ≤ x.2.length ∧ (y.1.2.length + (1 : Nat)) * (40 : Nat) ≤ (70368744177664 : Nat) ∧ ∃ y_4 : Pl.TP × Int,
 (Pl.TmB (1500 : Nat) y_4.1 ∧ p ≤ y_4.2 ∧ y_4.2 ≤ p + (500 : Int)) ∧ (0 : Nat) + (y.1.2.length + (1 : Nat)) ≤ y.1.2.length + (1 : Nat) ∧ ((y.1.1 = y_4.1.1 ∧ Is
 (AV.sl (y.1.2.length + (1 : Nat)) (2 : Nat) fun (i j : Nat) =>
 joinC y.1.2.length (cT x.2) (rowsCell [[st x.1, terms x.2]]) i j)
 (terms y_4.1.2) ∧ True) ∧ True) ∧ (Is (byts x_2.1) (byts b) ∧ x_2.2.1 + (1 : Int) = y_4.2 ∧ True) ∧ True)
 (condP (y_2 == (2 : Int))
 (∃ x : Pl.TP,
 SmT (Pl.Tree.mk x.1 x.2) ∧ (((y.1.1 = x.1 ∧ ((0 : Nat) = (0 : Nat) ∧ y.1.2.length = x.2.length) ∧ True) ∧ True) ∧ IsO (arT y.1.2) (arT x.2) ∧ True) ∧ ∀ (y_3 : Unit),
 True →
 ∃ x_3 : Pl.TP,
 SmT (Pl.Tree.mk x_3.1 x_3.2) ∧ (((y.1.1 = x_3.1 ∧ ((0 : Nat) = (0 : Nat) ∧ y.1.2.length = x_3.2.length) ∧ True) ∧ True) ∧ IsO (arT x.2) (arT x_3.2) ∧ True) ∧ ∀ (y_4 : Unit),
 True →
 (0 : Nat) + y.1.2.length ≤ x_3.2.length ∧ (y.1.2.length + (2 : Nat)) * (40 : Nat) ≤ (70368744177664 : Nat) ∧ ∃ y_5 : Pl.TP × Int,
 (Pl.TmB (1500 : Nat) y_5.1 ∧ p ≤ y_5.2 ∧ y_5.2 ≤ p + (500 : Int)) ∧ (0 : Nat) + (y.1.2.length + (2 : Nat)) ≤ y.1.2.length + (2 : Nat) ∧ ((y.1.1 = y_5.1.1 ∧ Is
 (AV.sl (y.1.2.length + (2 : Nat)) (2 : Nat) fun (i j : Nat) =>
 joinC y.1.2.length (cT x_3.2)
 (rowsCell [[st x.1, terms x.2], [st x_3.1, terms x_3.2]]) i j)
 (terms y_5.1.2) ∧ True) ∧ True) ∧ (Is (byts x_2.1) (byts b) ∧ x_2.2.1 + (1 : Int) = y_5.2 ∧ True) ∧ True)
 (∃ y_3 : Pl.TP × Int,
 (Pl.TmB (1500 : Nat) y_3.1 ∧ p ≤ y_3.2 ∧ y_3.2 ≤ p + (500 : Int)) ∧ (0 : Nat) + y.1.2.length ≤ y.1.2.length ∧ ((y.1.1 = y_3.1.1 ∧ Is (terms y.1.2) (terms y_3.1.2) ∧ True) ∧ True) ∧ (Is (byts x_2.1) (byts b) ∧ x_2.2.1 + (1 : Int) = y_3.2 ∧ True) ∧ True)))) ∧ ∃ x_1 : List Int × Int × List Int,
 (Rd (1099511627776 : Int) x_1.1 x_1.2.1 ∧ x_1.2.2 ≠ [] ∧ Sz x_1.2.2) ∧ (((0 : Nat) = (0 : Nat) ∧ Is (AV.lit (4 : Nat) (1 : Nat) (rowsCell [[i64 (2 : Int)], [i64 (3 : Int)], [i64 (1 : Int)], [i64 (4 : Int)]])) (ints x_1.2.2) ∧ True) ∧ (Is (byts x.1) (byts x_1.1) ∧ x.2.1 + (1 : Int) = x_1.2.1 ∧ True) ∧ True) ∧ ∀ (y_1 : Int),
 y_1 ∈ x_1.2.2 →
 ∃ x : AX,
 (Rd (137438953472 : Int) x.1 x.2.1 ∧ x.2.1 + (↑(Pl.CB x.2.2.2.2.toNat) : Int) ≤ (137438953472 : Int) ∧ Pl.SgB (5 : Nat) (2 : Nat) x.2.2.1 ∧ x.2.2.2.2 ≤ (4 : Int)) ∧ (((0 : Nat) = (0 : Nat) ∧ (Is (syms s) (syms x.2.2.1) ∧ True) ∧ y = x.2.2.2.1 ∧ y_1 = x.2.2.2.2 ∧ True) ∧ (Is (byts x_1.1) (byts x.1) ∧ x_1.2.1 + (1 : Int) = x.2.1 ∧ True) ∧ True) ∧ ∀ (y : Pl.TP × Int),
 Pl.TmB (Pl.CB x.2.2.2.2.toNat) y.1 ∧ x.2.1 ≤ y.2 ∧ y.2 ≤ x.2.1 + (↑(Pl.CB x.2.2.2.2.toNat) : Int) →
 ∃ x_2 : List Int × Int × Int,
 Rd (1099511627776 : Int) x_2.1 x_2.2.1 ∧ (((0 : Nat) = (0 : Nat) ∧ (48 : Int) = x_2.2.2 ∧ True) ∧ (Is (byts x.1) (byts x_2.1) ∧ y.2 = x_2.2.1 ∧ True) ∧ True) ∧ ∀ (y_2 : Int),
 ((1 : Int) ≤ x_2.2.2 → (0 : Int) ≤ y_2 ∧ y_2 < x_2.2.2) ∧ (x_2.2.2 < (1 : Int) → y_2 = (0 : Int)) →
 condP (y_2 == (0 : Int))
 (∃ x : List Int × Int × List ByteArray,
 (Rd (1099511627776 : Int) x.1 x.2.1 ∧ x.2.2 ≠ [] ∧ Sz x.2.2) ∧ (((0 : Nat) = (0 : Nat) ∧ Is
 (AV.lit (4 : Nat) (1 : Nat)
 (rowsCell
 [[st (ByteArray.mk #[])], [st (ByteArray.mk #[(65 : UInt8)])],
 [st (ByteArray.mk #[(97 : UInt8), (98 : UInt8), (99 : UInt8)])], [st (ByteArray.mk #[(102 : UInt8)])]]))
 (strs x.2.2) ∧ True) ∧ (Is (byts x_2.1) (byts x.1) ∧ x_2.2.1 + (1 : Int) = x.2.1 ∧ True) ∧ True) ∧ ∀ (y_3 : ByteArray),
 y_3 ∈ x.2.2 →
 ∃ y_4 : Pl.TP × Int,
 (Pl.TmB (1500 : Nat) y_4.1 ∧ p ≤ y_4.2 ∧ y_4.2 ≤ p + (500 : Int)) ∧ (0 : Nat) + y.1.2.length ≤ y.1.2.length ∧ ((y_3 = y_4.1.1 ∧ Is (terms y.1.2) (terms y_4.1.2) ∧ True) ∧ True) ∧ (Is (byts x.1) (byts b) ∧ x.2.1 + (1 : Int) = y_4.2 ∧ True) ∧ True)
 (condP (y_2 == (1 : Int))
 (∃ x : Pl.TP,
 SmT (Pl.Tree.mk x.1 x.2) ∧ (((y.1.1 = x.1 ∧ ((0 : Nat) = (0 : Nat) ∧ y.1.2.length = x.2.length) ∧ True) ∧ True) ∧ IsO (arT y.1.2) (arT x.2) ∧ True) ∧ ∀ (y_3 : Unit),
 True →
 (0 : Nat) + y.1.2.length ≤ x.2.length ∧ (y.1.2.length + (1 : Nat)) * (40 : Nat) ≤ (70368744177664 : Nat) ∧ ∃ y_4 : Pl.TP × Int,
 (Pl.TmB (1500 : Nat) y_4.1 ∧ p ≤ y_4.2 ∧ y_4.2 ≤ p + (500 : Int)) ∧ (0 : Nat) + (y.1.2.length + (1 : Nat)) ≤ y.1.2.length + (1 : Nat) ∧ ((y.1.1 = y_4.1.1 ∧ Is
 (AV.sl (y.1.2.length + (1 : Nat)) (2 : Nat) fun (i j : Nat) =>
 joinC y.1.2.length (cT x.2) (rowsCell [[st x.1, terms x.2]]) i j)
 (terms y_4.1.2) ∧ True) ∧ True) ∧ (Is (byts x_2.1) (byts b) ∧ x_2.2.1 + (1 : Int) = y_4.2 ∧ True) ∧ True)
 (condP (y_2 == (2 : Int))
 (∃ x : Pl.TP,
 SmT (Pl.Tree.mk x.1 x.2) ∧ (((y.1.1 = x.1 ∧ ((0 : Nat) = (0 : Nat) ∧ y.1.2.length = x.2.length) ∧ True) ∧ True) ∧ IsO (arT y.1.2) (arT x.2) ∧ True) ∧ ∀ (y_3 : Unit),
 True →
 ∃ x_3 : Pl.TP,
 SmT (Pl.Tree.mk x_3.1 x_3.2) ∧ (((y.1.1 = x_3.1 ∧ ((0 : Nat) = (0 : Nat) ∧ y.1.2.length = x_3.2.length) ∧ True) ∧ True) ∧ IsO (arT x.2) (arT x_3.2) ∧ True) ∧ ∀ (y_4 : Unit),
 True →
 (0 : Nat) + y.1.2.length ≤ x_3.2.length ∧ (y.1.2.length + (2 : Nat)) * (40 : Nat) ≤ (70368744177664 : Nat) ∧ ∃ y_5 : Pl.TP × Int,
 (Pl.TmB (1500 : Nat) y_5.1 ∧ p ≤ y_5.2 ∧ y_5.2 ≤ p + (500 : Int)) ∧ (0 : Nat) + (y.1.2.length + (2 : Nat)) ≤ y.1.2.length + (2 : Nat) ∧ ((y.1.1 = y_5.1.1 ∧ Is
 (AV.sl (y.1.2.length + (2 : Nat)) (2 : Nat) fun (i j : Nat) =>
 joinC y.1.2.length (cT x_3.2)
 (rowsCell [[st x.1, terms x.2], [st x_3.1, terms x_3.2]]) i j)
 (terms y_5.1.2) ∧ True) ∧ True) ∧ (Is (byts x_2.1) (byts b) ∧ x_2.2.1 + (1 : Int) = y_5.2 ∧ True) ∧ True)
 (∃ y_3 : Pl.TP × Int,
 (Pl.TmB (1500 : Nat) y_3.1 ∧ p ≤ y_3.2 ∧ y_3.2 ≤ p + (500 : Int)) ∧ (0 : Nat) + y.1.2.length ≤ y.1.2.length ∧ ((y.1.1 = y_3.1.1 ∧ Is (terms y.1.2) (terms y_3.1.2) ∧ True) ∧ True) ∧ (Is (byts x_2.1) (byts b) ∧ x_2.2.1 + (1 : Int) = y_3.2 ∧ True) ∧ True)))) ∧ (∃ x : List Int × Int × Int,
 Rd (1099511627776 : Int) x.1 x.2.1 ∧ (((0 : Nat) = (0 : Nat) ∧ (2 : Int) = x.2.2 ∧ True) ∧ (Is (byts b) (byts x.1) ∧ p = x.2.1 ∧ True) ∧ True) ∧ ∀ (y : Int),
 ((1 : Int) ≤ x.2.2 → (0 : Int) ≤ y ∧ y < x.2.2) ∧ (x.2.2 < (1 : Int) → y = (0 : Int)) →
 ∃ x_1 : List Int × Int × List Int,
 (Rd (1099511627776 : Int) x_1.1 x_1.2.1 ∧ x_1.2.2 ≠ [] ∧ Sz x_1.2.2) ∧ (((0 : Nat) = (0 : Nat) ∧ Is (AV.lit (4 : Nat) (1 : Nat) (rowsCell [[i64 (2 : Int)], [i64 (3 : Int)], [i64 (1 : Int)], [i64 (4 : Int)]])) (ints x_1.2.2) ∧ True) ∧ (Is (byts x.1) (byts x_1.1) ∧ x.2.1 + (1 : Int) = x_1.2.1 ∧ True) ∧ True) ∧ ∀ (y_1 : Int),
 y_1 ∈ x_1.2.2 →
 ∃ x : AX,
 (Rd (137438953472 : Int) x.1 x.2.1 ∧ x.2.1 + (↑(Pl.CB x.2.2.2.2.toNat) : Int) ≤ (137438953472 : Int) ∧ Pl.SgB (5 : Nat) (2 : Nat) x.2.2.1 ∧ x.2.2.2.2 ≤ (4 : Int)) ∧ (((0 : Nat) = (0 : Nat) ∧ (Is (syms s) (syms x.2.2.1) ∧ True) ∧ y = x.2.2.2.1 ∧ y_1 = x.2.2.2.2 ∧ True) ∧ (Is (byts x_1.1) (byts x.1) ∧ x_1.2.1 + (1 : Int) = x.2.1 ∧ True) ∧ True) ∧ ∀ (y : Pl.TP × Int),
 Pl.TmB (Pl.CB x.2.2.2.2.toNat) y.1 ∧ x.2.1 ≤ y.2 ∧ y.2 ≤ x.2.1 + (↑(Pl.CB x.2.2.2.2.toNat) : Int) →
 ∃ x_2 : List Int × Int × Int,
 Rd (1099511627776 : Int) x_2.1 x_2.2.1 ∧ (((0 : Nat) = (0 : Nat) ∧ (48 : Int) = x_2.2.2 ∧ True) ∧ (Is (byts x.1) (byts x_2.1) ∧ y.2 = x_2.2.1 ∧ True) ∧ True) ∧ ∀ (y_2 : Int),
 ((1 : Int) ≤ x_2.2.2 → (0 : Int) ≤ y_2 ∧ y_2 < x_2.2.2) ∧ (x_2.2.2 < (1 : Int) → y_2 = (0 : Int)) →
 condP (y_2 == (0 : Int))
 (∃ x : List Int × Int × List ByteArray,
 (Rd (1099511627776 : Int) x.1 x.2.1 ∧ x.2.2 ≠ [] ∧ Sz x.2.2) ∧ (((0 : Nat) = (0 : Nat) ∧ Is
 (AV.lit (4 : Nat) (1 : Nat)
 (rowsCell
 [[st (ByteArray.mk #[])], [st (ByteArray.mk #[(65 : UInt8)])],
 [st (ByteArray.mk #[(97 : UInt8), (98 : UInt8), (99 : UInt8)])], [st (ByteArray.mk #[(102 : UInt8)])]]))
 (strs x.2.2) ∧ True) ∧ (Is (byts x_2.1) (byts x.1) ∧ x_2.2.1 + (1 : Int) = x.2.1 ∧ True) ∧ True) ∧ ∀ (y_3 : ByteArray),
 y_3 ∈ x.2.2 →
 ∃ y_4 : Pl.TP × Int,
 (Pl.TmB (1500 : Nat) y_4.1 ∧ p ≤ y_4.2 ∧ y_4.2 ≤ p + (500 : Int)) ∧ (0 : Nat) + y.1.2.length ≤ y.1.2.length ∧ ((y_3 = y_4.1.1 ∧ Is (terms y.1.2) (terms y_4.1.2) ∧ True) ∧ True) ∧ (Is (byts x.1) (byts b) ∧ x.2.1 + (1 : Int) = y_4.2 ∧ True) ∧ True)
 (condP (y_2 == (1 : Int))
 (∃ x : Pl.TP,
 SmT (Pl.Tree.mk x.1 x.2) ∧ (((y.1.1 = x.1 ∧ ((0 : Nat) = (0 : Nat) ∧ y.1.2.length = x.2.length) ∧ True) ∧ True) ∧ IsO (arT y.1.2) (arT x.2) ∧ True) ∧ ∀ (y_3 : Unit),
 True →
 (0 : Nat) + y.1.2.length ≤ x.2.length ∧ (y.1.2.length + (1 : Nat)) * (40 : Nat) ≤ (70368744177664 : Nat) ∧ ∃ y_4 : Pl.TP × Int,
 (Pl.TmB (1500 : Nat) y_4.1 ∧ p ≤ y_4.2 ∧ y_4.2 ≤ p + (500 : Int)) ∧ (0 : Nat) + (y.1.2.length + (1 : Nat)) ≤ y.1.2.length + (1 : Nat) ∧ ((y.1.1 = y_4.1.1 ∧ Is
 (AV.sl (y.1.2.length + (1 : Nat)) (2 : Nat) fun (i j : Nat) =>
 joinC y.1.2.length (cT x.2) (rowsCell [[st x.1, terms x.2]]) i j)
 (terms y_4.1.2) ∧ True) ∧ True) ∧ (Is (byts x_2.1) (byts b) ∧ x_2.2.1 + (1 : Int) = y_4.2 ∧ True) ∧ True)
 (condP (y_2 == (2 : Int))
 (∃ x : Pl.TP,
 SmT (Pl.Tree.mk x.1 x.2) ∧ (((y.1.1 = x.1 ∧ ((0 : Nat) = (0 : Nat) ∧ y.1.2.length = x.2.length) ∧ True) ∧ True) ∧ IsO (arT y.1.2) (arT x.2) ∧ True) ∧ ∀ (y_3 : Unit),
 True →
 ∃ x_3 : Pl.TP,
 SmT (Pl.Tree.mk x_3.1 x_3.2) ∧ (((y.1.1 = x_3.1 ∧ ((0 : Nat) = (0 : Nat) ∧ y.1.2.length = x_3.2.length) ∧ True) ∧ True) ∧ IsO (arT x.2) (arT x_3.2) ∧ True) ∧ ∀ (y_4 : Unit),
 True →
 (0 : Nat) + y.1.2.length ≤ x_3.2.length ∧ (y.1.2.length + (2 : Nat)) * (40 : Nat) ≤ (70368744177664 : Nat) ∧ ∃ y_5 : Pl.TP × Int,
 (Pl.TmB (1500 : Nat) y_5.1 ∧ p ≤ y_5.2 ∧ y_5.2 ≤ p + (500 : Int)) ∧ (0 : Nat) + (y.1.2.length + (2 : Nat)) ≤ y.1.2.length + (2 : Nat) ∧ ((y.1.1 = y_5.1.1 ∧ Is
 (AV.sl (y.1.2.length + (2 : Nat)) (2 : Nat) fun (i j : Nat) =>
 joinC y.1.2.length (cT x_3.2)
 (rowsCell [[st x.1, terms x.2], [st x_3.1, terms x_3.2]]) i j)
 (terms y_5.1.2) ∧ True) ∧ True) ∧ (Is (byts x_2.1) (byts b) ∧ x_2.2.1 + (1 : Int) = y_5.2 ∧ True) ∧ True)
 (∃ y_3 : Pl.TP × Int,
 (Pl.TmB (1500 : Nat) y_3.1 ∧ p ≤ y_3.2 ∧ y_3.2 ≤ p + (500 : Int)) ∧ (0 : Nat) + y.1.2.length ≤ y.1.2.length ∧ ((y.1.1 = y_3.1.1 ∧ Is (terms y.1.2) (terms y_3.1.2) ∧ True) ∧ True) ∧ (Is (byts x_2.1) (byts b) ∧ x_2.2.1 + (1 : Int) = y_3.2 ∧ True) ∧ True)))) ∧ ∃ x : List Int × Int × Int,
 Rd (1099511627776 : Int) x.1 x.2.1 ∧ (((0 : Nat) = (0 : Nat) ∧ (2 : Int) = x.2.2 ∧ True) ∧ (Is (byts b) (byts x.1) ∧ p = x.2.1 ∧ True) ∧ True) ∧ ∀ (y : Int),
 ((1 : Int) ≤ x.2.2 → (0 : Int) ≤ y ∧ y < x.2.2) ∧ (x.2.2 < (1 : Int) → y = (0 : Int)) →
 (∃ x_1 : List Int × Int × List Int,
 (Rd (1099511627776 : Int) x_1.1 x_1.2.1 ∧ x_1.2.2 ≠ [] ∧ Sz x_1.2.2) ∧ (((0 : Nat) = (0 : Nat) ∧ Is (AV.lit (4 : Nat) (1 : Nat) (rowsCell [[i64 (2 : Int)], [i64 (3 : Int)], [i64 (1 : Int)], [i64 (4 : Int)]])) (ints x_1.2.2) ∧ True) ∧ (Is (byts x.1) (byts x_1.1) ∧ x.2.1 + (1 : Int) = x_1.2.1 ∧ True) ∧ True) ∧ ∀ (y_1 : Int),
 y_1 ∈ x_1.2.2 →
 ∃ x : AX,
 (Rd (137438953472 : Int) x.1 x.2.1 ∧ x.2.1 + (↑(Pl.CB x.2.2.2.2.toNat) : Int) ≤ (137438953472 : Int) ∧ Pl.SgB (5 : Nat) (2 : Nat) x.2.2.1 ∧ x.2.2.2.2 ≤ (4 : Int)) ∧ (((0 : Nat) = (0 : Nat) ∧ (Is (syms s) (syms x.2.2.1) ∧ True) ∧ y = x.2.2.2.1 ∧ y_1 = x.2.2.2.2 ∧ True) ∧ (Is (byts x_1.1) (byts x.1) ∧ x_1.2.1 + (1 : Int) = x.2.1 ∧ True) ∧ True) ∧ ∀ (y : Pl.TP × Int),
 Pl.TmB (Pl.CB x.2.2.2.2.toNat) y.1 ∧ x.2.1 ≤ y.2 ∧ y.2 ≤ x.2.1 + (↑(Pl.CB x.2.2.2.2.toNat) : Int) →
 ∃ x_2 : List Int × Int × Int,
 Rd (1099511627776 : Int) x_2.1 x_2.2.1 ∧ (((0 : Nat) = (0 : Nat) ∧ (48 : Int) = x_2.2.2 ∧ True) ∧ (Is (byts x.1) (byts x_2.1) ∧ y.2 = x_2.2.1 ∧ True) ∧ True) ∧ ∀ (y_2 : Int),
 ((1 : Int) ≤ x_2.2.2 → (0 : Int) ≤ y_2 ∧ y_2 < x_2.2.2) ∧ (x_2.2.2 < (1 : Int) → y_2 = (0 : Int)) →
 condP (y_2 == (0 : Int))
 (∃ x : List Int × Int × List ByteArray,
 (Rd (1099511627776 : Int) x.1 x.2.1 ∧ x.2.2 ≠ [] ∧ Sz x.2.2) ∧ (((0 : Nat) = (0 : Nat) ∧ Is
 (AV.lit (4 : Nat) (1 : Nat)
 (rowsCell
 [[st (ByteArray.mk #[])], [st (ByteArray.mk #[(65 : UInt8)])],
 [st (ByteArray.mk #[(97 : UInt8), (98 : UInt8), (99 : UInt8)])], [st (ByteArray.mk #[(102 : UInt8)])]]))
 (strs x.2.2) ∧ True) ∧ (Is (byts x_2.1) (byts x.1) ∧ x_2.2.1 + (1 : Int) = x.2.1 ∧ True) ∧ True) ∧ ∀ (y_3 : ByteArray),
 y_3 ∈ x.2.2 →
 ∃ y_4 : Pl.TP × Int,
 (Pl.TmB (1500 : Nat) y_4.1 ∧ p ≤ y_4.2 ∧ y_4.2 ≤ p + (500 : Int)) ∧ (0 : Nat) + y.1.2.length ≤ y.1.2.length ∧ ((y_3 = y_4.1.1 ∧ Is (terms y.1.2) (terms y_4.1.2) ∧ True) ∧ True) ∧ (Is (byts x.1) (byts b) ∧ x.2.1 + (1 : Int) = y_4.2 ∧ True) ∧ True)
 (condP (y_2 == (1 : Int))
 (∃ x : Pl.TP,
 SmT (Pl.Tree.mk x.1 x.2) ∧ (((y.1.1 = x.1 ∧ ((0 : Nat) = (0 : Nat) ∧ y.1.2.length = x.2.length) ∧ True) ∧ True) ∧ IsO (arT y.1.2) (arT x.2) ∧ True) ∧ ∀ (y_3 : Unit),
 True →
 (0 : Nat) + y.1.2.length ≤ x.2.length ∧ (y.1.2.length + (1 : Nat)) * (40 : Nat) ≤ (70368744177664 : Nat) ∧ ∃ y_4 : Pl.TP × Int,
 (Pl.TmB (1500 : Nat) y_4.1 ∧ p ≤ y_4.2 ∧ y_4.2 ≤ p + (500 : Int)) ∧ (0 : Nat) + (y.1.2.length + (1 : Nat)) ≤ y.1.2.length + (1 : Nat) ∧ ((y.1.1 = y_4.1.1 ∧ Is
 (AV.sl (y.1.2.length + (1 : Nat)) (2 : Nat) fun (i j : Nat) =>
 joinC y.1.2.length (cT x.2) (rowsCell [[st x.1, terms x.2]]) i j)
 (terms y_4.1.2) ∧ True) ∧ True) ∧ (Is (byts x_2.1) (byts b) ∧ x_2.2.1 + (1 : Int) = y_4.2 ∧ True) ∧ True)
 (condP (y_2 == (2 : Int))
 (∃ x : Pl.TP,
 SmT (Pl.Tree.mk x.1 x.2) ∧ (((y.1.1 = x.1 ∧ ((0 : Nat) = (0 : Nat) ∧ y.1.2.length = x.2.length) ∧ True) ∧ True) ∧ IsO (arT y.1.2) (arT x.2) ∧ True) ∧ ∀ (y_3 : Unit),
 True →
 ∃ x_3 : Pl.TP,
 SmT (Pl.Tree.mk x_3.1 x_3.2) ∧ (((y.1.1 = x_3.1 ∧ ((0 : Nat) = (0 : Nat) ∧ y.1.2.length = x_3.2.length) ∧ True) ∧ True) ∧ IsO (arT x.2) (arT x_3.2) ∧ True) ∧ ∀ (y_4 : Unit),
 True →
 (0 : Nat) + y.1.2.length ≤ x_3.2.length ∧ (y.1.2.length + (2 : Nat)) * (40 : Nat) ≤ (70368744177664 : Nat) ∧ ∃ y_5 : Pl.TP × Int,
 (Pl.TmB (1500 : Nat) y_5.1 ∧ p ≤ y_5.2 ∧ y_5.2 ≤ p + (500 : Int)) ∧ (0 : Nat) + (y.1.2.length + (2 : Nat)) ≤ y.1.2.length + (2 : Nat) ∧ ((y.1.1 = y_5.1.1 ∧ Is
 (AV.sl (y.1.2.length + (2 : Nat)) (2 : Nat) fun (i j : Nat) =>
 joinC y.1.2.length (cT x_3.2)
 (rowsCell [[st x.1, terms x.2], [st x_3.1, terms x_3.2]]) i j)
 (terms y_5.1.2) ∧ True) ∧ True) ∧ (Is (byts x_2.1) (byts b) ∧ x_2.2.1 + (1 : Int) = y_5.2 ∧ True) ∧ True)
 (∃ y_3 : Pl.TP × Int,
 (Pl.TmB (1500 : Nat) y_3.1 ∧ p ≤ y_3.2 ∧ y_3.2 ≤ p + (500 : Int)) ∧ (0 : Nat) + y.1.2.length ≤ y.1.2.length ∧ ((y.1.1 = y_3.1.1 ∧ Is (terms y.1.2) (terms y_3.1.2) ∧ True) ∧ True) ∧ (Is (byts x_2.1) (byts b) ∧ x_2.2.1 + (1 : Int) = y_3.2 ∧ True) ∧ True)))) ∧ ∃ x_1 : List Int × Int × List Int,
 (Rd (1099511627776 : Int) x_1.1 x_1.2.1 ∧ x_1.2.2 ≠ [] ∧ Sz x_1.2.2) ∧ (((0 : Nat) = (0 : Nat) ∧ Is (AV.lit (4 : Nat) (1 : Nat) (rowsCell [[i64 (2 : Int)], [i64 (3 : Int)], [i64 (1 : Int)], [i64 (4 : Int)]])) (ints x_1.2.2) ∧ True) ∧ (Is (byts x.1) (byts x_1.1) ∧ x.2.1 + (1 : Int) = x_1.2.1 ∧ True) ∧ True) ∧ ∀ (y_1 : Int),
 y_1 ∈ x_1.2.2 →
 ∃ x : AX,
 (Rd (137438953472 : Int) x.1 x.2.1 ∧ x.2.1 + (↑(Pl.CB x.2.2.2.2.toNat) : Int) ≤ (137438953472 : Int) ∧ Pl.SgB (5 : Nat) (2 : Nat) x.2.2.1 ∧ x.2.2.2.2 ≤ (4 : Int)) ∧ (((0 : Nat) = (0 : Nat) ∧ (Is (syms s) (syms x.2.2.1) ∧ True) ∧ y = x.2.2.2.1 ∧ y_1 = x.2.2.2.2 ∧ True) ∧ (Is (byts x_1.1) (byts x.1) ∧ x_1.2.1 + (1 : Int) = x.2.1 ∧ True) ∧ True) ∧ ∀ (y : Pl.TP × Int),
 Pl.TmB (Pl.CB x.2.2.2.2.toNat) y.1 ∧ x.2.1 ≤ y.2 ∧ y.2 ≤ x.2.1 + (↑(Pl.CB x.2.2.2.2.toNat) : Int) →
 ∃ x_2 : List Int × Int × Int,
 Rd (1099511627776 : Int) x_2.1 x_2.2.1 ∧ (((0 : Nat) = (0 : Nat) ∧ (48 : Int) = x_2.2.2 ∧ True) ∧ (Is (byts x.1) (byts x_2.1) ∧ y.2 = x_2.2.1 ∧ True) ∧ True) ∧ ∀ (y_2 : Int),
 ((1 : Int) ≤ x_2.2.2 → (0 : Int) ≤ y_2 ∧ y_2 < x_2.2.2) ∧ (x_2.2.2 < (1 : Int) → y_2 = (0 : Int)) →
 condP (y_2 == (0 : Int))
 (∃ x : List Int × Int × List ByteArray,
 (Rd (1099511627776 : Int) x.1 x.2.1 ∧ x.2.2 ≠ [] ∧ Sz x.2.2) ∧ (((0 : Nat) = (0 : Nat) ∧ Is
 (AV.lit (4 : Nat) (1 : Nat)
 (rowsCell
 [[st (ByteArray.mk #[])], [st (ByteArray.mk #[(65 : UInt8)])],
 [st (ByteArray.mk #[(97 : UInt8), (98 : UInt8), (99 : UInt8)])], [st (ByteArray.mk #[(102 : UInt8)])]]))
 (strs x.2.2) ∧ True) ∧ (Is (byts x_2.1) (byts x.1) ∧ x_2.2.1 + (1 : Int) = x.2.1 ∧ True) ∧ True) ∧ ∀ (y_3 : ByteArray),
 y_3 ∈ x.2.2 →
 ∃ y_4 : Pl.TP × Int,
 (Pl.TmB (1500 : Nat) y_4.1 ∧ p ≤ y_4.2 ∧ y_4.2 ≤ p + (500 : Int)) ∧ (0 : Nat) + y.1.2.length ≤ y.1.2.length ∧ ((y_3 = y_4.1.1 ∧ Is (terms y.1.2) (terms y_4.1.2) ∧ True) ∧ True) ∧ (Is (byts x.1) (byts b) ∧ x.2.1 + (1 : Int) = y_4.2 ∧ True) ∧ True)
 (condP (y_2 == (1 : Int))
 (∃ x : Pl.TP,
 SmT (Pl.Tree.mk x.1 x.2) ∧ (((y.1.1 = x.1 ∧ ((0 : Nat) = (0 : Nat) ∧ y.1.2.length = x.2.length) ∧ True) ∧ True) ∧ IsO (arT y.1.2) (arT x.2) ∧ True) ∧ ∀ (y_3 : Unit),
 True →
 (0 : Nat) + y.1.2.length ≤ x.2.length ∧ (y.1.2.length + (1 : Nat)) * (40 : Nat) ≤ (70368744177664 : Nat) ∧ ∃ y_4 : Pl.TP × Int,
 (Pl.TmB (1500 : Nat) y_4.1 ∧ p ≤ y_4.2 ∧ y_4.2 ≤ p + (500 : Int)) ∧ (0 : Nat) + (y.1.2.length + (1 : Nat)) ≤ y.1.2.length + (1 : Nat) ∧ ((y.1.1 = y_4.1.1 ∧ Is
 (AV.sl (y.1.2.length + (1 : Nat)) (2 : Nat) fun (i j : Nat) =>
 joinC y.1.2.length (cT x.2) (rowsCell [[st x.1, terms x.2]]) i j)
 (terms y_4.1.2) ∧ True) ∧ True) ∧ (Is (byts x_2.1) (byts b) ∧ x_2.2.1 + (1 : Int) = y_4.2 ∧ True) ∧ True)
 (condP (y_2 == (2 : Int))
 (∃ x : Pl.TP,
 SmT (Pl.Tree.mk x.1 x.2) ∧ (((y.1.1 = x.1 ∧ ((0 : Nat) = (0 : Nat) ∧ y.1.2.length = x.2.length) ∧ True) ∧ True) ∧ IsO (arT y.1.2) (arT x.2) ∧ True) ∧ ∀ (y_3 : Unit),
 True →
 ∃ x_3 : Pl.TP,
 SmT (Pl.Tree.mk x_3.1 x_3.2) ∧ (((y.1.1 = x_3.1 ∧ ((0 : Nat) = (0 : Nat) ∧ y.1.2.length = x_3.2.length) ∧ True) ∧ True) ∧ IsO (arT x.2) (arT x_3.2) ∧ True) ∧ ∀ (y_4 : Unit),
 True →
 (0 : Nat) + y.1.2.length ≤ x_3.2.length ∧ (y.1.2.length + (2 : Nat)) * (40 : Nat) ≤ (70368744177664 : Nat) ∧ ∃ y_5 : Pl.TP × Int,
 (Pl.TmB (1500 : Nat) y_5.1 ∧ p ≤ y_5.2 ∧ y_5.2 ≤ p + (500 : Int)) ∧ (0 : Nat) + (y.1.2.length + (2 : Nat)) ≤ y.1.2.length + (2 : Nat) ∧ ((y.1.1 = y_5.1.1 ∧ Is
 (AV.sl (y.1.2.length + (2 : Nat)) (2 : Nat) fun (i j : Nat) =>
 joinC y.1.2.length (cT x_3.2)
 (rowsCell [[st x.1, terms x.2], [st x_3.1, terms x_3.2]]) i j)
 (terms y_5.1.2) ∧ True) ∧ True) ∧ (Is (byts x_2.1) (byts b) ∧ x_2.2.1 + (1 : Int) = y_5.2 ∧ True) ∧ True)
 (∃ y_3 : Pl.TP × Int,
 (Pl.TmB (1500 : Nat) y_3.1 ∧ p ≤ y_3.2 ∧ y_3.2 ≤ p + (500 : Int)) ∧ (0 : Nat) + y.1.2.length ≤ y.1.2.length ∧ ((y.1.1 = y_3.1.1 ∧ Is (terms y.1.2) (terms y_3.1.2) ∧ True) ∧ True) ∧ (Is (byts x_2.1) (byts b) ∧ x_2.2.1 + (1 : Int) = y_3.2 ∧ True) ∧ True)))) = Goal Tryz.prog [K_pick, K_num, K_of, K_lAny, K_l4CopyO] ([]) K_l4Some.1 K_l4Some.2 ((b, p, s)) := by kernel_rfl

end Cg
