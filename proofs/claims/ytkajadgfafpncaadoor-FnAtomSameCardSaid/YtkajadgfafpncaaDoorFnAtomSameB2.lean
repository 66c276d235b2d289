/-
  What the law leans on, part 2. No condition.
-/
import Derived.Test.YtkajadgfafpncaaDoorProg
import Derived.Test.YtkajadgfafpncaaDoorFnAtomSameB1
/-
  What is left to show of each function's code, printed by a program: Mad. No condition.
-/
set_option maxRecDepth 100000
set_option linter.unusedVariables false
namespace Cg
open Go Go.Proofs
theorem vc_l6Put (a : Pl.Atm) (v : ByteArray) (ks : List Pl.Tm) (n : Int) : ((∃ x : Nat × Bool × List Pl.Tm × List Int,
 (x.1 ≤ a.2.2.2.1.length ∧ Pl.PutB a.2.2.2.1 (Pl.Tree.mk v ks) (x.1 + if x.2.1 = true then (1 : Nat) else (0 : Nat)) x.2.2.1 x.2.2.2) ∧ (n = n ∧ (0 : Nat) = (0 : Nat) ∧ (0 : Nat) = (0 : Nat) ∧ (0 : Nat) = (0 : Nat) ∧ (0 : Nat) = (0 : Nat) ∧ false = x.2.1 ∧ (0 : Int) = (↑x.1 : Int) ∧ True) ∧ (a.1 = a.1 ∧ a.2.1.1 = a.2.1.1 ∧ Is (terms a.2.1.2) (terms a.2.1.2) ∧ a.2.2.1.1 = a.2.2.1.1 ∧ Is (terms a.2.2.1.2) (terms a.2.2.1.2) ∧ Is (terms a.2.2.2.1) (terms a.2.2.2.1) ∧ Is (ints a.2.2.2.2.1) (ints a.2.2.2.2.1) ∧ a.2.2.2.2.2.1 = a.2.2.2.2.2.1 ∧ a.2.2.2.2.2.2 = a.2.2.2.2.2.2 ∧ True) ∧ (v = v ∧ Is (terms ks) (terms ks) ∧ True) ∧ ((0 : Int) = (0 : Int) ∧ ByteArray.mk #[] = ByteArray.empty ∧ Is (AV.lit (0 : Nat) (1 : Nat) fun (x x_1 : Nat) => AV.any) nilA ∧ ByteArray.mk #[] = ByteArray.empty ∧ Is (AV.lit (0 : Nat) (1 : Nat) fun (x x_1 : Nat) => AV.any) nilA ∧ Is (AV.lit (0 : Nat) (1 : Nat) fun (x x_1 : Nat) => AV.any) nilA ∧ Is (AV.lit (0 : Nat) (1 : Nat) fun (x x_1 : Nat) => AV.any) nilA ∧ (0 : Int) = (0 : Int) ∧ false = false ∧ True) ∧ (a.1 = a.1 ∧ ByteArray.mk #[] = ByteArray.empty ∧ Is (AV.lit (0 : Nat) (1 : Nat) fun (x x_1 : Nat) => AV.any) nilA ∧ ByteArray.mk #[] = ByteArray.empty ∧ Is (AV.lit (0 : Nat) (1 : Nat) fun (x x_1 : Nat) => AV.any) nilA ∧ ((0 : Nat) = (0 : Nat) ∧ (0 : Nat) = (0 : Nat) ∧ x.2.2.1.length = (0 : Nat)) ∧ ((0 : Nat) = (0 : Nat) ∧ (0 : Nat) = (0 : Nat) ∧ x.2.2.2.length = (0 : Nat)) ∧ a.2.2.2.2.2.1 = a.2.2.2.2.2.1 ∧ a.2.2.2.2.2.2 = a.2.2.2.2.2.2 ∧ True) ∧ x.2.2.1.length = (0 : Nat) ∧ x.2.2.2.length = (0 : Nat) ∧ True) ∧ ∀ (x : Nat × Bool × List Pl.Tm × List Int),
 x.1 ≤ a.2.2.2.1.length ∧ Pl.PutB a.2.2.2.1 (Pl.Tree.mk v ks) (x.1 + if x.2.1 = true then (1 : Nat) else (0 : Nat)) x.2.2.1 x.2.2.2 →
 condP (decide ((↑x.1 : Int) < (↑a.2.2.2.1.length : Int)))
 (((0 : Int) ≤ (↑x.1 : Int) ∧ (↑x.1 : Int) < (↑a.2.2.2.1.length : Int)) ∧ x.1 < a.2.2.2.1.length ∧ ∃ x_1 : Pl.TP,
 ((Pl.Tree.val (a.2.2.2.1.getD x.1 Pl.dT) = x_1.1 ∧ Is (kidsT (a.2.2.2.1.getD x.1 Pl.dT)) (terms x_1.2) ∧ True) ∧ True) ∧ SmT (Pl.Tree.mk x_1.1 x_1.2) ∧ condP (!x.2.1)
 (∃ x_2 : Pl.TP,
 ((v = x_2.1 ∧ Is (terms ks) (terms x_2.2) ∧ True) ∧ True) ∧ SmT (Pl.Tree.mk x_2.1 x_2.2) ∧ condP (!Op.bytesLess (Pl.textT (Pl.Tree.mk x_1.1 x_1.2)).toList (Pl.textT (Pl.Tree.mk x_2.1 x_2.2)).toList)
 ((0 : Nat) + x.2.2.1.length ≤ x.2.2.1.length ∧ (x.2.2.1.length + (1 : Nat)) * (40 : Nat) ≤ (70368744177664 : Nat) ∧ (0 : Nat) + x.2.2.2.length ≤ x.2.2.2.length ∧ (x.2.2.2.length + (1 : Nat)) * (8 : Nat) ≤ (70368744177664 : Nat) ∧ ∃ x_3 : Pl.TP,
 ((v = x_3.1 ∧ Is (terms ks) (terms x_3.2) ∧ True) ∧ True) ∧ SmT (Pl.Tree.mk x_3.1 x_3.2) ∧ condP (!(Pl.textT (Pl.Tree.mk x_1.1 x_1.2)).toList == (Pl.textT (Pl.Tree.mk x_3.1 x_3.2)).toList)
 (((0 : Int) ≤ (↑x.1 : Int) ∧ (↑x.1 : Int) < (↑a.2.2.2.1.length : Int)) ∧ x.1 < a.2.2.2.1.length ∧ (0 : Nat) + (x.2.2.1.length + (1 : Nat)) ≤ x.2.2.1.length + (1 : Nat) ∧ (x.2.2.1.length + (1 : Nat) + (1 : Nat)) * (40 : Nat) ≤ (70368744177664 : Nat) ∧ ((0 : Int) ≤ (↑x.1 : Int) ∧ (↑x.1 : Int) < (↑a.2.2.2.2.1.length : Int)) ∧ x.1 < a.2.2.2.2.1.length ∧ (0 : Nat) + (x.2.2.2.length + (1 : Nat)) ≤ x.2.2.2.length + (1 : Nat) ∧ (x.2.2.2.length + (1 : Nat) + (1 : Nat)) * (8 : Nat) ≤ (70368744177664 : Nat) ∧ Exists fun (x' : Nat × Bool × List Pl.Tm × List Int) =>
 (x'.1 ≤ a.2.2.2.1.length ∧ Pl.PutB a.2.2.2.1 (Pl.Tree.mk v ks) (x'.1 + if x'.2.1 = true then (1 : Nat) else (0 : Nat)) x'.2.2.1
 x'.2.2.2) ∧ a.2.2.2.1.length - x'.1 < a.2.2.2.1.length - x.1 ∧ (n = n ∧ (0 : Nat) = (0 : Nat) ∧ (0 : Nat) = (0 : Nat) ∧ (0 : Nat) = (0 : Nat) ∧ (0 : Nat) = (0 : Nat) ∧ true = x'.2.1 ∧ IntKind.i64.wrap ((↑x.1 : Int) + (1 : Int)) = (↑x'.1 : Int) ∧ True) ∧ (a.1 = a.1 ∧ a.2.1.1 = a.2.1.1 ∧ Is (terms a.2.1.2) (terms a.2.1.2) ∧ a.2.2.1.1 = a.2.2.1.1 ∧ Is (terms a.2.2.1.2) (terms a.2.2.1.2) ∧ Is (terms a.2.2.2.1) (terms a.2.2.2.1) ∧ Is (ints a.2.2.2.2.1) (ints a.2.2.2.2.1) ∧ a.2.2.2.2.2.1 = a.2.2.2.2.2.1 ∧ a.2.2.2.2.2.2 = a.2.2.2.2.2.2 ∧ True) ∧ (v = v ∧ Is (terms ks) (terms ks) ∧ True) ∧ ((0 : Int) = (0 : Int) ∧ ByteArray.empty = ByteArray.empty ∧ Is (AV.lit (0 : Nat) (1 : Nat) fun (x x_4 : Nat) => AV.any) nilA ∧ ByteArray.empty = ByteArray.empty ∧ Is (AV.lit (0 : Nat) (1 : Nat) fun (x x_4 : Nat) => AV.any) nilA ∧ Is (AV.lit (0 : Nat) (1 : Nat) fun (x x_4 : Nat) => AV.any) nilA ∧ Is (AV.lit (0 : Nat) (1 : Nat) fun (x x_4 : Nat) => AV.any) nilA ∧ (0 : Int) = (0 : Int) ∧ false = false ∧ True) ∧ (a.1 = a.1 ∧ ByteArray.empty = ByteArray.empty ∧ Is (AV.lit (0 : Nat) (1 : Nat) fun (x x_4 : Nat) => AV.any) nilA ∧ ByteArray.empty = ByteArray.empty ∧ Is (AV.lit (0 : Nat) (1 : Nat) fun (x x_4 : Nat) => AV.any) nilA ∧ ((0 : Nat) = (0 : Nat) ∧ x.2.2.1.length + (1 : Nat) + (1 : Nat) = x'.2.2.1.length) ∧ ((0 : Nat) = (0 : Nat) ∧ x.2.2.2.length + (1 : Nat) + (1 : Nat) = x'.2.2.2.length) ∧ a.2.2.2.2.2.1 = a.2.2.2.2.2.1 ∧ a.2.2.2.2.2.2 = a.2.2.2.2.2.2 ∧ True) ∧ IsO
 (AObj.arr (x.2.2.1.length + (1 : Nat) + (1 : Nat)) (2 : Nat)
 (joinC (x.2.2.1.length + (1 : Nat))
 (fun (i j : Nat) => joinC x.2.2.1.length (cT x.2.2.1) (rowsCell [[st v, terms ks]]) i j)
 (rowsCell
 [[st (Pl.Tree.val (a.2.2.2.1.getD x.1 Pl.dT)), kidsT (a.2.2.2.1.getD x.1 Pl.dT)]])))
 (arT x'.2.2.1) ∧ IsO
 (AObj.arr (x.2.2.2.length + (1 : Nat) + (1 : Nat)) (1 : Nat)
 (joinC (x.2.2.2.length + (1 : Nat))
 (fun (i j : Nat) => joinC x.2.2.2.length (cI x.2.2.2) (rowsCell [[i64 n]]) i j)
 (rowsCell [[i64 (a.2.2.2.2.1.getD x.1 (0 : Int))]])))
 (arI x'.2.2.2) ∧ True)
 (Exists fun (x' : Nat × Bool × List Pl.Tm × List Int) =>
 (x'.1 ≤ a.2.2.2.1.length ∧ Pl.PutB a.2.2.2.1 (Pl.Tree.mk v ks) (x'.1 + if x'.2.1 = true then (1 : Nat) else (0 : Nat)) x'.2.2.1 x'.2.2.2) ∧ a.2.2.2.1.length - x'.1 < a.2.2.2.1.length - x.1 ∧ (n = n ∧ (0 : Nat) = (0 : Nat) ∧ (0 : Nat) = (0 : Nat) ∧ (0 : Nat) = (0 : Nat) ∧ (0 : Nat) = (0 : Nat) ∧ true = x'.2.1 ∧ IntKind.i64.wrap ((↑x.1 : Int) + (1 : Int)) = (↑x'.1 : Int) ∧ True) ∧ (a.1 = a.1 ∧ a.2.1.1 = a.2.1.1 ∧ Is (terms a.2.1.2) (terms a.2.1.2) ∧ a.2.2.1.1 = a.2.2.1.1 ∧ Is (terms a.2.2.1.2) (terms a.2.2.1.2) ∧ Is (terms a.2.2.2.1) (terms a.2.2.2.1) ∧ Is (ints a.2.2.2.2.1) (ints a.2.2.2.2.1) ∧ a.2.2.2.2.2.1 = a.2.2.2.2.2.1 ∧ a.2.2.2.2.2.2 = a.2.2.2.2.2.2 ∧ True) ∧ (v = v ∧ Is (terms ks) (terms ks) ∧ True) ∧ ((0 : Int) = (0 : Int) ∧ ByteArray.empty = ByteArray.empty ∧ Is (AV.lit (0 : Nat) (1 : Nat) fun (x x_4 : Nat) => AV.any) nilA ∧ ByteArray.empty = ByteArray.empty ∧ Is (AV.lit (0 : Nat) (1 : Nat) fun (x x_4 : Nat) => AV.any) nilA ∧ Is (AV.lit (0 : Nat) (1 : Nat) fun (x x_4 : Nat) => AV.any) nilA ∧ Is (AV.lit (0 : Nat) (1 : Nat) fun (x x_4 : Nat) => AV.any) nilA ∧ (0 : Int) = (0 : Int) ∧ false = false ∧ True) ∧ (a.1 = a.1 ∧ ByteArray.empty = ByteArray.empty ∧ Is (AV.lit (0 : Nat) (1 : Nat) fun (x x_4 : Nat) => AV.any) nilA ∧ ByteArray.empty = ByteArray.empty ∧ Is (AV.lit (0 : Nat) (1 : Nat) fun (x x_4 : Nat) => AV.any) nilA ∧ ((0 : Nat) = (0 : Nat) ∧ x.2.2.1.length + (1 : Nat) = x'.2.2.1.length) ∧ ((0 : Nat) = (0 : Nat) ∧ x.2.2.2.length + (1 : Nat) = x'.2.2.2.length) ∧ a.2.2.2.2.2.1 = a.2.2.2.2.2.1 ∧ a.2.2.2.2.2.2 = a.2.2.2.2.2.2 ∧ True) ∧ IsO
 (AObj.arr (x.2.2.1.length + (1 : Nat)) (2 : Nat)
 (joinC x.2.2.1.length (cT x.2.2.1) (rowsCell [[st v, terms ks]])))
 (arT x'.2.2.1) ∧ IsO
 (AObj.arr (x.2.2.2.length + (1 : Nat)) (1 : Nat)
 (joinC x.2.2.2.length (cI x.2.2.2) (rowsCell [[i64 n]])))
 (arI x'.2.2.2) ∧ True))
 (∃ x_3 : Pl.TP,
 ((v = x_3.1 ∧ Is (terms ks) (terms x_3.2) ∧ True) ∧ True) ∧ SmT (Pl.Tree.mk x_3.1 x_3.2) ∧ condP (!(Pl.textT (Pl.Tree.mk x_1.1 x_1.2)).toList == (Pl.textT (Pl.Tree.mk x_3.1 x_3.2)).toList)
 (((0 : Int) ≤ (↑x.1 : Int) ∧ (↑x.1 : Int) < (↑a.2.2.2.1.length : Int)) ∧ x.1 < a.2.2.2.1.length ∧ (0 : Nat) + x.2.2.1.length ≤ x.2.2.1.length ∧ (x.2.2.1.length + (1 : Nat)) * (40 : Nat) ≤ (70368744177664 : Nat) ∧ ((0 : Int) ≤ (↑x.1 : Int) ∧ (↑x.1 : Int) < (↑a.2.2.2.2.1.length : Int)) ∧ x.1 < a.2.2.2.2.1.length ∧ (0 : Nat) + x.2.2.2.length ≤ x.2.2.2.length ∧ (x.2.2.2.length + (1 : Nat)) * (8 : Nat) ≤ (70368744177664 : Nat) ∧ Exists fun (x' : Nat × Bool × List Pl.Tm × List Int) =>
 (x'.1 ≤ a.2.2.2.1.length ∧ Pl.PutB a.2.2.2.1 (Pl.Tree.mk v ks) (x'.1 + if x'.2.1 = true then (1 : Nat) else (0 : Nat)) x'.2.2.1
 x'.2.2.2) ∧ a.2.2.2.1.length - x'.1 < a.2.2.2.1.length - x.1 ∧ (n = n ∧ (0 : Nat) = (0 : Nat) ∧ (0 : Nat) = (0 : Nat) ∧ (0 : Nat) = (0 : Nat) ∧ (0 : Nat) = (0 : Nat) ∧ x.2.1 = x'.2.1 ∧ IntKind.i64.wrap ((↑x.1 : Int) + (1 : Int)) = (↑x'.1 : Int) ∧ True) ∧ (a.1 = a.1 ∧ a.2.1.1 = a.2.1.1 ∧ Is (terms a.2.1.2) (terms a.2.1.2) ∧ a.2.2.1.1 = a.2.2.1.1 ∧ Is (terms a.2.2.1.2) (terms a.2.2.1.2) ∧ Is (terms a.2.2.2.1) (terms a.2.2.2.1) ∧ Is (ints a.2.2.2.2.1) (ints a.2.2.2.2.1) ∧ a.2.2.2.2.2.1 = a.2.2.2.2.2.1 ∧ a.2.2.2.2.2.2 = a.2.2.2.2.2.2 ∧ True) ∧ (v = v ∧ Is (terms ks) (terms ks) ∧ True) ∧ ((0 : Int) = (0 : Int) ∧ ByteArray.empty = ByteArray.empty ∧ Is (AV.lit (0 : Nat) (1 : Nat) fun (x x_4 : Nat) => AV.any) nilA ∧ ByteArray.empty = ByteArray.empty ∧ Is (AV.lit (0 : Nat) (1 : Nat) fun (x x_4 : Nat) => AV.any) nilA ∧ Is (AV.lit (0 : Nat) (1 : Nat) fun (x x_4 : Nat) => AV.any) nilA ∧ Is (AV.lit (0 : Nat) (1 : Nat) fun (x x_4 : Nat) => AV.any) nilA ∧ (0 : Int) = (0 : Int) ∧ false = false ∧ True) ∧ (a.1 = a.1 ∧ ByteArray.empty = ByteArray.empty ∧ Is (AV.lit (0 : Nat) (1 : Nat) fun (x x_4 : Nat) => AV.any) nilA ∧ ByteArray.empty = ByteArray.empty ∧ Is (AV.lit (0 : Nat) (1 : Nat) fun (x x_4 : Nat) => AV.any) nilA ∧ ((0 : Nat) = (0 : Nat) ∧ x.2.2.1.length + (1 : Nat) = x'.2.2.1.length) ∧ ((0 : Nat) = (0 : Nat) ∧ x.2.2.2.length + (1 : Nat) = x'.2.2.2.length) ∧ a.2.2.2.2.2.1 = a.2.2.2.2.2.1 ∧ a.2.2.2.2.2.2 = a.2.2.2.2.2.2 ∧ True) ∧ IsO
 (AObj.arr (x.2.2.1.length + (1 : Nat)) (2 : Nat)
 (joinC x.2.2.1.length (cT x.2.2.1)
 (rowsCell [[st (Pl.Tree.val (a.2.2.2.1.getD x.1 Pl.dT)), kidsT (a.2.2.2.1.getD x.1 Pl.dT)]])))
 (arT x'.2.2.1) ∧ IsO
 (AObj.arr (x.2.2.2.length + (1 : Nat)) (1 : Nat)
 (joinC x.2.2.2.length (cI x.2.2.2) (rowsCell [[i64 (a.2.2.2.2.1.getD x.1 (0 : Int))]])))
 (arI x'.2.2.2) ∧ True)
 (Exists fun (x' : Nat × Bool × List Pl.Tm × List Int) =>
 (x'.1 ≤ a.2.2.2.1.length ∧ Pl.PutB a.2.2.2.1 (Pl.Tree.mk v ks) (x'.1 + if x'.2.1 = true then (1 : Nat) else (0 : Nat)) x'.2.2.1 x'.2.2.2) ∧ a.2.2.2.1.length - x'.1 < a.2.2.2.1.length - x.1 ∧ (n = n ∧ (0 : Nat) = (0 : Nat) ∧ (0 : Nat) = (0 : Nat) ∧ (0 : Nat) = (0 : Nat) ∧ (0 : Nat) = (0 : Nat) ∧ x.2.1 = x'.2.1 ∧ IntKind.i64.wrap ((↑x.1 : Int) + (1 : Int)) = (↑x'.1 : Int) ∧ True) ∧ (a.1 = a.1 ∧ a.2.1.1 = a.2.1.1 ∧ Is (terms a.2.1.2) (terms a.2.1.2) ∧ a.2.2.1.1 = a.2.2.1.1 ∧ Is (terms a.2.2.1.2) (terms a.2.2.1.2) ∧ Is (terms a.2.2.2.1) (terms a.2.2.2.1) ∧ Is (ints a.2.2.2.2.1) (ints a.2.2.2.2.1) ∧ a.2.2.2.2.2.1 = a.2.2.2.2.2.1 ∧ a.2.2.2.2.2.2 = a.2.2.2.2.2.2 ∧ True) ∧ (v = v ∧ Is (terms ks) (terms ks) ∧ True) ∧ ((0 : Int) = (0 : Int) ∧ ByteArray.empty = ByteArray.empty ∧ Is (AV.lit (0 : Nat) (1 : Nat) fun (x x_4 : Nat) => AV.any) nilA ∧ ByteArray.empty = ByteArray.empty ∧ Is (AV.lit (0 : Nat) (1 : Nat) fun (x x_4 : Nat) => AV.any) nilA ∧ Is (AV.lit (0 : Nat) (1 : Nat) fun (x x_4 : Nat) => AV.any) nilA ∧ Is (AV.lit (0 : Nat) (1 : Nat) fun (x x_4 : Nat) => AV.any) nilA ∧ (0 : Int) = (0 : Int) ∧ false = false ∧ True) ∧ (a.1 = a.1 ∧ ByteArray.empty = ByteArray.empty ∧ Is (AV.lit (0 : Nat) (1 : Nat) fun (x x_4 : Nat) => AV.any) nilA ∧ ByteArray.empty = ByteArray.empty ∧ Is (AV.lit (0 : Nat) (1 : Nat) fun (x x_4 : Nat) => AV.any) nilA ∧ ((0 : Nat) = (0 : Nat) ∧ x.2.2.1.length = x'.2.2.1.length) ∧ ((0 : Nat) = (0 : Nat) ∧ x.2.2.2.length = x'.2.2.2.length) ∧ a.2.2.2.2.2.1 = a.2.2.2.2.2.1 ∧ a.2.2.2.2.2.2 = a.2.2.2.2.2.2 ∧ True) ∧ IsO (arT x.2.2.1) (arT x'.2.2.1) ∧ IsO (arI x.2.2.2) (arI x'.2.2.2) ∧ True)))
 (∃ x_2 : Pl.TP,
 ((v = x_2.1 ∧ Is (terms ks) (terms x_2.2) ∧ True) ∧ True) ∧ SmT (Pl.Tree.mk x_2.1 x_2.2) ∧ condP (!(Pl.textT (Pl.Tree.mk x_1.1 x_1.2)).toList == (Pl.textT (Pl.Tree.mk x_2.1 x_2.2)).toList)
 (((0 : Int) ≤ (↑x.1 : Int) ∧ (↑x.1 : Int) < (↑a.2.2.2.1.length : Int)) ∧ x.1 < a.2.2.2.1.length ∧ (0 : Nat) + x.2.2.1.length ≤ x.2.2.1.length ∧ (x.2.2.1.length + (1 : Nat)) * (40 : Nat) ≤ (70368744177664 : Nat) ∧ ((0 : Int) ≤ (↑x.1 : Int) ∧ (↑x.1 : Int) < (↑a.2.2.2.2.1.length : Int)) ∧ x.1 < a.2.2.2.2.1.length ∧ (0 : Nat) + x.2.2.2.length ≤ x.2.2.2.length ∧ (x.2.2.2.length + (1 : Nat)) * (8 : Nat) ≤ (70368744177664 : Nat) ∧ Exists fun (x' : Nat × Bool × List Pl.Tm × List Int) =>
 (x'.1 ≤ a.2.2.2.1.length ∧ Pl.PutB a.2.2.2.1 (Pl.Tree.mk v ks) (x'.1 + if x'.2.1 = true then (1 : Nat) else (0 : Nat)) x'.2.2.1 x'.2.2.2) ∧ a.2.2.2.1.length - x'.1 < a.2.2.2.1.length - x.1 ∧ (n = n ∧ (0 : Nat) = (0 : Nat) ∧ (0 : Nat) = (0 : Nat) ∧ (0 : Nat) = (0 : Nat) ∧ (0 : Nat) = (0 : Nat) ∧ x.2.1 = x'.2.1 ∧ IntKind.i64.wrap ((↑x.1 : Int) + (1 : Int)) = (↑x'.1 : Int) ∧ True) ∧ (a.1 = a.1 ∧ a.2.1.1 = a.2.1.1 ∧ Is (terms a.2.1.2) (terms a.2.1.2) ∧ a.2.2.1.1 = a.2.2.1.1 ∧ Is (terms a.2.2.1.2) (terms a.2.2.1.2) ∧ Is (terms a.2.2.2.1) (terms a.2.2.2.1) ∧ Is (ints a.2.2.2.2.1) (ints a.2.2.2.2.1) ∧ a.2.2.2.2.2.1 = a.2.2.2.2.2.1 ∧ a.2.2.2.2.2.2 = a.2.2.2.2.2.2 ∧ True) ∧ (v = v ∧ Is (terms ks) (terms ks) ∧ True) ∧ ((0 : Int) = (0 : Int) ∧ ByteArray.empty = ByteArray.empty ∧ Is (AV.lit (0 : Nat) (1 : Nat) fun (x x_3 : Nat) => AV.any) nilA ∧ ByteArray.empty = ByteArray.empty ∧ Is (AV.lit (0 : Nat) (1 : Nat) fun (x x_3 : Nat) => AV.any) nilA ∧ Is (AV.lit (0 : Nat) (1 : Nat) fun (x x_3 : Nat) => AV.any) nilA ∧ Is (AV.lit (0 : Nat) (1 : Nat) fun (x x_3 : Nat) => AV.any) nilA ∧ (0 : Int) = (0 : Int) ∧ false = false ∧ True) ∧ (a.1 = a.1 ∧ ByteArray.empty = ByteArray.empty ∧ Is (AV.lit (0 : Nat) (1 : Nat) fun (x x_3 : Nat) => AV.any) nilA ∧ ByteArray.empty = ByteArray.empty ∧ Is (AV.lit (0 : Nat) (1 : Nat) fun (x x_3 : Nat) => AV.any) nilA ∧ ((0 : Nat) = (0 : Nat) ∧ x.2.2.1.length + (1 : Nat) = x'.2.2.1.length) ∧ ((0 : Nat) = (0 : Nat) ∧ x.2.2.2.length + (1 : Nat) = x'.2.2.2.length) ∧ a.2.2.2.2.2.1 = a.2.2.2.2.2.1 ∧ a.2.2.2.2.2.2 = a.2.2.2.2.2.2 ∧ True) ∧ IsO
 (AObj.arr (x.2.2.1.length + (1 : Nat)) (2 : Nat)
 (joinC x.2.2.1.length (cT x.2.2.1)
 (rowsCell [[st (Pl.Tree.val (a.2.2.2.1.getD x.1 Pl.dT)), kidsT (a.2.2.2.1.getD x.1 Pl.dT)]])))
 (arT x'.2.2.1) ∧ IsO
 (AObj.arr (x.2.2.2.length + (1 : Nat)) (1 : Nat)
 (joinC x.2.2.2.length (cI x.2.2.2) (rowsCell [[i64 (a.2.2.2.2.1.getD x.1 (0 : Int))]])))
 (arI x'.2.2.2) ∧ True)
 (Exists fun (x' : Nat × Bool × List Pl.Tm × List Int) =>
 (x'.1 ≤ a.2.2.2.1.length ∧ Pl.PutB a.2.2.2.1 (Pl.Tree.mk v ks) (x'.1 + if x'.2.1 = true then (1 : Nat) else (0 : Nat)) x'.2.2.1 x'.2.2.2) ∧ a.2.2.2.1.length - x'.1 < a.2.2.2.1.length - x.1 ∧ (n = n ∧ (0 : Nat) = (0 : Nat) ∧ (0 : Nat) = (0 : Nat) ∧ (0 : Nat) = (0 : Nat) ∧ (0 : Nat) = (0 : Nat) ∧ x.2.1 = x'.2.1 ∧ IntKind.i64.wrap ((↑x.1 : Int) + (1 : Int)) = (↑x'.1 : Int) ∧ True) ∧ (a.1 = a.1 ∧ a.2.1.1 = a.2.1.1 ∧ Is (terms a.2.1.2) (terms a.2.1.2) ∧ a.2.2.1.1 = a.2.2.1.1 ∧ Is (terms a.2.2.1.2) (terms a.2.2.1.2) ∧ Is (terms a.2.2.2.1) (terms a.2.2.2.1) ∧ Is (ints a.2.2.2.2.1) (ints a.2.2.2.2.1) ∧ a.2.2.2.2.2.1 = a.2.2.2.2.2.1 ∧ a.2.2.2.2.2.2 = a.2.2.2.2.2.2 ∧ True) ∧ (v = v ∧ Is (terms ks) (terms ks) ∧ True) ∧ ((0 : Int) = (0 : Int) ∧ ByteArray.empty = ByteArray.empty ∧ Is (AV.lit (0 : Nat) (1 : Nat) fun (x x_3 : Nat) => AV.any) nilA ∧ ByteArray.empty = ByteArray.empty ∧ Is (AV.lit (0 : Nat) (1 : Nat) fun (x x_3 : Nat) => AV.any) nilA ∧ Is (AV.lit (0 : Nat) (1 : Nat) fun (x x_3 : Nat) => AV.any) nilA ∧ Is (AV.lit (0 : Nat) (1 : Nat) fun (x x_3 : Nat) => AV.any) nilA ∧ (0 : Int) = (0 : Int) ∧ false = false ∧ True) ∧ (a.1 = a.1 ∧ ByteArray.empty = ByteArray.empty ∧ Is (AV.lit (0 : Nat) (1 : Nat) fun (x x_3 : Nat) => AV.any) nilA ∧ ByteArray.empty = ByteArray.empty ∧ Is (AV.lit (0 : Nat) (1 : Nat) fun (x x_3 : Nat) => AV.any) nilA ∧ ((0 : Nat) = (0 : Nat) ∧ x.2.2.1.length = x'.2.2.1.length) ∧ ((0 : Nat) = (0 : Nat) ∧ x.2.2.2.length = x'.2.2.2.length) ∧ a.2.2.2.2.2.1 = a.2.2.2.2.2.1 ∧ a.2.2.2.2.2.2 = a.2.2.2.2.2.2 ∧ True) ∧ IsO (arT x.2.2.1) (arT x'.2.2.1) ∧ IsO (arI x.2.2.2) (arI x'.2.2.2) ∧ True)))
 (condP (!x.2.1)
 ((0 : Nat) + x.2.2.1.length ≤ x.2.2.1.length ∧ (x.2.2.1.length + (1 : Nat)) * (40 : Nat) ≤ (70368744177664 : Nat) ∧ (0 : Nat) + x.2.2.2.length ≤ x.2.2.2.length ∧ (x.2.2.2.length + (1 : Nat)) * (8 : Nat) ≤ (70368744177664 : Nat) ∧ ∃ y : List Pl.Tm × List Int,
 Pl.PutB a.2.2.2.1 (Pl.Tree.mk v ks) (a.2.2.2.1.length + (1 : Nat)) y.1 y.2 ∧ ((a.1 = (a.1, Pl.noTP, Pl.noTP, y.1, y.2, a.2.2.2.2.2.1, a.2.2.2.2.2.2).1 ∧ ByteArray.empty = ByteArray.mk #[] ∧ Is (AV.lit (0 : Nat) (1 : Nat) fun (x x_1 : Nat) => AV.any) (terms []) ∧ ByteArray.empty = ByteArray.mk #[] ∧ Is (AV.lit (0 : Nat) (1 : Nat) fun (x x_1 : Nat) => AV.any) (terms []) ∧ ((0 : Nat) = (0 : Nat) ∧ x.2.2.1.length + (1 : Nat) = (y.1, y.2, a.2.2.2.2.2.1, a.2.2.2.2.2.2).1.length) ∧ ((0 : Nat) = (0 : Nat) ∧ x.2.2.2.length + (1 : Nat) = (y.2, a.2.2.2.2.2.1, a.2.2.2.2.2.2).1.length) ∧ a.2.2.2.2.2.1 = (a.2.2.2.2.2.1, a.2.2.2.2.2.2).1 ∧ a.2.2.2.2.2.2 = (a.2.2.2.2.2.1, a.2.2.2.2.2.2).2 ∧ True) ∧ True) ∧ IsO (AObj.arr (x.2.2.1.length + (1 : Nat)) (2 : Nat) (joinC x.2.2.1.length (cT x.2.2.1) (rowsCell [[st v, terms ks]]))) (arT y.1) ∧ IsO (AObj.arr (x.2.2.2.length + (1 : Nat)) (1 : Nat) (joinC x.2.2.2.length (cI x.2.2.2) (rowsCell [[i64 n]]))) (arI y.2) ∧ True)
 (∃ y : List Pl.Tm × List Int,
 Pl.PutB a.2.2.2.1 (Pl.Tree.mk v ks) (a.2.2.2.1.length + (1 : Nat)) y.1 y.2 ∧ ((a.1 = (a.1, Pl.noTP, Pl.noTP, y.1, y.2, a.2.2.2.2.2.1, a.2.2.2.2.2.2).1 ∧ ByteArray.empty = ByteArray.mk #[] ∧ Is (AV.lit (0 : Nat) (1 : Nat) fun (x x_1 : Nat) => AV.any) (terms []) ∧ ByteArray.empty = ByteArray.mk #[] ∧ Is (AV.lit (0 : Nat) (1 : Nat) fun (x x_1 : Nat) => AV.any) (terms []) ∧ ((0 : Nat) = (0 : Nat) ∧ x.2.2.1.length = (y.1, y.2, a.2.2.2.2.2.1, a.2.2.2.2.2.2).1.length) ∧ ((0 : Nat) = (0 : Nat) ∧ x.2.2.2.length = (y.2, a.2.2.2.2.2.1, a.2.2.2.2.2.2).1.length) ∧ a.2.2.2.2.2.1 = (a.2.2.2.2.2.1, a.2.2.2.2.2.2).1 ∧ a.2.2.2.2.2.2 = (a.2.2.2.2.2.1, a.2.2.2.2.2.2).2 ∧ True) ∧ True) ∧ IsO (arT x.2.2.1) (arT y.1) ∧ IsO (arI x.2.2.2) (arI y.2) ∧ True))) = Goal Tryd.prog [K_lText] (A_l6Put a v ks n) K_l6Put.1 K_l6Put.2 ((a, (v, ks), n)) := by kernel_rfl

theorem vc_l6Any (b : List Int) (p : Int) (s : Pl.Sig) : (∃ x : List Int × Int × Int,
 Rd (1099511627776 : Int) x.1 x.2.1 ∧ (((0 : Nat) = (0 : Nat) ∧ (2 : Int) = x.2.2 ∧ True) ∧ (Is (byts b) (byts x.1) ∧ p = x.2.1 ∧ True) ∧ True) ∧ ∀ (y : Int),
 ((1 : Int) ≤ x.2.2 → (0 : Int) ≤ y ∧ y < x.2.2) ∧ (x.2.2 < (1 : Int) → y = (0 : Int)) →
 condP (y == (0 : Int))
 (∃ x_1 : List Int × Int × Int,
 Rd (1099511627776 : Int) x_1.1 x_1.2.1 ∧ (((0 : Nat) = (0 : Nat) ∧ (2 : Int) = x_1.2.2 ∧ True) ∧ (Is (byts x.1) (byts x_1.1) ∧ x.2.1 + (1 : Int) = x_1.2.1 ∧ True) ∧ True) ∧ ∀ (y : Int),
 ((1 : Int) ≤ x_1.2.2 → (0 : Int) ≤ y ∧ y < x_1.2.2) ∧ (x_1.2.2 < (1 : Int) → y = (0 : Int)) →
 ((∃ x : List Int × Int × List Int,
 (Rd (1099511627776 : Int) x.1 x.2.1 ∧ x.2.2 ≠ [] ∧ Sz x.2.2) ∧ (((0 : Nat) = (0 : Nat) ∧ Is (AV.lit (2 : Nat) (1 : Nat) (rowsCell [[i64 (1 : Int)], [i64 (2 : Int)]])) (ints x.2.2) ∧ True) ∧ (Is (byts x_1.1) (byts x.1) ∧ x_1.2.1 + (1 : Int) = x.2.1 ∧ True) ∧ True) ∧ ∀ (y_1 : Int),
 y_1 ∈ x.2.2 →
 (∃ x_2 : AX,
 (Rd (137438953472 : Int) x_2.1 x_2.2.1 ∧ x_2.2.1 + (↑(Pl.CB x_2.2.2.2.2.toNat) : Int) ≤ (137438953472 : Int) ∧ Pl.SgB (5 : Nat) (2 : Nat) x_2.2.2.1 ∧ x_2.2.2.2.2 ≤ (4 : Int)) ∧ (((0 : Nat) = (0 : Nat) ∧ (Is (syms s) (syms x_2.2.2.1) ∧ True) ∧ y = x_2.2.2.2.1 ∧ y_1 = x_2.2.2.2.2 ∧ True) ∧ (Is (byts x.1) (byts x_2.1) ∧ x.2.1 + (1 : Int) = x_2.2.1 ∧ True) ∧ True) ∧ ∀ (y_2 : Pl.TP × Int),
 Pl.TmB (Pl.CB x_2.2.2.2.2.toNat) y_2.1 ∧ x_2.2.1 ≤ y_2.2 ∧ y_2.2 ≤ x_2.2.1 + (↑(Pl.CB x_2.2.2.2.2.toNat) : Int) →
 (∃ x : List Int × Int × List Int,
 (Rd (1099511627776 : Int) x.1 x.2.1 ∧ x.2.2 ≠ [] ∧ Sz x.2.2) ∧ (((0 : Nat) = (0 : Nat) ∧ Is (AV.lit (3 : Nat) (1 : Nat) (rowsCell [[i64 (1 : Int)], [i64 (1 : Int)], [i64 (2 : Int)]])) (ints x.2.2) ∧ True) ∧ (Is (byts x_2.1) (byts x.1) ∧ y_2.2 = x.2.1 ∧ True) ∧ True) ∧ ∀ (y_3 : Int),
 y_3 ∈ x.2.2 →
 ∃ x_3 : AX,
 (Rd (137438953472 : Int) x_3.1 x_3.2.1 ∧ x_3.2.1 + (↑(Pl.CB x_3.2.2.2.2.toNat) : Int) ≤ (137438953472 : Int) ∧ Pl.SgB (5 : Nat) (2 : Nat) x_3.2.2.1 ∧ x_3.2.2.2.2 ≤ (4 : Int)) ∧ (((0 : Nat) = (0 : Nat) ∧ (Is (syms s) (syms x_3.2.2.1) ∧ True) ∧ y = x_3.2.2.2.1 ∧ y_3 = x_3.2.2.2.2 ∧ True) ∧ (Is (byts x.1) (byts x_3.1) ∧ x.2.1 + (1 : Int) = x_3.2.1 ∧ True) ∧ True) ∧ ∀ (y : Pl.TP × Int),
 Pl.TmB (Pl.CB x_3.2.2.2.2.toNat) y.1 ∧ x_3.2.1 ≤ y.2 ∧ y.2 ≤ x_3.2.1 + (↑(Pl.CB x_3.2.2.2.2.toNat) : Int) →
 ∃ y_4 : Pl.Atm × Int,
 (Pl.AtB (3 : Nat) y_4.1 ∧ p ≤ y_4.2 ∧ y_4.2 ≤ p + (500 : Int)) ∧ (0 : Nat) + y_2.1.2.length ≤ y_2.1.2.length ∧ (0 : Nat) + y.1.2.length ≤ y.1.2.length ∧ (((1 : Int) = y_4.1.1 ∧ y_2.1.1 = y_4.1.2.1.1 ∧ Is (terms y_2.1.2) (terms y_4.1.2.1.2) ∧ y.1.1 = y_4.1.2.2.1.1 ∧ Is (terms y.1.2) (terms y_4.1.2.2.1.2) ∧ ((0 : Nat) = (0 : Nat) ∧ (0 : Nat) = (0 : Nat) ∧ y_4.1.2.2.2.1.length = (0 : Nat)) ∧ ((0 : Nat) = (0 : Nat) ∧ (0 : Nat) = (0 : Nat) ∧ y_4.1.2.2.2.2.1.length = (0 : Nat)) ∧ (0 : Int) = y_4.1.2.2.2.2.2.1 ∧ false = y_4.1.2.2.2.2.2.2 ∧ True) ∧ True) ∧ (Is (byts x_3.1) (byts b) ∧ y.2 = y_4.2 ∧ True) ∧ y_4.1.2.2.2.1.length = (0 : Nat) ∧ y_4.1.2.2.2.2.1.length = (0 : Nat) ∧ True) ∧ ∃ x : List Int × Int × List Int,
 (Rd (1099511627776 : Int) x.1 x.2.1 ∧ x.2.2 ≠ [] ∧ Sz x.2.2) ∧ (((0 : Nat) = (0 : Nat) ∧ Is (AV.lit (3 : Nat) (1 : Nat) (rowsCell [[i64 (1 : Int)], [i64 (1 : Int)], [i64 (2 : Int)]])) (ints x.2.2) ∧ True) ∧ (Is (byts x_2.1) (byts x.1) ∧ y_2.2 = x.2.1 ∧ True) ∧ True) ∧ ∀ (y_3 : Int),
 y_3 ∈ x.2.2 →
 ∃ x_3 : AX,
 (Rd (137438953472 : Int) x_3.1 x_3.2.1 ∧ x_3.2.1 + (↑(Pl.CB x_3.2.2.2.2.toNat) : Int) ≤ (137438953472 : Int) ∧ Pl.SgB (5 : Nat) (2 : Nat) x_3.2.2.1 ∧ x_3.2.2.2.2 ≤ (4 : Int)) ∧ (((0 : Nat) = (0 : Nat) ∧ (Is (syms s) (syms x_3.2.2.1) ∧ True) ∧ y = x_3.2.2.2.1 ∧ y_3 = x_3.2.2.2.2 ∧ True) ∧ (Is (byts x.1) (byts x_3.1) ∧ x.2.1 + (1 : Int) = x_3.2.1 ∧ True) ∧ True) ∧ ∀ (y : Pl.TP × Int),
 Pl.TmB (Pl.CB x_3.2.2.2.2.toNat) y.1 ∧ x_3.2.1 ≤ y.2 ∧ y.2 ≤ x_3.2.1 + (↑(Pl.CB x_3.2.2.2.2.toNat) : Int) →
 ∃ y_4 : Pl.Atm × Int,
 (Pl.AtB (3 : Nat) y_4.1 ∧ p ≤ y_4.2 ∧ y_4.2 ≤ p + (500 : Int)) ∧ (0 : Nat) + y_2.1.2.length ≤ y_2.1.2.length ∧ (0 : Nat) + y.1.2.length ≤ y.1.2.length ∧ (((1 : Int) = y_4.1.1 ∧ y_2.1.1 = y_4.1.2.1.1 ∧ Is (terms y_2.1.2) (terms y_4.1.2.1.2) ∧ y.1.1 = y_4.1.2.2.1.1 ∧ Is (terms y.1.2) (terms y_4.1.2.2.1.2) ∧ ((0 : Nat) = (0 : Nat) ∧ (0 : Nat) = (0 : Nat) ∧ y_4.1.2.2.2.1.length = (0 : Nat)) ∧ ((0 : Nat) = (0 : Nat) ∧ (0 : Nat) = (0 : Nat) ∧ y_4.1.2.2.2.2.1.length = (0 : Nat)) ∧ (0 : Int) = y_4.1.2.2.2.2.2.1 ∧ false = y_4.1.2.2.2.2.2.2 ∧ True) ∧ True) ∧ (Is (byts x_3.1) (byts b) ∧ y.2 = y_4.2 ∧ True) ∧ y_4.1.2.2.2.1.length = (0 : Nat) ∧ y_4.1.2.2.2.2.1.length = (0 : Nat) ∧ True) ∧ ∃ x_2 : AX,
 (Rd (137438953472 : Int) x_2.1 x_2.2.1 ∧ x_2.2.1 + (↑(Pl.CB x_2.2.2.2.2.toNat) : Int) ≤ (137438953472 : Int) ∧ Pl.SgB (5 : Nat) (2 : Nat) x_2.2.2.1 ∧ x_2.2.2.2.2 ≤ (4 : Int)) ∧ (((0 : Nat) = (0 : Nat) ∧ (Is (syms s) (syms x_2.2.2.1) ∧ True) ∧ y = x_2.2.2.2.1 ∧ y_1 = x_2.2.2.2.2 ∧ True) ∧ (Is (byts x.1) (byts x_2.1) ∧ x.2.1 + (1 : Int) = x_2.2.1 ∧ True) ∧ True) ∧ ∀ (y_2 : Pl.TP × Int),
 Pl.TmB (Pl.CB x_2.2.2.2.2.toNat) y_2.1 ∧ x_2.2.1 ≤ y_2.2 ∧ y_2.2 ≤ x_2.2.1 + (↑(Pl.CB x_2.2.2.2.2.toNat) : Int) →
 ∃ x : List Int × Int × List Int,
 (Rd (1099511627776 : Int) x.1 x.2.1 ∧ x.2.2 ≠ [] ∧ Sz x.2.2) ∧ (((0 : Nat) = (0 : Nat) ∧ Is (AV.lit (3 : Nat) (1 : Nat) (rowsCell [[i64 (1 : Int)], [i64 (1 : Int)], [i64 (2 : Int)]])) (ints x.2.2) ∧ True) ∧ (Is (byts x_2.1) (byts x.1) ∧ y_2.2 = x.2.1 ∧ True) ∧ True) ∧ ∀ (y_3 : Int),
 y_3 ∈ x.2.2 →
 ∃ x_3 : AX,
 (Rd (137438953472 : Int) x_3.1 x_3.2.1 ∧ x_3.2.1 + (↑(Pl.CB x_3.2.2.2.2.toNat) : Int) ≤ (137438953472 : Int) ∧ Pl.SgB (5 : Nat) (2 : Nat) x_3.2.2.1 ∧ x_3.2.2.2.2 ≤ (4 : Int)) ∧ (((0 : Nat) = (0 : Nat) ∧ (Is (syms s) (syms x_3.2.2.1) ∧ True) ∧ y = x_3.2.2.2.1 ∧ y_3 = x_3.2.2.2.2 ∧ True) ∧ (Is (byts x.1) (byts x_3.1) ∧ x.2.1 + (1 : Int) = x_3.2.1 ∧ True) ∧ True) ∧ ∀ (y : Pl.TP × Int),
 Pl.TmB (Pl.CB x_3.2.2.2.2.toNat) y.1 ∧ x_3.2.1 ≤ y.2 ∧ y.2 ≤ x_3.2.1 + (↑(Pl.CB x_3.2.2.2.2.toNat) : Int) →
 ∃ y_4 : Pl.Atm × Int,
 (Pl.AtB (3 : Nat) y_4.1 ∧ p ≤ y_4.2 ∧ y_4.2 ≤ p + (500 : Int)) ∧ (0 : Nat) + y_2.1.2.length ≤ y_2.1.2.length ∧ (0 : Nat) + y.1.2.length ≤ y.1.2.length ∧ (((1 : Int) = y_4.1.1 ∧ y_2.1.1 = y_4.1.2.1.1 ∧ Is (terms y_2.1.2) (terms y_4.1.2.1.2) ∧ y.1.1 = y_4.1.2.2.1.1 ∧ Is (terms y.1.2) (terms y_4.1.2.2.1.2) ∧ ((0 : Nat) = (0 : Nat) ∧ (0 : Nat) = (0 : Nat) ∧ y_4.1.2.2.2.1.length = (0 : Nat)) ∧ ((0 : Nat) = (0 : Nat) ∧ (0 : Nat) = (0 : Nat) ∧ y_4.1.2.2.2.2.1.length = (0 : Nat)) ∧ (0 : Int) = y_4.1.2.2.2.2.2.1 ∧ false = y_4.1.2.2.2.2.2.2 ∧ True) ∧ True) ∧ (Is (byts x_3.1) (byts b) ∧ y.2 = y_4.2 ∧ True) ∧ y_4.1.2.2.2.1.length = (0 : Nat) ∧ y_4.1.2.2.2.2.1.length = (0 : Nat) ∧ True) ∧ ∃ x : List Int × Int × List Int,
 (Rd (1099511627776 : Int) x.1 x.2.1 ∧ x.2.2 ≠ [] ∧ Sz x.2.2) ∧ (((0 : Nat) = (0 : Nat) ∧ Is (AV.lit (2 : Nat) (1 : Nat) (rowsCell [[i64 (1 : Int)], [i64 (2 : Int)]])) (ints x.2.2) ∧ True) ∧ (Is (byts x_1.1) (byts x.1) ∧ x_1.2.1 + (1 : Int) = x.2.1 ∧ True) ∧ True) ∧ ∀ (y_1 : Int),
 y_1 ∈ x.2.2 →
 ∃ x_2 : AX,
 (Rd (137438953472 : Int) x_2.1 x_2.2.1 ∧ x_2.2.1 + (↑(Pl.CB x_2.2.2.2.2.toNat) : Int) ≤ (137438953472 : Int) ∧ Pl.SgB (5 : Nat) (2 : Nat) x_2.2.2.1 ∧ x_2.2.2.2.2 ≤ (4 : Int)) ∧ (((0 : Nat) = (0 : Nat) ∧ (Is (syms s) (syms x_2.2.2.1) ∧ True) ∧ y = x_2.2.2.2.1 ∧ y_1 = x_2.2.2.2.2 ∧ True) ∧ (Is (byts x.1) (byts x_2.1) ∧ x.2.1 + (1 : Int) = x_2.2.1 ∧ True) ∧ True) ∧ ∀ (y_2 : Pl.TP × Int),
 Pl.TmB (Pl.CB x_2.2.2.2.2.toNat) y_2.1 ∧ x_2.2.1 ≤ y_2.2 ∧ y_2.2 ≤ x_2.2.1 + (↑(Pl.CB x_2.2.2.2.2.toNat) : Int) →
 ∃ x : List Int × Int × List Int,
 (Rd (1099511627776 : Int) x.1 x.2.1 ∧ x.2.2 ≠ [] ∧ Sz x.2.2) ∧ (((0 : Nat) = (0 : Nat) ∧ Is (AV.lit (3 : Nat) (1 : Nat) (rowsCell [[i64 (1 : Int)], [i64 (1 : Int)], [i64 (2 : Int)]])) (ints x.2.2) ∧ True) ∧ (Is (byts x_2.1) (byts x.1) ∧ y_2.2 = x.2.1 ∧ True) ∧ True) ∧ ∀ (y_3 : Int),
 y_3 ∈ x.2.2 →
 ∃ x_3 : AX,
 (Rd (137438953472 : Int) x_3.1 x_3.2.1 ∧ x_3.2.1 + (↑(Pl.CB x_3.2.2.2.2.toNat) : Int) ≤ (137438953472 : Int) ∧ Pl.SgB (5 : Nat) (2 : Nat) x_3.2.2.1 ∧ x_3.2.2.2.2 ≤ (4 : Int)) ∧ (((0 : Nat) = (0 : Nat) ∧ (Is (syms s) (syms x_3.2.2.1) ∧ True) ∧ y = x_3.2.2.2.1 ∧ y_3 = x_3.2.2.2.2 ∧ True) ∧ (Is (byts x.1) (byts x_3.1) ∧ x.2.1 + (1 : Int) = x_3.2.1 ∧ True) ∧ True) ∧ ∀ (y : Pl.TP × Int),
 Pl.TmB (Pl.CB x_3.2.2.2.2.toNat) y.1 ∧ x_3.2.1 ≤ y.2 ∧ y.2 ≤ x_3.2.1 + (↑(Pl.CB x_3.2.2.2.2.toNat) : Int) →
 ∃ y_4 : Pl.Atm × Int,
 (Pl.AtB (3 : Nat) y_4.1 ∧ p ≤ y_4.2 ∧ y_4.2 ≤ p + (500 : Int)) ∧ (0 : Nat) + y_2.1.2.length ≤ y_2.1.2.length ∧ (0 : Nat) + y.1.2.length ≤ y.1.2.length ∧ (((1 : Int) = y_4.1.1 ∧ y_2.1.1 = y_4.1.2.1.1 ∧ Is (terms y_2.1.2) (terms y_4.1.2.1.2) ∧ y.1.1 = y_4.1.2.2.1.1 ∧ Is (terms y.1.2) (terms y_4.1.2.2.1.2) ∧ ((0 : Nat) = (0 : Nat) ∧ (0 : Nat) = (0 : Nat) ∧ y_4.1.2.2.2.1.length = (0 : Nat)) ∧ ((0 : Nat) = (0 : Nat) ∧ (0 : Nat) = (0 : Nat) ∧ y_4.1.2.2.2.2.1.length = (0 : Nat)) ∧ (0 : Int) = y_4.1.2.2.2.2.2.1 ∧ false = y_4.1.2.2.2.2.2.2 ∧ True) ∧ True) ∧ (Is (byts x_3.1) (byts b) ∧ y.2 = y_4.2 ∧ True) ∧ y_4.1.2.2.2.1.length = (0 : Nat) ∧ y_4.1.2.2.2.2.1.length = (0 : Nat) ∧ True) ∧ (∃ x : List Int × Int × List Int,
 (Rd (1099511627776 : Int) x.1 x.2.1 ∧ x.2.2 ≠ [] ∧ Sz x.2.2) ∧ (((0 : Nat) = (0 : Nat) ∧ Is (AV.lit (2 : Nat) (1 : Nat) (rowsCell [[i64 (1 : Int)], [i64 (2 : Int)]])) (ints x.2.2) ∧ True) ∧ (Is (byts x_1.1) (byts x.1) ∧ x_1.2.1 + (1 : Int) = x.2.1 ∧ True) ∧ True) ∧ ∀ (y_1 : Int),
 y_1 ∈ x.2.2 →
 ((∃ x_2 : AX,
 (Rd (137438953472 : Int) x_2.1 x_2.2.1 ∧ x_2.2.1 + (↑(Pl.CB x_2.2.2.2.2.toNat) : Int) ≤ (137438953472 : Int) ∧ Pl.SgB (5 : Nat) (2 : Nat) x_2.2.2.1 ∧ x_2.2.2.2.2 ≤ (4 : Int)) ∧ (((0 : Nat) = (0 : Nat) ∧ (Is (syms s) (syms x_2.2.2.1) ∧ True) ∧ y = x_2.2.2.2.1 ∧ y_1 = x_2.2.2.2.2 ∧ True) ∧ (Is (byts x.1) (byts x_2.1) ∧ x.2.1 + (1 : Int) = x_2.2.1 ∧ True) ∧ True) ∧ ∀ (y_2 : Pl.TP × Int),
 Pl.TmB (Pl.CB x_2.2.2.2.2.toNat) y_2.1 ∧ x_2.2.1 ≤ y_2.2 ∧ y_2.2 ≤ x_2.2.1 + (↑(Pl.CB x_2.2.2.2.2.toNat) : Int) →
 (∃ x : List Int × Int × List Int,
 (Rd (1099511627776 : Int) x.1 x.2.1 ∧ x.2.2 ≠ [] ∧ Sz x.2.2) ∧ (((0 : Nat) = (0 : Nat) ∧ Is (AV.lit (3 : Nat) (1 : Nat) (rowsCell [[i64 (1 : Int)], [i64 (1 : Int)], [i64 (2 : Int)]])) (ints x.2.2) ∧ True) ∧ (Is (byts x_2.1) (byts x.1) ∧ y_2.2 = x.2.1 ∧ True) ∧ True) ∧ ∀ (y_3 : Int),
 y_3 ∈ x.2.2 →
 ∃ x_3 : AX,
 (Rd (137438953472 : Int) x_3.1 x_3.2.1 ∧ x_3.2.1 + (↑(Pl.CB x_3.2.2.2.2.toNat) : Int) ≤ (137438953472 : Int) ∧ Pl.SgB (5 : Nat) (2 : Nat) x_3.2.2.1 ∧ x_3.2.2.2.2 ≤ (4 : Int)) ∧ (((0 : Nat) = (0 : Nat) ∧ (Is (syms s) (syms x_3.2.2.1) ∧ True) ∧ y = x_3.2.2.2.1 ∧ y_3 = x_3.2.2.2.2 ∧ True) ∧ (Is (byts x.1) (byts x_3.1) ∧ x.2.1 + (1 : Int) = x_3.2.1 ∧ True) ∧ True) ∧ ∀ (y : Pl.TP × Int),
 Pl.TmB (Pl.CB x_3.2.2.2.2.toNat) y.1 ∧ x_3.2.1 ≤ y.2 ∧ y.2 ≤ x_3.2.1 + (↑(Pl.CB x_3.2.2.2.2.toNat) : Int) →
 ∃ y_4 : Pl.Atm × Int,
 (Pl.AtB (3 : Nat) y_4.1 ∧ p ≤ y_4.2 ∧ y_4.2 ≤ p + (500 : Int)) ∧ (0 : Nat) + y_2.1.2.length ≤ y_2.1.2.length ∧ (0 : Nat) + y.1.2.length ≤ y.1.2.length ∧ (((1 : Int) = y_4.1.1 ∧ y_2.1.1 = y_4.1.2.1.1 ∧ Is (terms y_2.1.2) (terms y_4.1.2.1.2) ∧ y.1.1 = y_4.1.2.2.1.1 ∧ Is (terms y.1.2) (terms y_4.1.2.2.1.2) ∧ ((0 : Nat) = (0 : Nat) ∧ (0 : Nat) = (0 : Nat) ∧ y_4.1.2.2.2.1.length = (0 : Nat)) ∧ ((0 : Nat) = (0 : Nat) ∧ (0 : Nat) = (0 : Nat) ∧ y_4.1.2.2.2.2.1.length = (0 : Nat)) ∧ (0 : Int) = y_4.1.2.2.2.2.2.1 ∧ false = y_4.1.2.2.2.2.2.2 ∧ True) ∧ True) ∧ (Is (byts x_3.1) (byts b) ∧ y.2 = y_4.2 ∧ True) ∧ y_4.1.2.2.2.1.length = (0 : Nat) ∧ y_4.1.2.2.2.2.1.length = (0 : Nat) ∧ True) ∧ ∃ x : List Int × Int × List Int,
 (Rd (1099511627776 : Int) x.1 x.2.1 ∧ x.2.2 ≠ [] ∧ Sz x.2.2) ∧ (((0 : Nat) = (0 : Nat) ∧ Is (AV.lit (3 : Nat) (1 : Nat) (rowsCell [[i64 (1 : Int)], [i64 (1 : Int)], [i64 (2 : Int)]])) (ints x.2.2) ∧ True) ∧ (Is (byts x_2.1) (byts x.1) ∧ y_2.2 = x.2.1 ∧ True) ∧ True) ∧ ∀ (y_3 : Int),
 y_3 ∈ x.2.2 →
 ∃ x_3 : AX,
 (Rd (137438953472 : Int) x_3.1 x_3.2.1 ∧ x_3.2.1 + (↑(Pl.CB x_3.2.2.2.2.toNat) : Int) ≤ (137438953472 : Int) ∧ Pl.SgB (5 : Nat) (2 : Nat) x_3.2.2.1 ∧ x_3.2.2.2.2 ≤ (4 : Int)) ∧ (((0 : Nat) = (0 : Nat) ∧ (Is (syms s) (syms x_3.2.2.1) ∧ True) ∧ y = x_3.2.2.2.1 ∧ y_3 = x_3.2.2.2.2 ∧ True) ∧ (Is (byts x.1) (byts x_3.1) ∧ x.2.1 + (1 : Int) = x_3.2.1 ∧ True) ∧ True) ∧ ∀ (y : Pl.TP × Int),
 Pl.TmB (Pl.CB x_3.2.2.2.2.toNat) y.1 ∧ x_3.2.1 ≤ y.2 ∧ y.2 ≤ x_3.2.1 + (↑(Pl.CB x_3.2.2.2.2.toNat) : Int) →
 ∃ y_4 : Pl.Atm × Int,
 (Pl.AtB (3 : Nat) y_4.1 ∧ p ≤ y_4.2 ∧ y_4.2 ≤ p + (500 : Int)) ∧ (0 : Nat) + y_2.1.2.length ≤ y_2.1.2.length ∧ (0 : Nat) + y.1.2.length ≤ y.1.2.length ∧ (((1 : Int) = y_4.1.1 ∧ y_2.1.1 = y_4.1.2.1.1 ∧ Is (terms y_2.1.2) (terms y_4.1.2.1.2) ∧ y.1.1 = y_4.1.2.2.1.1 ∧ Is (terms y.1.2) (terms y_4.1.2.2.1.2) ∧ ((0 : Nat) = (0 : Nat) ∧ (0 : Nat) = (0 : Nat) ∧ y_4.1.2.2.2.1.length = (0 : Nat)) ∧ ((0 : Nat) = (0 : Nat) ∧ (0 : Nat) = (0 : Nat) ∧ y_4.1.2.2.2.2.1.length = (0 : Nat)) ∧ (0 : Int) = y_4.1.2.2.2.2.2.1 ∧ false = y_4.1.2.2.2.2.2.2 ∧ True) ∧ True) ∧ (Is (byts x_3.1) (byts b) ∧ y.2 = y_4.2 ∧ True) ∧ y_4.1.2.2.2.1.length = (0 : Nat) ∧ y_4.1.2.2.2.2.1.length = (0 : Nat) ∧ True) ∧ ∃ x_2 : AX,
 (Rd (137438953472 : Int) x_2.1 x_2.2.1 ∧ x_2.2.1 + (↑(Pl.CB x_2.2.2.2.2.toNat) : Int) ≤ (137438953472 : Int) ∧ Pl.SgB (5 : Nat) (2 : Nat) x_2.2.2.1 ∧ x_2.2.2.2.2 ≤ (4 : Int)) ∧ (((0 : Nat) = (0 : Nat) ∧ (Is (syms s) (syms x_2.2.2.1) ∧ True) ∧ y = x_2.2.2.2.1 ∧ y_1 = x_2.2.2.2.2 ∧ True) ∧ (Is (byts x.1) (byts x_2.1) ∧ x.2.1 + (1 : Int) = x_2.2.1 ∧ True) ∧ True) ∧ ∀ (y_2 : Pl.TP × Int),
 Pl.TmB (Pl.CB x_2.2.2.2.2.toNat) y_2.1 ∧ x_2.2.1 ≤ y_2.2 ∧ y_2.2 ≤ x_2.2.1 + (↑(Pl.CB x_2.2.2.2.2.toNat) : Int) →
 ∃ x : List Int × Int × List Int,
 (Rd (1099511627776 : Int) x.1 x.2.1 ∧ x.2.2 ≠ [] ∧ Sz x.2.2) ∧ (((0 : Nat) = (0 : Nat) ∧ Is (AV.lit (3 : Nat) (1 : Nat) (rowsCell [[i64 (1 : Int)], [i64 (1 : Int)], [i64 (2 : Int)]])) (ints x.2.2) ∧ True) ∧ (Is (byts x_2.1) (byts x.1) ∧ y_2.2 = x.2.1 ∧ True) ∧ True) ∧ ∀ (y_3 : Int),
 y_3 ∈ x.2.2 →
 ∃ x_3 : AX,
 (Rd (137438953472 : Int) x_3.1 x_3.2.1 ∧ x_3.2.1 + (↑(Pl.CB x_3.2.2.2.2.toNat) : Int) ≤ (137438953472 : Int) ∧ Pl.SgB (5 : Nat) (2 : Nat) x_3.2.2.1 ∧ x_3.2.2.2.2 ≤ (4 : Int)) ∧ (((0 : Nat) = (0 : Nat) ∧ (Is (syms s) (syms x_3.2.2.1) ∧ True) ∧ y = x_3.2.2.2.1 ∧ y_3 = x_3.2.2.2.2 ∧ True) ∧ (Is (byts x.1) (byts x_3.1) ∧ x.2.1 + (1 : Int) = x_3.2.1 ∧ True) ∧ True) ∧ ∀ (y : Pl.TP × Int),
 Pl.TmB (Pl.CB x_3.2.2.2.2.toNat) y.1 ∧ x_3.2.1 ≤ y.2 ∧ y.2 ≤ x_3.2.1 + (↑(Pl.CB x_3.2.2.2.2.toNat) : Int) →
 ∃ y_4 : Pl.Atm × Int,
 (Pl.AtB (3 : Nat) y_4.1 ∧ p ≤ y_4.2 ∧ y_4.2 ≤ p + (500 : Int)) ∧ (0 : Nat) + y_2.1.2.length ≤ y_2.1.2.length ∧ (0 : Nat) + y.1.2.length ≤ y.1.2.length ∧ (((1 : Int) = y_4.1.1 ∧ y_2.1.1 = y_4.1.2.1.1 ∧ Is (terms y_2.1.2) (terms y_4.1.2.1.2) ∧ y.1.1 = y_4.1.2.2.1.1 ∧ Is (terms y.1.2) (terms y_4.1.2.2.1.2) ∧ ((0 : Nat) = (0 : Nat) ∧ (0 : Nat) = (0 : Nat) ∧ y_4.1.2.2.2.1.length = (0 : Nat)) ∧ ((0 : Nat) = (0 : Nat) ∧ (0 : Nat) = (0 : Nat) ∧ y_4.1.2.2.2.2.1.length = (0 : Nat)) ∧ (0 : Int) = y_4.1.2.2.2.2.2.1 ∧ false = y_4.1.2.2.2.2.2.2 ∧ True) ∧ True) ∧ (Is (byts x_3.1) (byts b) ∧ y.2 = y_4.2 ∧ True) ∧ y_4.1.2.2.2.1.length = (0 : Nat) ∧ y_4.1.2.2.2.2.1.length = (0 : Nat) ∧ True) ∧ ∃ x_2 : AX,
 (Rd (137438953472 : Int) x_2.1 x_2.2.1 ∧ x_2.2.1 + (↑(Pl.CB x_2.2.2.2.2.toNat) : Int) ≤ (137438953472 : Int) ∧ Pl.SgB (5 : Nat) (2 : Nat) x_2.2.2.1 ∧ x_2.2.2.2.2 ≤ (4 : Int)) ∧ (((0 : Nat) = (0 : Nat) ∧ (Is (syms s) (syms x_2.2.2.1) ∧ True) ∧ y = x_2.2.2.2.1 ∧ y_1 = x_2.2.2.2.2 ∧ True) ∧ (Is (byts x.1) (byts x_2.1) ∧ x.2.1 + (1 : Int) = x_2.2.1 ∧ True) ∧ True) ∧ ∀ (y_2 : Pl.TP × Int),
 Pl.TmB (Pl.CB x_2.2.2.2.2.toNat) y_2.1 ∧ x_2.2.1 ≤ y_2.2 ∧ y_2.2 ≤ x_2.2.1 + (↑(Pl.CB x_2.2.2.2.2.toNat) : Int) →
 ∃ x : List Int × Int × List Int,
 (Rd (1099511627776 : Int) x.1 x.2.1 ∧ x.2.2 ≠ [] ∧ Sz x.2.2) ∧ (((0 : Nat) = (0 : Nat) ∧ Is (AV.lit (3 : Nat) (1 : Nat) (rowsCell [[i64 (1 : Int)], [i64 (1 : Int)], [i64 (2 : Int)]])) (ints x.2.2) ∧ True) ∧ (Is (byts x_2.1) (byts x.1) ∧ y_2.2 = x.2.1 ∧ True) ∧ True) ∧ ∀ (y_3 : Int),
 y_3 ∈ x.2.2 →
 ∃ x_3 : AX,
 (Rd (137438953472 : Int) x_3.1 x_3.2.1 ∧ x_3.2.1 + (↑(Pl.CB x_3.2.2.2.2.toNat) : Int) ≤ (137438953472 : Int) ∧ Pl.SgB (5 : Nat) (2 : Nat) x_3.2.2.1 ∧ x_3.2.2.2.2 ≤ (4 : Int)) ∧ (((0 : Nat) = (0 : Nat) ∧ (Is (syms s) (syms x_3.2.2.1) ∧ True) ∧ y = x_3.2.2.2.1 ∧ y_3 = x_3.2.2.2.2 ∧ True) ∧ (Is (byts x.1) (byts x_3.1) ∧ x.2.1 + (1 : Int) = x_3.2.1 ∧ True) ∧ True) ∧ ∀ (y : Pl.TP × Int),
 Pl.TmB (Pl.CB x_3.2.2.2.2.toNat) y.1 ∧ x_3.2.1 ≤ y.2 ∧ y.2 ≤ x_3.2.1 + (↑(Pl.CB x_3.2.2.2.2.toNat) : Int) →
 ∃ y_4 : Pl.Atm × Int,
 (Pl.AtB (3 : Nat) y_4.1 ∧ p ≤ y_4.2 ∧ y_4.2 ≤ p + (500 : Int)) ∧ (0 : Nat) + y_2.1.2.length ≤ y_2.1.2.length ∧ (0 : Nat) + y.1.2.length ≤ y.1.2.length ∧ (((1 : Int) = y_4.1.1 ∧ y_2.1.1 = y_4.1.2.1.1 ∧ Is (terms y_2.1.2) (terms y_4.1.2.1.2) ∧ y.1.1 = y_4.1.2.2.1.1 ∧ Is (terms y.1.2) (terms y_4.1.2.2.1.2) ∧ ((0 : Nat) = (0 : Nat) ∧ (0 : Nat) = (0 : Nat) ∧ y_4.1.2.2.2.1.length = (0 : Nat)) ∧ ((0 : Nat) = (0 : Nat) ∧ (0 : Nat) = (0 : Nat) ∧ y_4.1.2.2.2.2.1.length = (0 : Nat)) ∧ (0 : Int) = y_4.1.2.2.2.2.2.1 ∧ false = y_4.1.2.2.2.2.2.2 ∧ True) ∧ True) ∧ (Is (byts x_3.1) (byts b) ∧ y.2 = y_4.2 ∧ True) ∧ y_4.1.2.2.2.1.length = (0 : Nat) ∧ y_4.1.2.2.2.2.1.length = (0 : Nat) ∧ True) ∧ (∃ x : List Int × Int × List Int,
 (Rd (1099511627776 : Int) x.1 x.2.1 ∧ x.2.2 ≠ [] ∧ Sz x.2.2) ∧ (((0 : Nat) = (0 : Nat) ∧ Is (AV.lit (2 : Nat) (1 : Nat) (rowsCell [[i64 (1 : Int)], [i64 (2 : Int)]])) (ints x.2.2) ∧ True) ∧ (Is (byts x_1.1) (byts x.1) ∧ x_1.2.1 + (1 : Int) = x.2.1 ∧ True) ∧ True) ∧ ∀ (y_1 : Int),
 y_1 ∈ x.2.2 →
 ∃ x_2 : AX,
 (Rd (137438953472 : Int) x_2.1 x_2.2.1 ∧ x_2.2.1 + (↑(Pl.CB x_2.2.2.2.2.toNat) : Int) ≤ (137438953472 : Int) ∧ Pl.SgB (5 : Nat) (2 : Nat) x_2.2.2.1 ∧ x_2.2.2.2.2 ≤ (4 : Int)) ∧ (((0 : Nat) = (0 : Nat) ∧ (Is (syms s) (syms x_2.2.2.1) ∧ True) ∧ y = x_2.2.2.2.1 ∧ y_1 = x_2.2.2.2.2 ∧ True) ∧ (Is (byts x.1) (byts x_2.1) ∧ x.2.1 + (1 : Int) = x_2.2.1 ∧ True) ∧ True) ∧ ∀ (y_2 : Pl.TP × Int),
 Pl.TmB (Pl.CB x_2.2.2.2.2.toNat) y_2.1 ∧ x_2.2.1 ≤ y_2.2 ∧ y_2.2 ≤ x_2.2.1 + (↑(Pl.CB x_2.2.2.2.2.toNat) : Int) →
 ∃ x : List Int × Int × List Int,
 (Rd (1099511627776 : Int) x.1 x.2.1 ∧ x.2.2 ≠ [] ∧ Sz x.2.2) ∧ (((0 : Nat) = (0 : Nat) ∧ Is (AV.lit (3 : Nat) (1 : Nat) (rowsCell [[i64 (1 : Int)], [i64 (1 : Int)], [i64 (2 : Int)]])) (ints x.2.2) ∧ True) ∧ (Is (byts x_2.1) (byts x.1) ∧ y_2.2 = x.2.1 ∧ True) ∧ True) ∧ ∀ (y_3 : Int),
 y_3 ∈ x.2.2 →
 ∃ x_3 : AX,
 (Rd (137438953472 : Int) x_3.1 x_3.2.1 ∧ x_3.2.1 + (↑(Pl.CB x_3.2.2.2.2.toNat) : Int) ≤ (137438953472 : Int) ∧ Pl.SgB (5 : Nat) (2 : Nat) x_3.2.2.1 ∧ x_3.2.2.2.2 ≤ (4 : Int)) ∧ (((0 : Nat) = (0 : Nat) ∧ (Is (syms s) (syms x_3.2.2.1) ∧ True) ∧ y = x_3.2.2.2.1 ∧ y_3 = x_3.2.2.2.2 ∧ True) ∧ (Is (byts x.1) (byts x_3.1) ∧ x.2.1 + (1 : Int) = x_3.2.1 ∧ True) ∧ True) ∧ ∀ (y : Pl.TP × Int),
 Pl.TmB (Pl.CB x_3.2.2.2.2.toNat) y.1 ∧ x_3.2.1 ≤ y.2 ∧ y.2 ≤ x_3.2.1 + (↑(Pl.CB x_3.2.2.2.2.toNat) : Int) →
 ∃ y_4 : Pl.Atm × Int,
 (Pl.AtB (3 : Nat) y_4.1 ∧ p ≤ y_4.2 ∧ y_4.2 ≤ p + (500 : Int)) ∧ (0 : Nat) + y_2.1.2.length ≤ y_2.1.2.length ∧ (0 : Nat) + y.1.2.length ≤ y.1.2.length ∧ (((1 : Int) = y_4.1.1 ∧ y_2.1.1 = y_4.1.2.1.1 ∧ Is (terms y_2.1.2) (terms y_4.1.2.1.2) ∧ y.1.1 = y_4.1.2.2.1.1 ∧ Is (terms y.1.2) (terms y_4.1.2.2.1.2) ∧ ((0 : Nat) = (0 : Nat) ∧ (0 : Nat) = (0 : Nat) ∧ y_4.1.2.2.2.1.length = (0 : Nat)) ∧ ((0 : Nat) = (0 : Nat) ∧ (0 : Nat) = (0 : Nat) ∧ y_4.1.2.2.2.2.1.length = (0 : Nat)) ∧ (0 : Int) = y_4.1.2.2.2.2.2.1 ∧ false = y_4.1.2.2.2.2.2.2 ∧ True) ∧ True) ∧ (Is (byts x_3.1) (byts b) ∧ y.2 = y_4.2 ∧ True) ∧ y_4.1.2.2.2.1.length = (0 : Nat) ∧ y_4.1.2.2.2.2.1.length = (0 : Nat) ∧ True) ∧ ∃ x : List Int × Int × List Int,
 (Rd (1099511627776 : Int) x.1 x.2.1 ∧ x.2.2 ≠ [] ∧ Sz x.2.2) ∧ (((0 : Nat) = (0 : Nat) ∧ Is (AV.lit (2 : Nat) (1 : Nat) (rowsCell [[i64 (1 : Int)], [i64 (2 : Int)]])) (ints x.2.2) ∧ True) ∧ (Is (byts x_1.1) (byts x.1) ∧ x_1.2.1 + (1 : Int) = x.2.1 ∧ True) ∧ True) ∧ ∀ (y_1 : Int),
 y_1 ∈ x.2.2 →
 ∃ x_2 : AX,
 (Rd (137438953472 : Int) x_2.1 x_2.2.1 ∧ x_2.2.1 + (↑(Pl.CB x_2.2.2.2.2.toNat) : Int) ≤ (137438953472 : Int) ∧ Pl.SgB (5 : Nat) (2 : Nat) x_2.2.2.1 ∧ x_2.2.2.2.2 ≤ (4 : Int)) ∧ (((0 : Nat) = (0 : Nat) ∧ (Is (syms s) (syms x_2.2.2.1) ∧ True) ∧ y = x_2.2.2.2.1 ∧ y_1 = x_2.2.2.2.2 ∧ True) ∧ (Is (byts x.1) (byts x_2.1) ∧ x.2.1 + (1 : Int) = x_2.2.1 ∧ True) ∧ True) ∧ ∀ (y_2 : Pl.TP × Int),
 Pl.TmB (Pl.CB x_2.2.2.2.2.toNat) y_2.1 ∧ x_2.2.1 ≤ y_2.2 ∧ y_2.2 ≤ x_2.2.1 + (↑(Pl.CB x_2.2.2.2.2.toNat) : Int) →
 ∃ x : List Int × Int × List Int,
 (Rd (1099511627776 : Int) x.1 x.2.1 ∧ x.2.2 ≠ [] ∧ Sz x.2.2) ∧ (((0 : Nat) = (0 : Nat) ∧ Is (AV.lit (3 : Nat) (1 : Nat) (rowsCell [[i64 (1 : Int)], [i64 (1 : Int)], [i64 (2 : Int)]])) (ints x.2.2) ∧ True) ∧ (Is (byts x_2.1) (byts x.1) ∧ y_2.2 = x.2.1 ∧ True) ∧ True) ∧ ∀ (y_3 : Int),
 y_3 ∈ x.2.2 →
 ∃ x_3 : AX,
 (Rd (137438953472 : Int) x_3.1 x_3.2.1 ∧ x_3.2.1 + (↑(Pl.CB x_3.2.2.2.2.toNat) : Int) ≤ (137438953472 : Int) ∧ Pl.SgB (5 : Nat) (2 : Nat) x_3.2.2.1 ∧ x_3.2.2.2.2 ≤ (4 : Int)) ∧ (((0 : Nat) = (0 : Nat) ∧ (Is (syms s) (syms x_3.2.2.1) ∧ True) ∧ y = x_3.2.2.2.1 ∧ y_3 = x_3.2.2.2.2 ∧ True) ∧ (Is (byts x.1) (byts x_3.1) ∧ x.2.1 + (1 : Int) = x_3.2.1 ∧ True) ∧ True) ∧ ∀ (y : Pl.TP × Int),
 Pl.TmB (Pl.CB x_3.2.2.2.2.toNat) y.1 ∧ x_3.2.1 ≤ y.2 ∧ y.2 ≤ x_3.2.1 + (↑(Pl.CB x_3.2.2.2.2.toNat) : Int) →
 ∃ y_4 : Pl.Atm × Int,
 (Pl.AtB (3 : Nat) y_4.1 ∧ p ≤ y_4.2 ∧ y_4.2 ≤ p + (500 : Int)) ∧ (0 : Nat) + y_2.1.2.length ≤ y_2.1.2.length ∧ (0 : Nat) + y.1.2.length ≤ y.1.2.length ∧ (((1 : Int) = y_4.1.1 ∧ y_2.1.1 = y_4.1.2.1.1 ∧ Is (terms y_2.1.2) (terms y_4.1.2.1.2) ∧ y.1.1 = y_4.1.2.2.1.1 ∧ Is (terms y.1.2) (terms y_4.1.2.2.1.2) ∧ ((0 : Nat) = (0 : Nat) ∧ (0 : Nat) = (0 : Nat) ∧ y_4.1.2.2.2.1.length = (0 : Nat)) ∧ ((0 : Nat) = (0 : Nat) ∧ (0 : Nat) = (0 : Nat) ∧ y_4.1.2.2.2.2.1.length = (0 : Nat)) ∧ (0 : Int) = y_4.1.2.2.2.2.2.1 ∧ false = y_4.1.2.2.2.2.2.2 ∧ True) ∧ True) ∧ (Is (byts x_3.1) (byts b) ∧ y.2 = y_4.2 ∧ True) ∧ y_4.1.2.2.2.1.length = (0 : Nat) ∧ y_4.1.2.2.2.2.1.length = (0 : Nat) ∧ True)
 (∃ x_1 : List Int × Int × List Int,
 (Rd (1099511627776 : Int) x_1.1 x_1.2.1 ∧ x_1.2.2 ≠ [] ∧ Sz x_1.2.2) ∧ (((0 : Nat) = (0 : Nat) ∧ Is (AV.lit (6 : Nat) (1 : Nat) (rowsCell [[i64 (0 : Int)], [i64 (1 : Int)], [i64 (-1 : Int)], [i64 (2 : Int)], [i64 (3 : Int)], [i64 (-4 : Int)]]))
 (ints x_1.2.2) ∧ True) ∧ (Is (byts x.1) (byts x_1.1) ∧ x.2.1 + (1 : Int) = x_1.2.1 ∧ True) ∧ True) ∧ ∀ (y : Int),
 y ∈ x_1.2.2 →
 ∃ x : List Int × Int × Int,
 Rd (1099511627776 : Int) x.1 x.2.1 ∧ (((0 : Nat) = (0 : Nat) ∧ (3 : Int) = x.2.2 ∧ True) ∧ (Is (byts x_1.1) (byts x.1) ∧ x_1.2.1 + (1 : Int) = x.2.1 ∧ True) ∧ True) ∧ ∀ (y_1 : Int),
 ((1 : Int) ≤ x.2.2 → (0 : Int) ≤ y_1 ∧ y_1 < x.2.2) ∧ (x.2.2 < (1 : Int) → y_1 = (0 : Int)) →
 ∃ x_2 : List Int × Int × List Int,
 (Rd (1099511627776 : Int) x_2.1 x_2.2.1 ∧ x_2.2.2 ≠ [] ∧ Sz x_2.2.2) ∧ (((0 : Nat) = (0 : Nat) ∧ Is (AV.lit (4 : Nat) (1 : Nat) (rowsCell [[i64 (1 : Int)], [i64 (2 : Int)], [i64 (2 : Int)], [i64 (3 : Int)]])) (ints x_2.2.2) ∧ True) ∧ (Is (byts x.1) (byts x_2.1) ∧ x.2.1 + (1 : Int) = x_2.2.1 ∧ True) ∧ True) ∧ ∀ (y_2 : Int),
 y_2 ∈ x_2.2.2 →
 (∃ x : Int × List Pl.Tm × List Int × Int × Bool × Int,
 ((0 : Int) ≤ x.1 ∧ x.1 ≤ (3 : Int) ∧ (↑x.2.1.length : Int) + x.1 ≤ (3 : Int) ∧ x.2.2.1.length = x.2.1.length ∧ (∀ (t : Pl.Tm), t ∈ x.2.1 → Pl.costT t ≤ (400 : Nat)) ∧ p ≤ x.2.2.2.2.2 ∧ x.2.2.2.2.2 + (100 : Int) * x.1 ≤ p + (310 : Int)) ∧ ((0 : Nat) = (0 : Nat) ∧ (0 : Nat) = (0 : Nat) ∧ (0 : Nat) = (0 : Nat) ∧ (0 : Nat) = (0 : Nat) ∧ y_2 = x.1 ∧ True) ∧ (Is (byts x_2.1) (byts b) ∧ x_2.2.1 + (1 : Int) = x.2.2.2.2.2 ∧ True) ∧ (Is (syms s) (syms s) ∧ True) ∧ ((0 : Int) = (0 : Int) ∧ ByteArray.mk #[] = ByteArray.empty ∧ Is (AV.lit (0 : Nat) (1 : Nat) fun (x x_3 : Nat) => AV.any) nilA ∧ ByteArray.mk #[] = ByteArray.empty ∧ Is (AV.lit (0 : Nat) (1 : Nat) fun (x x_3 : Nat) => AV.any) nilA ∧ Is (AV.lit (0 : Nat) (1 : Nat) fun (x x_3 : Nat) => AV.any) nilA ∧ Is (AV.lit (0 : Nat) (1 : Nat) fun (x x_3 : Nat) => AV.any) nilA ∧ (0 : Int) = (0 : Int) ∧ false = false ∧ True) ∧ ((2 : Int) = (2 : Int) ∧ ByteArray.mk #[] = ByteArray.empty ∧ Is (AV.lit (0 : Nat) (1 : Nat) fun (x x_3 : Nat) => AV.any) (terms []) ∧ ByteArray.mk #[] = ByteArray.empty ∧ Is (AV.lit (0 : Nat) (1 : Nat) fun (x x_3 : Nat) => AV.any) (terms []) ∧ ((0 : Nat) = (0 : Nat) ∧ (0 : Nat) = (0 : Nat) ∧ x.2.1.length = (0 : Nat)) ∧ ((0 : Nat) = (0 : Nat) ∧ (0 : Nat) = (0 : Nat) ∧ x.2.2.1.length = (0 : Nat)) ∧ y = x.2.2.2.1 ∧ (y_1 == (0 : Int)) = x.2.2.2.2.1 ∧ True) ∧ x.2.1.length = (0 : Nat) ∧ x.2.2.1.length = (0 : Nat) ∧ True) ∧ ∀ (x : Int × List Pl.Tm × List Int × Int × Bool × Int),
 (0 : Int) ≤ x.1 ∧ x.1 ≤ (3 : Int) ∧ (↑x.2.1.length : Int) + x.1 ≤ (3 : Int) ∧ x.2.2.1.length = x.2.1.length ∧ (∀ (t : Pl.Tm), t ∈ x.2.1 → Pl.costT t ≤ (400 : Nat)) ∧ p ≤ x.2.2.2.2.2 ∧ x.2.2.2.2.2 + (100 : Int) * x.1 ≤ p + (310 : Int) →
 condP (decide (x.1 > (0 : Int)))
 (((∃ x_3 : List Int × Int × List Int,
 (Rd (1099511627776 : Int) x_3.1 x_3.2.1 ∧ x_3.2.2 ≠ [] ∧ Sz x_3.2.2) ∧ (((0 : Nat) = (0 : Nat) ∧ Is (AV.lit (3 : Nat) (1 : Nat) (rowsCell [[i64 (1 : Int)], [i64 (1 : Int)], [i64 (2 : Int)]])) (ints x_3.2.2) ∧ True) ∧ (Is (byts b) (byts x_3.1) ∧ x.2.2.2.2.2 = x_3.2.1 ∧ True) ∧ True) ∧ ∀ (y : Int),
 y ∈ x_3.2.2 →
 ∃ x_4 : AX,
 (Rd (137438953472 : Int) x_4.1 x_4.2.1 ∧ x_4.2.1 + (↑(Pl.CB x_4.2.2.2.2.toNat) : Int) ≤ (137438953472 : Int) ∧ Pl.SgB (5 : Nat) (2 : Nat) x_4.2.2.1 ∧ x_4.2.2.2.2 ≤ (4 : Int)) ∧ (((0 : Nat) = (0 : Nat) ∧ (Is (syms s) (syms x_4.2.2.1) ∧ True) ∧ (1 : Int) = x_4.2.2.2.1 ∧ y = x_4.2.2.2.2 ∧ True) ∧ (Is (byts x_3.1) (byts x_4.1) ∧ x_3.2.1 + (1 : Int) = x_4.2.1 ∧ True) ∧ True) ∧ ∀ (y : Pl.TP × Int),
 Pl.TmB (Pl.CB x_4.2.2.2.2.toNat) y.1 ∧ x_4.2.1 ≤ y.2 ∧ y.2 ≤ x_4.2.1 + (↑(Pl.CB x_4.2.2.2.2.toNat) : Int) →
 ∃ x_5 : List Int × Int × List Int,
 (Rd (1099511627776 : Int) x_5.1 x_5.2.1 ∧ x_5.2.2 ≠ [] ∧ Sz x_5.2.2) ∧ (((0 : Nat) = (0 : Nat) ∧ Is
 (AV.lit (6 : Nat) (1 : Nat)
 (rowsCell
 [[i64 (1 : Int)], [i64 (-1 : Int)], [i64 (1 : Int)], [i64 (-1 : Int)], [i64 (2 : Int)],
 [i64 (-2 : Int)]]))
 (ints x_5.2.2) ∧ True) ∧ (Is (byts x_4.1) (byts x_5.1) ∧ y.2 = x_5.2.1 ∧ True) ∧ True) ∧ ∀ (y_3 : Int),
 y_3 ∈ x_5.2.2 →
 (0 : Nat) + x.2.1.length ≤ x.2.1.length ∧ (0 : Nat) + x.2.2.1.length ≤ x.2.2.1.length ∧ (0 : Nat) + y.1.2.length ≤ y.1.2.length ∧ ∃ x_6 : Pl.Atm × Pl.TP × Int,
 (SmA x_6.1 ∧ SmT (Pl.Tree.mk x_6.2.1.1 x_6.2.1.2) ∧ x_6.1.2.2.2.1.length ≤ (100 : Nat) ∧ x_6.1.2.2.2.2.1.length = x_6.1.2.2.2.1.length) ∧ ((((2 : Int) = x_6.1.1 ∧ ByteArray.empty = x_6.1.2.1.1 ∧ Is
 (AV.sl ((0 : Nat)) (2 : Nat) fun (i j : Nat) => eT (Pl.Tree.mk ByteArray.empty []) j)
 (terms x_6.1.2.1.2) ∧ ByteArray.empty = x_6.1.2.2.1.1 ∧ Is
 (AV.sl ((0 : Nat)) (2 : Nat) fun (i j : Nat) =>
 eT (Pl.Tree.mk ByteArray.empty []) j)
 (terms x_6.1.2.2.1.2) ∧ Is (terms x.2.1) (terms x_6.1.2.2.2.1) ∧ Is (ints x.2.2.1) (ints x_6.1.2.2.2.2.1) ∧ x.2.2.2.1 = x_6.1.2.2.2.2.2.1 ∧ x.2.2.2.2.1 = x_6.1.2.2.2.2.2.2 ∧ True) ∧ (y.1.1 = x_6.2.1.1 ∧ Is (terms y.1.2) (terms x_6.2.1.2) ∧ True) ∧ y_3 = x_6.2.2 ∧ True) ∧ True) ∧ ∀ (y : List Pl.Tm × List Int),
 Pl.PutB x_6.1.2.2.2.1 (Pl.Tree.mk x_6.2.1.1 x_6.2.1.2)
 (x_6.1.2.2.2.1.length + (1 : Nat)) y.1 y.2 →
 Exists fun (x' : Int × List Pl.Tm × List Int × Int × Bool × Int) =>
 ((0 : Int) ≤ x'.1 ∧ x'.1 ≤ (3 : Int) ∧ (↑x'.2.1.length : Int) + x'.1 ≤ (3 : Int) ∧ x'.2.2.1.length = x'.2.1.length ∧ (∀ (t : Pl.Tm), t ∈ x'.2.1 → Pl.costT t ≤ (400 : Nat)) ∧ p ≤ x'.2.2.2.2.2 ∧ x'.2.2.2.2.2 + (100 : Int) * x'.1 ≤ p + (310 : Int)) ∧ x'.1.toNat < x.1.toNat ∧ ((0 : Nat) = (0 : Nat) ∧ (0 : Nat) = (0 : Nat) ∧ (0 : Nat) = (0 : Nat) ∧ (0 : Nat) = (0 : Nat) ∧ IntKind.i64.wrap (x.1 - (1 : Int)) = x'.1 ∧ True) ∧ (Is (byts x_5.1) (byts b) ∧ x_5.2.1 + (1 : Int) = x'.2.2.2.2.2 ∧ True) ∧ (Is (syms s) (syms s) ∧ True) ∧ ((0 : Int) = (0 : Int) ∧ ByteArray.empty = ByteArray.empty ∧ Is (AV.lit (0 : Nat) (1 : Nat) fun (x x_7 : Nat) => AV.any) nilA ∧ ByteArray.empty = ByteArray.empty ∧ Is (AV.lit (0 : Nat) (1 : Nat) fun (x x_7 : Nat) => AV.any) nilA ∧ Is (AV.lit (0 : Nat) (1 : Nat) fun (x x_7 : Nat) => AV.any)
 nilA ∧ Is (AV.lit (0 : Nat) (1 : Nat) fun (x x_7 : Nat) => AV.any)
 nilA ∧ (0 : Int) = (0 : Int) ∧ false = false ∧ True) ∧ ((x_6.1.1, Pl.noTP, Pl.noTP, y.1, y.2, x_6.1.2.2.2.2.2.1,
 x_6.1.2.2.2.2.2.2).1 =
 (2 : Int) ∧ ByteArray.mk #[] = ByteArray.empty ∧ Is
 (AV.sl ((0 : Nat)) (2 : Nat) fun (i j : Nat) =>
 eT (Pl.Tree.mk ByteArray.empty []) j)
 (terms []) ∧ ByteArray.mk #[] = ByteArray.empty ∧ Is
 (AV.sl ((0 : Nat)) (2 : Nat) fun (i j : Nat) =>
 eT (Pl.Tree.mk ByteArray.empty []) j)
 (terms []) ∧ ((0 : Nat) = (0 : Nat) ∧ (y.1, y.2, x_6.1.2.2.2.2.2.1,
 x_6.1.2.2.2.2.2.2).1.length =
 x'.2.1.length) ∧ ((0 : Nat) = (0 : Nat) ∧ (y.2, x_6.1.2.2.2.2.2.1,
 x_6.1.2.2.2.2.2.2).1.length =
 x'.2.2.1.length) ∧ (x_6.1.2.2.2.2.2.1,
 x_6.1.2.2.2.2.2.2).1 =
 x'.2.2.2.1 ∧ (x_6.1.2.2.2.2.2.1,
 x_6.1.2.2.2.2.2.2).2 =
 x'.2.2.2.2.1 ∧ True) ∧ IsO (arT y.1) (arT x'.2.1) ∧ IsO (arI y.2) (arI x'.2.2.1) ∧ True) ∧ ∃ x_3 : List Int × Int × List Int,
 (Rd (1099511627776 : Int) x_3.1 x_3.2.1 ∧ x_3.2.2 ≠ [] ∧ Sz x_3.2.2) ∧ (((0 : Nat) = (0 : Nat) ∧ Is (AV.lit (3 : Nat) (1 : Nat) (rowsCell [[i64 (1 : Int)], [i64 (1 : Int)], [i64 (2 : Int)]])) (ints x_3.2.2) ∧ True) ∧ (Is (byts b) (byts x_3.1) ∧ x.2.2.2.2.2 = x_3.2.1 ∧ True) ∧ True) ∧ ∀ (y : Int),
 y ∈ x_3.2.2 →
 ∃ x_4 : AX,
 (Rd (137438953472 : Int) x_4.1 x_4.2.1 ∧ x_4.2.1 + (↑(Pl.CB x_4.2.2.2.2.toNat) : Int) ≤ (137438953472 : Int) ∧ Pl.SgB (5 : Nat) (2 : Nat) x_4.2.2.1 ∧ x_4.2.2.2.2 ≤ (4 : Int)) ∧ (((0 : Nat) = (0 : Nat) ∧ (Is (syms s) (syms x_4.2.2.1) ∧ True) ∧ (1 : Int) = x_4.2.2.2.1 ∧ y = x_4.2.2.2.2 ∧ True) ∧ (Is (byts x_3.1) (byts x_4.1) ∧ x_3.2.1 + (1 : Int) = x_4.2.1 ∧ True) ∧ True) ∧ ∀ (y : Pl.TP × Int),
 Pl.TmB (Pl.CB x_4.2.2.2.2.toNat) y.1 ∧ x_4.2.1 ≤ y.2 ∧ y.2 ≤ x_4.2.1 + (↑(Pl.CB x_4.2.2.2.2.toNat) : Int) →
 ∃ x_5 : List Int × Int × List Int,
 (Rd (1099511627776 : Int) x_5.1 x_5.2.1 ∧ x_5.2.2 ≠ [] ∧ Sz x_5.2.2) ∧ (((0 : Nat) = (0 : Nat) ∧ Is
 (AV.lit (6 : Nat) (1 : Nat)
 (rowsCell
 [[i64 (1 : Int)], [i64 (-1 : Int)], [i64 (1 : Int)], [i64 (-1 : Int)], [i64 (2 : Int)],
 [i64 (-2 : Int)]]))
 (ints x_5.2.2) ∧ True) ∧ (Is (byts x_4.1) (byts x_5.1) ∧ y.2 = x_5.2.1 ∧ True) ∧ True) ∧ ∀ (y_3 : Int),
 y_3 ∈ x_5.2.2 →
 (0 : Nat) + x.2.1.length ≤ x.2.1.length ∧ (0 : Nat) + x.2.2.1.length ≤ x.2.2.1.length ∧ (0 : Nat) + y.1.2.length ≤ y.1.2.length ∧ ∃ x_6 : Pl.Atm × Pl.TP × Int,
 (SmA x_6.1 ∧ SmT (Pl.Tree.mk x_6.2.1.1 x_6.2.1.2) ∧ x_6.1.2.2.2.1.length ≤ (100 : Nat) ∧ x_6.1.2.2.2.2.1.length = x_6.1.2.2.2.1.length) ∧ ((((2 : Int) = x_6.1.1 ∧ ByteArray.empty = x_6.1.2.1.1 ∧ Is
 (AV.sl ((0 : Nat)) (2 : Nat) fun (i j : Nat) => eT (Pl.Tree.mk ByteArray.empty []) j)
 (terms x_6.1.2.1.2) ∧ ByteArray.empty = x_6.1.2.2.1.1 ∧ Is
 (AV.sl ((0 : Nat)) (2 : Nat) fun (i j : Nat) =>
 eT (Pl.Tree.mk ByteArray.empty []) j)
 (terms x_6.1.2.2.1.2) ∧ Is (terms x.2.1) (terms x_6.1.2.2.2.1) ∧ Is (ints x.2.2.1) (ints x_6.1.2.2.2.2.1) ∧ x.2.2.2.1 = x_6.1.2.2.2.2.2.1 ∧ x.2.2.2.2.1 = x_6.1.2.2.2.2.2.2 ∧ True) ∧ (y.1.1 = x_6.2.1.1 ∧ Is (terms y.1.2) (terms x_6.2.1.2) ∧ True) ∧ y_3 = x_6.2.2 ∧ True) ∧ True) ∧ ∀ (y : List Pl.Tm × List Int),
 Pl.PutB x_6.1.2.2.2.1 (Pl.Tree.mk x_6.2.1.1 x_6.2.1.2)
 (x_6.1.2.2.2.1.length + (1 : Nat)) y.1 y.2 →
 Exists fun (x' : Int × List Pl.Tm × List Int × Int × Bool × Int) =>
 ((0 : Int) ≤ x'.1 ∧ x'.1 ≤ (3 : Int) ∧ (↑x'.2.1.length : Int) + x'.1 ≤ (3 : Int) ∧ x'.2.2.1.length = x'.2.1.length ∧ (∀ (t : Pl.Tm), t ∈ x'.2.1 → Pl.costT t ≤ (400 : Nat)) ∧ p ≤ x'.2.2.2.2.2 ∧ x'.2.2.2.2.2 + (100 : Int) * x'.1 ≤ p + (310 : Int)) ∧ x'.1.toNat < x.1.toNat ∧ ((0 : Nat) = (0 : Nat) ∧ (0 : Nat) = (0 : Nat) ∧ (0 : Nat) = (0 : Nat) ∧ (0 : Nat) = (0 : Nat) ∧ IntKind.i64.wrap (x.1 - (1 : Int)) = x'.1 ∧ True) ∧ (Is (byts x_5.1) (byts b) ∧ x_5.2.1 + (1 : Int) = x'.2.2.2.2.2 ∧ True) ∧ (Is (syms s) (syms s) ∧ True) ∧ ((0 : Int) = (0 : Int) ∧ ByteArray.empty = ByteArray.empty ∧ Is (AV.lit (0 : Nat) (1 : Nat) fun (x x_7 : Nat) => AV.any) nilA ∧ ByteArray.empty = ByteArray.empty ∧ Is (AV.lit (0 : Nat) (1 : Nat) fun (x x_7 : Nat) => AV.any) nilA ∧ Is (AV.lit (0 : Nat) (1 : Nat) fun (x x_7 : Nat) => AV.any)
 nilA ∧ Is (AV.lit (0 : Nat) (1 : Nat) fun (x x_7 : Nat) => AV.any)
 nilA ∧ (0 : Int) = (0 : Int) ∧ false = false ∧ True) ∧ ((x_6.1.1, Pl.noTP, Pl.noTP, y.1, y.2, x_6.1.2.2.2.2.2.1,
 x_6.1.2.2.2.2.2.2).1 =
 (2 : Int) ∧ ByteArray.mk #[] = ByteArray.empty ∧ Is
 (AV.sl ((0 : Nat)) (2 : Nat) fun (i j : Nat) =>
 eT (Pl.Tree.mk ByteArray.empty []) j)
 (terms []) ∧ ByteArray.mk #[] = ByteArray.empty ∧ Is
 (AV.sl ((0 : Nat)) (2 : Nat) fun (i j : Nat) =>
 eT (Pl.Tree.mk ByteArray.empty []) j)
 (terms []) ∧ ((0 : Nat) = (0 : Nat) ∧ (y.1, y.2, x_6.1.2.2.2.2.2.1,
 x_6.1.2.2.2.2.2.2).1.length =
 x'.2.1.length) ∧ ((0 : Nat) = (0 : Nat) ∧ (y.2, x_6.1.2.2.2.2.2.1,
 x_6.1.2.2.2.2.2.2).1.length =
 x'.2.2.1.length) ∧ (x_6.1.2.2.2.2.2.1,
 x_6.1.2.2.2.2.2.2).1 =
 x'.2.2.2.1 ∧ (x_6.1.2.2.2.2.2.1,
 x_6.1.2.2.2.2.2.2).2 =
 x'.2.2.2.2.1 ∧ True) ∧ IsO (arT y.1) (arT x'.2.1) ∧ IsO (arI y.2) (arI x'.2.2.1) ∧ True) ∧ ((∃ x_3 : List Int × Int × List Int,
 (Rd (1099511627776 : Int) x_3.1 x_3.2.1 ∧ x_3.2.2 ≠ [] ∧ Sz x_3.2.2) ∧ (((0 : Nat) = (0 : Nat) ∧ Is (AV.lit (3 : Nat) (1 : Nat) (rowsCell [[i64 (1 : Int)], [i64 (1 : Int)], [i64 (2 : Int)]]))
 (ints x_3.2.2) ∧ True) ∧ (Is (byts b) (byts x_3.1) ∧ x.2.2.2.2.2 = x_3.2.1 ∧ True) ∧ True) ∧ ∀ (y : Int),
 y ∈ x_3.2.2 →
 ∃ x_4 : AX,
 (Rd (137438953472 : Int) x_4.1 x_4.2.1 ∧ x_4.2.1 + (↑(Pl.CB x_4.2.2.2.2.toNat) : Int) ≤ (137438953472 : Int) ∧ Pl.SgB (5 : Nat) (2 : Nat) x_4.2.2.1 ∧ x_4.2.2.2.2 ≤ (4 : Int)) ∧ (((0 : Nat) = (0 : Nat) ∧ (Is (syms s) (syms x_4.2.2.1) ∧ True) ∧ (1 : Int) = x_4.2.2.2.1 ∧ y = x_4.2.2.2.2 ∧ True) ∧ (Is (byts x_3.1) (byts x_4.1) ∧ x_3.2.1 + (1 : Int) = x_4.2.1 ∧ True) ∧ True) ∧ ∀ (y : Pl.TP × Int),
 Pl.TmB (Pl.CB x_4.2.2.2.2.toNat) y.1 ∧ x_4.2.1 ≤ y.2 ∧ y.2 ≤ x_4.2.1 + (↑(Pl.CB x_4.2.2.2.2.toNat) : Int) →
 ∃ x_5 : List Int × Int × List Int,
 (Rd (1099511627776 : Int) x_5.1 x_5.2.1 ∧ x_5.2.2 ≠ [] ∧ Sz x_5.2.2) ∧ (((0 : Nat) = (0 : Nat) ∧ Is
 (AV.lit (6 : Nat) (1 : Nat)
 (rowsCell
 [[i64 (1 : Int)], [i64 (-1 : Int)], [i64 (1 : Int)], [i64 (-1 : Int)], [i64 (2 : Int)],
 [i64 (-2 : Int)]]))
 (ints x_5.2.2) ∧ True) ∧ (Is (byts x_4.1) (byts x_5.1) ∧ y.2 = x_5.2.1 ∧ True) ∧ True) ∧ ∀ (y_3 : Int),
 y_3 ∈ x_5.2.2 →
 (0 : Nat) + x.2.1.length ≤ x.2.1.length ∧ (0 : Nat) + x.2.2.1.length ≤ x.2.2.1.length ∧ (0 : Nat) + y.1.2.length ≤ y.1.2.length ∧ ∃ x_6 : Pl.Atm × Pl.TP × Int,
 (SmA x_6.1 ∧ SmT (Pl.Tree.mk x_6.2.1.1 x_6.2.1.2) ∧ x_6.1.2.2.2.1.length ≤ (100 : Nat) ∧ x_6.1.2.2.2.2.1.length = x_6.1.2.2.2.1.length) ∧ ((((2 : Int) = x_6.1.1 ∧ ByteArray.empty = x_6.1.2.1.1 ∧ Is
 (AV.sl ((0 : Nat)) (2 : Nat) fun (i j : Nat) =>
 eT (Pl.Tree.mk ByteArray.empty []) j)
 (terms x_6.1.2.1.2) ∧ ByteArray.empty = x_6.1.2.2.1.1 ∧ Is
 (AV.sl ((0 : Nat)) (2 : Nat) fun (i j : Nat) =>
 eT (Pl.Tree.mk ByteArray.empty []) j)
 (terms x_6.1.2.2.1.2) ∧ Is (terms x.2.1) (terms x_6.1.2.2.2.1) ∧ Is (ints x.2.2.1) (ints x_6.1.2.2.2.2.1) ∧ x.2.2.2.1 = x_6.1.2.2.2.2.2.1 ∧ x.2.2.2.2.1 = x_6.1.2.2.2.2.2.2 ∧ True) ∧ (y.1.1 = x_6.2.1.1 ∧ Is (terms y.1.2) (terms x_6.2.1.2) ∧ True) ∧ y_3 = x_6.2.2 ∧ True) ∧ True) ∧ ∀ (y : List Pl.Tm × List Int),
 Pl.PutB x_6.1.2.2.2.1 (Pl.Tree.mk x_6.2.1.1 x_6.2.1.2)
 (x_6.1.2.2.2.1.length + (1 : Nat)) y.1 y.2 →
 Exists fun (x' : Int × List Pl.Tm × List Int × Int × Bool × Int) =>
 ((0 : Int) ≤ x'.1 ∧ x'.1 ≤ (3 : Int) ∧ (↑x'.2.1.length : Int) + x'.1 ≤ (3 : Int) ∧ x'.2.2.1.length = x'.2.1.length ∧ (∀ (t : Pl.Tm), t ∈ x'.2.1 → Pl.costT t ≤ (400 : Nat)) ∧ p ≤ x'.2.2.2.2.2 ∧ x'.2.2.2.2.2 + (100 : Int) * x'.1 ≤ p + (310 : Int)) ∧ x'.1.toNat < x.1.toNat ∧ ((0 : Nat) = (0 : Nat) ∧ (0 : Nat) = (0 : Nat) ∧ (0 : Nat) = (0 : Nat) ∧ (0 : Nat) = (0 : Nat) ∧ IntKind.i64.wrap (x.1 - (1 : Int)) = x'.1 ∧ True) ∧ (Is (byts x_5.1) (byts b) ∧ x_5.2.1 + (1 : Int) = x'.2.2.2.2.2 ∧ True) ∧ (Is (syms s) (syms s) ∧ True) ∧ ((0 : Int) = (0 : Int) ∧ ByteArray.empty = ByteArray.empty ∧ Is (AV.lit (0 : Nat) (1 : Nat) fun (x x_7 : Nat) => AV.any) nilA ∧ ByteArray.empty = ByteArray.empty ∧ Is (AV.lit (0 : Nat) (1 : Nat) fun (x x_7 : Nat) => AV.any)
 nilA ∧ Is (AV.lit (0 : Nat) (1 : Nat) fun (x x_7 : Nat) => AV.any)
 nilA ∧ Is (AV.lit (0 : Nat) (1 : Nat) fun (x x_7 : Nat) => AV.any)
 nilA ∧ (0 : Int) = (0 : Int) ∧ false = false ∧ True) ∧ ((x_6.1.1, Pl.noTP, Pl.noTP, y.1, y.2, x_6.1.2.2.2.2.2.1,
 x_6.1.2.2.2.2.2.2).1 =
 (2 : Int) ∧ ByteArray.mk #[] = ByteArray.empty ∧ Is
 (AV.sl ((0 : Nat)) (2 : Nat) fun (i j : Nat) =>
 eT (Pl.Tree.mk ByteArray.empty []) j)
 (terms []) ∧ ByteArray.mk #[] = ByteArray.empty ∧ Is
 (AV.sl ((0 : Nat)) (2 : Nat) fun (i j : Nat) =>
 eT (Pl.Tree.mk ByteArray.empty []) j)
 (terms []) ∧ ((0 : Nat) = (0 : Nat) ∧ (y.1, y.2, x_6.1.2.2.2.2.2.1,
 x_6.1.2.2.2.2.2.2).1.length =
 x'.2.1.length) ∧ ((0 : Nat) = (0 : Nat) ∧ (y.2, x_6.1.2.2.2.2.2.1,
 x_6.1.2.2.2.2.2.2).1.length =
 x'.2.2.1.length) ∧ (x_6.1.2.2.2.2.2.1,
 x_6.1.2.2.2.2.2.2).1 =
 x'.2.2.2.1 ∧ (x_6.1.2.2.2.2.2.1,
 x_6.1.2.2.2.2.2.2).2 =
 x'.2.2.2.2.1 ∧ True) ∧ IsO (arT y.1) (arT x'.2.1) ∧ IsO (arI y.2) (arI x'.2.2.1) ∧ True) ∧ ∃ x_3 : List Int × Int × List Int,
 (Rd (1099511627776 : Int) x_3.1 x_3.2.1 ∧ x_3.2.2 ≠ [] ∧ Sz x_3.2.2) ∧ (((0 : Nat) = (0 : Nat) ∧ Is (AV.lit (3 : Nat) (1 : Nat) (rowsCell [[i64 (1 : Int)], [i64 (1 : Int)], [i64 (2 : Int)]]))
 (ints x_3.2.2) ∧ True) ∧ (Is (byts b) (byts x_3.1) ∧ x.2.2.2.2.2 = x_3.2.1 ∧ True) ∧ True) ∧ ∀ (y : Int),
 y ∈ x_3.2.2 →
 (∃ x_4 : AX,
 (Rd (137438953472 : Int) x_4.1 x_4.2.1 ∧ x_4.2.1 + (↑(Pl.CB x_4.2.2.2.2.toNat) : Int) ≤ (137438953472 : Int) ∧ Pl.SgB (5 : Nat) (2 : Nat) x_4.2.2.1 ∧ x_4.2.2.2.2 ≤ (4 : Int)) ∧ (((0 : Nat) = (0 : Nat) ∧ (Is (syms s) (syms x_4.2.2.1) ∧ True) ∧ (1 : Int) = x_4.2.2.2.1 ∧ y = x_4.2.2.2.2 ∧ True) ∧ (Is (byts x_3.1) (byts x_4.1) ∧ x_3.2.1 + (1 : Int) = x_4.2.1 ∧ True) ∧ True) ∧ ∀ (y : Pl.TP × Int),
 Pl.TmB (Pl.CB x_4.2.2.2.2.toNat) y.1 ∧ x_4.2.1 ≤ y.2 ∧ y.2 ≤ x_4.2.1 + (↑(Pl.CB x_4.2.2.2.2.toNat) : Int) →
 ∃ x_5 : List Int × Int × List Int,
 (Rd (1099511627776 : Int) x_5.1 x_5.2.1 ∧ x_5.2.2 ≠ [] ∧ Sz x_5.2.2) ∧ (((0 : Nat) = (0 : Nat) ∧ Is
 (AV.lit (6 : Nat) (1 : Nat)
 (rowsCell
 [[i64 (1 : Int)], [i64 (-1 : Int)], [i64 (1 : Int)], [i64 (-1 : Int)], [i64 (2 : Int)],
 [i64 (-2 : Int)]]))
 (ints x_5.2.2) ∧ True) ∧ (Is (byts x_4.1) (byts x_5.1) ∧ y.2 = x_5.2.1 ∧ True) ∧ True) ∧ ∀ (y_3 : Int),
 y_3 ∈ x_5.2.2 →
 (0 : Nat) + x.2.1.length ≤ x.2.1.length ∧ (0 : Nat) + x.2.2.1.length ≤ x.2.2.1.length ∧ (0 : Nat) + y.1.2.length ≤ y.1.2.length ∧ ∃ x_6 : Pl.Atm × Pl.TP × Int,
 (SmA x_6.1 ∧ SmT (Pl.Tree.mk x_6.2.1.1 x_6.2.1.2) ∧ x_6.1.2.2.2.1.length ≤ (100 : Nat) ∧ x_6.1.2.2.2.2.1.length = x_6.1.2.2.2.1.length) ∧ ((((2 : Int) = x_6.1.1 ∧ ByteArray.empty = x_6.1.2.1.1 ∧ Is
 (AV.sl ((0 : Nat)) (2 : Nat) fun (i j : Nat) =>
 eT (Pl.Tree.mk ByteArray.empty []) j)
 (terms x_6.1.2.1.2) ∧ ByteArray.empty = x_6.1.2.2.1.1 ∧ Is
 (AV.sl ((0 : Nat)) (2 : Nat) fun (i j : Nat) =>
 eT (Pl.Tree.mk ByteArray.empty []) j)
 (terms x_6.1.2.2.1.2) ∧ Is (terms x.2.1) (terms x_6.1.2.2.2.1) ∧ Is (ints x.2.2.1) (ints x_6.1.2.2.2.2.1) ∧ x.2.2.2.1 = x_6.1.2.2.2.2.2.1 ∧ x.2.2.2.2.1 = x_6.1.2.2.2.2.2.2 ∧ True) ∧ (y.1.1 = x_6.2.1.1 ∧ Is (terms y.1.2) (terms x_6.2.1.2) ∧ True) ∧ y_3 = x_6.2.2 ∧ True) ∧ True) ∧ ∀ (y : List Pl.Tm × List Int),
 Pl.PutB x_6.1.2.2.2.1 (Pl.Tree.mk x_6.2.1.1 x_6.2.1.2)
 (x_6.1.2.2.2.1.length + (1 : Nat)) y.1 y.2 →
 Exists fun (x' : Int × List Pl.Tm × List Int × Int × Bool × Int) =>
 ((0 : Int) ≤ x'.1 ∧ x'.1 ≤ (3 : Int) ∧ (↑x'.2.1.length : Int) + x'.1 ≤ (3 : Int) ∧ x'.2.2.1.length = x'.2.1.length ∧ (∀ (t : Pl.Tm), t ∈ x'.2.1 → Pl.costT t ≤ (400 : Nat)) ∧ p ≤ x'.2.2.2.2.2 ∧ x'.2.2.2.2.2 + (100 : Int) * x'.1 ≤ p + (310 : Int)) ∧ x'.1.toNat < x.1.toNat ∧ ((0 : Nat) = (0 : Nat) ∧ (0 : Nat) = (0 : Nat) ∧ (0 : Nat) = (0 : Nat) ∧ (0 : Nat) = (0 : Nat) ∧ IntKind.i64.wrap (x.1 - (1 : Int)) = x'.1 ∧ True) ∧ (Is (byts x_5.1) (byts b) ∧ x_5.2.1 + (1 : Int) = x'.2.2.2.2.2 ∧ True) ∧ (Is (syms s) (syms s) ∧ True) ∧ ((0 : Int) = (0 : Int) ∧ ByteArray.empty = ByteArray.empty ∧ Is (AV.lit (0 : Nat) (1 : Nat) fun (x x_7 : Nat) => AV.any) nilA ∧ ByteArray.empty = ByteArray.empty ∧ Is (AV.lit (0 : Nat) (1 : Nat) fun (x x_7 : Nat) => AV.any)
 nilA ∧ Is (AV.lit (0 : Nat) (1 : Nat) fun (x x_7 : Nat) => AV.any)
 nilA ∧ Is (AV.lit (0 : Nat) (1 : Nat) fun (x x_7 : Nat) => AV.any)
 nilA ∧ (0 : Int) = (0 : Int) ∧ false = false ∧ True) ∧ ((x_6.1.1, Pl.noTP, Pl.noTP, y.1, y.2, x_6.1.2.2.2.2.2.1,
 x_6.1.2.2.2.2.2.2).1 =
 (2 : Int) ∧ ByteArray.mk #[] = ByteArray.empty ∧ Is
 (AV.sl ((0 : Nat)) (2 : Nat) fun (i j : Nat) =>
 eT (Pl.Tree.mk ByteArray.empty []) j)
 (terms []) ∧ ByteArray.mk #[] = ByteArray.empty ∧ Is
 (AV.sl ((0 : Nat)) (2 : Nat) fun (i j : Nat) =>
 eT (Pl.Tree.mk ByteArray.empty []) j)
 (terms []) ∧ ((0 : Nat) = (0 : Nat) ∧ (y.1, y.2, x_6.1.2.2.2.2.2.1,
 x_6.1.2.2.2.2.2.2).1.length =
 x'.2.1.length) ∧ ((0 : Nat) = (0 : Nat) ∧ (y.2, x_6.1.2.2.2.2.2.1,
 x_6.1.2.2.2.2.2.2).1.length =
 x'.2.2.1.length) ∧ (x_6.1.2.2.2.2.2.1,
 x_6.1.2.2.2.2.2.2).1 =
 x'.2.2.2.1 ∧ (x_6.1.2.2.2.2.2.1,
 x_6.1.2.2.2.2.2.2).2 =
 x'.2.2.2.2.1 ∧ True) ∧ IsO (arT y.1) (arT x'.2.1) ∧ IsO (arI y.2) (arI x'.2.2.1) ∧ True) ∧ ∃ x_4 : AX,
 (Rd (137438953472 : Int) x_4.1 x_4.2.1 ∧ x_4.2.1 + (↑(Pl.CB x_4.2.2.2.2.toNat) : Int) ≤ (137438953472 : Int) ∧ Pl.SgB (5 : Nat) (2 : Nat) x_4.2.2.1 ∧ x_4.2.2.2.2 ≤ (4 : Int)) ∧ (((0 : Nat) = (0 : Nat) ∧ (Is (syms s) (syms x_4.2.2.1) ∧ True) ∧ (1 : Int) = x_4.2.2.2.1 ∧ y = x_4.2.2.2.2 ∧ True) ∧ (Is (byts x_3.1) (byts x_4.1) ∧ x_3.2.1 + (1 : Int) = x_4.2.1 ∧ True) ∧ True) ∧ ∀ (y : Pl.TP × Int),
 Pl.TmB (Pl.CB x_4.2.2.2.2.toNat) y.1 ∧ x_4.2.1 ≤ y.2 ∧ y.2 ≤ x_4.2.1 + (↑(Pl.CB x_4.2.2.2.2.toNat) : Int) →
 (∃ x_5 : List Int × Int × List Int,
 (Rd (1099511627776 : Int) x_5.1 x_5.2.1 ∧ x_5.2.2 ≠ [] ∧ Sz x_5.2.2) ∧ (((0 : Nat) = (0 : Nat) ∧ Is
 (AV.lit (6 : Nat) (1 : Nat)
 (rowsCell
 [[i64 (1 : Int)], [i64 (-1 : Int)], [i64 (1 : Int)], [i64 (-1 : Int)], [i64 (2 : Int)],
 [i64 (-2 : Int)]]))
 (ints x_5.2.2) ∧ True) ∧ (Is (byts x_4.1) (byts x_5.1) ∧ y.2 = x_5.2.1 ∧ True) ∧ True) ∧ ∀ (y_3 : Int),
 y_3 ∈ x_5.2.2 →
 (0 : Nat) + x.2.1.length ≤ x.2.1.length ∧ (0 : Nat) + x.2.2.1.length ≤ x.2.2.1.length ∧ (0 : Nat) + y.1.2.length ≤ y.1.2.length ∧ ∃ x_6 : Pl.Atm × Pl.TP × Int,
 (SmA x_6.1 ∧ SmT (Pl.Tree.mk x_6.2.1.1 x_6.2.1.2) ∧ x_6.1.2.2.2.1.length ≤ (100 : Nat) ∧ x_6.1.2.2.2.2.1.length = x_6.1.2.2.2.1.length) ∧ ((((2 : Int) = x_6.1.1 ∧ ByteArray.empty = x_6.1.2.1.1 ∧ Is
 (AV.sl ((0 : Nat)) (2 : Nat) fun (i j : Nat) =>
 eT (Pl.Tree.mk ByteArray.empty []) j)
 (terms x_6.1.2.1.2) ∧ ByteArray.empty = x_6.1.2.2.1.1 ∧ Is
 (AV.sl ((0 : Nat)) (2 : Nat) fun (i j : Nat) =>
 eT (Pl.Tree.mk ByteArray.empty []) j)
 (terms x_6.1.2.2.1.2) ∧ Is (terms x.2.1) (terms x_6.1.2.2.2.1) ∧ Is (ints x.2.2.1) (ints x_6.1.2.2.2.2.1) ∧ x.2.2.2.1 = x_6.1.2.2.2.2.2.1 ∧ x.2.2.2.2.1 = x_6.1.2.2.2.2.2.2 ∧ True) ∧ (y.1.1 = x_6.2.1.1 ∧ Is (terms y.1.2) (terms x_6.2.1.2) ∧ True) ∧ y_3 = x_6.2.2 ∧ True) ∧ True) ∧ ∀ (y : List Pl.Tm × List Int),
 Pl.PutB x_6.1.2.2.2.1 (Pl.Tree.mk x_6.2.1.1 x_6.2.1.2)
 (x_6.1.2.2.2.1.length + (1 : Nat)) y.1 y.2 →
 Exists fun (x' : Int × List Pl.Tm × List Int × Int × Bool × Int) =>
 ((0 : Int) ≤ x'.1 ∧ x'.1 ≤ (3 : Int) ∧ (↑x'.2.1.length : Int) + x'.1 ≤ (3 : Int) ∧ x'.2.2.1.length = x'.2.1.length ∧ (∀ (t : Pl.Tm), t ∈ x'.2.1 → Pl.costT t ≤ (400 : Nat)) ∧ p ≤ x'.2.2.2.2.2 ∧ x'.2.2.2.2.2 + (100 : Int) * x'.1 ≤ p + (310 : Int)) ∧ x'.1.toNat < x.1.toNat ∧ ((0 : Nat) = (0 : Nat) ∧ (0 : Nat) = (0 : Nat) ∧ (0 : Nat) = (0 : Nat) ∧ (0 : Nat) = (0 : Nat) ∧ IntKind.i64.wrap (x.1 - (1 : Int)) = x'.1 ∧ True) ∧ (Is (byts x_5.1) (byts b) ∧ x_5.2.1 + (1 : Int) = x'.2.2.2.2.2 ∧ True) ∧ (Is (syms s) (syms s) ∧ True) ∧ ((0 : Int) = (0 : Int) ∧ ByteArray.empty = ByteArray.empty ∧ Is (AV.lit (0 : Nat) (1 : Nat) fun (x x_7 : Nat) => AV.any)
 nilA ∧ ByteArray.empty = ByteArray.empty ∧ Is (AV.lit (0 : Nat) (1 : Nat) fun (x x_7 : Nat) => AV.any)
 nilA ∧ Is (AV.lit (0 : Nat) (1 : Nat) fun (x x_7 : Nat) => AV.any)
 nilA ∧ Is (AV.lit (0 : Nat) (1 : Nat) fun (x x_7 : Nat) => AV.any)
 nilA ∧ (0 : Int) = (0 : Int) ∧ false = false ∧ True) ∧ ((x_6.1.1, Pl.noTP, Pl.noTP, y.1, y.2, x_6.1.2.2.2.2.2.1,
 x_6.1.2.2.2.2.2.2).1 =
 (2 : Int) ∧ ByteArray.mk #[] = ByteArray.empty ∧ Is
 (AV.sl ((0 : Nat)) (2 : Nat) fun (i j : Nat) =>
 eT (Pl.Tree.mk ByteArray.empty []) j)
 (terms []) ∧ ByteArray.mk #[] = ByteArray.empty ∧ Is
 (AV.sl ((0 : Nat)) (2 : Nat) fun (i j : Nat) =>
 eT (Pl.Tree.mk ByteArray.empty []) j)
 (terms []) ∧ ((0 : Nat) = (0 : Nat) ∧ (y.1, y.2, x_6.1.2.2.2.2.2.1,
 x_6.1.2.2.2.2.2.2).1.length =
 x'.2.1.length) ∧ ((0 : Nat) = (0 : Nat) ∧ (y.2, x_6.1.2.2.2.2.2.1,
 x_6.1.2.2.2.2.2.2).1.length =
 x'.2.2.1.length) ∧ (x_6.1.2.2.2.2.2.1,
 x_6.1.2.2.2.2.2.2).1 =
 x'.2.2.2.1 ∧ (x_6.1.2.2.2.2.2.1,
 x_6.1.2.2.2.2.2.2).2 =
 x'.2.2.2.2.1 ∧ True) ∧ IsO (arT y.1) (arT x'.2.1) ∧ IsO (arI y.2) (arI x'.2.2.1) ∧ True) ∧ ∃ x_5 : List Int × Int × List Int,
 (Rd (1099511627776 : Int) x_5.1 x_5.2.1 ∧ x_5.2.2 ≠ [] ∧ Sz x_5.2.2) ∧ (((0 : Nat) = (0 : Nat) ∧ Is
 (AV.lit (6 : Nat) (1 : Nat)
 (rowsCell
 [[i64 (1 : Int)], [i64 (-1 : Int)], [i64 (1 : Int)], [i64 (-1 : Int)], [i64 (2 : Int)],
 [i64 (-2 : Int)]]))
 (ints x_5.2.2) ∧ True) ∧ (Is (byts x_4.1) (byts x_5.1) ∧ y.2 = x_5.2.1 ∧ True) ∧ True) ∧ ∀ (y_3 : Int),
 y_3 ∈ x_5.2.2 →
 (0 : Nat) + x.2.1.length ≤ x.2.1.length ∧ (0 : Nat) + x.2.2.1.length ≤ x.2.2.1.length ∧ (0 : Nat) + y.1.2.length ≤ y.1.2.length ∧ ∃ x_6 : Pl.Atm × Pl.TP × Int,
 (SmA x_6.1 ∧ SmT (Pl.Tree.mk x_6.2.1.1 x_6.2.1.2) ∧ x_6.1.2.2.2.1.length ≤ (100 : Nat) ∧ x_6.1.2.2.2.2.1.length = x_6.1.2.2.2.1.length) ∧ ((((2 : Int) = x_6.1.1 ∧ ByteArray.empty = x_6.1.2.1.1 ∧ Is
 (AV.sl ((0 : Nat)) (2 : Nat) fun (i j : Nat) =>
 eT (Pl.Tree.mk ByteArray.empty []) j)
 (terms x_6.1.2.1.2) ∧ ByteArray.empty = x_6.1.2.2.1.1 ∧ Is
 (AV.sl ((0 : Nat)) (2 : Nat) fun (i j : Nat) =>
 eT (Pl.Tree.mk ByteArray.empty []) j)
 (terms x_6.1.2.2.1.2) ∧ Is (terms x.2.1) (terms x_6.1.2.2.2.1) ∧ Is (ints x.2.2.1) (ints x_6.1.2.2.2.2.1) ∧ x.2.2.2.1 = x_6.1.2.2.2.2.2.1 ∧ x.2.2.2.2.1 = x_6.1.2.2.2.2.2.2 ∧ True) ∧ (y.1.1 = x_6.2.1.1 ∧ Is (terms y.1.2) (terms x_6.2.1.2) ∧ True) ∧ y_3 = x_6.2.2 ∧ True) ∧ True) ∧ ∀ (y : List Pl.Tm × List Int),
 Pl.PutB x_6.1.2.2.2.1 (Pl.Tree.mk x_6.2.1.1 x_6.2.1.2)
 (x_6.1.2.2.2.1.length + (1 : Nat)) y.1 y.2 →
 Exists fun (x' : Int × List Pl.Tm × List Int × Int × Bool × Int) =>
 ((0 : Int) ≤ x'.1 ∧ x'.1 ≤ (3 : Int) ∧ (↑x'.2.1.length : Int) + x'.1 ≤ (3 : Int) ∧ x'.2.2.1.length = x'.2.1.length ∧ (∀ (t : Pl.Tm), t ∈ x'.2.1 → Pl.costT t ≤ (400 : Nat)) ∧ p ≤ x'.2.2.2.2.2 ∧ x'.2.2.2.2.2 + (100 : Int) * x'.1 ≤ p + (310 : Int)) ∧ x'.1.toNat < x.1.toNat ∧ ((0 : Nat) = (0 : Nat) ∧ (0 : Nat) = (0 : Nat) ∧ (0 : Nat) = (0 : Nat) ∧ (0 : Nat) = (0 : Nat) ∧ IntKind.i64.wrap (x.1 - (1 : Int)) = x'.1 ∧ True) ∧ (Is (byts x_5.1) (byts b) ∧ x_5.2.1 + (1 : Int) = x'.2.2.2.2.2 ∧ True) ∧ (Is (syms s) (syms s) ∧ True) ∧ ((0 : Int) = (0 : Int) ∧ ByteArray.empty = ByteArray.empty ∧ Is (AV.lit (0 : Nat) (1 : Nat) fun (x x_7 : Nat) => AV.any)
 nilA ∧ ByteArray.empty = ByteArray.empty ∧ Is (AV.lit (0 : Nat) (1 : Nat) fun (x x_7 : Nat) => AV.any)
 nilA ∧ Is (AV.lit (0 : Nat) (1 : Nat) fun (x x_7 : Nat) => AV.any)
 nilA ∧ Is (AV.lit (0 : Nat) (1 : Nat) fun (x x_7 : Nat) => AV.any)
 nilA ∧ (0 : Int) = (0 : Int) ∧ false = false ∧ True) ∧ ((x_6.1.1, Pl.noTP, Pl.noTP, y.1, y.2, x_6.1.2.2.2.2.2.1,
 x_6.1.2.2.2.2.2.2).1 =
 (2 : Int) ∧ ByteArray.mk #[] = ByteArray.empty ∧ Is
 (AV.sl ((0 : Nat)) (2 : Nat) fun (i j : Nat) =>
 eT (Pl.Tree.mk ByteArray.empty []) j)
 (terms []) ∧ ByteArray.mk #[] = ByteArray.empty ∧ Is
 (AV.sl ((0 : Nat)) (2 : Nat) fun (i j : Nat) =>
 eT (Pl.Tree.mk ByteArray.empty []) j)
 (terms []) ∧ ((0 : Nat) = (0 : Nat) ∧ (y.1, y.2, x_6.1.2.2.2.2.2.1,
 x_6.1.2.2.2.2.2.2).1.length =
 x'.2.1.length) ∧ ((0 : Nat) = (0 : Nat) ∧ (y.2, x_6.1.2.2.2.2.2.1,
 x_6.1.2.2.2.2.2.2).1.length =
 x'.2.2.1.length) ∧ (x_6.1.2.2.2.2.2.1,
 x_6.1.2.2.2.2.2.2).1 =
 x'.2.2.2.1 ∧ (x_6.1.2.2.2.2.2.1,
 x_6.1.2.2.2.2.2.2).2 =
 x'.2.2.2.2.1 ∧ True) ∧ IsO (arT y.1) (arT x'.2.1) ∧ IsO (arI y.2) (arI x'.2.2.1) ∧ True) ∧ ∃ x_3 : List Int × Int × List Int,
 (Rd (1099511627776 : Int) x_3.1 x_3.2.1 ∧ x_3.2.2 ≠ [] ∧ Sz x_3.2.2) ∧ (((0 : Nat) = (0 : Nat) ∧ Is (AV.lit (3 : Nat) (1 : Nat) (rowsCell [[i64 (1 : Int)], [i64 (1 : Int)], [i64 (2 : Int)]])) (ints x_3.2.2) ∧ True) ∧ (Is (byts b) (byts x_3.1) ∧ x.2.2.2.2.2 = x_3.2.1 ∧ True) ∧ True) ∧ ∀ (y : Int),
 y ∈ x_3.2.2 →
 (∃ x_4 : AX,
 (Rd (137438953472 : Int) x_4.1 x_4.2.1 ∧ x_4.2.1 + (↑(Pl.CB x_4.2.2.2.2.toNat) : Int) ≤ (137438953472 : Int) ∧ Pl.SgB (5 : Nat) (2 : Nat) x_4.2.2.1 ∧ x_4.2.2.2.2 ≤ (4 : Int)) ∧ (((0 : Nat) = (0 : Nat) ∧ (Is (syms s) (syms x_4.2.2.1) ∧ True) ∧ (1 : Int) = x_4.2.2.2.1 ∧ y = x_4.2.2.2.2 ∧ True) ∧ (Is (byts x_3.1) (byts x_4.1) ∧ x_3.2.1 + (1 : Int) = x_4.2.1 ∧ True) ∧ True) ∧ ∀ (y : Pl.TP × Int),
 Pl.TmB (Pl.CB x_4.2.2.2.2.toNat) y.1 ∧ x_4.2.1 ≤ y.2 ∧ y.2 ≤ x_4.2.1 + (↑(Pl.CB x_4.2.2.2.2.toNat) : Int) →
 ∃ x_5 : List Int × Int × List Int,
 (Rd (1099511627776 : Int) x_5.1 x_5.2.1 ∧ x_5.2.2 ≠ [] ∧ Sz x_5.2.2) ∧ (((0 : Nat) = (0 : Nat) ∧ Is
 (AV.lit (6 : Nat) (1 : Nat)
 (rowsCell
 [[i64 (1 : Int)], [i64 (-1 : Int)], [i64 (1 : Int)], [i64 (-1 : Int)], [i64 (2 : Int)],
 [i64 (-2 : Int)]]))
 (ints x_5.2.2) ∧ True) ∧ (Is (byts x_4.1) (byts x_5.1) ∧ y.2 = x_5.2.1 ∧ True) ∧ True) ∧ ∀ (y_3 : Int),
 y_3 ∈ x_5.2.2 →
 (0 : Nat) + x.2.1.length ≤ x.2.1.length ∧ (0 : Nat) + x.2.2.1.length ≤ x.2.2.1.length ∧ (0 : Nat) + y.1.2.length ≤ y.1.2.length ∧ ∃ x_6 : Pl.Atm × Pl.TP × Int,
 (SmA x_6.1 ∧ SmT (Pl.Tree.mk x_6.2.1.1 x_6.2.1.2) ∧ x_6.1.2.2.2.1.length ≤ (100 : Nat) ∧ x_6.1.2.2.2.2.1.length = x_6.1.2.2.2.1.length) ∧ ((((2 : Int) = x_6.1.1 ∧ ByteArray.empty = x_6.1.2.1.1 ∧ Is
 (AV.sl ((0 : Nat)) (2 : Nat) fun (i j : Nat) =>
 eT (Pl.Tree.mk ByteArray.empty []) j)
 (terms x_6.1.2.1.2) ∧ ByteArray.empty = x_6.1.2.2.1.1 ∧ Is
 (AV.sl ((0 : Nat)) (2 : Nat) fun (i j : Nat) =>
 eT (Pl.Tree.mk ByteArray.empty []) j)
 (terms x_6.1.2.2.1.2) ∧ Is (terms x.2.1) (terms x_6.1.2.2.2.1) ∧ Is (ints x.2.2.1) (ints x_6.1.2.2.2.2.1) ∧ x.2.2.2.1 = x_6.1.2.2.2.2.2.1 ∧ x.2.2.2.2.1 = x_6.1.2.2.2.2.2.2 ∧ True) ∧ (y.1.1 = x_6.2.1.1 ∧ Is (terms y.1.2) (terms x_6.2.1.2) ∧ True) ∧ y_3 = x_6.2.2 ∧ True) ∧ True) ∧ ∀ (y : List Pl.Tm × List Int),
 Pl.PutB x_6.1.2.2.2.1 (Pl.Tree.mk x_6.2.1.1 x_6.2.1.2)
 (x_6.1.2.2.2.1.length + (1 : Nat)) y.1 y.2 →
 Exists fun (x' : Int × List Pl.Tm × List Int × Int × Bool × Int) =>
 ((0 : Int) ≤ x'.1 ∧ x'.1 ≤ (3 : Int) ∧ (↑x'.2.1.length : Int) + x'.1 ≤ (3 : Int) ∧ x'.2.2.1.length = x'.2.1.length ∧ (∀ (t : Pl.Tm), t ∈ x'.2.1 → Pl.costT t ≤ (400 : Nat)) ∧ p ≤ x'.2.2.2.2.2 ∧ x'.2.2.2.2.2 + (100 : Int) * x'.1 ≤ p + (310 : Int)) ∧ x'.1.toNat < x.1.toNat ∧ ((0 : Nat) = (0 : Nat) ∧ (0 : Nat) = (0 : Nat) ∧ (0 : Nat) = (0 : Nat) ∧ (0 : Nat) = (0 : Nat) ∧ IntKind.i64.wrap (x.1 - (1 : Int)) = x'.1 ∧ True) ∧ (Is (byts x_5.1) (byts b) ∧ x_5.2.1 + (1 : Int) = x'.2.2.2.2.2 ∧ True) ∧ (Is (syms s) (syms s) ∧ True) ∧ ((0 : Int) = (0 : Int) ∧ ByteArray.empty = ByteArray.empty ∧ Is (AV.lit (0 : Nat) (1 : Nat) fun (x x_7 : Nat) => AV.any) nilA ∧ ByteArray.empty = ByteArray.empty ∧ Is (AV.lit (0 : Nat) (1 : Nat) fun (x x_7 : Nat) => AV.any)
 nilA ∧ Is (AV.lit (0 : Nat) (1 : Nat) fun (x x_7 : Nat) => AV.any)
 nilA ∧ Is (AV.lit (0 : Nat) (1 : Nat) fun (x x_7 : Nat) => AV.any)
 nilA ∧ (0 : Int) = (0 : Int) ∧ false = false ∧ True) ∧ ((x_6.1.1, Pl.noTP, Pl.noTP, y.1, y.2, x_6.1.2.2.2.2.2.1,
 x_6.1.2.2.2.2.2.2).1 =
 (2 : Int) ∧ ByteArray.mk #[] = ByteArray.empty ∧ Is
 (AV.sl ((0 : Nat)) (2 : Nat) fun (i j : Nat) =>
 eT (Pl.Tree.mk ByteArray.empty []) j)
 (terms []) ∧ ByteArray.mk #[] = ByteArray.empty ∧ Is
 (AV.sl ((0 : Nat)) (2 : Nat) fun (i j : Nat) =>
 eT (Pl.Tree.mk ByteArray.empty []) j)
 (terms []) ∧ ((0 : Nat) = (0 : Nat) ∧ (y.1, y.2, x_6.1.2.2.2.2.2.1,
 x_6.1.2.2.2.2.2.2).1.length =
 x'.2.1.length) ∧ ((0 : Nat) = (0 : Nat) ∧ (y.2, x_6.1.2.2.2.2.2.1,
 x_6.1.2.2.2.2.2.2).1.length =
 x'.2.2.1.length) ∧ (x_6.1.2.2.2.2.2.1,
 x_6.1.2.2.2.2.2.2).1 =
 x'.2.2.2.1 ∧ (x_6.1.2.2.2.2.2.1,
 x_6.1.2.2.2.2.2.2).2 =
 x'.2.2.2.2.1 ∧ True) ∧ IsO (arT y.1) (arT x'.2.1) ∧ IsO (arI y.2) (arI x'.2.2.1) ∧ True) ∧ (∃ x_4 : AX,
 (Rd (137438953472 : Int) x_4.1 x_4.2.1 ∧ x_4.2.1 + (↑(Pl.CB x_4.2.2.2.2.toNat) : Int) ≤ (137438953472 : Int) ∧ Pl.SgB (5 : Nat) (2 : Nat) x_4.2.2.1 ∧ x_4.2.2.2.2 ≤ (4 : Int)) ∧ (((0 : Nat) = (0 : Nat) ∧ (Is (syms s) (syms x_4.2.2.1) ∧ True) ∧ (1 : Int) = x_4.2.2.2.1 ∧ y = x_4.2.2.2.2 ∧ True) ∧ (Is (byts x_3.1) (byts x_4.1) ∧ x_3.2.1 + (1 : Int) = x_4.2.1 ∧ True) ∧ True) ∧ ∀ (y : Pl.TP × Int),
 Pl.TmB (Pl.CB x_4.2.2.2.2.toNat) y.1 ∧ x_4.2.1 ≤ y.2 ∧ y.2 ≤ x_4.2.1 + (↑(Pl.CB x_4.2.2.2.2.toNat) : Int) →
 ∃ x_5 : List Int × Int × List Int,
 (Rd (1099511627776 : Int) x_5.1 x_5.2.1 ∧ x_5.2.2 ≠ [] ∧ Sz x_5.2.2) ∧ (((0 : Nat) = (0 : Nat) ∧ Is
 (AV.lit (6 : Nat) (1 : Nat)
 (rowsCell
 [[i64 (1 : Int)], [i64 (-1 : Int)], [i64 (1 : Int)], [i64 (-1 : Int)], [i64 (2 : Int)],
 [i64 (-2 : Int)]]))
 (ints x_5.2.2) ∧ True) ∧ (Is (byts x_4.1) (byts x_5.1) ∧ y.2 = x_5.2.1 ∧ True) ∧ True) ∧ ∀ (y_3 : Int),
 y_3 ∈ x_5.2.2 →
 (0 : Nat) + x.2.1.length ≤ x.2.1.length ∧ (0 : Nat) + x.2.2.1.length ≤ x.2.2.1.length ∧ (0 : Nat) + y.1.2.length ≤ y.1.2.length ∧ ∃ x_6 : Pl.Atm × Pl.TP × Int,
 (SmA x_6.1 ∧ SmT (Pl.Tree.mk x_6.2.1.1 x_6.2.1.2) ∧ x_6.1.2.2.2.1.length ≤ (100 : Nat) ∧ x_6.1.2.2.2.2.1.length = x_6.1.2.2.2.1.length) ∧ ((((2 : Int) = x_6.1.1 ∧ ByteArray.empty = x_6.1.2.1.1 ∧ Is
 (AV.sl ((0 : Nat)) (2 : Nat) fun (i j : Nat) =>
 eT (Pl.Tree.mk ByteArray.empty []) j)
 (terms x_6.1.2.1.2) ∧ ByteArray.empty = x_6.1.2.2.1.1 ∧ Is
 (AV.sl ((0 : Nat)) (2 : Nat) fun (i j : Nat) =>
 eT (Pl.Tree.mk ByteArray.empty []) j)
 (terms x_6.1.2.2.1.2) ∧ Is (terms x.2.1) (terms x_6.1.2.2.2.1) ∧ Is (ints x.2.2.1) (ints x_6.1.2.2.2.2.1) ∧ x.2.2.2.1 = x_6.1.2.2.2.2.2.1 ∧ x.2.2.2.2.1 = x_6.1.2.2.2.2.2.2 ∧ True) ∧ (y.1.1 = x_6.2.1.1 ∧ Is (terms y.1.2) (terms x_6.2.1.2) ∧ True) ∧ y_3 = x_6.2.2 ∧ True) ∧ True) ∧ ∀ (y : List Pl.Tm × List Int),
 Pl.PutB x_6.1.2.2.2.1 (Pl.Tree.mk x_6.2.1.1 x_6.2.1.2)
 (x_6.1.2.2.2.1.length + (1 : Nat)) y.1 y.2 →
 Exists fun (x' : Int × List Pl.Tm × List Int × Int × Bool × Int) =>
 ((0 : Int) ≤ x'.1 ∧ x'.1 ≤ (3 : Int) ∧ (↑x'.2.1.length : Int) + x'.1 ≤ (3 : Int) ∧ x'.2.2.1.length = x'.2.1.length ∧ (∀ (t : Pl.Tm), t ∈ x'.2.1 → Pl.costT t ≤ (400 : Nat)) ∧ p ≤ x'.2.2.2.2.2 ∧ x'.2.2.2.2.2 + (100 : Int) * x'.1 ≤ p + (310 : Int)) ∧ x'.1.toNat < x.1.toNat ∧ ((0 : Nat) = (0 : Nat) ∧ (0 : Nat) = (0 : Nat) ∧ (0 : Nat) = (0 : Nat) ∧ (0 : Nat) = (0 : Nat) ∧ IntKind.i64.wrap (x.1 - (1 : Int)) = x'.1 ∧ True) ∧ (Is (byts x_5.1) (byts b) ∧ x_5.2.1 + (1 : Int) = x'.2.2.2.2.2 ∧ True) ∧ (Is (syms s) (syms s) ∧ True) ∧ ((0 : Int) = (0 : Int) ∧ ByteArray.empty = ByteArray.empty ∧ Is (AV.lit (0 : Nat) (1 : Nat) fun (x x_7 : Nat) => AV.any) nilA ∧ ByteArray.empty = ByteArray.empty ∧ Is (AV.lit (0 : Nat) (1 : Nat) fun (x x_7 : Nat) => AV.any)
 nilA ∧ Is (AV.lit (0 : Nat) (1 : Nat) fun (x x_7 : Nat) => AV.any)
 nilA ∧ Is (AV.lit (0 : Nat) (1 : Nat) fun (x x_7 : Nat) => AV.any)
 nilA ∧ (0 : Int) = (0 : Int) ∧ false = false ∧ True) ∧ ((x_6.1.1, Pl.noTP, Pl.noTP, y.1, y.2, x_6.1.2.2.2.2.2.1,
 x_6.1.2.2.2.2.2.2).1 =
 (2 : Int) ∧ ByteArray.mk #[] = ByteArray.empty ∧ Is
 (AV.sl ((0 : Nat)) (2 : Nat) fun (i j : Nat) =>
 eT (Pl.Tree.mk ByteArray.empty []) j)
 (terms []) ∧ ByteArray.mk #[] = ByteArray.empty ∧ Is
 (AV.sl ((0 : Nat)) (2 : Nat) fun (i j : Nat) =>
 eT (Pl.Tree.mk ByteArray.empty []) j)
 (terms []) ∧ ((0 : Nat) = (0 : Nat) ∧ (y.1, y.2, x_6.1.2.2.2.2.2.1,
 x_6.1.2.2.2.2.2.2).1.length =
 x'.2.1.length) ∧ ((0 : Nat) = (0 : Nat) ∧ (y.2, x_6.1.2.2.2.2.2.1,
 x_6.1.2.2.2.2.2.2).1.length =
 x'.2.2.1.length) ∧ (x_6.1.2.2.2.2.2.1,
 x_6.1.2.2.2.2.2.2).1 =
 x'.2.2.2.1 ∧ (x_6.1.2.2.2.2.2.1,
 x_6.1.2.2.2.2.2.2).2 =
 x'.2.2.2.2.1 ∧ True) ∧ IsO (arT y.1) (arT x'.2.1) ∧ IsO (arI y.2) (arI x'.2.2.1) ∧ True) ∧ ∃ x_4 : AX,
 (Rd (137438953472 : Int) x_4.1 x_4.2.1 ∧ x_4.2.1 + (↑(Pl.CB x_4.2.2.2.2.toNat) : Int) ≤ (137438953472 : Int) ∧ Pl.SgB (5 : Nat) (2 : Nat) x_4.2.2.1 ∧ x_4.2.2.2.2 ≤ (4 : Int)) ∧ (((0 : Nat) = (0 : Nat) ∧ (Is (syms s) (syms x_4.2.2.1) ∧ True) ∧ (1 : Int) = x_4.2.2.2.1 ∧ y = x_4.2.2.2.2 ∧ True) ∧ (Is (byts x_3.1) (byts x_4.1) ∧ x_3.2.1 + (1 : Int) = x_4.2.1 ∧ True) ∧ True) ∧ ∀ (y : Pl.TP × Int),
 Pl.TmB (Pl.CB x_4.2.2.2.2.toNat) y.1 ∧ x_4.2.1 ≤ y.2 ∧ y.2 ≤ x_4.2.1 + (↑(Pl.CB x_4.2.2.2.2.toNat) : Int) →
 (∃ x_5 : List Int × Int × List Int,
 (Rd (1099511627776 : Int) x_5.1 x_5.2.1 ∧ x_5.2.2 ≠ [] ∧ Sz x_5.2.2) ∧ (((0 : Nat) = (0 : Nat) ∧ Is
 (AV.lit (6 : Nat) (1 : Nat)
 (rowsCell
 [[i64 (1 : Int)], [i64 (-1 : Int)], [i64 (1 : Int)], [i64 (-1 : Int)], [i64 (2 : Int)],
 [i64 (-2 : Int)]]))
 (ints x_5.2.2) ∧ True) ∧ (Is (byts x_4.1) (byts x_5.1) ∧ y.2 = x_5.2.1 ∧ True) ∧ True) ∧ ∀ (y_3 : Int),
 y_3 ∈ x_5.2.2 →
 (0 : Nat) + x.2.1.length ≤ x.2.1.length ∧ (0 : Nat) + x.2.2.1.length ≤ x.2.2.1.length ∧ (0 : Nat) + y.1.2.length ≤ y.1.2.length ∧ ∃ x_6 : Pl.Atm × Pl.TP × Int,
 (SmA x_6.1 ∧ SmT (Pl.Tree.mk x_6.2.1.1 x_6.2.1.2) ∧ x_6.1.2.2.2.1.length ≤ (100 : Nat) ∧ x_6.1.2.2.2.2.1.length = x_6.1.2.2.2.1.length) ∧ ((((2 : Int) = x_6.1.1 ∧ ByteArray.empty = x_6.1.2.1.1 ∧ Is
 (AV.sl ((0 : Nat)) (2 : Nat) fun (i j : Nat) =>
 eT (Pl.Tree.mk ByteArray.empty []) j)
 (terms x_6.1.2.1.2) ∧ ByteArray.empty = x_6.1.2.2.1.1 ∧ Is
 (AV.sl ((0 : Nat)) (2 : Nat) fun (i j : Nat) =>
 eT (Pl.Tree.mk ByteArray.empty []) j)
 (terms x_6.1.2.2.1.2) ∧ Is (terms x.2.1) (terms x_6.1.2.2.2.1) ∧ Is (ints x.2.2.1) (ints x_6.1.2.2.2.2.1) ∧ x.2.2.2.1 = x_6.1.2.2.2.2.2.1 ∧ x.2.2.2.2.1 = x_6.1.2.2.2.2.2.2 ∧ True) ∧ (y.1.1 = x_6.2.1.1 ∧ Is (terms y.1.2) (terms x_6.2.1.2) ∧ True) ∧ y_3 = x_6.2.2 ∧ True) ∧ True) ∧ ∀ (y : List Pl.Tm × List Int),
 Pl.PutB x_6.1.2.2.2.1 (Pl.Tree.mk x_6.2.1.1 x_6.2.1.2)
 (x_6.1.2.2.2.1.length + (1 : Nat)) y.1 y.2 →
 Exists fun (x' : Int × List Pl.Tm × List Int × Int × Bool × Int) =>
 ((0 : Int) ≤ x'.1 ∧ x'.1 ≤ (3 : Int) ∧ (↑x'.2.1.length : Int) + x'.1 ≤ (3 : Int) ∧ x'.2.2.1.length = x'.2.1.length ∧ (∀ (t : Pl.Tm), t ∈ x'.2.1 → Pl.costT t ≤ (400 : Nat)) ∧ p ≤ x'.2.2.2.2.2 ∧ x'.2.2.2.2.2 + (100 : Int) * x'.1 ≤ p + (310 : Int)) ∧ x'.1.toNat < x.1.toNat ∧ ((0 : Nat) = (0 : Nat) ∧ (0 : Nat) = (0 : Nat) ∧ (0 : Nat) = (0 : Nat) ∧ (0 : Nat) = (0 : Nat) ∧ IntKind.i64.wrap (x.1 - (1 : Int)) = x'.1 ∧ True) ∧ (Is (byts x_5.1) (byts b) ∧ x_5.2.1 + (1 : Int) = x'.2.2.2.2.2 ∧ True) ∧ (Is (syms s) (syms s) ∧ True) ∧ ((0 : Int) = (0 : Int) ∧ ByteArray.empty = ByteArray.empty ∧ Is (AV.lit (0 : Nat) (1 : Nat) fun (x x_7 : Nat) => AV.any)
 nilA ∧ ByteArray.empty = ByteArray.empty ∧ Is (AV.lit (0 : Nat) (1 : Nat) fun (x x_7 : Nat) => AV.any)
 nilA ∧ Is (AV.lit (0 : Nat) (1 : Nat) fun (x x_7 : Nat) => AV.any)
 nilA ∧ Is (AV.lit (0 : Nat) (1 : Nat) fun (x x_7 : Nat) => AV.any)
 nilA ∧ (0 : Int) = (0 : Int) ∧ false = false ∧ True) ∧ ((x_6.1.1, Pl.noTP, Pl.noTP, y.1, y.2, x_6.1.2.2.2.2.2.1,
 x_6.1.2.2.2.2.2.2).1 =
 (2 : Int) ∧ ByteArray.mk #[] = ByteArray.empty ∧ Is
 (AV.sl ((0 : Nat)) (2 : Nat) fun (i j : Nat) =>
 eT (Pl.Tree.mk ByteArray.empty []) j)
 (terms []) ∧ ByteArray.mk #[] = ByteArray.empty ∧ Is
 (AV.sl ((0 : Nat)) (2 : Nat) fun (i j : Nat) =>
 eT (Pl.Tree.mk ByteArray.empty []) j)
 (terms []) ∧ ((0 : Nat) = (0 : Nat) ∧ (y.1, y.2, x_6.1.2.2.2.2.2.1,
 x_6.1.2.2.2.2.2.2).1.length =
 x'.2.1.length) ∧ ((0 : Nat) = (0 : Nat) ∧ (y.2, x_6.1.2.2.2.2.2.1,
 x_6.1.2.2.2.2.2.2).1.length =
 x'.2.2.1.length) ∧ (x_6.1.2.2.2.2.2.1,
 x_6.1.2.2.2.2.2.2).1 =
 x'.2.2.2.1 ∧ (x_6.1.2.2.2.2.2.1,
 x_6.1.2.2.2.2.2.2).2 =
 x'.2.2.2.2.1 ∧ True) ∧ IsO (arT y.1) (arT x'.2.1) ∧ IsO (arI y.2) (arI x'.2.2.1) ∧ True) ∧ ∃ x_5 : List Int × Int × List Int,
 (Rd (1099511627776 : Int) x_5.1 x_5.2.1 ∧ x_5.2.2 ≠ [] ∧ Sz x_5.2.2) ∧ (((0 : Nat) = (0 : Nat) ∧ Is
 (AV.lit (6 : Nat) (1 : Nat)
 (rowsCell
 [[i64 (1 : Int)], [i64 (-1 : Int)], [i64 (1 : Int)], [i64 (-1 : Int)], [i64 (2 : Int)],
 [i64 (-2 : Int)]]))
 (ints x_5.2.2) ∧ True) ∧ (Is (byts x_4.1) (byts x_5.1) ∧ y.2 = x_5.2.1 ∧ True) ∧ True) ∧ ∀ (y_3 : Int),
 y_3 ∈ x_5.2.2 →
 (0 : Nat) + x.2.1.length ≤ x.2.1.length ∧ (0 : Nat) + x.2.2.1.length ≤ x.2.2.1.length ∧ (0 : Nat) + y.1.2.length ≤ y.1.2.length ∧ ∃ x_6 : Pl.Atm × Pl.TP × Int,
 (SmA x_6.1 ∧ SmT (Pl.Tree.mk x_6.2.1.1 x_6.2.1.2) ∧ x_6.1.2.2.2.1.length ≤ (100 : Nat) ∧ x_6.1.2.2.2.2.1.length = x_6.1.2.2.2.1.length) ∧ ((((2 : Int) = x_6.1.1 ∧ ByteArray.empty = x_6.1.2.1.1 ∧ Is
 (AV.sl ((0 : Nat)) (2 : Nat) fun (i j : Nat) =>
 eT (Pl.Tree.mk ByteArray.empty []) j)
 (terms x_6.1.2.1.2) ∧ ByteArray.empty = x_6.1.2.2.1.1 ∧ Is
 (AV.sl ((0 : Nat)) (2 : Nat) fun (i j : Nat) =>
 eT (Pl.Tree.mk ByteArray.empty []) j)
 (terms x_6.1.2.2.1.2) ∧ Is (terms x.2.1) (terms x_6.1.2.2.2.1) ∧ Is (ints x.2.2.1) (ints x_6.1.2.2.2.2.1) ∧ x.2.2.2.1 = x_6.1.2.2.2.2.2.1 ∧ x.2.2.2.2.1 = x_6.1.2.2.2.2.2.2 ∧ True) ∧ (y.1.1 = x_6.2.1.1 ∧ Is (terms y.1.2) (terms x_6.2.1.2) ∧ True) ∧ y_3 = x_6.2.2 ∧ True) ∧ True) ∧ ∀ (y : List Pl.Tm × List Int),
 Pl.PutB x_6.1.2.2.2.1 (Pl.Tree.mk x_6.2.1.1 x_6.2.1.2)
 (x_6.1.2.2.2.1.length + (1 : Nat)) y.1 y.2 →
 Exists fun (x' : Int × List Pl.Tm × List Int × Int × Bool × Int) =>
 ((0 : Int) ≤ x'.1 ∧ x'.1 ≤ (3 : Int) ∧ (↑x'.2.1.length : Int) + x'.1 ≤ (3 : Int) ∧ x'.2.2.1.length = x'.2.1.length ∧ (∀ (t : Pl.Tm), t ∈ x'.2.1 → Pl.costT t ≤ (400 : Nat)) ∧ p ≤ x'.2.2.2.2.2 ∧ x'.2.2.2.2.2 + (100 : Int) * x'.1 ≤ p + (310 : Int)) ∧ x'.1.toNat < x.1.toNat ∧ ((0 : Nat) = (0 : Nat) ∧ (0 : Nat) = (0 : Nat) ∧ (0 : Nat) = (0 : Nat) ∧ (0 : Nat) = (0 : Nat) ∧ IntKind.i64.wrap (x.1 - (1 : Int)) = x'.1 ∧ True) ∧ (Is (byts x_5.1) (byts b) ∧ x_5.2.1 + (1 : Int) = x'.2.2.2.2.2 ∧ True) ∧ (Is (syms s) (syms s) ∧ True) ∧ ((0 : Int) = (0 : Int) ∧ ByteArray.empty = ByteArray.empty ∧ Is (AV.lit (0 : Nat) (1 : Nat) fun (x x_7 : Nat) => AV.any)
 nilA ∧ ByteArray.empty = ByteArray.empty ∧ Is (AV.lit (0 : Nat) (1 : Nat) fun (x x_7 : Nat) => AV.any)
 nilA ∧ Is (AV.lit (0 : Nat) (1 : Nat) fun (x x_7 : Nat) => AV.any)
 nilA ∧ Is (AV.lit (0 : Nat) (1 : Nat) fun (x x_7 : Nat) => AV.any)
 nilA ∧ (0 : Int) = (0 : Int) ∧ false = false ∧ True) ∧ ((x_6.1.1, Pl.noTP, Pl.noTP, y.1, y.2, x_6.1.2.2.2.2.2.1,
 x_6.1.2.2.2.2.2.2).1 =
 (2 : Int) ∧ ByteArray.mk #[] = ByteArray.empty ∧ Is
 (AV.sl ((0 : Nat)) (2 : Nat) fun (i j : Nat) =>
 eT (Pl.Tree.mk ByteArray.empty []) j)
 (terms []) ∧ ByteArray.mk #[] = ByteArray.empty ∧ Is
 (AV.sl ((0 : Nat)) (2 : Nat) fun (i j : Nat) =>
 eT (Pl.Tree.mk ByteArray.empty []) j)
 (terms []) ∧ ((0 : Nat) = (0 : Nat) ∧ (y.1, y.2, x_6.1.2.2.2.2.2.1,
 x_6.1.2.2.2.2.2.2).1.length =
 x'.2.1.length) ∧ ((0 : Nat) = (0 : Nat) ∧ (y.2, x_6.1.2.2.2.2.2.1,
 x_6.1.2.2.2.2.2.2).1.length =
 x'.2.2.1.length) ∧ (x_6.1.2.2.2.2.2.1,
 x_6.1.2.2.2.2.2.2).1 =
 x'.2.2.2.1 ∧ (x_6.1.2.2.2.2.2.1,
 x_6.1.2.2.2.2.2.2).2 =
 x'.2.2.2.2.1 ∧ True) ∧ IsO (arT y.1) (arT x'.2.1) ∧ IsO (arI y.2) (arI x'.2.2.1) ∧ True)
 (∃ y : Pl.Atm × Int,
 (Pl.AtB (3 : Nat) y.1 ∧ p ≤ y.2 ∧ y.2 ≤ p + (500 : Int)) ∧ (((2 : Int) = y.1.1 ∧ ByteArray.empty = y.1.2.1.1 ∧ Is (AV.sl ((0 : Nat)) (2 : Nat) fun (i j : Nat) => eT (Pl.Tree.mk ByteArray.empty []) j) (terms y.1.2.1.2) ∧ ByteArray.empty = y.1.2.2.1.1 ∧ Is (AV.sl ((0 : Nat)) (2 : Nat) fun (i j : Nat) => eT (Pl.Tree.mk ByteArray.empty []) j) (terms y.1.2.2.1.2) ∧ ((0 : Nat) = (0 : Nat) ∧ x.2.1.length = y.1.2.2.2.1.length) ∧ ((0 : Nat) = (0 : Nat) ∧ x.2.2.1.length = y.1.2.2.2.2.1.length) ∧ x.2.2.2.1 = y.1.2.2.2.2.2.1 ∧ x.2.2.2.2.1 = y.1.2.2.2.2.2.2 ∧ True) ∧ True) ∧ (Is (byts b) (byts b) ∧ x.2.2.2.2.2 = y.2 ∧ True) ∧ IsO (arT x.2.1) (arT y.1.2.2.2.1) ∧ IsO (arI x.2.2.1) (arI y.1.2.2.2.2.1) ∧ True))) = Goal Tryd.prog [K_pick, K_num, K_lAny, K_l6Put] (A_l6Any b p s) K_l6Any.1 K_l6Any.2 ((b, p, s)) := by kernel_rfl

theorem vc_l6Some (b : List Int) (p : Int) (s : Pl.Sig) : (∃ x : BX,
 (Rd (68719476736 : Int) x.1 x.2.1 ∧ Pl.SgB (5 : Nat) (2 : Nat) x.2.2) ∧ (((0 : Nat) = (0 : Nat) ∧ (Is (syms s) (syms x.2.2) ∧ True) ∧ True) ∧ (Is (byts b) (byts x.1) ∧ p = x.2.1 ∧ True) ∧ True) ∧ ∀ (y : Pl.Atm × Int),
 Pl.AtB (3 : Nat) y.1 ∧ x.2.1 ≤ y.2 ∧ y.2 ≤ x.2.1 + (500 : Int) →
 ∃ x_1 : List Int × Int × Int,
 Rd (1099511627776 : Int) x_1.1 x_1.2.1 ∧ (((0 : Nat) = (0 : Nat) ∧ (80 : Int) = x_1.2.2 ∧ True) ∧ (Is (byts x.1) (byts x_1.1) ∧ y.2 = x_1.2.1 ∧ True) ∧ True) ∧ ∀ (y_1 : Int),
 ((1 : Int) ≤ x_1.2.2 → (0 : Int) ≤ y_1 ∧ y_1 < x_1.2.2) ∧ (x_1.2.2 < (1 : Int) → y_1 = (0 : Int)) →
 condP (y_1 == (0 : Int))
 (∃ x : List Int × Int × List Int,
 (Rd (1099511627776 : Int) x.1 x.2.1 ∧ x.2.2 ≠ [] ∧ Sz x.2.2) ∧ (((0 : Nat) = (0 : Nat) ∧ Is (AV.lit (4 : Nat) (1 : Nat) (rowsCell [[i64 (0 : Int)], [i64 (3 : Int)], [i64 (1 : Int)], [i64 (2 : Int)]])) (ints x.2.2) ∧ True) ∧ (Is (byts x_1.1) (byts x.1) ∧ x_1.2.1 + (1 : Int) = x.2.1 ∧ True) ∧ True) ∧ ∀ (y_2 : Int),
 y_2 ∈ x.2.2 →
 ∃ y_3 : Pl.Atm × Int,
 (Pl.AtB (4 : Nat) y_3.1 ∧ p ≤ y_3.2 ∧ y_3.2 ≤ p + (1500 : Int)) ∧ (0 : Nat) + y.1.2.2.2.1.length ≤ y.1.2.2.2.1.length ∧ (0 : Nat) + y.1.2.2.2.2.1.length ≤ y.1.2.2.2.2.1.length ∧ ((y_2 = y_3.1.1 ∧ y.1.2.1.1 = y_3.1.2.1.1 ∧ Is (terms y.1.2.1.2) (terms y_3.1.2.1.2) ∧ y.1.2.2.1.1 = y_3.1.2.2.1.1 ∧ Is (terms y.1.2.2.1.2) (terms y_3.1.2.2.1.2) ∧ Is (terms y.1.2.2.2.1) (terms y_3.1.2.2.2.1) ∧ Is (ints y.1.2.2.2.2.1) (ints y_3.1.2.2.2.2.1) ∧ y.1.2.2.2.2.2.1 = y_3.1.2.2.2.2.2.1 ∧ y.1.2.2.2.2.2.2 = y_3.1.2.2.2.2.2.2 ∧ True) ∧ True) ∧ (Is (byts x.1) (byts b) ∧ x.2.1 + (1 : Int) = y_3.2 ∧ True) ∧ True)
 (condP (y_1 == (1 : Int))
 (∃ x : List Int × Int × List Int,
 (Rd (1099511627776 : Int) x.1 x.2.1 ∧ x.2.2 ≠ [] ∧ Sz x.2.2) ∧ (((0 : Nat) = (0 : Nat) ∧ Is (AV.lit (3 : Nat) (1 : Nat) (rowsCell [[i64 (1001 : Int)], [i64 (-9223372036854775808 : Int)], [i64 (5 : Int)]])) (ints x.2.2) ∧ True) ∧ (Is (byts x_1.1) (byts x.1) ∧ x_1.2.1 + (1 : Int) = x.2.1 ∧ True) ∧ True) ∧ ∀ (y_2 : Int),
 y_2 ∈ x.2.2 →
 ∃ y_3 : Pl.Atm × Int,
 (Pl.AtB (4 : Nat) y_3.1 ∧ p ≤ y_3.2 ∧ y_3.2 ≤ p + (1500 : Int)) ∧ (0 : Nat) + y.1.2.2.2.1.length ≤ y.1.2.2.2.1.length ∧ (0 : Nat) + y.1.2.2.2.2.1.length ≤ y.1.2.2.2.2.1.length ∧ ((y.1.1 = y_3.1.1 ∧ y.1.2.1.1 = y_3.1.2.1.1 ∧ Is (terms y.1.2.1.2) (terms y_3.1.2.1.2) ∧ y.1.2.2.1.1 = y_3.1.2.2.1.1 ∧ Is (terms y.1.2.2.1.2) (terms y_3.1.2.2.1.2) ∧ Is (terms y.1.2.2.2.1) (terms y_3.1.2.2.2.1) ∧ Is (ints y.1.2.2.2.2.1) (ints y_3.1.2.2.2.2.1) ∧ y_2 = y_3.1.2.2.2.2.2.1 ∧ y.1.2.2.2.2.2.2 = y_3.1.2.2.2.2.2.2 ∧ True) ∧ True) ∧ (Is (byts x.1) (byts b) ∧ x.2.1 + (1 : Int) = y_3.2 ∧ True) ∧ True)
 (condP (y_1 == (2 : Int))
 (∃ x : BX,
 (Rd (68719476736 : Int) x.1 x.2.1 ∧ Pl.SgB (5 : Nat) (2 : Nat) x.2.2) ∧ (((0 : Nat) = (0 : Nat) ∧ (Is (syms s) (syms x.2.2) ∧ True) ∧ True) ∧ (Is (byts x_1.1) (byts x.1) ∧ x_1.2.1 + (1 : Int) = x.2.1 ∧ True) ∧ True) ∧ ∀ (y_2 : Pl.TP × Int),
 Pl.TmB (1500 : Nat) y_2.1 ∧ x.2.1 ≤ y_2.2 ∧ y_2.2 ≤ x.2.1 + (500 : Int) →
 ∃ y_3 : Pl.Atm × Int,
 (Pl.AtB (4 : Nat) y_3.1 ∧ p ≤ y_3.2 ∧ y_3.2 ≤ p + (1500 : Int)) ∧ (0 : Nat) + y.1.2.2.2.1.length ≤ y.1.2.2.2.1.length ∧ (0 : Nat) + y.1.2.2.2.2.1.length ≤ y.1.2.2.2.2.1.length ∧ ((y.1.1 = y_3.1.1 ∧ y_2.1.1 = y_3.1.2.1.1 ∧ Is (terms y_2.1.2) (terms y_3.1.2.1.2) ∧ y.1.2.2.1.1 = y_3.1.2.2.1.1 ∧ Is (terms y.1.2.2.1.2) (terms y_3.1.2.2.1.2) ∧ Is (terms y.1.2.2.2.1) (terms y_3.1.2.2.2.1) ∧ Is (ints y.1.2.2.2.2.1) (ints y_3.1.2.2.2.2.1) ∧ y.1.2.2.2.2.2.1 = y_3.1.2.2.2.2.2.1 ∧ y.1.2.2.2.2.2.2 = y_3.1.2.2.2.2.2.2 ∧ True) ∧ True) ∧ (Is (byts x.1) (byts b) ∧ y_2.2 = y_3.2 ∧ True) ∧ True)
 (condP (y_1 == (3 : Int))
 (condP (decide ((↑y.1.2.2.2.2.1.length : Int) > (0 : Int)))
 ((∃ x : List Int × Int × List Int,
 (Rd (1099511627776 : Int) x.1 x.2.1 ∧ x.2.2 ≠ [] ∧ Sz x.2.2) ∧ (((0 : Nat) = (0 : Nat) ∧ Is (AV.lit (3 : Nat) (1 : Nat) (rowsCell [[i64 (0 : Int)], [i64 (51 : Int)], [i64 (-9223372036854775808 : Int)]])) (ints x.2.2) ∧ True) ∧ (Is (byts x_1.1) (byts x.1) ∧ x_1.2.1 + (1 : Int) = x.2.1 ∧ True) ∧ True) ∧ ∀ (y_2 : Int),
 y_2 ∈ x.2.2 →
 ((0 : Int) ≤ (0 : Int) ∧ (0 : Int) < (↑y.1.2.2.2.2.1.length : Int)) ∧ (0 : Nat) < y.1.2.2.2.2.1.length ∧ ∃ y_3 : Pl.Atm × Int,
 (Pl.AtB (4 : Nat) y_3.1 ∧ p ≤ y_3.2 ∧ y_3.2 ≤ p + (1500 : Int)) ∧ (0 : Nat) + y.1.2.2.2.1.length ≤ y.1.2.2.2.1.length ∧ (0 : Nat) + y.1.2.2.2.2.1.length ≤ y.1.2.2.2.2.1.length ∧ ((y.1.1 = y_3.1.1 ∧ y.1.2.1.1 = y_3.1.2.1.1 ∧ Is (terms y.1.2.1.2) (terms y_3.1.2.1.2) ∧ y.1.2.2.1.1 = y_3.1.2.2.1.1 ∧ Is (terms y.1.2.2.1.2) (terms y_3.1.2.2.1.2) ∧ Is (terms y.1.2.2.2.1) (terms y_3.1.2.2.2.1) ∧ Is
 (AV.sl y.1.2.2.2.2.1.length (1 : Nat) fun (i j : Nat) =>
 storeC (cI y.1.2.2.2.2.1) (0 : Nat) (0 : Nat) [i64 y_2] i j)
 (ints y_3.1.2.2.2.2.1) ∧ y.1.2.2.2.2.2.1 = y_3.1.2.2.2.2.2.1 ∧ y.1.2.2.2.2.2.2 = y_3.1.2.2.2.2.2.2 ∧ True) ∧ True) ∧ (Is (byts x.1) (byts b) ∧ x.2.1 + (1 : Int) = y_3.2 ∧ True) ∧ True) ∧ ∃ x : List Int × Int × List Int,
 (Rd (1099511627776 : Int) x.1 x.2.1 ∧ x.2.2 ≠ [] ∧ Sz x.2.2) ∧ (((0 : Nat) = (0 : Nat) ∧ Is (AV.lit (3 : Nat) (1 : Nat) (rowsCell [[i64 (0 : Int)], [i64 (51 : Int)], [i64 (-9223372036854775808 : Int)]])) (ints x.2.2) ∧ True) ∧ (Is (byts x_1.1) (byts x.1) ∧ x_1.2.1 + (1 : Int) = x.2.1 ∧ True) ∧ True) ∧ ∀ (y_2 : Int),
 y_2 ∈ x.2.2 →
 ((0 : Int) ≤ (0 : Int) ∧ (0 : Int) < (↑y.1.2.2.2.2.1.length : Int)) ∧ (0 : Nat) < y.1.2.2.2.2.1.length ∧ ∃ y_3 : Pl.Atm × Int,
 (Pl.AtB (4 : Nat) y_3.1 ∧ p ≤ y_3.2 ∧ y_3.2 ≤ p + (1500 : Int)) ∧ (0 : Nat) + y.1.2.2.2.1.length ≤ y.1.2.2.2.1.length ∧ (0 : Nat) + y.1.2.2.2.2.1.length ≤ y.1.2.2.2.2.1.length ∧ ((y.1.1 = y_3.1.1 ∧ y.1.2.1.1 = y_3.1.2.1.1 ∧ Is (terms y.1.2.1.2) (terms y_3.1.2.1.2) ∧ y.1.2.2.1.1 = y_3.1.2.2.1.1 ∧ Is (terms y.1.2.2.1.2) (terms y_3.1.2.2.1.2) ∧ Is (terms y.1.2.2.2.1) (terms y_3.1.2.2.2.1) ∧ Is
 (AV.sl y.1.2.2.2.2.1.length (1 : Nat) fun (i j : Nat) =>
 storeC (cI y.1.2.2.2.2.1) (0 : Nat) (0 : Nat) [i64 y_2] i j)
 (ints y_3.1.2.2.2.2.1) ∧ y.1.2.2.2.2.2.1 = y_3.1.2.2.2.2.2.1 ∧ y.1.2.2.2.2.2.2 = y_3.1.2.2.2.2.2.2 ∧ True) ∧ True) ∧ (Is (byts x.1) (byts b) ∧ x.2.1 + (1 : Int) = y_3.2 ∧ True) ∧ True)
 (∃ y_2 : Pl.Atm × Int,
 (Pl.AtB (4 : Nat) y_2.1 ∧ p ≤ y_2.2 ∧ y_2.2 ≤ p + (1500 : Int)) ∧ (0 : Nat) + y.1.2.2.2.1.length ≤ y.1.2.2.2.1.length ∧ (0 : Nat) + y.1.2.2.2.2.1.length ≤ y.1.2.2.2.2.1.length ∧ ((y.1.1 = y_2.1.1 ∧ y.1.2.1.1 = y_2.1.2.1.1 ∧ Is (terms y.1.2.1.2) (terms y_2.1.2.1.2) ∧ y.1.2.2.1.1 = y_2.1.2.2.1.1 ∧ Is (terms y.1.2.2.1.2) (terms y_2.1.2.2.1.2) ∧ Is (terms y.1.2.2.2.1) (terms y_2.1.2.2.2.1) ∧ Is (ints y.1.2.2.2.2.1) (ints y_2.1.2.2.2.2.1) ∧ y.1.2.2.2.2.2.1 = y_2.1.2.2.2.2.2.1 ∧ y.1.2.2.2.2.2.2 = y_2.1.2.2.2.2.2.2 ∧ True) ∧ True) ∧ (Is (byts x_1.1) (byts b) ∧ x_1.2.1 + (1 : Int) = y_2.2 ∧ True) ∧ True))
 (condP (y_1 == (4 : Int))
 ((∃ x : AX,
 (Rd (137438953472 : Int) x.1 x.2.1 ∧ x.2.1 + (↑(Pl.CB x.2.2.2.2.toNat) : Int) ≤ (137438953472 : Int) ∧ Pl.SgB (5 : Nat) (2 : Nat) x.2.2.1 ∧ x.2.2.2.2 ≤ (4 : Int)) ∧ (((0 : Nat) = (0 : Nat) ∧ (Is (syms s) (syms x.2.2.1) ∧ True) ∧ (1 : Int) = x.2.2.2.1 ∧ (1 : Int) = x.2.2.2.2 ∧ True) ∧ (Is (byts x_1.1) (byts x.1) ∧ x_1.2.1 + (1 : Int) = x.2.1 ∧ True) ∧ True) ∧ ∀ (y_2 : Pl.TP × Int),
 Pl.TmB (Pl.CB x.2.2.2.2.toNat) y_2.1 ∧ x.2.1 ≤ y_2.2 ∧ y_2.2 ≤ x.2.1 + (↑(Pl.CB x.2.2.2.2.toNat) : Int) →
 (0 : Nat) + y_2.1.2.length ≤ y_2.1.2.length ∧ (0 : Nat) + y.1.2.2.2.1.length ≤ y.1.2.2.2.1.length ∧ (y.1.2.2.2.1.length + (1 : Nat)) * (40 : Nat) ≤ (70368744177664 : Nat) ∧ ∃ y_3 : Pl.Atm × Int,
 (Pl.AtB (4 : Nat) y_3.1 ∧ p ≤ y_3.2 ∧ y_3.2 ≤ p + (1500 : Int)) ∧ (0 : Nat) + (y.1.2.2.2.1.length + (1 : Nat)) ≤ y.1.2.2.2.1.length + (1 : Nat) ∧ (0 : Nat) + y.1.2.2.2.2.1.length ≤ y.1.2.2.2.2.1.length ∧ ((y.1.1 = y_3.1.1 ∧ y.1.2.1.1 = y_3.1.2.1.1 ∧ Is (terms y.1.2.1.2) (terms y_3.1.2.1.2) ∧ y.1.2.2.1.1 = y_3.1.2.2.1.1 ∧ Is (terms y.1.2.2.1.2) (terms y_3.1.2.2.1.2) ∧ Is
 (AV.sl (y.1.2.2.2.1.length + (1 : Nat)) (2 : Nat) fun (i j : Nat) =>
 joinC y.1.2.2.2.1.length (cT y.1.2.2.2.1)
 (rowsCell [[st y_2.1.1, terms y_2.1.2]]) i j)
 (terms y_3.1.2.2.2.1) ∧ Is (ints y.1.2.2.2.2.1) (ints y_3.1.2.2.2.2.1) ∧ y.1.2.2.2.2.2.1 = y_3.1.2.2.2.2.2.1 ∧ y.1.2.2.2.2.2.2 = y_3.1.2.2.2.2.2.2 ∧ True) ∧ True) ∧ (Is (byts x.1) (byts b) ∧ y_2.2 = y_3.2 ∧ True) ∧ True) ∧ ∃ x : AX,
 (Rd (137438953472 : Int) x.1 x.2.1 ∧ x.2.1 + (↑(Pl.CB x.2.2.2.2.toNat) : Int) ≤ (137438953472 : Int) ∧ Pl.SgB (5 : Nat) (2 : Nat) x.2.2.1 ∧ x.2.2.2.2 ≤ (4 : Int)) ∧ (((0 : Nat) = (0 : Nat) ∧ (Is (syms s) (syms x.2.2.1) ∧ True) ∧ (1 : Int) = x.2.2.2.1 ∧ (1 : Int) = x.2.2.2.2 ∧ True) ∧ (Is (byts x_1.1) (byts x.1) ∧ x_1.2.1 + (1 : Int) = x.2.1 ∧ True) ∧ True) ∧ ∀ (y_2 : Pl.TP × Int),
 Pl.TmB (Pl.CB x.2.2.2.2.toNat) y_2.1 ∧ x.2.1 ≤ y_2.2 ∧ y_2.2 ≤ x.2.1 + (↑(Pl.CB x.2.2.2.2.toNat) : Int) →
 (0 : Nat) + y_2.1.2.length ≤ y_2.1.2.length ∧ (0 : Nat) + y.1.2.2.2.1.length ≤ y.1.2.2.2.1.length ∧ (y.1.2.2.2.1.length + (1 : Nat)) * (40 : Nat) ≤ (70368744177664 : Nat) ∧ ∃ y_3 : Pl.Atm × Int,
 (Pl.AtB (4 : Nat) y_3.1 ∧ p ≤ y_3.2 ∧ y_3.2 ≤ p + (1500 : Int)) ∧ (0 : Nat) + (y.1.2.2.2.1.length + (1 : Nat)) ≤ y.1.2.2.2.1.length + (1 : Nat) ∧ (0 : Nat) + y.1.2.2.2.2.1.length ≤ y.1.2.2.2.2.1.length ∧ ((y.1.1 = y_3.1.1 ∧ y.1.2.1.1 = y_3.1.2.1.1 ∧ Is (terms y.1.2.1.2) (terms y_3.1.2.1.2) ∧ y.1.2.2.1.1 = y_3.1.2.2.1.1 ∧ Is (terms y.1.2.2.1.2) (terms y_3.1.2.2.1.2) ∧ Is
 (AV.sl (y.1.2.2.2.1.length + (1 : Nat)) (2 : Nat) fun (i j : Nat) =>
 joinC y.1.2.2.2.1.length (cT y.1.2.2.2.1)
 (rowsCell [[st y_2.1.1, terms y_2.1.2]]) i j)
 (terms y_3.1.2.2.2.1) ∧ Is (ints y.1.2.2.2.2.1) (ints y_3.1.2.2.2.2.1) ∧ y.1.2.2.2.2.2.1 = y_3.1.2.2.2.2.2.1 ∧ y.1.2.2.2.2.2.2 = y_3.1.2.2.2.2.2.2 ∧ True) ∧ True) ∧ (Is (byts x.1) (byts b) ∧ y_2.2 = y_3.2 ∧ True) ∧ True)
 (∃ y_2 : Pl.Atm × Int,
 (Pl.AtB (4 : Nat) y_2.1 ∧ p ≤ y_2.2 ∧ y_2.2 ≤ p + (1500 : Int)) ∧ (0 : Nat) + y.1.2.2.2.1.length ≤ y.1.2.2.2.1.length ∧ (0 : Nat) + y.1.2.2.2.2.1.length ≤ y.1.2.2.2.2.1.length ∧ ((y.1.1 = y_2.1.1 ∧ y.1.2.1.1 = y_2.1.2.1.1 ∧ Is (terms y.1.2.1.2) (terms y_2.1.2.1.2) ∧ y.1.2.2.1.1 = y_2.1.2.2.1.1 ∧ Is (terms y.1.2.2.1.2) (terms y_2.1.2.2.1.2) ∧ Is (terms y.1.2.2.2.1) (terms y_2.1.2.2.2.1) ∧ Is (ints y.1.2.2.2.2.1) (ints y_2.1.2.2.2.2.1) ∧ y.1.2.2.2.2.2.1 = y_2.1.2.2.2.2.2.1 ∧ y.1.2.2.2.2.2.2 = y_2.1.2.2.2.2.2.2 ∧ True) ∧ True) ∧ (Is (byts x_1.1) (byts b) ∧ x_1.2.1 + (1 : Int) = y_2.2 ∧ True) ∧ True)))))) = Goal Tryd.prog [K_l6Any, K_pick, K_num, K_l4Some, K_lAny] ([]) K_l6Some.1 K_l6Some.2 ((b, p, s)) := by kernel_rfl

end Cg

/-
  What is left to show of each function's code, printed by a program: Mtd. No condition.
-/
set_option maxRecDepth 100000
set_option linter.unusedVariables false
namespace Cg
open Go Go.Proofs
theorem vc_l4Copy (n : Nat) (v : ByteArray) (ks : List Pl.Tm) : ((∃ x : Nat,
 x ≤ ks.length ∧ ((0 : Nat) = (0 : Nat) ∧ (0 : Nat) = (0 : Nat) ∧ (0 : Nat) = (0 : Nat) ∧ (0 : Int) = (↑x : Int) ∧ True) ∧ (v = v ∧ Is (terms ks) (terms ks) ∧ True) ∧ (ByteArray.mk #[] = ByteArray.empty ∧ Is (AV.lit (0 : Nat) (1 : Nat) fun (x x_1 : Nat) => AV.any) nilA ∧ True) ∧ (v = v ∧ ((0 : Nat) = (0 : Nat) ∧ (0 : Nat) = (0 : Nat) ∧ (List.take x ks).length = (0 : Nat)) ∧ True) ∧ (List.take x ks).length = (0 : Nat) ∧ True) ∧ ∀ (x : Nat),
 x ≤ ks.length →
 condP (decide ((↑x : Int) < (↑ks.length : Int)))
 (((0 : Int) ≤ (↑x : Int) ∧ (↑x : Int) < (↑ks.length : Int)) ∧ x < ks.length ∧ ∃ x_1 : Pl.TP,
 ((Pl.Tree.val (ks.getD x Pl.dT) = x_1.1 ∧ Is (kidsT (ks.getD x Pl.dT)) (terms x_1.2) ∧ True) ∧ True) ∧ (SmT (Pl.Tree.mk x_1.1 x_1.2) ∧ Pl.manyL x_1.2 < n) ∧ (0 : Nat) + (List.take x ks).length ≤ (List.take x ks).length ∧ ((List.take x ks).length + (1 : Nat)) * (40 : Nat) ≤ (70368744177664 : Nat) ∧ Exists fun (x' : Nat) =>
 x' ≤ ks.length ∧ ks.length - x' < ks.length - x ∧ ((0 : Nat) = (0 : Nat) ∧ (0 : Nat) = (0 : Nat) ∧ (0 : Nat) = (0 : Nat) ∧ IntKind.i64.wrap ((↑x : Int) + (1 : Int)) = (↑x' : Int) ∧ True) ∧ (v = v ∧ Is (terms ks) (terms ks) ∧ True) ∧ (ByteArray.empty = ByteArray.empty ∧ Is (AV.lit (0 : Nat) (1 : Nat) fun (x x_2 : Nat) => AV.any) nilA ∧ True) ∧ (v = v ∧ ((0 : Nat) = (0 : Nat) ∧ (List.take x ks).length + (1 : Nat) = (List.take x' ks).length) ∧ True) ∧ IsO
 (AObj.arr ((List.take x ks).length + (1 : Nat)) (2 : Nat)
 (joinC (List.take x ks).length (cT (List.take x ks)) (rowsCell [[st x_1.1, terms x_1.2]])))
 (arT (List.take x' ks)) ∧ True)
 ((0 : Nat) + (List.take x ks).length ≤ (List.take x ks).length ∧ v = v ∧ Is (terms (List.take x ks)) (terms ks) ∧ True)) = Goal Tryd.prog [(K_l4Copy n)] (A_l4Copy v ks) (K_l4Copy (n + 1)).1 (K_l4Copy (n + 1)).2 ((v, ks)) := by kernel_rfl

theorem vc_l4CopyO (v : ByteArray) (ks : List Pl.Tm) : ((∃ x : Nat,
 x ≤ ks.length ∧ ((0 : Nat) = (0 : Nat) ∧ (0 : Nat) = (0 : Nat) ∧ (0 : Nat) = (0 : Nat) ∧ (0 : Int) = (↑x : Int) ∧ True) ∧ IsO (arT ks) (arT ks) ∧ (v = v ∧ ((0 : Nat) = (0 : Nat) ∧ ks.length = ks.length) ∧ True) ∧ (ByteArray.mk #[] = ByteArray.empty ∧ Is (AV.lit (0 : Nat) (1 : Nat) fun (x x_1 : Nat) => AV.any) nilA ∧ True) ∧ (v = v ∧ ((0 : Nat) = (0 : Nat) ∧ (0 : Nat) = (0 : Nat) ∧ (List.take x ks).length = (0 : Nat)) ∧ True) ∧ (List.take x ks).length = (0 : Nat) ∧ True) ∧ ∀ (x : Nat),
 x ≤ ks.length →
 condP (decide ((↑x : Int) < (↑ks.length : Int)))
 (((0 : Int) ≤ (↑x : Int) ∧ (↑x : Int) < (↑ks.length : Int)) ∧ x < ks.length ∧ ∃ x_1 : Pl.TP,
 ((Pl.Tree.val (ks.getD x Pl.dT) = x_1.1 ∧ Is (kidsT (ks.getD x Pl.dT)) (terms x_1.2) ∧ True) ∧ True) ∧ SmT (Pl.Tree.mk x_1.1 x_1.2) ∧ (0 : Nat) + (List.take x ks).length ≤ (List.take x ks).length ∧ ((List.take x ks).length + (1 : Nat)) * (40 : Nat) ≤ (70368744177664 : Nat) ∧ Exists fun (x' : Nat) =>
 x' ≤ ks.length ∧ ks.length - x' < ks.length - x ∧ ((0 : Nat) = (0 : Nat) ∧ (0 : Nat) = (0 : Nat) ∧ (0 : Nat) = (0 : Nat) ∧ IntKind.i64.wrap ((↑x : Int) + (1 : Int)) = (↑x' : Int) ∧ True) ∧ IsO (arT ks) (arT ks) ∧ (v = v ∧ ((0 : Nat) = (0 : Nat) ∧ ks.length = ks.length) ∧ True) ∧ (ByteArray.empty = ByteArray.empty ∧ Is (AV.lit (0 : Nat) (1 : Nat) fun (x x_2 : Nat) => AV.any) nilA ∧ True) ∧ (v = v ∧ ((0 : Nat) = (0 : Nat) ∧ (List.take x ks).length + (1 : Nat) = (List.take x' ks).length) ∧ True) ∧ IsO
 (AObj.arr ((List.take x ks).length + (1 : Nat)) (2 : Nat)
 (joinC (List.take x ks).length (cT (List.take x ks)) (rowsCell [[st x_1.1, terms x_1.2]])))
 (arT (List.take x' ks)) ∧ True)
 (∃ y : Unit,
 True ∧ (0 : Nat) + (List.take x ks).length ≤ (List.take x ks).length ∧ ((v = v ∧ Is (terms (List.take x ks)) (terms ks) ∧ True) ∧ True) ∧ IsO (arT ks) (arT ks) ∧ True)) = Goal Tryd.prog [K_lCopy] (A_l4CopyO v ks) K_l4CopyO.1 K_l4CopyO.2 ((v, ks)) := by kernel_rfl

theorem vc_l4Any (n : Nat) (b : List Int) (p : Int) (s : Pl.Sig) (u d : Int) : ((∃ x : Nat × List Pl.Sym,
 (x.1 ≤ List.length s ∧ x.2.length ≤ x.1 ∧ Pl.WdB d x.2) ∧ ((0 : Nat) = (0 : Nat) ∧ u = u ∧ d = d ∧ (0 : Nat) = (0 : Nat) ∧ (0 : Nat) = (0 : Nat) ∧ ((0 : Nat) = (0 : Nat) ∧ (0 : Nat) = (0 : Nat) ∧ x.2.length = (0 : Nat)) ∧ (0 : Int) = (↑x.1 : Int) ∧ True) ∧ (Is (byts b) (byts b) ∧ p = p ∧ True) ∧ (Is (syms s) (syms s) ∧ True) ∧ (ByteArray.mk #[] = ByteArray.empty ∧ Is (AV.lit (0 : Nat) (1 : Nat) fun (x x_1 : Nat) => AV.any) nilA ∧ True) ∧ x.2.length = (0 : Nat) ∧ True) ∧ ∀ (x : Nat × List Pl.Sym),
 x.1 ≤ List.length s ∧ x.2.length ≤ x.1 ∧ Pl.WdB d x.2 →
 condP (decide ((↑x.1 : Int) < (↑(List.length s) : Int)))
 (((0 : Int) ≤ (↑x.1 : Int) ∧ (↑x.1 : Int) < (↑(List.length s) : Int)) ∧ x.1 < List.length s ∧ condP ((List.getD s x.1 Pl.dY).2.2 == u)
 (condP (decide (d > (1 : Int)))
 (((0 : Int) ≤ (↑x.1 : Int) ∧ (↑x.1 : Int) < (↑(List.length s) : Int)) ∧ x.1 < List.length s ∧ (0 : Nat) + x.2.length ≤ x.2.length ∧ (x.2.length + (1 : Nat)) * (48 : Nat) ≤ (70368744177664 : Nat) ∧ Exists fun (x' : Nat × List Pl.Sym) =>
 (x'.1 ≤ List.length s ∧ x'.2.length ≤ x'.1 ∧ Pl.WdB d x'.2) ∧ List.length s - x'.1 < List.length s - x.1 ∧ ((0 : Nat) = (0 : Nat) ∧ u = u ∧ d = d ∧ (0 : Nat) = (0 : Nat) ∧ (0 : Nat) = (0 : Nat) ∧ ((0 : Nat) = (0 : Nat) ∧ x.2.length + (1 : Nat) = x'.2.length) ∧ IntKind.i64.wrap ((↑x.1 : Int) + (1 : Int)) = (↑x'.1 : Int) ∧ True) ∧ (Is (byts b) (byts b) ∧ p = p ∧ True) ∧ (Is (syms s) (syms s) ∧ True) ∧ (ByteArray.empty = ByteArray.empty ∧ Is (AV.lit (0 : Nat) (1 : Nat) fun (x x_1 : Nat) => AV.any) nilA ∧ True) ∧ IsO
 (AObj.arr (x.2.length + (1 : Nat)) (3 : Nat)
 (joinC x.2.length (cY x.2)
 (rowsCell [[st (List.getD s x.1 Pl.dY).1, ints (List.getD s x.1 Pl.dY).2.1, i64 (List.getD s x.1 Pl.dY).2.2]])))
 (arY x'.2) ∧ True)
 (((0 : Int) ≤ (↑x.1 : Int) ∧ (↑x.1 : Int) < (↑(List.length s) : Int)) ∧ x.1 < List.length s ∧ condP ((↑(List.getD s x.1 Pl.dY).2.1.length : Int) == (0 : Int))
 (((0 : Int) ≤ (↑x.1 : Int) ∧ (↑x.1 : Int) < (↑(List.length s) : Int)) ∧ x.1 < List.length s ∧ (0 : Nat) + x.2.length ≤ x.2.length ∧ (x.2.length + (1 : Nat)) * (48 : Nat) ≤ (70368744177664 : Nat) ∧ Exists fun (x' : Nat × List Pl.Sym) =>
 (x'.1 ≤ List.length s ∧ x'.2.length ≤ x'.1 ∧ Pl.WdB d x'.2) ∧ List.length s - x'.1 < List.length s - x.1 ∧ ((0 : Nat) = (0 : Nat) ∧ u = u ∧ d = d ∧ (0 : Nat) = (0 : Nat) ∧ (0 : Nat) = (0 : Nat) ∧ ((0 : Nat) = (0 : Nat) ∧ x.2.length + (1 : Nat) = x'.2.length) ∧ IntKind.i64.wrap ((↑x.1 : Int) + (1 : Int)) = (↑x'.1 : Int) ∧ True) ∧ (Is (byts b) (byts b) ∧ p = p ∧ True) ∧ (Is (syms s) (syms s) ∧ True) ∧ (ByteArray.empty = ByteArray.empty ∧ Is (AV.lit (0 : Nat) (1 : Nat) fun (x x_1 : Nat) => AV.any) nilA ∧ True) ∧ IsO
 (AObj.arr (x.2.length + (1 : Nat)) (3 : Nat)
 (joinC x.2.length (cY x.2)
 (rowsCell [[st (List.getD s x.1 Pl.dY).1, ints (List.getD s x.1 Pl.dY).2.1, i64 (List.getD s x.1 Pl.dY).2.2]])))
 (arY x'.2) ∧ True)
 (Exists fun (x' : Nat × List Pl.Sym) =>
 (x'.1 ≤ List.length s ∧ x'.2.length ≤ x'.1 ∧ Pl.WdB d x'.2) ∧ List.length s - x'.1 < List.length s - x.1 ∧ ((0 : Nat) = (0 : Nat) ∧ u = u ∧ d = d ∧ (0 : Nat) = (0 : Nat) ∧ (0 : Nat) = (0 : Nat) ∧ ((0 : Nat) = (0 : Nat) ∧ x.2.length = x'.2.length) ∧ IntKind.i64.wrap ((↑x.1 : Int) + (1 : Int)) = (↑x'.1 : Int) ∧ True) ∧ (Is (byts b) (byts b) ∧ p = p ∧ True) ∧ (Is (syms s) (syms s) ∧ True) ∧ (ByteArray.empty = ByteArray.empty ∧ Is (AV.lit (0 : Nat) (1 : Nat) fun (x x_1 : Nat) => AV.any) nilA ∧ True) ∧ IsO (arY x.2) (arY x'.2) ∧ True)))
 (Exists fun (x' : Nat × List Pl.Sym) =>
 (x'.1 ≤ List.length s ∧ x'.2.length ≤ x'.1 ∧ Pl.WdB d x'.2) ∧ List.length s - x'.1 < List.length s - x.1 ∧ ((0 : Nat) = (0 : Nat) ∧ u = u ∧ d = d ∧ (0 : Nat) = (0 : Nat) ∧ (0 : Nat) = (0 : Nat) ∧ ((0 : Nat) = (0 : Nat) ∧ x.2.length = x'.2.length) ∧ IntKind.i64.wrap ((↑x.1 : Int) + (1 : Int)) = (↑x'.1 : Int) ∧ True) ∧ (Is (byts b) (byts b) ∧ p = p ∧ True) ∧ (Is (syms s) (syms s) ∧ True) ∧ (ByteArray.empty = ByteArray.empty ∧ Is (AV.lit (0 : Nat) (1 : Nat) fun (x x_1 : Nat) => AV.any) nilA ∧ True) ∧ IsO (arY x.2) (arY x'.2) ∧ True))
 (condP ((↑x.2.length : Int) == (0 : Int))
 (∃ y : Pl.TP × Int,
 (Pl.TmB (Pl.CB d.toNat) y.1 ∧ p ≤ y.2 ∧ y.2 ≤ p + (↑(Pl.CB d.toNat) : Int)) ∧ ((ByteArray.mk #[(113 : UInt8)] = y.1.1 ∧ ((0 : Nat) = (0 : Nat) ∧ (0 : Nat) = (0 : Nat) ∧ y.1.2.length = (0 : Nat)) ∧ True) ∧ True) ∧ (Is (byts b) (byts b) ∧ p = y.2 ∧ True) ∧ y.1.2.length = (0 : Nat) ∧ True)
 (∃ x_1 : List Int × Int × Int,
 Rd (1099511627776 : Int) x_1.1 x_1.2.1 ∧ (((0 : Nat) = (0 : Nat) ∧ (↑x.2.length : Int) = x_1.2.2 ∧ True) ∧ (Is (byts b) (byts x_1.1) ∧ p = x_1.2.1 ∧ True) ∧ True) ∧ ∀ (y : Int),
 ((1 : Int) ≤ x_1.2.2 → (0 : Int) ≤ y ∧ y < x_1.2.2) ∧ (x_1.2.2 < (1 : Int) → y = (0 : Int)) →
 ((0 : Int) ≤ y ∧ y < (↑x.2.length : Int)) ∧ y.toNat < x.2.length ∧ (∃ x_2 : Pl.Sym × Nat × List Pl.Tm × Int,
 (Pl.WdB d [x_2.1] ∧ x_2.2.1 ≤ x_2.1.2.1.length ∧ x_2.2.2.1.length = x_2.2.1 ∧ Pl.costTs x_2.2.2.1 ≤ x_2.2.1 * Pl.CB (d - (1 : Int)).toNat ∧ p ≤ x_2.2.2.2 ∧ x_2.2.2.2 ≤ p + (1 : Int) + (↑x_2.2.1 : Int) * (↑(Pl.CB (d - (1 : Int)).toNat) : Int)) ∧ ((0 : Nat) = (0 : Nat) ∧ d = d ∧ (0 : Nat) = (0 : Nat) ∧ (0 : Nat) = (0 : Nat) ∧ (0 : Nat) = (0 : Nat) ∧ (0 : Nat) = (0 : Nat) ∧ (0 : Int) = (↑x_2.2.1 : Int) ∧ True) ∧ (Is (byts x_1.1) (byts b) ∧ x_1.2.1 + (1 : Int) = x_2.2.2.2 ∧ True) ∧ (Is (syms s) (syms s) ∧ True) ∧ (ByteArray.empty = ByteArray.empty ∧ Is (AV.lit (0 : Nat) (1 : Nat) fun (x x_3 : Nat) => AV.any) nilA ∧ True) ∧ ((x.2.getD y.toNat Pl.dY).1 = x_2.1.1 ∧ Is (ints (x.2.getD y.toNat Pl.dY).2.1) (ints x_2.1.2.1) ∧ (x.2.getD y.toNat Pl.dY).2.2 = x_2.1.2.2 ∧ True) ∧ ((x.2.getD y.toNat Pl.dY).1 = x_2.1.1 ∧ ((0 : Nat) = (0 : Nat) ∧ (0 : Nat) = (0 : Nat) ∧ x_2.2.2.1.length = (0 : Nat)) ∧ True) ∧ x_2.2.2.1.length = (0 : Nat) ∧ True) ∧ ∀ (x : Pl.Sym × Nat × List Pl.Tm × Int),
 Pl.WdB d [x.1] ∧ x.2.1 ≤ x.1.2.1.length ∧ x.2.2.1.length = x.2.1 ∧ Pl.costTs x.2.2.1 ≤ x.2.1 * Pl.CB (d - (1 : Int)).toNat ∧ p ≤ x.2.2.2 ∧ x.2.2.2 ≤ p + (1 : Int) + (↑x.2.1 : Int) * (↑(Pl.CB (d - (1 : Int)).toNat) : Int) →
 condP (decide ((↑x.2.1 : Int) < (↑x.1.2.1.length : Int)))
 ((((0 : Int) ≤ (↑x.2.1 : Int) ∧ (↑x.2.1 : Int) < (↑x.1.2.1.length : Int)) ∧ x.2.1 < x.1.2.1.length ∧ ∃ x_2 : AX,
 ((Rd (137438953472 : Int) x_2.1 x_2.2.1 ∧ x_2.2.1 + (↑(Pl.CB x_2.2.2.2.2.toNat) : Int) ≤ (137438953472 : Int) ∧ Pl.SgB (5 : Nat) (2 : Nat) x_2.2.2.1 ∧ x_2.2.2.2.2 ≤ (4 : Int)) ∧ x_2.2.2.2.2.toNat < n) ∧ (((0 : Nat) = (0 : Nat) ∧ (Is (syms s) (syms x_2.2.2.1) ∧ True) ∧ x.1.2.1.getD x.2.1 (0 : Int) = x_2.2.2.2.1 ∧ IntKind.i64.wrap (d - (1 : Int)) = x_2.2.2.2.2 ∧ True) ∧ (Is (byts b) (byts x_2.1) ∧ x.2.2.2 = x_2.2.1 ∧ True) ∧ True) ∧ ∀ (y : Pl.TP × Int),
 Pl.TmB (Pl.CB x_2.2.2.2.2.toNat) y.1 ∧ x_2.2.1 ≤ y.2 ∧ y.2 ≤ x_2.2.1 + (↑(Pl.CB x_2.2.2.2.2.toNat) : Int) →
 (0 : Nat) + y.1.2.length ≤ y.1.2.length ∧ (0 : Nat) + x.2.2.1.length ≤ x.2.2.1.length ∧ (x.2.2.1.length + (1 : Nat)) * (40 : Nat) ≤ (70368744177664 : Nat) ∧ Exists fun (x' : Pl.Sym × Nat × List Pl.Tm × Int) =>
 (Pl.WdB d [x'.1] ∧ x'.2.1 ≤ x'.1.2.1.length ∧ x'.2.2.1.length = x'.2.1 ∧ Pl.costTs x'.2.2.1 ≤ x'.2.1 * Pl.CB (d - (1 : Int)).toNat ∧ p ≤ x'.2.2.2 ∧ x'.2.2.2 ≤ p + (1 : Int) + (↑x'.2.1 : Int) * (↑(Pl.CB (d - (1 : Int)).toNat) : Int)) ∧ x'.1.2.1.length - x'.2.1 < x.1.2.1.length - x.2.1 ∧ ((0 : Nat) = (0 : Nat) ∧ d = d ∧ (0 : Nat) = (0 : Nat) ∧ (0 : Nat) = (0 : Nat) ∧ (0 : Nat) = (0 : Nat) ∧ (0 : Nat) = (0 : Nat) ∧ IntKind.i64.wrap ((↑x.2.1 : Int) + (1 : Int)) = (↑x'.2.1 : Int) ∧ True) ∧ (Is (byts x_2.1) (byts b) ∧ y.2 = x'.2.2.2 ∧ True) ∧ (Is (syms s) (syms s) ∧ True) ∧ (ByteArray.empty = ByteArray.empty ∧ Is (AV.lit (0 : Nat) (1 : Nat) fun (x x_3 : Nat) => AV.any) nilA ∧ True) ∧ (x.1.1 = x'.1.1 ∧ Is (ints x.1.2.1) (ints x'.1.2.1) ∧ x.1.2.2 = x'.1.2.2 ∧ True) ∧ (x.1.1 = x'.1.1 ∧ ((0 : Nat) = (0 : Nat) ∧ x.2.2.1.length + (1 : Nat) = x'.2.2.1.length) ∧ True) ∧ IsO
 (AObj.arr (x.2.2.1.length + (1 : Nat)) (2 : Nat)
 (joinC x.2.2.1.length (cT x.2.2.1) (rowsCell [[st y.1.1, terms y.1.2]])))
 (arT x'.2.2.1) ∧ True) ∧ ((0 : Int) ≤ (↑x.2.1 : Int) ∧ (↑x.2.1 : Int) < (↑x.1.2.1.length : Int)) ∧ x.2.1 < x.1.2.1.length ∧ (∃ x_2 : AX,
 ((Rd (137438953472 : Int) x_2.1 x_2.2.1 ∧ x_2.2.1 + (↑(Pl.CB x_2.2.2.2.2.toNat) : Int) ≤ (137438953472 : Int) ∧ Pl.SgB (5 : Nat) (2 : Nat) x_2.2.2.1 ∧ x_2.2.2.2.2 ≤ (4 : Int)) ∧ x_2.2.2.2.2.toNat < n) ∧ (((0 : Nat) = (0 : Nat) ∧ (Is (syms s) (syms x_2.2.2.1) ∧ True) ∧ x.1.2.1.getD x.2.1 (0 : Int) = x_2.2.2.2.1 ∧ IntKind.i64.wrap (d - (1 : Int)) = x_2.2.2.2.2 ∧ True) ∧ (Is (byts b) (byts x_2.1) ∧ x.2.2.2 = x_2.2.1 ∧ True) ∧ True) ∧ ∀ (y : Pl.TP × Int),
 Pl.TmB (Pl.CB x_2.2.2.2.2.toNat) y.1 ∧ x_2.2.1 ≤ y.2 ∧ y.2 ≤ x_2.2.1 + (↑(Pl.CB x_2.2.2.2.2.toNat) : Int) →
 (0 : Nat) + y.1.2.length ≤ y.1.2.length ∧ (0 : Nat) + x.2.2.1.length ≤ x.2.2.1.length ∧ (x.2.2.1.length + (1 : Nat)) * (40 : Nat) ≤ (70368744177664 : Nat) ∧ Exists fun (x' : Pl.Sym × Nat × List Pl.Tm × Int) =>
 (Pl.WdB d [x'.1] ∧ x'.2.1 ≤ x'.1.2.1.length ∧ x'.2.2.1.length = x'.2.1 ∧ Pl.costTs x'.2.2.1 ≤ x'.2.1 * Pl.CB (d - (1 : Int)).toNat ∧ p ≤ x'.2.2.2 ∧ x'.2.2.2 ≤ p + (1 : Int) + (↑x'.2.1 : Int) * (↑(Pl.CB (d - (1 : Int)).toNat) : Int)) ∧ x'.1.2.1.length - x'.2.1 < x.1.2.1.length - x.2.1 ∧ ((0 : Nat) = (0 : Nat) ∧ d = d ∧ (0 : Nat) = (0 : Nat) ∧ (0 : Nat) = (0 : Nat) ∧ (0 : Nat) = (0 : Nat) ∧ (0 : Nat) = (0 : Nat) ∧ IntKind.i64.wrap ((↑x.2.1 : Int) + (1 : Int)) = (↑x'.2.1 : Int) ∧ True) ∧ (Is (byts x_2.1) (byts b) ∧ y.2 = x'.2.2.2 ∧ True) ∧ (Is (syms s) (syms s) ∧ True) ∧ (ByteArray.empty = ByteArray.empty ∧ Is (AV.lit (0 : Nat) (1 : Nat) fun (x x_3 : Nat) => AV.any) nilA ∧ True) ∧ (x.1.1 = x'.1.1 ∧ Is (ints x.1.2.1) (ints x'.1.2.1) ∧ x.1.2.2 = x'.1.2.2 ∧ True) ∧ (x.1.1 = x'.1.1 ∧ ((0 : Nat) = (0 : Nat) ∧ x.2.2.1.length + (1 : Nat) = x'.2.2.1.length) ∧ True) ∧ IsO
 (AObj.arr (x.2.2.1.length + (1 : Nat)) (2 : Nat)
 (joinC x.2.2.1.length (cT x.2.2.1) (rowsCell [[st y.1.1, terms y.1.2]])))
 (arT x'.2.2.1) ∧ True) ∧ ∃ x_2 : AX,
 ((Rd (137438953472 : Int) x_2.1 x_2.2.1 ∧ x_2.2.1 + (↑(Pl.CB x_2.2.2.2.2.toNat) : Int) ≤ (137438953472 : Int) ∧ Pl.SgB (5 : Nat) (2 : Nat) x_2.2.2.1 ∧ x_2.2.2.2.2 ≤ (4 : Int)) ∧ x_2.2.2.2.2.toNat < n) ∧ (((0 : Nat) = (0 : Nat) ∧ (Is (syms s) (syms x_2.2.2.1) ∧ True) ∧ x.1.2.1.getD x.2.1 (0 : Int) = x_2.2.2.2.1 ∧ IntKind.i64.wrap (d - (1 : Int)) = x_2.2.2.2.2 ∧ True) ∧ (Is (byts b) (byts x_2.1) ∧ x.2.2.2 = x_2.2.1 ∧ True) ∧ True) ∧ ∀ (y : Pl.TP × Int),
 Pl.TmB (Pl.CB x_2.2.2.2.2.toNat) y.1 ∧ x_2.2.1 ≤ y.2 ∧ y.2 ≤ x_2.2.1 + (↑(Pl.CB x_2.2.2.2.2.toNat) : Int) →
 (0 : Nat) + y.1.2.length ≤ y.1.2.length ∧ (0 : Nat) + x.2.2.1.length ≤ x.2.2.1.length ∧ (x.2.2.1.length + (1 : Nat)) * (40 : Nat) ≤ (70368744177664 : Nat) ∧ Exists fun (x' : Pl.Sym × Nat × List Pl.Tm × Int) =>
 (Pl.WdB d [x'.1] ∧ x'.2.1 ≤ x'.1.2.1.length ∧ x'.2.2.1.length = x'.2.1 ∧ Pl.costTs x'.2.2.1 ≤ x'.2.1 * Pl.CB (d - (1 : Int)).toNat ∧ p ≤ x'.2.2.2 ∧ x'.2.2.2 ≤ p + (1 : Int) + (↑x'.2.1 : Int) * (↑(Pl.CB (d - (1 : Int)).toNat) : Int)) ∧ x'.1.2.1.length - x'.2.1 < x.1.2.1.length - x.2.1 ∧ ((0 : Nat) = (0 : Nat) ∧ d = d ∧ (0 : Nat) = (0 : Nat) ∧ (0 : Nat) = (0 : Nat) ∧ (0 : Nat) = (0 : Nat) ∧ (0 : Nat) = (0 : Nat) ∧ IntKind.i64.wrap ((↑x.2.1 : Int) + (1 : Int)) = (↑x'.2.1 : Int) ∧ True) ∧ (Is (byts x_2.1) (byts b) ∧ y.2 = x'.2.2.2 ∧ True) ∧ (Is (syms s) (syms s) ∧ True) ∧ (ByteArray.empty = ByteArray.empty ∧ Is (AV.lit (0 : Nat) (1 : Nat) fun (x x_3 : Nat) => AV.any) nilA ∧ True) ∧ (x.1.1 = x'.1.1 ∧ Is (ints x.1.2.1) (ints x'.1.2.1) ∧ x.1.2.2 = x'.1.2.2 ∧ True) ∧ (x.1.1 = x'.1.1 ∧ ((0 : Nat) = (0 : Nat) ∧ x.2.2.1.length + (1 : Nat) = x'.2.2.1.length) ∧ True) ∧ IsO
 (AObj.arr (x.2.2.1.length + (1 : Nat)) (2 : Nat)
 (joinC x.2.2.1.length (cT x.2.2.1) (rowsCell [[st y.1.1, terms y.1.2]])))
 (arT x'.2.2.1) ∧ True)
 (∃ y : Pl.TP × Int,
 (Pl.TmB (Pl.CB d.toNat) y.1 ∧ p ≤ y.2 ∧ y.2 ≤ p + (↑(Pl.CB d.toNat) : Int)) ∧ ((x.1.1 = y.1.1 ∧ ((0 : Nat) = (0 : Nat) ∧ x.2.2.1.length = y.1.2.length) ∧ True) ∧ True) ∧ (Is (byts b) (byts b) ∧ x.2.2.2 = y.2 ∧ True) ∧ IsO (arT x.2.2.1) (arT y.1.2) ∧ True)))) = Goal Tryd.prog [K_pick, (K_l4Any n)] (A_l4Any b p s u d) (K_l4Any (n + 1)).1 (K_l4Any (n + 1)).2 ((b, p, s, u, d)) := by kernel_rfl

theorem vc_l4Some (b : List Int) (p : Int) (s : Pl.Sig) : (((∃ x : List Int × Int × Int,
 Rd (1099511627776 : Int) x.1 x.2.1 ∧ (((0 : Nat) = (0 : Nat) ∧ (2 : Int) = x.2.2 ∧ True) ∧ (Is (byts b) (byts x.1) ∧ p = x.2.1 ∧ True) ∧ True) ∧ ∀ (y : Int),
 ((1 : Int) ≤ x.2.2 → (0 : Int) ≤ y ∧ y < x.2.2) ∧ (x.2.2 < (1 : Int) → y = (0 : Int)) →
 (∃ x_1 : List Int × Int × List Int,
 (Rd (1099511627776 : Int) x_1.1 x_1.2.1 ∧ x_1.2.2 ≠ [] ∧ Sz x_1.2.2) ∧ (((0 : Nat) = (0 : Nat) ∧ Is (AV.lit (4 : Nat) (1 : Nat) (rowsCell [[i64 (2 : Int)], [i64 (3 : Int)], [i64 (1 : Int)], [i64 (4 : Int)]])) (ints x_1.2.2) ∧ True) ∧ (Is (byts x.1) (byts x_1.1) ∧ x.2.1 + (1 : Int) = x_1.2.1 ∧ True) ∧ True) ∧ ∀ (y_1 : Int),
 y_1 ∈ x_1.2.2 →
 (∃ x : AX,
 (Rd (137438953472 : Int) x.1 x.2.1 ∧ x.2.1 + (↑(Pl.CB x.2.2.2.2.toNat) : Int) ≤ (137438953472 : Int) ∧ Pl.SgB (5 : Nat) (2 : Nat) x.2.2.1 ∧ x.2.2.2.2 ≤ (4 : Int)) ∧ (((0 : Nat) = (0 : Nat) ∧ (Is (syms s) (syms x.2.2.1) ∧ True) ∧ y = x.2.2.2.1 ∧ y_1 = x.2.2.2.2 ∧ True) ∧ (Is (byts x_1.1) (byts x.1) ∧ x_1.2.1 + (1 : Int) = x.2.1 ∧ True) ∧ True) ∧ ∀ (y : Pl.TP × Int),
 Pl.TmB (Pl.CB x.2.2.2.2.toNat) y.1 ∧ x.2.1 ≤ y.2 ∧ y.2 ≤ x.2.1 + (↑(Pl.CB x.2.2.2.2.toNat) : Int) →
 ∃ x_2 : List Int × Int × Int,
 Rd (1099511627776 : Int) x_2.1 x_2.2.1 ∧ (((0 : Nat) = (0 : Nat) ∧ (48 : Int) = x_2.2.2 ∧ True) ∧ (Is (byts x.1) (byts x_2.1) ∧ y.2 = x_2.2.1 ∧ True) ∧ True) ∧ ∀ (y_2 : Int),
 ((1 : Int) ≤ x_2.2.2 → (0 : Int) ≤ y_2 ∧ y_2 < x_2.2.2) ∧ (x_2.2.2 < (1 : Int) → y_2 = (0 : Int)) →
 condP (y_2 == (0 : Int))
 (∃ x : List Int × Int × List ByteArray,
 (Rd (1099511627776 : Int) x.1 x.2.1 ∧ x.2.2 ≠ [] ∧ Sz x.2.2) ∧ (((0 : Nat) = (0 : Nat) ∧ Is
 (AV.lit (4 : Nat) (1 : Nat)
 (rowsCell
 [[st (ByteArray.mk #[])], [st (ByteArray.mk #[(65 : UInt8)])],
 [st (ByteArray.mk #[(97 : UInt8), (98 : UInt8), (99 : UInt8)])], [st (ByteArray.mk #[(102 : UInt8)])]]))
 (strs x.2.2) ∧ True) ∧ (Is (byts x_2.1) (byts x.1) ∧ x_2.2.1 + (1 : Int) = x.2.1 ∧ True) ∧ True) ∧ ∀ (y_3 : ByteArray),
 y_3 ∈ x.2.2 →
 ∃ y_4 : Pl.TP × Int,
 (Pl.TmB (1500 : Nat) y_4.1 ∧ p ≤ y_4.2 ∧ y_4.2 ≤ p + (500 : Int)) ∧ (0 : Nat) + y.1.2.length ≤ y.1.2.length ∧ ((y_3 = y_4.1.1 ∧ Is (terms y.1.2) (terms y_4.1.2) ∧ True) ∧ True) ∧ (Is (byts x.1) (byts b) ∧ x.2.1 + (1 : Int) = y_4.2 ∧ True) ∧ True)
 (condP (y_2 == (1 : Int))
 (∃ x : Pl.TP,
 SmT (Pl.Tree.mk x.1 x.2) ∧ (((y.1.1 = x.1 ∧ ((0 : Nat) = (0 : Nat) ∧ y.1.2.length = x.2.length) ∧ True) ∧ True) ∧ IsO (arT y.1.2) (arT x.2) ∧ True) ∧ ∀ (y_3 : Unit),
 True →
 (0 : Nat) + y.1.2.length ≤ x.2.length ∧ (y.1.2.length + (1 : Nat)) * (40 : Nat) ≤ (70368744177664 : Nat) ∧ ∃ y_4 : Pl.TP × Int,
 (Pl.TmB (1500 : Nat) y_4.1 ∧ p ≤ y_4.2 ∧ y_4.2 ≤ p + (500 : Int)) ∧ (0 : Nat) + (y.1.2.length + (1 : Nat)) ≤ y.1.2.length + (1 : Nat) ∧ ((y.1.1 = y_4.1.1 ∧ Is
 (AV.sl (y.1.2.length + (1 : Nat)) (2 : Nat) fun (i j : Nat) =>
 joinC y.1.2.length (cT x.2) (rowsCell [[st x.1, terms x.2]]) i j)
 (terms y_4.1.2) ∧ True) ∧ True) ∧ (Is (byts x_2.1) (byts b) ∧ x_2.2.1 + (1 : Int) = y_4.2 ∧ True) ∧ True)
 (condP (y_2 == (2 : Int))
 (∃ x : Pl.TP,
 SmT (Pl.Tree.mk x.1 x.2) ∧ (((y.1.1 = x.1 ∧ ((0 : Nat) = (0 : Nat) ∧ y.1.2.length = x.2.length) ∧ True) ∧ True) ∧ IsO (arT y.1.2) (arT x.2) ∧ True) ∧ ∀ (y_3 : Unit),
 True →
 ∃ x_3 : Pl.TP,
 SmT (Pl.Tree.mk x_3.1 x_3.2) ∧ (((y.1.1 = x_3.1 ∧ ((0 : Nat) = (0 : Nat) ∧ y.1.2.length = x_3.2.length) ∧ True) ∧ True) ∧ IsO (arT x.2) (arT x_3.2) ∧ True) ∧ ∀ (y_4 : Unit),
 True →
 (0 : Nat) + y.1.2.length ≤ x_3.2.length ∧ (y.1.2.length + (2 : Nat)) * (40 : Nat) ≤ (70368744177664 : Nat) ∧ ∃ y_5 : Pl.TP × Int,
 (Pl.TmB (1500 : Nat) y_5.1 ∧ p ≤ y_5.2 ∧ y_5.2 ≤ p + (500 : Int)) ∧ (0 : Nat) + (y.1.2.length + (2 : Nat)) ≤ y.1.2.length + (2 : Nat) ∧ ((y.1.1 = y_5.1.1 ∧ Is
 (AV.sl (y.1.2.length + (2 : Nat)) (2 : Nat) fun (i j : Nat) =>
 joinC y.1.2.length (cT x_3.2)
 (rowsCell [[st x.1, terms x.2], [st x_3.1, terms x_3.2]]) i j)
 (terms y_5.1.2) ∧ True) ∧ True) ∧ (Is (byts x_2.1) (byts b) ∧ x_2.2.1 + (1 : Int) = y_5.2 ∧ True) ∧ True)
 (∃ y_3 : Pl.TP × Int,
 (Pl.TmB (1500 : Nat) y_3.1 ∧ p ≤ y_3.2 ∧ y_3.2 ≤ p + (500 : Int)) ∧ (0 : Nat) + y.1.2.length ≤ y.1.2.length ∧ ((y.1.1 = y_3.1.1 ∧ Is (terms y.1.2) (terms y_3.1.2) ∧ True) ∧ True) ∧ (Is (byts x_2.1) (byts b) ∧ x_2.2.1 + (1 : Int) = y_3.2 ∧ True) ∧ True)))) ∧ ∃ x : AX,
 (Rd (137438953472 : Int) x.1 x.2.1 ∧ x.2.1 + (↑(Pl.CB x.2.2.2.2.toNat) : Int) ≤ (137438953472 : Int) ∧ Pl.SgB (5 : Nat) (2 : Nat) x.2.2.1 ∧ x.2.2.2.2 ≤ (4 : Int)) ∧ (((0 : Nat) = (0 : Nat) ∧ (Is (syms s) (syms x.2.2.1) ∧ True) ∧ y = x.2.2.2.1 ∧ y_1 = x.2.2.2.2 ∧ True) ∧ (Is (byts x_1.1) (byts x.1) ∧ x_1.2.1 + (1 : Int) = x.2.1 ∧ True) ∧ True) ∧ ∀ (y : Pl.TP × Int),
 Pl.TmB (Pl.CB x.2.2.2.2.toNat) y.1 ∧ x.2.1 ≤ y.2 ∧ y.2 ≤ x.2.1 + (↑(Pl.CB x.2.2.2.2.toNat) : Int) →
 ∃ x_2 : List Int × Int × Int,
 Rd (1099511627776 : Int) x_2.1 x_2.2.1 ∧ (((0 : Nat) = (0 : Nat) ∧ (48 : Int) = x_2.2.2 ∧ True) ∧ (Is (byts x.1) (byts x_2.1) ∧ y.2 = x_2.2.1 ∧ True) ∧ True) ∧ ∀ (y_2 : Int),
 ((1 : Int) ≤ x_2.2.2 → (0 : Int) ≤ y_2 ∧ y_2 < x_2.2.2) ∧ (x_2.2.2 < (1 : Int) → y_2 = (0 : Int)) →
 condP (y_2 == (0 : Int))
 (∃ x : List Int × Int × List ByteArray,
 (Rd (1099511627776 : Int) x.1 x.2.1 ∧ x.2.2 ≠ [] ∧ Sz x.2.2) ∧ (((0 : Nat) = (0 : Nat) ∧ Is
 (AV.lit (4 : Nat) (1 : Nat)
 (rowsCell
 [[st (ByteArray.mk #[])], [st (ByteArray.mk #[(65 : UInt8)])],
 [st (ByteArray.mk #[(97 : UInt8), (98 : UInt8), (99 : UInt8)])], [st (ByteArray.mk #[(102 : UInt8)])]]))
 (strs x.2.2) ∧ True) ∧ (Is (byts x_2.1) (byts x.1) ∧ x_2.2.1 + (1 : Int) = x.2.1 ∧ True) ∧ True) ∧ ∀ (y_3 : ByteArray),
 y_3 ∈ x.2.2 →
 ∃ y_4 : Pl.TP × Int,
 (Pl.TmB (1500 : Nat) y_4.1 ∧ p ≤ y_4.2 ∧ y_4.2 ≤ p + (500 : Int)) ∧ (0 : Nat) + y.1.2.length ≤ y.1.2.length ∧ ((y_3 = y_4.1.1 ∧ Is (terms y.1.2) (terms y_4.1.2) ∧ True) ∧ True) ∧ (Is (byts x.1) (byts b) ∧ x.2.1 + (1 : Int) = y_4.2 ∧ True) ∧ True)
 (condP (y_2 == (1 : Int))
 (∃ x : Pl.TP,
 SmT (Pl.Tree.mk x.1 x.2) ∧ (((y.1.1 = x.1 ∧ ((0 : Nat) = (0 : Nat) ∧ y.1.2.length = x.2.length) ∧ True) ∧ True) ∧ IsO (arT y.1.2) (arT x.2) ∧ True) ∧ ∀ (y_3 : Unit),
 True →
 (0 : Nat) + y.1.2.length ≤ x.2.length ∧ (y.1.2.length + (1 : Nat)) * (40 : Nat) ≤ (70368744177664 : Nat) ∧ ∃ y_4 : Pl.TP × Int,
 (Pl.TmB (1500 : Nat) y_4.1 ∧ p ≤ y_4.2 ∧ y_4.2 ≤ p + (500 : Int)) ∧ (0 : Nat) + (y.1.2.length + (1 : Nat)) ≤ y.1.2.length + (1 : Nat) ∧ ((y.1.1 = y_4.1.1 ∧ Is
 (AV.sl (y.1.2.length + (1 : Nat)) (2 : Nat) fun (i j : Nat) =>
 joinC y.1.2.length (cT x.2) (rowsCell [[st x.1, terms x.2]]) i j)
 (terms y_4.1.2) ∧ True) ∧ True) ∧ (Is (byts x_2.1) (byts b) ∧ x_2.2.1 + (1 : Int) = y_4.2 ∧ True) ∧ True)
 (condP (y_2 == (2 : Int))
 (∃ x : Pl.TP,
 SmT (Pl.Tree.mk x.1 x.2) ∧ (((y.1.1 = x.1 ∧ ((0 : Nat) = (0 : Nat) ∧ y.1.2.length = x.2.length) ∧ True) ∧ True) ∧ IsO (arT y.1.2) (arT x.2) ∧ True) ∧ ∀ (y_3 : Unit),
 True →
 ∃ x_3 : Pl.TP,
 SmT (Pl.Tree.mk x_3.1 x_3.2) ∧ (((y.1.1 = x_3.1 ∧ ((0 : Nat) = (0 : Nat) ∧ y.1.2.length = x_3.2.length) ∧ True) ∧ True) ∧ IsO (arT x.2) (arT x_3.2) ∧ True) ∧ ∀ (y_4 : Unit),
 True →
 (0 : Nat) + y.1.2.length ≤ x_3.2.length ∧ (y.1.2.length + (2 : Nat)) * (40 : Nat) ≤ (70368744177664 : Nat) ∧ ∃ y_5 : Pl.TP × Int,
 (Pl.TmB (1500 : Nat) y_5.1 ∧ p ≤ y_5.2 ∧ y_5.2 ≤ p + (500 : Int)) ∧ (0 : Nat) + (y.1.2.length + (2 : Nat)) ≤ y.1.2.length + (2 : Nat) ∧ ((y.1.1 = y_5.1.1 ∧ Is
 (AV.sl (y.1.2.length + (2 : Nat)) (2 : Nat) fun (i j : Nat) =>
 joinC y.1.2.length (cT x_3.2)
 (rowsCell [[st x.1, terms x.2], [st x_3.1, terms x_3.2]]) i j)
 (terms y_5.1.2) ∧ True) ∧ True) ∧ (Is (byts x_2.1) (byts b) ∧ x_2.2.1 + (1 : Int) = y_5.2 ∧ True) ∧ True)
 (∃ y_3 : Pl.TP × Int,
 (Pl.TmB (1500 : Nat) y_3.1 ∧ p ≤ y_3.2 ∧ y_3.2 ≤ p + (500 : Int)) ∧ (0 : Nat) + y.1.2.length ≤ y.1.2.length ∧ ((y.1.1 = y_3.1.1 ∧ Is (terms y.1.2) (terms y_3.1.2) ∧ True) ∧ True) ∧ (Is (byts x_2.1) (byts b) ∧ x_2.2.1 + (1 : Int) = y_3.2 ∧ True) ∧ True)))) ∧ ∃ x_1 : List Int × Int × List Int,
 (Rd (1099511627776 : Int) x_1.1 x_1.2.1 ∧ x_1.2.2 ≠ [] ∧ Sz x_1.2.2) ∧ (((0 : Nat) = (0 : Nat) ∧ Is (AV.lit (4 : Nat) (1 : Nat) (rowsCell [[i64 (2 : Int)], [i64 (3 : Int)], [i64 (1 : Int)], [i64 (4 : Int)]])) (ints x_1.2.2) ∧ True) ∧ (Is (byts x.1) (byts x_1.1) ∧ x.2.1 + (1 : Int) = x_1.2.1 ∧ True) ∧ True) ∧ ∀ (y_1 : Int),
 y_1 ∈ x_1.2.2 →
 ∃ x : AX,
 (Rd (137438953472 : Int) x.1 x.2.1 ∧ x.2.1 + (↑(Pl.CB x.2.2.2.2.toNat) : Int) ≤ (137438953472 : Int) ∧ Pl.SgB (5 : Nat) (2 : Nat) x.2.2.1 ∧ x.2.2.2.2 ≤ (4 : Int)) ∧ (((0 : Nat) = (0 : Nat) ∧ (Is (syms s) (syms x.2.2.1) ∧ True) ∧ y = x.2.2.2.1 ∧ y_1 = x.2.2.2.2 ∧ True) ∧ (Is (byts x_1.1) (byts x.1) ∧ x_1.2.1 + (1 : Int) = x.2.1 ∧ True) ∧ True) ∧ ∀ (y : Pl.TP × Int),
 Pl.TmB (Pl.CB x.2.2.2.2.toNat) y.1 ∧ x.2.1 ≤ y.2 ∧ y.2 ≤ x.2.1 + (↑(Pl.CB x.2.2.2.2.toNat) : Int) →
 ∃ x_2 : List Int × Int × Int,
 Rd (1099511627776 : Int) x_2.1 x_2.2.1 ∧ (((0 : Nat) = (0 : Nat) ∧ (48 : Int) = x_2.2.2 ∧ True) ∧ (Is (byts x.1) (byts x_2.1) ∧ y.2 = x_2.2.1 ∧ True) ∧ True) ∧ ∀ (y_2 : Int),
 ((1 : Int) ≤ x_2.2.2 → (0 : Int) ≤ y_2 ∧ y_2 < x_2.2.2) ∧ (x_2.2.2 < (1 : Int) → y_2 = (0 : Int)) →
 condP (y_2 == (0 : Int))
 (∃ x : List Int × Int × List ByteArray,
 (Rd (1099511627776 : Int) x.1 x.2.1 ∧ x.2.2 ≠ [] ∧ Sz x.2.2) ∧ (((0 : Nat) = (0 : Nat) ∧ Is
 (AV.lit (4 : Nat) (1 : Nat)
 (rowsCell
 [[st (ByteArray.mk #[])], [st (ByteArray.mk #[(65 : UInt8)])],
 [st (ByteArray.mk #[(97 : UInt8), (98 : UInt8), (99 : UInt8)])], [st (ByteArray.mk #[(102 : UInt8)])]]))
 (strs x.2.2) ∧ True) ∧ (Is (byts x_2.1) (byts x.1) ∧ x_2.2.1 + (1 : Int) = x.2.1 ∧ True) ∧ True) ∧ ∀ (y_3 : ByteArray),
 y_3 ∈ x.2.2 →
 ∃ y_4 : Pl.TP × Int,
 (Pl.TmB (1500 : Nat) y_4.1 ∧ p ≤ y_4.2 ∧ y_4.2 ≤ p + (500 : Int)) ∧ (0 : Nat) + y.1.2.length ≤ y.1.2.length ∧ ((y_3 = y_4.1.1 ∧ Is (terms y.1.2) (terms y_4.1.2) ∧ True) ∧ True) ∧ (Is (byts x.1) (byts b) ∧ x.2.1 + (1 : Int) = y_4.2 ∧ True) ∧ True)
 (condP (y_2 == (1 : Int))
 (∃ x : Pl.TP,
 SmT (Pl.Tree.mk x.1 x.2) ∧ (((y.1.1 = x.1 ∧ ((0 : Nat) = (0 : Nat) ∧ y.1.2.length = x.2.length) ∧ True) ∧ True) ∧ IsO (arT y.1.2) (arT x.2) ∧ True) ∧ ∀ (y_3 : Unit),
 True →
 (0 : Nat) + y.1.2.length ≤ x.2.length ∧ (y.1.2.length + (1 : Nat)) * (40 : Nat) ≤ (70368744177664 : Nat) ∧ ∃ y_4 : Pl.TP × Int,
 (Pl.TmB (1500 : Nat) y_4.1 ∧ p ≤ y_4.2 ∧ y_4.2 ≤ p + (500 : Int)) ∧ (0 : Nat) + (y.1.2.length + (1 : Nat)) ≤ y.1.2.length + (1 : Nat) ∧ ((y.1.1 = y_4.1.1 ∧ Is
 (AV.sl (y.1.2.length + (1 : Nat)) (2 : Nat) fun (i j : Nat) =>
 joinC y.1.2.length (cT x.2) (rowsCell [[st x.1, terms x.2]]) i j)
 (terms y_4.1.2) ∧ True) ∧ True) ∧ (Is (byts x_2.1) (byts b) ∧ x_2.2.1 + (1 : Int) = y_4.2 ∧ True) ∧ True)
 (condP (y_2 == (2 : Int))
 (∃ x : Pl.TP,
 SmT (Pl.Tree.mk x.1 x.2) ∧ (((y.1.1 = x.1 ∧ ((0 : Nat) = (0 : Nat) ∧ y.1.2.length = x.2.length) ∧ True) ∧ True) ∧ IsO (arT y.1.2) (arT x.2) ∧ True) ∧ ∀ (y_3 : Unit),
 True →
 ∃ x_3 : Pl.TP,
 SmT (Pl.Tree.mk x_3.1 x_3.2) ∧ (((y.1.1 = x_3.1 ∧ ((0 : Nat) = (0 : Nat) ∧ y.1.2.length = x_3.2.length) ∧ True) ∧ True) ∧ IsO (arT x.2) (arT x_3.2) ∧ True) ∧ ∀ (y_4 : Unit),
 True →
 (0 : Nat) + y.1.2.length ≤ x_3.2.length ∧ (y.1.2.length + (2 : Nat)) * (40 : Nat) ≤ (70368744177664 : Nat) ∧ ∃ y_5 : Pl.TP × Int,
 (Pl.TmB (1500 : Nat) y_5.1 ∧ p ≤ y_5.2 ∧ y_5.2 ≤ p + (500 : Int)) ∧ (0 : Nat) + (y.1.2.length + (2 : Nat)) ≤ y.1.2.length + (2 : Nat) ∧ ((y.1.1 = y_5.1.1 ∧ Is
 (AV.sl (y.1.2.length + (2 : Nat)) (2 : Nat) fun (i j : Nat) =>
 joinC y.1.2.length (cT x_3.2)
 (rowsCell [[st x.1, terms x.2], [st x_3.1, terms x_3.2]]) i j)
 (terms y_5.1.2) ∧ True) ∧ True) ∧ (Is (byts x_2.1) (byts b) ∧ x_2.2.1 + (1 : Int) = y_5.2 ∧ True) ∧ True)
 (∃ y_3 : Pl.TP × Int,
 (Pl.TmB (1500 : Nat) y_3.1 ∧ p ≤ y_3.2 ∧ y_3.2 ≤ p + (500 : Int)) ∧ (0 : Nat) + y.1.2.length ≤ y.1.2.length ∧ ((y.1.1 = y_3.1.1 ∧ Is (terms y.1.2) (terms y_3.1.2) ∧ True) ∧ True) ∧ (Is (byts x_2.1) (byts b) ∧ x_2.2.1 + (1 : Int) = y_3.2 ∧ True) ∧ True)))) ∧ ∃ x : List Int × Int × Int,
 Rd (1099511627776 : Int) x.1 x.2.1 ∧ (((0 : Nat) = (0 : Nat) ∧ (2 : Int) = x.2.2 ∧ True) ∧ (Is (byts b) (byts x.1) ∧ p = x.2.1 ∧ True) ∧ True) ∧ ∀ (y : Int),
 ((1 : Int) ≤ x.2.2 → (0 : Int) ≤ y ∧ y < x.2.2) ∧ (x.2.2 < (1 : Int) → y = (0 : Int)) →
 ∃ x_1 : List Int × Int × List Int,
 (Rd (1099511627776 : Int) x_1.1 x_1.2.1 ∧ x_1.2.2 ≠ [] ∧ Sz x_1.2.2) ∧ (((0 : Nat) = (0 : Nat) ∧ Is (AV.lit (4 : Nat) (1 : Nat) (rowsCell [[i64 (2 : Int)], [i64 (3 : Int)], [i64 (1 : Int)], [i64 (4 : Int)]])) (ints x_1.2.2) ∧ True) ∧ (Is (byts x.1) (byts x_1.1) ∧ x.2.1 + (1 : Int) = x_1.2.1 ∧ True) ∧ True) ∧ ∀ (y_1 : Int),
 y_1 ∈ x_1.2.2 →
 ∃ x : AX,
 (Rd (137438953472 : Int) x.1 x.2.1 ∧ x.2.1 + (↑(Pl.CB x.2.2.2.2.toNat) : Int) ≤ (137438953472 : Int) ∧ Pl.SgB (5 : Nat) (2 : Nat) x.2.2.1 ∧ x.2.2.2.2 ≤ (4 : Int)) ∧ (((0 : Nat) = (0 : Nat) ∧ (Is (syms s) (syms x.2.2.1) ∧ True) ∧ y = x.2.2.2.1 ∧ y_1 = x.2.2.2.2 ∧ True) ∧ (Is (byts x_1.1) (byts x.1) ∧ x_1.2.1 + (1 : Int) = x.2.1 ∧ True) ∧ True) ∧ ∀ (y : Pl.TP × Int),
 Pl.TmB (Pl.CB x.2.2.2.2.toNat) y.1 ∧ x.2.1 ≤ y.2 ∧ y.2 ≤ x.2.1 + (↑(Pl.CB x.2.2.2.2.toNat) : Int) →
 ∃ x_2 : List Int × Int × Int,
 Rd (1099511627776 : Int) x_2.1 x_2.2.1 ∧ (((0 : Nat) = (0 : Nat) ∧ (48 : Int) = x_2.2.2 ∧ True) ∧ (Is (byts x.1) (byts x_2.1) ∧ y.2 = x_2.2.1 ∧ True) ∧ True) ∧ ∀ (y_2 : Int),
 ((1 : Int) ≤ x_2.2.2 → (0 : Int) ≤ y_2 ∧ y_2 < x_2.2.2) ∧ (x_2.2.2 < (1 : Int) → y_2 = (0 : Int)) →
 condP (y_2 == (0 : Int))
 (∃ x : List Int × Int × List ByteArray,
 (Rd (1099511627776 : Int) x.1 x.2.1 ∧ x.2.2 ≠ [] ∧ Sz x.2.2) ∧ (((0 : Nat) = (0 : Nat) ∧ Is
 (AV.lit (4 : Nat) (1 : Nat)
 (rowsCell
 [[st (ByteArray.mk #[])], [st (ByteArray.mk #[(65 : UInt8)])], [st (ByteArray.mk #[(97 : UInt8), (98 : UInt8), (99 : UInt8)])],
 [st (ByteArray.mk #[(102 : UInt8)])]]))
 (strs x.2.2) ∧ True) ∧ (Is (byts x_2.1) (byts x.1) ∧ x_2.2.1 + (1 : Int) = x.2.1 ∧ True) ∧ True) ∧ ∀ (y_3 : ByteArray),
 y_3 ∈ x.2.2 →
 ∃ y_4 : Pl.TP × Int,
 (Pl.TmB (1500 : Nat) y_4.1 ∧ p ≤ y_4.2 ∧ y_4.2 ≤ p + (500 : Int)) ∧ (0 : Nat) + y.1.2.length ≤ y.1.2.length ∧ ((y_3 = y_4.1.1 ∧ Is (terms y.1.2) (terms y_4.1.2) ∧ True) ∧ True) ∧ (Is (byts x.1) (byts b) ∧ x.2.1 + (1 : Int) = y_4.2 ∧ True) ∧ True)
 (condP (y_2 == (1 : Int))
 (∃ x : Pl.TP,
 SmT (Pl.Tree.mk x.1 x.2) ∧ (((y.1.1 = x.1 ∧ ((0 : Nat) = (0 : Nat) ∧ y.1.2.length = x.2.length) ∧ True) ∧ True) ∧ IsO (arT y.1.2) (arT x.2) ∧ True) ∧ ∀ (y_3 : Unit),
 True →
 (0 : Nat) + y.1.2.length ≤ x.2.length ∧ (y.1.2.length + (1 : Nat)) * (40 : Nat) ≤ (70368744177664 : Nat) ∧ ∃ y_4 : Pl.TP × Int,
 (Pl.TmB (1500 : Nat) y_4.1 ∧ p ≤ y_4.2 ∧ y_4.2 ≤ p + (500 : Int)) ∧ (0 : Nat) + (y.1.2.length + (1 : Nat)) ≤ y.1.2.length + (1 : Nat) ∧ ((y.1.1 = y_4.1.1 ∧ Is
 (AV.sl (y.1.2.length + (1 : Nat)) (2 : Nat) fun (i j : Nat) =>
 joinC y.1.2.length (cT x.2) (rowsCell [[st x.1, terms x.2]]) i j)
 (terms y_4.1.2) ∧ True) ∧ True) ∧ (Is (byts x_2.1) (byts b) ∧ x_2.2.1 + (1 : Int) = y_4.2 ∧ True) ∧ True)
 (condP (y_2 == (2 : Int))
 (∃ x : Pl.TP,
 SmT (Pl.Tree.mk x.1 x.2) ∧ (((y.1.1 = x.1 ∧ ((0 : Nat) = (0 : Nat) ∧ y.1.2.length = x.2.length) ∧ True) ∧ True) ∧ IsO (arT y.1.2) (arT x.2) ∧ True) ∧ ∀ (y_3 : Unit),
 True →
 ∃ x_3 : Pl.TP,
 SmT (Pl.Tree.mk x_3.1 x_3.2) ∧ (((y.1.1 = x_3.1 ∧ ((0 : Nat) = (0 : Nat) ∧ y.1.2.length = x_3.2.length) ∧ True) ∧ True) ∧ IsO (arT x.2) (arT x_3.2) ∧ True) ∧ ∀ (y_4 : Unit),
 True →
 (0 : Nat) + y.1.2.length ≤ x_3.2.length ∧ (y.1.2.length + (2 : Nat)) * (40 : Nat) ≤ (70368744177664 : Nat) ∧ ∃ y_5 : Pl.TP × Int,
 (Pl.TmB (1500 : Nat) y_5.1 ∧ p ≤ y_5.2 ∧ y_5.2 ≤ p + (500 : Int)) ∧ (0 : Nat) + (y.1.2.length + (2 : Nat)) ≤ y.1.2.length + (2 : Nat) ∧ ((y.1.1 = y_5.1.1 ∧ Is
 (AV.sl (y.1.2.length + (2 : Nat)) (2 : Nat) fun (i j : Nat) =>
 joinC y.1.2.length (cT x_3.2)
 (rowsCell [[st x.1, terms x.2], [st x_3.1, terms x_3.2]]) i j)
 (terms y_5.1.2) ∧ True) ∧ True) ∧ (Is (byts x_2.1) (byts b) ∧ x_2.2.1 + (1 : Int) = y_5.2 ∧ True) ∧ True)
 (∃ y_3 : Pl.TP × Int,
 (Pl.TmB (1500 : Nat) y_3.1 ∧ p ≤ y_3.2 ∧ y_3.2 ≤ p + (500 : Int)) ∧ (0 : Nat) + y.1.2.length ≤ y.1.2.length ∧ ((y.1.1 = y_3.1.1 ∧ Is (terms y.1.2) (terms y_3.1.2) ∧ True) ∧ True) ∧ (Is (byts x_2.1) (byts b) ∧ x_2.2.1 + (1 : Int) = y_3.2 ∧ True) ∧ True)))) ∧ (∃ x : List Int × Int × Int,
 Rd (1099511627776 : Int) x.1 x.2.1 ∧ (((0 : Nat) = (0 : Nat) ∧ (2 : Int) = x.2.2 ∧ True) ∧ (Is (byts b) (byts x.1) ∧ p = x.2.1 ∧ True) ∧ True) ∧ ∀ (y : Int),
 ((1 : Int) ≤ x.2.2 → (0 : Int) ≤ y ∧ y < x.2.2) ∧ (x.2.2 < (1 : Int) → y = (0 : Int)) →
 ((∃ x_1 : List Int × Int × List Int,
 (Rd (1099511627776 : Int) x_1.1 x_1.2.1 ∧ x_1.2.2 ≠ [] ∧ Sz x_1.2.2) ∧ (((0 : Nat) = (0 : Nat) ∧ Is (AV.lit (4 : Nat) (1 : Nat) (rowsCell [[i64 (2 : Int)], [i64 (3 : Int)], [i64 (1 : Int)], [i64 (4 : Int)]])) (ints x_1.2.2) ∧ True) ∧ (Is (byts x.1) (byts x_1.1) ∧ x.2.1 + (1 : Int) = x_1.2.1 ∧ True) ∧ True) ∧ ∀ (y_1 : Int),
 y_1 ∈ x_1.2.2 →
 (∃ x : AX,
 (Rd (137438953472 : Int) x.1 x.2.1 ∧ x.2.1 + (↑(Pl.CB x.2.2.2.2.toNat) : Int) ≤ (137438953472 : Int) ∧ Pl.SgB (5 : Nat) (2 : Nat) x.2.2.1 ∧ x.2.2.2.2 ≤ (4 : Int)) ∧ (((0 : Nat) = (0 : Nat) ∧ (Is (syms s) (syms x.2.2.1) ∧ True) ∧ y = x.2.2.2.1 ∧ y_1 = x.2.2.2.2 ∧ True) ∧ (Is (byts x_1.1) (byts x.1) ∧ x_1.2.1 + (1 : Int) = x.2.1 ∧ True) ∧ True) ∧ ∀ (y : Pl.TP × Int),
 Pl.TmB (Pl.CB x.2.2.2.2.toNat) y.1 ∧ x.2.1 ≤ y.2 ∧ y.2 ≤ x.2.1 + (↑(Pl.CB x.2.2.2.2.toNat) : Int) →
 ∃ x_2 : List Int × Int × Int,
 Rd (1099511627776 : Int) x_2.1 x_2.2.1 ∧ (((0 : Nat) = (0 : Nat) ∧ (48 : Int) = x_2.2.2 ∧ True) ∧ (Is (byts x.1) (byts x_2.1) ∧ y.2 = x_2.2.1 ∧ True) ∧ True) ∧ ∀ (y_2 : Int),
 ((1 : Int) ≤ x_2.2.2 → (0 : Int) ≤ y_2 ∧ y_2 < x_2.2.2) ∧ (x_2.2.2 < (1 : Int) → y_2 = (0 : Int)) →
 condP (y_2 == (0 : Int))
 (∃ x : List Int × Int × List ByteArray,
 (Rd (1099511627776 : Int) x.1 x.2.1 ∧ x.2.2 ≠ [] ∧ Sz x.2.2) ∧ (((0 : Nat) = (0 : Nat) ∧ Is
 (AV.lit (4 : Nat) (1 : Nat)
 (rowsCell
 [[st (ByteArray.mk #[])], [st (ByteArray.mk #[(65 : UInt8)])],
 [st (ByteArray.mk #[(97 : UInt8), (98 : UInt8), (99 : UInt8)])], [st (ByteArray.mk #[(102 : UInt8)])]]))
 (strs x.2.2) ∧ True) ∧ (Is (byts x_2.1) (byts x.1) ∧ x_2.2.1 + (1 : Int) = x.2.1 ∧ True) ∧ True) ∧ ∀ (y_3 : ByteArray),
 y_3 ∈ x.2.2 →
 ∃ y_4 : Pl.TP × Int,
 (Pl.TmB (1500 : Nat) y_4.1 ∧ p ≤ y_4.2 ∧ y_4.2 ≤ p + (500 : Int)) ∧ (0 : Nat) + y.1.2.length ≤ y.1.2.length ∧ ((y_3 = y_4.1.1 ∧ Is (terms y.1.2) (terms y_4.1.2) ∧ True) ∧ True) ∧ (Is (byts x.1) (byts b) ∧ x.2.1 + (1 : Int) = y_4.2 ∧ True) ∧ True)
 (condP (y_2 == (1 : Int))
 (∃ x : Pl.TP,
 SmT (Pl.Tree.mk x.1 x.2) ∧ (((y.1.1 = x.1 ∧ ((0 : Nat) = (0 : Nat) ∧ y.1.2.length = x.2.length) ∧ True) ∧ True) ∧ IsO (arT y.1.2) (arT x.2) ∧ True) ∧ ∀ (y_3 : Unit),
 True →
 (0 : Nat) + y.1.2.length ≤ x.2.length ∧ (y.1.2.length + (1 : Nat)) * (40 : Nat) ≤ (70368744177664 : Nat) ∧ ∃ y_4 : Pl.TP × Int,
 (Pl.TmB (1500 : Nat) y_4.1 ∧ p ≤ y_4.2 ∧ y_4.2 ≤ p + (500 : Int)) ∧ (0 : Nat) + (y.1.2.length + (1 : Nat)) ≤ y.1.2.length + (1 : Nat) ∧ ((y.1.1 = y_4.1.1 ∧ Is
 (AV.sl (y.1.2.length + (1 : Nat)) (2 : Nat) fun (i j : Nat) =>
 joinC y.1.2.length (cT x.2) (rowsCell [[st x.1, terms x.2]]) i j)
 (terms y_4.1.2) ∧ True) ∧ True) ∧ (Is (byts x_2.1) (byts b) ∧ x_2.2.1 + (1 : Int) = y_4.2 ∧ True) ∧ True)
 (condP (y_2 == (2 : Int))
 (∃ x : Pl.TP,
 SmT (Pl.Tree.mk x.1 x.2) ∧ (((y.1.1 = x.1 ∧ ((0 : Nat) = (0 : Nat) ∧ y.1.2.length = x.2.length) ∧ True) ∧ True) ∧ IsO (arT y.1.2) (arT x.2) ∧ True) ∧ ∀ (y_3 : Unit),
 True →
 ∃ x_3 : Pl.TP,
 SmT (Pl.Tree.mk x_3.1 x_3.2) ∧ (((y.1.1 = x_3.1 ∧ ((0 : Nat) = (0 : Nat) ∧ y.1.2.length = x_3.2.length) ∧ True) ∧ True) ∧ IsO (arT x.2) (arT x_3.2) ∧ True) ∧ ∀ (y_4 : Unit),
 True →
 (0 : Nat) + y.1.2.length ≤ x_3.2.length ∧ (y.1.2.length + (2 : Nat)) * (40 : Nat) ≤ (70368744177664 : Nat) ∧ ∃ y_5 : Pl.TP × Int,
 (Pl.TmB (1500 : Nat) y_5.1 ∧ p ≤ y_5.2 ∧ y_5.2 ≤ p + (500 : Int)) ∧ (0 : Nat) + (y.1.2.length + (2 : Nat)) ≤ y.1.2.length + (2 : Nat) ∧ ((y.1.1 = y_5.1.1 ∧ Is
 (AV.sl (y.1.2.length + (2 : Nat)) (2 : Nat) fun (i j : Nat) =>
 joinC y.1.2.length (cT x_3.2)
 (rowsCell [[st x.1, terms x.2], [st x_3.1, terms x_3.2]]) i j)
 (terms y_5.1.2) ∧ True) ∧ True) ∧ (Is (byts x_2.1) (byts b) ∧ x_2.2.1 + (1 : Int) = y_5.2 ∧ True) ∧ True)
 (∃ y_3 : Pl.TP × Int,
 (Pl.TmB (1500 : Nat) y_3.1 ∧ p ≤ y_3.2 ∧ y_3.2 ≤ p + (500 : Int)) ∧ (0 : Nat) + y.1.2.length ≤ y.1.2.length ∧ ((y.1.1 = y_3.1.1 ∧ Is (terms y.1.2) (terms y_3.1.2) ∧ True) ∧ True) ∧ (Is (byts x_2.1) (byts b) ∧ x_2.2.1 + (1 : Int) = y_3.2 ∧ True) ∧ True)))) ∧ ∃ x : AX,
 (Rd (137438953472 : Int) x.1 x.2.1 ∧ x.2.1 + (↑(Pl.CB x.2.2.2.2.toNat) : Int) ≤ (137438953472 : Int) ∧ Pl.SgB (5 : Nat) (2 : Nat) x.2.2.1 ∧ x.2.2.2.2 ≤ (4 : Int)) ∧ (((0 : Nat) = (0 : Nat) ∧ (Is (syms s) (syms x.2.2.1) ∧ True) ∧ y = x.2.2.2.1 ∧ y_1 = x.2.2.2.2 ∧ True) ∧ (Is (byts x_1.1) (byts x.1) ∧ x_1.2.1 + (1 : Int) = x.2.1 ∧ True) ∧ True) ∧ ∀ (y : Pl.TP × Int),
 Pl.TmB (Pl.CB x.2.2.2.2.toNat) y.1 ∧ x.2.1 ≤ y.2 ∧ y.2 ≤ x.2.1 + (↑(Pl.CB x.2.2.2.2.toNat) : Int) →
 ∃ x_2 : List Int × Int × Int,
 Rd (1099511627776 : Int) x_2.1 x_2.2.1 ∧ (((0 : Nat) = (0 : Nat) ∧ (48 : Int) = x_2.2.2 ∧ True) ∧ (Is (byts x.1) (byts x_2.1) ∧ y.2 = x_2.2.1 ∧ True) ∧ True) ∧ ∀ (y_2 : Int),
 ((1 : Int) ≤ x_2.2.2 → (0 : Int) ≤ y_2 ∧ y_2 < x_2.2.2) ∧ (x_2.2.2 < (1 : Int) → y_2 = (0 : Int)) →
 condP (y_2 == (0 : Int))
 (∃ x : List Int × Int × List ByteArray,
 (Rd (1099511627776 : Int) x.1 x.2.1 ∧ x.2.2 ≠ [] ∧ Sz x.2.2) ∧ (((0 : Nat) = (0 : Nat) ∧ Is
 (AV.lit (4 : Nat) (1 : Nat)
 (rowsCell
 [[st (ByteArray.mk #[])], [st (ByteArray.mk #[(65 : UInt8)])],
 [st (ByteArray.mk #[(97 : UInt8), (98 : UInt8), (99 : UInt8)])], [st (ByteArray.mk #[(102 : UInt8)])]]))
 (strs x.2.2) ∧ True) ∧ (Is (byts x_2.1) (byts x.1) ∧ x_2.2.1 + (1 : Int) = x.2.1 ∧ True) ∧ True) ∧ ∀ (y_3 : ByteArray),
 y_3 ∈ x.2.2 →
 ∃ y_4 : Pl.TP × Int,
 (Pl.TmB (1500 : Nat) y_4.1 ∧ p ≤ y_4.2 ∧ y_4.2 ≤ p + (500 : Int)) ∧ (0 : Nat) + y.1.2.length ≤ y.1.2.length ∧ ((y_3 = y_4.1.1 ∧ Is (terms y.1.2) (terms y_4.1.2) ∧ True) ∧ True) ∧ (Is (byts x.1) (byts b) ∧ x.2.1 + (1 : Int) = y_4.2 ∧ True) ∧ True)
 (condP (y_2 == (1 : Int))
 (∃ x : Pl.TP,
 SmT (Pl.Tree.mk x.1 x.2) ∧ (((y.1.1 = x.1 ∧ ((0 : Nat) = (0 : Nat) ∧ y.1.2.length = x.2.length) ∧ True) ∧ True) ∧ IsO (arT y.1.2) (arT x.2) ∧ True) ∧ ∀ (y_3 : Unit),
 True →
 (0 : Nat) + y.1.2.length ≤ x.2.length ∧ (y.1.2.length + (1 : Nat)) * (40 : Nat) ≤ (70368744177664 : Nat) ∧ ∃ y_4 : Pl.TP × Int,
 (Pl.TmB (1500 : Nat) y_4.1 ∧ p ≤ y_4.2 ∧ y_4.2 ≤ p + (500 : Int)) ∧ (0 : Nat) + (y.1.2.length + (1 : Nat)) ≤ y.1.2.length + (1 : Nat) ∧ ((y.1.1 = y_4.1.1 ∧ Is
 (AV.sl (y.1.2.length + (1 : Nat)) (2 : Nat) fun (i j : Nat) =>
 joinC y.1.2.length (cT x.2) (rowsCell [[st x.1, terms x.2]]) i j)
 (terms y_4.1.2) ∧ True) ∧ True) ∧ (Is (byts x_2.1) (byts b) ∧ x_2.2.1 + (1 : Int) = y_4.2 ∧ True) ∧ True)
 (condP (y_2 == (2 : Int))
 (∃ x : Pl.TP,
 SmT (Pl.Tree.mk x.1 x.2) ∧ (((y.1.1 = x.1 ∧ ((0 : Nat) = (0 : Nat) ∧ y.1.2.length = x.2.length) ∧ True) ∧ True) ∧ IsO (arT y.1.2) (arT x.2) ∧ True) ∧ ∀ (y_3 : Unit),
 True →
 ∃ x_3 : Pl.TP,
 SmT (Pl.Tree.mk x_3.1 x_3.2) ∧ (((y.1.1 = x_3.1 ∧ ((0 : Nat) = (0 : Nat) ∧ y.1.2.length = x_3.2.length) ∧ True) ∧ True) ∧ IsO (arT x.2) (arT x_3.2) ∧ True) ∧ ∀ (y_4 : Unit),
 True →
 (0 : Nat) + y.1.2.length ≤ x_3.2.length ∧ (y.1.2.length + (2 : Nat)) * (40 : Nat) ≤ (70368744177664 : Nat) ∧ ∃ y_5 : Pl.TP × Int,
 (Pl.TmB (1500 : Nat) y_5.1 ∧ p ≤ y_5.2 ∧ y_5.2 ≤ p + (500 : Int)) ∧ (0 : Nat) + (y.1.2.length + (2 : Nat)) ≤ y.1.2.length + (2 : Nat) ∧ ((y.1.1 = y_5.1.1 ∧ Is
 (AV.sl (y.1.2.length + (2 : Nat)) (2 : Nat) fun (i j : Nat) =>
 joinC y.1.2.length (cT x_3.2)
 (rowsCell [[st x.1, terms x.2], [st x_3.1, terms x_3.2]]) i j)
 (terms y_5.1.2) ∧ True) ∧ True) ∧ (Is (byts x_2.1) (byts b) ∧ x_2.2.1 + (1 : Int) = y_5.2 ∧ True) ∧ True)
 (∃ y_3 : Pl.TP × Int,
 (Pl.TmB (1500 : Nat) y_3.1 ∧ p ≤ y_3.2 ∧ y_3.2 ≤ p + (500 : Int)) ∧ (0 : Nat) + y.1.2.length ≤ y.1.2.length ∧ ((y.1.1 = y_3.1.1 ∧ Is (terms y.1.2) (terms y_3.1.2) ∧ True) ∧ True) ∧ (Is (byts x_2.1) (byts b) ∧ x_2.2.1 + (1 : Int) = y_3.2 ∧ True) ∧ True)))) ∧ ∃ x_1 : List Int × Int × List Int,
 (Rd (1099511627776 : Int) x_1.1 x_1.2.1 ∧ x_1.2.2 ≠ [] ∧ Sz x_1.2.2) ∧ (((0 : Nat) = (0 : Nat) ∧ Is (AV.lit (4 : Nat) (1 : Nat) (rowsCell [[i64 (2 : Int)], [i64 (3 : Int)], [i64 (1 : Int)], [i64 (4 : Int)]])) (ints x_1.2.2) ∧ True) ∧ (Is (byts x.1) (byts x_1.1) ∧ x.2.1 + (1 : Int) = x_1.2.1 ∧ True) ∧ True) ∧ ∀ (y_1 : Int),
 y_1 ∈ x_1.2.2 →
 ∃ x : AX,
 (Rd (137438953472 : Int) x.1 x.2.1 ∧ x.2.1 + (↑(Pl.CB x.2.2.2.2.toNat) : Int) ≤ (137438953472 : Int) ∧ Pl.SgB (5 : Nat) (2 : Nat) x.2.2.1 ∧ x.2.2.2.2 ≤ (4 : Int)) ∧ (((0 : Nat) = (0 : Nat) ∧ (Is (syms s) (syms x.2.2.1) ∧ True) ∧ y = x.2.2.2.1 ∧ y_1 = x.2.2.2.2 ∧ True) ∧ (Is (byts x_1.1) (byts x.1) ∧ x_1.2.1 + (1 : Int) = x.2.1 ∧ True) ∧ True) ∧ ∀ (y : Pl.TP × Int),
 Pl.TmB (Pl.CB x.2.2.2.2.toNat) y.1 ∧ x.2.1 ≤ y.2 ∧ y.2 ≤ x.2.1 + (↑(Pl.CB x.2.2.2.2.toNat) : Int) →
 ∃ x_2 : List Int × Int × Int,
 Rd (1099511627776 : Int) x_2.1 x_2.2.1 ∧ (((0 : Nat) = (0 : Nat) ∧ (48 : Int) = x_2.2.2 ∧ True) ∧ (Is (byts x.1) (byts x_2.1) ∧ y.2 = x_2.2.1 ∧ True) ∧ True) ∧ ∀ (y_2 : Int),
 ((1 : Int) ≤ x_2.2.2 → (0 : Int) ≤ y_2 ∧ y_2 < x_2.2.2) ∧ (x_2.2.2 < (1 : Int) → y_2 = (0 : Int)) →
 condP (y_2 == (0 : Int))
 (∃ x : List Int × Int × List ByteArray,
 (Rd (1099511627776 : Int) x.1 x.2.1 ∧ x.2.2 ≠ [] ∧ Sz x.2.2) ∧ (((0 : Nat) = (0 : Nat) ∧ Is
 (AV.lit (4 : Nat) (1 : Nat)
 (rowsCell
 [[st (ByteArray.mk #[])], [st (ByteArray.mk #[(65 : UInt8)])],
 [st (ByteArray.mk #[(97 : UInt8), (98 : UInt8), (99 : UInt8)])], [st (ByteArray.mk #[(102 : UInt8)])]]))
 (strs x.2.2) ∧ True) ∧ (Is (byts x_2.1) (byts x.1) ∧ x_2.2.1 + (1 : Int) = x.2.1 ∧ True) ∧ True) ∧ ∀ (y_3 : ByteArray),
 y_3 ∈ x.2.2 →
 ∃ y_4 : Pl.TP × Int,
 (Pl.TmB (1500 : Nat) y_4.1 ∧ p ≤ y_4.2 ∧ y_4.2 ≤ p + (500 : Int)) ∧ (0 : Nat) + y.1.2.length ≤ y.1.2.length ∧ ((y_3 = y_4.1.1 ∧ Is (terms y.1.2) (terms y_4.1.2) ∧ True) ∧ True) ∧ (Is (byts x.1) (byts b) ∧ x.2.1 + (1 : Int) = y_4.2 ∧ True) ∧ True)
 (condP (y_2 == (1 : Int))
 (∃ x : Pl.TP,
 SmT (Pl.Tree.mk x.1 x.2) ∧ (((y.1.1 = x.1 ∧ ((0 : Nat) = (0 : Nat) ∧ y.1.2.length = x.2.length) ∧ True) ∧ True) ∧ IsO (arT y.1.2) (arT x.2) ∧ True) ∧ ∀ (y_3 : Unit),
 True →
 (0 : Nat) + y.1.2.length ≤ x.2.length ∧ (y.1.2.length + (1 : Nat)) * (40 : Nat) ≤ (70368744177664 : Nat) ∧ ∃ y_4 : Pl.TP × Int,
 (Pl.TmB (1500 : Nat) y_4.1 ∧ p ≤ y_4.2 ∧ y_4.2 ≤ p + (500 : Int)) ∧ (0 : Nat) + (y.1.2.length + (1 : Nat)) ≤ y.1.2.length + (1 : Nat) ∧ ((y.1.1 = y_4.1.1 ∧ Is
 (AV.sl (y.1.2.length + (1 : Nat)) (2 : Nat) fun (i j : Nat) =>
 joinC y.1.2.length (cT x.2) (rowsCell [[st x.1, terms x.2]]) i j)
 (terms y_4.1.2) ∧ True) ∧ True) ∧ (Is (byts x_2.1) (byts b) ∧ x_2.2.1 + (1 : Int) = y_4.2 ∧ True) ∧ True)
 (condP (y_2 == (2 : Int))
 (∃ x : Pl.TP,
 SmT (Pl.Tree.mk x.1 x.2) ∧ (((y.1.1 = x.1 ∧ ((0 : Nat) = (0 : Nat) ∧ y.1.2.length = x.2.length) ∧ True) ∧ True) ∧ IsO (arT y.1.2) (arT x.2) ∧ True) ∧ ∀ (y_3 : Unit),
 True →
 ∃ x_3 : Pl.TP,
 SmT (Pl.Tree.mk x_3.1 x_3.2) ∧ (((y.1.1 = x_3.1 ∧ ((0 : Nat) = (0 : Nat) ∧ y.1.2.length = x_3.2.length) ∧ True) ∧ True) ∧ IsO (arT x.2) (arT x_3.2) ∧ True) ∧ ∀ (y_4 : Unit),
 True →
 (0 : Nat) + y.1.2.length ≤ x_3.2.length ∧ (y.1.2.length + (2 : Nat)) * (40 : Nat) ≤ (70368744177664 : Nat) ∧ ∃ y_5 : Pl.TP × Int,
 (Pl.TmB (1500 : Nat) y_5.1 ∧ p ≤ y_5.2 ∧ y_5.2 ≤ p + (500 : Int)) ∧ (0 : Nat) + (y.1.2.length + (2 : Nat)) ≤ y.1.2.length + (2 : Nat) ∧ ((y.1.1 = y_5.1.1 ∧ Is
 (AV.sl (y.1.2.length + (2 : Nat)) (2 : Nat) fun (i j : Nat) =>
 joinC y.1.2.length (cT x_3.2)
 (rowsCell [[st x.1, terms x.2], [st x_3.1, terms x_3.2]]) i j)
 (terms y_5.1.2) ∧ True) ∧ True) ∧ (Is (byts x_2.1) (byts b) ∧ x_2.2.1 + (1 : Int) = y_5.2 ∧ True) ∧ True)
 (∃ y_3 : Pl.TP × Int,
 (Pl.TmB (1500 : Nat) y_3.1 ∧ p ≤ y_3.2 ∧ y_3.2 ≤ p + (500 : Int)) ∧ (0 : Nat) + y.1.2.length ≤ y.1.2.length ∧ ((y.1.1 = y_3.1.1 ∧ Is (terms y.1.2) (terms y_3.1.2) ∧ True) ∧ True) ∧ (Is (byts x_2.1) (byts b) ∧ x_2.2.1 + (1 : Int) = y_3.2 ∧ True) ∧ True)))) ∧ (∃ x_1 : List Int × Int × List Int,
 (Rd (1099511627776 : Int) x_1.1 x_1.2.1 ∧ x_1.2.2 ≠ [] ∧ Sz x_1.2.2) ∧ (((0 : Nat) = (0 : Nat) ∧ Is (AV.lit (4 : Nat) (1 : Nat) (rowsCell [[i64 (2 : Int)], [i64 (3 : Int)], [i64 (1 : Int)], [i64 (4 : Int)]])) (ints x_1.2.2) ∧ True) ∧ (Is (byts x.1) (byts x_1.1) ∧ x.2.1 + (1 : Int) = x_1.2.1 ∧ True) ∧ True) ∧ ∀ (y_1 : Int),
 y_1 ∈ x_1.2.2 →
 (∃ x : AX,
 (Rd (137438953472 : Int) x.1 x.2.1 ∧ x.2.1 + (↑(Pl.CB x.2.2.2.2.toNat) : Int) ≤ (137438953472 : Int) ∧ Pl.SgB (5 : Nat) (2 : Nat) x.2.2.1 ∧ x.2.2.2.2 ≤ (4 : Int)) ∧ (((0 : Nat) = (0 : Nat) ∧ (Is (syms s) (syms x.2.2.1) ∧ True) ∧ y = x.2.2.2.1 ∧ y_1 = x.2.2.2.2 ∧ True) ∧ (Is (byts x_1.1) (byts x.1) ∧ x_1.2.1 + (1 : Int) = x.2.1 ∧ True) ∧ True) ∧ ∀ (y : Pl.TP × Int),
 Pl.TmB (Pl.CB x.2.2.2.2.toNat) y.1 ∧ x.2.1 ≤ y.2 ∧ y.2 ≤ x.2.1 + (↑(Pl.CB x.2.2.2.2.toNat) : Int) →
 ∃ x_2 : List Int × Int × Int,
 Rd (1099511627776 : Int) x_2.1 x_2.2.1 ∧ (((0 : Nat) = (0 : Nat) ∧ (48 : Int) = x_2.2.2 ∧ True) ∧ (Is (byts x.1) (byts x_2.1) ∧ y.2 = x_2.2.1 ∧ True) ∧ True) ∧ ∀ (y_2 : Int),
 ((1 : Int) ≤ x_2.2.2 → (0 : Int) ≤ y_2 ∧ y_2 < x_2.2.2) ∧ (x_2.2.2 < (1 : Int) → y_2 = (0 : Int)) →
 condP (y_2 == (0 : Int))
 (∃ x : List Int × Int × List ByteArray,
 (Rd (1099511627776 : Int) x.1 x.2.1 ∧ x.2.2 ≠ [] ∧ Sz x.2.2) ∧ (((0 : Nat) = (0 : Nat) ∧ Is
 (AV.lit (4 : Nat) (1 : Nat)
 (rowsCell
 [[st (ByteArray.mk #[])], [st (ByteArray.mk #[(65 : UInt8)])],
 [st (ByteArray.mk #[(97 : UInt8), (98 : UInt8), (99 : UInt8)])], [st (ByteArray.mk #[(102 : UInt8)])]]))
 (strs x.2.2) ∧ True) ∧ (Is (byts x_2.1) (byts x.1) ∧ x_2.2.1 + (1 : Int) = x.2.1 ∧ True) ∧ True) ∧ ∀ (y_3 : ByteArray),
 y_3 ∈ x.2.2 →
 ∃ y_4 : Pl.TP × Int,
 (Pl.TmB (1500 : Nat) y_4.1 ∧ p ≤ y_4.2 ∧ y_4.2 ≤ p + (500 : Int)) ∧ (0 : Nat) + y.1.2.length ≤ y.1.2.length ∧ ((y_3 = y_4.1.1 ∧ Is (terms y.1.2) (terms y_4.1.2) ∧ True) ∧ True) ∧ (Is (byts x.1) (byts b) ∧ x.2.1 + (1 : Int) = y_4.2 ∧ True) ∧ True)
 (condP (y_2 == (1 : Int))
 (∃ x : Pl.TP,
 SmT (Pl.Tree.mk x.1 x.2) ∧ (((y.1.1 = x.1 ∧ ((0 : Nat) = (0 : Nat) ∧ y.1.2.length = x.2.length) ∧ True) ∧ True) ∧ IsO (arT y.1.2) (arT x.2) ∧ True) ∧ ∀ (y_3 : Unit),
 True →
 (0 : Nat) + y.1.2.length ≤ x.2.length ∧ (y.1.2.length + (1 : Nat)) * (40 : Nat) ≤ (70368744177664 : Nat) ∧ ∃ y_4 : Pl.TP × Int,
 (Pl.TmB (1500 : Nat) y_4.1 ∧ p ≤ y_4.2 ∧ y_4.2 ≤ p + (500 : Int)) ∧ (0 : Nat) + (y.1.2.length + (1 : Nat)) ≤ y.1.2.length + (1 : Nat) ∧ ((y.1.1 = y_4.1.1 ∧ Is
 (AV.sl (y.1.2.length + (1 : Nat)) (2 : Nat) fun (i j : Nat) =>
 joinC y.1.2.length (cT x.2) (rowsCell [[st x.1, terms x.2]]) i j)
 (terms y_4.1.2) ∧ True) ∧ True) ∧ (Is (byts x_2.1) (byts b) ∧ x_2.2.1 + (1 : Int) = y_4.2 ∧ True) ∧ True)
 (condP (y_2 == (2 : Int))
 (∃ x : Pl.TP,
 SmT (Pl.Tree.mk x.1 x.2) ∧ (((y.1.1 = x.1 ∧ ((0 : Nat) = (0 : Nat) ∧ y.1.2.length = x.2.length) ∧ True) ∧ True) ∧ IsO (arT y.1.2) (arT x.2) ∧ True) ∧ ∀ (y_3 : Unit),
 True →
 ∃ x_3 : Pl.TP,
 SmT (Pl.Tree.mk x_3.1 x_3.2) ∧ (((y.1.1 = x_3.1 ∧ ((0 : Nat) = (0 : Nat) ∧ y.1.2.length = x_3.2.length) ∧ True) ∧ True) ∧ IsO (arT x.2) (arT x_3.2) ∧ True) ∧ ∀ (y_4 : Unit),
 True →
 (0 : Nat) + y.1.2.length ≤ x_3.2.length ∧ (y.1.2.length + (2 : Nat)) * (40 : Nat) ≤ (70368744177664 : Nat) ∧ ∃ y_5 : Pl.TP × Int,
 (Pl.TmB (1500 : Nat) y_5.1 ∧ p ≤ y_5.2 ∧ y_5.2 ≤ p + (500 : Int)) ∧ (0 : Nat) + (y.1.2.length + (2 : Nat)) ≤ y.1.2.length + (2 : Nat) ∧ ((y.1.1 = y_5.1.1 ∧ Is
 (AV.sl (y.1.2.length + (2 : Nat)) (2 : Nat) fun (i j : Nat) =>
 joinC y.1.2.length (cT x_3.2)
 (rowsCell [[st x.1, terms x.2], [st x_3.1, terms x_3.2]]) i j)
 (terms y_5.1.2) ∧ True) ∧ True) ∧ (Is (byts x_2.1) (byts b) ∧ x_2.2.1 + (1 : Int) = y_5.2 ∧ True) ∧ True)
 (∃ y_3 : Pl.TP × Int,
 (Pl.TmB (1500 : Nat) y_3.1 ∧ p ≤ y_3.2 ∧ y_3.2 ≤ p + (500 : Int)) ∧ (0 : Nat) + y.1.2.length ≤ y.1.2.length ∧ ((y.1.1 = y_3.1.1 ∧ Is (terms y.1.2) (terms y_3.1.2) ∧ True) ∧ True) ∧ (Is (byts x_2.1) (byts b) ∧ x_2.2.1 + (1 : Int) = y_3.2 ∧ True) ∧ True)))) ∧ ∃ x : AX,
 (Rd (137438953472 : Int) x.1 x.2.1 ∧ x.2.1 + (↑(Pl.CB x.2.2.2.2.toNat) : Int) ≤ (137438953472 : Int) ∧ Pl.SgB (5 : Nat) (2 : Nat) x.2.2.1 ∧ x.2.2.2.2 ≤ (4 : Int)) ∧ (((0 : Nat) = (0 : Nat) ∧ (Is (syms s) (syms x.2.2.1) ∧ True) ∧ y = x.2.2.2.1 ∧ y_1 = x.2.2.2.2 ∧ True) ∧ (Is (byts x_1.1) (byts x.1) ∧ x_1.2.1 + (1 : Int) = x.2.1 ∧ True) ∧ True) ∧ ∀ (y : Pl.TP × Int),
 Pl.TmB (Pl.CB x.2.2.2.2.toNat) y.1 ∧ x.2.1 ≤ y.2 ∧ y.2 ≤ x.2.1 + (↑(Pl.CB x.2.2.2.2.toNat) : Int) →
 ∃ x_2 : List Int × Int × Int,
 Rd (1099511627776 : Int) x_2.1 x_2.2.1 ∧ (((0 : Nat) = (0 : Nat) ∧ (48 : Int) = x_2.2.2 ∧ True) ∧ (Is (byts x.1) (byts x_2.1) ∧ y.2 = x_2.2.1 ∧ True) ∧ True) ∧ ∀ (y_2 : Int),
 ((1 : Int) ≤ x_2.2.2 → (0 : Int) ≤ y_2 ∧ y_2 < x_2.2.2) ∧ (x_2.2.2 < (1 : Int) → y_2 = (0 : Int)) →
 condP (y_2 == (0 : Int))
 (∃ x : List Int × Int × List ByteArray,
 (Rd (1099511627776 : Int) x.1 x.2.1 ∧ x.2.2 ≠ [] ∧ Sz x.2.2) ∧ (((0 : Nat) = (0 : Nat) ∧ Is
 (AV.lit (4 : Nat) (1 : Nat)
 (rowsCell
 [[st (ByteArray.mk #[])], [st (ByteArray.mk #[(65 : UInt8)])],
 [st (ByteArray.mk #[(97 : UInt8), (98 : UInt8), (99 : UInt8)])], [st (ByteArray.mk #[(102 : UInt8)])]]))
 (strs x.2.2) ∧ True) ∧ (Is (byts x_2.1) (byts x.1) ∧ x_2.2.1 + (1 : Int) = x.2.1 ∧ True) ∧ True) ∧ ∀ (y_3 : ByteArray),
 y_3 ∈ x.2.2 →
 ∃ y_4 : Pl.TP × Int,
 (Pl.TmB (1500 : Nat) y_4.1 ∧ p ≤ y_4.2 ∧ y_4.2 ≤ p + (500 : Int)) ∧ (0 : Nat) + y.1.2.length ≤ y.1.2.length ∧ ((y_3 = y_4.1.1 ∧ Is (terms y.1.2) (terms y_4.1.2) ∧ True) ∧ True) ∧ (Is (byts x.1) (byts b) ∧ x.2.1 + (1 : Int) = y_4.2 ∧ True) ∧ True)
 (condP (y_2 == (1 : Int))
 (∃ x : Pl.TP,
 SmT (Pl.Tree.mk x.1 x.2) ∧ (((y.1.1 = x.1 ∧ ((0 : Nat) = (0 : Nat) ∧ y.1.2.length = x.2.length) ∧ True) ∧ True) ∧ IsO (arT y.1.2) (arT x.2) ∧ True) ∧ ∀ (y_3 : Unit),
 True →
 (0 : Nat) + y.1.2.length ≤ x.2.length ∧ (y.1.2.length + (1 : Nat)) * (40 : Nat) ≤ (70368744177664 : Nat) ∧ ∃ y_4 : Pl.TP × Int,
 (Pl.TmB (1500 : Nat) y_4.1 ∧ p ≤ y_4.2 ∧ y_4.2 ≤ p + (500 : Int)) ∧ (0 : Nat) + (y.1.2.length + (1 : Nat)) ≤ y.1.2.length + (1 : Nat) ∧ ((y.1.1 = y_4.1.1 ∧ Is
 (AV.sl (y.1.2.length + (1 : Nat)) (2 : Nat) fun (i j : Nat) =>
 joinC y.1.2.length (cT x.2) (rowsCell [[st x.1, terms x.2]]) i j)
 (terms y_4.1.2) ∧ True) ∧ True) ∧ (Is (byts x_2.1) (byts b) ∧ x_2.2.1 + (1 : Int) = y_4.2 ∧ True) ∧ True)
 (condP (y_2 == (2 : Int))
 (∃ x : Pl.TP,
 SmT (Pl.Tree.mk x.1 x.2) ∧ (((y.1.1 = x.1 ∧ ((0 : Nat) = (0 : Nat) ∧ y.1.2.length = x.2.length) ∧ True) ∧ True) ∧ IsO (arT y.1.2) (arT x.2) ∧ True) ∧ ∀ (y_3 : Unit),
 True →
 ∃ x_3 : Pl.TP,
 SmT (Pl.Tree.mk x_3.1 x_3.2) ∧ (((y.1.1 = x_3.1 ∧ ((0 : Nat) = (0 : Nat) ∧ y.1.2.length = x_3.2.length) ∧ True) ∧ True) ∧ IsO (arT x.2) (arT x_3.2) ∧ True) ∧ ∀ (y_4 : Unit),
 True →
 (0 : Nat) + y.1.2.length ≤ x_3.2.length ∧ (y.1.2.length + (2 : Nat)) * (40 : Nat) ≤ (70368744177664 : Nat) ∧ ∃ y_5 : Pl.TP × Int,
 (Pl.TmB (1500 : Nat) y_5.1 ∧ p ≤ y_5.2 ∧ y_5.2 ≤ p + (500 : Int)) ∧ (0 : Nat) + (y.1.2.length + (2 : Nat)) ≤ y.1.2.length + (2 : Nat) ∧ ((y.1.1 = y_5.1.1 ∧ Is
 (AV.sl (y.1.2.length + (2 : Nat)) (2 : Nat) fun (i j : Nat) =>
 joinC y.1.2.length (cT x_3.2)
 (rowsCell [[st x.1, terms x.2], [st x_3.1, terms x_3.2]]) i j)
 (terms y_5.1.2) ∧ True) ∧ True) ∧ (Is (byts x_2.1) (byts b) ∧ x_2.2.1 + (1 : Int) = y_5.2 ∧ True) ∧ True)
 (∃ y_3 : Pl.TP × Int,
 (Pl.TmB (1500 : Nat) y_3.1 ∧ p ≤ y_3.2 ∧ y_3.2 ≤ p + (500 : Int)) ∧ (0 : Nat) + y.1.2.length ≤ y.1.2.length ∧ ((y.1.1 = y_3.1.1 ∧ Is (terms y.1.2) (terms y_3.1.2) ∧ True) ∧ True) ∧ (Is (byts x_2.1) (byts b) ∧ x_2.2.1 + (1 : Int) = y_3.2 ∧ True) ∧ True)))) ∧ (∃ x_1 : List Int × Int × List Int,
 (Rd (1099511627776 : Int) x_1.1 x_1.2.1 ∧ x_1.2.2 ≠ [] ∧ Sz x_1.2.2) ∧ (((0 : Nat) = (0 : Nat) ∧ Is (AV.lit (4 : Nat) (1 : Nat) (rowsCell [[i64 (2 : Int)], [i64 (3 : Int)], [i64 (1 : Int)], [i64 (4 : Int)]])) (ints x_1.2.2) ∧ True) ∧ (Is (byts x.1) (byts x_1.1) ∧ x.2.1 + (1 : Int) = x_1.2.1 ∧ True) ∧ True) ∧ ∀ (y_1 : Int),
 y_1 ∈ x_1.2.2 →
 ∃ x : AX,
 (Rd (137438953472 : Int) x.1 x.2.1 ∧ x.2.1 + (↑(Pl.CB x.2.2.2.2.toNat) : Int) ≤ (137438953472 : Int) ∧ Pl.SgB (5 : Nat) (2 : Nat) x.2.2.1 ∧ x.2.2.2.2 ≤ (4 : Int)) ∧ (((0 : Nat) = (0 : Nat) ∧ (Is (syms s) (syms x.2.2.1) ∧ True) ∧ y = x.2.2.2.1 ∧ y_1 = x.2.2.2.2 ∧ True) ∧ (Is (byts x_1.1) (byts x.1) ∧ x_1.2.1 + (1 : Int) = x.2.1 ∧ True) ∧ True) ∧ ∀ (y : Pl.TP × Int),
 Pl.TmB (Pl.CB x.2.2.2.2.toNat) y.1 ∧ x.2.1 ≤ y.2 ∧ y.2 ≤ x.2.1 + (↑(Pl.CB x.2.2.2.2.toNat) : Int) →
 ∃ x_2 : List Int × Int × Int,
 Rd (1099511627776 : Int) x_2.1 x_2.2.1 ∧ (((0 : Nat) = (0 : Nat) ∧ (48 : Int) = x_2.2.2 ∧ True) ∧ (Is (byts x.1) (byts x_2.1) ∧ y.2 = x_2.2.1 ∧ True) ∧ True) ∧ ∀ (y_2 : Int),
 ((1 : Int) ≤ x_2.2.2 → (0 : Int) ≤ y_2 ∧ y_2 < x_2.2.2) ∧ (x_2.2.2 < (1 : Int) → y_2 = (0 : Int)) →
 condP (y_2 == (0 : Int))
 (∃ x : List Int × Int × List ByteArray,
 (Rd (1099511627776 : Int) x.1 x.2.1 ∧ x.2.2 ≠ [] ∧ Sz x.2.2) ∧ (((0 : Nat) = (0 : Nat) ∧ Is
 (AV.lit (4 : Nat) (1 : Nat)
 (rowsCell
 [[st (ByteArray.mk #[])], [st (ByteArray.mk #[(65 : UInt8)])],
 [st (ByteArray.mk #[(97 : UInt8), (98 : UInt8), (99 : UInt8)])], [st (ByteArray.mk #[(102 : UInt8)])]]))
 (strs x.2.2) ∧ True) ∧ (Is (byts x_2.1) (byts x.1) ∧ x_2.2.1 + (1 : Int) = x.2.1 ∧ True) ∧ True) ∧ ∀ (y_3 : ByteArray),
 y_3 ∈ x.2.2 →
 ∃ y_4 : Pl.TP × Int,
 (Pl.TmB (1500 : Nat) y_4.1 ∧ p ≤ y_4.2 ∧ y_4.2 ≤ p + (500 : Int)) ∧ (0 : Nat) + y.1.2.length ≤ y.1.2.length ∧ ((y_3 = y_4.1.1 ∧ Is (terms y.1.2) (terms y_4.1.2) ∧ True) ∧ True) ∧ (Is (byts x.1) (byts b) ∧ x.2.1 + (1 : Int) = y_4.2 ∧ True) ∧ True)
 (condP (y_2 == (1 : Int))
 (∃ x : Pl.TP,
 SmT (Pl.Tree.mk x.1 x.2) ∧ (((y.1.1 = x.1 ∧ ((0 : Nat) = (0 : Nat) ∧ y.1.2.length = x.2.length) ∧ True) ∧ True) ∧ IsO (arT y.1.2) (arT x.2) ∧ True) ∧ ∀ (y_3 : Unit),
 True →
 (0 : Nat) + y.1.2.length ≤ x.2.length ∧ (y.1.2.length + (1 : Nat)) * (40 : Nat) ≤ (70368744177664 : Nat) ∧ ∃ y_4 : Pl.TP × Int,
 (Pl.TmB (1500 : Nat) y_4.1 ∧ p ≤ y_4.2 ∧ y_4.2 ≤ p + (500 : Int)) ∧ (0 : Nat) + (y.1.2.length + (1 : Nat)) ≤ y.1.2.length + (1 : Nat) ∧ ((y.1.1 = y_4.1.1 ∧ Is
 (AV.sl (y.1.2.length + (1 : Nat)) (2 : Nat) fun (i j : Nat) =>
 joinC y.1.2.length (cT x.2) (rowsCell [[st x.1, terms x.2]]) i j)
 (terms y_4.1.2) ∧ True) ∧ True) ∧ (Is (byts x_2.1) (byts b) ∧ x_2.2.1 + (1 : Int) = y_4.2 ∧ True) ∧ True)
 (condP (y_2 == (2 : Int))
 (∃ x : Pl.TP,
 SmT (Pl.Tree.mk x.1 x.2) ∧ (((y.1.1 = x.1 ∧ ((0 : Nat) = (0 : Nat) ∧ y.1.2.length = x.2.length) ∧ True) ∧ True) ∧ IsO (arT y.1.2) (arT x.2) ∧ True) ∧ ∀ (y_3 : Unit),
 True →
 ∃ x_3 : Pl.TP,
 SmT (Pl.Tree.mk x_3.1 x_3.2) ∧ (((y.1.1 = x_3.1 ∧ ((0 : Nat) = (0 : Nat) ∧ y.1.2.length = x_3.2.length) ∧ True) ∧ True) ∧ IsO (arT x.2) (arT x_3.2) ∧ True) ∧ ∀ (y_4 : Unit),
 True →
 (0 : Nat) + y.1.2.length ≤ x_3.2.length ∧ (y.1.2.length + (2 : Nat)) * (40 : Nat) ≤ (70368744177664 : Nat) ∧ ∃ y_5 : Pl.TP × Int,
 (Pl.TmB (1500 : Nat) y_5.1 ∧ p ≤ y_5.2 ∧ y_5.2 ≤ p + (500 : Int)) ∧ (0 : Nat) + (y.1.2.length + (2 : Nat)) ≤ y.1.2.length + (2 : Nat) ∧ ((y.1.1 = y_5.1.1 ∧ Is
 (AV.sl (y.1.2.length + (2 : Nat)) (2 : Nat) fun (i j : Nat) =>
 joinC y.1.2.length (cT x_3.2)
 (rowsCell [[st x.1, terms x.2], [st x_3.1, terms x_3.2]]) i j)
 (terms y_5.1.2) ∧ True) ∧ True) ∧ (Is (byts x_2.1) (byts b) ∧ x_2.2.1 + (1 : Int) = y_5.2 ∧ True) ∧ True)
 (∃ y_3 : Pl.TP × Int,
 (Pl.TmB (1500 : Nat) y_3.1 ∧ p ≤ y_3.2 ∧ y_3.2 ≤ p + (500 : Int)) ∧ (0 : Nat) + y.1.2.length ≤ y.1.2.length ∧ ((y.1.1 = y_3.1.1 ∧ Is (terms y.1.2) (terms y_3.1.2) ∧ True) ∧ True) ∧ (Is (byts x_2.1) (byts b) ∧ x_2.2.1 + (1 : Int) = y_3.2 ∧ True) ∧ True)))) ∧ ∃ x_1 : List Int × Int × List Int,
 (Rd (1099511627776 : Int) x_1.1 x_1.2.1 ∧ x_1.2.2 ≠ [] ∧ Sz x_1.2.2) ∧ (((0 : Nat) = (0 : Nat) ∧ Is (AV.lit (4 : Nat) (1 : Nat) (rowsCell [[i64 (2 : Int)], [i64 (3 : Int)], [i64 (1 : Int)], [i64 (4 : Int)]])) (ints x_1.2.2) ∧ True) ∧ (Is (byts x.1) (byts x_1.1) ∧ x.2.1 + (1 : Int) = x_1.2.1 ∧ True) ∧ True) ∧ ∀ (y_1 : Int),
 y_1 ∈ x_1.2.2 →
 ∃ x : AX,
 (Rd (137438953472 : Int) x.1 x.2.1 ∧ x.2.1 + (↑(Pl.CB x.2.2.2.2.toNat) : Int) ≤ (137438953472 : Int) ∧ Pl.SgB (5 : Nat) (2 : Nat) x.2.2.1 ∧ x.2.2.2.2 ≤ (4 : Int)) ∧ (((0 : Nat) = (0 : Nat) ∧ (Is (syms s) (syms x.2.2.1) ∧ True) ∧ y = x.2.2.2.1 ∧ y_1 = x.2.2.2.2 ∧ True) ∧ (Is (byts x_1.1) (byts x.1) ∧ x_1.2.1 + (1 : Int) = x.2.1 ∧ True) ∧ True) ∧ ∀ (y : Pl.TP × Int),
 Pl.TmB (Pl.CB x.2.2.2.2.toNat) y.1 ∧ x.2.1 ≤ y.2 ∧ y.2 ≤ x.2.1 + (↑(Pl.CB x.2.2.2.2.toNat) : Int) →
 ∃ x_2 : List Int × Int × Int,
 Rd (1099511627776 : Int) x_2.1 x_2.2.1 ∧ (((0 : Nat) = (0 : Nat) ∧ (48 : Int) = x_2.2.2 ∧ True) ∧ (Is (byts x.1) (byts x_2.1) ∧ y.2 = x_2.2.1 ∧ True) ∧ True) ∧ ∀ (y_2 : Int),
 ((1 : Int) ≤ x_2.2.2 → (0 : Int) ≤ y_2 ∧ y_2 < x_2.2.2) ∧ (x_2.2.2 < (1 : Int) → y_2 = (0 : Int)) →
 condP (y_2 == (0 : Int))
 (∃ x : List Int × Int × List ByteArray,
 (Rd (1099511627776 : Int) x.1 x.2.1 ∧ x.2.2 ≠ [] ∧ Sz x.2.2) ∧ (((0 : Nat) = (0 : Nat) ∧ Is
 (AV.lit (4 : Nat) (1 : Nat)
 (rowsCell
 [[st (ByteArray.mk #[])], [st (ByteArray.mk #[(65 : UInt8)])],
 [st (ByteArray.mk #[(97 : UInt8), (98 : UInt8), (99 : UInt8)])], [st (ByteArray.mk #[(102 : UInt8)])]]))
 (strs x.2.2) ∧ True) ∧ (Is (byts x_2.1) (byts x.1) ∧ x_2.2.1 + (1 : Int) = x.2.1 ∧ True) ∧ True) ∧ ∀ (y_3 : ByteArray),
 y_3 ∈ x.2.2 →
 ∃ y_4 : Pl.TP × Int,
 (Pl.TmB (1500 : Nat) y_4.1 ∧ p ≤ y_4.2 ∧ y_4.2 ≤ p + (500 : Int)) ∧ (0 : Nat) + y.1.2.length ≤ y.1.2.length ∧ ((y_3 = y_4.1.1 ∧ Is (terms y.1.2) (terms y_4.1.2) ∧ True) ∧ True) ∧ (Is (byts x.1) (byts b) ∧ x.2.1 + (1 : Int) = y_4.2 ∧ True) ∧ True)
 (condP (y_2 == (1 : Int))
 (∃ x : Pl.TP,
 SmT (Pl.Tree.mk x.1 x.2) ∧ (((y.1.1 = x.1 ∧ ((0 : Nat) = (0 : Nat) ∧ y.1.2.length = x.2.length) ∧ True) ∧ True) ∧ IsO (arT y.1.2) (arT x.2) ∧ True) ∧ ∀ (y_3 : Unit),
 True →
 (0 : Nat) + y.1.2.length ≤ x.2.length ∧ (y.1.2.length + (1 : Nat)) * (40 : Nat) ≤ (70368744177664 : Nat) ∧ ∃ y_4 : Pl.TP × Int,
 (Pl.TmB (1500 : Nat) y_4.1 ∧ p ≤ y_4.2 ∧ y_4.2 ≤ p + (500 : Int)) ∧ (0 : Nat) + (y.1.2.length + (1 : Nat)) ≤ y.1.2.length + (1 : Nat) ∧ ((y.1.1 = y_4.1.1 ∧ Is
 (AV.sl (y.1.2.length + (1 : Nat)) (2 : Nat) fun (i j : Nat) =>
 joinC y.1.2.length (cT x.2) (rowsCell [[st x.1, terms x.2]]) i j)
 (terms y_4.1.2) ∧ True) ∧ True) ∧ (Is (byts x_2.1) (byts b) ∧ x_2.2.1 + (1 : Int) = y_4.2 ∧ True) ∧ True)
 (condP (y_2 == (2 : Int))
 (∃ x : Pl.TP,
 SmT (Pl.Tree.mk x.1 x.2) ∧ (((y.1.1 = x.1 ∧ ((0 : Nat) = (0 : Nat) ∧ y.1.2.length = x.2.length) ∧ True) ∧ True) ∧ IsO (arT y.1.2) (arT x.2) ∧ True) ∧ ∀ (y_3 : Unit),
 True →
 ∃ x_3 : Pl.TP,
 SmT (Pl.Tree.mk x_3.1 x_3.2) ∧ (((y.1.1 = x_3.1 ∧ ((0 : Nat) = (0 : Nat) ∧ y.1.2.length = x_3.2.length) ∧ True) ∧ True) ∧ IsO (arT x.2) (arT x_3.2) ∧ True) ∧ ∀ (y_4 : Unit),
 True →
 (0 : Nat) + y.1.2.length ≤ x_3.2.length ∧ (y.1.2.length + (2 : Nat)) * (40 : Nat) ≤ (70368744177664 : Nat) ∧ ∃ y_5 : Pl.TP × Int,
 (Pl.TmB (1500 : Nat) y_5.1 ∧ p ≤ y_5.2 ∧ y_5.2 ≤ p + (500 : Int)) ∧ (0 : Nat) + (y.1.2.length + (2 : Nat)) ≤ y.1.2.length + (2 : Nat) ∧ ((y.1.1 = y_5.1.1 ∧ Is
 (AV.sl (y.1.2.length + (2 : Nat)) (2 : Nat) fun (i j : Nat) =>
 joinC y.1.2.length (cT x_3.2)
 (rowsCell [[st x.1, terms x.2], [st x_3.1, terms x_3.2]]) i j)
 (terms y_5.1.2) ∧ True) ∧ True) ∧ (Is (byts x_2.1) (byts b) ∧ x_2.2.1 + (1 : Int) = y_5.2 ∧ True) ∧ True)
 (∃ y_3 : Pl.TP × Int,
 (Pl.TmB (1500 : Nat) y_3.1 ∧ p ≤ y_3.2 ∧ y_3.2 ≤ p + (500 : Int)) ∧ (0 : Nat) + y.1.2.length ≤ y.1.2.length ∧ ((y.1.1 = y_3.1.1 ∧ Is (terms y.1.2) (terms y_3.1.2) ∧ True) ∧ True) ∧ (Is (byts x_2.1) (byts b) ∧ x_2.2.1 + (1 : Int) = y_3.2 ∧ True) ∧ True)))) ∧ (∃ x : List Int × Int × Int,
 Rd (1099511627776 : Int) x.1 x.2.1 ∧ (((0 : Nat) = (0 : Nat) ∧ (2 : Int) = x.2.2 ∧ True) ∧ (Is (byts b) (byts x.1) ∧ p = x.2.1 ∧ True) ∧ True) ∧ ∀ (y : Int),
 ((1 : Int) ≤ x.2.2 → (0 : Int) ≤ y ∧ y < x.2.2) ∧ (x.2.2 < (1 : Int) → y = (0 : Int)) →
 ∃ x_1 : List Int × Int × List Int,
 (Rd (1099511627776 : Int) x_1.1 x_1.2.1 ∧ x_1.2.2 ≠ [] ∧ Sz x_1.2.2) ∧ (((0 : Nat) = (0 : Nat) ∧ Is (AV.lit (4 : Nat) (1 : Nat) (rowsCell [[i64 (2 : Int)], [i64 (3 : Int)], [i64 (1 : Int)], [i64 (4 : Int)]])) (ints x_1.2.2) ∧ True) ∧ (Is (byts x.1) (byts x_1.1) ∧ x.2.1 + (1 : Int) = x_1.2.1 ∧ True) ∧ True) ∧ ∀ (y_1 : Int),
 y_1 ∈ x_1.2.2 →
 ∃ x : AX,
 (Rd (137438953472 : Int) x.1 x.2.1 ∧ x.2.1 + (↑(Pl.CB x.2.2.2.2.toNat) : Int) ≤ (137438953472 : Int) ∧ Pl.SgB (5 : Nat) (2 : Nat) x.2.2.1 ∧ x.2.2.2.2 ≤ (4 : Int)) ∧ (((0 : Nat) = (0 : Nat) ∧ (Is (syms s) (syms x.2.2.1) ∧ True) ∧ y = x.2.2.2.1 ∧ y_1 = x.2.2.2.2 ∧ True) ∧ (Is (byts x_1.1) (byts x.1) ∧ x_1.2.1 + (1 : Int) = x.2.1 ∧ True) ∧ True) ∧ ∀ (y : Pl.TP × Int),
 Pl.TmB (Pl.CB x.2.2.2.2.toNat) y.1 ∧ x.2.1 ≤ y.2 ∧ y.2 ≤ x.2.1 + (↑(Pl.CB x.2.2.2.2.toNat) : Int) →
 ∃ x_2 : List Int × Int × Int,
 Rd (1099511627776 : Int) x_2.1 x_2.2.1 ∧ (((0 : Nat) = (0 : Nat) ∧ (48 : Int) = x_2.2.2 ∧ True) ∧ (Is (byts x.1) (byts x_2.1) ∧ y.2 = x_2.2.1 ∧ True) ∧ True) ∧ ∀ (y_2 : Int),
 ((1 : Int) ≤ x_2.2.2 → (0 : Int) ≤ y_2 ∧ y_2 < x_2.2.2) ∧ (x_2.2.2 < (1 : Int) → y_2 = (0 : Int)) →
 condP (y_2 == (0 : Int))
 (∃ x : List Int × Int × List ByteArray,
 (Rd (1099511627776 : Int) x.1 x.2.1 ∧ x.2.2 ≠ [] ∧ Sz x.2.2) ∧ (((0 : Nat) = (0 : Nat) ∧ Is
 (AV.lit (4 : Nat) (1 : Nat)
 (rowsCell
 [[st (ByteArray.mk #[])], [st (ByteArray.mk #[(65 : UInt8)])],
 [st (ByteArray.mk #[(97 : UInt8), (98 : UInt8), (99 : UInt8)])], [st (ByteArray.mk #[(102 : UInt8)])]]))
 (strs x.2.2) ∧ True) ∧ (Is (byts x_2.1) (byts x.1) ∧ x_2.2.1 + (1 : Int) = x.2.1 ∧ True) ∧ True) ∧ ∀ (y_3 : ByteArray),
 y_3 ∈ x.2.2 →
 ∃ y_4 : Pl.TP × Int,
 (Pl.TmB (1500 : Nat) y_4.1 ∧ p ≤ y_4.2 ∧ y_4.2 ≤ p + (500 : Int)) ∧ (0 : Nat) + y.1.2.length ≤ y.1.2.length ∧ ((y_3 = y_4.1.1 ∧ Is (terms y.1.2) (terms y_4.1.2) ∧ True) ∧ True) ∧ (Is (byts x.1) (byts b) ∧ x.2.1 + (1 : Int) = y_4.2 ∧ True) ∧ True)
 (condP (y_2 == (1 : Int))
 (∃ x : Pl.TP,
 SmT (Pl.Tree.mk x.1 x.2) ∧ (((y.1.1 = x.1 ∧ ((0 : Nat) = (0 : Nat) ∧ y.1.2.length = x.2.length) ∧ True) ∧ True) ∧ IsO (arT y.1.2) (arT x.2) ∧ True) ∧ ∀ (y_3 : Unit),
 True →
 (0 : Nat) + y.1.2.length ≤ x.2.length ∧ (y.1.2.length + (1 : Nat)) * (40 : Nat) ≤ (70368744177664 : Nat) ∧ ∃ y_4 : Pl.TP × Int,
 (Pl.TmB (1500 : Nat) y_4.1 ∧ p ≤ y_4.2 ∧ y_4.2 ≤ p + (500 : Int)) ∧ (0 : Nat) + (y.1.2.length + (1 : Nat)) ≤ y.1.2.length + (1 : Nat) ∧ ((y.1.1 = y_4.1.1 ∧ Is
 (AV.sl (y.1.2.length + (1 : Nat)) (2 : Nat) fun (i j : Nat) =>
 joinC y.1.2.length (cT x.2) (rowsCell [[st x.1, terms x.2]]) i j)
 (terms y_4.1.2) ∧ True) ∧ True) ∧ (Is (byts x_2.1) (byts b) ∧ x_2.2.1 + (1 : Int) = y_4.2 ∧ True) ∧ True)
 (condP (y_2 == (2 : Int))
 (∃ x : Pl.TP,
 SmT (Pl.Tree.mk x.1 x.2) ∧ (((y.1.1 = x.1 ∧ ((0 : Nat) = (0 : Nat) ∧ y.1.2.length = x.2.length) ∧ True) ∧ True) ∧ IsO (arT y.1.2) (arT x.2) ∧ True) ∧ ∀ (y_3 : Unit),
 True →
 ∃ x_3 : Pl.TP,
 SmT (Pl.Tree.mk x_3.1 x_3.2) ∧ (((y.1.1 = x_3.1 ∧ ((0 : Nat) = (0 : Nat) ∧ y.1.2.length = x_3.2.length) ∧ True) ∧ True) ∧ IsO (arT x.2) (arT x_3.2) ∧ True) ∧ ∀ (y_4 : Unit),
 True →
 (0 : Nat) + y.1.2.length ≤ x_3.2.length ∧ (y.1.2.length + (2 : Nat)) * (40 : Nat) ≤ (70368744177664 : Nat) ∧ ∃ y_5 : Pl.TP × Int,
 (Pl.TmB (1500 : Nat) y_5.1 ∧ p ≤ y_5.2 ∧ y_5.2 ≤ p + (500 : Int)) ∧ (0 : Nat) + (y.1.2.length + (2 : Nat)) ≤ y.1.2.length + (2 : Nat) ∧ ((y.1.1 = y_5.1.1 ∧ Is
 (AV.sl (y.1.2.length + (2 : Nat)) (2 : Nat) fun (i j : Nat) =>
 joinC y.1.2.length (cT x_3.2)
 (rowsCell [[st x.1, terms x.2], [st x_3.1, terms x_3.2]]) i j)
 (terms y_5.1.2) ∧ True) ∧ True) ∧ (Is (byts x_2.1) (byts b) ∧ x_2.2.1 + (1 : Int) = y_5.2 ∧ True) ∧ True)
 (∃ y_3 : Pl.TP × Int,
 (Pl.TmB (1500 : Nat) y_3.1 ∧ p ≤ y_3.2 ∧ y_3.2 ≤ p + (500 : Int)) ∧ (0 : Nat) + y.1.2.length ≤ y.1.2.length ∧ ((y.1.1 = y_3.1.1 ∧ Is (terms y.1.2) (terms y_3.1.2) ∧ True) ∧ True) ∧ (Is (byts x_2.1) (byts b) ∧ x_2.2.1 + (1 : Int) = y_3.2 ∧ True) ∧ True)))) ∧ ∃ x : List Int × Int × Int,
 Rd (1099511627776 : Int) x.1 x.2.1 ∧ (((0 : Nat) = (0 : Nat) ∧ (2 : Int) = x.2.2 ∧ True) ∧ (Is (byts b) (byts x.1) ∧ p = x.2.1 ∧ True) ∧ True) ∧ ∀ (y : Int),
 ((1 : Int) ≤ x.2.2 → (0 : Int) ≤ y ∧ y < x.2.2) ∧ (x.2.2 < (1 : Int) → y = (0 : Int)) →
 (∃ x_1 : List Int × Int × List Int,
 (Rd (1099511627776 : Int) x_1.1 x_1.2.1 ∧ x_1.2.2 ≠ [] ∧ Sz x_1.2.2) ∧ (((0 : Nat) = (0 : Nat) ∧ Is (AV.lit (4 : Nat) (1 : Nat) (rowsCell [[i64 (2 : Int)], [i64 (3 : Int)], [i64 (1 : Int)], [i64 (4 : Int)]])) (ints x_1.2.2) ∧ True) ∧ (Is (byts x.1) (byts x_1.1) ∧ x.2.1 + (1 : Int) = x_1.2.1 ∧ True) ∧ True) ∧ ∀ (y_1 : Int),
 y_1 ∈ x_1.2.2 →
 ∃ x : AX,
 (Rd (137438953472 : Int) x.1 x.2.1 ∧ x.2.1 + (↑(Pl.CB x.2.2.2.2.toNat) : Int) ≤ (137438953472 : Int) ∧ Pl.SgB (5 : Nat) (2 : Nat) x.2.2.1 ∧ x.2.2.2.2 ≤ (4 : Int)) ∧ (((0 : Nat) = (0 : Nat) ∧ (Is (syms s) (syms x.2.2.1) ∧ True) ∧ y = x.2.2.2.1 ∧ y_1 = x.2.2.2.2 ∧ True) ∧ (Is (byts x_1.1) (byts x.1) ∧ x_1.2.1 + (1 : Int) = x.2.1 ∧ True) ∧ True) ∧ ∀ (y : Pl.TP × Int),
 Pl.TmB (Pl.CB x.2.2.2.2.toNat) y.1 ∧ x.2.1 ≤ y.2 ∧ y.2 ≤ x.2.1 + (↑(Pl.CB x.2.2.2.2.toNat) : Int) →
 ∃ x_2 : List Int × Int × Int,
 Rd (1099511627776 : Int) x_2.1 x_2.2.1 ∧ (((0 : Nat) = (0 : Nat) ∧ (48 : Int) = x_2.2.2 ∧ True) ∧ (Is (byts x.1) (byts x_2.1) ∧ y.2 = x_2.2.1 ∧ True) ∧ True) ∧ ∀ (y_2 : Int),
 ((1 : Int) ≤ x_2.2.2 → (0 : Int) ≤ y_2 ∧ y_2 < x_2.2.2) ∧ (x_2.2.2 < (1 : Int) → y_2 = (0 : Int)) →
 condP (y_2 == (0 : Int))
 (∃ x : List Int × Int × List ByteArray,
 (Rd (1099511627776 : Int) x.1 x.2.1 ∧ x.2.2 ≠ [] ∧ Sz x.2.2) ∧ (((0 : Nat) = (0 : Nat) ∧ Is
 (AV.lit (4 : Nat) (1 : Nat)
 (rowsCell
 [[st (ByteArray.mk #[])], [st (ByteArray.mk #[(65 : UInt8)])],
 [st (ByteArray.mk #[(97 : UInt8), (98 : UInt8), (99 : UInt8)])], [st (ByteArray.mk #[(102 : UInt8)])]]))
 (strs x.2.2) ∧ True) ∧ (Is (byts x_2.1) (byts x.1) ∧ x_2.2.1 + (1 : Int) = x.2.1 ∧ True) ∧ True) ∧ ∀ (y_3 : ByteArray),
 y_3 ∈ x.2.2 →
 ∃ y_4 : Pl.TP × Int,
 (Pl.TmB (1500 : Nat) y_4.1 ∧ p ≤ y_4.2 ∧ y_4.2 ≤ p + (500 : Int)) ∧ (0 : Nat) + y.1.2.length ≤ y.1.2.length ∧ ((y_3 = y_4.1.1 ∧ Is (terms y.1.2) (terms y_4.1.2) ∧ True) ∧ True) ∧ (Is (byts x.1) (byts b) ∧ x.2.1 + (1 : Int) = y_4.2 ∧ True) ∧ True)
 (condP (y_2 == (1 : Int))
 (∃ x : Pl.TP,
 SmT (Pl.Tree.mk x.1 x.2) ∧ (((y.1.1 = x.1 ∧ ((0 : Nat) = (0 : Nat) ∧ y.1.2.length = x.2.length) ∧ True) ∧ True) ∧ IsO (arT y.1.2) (arT x.2) ∧ True) ∧ ∀ (y_3 : Unit),
 True →
 (0 : Nat) + y.1.2.length ≤ x.2.length ∧ (y.1.2.length + (1 : Nat)) * (40 : Nat) ≤ (70368744177664 : Nat) ∧ ∃ y_4 : Pl.TP × Int,
 (Pl.TmB (1500 : Nat) y_4.1 ∧ p ≤ y_4.2 ∧ y_4.2 ≤ p + (500 : Int)) ∧ (0 : Nat) + (y.1.2.length + (1 : Nat)) ≤ y.1.2.length + (1 : Nat) ∧ ((y.1.1 = y_4.1.1 ∧ Is
 (AV.sl (y.1.2.length + (1 : Nat)) (2 : Nat) fun (i j : Nat) =>
 joinC y.1.2.length (cT x.2) (rowsCell [[st x.1, terms x.2]]) i j)
 (terms y_4.1.2) ∧ True) ∧ True) ∧ (Is (byts x_2.1) (byts b) ∧ x_2.2.1 + (1 : Int) = y_4.2 ∧ True) ∧ True)
 (condP (y_2 == (2 : Int))
 (∃ x : Pl.TP,
 SmT (Pl.Tree.mk x.1 x.2) ∧ (((y.1.1 = x.1 ∧ ((0 : Nat) = (0 : Nat) ∧ y.1.2.length = x.2.length) ∧ True) ∧ True) ∧ IsO (arT y.1.2) (arT x.2) ∧ True) ∧ ∀ (y_3 : Unit),
 True →
 ∃ x_3 : Pl.TP,
 SmT (Pl.Tree.mk x_3.1 x_3.2) ∧ (((y.1.1 = x_3.1 ∧ ((0 : Nat) = (0 : Nat) ∧ y.1.2.length = x_3.2.length) ∧ True) ∧ True) ∧ IsO (arT x.2) (arT x_3.2) ∧ True) ∧ ∀ (y_4 : Unit),
 True →
 (0 : Nat) + y.1.2.length ≤ x_3.2.length ∧ (y.1.2.length + (2 : Nat)) * (40 : Nat) ≤ (70368744177664 : Nat) ∧ ∃ y_5 : Pl.TP × Int,
 (Pl.TmB (1500 : Nat) y_5.1 ∧ p ≤ y_5.2 ∧ y_5.2 ≤ p + (500 : Int)) ∧ (0 : Nat) + (y.1.2.length + (2 : Nat)) ≤ y.1.2.length + (2 : Nat) ∧ ((y.1.1 = y_5.1.1 ∧ Is
 (AV.sl (y.1.2.length + (2 : Nat)) (2 : Nat) fun (i j : Nat) =>
 joinC y.1.2.length (cT x_3.2)
 (rowsCell [[st x.1, terms x.2], [st x_3.1, terms x_3.2]]) i j)
 (terms y_5.1.2) ∧ True) ∧ True) ∧ (Is (byts x_2.1) (byts b) ∧ x_2.2.1 + (1 : Int) = y_5.2 ∧ True) ∧ True)
 (∃ y_3 : Pl.TP × Int,
 (Pl.TmB (1500 : Nat) y_3.1 ∧ p ≤ y_3.2 ∧ y_3.2 ≤ p + (500 : Int)) ∧ (0 : Nat) + y.1.2.length ≤ y.1.2.length ∧ ((y.1.1 = y_3.1.1 ∧ Is (terms y.1.2) (terms y_3.1.2) ∧ True) ∧ True) ∧ (Is (byts x_2.1) (byts b) ∧ x_2.2.1 + (1 : Int) = y_3.2 ∧ True) ∧ True)))) ∧ ∃ x_1 : List Int × Int × List Int,
 (Rd (1099511627776 : Int) x_1.1 x_1.2.1 ∧ x_1.2.2 ≠ [] ∧ Sz x_1.2.2) ∧ (((0 : Nat) = (0 : Nat) ∧ Is (AV.lit (4 : Nat) (1 : Nat) (rowsCell [[i64 (2 : Int)], [i64 (3 : Int)], [i64 (1 : Int)], [i64 (4 : Int)]])) (ints x_1.2.2) ∧ True) ∧ (Is (byts x.1) (byts x_1.1) ∧ x.2.1 + (1 : Int) = x_1.2.1 ∧ True) ∧ True) ∧ ∀ (y_1 : Int),
 y_1 ∈ x_1.2.2 →
 ∃ x : AX,
 (Rd (137438953472 : Int) x.1 x.2.1 ∧ x.2.1 + (↑(Pl.CB x.2.2.2.2.toNat) : Int) ≤ (137438953472 : Int) ∧ Pl.SgB (5 : Nat) (2 : Nat) x.2.2.1 ∧ x.2.2.2.2 ≤ (4 : Int)) ∧ (((0 : Nat) = (0 : Nat) ∧ (Is (syms s) (syms x.2.2.1) ∧ True) ∧ y = x.2.2.2.1 ∧ y_1 = x.2.2.2.2 ∧ True) ∧ (Is (byts x_1.1) (byts x.1) ∧ x_1.2.1 + (1 : Int) = x.2.1 ∧ True) ∧ True) ∧ ∀ (y : Pl.TP × Int),
 Pl.TmB (Pl.CB x.2.2.2.2.toNat) y.1 ∧ x.2.1 ≤ y.2 ∧ y.2 ≤ x.2.1 + (↑(Pl.CB x.2.2.2.2.toNat) : Int) →
 ∃ x_2 : List Int × Int × Int,
 Rd (1099511627776 : Int) x_2.1 x_2.2.1 ∧ (((0 : Nat) = (0 : Nat) ∧ (48 : Int) = x_2.2.2 ∧ True) ∧ (Is (byts x.1) (byts x_2.1) ∧ y.2 = x_2.2.1 ∧ True) ∧ True) ∧ ∀ (y_2 : Int),
 ((1 : Int) ≤ x_2.2.2 → (0 : Int) ≤ y_2 ∧ y_2 < x_2.2.2) ∧ (x_2.2.2 < (1 : Int) → y_2 = (0 : Int)) →
 condP (y_2 == (0 : Int))
 (∃ x : List Int × Int × List ByteArray,
 (Rd (1099511627776 : Int) x.1 x.2.1 ∧ x.2.2 ≠ [] ∧ Sz x.2.2) ∧ (((0 : Nat) = (0 : Nat) ∧ Is
 (AV.lit (4 : Nat) (1 : Nat)
 (rowsCell
 [[st (ByteArray.mk #[])], [st (ByteArray.mk #[(65 : UInt8)])],
 [st (ByteArray.mk #[(97 : UInt8), (98 : UInt8), (99 : UInt8)])], [st (ByteArray.mk #[(102 : UInt8)])]]))
 (strs x.2.2) ∧ True) ∧ (Is (byts x_2.1) (byts x.1) ∧ x_2.2.1 + (1 : Int) = x.2.1 ∧ True) ∧ True) ∧ ∀ (y_3 : ByteArray),
 y_3 ∈ x.2.2 →
 ∃ y_4 : Pl.TP × Int,
 (Pl.TmB (1500 : Nat) y_4.1 ∧ p ≤ y_4.2 ∧ y_4.2 ≤ p + (500 : Int)) ∧ (0 : Nat) + y.1.2.length ≤ y.1.2.length ∧ ((y_3 = y_4.1.1 ∧ Is (terms y.1.2) (terms y_4.1.2) ∧ True) ∧ True) ∧ (Is (byts x.1) (byts b) ∧ x.2.1 + (1 : Int) = y_4.2 ∧ True) ∧ True)
 (condP (y_2 == (1 : Int))
 (∃ x : Pl.TP,
 SmT (Pl.Tree.mk x.1 x.2) ∧ (((y.1.1 = x.1 ∧ ((0 : Nat) = (0 : Nat) ∧ y.1.2.length = x.2.length) ∧ True) ∧ True) ∧ IsO (arT y.1.2) (arT x.2) ∧ True) ∧ ∀ (y_3 : Unit),
 True →
 (0 : Nat) + y.1.2.length ≤ x.2.length ∧ (y.1.2.length + (1 : Nat)) * (40 : Nat) ≤ (70368744177664 : Nat) ∧ ∃ y_4 : Pl.TP × Int,
 (Pl.TmB (1500 : Nat) y_4.1 ∧ p ≤ y_4.2 ∧ y_4.2 ≤ p + (500 : Int)) ∧ (0 : Nat) + (y.1.2.length + (1 : Nat)) ≤ y.1.2.length + (1 : Nat) ∧ ((y.1.1 = y_4.1.1 ∧ Is
 (AV.sl (y.1.2.length + (1 : Nat)) (2 : Nat) fun (i j : Nat) =>
 joinC y.1.2.length (cT x.2) (rowsCell [[st x.1, terms x.2]]) i j)
 (terms y_4.1.2) ∧ True) ∧ True) ∧ (Is (byts x_2.1) (byts b) ∧ x_2.2.1 + (1 : Int) = y_4.2 ∧ True) ∧ True)
 (condP (y_2 == (2 : Int))
 (∃ x : Pl.TP,
 SmT (Pl.Tree.mk x.1 x.2) ∧ (((y.1.1 = x.1 ∧ ((0 : Nat) = (0 : Nat) ∧ y.1.2.length = x.2.length) ∧ True) ∧ True) ∧ IsO (arT y.1.2) (arT x.2) ∧ True) ∧ ∀ (y_3 : Unit),
 True →
 ∃ x_3 : Pl.TP,
 SmT (Pl.Tree.mk x_3.1 x_3.2) ∧ (((y.1.1 = x_3.1 ∧ ((0 : Nat) = (0 : Nat) ∧ y.1.2.length = x_3.2.length) ∧ True) ∧ True) ∧ IsO (arT x.2) (arT x_3.2) ∧ True) ∧ ∀ (y_4 : Unit),
 True →
 (0 : Nat) + y.1.2.length ≤ x_3.2.length ∧ (y.1.2.length + (2 : Nat)) * (40 : Nat) ≤ (70368744177664 : Nat) ∧ ∃ y_5 : Pl.TP × Int,
 (Pl.TmB (1500 : Nat) y_5.1 ∧ p ≤ y_5.2 ∧ y_5.2 ≤ p + (500 : Int)) ∧ (0 : Nat) + (y.1.2.length + (2 : Nat)) ≤ y.1.2.length + (2 : Nat) ∧ ((y.1.1 = y_5.1.1 ∧ Is
 (AV.sl (y.1.2.length + (2 : Nat)) (2 : Nat) fun (i j : Nat) =>
 joinC y.1.2.length (cT x_3.2)
 (rowsCell [[st x.1, terms x.2], [st x_3.1, terms x_3.2]]) i j)
 (terms y_5.1.2) ∧ True) ∧ True) ∧ (Is (byts x_2.1) (byts b) ∧ x_2.2.1 + (1 : Int) = y_5.2 ∧ True) ∧ True)
 (∃ y_3 : Pl.TP × Int,
 (Pl.TmB (1500 : Nat) y_3.1 ∧ p ≤ y_3.2 ∧ y_3.2 ≤ p + (500 : Int)) ∧ (0 : Nat) + y.1.2.length ≤ y.1.2.length ∧ ((y.1.1 = y_3.1.1 ∧ Is (terms y.1.2) (terms y_3.1.2) ∧ True) ∧ True) ∧ (Is (byts x_2.1) (byts b) ∧ x_2.2.1 + (1 : Int) = y_3.2 ∧ True) ∧ True)))) = Goal Tryd.prog [K_pick, K_num, K_of, K_lAny, K_l4CopyO] ([]) K_l4Some.1 K_l4Some.2 ((b, p, s)) := by kernel_rfl

end Cg

/-
  What is left to show of each function's code, printed by a program: Mds. No condition.
-/
set_option maxRecDepth 100000
set_option linter.unusedVariables false
namespace Cg
open Go Go.Proofs
theorem vc_of (b : List Int) (p : Int) (l : List ByteArray) : (∃ x : List Int × Int × Int,
 Rd (1099511627776 : Int) x.1 x.2.1 ∧ (((0 : Nat) = (0 : Nat) ∧ (↑l.length : Int) = x.2.2 ∧ True) ∧ (Is (byts b) (byts x.1) ∧ p = x.2.1 ∧ True) ∧ True) ∧ ∀ (y : Int),
 ((1 : Int) ≤ x.2.2 → (0 : Int) ≤ y ∧ y < x.2.2) ∧ (x.2.2 < (1 : Int) → y = (0 : Int)) →
 ((0 : Int) ≤ y ∧ y < (↑l.length : Int)) ∧ y.toNat < l.length ∧ ∃ y_1 : ByteArray, y_1 ∈ l ∧ (l.getD y.toNat ByteArray.empty = y_1 ∧ True) ∧ (Is (byts x.1) (byts b) ∧ x.2.1 + (1 : Int) = p + (1 : Int) ∧ True) ∧ True) = Goal Tryd.prog [K_pick] ([]) K_of.1 K_of.2 ((b, p, l)) := by kernel_rfl

theorem vc_l4Base (k : Int) : (condP (k == (0 : Int))
 (Is
 (AV.lit (5 : Nat) (3 : Nat)
 (rowsCell
 [[st (ByteArray.mk #[(97 : UInt8)]), AV.lit (0 : Nat) (1 : Nat) fun (x x_1 : Nat) => AV.any, i64 (0 : Int)],
 [st (ByteArray.mk #[(98 : UInt8)]), AV.lit (0 : Nat) (1 : Nat) fun (x x_1 : Nat) => AV.any, i64 (0 : Int)],
 [st (ByteArray.mk #[(99 : UInt8)]), AV.lit (0 : Nat) (1 : Nat) fun (x x_1 : Nat) => AV.any, i64 (0 : Int)],
 [st (ByteArray.mk #[(102 : UInt8)]), AV.lit (1 : Nat) (1 : Nat) (rowsCell [[i64 (0 : Int)]]), i64 (0 : Int)],
 [st (ByteArray.mk #[(103 : UInt8)]), AV.lit (2 : Nat) (1 : Nat) (rowsCell [[i64 (0 : Int)], [i64 (0 : Int)]]), i64 (0 : Int)]]))
 (syms (Pl.base k)) ∧ True)
 (condP (k == (1 : Int))
 (Is
 (AV.lit (5 : Nat) (3 : Nat)
 (rowsCell
 [[st (ByteArray.mk #[(97 : UInt8)]), AV.lit (0 : Nat) (1 : Nat) fun (x x_1 : Nat) => AV.any, i64 (0 : Int)],
 [st (ByteArray.mk #[(98 : UInt8)]), AV.lit (0 : Nat) (1 : Nat) fun (x x_1 : Nat) => AV.any, i64 (0 : Int)],
 [st (ByteArray.mk #[(104 : UInt8)]), AV.lit (1 : Nat) (1 : Nat) (rowsCell [[i64 (0 : Int)]]), i64 (1 : Int)],
 [st (ByteArray.mk #[(120 : UInt8)]), AV.lit (0 : Nat) (1 : Nat) fun (x x_1 : Nat) => AV.any, i64 (1 : Int)],
 [st (ByteArray.mk #[(121 : UInt8)]), AV.lit (0 : Nat) (1 : Nat) fun (x x_1 : Nat) => AV.any, i64 (1 : Int)]]))
 (syms (Pl.base k)) ∧ True)
 (condP (k == (2 : Int))
 (Is
 (AV.lit (4 : Nat) (3 : Nat)
 (rowsCell
 [[st (ByteArray.mk #[(107 : UInt8)]), AV.lit (1 : Nat) (1 : Nat) (rowsCell [[i64 (1 : Int)]]), i64 (1 : Int)],
 [st (ByteArray.mk #[(120 : UInt8)]), AV.lit (0 : Nat) (1 : Nat) fun (x x_1 : Nat) => AV.any, i64 (1 : Int)],
 [st (ByteArray.mk #[(121 : UInt8)]), AV.lit (0 : Nat) (1 : Nat) fun (x x_1 : Nat) => AV.any, i64 (1 : Int)],
 [st (ByteArray.mk #[(122 : UInt8)]), AV.lit (0 : Nat) (1 : Nat) fun (x x_1 : Nat) => AV.any, i64 (1 : Int)]]))
 (syms (Pl.base k)) ∧ True)
 (condP (k == (3 : Int))
 (Is
 (AV.lit (5 : Nat) (3 : Nat)
 (rowsCell
 [[st (ByteArray.mk #[(97 : UInt8)]), AV.lit (0 : Nat) (1 : Nat) fun (x x_1 : Nat) => AV.any, i64 (0 : Int)],
 [st (ByteArray.mk #[(117 : UInt8)]), AV.lit (1 : Nat) (1 : Nat) (rowsCell [[i64 (1 : Int)]]), i64 (0 : Int)],
 [st (ByteArray.mk #[(118 : UInt8)]), AV.lit (2 : Nat) (1 : Nat) (rowsCell [[i64 (1 : Int)], [i64 (0 : Int)]]), i64 (1 : Int)],
 [st (ByteArray.mk #[(120 : UInt8)]), AV.lit (0 : Nat) (1 : Nat) fun (x x_1 : Nat) => AV.any, i64 (1 : Int)],
 [st (ByteArray.mk #[(121 : UInt8)]), AV.lit (0 : Nat) (1 : Nat) fun (x x_1 : Nat) => AV.any, i64 (1 : Int)]]))
 (syms (Pl.base k)) ∧ True)
 (Is (AV.lit (0 : Nat) (3 : Nat) (rowsCell [])) (syms (Pl.base k)) ∧ True))))) = Goal Tryd.prog [] ([]) K_l4Base.1 K_l4Base.2 (k) := by kernel_rfl

theorem vc_l4Sig (b : List Int) (p : Int) : (∃ x : List Int × Int × List Int,
 (Rd (1099511627776 : Int) x.1 x.2.1 ∧ x.2.2 ≠ [] ∧ Sz x.2.2) ∧ (((0 : Nat) = (0 : Nat) ∧ Is
 (AV.lit (8 : Nat) (1 : Nat)
 (rowsCell [[i64 (0 : Int)], [i64 (0 : Int)], [i64 (1 : Int)], [i64 (1 : Int)], [i64 (2 : Int)], [i64 (3 : Int)], [i64 (1 : Int)], [i64 (4 : Int)]]))
 (ints x.2.2) ∧ True) ∧ (Is (byts b) (byts x.1) ∧ p = x.2.1 ∧ True) ∧ True) ∧ ∀ (y : Int),
 y ∈ x.2.2 →
 ∃ x_1 : Int,
 (y = x_1 ∧ True) ∧ True ∧ ∃ y : Pl.Sig,
 Pl.SgB (5 : Nat) (2 : Nat) y ∧ ((Is (syms (Pl.base x_1)) (syms y) ∧ True) ∧ True) ∧ (Is (byts x.1) (byts b) ∧ x.2.1 + (1 : Int) = p + (1 : Int) ∧ True) ∧ True) = Goal Tryd.prog [K_num, K_l4Base] ([]) K_l4Sig.1 K_l4Sig.2 ((b, p)) := by kernel_rfl

end Cg

/-
  What is left to show of each function's code, printed by a program: Draw. No condition.
-/
set_option maxRecDepth 100000
set_option linter.unusedVariables false
namespace Cg
open Go Go.Proofs
theorem vc_l16Open (b : List Int) : (condP (decide ((↑b.length : Int) > (2000 : Int)))
 (((0 : Int) ≤ (2000 : Int) ∧ (2000 : Int) ≤ (↑b.length : Int)) ∧ ∃ y : List Int, Rd (0 : Int) y (0 : Int) ∧ ((0 : Nat) = (0 : Nat) ∧ True) ∧ (Is (AV.sl (2000 : Nat) (1 : Nat) (cU b)) (byts y) ∧ (0 : Int) = (0 : Int) ∧ True) ∧ True)
 (∃ y : List Int, Rd (0 : Int) y (0 : Int) ∧ ((0 : Nat) = (0 : Nat) ∧ True) ∧ (Is (byts b) (byts y) ∧ (0 : Int) = (0 : Int) ∧ True) ∧ True)) = Goal Tryd.prog [] ([]) K_l16Open.1 K_l16Open.2 (b) := by kernel_rfl

theorem vc_pick (b : List Int) (p n : Int) : (condP (decide (n < (1 : Int)))
 (∃ y : Int,
 (((1 : Int) ≤ n → (0 : Int) ≤ y ∧ y < n) ∧ (n < (1 : Int) → y = (0 : Int))) ∧ ((0 : Int) = y ∧ True) ∧ (Is (byts b) (byts b) ∧ IntKind.i64.wrap (p + (1 : Int)) = p + (1 : Int) ∧ True) ∧ True)
 (condP ((↑b.length : Int) == (0 : Int))
 (∃ y : Int,
 (((1 : Int) ≤ n → (0 : Int) ≤ y ∧ y < n) ∧ (n < (1 : Int) → y = (0 : Int))) ∧ ((0 : Int) = y ∧ True) ∧ (Is (byts b) (byts b) ∧ IntKind.i64.wrap (p + (1 : Int)) = p + (1 : Int) ∧ True) ∧ True)
 (condP (decide (IntKind.i64.wrap (IntKind.i64.wrap (p + (1 : Int)) - (1 : Int)) < (↑b.length : Int)))
 (((0 : Int) ≤ IntKind.i64.wrap (IntKind.i64.wrap (p + (1 : Int)) - (1 : Int)) ∧ IntKind.i64.wrap (IntKind.i64.wrap (p + (1 : Int)) - (1 : Int)) < (↑b.length : Int)) ∧ (IntKind.i64.wrap (IntKind.i64.wrap (p + (1 : Int)) - (1 : Int))).toNat < b.length ∧ n ≠ (0 : Int) ∧ ∃ y : Int,
 (((1 : Int) ≤ n → (0 : Int) ≤ y ∧ y < n) ∧ (n < (1 : Int) → y = (0 : Int))) ∧ ((IntKind.i64.wrap (b.getD (IntKind.i64.wrap (IntKind.i64.wrap (p + (1 : Int)) - (1 : Int))).toNat (0 : Int))).tmod n = y ∧ True) ∧ (Is (byts b) (byts b) ∧ IntKind.i64.wrap (p + (1 : Int)) = p + (1 : Int) ∧ True) ∧ True)
 ((↑b.length : Int) ≠ (0 : Int) ∧ ((0 : Int) ≤ (IntKind.i64.wrap (IntKind.i64.wrap (p + (1 : Int)) - (1 : Int))).tmod (↑b.length : Int) ∧ (IntKind.i64.wrap (IntKind.i64.wrap (p + (1 : Int)) - (1 : Int))).tmod (↑b.length : Int) < (↑b.length : Int)) ∧ ((IntKind.i64.wrap (IntKind.i64.wrap (p + (1 : Int)) - (1 : Int))).tmod (↑b.length : Int)).toNat < b.length ∧ (↑b.length : Int) ≠ (0 : Int) ∧ ((0 : Int) ≤ (IntKind.i64.wrap (IntKind.i64.wrap (IntKind.i64.wrap (IntKind.i64.wrap (p + (1 : Int)) - (1 : Int)) * (7 : Int)) + (3 : Int))).tmod (↑b.length : Int) ∧ (IntKind.i64.wrap (IntKind.i64.wrap (IntKind.i64.wrap (IntKind.i64.wrap (p + (1 : Int)) - (1 : Int)) * (7 : Int)) + (3 : Int))).tmod (↑b.length : Int) <
 (↑b.length : Int)) ∧ ((IntKind.i64.wrap (IntKind.i64.wrap (IntKind.i64.wrap (IntKind.i64.wrap (p + (1 : Int)) - (1 : Int)) * (7 : Int)) + (3 : Int))).tmod (↑b.length : Int)).toNat < b.length ∧ (↑b.length : Int) ≠ (0 : Int) ∧ (64 : Int) ≠ (0 : Int) ∧ n ≠ (0 : Int) ∧ ∃ y : Int,
 (((1 : Int) ≤ n → (0 : Int) ≤ y ∧ y < n) ∧ (n < (1 : Int) → y = (0 : Int))) ∧ ((IntKind.i64.wrap
 (↑(BitVec.ofInt (64 : Nat)
 (IntKind.i64.wrap
 (IntKind.i64.wrap
 (IntKind.i64.wrap
 (IntKind.i64.wrap
 (IntKind.i64.wrap
 (b.getD ((IntKind.i64.wrap (IntKind.i64.wrap (p + (1 : Int)) - (1 : Int))).tmod (↑b.length : Int)).toNat (0 : Int)) *
 (131 : Int)) +
 IntKind.i64.wrap
 (IntKind.i64.wrap
 (b.getD
 ((IntKind.i64.wrap
 (IntKind.i64.wrap (IntKind.i64.wrap (IntKind.i64.wrap (p + (1 : Int)) - (1 : Int)) * (7 : Int)) +
 (3 : Int))).tmod
 (↑b.length : Int)).toNat
 (0 : Int)) *
 (1117 : Int))) +
 IntKind.i64.wrap (IntKind.i64.wrap (IntKind.i64.wrap (p + (1 : Int)) - (1 : Int)) * (29 : Int))) +
 IntKind.i64.wrap
 (IntKind.i64.wrap ((IntKind.i64.wrap (IntKind.i64.wrap (p + (1 : Int)) - (1 : Int))).tdiv (↑b.length : Int)) * (53 : Int)))) ^^^
 BitVec.ofInt (64 : Nat)
 (IntKind.i64.wrap
 ((IntKind.i64.wrap
 (IntKind.i64.wrap
 (IntKind.i64.wrap
 (IntKind.i64.wrap
 (IntKind.i64.wrap
 (b.getD ((IntKind.i64.wrap (IntKind.i64.wrap (p + (1 : Int)) - (1 : Int))).tmod (↑b.length : Int)).toNat (0 : Int)) *
 (131 : Int)) +
 IntKind.i64.wrap
 (IntKind.i64.wrap
 (b.getD
 ((IntKind.i64.wrap
 (IntKind.i64.wrap (IntKind.i64.wrap (IntKind.i64.wrap (p + (1 : Int)) - (1 : Int)) * (7 : Int)) +
 (3 : Int))).tmod
 (↑b.length : Int)).toNat
 (0 : Int)) *
 (1117 : Int))) +
 IntKind.i64.wrap (IntKind.i64.wrap (IntKind.i64.wrap (p + (1 : Int)) - (1 : Int)) * (29 : Int))) +
 IntKind.i64.wrap
 (IntKind.i64.wrap ((IntKind.i64.wrap (IntKind.i64.wrap (p + (1 : Int)) - (1 : Int))).tdiv (↑b.length : Int)) * (53 : Int)))).tdiv
 (64 : Int)))).toNat :
 Int)).tmod
 n =
 y ∧ True) ∧ (Is (byts b) (byts b) ∧ IntKind.i64.wrap (p + (1 : Int)) = p + (1 : Int) ∧ True) ∧ True)))) = Goal Tryd.prog [] ([]) K_pick.1 K_pick.2 ((b, p, n)) := by kernel_rfl

theorem vc_num (b : List Int) (p : Int) (l : List Int) : (∃ x : List Int × Int × Int,
 Rd (1099511627776 : Int) x.1 x.2.1 ∧ (((0 : Nat) = (0 : Nat) ∧ (↑l.length : Int) = x.2.2 ∧ True) ∧ (Is (byts b) (byts x.1) ∧ p = x.2.1 ∧ True) ∧ True) ∧ ∀ (y : Int),
 ((1 : Int) ≤ x.2.2 → (0 : Int) ≤ y ∧ y < x.2.2) ∧ (x.2.2 < (1 : Int) → y = (0 : Int)) →
 ((0 : Int) ≤ y ∧ y < (↑l.length : Int)) ∧ y.toNat < l.length ∧ ∃ y_1 : Int, y_1 ∈ l ∧ (l.getD y.toNat (0 : Int) = y_1 ∧ True) ∧ (Is (byts x.1) (byts b) ∧ x.2.1 + (1 : Int) = p + (1 : Int) ∧ True) ∧ True) = Goal Tryd.prog [K_pick] ([]) K_num.1 K_num.2 ((b, p, l)) := by kernel_rfl

end Cg

/-
  What is left to show of each function's code, printed by a program: Units. No condition.
-/
set_option maxRecDepth 100000
set_option linter.unusedVariables false
namespace Cg
open Go Go.Proofs
end Cg

/-
  What is left to show of each function's code, printed by a program: Clause. No condition.
-/
set_option maxRecDepth 100000
set_option linter.unusedVariables false
namespace Cg
open Go Go.Proofs
theorem vc_within (x y z : Int) : (condP (decide (y ≤ x)) (decide (x ≤ z) = Pl.withinI x y z) (false = Pl.withinI x y z)) = Goal Tryd.prog [] ([]) K_within.1 K_within.2 ((x, y, z)) := by kernel_rfl

end Cg

/-
  The codes' contracts: clauses. No condition.
-/
set_option linter.unusedVariables false
set_option linter.unusedSimpArgs false
set_option maxRecDepth 100000
namespace Cg
open Go Go.Proofs

theorem hm : Tryd.prog.follows .mixedOrders = true := by kernel_rfl

theorem k_within : SoundC Tryd.prog K_within.1 K_within.2 := sound_of hm CtxOK.nil (fun _ => []) (by kernel_rfl) fun ((x, y, z) : Int × Int × Int) _ => cast (vc_within x y z) (by
  simp [Pl.withinI]
  omega)

theorem eq_step {α : Type} [DecidableEq α] (d : α) {l m : List α} {k : Nat} (hk : k < l.length) (hm : l.length = m.length) (he : l = m ↔ l.drop k = m.drop k) :
    (¬ l.getD k d = m.getD k d → ¬ l = m) ∧ (l.getD k d = m.getD k d → (l = m ↔ l.drop (k + 1) = m.drop (k + 1))) := by
  rw [drop_get d hk, drop_get (l := m) d (by omega)] at he
  exact ⟨fun h e => h (by have := he.1 e; injection this), fun h => by rw [he, h]; simp⟩

end Cg

/-
  The plain law of clauses: both ways to tell one give the same. No condition.
-/
set_option linter.unusedVariables false
set_option linter.unusedSimpArgs false
namespace Pl
open Go

end Pl


/-
  Unit propagation: plain laws. No condition.
-/
set_option linter.unusedVariables false
namespace Pl
open Go Cg

/-- A mark of at most sixty variables. -/
def Mk (x : Int) : Prop := x ≠ 0 ∧ -60 ≤ x ∧ x ≤ 60
theorem Mk.wneg {x : Int} (h : Mk x) : Pl.wneg x = -x := by
  obtain ⟨h1, h2, h3⟩ := h
  unfold Pl.wneg; rw [Cg.wrap_small (by omega) (by omega)]; omega
theorem absW_of {x : Int} (h : Mk x) : absW x = if x < 0 then -x else x := by
  obtain ⟨h1, h2, h3⟩ := h
  unfold absW Pl.wneg
  rw [if_neg (by omega), if_neg (by omega)]
  split
  · rw [Cg.wrap_small (by omega) (by omega)]; omega
  · rfl
theorem take_succ_getD {α : Type} (d : α) {l : List α} {i : Nat} (h : i < l.length) : l.take (i + 1) = l.take i ++ [l.getD i d] := by
  rw [List.take_succ_eq_append_getElem h]; simp [h]
end Pl

/-
  What is left to show of each function's code, printed by a program: Cnf. No condition.
-/
set_option maxRecDepth 100000
set_option linter.unusedVariables false
namespace Cg
open Go Go.Proofs
theorem vc_slEqual (l m : List Int) : (condP ((↑l.length : Int) != (↑m.length : Int)) (false = decide (l = m))
 ((∃ x : Nat,
 (x ≤ l.length ∧ l.length = m.length ∧ (l = m ↔ List.drop x l = List.drop x m)) ∧ (Is (ints l) (ints l) ∧ Is (ints m) (ints m) ∧ (↑l.length : Int) = (↑l.length : Int) ∧ (0 : Int) = (↑x : Int) ∧ True) ∧ True) ∧ ∀ (x : Nat),
 x ≤ l.length ∧ l.length = m.length ∧ (l = m ↔ List.drop x l = List.drop x m) →
 condP (decide ((↑x : Int) < (↑l.length : Int)))
 (((0 : Int) ≤ (↑x : Int) ∧ (↑x : Int) < (↑l.length : Int)) ∧ x < l.length ∧ ((0 : Int) ≤ (↑x : Int) ∧ (↑x : Int) < (↑m.length : Int)) ∧ x < m.length ∧ condP (l.getD x (0 : Int) != m.getD x (0 : Int)) (false = decide (l = m))
 (Exists fun (x' : Nat) =>
 (x' ≤ l.length ∧ l.length = m.length ∧ (l = m ↔ List.drop x' l = List.drop x' m)) ∧ l.length - x' < l.length - x ∧ (Is (ints l) (ints l) ∧ Is (ints m) (ints m) ∧ (↑l.length : Int) = (↑l.length : Int) ∧ IntKind.i64.wrap ((↑x : Int) + (1 : Int)) = (↑x' : Int) ∧ True) ∧ True))
 (true = decide (l = m)))) = Goal Tryd.prog [] (A_slEqual l m) K_slEqual.1 K_slEqual.2 ((l, m)) := by kernel_rfl

end Cg

/-
  What is left to show of each function's code, printed by a program: Rows. No condition.
-/
set_option maxRecDepth 100000
set_option linter.unusedVariables false
namespace Cg
open Go Go.Proofs
end Cg

/-
  The codes' contracts: rows of rows, values of marks. No condition.
-/
set_option linter.unusedVariables false
set_option linter.unusedSimpArgs false
set_option maxRecDepth 100000
namespace Cg
open Go Go.Proofs

end Cg

/-
  The codes' contracts: clause sets. No condition.
-/
set_option linter.unusedVariables false
set_option linter.unusedSimpArgs false
set_option maxRecDepth 100000
namespace Cg
open Go Go.Proofs

theorem k_slEqual : SoundC Tryd.prog K_slEqual.1 K_slEqual.2 := sound_of hm CtxOK.nil (fun (l, m) => A_slEqual l m) (by kernel_rfl) fun (l, m) hl => cast (vc_slEqual l m) (by
  replace hl : Sz l := hl
  simp [-List.getD_eq_getElem?_getD, and_assoc]
  refine ⟨fun h e => h (by rw [e]), fun h => ⟨⟨0, by simp; omega⟩, fun k hk hlm he => ⟨fun hlt => ⟨hlt, by omega, (eq_step 0 hlt hlm he).1, fun h => ⟨k + 1, hlt, hlm, (eq_step 0 hlt hlm he).2 h, by omega, wrap_succ hlt hl⟩⟩, fun hge => ?_⟩⟩⟩
  rw [drop_end (by omega), drop_end (l := m) (by omega)] at he
  exact he.2 rfl)
end Cg

/-
  The codes' contracts: unit propagation. No condition.
-/
set_option linter.unusedVariables false
set_option linter.unusedSimpArgs false
set_option maxRecDepth 100000
namespace Cg
open Go Go.Proofs

end Cg

/-
  The codes' contracts: the reader. No condition.
-/
set_option linter.unusedVariables false
set_option linter.unusedSimpArgs false
set_option maxRecDepth 100000
namespace Cg
open Go Go.Proofs

theorem Rd.mono {m m' : Int} {b : List Int} {p : Int} (h : Rd m b p) (hm : m ≤ m') : Rd m' b p := ⟨h.1, h.2.1, h.2.2.1, Int.le_trans h.2.2.2 hm⟩
theorem Rd.add {m m' : Int} {b : List Int} {p p' : Int} (h : Rd m b p) (h1 : p ≤ p') (h2 : p' ≤ m') : Rd m' b p' := ⟨h.1, h.2.1, Int.le_trans h.2.2.1 h1, h2⟩

theorem k_l16Open : SoundC Tryd.prog K_l16Open.1 K_l16Open.2 := sound_of hm CtxOK.nil (fun _ => []) (by kernel_rfl) fun (b : List Int) hb => cast (vc_l16Open b) (by
  obtain ⟨h1, h2⟩ : Sz b ∧ Byt b := hb
  simp [-List.getD_eq_getElem?_getD, and_assoc]
  refine ⟨fun h => ⟨by omega, b.take 2000, ⟨by simp; omega, fun x hx => h2 x (List.mem_of_mem_take hx), Int.le_refl 0, Int.le_refl 0⟩, (byts_take (by omega)).2 rfl⟩, fun h => ⟨by omega, h2, Int.le_refl 0, Int.le_refl 0⟩⟩)

theorem xor_nonneg {E : Int} (h0 : 0 ≤ E) (h1 : E < 281474976710656) : 0 ≤ IntKind.i64.wrap ((BitVec.ofInt 64 E ^^^ BitVec.ofInt 64 (IntKind.i64.wrap (E.tdiv 64))).toNat : Int) := by
  have d1 : 0 ≤ E.tdiv 64 := Int.tdiv_nonneg h0 (by omega)
  have d2 : E.tdiv 64 ≤ E := Int.tdiv_le_self _ h0
  rw [wrap_small (x := E.tdiv 64) (by omega) (by omega)]
  have e : ∀ x : Int, 0 ≤ x → x < 281474976710656 → (BitVec.ofInt 64 x).toNat < 2 ^ 48 := fun x h h' => by
    rw [BitVec.toNat_ofInt]
    have : x % ((2 ^ 64 : Nat) : Int) = x := Int.emod_eq_of_lt h (by omega)
    rw [this]; omega
  have h : (BitVec.ofInt 64 E ^^^ BitVec.ofInt 64 (E.tdiv 64)).toNat < 2 ^ 48 := by
    rw [BitVec.toNat_xor]
    exact Nat.xor_lt_two_pow (e E h0 h1) (e _ d1 (by omega))
  rw [wrap_small (by omega) (by omega)]
  omega

set_option maxHeartbeats 2000000 in
theorem k_pick : SoundC Tryd.prog K_pick.1 K_pick.2 := sound_of hm CtxOK.nil (fun _ => []) (by kernel_rfl) fun (b, p, n) hb => cast (vc_pick b p n) (by
  obtain ⟨h1, h2, h3, h4⟩ : Rd 1099511627776 b p := hb
  rw [wrap_small (x := p + 1) (by omega) (by omega), show p + 1 - 1 = p by omega, wrap_small (x := p) (by omega) (by omega)]
  simp only [condP_iff, decide_eq_true_eq, decide_eq_false_iff_not, beq_iff_eq, beq_eq_false_iff_ne, ne_eq]
  refine ⟨fun h => ⟨0, ⟨fun h' => absurd h' (by omega), fun _ => rfl⟩, by simp⟩, fun h => ⟨fun h' => ⟨0, ⟨fun _ => ⟨by omega, by omega⟩, fun _ => rfl⟩, by simp⟩, fun h' => ?_⟩⟩
  have hL : (0 : Int) < b.length := by
    omega
  have byte : ∀ i, i < b.length → 0 ≤ b.getD i 0 ∧ b.getD i 0 < 256 := fun i hi => h2 _ (getD_mem 0 hi)
  have tm : ∀ x : Int, 0 ≤ x → 0 ≤ x.tmod b.length ∧ x.tmod b.length < b.length := fun x hx => ⟨Int.tmod_nonneg _ hx, Int.tmod_lt_of_pos _ hL⟩
  refine ⟨fun hlt => ?_, fun hge => ?_⟩
  · obtain ⟨b1, b2⟩ := byte p.toNat (by omega)
    refine ⟨⟨by omega, hlt⟩, by omega, by omega, _, ⟨fun _ => ⟨?_, ?_⟩, fun h'' => absurd h'' (by omega)⟩, ⟨rfl, trivial⟩, by simp⟩
    · rw [wrap_small (by omega) (by omega)]; exact Int.tmod_nonneg _ b1
    · exact Int.tmod_lt_of_pos _ (by omega)
  · have e1 : IntKind.i64.wrap (p * 7) = p * 7 := wrap_small (by omega) (by omega)
    have e2 : IntKind.i64.wrap (p * 7 + 3) = p * 7 + 3 := wrap_small (by omega) (by omega)
    simp only [e1, e2]
    obtain ⟨t1, t2⟩ := tm p h3
    obtain ⟨t3, t4⟩ := tm (p * 7 + 3) (by omega)
    obtain ⟨a1, a2⟩ := byte (p.tmod b.length).toNat (by omega)
    obtain ⟨a3, a4⟩ := byte ((p * 7 + 3).tmod b.length).toNat (by omega)
    have d1 : 0 ≤ p.tdiv b.length := Int.tdiv_nonneg h3 (by omega)
    have d2 : p.tdiv b.length ≤ p := Int.tdiv_le_self _ h3
    refine ⟨by omega, ⟨t1, t2⟩, by omega, by omega, ⟨t3, t4⟩, by omega, by omega, by omega, by omega, ?_⟩
    generalize b.getD (p.tmod b.length).toNat 0 = A at a1 a2 ⊢
    generalize b.getD ((p * 7 + 3).tmod b.length).toNat 0 = B at a3 a4 ⊢
    generalize p.tdiv b.length = D at d1 d2 ⊢
    have e3 : IntKind.i64.wrap A = A := wrap_small (by omega) (by omega)
    have e4 : IntKind.i64.wrap (A * 131) = A * 131 := wrap_small (by omega) (by omega)
    have e5 : IntKind.i64.wrap B = B := wrap_small (by omega) (by omega)
    have e6 : IntKind.i64.wrap (B * 1117) = B * 1117 := wrap_small (by omega) (by omega)
    have e7 : IntKind.i64.wrap (A * 131 + B * 1117) = A * 131 + B * 1117 := wrap_small (by omega) (by omega)
    have e8 : IntKind.i64.wrap (p * 29) = p * 29 := wrap_small (by omega) (by omega)
    have e9 : IntKind.i64.wrap (A * 131 + B * 1117 + p * 29) = A * 131 + B * 1117 + p * 29 := wrap_small (by omega) (by omega)
    have e10 : IntKind.i64.wrap D = D := wrap_small (by omega) (by omega)
    have e11 : IntKind.i64.wrap (D * 53) = D * 53 := wrap_small (by omega) (by omega)
    have e12 : IntKind.i64.wrap (A * 131 + B * 1117 + p * 29 + D * 53) = A * 131 + B * 1117 + p * 29 + D * 53 := wrap_small (by omega) (by omega)
    simp only [e3, e4, e5, e6, e7, e8, e9, e10, e11, e12]
    have hE : 0 ≤ A * 131 + B * 1117 + p * 29 + D * 53 ∧ A * 131 + B * 1117 + p * 29 + D * 53 < 281474976710656 := by omega
    generalize A * 131 + B * 1117 + p * 29 + D * 53 = E at hE
    refine ⟨_, ⟨fun _ => ⟨Int.tmod_nonneg _ (xor_nonneg hE.1 hE.2), Int.tmod_lt_of_pos _ (by omega)⟩, fun h'' => absurd h'' (by omega)⟩, ⟨rfl, trivial⟩, by simp⟩)

end Cg

/-
  Drawn clause sets: plain laws. No condition.
-/
set_option linter.unusedVariables false
set_option linter.unusedSimpArgs false
namespace Pl
open Go Cg

theorem lIs_neg {x : Int} {v : List Bool} (h0 : x ≠ 0) (h1 : x ≤ v.length) (h2 : -(v.length : Int) ≤ x) : lIs (-x) v = !lIs x v := by
  have e1 : ¬ (-x = 0 ∨ -x > (v.length : Int) ∨ -x < -(v.length : Int)) := by omega
  have e2 : ¬ (x = 0 ∨ x > (v.length : Int) ∨ x < -(v.length : Int)) := by omega
  unfold lIs
  rw [if_neg e1, if_neg e2]
  by_cases h : x < 0
  · have e3 : ¬ -x < 0 := by omega
    rw [if_neg e3, if_pos h, Bool.not_not]; congr 2; omega
  · have e3 : -x < 0 := by omega
    rw [if_pos e3, if_neg h]; congr 3; omega
theorem Mk.le_abs {x n : Int} (h : Mk x) (h1 : absW x ≤ n) : x ≤ n ∧ -n ≤ x := by
  rw [absW_of h] at h1
  split at h1 <;> omega
theorem Mk.lIs {x : Int} {v : List Bool} (h : Mk x) (h1 : absW x ≤ v.length) : Pl.lIs (Pl.wneg x) v = !Pl.lIs x v := by
  obtain ⟨h2, h3⟩ := h.le_abs h1
  rw [h.wneg]
  exact lIs_neg h.1 h2 h3

end Pl

/-
  The codes' contracts: drawn clause sets. No condition.
-/
set_option linter.unusedVariables false
set_option linter.unusedSimpArgs false
set_option maxRecDepth 100000
namespace Cg
open Go Go.Proofs

theorem k_num : SoundC Tryd.prog K_num.1 K_num.2 := sound_of hm (CtxOK.nil.and k_pick) (fun _ => []) (by kernel_rfl) fun (b, p, l) hb => cast (vc_num b p l) (by
  obtain ⟨h1, h2, h3⟩ : Rd 1099511627776 b p ∧ l ≠ [] ∧ Sz l := hb
  simp [-List.getD_eq_getElem?_getD, and_assoc]
  have hl : 0 < l.length := List.length_pos_iff.2 h2
  exact ⟨b, p, h1, rfl, rfl, fun y h4 h5 => by
    obtain ⟨h6, h7⟩ := h4 (by omega)
    exact ⟨h6, h7, by omega, _, getD_mem 0 (by omega), rfl, rfl, rfl⟩⟩)

end Cg

/-
  The codes' contracts: drawn clause sets, the rest. No condition.
-/
set_option linter.unusedVariables false
set_option linter.unusedSimpArgs false
set_option maxRecDepth 100000
namespace Cg
open Go Go.Proofs


theorem Rd.to {m m' : Int} {b : List Int} {p p' : Int} (h : Rd m b p) (h1 : 0 ≤ p') (h2 : p' ≤ m') : Rd m' b p' := ⟨h.1, h.2.1, h1, h2⟩
theorem Rds.two {v w : List Int} {a b : AV} (h1 : Is a (ints v)) (h2 : Is b (ints w)) : Rds 1 eII [] 2 (rowsCell [[a], [b]]) [v, w] := ⟨rfl, fun i hi j hj => by
  match i, j, hi, hj with
  | 0, 0, _, _ => exact h1
  | 1, 0, _, _ => exact h2⟩
theorem Rds.one {v : List Int} {a : AV} (h1 : Is a (ints v)) : Rds 1 eII [] 1 (rowsCell [[a]]) [v] := ⟨rfl, fun i hi j hj => by
  match i, j, hi, hj with
  | 0, 0, _, _ => exact h1⟩

theorem Sm.len {a : Int} {l : List (List Int)} (h : Sm (a, l)) : a ≤ 61 ∧ l.length ≤ 100 ∧ ∀ x ∈ l, x.length ≤ 100 := h
end Cg

/-
  The codes' contracts: laws of drawn clause sets. No condition.
-/
set_option linter.unusedVariables false
set_option linter.unusedSimpArgs false
set_option maxRecDepth 100000
namespace Cg
open Go Go.Proofs

theorem byt_of {l : List Int} (h : ∀ x ∈ l, (Lit.int .u8 x).wf = true) : Byt l := fun x hx => by
  have := h x hx
  simp [Lit.wf, IntKind.min, IntKind.max, IntKind.signed, IntKind.bits] at this
  omega
end Cg

/-
  What is left to show of each function's code, printed by a program: Tsort. No condition.
-/
set_option maxRecDepth 100000
set_option linter.unusedVariables false
namespace Cg
open Go Go.Proofs
theorem vc_termSize0 (x : Pl.TP) : (∃ x_1 : ByteArray,
 (x.1 = x_1 ∧ True) ∧ x_1.size ≤ (1048576 : Nat) ∧ condP (!Pl.nameOk x_1) ((13 : Int) = (↑(Pl.tsz (0 : Nat) (Pl.Tree.mk x.1 x.2)) : Int))
 (condP (decide ((↑x.2.length : Int) > (2 : Int))) ((13 : Int) = (↑(Pl.tsz (0 : Nat) (Pl.Tree.mk x.1 x.2)) : Int))
 ((13 : Int) = (↑(Pl.tsz (0 : Nat) (Pl.Tree.mk x.1 x.2)) : Int)))) = Goal Tryd.prog [K_iNameOk] ([]) (K_termSize 0).1 (K_termSize 0).2 (x) := by kernel_rfl

theorem vc_termSize (n : Nat) (x : Pl.TP) : (∃ x_1 : ByteArray,
 (x.1 = x_1 ∧ True) ∧ x_1.size ≤ (1048576 : Nat) ∧ condP (!Pl.nameOk x_1) ((13 : Int) = (↑(Pl.tsz (n + (1 : Nat)) (Pl.Tree.mk x.1 x.2)) : Int))
 (condP (decide ((↑x.2.length : Int) > (2 : Int))) ((13 : Int) = (↑(Pl.tsz (n + (1 : Nat)) (Pl.Tree.mk x.1 x.2)) : Int))
 (condP (decide ((5 : Int) - (↑(n + (1 : Nat)) : Int) > (4 : Int))) ((13 : Int) = (↑(Pl.tsz (n + (1 : Nat)) (Pl.Tree.mk x.1 x.2)) : Int))
 ((∃ x_2 : Nat,
 (x_2 ≤ x.2.length ∧ x.2.length ≤ (2 : Nat)) ∧ ((5 : Int) - (↑(n + (1 : Nat)) : Int) = (5 : Int) - (↑(n + (1 : Nat)) : Int) ∧ (0 : Nat) = (0 : Nat) ∧ (1 : Int) = (↑((1 : Nat) + Pl.sumN (Pl.tsz n) (List.take x_2 x.2)) : Int) ∧ Is (terms x.2) (terms x.2) ∧ (↑x.2.length : Int) = (↑x.2.length : Int) ∧ (0 : Int) = (↑x_2 : Int) ∧ True) ∧ (x.1 = x.1 ∧ Is (terms x.2) (terms x.2) ∧ True) ∧ True) ∧ ∀ (x_2 : Nat),
 x_2 ≤ x.2.length ∧ x.2.length ≤ (2 : Nat) →
 condP (decide ((↑x_2 : Int) < (↑x.2.length : Int)))
 (((0 : Int) ≤ (↑x_2 : Int) ∧ (↑x_2 : Int) < (↑x.2.length : Int)) ∧ x_2 < x.2.length ∧ ∃ x_3 : Pl.TP,
 ((Pl.Tree.val (x.2.getD x_2 Pl.dT) = x_3.1 ∧ Is (kidsT (x.2.getD x_2 Pl.dT)) (terms x_3.2) ∧ True) ∧ IntKind.i64.wrap ((5 : Int) - (↑(n + (1 : Nat)) : Int) + (1 : Int)) = (5 : Int) - (↑n : Int) ∧ True) ∧ (SmT (Pl.Tree.mk x_3.1 x_3.2) ∧ n ≤ (4 : Nat)) ∧ Exists fun (x' : Nat) =>
 (x' ≤ x.2.length ∧ x.2.length ≤ (2 : Nat)) ∧ x.2.length - x' < x.2.length - x_2 ∧ ((5 : Int) - (↑(n + (1 : Nat)) : Int) = (5 : Int) - (↑(n + (1 : Nat)) : Int) ∧ (0 : Nat) = (0 : Nat) ∧ IntKind.i64.wrap ((↑((1 : Nat) + Pl.sumN (Pl.tsz n) (List.take x_2 x.2)) : Int) + (↑(Pl.tsz n (Pl.Tree.mk x_3.1 x_3.2)) : Int)) =
 (↑((1 : Nat) + Pl.sumN (Pl.tsz n) (List.take x' x.2)) : Int) ∧ Is (terms x.2) (terms x.2) ∧ (↑x.2.length : Int) = (↑x.2.length : Int) ∧ IntKind.i64.wrap ((↑x_2 : Int) + (1 : Int)) = (↑x' : Int) ∧ True) ∧ (x.1 = x.1 ∧ Is (terms x.2) (terms x.2) ∧ True) ∧ True)
 ((↑((1 : Nat) + Pl.sumN (Pl.tsz n) (List.take x_2 x.2)) : Int) = (↑(Pl.tsz (n + (1 : Nat)) (Pl.Tree.mk x.1 x.2)) : Int)))))) = Goal Tryd.prog [K_iNameOk, (K_termSize n)] (A_termSize n x.1 x.2) (K_termSize (n + 1)).1 (K_termSize (n + 1)).2 (x) := by kernel_rfl

theorem vc_isTerm (a : ByteArray) (b : List Pl.Tm) : (∃ x : Pl.TP,
 ((a = x.1 ∧ Is (terms b) (terms x.2) ∧ True) ∧ (1 : Int) = (5 : Int) - (↑(4 : Nat) : Int) ∧ True) ∧ (SmT (Pl.Tree.mk x.1 x.2) ∧ (4 : Nat) ≤ (4 : Nat)) ∧ decide ((↑(Pl.tsz (4 : Nat) (Pl.Tree.mk x.1 x.2)) : Int) ≤ (12 : Int)) = Pl.right (Pl.Tree.mk a b)) = Goal Tryd.prog [(K_termSize 4)] ([]) K_isTerm.1 K_isTerm.2 ((a, b)) := by kernel_rfl

end Cg

/-
  What is left to show of each function's code, printed by a program: Sort. No condition.
-/
set_option maxRecDepth 100000
set_option linter.unusedVariables false
namespace Cg
open Go Go.Proofs
end Cg

/-
  What is left to show of each function's code, printed by a program: Sig. No condition.
-/
set_option maxRecDepth 100000
set_option linter.unusedVariables false
namespace Cg
open Go Go.Proofs
theorem vc_iNameOk (s : ByteArray) : (∃ x : Int × Int × Int,
 ((↑s.size : Int) = x.1 ∧ (1 : Int) = x.2.1 ∧ (2 : Int) = x.2.2 ∧ True) ∧ True ∧ condP (!Pl.withinI x.1 x.2.1 x.2.2) (false = Pl.nameOk s)
 ((∃ x : Nat, (x ≤ s.size ∧ (Pl.bs s).all Pl.lower = (List.drop x (Pl.bs s)).all Pl.lower) ∧ (s = s ∧ (↑s.size : Int) = (↑s.size : Int) ∧ (0 : Int) = (↑x : Int) ∧ True) ∧ True) ∧ ∀ (x : Nat),
 x ≤ s.size ∧ (Pl.bs s).all Pl.lower = (List.drop x (Pl.bs s)).all Pl.lower →
 condP (decide ((↑x : Int) < (↑s.size : Int)))
 (((0 : Int) ≤ (↑x : Int) ∧ (↑x : Int) < (↑s.size : Int)) ∧ condP (decide ((↑(s.data.getD x (0 : UInt8)).toNat : Int) < (97 : Int))) (false = Pl.nameOk s)
 (((0 : Int) ≤ (↑x : Int) ∧ (↑x : Int) < (↑s.size : Int)) ∧ condP (decide ((↑(s.data.getD x (0 : UInt8)).toNat : Int) > (122 : Int))) (false = Pl.nameOk s)
 (Exists fun (x' : Nat) =>
 (x' ≤ s.size ∧ (Pl.bs s).all Pl.lower = (List.drop x' (Pl.bs s)).all Pl.lower) ∧ s.size - x' < s.size - x ∧ (s = s ∧ (↑s.size : Int) = (↑s.size : Int) ∧ IntKind.i64.wrap ((↑x : Int) + (1 : Int)) = (↑x' : Int) ∧ True) ∧ True)))
 (true = Pl.nameOk s))) = Goal Tryd.prog [K_within] (A_iNameOk s) K_iNameOk.1 K_iNameOk.2 (s) := by kernel_rfl

end Cg

/-
  The codes' contracts: words. No condition.
-/
set_option linter.unusedVariables false
set_option linter.unusedSimpArgs false
set_option maxRecDepth 100000
namespace Pl
open Go Cg
theorem bs_len (s : ByteArray) : (bs s).length = s.size := rfl
theorem data_getD (s : ByteArray) (k : Nat) : s.data.getD k 0 = (bs s).getD k 0 := by
  unfold bs
  rw [Array.getD_eq_getD_getElem?, List.getD_eq_getElem?_getD, Array.getElem?_toList]
theorem data_getE (s : ByteArray) (k : Nat) : s.data[k]?.getD 0 = (bs s).getD k 0 := by
  rw [← data_getD, Array.getD_eq_getD_getElem?]
theorem sumN_take {α : Type} (f : α → Nat) (d : α) {l : List α} {k : Nat} (h : k < l.length) : sumN f (l.take (k + 1)) = sumN f (l.take k) + f (l.getD k d) := by
  rw [List.take_succ_eq_append_getElem h]
  have : ∀ (m : List α) (x : α), sumN f (m ++ [x]) = sumN f m + f x := by
    intro m x
    induction m with
    | nil => simp [sumN]
    | cons y r ih => simp only [List.cons_append, sumN, ih]; omega
  rw [this]; simp [h]
theorem sumN_take_le {α : Type} (f : α → Nat) (l : List α) (k : Nat) : sumN f (l.take k) ≤ sumN f l := by
  induction l generalizing k with
  | nil => simp
  | cons x r ih =>
    cases k with
    | zero => simp [sumN]
    | succ k => simp only [List.take_succ_cons, sumN]; have := ih k; omega
theorem sumN_mem {α : Type} (f : α → Nat) {x : α} : ∀ {l : List α}, x ∈ l → f x ≤ sumN f l
  | y :: r, h => by
    simp only [sumN]
    cases List.mem_cons.1 h with
    | inl e => subst e; omega
    | inr e => have := sumN_mem f e; omega
end Pl
namespace Cg
open Go Go.Proofs Pl

theorem SmG.mem {s : Sig} (h : SmG s) {x : Sym} (hx : x ∈ s) : x.1.size ≤ 1048576 ∧ x.2.1.length ≤ 1048576 := by
  have h1 : s.length + sumN costY s ≤ 1048576 := h
  have h2 := sumN_mem costY hx
  have h3 : costY x = x.1.size + x.2.1.length := rfl
  omega
theorem SmG.len {s : Sig} (h : SmG s) : s.length ≤ 1048576 := by
  have h1 : s.length + sumN costY s ≤ 1048576 := h
  omega

theorem name_step {s : ByteArray} {k : Nat} (hk : k < s.size) (he : (bs s).all lower = ((bs s).drop k).all lower) :
    ((((bs s).getD k 0).toNat : Int) < 97 → nameOk s = false) ∧ (122 < (((bs s).getD k 0).toNat : Int) → nameOk s = false) ∧ (97 ≤ (((bs s).getD k 0).toNat : Int) → (((bs s).getD k 0).toNat : Int) ≤ 122 → (bs s).all lower = ((bs s).drop (k + 1)).all lower) := by
  rw [drop_get 0 (by rw [bs_len]; exact hk), List.all_cons] at he
  have no : lower ((bs s).getD k 0) = false → nameOk s = false := fun h => by
    unfold nameOk; rw [he, h]; simp
  refine ⟨fun h => no (by simp [lower, h, -List.getD_eq_getElem?_getD]), fun h => no (by simp [lower, h, -List.getD_eq_getElem?_getD]), fun h1 h2 => ?_⟩
  have : lower ((bs s).getD k 0) = true := by
    unfold lower; rw [decide_eq_false (by omega), decide_eq_false (by omega)]; rfl
  rw [he, this, Bool.true_and]

theorem k_iNameOk : SoundC Tryd.prog K_iNameOk.1 K_iNameOk.2 := sound_of hm (CtxOK.nil.and k_within) A_iNameOk (by kernel_rfl) fun (s : ByteArray) hl => cast (vc_iNameOk s) (by
  replace hl : s.size ≤ 1048576 := hl
  simp [-List.getD_eq_getElem?_getD, -List.mem_cons, -Bool.forall_bool, -Bool.exists_bool, and_assoc, peta, tl_inj, ex_1, ex_2, ex_3, ex_4, ex_5, ex_6, ex_7, ex_8, ex_9, ey_2, ey_3, ey_4, ey_5, ey_6, ey_7, ey_8, ey_9]
  simp only [data_getE]
  refine ⟨fun h => ?_, fun h => ?_⟩
  · simp only [withinI, Bool.and_eq_false_iff, decide_eq_false_iff_not] at h
    unfold nameOk
    rcases h with h | h
    · rw [decide_eq_false (by omega : ¬ 1 ≤ s.size)]; rfl
    · rw [decide_eq_false (by omega : ¬ s.size ≤ 2)]; simp
  · simp only [withinI, Bool.and_eq_true, decide_eq_true_eq] at h
    refine ⟨⟨0, by simp, by simp, rfl⟩, fun k hk he => ⟨fun hlt => ?_, fun hge => ?_⟩⟩
    · obtain ⟨h1, h2, h3⟩ := name_step hlt he
      exact ⟨hlt, h1, fun h4 => ⟨hlt, h2, fun h5 => ⟨k + 1, hlt, h3 h4 h5, by omega, wrap_small (by omega) (by omega)⟩⟩⟩
    · rw [drop_end (by rw [bs_len]; omega)] at he
      unfold nameOk
      rw [he, decide_eq_true (by omega : 1 ≤ s.size), decide_eq_true (by omega : s.size ≤ 2)]
      rfl)

end Cg

/-
  The codes' contracts: terms. No condition.
-/
set_option linter.unusedVariables false
set_option linter.unusedSimpArgs false
set_option maxRecDepth 100000
set_option maxHeartbeats 4000000
namespace Pl
open Go Cg
theorem tparts' {t u : Tm} {p : Prop} : (t.val = u.val → t.kids = u.kids → p) ↔ (t = u → p) := ⟨fun h e => h (by rw [e]) (by rw [e]), fun h e1 e2 => h (Tree.ext e1 e2)⟩
theorem manyL_kids {l : List Tm} {t : Tm} (h : t ∈ l) : manyL t.kids < manyL l := by
  have := many_mem h
  have := t.many_eq
  omega
end Pl
namespace Cg
open Go Go.Proofs Pl
theorem SmTs.mem {l : List Tm} (h : SmTs l) {t : Tm} (ht : t ∈ l) : SmT t := by
  have := costT_mem ht
  have h1 : l.length + costTs l ≤ 1048576 := h
  show costT t ≤ 1048576
  omega
theorem SmTs.len {l : List Tm} (h : SmTs l) : l.length ≤ 1048576 := by
  have h1 : l.length + costTs l ≤ 1048576 := h
  omega
theorem SmT.kids {v : ByteArray} {ks : List Tm} (h : SmT (.mk v ks)) : SmTs ks := by
  have h1 : costT (.mk v ks) ≤ 1048576 := h
  rw [costT_eq] at h1
  simp only [Tree.val, Tree.kids] at h1
  show ks.length + costTs ks ≤ 1048576
  omega

end Cg

/-
  The codes' contracts: the sorts of terms. No condition.
-/
set_option linter.unusedVariables false
set_option linter.unusedSimpArgs false
set_option maxRecDepth 100000
set_option maxHeartbeats 1000000
namespace Pl
open Go Cg
theorem sumN_congr {α : Type} {f g : α → Nat} : ∀ {l : List α}, (∀ x ∈ l, f x = g x) → sumN f l = sumN g l
  | [], _ => rfl
  | x :: r, h => by simp only [sumN]; rw [h x List.mem_cons_self, sumN_congr fun y hy => h y (List.mem_cons_of_mem _ hy)]
theorem sumN_le {α : Type} {f : α → Nat} {b : Nat} : ∀ {l : List α}, (∀ x ∈ l, f x ≤ b) → sumN f l ≤ l.length * b
  | [], _ => Nat.zero_le _
  | x :: r, h => by
    simp only [sumN, List.length_cons, Nat.add_mul, Nat.one_mul]
    have := h x List.mem_cons_self
    have := sumN_le (l := r) fun y hy => h y (List.mem_cons_of_mem _ hy)
    omega
theorem tsz_shape : ∀ (n : Nat) (t : Tm), (shape n t = true → tsz n t = manyD n t) ∧ (shape n t = false → 13 ≤ tsz n t)
  | 0, t => ⟨fun h => (by simp [shape] at h), fun _ => Nat.le_refl _⟩
  | n + 1, t => by
    simp only [shape, tsz, manyD]
    cases h1 : nameOk t.val
    · simp
    · by_cases h2 : t.kids.length ≤ 2
      · have h2' : ¬ t.kids.length > 2 := by omega
        rw [decide_eq_true h2, decide_eq_false h2']
        simp only [Bool.not_true, Bool.or_self, Bool.false_eq_true, if_false, Bool.and_self, Bool.true_and]
        refine ⟨fun h => ?_, fun h => ?_⟩
        · rw [sumN_congr fun x hx => (tsz_shape n x).1 (List.all_eq_true.1 h x hx)]
        · obtain ⟨x, hx, h3⟩ := List.all_eq_false.1 h
          have h4 := (tsz_shape n x).2 (by simpa using h3)
          have h5 := sumN_mem (tsz n) hx
          omega
      · have h2' : t.kids.length > 2 := by omega
        rw [decide_eq_false h2, decide_eq_true h2']
        simp
theorem isTerm_right (t : Tm) : isTerm t = right t := by
  obtain ⟨h1, h2⟩ := tsz_shape 4 t
  unfold isTerm right
  cases h : shape 4 t
  · rw [Bool.false_and]; exact decide_eq_false (by have := h2 h; omega)
  · rw [h1 h, Bool.true_and]
theorem tsz_le : ∀ (n : Nat) (t : Tm), tsz n t + 1 ≤ 14 * 2 ^ n
  | 0, t => by simp [tsz]
  | n + 1, t => by
    have h0 : 1 ≤ 2 ^ n := Nat.one_le_two_pow
    simp only [tsz, Nat.pow_succ]
    split
    · omega
    · rename_i h
      have h2 : t.kids.length ≤ 2 := by
        simp only [Bool.or_eq_true, decide_eq_true_eq] at h; omega
      have h3 : sumN (tsz n) t.kids ≤ t.kids.length * (14 * 2 ^ n - 1) := sumN_le fun x _ => by have := tsz_le n x; omega
      have h4 : t.kids.length * (14 * 2 ^ n - 1) ≤ 2 * (14 * 2 ^ n - 1) := Nat.mul_le_mul_right _ h2
      omega
end Pl
namespace Cg
open Go Go.Proofs Pl

theorem tm_size {a : ByteArray} {b : List Tm} (h : SmT (.mk a b)) : a.size ≤ 1048576 ∧ b.length ≤ 1048576 := by
  have h1 : costT (.mk a b) ≤ 1048576 := h
  rw [costT_eq] at h1
  simp only [Tree.val, Tree.kids] at h1
  omega

theorem k_termSize (n : Nat) : SoundC Tryd.prog (K_termSize n).1 (K_termSize n).2 := by
  induction n with
  | zero => exact sound_of hm (CtxOK.nil.and k_iNameOk) (fun _ => []) (by kernel_rfl) fun (x : TP) hl => (by
      have h1 : SmT (.mk x.1 x.2) := hl.1
      clear hl
      rw [← vc_termSize0 x]
      obtain ⟨a, b⟩ := x
      dsimp only at *
      simp [-List.getD_eq_getElem?_getD, -List.mem_cons, -Bool.forall_bool, -Bool.exists_bool, and_assoc, peta, tl_inj, ex_1, ex_2, ex_3, ex_4, ex_5, ex_6, ex_7, ex_8, ex_9, ey_2, ey_3, ey_4, ey_5, ey_6, ey_7, ey_8, ey_9]
      exact ⟨(tm_size h1).1, fun _ => rfl, fun _ => ⟨fun _ => rfl, fun _ => rfl⟩⟩)
  | succ n ih => exact sound_of hm ((CtxOK.nil.and (K := K_termSize n) ih).and k_iNameOk) (fun x => A_termSize n x.1 x.2) (by kernel_rfl) fun (x : TP) hl => (by
      have h1 : SmT (.mk x.1 x.2) := hl.1
      have hn : n + 1 ≤ 4 := hl.2
      clear hl
      rw [← vc_termSize n x]
      obtain ⟨a, b⟩ := x
      dsimp only at *
      simp [-List.getD_eq_getElem?_getD, -List.mem_cons, -Bool.forall_bool, -Bool.exists_bool, and_assoc, peta, tl_inj, ex_1, ex_2, ex_3, ex_4, ex_5, ex_6, ex_7, ex_8, ex_9, ey_2, ey_3, ey_4, ey_5, ey_6, ey_7, ey_8, ey_9]
      obtain ⟨t1, t2⟩ := tm_size h1
      have et : tsz (n + 1) (.mk a b) = if (!nameOk a || decide (b.length > 2)) = true then 13 else 1 + sumN (tsz n) b := rfl
      have bad : (!nameOk a || decide (b.length > 2)) = true → (13 : Int) = tsz (n + 1) (.mk a b) := fun h => by
        rw [et, if_pos h]; rfl
      have good : nameOk a = true → b.length ≤ 2 → tsz (n + 1) (.mk a b) = 1 + sumN (tsz n) b := fun h h2 => by
        rw [et, if_neg]; simp [h]; omega
      refine ⟨t1, fun h => bad (by rw [h]; rfl), fun h => ⟨fun h2 => bad (by rw [decide_eq_true (by omega)]; simp), fun h2 => ⟨fun h3 => by omega, fun _ => ⟨⟨0, by simp, by omega, by simp [sumN], rfl⟩, fun k hk h2' => ⟨fun hlt => ?_, fun hge => ?_⟩⟩⟩⟩⟩
      · have ht := sumN_take (tsz n) dT hlt
        have hle := sumN_take_le (tsz n) b (k + 1)
        have h4 : sumN (tsz n) b ≤ b.length * 223 := sumN_le fun x _ => by
          have := tsz_le n x
          have : 2 ^ n ≤ 2 ^ 4 := Nat.pow_le_pow_right (by omega) (by omega)
          omega
        exact ⟨hlt, by rw [wrap_small (by omega) (by omega)]; omega, (SmT.kids h1).mem (getD_mem dT hlt), by omega, k + 1, hlt, h2', by omega, by rw [wrap_small (by omega) (by omega), ht]; omega, wrap_small (by omega) (by omega)⟩
      · rw [List.take_of_length_le hge, good h (by omega)]; omega)
theorem k_isTerm : SoundC Tryd.prog K_isTerm.1 K_isTerm.2 := sound_of hm (CtxOK.nil.and (K := K_termSize 4) (k_termSize 4)) (fun _ => []) (by kernel_rfl) fun (a, b) hl => cast (vc_isTerm a b) (by
  replace hl : SmT (.mk a b) := hl
  simp [-List.getD_eq_getElem?_getD, -List.mem_cons, -Bool.forall_bool, -Bool.exists_bool, and_assoc, peta, tl_inj, ex_1, ex_2, ex_3, ex_4, ex_5, ex_6, ex_7, ex_8, ex_9, ey_2, ey_3, ey_4, ey_5, ey_6, ey_7, ey_8, ey_9]
  refine ⟨hl, ?_⟩
  rw [← isTerm_right]
  unfold isTerm
  congr 1; simp only [eq_iff_iff]; omega)
end Cg

/-
  The codes' contracts: drawn words. No condition.
-/
set_option linter.unusedVariables false
set_option linter.unusedSimpArgs false
set_option maxRecDepth 100000
namespace Cg
open Go Go.Proofs Pl
theorem slit (v : ByteArray) (j : Nat) (hj : j < 1) : [st v].getD j .any = eS v j := by
  have : j = 0 := by omega
  subst this
  rfl
@[simp] theorem strs_lit3 {a b c : ByteArray} {m : List ByteArray} : Is (.lit 3 1 (rowsCell [[st a], [st b], [st c]])) (strs m) ↔ [a, b, c] = m := Is_lits (by decide) EncN.eS [a, b, c] m (fun v => [st v]) slit
@[simp] theorem strs_lit5 {a b c d e : ByteArray} {m : List ByteArray} : Is (.lit 5 1 (rowsCell [[st a], [st b], [st c], [st d], [st e]])) (strs m) ↔ [a, b, c, d, e] = m := Is_lits (by decide) EncN.eS [a, b, c, d, e] m (fun v => [st v]) slit
@[simp] theorem strs_lit4 {a b c d : ByteArray} {m : List ByteArray} : Is (.lit 4 1 (rowsCell [[st a], [st b], [st c], [st d]])) (strs m) ↔ [a, b, c, d] = m := Is_lits (by decide) EncN.eS [a, b, c, d] m (fun v => [st v]) slit
theorem k_of : SoundC Tryd.prog K_of.1 K_of.2 := sound_of hm (CtxOK.nil.and k_pick) (fun _ => []) (by kernel_rfl) fun ((b, p, l) : List Int × Int × List ByteArray) hb => (by
  obtain ⟨h1, h2, h3⟩ : Rd 1099511627776 b p ∧ l ≠ [] ∧ Sz l := hb
  rw [← vc_of b p l]
  simp [-List.getD_eq_getElem?_getD, -List.mem_cons, -Bool.forall_bool, -Bool.exists_bool, and_assoc, peta, tl_inj, ex_1, ex_2, ex_3, ex_4, ex_5, ex_6, ex_7, ex_8, ex_9, ey_2, ey_3, ey_4, ey_5, ey_6, ey_7, ey_8, ey_9]
  have h0 : 0 < l.length := List.length_pos_iff.2 h2
  refine ⟨h1, fun y hy _ => ?_⟩
  obtain ⟨h4, h5⟩ := hy (by omega)
  exact ⟨h4, h5, by omega, getD_mem _ (by omega)⟩)
/-- Rows that were written out, one by one. -/
def LitR {α : Type} (k : Nat) (e : α → Nat → AV) (d : α) (rows : List (List AV)) (l : List α) : Prop := rows.length = l.length ∧ ∀ i, i < l.length → ∀ j, j < k → Is ((rows.getD i []).getD j .any) (e (l.getD i d) j)
theorem LitR.nil {α : Type} {k : Nat} {e : α → Nat → AV} {d : α} : LitR k e d [] [] := ⟨rfl, fun i hi => by cases hi⟩
theorem LitR.cons {α : Type} {k : Nat} {e : α → Nat → AV} {d : α} {rows : List (List AV)} {l : List α} (h : LitR k e d rows l) {r : List AV} {v : α} (hr : ∀ j, j < k → Is (r.getD j .any) (e v j)) : LitR k e d (r :: rows) (v :: l) :=
  ⟨by simp [h.1], fun i hi j hj => by
    cases i with
    | zero => exact hr j hj
    | succ i => exact h.2 i (by simpa using hi) j hj⟩
theorem LitR.is {α : Type} {k : Nat} {e : α → Nat → AV} {d : α} {rows : List (List AV)} {l : List α} (h : LitR k e d rows l) : Is (.lit rows.length k (rowsCell rows)) (.sl l.length k fun i j => e (l.getD i d) j) :=
  Is_lit_of h.1 fun i hi j hj => h.2 i hi j hj
theorem rowY {a : ByteArray} {b : AV} {l : List Int} {c : Int} (hb : Is b (ints l)) : ∀ j, j < 3 → Is ([st a, b, i64 c].getD j .any) (eY (a, l, c) j) := Is_rowY hb
theorem ints_l0 {q : Nat} {c : Nat → Nat → AV} : Is (.lit 0 q c) (ints []) := ints_nil.2 rfl
theorem ints_l1 {a : Int} : Is (.lit 1 1 (rowsCell [[i64 a]])) (ints [a]) := ints_lit1.2 rfl
theorem ints_l2 {a b : Int} : Is (.lit 2 1 (rowsCell [[i64 a], [i64 b]])) (ints [a, b]) := ints_lit2.2 rfl
theorem base_small (k : Int) : SgB 5 2 (base k) := by
  unfold base
  split
  · exact ⟨by decide, by simp; decide⟩
  · split
    · exact ⟨by decide, by simp; decide⟩
    · split
      · exact ⟨by decide, by simp; decide⟩
      · split
        · exact ⟨by decide, by simp; decide⟩
        · exact ⟨by decide, by simp⟩
theorem k_l4Base : SoundC Tryd.prog K_l4Base.1 K_l4Base.2 := sound_of hm CtxOK.nil (fun _ => []) (by kernel_rfl) fun (k : Int) hb => (by
  rw [← vc_l4Base k]
  simp [-List.getD_eq_getElem?_getD, -List.mem_cons, -Bool.forall_bool, -Bool.exists_bool, and_assoc, peta, tl_inj, ex_1, ex_2, ex_3, ex_4, ex_5, ex_6, ex_7, ex_8, ex_9, ey_2, ey_3, ey_4, ey_5, ey_6, ey_7, ey_8, ey_9]
  refine ⟨fun h => ?_, fun h0 => ⟨fun h => ?_, fun h1 => ⟨fun h => ?_, fun h2 => ⟨fun h => ?_, fun h3 => ?_⟩⟩⟩⟩
  · unfold base; rw [if_pos h]
    exact (((((LitR.nil.cons (rowY ints_l2)).cons (rowY ints_l1)).cons (rowY ints_l0)).cons (rowY ints_l0)).cons (rowY ints_l0)).is
  · unfold base; rw [if_neg h0, if_pos h]
    exact (((((LitR.nil.cons (rowY ints_l0)).cons (rowY ints_l0)).cons (rowY ints_l1)).cons (rowY ints_l0)).cons (rowY ints_l0)).is
  · unfold base; rw [if_neg h0, if_neg h1, if_pos h]
    exact ((((LitR.nil.cons (rowY ints_l0)).cons (rowY ints_l0)).cons (rowY ints_l0)).cons (rowY ints_l1)).is
  · unfold base; rw [if_neg h0, if_neg h1, if_neg h2, if_pos h]
    exact (((((LitR.nil.cons (rowY ints_l0)).cons (rowY ints_l0)).cons (rowY ints_l2)).cons (rowY ints_l1)).cons (rowY ints_l0)).is
  · unfold base; rw [if_neg h0, if_neg h1, if_neg h2, if_neg h3])
theorem k_l4Sig : SoundC Tryd.prog K_l4Sig.1 K_l4Sig.2 := sound_of hm ((CtxOK.nil.and k_l4Base).and k_num) (fun _ => []) (by kernel_rfl) fun ((b, p) : List Int × Int) hb => (by
  replace hb : Rd 549755813888 b p := hb
  rw [← vc_l4Sig b p]
  simp [-List.getD_eq_getElem?_getD, -List.mem_cons, -Bool.forall_bool, -Bool.exists_bool, and_assoc, peta, tl_inj, ex_1, ex_2, ex_3, ex_4, ex_5, ex_6, ex_7, ex_8, ex_9, ey_2, ey_3, ey_4, ey_5, ey_6, ey_7, ey_8, ey_9]
  exact ⟨hb.to hb.2.2.1 (by have := hb.2.2.2; omega), fun y _ => base_small y⟩)
theorem IsR_storeG {α : Type} {k : Nat} {e : α → Nat → AV} {d : α} {c : Nat → Nat → AV} {l : List α} (hc : IsR k e d c l) {i0 : Nat} {v : α} {vs : List AV} (hl : vs.length = k)
    (h : ∀ j, j < k → Is (vs.getD j .any) (e v j)) : IsR k e d (storeC c i0 0 vs) (l.set i0 v) := fun i hi j hj => by
  have hi' : i < l.length := by simpa using hi
  unfold storeC
  by_cases hii : i = i0
  · subst hii
    have e1 : (l.set i v).getD i d = v := by simp [hi']
    rw [e1, beq_iff.2 rfl, Bool.true_and, ble_iff.2 (Nat.zero_le j), blt_true (by omega), Bool.true_and, cond_true, Nat.sub_zero]
    exact h j hj
  · have e1 : (l.set i0 v).getD i d = l.getD i d := by simp only [List.getD_eq_getElem?_getD, List.getElem?_set_ne (Ne.symm hii)]
    have e2 : Nat.beq i i0 = false := by
      cases hb : Nat.beq i i0
      · rfl
      · exact absurd (beq_iff.1 hb) hii
    rw [e1, e2, Bool.false_and, Bool.false_and, cond_false]
    exact hc i hi' j hj
theorem IsX_v (x : Value) : IsX (.v x) (.v x) := rfl
theorem mem_set_imp {α : Type} {q : α → Prop} {l : List α} {i : Nat} {v : α} (h : ∀ x ∈ l, q x) (hv : q v) : ∀ x ∈ l.set i v, q x := fun x hx => by
  rcases List.mem_or_eq_of_mem_set hx with e | e
  · exact h x e
  · rw [e]; exact hv
theorem mem_push_imp {α : Type} {q : α → Prop} {l : List α} {v : α} (h : ∀ x ∈ l, q x) (hv : q v) : ∀ x ∈ l ++ [v], q x := fun x hx => by
  rcases List.mem_append.1 hx with e | e
  · exact h x e
  · rw [List.mem_singleton.1 e]; exact hv
theorem _root_.Pl.SgB.mono {n k n' k' : Nat} {s : Pl.Sig} (h : SgB n k s) (h1 : n ≤ n') (h2 : k ≤ k') : SgB n' k' s := ⟨Nat.le_trans h.1 h1, fun x hx => ⟨(h.2 x hx).1, Nat.le_trans (h.2 x hx).2 h2⟩⟩
theorem _root_.Pl.SgB.set {n k : Nat} {s : Pl.Sig} (h : SgB n k s) {i : Nat} {x : Sym} (hx : x.1.size ≤ 10 ∧ x.2.1.length ≤ k) : SgB n k (s.set i x) := ⟨by simpa using h.1, mem_set_imp h.2 hx⟩
theorem _root_.Pl.SgB.push {n k : Nat} {s : Pl.Sig} (h : SgB n k s) {x : Sym} (hn : s.length < n) (hx : x.1.size ≤ 10 ∧ x.2.1.length ≤ k) : SgB n k (s ++ [x]) := ⟨by simp; omega, mem_push_imp h.2 hx⟩
end Cg

/-
  What is left to show of each function's code, printed by a program: Mdr. No condition.
-/
set_option maxRecDepth 100000
set_option linter.unusedVariables false
namespace Cg
open Go Go.Proofs
end Cg

/-
  A row that owns its values is put among rows that own theirs: from what the code does with the slices themselves. No condition.
-/
set_option linter.unusedVariables false
set_option linter.unusedSimpArgs false
namespace Cg
open Go Pl
section
variable {S : Nat → Prop} {μ : Nat → OI} {w : World} {L : List Rw} {r : Rw}

/-- What is known of the rows' slices: headers, and what they own. -/
structure Hds (S : Nat → Prop) (μ : Nat → OI) (w : World) (L : List Rw) (r : Rw) (hd : Nat → Value) (iq : Nat → Option Inn) : Prop where
  rel : ∀ i, i ≤ L.length → RelN S w (iq i) ((L ++ [r]).getD i dR).2.1.length 2 (cQ ((L ++ [r]).getD i dR).2.1) (hd i)
  own : ∀ i v, iq i = some v → i ≤ L.length ∧ Blk μ [xrR L, arQ r.2.1] v.b ∧ (μ 0).b ≠ some v.b
  dis : ∀ i v i' v', iq i = some v → iq i' = some v' → v'.b = v.b → i' = i

/-- The one slice of an own row. -/
def innOf (q : OI) (n : Nat) : Option Inn := match q.b with
  | none => none
  | some b => if q.cap = 0 then none else some ⟨b, q.base, q.cap, n⟩
/-- What stays while the rows are moved: what stays anyhow, and what they own. -/
def SOwn (S : Nat → Prop) (iq : Nat → Option Inn) : Nat → Prop := fun b => S b ∨ ∃ i v, iq i = some v ∧ v.b = b
def hrows (hd : Nat → Value) (L : List Rw) : List HRw := (List.range L.length).map fun i => (hd i, L.getD i dR)
@[simp] theorem hrows_len (hd : Nat → Value) (L : List Rw) : (hrows hd L).length = L.length := by unfold hrows; simp
end

end Cg

/-
  What is left to show of each function's code, printed by a program: Mok. No condition.
-/
set_option maxRecDepth 100000
set_option linter.unusedVariables false
namespace Cg
open Go Go.Proofs
end Cg

/-
  What is left to show of each function's code, printed by a program: Model. No condition.
-/
set_option maxRecDepth 100000
set_option linter.unusedVariables false
namespace Cg
open Go Go.Proofs
end Cg

/-
  The codes' contracts: models: sizes, copies, equality. No condition.
-/
set_option linter.unusedVariables false
set_option linter.unusedSimpArgs false
set_option maxRecDepth 100000
set_option maxHeartbeats 1000000
namespace Cg
open Go Go.Proofs Pl
theorem SmM.mem {m : Mdl} (h : SmM m) {x : Rw} (hx : x ∈ m) : x.1.size ≤ 1048576 ∧ x.2.1.length ≤ 1048576 := by
  have h1 : m.length + sumN costR m ≤ 1048576 := h
  have h2 := sumN_mem costR hx
  have h3 : costR x = x.1.size + x.2.1.length := rfl
  omega
theorem SmM.len {m : Mdl} (h : SmM m) : m.length ≤ 1048576 := by
  have h1 : m.length + sumN costR m ≤ 1048576 := h
  omega

end Cg

/-
  The codes' contracts: valid models. No condition.
-/
set_option linter.unusedVariables false
set_option linter.unusedSimpArgs false
set_option maxRecDepth 100000
set_option maxHeartbeats 1000000
namespace Pl
open Go Cg
end Pl
namespace Cg
open Go Go.Proofs Pl

end Cg

/-
  The codes' contracts: drawn models. No condition.
-/
set_option linter.unusedVariables false
set_option linter.unusedSimpArgs false
set_option maxRecDepth 100000
namespace Cg
open Go Go.Proofs Pl
/-- The places, with the last one put in at x. -/
def insI (x n : Nat) : List Nat := List.range x ++ [n] ++ List.range' x (n - x)
end Cg

/-
  What is left to show of each function's code, printed by a program: Mlt. No condition.
-/
set_option maxRecDepth 100000
set_option linter.unusedVariables false
namespace Cg
open Go Go.Proofs
end Cg

/-
  What is left to show of each function's code, printed by a program: Lit. No condition.
-/
set_option maxRecDepth 100000
set_option linter.unusedVariables false
namespace Cg
open Go Go.Proofs
end Cg

/-
  What is left to show of each function's code, printed by a program: Same. No condition.
-/
set_option maxRecDepth 100000
set_option linter.unusedVariables false
namespace Cg
open Go Go.Proofs
theorem vc_sTSame (n : Nat) (x : Pl.TP × Pl.TP) : (condP (!x.1.1.toList == x.2.1.toList) (false = decide (x.1 = x.2))
 (condP ((↑x.1.2.length : Int) != (↑x.2.2.length : Int)) (false = decide (x.1 = x.2))
 ((∃ x_1 : Nat,
 (x_1 ≤ x.1.2.length ∧ x.1.2.length = x.2.2.length ∧ x.1.1 = x.2.1 ∧ (x.1.2 = x.2.2 ↔ List.drop x_1 x.1.2 = List.drop x_1 x.2.2)) ∧ ((0 : Nat) = (0 : Nat) ∧ (0 : Nat) = (0 : Nat) ∧ (0 : Int) = (↑x_1 : Int) ∧ True) ∧ (x.1.1 = x.1.1 ∧ Is (terms x.1.2) (terms x.1.2) ∧ True) ∧ (x.2.1 = x.2.1 ∧ Is (terms x.2.2) (terms x.2.2) ∧ True) ∧ True) ∧ ∀ (x_1 : Nat),
 x_1 ≤ x.1.2.length ∧ x.1.2.length = x.2.2.length ∧ x.1.1 = x.2.1 ∧ (x.1.2 = x.2.2 ↔ List.drop x_1 x.1.2 = List.drop x_1 x.2.2) →
 condP (decide ((↑x_1 : Int) < (↑x.1.2.length : Int)))
 (((0 : Int) ≤ (↑x_1 : Int) ∧ (↑x_1 : Int) < (↑x.1.2.length : Int)) ∧ x_1 < x.1.2.length ∧ ((0 : Int) ≤ (↑x_1 : Int) ∧ (↑x_1 : Int) < (↑x.2.2.length : Int)) ∧ x_1 < x.2.2.length ∧ ∃ x_2 : Pl.TP × Pl.TP,
 ((Pl.Tree.val (x.1.2.getD x_1 Pl.dT) = x_2.1.1 ∧ Is (kidsT (x.1.2.getD x_1 Pl.dT)) (terms x_2.1.2) ∧ True) ∧ (Pl.Tree.val (x.2.2.getD x_1 Pl.dT) = x_2.2.1 ∧ Is (kidsT (x.2.2.getD x_1 Pl.dT)) (terms x_2.2.2) ∧ True) ∧ True) ∧ (SmT (Pl.Tree.mk x_2.1.1 x_2.1.2) ∧ Pl.manyL x_2.1.2 < n) ∧ condP (!decide (x_2.1 = x_2.2)) (false = decide (x.1 = x.2))
 (Exists fun (x' : Nat) =>
 (x' ≤ x.1.2.length ∧ x.1.2.length = x.2.2.length ∧ x.1.1 = x.2.1 ∧ (x.1.2 = x.2.2 ↔ List.drop x' x.1.2 = List.drop x' x.2.2)) ∧ x.1.2.length - x' < x.1.2.length - x_1 ∧ ((0 : Nat) = (0 : Nat) ∧ (0 : Nat) = (0 : Nat) ∧ IntKind.i64.wrap ((↑x_1 : Int) + (1 : Int)) = (↑x' : Int) ∧ True) ∧ (x.1.1 = x.1.1 ∧ Is (terms x.1.2) (terms x.1.2) ∧ True) ∧ (x.2.1 = x.2.1 ∧ Is (terms x.2.2) (terms x.2.2) ∧ True) ∧ True))
 (true = decide (x.1 = x.2))))) = Goal Tryd.prog [(K_sTSame n)] (A_sTSame x.1 x.2) (K_sTSame (n + 1)).1 (K_sTSame (n + 1)).2 (x) := by kernel_rfl

theorem vc_EqualT (n : Nat) (x : List Pl.Tm × List Pl.Tm) : (condP ((↑x.1.length : Int) != (↑x.2.length : Int)) (false = decide (x.1 = x.2))
 ((∃ x_1 : Nat,
 (x_1 ≤ x.1.length ∧ x.1.length = x.2.length ∧ (x.1 = x.2 ↔ List.drop x_1 x.1 = List.drop x_1 x.2)) ∧ (Is (terms x.1) (terms x.1) ∧ Is (terms x.2) (terms x.2) ∧ True ∧ Is (terms x.1) (terms x.1) ∧ (↑x.1.length : Int) = (↑x.1.length : Int) ∧ (0 : Int) = (↑x_1 : Int) ∧ True) ∧ True) ∧ ∀ (x_1 : Nat),
 x_1 ≤ x.1.length ∧ x.1.length = x.2.length ∧ (x.1 = x.2 ↔ List.drop x_1 x.1 = List.drop x_1 x.2) →
 condP (decide ((↑x_1 : Int) < (↑x.1.length : Int)))
 (((0 : Int) ≤ (↑x_1 : Int) ∧ (↑x_1 : Int) < (↑x.1.length : Int)) ∧ x_1 < x.1.length ∧ ((0 : Int) ≤ (↑x_1 : Int) ∧ (↑x_1 : Int) < (↑x.2.length : Int)) ∧ x_1 < x.2.length ∧ ∃ x_2 : Pl.TP × Pl.TP,
 ((Pl.Tree.val (x.1.getD x_1 Pl.dT) = x_2.1.1 ∧ Is (kidsT (x.1.getD x_1 Pl.dT)) (terms x_2.1.2) ∧ True) ∧ (Pl.Tree.val (x.2.getD x_1 Pl.dT) = x_2.2.1 ∧ Is (kidsT (x.2.getD x_1 Pl.dT)) (terms x_2.2.2) ∧ True) ∧ True) ∧ (SmT (Pl.Tree.mk x_2.1.1 x_2.1.2) ∧ Pl.manyL x_2.1.2 < n) ∧ condP (!decide (x_2.1 = x_2.2)) (false = decide (x.1 = x.2))
 (Exists fun (x' : Nat) =>
 (x' ≤ x.1.length ∧ x.1.length = x.2.length ∧ (x.1 = x.2 ↔ List.drop x' x.1 = List.drop x' x.2)) ∧ x.1.length - x' < x.1.length - x_1 ∧ (Is (terms x.1) (terms x.1) ∧ Is (terms x.2) (terms x.2) ∧ True ∧ Is (terms x.1) (terms x.1) ∧ (↑x.1.length : Int) = (↑x.1.length : Int) ∧ IntKind.i64.wrap ((↑x_1 : Int) + (1 : Int)) = (↑x' : Int) ∧ True) ∧ True))
 (true = decide (x.1 = x.2)))) = Goal Tryd.prog [(K_iTSame n)] (A_EqualT x.1 x.2) (K_EqualT (n + 1)).1 (K_EqualT (n + 1)).2 (x) := by kernel_rfl

theorem vc_iTSame (n : Nat) (x : Pl.TP × Pl.TP) : (condP (x.1.1.toList == x.2.1.toList)
 (∃ x_1 : List Pl.Tm × List Pl.Tm,
 (Is (terms x.1.2) (terms x_1.1) ∧ Is (terms x.2.2) (terms x_1.2) ∧ True ∧ True) ∧ (SmTs x_1.1 ∧ Pl.manyL x_1.1 < n) ∧ decide (x_1.1 = x_1.2) = decide (x.1 = x.2))
 (false = decide (x.1 = x.2))) = Goal Tryd.prog [(K_EqualT n)] ([]) (K_iTSame n).1 (K_iTSame n).2 (x) := by kernel_rfl

theorem vc_sAtomSame (x : Pl.Atm × Pl.Atm) : (condP (x.1.1 != x.2.1) (false = decide (x.1 = x.2))
 (∃ x_1 : Pl.TP × Pl.TP,
 ((x.1.2.1.1 = x_1.1.1 ∧ Is (terms x.1.2.1.2) (terms x_1.1.2) ∧ True) ∧ (x.2.2.1.1 = x_1.2.1 ∧ Is (terms x.2.2.1.2) (terms x_1.2.2) ∧ True) ∧ True) ∧ SmT (Pl.Tree.mk x_1.1.1 x_1.1.2) ∧ condP (!decide (x_1.1 = x_1.2)) (false = decide (x.1 = x.2))
 (∃ x_2 : Pl.TP × Pl.TP,
 ((x.1.2.2.1.1 = x_2.1.1 ∧ Is (terms x.1.2.2.1.2) (terms x_2.1.2) ∧ True) ∧ (x.2.2.2.1.1 = x_2.2.1 ∧ Is (terms x.2.2.2.1.2) (terms x_2.2.2) ∧ True) ∧ True) ∧ SmT (Pl.Tree.mk x_2.1.1 x_2.1.2) ∧ condP (!decide (x_2.1 = x_2.2)) (false = decide (x.1 = x.2))
 (condP ((↑x.1.2.2.2.1.length : Int) != (↑x.2.2.2.2.1.length : Int)) (false = decide (x.1 = x.2))
 (condP ((↑x.1.2.2.2.2.1.length : Int) != (↑x.2.2.2.2.2.1.length : Int)) (false = decide (x.1 = x.2))
 (condP (x.1.2.2.2.2.2.1 != x.2.2.2.2.2.2.1) (false = decide (x.1 = x.2))
 (condP (!x.1.2.2.2.2.2.2 == x.2.2.2.2.2.2.2) (false = decide (x.1 = x.2))
 ((∃ x_3 : Nat,
 (x_3 ≤ x.1.2.2.2.1.length ∧ x.1.2.2.2.1.length = x.2.2.2.2.1.length ∧ (x.1 = x.2 ↔ x.1.2.2.2.2.1 = x.2.2.2.2.2.1 ∧ List.drop x_3 x.1.2.2.2.1 = List.drop x_3 x.2.2.2.2.1) ∧ x.1.2.2.2.2.1.length = x.2.2.2.2.2.1.length) ∧ ((0 : Nat) = (0 : Nat) ∧ (0 : Nat) = (0 : Nat) ∧ (0 : Int) = (↑x_3 : Int) ∧ True) ∧ (x.1.1 = x.1.1 ∧ x.1.2.1.1 = x.1.2.1.1 ∧ Is (terms x.1.2.1.2) (terms x.1.2.1.2) ∧ x.1.2.2.1.1 = x.1.2.2.1.1 ∧ Is (terms x.1.2.2.1.2) (terms x.1.2.2.1.2) ∧ Is (terms x.1.2.2.2.1) (terms x.1.2.2.2.1) ∧ Is (ints x.1.2.2.2.2.1) (ints x.1.2.2.2.2.1) ∧ x.1.2.2.2.2.2.1 = x.1.2.2.2.2.2.1 ∧ x.1.2.2.2.2.2.2 = x.1.2.2.2.2.2.2 ∧ True) ∧ (x.2.1 = x.2.1 ∧ x.2.2.1.1 = x.2.2.1.1 ∧ Is (terms x.2.2.1.2) (terms x.2.2.1.2) ∧ x.2.2.2.1.1 = x.2.2.2.1.1 ∧ Is (terms x.2.2.2.1.2) (terms x.2.2.2.1.2) ∧ Is (terms x.2.2.2.2.1) (terms x.2.2.2.2.1) ∧ Is (ints x.2.2.2.2.2.1) (ints x.2.2.2.2.2.1) ∧ x.2.2.2.2.2.2.1 = x.2.2.2.2.2.2.1 ∧ x.2.2.2.2.2.2.2 = x.2.2.2.2.2.2.2 ∧ True) ∧ True) ∧ ∀ (x_3 : Nat),
 x_3 ≤ x.1.2.2.2.1.length ∧ x.1.2.2.2.1.length = x.2.2.2.2.1.length ∧ (x.1 = x.2 ↔ x.1.2.2.2.2.1 = x.2.2.2.2.2.1 ∧ List.drop x_3 x.1.2.2.2.1 = List.drop x_3 x.2.2.2.2.1) ∧ x.1.2.2.2.2.1.length = x.2.2.2.2.2.1.length →
 condP (decide ((↑x_3 : Int) < (↑x.1.2.2.2.1.length : Int)))
 (((0 : Int) ≤ (↑x_3 : Int) ∧ (↑x_3 : Int) < (↑x.1.2.2.2.1.length : Int)) ∧ x_3 < x.1.2.2.2.1.length ∧ ((0 : Int) ≤ (↑x_3 : Int) ∧ (↑x_3 : Int) < (↑x.2.2.2.2.1.length : Int)) ∧ x_3 < x.2.2.2.2.1.length ∧ ∃ x_4 : Pl.TP × Pl.TP,
 ((Pl.Tree.val (x.1.2.2.2.1.getD x_3 Pl.dT) = x_4.1.1 ∧ Is (kidsT (x.1.2.2.2.1.getD x_3 Pl.dT)) (terms x_4.1.2) ∧ True) ∧ (Pl.Tree.val (x.2.2.2.2.1.getD x_3 Pl.dT) = x_4.2.1 ∧ Is (kidsT (x.2.2.2.2.1.getD x_3 Pl.dT)) (terms x_4.2.2) ∧ True) ∧ True) ∧ SmT (Pl.Tree.mk x_4.1.1 x_4.1.2) ∧ condP (!decide (x_4.1 = x_4.2)) (false = decide (x.1 = x.2))
 (Exists fun (x' : Nat) =>
 (x' ≤ x.1.2.2.2.1.length ∧ x.1.2.2.2.1.length = x.2.2.2.2.1.length ∧ (x.1 = x.2 ↔
 x.1.2.2.2.2.1 = x.2.2.2.2.2.1 ∧ List.drop x' x.1.2.2.2.1 = List.drop x' x.2.2.2.2.1) ∧ x.1.2.2.2.2.1.length = x.2.2.2.2.2.1.length) ∧ x.1.2.2.2.1.length - x' < x.1.2.2.2.1.length - x_3 ∧ ((0 : Nat) = (0 : Nat) ∧ (0 : Nat) = (0 : Nat) ∧ IntKind.i64.wrap ((↑x_3 : Int) + (1 : Int)) = (↑x' : Int) ∧ True) ∧ (x.1.1 = x.1.1 ∧ x.1.2.1.1 = x.1.2.1.1 ∧ Is (terms x.1.2.1.2) (terms x.1.2.1.2) ∧ x.1.2.2.1.1 = x.1.2.2.1.1 ∧ Is (terms x.1.2.2.1.2) (terms x.1.2.2.1.2) ∧ Is (terms x.1.2.2.2.1) (terms x.1.2.2.2.1) ∧ Is (ints x.1.2.2.2.2.1) (ints x.1.2.2.2.2.1) ∧ x.1.2.2.2.2.2.1 = x.1.2.2.2.2.2.1 ∧ x.1.2.2.2.2.2.2 = x.1.2.2.2.2.2.2 ∧ True) ∧ (x.2.1 = x.2.1 ∧ x.2.2.1.1 = x.2.2.1.1 ∧ Is (terms x.2.2.1.2) (terms x.2.2.1.2) ∧ x.2.2.2.1.1 = x.2.2.2.1.1 ∧ Is (terms x.2.2.2.1.2) (terms x.2.2.2.1.2) ∧ Is (terms x.2.2.2.2.1) (terms x.2.2.2.2.1) ∧ Is (ints x.2.2.2.2.2.1) (ints x.2.2.2.2.2.1) ∧ x.2.2.2.2.2.2.1 = x.2.2.2.2.2.2.1 ∧ x.2.2.2.2.2.2.2 = x.2.2.2.2.2.2.2 ∧ True) ∧ True))
 ((∃ x_4 : Nat,
 (x_4 ≤ x.1.2.2.2.2.1.length ∧ x.1.2.2.2.2.1.length = x.2.2.2.2.2.1.length ∧ (x.1 = x.2 ↔ List.drop x_4 x.1.2.2.2.2.1 = List.drop x_4 x.2.2.2.2.2.1)) ∧ ((0 : Nat) = (0 : Nat) ∧ (0 : Nat) = (0 : Nat) ∧ (0 : Int) = (↑x_4 : Int) ∧ True) ∧ (x.1.1 = x.1.1 ∧ x.1.2.1.1 = x.1.2.1.1 ∧ Is (terms x.1.2.1.2) (terms x.1.2.1.2) ∧ x.1.2.2.1.1 = x.1.2.2.1.1 ∧ Is (terms x.1.2.2.1.2) (terms x.1.2.2.1.2) ∧ Is (terms x.1.2.2.2.1) (terms x.1.2.2.2.1) ∧ Is (ints x.1.2.2.2.2.1) (ints x.1.2.2.2.2.1) ∧ x.1.2.2.2.2.2.1 = x.1.2.2.2.2.2.1 ∧ x.1.2.2.2.2.2.2 = x.1.2.2.2.2.2.2 ∧ True) ∧ (x.2.1 = x.2.1 ∧ x.2.2.1.1 = x.2.2.1.1 ∧ Is (terms x.2.2.1.2) (terms x.2.2.1.2) ∧ x.2.2.2.1.1 = x.2.2.2.1.1 ∧ Is (terms x.2.2.2.1.2) (terms x.2.2.2.1.2) ∧ Is (terms x.2.2.2.2.1) (terms x.2.2.2.2.1) ∧ Is (ints x.2.2.2.2.2.1) (ints x.2.2.2.2.2.1) ∧ x.2.2.2.2.2.2.1 = x.2.2.2.2.2.2.1 ∧ x.2.2.2.2.2.2.2 = x.2.2.2.2.2.2.2 ∧ True) ∧ True) ∧ ∀ (x_4 : Nat),
 x_4 ≤ x.1.2.2.2.2.1.length ∧ x.1.2.2.2.2.1.length = x.2.2.2.2.2.1.length ∧ (x.1 = x.2 ↔ List.drop x_4 x.1.2.2.2.2.1 = List.drop x_4 x.2.2.2.2.2.1) →
 condP (decide ((↑x_4 : Int) < (↑x.1.2.2.2.2.1.length : Int)))
 (((0 : Int) ≤ (↑x_4 : Int) ∧ (↑x_4 : Int) < (↑x.1.2.2.2.2.1.length : Int)) ∧ x_4 < x.1.2.2.2.2.1.length ∧ ((0 : Int) ≤ (↑x_4 : Int) ∧ (↑x_4 : Int) < (↑x.2.2.2.2.2.1.length : Int)) ∧ x_4 < x.2.2.2.2.2.1.length ∧ condP (x.1.2.2.2.2.1.getD x_4 (0 : Int) != x.2.2.2.2.2.1.getD x_4 (0 : Int))
 (false = decide (x.1 = x.2))
 (Exists fun (x' : Nat) =>
 (x' ≤ x.1.2.2.2.2.1.length ∧ x.1.2.2.2.2.1.length = x.2.2.2.2.2.1.length ∧ (x.1 = x.2 ↔ List.drop x' x.1.2.2.2.2.1 = List.drop x' x.2.2.2.2.2.1)) ∧ x.1.2.2.2.2.1.length - x' < x.1.2.2.2.2.1.length - x_4 ∧ ((0 : Nat) = (0 : Nat) ∧ (0 : Nat) = (0 : Nat) ∧ IntKind.i64.wrap ((↑x_4 : Int) + (1 : Int)) = (↑x' : Int) ∧ True) ∧ (x.1.1 = x.1.1 ∧ x.1.2.1.1 = x.1.2.1.1 ∧ Is (terms x.1.2.1.2) (terms x.1.2.1.2) ∧ x.1.2.2.1.1 = x.1.2.2.1.1 ∧ Is (terms x.1.2.2.1.2) (terms x.1.2.2.1.2) ∧ Is (terms x.1.2.2.2.1) (terms x.1.2.2.2.1) ∧ Is (ints x.1.2.2.2.2.1) (ints x.1.2.2.2.2.1) ∧ x.1.2.2.2.2.2.1 = x.1.2.2.2.2.2.1 ∧ x.1.2.2.2.2.2.2 = x.1.2.2.2.2.2.2 ∧ True) ∧ (x.2.1 = x.2.1 ∧ x.2.2.1.1 = x.2.2.1.1 ∧ Is (terms x.2.2.1.2) (terms x.2.2.1.2) ∧ x.2.2.2.1.1 = x.2.2.2.1.1 ∧ Is (terms x.2.2.2.1.2) (terms x.2.2.2.1.2) ∧ Is (terms x.2.2.2.2.1) (terms x.2.2.2.2.1) ∧ Is (ints x.2.2.2.2.2.1) (ints x.2.2.2.2.2.1) ∧ x.2.2.2.2.2.2.1 = x.2.2.2.2.2.2.1 ∧ x.2.2.2.2.2.2.2 = x.2.2.2.2.2.2.2 ∧ True) ∧ True))
 (true = decide (x.1 = x.2))))))))))) = Goal Tryd.prog [K_sTermSame] (A_sAtomSame x.1 x.2) K_sAtomSame.1 K_sAtomSame.2 (x) := by kernel_rfl

theorem vc_iAtomSame (x : Pl.Atm × Pl.Atm) : (condP (x.1.1 == x.2.1)
 (∃ x_1 : Pl.TP × Pl.TP,
 ((x.1.2.1.1 = x_1.1.1 ∧ Is (terms x.1.2.1.2) (terms x_1.1.2) ∧ True) ∧ (x.2.2.1.1 = x_1.2.1 ∧ Is (terms x.2.2.1.2) (terms x_1.2.2) ∧ True) ∧ True) ∧ SmT (Pl.Tree.mk x_1.1.1 x_1.1.2) ∧ condP (decide (x_1.1 = x_1.2))
 (∃ x_2 : Pl.TP × Pl.TP,
 ((x.1.2.2.1.1 = x_2.1.1 ∧ Is (terms x.1.2.2.1.2) (terms x_2.1.2) ∧ True) ∧ (x.2.2.2.1.1 = x_2.2.1 ∧ Is (terms x.2.2.2.1.2) (terms x_2.2.2) ∧ True) ∧ True) ∧ SmT (Pl.Tree.mk x_2.1.1 x_2.1.2) ∧ condP (decide (x_2.1 = x_2.2))
 (∃ x_3 : List Pl.Tm × List Pl.Tm,
 (Is (terms x.1.2.2.2.1) (terms x_3.1) ∧ Is (terms x.2.2.2.2.1) (terms x_3.2) ∧ True ∧ True) ∧ SmTs x_3.1 ∧ condP (decide (x_3.1 = x_3.2))
 (∃ x_4 : List Int × List Int,
 (Is (ints x.1.2.2.2.2.1) (ints x_4.1) ∧ Is (ints x.2.2.2.2.2.1) (ints x_4.2) ∧ True) ∧ Sz x_4.1 ∧ condP (decide (x_4.1 = x_4.2))
 (condP (x.1.2.2.2.2.2.1 == x.2.2.2.2.2.2.1)
 ((x.1.2.2.2.2.2.2 == x.2.2.2.2.2.2.2) = decide (x.1 = x.2)) (false = decide (x.1 = x.2)))
 (false = decide (x.1 = x.2)))
 (false = decide (x.1 = x.2)))
 (false = decide (x.1 = x.2)))
 (false = decide (x.1 = x.2)))
 (false = decide (x.1 = x.2))) = Goal Tryd.prog [K_iTermSame, K_EqualTerms, K_slEqual] ([]) K_iAtomSame.1 K_iAtomSame.2 (x) := by kernel_rfl

end Cg
