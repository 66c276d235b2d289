/-
  What the law leans on, part 4. No condition.
-/
import Derived.Test.YtibghpfojnhfaaaGreatDoorProg
import Derived.Test.YtibghpfojnhfaaaGreatDoorFnLitTextB1
import Derived.Test.YtibghpfojnhfaaaGreatDoorFnLitTextB2
import Derived.Test.YtibghpfojnhfaaaGreatDoorFnLitTextB3
/-
  What is left to show of each function's code, printed by a program: Mad. No condition.
-/
set_option maxRecDepth 100000
set_option linter.unusedVariables false
namespace Cg
open Go Go.Proofs
theorem vc_l6Put (a : Pl.Atm) (v : ByteArray) (ks : List Pl.Tm) (n : Int) : ((∃ x : Nat × Bool × List Pl.Tm × List Int,
 (x.1 ≤ a.2.2.2.1.length ∧ Pl.PutB a.2.2.2.1 (Pl.Tree.mk v ks) (x.1 + if x.2.1 = true then (1 : Nat) else (0 : Nat)) x.2.2.1 x.2.2.2) ∧ (n = n ∧ (0 : Nat) = (0 : Nat) ∧ (0 : Nat) = (0 : Nat) ∧ (0 : Nat) = (0 : Nat) ∧ (0 : Nat) = (0 : Nat) ∧ false = x.2.1 ∧ (0 : Int) = (↑x.1 : Int) ∧ True) ∧ (a.1 = a.1 ∧ a.2.1.1 = a.2.1.1 ∧ Is (terms a.2.1.2) (terms a.2.1.2) ∧ a.2.2.1.1 = a.2.2.1.1 ∧ Is (terms a.2.2.1.2) (terms a.2.2.1.2) ∧ Is (terms a.2.2.2.1) (terms a.2.2.2.1) ∧ Is (ints a.2.2.2.2.1) (ints a.2.2.2.2.1) ∧ a.2.2.2.2.2.1 = a.2.2.2.2.2.1 ∧ a.2.2.2.2.2.2 = a.2.2.2.2.2.2 ∧ True) ∧ (v = v ∧ Is (terms ks) (terms ks) ∧ True) ∧ ((0 : Int) = (0 : Int) ∧ ByteArray.mk #[] = ByteArray.empty ∧ Is (AV.lit (0 : Nat) (1 : Nat) fun (x x_1 : Nat) => AV.any) nilA ∧ ByteArray.mk #[] = ByteArray.empty ∧ Is (AV.lit (0 : Nat) (1 : Nat) fun (x x_1 : Nat) => AV.any) nilA ∧ Is (AV.lit (0 : Nat) (1 : Nat) fun (x x_1 : Nat) => AV.any) nilA ∧ Is (AV.lit (0 : Nat) (1 : Nat) fun (x x_1 : Nat) => AV.any) nilA ∧ (0 : Int) = (0 : Int) ∧ false = false ∧ True) ∧ (a.1 = a.1 ∧ ByteArray.mk #[] = ByteArray.empty ∧ Is (AV.lit (0 : Nat) (1 : Nat) fun (x x_1 : Nat) => AV.any) nilA ∧ ByteArray.mk #[] = ByteArray.empty ∧ Is (AV.lit (0 : Nat) (1 : Nat) fun (x x_1 : Nat) => AV.any) nilA ∧ ((0 : Nat) = (0 : Nat) ∧ (0 : Nat) = (0 : Nat) ∧ x.2.2.1.length = (0 : Nat)) ∧ ((0 : Nat) = (0 : Nat) ∧ (0 : Nat) = (0 : Nat) ∧ x.2.2.2.length = (0 : Nat)) ∧ a.2.2.2.2.2.1 = a.2.2.2.2.2.1 ∧ a.2.2.2.2.2.2 = a.2.2.2.2.2.2 ∧ True) ∧ x.2.2.1.length = (0 : Nat) ∧ x.2.2.2.length = (0 : Nat) ∧ True) ∧ ∀ (x : Nat × Bool × List Pl.Tm × List Int),
 x.1 ≤ a.2.2.2.1.length ∧ Pl.PutB a.2.2.2.1 (Pl.Tree.mk v ks) (x.1 + if x.2.1 = true then (1 : Nat) else (0 : Nat)) x.2.2.1 x.2.2.2 →
 condP (decide ((↑x.1 : Int) < (↑a.2.2.2.1.length : Int)))
 (((0 : Int) ≤ (↑x.1 : Int) ∧ (↑x.1 : Int) < (↑a.2.2.2.1.length : Int)) ∧ x.1 < a.2.2.2.1.length ∧ ∃ x_1 : Pl.TP,
 ((Pl.Tree.val (a.2.2.2.1.getD x.1 Pl.dT) = x_1.1 ∧ Is (kidsT (a.2.2.2.1.getD x.1 Pl.dT)) (terms x_1.2) ∧ True) ∧ True) ∧ SmT (Pl.Tree.mk x_1.1 x_1.2) ∧ condP (!x.2.1)
 (∃ x_2 : Pl.TP,
 ((v = x_2.1 ∧ Is (terms ks) (terms x_2.2) ∧ True) ∧ True) ∧ SmT (Pl.Tree.mk x_2.1 x_2.2) ∧ condP (!Op.bytesLess (Pl.textT (Pl.Tree.mk x_1.1 x_1.2)).toList (Pl.textT (Pl.Tree.mk x_2.1 x_2.2)).toList)
 ((0 : Nat) + x.2.2.1.length ≤ x.2.2.1.length ∧ (x.2.2.1.length + (1 : Nat)) * (40 : Nat) ≤ (70368744177664 : Nat) ∧ (0 : Nat) + x.2.2.2.length ≤ x.2.2.2.length ∧ (x.2.2.2.length + (1 : Nat)) * (8 : Nat) ≤ (70368744177664 : Nat) ∧ ∃ x_3 : Pl.TP,
 ((v = x_3.1 ∧ Is (terms ks) (terms x_3.2) ∧ True) ∧ True) ∧ SmT (Pl.Tree.mk x_3.1 x_3.2) ∧ condP (!(Pl.textT (Pl.Tree.mk x_1.1 x_1.2)).toList == (Pl.textT (Pl.Tree.mk x_3.1 x_3.2)).toList)
 (((0 : Int) ≤ (↑x.1 : Int) ∧ (↑x.1 : Int) < (↑a.2.2.2.1.length : Int)) ∧ x.1 < a.2.2.2.1.length ∧ (0 : Nat) + (x.2.2.1.length + (1 : Nat)) ≤ x.2.2.1.length + (1 : Nat) ∧ (x.2.2.1.length + (1 : Nat) + (1 : Nat)) * (40 : Nat) ≤ (70368744177664 : Nat) ∧ ((0 : Int) ≤ (↑x.1 : Int) ∧ (↑x.1 : Int) < (↑a.2.2.2.2.1.length : Int)) ∧ x.1 < a.2.2.2.2.1.length ∧ (0 : Nat) + (x.2.2.2.length + (1 : Nat)) ≤ x.2.2.2.length + (1 : Nat) ∧ (x.2.2.2.length + (1 : Nat) + (1 : Nat)) * (8 : Nat) ≤ (70368744177664 : Nat) ∧ Exists fun (x' : Nat × Bool × List Pl.Tm × List Int) =>
 (x'.1 ≤ a.2.2.2.1.length ∧ Pl.PutB a.2.2.2.1 (Pl.Tree.mk v ks) (x'.1 + if x'.2.1 = true then (1 : Nat) else (0 : Nat)) x'.2.2.1
 x'.2.2.2) ∧ a.2.2.2.1.length - x'.1 < a.2.2.2.1.length - x.1 ∧ (n = n ∧ (0 : Nat) = (0 : Nat) ∧ (0 : Nat) = (0 : Nat) ∧ (0 : Nat) = (0 : Nat) ∧ (0 : Nat) = (0 : Nat) ∧ true = x'.2.1 ∧ IntKind.i64.wrap ((↑x.1 : Int) + (1 : Int)) = (↑x'.1 : Int) ∧ True) ∧ (a.1 = a.1 ∧ a.2.1.1 = a.2.1.1 ∧ Is (terms a.2.1.2) (terms a.2.1.2) ∧ a.2.2.1.1 = a.2.2.1.1 ∧ Is (terms a.2.2.1.2) (terms a.2.2.1.2) ∧ Is (terms a.2.2.2.1) (terms a.2.2.2.1) ∧ Is (ints a.2.2.2.2.1) (ints a.2.2.2.2.1) ∧ a.2.2.2.2.2.1 = a.2.2.2.2.2.1 ∧ a.2.2.2.2.2.2 = a.2.2.2.2.2.2 ∧ True) ∧ (v = v ∧ Is (terms ks) (terms ks) ∧ True) ∧ ((0 : Int) = (0 : Int) ∧ ByteArray.empty = ByteArray.empty ∧ Is (AV.lit (0 : Nat) (1 : Nat) fun (x x_4 : Nat) => AV.any) nilA ∧ ByteArray.empty = ByteArray.empty ∧ Is (AV.lit (0 : Nat) (1 : Nat) fun (x x_4 : Nat) => AV.any) nilA ∧ Is (AV.lit (0 : Nat) (1 : Nat) fun (x x_4 : Nat) => AV.any) nilA ∧ Is (AV.lit (0 : Nat) (1 : Nat) fun (x x_4 : Nat) => AV.any) nilA ∧ (0 : Int) = (0 : Int) ∧ false = false ∧ True) ∧ (a.1 = a.1 ∧ ByteArray.empty = ByteArray.empty ∧ Is (AV.lit (0 : Nat) (1 : Nat) fun (x x_4 : Nat) => AV.any) nilA ∧ ByteArray.empty = ByteArray.empty ∧ Is (AV.lit (0 : Nat) (1 : Nat) fun (x x_4 : Nat) => AV.any) nilA ∧ ((0 : Nat) = (0 : Nat) ∧ x.2.2.1.length + (1 : Nat) + (1 : Nat) = x'.2.2.1.length) ∧ ((0 : Nat) = (0 : Nat) ∧ x.2.2.2.length + (1 : Nat) + (1 : Nat) = x'.2.2.2.length) ∧ a.2.2.2.2.2.1 = a.2.2.2.2.2.1 ∧ a.2.2.2.2.2.2 = a.2.2.2.2.2.2 ∧ True) ∧ IsO
 (AObj.arr (x.2.2.1.length + (1 : Nat) + (1 : Nat)) (2 : Nat)
 (joinC (x.2.2.1.length + (1 : Nat))
 (fun (i j : Nat) => joinC x.2.2.1.length (cT x.2.2.1) (rowsCell [[st v, terms ks]]) i j)
 (rowsCell
 [[st (Pl.Tree.val (a.2.2.2.1.getD x.1 Pl.dT)), kidsT (a.2.2.2.1.getD x.1 Pl.dT)]])))
 (arT x'.2.2.1) ∧ IsO
 (AObj.arr (x.2.2.2.length + (1 : Nat) + (1 : Nat)) (1 : Nat)
 (joinC (x.2.2.2.length + (1 : Nat))
 (fun (i j : Nat) => joinC x.2.2.2.length (cI x.2.2.2) (rowsCell [[i64 n]]) i j)
 (rowsCell [[i64 (a.2.2.2.2.1.getD x.1 (0 : Int))]])))
 (arI x'.2.2.2) ∧ True)
 (Exists fun (x' : Nat × Bool × List Pl.Tm × List Int) =>
 (x'.1 ≤ a.2.2.2.1.length ∧ Pl.PutB a.2.2.2.1 (Pl.Tree.mk v ks) (x'.1 + if x'.2.1 = true then (1 : Nat) else (0 : Nat)) x'.2.2.1 x'.2.2.2) ∧ a.2.2.2.1.length - x'.1 < a.2.2.2.1.length - x.1 ∧ (n = n ∧ (0 : Nat) = (0 : Nat) ∧ (0 : Nat) = (0 : Nat) ∧ (0 : Nat) = (0 : Nat) ∧ (0 : Nat) = (0 : Nat) ∧ true = x'.2.1 ∧ IntKind.i64.wrap ((↑x.1 : Int) + (1 : Int)) = (↑x'.1 : Int) ∧ True) ∧ (a.1 = a.1 ∧ a.2.1.1 = a.2.1.1 ∧ Is (terms a.2.1.2) (terms a.2.1.2) ∧ a.2.2.1.1 = a.2.2.1.1 ∧ Is (terms a.2.2.1.2) (terms a.2.2.1.2) ∧ Is (terms a.2.2.2.1) (terms a.2.2.2.1) ∧ Is (ints a.2.2.2.2.1) (ints a.2.2.2.2.1) ∧ a.2.2.2.2.2.1 = a.2.2.2.2.2.1 ∧ a.2.2.2.2.2.2 = a.2.2.2.2.2.2 ∧ True) ∧ (v = v ∧ Is (terms ks) (terms ks) ∧ True) ∧ ((0 : Int) = (0 : Int) ∧ ByteArray.empty = ByteArray.empty ∧ Is (AV.lit (0 : Nat) (1 : Nat) fun (x x_4 : Nat) => AV.any) nilA ∧ ByteArray.empty = ByteArray.empty ∧ Is (AV.lit (0 : Nat) (1 : Nat) fun (x x_4 : Nat) => AV.any) nilA ∧ Is (AV.lit (0 : Nat) (1 : Nat) fun (x x_4 : Nat) => AV.any) nilA ∧ Is (AV.lit (0 : Nat) (1 : Nat) fun (x x_4 : Nat) => AV.any) nilA ∧ (0 : Int) = (0 : Int) ∧ false = false ∧ True) ∧ (a.1 = a.1 ∧ ByteArray.empty = ByteArray.empty ∧ Is (AV.lit (0 : Nat) (1 : Nat) fun (x x_4 : Nat) => AV.any) nilA ∧ ByteArray.empty = ByteArray.empty ∧ Is (AV.lit (0 : Nat) (1 : Nat) fun (x x_4 : Nat) => AV.any) nilA ∧ ((0 : Nat) = (0 : Nat) ∧ x.2.2.1.length + (1 : Nat) = x'.2.2.1.length) ∧ ((0 : Nat) = (0 : Nat) ∧ x.2.2.2.length + (1 : Nat) = x'.2.2.2.length) ∧ a.2.2.2.2.2.1 = a.2.2.2.2.2.1 ∧ a.2.2.2.2.2.2 = a.2.2.2.2.2.2 ∧ True) ∧ IsO
 (AObj.arr (x.2.2.1.length + (1 : Nat)) (2 : Nat)
 (joinC x.2.2.1.length (cT x.2.2.1) (rowsCell [[st v, terms ks]])))
 (arT x'.2.2.1) ∧ IsO
 (AObj.arr (x.2.2.2.length + (1 : Nat)) (1 : Nat)
 (joinC x.2.2.2.length (cI x.2.2.2) (rowsCell [[i64 n]])))
 (arI x'.2.2.2) ∧ True))
 (∃ x_3 : Pl.TP,
 ((v = x_3.1 ∧ Is (terms ks) (terms x_3.2) ∧ True) ∧ True) ∧ SmT (Pl.Tree.mk x_3.1 x_3.2) ∧ condP (!(Pl.textT (Pl.Tree.mk x_1.1 x_1.2)).toList == (Pl.textT (Pl.Tree.mk x_3.1 x_3.2)).toList)
 (((0 : Int) ≤ (↑x.1 : Int) ∧ (↑x.1 : Int) < (↑a.2.2.2.1.length : Int)) ∧ x.1 < a.2.2.2.1.length ∧ (0 : Nat) + x.2.2.1.length ≤ x.2.2.1.length ∧ (x.2.2.1.length + (1 : Nat)) * (40 : Nat) ≤ (70368744177664 : Nat) ∧ ((0 : Int) ≤ (↑x.1 : Int) ∧ (↑x.1 : Int) < (↑a.2.2.2.2.1.length : Int)) ∧ x.1 < a.2.2.2.2.1.length ∧ (0 : Nat) + x.2.2.2.length ≤ x.2.2.2.length ∧ (x.2.2.2.length + (1 : Nat)) * (8 : Nat) ≤ (70368744177664 : Nat) ∧ Exists fun (x' : Nat × Bool × List Pl.Tm × List Int) =>
 (x'.1 ≤ a.2.2.2.1.length ∧ Pl.PutB a.2.2.2.1 (Pl.Tree.mk v ks) (x'.1 + if x'.2.1 = true then (1 : Nat) else (0 : Nat)) x'.2.2.1
 x'.2.2.2) ∧ a.2.2.2.1.length - x'.1 < a.2.2.2.1.length - x.1 ∧ (n = n ∧ (0 : Nat) = (0 : Nat) ∧ (0 : Nat) = (0 : Nat) ∧ (0 : Nat) = (0 : Nat) ∧ (0 : Nat) = (0 : Nat) ∧ x.2.1 = x'.2.1 ∧ IntKind.i64.wrap ((↑x.1 : Int) + (1 : Int)) = (↑x'.1 : Int) ∧ True) ∧ (a.1 = a.1 ∧ a.2.1.1 = a.2.1.1 ∧ Is (terms a.2.1.2) (terms a.2.1.2) ∧ a.2.2.1.1 = a.2.2.1.1 ∧ Is (terms a.2.2.1.2) (terms a.2.2.1.2) ∧ Is (terms a.2.2.2.1) (terms a.2.2.2.1) ∧ Is (ints a.2.2.2.2.1) (ints a.2.2.2.2.1) ∧ a.2.2.2.2.2.1 = a.2.2.2.2.2.1 ∧ a.2.2.2.2.2.2 = a.2.2.2.2.2.2 ∧ True) ∧ (v = v ∧ Is (terms ks) (terms ks) ∧ True) ∧ ((0 : Int) = (0 : Int) ∧ ByteArray.empty = ByteArray.empty ∧ Is (AV.lit (0 : Nat) (1 : Nat) fun (x x_4 : Nat) => AV.any) nilA ∧ ByteArray.empty = ByteArray.empty ∧ Is (AV.lit (0 : Nat) (1 : Nat) fun (x x_4 : Nat) => AV.any) nilA ∧ Is (AV.lit (0 : Nat) (1 : Nat) fun (x x_4 : Nat) => AV.any) nilA ∧ Is (AV.lit (0 : Nat) (1 : Nat) fun (x x_4 : Nat) => AV.any) nilA ∧ (0 : Int) = (0 : Int) ∧ false = false ∧ True) ∧ (a.1 = a.1 ∧ ByteArray.empty = ByteArray.empty ∧ Is (AV.lit (0 : Nat) (1 : Nat) fun (x x_4 : Nat) => AV.any) nilA ∧ ByteArray.empty = ByteArray.empty ∧ Is (AV.lit (0 : Nat) (1 : Nat) fun (x x_4 : Nat) => AV.any) nilA ∧ ((0 : Nat) = (0 : Nat) ∧ x.2.2.1.length + (1 : Nat) = x'.2.2.1.length) ∧ ((0 : Nat) = (0 : Nat) ∧ x.2.2.2.length + (1 : Nat) = x'.2.2.2.length) ∧ a.2.2.2.2.2.1 = a.2.2.2.2.2.1 ∧ a.2.2.2.2.2.2 = a.2.2.2.2.2.2 ∧ True) ∧ IsO
 (AObj.arr (x.2.2.1.length + (1 : Nat)) (2 : Nat)
 (joinC x.2.2.1.length (cT x.2.2.1)
 (rowsCell [[st (Pl.Tree.val (a.2.2.2.1.getD x.1 Pl.dT)), kidsT (a.2.2.2.1.getD x.1 Pl.dT)]])))
 (arT x'.2.2.1) ∧ IsO
 (AObj.arr (x.2.2.2.length + (1 : Nat)) (1 : Nat)
 (joinC x.2.2.2.length (cI x.2.2.2) (rowsCell [[i64 (a.2.2.2.2.1.getD x.1 (0 : Int))]])))
 (arI x'.2.2.2) ∧ True)
 (Exists fun (x' : Nat × Bool × List Pl.Tm × List Int) =>
 (x'.1 ≤ a.2.2.2.1.length ∧ Pl.PutB a.2.2.2.1 (Pl.Tree.mk v ks) (x'.1 + if x'.2.1 = true then (1 : Nat) else (0 : Nat)) x'.2.2.1 x'.2.2.2) ∧ a.2.2.2.1.length - x'.1 < a.2.2.2.1.length - x.1 ∧ (n = n ∧ (0 : Nat) = (0 : Nat) ∧ (0 : Nat) = (0 : Nat) ∧ (0 : Nat) = (0 : Nat) ∧ (0 : Nat) = (0 : Nat) ∧ x.2.1 = x'.2.1 ∧ IntKind.i64.wrap ((↑x.1 : Int) + (1 : Int)) = (↑x'.1 : Int) ∧ True) ∧ (a.1 = a.1 ∧ a.2.1.1 = a.2.1.1 ∧ Is (terms a.2.1.2) (terms a.2.1.2) ∧ a.2.2.1.1 = a.2.2.1.1 ∧ Is (terms a.2.2.1.2) (terms a.2.2.1.2) ∧ Is (terms a.2.2.2.1) (terms a.2.2.2.1) ∧ Is (ints a.2.2.2.2.1) (ints a.2.2.2.2.1) ∧ a.2.2.2.2.2.1 = a.2.2.2.2.2.1 ∧ a.2.2.2.2.2.2 = a.2.2.2.2.2.2 ∧ True) ∧ (v = v ∧ Is (terms ks) (terms ks) ∧ True) ∧ ((0 : Int) = (0 : Int) ∧ ByteArray.empty = ByteArray.empty ∧ Is (AV.lit (0 : Nat) (1 : Nat) fun (x x_4 : Nat) => AV.any) nilA ∧ ByteArray.empty = ByteArray.empty ∧ Is (AV.lit (0 : Nat) (1 : Nat) fun (x x_4 : Nat) => AV.any) nilA ∧ Is (AV.lit (0 : Nat) (1 : Nat) fun (x x_4 : Nat) => AV.any) nilA ∧ Is (AV.lit (0 : Nat) (1 : Nat) fun (x x_4 : Nat) => AV.any) nilA ∧ (0 : Int) = (0 : Int) ∧ false = false ∧ True) ∧ (a.1 = a.1 ∧ ByteArray.empty = ByteArray.empty ∧ Is (AV.lit (0 : Nat) (1 : Nat) fun (x x_4 : Nat) => AV.any) nilA ∧ ByteArray.empty = ByteArray.empty ∧ Is (AV.lit (0 : Nat) (1 : Nat) fun (x x_4 : Nat) => AV.any) nilA ∧ ((0 : Nat) = (0 : Nat) ∧ x.2.2.1.length = x'.2.2.1.length) ∧ ((0 : Nat) = (0 : Nat) ∧ x.2.2.2.length = x'.2.2.2.length) ∧ a.2.2.2.2.2.1 = a.2.2.2.2.2.1 ∧ a.2.2.2.2.2.2 = a.2.2.2.2.2.2 ∧ True) ∧ IsO (arT x.2.2.1) (arT x'.2.2.1) ∧ IsO (arI x.2.2.2) (arI x'.2.2.2) ∧ True)))
 (∃ x_2 : Pl.TP,
 ((v = x_2.1 ∧ Is (terms ks) (terms x_2.2) ∧ True) ∧ True) ∧ SmT (Pl.Tree.mk x_2.1 x_2.2) ∧ condP (!(Pl.textT (Pl.Tree.mk x_1.1 x_1.2)).toList == (Pl.textT (Pl.Tree.mk x_2.1 x_2.2)).toList)
 (((0 : Int) ≤ (↑x.1 : Int) ∧ (↑x.1 : Int) < (↑a.2.2.2.1.length : Int)) ∧ x.1 < a.2.2.2.1.length ∧ (0 : Nat) + x.2.2.1.length ≤ x.2.2.1.length ∧ (x.2.2.1.length + (1 : Nat)) * (40 : Nat) ≤ (70368744177664 : Nat) ∧ ((0 : Int) ≤ (↑x.1 : Int) ∧ (↑x.1 : Int) < (↑a.2.2.2.2.1.length : Int)) ∧ x.1 < a.2.2.2.2.1.length ∧ (0 : Nat) + x.2.2.2.length ≤ x.2.2.2.length ∧ (x.2.2.2.length + (1 : Nat)) * (8 : Nat) ≤ (70368744177664 : Nat) ∧ Exists fun (x' : Nat × Bool × List Pl.Tm × List Int) =>
 (x'.1 ≤ a.2.2.2.1.length ∧ Pl.PutB a.2.2.2.1 (Pl.Tree.mk v ks) (x'.1 + if x'.2.1 = true then (1 : Nat) else (0 : Nat)) x'.2.2.1 x'.2.2.2) ∧ a.2.2.2.1.length - x'.1 < a.2.2.2.1.length - x.1 ∧ (n = n ∧ (0 : Nat) = (0 : Nat) ∧ (0 : Nat) = (0 : Nat) ∧ (0 : Nat) = (0 : Nat) ∧ (0 : Nat) = (0 : Nat) ∧ x.2.1 = x'.2.1 ∧ IntKind.i64.wrap ((↑x.1 : Int) + (1 : Int)) = (↑x'.1 : Int) ∧ True) ∧ (a.1 = a.1 ∧ a.2.1.1 = a.2.1.1 ∧ Is (terms a.2.1.2) (terms a.2.1.2) ∧ a.2.2.1.1 = a.2.2.1.1 ∧ Is (terms a.2.2.1.2) (terms a.2.2.1.2) ∧ Is (terms a.2.2.2.1) (terms a.2.2.2.1) ∧ Is (ints a.2.2.2.2.1) (ints a.2.2.2.2.1) ∧ a.2.2.2.2.2.1 = a.2.2.2.2.2.1 ∧ a.2.2.2.2.2.2 = a.2.2.2.2.2.2 ∧ True) ∧ (v = v ∧ Is (terms ks) (terms ks) ∧ True) ∧ ((0 : Int) = (0 : Int) ∧ ByteArray.empty = ByteArray.empty ∧ Is (AV.lit (0 : Nat) (1 : Nat) fun (x x_3 : Nat) => AV.any) nilA ∧ ByteArray.empty = ByteArray.empty ∧ Is (AV.lit (0 : Nat) (1 : Nat) fun (x x_3 : Nat) => AV.any) nilA ∧ Is (AV.lit (0 : Nat) (1 : Nat) fun (x x_3 : Nat) => AV.any) nilA ∧ Is (AV.lit (0 : Nat) (1 : Nat) fun (x x_3 : Nat) => AV.any) nilA ∧ (0 : Int) = (0 : Int) ∧ false = false ∧ True) ∧ (a.1 = a.1 ∧ ByteArray.empty = ByteArray.empty ∧ Is (AV.lit (0 : Nat) (1 : Nat) fun (x x_3 : Nat) => AV.any) nilA ∧ ByteArray.empty = ByteArray.empty ∧ Is (AV.lit (0 : Nat) (1 : Nat) fun (x x_3 : Nat) => AV.any) nilA ∧ ((0 : Nat) = (0 : Nat) ∧ x.2.2.1.length + (1 : Nat) = x'.2.2.1.length) ∧ ((0 : Nat) = (0 : Nat) ∧ x.2.2.2.length + (1 : Nat) = x'.2.2.2.length) ∧ a.2.2.2.2.2.1 = a.2.2.2.2.2.1 ∧ a.2.2.2.2.2.2 = a.2.2.2.2.2.2 ∧ True) ∧ IsO
 (AObj.arr (x.2.2.1.length + (1 : Nat)) (2 : Nat)
 (joinC x.2.2.1.length (cT x.2.2.1)
 (rowsCell [[st (Pl.Tree.val (a.2.2.2.1.getD x.1 Pl.dT)), kidsT (a.2.2.2.1.getD x.1 Pl.dT)]])))
 (arT x'.2.2.1) ∧ IsO
 (AObj.arr (x.2.2.2.length + (1 : Nat)) (1 : Nat)
 (joinC x.2.2.2.length (cI x.2.2.2) (rowsCell [[i64 (a.2.2.2.2.1.getD x.1 (0 : Int))]])))
 (arI x'.2.2.2) ∧ True)
 (Exists fun (x' : Nat × Bool × List Pl.Tm × List Int) =>
 (x'.1 ≤ a.2.2.2.1.length ∧ Pl.PutB a.2.2.2.1 (Pl.Tree.mk v ks) (x'.1 + if x'.2.1 = true then (1 : Nat) else (0 : Nat)) x'.2.2.1 x'.2.2.2) ∧ a.2.2.2.1.length - x'.1 < a.2.2.2.1.length - x.1 ∧ (n = n ∧ (0 : Nat) = (0 : Nat) ∧ (0 : Nat) = (0 : Nat) ∧ (0 : Nat) = (0 : Nat) ∧ (0 : Nat) = (0 : Nat) ∧ x.2.1 = x'.2.1 ∧ IntKind.i64.wrap ((↑x.1 : Int) + (1 : Int)) = (↑x'.1 : Int) ∧ True) ∧ (a.1 = a.1 ∧ a.2.1.1 = a.2.1.1 ∧ Is (terms a.2.1.2) (terms a.2.1.2) ∧ a.2.2.1.1 = a.2.2.1.1 ∧ Is (terms a.2.2.1.2) (terms a.2.2.1.2) ∧ Is (terms a.2.2.2.1) (terms a.2.2.2.1) ∧ Is (ints a.2.2.2.2.1) (ints a.2.2.2.2.1) ∧ a.2.2.2.2.2.1 = a.2.2.2.2.2.1 ∧ a.2.2.2.2.2.2 = a.2.2.2.2.2.2 ∧ True) ∧ (v = v ∧ Is (terms ks) (terms ks) ∧ True) ∧ ((0 : Int) = (0 : Int) ∧ ByteArray.empty = ByteArray.empty ∧ Is (AV.lit (0 : Nat) (1 : Nat) fun (x x_3 : Nat) => AV.any) nilA ∧ ByteArray.empty = ByteArray.empty ∧ Is (AV.lit (0 : Nat) (1 : Nat) fun (x x_3 : Nat) => AV.any) nilA ∧ Is (AV.lit (0 : Nat) (1 : Nat) fun (x x_3 : Nat) => AV.any) nilA ∧ Is (AV.lit (0 : Nat) (1 : Nat) fun (x x_3 : Nat) => AV.any) nilA ∧ (0 : Int) = (0 : Int) ∧ false = false ∧ True) ∧ (a.1 = a.1 ∧ ByteArray.empty = ByteArray.empty ∧ Is (AV.lit (0 : Nat) (1 : Nat) fun (x x_3 : Nat) => AV.any) nilA ∧ ByteArray.empty = ByteArray.empty ∧ Is (AV.lit (0 : Nat) (1 : Nat) fun (x x_3 : Nat) => AV.any) nilA ∧ ((0 : Nat) = (0 : Nat) ∧ x.2.2.1.length = x'.2.2.1.length) ∧ ((0 : Nat) = (0 : Nat) ∧ x.2.2.2.length = x'.2.2.2.length) ∧ a.2.2.2.2.2.1 = a.2.2.2.2.2.1 ∧ a.2.2.2.2.2.2 = a.2.2.2.2.2.2 ∧ True) ∧ IsO (arT x.2.2.1) (arT x'.2.2.1) ∧ IsO (arI x.2.2.2) (arI x'.2.2.2) ∧ True)))
 (condP (!x.2.1)
 ((0 : Nat) + x.2.2.1.length ≤ x.2.2.1.length ∧ (x.2.2.1.length + (1 : Nat)) * (40 : Nat) ≤ (70368744177664 : Nat) ∧ (0 : Nat) + x.2.2.2.length ≤ x.2.2.2.length ∧ (x.2.2.2.length + (1 : Nat)) * (8 : Nat) ≤ (70368744177664 : Nat) ∧ ∃ y : List Pl.Tm × List Int,
 Pl.PutB a.2.2.2.1 (Pl.Tree.mk v ks) (a.2.2.2.1.length + (1 : Nat)) y.1 y.2 ∧ ((a.1 = (a.1, Pl.noTP, Pl.noTP, y.1, y.2, a.2.2.2.2.2.1, a.2.2.2.2.2.2).1 ∧ ByteArray.empty = ByteArray.mk #[] ∧ Is (AV.lit (0 : Nat) (1 : Nat) fun (x x_1 : Nat) => AV.any) (terms []) ∧ ByteArray.empty = ByteArray.mk #[] ∧ Is (AV.lit (0 : Nat) (1 : Nat) fun (x x_1 : Nat) => AV.any) (terms []) ∧ ((0 : Nat) = (0 : Nat) ∧ x.2.2.1.length + (1 : Nat) = (y.1, y.2, a.2.2.2.2.2.1, a.2.2.2.2.2.2).1.length) ∧ ((0 : Nat) = (0 : Nat) ∧ x.2.2.2.length + (1 : Nat) = (y.2, a.2.2.2.2.2.1, a.2.2.2.2.2.2).1.length) ∧ a.2.2.2.2.2.1 = (a.2.2.2.2.2.1, a.2.2.2.2.2.2).1 ∧ a.2.2.2.2.2.2 = (a.2.2.2.2.2.1, a.2.2.2.2.2.2).2 ∧ True) ∧ True) ∧ IsO (AObj.arr (x.2.2.1.length + (1 : Nat)) (2 : Nat) (joinC x.2.2.1.length (cT x.2.2.1) (rowsCell [[st v, terms ks]]))) (arT y.1) ∧ IsO (AObj.arr (x.2.2.2.length + (1 : Nat)) (1 : Nat) (joinC x.2.2.2.length (cI x.2.2.2) (rowsCell [[i64 n]]))) (arI y.2) ∧ True)
 (∃ y : List Pl.Tm × List Int,
 Pl.PutB a.2.2.2.1 (Pl.Tree.mk v ks) (a.2.2.2.1.length + (1 : Nat)) y.1 y.2 ∧ ((a.1 = (a.1, Pl.noTP, Pl.noTP, y.1, y.2, a.2.2.2.2.2.1, a.2.2.2.2.2.2).1 ∧ ByteArray.empty = ByteArray.mk #[] ∧ Is (AV.lit (0 : Nat) (1 : Nat) fun (x x_1 : Nat) => AV.any) (terms []) ∧ ByteArray.empty = ByteArray.mk #[] ∧ Is (AV.lit (0 : Nat) (1 : Nat) fun (x x_1 : Nat) => AV.any) (terms []) ∧ ((0 : Nat) = (0 : Nat) ∧ x.2.2.1.length = (y.1, y.2, a.2.2.2.2.2.1, a.2.2.2.2.2.2).1.length) ∧ ((0 : Nat) = (0 : Nat) ∧ x.2.2.2.length = (y.2, a.2.2.2.2.2.1, a.2.2.2.2.2.2).1.length) ∧ a.2.2.2.2.2.1 = (a.2.2.2.2.2.1, a.2.2.2.2.2.2).1 ∧ a.2.2.2.2.2.2 = (a.2.2.2.2.2.1, a.2.2.2.2.2.2).2 ∧ True) ∧ True) ∧ IsO (arT x.2.2.1) (arT y.1) ∧ IsO (arI x.2.2.2) (arI y.2) ∧ True))) = Goal Tryz.prog [K_lText] (A_l6Put a v ks n) K_l6Put.1 K_l6Put.2 ((a, (v, ks), n)) := by kernel_rfl

theorem vc_l6Any (b : List Int) (p : Int) (s : Pl.Sig) : (∃ x : List Int × Int × Int,
 Rd (1099511627776 : Int) x.1 x.2.1 ∧ (((0 : Nat) = (0 : Nat) ∧ (2 : Int) = x.2.2 ∧ True) ∧ (Is (byts b) (byts x.1) ∧ p = x.2.1 ∧ True) ∧ True) ∧ ∀ (y : Int),
 ((1 : Int) ≤ x.2.2 → (0 : Int) ≤ y ∧ y < x.2.2) ∧ (x.2.2 < (1 : Int) → y = (0 : Int)) →
 condP (y == (0 : Int))
 (∃ x_1 : List Int × Int × Int,
 Rd (1099511627776 : Int) x_1.1 x_1.2.1 ∧ (((0 : Nat) = (0 : Nat) ∧ (2 : Int) = x_1.2.2 ∧ True) ∧ (Is (byts x.1) (byts x_1.1) ∧ x.2.1 + (1 : Int) = x_1.2.1 ∧ True) ∧ True) ∧ ∀ (y : Int),
 ((1 : Int) ≤ x_1.2.2 → (0 : Int) ≤ y ∧ y < x_1.2.2) ∧ (x_1.2.2 < (1 : Int) → y = (0 : Int)) →
 ((∃ x : List Int × Int × List Int,
 (Rd (1099511627776 : Int) x.1 x.2.1 ∧ x.2.2 ≠ [] ∧ Sz x.2.2) ∧ (((0 : Nat) = (0 : Nat) ∧ Is (AV.lit (2 : Nat) (1 : Nat) (rowsCell [[i64 (1 : Int)], [i64 (2 : Int)]])) (ints x.2.2) ∧ True) ∧ (Is (byts x_1.1) (byts x.1) ∧ x_1.2.1 + (1 : Int) = x.2.1 ∧ True) ∧ True) ∧ ∀ (y_1 : Int),
 y_1 ∈ x.2.2 →
 (∃ x_2 : AX,
 (Rd (137438953472 : Int) x_2.1 x_2.2.1 ∧ x_2.2.1 + (↑(Pl.CB x_2.2.2.2.2.toNat) : Int) ≤ (137438953472 : Int) ∧ Pl.SgB (5 : Nat) (2 : Nat) x_2.2.2.1 ∧ x_2.2.2.2.2 ≤ (4 : Int)) ∧ (((0 : Nat) = (0 : Nat) ∧ (Is (syms s) (syms x_2.2.2.1) ∧ True) ∧ y = x_2.2.2.2.1 ∧ y_1 = x_2.2.2.2.2 ∧ True) ∧ (Is (byts x.1) (byts x_2.1) ∧ x.2.1 + (1 : Int) = x_2.2.1 ∧ True) ∧ True) ∧ ∀ (y_2 : Pl.TP × Int),
 Pl.TmB (Pl.CB x_2.2.2.2.2.toNat) y_2.1 ∧ x_2.2.1 ≤ y_2.2 ∧ y_2.2 ≤ x_2.2.1 + (↑(Pl.CB x_2.2.2.2.2.toNat) : Int) →
 (∃ x : List Int × Int × List Int,
 (Rd (1099511627776 : Int) x.1 x.2.1 ∧ x.2.2 ≠ [] ∧ Sz x.2.2) ∧ (((0 : Nat) = (0 : Nat) ∧ Is (AV.lit (3 : Nat) (1 : Nat) (rowsCell [[i64 (1 : Int)], [i64 (1 : Int)], [i64 (2 : Int)]])) (ints x.2.2) ∧ True) ∧ (Is (byts x_2.1) (byts x.1) ∧ y_2.2 = x.2.1 ∧ True) ∧ True) ∧ ∀ (y_3 : Int),
 y_3 ∈ x.2.2 →
 ∃ x_3 : AX,
 (Rd (137438953472 : Int) x_3.1 x_3.2.1 ∧ x_3.2.1 + (↑(Pl.CB x_3.2.2.2.2.toNat) : Int) ≤ (137438953472 : Int) ∧ Pl.SgB (5 : Nat) (2 : Nat) x_3.2.2.1 ∧ x_3.2.2.2.2 ≤ (4 : Int)) ∧ (((0 : Nat) = (0 : Nat) ∧ (Is (syms s) (syms x_3.2.2.1) ∧ True) ∧ y = x_3.2.2.2.1 ∧ y_3 = x_3.2.2.2.2 ∧ True) ∧ (Is (byts x.1) (byts x_3.1) ∧ x.2.1 + (1 : Int) = x_3.2.1 ∧ True) ∧ True) ∧ ∀ (y : Pl.TP × Int),
 Pl.TmB (Pl.CB x_3.2.2.2.2.toNat) y.1 ∧ x_3.2.1 ≤ y.2 ∧ y.2 ≤ x_3.2.1 + (↑(Pl.CB x_3.2.2.2.2.toNat) : Int) →
 ∃ y_4 : Pl.Atm × Int,
 (Pl.AtB (3 : Nat) y_4.1 ∧ p ≤ y_4.2 ∧ y_4.2 ≤ p + (500 : Int)) ∧ (0 : Nat) + y_2.1.2.length ≤ y_2.1.2.length ∧ (0 : Nat) + y.1.2.length ≤ y.1.2.length ∧ (((1 : Int) = y_4.1.1 ∧ y_2.1.1 = y_4.1.2.1.1 ∧ Is (terms y_2.1.2) (terms y_4.1.2.1.2) ∧ y.1.1 = y_4.1.2.2.1.1 ∧ Is (terms y.1.2) (terms y_4.1.2.2.1.2) ∧ ((0 : Nat) = (0 : Nat) ∧ (0 : Nat) = (0 : Nat) ∧ y_4.1.2.2.2.1.length = (0 : Nat)) ∧ ((0 : Nat) = (0 : Nat) ∧ (0 : Nat) = (0 : Nat) ∧ y_4.1.2.2.2.2.1.length = (0 : Nat)) ∧ (0 : Int) = y_4.1.2.2.2.2.2.1 ∧ false = y_4.1.2.2.2.2.2.2 ∧ True) ∧ True) ∧ (Is (byts x_3.1) (byts b) ∧ y.2 = y_4.2 ∧ True) ∧ y_4.1.2.2.2.1.length = (0 : Nat) ∧ y_4.1.2.2.2.2.1.length = (0 : Nat) ∧ True) ∧ ∃ x : List Int × Int × List Int,
 (Rd (1099511627776 : Int) x.1 x.2.1 ∧ x.2.2 ≠ [] ∧ Sz x.2.2) ∧ (((0 : Nat) = (0 : Nat) ∧ Is (AV.lit (3 : Nat) (1 : Nat) (rowsCell [[i64 (1 : Int)], [i64 (1 : Int)], [i64 (2 : Int)]])) (ints x.2.2) ∧ True) ∧ (Is (byts x_2.1) (byts x.1) ∧ y_2.2 = x.2.1 ∧ True) ∧ True) ∧ ∀ (y_3 : Int),
 y_3 ∈ x.2.2 →
 ∃ x_3 : AX,
 (Rd (137438953472 : Int) x_3.1 x_3.2.1 ∧ x_3.2.1 + (↑(Pl.CB x_3.2.2.2.2.toNat) : Int) ≤ (137438953472 : Int) ∧ Pl.SgB (5 : Nat) (2 : Nat) x_3.2.2.1 ∧ x_3.2.2.2.2 ≤ (4 : Int)) ∧ (((0 : Nat) = (0 : Nat) ∧ (Is (syms s) (syms x_3.2.2.1) ∧ True) ∧ y = x_3.2.2.2.1 ∧ y_3 = x_3.2.2.2.2 ∧ True) ∧ (Is (byts x.1) (byts x_3.1) ∧ x.2.1 + (1 : Int) = x_3.2.1 ∧ True) ∧ True) ∧ ∀ (y : Pl.TP × Int),
 Pl.TmB (Pl.CB x_3.2.2.2.2.toNat) y.1 ∧ x_3.2.1 ≤ y.2 ∧ y.2 ≤ x_3.2.1 + (↑(Pl.CB x_3.2.2.2.2.toNat) : Int) →
 ∃ y_4 : Pl.Atm × Int,
 (Pl.AtB (3 : Nat) y_4.1 ∧ p ≤ y_4.2 ∧ y_4.2 ≤ p + (500 : Int)) ∧ (0 : Nat) + y_2.1.2.length ≤ y_2.1.2.length ∧ (0 : Nat) + y.1.2.length ≤ y.1.2.length ∧ (((1 : Int) = y_4.1.1 ∧ y_2.1.1 = y_4.1.2.1.1 ∧ Is (terms y_2.1.2) (terms y_4.1.2.1.2) ∧ y.1.1 = y_4.1.2.2.1.1 ∧ Is (terms y.1.2) (terms y_4.1.2.2.1.2) ∧ ((0 : Nat) = (0 : Nat) ∧ (0 : Nat) = (0 : Nat) ∧ y_4.1.2.2.2.1.length = (0 : Nat)) ∧ ((0 : Nat) = (0 : Nat) ∧ (0 : Nat) = (0 : Nat) ∧ y_4.1.2.2.2.2.1.length = (0 : Nat)) ∧ (0 : Int) = y_4.1.2.2.2.2.2.1 ∧ false = y_4.1.2.2.2.2.2.2 ∧ True) ∧ True) ∧ (Is (byts x_3.1) (byts b) ∧ y.2 = y_4.2 ∧ True) ∧ y_4.1.2.2.2.1.length = (0 : Nat) ∧ y_4.1.2.2.2.2.1.length = (0 : Nat) ∧ True) ∧ ∃ x_2 : AX,
 (Rd (137438953472 : Int) x_2.1 x_2.2.1 ∧ x_2.2.1 + (↑(Pl.CB x_2.2.2.2.2.toNat) : Int) ≤ (137438953472 : Int) ∧ Pl.SgB (5 : Nat) (2 : Nat) x_2.2.2.1 ∧ x_2.2.2.2.2 ≤ (4 : Int)) ∧ (((0 : Nat) = (0 : Nat) ∧ (Is (syms s) (syms x_2.2.2.1) ∧ True) ∧ y = x_2.2.2.2.1 ∧ y_1 = x_2.2.2.2.2 ∧ True) ∧ (Is (byts x.1) (byts x_2.1) ∧ x.2.1 + (1 : Int) = x_2.2.1 ∧ True) ∧ True) ∧ ∀ (y_2 : Pl.TP × Int),
 Pl.TmB (Pl.CB x_2.2.2.2.2.toNat) y_2.1 ∧ x_2.2.1 ≤ y_2.2 ∧ y_2.2 ≤ x_2.2.1 + (↑(Pl.CB x_2.2.2.2.2.toNat) : Int) →
 ∃ x : List Int × Int × List Int,
 (Rd (1099511627776 : Int) x.1 x.2.1 ∧ x.2.2 ≠ [] ∧ Sz x.2.2) ∧ (((0 : Nat) = (0 : Nat) ∧ Is (AV.lit (3 : Nat) (1 : Nat) (rowsCell [[i64 (1 : Int)], [i64 (1 : Int)], [i64 (2 : Int)]])) (ints x.2.2) ∧ True) ∧ (Is (byts x_2.1) (byts x.1) ∧ y_2.2 = x.2.1 ∧ True) ∧ True) ∧ ∀ (y_3 : Int),
 y_3 ∈ x.2.2 →
 ∃ x_3 : AX,
 (Rd (137438953472 : Int) x_3.1 x_3.2.1 ∧ x_3.2.1 + (↑(Pl.CB x_3.2.2.2.2.toNat) : Int) ≤ (137438953472 : Int) ∧ Pl.SgB (5 : Nat) (2 : Nat) x_3.2.2.1 ∧ x_3.2.2.2.2 ≤ (4 : Int)) ∧ (((0 : Nat) = (0 : Nat) ∧ (Is (syms s) (syms x_3.2.2.1) ∧ True) ∧ y = x_3.2.2.2.1 ∧ y_3 = x_3.2.2.2.2 ∧ True) ∧ (Is (byts x.1) (byts x_3.1) ∧ x.2.1 + (1 : Int) = x_3.2.1 ∧ True) ∧ True) ∧ ∀ (y : Pl.TP × Int),
 Pl.TmB (Pl.CB x_3.2.2.2.2.toNat) y.1 ∧ x_3.2.1 ≤ y.2 ∧ y.2 ≤ x_3.2.1 + (↑(Pl.CB x_3.2.2.2.2.toNat) : Int) →
 ∃ y_4 : Pl.Atm × Int,
 (Pl.AtB (3 : Nat) y_4.1 ∧ p ≤ y_4.2 ∧ y_4.2 ≤ p + (500 : Int)) ∧ (0 : Nat) + y_2.1.2.length ≤ y_2.1.2.length ∧ (0 : Nat) + y.1.2.length ≤ y.1.2.length ∧ (((1 : Int) = y_4.1.1 ∧ y_2.1.1 = y_4.1.2.1.1 ∧ Is (terms y_2.1.2) (terms y_4.1.2.1.2) ∧ y.1.1 = y_4.1.2.2.1.1 ∧ Is (terms y.1.2) (terms y_4.1.2.2.1.2) ∧ ((0 : Nat) = (0 : Nat) ∧ (0 : Nat) = (0 : Nat) ∧ y_4.1.2.2.2.1.length = (0 : Nat)) ∧ ((0 : Nat) = (0 : Nat) ∧ (0 : Nat) = (0 : Nat) ∧ y_4.1.2.2.2.2.1.length = (0 : Nat)) ∧ (0 : Int) = y_4.1.2.2.2.2.2.1 ∧ false = y_4.1.2.2.2.2.2.2 ∧ True) ∧ True) ∧ (Is (byts x_3.1) (byts b) ∧ y.2 = y_4.2 ∧ True) ∧ y_4.1.2.2.2.1.length = (0 : Nat) ∧ y_4.1.2.2.2.2.1.length = (0 : Nat) ∧ True) ∧ ∃ x : List Int × Int × List Int,
 (Rd (1099511627776 : Int) x.1 x.2.1 ∧ x.2.2 ≠ [] ∧ Sz x.2.2) ∧ (((0 : Nat) = (0 : Nat) ∧ Is (AV.lit (2 : Nat) (1 : Nat) (rowsCell [[i64 (1 : Int)], [i64 (2 : Int)]])) (ints x.2.2) ∧ True) ∧ (Is (byts x_1.1) (byts x.1) ∧ x_1.2.1 + (1 : Int) = x.2.1 ∧ True) ∧ True) ∧ ∀ (y_1 : Int),
 y_1 ∈ x.2.2 →
 ∃ x_2 : AX,
 (Rd (137438953472 : Int) x_2.1 x_2.2.1 ∧ x_2.2.1 + (↑(Pl.CB x_2.2.2.2.2.toNat) : Int) ≤ (137438953472 : Int) ∧ Pl.SgB (5 : Nat) (2 : Nat) x_2.2.2.1 ∧ x_2.2.2.2.2 ≤ (4 : Int)) ∧ (((0 : Nat) = (0 : Nat) ∧ (Is (syms s) (syms x_2.2.2.1) ∧ True) ∧ y = x_2.2.2.2.1 ∧ y_1 = x_2.2.2.2.2 ∧ True) ∧ (Is (byts x.1) (byts x_2.1) ∧ x.2.1 + (1 : Int) = x_2.2.1 ∧ True) ∧ True) ∧ ∀ (y_2 : Pl.TP × Int),
 Pl.TmB (Pl.CB x_2.2.2.2.2.toNat) y_2.1 ∧ x_2.2.1 ≤ y_2.2 ∧ y_2.2 ≤ x_2.2.1 + (↑(Pl.CB x_2.2.2.2.2.toNat) : Int) →
 ∃ x : List Int × Int × List Int,
 (Rd (1099511627776 : Int) x.1 x.2.1 ∧ x.2.2 ≠ [] ∧ Sz x.2.2) ∧ (((0 : Nat) = (0 : Nat) ∧ Is (AV.lit (3 : Nat) (1 : Nat) (rowsCell [[i64 (1 : Int)], [i64 (1 : Int)], [i64 (2 : Int)]])) (ints x.2.2) ∧ True) ∧ (Is (byts x_2.1) (byts x.1) ∧ y_2.2 = x.2.1 ∧ True) ∧ True) ∧ ∀ (y_3 : Int),
 y_3 ∈ x.2.2 →
 ∃ x_3 : AX,
 (Rd (137438953472 : Int) x_3.1 x_3.2.1 ∧ x_3.2.1 + (↑(Pl.CB x_3.2.2.2.2.toNat) : Int) ≤ (137438953472 : Int) ∧ Pl.SgB (5 : Nat) (2 : Nat) x_3.2.2.1 ∧ x_3.2.2.2.2 ≤ (4 : Int)) ∧ (((0 : Nat) = (0 : Nat) ∧ (Is (syms s) (syms x_3.2.2.1) ∧ True) ∧ y = x_3.2.2.2.1 ∧ y_3 = x_3.2.2.2.2 ∧ True) ∧ (Is (byts x.1) (byts x_3.1) ∧ x.2.1 + (1 : Int) = x_3.2.1 ∧ True) ∧ True) ∧ ∀ (y : Pl.TP × Int),
 Pl.TmB (Pl.CB x_3.2.2.2.2.toNat) y.1 ∧ x_3.2.1 ≤ y.2 ∧ y.2 ≤ x_3.2.1 + (↑(Pl.CB x_3.2.2.2.2.toNat) : Int) →
 ∃ y_4 : Pl.Atm × Int,
 (Pl.AtB (3 : Nat) y_4.1 ∧ p ≤ y_4.2 ∧ y_4.2 ≤ p + (500 : Int)) ∧ (0 : Nat) + y_2.1.2.length ≤ y_2.1.2.length ∧ (0 : Nat) + y.1.2.length ≤ y.1.2.length ∧ (((1 : Int) = y_4.1.1 ∧ y_2.1.1 = y_4.1.2.1.1 ∧ Is (terms y_2.1.2) (terms y_4.1.2.1.2) ∧ y.1.1 = y_4.1.2.2.1.1 ∧ Is (terms y.1.2) (terms y_4.1.2.2.1.2) ∧ ((0 : Nat) = (0 : Nat) ∧ (0 : Nat) = (0 : Nat) ∧ y_4.1.2.2.2.1.length = (0 : Nat)) ∧ ((0 : Nat) = (0 : Nat) ∧ (0 : Nat) = (0 : Nat) ∧ y_4.1.2.2.2.2.1.length = (0 : Nat)) ∧ (0 : Int) = y_4.1.2.2.2.2.2.1 ∧ false = y_4.1.2.2.2.2.2.2 ∧ True) ∧ True) ∧ (Is (byts x_3.1) (byts b) ∧ y.2 = y_4.2 ∧ True) ∧ y_4.1.2.2.2.1.length = (0 : Nat) ∧ y_4.1.2.2.2.2.1.length = (0 : Nat) ∧ True) ∧ (∃ x : List Int × Int × List Int,
 (Rd (1099511627776 : Int) x.1 x.2.1 ∧ x.2.2 ≠ [] ∧ Sz x.2.2) ∧ (((0 : Nat) = (0 : Nat) ∧ Is (AV.lit (2 : Nat) (1 : Nat) (rowsCell [[i64 (1 : Int)], [i64 (2 : Int)]])) (ints x.2.2) ∧ True) ∧ (Is (byts x_1.1) (byts x.1) ∧ x_1.2.1 + (1 : Int) = x.2.1 ∧ True) ∧ True) ∧ ∀ (y_1 : Int),
 y_1 ∈ x.2.2 →
 ((∃ x_2 : AX,
 (Rd (137438953472 : Int) x_2.1 x_2.2.1 ∧ x_2.2.1 + (↑(Pl.CB x_2.2.2.2.2.toNat) : Int) ≤ (137438953472 : Int) ∧ Pl.SgB (5 : Nat) (2 : Nat) x_2.2.2.1 ∧ x_2.2.2.2.2 ≤ (4 : Int)) ∧ (((0 : Nat) = (0 : Nat) ∧ (Is (syms s) (syms x_2.2.2.1) ∧ True) ∧ y = x_2.2.2.2.1 ∧ y_1 = x_2.2.2.2.2 ∧ True) ∧ (Is (byts x.1) (byts x_2.1) ∧ x.2.1 + (1 : Int) = x_2.2.1 ∧ True) ∧ True) ∧ ∀ (y_2 : Pl.TP × Int),
 Pl.TmB (Pl.CB x_2.2.2.2.2.toNat) y_2.1 ∧ x_2.2.1 ≤ y_2.2 ∧ y_2.2 ≤ x_2.2.1 + (↑(Pl.CB x_2.2.2.2.2.toNat) : Int) →
 (∃ x : List Int × Int × List Int,
 (Rd (1099511627776 : Int) x.1 x.2.1 ∧ x.2.2 ≠ [] ∧ Sz x.2.2) ∧ (((0 : Nat) = (0 : Nat) ∧ Is (AV.lit (3 : Nat) (1 : Nat) (rowsCell [[i64 (1 : Int)], [i64 (1 : Int)], [i64 (2 : Int)]])) (ints x.2.2) ∧ True) ∧ (Is (byts x_2.1) (byts x.1) ∧ y_2.2 = x.2.1 ∧ True) ∧ True) ∧ ∀ (y_3 : Int),
 y_3 ∈ x.2.2 →
 ∃ x_3 : AX,
 (Rd (137438953472 : Int) x_3.1 x_3.2.1 ∧ x_3.2.1 + (↑(Pl.CB x_3.2.2.2.2.toNat) : Int) ≤ (137438953472 : Int) ∧ Pl.SgB (5 : Nat) (2 : Nat) x_3.2.2.1 ∧ x_3.2.2.2.2 ≤ (4 : Int)) ∧ (((0 : Nat) = (0 : Nat) ∧ (Is (syms s) (syms x_3.2.2.1) ∧ True) ∧ y = x_3.2.2.2.1 ∧ y_3 = x_3.2.2.2.2 ∧ True) ∧ (Is (byts x.1) (byts x_3.1) ∧ x.2.1 + (1 : Int) = x_3.2.1 ∧ True) ∧ True) ∧ ∀ (y : Pl.TP × Int),
 Pl.TmB (Pl.CB x_3.2.2.2.2.toNat) y.1 ∧ x_3.2.1 ≤ y.2 ∧ y.2 ≤ x_3.2.1 + (↑(Pl.CB x_3.2.2.2.2.toNat) : Int) →
 ∃ y_4 : Pl.Atm × Int,
 (Pl.AtB (3 : Nat) y_4.1 ∧ p ≤ y_4.2 ∧ y_4.2 ≤ p + (500 : Int)) ∧ (0 : Nat) + y_2.1.2.length ≤ y_2.1.2.length ∧ (0 : Nat) + y.1.2.length ≤ y.1.2.length ∧ (((1 : Int) = y_4.1.1 ∧ y_2.1.1 = y_4.1.2.1.1 ∧ Is (terms y_2.1.2) (terms y_4.1.2.1.2) ∧ y.1.1 = y_4.1.2.2.1.1 ∧ Is (terms y.1.2) (terms y_4.1.2.2.1.2) ∧ ((0 : Nat) = (0 : Nat) ∧ (0 : Nat) = (0 : Nat) ∧ y_4.1.2.2.2.1.length = (0 : Nat)) ∧ ((0 : Nat) = (0 : Nat) ∧ (0 : Nat) = (0 : Nat) ∧ y_4.1.2.2.2.2.1.length = (0 : Nat)) ∧ (0 : Int) = y_4.1.2.2.2.2.2.1 ∧ false = y_4.1.2.2.2.2.2.2 ∧ True) ∧ True) ∧ (Is (byts x_3.1) (byts b) ∧ y.2 = y_4.2 ∧ True) ∧ y_4.1.2.2.2.1.length = (0 : Nat) ∧ y_4.1.2.2.2.2.1.length = (0 : Nat) ∧ True) ∧ ∃ x : List Int × Int × List Int,
 (Rd (1099511627776 : Int) x.1 x.2.1 ∧ x.2.2 ≠ [] ∧ Sz x.2.2) ∧ (((0 : Nat) = (0 : Nat) ∧ Is (AV.lit (3 : Nat) (1 : Nat) (rowsCell [[i64 (1 : Int)], [i64 (1 : Int)], [i64 (2 : Int)]])) (ints x.2.2) ∧ True) ∧ (Is (byts x_2.1) (byts x.1) ∧ y_2.2 = x.2.1 ∧ True) ∧ True) ∧ ∀ (y_3 : Int),
 y_3 ∈ x.2.2 →
 ∃ x_3 : AX,
 (Rd (137438953472 : Int) x_3.1 x_3.2.1 ∧ x_3.2.1 + (↑(Pl.CB x_3.2.2.2.2.toNat) : Int) ≤ (137438953472 : Int) ∧ Pl.SgB (5 : Nat) (2 : Nat) x_3.2.2.1 ∧ x_3.2.2.2.2 ≤ (4 : Int)) ∧ (((0 : Nat) = (0 : Nat) ∧ (Is (syms s) (syms x_3.2.2.1) ∧ True) ∧ y = x_3.2.2.2.1 ∧ y_3 = x_3.2.2.2.2 ∧ True) ∧ (Is (byts x.1) (byts x_3.1) ∧ x.2.1 + (1 : Int) = x_3.2.1 ∧ True) ∧ True) ∧ ∀ (y : Pl.TP × Int),
 Pl.TmB (Pl.CB x_3.2.2.2.2.toNat) y.1 ∧ x_3.2.1 ≤ y.2 ∧ y.2 ≤ x_3.2.1 + (↑(Pl.CB x_3.2.2.2.2.toNat) : Int) →
 ∃ y_4 : Pl.Atm × Int,
 (Pl.AtB (3 : Nat) y_4.1 ∧ p ≤ y_4.2 ∧ y_4.2 ≤ p + (500 : Int)) ∧ (0 : Nat) + y_2.1.2.length ≤ y_2.1.2.length ∧ (0 : Nat) + y.1.2.length ≤ y.1.2.length ∧ (((1 : Int) = y_4.1.1 ∧ y_2.1.1 = y_4.1.2.1.1 ∧ Is (terms y_2.1.2) (terms y_4.1.2.1.2) ∧ y.1.1 = y_4.1.2.2.1.1 ∧ Is (terms y.1.2) (terms y_4.1.2.2.1.2) ∧ ((0 : Nat) = (0 : Nat) ∧ (0 : Nat) = (0 : Nat) ∧ y_4.1.2.2.2.1.length = (0 : Nat)) ∧ ((0 : Nat) = (0 : Nat) ∧ (0 : Nat) = (0 : Nat) ∧ y_4.1.2.2.2.2.1.length = (0 : Nat)) ∧ (0 : Int) = y_4.1.2.2.2.2.2.1 ∧ false = y_4.1.2.2.2.2.2.2 ∧ True) ∧ True) ∧ (Is (byts x_3.1) (byts b) ∧ y.2 = y_4.2 ∧ True) ∧ y_4.1.2.2.2.1.length = (0 : Nat) ∧ y_4.1.2.2.2.2.1.length = (0 : Nat) ∧ True) ∧ ∃ x_2 : AX,
 (Rd (137438953472 : Int) x_2.1 x_2.2.1 ∧ x_2.2.1 + (↑(Pl.CB x_2.2.2.2.2.toNat) : Int) ≤ (137438953472 : Int) ∧ Pl.SgB (5 : Nat) (2 : Nat) x_2.2.2.1 ∧ x_2.2.2.2.2 ≤ (4 : Int)) ∧ (((0 : Nat) = (0 : Nat) ∧ (Is (syms s) (syms x_2.2.2.1) ∧ True) ∧ y = x_2.2.2.2.1 ∧ y_1 = x_2.2.2.2.2 ∧ True) ∧ (Is (byts x.1) (byts x_2.1) ∧ x.2.1 + (1 : Int) = x_2.2.1 ∧ True) ∧ True) ∧ ∀ (y_2 : Pl.TP × Int),
 Pl.TmB (Pl.CB x_2.2.2.2.2.toNat) y_2.1 ∧ x_2.2.1 ≤ y_2.2 ∧ y_2.2 ≤ x_2.2.1 + (↑(Pl.CB x_2.2.2.2.2.toNat) : Int) →
 ∃ x : List Int × Int × List Int,
 (Rd (1099511627776 : Int) x.1 x.2.1 ∧ x.2.2 ≠ [] ∧ Sz x.2.2) ∧ (((0 : Nat) = (0 : Nat) ∧ Is (AV.lit (3 : Nat) (1 : Nat) (rowsCell [[i64 (1 : Int)], [i64 (1 : Int)], [i64 (2 : Int)]])) (ints x.2.2) ∧ True) ∧ (Is (byts x_2.1) (byts x.1) ∧ y_2.2 = x.2.1 ∧ True) ∧ True) ∧ ∀ (y_3 : Int),
 y_3 ∈ x.2.2 →
 ∃ x_3 : AX,
 (Rd (137438953472 : Int) x_3.1 x_3.2.1 ∧ x_3.2.1 + (↑(Pl.CB x_3.2.2.2.2.toNat) : Int) ≤ (137438953472 : Int) ∧ Pl.SgB (5 : Nat) (2 : Nat) x_3.2.2.1 ∧ x_3.2.2.2.2 ≤ (4 : Int)) ∧ (((0 : Nat) = (0 : Nat) ∧ (Is (syms s) (syms x_3.2.2.1) ∧ True) ∧ y = x_3.2.2.2.1 ∧ y_3 = x_3.2.2.2.2 ∧ True) ∧ (Is (byts x.1) (byts x_3.1) ∧ x.2.1 + (1 : Int) = x_3.2.1 ∧ True) ∧ True) ∧ ∀ (y : Pl.TP × Int),
 Pl.TmB (Pl.CB x_3.2.2.2.2.toNat) y.1 ∧ x_3.2.1 ≤ y.2 ∧ y.2 ≤ x_3.2.1 + (↑(Pl.CB x_3.2.2.2.2.toNat) : Int) →
 ∃ y_4 : Pl.Atm × Int,
 (Pl.AtB (3 : Nat) y_4.1 ∧ p ≤ y_4.2 ∧ y_4.2 ≤ p + (500 : Int)) ∧ (0 : Nat) + y_2.1.2.length ≤ y_2.1.2.length ∧ (0 : Nat) + y.1.2.length ≤ y.1.2.length ∧ (((1 : Int) = y_4.1.1 ∧ y_2.1.1 = y_4.1.2.1.1 ∧ Is (terms y_2.1.2) (terms y_4.1.2.1.2) ∧ y.1.1 = y_4.1.2.2.1.1 ∧ Is (terms y.1.2) (terms y_4.1.2.2.1.2) ∧ ((0 : Nat) = (0 : Nat) ∧ (0 : Nat) = (0 : Nat) ∧ y_4.1.2.2.2.1.length = (0 : Nat)) ∧ ((0 : Nat) = (0 : Nat) ∧ (0 : Nat) = (0 : Nat) ∧ y_4.1.2.2.2.2.1.length = (0 : Nat)) ∧ (0 : Int) = y_4.1.2.2.2.2.2.1 ∧ false = y_4.1.2.2.2.2.2.2 ∧ True) ∧ True) ∧ (Is (byts x_3.1) (byts b) ∧ y.2 = y_4.2 ∧ True) ∧ y_4.1.2.2.2.1.length = (0 : Nat) ∧ y_4.1.2.2.2.2.1.length = (0 : Nat) ∧ True) ∧ ∃ x_2 : AX,
 (Rd (137438953472 : Int) x_2.1 x_2.2.1 ∧ x_2.2.1 + (↑(Pl.CB x_2.2.2.2.2.toNat) : Int) ≤ (137438953472 : Int) ∧ Pl.SgB (5 : Nat) (2 : Nat) x_2.2.2.1 ∧ x_2.2.2.2.2 ≤ (4 : Int)) ∧ (((0 : Nat) = (0 : Nat) ∧ (Is (syms s) (syms x_2.2.2.1) ∧ True) ∧ y = x_2.2.2.2.1 ∧ y_1 = x_2.2.2.2.2 ∧ True) ∧ (Is (byts x.1) (byts x_2.1) ∧ x.2.1 + (1 : Int) = x_2.2.1 ∧ True) ∧ True) ∧ ∀ (y_2 : Pl.TP × Int),
 Pl.TmB (Pl.CB x_2.2.2.2.2.toNat) y_2.1 ∧ x_2.2.1 ≤ y_2.2 ∧ y_2.2 ≤ x_2.2.1 + (↑(Pl.CB x_2.2.2.2.2.toNat) : Int) →
 ∃ x : List Int × Int × List Int,
 (Rd (1099511627776 : Int) x.1 x.2.1 ∧ x.2.2 ≠ [] ∧ Sz x.2.2) ∧ (((0 : Nat) = (0 : Nat) ∧ Is (AV.lit (3 : Nat) (1 : Nat) (rowsCell [[i64 (1 : Int)], [i64 (1 : Int)], [i64 (2 : Int)]])) (ints x.2.2) ∧ True) ∧ (Is (byts x_2.1) (byts x.1) ∧ y_2.2 = x.2.1 ∧ True) ∧ True) ∧ ∀ (y_3 : Int),
 y_3 ∈ x.2.2 →
 ∃ x_3 : AX,
 (Rd (137438953472 : Int) x_3.1 x_3.2.1 ∧ x_3.2.1 + (↑(Pl.CB x_3.2.2.2.2.toNat) : Int) ≤ (137438953472 : Int) ∧ Pl.SgB (5 : Nat) (2 : Nat) x_3.2.2.1 ∧ x_3.2.2.2.2 ≤ (4 : Int)) ∧ (((0 : Nat) = (0 : Nat) ∧ (Is (syms s) (syms x_3.2.2.1) ∧ True) ∧ y = x_3.2.2.2.1 ∧ y_3 = x_3.2.2.2.2 ∧ True) ∧ (Is (byts x.1) (byts x_3.1) ∧ x.2.1 + (1 : Int) = x_3.2.1 ∧ True) ∧ True) ∧ ∀ (y : Pl.TP × Int),
 Pl.TmB (Pl.CB x_3.2.2.2.2.toNat) y.1 ∧ x_3.2.1 ≤ y.2 ∧ y.2 ≤ x_3.2.1 + (↑(Pl.CB x_3.2.2.2.2.toNat) : Int) →
 ∃ y_4 : Pl.Atm × Int,
 (Pl.AtB (3 : Nat) y_4.1 ∧ p ≤ y_4.2 ∧ y_4.2 ≤ p + (500 : Int)) ∧ (0 : Nat) + y_2.1.2.length ≤ y_2.1.2.length ∧ (0 : Nat) + y.1.2.length ≤ y.1.2.length ∧ (((1 : Int) = y_4.1.1 ∧ y_2.1.1 = y_4.1.2.1.1 ∧ Is (terms y_2.1.2) (terms y_4.1.2.1.2) ∧ y.1.1 = y_4.1.2.2.1.1 ∧ Is (terms y.1.2) (terms y_4.1.2.2.1.2) ∧ ((0 : Nat) = (0 : Nat) ∧ (0 : Nat) = (0 : Nat) ∧ y_4.1.2.2.2.1.length = (0 : Nat)) ∧ ((0 : Nat) = (0 : Nat) ∧ (0 : Nat) = (0 : Nat) ∧ y_4.1.2.2.2.2.1.length = (0 : Nat)) ∧ (0 : Int) = y_4.1.2.2.2.2.2.1 ∧ false = y_4.1.2.2.2.2.2.2 ∧ True) ∧ True) ∧ (Is (byts x_3.1) (byts b) ∧ y.2 = y_4.2 ∧ True) ∧ y_4.1.2.2.2.1.length = (0 : Nat) ∧ y_4.1.2.2.2.2.1.length = (0 : Nat) ∧ True) ∧ (∃ x : List Int × Int × List Int,
 (Rd (1099511627776 : Int) x.1 x.2.1 ∧ x.2.2 ≠ [] ∧ Sz x.2.2) ∧ (((0 : Nat) = (0 : Nat) ∧ Is (AV.lit (2 : Nat) (1 : Nat) (rowsCell [[i64 (1 : Int)], [i64 (2 : Int)]])) (ints x.2.2) ∧ True) ∧ (Is (byts x_1.1) (byts x.1) ∧ x_1.2.1 + (1 : Int) = x.2.1 ∧ True) ∧ True) ∧ ∀ (y_1 : Int),
 y_1 ∈ x.2.2 →
 ∃ x_2 : AX,
 (Rd (137438953472 : Int) x_2.1 x_2.2.1 ∧ x_2.2.1 + (↑(Pl.CB x_2.2.2.2.2.toNat) : Int) ≤ (137438953472 : Int) ∧ Pl.SgB (5 : Nat) (2 : Nat) x_2.2.2.1 ∧ x_2.2.2.2.2 ≤ (4 : Int)) ∧ (((0 : Nat) = (0 : Nat) ∧ (Is (syms s) (syms x_2.2.2.1) ∧ True) ∧ y = x_2.2.2.2.1 ∧ y_1 = x_2.2.2.2.2 ∧ True) ∧ (Is (byts x.1) (byts x_2.1) ∧ x.2.1 + (1 : Int) = x_2.2.1 ∧ True) ∧ True) ∧ ∀ (y_2 : Pl.TP × Int),
 Pl.TmB (Pl.CB x_2.2.2.2.2.toNat) y_2.1 ∧ x_2.2.1 ≤ y_2.2 ∧ y_2.2 ≤ x_2.2.1 + (↑(Pl.CB x_2.2.2.2.2.toNat) : Int) →
 ∃ x : List Int × Int × List Int,
 (Rd (1099511627776 : Int) x.1 x.2.1 ∧ x.2.2 ≠ [] ∧ Sz x.2.2) ∧ (((0 : Nat) = (0 : Nat) ∧ Is (AV.lit (3 : Nat) (1 : Nat) (rowsCell [[i64 (1 : Int)], [i64 (1 : Int)], [i64 (2 : Int)]])) (ints x.2.2) ∧ True) ∧ (Is (byts x_2.1) (byts x.1) ∧ y_2.2 = x.2.1 ∧ True) ∧ True) ∧ ∀ (y_3 : Int),
 y_3 ∈ x.2.2 →
 ∃ x_3 : AX,
 (Rd (137438953472 : Int) x_3.1 x_3.2.1 ∧ x_3.2.1 + (↑(Pl.CB x_3.2.2.2.2.toNat) : Int) ≤ (137438953472 : Int) ∧ Pl.SgB (5 : Nat) (2 : Nat) x_3.2.2.1 ∧ x_3.2.2.2.2 ≤ (4 : Int)) ∧ (((0 : Nat) = (0 : Nat) ∧ (Is (syms s) (syms x_3.2.2.1) ∧ True) ∧ y = x_3.2.2.2.1 ∧ y_3 = x_3.2.2.2.2 ∧ True) ∧ (Is (byts x.1) (byts x_3.1) ∧ x.2.1 + (1 : Int) = x_3.2.1 ∧ True) ∧ True) ∧ ∀ (y : Pl.TP × Int),
 Pl.TmB (Pl.CB x_3.2.2.2.2.toNat) y.1 ∧ x_3.2.1 ≤ y.2 ∧ y.2 ≤ x_3.2.1 + (↑(Pl.CB x_3.2.2.2.2.toNat) : Int) →
 ∃ y_4 : Pl.Atm × Int,
 (Pl.AtB (3 : Nat) y_4.1 ∧ p ≤ y_4.2 ∧ y_4.2 ≤ p + (500 : Int)) ∧ (0 : Nat) + y_2.1.2.length ≤ y_2.1.2.length ∧ (0 : Nat) + y.1.2.length ≤ y.1.2.length ∧ (((1 : Int) = y_4.1.1 ∧ y_2.1.1 = y_4.1.2.1.1 ∧ Is (terms y_2.1.2) (terms y_4.1.2.1.2) ∧ y.1.1 = y_4.1.2.2.1.1 ∧ Is (terms y.1.2) (terms y_4.1.2.2.1.2) ∧ ((0 : Nat) = (0 : Nat) ∧ (0 : Nat) = (0 : Nat) ∧ y_4.1.2.2.2.1.length = (0 : Nat)) ∧ ((0 : Nat) = (0 : Nat) ∧ (0 : Nat) = (0 : Nat) ∧ y_4.1.2.2.2.2.1.length = (0 : Nat)) ∧ (0 : Int) = y_4.1.2.2.2.2.2.1 ∧ false = y_4.1.2.2.2.2.2.2 ∧ True) ∧ True) ∧ (Is (byts x_3.1) (byts b) ∧ y.2 = y_4.2 ∧ True) ∧ y_4.1.2.2.2.1.length = (0 : Nat) ∧ y_4.1.2.2.2.2.1.length = (0 : Nat) ∧ True) ∧ ∃ x : List Int × Int × List Int,
 (Rd (1099511627776 : Int) x.1 x.2.1 ∧ x.2.2 ≠ [] ∧ Sz x.2.2) ∧ (((0 : Nat) = (0 : Nat) ∧ Is (AV.lit (2 : Nat) (1 : Nat) (rowsCell [[i64 (1 : Int)], [i64 (2 : Int)]])) (ints x.2.2) ∧ True) ∧ (Is (byts x_1.1) (byts x.1) ∧ x_1.2.1 + (1 : Int) = x.2.1 ∧ True) ∧ True) ∧ ∀ (y_1 : Int),
 y_1 ∈ x.2.2 →
 ∃ x_2 : AX,
 (Rd (137438953472 : Int) x_2.1 x_2.2.1 ∧ x_2.2.1 + (↑(Pl.CB x_2.2.2.2.2.toNat) : Int) ≤ (137438953472 : Int) ∧ Pl.SgB (5 : Nat) (2 : Nat) x_2.2.2.1 ∧ x_2.2.2.2.2 ≤ (4 : Int)) ∧ (((0 : Nat) = (0 : Nat) ∧ (Is (syms s) (syms x_2.2.2.1) ∧ True) ∧ y = x_2.2.2.2.1 ∧ y_1 = x_2.2.2.2.2 ∧ True) ∧ (Is (byts x.1) (byts x_2.1) ∧ x.2.1 + (1 : Int) = x_2.2.1 ∧ True) ∧ True) ∧ ∀ (y_2 : Pl.TP × Int),
 Pl.TmB (Pl.CB x_2.2.2.2.2.toNat) y_2.1 ∧ x_2.2.1 ≤ y_2.2 ∧ y_2.2 ≤ x_2.2.1 + (↑(Pl.CB x_2.2.2.2.2.toNat) : Int) →
 ∃ x : List Int × Int × List Int,
 (Rd (1099511627776 : Int) x.1 x.2.1 ∧ x.2.2 ≠ [] ∧ Sz x.2.2) ∧ (((0 : Nat) = (0 : Nat) ∧ Is (AV.lit (3 : Nat) (1 : Nat) (rowsCell [[i64 (1 : Int)], [i64 (1 : Int)], [i64 (2 : Int)]])) (ints x.2.2) ∧ True) ∧ (Is (byts x_2.1) (byts x.1) ∧ y_2.2 = x.2.1 ∧ True) ∧ True) ∧ ∀ (y_3 : Int),
 y_3 ∈ x.2.2 →
 ∃ x_3 : AX,
 (Rd (137438953472 : Int) x_3.1 x_3.2.1 ∧ x_3.2.1 + (↑(Pl.CB x_3.2.2.2.2.toNat) : Int) ≤ (137438953472 : Int) ∧ Pl.SgB (5 : Nat) (2 : Nat) x_3.2.2.1 ∧ x_3.2.2.2.2 ≤ (4 : Int)) ∧ (((0 : Nat) = (0 : Nat) ∧ (Is (syms s) (syms x_3.2.2.1) ∧ True) ∧ y = x_3.2.2.2.1 ∧ y_3 = x_3.2.2.2.2 ∧ True) ∧ (Is (byts x.1) (byts x_3.1) ∧ x.2.1 + (1 : Int) = x_3.2.1 ∧ True) ∧ True) ∧ ∀ (y : Pl.TP × Int),
 Pl.TmB (Pl.CB x_3.2.2.2.2.toNat) y.1 ∧ x_3.2.1 ≤ y.2 ∧ y.2 ≤ x_3.2.1 + (↑(Pl.CB x_3.2.2.2.2.toNat) : Int) →
 ∃ y_4 : Pl.Atm × Int,
 (Pl.AtB (3 : Nat) y_4.1 ∧ p ≤ y_4.2 ∧ y_4.2 ≤ p + (500 : Int)) ∧ (0 : Nat) + y_2.1.2.length ≤ y_2.1.2.length ∧ (0 : Nat) + y.1.2.length ≤ y.1.2.length ∧ (((1 : Int) = y_4.1.1 ∧ y_2.1.1 = y_4.1.2.1.1 ∧ Is (terms y_2.1.2) (terms y_4.1.2.1.2) ∧ y.1.1 = y_4.1.2.2.1.1 ∧ Is (terms y.1.2) (terms y_4.1.2.2.1.2) ∧ ((0 : Nat) = (0 : Nat) ∧ (0 : Nat) = (0 : Nat) ∧ y_4.1.2.2.2.1.length = (0 : Nat)) ∧ ((0 : Nat) = (0 : Nat) ∧ (0 : Nat) = (0 : Nat) ∧ y_4.1.2.2.2.2.1.length = (0 : Nat)) ∧ (0 : Int) = y_4.1.2.2.2.2.2.1 ∧ false = y_4.1.2.2.2.2.2.2 ∧ True) ∧ True) ∧ (Is (byts x_3.1) (byts b) ∧ y.2 = y_4.2 ∧ True) ∧ y_4.1.2.2.2.1.length = (0 : Nat) ∧ y_4.1.2.2.2.2.1.length = (0 : Nat) ∧ True)
 (∃ x_1 : List Int × Int × List Int,
 (Rd (1099511627776 : Int) x_1.1 x_1.2.1 ∧ x_1.2.2 ≠ [] ∧ Sz x_1.2.2) ∧ (((0 : Nat) = (0 : Nat) ∧ Is (AV.lit (6 : Nat) (1 : Nat) (rowsCell [[i64 (0 : Int)], [i64 (1 : Int)], [i64 (-1 : Int)], [i64 (2 : Int)], [i64 (3 : Int)], [i64 (-4 : Int)]]))
 (ints x_1.2.2) ∧ True) ∧ (Is (byts x.1) (byts x_1.1) ∧ x.2.1 + (1 : Int) = x_1.2.1 ∧ True) ∧ True) ∧ ∀ (y : Int),
 y ∈ x_1.2.2 →
 ∃ x : List Int × Int × Int,
 Rd (1099511627776 : Int) x.1 x.2.1 ∧ (((0 : Nat) = (0 : Nat) ∧ (3 : Int) = x.2.2 ∧ True) ∧ (Is (byts x_1.1) (byts x.1) ∧ x_1.2.1 + (1 : Int) = x.2.1 ∧ True) ∧ True) ∧ ∀ (y_1 : Int),
 ((1 : Int) ≤ x.2.2 → (0 : Int) ≤ y_1 ∧ y_1 < x.2.2) ∧ (x.2.2 < (1 : Int) → y_1 = (0 : Int)) →
 ∃ x_2 : List Int × Int × List Int,
 (Rd (1099511627776 : Int) x_2.1 x_2.2.1 ∧ x_2.2.2 ≠ [] ∧ Sz x_2.2.2) ∧ (((0 : Nat) = (0 : Nat) ∧ Is (AV.lit (4 : Nat) (1 : Nat) (rowsCell [[i64 (1 : Int)], [i64 (2 : Int)], [i64 (2 : Int)], [i64 (3 : Int)]])) (ints x_2.2.2) ∧ True) ∧ (Is (byts x.1) (byts x_2.1) ∧ x.2.1 + (1 : Int) = x_2.2.1 ∧ True) ∧ True) ∧ ∀ (y_2 : Int),
 y_2 ∈ x_2.2.2 →
 (∃ x : Int × List Pl.Tm × List Int × Int × Bool × Int,
 ((0 : Int) ≤ x.1 ∧ x.1 ≤ (3 : Int) ∧ (↑x.2.1.length : Int) + x.1 ≤ (3 : Int) ∧ x.2.2.1.length = x.2.1.length ∧ (∀ (t : Pl.Tm), t ∈ x.2.1 → Pl.costT t ≤ (400 : Nat)) ∧ p ≤ x.2.2.2.2.2 ∧ x.2.2.2.2.2 + (100 : Int) * x.1 ≤ p + (310 : Int)) ∧ ((0 : Nat) = (0 : Nat) ∧ (0 : Nat) = (0 : Nat) ∧ (0 : Nat) = (0 : Nat) ∧ (0 : Nat) = (0 : Nat) ∧ y_2 = x.1 ∧ True) ∧ (Is (byts x_2.1) (byts b) ∧ x_2.2.1 + (1 : Int) = x.2.2.2.2.2 ∧ True) ∧ (Is (syms s) (syms s) ∧ True) ∧ ((0 : Int) = (0 : Int) ∧ ByteArray.mk #[] = ByteArray.empty ∧ Is (AV.lit (0 : Nat) (1 : Nat) fun (x x_3 : Nat) => AV.any) nilA ∧ ByteArray.mk #[] = ByteArray.empty ∧ Is (AV.lit (0 : Nat) (1 : Nat) fun (x x_3 : Nat) => AV.any) nilA ∧ Is (AV.lit (0 : Nat) (1 : Nat) fun (x x_3 : Nat) => AV.any) nilA ∧ Is (AV.lit (0 : Nat) (1 : Nat) fun (x x_3 : Nat) => AV.any) nilA ∧ (0 : Int) = (0 : Int) ∧ false = false ∧ True) ∧ ((2 : Int) = (2 : Int) ∧ ByteArray.mk #[] = ByteArray.empty ∧ Is (AV.lit (0 : Nat) (1 : Nat) fun (x x_3 : Nat) => AV.any) (terms []) ∧ ByteArray.mk #[] = ByteArray.empty ∧ Is (AV.lit (0 : Nat) (1 : Nat) fun (x x_3 : Nat) => AV.any) (terms []) ∧ ((0 : Nat) = (0 : Nat) ∧ (0 : Nat) = (0 : Nat) ∧ x.2.1.length = (0 : Nat)) ∧ ((0 : Nat) = (0 : Nat) ∧ (0 : Nat) = (0 : Nat) ∧ x.2.2.1.length = (0 : Nat)) ∧ y = x.2.2.2.1 ∧ (y_1 == (0 : Int)) = x.2.2.2.2.1 ∧ True) ∧ x.2.1.length = (0 : Nat) ∧ x.2.2.1.length = (0 : Nat) ∧ True) ∧ ∀ (x : Int × List Pl.Tm × List Int × Int × Bool × Int),
 (0 : Int) ≤ x.1 ∧ x.1 ≤ (3 : Int) ∧ (↑x.2.1.length : Int) + x.1 ≤ (3 : Int) ∧ x.2.2.1.length = x.2.1.length ∧ (∀ (t : Pl.Tm), t ∈ x.2.1 → Pl.costT t ≤ (400 : Nat)) ∧ p ≤ x.2.2.2.2.2 ∧ x.2.2.2.2.2 + (100 : Int) * x.1 ≤ p + (310 : Int) →
 condP (decide (x.1 > (0 : Int)))
 (((∃ x_3 : List Int × Int × List Int,
 (Rd (1099511627776 : Int) x_3.1 x_3.2.1 ∧ x_3.2.2 ≠ [] ∧ Sz x_3.2.2) ∧ (((0 : Nat) = (0 : Nat) ∧ Is (AV.lit (3 : Nat) (1 : Nat) (rowsCell [[i64 (1 : Int)], [i64 (1 : Int)], [i64 (2 : Int)]])) (ints x_3.2.2) ∧ True) ∧ (Is (byts b) (byts x_3.1) ∧ x.2.2.2.2.2 = x_3.2.1 ∧ True) ∧ True) ∧ ∀ (y : Int),
 y ∈ x_3.2.2 →
 ∃ x_4 : AX,
 (Rd (137438953472 : Int) x_4.1 x_4.2.1 ∧ x_4.2.1 + (↑(Pl.CB x_4.2.2.2.2.toNat) : Int) ≤ (137438953472 : Int) ∧ Pl.SgB (5 : Nat) (2 : Nat) x_4.2.2.1 ∧ x_4.2.2.2.2 ≤ (4 : Int)) ∧ (((0 : Nat) = (0 : Nat) ∧ (Is (syms s) (syms x_4.2.2.1) ∧ True) ∧ (1 : Int) = x_4.2.2.2.1 ∧ y = x_4.2.2.2.2 ∧ True) ∧ (Is (byts x_3.1) (byts x_4.1) ∧ x_3.2.1 + (1 : Int) = x_4.2.1 ∧ True) ∧ True) ∧ ∀ (y : Pl.TP × Int),
 Pl.TmB (Pl.CB x_4.2.2.2.2.toNat) y.1 ∧ x_4.2.1 ≤ y.2 ∧ y.2 ≤ x_4.2.1 + (↑(Pl.CB x_4.2.2.2.2.toNat) : Int) →
 ∃ x_5 : List Int × Int × List Int,
 (Rd (1099511627776 : Int) x_5.1 x_5.2.1 ∧ x_5.2.2 ≠ [] ∧ Sz x_5.2.2) ∧ (((0 : Nat) = (0 : Nat) ∧ Is
 (AV.lit (6 : Nat) (1 : Nat)
 (rowsCell
 [[i64 (1 : Int)], [i64 (-1 : Int)], [i64 (1 : Int)], [i64 (-1 : Int)], [i64 (2 : Int)],
 [i64 (-2 : Int)]]))
 (ints x_5.2.2) ∧ True) ∧ (Is (byts x_4.1) (byts x_5.1) ∧ y.2 = x_5.2.1 ∧ True) ∧ True) ∧ ∀ (y_3 : Int),
 y_3 ∈ x_5.2.2 →
 (0 : Nat) + x.2.1.length ≤ x.2.1.length ∧ (0 : Nat) + x.2.2.1.length ≤ x.2.2.1.length ∧ (0 : Nat) + y.1.2.length ≤ y.1.2.length ∧ ∃ x_6 : Pl.Atm × Pl.TP × Int,
 (SmA x_6.1 ∧ SmT (Pl.Tree.mk x_6.2.1.1 x_6.2.1.2) ∧ x_6.1.2.2.2.1.length ≤ (100 : Nat) ∧ x_6.1.2.2.2.2.1.length = x_6.1.2.2.2.1.length) ∧ ((((2 : Int) = x_6.1.1 ∧ ByteArray.empty = x_6.1.2.1.1 ∧ Is
 (AV.sl ((0 : Nat)) (2 : Nat) fun (i j : Nat) => eT (Pl.Tree.mk ByteArray.empty []) j)
 (terms x_6.1.2.1.2) ∧ ByteArray.empty = x_6.1.2.2.1.1 ∧ Is
 (AV.sl ((0 : Nat)) (2 : Nat) fun (i j : Nat) =>
 eT (Pl.Tree.mk ByteArray.empty []) j)
 (terms x_6.1.2.2.1.2) ∧ Is (terms x.2.1) (terms x_6.1.2.2.2.1) ∧ Is (ints x.2.2.1) (ints x_6.1.2.2.2.2.1) ∧ x.2.2.2.1 = x_6.1.2.2.2.2.2.1 ∧ x.2.2.2.2.1 = x_6.1.2.2.2.2.2.2 ∧ True) ∧ (y.1.1 = x_6.2.1.1 ∧ Is (terms y.1.2) (terms x_6.2.1.2) ∧ True) ∧ y_3 = x_6.2.2 ∧ True) ∧ True) ∧ ∀ (y : List Pl.Tm × List Int),
 Pl.PutB x_6.1.2.2.2.1 (Pl.Tree.mk x_6.2.1.1 x_6.2.1.2)
 (x_6.1.2.2.2.1.length + (1 : Nat)) y.1 y.2 →
 Exists fun (x' : Int × List Pl.Tm × List Int × Int × Bool × Int) =>
 ((0 : Int) ≤ x'.1 ∧ x'.1 ≤ (3 : Int) ∧ (↑x'.2.1.length : Int) + x'.1 ≤ (3 : Int) ∧ x'.2.2.1.length = x'.2.1.length ∧ (∀ (t : Pl.Tm), t ∈ x'.2.1 → Pl.costT t ≤ (400 : Nat)) ∧ p ≤ x'.2.2.2.2.2 ∧ x'.2.2.2.2.2 + (100 : Int) * x'.1 ≤ p + (310 : Int)) ∧ x'.1.toNat < x.1.toNat ∧ ((0 : Nat) = (0 : Nat) ∧ (0 : Nat) = (0 : Nat) ∧ (0 : Nat) = (0 : Nat) ∧ (0 : Nat) = (0 : Nat) ∧ IntKind.i64.wrap (x.1 - (1 : Int)) = x'.1 ∧ True) ∧ (Is (byts x_5.1) (byts b) ∧ x_5.2.1 + (1 : Int) = x'.2.2.2.2.2 ∧ True) ∧ (Is (syms s) (syms s) ∧ True) ∧ ((0 : Int) = (0 : Int) ∧ ByteArray.empty = ByteArray.empty ∧ Is (AV.lit (0 : Nat) (1 : Nat) fun (x x_7 : Nat) => AV.any) nilA ∧ ByteArray.empty = ByteArray.empty ∧ Is (AV.lit (0 : Nat) (1 : Nat) fun (x x_7 : Nat) => AV.any) nilA ∧ Is (AV.lit (0 : Nat) (1 : Nat) fun (x x_7 : Nat) => AV.any)
 nilA ∧ Is (AV.lit (0 : Nat) (1 : Nat) fun (x x_7 : Nat) => AV.any)
 nilA ∧ (0 : Int) = (0 : Int) ∧ false = false ∧ True) ∧ ((x_6.1.1, Pl.noTP, Pl.noTP, y.1, y.2, x_6.1.2.2.2.2.2.1,
 x_6.1.2.2.2.2.2.2).1 =
 (2 : Int) ∧ ByteArray.mk #[] = ByteArray.empty ∧ Is
 (AV.sl ((0 : Nat)) (2 : Nat) fun (i j : Nat) =>
 eT (Pl.Tree.mk ByteArray.empty []) j)
 (terms []) ∧ ByteArray.mk #[] = ByteArray.empty ∧ Is
 (AV.sl ((0 : Nat)) (2 : Nat) fun (i j : Nat) =>
 eT (Pl.Tree.mk ByteArray.empty []) j)
 (terms []) ∧ ((0 : Nat) = (0 : Nat) ∧ (y.1, y.2, x_6.1.2.2.2.2.2.1,
 x_6.1.2.2.2.2.2.2).1.length =
 x'.2.1.length) ∧ ((0 : Nat) = (0 : Nat) ∧ (y.2, x_6.1.2.2.2.2.2.1,
 x_6.1.2.2.2.2.2.2).1.length =
 x'.2.2.1.length) ∧ (x_6.1.2.2.2.2.2.1,
 x_6.1.2.2.2.2.2.2).1 =
 x'.2.2.2.1 ∧ (x_6.1.2.2.2.2.2.1,
 x_6.1.2.2.2.2.2.2).2 =
 x'.2.2.2.2.1 ∧ True) ∧ IsO (arT y.1) (arT x'.2.1) ∧ IsO (arI y.2) (arI x'.2.2.1) ∧ True) ∧ ∃ x_3 : List Int × Int × List Int,
 (Rd (1099511627776 : Int) x_3.1 x_3.2.1 ∧ x_3.2.2 ≠ [] ∧ Sz x_3.2.2) ∧ (((0 : Nat) = (0 : Nat) ∧ Is (AV.lit (3 : Nat) (1 : Nat) (rowsCell [[i64 (1 : Int)], [i64 (1 : Int)], [i64 (2 : Int)]])) (ints x_3.2.2) ∧ True) ∧ (Is (byts b) (byts x_3.1) ∧ x.2.2.2.2.2 = x_3.2.1 ∧ True) ∧ True) ∧ ∀ (y : Int),
 y ∈ x_3.2.2 →
 ∃ x_4 : AX,
 (Rd (137438953472 : Int) x_4.1 x_4.2.1 ∧ x_4.2.1 + (↑(Pl.CB x_4.2.2.2.2.toNat) : Int) ≤ (137438953472 : Int) ∧ Pl.SgB (5 : Nat) (2 : Nat) x_4.2.2.1 ∧ x_4.2.2.2.2 ≤ (4 : Int)) ∧ (((0 : Nat) = (0 : Nat) ∧ (Is (syms s) (syms x_4.2.2.1) ∧ True) ∧ (1 : Int) = x_4.2.2.2.1 ∧ y = x_4.2.2.2.2 ∧ True) ∧ (Is (byts x_3.1) (byts x_4.1) ∧ x_3.2.1 + (1 : Int) = x_4.2.1 ∧ True) ∧ True) ∧ ∀ (y : Pl.TP × Int),
 Pl.TmB (Pl.CB x_4.2.2.2.2.toNat) y.1 ∧ x_4.2.1 ≤ y.2 ∧ y.2 ≤ x_4.2.1 + (↑(Pl.CB x_4.2.2.2.2.toNat) : Int) →
 ∃ x_5 : List Int × Int × List Int,
 (Rd (1099511627776 : Int) x_5.1 x_5.2.1 ∧ x_5.2.2 ≠ [] ∧ Sz x_5.2.2) ∧ (((0 : Nat) = (0 : Nat) ∧ Is
 (AV.lit (6 : Nat) (1 : Nat)
 (rowsCell
 [[i64 (1 : Int)], [i64 (-1 : Int)], [i64 (1 : Int)], [i64 (-1 : Int)], [i64 (2 : Int)],
 [i64 (-2 : Int)]]))
 (ints x_5.2.2) ∧ True) ∧ (Is (byts x_4.1) (byts x_5.1) ∧ y.2 = x_5.2.1 ∧ True) ∧ True) ∧ ∀ (y_3 : Int),
 y_3 ∈ x_5.2.2 →
 (0 : Nat) + x.2.1.length ≤ x.2.1.length ∧ (0 : Nat) + x.2.2.1.length ≤ x.2.2.1.length ∧ (0 : Nat) + y.1.2.length ≤ y.1.2.length ∧ ∃ x_6 : Pl.Atm × Pl.TP × Int,
 (SmA x_6.1 ∧ SmT (Pl.Tree.mk x_6.2.1.1 x_6.2.1.2) ∧ x_6.1.2.2.2.1.length ≤ (100 : Nat) ∧ x_6.1.2.2.2.2.1.length = x_6.1.2.2.2.1.length) ∧ ((((2 : Int) = x_6.1.1 ∧ ByteArray.empty = x_6.1.2.1.1 ∧ Is
 (AV.sl ((0 : Nat)) (2 : Nat) fun (i j : Nat) => eT (Pl.Tree.mk ByteArray.empty []) j)
 (terms x_6.1.2.1.2) ∧ ByteArray.empty = x_6.1.2.2.1.1 ∧ Is
 (AV.sl ((0 : Nat)) (2 : Nat) fun (i j : Nat) =>
 eT (Pl.Tree.mk ByteArray.empty []) j)
 (terms x_6.1.2.2.1.2) ∧ Is (terms x.2.1) (terms x_6.1.2.2.2.1) ∧ Is (ints x.2.2.1) (ints x_6.1.2.2.2.2.1) ∧ x.2.2.2.1 = x_6.1.2.2.2.2.2.1 ∧ x.2.2.2.2.1 = x_6.1.2.2.2.2.2.2 ∧ True) ∧ (y.1.1 = x_6.2.1.1 ∧ Is (terms y.1.2) (terms x_6.2.1.2) ∧ True) ∧ y_3 = x_6.2.2 ∧ True) ∧ True) ∧ ∀ (y : List Pl.Tm × List Int),
 Pl.PutB x_6.1.2.2.2.1 (Pl.Tree.mk x_6.2.1.1 x_6.2.1.2)
 (x_6.1.2.2.2.1.length + (1 : Nat)) y.1 y.2 →
 Exists fun (x' : Int × List Pl.Tm × List Int × Int × Bool × Int) =>
 ((0 : Int) ≤ x'.1 ∧ x'.1 ≤ (3 : Int) ∧ (↑x'.2.1.length : Int) + x'.1 ≤ (3 : Int) ∧ x'.2.2.1.length = x'.2.1.length ∧ (∀ (t : Pl.Tm), t ∈ x'.2.1 → Pl.costT t ≤ (400 : Nat)) ∧ p ≤ x'.2.2.2.2.2 ∧ x'.2.2.2.2.2 + (100 : Int) * x'.1 ≤ p + (310 : Int)) ∧ x'.1.toNat < x.1.toNat ∧ ((0 : Nat) = (0 : Nat) ∧ (0 : Nat) = (0 : Nat) ∧ (0 : Nat) = (0 : Nat) ∧ (0 : Nat) = (0 : Nat) ∧ IntKind.i64.wrap (x.1 - (1 : Int)) = x'.1 ∧ True) ∧ (Is (byts x_5.1) (byts b) ∧ x_5.2.1 + (1 : Int) = x'.2.2.2.2.2 ∧ True) ∧ (Is (syms s) (syms s) ∧ True) ∧ ((0 : Int) = (0 : Int) ∧ ByteArray.empty = ByteArray.empty ∧ Is (AV.lit (0 : Nat) (1 : Nat) fun (x x_7 : Nat) => AV.any) nilA ∧ ByteArray.empty = ByteArray.empty ∧ Is (AV.lit (0 : Nat) (1 : Nat) fun (x x_7 : Nat) => AV.any) nilA ∧ Is (AV.lit (0 : Nat) (1 : Nat) fun (x x_7 : Nat) => AV.any)
 nilA ∧ Is (AV.lit (0 : Nat) (1 : Nat) fun (x x_7 : Nat) => AV.any)
 nilA ∧ (0 : Int) = (0 : Int) ∧ false = false ∧ True) ∧ ((x_6.1.1, Pl.noTP, Pl.noTP, y.1, y.2, x_6.1.2.2.2.2.2.1,
 x_6.1.2.2.2.2.2.2).1 =
 (2 : Int) ∧ ByteArray.mk #[] = ByteArray.empty ∧ Is
 (AV.sl ((0 : Nat)) (2 : Nat) fun (i j : Nat) =>
 eT (Pl.Tree.mk ByteArray.empty []) j)
 (terms []) ∧ ByteArray.mk #[] = ByteArray.empty ∧ Is
 (AV.sl ((0 : Nat)) (2 : Nat) fun (i j : Nat) =>
 eT (Pl.Tree.mk ByteArray.empty []) j)
 (terms []) ∧ ((0 : Nat) = (0 : Nat) ∧ (y.1, y.2, x_6.1.2.2.2.2.2.1,
 x_6.1.2.2.2.2.2.2).1.length =
 x'.2.1.length) ∧ ((0 : Nat) = (0 : Nat) ∧ (y.2, x_6.1.2.2.2.2.2.1,
 x_6.1.2.2.2.2.2.2).1.length =
 x'.2.2.1.length) ∧ (x_6.1.2.2.2.2.2.1,
 x_6.1.2.2.2.2.2.2).1 =
 x'.2.2.2.1 ∧ (x_6.1.2.2.2.2.2.1,
 x_6.1.2.2.2.2.2.2).2 =
 x'.2.2.2.2.1 ∧ True) ∧ IsO (arT y.1) (arT x'.2.1) ∧ IsO (arI y.2) (arI x'.2.2.1) ∧ True) ∧ ((∃ x_3 : List Int × Int × List Int,
 (Rd (1099511627776 : Int) x_3.1 x_3.2.1 ∧ x_3.2.2 ≠ [] ∧ Sz x_3.2.2) ∧ (((0 : Nat) = (0 : Nat) ∧ Is (AV.lit (3 : Nat) (1 : Nat) (rowsCell [[i64 (1 : Int)], [i64 (1 : Int)], [i64 (2 : Int)]]))
 (ints x_3.2.2) ∧ True) ∧ (Is (byts b) (byts x_3.1) ∧ x.2.2.2.2.2 = x_3.2.1 ∧ True) ∧ True) ∧ ∀ (y : Int),
 y ∈ x_3.2.2 →
 ∃ x_4 : AX,
 (Rd (137438953472 : Int) x_4.1 x_4.2.1 ∧ x_4.2.1 + (↑(Pl.CB x_4.2.2.2.2.toNat) : Int) ≤ (137438953472 : Int) ∧ Pl.SgB (5 : Nat) (2 : Nat) x_4.2.2.1 ∧ x_4.2.2.2.2 ≤ (4 : Int)) ∧ (((0 : Nat) = (0 : Nat) ∧ (Is (syms s) (syms x_4.2.2.1) ∧ True) ∧ (1 : Int) = x_4.2.2.2.1 ∧ y = x_4.2.2.2.2 ∧ True) ∧ (Is (byts x_3.1) (byts x_4.1) ∧ x_3.2.1 + (1 : Int) = x_4.2.1 ∧ True) ∧ True) ∧ ∀ (y : Pl.TP × Int),
 Pl.TmB (Pl.CB x_4.2.2.2.2.toNat) y.1 ∧ x_4.2.1 ≤ y.2 ∧ y.2 ≤ x_4.2.1 + (↑(Pl.CB x_4.2.2.2.2.toNat) : Int) →
 ∃ x_5 : List Int × Int × List Int,
 (Rd (1099511627776 : Int) x_5.1 x_5.2.1 ∧ x_5.2.2 ≠ [] ∧ Sz x_5.2.2) ∧ (((0 : Nat) = (0 : Nat) ∧ Is
 (AV.lit (6 : Nat) (1 : Nat)
 (rowsCell
 [[i64 (1 : Int)], [i64 (-1 : Int)], [i64 (1 : Int)], [i64 (-1 : Int)], [i64 (2 : Int)],
 [i64 (-2 : Int)]]))
 (ints x_5.2.2) ∧ True) ∧ (Is (byts x_4.1) (byts x_5.1) ∧ y.2 = x_5.2.1 ∧ True) ∧ True) ∧ ∀ (y_3 : Int),
 y_3 ∈ x_5.2.2 →
 (0 : Nat) + x.2.1.length ≤ x.2.1.length ∧ (0 : Nat) + x.2.2.1.length ≤ x.2.2.1.length ∧ (0 : Nat) + y.1.2.length ≤ y.1.2.length ∧ ∃ x_6 : Pl.Atm × Pl.TP × Int,
 (SmA x_6.1 ∧ SmT (Pl.Tree.mk x_6.2.1.1 x_6.2.1.2) ∧ x_6.1.2.2.2.1.length ≤ (100 : Nat) ∧ x_6.1.2.2.2.2.1.length = x_6.1.2.2.2.1.length) ∧ ((((2 : Int) = x_6.1.1 ∧ ByteArray.empty = x_6.1.2.1.1 ∧ Is
 (AV.sl ((0 : Nat)) (2 : Nat) fun (i j : Nat) =>
 eT (Pl.Tree.mk ByteArray.empty []) j)
 (terms x_6.1.2.1.2) ∧ ByteArray.empty = x_6.1.2.2.1.1 ∧ Is
 (AV.sl ((0 : Nat)) (2 : Nat) fun (i j : Nat) =>
 eT (Pl.Tree.mk ByteArray.empty []) j)
 (terms x_6.1.2.2.1.2) ∧ Is (terms x.2.1) (terms x_6.1.2.2.2.1) ∧ Is (ints x.2.2.1) (ints x_6.1.2.2.2.2.1) ∧ x.2.2.2.1 = x_6.1.2.2.2.2.2.1 ∧ x.2.2.2.2.1 = x_6.1.2.2.2.2.2.2 ∧ True) ∧ (y.1.1 = x_6.2.1.1 ∧ Is (terms y.1.2) (terms x_6.2.1.2) ∧ True) ∧ y_3 = x_6.2.2 ∧ True) ∧ True) ∧ ∀ (y : List Pl.Tm × List Int),
 Pl.PutB x_6.1.2.2.2.1 (Pl.Tree.mk x_6.2.1.1 x_6.2.1.2)
 (x_6.1.2.2.2.1.length + (1 : Nat)) y.1 y.2 →
 Exists fun (x' : Int × List Pl.Tm × List Int × Int × Bool × Int) =>
 ((0 : Int) ≤ x'.1 ∧ x'.1 ≤ (3 : Int) ∧ (↑x'.2.1.length : Int) + x'.1 ≤ (3 : Int) ∧ x'.2.2.1.length = x'.2.1.length ∧ (∀ (t : Pl.Tm), t ∈ x'.2.1 → Pl.costT t ≤ (400 : Nat)) ∧ p ≤ x'.2.2.2.2.2 ∧ x'.2.2.2.2.2 + (100 : Int) * x'.1 ≤ p + (310 : Int)) ∧ x'.1.toNat < x.1.toNat ∧ ((0 : Nat) = (0 : Nat) ∧ (0 : Nat) = (0 : Nat) ∧ (0 : Nat) = (0 : Nat) ∧ (0 : Nat) = (0 : Nat) ∧ IntKind.i64.wrap (x.1 - (1 : Int)) = x'.1 ∧ True) ∧ (Is (byts x_5.1) (byts b) ∧ x_5.2.1 + (1 : Int) = x'.2.2.2.2.2 ∧ True) ∧ (Is (syms s) (syms s) ∧ True) ∧ ((0 : Int) = (0 : Int) ∧ ByteArray.empty = ByteArray.empty ∧ Is (AV.lit (0 : Nat) (1 : Nat) fun (x x_7 : Nat) => AV.any) nilA ∧ ByteArray.empty = ByteArray.empty ∧ Is (AV.lit (0 : Nat) (1 : Nat) fun (x x_7 : Nat) => AV.any)
 nilA ∧ Is (AV.lit (0 : Nat) (1 : Nat) fun (x x_7 : Nat) => AV.any)
 nilA ∧ Is (AV.lit (0 : Nat) (1 : Nat) fun (x x_7 : Nat) => AV.any)
 nilA ∧ (0 : Int) = (0 : Int) ∧ false = false ∧ True) ∧ ((x_6.1.1, Pl.noTP, Pl.noTP, y.1, y.2, x_6.1.2.2.2.2.2.1,
 x_6.1.2.2.2.2.2.2).1 =
 (2 : Int) ∧ ByteArray.mk #[] = ByteArray.empty ∧ Is
 (AV.sl ((0 : Nat)) (2 : Nat) fun (i j : Nat) =>
 eT (Pl.Tree.mk ByteArray.empty []) j)
 (terms []) ∧ ByteArray.mk #[] = ByteArray.empty ∧ Is
 (AV.sl ((0 : Nat)) (2 : Nat) fun (i j : Nat) =>
 eT (Pl.Tree.mk ByteArray.empty []) j)
 (terms []) ∧ ((0 : Nat) = (0 : Nat) ∧ (y.1, y.2, x_6.1.2.2.2.2.2.1,
 x_6.1.2.2.2.2.2.2).1.length =
 x'.2.1.length) ∧ ((0 : Nat) = (0 : Nat) ∧ (y.2, x_6.1.2.2.2.2.2.1,
 x_6.1.2.2.2.2.2.2).1.length =
 x'.2.2.1.length) ∧ (x_6.1.2.2.2.2.2.1,
 x_6.1.2.2.2.2.2.2).1 =
 x'.2.2.2.1 ∧ (x_6.1.2.2.2.2.2.1,
 x_6.1.2.2.2.2.2.2).2 =
 x'.2.2.2.2.1 ∧ True) ∧ IsO (arT y.1) (arT x'.2.1) ∧ IsO (arI y.2) (arI x'.2.2.1) ∧ True) ∧ ∃ x_3 : List Int × Int × List Int,
 (Rd (1099511627776 : Int) x_3.1 x_3.2.1 ∧ x_3.2.2 ≠ [] ∧ Sz x_3.2.2) ∧ (((0 : Nat) = (0 : Nat) ∧ Is (AV.lit (3 : Nat) (1 : Nat) (rowsCell [[i64 (1 : Int)], [i64 (1 : Int)], [i64 (2 : Int)]]))
 (ints x_3.2.2) ∧ True) ∧ (Is (byts b) (byts x_3.1) ∧ x.2.2.2.2.2 = x_3.2.1 ∧ True) ∧ True) ∧ ∀ (y : Int),
 y ∈ x_3.2.2 →
 (∃ x_4 : AX,
 (Rd (137438953472 : Int) x_4.1 x_4.2.1 ∧ x_4.2.1 + (↑(Pl.CB x_4.2.2.2.2.toNat) : Int) ≤ (137438953472 : Int) ∧ Pl.SgB (5 : Nat) (2 : Nat) x_4.2.2.1 ∧ x_4.2.2.2.2 ≤ (4 : Int)) ∧ (((0 : Nat) = (0 : Nat) ∧ (Is (syms s) (syms x_4.2.2.1) ∧ True) ∧ (1 : Int) = x_4.2.2.2.1 ∧ y = x_4.2.2.2.2 ∧ True) ∧ (Is (byts x_3.1) (byts x_4.1) ∧ x_3.2.1 + (1 : Int) = x_4.2.1 ∧ True) ∧ True) ∧ ∀ (y : Pl.TP × Int),
 Pl.TmB (Pl.CB x_4.2.2.2.2.toNat) y.1 ∧ x_4.2.1 ≤ y.2 ∧ y.2 ≤ x_4.2.1 + (↑(Pl.CB x_4.2.2.2.2.toNat) : Int) →
 ∃ x_5 : List Int × Int × List Int,
 (Rd (1099511627776 : Int) x_5.1 x_5.2.1 ∧ x_5.2.2 ≠ [] ∧ Sz x_5.2.2) ∧ (((0 : Nat) = (0 : Nat) ∧ Is
 (AV.lit (6 : Nat) (1 : Nat)
 (rowsCell
 [[i64 (1 : Int)], [i64 (-1 : Int)], [i64 (1 : Int)], [i64 (-1 : Int)], [i64 (2 : Int)],
 [i64 (-2 : Int)]]))
 (ints x_5.2.2) ∧ True) ∧ (Is (byts x_4.1) (byts x_5.1) ∧ y.2 = x_5.2.1 ∧ True) ∧ True) ∧ ∀ (y_3 : Int),
 y_3 ∈ x_5.2.2 →
 (0 : Nat) + x.2.1.length ≤ x.2.1.length ∧ (0 : Nat) + x.2.2.1.length ≤ x.2.2.1.length ∧ (0 : Nat) + y.1.2.length ≤ y.1.2.length ∧ ∃ x_6 : Pl.Atm × Pl.TP × Int,
 (SmA x_6.1 ∧ SmT (Pl.Tree.mk x_6.2.1.1 x_6.2.1.2) ∧ x_6.1.2.2.2.1.length ≤ (100 : Nat) ∧ x_6.1.2.2.2.2.1.length = x_6.1.2.2.2.1.length) ∧ ((((2 : Int) = x_6.1.1 ∧ ByteArray.empty = x_6.1.2.1.1 ∧ Is
 (AV.sl ((0 : Nat)) (2 : Nat) fun (i j : Nat) =>
 eT (Pl.Tree.mk ByteArray.empty []) j)
 (terms x_6.1.2.1.2) ∧ ByteArray.empty = x_6.1.2.2.1.1 ∧ Is
 (AV.sl ((0 : Nat)) (2 : Nat) fun (i j : Nat) =>
 eT (Pl.Tree.mk ByteArray.empty []) j)
 (terms x_6.1.2.2.1.2) ∧ Is (terms x.2.1) (terms x_6.1.2.2.2.1) ∧ Is (ints x.2.2.1) (ints x_6.1.2.2.2.2.1) ∧ x.2.2.2.1 = x_6.1.2.2.2.2.2.1 ∧ x.2.2.2.2.1 = x_6.1.2.2.2.2.2.2 ∧ True) ∧ (y.1.1 = x_6.2.1.1 ∧ Is (terms y.1.2) (terms x_6.2.1.2) ∧ True) ∧ y_3 = x_6.2.2 ∧ True) ∧ True) ∧ ∀ (y : List Pl.Tm × List Int),
 Pl.PutB x_6.1.2.2.2.1 (Pl.Tree.mk x_6.2.1.1 x_6.2.1.2)
 (x_6.1.2.2.2.1.length + (1 : Nat)) y.1 y.2 →
 Exists fun (x' : Int × List Pl.Tm × List Int × Int × Bool × Int) =>
 ((0 : Int) ≤ x'.1 ∧ x'.1 ≤ (3 : Int) ∧ (↑x'.2.1.length : Int) + x'.1 ≤ (3 : Int) ∧ x'.2.2.1.length = x'.2.1.length ∧ (∀ (t : Pl.Tm), t ∈ x'.2.1 → Pl.costT t ≤ (400 : Nat)) ∧ p ≤ x'.2.2.2.2.2 ∧ x'.2.2.2.2.2 + (100 : Int) * x'.1 ≤ p + (310 : Int)) ∧ x'.1.toNat < x.1.toNat ∧ ((0 : Nat) = (0 : Nat) ∧ (0 : Nat) = (0 : Nat) ∧ (0 : Nat) = (0 : Nat) ∧ (0 : Nat) = (0 : Nat) ∧ IntKind.i64.wrap (x.1 - (1 : Int)) = x'.1 ∧ True) ∧ (Is (byts x_5.1) (byts b) ∧ x_5.2.1 + (1 : Int) = x'.2.2.2.2.2 ∧ True) ∧ (Is (syms s) (syms s) ∧ True) ∧ ((0 : Int) = (0 : Int) ∧ ByteArray.empty = ByteArray.empty ∧ Is (AV.lit (0 : Nat) (1 : Nat) fun (x x_7 : Nat) => AV.any) nilA ∧ ByteArray.empty = ByteArray.empty ∧ Is (AV.lit (0 : Nat) (1 : Nat) fun (x x_7 : Nat) => AV.any)
 nilA ∧ Is (AV.lit (0 : Nat) (1 : Nat) fun (x x_7 : Nat) => AV.any)
 nilA ∧ Is (AV.lit (0 : Nat) (1 : Nat) fun (x x_7 : Nat) => AV.any)
 nilA ∧ (0 : Int) = (0 : Int) ∧ false = false ∧ True) ∧ ((x_6.1.1, Pl.noTP, Pl.noTP, y.1, y.2, x_6.1.2.2.2.2.2.1,
 x_6.1.2.2.2.2.2.2).1 =
 (2 : Int) ∧ ByteArray.mk #[] = ByteArray.empty ∧ Is
 (AV.sl ((0 : Nat)) (2 : Nat) fun (i j : Nat) =>
 eT (Pl.Tree.mk ByteArray.empty []) j)
 (terms []) ∧ ByteArray.mk #[] = ByteArray.empty ∧ Is
 (AV.sl ((0 : Nat)) (2 : Nat) fun (i j : Nat) =>
 eT (Pl.Tree.mk ByteArray.empty []) j)
 (terms []) ∧ ((0 : Nat) = (0 : Nat) ∧ (y.1, y.2, x_6.1.2.2.2.2.2.1,
 x_6.1.2.2.2.2.2.2).1.length =
 x'.2.1.length) ∧ ((0 : Nat) = (0 : Nat) ∧ (y.2, x_6.1.2.2.2.2.2.1,
 x_6.1.2.2.2.2.2.2).1.length =
 x'.2.2.1.length) ∧ (x_6.1.2.2.2.2.2.1,
 x_6.1.2.2.2.2.2.2).1 =
 x'.2.2.2.1 ∧ (x_6.1.2.2.2.2.2.1,
 x_6.1.2.2.2.2.2.2).2 =
 x'.2.2.2.2.1 ∧ True) ∧ IsO (arT y.1) (arT x'.2.1) ∧ IsO (arI y.2) (arI x'.2.2.1) ∧ True) ∧ ∃ x_4 : AX,
 (Rd (137438953472 : Int) x_4.1 x_4.2.1 ∧ x_4.2.1 + (↑(Pl.CB x_4.2.2.2.2.toNat) : Int) ≤ (137438953472 : Int) ∧ Pl.SgB (5 : Nat) (2 : Nat) x_4.2.2.1 ∧ x_4.2.2.2.2 ≤ (4 : Int)) ∧ (((0 : Nat) = (0 : Nat) ∧ (Is (syms s) (syms x_4.2.2.1) ∧ True) ∧ (1 : Int) = x_4.2.2.2.1 ∧ y = x_4.2.2.2.2 ∧ True) ∧ (Is (byts x_3.1) (byts x_4.1) ∧ x_3.2.1 + (1 : Int) = x_4.2.1 ∧ True) ∧ True) ∧ ∀ (y : Pl.TP × Int),
 Pl.TmB (Pl.CB x_4.2.2.2.2.toNat) y.1 ∧ x_4.2.1 ≤ y.2 ∧ y.2 ≤ x_4.2.1 + (↑(Pl.CB x_4.2.2.2.2.toNat) : Int) →
 (∃ x_5 : List Int × Int × List Int,
 (Rd (1099511627776 : Int) x_5.1 x_5.2.1 ∧ x_5.2.2 ≠ [] ∧ Sz x_5.2.2) ∧ (((0 : Nat) = (0 : Nat) ∧ Is
 (AV.lit (6 : Nat) (1 : Nat)
 (rowsCell
 [[i64 (1 : Int)], [i64 (-1 : Int)], [i64 (1 : Int)], [i64 (-1 : Int)], [i64 (2 : Int)],
 [i64 (-2 : Int)]]))
 (ints x_5.2.2) ∧ True) ∧ (Is (byts x_4.1) (byts x_5.1) ∧ y.2 = x_5.2.1 ∧ True) ∧ True) ∧ ∀ (y_3 : Int),
 y_3 ∈ x_5.2.2 →
 (0 : Nat) + x.2.1.length ≤ x.2.1.length ∧ (0 : Nat) + x.2.2.1.length ≤ x.2.2.1.length ∧ (0 : Nat) + y.1.2.length ≤ y.1.2.length ∧ ∃ x_6 : Pl.Atm × Pl.TP × Int,
 (SmA x_6.1 ∧ SmT (Pl.Tree.mk x_6.2.1.1 x_6.2.1.2) ∧ x_6.1.2.2.2.1.length ≤ (100 : Nat) ∧ x_6.1.2.2.2.2.1.length = x_6.1.2.2.2.1.length) ∧ ((((2 : Int) = x_6.1.1 ∧ ByteArray.empty = x_6.1.2.1.1 ∧ Is
 (AV.sl ((0 : Nat)) (2 : Nat) fun (i j : Nat) =>
 eT (Pl.Tree.mk ByteArray.empty []) j)
 (terms x_6.1.2.1.2) ∧ ByteArray.empty = x_6.1.2.2.1.1 ∧ Is
 (AV.sl ((0 : Nat)) (2 : Nat) fun (i j : Nat) =>
 eT (Pl.Tree.mk ByteArray.empty []) j)
 (terms x_6.1.2.2.1.2) ∧ Is (terms x.2.1) (terms x_6.1.2.2.2.1) ∧ Is (ints x.2.2.1) (ints x_6.1.2.2.2.2.1) ∧ x.2.2.2.1 = x_6.1.2.2.2.2.2.1 ∧ x.2.2.2.2.1 = x_6.1.2.2.2.2.2.2 ∧ True) ∧ (y.1.1 = x_6.2.1.1 ∧ Is (terms y.1.2) (terms x_6.2.1.2) ∧ True) ∧ y_3 = x_6.2.2 ∧ True) ∧ True) ∧ ∀ (y : List Pl.Tm × List Int),
 Pl.PutB x_6.1.2.2.2.1 (Pl.Tree.mk x_6.2.1.1 x_6.2.1.2)
 (x_6.1.2.2.2.1.length + (1 : Nat)) y.1 y.2 →
 Exists fun (x' : Int × List Pl.Tm × List Int × Int × Bool × Int) =>
 ((0 : Int) ≤ x'.1 ∧ x'.1 ≤ (3 : Int) ∧ (↑x'.2.1.length : Int) + x'.1 ≤ (3 : Int) ∧ x'.2.2.1.length = x'.2.1.length ∧ (∀ (t : Pl.Tm), t ∈ x'.2.1 → Pl.costT t ≤ (400 : Nat)) ∧ p ≤ x'.2.2.2.2.2 ∧ x'.2.2.2.2.2 + (100 : Int) * x'.1 ≤ p + (310 : Int)) ∧ x'.1.toNat < x.1.toNat ∧ ((0 : Nat) = (0 : Nat) ∧ (0 : Nat) = (0 : Nat) ∧ (0 : Nat) = (0 : Nat) ∧ (0 : Nat) = (0 : Nat) ∧ IntKind.i64.wrap (x.1 - (1 : Int)) = x'.1 ∧ True) ∧ (Is (byts x_5.1) (byts b) ∧ x_5.2.1 + (1 : Int) = x'.2.2.2.2.2 ∧ True) ∧ (Is (syms s) (syms s) ∧ True) ∧ ((0 : Int) = (0 : Int) ∧ ByteArray.empty = ByteArray.empty ∧ Is (AV.lit (0 : Nat) (1 : Nat) fun (x x_7 : Nat) => AV.any)
 nilA ∧ ByteArray.empty = ByteArray.empty ∧ Is (AV.lit (0 : Nat) (1 : Nat) fun (x x_7 : Nat) => AV.any)
 nilA ∧ Is (AV.lit (0 : Nat) (1 : Nat) fun (x x_7 : Nat) => AV.any)
 nilA ∧ Is (AV.lit (0 : Nat) (1 : Nat) fun (x x_7 : Nat) => AV.any)
 nilA ∧ (0 : Int) = (0 : Int) ∧ false = false ∧ True) ∧ ((x_6.1.1, Pl.noTP, Pl.noTP, y.1, y.2, x_6.1.2.2.2.2.2.1,
 x_6.1.2.2.2.2.2.2).1 =
 (2 : Int) ∧ ByteArray.mk #[] = ByteArray.empty ∧ Is
 (AV.sl ((0 : Nat)) (2 : Nat) fun (i j : Nat) =>
 eT (Pl.Tree.mk ByteArray.empty []) j)
 (terms []) ∧ ByteArray.mk #[] = ByteArray.empty ∧ Is
 (AV.sl ((0 : Nat)) (2 : Nat) fun (i j : Nat) =>
 eT (Pl.Tree.mk ByteArray.empty []) j)
 (terms []) ∧ ((0 : Nat) = (0 : Nat) ∧ (y.1, y.2, x_6.1.2.2.2.2.2.1,
 x_6.1.2.2.2.2.2.2).1.length =
 x'.2.1.length) ∧ ((0 : Nat) = (0 : Nat) ∧ (y.2, x_6.1.2.2.2.2.2.1,
 x_6.1.2.2.2.2.2.2).1.length =
 x'.2.2.1.length) ∧ (x_6.1.2.2.2.2.2.1,
 x_6.1.2.2.2.2.2.2).1 =
 x'.2.2.2.1 ∧ (x_6.1.2.2.2.2.2.1,
 x_6.1.2.2.2.2.2.2).2 =
 x'.2.2.2.2.1 ∧ True) ∧ IsO (arT y.1) (arT x'.2.1) ∧ IsO (arI y.2) (arI x'.2.2.1) ∧ True) ∧ ∃ x_5 : List Int × Int × List Int,
 (Rd (1099511627776 : Int) x_5.1 x_5.2.1 ∧ x_5.2.2 ≠ [] ∧ Sz x_5.2.2) ∧ (((0 : Nat) = (0 : Nat) ∧ Is
 (AV.lit (6 : Nat) (1 : Nat)
 (rowsCell
 [[i64 (1 : Int)], [i64 (-1 : Int)], [i64 (1 : Int)], [i64 (-1 : Int)], [i64 (2 : Int)],
 [i64 (-2 : Int)]]))
 (ints x_5.2.2) ∧ True) ∧ (Is (byts x_4.1) (byts x_5.1) ∧ y.2 = x_5.2.1 ∧ True) ∧ True) ∧ ∀ (y_3 : Int),
 y_3 ∈ x_5.2.2 →
 (0 : Nat) + x.2.1.length ≤ x.2.1.length ∧ (0 : Nat) + x.2.2.1.length ≤ x.2.2.1.length ∧ (0 : Nat) + y.1.2.length ≤ y.1.2.length ∧ ∃ x_6 : Pl.Atm × Pl.TP × Int,
 (SmA x_6.1 ∧ SmT (Pl.Tree.mk x_6.2.1.1 x_6.2.1.2) ∧ x_6.1.2.2.2.1.length ≤ (100 : Nat) ∧ x_6.1.2.2.2.2.1.length = x_6.1.2.2.2.1.length) ∧ ((((2 : Int) = x_6.1.1 ∧ ByteArray.empty = x_6.1.2.1.1 ∧ Is
 (AV.sl ((0 : Nat)) (2 : Nat) fun (i j : Nat) =>
 eT (Pl.Tree.mk ByteArray.empty []) j)
 (terms x_6.1.2.1.2) ∧ ByteArray.empty = x_6.1.2.2.1.1 ∧ Is
 (AV.sl ((0 : Nat)) (2 : Nat) fun (i j : Nat) =>
 eT (Pl.Tree.mk ByteArray.empty []) j)
 (terms x_6.1.2.2.1.2) ∧ Is (terms x.2.1) (terms x_6.1.2.2.2.1) ∧ Is (ints x.2.2.1) (ints x_6.1.2.2.2.2.1) ∧ x.2.2.2.1 = x_6.1.2.2.2.2.2.1 ∧ x.2.2.2.2.1 = x_6.1.2.2.2.2.2.2 ∧ True) ∧ (y.1.1 = x_6.2.1.1 ∧ Is (terms y.1.2) (terms x_6.2.1.2) ∧ True) ∧ y_3 = x_6.2.2 ∧ True) ∧ True) ∧ ∀ (y : List Pl.Tm × List Int),
 Pl.PutB x_6.1.2.2.2.1 (Pl.Tree.mk x_6.2.1.1 x_6.2.1.2)
 (x_6.1.2.2.2.1.length + (1 : Nat)) y.1 y.2 →
 Exists fun (x' : Int × List Pl.Tm × List Int × Int × Bool × Int) =>
 ((0 : Int) ≤ x'.1 ∧ x'.1 ≤ (3 : Int) ∧ (↑x'.2.1.length : Int) + x'.1 ≤ (3 : Int) ∧ x'.2.2.1.length = x'.2.1.length ∧ (∀ (t : Pl.Tm), t ∈ x'.2.1 → Pl.costT t ≤ (400 : Nat)) ∧ p ≤ x'.2.2.2.2.2 ∧ x'.2.2.2.2.2 + (100 : Int) * x'.1 ≤ p + (310 : Int)) ∧ x'.1.toNat < x.1.toNat ∧ ((0 : Nat) = (0 : Nat) ∧ (0 : Nat) = (0 : Nat) ∧ (0 : Nat) = (0 : Nat) ∧ (0 : Nat) = (0 : Nat) ∧ IntKind.i64.wrap (x.1 - (1 : Int)) = x'.1 ∧ True) ∧ (Is (byts x_5.1) (byts b) ∧ x_5.2.1 + (1 : Int) = x'.2.2.2.2.2 ∧ True) ∧ (Is (syms s) (syms s) ∧ True) ∧ ((0 : Int) = (0 : Int) ∧ ByteArray.empty = ByteArray.empty ∧ Is (AV.lit (0 : Nat) (1 : Nat) fun (x x_7 : Nat) => AV.any)
 nilA ∧ ByteArray.empty = ByteArray.empty ∧ Is (AV.lit (0 : Nat) (1 : Nat) fun (x x_7 : Nat) => AV.any)
 nilA ∧ Is (AV.lit (0 : Nat) (1 : Nat) fun (x x_7 : Nat) => AV.any)
 nilA ∧ Is (AV.lit (0 : Nat) (1 : Nat) fun (x x_7 : Nat) => AV.any)
 nilA ∧ (0 : Int) = (0 : Int) ∧ false = false ∧ True) ∧ ((x_6.1.1, Pl.noTP, Pl.noTP, y.1, y.2, x_6.1.2.2.2.2.2.1,
 x_6.1.2.2.2.2.2.2).1 =
 (2 : Int) ∧ ByteArray.mk #[] = ByteArray.empty ∧ Is
 (AV.sl ((0 : Nat)) (2 : Nat) fun (i j : Nat) =>
 eT (Pl.Tree.mk ByteArray.empty []) j)
 (terms []) ∧ ByteArray.mk #[] = ByteArray.empty ∧ Is
 (AV.sl ((0 : Nat)) (2 : Nat) fun (i j : Nat) =>
 eT (Pl.Tree.mk ByteArray.empty []) j)
 (terms []) ∧ ((0 : Nat) = (0 : Nat) ∧ (y.1, y.2, x_6.1.2.2.2.2.2.1,
 x_6.1.2.2.2.2.2.2).1.length =
 x'.2.1.length) ∧ ((0 : Nat) = (0 : Nat) ∧ (y.2, x_6.1.2.2.2.2.2.1,
 x_6.1.2.2.2.2.2.2).1.length =
 x'.2.2.1.length) ∧ (x_6.1.2.2.2.2.2.1,
 x_6.1.2.2.2.2.2.2).1 =
 x'.2.2.2.1 ∧ (x_6.1.2.2.2.2.2.1,
 x_6.1.2.2.2.2.2.2).2 =
 x'.2.2.2.2.1 ∧ True) ∧ IsO (arT y.1) (arT x'.2.1) ∧ IsO (arI y.2) (arI x'.2.2.1) ∧ True) ∧ ∃ x_3 : List Int × Int × List Int,
 (Rd (1099511627776 : Int) x_3.1 x_3.2.1 ∧ x_3.2.2 ≠ [] ∧ Sz x_3.2.2) ∧ (((0 : Nat) = (0 : Nat) ∧ Is (AV.lit (3 : Nat) (1 : Nat) (rowsCell [[i64 (1 : Int)], [i64 (1 : Int)], [i64 (2 : Int)]])) (ints x_3.2.2) ∧ True) ∧ (Is (byts b) (byts x_3.1) ∧ x.2.2.2.2.2 = x_3.2.1 ∧ True) ∧ True) ∧ ∀ (y : Int),
 y ∈ x_3.2.2 →
 (∃ x_4 : AX,
 (Rd (137438953472 : Int) x_4.1 x_4.2.1 ∧ x_4.2.1 + (↑(Pl.CB x_4.2.2.2.2.toNat) : Int) ≤ (137438953472 : Int) ∧ Pl.SgB (5 : Nat) (2 : Nat) x_4.2.2.1 ∧ x_4.2.2.2.2 ≤ (4 : Int)) ∧ (((0 : Nat) = (0 : Nat) ∧ (Is (syms s) (syms x_4.2.2.1) ∧ True) ∧ (1 : Int) = x_4.2.2.2.1 ∧ y = x_4.2.2.2.2 ∧ True) ∧ (Is (byts x_3.1) (byts x_4.1) ∧ x_3.2.1 + (1 : Int) = x_4.2.1 ∧ True) ∧ True) ∧ ∀ (y : Pl.TP × Int),
 Pl.TmB (Pl.CB x_4.2.2.2.2.toNat) y.1 ∧ x_4.2.1 ≤ y.2 ∧ y.2 ≤ x_4.2.1 + (↑(Pl.CB x_4.2.2.2.2.toNat) : Int) →
 ∃ x_5 : List Int × Int × List Int,
 (Rd (1099511627776 : Int) x_5.1 x_5.2.1 ∧ x_5.2.2 ≠ [] ∧ Sz x_5.2.2) ∧ (((0 : Nat) = (0 : Nat) ∧ Is
 (AV.lit (6 : Nat) (1 : Nat)
 (rowsCell
 [[i64 (1 : Int)], [i64 (-1 : Int)], [i64 (1 : Int)], [i64 (-1 : Int)], [i64 (2 : Int)],
 [i64 (-2 : Int)]]))
 (ints x_5.2.2) ∧ True) ∧ (Is (byts x_4.1) (byts x_5.1) ∧ y.2 = x_5.2.1 ∧ True) ∧ True) ∧ ∀ (y_3 : Int),
 y_3 ∈ x_5.2.2 →
 (0 : Nat) + x.2.1.length ≤ x.2.1.length ∧ (0 : Nat) + x.2.2.1.length ≤ x.2.2.1.length ∧ (0 : Nat) + y.1.2.length ≤ y.1.2.length ∧ ∃ x_6 : Pl.Atm × Pl.TP × Int,
 (SmA x_6.1 ∧ SmT (Pl.Tree.mk x_6.2.1.1 x_6.2.1.2) ∧ x_6.1.2.2.2.1.length ≤ (100 : Nat) ∧ x_6.1.2.2.2.2.1.length = x_6.1.2.2.2.1.length) ∧ ((((2 : Int) = x_6.1.1 ∧ ByteArray.empty = x_6.1.2.1.1 ∧ Is
 (AV.sl ((0 : Nat)) (2 : Nat) fun (i j : Nat) =>
 eT (Pl.Tree.mk ByteArray.empty []) j)
 (terms x_6.1.2.1.2) ∧ ByteArray.empty = x_6.1.2.2.1.1 ∧ Is
 (AV.sl ((0 : Nat)) (2 : Nat) fun (i j : Nat) =>
 eT (Pl.Tree.mk ByteArray.empty []) j)
 (terms x_6.1.2.2.1.2) ∧ Is (terms x.2.1) (terms x_6.1.2.2.2.1) ∧ Is (ints x.2.2.1) (ints x_6.1.2.2.2.2.1) ∧ x.2.2.2.1 = x_6.1.2.2.2.2.2.1 ∧ x.2.2.2.2.1 = x_6.1.2.2.2.2.2.2 ∧ True) ∧ (y.1.1 = x_6.2.1.1 ∧ Is (terms y.1.2) (terms x_6.2.1.2) ∧ True) ∧ y_3 = x_6.2.2 ∧ True) ∧ True) ∧ ∀ (y : List Pl.Tm × List Int),
 Pl.PutB x_6.1.2.2.2.1 (Pl.Tree.mk x_6.2.1.1 x_6.2.1.2)
 (x_6.1.2.2.2.1.length + (1 : Nat)) y.1 y.2 →
 Exists fun (x' : Int × List Pl.Tm × List Int × Int × Bool × Int) =>
 ((0 : Int) ≤ x'.1 ∧ x'.1 ≤ (3 : Int) ∧ (↑x'.2.1.length : Int) + x'.1 ≤ (3 : Int) ∧ x'.2.2.1.length = x'.2.1.length ∧ (∀ (t : Pl.Tm), t ∈ x'.2.1 → Pl.costT t ≤ (400 : Nat)) ∧ p ≤ x'.2.2.2.2.2 ∧ x'.2.2.2.2.2 + (100 : Int) * x'.1 ≤ p + (310 : Int)) ∧ x'.1.toNat < x.1.toNat ∧ ((0 : Nat) = (0 : Nat) ∧ (0 : Nat) = (0 : Nat) ∧ (0 : Nat) = (0 : Nat) ∧ (0 : Nat) = (0 : Nat) ∧ IntKind.i64.wrap (x.1 - (1 : Int)) = x'.1 ∧ True) ∧ (Is (byts x_5.1) (byts b) ∧ x_5.2.1 + (1 : Int) = x'.2.2.2.2.2 ∧ True) ∧ (Is (syms s) (syms s) ∧ True) ∧ ((0 : Int) = (0 : Int) ∧ ByteArray.empty = ByteArray.empty ∧ Is (AV.lit (0 : Nat) (1 : Nat) fun (x x_7 : Nat) => AV.any) nilA ∧ ByteArray.empty = ByteArray.empty ∧ Is (AV.lit (0 : Nat) (1 : Nat) fun (x x_7 : Nat) => AV.any)
 nilA ∧ Is (AV.lit (0 : Nat) (1 : Nat) fun (x x_7 : Nat) => AV.any)
 nilA ∧ Is (AV.lit (0 : Nat) (1 : Nat) fun (x x_7 : Nat) => AV.any)
 nilA ∧ (0 : Int) = (0 : Int) ∧ false = false ∧ True) ∧ ((x_6.1.1, Pl.noTP, Pl.noTP, y.1, y.2, x_6.1.2.2.2.2.2.1,
 x_6.1.2.2.2.2.2.2).1 =
 (2 : Int) ∧ ByteArray.mk #[] = ByteArray.empty ∧ Is
 (AV.sl ((0 : Nat)) (2 : Nat) fun (i j : Nat) =>
 eT (Pl.Tree.mk ByteArray.empty []) j)
 (terms []) ∧ ByteArray.mk #[] = ByteArray.empty ∧ Is
 (AV.sl ((0 : Nat)) (2 : Nat) fun (i j : Nat) =>
 eT (Pl.Tree.mk ByteArray.empty []) j)
 (terms []) ∧ ((0 : Nat) = (0 : Nat) ∧ (y.1, y.2, x_6.1.2.2.2.2.2.1,
 x_6.1.2.2.2.2.2.2).1.length =
 x'.2.1.length) ∧ ((0 : Nat) = (0 : Nat) ∧ (y.2, x_6.1.2.2.2.2.2.1,
 x_6.1.2.2.2.2.2.2).1.length =
 x'.2.2.1.length) ∧ (x_6.1.2.2.2.2.2.1,
 x_6.1.2.2.2.2.2.2).1 =
 x'.2.2.2.1 ∧ (x_6.1.2.2.2.2.2.1,
 x_6.1.2.2.2.2.2.2).2 =
 x'.2.2.2.2.1 ∧ True) ∧ IsO (arT y.1) (arT x'.2.1) ∧ IsO (arI y.2) (arI x'.2.2.1) ∧ True) ∧ (∃ x_4 : AX,
 (Rd (137438953472 : Int) x_4.1 x_4.2.1 ∧ x_4.2.1 + (↑(Pl.CB x_4.2.2.2.2.toNat) : Int) ≤ (137438953472 : Int) ∧ Pl.SgB (5 : Nat) (2 : Nat) x_4.2.2.1 ∧ x_4.2.2.2.2 ≤ (4 : Int)) ∧ (((0 : Nat) = (0 : Nat) ∧ (Is (syms s) (syms x_4.2.2.1) ∧ True) ∧ (1 : Int) = x_4.2.2.2.1 ∧ y = x_4.2.2.2.2 ∧ True) ∧ (Is (byts x_3.1) (byts x_4.1) ∧ x_3.2.1 + (1 : Int) = x_4.2.1 ∧ True) ∧ True) ∧ ∀ (y : Pl.TP × Int),
 Pl.TmB (Pl.CB x_4.2.2.2.2.toNat) y.1 ∧ x_4.2.1 ≤ y.2 ∧ y.2 ≤ x_4.2.1 + (↑(Pl.CB x_4.2.2.2.2.toNat) : Int) →
 ∃ x_5 : List Int × Int × List Int,
 (Rd (1099511627776 : Int) x_5.1 x_5.2.1 ∧ x_5.2.2 ≠ [] ∧ Sz x_5.2.2) ∧ (((0 : Nat) = (0 : Nat) ∧ Is
 (AV.lit (6 : Nat) (1 : Nat)
 (rowsCell
 [[i64 (1 : Int)], [i64 (-1 : Int)], [i64 (1 : Int)], [i64 (-1 : Int)], [i64 (2 : Int)],
 [i64 (-2 : Int)]]))
 (ints x_5.2.2) ∧ True) ∧ (Is (byts x_4.1) (byts x_5.1) ∧ y.2 = x_5.2.1 ∧ True) ∧ True) ∧ ∀ (y_3 : Int),
 y_3 ∈ x_5.2.2 →
 (0 : Nat) + x.2.1.length ≤ x.2.1.length ∧ (0 : Nat) + x.2.2.1.length ≤ x.2.2.1.length ∧ (0 : Nat) + y.1.2.length ≤ y.1.2.length ∧ ∃ x_6 : Pl.Atm × Pl.TP × Int,
 (SmA x_6.1 ∧ SmT (Pl.Tree.mk x_6.2.1.1 x_6.2.1.2) ∧ x_6.1.2.2.2.1.length ≤ (100 : Nat) ∧ x_6.1.2.2.2.2.1.length = x_6.1.2.2.2.1.length) ∧ ((((2 : Int) = x_6.1.1 ∧ ByteArray.empty = x_6.1.2.1.1 ∧ Is
 (AV.sl ((0 : Nat)) (2 : Nat) fun (i j : Nat) =>
 eT (Pl.Tree.mk ByteArray.empty []) j)
 (terms x_6.1.2.1.2) ∧ ByteArray.empty = x_6.1.2.2.1.1 ∧ Is
 (AV.sl ((0 : Nat)) (2 : Nat) fun (i j : Nat) =>
 eT (Pl.Tree.mk ByteArray.empty []) j)
 (terms x_6.1.2.2.1.2) ∧ Is (terms x.2.1) (terms x_6.1.2.2.2.1) ∧ Is (ints x.2.2.1) (ints x_6.1.2.2.2.2.1) ∧ x.2.2.2.1 = x_6.1.2.2.2.2.2.1 ∧ x.2.2.2.2.1 = x_6.1.2.2.2.2.2.2 ∧ True) ∧ (y.1.1 = x_6.2.1.1 ∧ Is (terms y.1.2) (terms x_6.2.1.2) ∧ True) ∧ y_3 = x_6.2.2 ∧ True) ∧ True) ∧ ∀ (y : List Pl.Tm × List Int),
 Pl.PutB x_6.1.2.2.2.1 (Pl.Tree.mk x_6.2.1.1 x_6.2.1.2)
 (x_6.1.2.2.2.1.length + (1 : Nat)) y.1 y.2 →
 Exists fun (x' : Int × List Pl.Tm × List Int × Int × Bool × Int) =>
 ((0 : Int) ≤ x'.1 ∧ x'.1 ≤ (3 : Int) ∧ (↑x'.2.1.length : Int) + x'.1 ≤ (3 : Int) ∧ x'.2.2.1.length = x'.2.1.length ∧ (∀ (t : Pl.Tm), t ∈ x'.2.1 → Pl.costT t ≤ (400 : Nat)) ∧ p ≤ x'.2.2.2.2.2 ∧ x'.2.2.2.2.2 + (100 : Int) * x'.1 ≤ p + (310 : Int)) ∧ x'.1.toNat < x.1.toNat ∧ ((0 : Nat) = (0 : Nat) ∧ (0 : Nat) = (0 : Nat) ∧ (0 : Nat) = (0 : Nat) ∧ (0 : Nat) = (0 : Nat) ∧ IntKind.i64.wrap (x.1 - (1 : Int)) = x'.1 ∧ True) ∧ (Is (byts x_5.1) (byts b) ∧ x_5.2.1 + (1 : Int) = x'.2.2.2.2.2 ∧ True) ∧ (Is (syms s) (syms s) ∧ True) ∧ ((0 : Int) = (0 : Int) ∧ ByteArray.empty = ByteArray.empty ∧ Is (AV.lit (0 : Nat) (1 : Nat) fun (x x_7 : Nat) => AV.any) nilA ∧ ByteArray.empty = ByteArray.empty ∧ Is (AV.lit (0 : Nat) (1 : Nat) fun (x x_7 : Nat) => AV.any)
 nilA ∧ Is (AV.lit (0 : Nat) (1 : Nat) fun (x x_7 : Nat) => AV.any)
 nilA ∧ Is (AV.lit (0 : Nat) (1 : Nat) fun (x x_7 : Nat) => AV.any)
 nilA ∧ (0 : Int) = (0 : Int) ∧ false = false ∧ True) ∧ ((x_6.1.1, Pl.noTP, Pl.noTP, y.1, y.2, x_6.1.2.2.2.2.2.1,
 x_6.1.2.2.2.2.2.2).1 =
 (2 : Int) ∧ ByteArray.mk #[] = ByteArray.empty ∧ Is
 (AV.sl ((0 : Nat)) (2 : Nat) fun (i j : Nat) =>
 eT (Pl.Tree.mk ByteArray.empty []) j)
 (terms []) ∧ ByteArray.mk #[] = ByteArray.empty ∧ Is
 (AV.sl ((0 : Nat)) (2 : Nat) fun (i j : Nat) =>
 eT (Pl.Tree.mk ByteArray.empty []) j)
 (terms []) ∧ ((0 : Nat) = (0 : Nat) ∧ (y.1, y.2, x_6.1.2.2.2.2.2.1,
 x_6.1.2.2.2.2.2.2).1.length =
 x'.2.1.length) ∧ ((0 : Nat) = (0 : Nat) ∧ (y.2, x_6.1.2.2.2.2.2.1,
 x_6.1.2.2.2.2.2.2).1.length =
 x'.2.2.1.length) ∧ (x_6.1.2.2.2.2.2.1,
 x_6.1.2.2.2.2.2.2).1 =
 x'.2.2.2.1 ∧ (x_6.1.2.2.2.2.2.1,
 x_6.1.2.2.2.2.2.2).2 =
 x'.2.2.2.2.1 ∧ True) ∧ IsO (arT y.1) (arT x'.2.1) ∧ IsO (arI y.2) (arI x'.2.2.1) ∧ True) ∧ ∃ x_4 : AX,
 (Rd (137438953472 : Int) x_4.1 x_4.2.1 ∧ x_4.2.1 + (↑(Pl.CB x_4.2.2.2.2.toNat) : Int) ≤ (137438953472 : Int) ∧ Pl.SgB (5 : Nat) (2 : Nat) x_4.2.2.1 ∧ x_4.2.2.2.2 ≤ (4 : Int)) ∧ (((0 : Nat) = (0 : Nat) ∧ (Is (syms s) (syms x_4.2.2.1) ∧ True) ∧ (1 : Int) = x_4.2.2.2.1 ∧ y = x_4.2.2.2.2 ∧ True) ∧ (Is (byts x_3.1) (byts x_4.1) ∧ x_3.2.1 + (1 : Int) = x_4.2.1 ∧ True) ∧ True) ∧ ∀ (y : Pl.TP × Int),
 Pl.TmB (Pl.CB x_4.2.2.2.2.toNat) y.1 ∧ x_4.2.1 ≤ y.2 ∧ y.2 ≤ x_4.2.1 + (↑(Pl.CB x_4.2.2.2.2.toNat) : Int) →
 (∃ x_5 : List Int × Int × List Int,
 (Rd (1099511627776 : Int) x_5.1 x_5.2.1 ∧ x_5.2.2 ≠ [] ∧ Sz x_5.2.2) ∧ (((0 : Nat) = (0 : Nat) ∧ Is
 (AV.lit (6 : Nat) (1 : Nat)
 (rowsCell
 [[i64 (1 : Int)], [i64 (-1 : Int)], [i64 (1 : Int)], [i64 (-1 : Int)], [i64 (2 : Int)],
 [i64 (-2 : Int)]]))
 (ints x_5.2.2) ∧ True) ∧ (Is (byts x_4.1) (byts x_5.1) ∧ y.2 = x_5.2.1 ∧ True) ∧ True) ∧ ∀ (y_3 : Int),
 y_3 ∈ x_5.2.2 →
 (0 : Nat) + x.2.1.length ≤ x.2.1.length ∧ (0 : Nat) + x.2.2.1.length ≤ x.2.2.1.length ∧ (0 : Nat) + y.1.2.length ≤ y.1.2.length ∧ ∃ x_6 : Pl.Atm × Pl.TP × Int,
 (SmA x_6.1 ∧ SmT (Pl.Tree.mk x_6.2.1.1 x_6.2.1.2) ∧ x_6.1.2.2.2.1.length ≤ (100 : Nat) ∧ x_6.1.2.2.2.2.1.length = x_6.1.2.2.2.1.length) ∧ ((((2 : Int) = x_6.1.1 ∧ ByteArray.empty = x_6.1.2.1.1 ∧ Is
 (AV.sl ((0 : Nat)) (2 : Nat) fun (i j : Nat) =>
 eT (Pl.Tree.mk ByteArray.empty []) j)
 (terms x_6.1.2.1.2) ∧ ByteArray.empty = x_6.1.2.2.1.1 ∧ Is
 (AV.sl ((0 : Nat)) (2 : Nat) fun (i j : Nat) =>
 eT (Pl.Tree.mk ByteArray.empty []) j)
 (terms x_6.1.2.2.1.2) ∧ Is (terms x.2.1) (terms x_6.1.2.2.2.1) ∧ Is (ints x.2.2.1) (ints x_6.1.2.2.2.2.1) ∧ x.2.2.2.1 = x_6.1.2.2.2.2.2.1 ∧ x.2.2.2.2.1 = x_6.1.2.2.2.2.2.2 ∧ True) ∧ (y.1.1 = x_6.2.1.1 ∧ Is (terms y.1.2) (terms x_6.2.1.2) ∧ True) ∧ y_3 = x_6.2.2 ∧ True) ∧ True) ∧ ∀ (y : List Pl.Tm × List Int),
 Pl.PutB x_6.1.2.2.2.1 (Pl.Tree.mk x_6.2.1.1 x_6.2.1.2)
 (x_6.1.2.2.2.1.length + (1 : Nat)) y.1 y.2 →
 Exists fun (x' : Int × List Pl.Tm × List Int × Int × Bool × Int) =>
 ((0 : Int) ≤ x'.1 ∧ x'.1 ≤ (3 : Int) ∧ (↑x'.2.1.length : Int) + x'.1 ≤ (3 : Int) ∧ x'.2.2.1.length = x'.2.1.length ∧ (∀ (t : Pl.Tm), t ∈ x'.2.1 → Pl.costT t ≤ (400 : Nat)) ∧ p ≤ x'.2.2.2.2.2 ∧ x'.2.2.2.2.2 + (100 : Int) * x'.1 ≤ p + (310 : Int)) ∧ x'.1.toNat < x.1.toNat ∧ ((0 : Nat) = (0 : Nat) ∧ (0 : Nat) = (0 : Nat) ∧ (0 : Nat) = (0 : Nat) ∧ (0 : Nat) = (0 : Nat) ∧ IntKind.i64.wrap (x.1 - (1 : Int)) = x'.1 ∧ True) ∧ (Is (byts x_5.1) (byts b) ∧ x_5.2.1 + (1 : Int) = x'.2.2.2.2.2 ∧ True) ∧ (Is (syms s) (syms s) ∧ True) ∧ ((0 : Int) = (0 : Int) ∧ ByteArray.empty = ByteArray.empty ∧ Is (AV.lit (0 : Nat) (1 : Nat) fun (x x_7 : Nat) => AV.any)
 nilA ∧ ByteArray.empty = ByteArray.empty ∧ Is (AV.lit (0 : Nat) (1 : Nat) fun (x x_7 : Nat) => AV.any)
 nilA ∧ Is (AV.lit (0 : Nat) (1 : Nat) fun (x x_7 : Nat) => AV.any)
 nilA ∧ Is (AV.lit (0 : Nat) (1 : Nat) fun (x x_7 : Nat) => AV.any)
 nilA ∧ (0 : Int) = (0 : Int) ∧ false = false ∧ True) ∧ ((x_6.1.1, Pl.noTP, Pl.noTP, y.1, y.2, x_6.1.2.2.2.2.2.1,
 x_6.1.2.2.2.2.2.2).1 =
 (2 : Int) ∧ ByteArray.mk #[] = ByteArray.empty ∧ Is
 (AV.sl ((0 : Nat)) (2 : Nat) fun (i j : Nat) =>
 eT (Pl.Tree.mk ByteArray.empty []) j)
 (terms []) ∧ ByteArray.mk #[] = ByteArray.empty ∧ Is
 (AV.sl ((0 : Nat)) (2 : Nat) fun (i j : Nat) =>
 eT (Pl.Tree.mk ByteArray.empty []) j)
 (terms []) ∧ ((0 : Nat) = (0 : Nat) ∧ (y.1, y.2, x_6.1.2.2.2.2.2.1,
 x_6.1.2.2.2.2.2.2).1.length =
 x'.2.1.length) ∧ ((0 : Nat) = (0 : Nat) ∧ (y.2, x_6.1.2.2.2.2.2.1,
 x_6.1.2.2.2.2.2.2).1.length =
 x'.2.2.1.length) ∧ (x_6.1.2.2.2.2.2.1,
 x_6.1.2.2.2.2.2.2).1 =
 x'.2.2.2.1 ∧ (x_6.1.2.2.2.2.2.1,
 x_6.1.2.2.2.2.2.2).2 =
 x'.2.2.2.2.1 ∧ True) ∧ IsO (arT y.1) (arT x'.2.1) ∧ IsO (arI y.2) (arI x'.2.2.1) ∧ True) ∧ ∃ x_5 : List Int × Int × List Int,
 (Rd (1099511627776 : Int) x_5.1 x_5.2.1 ∧ x_5.2.2 ≠ [] ∧ Sz x_5.2.2) ∧ (((0 : Nat) = (0 : Nat) ∧ Is
 (AV.lit (6 : Nat) (1 : Nat)
 (rowsCell
 [[i64 (1 : Int)], [i64 (-1 : Int)], [i64 (1 : Int)], [i64 (-1 : Int)], [i64 (2 : Int)],
 [i64 (-2 : Int)]]))
 (ints x_5.2.2) ∧ True) ∧ (Is (byts x_4.1) (byts x_5.1) ∧ y.2 = x_5.2.1 ∧ True) ∧ True) ∧ ∀ (y_3 : Int),
 y_3 ∈ x_5.2.2 →
 (0 : Nat) + x.2.1.length ≤ x.2.1.length ∧ (0 : Nat) + x.2.2.1.length ≤ x.2.2.1.length ∧ (0 : Nat) + y.1.2.length ≤ y.1.2.length ∧ ∃ x_6 : Pl.Atm × Pl.TP × Int,
 (SmA x_6.1 ∧ SmT (Pl.Tree.mk x_6.2.1.1 x_6.2.1.2) ∧ x_6.1.2.2.2.1.length ≤ (100 : Nat) ∧ x_6.1.2.2.2.2.1.length = x_6.1.2.2.2.1.length) ∧ ((((2 : Int) = x_6.1.1 ∧ ByteArray.empty = x_6.1.2.1.1 ∧ Is
 (AV.sl ((0 : Nat)) (2 : Nat) fun (i j : Nat) =>
 eT (Pl.Tree.mk ByteArray.empty []) j)
 (terms x_6.1.2.1.2) ∧ ByteArray.empty = x_6.1.2.2.1.1 ∧ Is
 (AV.sl ((0 : Nat)) (2 : Nat) fun (i j : Nat) =>
 eT (Pl.Tree.mk ByteArray.empty []) j)
 (terms x_6.1.2.2.1.2) ∧ Is (terms x.2.1) (terms x_6.1.2.2.2.1) ∧ Is (ints x.2.2.1) (ints x_6.1.2.2.2.2.1) ∧ x.2.2.2.1 = x_6.1.2.2.2.2.2.1 ∧ x.2.2.2.2.1 = x_6.1.2.2.2.2.2.2 ∧ True) ∧ (y.1.1 = x_6.2.1.1 ∧ Is (terms y.1.2) (terms x_6.2.1.2) ∧ True) ∧ y_3 = x_6.2.2 ∧ True) ∧ True) ∧ ∀ (y : List Pl.Tm × List Int),
 Pl.PutB x_6.1.2.2.2.1 (Pl.Tree.mk x_6.2.1.1 x_6.2.1.2)
 (x_6.1.2.2.2.1.length + (1 : Nat)) y.1 y.2 →
 Exists fun (x' : Int × List Pl.Tm × List Int × Int × Bool × Int) =>
 ((0 : Int) ≤ x'.1 ∧ x'.1 ≤ (3 : Int) ∧ (↑x'.2.1.length : Int) + x'.1 ≤ (3 : Int) ∧ x'.2.2.1.length = x'.2.1.length ∧ (∀ (t : Pl.Tm), t ∈ x'.2.1 → Pl.costT t ≤ (400 : Nat)) ∧ p ≤ x'.2.2.2.2.2 ∧ x'.2.2.2.2.2 + (100 : Int) * x'.1 ≤ p + (310 : Int)) ∧ x'.1.toNat < x.1.toNat ∧ ((0 : Nat) = (0 : Nat) ∧ (0 : Nat) = (0 : Nat) ∧ (0 : Nat) = (0 : Nat) ∧ (0 : Nat) = (0 : Nat) ∧ IntKind.i64.wrap (x.1 - (1 : Int)) = x'.1 ∧ True) ∧ (Is (byts x_5.1) (byts b) ∧ x_5.2.1 + (1 : Int) = x'.2.2.2.2.2 ∧ True) ∧ (Is (syms s) (syms s) ∧ True) ∧ ((0 : Int) = (0 : Int) ∧ ByteArray.empty = ByteArray.empty ∧ Is (AV.lit (0 : Nat) (1 : Nat) fun (x x_7 : Nat) => AV.any)
 nilA ∧ ByteArray.empty = ByteArray.empty ∧ Is (AV.lit (0 : Nat) (1 : Nat) fun (x x_7 : Nat) => AV.any)
 nilA ∧ Is (AV.lit (0 : Nat) (1 : Nat) fun (x x_7 : Nat) => AV.any)
 nilA ∧ Is (AV.lit (0 : Nat) (1 : Nat) fun (x x_7 : Nat) => AV.any)
 nilA ∧ (0 : Int) = (0 : Int) ∧ false = false ∧ True) ∧ ((x_6.1.1, Pl.noTP, Pl.noTP, y.1, y.2, x_6.1.2.2.2.2.2.1,
 x_6.1.2.2.2.2.2.2).1 =
 (2 : Int) ∧ ByteArray.mk #[] = ByteArray.empty ∧ Is
 (AV.sl ((0 : Nat)) (2 : Nat) fun (i j : Nat) =>
 eT (Pl.Tree.mk ByteArray.empty []) j)
 (terms []) ∧ ByteArray.mk #[] = ByteArray.empty ∧ Is
 (AV.sl ((0 : Nat)) (2 : Nat) fun (i j : Nat) =>
 eT (Pl.Tree.mk ByteArray.empty []) j)
 (terms []) ∧ ((0 : Nat) = (0 : Nat) ∧ (y.1, y.2, x_6.1.2.2.2.2.2.1,
 x_6.1.2.2.2.2.2.2).1.length =
 x'.2.1.length) ∧ ((0 : Nat) = (0 : Nat) ∧ (y.2, x_6.1.2.2.2.2.2.1,
 x_6.1.2.2.2.2.2.2).1.length =
 x'.2.2.1.length) ∧ (x_6.1.2.2.2.2.2.1,
 x_6.1.2.2.2.2.2.2).1 =
 x'.2.2.2.1 ∧ (x_6.1.2.2.2.2.2.1,
 x_6.1.2.2.2.2.2.2).2 =
 x'.2.2.2.2.1 ∧ True) ∧ IsO (arT y.1) (arT x'.2.1) ∧ IsO (arI y.2) (arI x'.2.2.1) ∧ True)
 (∃ y : Pl.Atm × Int,
 (Pl.AtB (3 : Nat) y.1 ∧ p ≤ y.2 ∧ y.2 ≤ p + (500 : Int)) ∧ (((2 : Int) = y.1.1 ∧ ByteArray.empty = y.1.2.1.1 ∧ Is (AV.sl ((0 : Nat)) (2 : Nat) fun (i j : Nat) => eT (Pl.Tree.mk ByteArray.empty []) j) (terms y.1.2.1.2) ∧ ByteArray.empty = y.1.2.2.1.1 ∧ Is (AV.sl ((0 : Nat)) (2 : Nat) fun (i j : Nat) => eT (Pl.Tree.mk ByteArray.empty []) j) (terms y.1.2.2.1.2) ∧ ((0 : Nat) = (0 : Nat) ∧ x.2.1.length = y.1.2.2.2.1.length) ∧ ((0 : Nat) = (0 : Nat) ∧ x.2.2.1.length = y.1.2.2.2.2.1.length) ∧ x.2.2.2.1 = y.1.2.2.2.2.2.1 ∧ x.2.2.2.2.1 = y.1.2.2.2.2.2.2 ∧ True) ∧ True) ∧ (Is (byts b) (byts b) ∧ x.2.2.2.2.2 = y.2 ∧ True) ∧ IsO (arT x.2.1) (arT y.1.2.2.2.1) ∧ IsO (arI x.2.2.1) (arI y.1.2.2.2.2.1) ∧ True))) = Goal Tryz.prog [K_pick, K_num, K_lAny, K_l6Put] (A_l6Any b p s) K_l6Any.1 K_l6Any.2 ((b, p, s)) := by kernel_rfl

theorem vc_l6Some (b : List Int) (p : Int) (s : Pl.Sig) : (∃ x : BX,
 (Rd (68719476736 : Int) x.1 x.2.1 ∧ Pl.SgB (5 : Nat) (2 : Nat) x.2.2) ∧ (((0 : Nat) = (0 : Nat) ∧ (Is (syms s) (syms x.2.2) ∧ True) ∧ True) ∧ (Is (byts b) (byts x.1) ∧ p = x.2.1 ∧ True) ∧ True) ∧ ∀ (y : Pl.Atm × Int),
 Pl.AtB (3 : Nat) y.1 ∧ x.2.1 ≤ y.2 ∧ y.2 ≤ x.2.1 + (500 : Int) →
 ∃ x_1 : List Int × Int × Int,
 Rd (1099511627776 : Int) x_1.1 x_1.2.1 ∧ (((0 : Nat) = (0 : Nat) ∧ (80 : Int) = x_1.2.2 ∧ True) ∧ (Is (byts x.1) (byts x_1.1) ∧ y.2 = x_1.2.1 ∧ True) ∧ True) ∧ ∀ (y_1 : Int),
 ((1 : Int) ≤ x_1.2.2 → (0 : Int) ≤ y_1 ∧ y_1 < x_1.2.2) ∧ (x_1.2.2 < (1 : Int) → y_1 = (0 : Int)) →
 condP (y_1 == (0 : Int))
 (∃ x : List Int × Int × List Int,
 (Rd (1099511627776 : Int) x.1 x.2.1 ∧ x.2.2 ≠ [] ∧ Sz x.2.2) ∧ (((0 : Nat) = (0 : Nat) ∧ Is (AV.lit (4 : Nat) (1 : Nat) (rowsCell [[i64 (0 : Int)], [i64 (3 : Int)], [i64 (1 : Int)], [i64 (2 : Int)]])) (ints x.2.2) ∧ True) ∧ (Is (byts x_1.1) (byts x.1) ∧ x_1.2.1 + (1 : Int) = x.2.1 ∧ True) ∧ True) ∧ ∀ (y_2 : Int),
 y_2 ∈ x.2.2 →
 ∃ y_3 : Pl.Atm × Int,
 (Pl.AtB (4 : Nat) y_3.1 ∧ p ≤ y_3.2 ∧ y_3.2 ≤ p + (1500 : Int)) ∧ (0 : Nat) + y.1.2.2.2.1.length ≤ y.1.2.2.2.1.length ∧ (0 : Nat) + y.1.2.2.2.2.1.length ≤ y.1.2.2.2.2.1.length ∧ ((y_2 = y_3.1.1 ∧ y.1.2.1.1 = y_3.1.2.1.1 ∧ Is (terms y.1.2.1.2) (terms y_3.1.2.1.2) ∧ y.1.2.2.1.1 = y_3.1.2.2.1.1 ∧ Is (terms y.1.2.2.1.2) (terms y_3.1.2.2.1.2) ∧ Is (terms y.1.2.2.2.1) (terms y_3.1.2.2.2.1) ∧ Is (ints y.1.2.2.2.2.1) (ints y_3.1.2.2.2.2.1) ∧ y.1.2.2.2.2.2.1 = y_3.1.2.2.2.2.2.1 ∧ y.1.2.2.2.2.2.2 = y_3.1.2.2.2.2.2.2 ∧ True) ∧ True) ∧ (Is (byts x.1) (byts b) ∧ x.2.1 + (1 : Int) = y_3.2 ∧ True) ∧ True)
 (condP (y_1 == (1 : Int))
 (∃ x : List Int × Int × List Int,
 (Rd (1099511627776 : Int) x.1 x.2.1 ∧ x.2.2 ≠ [] ∧ Sz x.2.2) ∧ (((0 : Nat) = (0 : Nat) ∧ Is (AV.lit (3 : Nat) (1 : Nat) (rowsCell [[i64 (1001 : Int)], [i64 (-9223372036854775808 : Int)], [i64 (5 : Int)]])) (ints x.2.2) ∧ True) ∧ (Is (byts x_1.1) (byts x.1) ∧ x_1.2.1 + (1 : Int) = x.2.1 ∧ True) ∧ True) ∧ ∀ (y_2 : Int),
 y_2 ∈ x.2.2 →
 ∃ y_3 : Pl.Atm × Int,
 (Pl.AtB (4 : Nat) y_3.1 ∧ p ≤ y_3.2 ∧ y_3.2 ≤ p + (1500 : Int)) ∧ (0 : Nat) + y.1.2.2.2.1.length ≤ y.1.2.2.2.1.length ∧ (0 : Nat) + y.1.2.2.2.2.1.length ≤ y.1.2.2.2.2.1.length ∧ ((y.1.1 = y_3.1.1 ∧ y.1.2.1.1 = y_3.1.2.1.1 ∧ Is (terms y.1.2.1.2) (terms y_3.1.2.1.2) ∧ y.1.2.2.1.1 = y_3.1.2.2.1.1 ∧ Is (terms y.1.2.2.1.2) (terms y_3.1.2.2.1.2) ∧ Is (terms y.1.2.2.2.1) (terms y_3.1.2.2.2.1) ∧ Is (ints y.1.2.2.2.2.1) (ints y_3.1.2.2.2.2.1) ∧ y_2 = y_3.1.2.2.2.2.2.1 ∧ y.1.2.2.2.2.2.2 = y_3.1.2.2.2.2.2.2 ∧ True) ∧ True) ∧ (Is (byts x.1) (byts b) ∧ x.2.1 + (1 : Int) = y_3.2 ∧ True) ∧ True)
 (condP (y_1 == (2 : Int))
 (∃ x : BX,
 (Rd (68719476736 : Int) x.1 x.2.1 ∧ Pl.SgB (5 : Nat) (2 : Nat) x.2.2) ∧ (((0 : Nat) = (0 : Nat) ∧ (Is (syms s) (syms x.2.2) ∧ True) ∧ True) ∧ (Is (byts x_1.1) (byts x.1) ∧ x_1.2.1 + (1 : Int) = x.2.1 ∧ True) ∧ True) ∧ ∀ (y_2 : Pl.TP × Int),
 Pl.TmB (1500 : Nat) y_2.1 ∧ x.2.1 ≤ y_2.2 ∧ y_2.2 ≤ x.2.1 + (500 : Int) →
 ∃ y_3 : Pl.Atm × Int,
 (Pl.AtB (4 : Nat) y_3.1 ∧ p ≤ y_3.2 ∧ y_3.2 ≤ p + (1500 : Int)) ∧ (0 : Nat) + y.1.2.2.2.1.length ≤ y.1.2.2.2.1.length ∧ (0 : Nat) + y.1.2.2.2.2.1.length ≤ y.1.2.2.2.2.1.length ∧ ((y.1.1 = y_3.1.1 ∧ y_2.1.1 = y_3.1.2.1.1 ∧ Is (terms y_2.1.2) (terms y_3.1.2.1.2) ∧ y.1.2.2.1.1 = y_3.1.2.2.1.1 ∧ Is (terms y.1.2.2.1.2) (terms y_3.1.2.2.1.2) ∧ Is (terms y.1.2.2.2.1) (terms y_3.1.2.2.2.1) ∧ Is (ints y.1.2.2.2.2.1) (ints y_3.1.2.2.2.2.1) ∧ y.1.2.2.2.2.2.1 = y_3.1.2.2.2.2.2.1 ∧ y.1.2.2.2.2.2.2 = y_3.1.2.2.2.2.2.2 ∧ True) ∧ True) ∧ (Is (byts x.1) (byts b) ∧ y_2.2 = y_3.2 ∧ True) ∧ True)
 (condP (y_1 == (3 : Int))
 (condP (decide ((↑y.1.2.2.2.2.1.length : Int) > (0 : Int)))
 ((∃ x : List Int × Int × List Int,
 (Rd (1099511627776 : Int) x.1 x.2.1 ∧ x.2.2 ≠ [] ∧ Sz x.2.2) ∧ (((0 : Nat) = (0 : Nat) ∧ Is (AV.lit (3 : Nat) (1 : Nat) (rowsCell [[i64 (0 : Int)], [i64 (51 : Int)], [i64 (-9223372036854775808 : Int)]])) (ints x.2.2) ∧ True) ∧ (Is (byts x_1.1) (byts x.1) ∧ x_1.2.1 + (1 : Int) = x.2.1 ∧ True) ∧ True) ∧ ∀ (y_2 : Int),
 y_2 ∈ x.2.2 →
 ((0 : Int) ≤ (0 : Int) ∧ (0 : Int) < (↑y.1.2.2.2.2.1.length : Int)) ∧ (0 : Nat) < y.1.2.2.2.2.1.length ∧ ∃ y_3 : Pl.Atm × Int,
 (Pl.AtB (4 : Nat) y_3.1 ∧ p ≤ y_3.2 ∧ y_3.2 ≤ p + (1500 : Int)) ∧ (0 : Nat) + y.1.2.2.2.1.length ≤ y.1.2.2.2.1.length ∧ (0 : Nat) + y.1.2.2.2.2.1.length ≤ y.1.2.2.2.2.1.length ∧ ((y.1.1 = y_3.1.1 ∧ y.1.2.1.1 = y_3.1.2.1.1 ∧ Is (terms y.1.2.1.2) (terms y_3.1.2.1.2) ∧ y.1.2.2.1.1 = y_3.1.2.2.1.1 ∧ Is (terms y.1.2.2.1.2) (terms y_3.1.2.2.1.2) ∧ Is (terms y.1.2.2.2.1) (terms y_3.1.2.2.2.1) ∧ Is
 (AV.sl y.1.2.2.2.2.1.length (1 : Nat) fun (i j : Nat) =>
 storeC (cI y.1.2.2.2.2.1) (0 : Nat) (0 : Nat) [i64 y_2] i j)
 (ints y_3.1.2.2.2.2.1) ∧ y.1.2.2.2.2.2.1 = y_3.1.2.2.2.2.2.1 ∧ y.1.2.2.2.2.2.2 = y_3.1.2.2.2.2.2.2 ∧ True) ∧ True) ∧ (Is (byts x.1) (byts b) ∧ x.2.1 + (1 : Int) = y_3.2 ∧ True) ∧ True) ∧ ∃ x : List Int × Int × List Int,
 (Rd (1099511627776 : Int) x.1 x.2.1 ∧ x.2.2 ≠ [] ∧ Sz x.2.2) ∧ (((0 : Nat) = (0 : Nat) ∧ Is (AV.lit (3 : Nat) (1 : Nat) (rowsCell [[i64 (0 : Int)], [i64 (51 : Int)], [i64 (-9223372036854775808 : Int)]])) (ints x.2.2) ∧ True) ∧ (Is (byts x_1.1) (byts x.1) ∧ x_1.2.1 + (1 : Int) = x.2.1 ∧ True) ∧ True) ∧ ∀ (y_2 : Int),
 y_2 ∈ x.2.2 →
 ((0 : Int) ≤ (0 : Int) ∧ (0 : Int) < (↑y.1.2.2.2.2.1.length : Int)) ∧ (0 : Nat) < y.1.2.2.2.2.1.length ∧ ∃ y_3 : Pl.Atm × Int,
 (Pl.AtB (4 : Nat) y_3.1 ∧ p ≤ y_3.2 ∧ y_3.2 ≤ p + (1500 : Int)) ∧ (0 : Nat) + y.1.2.2.2.1.length ≤ y.1.2.2.2.1.length ∧ (0 : Nat) + y.1.2.2.2.2.1.length ≤ y.1.2.2.2.2.1.length ∧ ((y.1.1 = y_3.1.1 ∧ y.1.2.1.1 = y_3.1.2.1.1 ∧ Is (terms y.1.2.1.2) (terms y_3.1.2.1.2) ∧ y.1.2.2.1.1 = y_3.1.2.2.1.1 ∧ Is (terms y.1.2.2.1.2) (terms y_3.1.2.2.1.2) ∧ Is (terms y.1.2.2.2.1) (terms y_3.1.2.2.2.1) ∧ Is
 (AV.sl y.1.2.2.2.2.1.length (1 : Nat) fun (i j : Nat) =>
 storeC (cI y.1.2.2.2.2.1) (0 : Nat) (0 : Nat) [i64 y_2] i j)
 (ints y_3.1.2.2.2.2.1) ∧ y.1.2.2.2.2.2.1 = y_3.1.2.2.2.2.2.1 ∧ y.1.2.2.2.2.2.2 = y_3.1.2.2.2.2.2.2 ∧ True) ∧ True) ∧ (Is (byts x.1) (byts b) ∧ x.2.1 + (1 : Int) = y_3.2 ∧ True) ∧ True)
 (∃ y_2 : Pl.Atm × Int,
 (Pl.AtB (4 : Nat) y_2.1 ∧ p ≤ y_2.2 ∧ y_2.2 ≤ p + (1500 : Int)) ∧ (0 : Nat) + y.1.2.2.2.1.length ≤ y.1.2.2.2.1.length ∧ (0 : Nat) + y.1.2.2.2.2.1.length ≤ y.1.2.2.2.2.1.length ∧ ((y.1.1 = y_2.1.1 ∧ y.1.2.1.1 = y_2.1.2.1.1 ∧ Is (terms y.1.2.1.2) (terms y_2.1.2.1.2) ∧ y.1.2.2.1.1 = y_2.1.2.2.1.1 ∧ Is (terms y.1.2.2.1.2) (terms y_2.1.2.2.1.2) ∧ Is (terms y.1.2.2.2.1) (terms y_2.1.2.2.2.1) ∧ Is (ints y.1.2.2.2.2.1) (ints y_2.1.2.2.2.2.1) ∧ y.1.2.2.2.2.2.1 = y_2.1.2.2.2.2.2.1 ∧ y.1.2.2.2.2.2.2 = y_2.1.2.2.2.2.2.2 ∧ True) ∧ True) ∧ (Is (byts x_1.1) (byts b) ∧ x_1.2.1 + (1 : Int) = y_2.2 ∧ True) ∧ True))
 (condP (y_1 == (4 : Int))
 ((∃ x : AX,
 (Rd (137438953472 : Int) x.1 x.2.1 ∧ x.2.1 + (↑(Pl.CB x.2.2.2.2.toNat) : Int) ≤ (137438953472 : Int) ∧ Pl.SgB (5 : Nat) (2 : Nat) x.2.2.1 ∧ x.2.2.2.2 ≤ (4 : Int)) ∧ (((0 : Nat) = (0 : Nat) ∧ (Is (syms s) (syms x.2.2.1) ∧ True) ∧ (1 : Int) = x.2.2.2.1 ∧ (1 : Int) = x.2.2.2.2 ∧ True) ∧ (Is (byts x_1.1) (byts x.1) ∧ x_1.2.1 + (1 : Int) = x.2.1 ∧ True) ∧ True) ∧ ∀ (y_2 : Pl.TP × Int),
 Pl.TmB (Pl.CB x.2.2.2.2.toNat) y_2.1 ∧ x.2.1 ≤ y_2.2 ∧ y_2.2 ≤ x.2.1 + (↑(Pl.CB x.2.2.2.2.toNat) : Int) →
 (0 : Nat) + y_2.1.2.length ≤ y_2.1.2.length ∧ (0 : Nat) + y.1.2.2.2.1.length ≤ y.1.2.2.2.1.length ∧ (y.1.2.2.2.1.length + (1 : Nat)) * (40 : Nat) ≤ (70368744177664 : Nat) ∧ ∃ y_3 : Pl.Atm × Int,
 (Pl.AtB (4 : Nat) y_3.1 ∧ p ≤ y_3.2 ∧ y_3.2 ≤ p + (1500 : Int)) ∧ (0 : Nat) + (y.1.2.2.2.1.length + (1 : Nat)) ≤ y.1.2.2.2.1.length + (1 : Nat) ∧ (0 : Nat) + y.1.2.2.2.2.1.length ≤ y.1.2.2.2.2.1.length ∧ ((y.1.1 = y_3.1.1 ∧ y.1.2.1.1 = y_3.1.2.1.1 ∧ Is (terms y.1.2.1.2) (terms y_3.1.2.1.2) ∧ y.1.2.2.1.1 = y_3.1.2.2.1.1 ∧ Is (terms y.1.2.2.1.2) (terms y_3.1.2.2.1.2) ∧ Is
 (AV.sl (y.1.2.2.2.1.length + (1 : Nat)) (2 : Nat) fun (i j : Nat) =>
 joinC y.1.2.2.2.1.length (cT y.1.2.2.2.1)
 (rowsCell [[st y_2.1.1, terms y_2.1.2]]) i j)
 (terms y_3.1.2.2.2.1) ∧ Is (ints y.1.2.2.2.2.1) (ints y_3.1.2.2.2.2.1) ∧ y.1.2.2.2.2.2.1 = y_3.1.2.2.2.2.2.1 ∧ y.1.2.2.2.2.2.2 = y_3.1.2.2.2.2.2.2 ∧ True) ∧ True) ∧ (Is (byts x.1) (byts b) ∧ y_2.2 = y_3.2 ∧ True) ∧ True) ∧ ∃ x : AX,
 (Rd (137438953472 : Int) x.1 x.2.1 ∧ x.2.1 + (↑(Pl.CB x.2.2.2.2.toNat) : Int) ≤ (137438953472 : Int) ∧ Pl.SgB (5 : Nat) (2 : Nat) x.2.2.1 ∧ x.2.2.2.2 ≤ (4 : Int)) ∧ (((0 : Nat) = (0 : Nat) ∧ (Is (syms s) (syms x.2.2.1) ∧ True) ∧ (1 : Int) = x.2.2.2.1 ∧ (1 : Int) = x.2.2.2.2 ∧ True) ∧ (Is (byts x_1.1) (byts x.1) ∧ x_1.2.1 + (1 : Int) = x.2.1 ∧ True) ∧ True) ∧ ∀ (y_2 : Pl.TP × Int),
 Pl.TmB (Pl.CB x.2.2.2.2.toNat) y_2.1 ∧ x.2.1 ≤ y_2.2 ∧ y_2.2 ≤ x.2.1 + (↑(Pl.CB x.2.2.2.2.toNat) : Int) →
 (0 : Nat) + y_2.1.2.length ≤ y_2.1.2.length ∧ (0 : Nat) + y.1.2.2.2.1.length ≤ y.1.2.2.2.1.length ∧ (y.1.2.2.2.1.length + (1 : Nat)) * (40 : Nat) ≤ (70368744177664 : Nat) ∧ ∃ y_3 : Pl.Atm × Int,
 (Pl.AtB (4 : Nat) y_3.1 ∧ p ≤ y_3.2 ∧ y_3.2 ≤ p + (1500 : Int)) ∧ (0 : Nat) + (y.1.2.2.2.1.length + (1 : Nat)) ≤ y.1.2.2.2.1.length + (1 : Nat) ∧ (0 : Nat) + y.1.2.2.2.2.1.length ≤ y.1.2.2.2.2.1.length ∧ ((y.1.1 = y_3.1.1 ∧ y.1.2.1.1 = y_3.1.2.1.1 ∧ Is (terms y.1.2.1.2) (terms y_3.1.2.1.2) ∧ y.1.2.2.1.1 = y_3.1.2.2.1.1 ∧ Is (terms y.1.2.2.1.2) (terms y_3.1.2.2.1.2) ∧ Is
 (AV.sl (y.1.2.2.2.1.length + (1 : Nat)) (2 : Nat) fun (i j : Nat) =>
 joinC y.1.2.2.2.1.length (cT y.1.2.2.2.1)
 (rowsCell [[st y_2.1.1, terms y_2.1.2]]) i j)
 (terms y_3.1.2.2.2.1) ∧ Is (ints y.1.2.2.2.2.1) (ints y_3.1.2.2.2.2.1) ∧ y.1.2.2.2.2.2.1 = y_3.1.2.2.2.2.2.1 ∧ y.1.2.2.2.2.2.2 = y_3.1.2.2.2.2.2.2 ∧ True) ∧ True) ∧ (Is (byts x.1) (byts b) ∧ y_2.2 = y_3.2 ∧ True) ∧ True)
 (∃ y_2 : Pl.Atm × Int,
 (Pl.AtB (4 : Nat) y_2.1 ∧ p ≤ y_2.2 ∧ y_2.2 ≤ p + (1500 : Int)) ∧ (0 : Nat) + y.1.2.2.2.1.length ≤ y.1.2.2.2.1.length ∧ (0 : Nat) + y.1.2.2.2.2.1.length ≤ y.1.2.2.2.2.1.length ∧ ((y.1.1 = y_2.1.1 ∧ y.1.2.1.1 = y_2.1.2.1.1 ∧ Is (terms y.1.2.1.2) (terms y_2.1.2.1.2) ∧ y.1.2.2.1.1 = y_2.1.2.2.1.1 ∧ Is (terms y.1.2.2.1.2) (terms y_2.1.2.2.1.2) ∧ Is (terms y.1.2.2.2.1) (terms y_2.1.2.2.2.1) ∧ Is (ints y.1.2.2.2.2.1) (ints y_2.1.2.2.2.2.1) ∧ y.1.2.2.2.2.2.1 = y_2.1.2.2.2.2.2.1 ∧ y.1.2.2.2.2.2.2 = y_2.1.2.2.2.2.2.2 ∧ True) ∧ True) ∧ (Is (byts x_1.1) (byts b) ∧ x_1.2.1 + (1 : Int) = y_2.2 ∧ True) ∧ True)))))) = Goal Tryz.prog [K_l6Any, K_pick, K_num, K_l4Some, K_lAny] ([]) K_l6Some.1 K_l6Some.2 ((b, p, s)) := by kernel_rfl

end Cg

/-
  What is left to show of each function's code, printed by a program: Mtd. No condition.
-/
set_option maxRecDepth 100000
set_option linter.unusedVariables false
namespace Cg
open Go Go.Proofs
theorem vc_l4Copy (n : Nat) (v : ByteArray) (ks : List Pl.Tm) : ((∃ x : Nat,
 x ≤ ks.length ∧ ((0 : Nat) = (0 : Nat) ∧ (0 : Nat) = (0 : Nat) ∧ (0 : Nat) = (0 : Nat) ∧ (0 : Int) = (↑x : Int) ∧ True) ∧ (v = v ∧ Is (terms ks) (terms ks) ∧ True) ∧ (ByteArray.mk #[] = ByteArray.empty ∧ Is (AV.lit (0 : Nat) (1 : Nat) fun (x x_1 : Nat) => AV.any) nilA ∧ True) ∧ (v = v ∧ ((0 : Nat) = (0 : Nat) ∧ (0 : Nat) = (0 : Nat) ∧ (List.take x ks).length = (0 : Nat)) ∧ True) ∧ (List.take x ks).length = (0 : Nat) ∧ True) ∧ ∀ (x : Nat),
 x ≤ ks.length →
 condP (decide ((↑x : Int) < (↑ks.length : Int)))
 (((0 : Int) ≤ (↑x : Int) ∧ (↑x : Int) < (↑ks.length : Int)) ∧ x < ks.length ∧ ∃ x_1 : Pl.TP,
 ((Pl.Tree.val (ks.getD x Pl.dT) = x_1.1 ∧ Is (kidsT (ks.getD x Pl.dT)) (terms x_1.2) ∧ True) ∧ True) ∧ (SmT (Pl.Tree.mk x_1.1 x_1.2) ∧ Pl.manyL x_1.2 < n) ∧ (0 : Nat) + (List.take x ks).length ≤ (List.take x ks).length ∧ ((List.take x ks).length + (1 : Nat)) * (40 : Nat) ≤ (70368744177664 : Nat) ∧ Exists fun (x' : Nat) =>
 x' ≤ ks.length ∧ ks.length - x' < ks.length - x ∧ ((0 : Nat) = (0 : Nat) ∧ (0 : Nat) = (0 : Nat) ∧ (0 : Nat) = (0 : Nat) ∧ IntKind.i64.wrap ((↑x : Int) + (1 : Int)) = (↑x' : Int) ∧ True) ∧ (v = v ∧ Is (terms ks) (terms ks) ∧ True) ∧ (ByteArray.empty = ByteArray.empty ∧ Is (AV.lit (0 : Nat) (1 : Nat) fun (x x_2 : Nat) => AV.any) nilA ∧ True) ∧ (v = v ∧ ((0 : Nat) = (0 : Nat) ∧ (List.take x ks).length + (1 : Nat) = (List.take x' ks).length) ∧ True) ∧ IsO
 (AObj.arr ((List.take x ks).length + (1 : Nat)) (2 : Nat)
 (joinC (List.take x ks).length (cT (List.take x ks)) (rowsCell [[st x_1.1, terms x_1.2]])))
 (arT (List.take x' ks)) ∧ True)
 ((0 : Nat) + (List.take x ks).length ≤ (List.take x ks).length ∧ v = v ∧ Is (terms (List.take x ks)) (terms ks) ∧ True)) = Goal Tryz.prog [(K_l4Copy n)] (A_l4Copy v ks) (K_l4Copy (n + 1)).1 (K_l4Copy (n + 1)).2 ((v, ks)) := by kernel_rfl

theorem vc_l4CopyO (v : ByteArray) (ks : List Pl.Tm) : ((∃ x : Nat,
 x ≤ ks.length ∧ ((0 : Nat) = (0 : Nat) ∧ (0 : Nat) = (0 : Nat) ∧ (0 : Nat) = (0 : Nat) ∧ (0 : Int) = (↑x : Int) ∧ True) ∧ IsO (arT ks) (arT ks) ∧ (v = v ∧ ((0 : Nat) = (0 : Nat) ∧ ks.length = ks.length) ∧ True) ∧ (ByteArray.mk #[] = ByteArray.empty ∧ Is (AV.lit (0 : Nat) (1 : Nat) fun (x x_1 : Nat) => AV.any) nilA ∧ True) ∧ (v = v ∧ ((0 : Nat) = (0 : Nat) ∧ (0 : Nat) = (0 : Nat) ∧ (List.take x ks).length = (0 : Nat)) ∧ True) ∧ (List.take x ks).length = (0 : Nat) ∧ True) ∧ ∀ (x : Nat),
 x ≤ ks.length →
 condP (decide ((↑x : Int) < (↑ks.length : Int)))
 (((0 : Int) ≤ (↑x : Int) ∧ (↑x : Int) < (↑ks.length : Int)) ∧ x < ks.length ∧ ∃ x_1 : Pl.TP,
 ((Pl.Tree.val (ks.getD x Pl.dT) = x_1.1 ∧ Is (kidsT (ks.getD x Pl.dT)) (terms x_1.2) ∧ True) ∧ True) ∧ SmT (Pl.Tree.mk x_1.1 x_1.2) ∧ (0 : Nat) + (List.take x ks).length ≤ (List.take x ks).length ∧ ((List.take x ks).length + (1 : Nat)) * (40 : Nat) ≤ (70368744177664 : Nat) ∧ Exists fun (x' : Nat) =>
 x' ≤ ks.length ∧ ks.length - x' < ks.length - x ∧ ((0 : Nat) = (0 : Nat) ∧ (0 : Nat) = (0 : Nat) ∧ (0 : Nat) = (0 : Nat) ∧ IntKind.i64.wrap ((↑x : Int) + (1 : Int)) = (↑x' : Int) ∧ True) ∧ IsO (arT ks) (arT ks) ∧ (v = v ∧ ((0 : Nat) = (0 : Nat) ∧ ks.length = ks.length) ∧ True) ∧ (ByteArray.empty = ByteArray.empty ∧ Is (AV.lit (0 : Nat) (1 : Nat) fun (x x_2 : Nat) => AV.any) nilA ∧ True) ∧ (v = v ∧ ((0 : Nat) = (0 : Nat) ∧ (List.take x ks).length + (1 : Nat) = (List.take x' ks).length) ∧ True) ∧ IsO
 (AObj.arr ((List.take x ks).length + (1 : Nat)) (2 : Nat)
 (joinC (List.take x ks).length (cT (List.take x ks)) (rowsCell [[st x_1.1, terms x_1.2]])))
 (arT (List.take x' ks)) ∧ True)
 (∃ y : Unit,
 True ∧ (0 : Nat) + (List.take x ks).length ≤ (List.take x ks).length ∧ ((v = v ∧ Is (terms (List.take x ks)) (terms ks) ∧ True) ∧ True) ∧ IsO (arT ks) (arT ks) ∧ True)) = Goal Tryz.prog [K_lCopy] (A_l4CopyO v ks) K_l4CopyO.1 K_l4CopyO.2 ((v, ks)) := by kernel_rfl

theorem vc_l4Any (n : Nat) (b : List Int) (p : Int) (s : Pl.Sig) (u d : Int) : ((∃ x : Nat × List Pl.Sym,
 (x.1 ≤ List.length s ∧ x.2.length ≤ x.1 ∧ Pl.WdB d x.2) ∧ ((0 : Nat) = (0 : Nat) ∧ u = u ∧ d = d ∧ (0 : Nat) = (0 : Nat) ∧ (0 : Nat) = (0 : Nat) ∧ ((0 : Nat) = (0 : Nat) ∧ (0 : Nat) = (0 : Nat) ∧ x.2.length = (0 : Nat)) ∧ (0 : Int) = (↑x.1 : Int) ∧ True) ∧ (Is (byts b) (byts b) ∧ p = p ∧ True) ∧ (Is (syms s) (syms s) ∧ True) ∧ (ByteArray.mk #[] = ByteArray.empty ∧ Is (AV.lit (0 : Nat) (1 : Nat) fun (x x_1 : Nat) => AV.any) nilA ∧ True) ∧ x.2.length = (0 : Nat) ∧ True) ∧ ∀ (x : Nat × List Pl.Sym),
 x.1 ≤ List.length s ∧ x.2.length ≤ x.1 ∧ Pl.WdB d x.2 →
 condP (decide ((↑x.1 : Int) < (↑(List.length s) : Int)))
 (((0 : Int) ≤ (↑x.1 : Int) ∧ (↑x.1 : Int) < (↑(List.length s) : Int)) ∧ x.1 < List.length s ∧ condP ((List.getD s x.1 Pl.dY).2.2 == u)
 (condP (decide (d > (1 : Int)))
 (((0 : Int) ≤ (↑x.1 : Int) ∧ (↑x.1 : Int) < (↑(List.length s) : Int)) ∧ x.1 < List.length s ∧ (0 : Nat) + x.2.length ≤ x.2.length ∧ (x.2.length + (1 : Nat)) * (48 : Nat) ≤ (70368744177664 : Nat) ∧ Exists fun (x' : Nat × List Pl.Sym) =>
 (x'.1 ≤ List.length s ∧ x'.2.length ≤ x'.1 ∧ Pl.WdB d x'.2) ∧ List.length s - x'.1 < List.length s - x.1 ∧ ((0 : Nat) = (0 : Nat) ∧ u = u ∧ d = d ∧ (0 : Nat) = (0 : Nat) ∧ (0 : Nat) = (0 : Nat) ∧ ((0 : Nat) = (0 : Nat) ∧ x.2.length + (1 : Nat) = x'.2.length) ∧ IntKind.i64.wrap ((↑x.1 : Int) + (1 : Int)) = (↑x'.1 : Int) ∧ True) ∧ (Is (byts b) (byts b) ∧ p = p ∧ True) ∧ (Is (syms s) (syms s) ∧ True) ∧ (ByteArray.empty = ByteArray.empty ∧ Is (AV.lit (0 : Nat) (1 : Nat) fun (x x_1 : Nat) => AV.any) nilA ∧ True) ∧ IsO
 (AObj.arr (x.2.length + (1 : Nat)) (3 : Nat)
 (joinC x.2.length (cY x.2)
 (rowsCell [[st (List.getD s x.1 Pl.dY).1, ints (List.getD s x.1 Pl.dY).2.1, i64 (List.getD s x.1 Pl.dY).2.2]])))
 (arY x'.2) ∧ True)
 (((0 : Int) ≤ (↑x.1 : Int) ∧ (↑x.1 : Int) < (↑(List.length s) : Int)) ∧ x.1 < List.length s ∧ condP ((↑(List.getD s x.1 Pl.dY).2.1.length : Int) == (0 : Int))
 (((0 : Int) ≤ (↑x.1 : Int) ∧ (↑x.1 : Int) < (↑(List.length s) : Int)) ∧ x.1 < List.length s ∧ (0 : Nat) + x.2.length ≤ x.2.length ∧ (x.2.length + (1 : Nat)) * (48 : Nat) ≤ (70368744177664 : Nat) ∧ Exists fun (x' : Nat × List Pl.Sym) =>
 (x'.1 ≤ List.length s ∧ x'.2.length ≤ x'.1 ∧ Pl.WdB d x'.2) ∧ List.length s - x'.1 < List.length s - x.1 ∧ ((0 : Nat) = (0 : Nat) ∧ u = u ∧ d = d ∧ (0 : Nat) = (0 : Nat) ∧ (0 : Nat) = (0 : Nat) ∧ ((0 : Nat) = (0 : Nat) ∧ x.2.length + (1 : Nat) = x'.2.length) ∧ IntKind.i64.wrap ((↑x.1 : Int) + (1 : Int)) = (↑x'.1 : Int) ∧ True) ∧ (Is (byts b) (byts b) ∧ p = p ∧ True) ∧ (Is (syms s) (syms s) ∧ True) ∧ (ByteArray.empty = ByteArray.empty ∧ Is (AV.lit (0 : Nat) (1 : Nat) fun (x x_1 : Nat) => AV.any) nilA ∧ True) ∧ IsO
 (AObj.arr (x.2.length + (1 : Nat)) (3 : Nat)
 (joinC x.2.length (cY x.2)
 (rowsCell [[st (List.getD s x.1 Pl.dY).1, ints (List.getD s x.1 Pl.dY).2.1, i64 (List.getD s x.1 Pl.dY).2.2]])))
 (arY x'.2) ∧ True)
 (Exists fun (x' : Nat × List Pl.Sym) =>
 (x'.1 ≤ List.length s ∧ x'.2.length ≤ x'.1 ∧ Pl.WdB d x'.2) ∧ List.length s - x'.1 < List.length s - x.1 ∧ ((0 : Nat) = (0 : Nat) ∧ u = u ∧ d = d ∧ (0 : Nat) = (0 : Nat) ∧ (0 : Nat) = (0 : Nat) ∧ ((0 : Nat) = (0 : Nat) ∧ x.2.length = x'.2.length) ∧ IntKind.i64.wrap ((↑x.1 : Int) + (1 : Int)) = (↑x'.1 : Int) ∧ True) ∧ (Is (byts b) (byts b) ∧ p = p ∧ True) ∧ (Is (syms s) (syms s) ∧ True) ∧ (ByteArray.empty = ByteArray.empty ∧ Is (AV.lit (0 : Nat) (1 : Nat) fun (x x_1 : Nat) => AV.any) nilA ∧ True) ∧ IsO (arY x.2) (arY x'.2) ∧ True)))
 (Exists fun (x' : Nat × List Pl.Sym) =>
 (x'.1 ≤ List.length s ∧ x'.2.length ≤ x'.1 ∧ Pl.WdB d x'.2) ∧ List.length s - x'.1 < List.length s - x.1 ∧ ((0 : Nat) = (0 : Nat) ∧ u = u ∧ d = d ∧ (0 : Nat) = (0 : Nat) ∧ (0 : Nat) = (0 : Nat) ∧ ((0 : Nat) = (0 : Nat) ∧ x.2.length = x'.2.length) ∧ IntKind.i64.wrap ((↑x.1 : Int) + (1 : Int)) = (↑x'.1 : Int) ∧ True) ∧ (Is (byts b) (byts b) ∧ p = p ∧ True) ∧ (Is (syms s) (syms s) ∧ True) ∧ (ByteArray.empty = ByteArray.empty ∧ Is (AV.lit (0 : Nat) (1 : Nat) fun (x x_1 : Nat) => AV.any) nilA ∧ True) ∧ IsO (arY x.2) (arY x'.2) ∧ True))
 (condP ((↑x.2.length : Int) == (0 : Int))
 (∃ y : Pl.TP × Int,
 (Pl.TmB (Pl.CB d.toNat) y.1 ∧ p ≤ y.2 ∧ y.2 ≤ p + (↑(Pl.CB d.toNat) : Int)) ∧ ((ByteArray.mk #[(113 : UInt8)] = y.1.1 ∧ ((0 : Nat) = (0 : Nat) ∧ (0 : Nat) = (0 : Nat) ∧ y.1.2.length = (0 : Nat)) ∧ True) ∧ True) ∧ (Is (byts b) (byts b) ∧ p = y.2 ∧ True) ∧ y.1.2.length = (0 : Nat) ∧ True)
 (∃ x_1 : List Int × Int × Int,
 Rd (1099511627776 : Int) x_1.1 x_1.2.1 ∧ (((0 : Nat) = (0 : Nat) ∧ (↑x.2.length : Int) = x_1.2.2 ∧ True) ∧ (Is (byts b) (byts x_1.1) ∧ p = x_1.2.1 ∧ True) ∧ True) ∧ ∀ (y : Int),
 ((1 : Int) ≤ x_1.2.2 → (0 : Int) ≤ y ∧ y < x_1.2.2) ∧ (x_1.2.2 < (1 : Int) → y = (0 : Int)) →
 ((0 : Int) ≤ y ∧ y < (↑x.2.length : Int)) ∧ y.toNat < x.2.length ∧ (∃ x_2 : Pl.Sym × Nat × List Pl.Tm × Int,
 (Pl.WdB d [x_2.1] ∧ x_2.2.1 ≤ x_2.1.2.1.length ∧ x_2.2.2.1.length = x_2.2.1 ∧ Pl.costTs x_2.2.2.1 ≤ x_2.2.1 * Pl.CB (d - (1 : Int)).toNat ∧ p ≤ x_2.2.2.2 ∧ x_2.2.2.2 ≤ p + (1 : Int) + (↑x_2.2.1 : Int) * (↑(Pl.CB (d - (1 : Int)).toNat) : Int)) ∧ ((0 : Nat) = (0 : Nat) ∧ d = d ∧ (0 : Nat) = (0 : Nat) ∧ (0 : Nat) = (0 : Nat) ∧ (0 : Nat) = (0 : Nat) ∧ (0 : Nat) = (0 : Nat) ∧ (0 : Int) = (↑x_2.2.1 : Int) ∧ True) ∧ (Is (byts x_1.1) (byts b) ∧ x_1.2.1 + (1 : Int) = x_2.2.2.2 ∧ True) ∧ (Is (syms s) (syms s) ∧ True) ∧ (ByteArray.empty = ByteArray.empty ∧ Is (AV.lit (0 : Nat) (1 : Nat) fun (x x_3 : Nat) => AV.any) nilA ∧ True) ∧ ((x.2.getD y.toNat Pl.dY).1 = x_2.1.1 ∧ Is (ints (x.2.getD y.toNat Pl.dY).2.1) (ints x_2.1.2.1) ∧ (x.2.getD y.toNat Pl.dY).2.2 = x_2.1.2.2 ∧ True) ∧ ((x.2.getD y.toNat Pl.dY).1 = x_2.1.1 ∧ ((0 : Nat) = (0 : Nat) ∧ (0 : Nat) = (0 : Nat) ∧ x_2.2.2.1.length = (0 : Nat)) ∧ True) ∧ x_2.2.2.1.length = (0 : Nat) ∧ True) ∧ ∀ (x : Pl.Sym × Nat × List Pl.Tm × Int),
 Pl.WdB d [x.1] ∧ x.2.1 ≤ x.1.2.1.length ∧ x.2.2.1.length = x.2.1 ∧ Pl.costTs x.2.2.1 ≤ x.2.1 * Pl.CB (d - (1 : Int)).toNat ∧ p ≤ x.2.2.2 ∧ x.2.2.2 ≤ p + (1 : Int) + (↑x.2.1 : Int) * (↑(Pl.CB (d - (1 : Int)).toNat) : Int) →
 condP (decide ((↑x.2.1 : Int) < (↑x.1.2.1.length : Int)))
 ((((0 : Int) ≤ (↑x.2.1 : Int) ∧ (↑x.2.1 : Int) < (↑x.1.2.1.length : Int)) ∧ x.2.1 < x.1.2.1.length ∧ ∃ x_2 : AX,
 ((Rd (137438953472 : Int) x_2.1 x_2.2.1 ∧ x_2.2.1 + (↑(Pl.CB x_2.2.2.2.2.toNat) : Int) ≤ (137438953472 : Int) ∧ Pl.SgB (5 : Nat) (2 : Nat) x_2.2.2.1 ∧ x_2.2.2.2.2 ≤ (4 : Int)) ∧ x_2.2.2.2.2.toNat < n) ∧ (((0 : Nat) = (0 : Nat) ∧ (Is (syms s) (syms x_2.2.2.1) ∧ True) ∧ x.1.2.1.getD x.2.1 (0 : Int) = x_2.2.2.2.1 ∧ IntKind.i64.wrap (d - (1 : Int)) = x_2.2.2.2.2 ∧ True) ∧ (Is (byts b) (byts x_2.1) ∧ x.2.2.2 = x_2.2.1 ∧ True) ∧ True) ∧ ∀ (y : Pl.TP × Int),
 Pl.TmB (Pl.CB x_2.2.2.2.2.toNat) y.1 ∧ x_2.2.1 ≤ y.2 ∧ y.2 ≤ x_2.2.1 + (↑(Pl.CB x_2.2.2.2.2.toNat) : Int) →
 (0 : Nat) + y.1.2.length ≤ y.1.2.length ∧ (0 : Nat) + x.2.2.1.length ≤ x.2.2.1.length ∧ (x.2.2.1.length + (1 : Nat)) * (40 : Nat) ≤ (70368744177664 : Nat) ∧ Exists fun (x' : Pl.Sym × Nat × List Pl.Tm × Int) =>
 (Pl.WdB d [x'.1] ∧ x'.2.1 ≤ x'.1.2.1.length ∧ x'.2.2.1.length = x'.2.1 ∧ Pl.costTs x'.2.2.1 ≤ x'.2.1 * Pl.CB (d - (1 : Int)).toNat ∧ p ≤ x'.2.2.2 ∧ x'.2.2.2 ≤ p + (1 : Int) + (↑x'.2.1 : Int) * (↑(Pl.CB (d - (1 : Int)).toNat) : Int)) ∧ x'.1.2.1.length - x'.2.1 < x.1.2.1.length - x.2.1 ∧ ((0 : Nat) = (0 : Nat) ∧ d = d ∧ (0 : Nat) = (0 : Nat) ∧ (0 : Nat) = (0 : Nat) ∧ (0 : Nat) = (0 : Nat) ∧ (0 : Nat) = (0 : Nat) ∧ IntKind.i64.wrap ((↑x.2.1 : Int) + (1 : Int)) = (↑x'.2.1 : Int) ∧ True) ∧ (Is (byts x_2.1) (byts b) ∧ y.2 = x'.2.2.2 ∧ True) ∧ (Is (syms s) (syms s) ∧ True) ∧ (ByteArray.empty = ByteArray.empty ∧ Is (AV.lit (0 : Nat) (1 : Nat) fun (x x_3 : Nat) => AV.any) nilA ∧ True) ∧ (x.1.1 = x'.1.1 ∧ Is (ints x.1.2.1) (ints x'.1.2.1) ∧ x.1.2.2 = x'.1.2.2 ∧ True) ∧ (x.1.1 = x'.1.1 ∧ ((0 : Nat) = (0 : Nat) ∧ x.2.2.1.length + (1 : Nat) = x'.2.2.1.length) ∧ True) ∧ IsO
 (AObj.arr (x.2.2.1.length + (1 : Nat)) (2 : Nat)
 (joinC x.2.2.1.length (cT x.2.2.1) (rowsCell [[st y.1.1, terms y.1.2]])))
 (arT x'.2.2.1) ∧ True) ∧ ((0 : Int) ≤ (↑x.2.1 : Int) ∧ (↑x.2.1 : Int) < (↑x.1.2.1.length : Int)) ∧ x.2.1 < x.1.2.1.length ∧ (∃ x_2 : AX,
 ((Rd (137438953472 : Int) x_2.1 x_2.2.1 ∧ x_2.2.1 + (↑(Pl.CB x_2.2.2.2.2.toNat) : Int) ≤ (137438953472 : Int) ∧ Pl.SgB (5 : Nat) (2 : Nat) x_2.2.2.1 ∧ x_2.2.2.2.2 ≤ (4 : Int)) ∧ x_2.2.2.2.2.toNat < n) ∧ (((0 : Nat) = (0 : Nat) ∧ (Is (syms s) (syms x_2.2.2.1) ∧ True) ∧ x.1.2.1.getD x.2.1 (0 : Int) = x_2.2.2.2.1 ∧ IntKind.i64.wrap (d - (1 : Int)) = x_2.2.2.2.2 ∧ True) ∧ (Is (byts b) (byts x_2.1) ∧ x.2.2.2 = x_2.2.1 ∧ True) ∧ True) ∧ ∀ (y : Pl.TP × Int),
 Pl.TmB (Pl.CB x_2.2.2.2.2.toNat) y.1 ∧ x_2.2.1 ≤ y.2 ∧ y.2 ≤ x_2.2.1 + (↑(Pl.CB x_2.2.2.2.2.toNat) : Int) →
 (0 : Nat) + y.1.2.length ≤ y.1.2.length ∧ (0 : Nat) + x.2.2.1.length ≤ x.2.2.1.length ∧ (x.2.2.1.length + (1 : Nat)) * (40 : Nat) ≤ (70368744177664 : Nat) ∧ Exists fun (x' : Pl.Sym × Nat × List Pl.Tm × Int) =>
 (Pl.WdB d [x'.1] ∧ x'.2.1 ≤ x'.1.2.1.length ∧ x'.2.2.1.length = x'.2.1 ∧ Pl.costTs x'.2.2.1 ≤ x'.2.1 * Pl.CB (d - (1 : Int)).toNat ∧ p ≤ x'.2.2.2 ∧ x'.2.2.2 ≤ p + (1 : Int) + (↑x'.2.1 : Int) * (↑(Pl.CB (d - (1 : Int)).toNat) : Int)) ∧ x'.1.2.1.length - x'.2.1 < x.1.2.1.length - x.2.1 ∧ ((0 : Nat) = (0 : Nat) ∧ d = d ∧ (0 : Nat) = (0 : Nat) ∧ (0 : Nat) = (0 : Nat) ∧ (0 : Nat) = (0 : Nat) ∧ (0 : Nat) = (0 : Nat) ∧ IntKind.i64.wrap ((↑x.2.1 : Int) + (1 : Int)) = (↑x'.2.1 : Int) ∧ True) ∧ (Is (byts x_2.1) (byts b) ∧ y.2 = x'.2.2.2 ∧ True) ∧ (Is (syms s) (syms s) ∧ True) ∧ (ByteArray.empty = ByteArray.empty ∧ Is (AV.lit (0 : Nat) (1 : Nat) fun (x x_3 : Nat) => AV.any) nilA ∧ True) ∧ (x.1.1 = x'.1.1 ∧ Is (ints x.1.2.1) (ints x'.1.2.1) ∧ x.1.2.2 = x'.1.2.2 ∧ True) ∧ (x.1.1 = x'.1.1 ∧ ((0 : Nat) = (0 : Nat) ∧ x.2.2.1.length + (1 : Nat) = x'.2.2.1.length) ∧ True) ∧ IsO
 (AObj.arr (x.2.2.1.length + (1 : Nat)) (2 : Nat)
 (joinC x.2.2.1.length (cT x.2.2.1) (rowsCell [[st y.1.1, terms y.1.2]])))
 (arT x'.2.2.1) ∧ True) ∧ ∃ x_2 : AX,
 ((Rd (137438953472 : Int) x_2.1 x_2.2.1 ∧ x_2.2.1 + (↑(Pl.CB x_2.2.2.2.2.toNat) : Int) ≤ (137438953472 : Int) ∧ Pl.SgB (5 : Nat) (2 : Nat) x_2.2.2.1 ∧ x_2.2.2.2.2 ≤ (4 : Int)) ∧ x_2.2.2.2.2.toNat < n) ∧ (((0 : Nat) = (0 : Nat) ∧ (Is (syms s) (syms x_2.2.2.1) ∧ True) ∧ x.1.2.1.getD x.2.1 (0 : Int) = x_2.2.2.2.1 ∧ IntKind.i64.wrap (d - (1 : Int)) = x_2.2.2.2.2 ∧ True) ∧ (Is (byts b) (byts x_2.1) ∧ x.2.2.2 = x_2.2.1 ∧ True) ∧ True) ∧ ∀ (y : Pl.TP × Int),
 Pl.TmB (Pl.CB x_2.2.2.2.2.toNat) y.1 ∧ x_2.2.1 ≤ y.2 ∧ y.2 ≤ x_2.2.1 + (↑(Pl.CB x_2.2.2.2.2.toNat) : Int) →
 (0 : Nat) + y.1.2.length ≤ y.1.2.length ∧ (0 : Nat) + x.2.2.1.length ≤ x.2.2.1.length ∧ (x.2.2.1.length + (1 : Nat)) * (40 : Nat) ≤ (70368744177664 : Nat) ∧ Exists fun (x' : Pl.Sym × Nat × List Pl.Tm × Int) =>
 (Pl.WdB d [x'.1] ∧ x'.2.1 ≤ x'.1.2.1.length ∧ x'.2.2.1.length = x'.2.1 ∧ Pl.costTs x'.2.2.1 ≤ x'.2.1 * Pl.CB (d - (1 : Int)).toNat ∧ p ≤ x'.2.2.2 ∧ x'.2.2.2 ≤ p + (1 : Int) + (↑x'.2.1 : Int) * (↑(Pl.CB (d - (1 : Int)).toNat) : Int)) ∧ x'.1.2.1.length - x'.2.1 < x.1.2.1.length - x.2.1 ∧ ((0 : Nat) = (0 : Nat) ∧ d = d ∧ (0 : Nat) = (0 : Nat) ∧ (0 : Nat) = (0 : Nat) ∧ (0 : Nat) = (0 : Nat) ∧ (0 : Nat) = (0 : Nat) ∧ IntKind.i64.wrap ((↑x.2.1 : Int) + (1 : Int)) = (↑x'.2.1 : Int) ∧ True) ∧ (Is (byts x_2.1) (byts b) ∧ y.2 = x'.2.2.2 ∧ True) ∧ (Is (syms s) (syms s) ∧ True) ∧ (ByteArray.empty = ByteArray.empty ∧ Is (AV.lit (0 : Nat) (1 : Nat) fun (x x_3 : Nat) => AV.any) nilA ∧ True) ∧ (x.1.1 = x'.1.1 ∧ Is (ints x.1.2.1) (ints x'.1.2.1) ∧ x.1.2.2 = x'.1.2.2 ∧ True) ∧ (x.1.1 = x'.1.1 ∧ ((0 : Nat) = (0 : Nat) ∧ x.2.2.1.length + (1 : Nat) = x'.2.2.1.length) ∧ True) ∧ IsO
 (AObj.arr (x.2.2.1.length + (1 : Nat)) (2 : Nat)
 (joinC x.2.2.1.length (cT x.2.2.1) (rowsCell [[st y.1.1, terms y.1.2]])))
 (arT x'.2.2.1) ∧ True)
 (∃ y : Pl.TP × Int,
 (Pl.TmB (Pl.CB d.toNat) y.1 ∧ p ≤ y.2 ∧ y.2 ≤ p + (↑(Pl.CB d.toNat) : Int)) ∧ ((x.1.1 = y.1.1 ∧ ((0 : Nat) = (0 : Nat) ∧ x.2.2.1.length = y.1.2.length) ∧ True) ∧ True) ∧ (Is (byts b) (byts b) ∧ x.2.2.2 = y.2 ∧ True) ∧ IsO (arT x.2.2.1) (arT y.1.2) ∧ True)))) = Goal Tryz.prog [K_pick, (K_l4Any n)] (A_l4Any b p s u d) (K_l4Any (n + 1)).1 (K_l4Any (n + 1)).2 ((b, p, s, u, d)) := by kernel_rfl

theorem vc_l4Some (b : List Int) (p : Int) (s : Pl.Sig) : (((∃ x : List Int × Int × Int,
 Rd (1099511627776 : Int) x.1 x.2.1 ∧ (((0 : Nat) = (0 : Nat) ∧ (2 : Int) = x.2.2 ∧ True) ∧ (Is (byts b) (byts x.1) ∧ p = x.2.1 ∧ True) ∧ True) ∧ ∀ (y : Int),
 ((1 : Int) ≤ x.2.2 → (0 : Int) ≤ y ∧ y < x.2.2) ∧ (x.2.2 < (1 : Int) → y = (0 : Int)) →
 (∃ x_1 : List Int × Int × List Int,
 (Rd (1099511627776 : Int) x_1.1 x_1.2.1 ∧ x_1.2.2 ≠ [] ∧ Sz x_1.2.2) ∧ (((0 : Nat) = (0 : Nat) ∧ Is (AV.lit (4 : Nat) (1 : Nat) (rowsCell [[i64 (2 : Int)], [i64 (3 : Int)], [i64 (1 : Int)], [i64 (4 : Int)]])) (ints x_1.2.2) ∧ True) ∧ (Is (byts x.1) (byts x_1.1) ∧ x.2.1 + (1 : Int) = x_1.2.1 ∧ True) ∧ True) ∧ ∀ (y_1 : Int),
 y_1 ∈ x_1.2.2 →
 (∃ x : AX,
 (Rd (137438953472 : Int) x.1 x.2.1 ∧ x.2.1 + (↑(Pl.CB x.2.2.2.2.toNat) : Int) ≤ (137438953472 : Int) ∧ Pl.SgB (5 : Nat) (2 : Nat) x.2.2.1 ∧ x.2.2.2.2 ≤ (4 : Int)) ∧ (((0 : Nat) = (0 : Nat) ∧ (Is (syms s) (syms x.2.2.1) ∧ True) ∧ y = x.2.2.2.1 ∧ y_1 = x.2.2.2.2 ∧ True) ∧ (Is (byts x_1.1) (byts x.1) ∧ x_1.2.1 + (1 : Int) = x.2.1 ∧ True) ∧ True) ∧ ∀ (y : Pl.TP × Int),
 Pl.TmB (Pl.CB x.2.2.2.2.toNat) y.1 ∧ x.2.1 ≤ y.2 ∧ y.2 ≤ x.2.1 + (↑(Pl.CB x.2.2.2.2.toNat) : Int) →
 ∃ x_2 : List Int × Int × Int,
 Rd (1099511627776 : Int) x_2.1 x_2.2.1 ∧ (((0 : Nat) = (0 : Nat) ∧ (48 : Int) = x_2.2.2 ∧ True) ∧ (Is (byts x.1) (byts x_2.1) ∧ y.2 = x_2.2.1 ∧ True) ∧ True) ∧ ∀ (y_2 : Int),
 ((1 : Int) ≤ x_2.2.2 → (0 : Int) ≤ y_2 ∧ y_2 < x_2.2.2) ∧ (x_2.2.2 < (1 : Int) → y_2 = (0 : Int)) →
 condP (y_2 == (0 : Int))
 (∃ x : List Int × Int × List ByteArray,
 (Rd (1099511627776 : Int) x.1 x.2.1 ∧ x.2.2 ≠ [] ∧ Sz x.2.2) ∧ (((0 : Nat) = (0 : Nat) ∧ Is
 (AV.lit (4 : Nat) (1 : Nat)
 (rowsCell
 [[st (ByteArray.mk #[])], [st (ByteArray.mk #[(65 : UInt8)])],
 [st (ByteArray.mk #[(97 : UInt8), (98 : UInt8), (99 : UInt8)])], [st (ByteArray.mk #[(102 : UInt8)])]]))
 (strs x.2.2) ∧ True) ∧ (Is (byts x_2.1) (byts x.1) ∧ x_2.2.1 + (1 : Int) = x.2.1 ∧ True) ∧ True) ∧ ∀ (y_3 : ByteArray),
 y_3 ∈ x.2.2 →
 ∃ y_4 : Pl.TP × Int,
 (Pl.TmB (1500 : Nat) y_4.1 ∧ p ≤ y_4.2 ∧ y_4.2 ≤ p + (500 : Int)) ∧ (0 : Nat) + y.1.2.length ≤ y.1.2.length ∧ ((y_3 = y_4.1.1 ∧ Is (terms y.1.2) (terms y_4.1.2) ∧ True) ∧ True) ∧ (Is (byts x.1) (byts b) ∧ x.2.1 + (1 : Int) = y_4.2 ∧ True) ∧ True)
 (condP (y_2 == (1 : Int))
 (∃ x : Pl.TP,
 SmT (Pl.Tree.mk x.1 x.2) ∧ (((y.1.1 = x.1 ∧ ((0 : Nat) = (0 : Nat) ∧ y.1.2.length = x.2.length) ∧ True) ∧ True) ∧ IsO (arT y.1.2) (arT x.2) ∧ True) ∧ ∀ (y_3 : Unit),
 True →
 (0 : Nat) + y.1.2.length ≤ x.2.length ∧ (y.1.2.length + (1 : Nat)) * (40 : Nat) ≤ (70368744177664 : Nat) ∧ ∃ y_4 : Pl.TP × Int,
 (Pl.TmB (1500 : Nat) y_4.1 ∧ p ≤ y_4.2 ∧ y_4.2 ≤ p + (500 : Int)) ∧ (0 : Nat) + (y.1.2.length + (1 : Nat)) ≤ y.1.2.length + (1 : Nat) ∧ ((y.1.1 = y_4.1.1 ∧ Is
 (AV.sl (y.1.2.length + (1 : Nat)) (2 : Nat) fun (i j : Nat) =>
 joinC y.1.2.length (cT x.2) (rowsCell [[st x.1, terms x.2]]) i j)
 (terms y_4.1.2) ∧ True) ∧ True) ∧ (Is (byts x_2.1) (byts b) ∧ x_2.2.1 + (1 : Int) = y_4.2 ∧ True) ∧ True)
 (condP (y_2 == (2 : Int))
 (∃ x : Pl.TP,
 SmT (Pl.Tree.mk x.1 x.2) ∧ (((y.1.1 = x.1 ∧ ((0 : Nat) = (0 : Nat) ∧ y.1.2.length = x.2.length) ∧ True) ∧ True) ∧ IsO (arT y.1.2) (arT x.2) ∧ True) ∧ ∀ (y_3 : Unit),
 True →
 ∃ x_3 : Pl.TP,
 SmT (Pl.Tree.mk x_3.1 x_3.2) ∧ (((y.1.1 = x_3.1 ∧ ((0 : Nat) = (0 : Nat) ∧ y.1.2.length = x_3.2.length) ∧ True) ∧ True) ∧ IsO (arT x.2) (arT x_3.2) ∧ True) ∧ ∀ (y_4 : Unit),
 True →
 (0 : Nat) + y.1.2.length ≤ x_3.2.length ∧ (y.1.2.length + (2 : Nat)) * (40 : Nat) ≤ (70368744177664 : Nat) ∧ ∃ y_5 : Pl.TP × Int,
 (Pl.TmB (1500 : Nat) y_5.1 ∧ p ≤ y_5.2 ∧ y_5.2 ≤ p + (500 : Int)) ∧ (0 : Nat) + (y.1.2.length + (2 : Nat)) ≤ y.1.2.length + (2 : Nat) ∧ ((y.1.1 = y_5.1.1 ∧ Is
 (AV.sl (y.1.2.length + (2 : Nat)) (2 : Nat) fun (i j : Nat) =>
 joinC y.1.2.length (cT x_3.2)
 (rowsCell [[st x.1, terms x.2], [st x_3.1, terms x_3.2]]) i j)
 (terms y_5.1.2) ∧ True) ∧ True) ∧ (Is (byts x_2.1) (byts b) ∧ x_2.2.1 + (1 : Int) = y_5.2 ∧ True) ∧ True)
 (∃ y_3 : Pl.TP × Int,
 (Pl.TmB (1500 : Nat) y_3.1 ∧ p ≤ y_3.2 ∧ y_3.2 ≤ p + (500 : Int)) ∧ (0 : Nat) + y.1.2.length ≤ y.1.2.length ∧ ((y.1.1 = y_3.1.1 ∧ Is (terms y.1.2) (terms y_3.1.2) ∧ True) ∧ True) ∧ (Is (byts x_2.1) (byts b) ∧ x_2.2.1 + (1 : Int) = y_3.2 ∧ True) ∧ True)))) ∧ ∃ x : AX,
 (Rd (137438953472 : Int) x.1 x.2.1 ∧ x.2.1 + (↑(Pl.CB x.2.2.2.2.toNat) : Int) ≤ (137438953472 : Int) ∧ Pl.SgB (5 : Nat) (2 : Nat) x.2.2.1 ∧ x.2.2.2.2 ≤ (4 : Int)) ∧ (((0 : Nat) = (0 : Nat) ∧ (Is (syms s) (syms x.2.2.1) ∧ True) ∧ y = x.2.2.2.1 ∧ y_1 = x.2.2.2.2 ∧ True) ∧ (Is (byts x_1.1) (byts x.1) ∧ x_1.2.1 + (1 : Int) = x.2.1 ∧ True) ∧ True) ∧ ∀ (y : Pl.TP × Int),
 Pl.TmB (Pl.CB x.2.2.2.2.toNat) y.1 ∧ x.2.1 ≤ y.2 ∧ y.2 ≤ x.2.1 + (↑(Pl.CB x.2.2.2.2.toNat) : Int) →
 ∃ x_2 : List Int × Int × Int,
 Rd (1099511627776 : Int) x_2.1 x_2.2.1 ∧ (((0 : Nat) = (0 : Nat) ∧ (48 : Int) = x_2.2.2 ∧ True) ∧ (Is (byts x.1) (byts x_2.1) ∧ y.2 = x_2.2.1 ∧ True) ∧ True) ∧ ∀ (y_2 : Int),
 ((1 : Int) ≤ x_2.2.2 → (0 : Int) ≤ y_2 ∧ y_2 < x_2.2.2) ∧ (x_2.2.2 < (1 : Int) → y_2 = (0 : Int)) →
 condP (y_2 == (0 : Int))
 (∃ x : List Int × Int × List ByteArray,
 (Rd (1099511627776 : Int) x.1 x.2.1 ∧ x.2.2 ≠ [] ∧ Sz x.2.2) ∧ (((0 : Nat) = (0 : Nat) ∧ Is
 (AV.lit (4 : Nat) (1 : Nat)
 (rowsCell
 [[st (ByteArray.mk #[])], [st (ByteArray.mk #[(65 : UInt8)])],
 [st (ByteArray.mk #[(97 : UInt8), (98 : UInt8), (99 : UInt8)])], [st (ByteArray.mk #[(102 : UInt8)])]]))
 (strs x.2.2) ∧ True) ∧ (Is (byts x_2.1) (byts x.1) ∧ x_2.2.1 + (1 : Int) = x.2.1 ∧ True) ∧ True) ∧ ∀ (y_3 : ByteArray),
 y_3 ∈ x.2.2 →
 ∃ y_4 : Pl.TP × Int,
 (Pl.TmB (1500 : Nat) y_4.1 ∧ p ≤ y_4.2 ∧ y_4.2 ≤ p + (500 : Int)) ∧ (0 : Nat) + y.1.2.length ≤ y.1.2.length ∧ ((y_3 = y_4.1.1 ∧ Is (terms y.1.2) (terms y_4.1.2) ∧ True) ∧ True) ∧ (Is (byts x.1) (byts b) ∧ x.2.1 + (1 : Int) = y_4.2 ∧ True) ∧ True)
 (condP (y_2 == (1 : Int))
 (∃ x : Pl.TP,
 SmT (Pl.Tree.mk x.1 x.2) ∧ (((y.1.1 = x.1 ∧ ((0 : Nat) = (0 : Nat) ∧ y.1.2.length = x.2.length) ∧ True) ∧ True) ∧ IsO (arT y.1.2) (arT x.2) ∧ True) ∧ ∀ (y_3 : Unit),
 True →
 (0 : Nat) + y.1.2.length ≤ x.2.length ∧ (y.1.2.length + (1 : Nat)) * (40 : Nat) ≤ (70368744177664 : Nat) ∧ ∃ y_4 : Pl.TP × Int,
 (Pl.TmB (1500 : Nat) y_4.1 ∧ p ≤ y_4.2 ∧ y_4.2 ≤ p + (500 : Int)) ∧ (0 : Nat) + (y.1.2.length + (1 : Nat)) ≤ y.1.2.length + (1 : Nat) ∧ ((y.1.1 = y_4.1.1 ∧ Is
 (AV.sl (y.1.2.length + (1 : Nat)) (2 : Nat) fun (i j : Nat) =>
 joinC y.1.2.length (cT x.2) (rowsCell [[st x.1, terms x.2]]) i j)
 (terms y_4.1.2) ∧ True) ∧ True) ∧ (Is (byts x_2.1) (byts b) ∧ x_2.2.1 + (1 : Int) = y_4.2 ∧ True) ∧ True)
 (condP (y_2 == (2 : Int))
 (∃ x : Pl.TP,
 SmT (Pl.Tree.mk x.1 x.2) ∧ (((y.1.1 = x.1 ∧ ((0 : Nat) = (0 : Nat) ∧ y.1.2.length = x.2.length) ∧ True) ∧ True) ∧ IsO (arT y.1.2) (arT x.2) ∧ True) ∧ ∀ (y_3 : Unit),
 True →
 ∃ x_3 : Pl.TP,
 SmT (Pl.Tree.mk x_3.1 x_3.2) ∧ (((y.1.1 = x_3.1 ∧ ((0 : Nat) = (0 : Nat) ∧ y.1.2.length = x_3.2.length) ∧ True) ∧ True) ∧ IsO (arT x.2) (arT x_3.2) ∧ True) ∧ ∀ (y_4 : Unit),
 True →
 (0 : Nat) + y.1.2.length ≤ x_3.2.length ∧ (y.1.2.length + (2 : Nat)) * (40 : Nat) ≤ (70368744177664 : Nat) ∧ ∃ y_5 : Pl.TP × Int,
 (Pl.TmB (1500 : Nat) y_5.1 ∧ p ≤ y_5.2 ∧ y_5.2 ≤ p + (500 : Int)) ∧ (0 : Nat) + (y.1.2.length + (2 : Nat)) ≤ y.1.2.length + (2 : Nat) ∧ ((y.1.1 = y_5.1.1 ∧ Is
 (AV.sl (y.1.2.length + (2 : Nat)) (2 : Nat) fun (i j : Nat) =>
 joinC y.1.2.length (cT x_3.2)
 (rowsCell [[st x.1, terms x.2], [st x_3.1, terms x_3.2]]) i j)
 (terms y_5.1.2) ∧ True) ∧ True) ∧ (Is (byts x_2.1) (byts b) ∧ x_2.2.1 + (1 : Int) = y_5.2 ∧ True) ∧ True)
 (∃ y_3 : Pl.TP × Int,
 (Pl.TmB (1500 : Nat) y_3.1 ∧ p ≤ y_3.2 ∧ y_3.2 ≤ p + (500 : Int)) ∧ (0 : Nat) + y.1.2.length ≤ y.1.2.length ∧ ((y.1.1 = y_3.1.1 ∧ Is (terms y.1.2) (terms y_3.1.2) ∧ True) ∧ True) ∧ (Is (byts x_2.1) (byts b) ∧ x_2.2.1 + (1 : Int) = y_3.2 ∧ True) ∧ True)))) ∧ ∃ x_1 : List Int × Int × List Int,
 (Rd (1099511627776 : Int) x_1.1 x_1.2.1 ∧ x_1.2.2 ≠ [] ∧ Sz x_1.2.2) ∧ (((0 : Nat) = (0 : Nat) ∧ Is (AV.lit (4 : Nat) (1 : Nat) (rowsCell [[i64 (2 : Int)], [i64 (3 : Int)], [i64 (1 : Int)], [i64 (4 : Int)]])) (ints x_1.2.2) ∧ True) ∧ (Is (byts x.1) (byts x_1.1) ∧ x.2.1 + (1 : Int) = x_1.2.1 ∧ True) ∧ True) ∧ ∀ (y_1 : Int),
 y_1 ∈ x_1.2.2 →
 ∃ x : AX,
 (Rd (137438953472 : Int) x.1 x.2.1 ∧ x.2.1 + (↑(Pl.CB x.2.2.2.2.toNat) : Int) ≤ (137438953472 : Int) ∧ Pl.SgB (5 : Nat) (2 : Nat) x.2.2.1 ∧ x.2.2.2.2 ≤ (4 : Int)) ∧ (((0 : Nat) = (0 : Nat) ∧ (Is (syms s) (syms x.2.2.1) ∧ True) ∧ y = x.2.2.2.1 ∧ y_1 = x.2.2.2.2 ∧ True) ∧ (Is (byts x_1.1) (byts x.1) ∧ x_1.2.1 + (1 : Int) = x.2.1 ∧ True) ∧ True) ∧ ∀ (y : Pl.TP × Int),
 Pl.TmB (Pl.CB x.2.2.2.2.toNat) y.1 ∧ x.2.1 ≤ y.2 ∧ y.2 ≤ x.2.1 + (↑(Pl.CB x.2.2.2.2.toNat) : Int) →
 ∃ x_2 : List Int × Int × Int,
 Rd (1099511627776 : Int) x_2.1 x_2.2.1 ∧ (((0 : Nat) = (0 : Nat) ∧ (48 : Int) = x_2.2.2 ∧ True) ∧ (Is (byts x.1) (byts x_2.1) ∧ y.2 = x_2.2.1 ∧ True) ∧ True) ∧ ∀ (y_2 : Int),
 ((1 : Int) ≤ x_2.2.2 → (0 : Int) ≤ y_2 ∧ y_2 < x_2.2.2) ∧ (x_2.2.2 < (1 : Int) → y_2 = (0 : Int)) →
 condP (y_2 == (0 : Int))
 (∃ x : List Int × Int × List ByteArray,
 (Rd (1099511627776 : Int) x.1 x.2.1 ∧ x.2.2 ≠ [] ∧ Sz x.2.2) ∧ (((0 : Nat) = (0 : Nat) ∧ Is
 (AV.lit (4 : Nat) (1 : Nat)
 (rowsCell
 [[st (ByteArray.mk #[])], [st (ByteArray.mk #[(65 : UInt8)])],
 [st (ByteArray.mk #[(97 : UInt8), (98 : UInt8), (99 : UInt8)])], [st (ByteArray.mk #[(102 : UInt8)])]]))
 (strs x.2.2) ∧ True) ∧ (Is (byts x_2.1) (byts x.1) ∧ x_2.2.1 + (1 : Int) = x.2.1 ∧ True) ∧ True) ∧ ∀ (y_3 : ByteArray),
 y_3 ∈ x.2.2 →
 ∃ y_4 : Pl.TP × Int,
 (Pl.TmB (1500 : Nat) y_4.1 ∧ p ≤ y_4.2 ∧ y_4.2 ≤ p + (500 : Int)) ∧ (0 : Nat) + y.1.2.length ≤ y.1.2.length ∧ ((y_3 = y_4.1.1 ∧ Is (terms y.1.2) (terms y_4.1.2) ∧ True) ∧ True) ∧ (Is (byts x.1) (byts b) ∧ x.2.1 + (1 : Int) = y_4.2 ∧ True) ∧ True)
 (condP (y_2 == (1 : Int))
 (∃ x : Pl.TP,
 SmT (Pl.Tree.mk x.1 x.2) ∧ (((y.1.1 = x.1 ∧ ((0 : Nat) = (0 : Nat) ∧ y.1.2.length = x.2.length) ∧ True) ∧ True) ∧ IsO (arT y.1.2) (arT x.2) ∧ True) ∧ ∀ (y_3 : Unit),
 True →
 (0 : Nat) + y.1.2.length ≤ x.2.length ∧ (y.1.2.length + (1 : Nat)) * (40 : Nat) ≤ (70368744177664 : Nat) ∧ ∃ y_4 : Pl.TP × Int,
 (Pl.TmB (1500 : Nat) y_4.1 ∧ p ≤ y_4.2 ∧ y_4.2 ≤ p + (500 : Int)) ∧ (0 : Nat) + (y.1.2.length + (1 : Nat)) ≤ y.1.2.length + (1 : Nat) ∧ ((y.1.1 = y_4.1.1 ∧ Is
 (AV.sl (y.1.2.length + (1 : Nat)) (2 : Nat) fun (i j : Nat) =>
 joinC y.1.2.length (cT x.2) (rowsCell [[st x.1, terms x.2]]) i j)
 (terms y_4.1.2) ∧ True) ∧ True) ∧ (Is (byts x_2.1) (byts b) ∧ x_2.2.1 + (1 : Int) = y_4.2 ∧ True) ∧ True)
 (condP (y_2 == (2 : Int))
 (∃ x : Pl.TP,
 SmT (Pl.Tree.mk x.1 x.2) ∧ (((y.1.1 = x.1 ∧ ((0 : Nat) = (0 : Nat) ∧ y.1.2.length = x.2.length) ∧ True) ∧ True) ∧ IsO (arT y.1.2) (arT x.2) ∧ True) ∧ ∀ (y_3 : Unit),
 True →
 ∃ x_3 : Pl.TP,
 SmT (Pl.Tree.mk x_3.1 x_3.2) ∧ (((y.1.1 = x_3.1 ∧ ((0 : Nat) = (0 : Nat) ∧ y.1.2.length = x_3.2.length) ∧ True) ∧ True) ∧ IsO (arT x.2) (arT x_3.2) ∧ True) ∧ ∀ (y_4 : Unit),
 True →
 (0 : Nat) + y.1.2.length ≤ x_3.2.length ∧ (y.1.2.length + (2 : Nat)) * (40 : Nat) ≤ (70368744177664 : Nat) ∧ ∃ y_5 : Pl.TP × Int,
 (Pl.TmB (1500 : Nat) y_5.1 ∧ p ≤ y_5.2 ∧ y_5.2 ≤ p + (500 : Int)) ∧ (0 : Nat) + (y.1.2.length + (2 : Nat)) ≤ y.1.2.length + (2 : Nat) ∧ ((y.1.1 = y_5.1.1 ∧ Is
 (AV.sl (y.1.2.length + (2 : Nat)) (2 : Nat) fun (i j : Nat) =>
 joinC y.1.2.length (cT x_3.2)
 (rowsCell [[st x.1, terms x.2], [st x_3.1, terms x_3.2]]) i j)
 (terms y_5.1.2) ∧ True) ∧ True) ∧ (Is (byts x_2.1) (byts b) ∧ x_2.2.1 + (1 : Int) = y_5.2 ∧ True) ∧ True)
 (∃ y_3 : Pl.TP × Int,
 (Pl.TmB (1500 : Nat) y_3.1 ∧ p ≤ y_3.2 ∧ y_3.2 ≤ p + (500 : Int)) ∧ (0 : Nat) + y.1.2.length ≤ y.1.2.length ∧ ((y.1.1 = y_3.1.1 ∧ Is (terms y.1.2) (terms y_3.1.2) ∧ True) ∧ True) ∧ (Is (byts x_2.1) (byts b) ∧ x_2.2.1 + (1 : Int) = y_3.2 ∧ True) ∧ True)))) ∧ ∃ x : List Int × Int × Int,
 Rd (1099511627776 : Int) x.1 x.2.1 ∧ (((0 : Nat) = (0 : Nat) ∧ (2 : Int) = x.2.2 ∧ True) ∧ (Is (byts b) (byts x.1) ∧ p = x.2.1 ∧ True) ∧ True) ∧ ∀ (y : Int),
 ((1 : Int) ≤ x.2.2 → (0 : Int) ≤ y ∧ y < x.2.2) ∧ (x.2.2 < (1 : Int) → y = (0 : Int)) →
 ∃ x_1 : List Int × Int × List Int,
 (Rd (1099511627776 : Int) x_1.1 x_1.2.1 ∧ x_1.2.2 ≠ [] ∧ Sz x_1.2.2) ∧ (((0 : Nat) = (0 : Nat) ∧ Is (AV.lit (4 : Nat) (1 : Nat) (rowsCell [[i64 (2 : Int)], [i64 (3 : Int)], [i64 (1 : Int)], [i64 (4 : Int)]])) (ints x_1.2.2) ∧ True) ∧ (Is (byts x.1) (byts x_1.1) ∧ x.2.1 + (1 : Int) = x_1.2.1 ∧ True) ∧ True) ∧ ∀ (y_1 : Int),
 y_1 ∈ x_1.2.2 →
 ∃ x : AX,
 (Rd (137438953472 : Int) x.1 x.2.1 ∧ x.2.1 + (↑(Pl.CB x.2.2.2.2.toNat) : Int) ≤ (137438953472 : Int) ∧ Pl.SgB (5 : Nat) (2 : Nat) x.2.2.1 ∧ x.2.2.2.2 ≤ (4 : Int)) ∧ (((0 : Nat) = (0 : Nat) ∧ (Is (syms s) (syms x.2.2.1) ∧ True) ∧ y = x.2.2.2.1 ∧ y_1 = x.2.2.2.2 ∧ True) ∧ (Is (byts x_1.1) (byts x.1) ∧ x_1.2.1 + (1 : Int) = x.2.1 ∧ True) ∧ True) ∧ ∀ (y : Pl.TP × Int),
 Pl.TmB (Pl.CB x.2.2.2.2.toNat) y.1 ∧ x.2.1 ≤ y.2 ∧ y.2 ≤ x.2.1 + (↑(Pl.CB x.2.2.2.2.toNat) : Int) →
 ∃ x_2 : List Int × Int × Int,
 Rd (1099511627776 : Int) x_2.1 x_2.2.1 ∧ (((0 : Nat) = (0 : Nat) ∧ (48 : Int) = x_2.2.2 ∧ True) ∧ (Is (byts x.1) (byts x_2.1) ∧ y.2 = x_2.2.1 ∧ True) ∧ True) ∧ ∀ (y_2 : Int),
 ((1 : Int) ≤ x_2.2.2 → (0 : Int) ≤ y_2 ∧ y_2 < x_2.2.2) ∧ (x_2.2.2 < (1 : Int) → y_2 = (0 : Int)) →
 condP (y_2 == (0 : Int))
 (∃ x : List Int × Int × List ByteArray,
 (Rd (1099511627776 : Int) x.1 x.2.1 ∧ x.2.2 ≠ [] ∧ Sz x.2.2) ∧ (((0 : Nat) = (0 : Nat) ∧ Is
 (AV.lit (4 : Nat) (1 : Nat)
 (rowsCell
 [[st (ByteArray.mk #[])], [st (ByteArray.mk #[(65 : UInt8)])], [st (ByteArray.mk #[(97 : UInt8), (98 : UInt8), (99 : UInt8)])],
 [st (ByteArray.mk #[(102 : UInt8)])]]))
 (strs x.2.2) ∧ True) ∧ (Is (byts x_2.1) (byts x.1) ∧ x_2.2.1 + (1 : Int) = x.2.1 ∧ True) ∧ True) ∧ ∀ (y_3 : ByteArray),
 y_3 ∈ x.2.2 →
 ∃ y_4 : Pl.TP × Int,
 (Pl.TmB (1500 : Nat) y_4.1 ∧ p ≤ y_4.2 ∧ y_4.2 ≤ p + (500 : Int)) ∧ (0 : Nat) + y.1.2.length ≤ y.1.2.length ∧ ((y_3 = y_4.1.1 ∧ Is (terms y.1.2) (terms y_4.1.2) ∧ True) ∧ True) ∧ (Is (byts x.1) (byts b) ∧ x.2.1 + (1 : Int) = y_4.2 ∧ True) ∧ True)
 (condP (y_2 == (1 : Int))
 (∃ x : Pl.TP,
 SmT (Pl.Tree.mk x.1 x.2) ∧ (((y.1.1 = x.1 ∧ ((0 : Nat) = (0 : Nat) ∧ y.1.2.length = x.2.length) ∧ True) ∧ True) ∧ IsO (arT y.1.2) (arT x.2) ∧ True) ∧ ∀ (y_3 : Unit),
 True →
 (0 : Nat) + y.1.2.length ≤ x.2.length ∧ (y.1.2.length + (1 : Nat)) * (40 : Nat) ≤ (70368744177664 : Nat) ∧ ∃ y_4 : Pl.TP × Int,
 (Pl.TmB (1500 : Nat) y_4.1 ∧ p ≤ y_4.2 ∧ y_4.2 ≤ p + (500 : Int)) ∧ (0 : Nat) + (y.1.2.length + (1 : Nat)) ≤ y.1.2.length + (1 : Nat) ∧ ((y.1.1 = y_4.1.1 ∧ Is
 (AV.sl (y.1.2.length + (1 : Nat)) (2 : Nat) fun (i j : Nat) =>
 joinC y.1.2.length (cT x.2) (rowsCell [[st x.1, terms x.2]]) i j)
 (terms y_4.1.2) ∧ True) ∧ True) ∧ (Is (byts x_2.1) (byts b) ∧ x_2.2.1 + (1 : Int) = y_4.2 ∧ True) ∧ True)
 (condP (y_2 == (2 : Int))
 (∃ x : Pl.TP,
 SmT (Pl.Tree.mk x.1 x.2) ∧ (((y.1.1 = x.1 ∧ ((0 : Nat) = (0 : Nat) ∧ y.1.2.length = x.2.length) ∧ True) ∧ True) ∧ IsO (arT y.1.2) (arT x.2) ∧ True) ∧ ∀ (y_3 : Unit),
 True →
 ∃ x_3 : Pl.TP,
 SmT (Pl.Tree.mk x_3.1 x_3.2) ∧ (((y.1.1 = x_3.1 ∧ ((0 : Nat) = (0 : Nat) ∧ y.1.2.length = x_3.2.length) ∧ True) ∧ True) ∧ IsO (arT x.2) (arT x_3.2) ∧ True) ∧ ∀ (y_4 : Unit),
 True →
 (0 : Nat) + y.1.2.length ≤ x_3.2.length ∧ (y.1.2.length + (2 : Nat)) * (40 : Nat) ≤ (70368744177664 : Nat) ∧ ∃ y_5 : Pl.TP × Int,
 (Pl.TmB (1500 : Nat) y_5.1 ∧ p ≤ y_5.2 ∧ y_5.2 ≤ p + (500 : Int)) ∧ (0 : Nat) + (y.1.2.length + (2 : Nat)) ≤ y.1.2.length + (2 : Nat) ∧ ((y.1.1 = y_5.1.1 ∧ Is
 (AV.sl (y.1.2.length + (2 : Nat)) (2 : Nat) fun (i j : Nat) =>
 joinC y.1.2.length (cT x_3.2)
 (rowsCell [[st x.1, terms x.2], [st x_3.1, terms x_3.2]]) i j)
 (terms y_5.1.2) ∧ True) ∧ True) ∧ (Is (byts x_2.1) (byts b) ∧ x_2.2.1 + (1 : Int) = y_5.2 ∧ True) ∧ True)
 (∃ y_3 : Pl.TP × Int,
 (Pl.TmB (1500 : Nat) y_3.1 ∧ p ≤ y_3.2 ∧ y_3.2 ≤ p + (500 : Int)) ∧ (0 : Nat) + y.1.2.length ≤ y.1.2.length ∧ ((y.1.1 = y_3.1.1 ∧ Is (terms y.1.2) (terms y_3.1.2) ∧ True) ∧ True) ∧ (Is (byts x_2.1) (byts b) ∧ x_2.2.1 + (1 : Int) = y_3.2 ∧ True) ∧ True)))) ∧ (∃ x : List Int × Int × Int,
 Rd (1099511627776 : Int) x.1 x.2.1 ∧ (((0 : Nat) = (0 : Nat) ∧ (2 : Int) = x.2.2 ∧ True) ∧ (Is (byts b) (byts x.1) ∧ p = x.2.1 ∧ True) ∧ True) ∧ ∀ (y : Int),
 ((1 : Int) ≤ x.2.2 → (0 : Int) ≤ y ∧ y < x.2.2) ∧ (x.2.2 < (1 : Int) → y = (0 : Int)) →
 ((∃ x_1 : List Int × Int × List Int,
 (Rd (1099511627776 : Int) x_1.1 x_1.2.1 ∧ x_1.2.2 ≠ [] ∧ Sz x_1.2.2) ∧ (((0 : Nat) = (0 : Nat) ∧ Is (AV.lit (4 : Nat) (1 : Nat) (rowsCell [[i64 (2 : Int)], [i64 (3 : Int)], [i64 (1 : Int)], [i64 (4 : Int)]])) (ints x_1.2.2) ∧ True) ∧ (Is (byts x.1) (byts x_1.1) ∧ x.2.1 + (1 : Int) = x_1.2.1 ∧ True) ∧ True) ∧ ∀ (y_1 : Int),
 y_1 ∈ x_1.2.2 →
 (∃ x : AX,
 (Rd (137438953472 : Int) x.1 x.2.1 ∧ x.2.1 + (↑(Pl.CB x.2.2.2.2.toNat) : Int) ≤ (137438953472 : Int) ∧ Pl.SgB (5 : Nat) (2 : Nat) x.2.2.1 ∧ x.2.2.2.2 ≤ (4 : Int)) ∧ (((0 : Nat) = (0 : Nat) ∧ (Is (syms s) (syms x.2.2.1) ∧ True) ∧ y = x.2.2.2.1 ∧ y_1 = x.2.2.2.2 ∧ True) ∧ (Is (byts x_1.1) (byts x.1) ∧ x_1.2.1 + (1 : Int) = x.2.1 ∧ True) ∧ True) ∧ ∀ (y : Pl.TP × Int),
 Pl.TmB (Pl.CB x.2.2.2.2.toNat) y.1 ∧ x.2.1 ≤ y.2 ∧ y.2 ≤ x.2.1 + (↑(Pl.CB x.2.2.2.2.toNat) : Int) →
 ∃ x_2 : List Int × Int × Int,
 Rd (1099511627776 : Int) x_2.1 x_2.2.1 ∧ (((0 : Nat) = (0 : Nat) ∧ (48 : Int) = x_2.2.2 ∧ True) ∧ (Is (byts x.1) (byts x_2.1) ∧ y.2 = x_2.2.1 ∧ True) ∧ True) ∧ ∀ (y_2 : Int),
 ((1 : Int) ≤ x_2.2.2 → (0 : Int) ≤ y_2 ∧ y_2 < x_2.2.2) ∧ (x_2.2.2 < (1 : Int) → y_2 = (0 : Int)) →
 condP (y_2 == (0 : Int))
 (∃ x : List Int × Int × List ByteArray,
 (Rd (1099511627776 : Int) x.1 x.2.1 ∧ x.2.2 ≠ [] ∧ Sz x.2.2) ∧ (((0 : Nat) = (0 : Nat) ∧ Is
 (AV.lit (4 : Nat) (1 : Nat)
 (rowsCell
 [[st (ByteArray.mk #[])], [st (ByteArray.mk #[(65 : UInt8)])],
 [st (ByteArray.mk #[(97 : UInt8), (98 : UInt8), (99 : UInt8)])], [st (ByteArray.mk #[(102 : UInt8)])]]))
 (strs x.2.2) ∧ True) ∧ (Is (byts x_2.1) (byts x.1) ∧ x_2.2.1 + (1 : Int) = x.2.1 ∧ True) ∧ True) ∧ ∀ (y_3 : ByteArray),
 y_3 ∈ x.2.2 →
 ∃ y_4 : Pl.TP × Int,
 (Pl.TmB (1500 : Nat) y_4.1 ∧ p ≤ y_4.2 ∧ y_4.2 ≤ p + (500 : Int)) ∧ (0 : Nat) + y.1.2.length ≤ y.1.2.length ∧ ((y_3 = y_4.1.1 ∧ Is (terms y.1.2) (terms y_4.1.2) ∧ True) ∧ True) ∧ (Is (byts x.1) (byts b) ∧ x.2.1 + (1 : Int) = y_4.2 ∧ True) ∧ True)
 (condP (y_2 == (1 : Int))
 (∃ x : Pl.TP,
 SmT (Pl.Tree.mk x.1 x.2) ∧ (((y.1.1 = x.1 ∧ ((0 : Nat) = (0 : Nat) ∧ y.1.2.length = x.2.length) ∧ True) ∧ True) ∧ IsO (arT y.1.2) (arT x.2) ∧ True) ∧ ∀ (y_3 : Unit),
 True →
 (0 : Nat) + y.1.2.length ≤ x.2.length ∧ (y.1.2.length + (1 : Nat)) * (40 : Nat) ≤ (70368744177664 : Nat) ∧ ∃ y_4 : Pl.TP × Int,
 (Pl.TmB (1500 : Nat) y_4.1 ∧ p ≤ y_4.2 ∧ y_4.2 ≤ p + (500 : Int)) ∧ (0 : Nat) + (y.1.2.length + (1 : Nat)) ≤ y.1.2.length + (1 : Nat) ∧ ((y.1.1 = y_4.1.1 ∧ Is
 (AV.sl (y.1.2.length + (1 : Nat)) (2 : Nat) fun (i j : Nat) =>
 joinC y.1.2.length (cT x.2) (rowsCell [[st x.1, terms x.2]]) i j)
 (terms y_4.1.2) ∧ True) ∧ True) ∧ (Is (byts x_2.1) (byts b) ∧ x_2.2.1 + (1 : Int) = y_4.2 ∧ True) ∧ True)
 (condP (y_2 == (2 : Int))
 (∃ x : Pl.TP,
 SmT (Pl.Tree.mk x.1 x.2) ∧ (((y.1.1 = x.1 ∧ ((0 : Nat) = (0 : Nat) ∧ y.1.2.length = x.2.length) ∧ True) ∧ True) ∧ IsO (arT y.1.2) (arT x.2) ∧ True) ∧ ∀ (y_3 : Unit),
 True →
 ∃ x_3 : Pl.TP,
 SmT (Pl.Tree.mk x_3.1 x_3.2) ∧ (((y.1.1 = x_3.1 ∧ ((0 : Nat) = (0 : Nat) ∧ y.1.2.length = x_3.2.length) ∧ True) ∧ True) ∧ IsO (arT x.2) (arT x_3.2) ∧ True) ∧ ∀ (y_4 : Unit),
 True →
 (0 : Nat) + y.1.2.length ≤ x_3.2.length ∧ (y.1.2.length + (2 : Nat)) * (40 : Nat) ≤ (70368744177664 : Nat) ∧ ∃ y_5 : Pl.TP × Int,
 (Pl.TmB (1500 : Nat) y_5.1 ∧ p ≤ y_5.2 ∧ y_5.2 ≤ p + (500 : Int)) ∧ (0 : Nat) + (y.1.2.length + (2 : Nat)) ≤ y.1.2.length + (2 : Nat) ∧ ((y.1.1 = y_5.1.1 ∧ Is
 (AV.sl (y.1.2.length + (2 : Nat)) (2 : Nat) fun (i j : Nat) =>
 joinC y.1.2.length (cT x_3.2)
 (rowsCell [[st x.1, terms x.2], [st x_3.1, terms x_3.2]]) i j)
 (terms y_5.1.2) ∧ True) ∧ True) ∧ (Is (byts x_2.1) (byts b) ∧ x_2.2.1 + (1 : Int) = y_5.2 ∧ True) ∧ True)
 (∃ y_3 : Pl.TP × Int,
 (Pl.TmB (1500 : Nat) y_3.1 ∧ p ≤ y_3.2 ∧ y_3.2 ≤ p + (500 : Int)) ∧ (0 : Nat) + y.1.2.length ≤ y.1.2.length ∧ ((y.1.1 = y_3.1.1 ∧ Is (terms y.1.2) (terms y_3.1.2) ∧ True) ∧ True) ∧ (Is (byts x_2.1) (byts b) ∧ x_2.2.1 + (1 : Int) = y_3.2 ∧ True) ∧ True)))) ∧ ∃ x : AX,
 (Rd (137438953472 : Int) x.1 x.2.1 ∧ x.2.1 + (↑(Pl.CB x.2.2.2.2.toNat) : Int) ≤ (137438953472 : Int) ∧ Pl.SgB (5 : Nat) (2 : Nat) x.2.2.1 ∧ x.2.2.2.2 ≤ (4 : Int)) ∧ (((0 : Nat) = (0 : Nat) ∧ (Is (syms s) (syms x.2.2.1) ∧ True) ∧ y = x.2.2.2.1 ∧ y_1 = x.2.2.2.2 ∧ True) ∧ (Is (byts x_1.1) (byts x.1) ∧ x_1.2.1 + (1 : Int) = x.2.1 ∧ True) ∧ True) ∧ ∀ (y : Pl.TP × Int),
 Pl.TmB (Pl.CB x.2.2.2.2.toNat) y.1 ∧ x.2.1 ≤ y.2 ∧ y.2 ≤ x.2.1 + (↑(Pl.CB x.2.2.2.2.toNat) : Int) →
 ∃ x_2 : List Int × Int × Int,
 Rd (1099511627776 : Int) x_2.1 x_2.2.1 ∧ (((0 : Nat) = (0 : Nat) ∧ (48 : Int) = x_2.2.2 ∧ True) ∧ (Is (byts x.1) (byts x_2.1) ∧ y.2 = x_2.2.1 ∧ True) ∧ True) ∧ ∀ (y_2 : Int),
 ((1 : Int) ≤ x_2.2.2 → (0 : Int) ≤ y_2 ∧ y_2 < x_2.2.2) ∧ (x_2.2.2 < (1 : Int) → y_2 = (0 : Int)) →
 condP (y_2 == (0 : Int))
 (∃ x : List Int × Int × List ByteArray,
 (Rd (1099511627776 : Int) x.1 x.2.1 ∧ x.2.2 ≠ [] ∧ Sz x.2.2) ∧ (((0 : Nat) = (0 : Nat) ∧ Is
 (AV.lit (4 : Nat) (1 : Nat)
 (rowsCell
 [[st (ByteArray.mk #[])], [st (ByteArray.mk #[(65 : UInt8)])],
 [st (ByteArray.mk #[(97 : UInt8), (98 : UInt8), (99 : UInt8)])], [st (ByteArray.mk #[(102 : UInt8)])]]))
 (strs x.2.2) ∧ True) ∧ (Is (byts x_2.1) (byts x.1) ∧ x_2.2.1 + (1 : Int) = x.2.1 ∧ True) ∧ True) ∧ ∀ (y_3 : ByteArray),
 y_3 ∈ x.2.2 →
 ∃ y_4 : Pl.TP × Int,
 (Pl.TmB (1500 : Nat) y_4.1 ∧ p ≤ y_4.2 ∧ y_4.2 ≤ p + (500 : Int)) ∧ (0 : Nat) + y.1.2.length ≤ y.1.2.length ∧ ((y_3 = y_4.1.1 ∧ Is (terms y.1.2) (terms y_4.1.2) ∧ True) ∧ True) ∧ (Is (byts x.1) (byts b) ∧ x.2.1 + (1 : Int) = y_4.2 ∧ True) ∧ True)
 (condP (y_2 == (1 : Int))
 (∃ x : Pl.TP,
 SmT (Pl.Tree.mk x.1 x.2) ∧ (((y.1.1 = x.1 ∧ ((0 : Nat) = (0 : Nat) ∧ y.1.2.length = x.2.length) ∧ True) ∧ True) ∧ IsO (arT y.1.2) (arT x.2) ∧ True) ∧ ∀ (y_3 : Unit),
 True →
 (0 : Nat) + y.1.2.length ≤ x.2.length ∧ (y.1.2.length + (1 : Nat)) * (40 : Nat) ≤ (70368744177664 : Nat) ∧ ∃ y_4 : Pl.TP × Int,
 (Pl.TmB (1500 : Nat) y_4.1 ∧ p ≤ y_4.2 ∧ y_4.2 ≤ p + (500 : Int)) ∧ (0 : Nat) + (y.1.2.length + (1 : Nat)) ≤ y.1.2.length + (1 : Nat) ∧ ((y.1.1 = y_4.1.1 ∧ Is
 (AV.sl (y.1.2.length + (1 : Nat)) (2 : Nat) fun (i j : Nat) =>
 joinC y.1.2.length (cT x.2) (rowsCell [[st x.1, terms x.2]]) i j)
 (terms y_4.1.2) ∧ True) ∧ True) ∧ (Is (byts x_2.1) (byts b) ∧ x_2.2.1 + (1 : Int) = y_4.2 ∧ True) ∧ True)
 (condP (y_2 == (2 : Int))
 (∃ x : Pl.TP,
 SmT (Pl.Tree.mk x.1 x.2) ∧ (((y.1.1 = x.1 ∧ ((0 : Nat) = (0 : Nat) ∧ y.1.2.length = x.2.length) ∧ True) ∧ True) ∧ IsO (arT y.1.2) (arT x.2) ∧ True) ∧ ∀ (y_3 : Unit),
 True →
 ∃ x_3 : Pl.TP,
 SmT (Pl.Tree.mk x_3.1 x_3.2) ∧ (((y.1.1 = x_3.1 ∧ ((0 : Nat) = (0 : Nat) ∧ y.1.2.length = x_3.2.length) ∧ True) ∧ True) ∧ IsO (arT x.2) (arT x_3.2) ∧ True) ∧ ∀ (y_4 : Unit),
 True →
 (0 : Nat) + y.1.2.length ≤ x_3.2.length ∧ (y.1.2.length + (2 : Nat)) * (40 : Nat) ≤ (70368744177664 : Nat) ∧ ∃ y_5 : Pl.TP × Int,
 (Pl.TmB (1500 : Nat) y_5.1 ∧ p ≤ y_5.2 ∧ y_5.2 ≤ p + (500 : Int)) ∧ (0 : Nat) + (y.1.2.length + (2 : Nat)) ≤ y.1.2.length + (2 : Nat) ∧ ((y.1.1 = y_5.1.1 ∧ Is
 (AV.sl (y.1.2.length + (2 : Nat)) (2 : Nat) fun (i j : Nat) =>
 joinC y.1.2.length (cT x_3.2)
 (rowsCell [[st x.1, terms x.2], [st x_3.1, terms x_3.2]]) i j)
 (terms y_5.1.2) ∧ True) ∧ True) ∧ (Is (byts x_2.1) (byts b) ∧ x_2.2.1 + (1 : Int) = y_5.2 ∧ True) ∧ True)
 (∃ y_3 : Pl.TP × Int,
 (Pl.TmB (1500 : Nat) y_3.1 ∧ p ≤ y_3.2 ∧ y_3.2 ≤ p + (500 : Int)) ∧ (0 : Nat) + y.1.2.length ≤ y.1.2.length ∧ ((y.1.1 = y_3.1.1 ∧ Is (terms y.1.2) (terms y_3.1.2) ∧ True) ∧ True) ∧ (Is (byts x_2.1) (byts b) ∧ x_2.2.1 + (1 : Int) = y_3.2 ∧ True) ∧ True)))) ∧ ∃ x_1 : List Int × Int × List Int,
 (Rd (1099511627776 : Int) x_1.1 x_1.2.1 ∧ x_1.2.2 ≠ [] ∧ Sz x_1.2.2) ∧ (((0 : Nat) = (0 : Nat) ∧ Is (AV.lit (4 : Nat) (1 : Nat) (rowsCell [[i64 (2 : Int)], [i64 (3 : Int)], [i64 (1 : Int)], [i64 (4 : Int)]])) (ints x_1.2.2) ∧ True) ∧ (Is (byts x.1) (byts x_1.1) ∧ x.2.1 + (1 : Int) = x_1.2.1 ∧ True) ∧ True) ∧ ∀ (y_1 : Int),
 y_1 ∈ x_1.2.2 →
 ∃ x : AX,
 (Rd (137438953472 : Int) x.1 x.2.1 ∧ x.2.1 + (↑(Pl.CB x.2.2.2.2.toNat) : Int) ≤ (137438953472 : Int) ∧ Pl.SgB (5 : Nat) (2 : Nat) x.2.2.1 ∧ x.2.2.2.2 ≤ (4 : Int)) ∧ (((0 : Nat) = (0 : Nat) ∧ (Is (syms s) (syms x.2.2.1) ∧ True) ∧ y = x.2.2.2.1 ∧ y_1 = x.2.2.2.2 ∧ True) ∧ (Is (byts x_1.1) (byts x.1) ∧ x_1.2.1 + (1 : Int) = x.2.1 ∧ True) ∧ True) ∧ ∀ (y : Pl.TP × Int),
 Pl.TmB (Pl.CB x.2.2.2.2.toNat) y.1 ∧ x.2.1 ≤ y.2 ∧ y.2 ≤ x.2.1 + (↑(Pl.CB x.2.2.2.2.toNat) : Int) →
 ∃ x_2 : List Int × Int × Int,
 Rd (1099511627776 : Int) x_2.1 x_2.2.1 ∧ (((0 : Nat) = (0 : Nat) ∧ (48 : Int) = x_2.2.2 ∧ True) ∧ (Is (byts x.1) (byts x_2.1) ∧ y.2 = x_2.2.1 ∧ True) ∧ True) ∧ ∀ (y_2 : Int),
 ((1 : Int) ≤ x_2.2.2 → (0 : Int) ≤ y_2 ∧ y_2 < x_2.2.2) ∧ (x_2.2.2 < (1 : Int) → y_2 = (0 : Int)) →
 condP (y_2 == (0 : Int))
 (∃ x : List Int × Int × List ByteArray,
 (Rd (1099511627776 : Int) x.1 x.2.1 ∧ x.2.2 ≠ [] ∧ Sz x.2.2) ∧ (((0 : Nat) = (0 : Nat) ∧ Is
 (AV.lit (4 : Nat) (1 : Nat)
 (rowsCell
 [[st (ByteArray.mk #[])], [st (ByteArray.mk #[(65 : UInt8)])],
 [st (ByteArray.mk #[(97 : UInt8), (98 : UInt8), (99 : UInt8)])], [st (ByteArray.mk #[(102 : UInt8)])]]))
 (strs x.2.2) ∧ True) ∧ (Is (byts x_2.1) (byts x.1) ∧ x_2.2.1 + (1 : Int) = x.2.1 ∧ True) ∧ True) ∧ ∀ (y_3 : ByteArray),
 y_3 ∈ x.2.2 →
 ∃ y_4 : Pl.TP × Int,
 (Pl.TmB (1500 : Nat) y_4.1 ∧ p ≤ y_4.2 ∧ y_4.2 ≤ p + (500 : Int)) ∧ (0 : Nat) + y.1.2.length ≤ y.1.2.length ∧ ((y_3 = y_4.1.1 ∧ Is (terms y.1.2) (terms y_4.1.2) ∧ True) ∧ True) ∧ (Is (byts x.1) (byts b) ∧ x.2.1 + (1 : Int) = y_4.2 ∧ True) ∧ True)
 (condP (y_2 == (1 : Int))
 (∃ x : Pl.TP,
 SmT (Pl.Tree.mk x.1 x.2) ∧ (((y.1.1 = x.1 ∧ ((0 : Nat) = (0 : Nat) ∧ y.1.2.length = x.2.length) ∧ True) ∧ True) ∧ IsO (arT y.1.2) (arT x.2) ∧ True) ∧ ∀ (y_3 : Unit),
 True →
 (0 : Nat) + y.1.2.length ≤ x.2.length ∧ (y.1.2.length + (1 : Nat)) * (40 : Nat) ≤ (70368744177664 : Nat) ∧ ∃ y_4 : Pl.TP × Int,
 (Pl.TmB (1500 : Nat) y_4.1 ∧ p ≤ y_4.2 ∧ y_4.2 ≤ p + (500 : Int)) ∧ (0 : Nat) + (y.1.2.length + (1 : Nat)) ≤ y.1.2.length + (1 : Nat) ∧ ((y.1.1 = y_4.1.1 ∧ Is
 (AV.sl (y.1.2.length + (1 : Nat)) (2 : Nat) fun (i j : Nat) =>
 joinC y.1.2.length (cT x.2) (rowsCell [[st x.1, terms x.2]]) i j)
 (terms y_4.1.2) ∧ True) ∧ True) ∧ (Is (byts x_2.1) (byts b) ∧ x_2.2.1 + (1 : Int) = y_4.2 ∧ True) ∧ True)
 (condP (y_2 == (2 : Int))
 (∃ x : Pl.TP,
 SmT (Pl.Tree.mk x.1 x.2) ∧ (((y.1.1 = x.1 ∧ ((0 : Nat) = (0 : Nat) ∧ y.1.2.length = x.2.length) ∧ True) ∧ True) ∧ IsO (arT y.1.2) (arT x.2) ∧ True) ∧ ∀ (y_3 : Unit),
 True →
 ∃ x_3 : Pl.TP,
 SmT (Pl.Tree.mk x_3.1 x_3.2) ∧ (((y.1.1 = x_3.1 ∧ ((0 : Nat) = (0 : Nat) ∧ y.1.2.length = x_3.2.length) ∧ True) ∧ True) ∧ IsO (arT x.2) (arT x_3.2) ∧ True) ∧ ∀ (y_4 : Unit),
 True →
 (0 : Nat) + y.1.2.length ≤ x_3.2.length ∧ (y.1.2.length + (2 : Nat)) * (40 : Nat) ≤ (70368744177664 : Nat) ∧ ∃ y_5 : Pl.TP × Int,
 (Pl.TmB (1500 : Nat) y_5.1 ∧ p ≤ y_5.2 ∧ y_5.2 ≤ p + (500 : Int)) ∧ (0 : Nat) + (y.1.2.length + (2 : Nat)) ≤ y.1.2.length + (2 : Nat) ∧ ((y.1.1 = y_5.1.1 ∧ Is
 (AV.sl (y.1.2.length + (2 : Nat)) (2 : Nat) fun (i j : Nat) =>
 joinC y.1.2.length (cT x_3.2)
 (rowsCell [[st x.1, terms x.2], [st x_3.1, terms x_3.2]]) i j)
 (terms y_5.1.2) ∧ True) ∧ True) ∧ (Is (byts x_2.1) (byts b) ∧ x_2.2.1 + (1 : Int) = y_5.2 ∧ True) ∧ True)
 (∃ y_3 : Pl.TP × Int,
 (Pl.TmB (1500 : Nat) y_3.1 ∧ p ≤ y_3.2 ∧ y_3.2 ≤ p + (500 : Int)) ∧ (0 : Nat) + y.1.2.length ≤ y.1.2.length ∧ ((y.1.1 = y_3.1.1 ∧ Is (terms y.1.2) (terms y_3.1.2) ∧ True) ∧ True) ∧ (Is (byts x_2.1) (byts b) ∧ x_2.2.1 + (1 : Int) = y_3.2 ∧ True) ∧ True)))) ∧ (∃ x_1 : List Int × Int × List Int,
 (Rd (1099511627776 : Int) x_1.1 x_1.2.1 ∧ x_1.2.2 ≠ [] ∧ Sz x_1.2.2) ∧ (((0 : Nat) = (0 : Nat) ∧ Is (AV.lit (4 : Nat) (1 : Nat) (rowsCell [[i64 (2 : Int)], [i64 (3 : Int)], [i64 (1 : Int)], [i64 (4 : Int)]])) (ints x_1.2.2) ∧ True) ∧ (Is (byts x.1) (byts x_1.1) ∧ x.2.1 + (1 : Int) = x_1.2.1 ∧ True) ∧ True) ∧ ∀ (y_1 : Int),
 y_1 ∈ x_1.2.2 →
 (∃ x : AX,
 (Rd (137438953472 : Int) x.1 x.2.1 ∧ x.2.1 + (↑(Pl.CB x.2.2.2.2.toNat) : Int) ≤ (137438953472 : Int) ∧ Pl.SgB (5 : Nat) (2 : Nat) x.2.2.1 ∧ x.2.2.2.2 ≤ (4 : Int)) ∧ (((0 : Nat) = (0 : Nat) ∧ (Is (syms s) (syms x.2.2.1) ∧ True) ∧ y = x.2.2.2.1 ∧ y_1 = x.2.2.2.2 ∧ True) ∧ (Is (byts x_1.1) (byts x.1) ∧ x_1.2.1 + (1 : Int) = x.2.1 ∧ True) ∧ True) ∧ ∀ (y : Pl.TP × Int),
 Pl.TmB (Pl.CB x.2.2.2.2.toNat) y.1 ∧ x.2.1 ≤ y.2 ∧ y.2 ≤ x.2.1 + (↑(Pl.CB x.2.2.2.2.toNat) : Int) →
 ∃ x_2 : List Int × Int × Int,
 Rd (1099511627776 : Int) x_2.1 x_2.2.1 ∧ (((0 : Nat) = (0 : Nat) ∧ (48 : Int) = x_2.2.2 ∧ True) ∧ (Is (byts x.1) (byts x_2.1) ∧ y.2 = x_2.2.1 ∧ True) ∧ True) ∧ ∀ (y_2 : Int),
 ((1 : Int) ≤ x_2.2.2 → (0 : Int) ≤ y_2 ∧ y_2 < x_2.2.2) ∧ (x_2.2.2 < (1 : Int) → y_2 = (0 : Int)) →
 condP (y_2 == (0 : Int))
 (∃ x : List Int × Int × List ByteArray,
 (Rd (1099511627776 : Int) x.1 x.2.1 ∧ x.2.2 ≠ [] ∧ Sz x.2.2) ∧ (((0 : Nat) = (0 : Nat) ∧ Is
 (AV.lit (4 : Nat) (1 : Nat)
 (rowsCell
 [[st (ByteArray.mk #[])], [st (ByteArray.mk #[(65 : UInt8)])],
 [st (ByteArray.mk #[(97 : UInt8), (98 : UInt8), (99 : UInt8)])], [st (ByteArray.mk #[(102 : UInt8)])]]))
 (strs x.2.2) ∧ True) ∧ (Is (byts x_2.1) (byts x.1) ∧ x_2.2.1 + (1 : Int) = x.2.1 ∧ True) ∧ True) ∧ ∀ (y_3 : ByteArray),
 y_3 ∈ x.2.2 →
 ∃ y_4 : Pl.TP × Int,
 (Pl.TmB (1500 : Nat) y_4.1 ∧ p ≤ y_4.2 ∧ y_4.2 ≤ p + (500 : Int)) ∧ (0 : Nat) + y.1.2.length ≤ y.1.2.length ∧ ((y_3 = y_4.1.1 ∧ Is (terms y.1.2) (terms y_4.1.2) ∧ True) ∧ True) ∧ (Is (byts x.1) (byts b) ∧ x.2.1 + (1 : Int) = y_4.2 ∧ True) ∧ True)
 (condP (y_2 == (1 : Int))
 (∃ x : Pl.TP,
 SmT (Pl.Tree.mk x.1 x.2) ∧ (((y.1.1 = x.1 ∧ ((0 : Nat) = (0 : Nat) ∧ y.1.2.length = x.2.length) ∧ True) ∧ True) ∧ IsO (arT y.1.2) (arT x.2) ∧ True) ∧ ∀ (y_3 : Unit),
 True →
 (0 : Nat) + y.1.2.length ≤ x.2.length ∧ (y.1.2.length + (1 : Nat)) * (40 : Nat) ≤ (70368744177664 : Nat) ∧ ∃ y_4 : Pl.TP × Int,
 (Pl.TmB (1500 : Nat) y_4.1 ∧ p ≤ y_4.2 ∧ y_4.2 ≤ p + (500 : Int)) ∧ (0 : Nat) + (y.1.2.length + (1 : Nat)) ≤ y.1.2.length + (1 : Nat) ∧ ((y.1.1 = y_4.1.1 ∧ Is
 (AV.sl (y.1.2.length + (1 : Nat)) (2 : Nat) fun (i j : Nat) =>
 joinC y.1.2.length (cT x.2) (rowsCell [[st x.1, terms x.2]]) i j)
 (terms y_4.1.2) ∧ True) ∧ True) ∧ (Is (byts x_2.1) (byts b) ∧ x_2.2.1 + (1 : Int) = y_4.2 ∧ True) ∧ True)
 (condP (y_2 == (2 : Int))
 (∃ x : Pl.TP,
 SmT (Pl.Tree.mk x.1 x.2) ∧ (((y.1.1 = x.1 ∧ ((0 : Nat) = (0 : Nat) ∧ y.1.2.length = x.2.length) ∧ True) ∧ True) ∧ IsO (arT y.1.2) (arT x.2) ∧ True) ∧ ∀ (y_3 : Unit),
 True →
 ∃ x_3 : Pl.TP,
 SmT (Pl.Tree.mk x_3.1 x_3.2) ∧ (((y.1.1 = x_3.1 ∧ ((0 : Nat) = (0 : Nat) ∧ y.1.2.length = x_3.2.length) ∧ True) ∧ True) ∧ IsO (arT x.2) (arT x_3.2) ∧ True) ∧ ∀ (y_4 : Unit),
 True →
 (0 : Nat) + y.1.2.length ≤ x_3.2.length ∧ (y.1.2.length + (2 : Nat)) * (40 : Nat) ≤ (70368744177664 : Nat) ∧ ∃ y_5 : Pl.TP × Int,
 (Pl.TmB (1500 : Nat) y_5.1 ∧ p ≤ y_5.2 ∧ y_5.2 ≤ p + (500 : Int)) ∧ (0 : Nat) + (y.1.2.length + (2 : Nat)) ≤ y.1.2.length + (2 : Nat) ∧ ((y.1.1 = y_5.1.1 ∧ Is
 (AV.sl (y.1.2.length + (2 : Nat)) (2 : Nat) fun (i j : Nat) =>
 joinC y.1.2.length (cT x_3.2)
 (rowsCell [[st x.1, terms x.2], [st x_3.1, terms x_3.2]]) i j)
 (terms y_5.1.2) ∧ True) ∧ True) ∧ (Is (byts x_2.1) (byts b) ∧ x_2.2.1 + (1 : Int) = y_5.2 ∧ True) ∧ True)
 (∃ y_3 : Pl.TP × Int,
 (Pl.TmB (1500 : Nat) y_3.1 ∧ p ≤ y_3.2 ∧ y_3.2 ≤ p + (500 : Int)) ∧ (0 : Nat) + y.1.2.length ≤ y.1.2.length ∧ ((y.1.1 = y_3.1.1 ∧ Is (terms y.1.2) (terms y_3.1.2) ∧ True) ∧ True) ∧ (Is (byts x_2.1) (byts b) ∧ x_2.2.1 + (1 : Int) = y_3.2 ∧ True) ∧ True)))) ∧ ∃ x : AX,
 (Rd (137438953472 : Int) x.1 x.2.1 ∧ x.2.1 + (↑(Pl.CB x.2.2.2.2.toNat) : Int) ≤ (137438953472 : Int) ∧ Pl.SgB (5 : Nat) (2 : Nat) x.2.2.1 ∧ x.2.2.2.2 ≤ (4 : Int)) ∧ (((0 : Nat) = (0 : Nat) ∧ (Is (syms s) (syms x.2.2.1) ∧ True) ∧ y = x.2.2.2.1 ∧ y_1 = x.2.2.2.2 ∧ True) ∧ (Is (byts x_1.1) (byts x.1) ∧ x_1.2.1 + (1 : Int) = x.2.1 ∧ True) ∧ True) ∧ ∀ (y : Pl.TP × Int),
 Pl.TmB (Pl.CB x.2.2.2.2.toNat) y.1 ∧ x.2.1 ≤ y.2 ∧ y.2 ≤ x.2.1 + (↑(Pl.CB x.2.2.2.2.toNat) : Int) →
 ∃ x_2 : List Int × Int × Int,
 Rd (1099511627776 : Int) x_2.1 x_2.2.1 ∧ (((0 : Nat) = (0 : Nat) ∧ (48 : Int) = x_2.2.2 ∧ True) ∧ (Is (byts x.1) (byts x_2.1) ∧ y.2 = x_2.2.1 ∧ True) ∧ True) ∧ ∀ (y_2 : Int),
 ((1 : Int) ≤ x_2.2.2 → (0 : Int) ≤ y_2 ∧ y_2 < x_2.2.2) ∧ (x_2.2.2 < (1 : Int) → y_2 = (0 : Int)) →
 condP (y_2 == (0 : Int))
 (∃ x : List Int × Int × List ByteArray,
 (Rd (1099511627776 : Int) x.1 x.2.1 ∧ x.2.2 ≠ [] ∧ Sz x.2.2) ∧ (((0 : Nat) = (0 : Nat) ∧ Is
 (AV.lit (4 : Nat) (1 : Nat)
 (rowsCell
 [[st (ByteArray.mk #[])], [st (ByteArray.mk #[(65 : UInt8)])],
 [st (ByteArray.mk #[(97 : UInt8), (98 : UInt8), (99 : UInt8)])], [st (ByteArray.mk #[(102 : UInt8)])]]))
 (strs x.2.2) ∧ True) ∧ (Is (byts x_2.1) (byts x.1) ∧ x_2.2.1 + (1 : Int) = x.2.1 ∧ True) ∧ True) ∧ ∀ (y_3 : ByteArray),
 y_3 ∈ x.2.2 →
 ∃ y_4 : Pl.TP × Int,
 (Pl.TmB (1500 : Nat) y_4.1 ∧ p ≤ y_4.2 ∧ y_4.2 ≤ p + (500 : Int)) ∧ (0 : Nat) + y.1.2.length ≤ y.1.2.length ∧ ((y_3 = y_4.1.1 ∧ Is (terms y.1.2) (terms y_4.1.2) ∧ True) ∧ True) ∧ (Is (byts x.1) (byts b) ∧ x.2.1 + (1 : Int) = y_4.2 ∧ True) ∧ True)
 (condP (y_2 == (1 : Int))
 (∃ x : Pl.TP,
 SmT (Pl.Tree.mk x.1 x.2) ∧ (((y.1.1 = x.1 ∧ ((0 : Nat) = (0 : Nat) ∧ y.1.2.length = x.2.length) ∧ True) ∧ True) ∧ IsO (arT y.1.2) (arT x.2) ∧ True) ∧ ∀ (y_3 : Unit),
 True →
 (0 : Nat) + y.1.2.length ≤ x.2.length ∧ (y.1.2.length + (1 : Nat)) * (40 : Nat) ≤ (70368744177664 : Nat) ∧ ∃ y_4 : Pl.TP × Int,
 (Pl.TmB (1500 : Nat) y_4.1 ∧ p ≤ y_4.2 ∧ y_4.2 ≤ p + (500 : Int)) ∧ (0 : Nat) + (y.1.2.length + (1 : Nat)) ≤ y.1.2.length + (1 : Nat) ∧ ((y.1.1 = y_4.1.1 ∧ Is
 (AV.sl (y.1.2.length + (1 : Nat)) (2 : Nat) fun (i j : Nat) =>
 joinC y.1.2.length (cT x.2) (rowsCell [[st x.1, terms x.2]]) i j)
 (terms y_4.1.2) ∧ True) ∧ True) ∧ (Is (byts x_2.1) (byts b) ∧ x_2.2.1 + (1 : Int) = y_4.2 ∧ True) ∧ True)
 (condP (y_2 == (2 : Int))
 (∃ x : Pl.TP,
 SmT (Pl.Tree.mk x.1 x.2) ∧ (((y.1.1 = x.1 ∧ ((0 : Nat) = (0 : Nat) ∧ y.1.2.length = x.2.length) ∧ True) ∧ True) ∧ IsO (arT y.1.2) (arT x.2) ∧ True) ∧ ∀ (y_3 : Unit),
 True →
 ∃ x_3 : Pl.TP,
 SmT (Pl.Tree.mk x_3.1 x_3.2) ∧ (((y.1.1 = x_3.1 ∧ ((0 : Nat) = (0 : Nat) ∧ y.1.2.length = x_3.2.length) ∧ True) ∧ True) ∧ IsO (arT x.2) (arT x_3.2) ∧ True) ∧ ∀ (y_4 : Unit),
 True →
 (0 : Nat) + y.1.2.length ≤ x_3.2.length ∧ (y.1.2.length + (2 : Nat)) * (40 : Nat) ≤ (70368744177664 : Nat) ∧ ∃ y_5 : Pl.TP × Int,
 (Pl.TmB (1500 : Nat) y_5.1 ∧ p ≤ y_5.2 ∧ y_5.2 ≤ p + (500 : Int)) ∧ (0 : Nat) + (y.1.2.length + (2 : Nat)) ≤ y.1.2.length + (2 : Nat) ∧ ((y.1.1 = y_5.1.1 ∧ Is
 (AV.sl (y.1.2.length + (2 : Nat)) (2 : Nat) fun (i j : Nat) =>
 joinC y.1.2.length (cT x_3.2)
 (rowsCell [[st x.1, terms x.2], [st x_3.1, terms x_3.2]]) i j)
 (terms y_5.1.2) ∧ True) ∧ True) ∧ (Is (byts x_2.1) (byts b) ∧ x_2.2.1 + (1 : Int) = y_5.2 ∧ True) ∧ True)
 (∃ y_3 : Pl.TP × Int,
 (Pl.TmB (1500 : Nat) y_3.1 ∧ p ≤ y_3.2 ∧ y_3.2 ≤ p + (500 : Int)) ∧ (0 : Nat) + y.1.2.length ≤ y.1.2.length ∧ ((y.1.1 = y_3.1.1 ∧ Is (terms y.1.2) (terms y_3.1.2) ∧ True) ∧ True) ∧ (Is (byts x_2.1) (byts b) ∧ x_2.2.1 + (1 : Int) = y_3.2 ∧ True) ∧ True)))) ∧ (∃ x_1 : List Int × Int × List Int,
 (Rd (1099511627776 : Int) x_1.1 x_1.2.1 ∧ x_1.2.2 ≠ [] ∧ Sz x_1.2.2) ∧ (((0 : Nat) = (0 : Nat) ∧ Is (AV.lit (4 : Nat) (1 : Nat) (rowsCell [[i64 (2 : Int)], [i64 (3 : Int)], [i64 (1 : Int)], [i64 (4 : Int)]])) (ints x_1.2.2) ∧ True) ∧ (Is (byts x.1) (byts x_1.1) ∧ x.2.1 + (1 : Int) = x_1.2.1 ∧ True) ∧ True) ∧ ∀ (y_1 : Int),
 y_1 ∈ x_1.2.2 →
 ∃ x : AX,
 (Rd (137438953472 : Int) x.1 x.2.1 ∧ x.2.1 + (↑(Pl.CB x.2.2.2.2.toNat) : Int) ≤ (137438953472 : Int) ∧ Pl.SgB (5 : Nat) (2 : Nat) x.2.2.1 ∧ x.2.2.2.2 ≤ (4 : Int)) ∧ (((0 : Nat) = (0 : Nat) ∧ (Is (syms s) (syms x.2.2.1) ∧ True) ∧ y = x.2.2.2.1 ∧ y_1 = x.2.2.2.2 ∧ True) ∧ (Is (byts x_1.1) (byts x.1) ∧ x_1.2.1 + (1 : Int) = x.2.1 ∧ True) ∧ True) ∧ ∀ (y : Pl.TP × Int),
 Pl.TmB (Pl.CB x.2.2.2.2.toNat) y.1 ∧ x.2.1 ≤ y.2 ∧ y.2 ≤ x.2.1 + (↑(Pl.CB x.2.2.2.2.toNat) : Int) →
 ∃ x_2 : List Int × Int × Int,
 Rd (1099511627776 : Int) x_2.1 x_2.2.1 ∧ (((0 : Nat) = (0 : Nat) ∧ (48 : Int) = x_2.2.2 ∧ True) ∧ (Is (byts x.1) (byts x_2.1) ∧ y.2 = x_2.2.1 ∧ True) ∧ True) ∧ ∀ (y_2 : Int),
 ((1 : Int) ≤ x_2.2.2 → (0 : Int) ≤ y_2 ∧ y_2 < x_2.2.2) ∧ (x_2.2.2 < (1 : Int) → y_2 = (0 : Int)) →
 condP (y_2 == (0 : Int))
 (∃ x : List Int × Int × List ByteArray,
 (Rd (1099511627776 : Int) x.1 x.2.1 ∧ x.2.2 ≠ [] ∧ Sz x.2.2) ∧ (((0 : Nat) = (0 : Nat) ∧ Is
 (AV.lit (4 : Nat) (1 : Nat)
 (rowsCell
 [[st (ByteArray.mk #[])], [st (ByteArray.mk #[(65 : UInt8)])],
 [st (ByteArray.mk #[(97 : UInt8), (98 : UInt8), (99 : UInt8)])], [st (ByteArray.mk #[(102 : UInt8)])]]))
 (strs x.2.2) ∧ True) ∧ (Is (byts x_2.1) (byts x.1) ∧ x_2.2.1 + (1 : Int) = x.2.1 ∧ True) ∧ True) ∧ ∀ (y_3 : ByteArray),
 y_3 ∈ x.2.2 →
 ∃ y_4 : Pl.TP × Int,
 (Pl.TmB (1500 : Nat) y_4.1 ∧ p ≤ y_4.2 ∧ y_4.2 ≤ p + (500 : Int)) ∧ (0 : Nat) + y.1.2.length ≤ y.1.2.length ∧ ((y_3 = y_4.1.1 ∧ Is (terms y.1.2) (terms y_4.1.2) ∧ True) ∧ True) ∧ (Is (byts x.1) (byts b) ∧ x.2.1 + (1 : Int) = y_4.2 ∧ True) ∧ True)
 (condP (y_2 == (1 : Int))
 (∃ x : Pl.TP,
 SmT (Pl.Tree.mk x.1 x.2) ∧ (((y.1.1 = x.1 ∧ ((0 : Nat) = (0 : Nat) ∧ y.1.2.length = x.2.length) ∧ True) ∧ True) ∧ IsO (arT y.1.2) (arT x.2) ∧ True) ∧ ∀ (y_3 : Unit),
 True →
 (0 : Nat) + y.1.2.length ≤ x.2.length ∧ (y.1.2.length + (1 : Nat)) * (40 : Nat) ≤ (70368744177664 : Nat) ∧ ∃ y_4 : Pl.TP × Int,
 (Pl.TmB (1500 : Nat) y_4.1 ∧ p ≤ y_4.2 ∧ y_4.2 ≤ p + (500 : Int)) ∧ (0 : Nat) + (y.1.2.length + (1 : Nat)) ≤ y.1.2.length + (1 : Nat) ∧ ((y.1.1 = y_4.1.1 ∧ Is
 (AV.sl (y.1.2.length + (1 : Nat)) (2 : Nat) fun (i j : Nat) =>
 joinC y.1.2.length (cT x.2) (rowsCell [[st x.1, terms x.2]]) i j)
 (terms y_4.1.2) ∧ True) ∧ True) ∧ (Is (byts x_2.1) (byts b) ∧ x_2.2.1 + (1 : Int) = y_4.2 ∧ True) ∧ True)
 (condP (y_2 == (2 : Int))
 (∃ x : Pl.TP,
 SmT (Pl.Tree.mk x.1 x.2) ∧ (((y.1.1 = x.1 ∧ ((0 : Nat) = (0 : Nat) ∧ y.1.2.length = x.2.length) ∧ True) ∧ True) ∧ IsO (arT y.1.2) (arT x.2) ∧ True) ∧ ∀ (y_3 : Unit),
 True →
 ∃ x_3 : Pl.TP,
 SmT (Pl.Tree.mk x_3.1 x_3.2) ∧ (((y.1.1 = x_3.1 ∧ ((0 : Nat) = (0 : Nat) ∧ y.1.2.length = x_3.2.length) ∧ True) ∧ True) ∧ IsO (arT x.2) (arT x_3.2) ∧ True) ∧ ∀ (y_4 : Unit),
 True →
 (0 : Nat) + y.1.2.length ≤ x_3.2.length ∧ (y.1.2.length + (2 : Nat)) * (40 : Nat) ≤ (70368744177664 : Nat) ∧ ∃ y_5 : Pl.TP × Int,
 (Pl.TmB (1500 : Nat) y_5.1 ∧ p ≤ y_5.2 ∧ y_5.2 ≤ p + (500 : Int)) ∧ (0 : Nat) + (y.1.2.length + (2 : Nat)) ≤ y.1.2.length + (2 : Nat) ∧ ((y.1.1 = y_5.1.1 ∧ Is
 (AV.sl (y.1.2.length + (2 : Nat)) (2 : Nat) fun (i j : Nat) =>
 joinC y.1.2.length (cT x_3.2)
 (rowsCell [[st x.1, terms x.2], [st x_3.1, terms x_3.2]]) i j)
 (terms y_5.1.2) ∧ True) ∧ True) ∧ (Is (byts x_2.1) (byts b) ∧ x_2.2.1 + (1 : Int) = y_5.2 ∧ True) ∧ True)
 (∃ y_3 : Pl.TP × Int,
 (Pl.TmB (1500 : Nat) y_3.1 ∧ p ≤ y_3.2 ∧ y_3.2 ≤ p + (500 : Int)) ∧ (0 : Nat) + y.1.2.length ≤ y.1.2.length ∧ ((y.1.1 = y_3.1.1 ∧ Is (terms y.1.2) (terms y_3.1.2) ∧ True) ∧ True) ∧ (Is (byts x_2.1) (byts b) ∧ x_2.2.1 + (1 : Int) = y_3.2 ∧ True) ∧ True)))) ∧ ∃ x_1 : List Int × Int × List Int,
 (Rd (1099511627776 : Int) x_1.1 x_1.2.1 ∧ x_1.2.2 ≠ [] ∧ Sz x_1.2.2) ∧ (((0 : Nat) = (0 : Nat) ∧ Is (AV.lit (4 : Nat) (1 : Nat) (rowsCell [[i64 (2 : Int)], [i64 (3 : Int)], [i64 (1 : Int)], [i64 (4 : Int)]])) (ints x_1.2.2) ∧ True) ∧ (Is (byts x.1) (byts x_1.1) ∧ x.2.1 + (1 : Int) = x_1.2.1 ∧ True) ∧ True) ∧ ∀ (y_1 : Int),
 y_1 ∈ x_1.2.2 →
 ∃ x : AX,
 (Rd (137438953472 : Int) x.1 x.2.1 ∧ x.2.1 + (↑(Pl.CB x.2.2.2.2.toNat) : Int) ≤ (137438953472 : Int) ∧ Pl.SgB (5 : Nat) (2 : Nat) x.2.2.1 ∧ x.2.2.2.2 ≤ (4 : Int)) ∧ (((0 : Nat) = (0 : Nat) ∧ (Is (syms s) (syms x.2.2.1) ∧ True) ∧ y = x.2.2.2.1 ∧ y_1 = x.2.2.2.2 ∧ True) ∧ (Is (byts x_1.1) (byts x.1) ∧ x_1.2.1 + (1 : Int) = x.2.1 ∧ True) ∧ True) ∧ ∀ (y : Pl.TP × Int),
 Pl.TmB (Pl.CB x.2.2.2.2.toNat) y.1 ∧ x.2.1 ≤ y.2 ∧ y.2 ≤ x.2.1 + (↑(Pl.CB x.2.2.2.2.toNat) : Int) →
 ∃ x_2 : List Int × Int × Int,
 Rd (1099511627776 : Int) x_2.1 x_2.2.1 ∧ (((0 : Nat) = (0 : Nat) ∧ (48 : Int) = x_2.2.2 ∧ True) ∧ (Is (byts x.1) (byts x_2.1) ∧ y.2 = x_2.2.1 ∧ True) ∧ True) ∧ ∀ (y_2 : Int),
 ((1 : Int) ≤ x_2.2.2 → (0 : Int) ≤ y_2 ∧ y_2 < x_2.2.2) ∧ (x_2.2.2 < (1 : Int) → y_2 = (0 : Int)) →
 condP (y_2 == (0 : Int))
 (∃ x : List Int × Int × List ByteArray,
 (Rd (1099511627776 : Int) x.1 x.2.1 ∧ x.2.2 ≠ [] ∧ Sz x.2.2) ∧ (((0 : Nat) = (0 : Nat) ∧ Is
 (AV.lit (4 : Nat) (1 : Nat)
 (rowsCell
 [[st (ByteArray.mk #[])], [st (ByteArray.mk #[(65 : UInt8)])],
 [st (ByteArray.mk #[(97 : UInt8), (98 : UInt8), (99 : UInt8)])], [st (ByteArray.mk #[(102 : UInt8)])]]))
 (strs x.2.2) ∧ True) ∧ (Is (byts x_2.1) (byts x.1) ∧ x_2.2.1 + (1 : Int) = x.2.1 ∧ True) ∧ True) ∧ ∀ (y_3 : ByteArray),
 y_3 ∈ x.2.2 →
 ∃ y_4 : Pl.TP × Int,
 (Pl.TmB (1500 : Nat) y_4.1 ∧ p ≤ y_4.2 ∧ y_4.2 ≤ p + (500 : Int)) ∧ (0 : Nat) + y.1.2.length ≤ y.1.2.length ∧ ((y_3 = y_4.1.1 ∧ Is (terms y.1.2) (terms y_4.1.2) ∧ True) ∧ True) ∧ (Is (byts x.1) (byts b) ∧ x.2.1 + (1 : Int) = y_4.2 ∧ True) ∧ True)
 (condP (y_2 == (1 : Int))
 (∃ x : Pl.TP,
 SmT (Pl.Tree.mk x.1 x.2) ∧ (((y.1.1 = x.1 ∧ ((0 : Nat) = (0 : Nat) ∧ y.1.2.length = x.2.length) ∧ True) ∧ True) ∧ IsO (arT y.1.2) (arT x.2) ∧ True) ∧ ∀ (y_3 : Unit),
 True →
 (0 : Nat) + y.1.2.length ≤ x.2.length ∧ (y.1.2.length + (1 : Nat)) * (40 : Nat) ≤ (70368744177664 : Nat) ∧ ∃ y_4 : Pl.TP × Int,
 (Pl.TmB (1500 : Nat) y_4.1 ∧ p ≤ y_4.2 ∧ y_4.2 ≤ p + (500 : Int)) ∧ (0 : Nat) + (y.1.2.length + (1 : Nat)) ≤ y.1.2.length + (1 : Nat) ∧ ((y.1.1 = y_4.1.1 ∧ Is
 (AV.sl (y.1.2.length + (1 : Nat)) (2 : Nat) fun (i j : Nat) =>
 joinC y.1.2.length (cT x.2) (rowsCell [[st x.1, terms x.2]]) i j)
 (terms y_4.1.2) ∧ True) ∧ True) ∧ (Is (byts x_2.1) (byts b) ∧ x_2.2.1 + (1 : Int) = y_4.2 ∧ True) ∧ True)
 (condP (y_2 == (2 : Int))
 (∃ x : Pl.TP,
 SmT (Pl.Tree.mk x.1 x.2) ∧ (((y.1.1 = x.1 ∧ ((0 : Nat) = (0 : Nat) ∧ y.1.2.length = x.2.length) ∧ True) ∧ True) ∧ IsO (arT y.1.2) (arT x.2) ∧ True) ∧ ∀ (y_3 : Unit),
 True →
 ∃ x_3 : Pl.TP,
 SmT (Pl.Tree.mk x_3.1 x_3.2) ∧ (((y.1.1 = x_3.1 ∧ ((0 : Nat) = (0 : Nat) ∧ y.1.2.length = x_3.2.length) ∧ True) ∧ True) ∧ IsO (arT x.2) (arT x_3.2) ∧ True) ∧ ∀ (y_4 : Unit),
 True →
 (0 : Nat) + y.1.2.length ≤ x_3.2.length ∧ (y.1.2.length + (2 : Nat)) * (40 : Nat) ≤ (70368744177664 : Nat) ∧ ∃ y_5 : Pl.TP × Int,
 (Pl.TmB (1500 : Nat) y_5.1 ∧ p ≤ y_5.2 ∧ y_5.2 ≤ p + (500 : Int)) ∧ (0 : Nat) + (y.1.2.length + (2 : Nat)) ≤ y.1.2.length + (2 : Nat) ∧ ((y.1.1 = y_5.1.1 ∧ Is
 (AV.sl (y.1.2.length + (2 : Nat)) (2 : Nat) fun (i j : Nat) =>
 joinC y.1.2.length (cT x_3.2)
 (rowsCell [[st x.1, terms x.2], [st x_3.1, terms x_3.2]]) i j)
 (terms y_5.1.2) ∧ True) ∧ True) ∧ (Is (byts x_2.1) (byts b) ∧ x_2.2.1 + (1 : Int) = y_5.2 ∧ True) ∧ True)
 (∃ y_3 : Pl.TP × Int,
 (Pl.TmB (1500 : Nat) y_3.1 ∧ p ≤ y_3.2 ∧ y_3.2 ≤ p + (500 : Int)) ∧ (0 : Nat) + y.1.2.length ≤ y.1.2.length ∧ ((y.1.1 = y_3.1.1 ∧ Is (terms y.1.2) (terms y_3.1.2) ∧ True) ∧ True) ∧ (Is (byts x_2.1) (byts b) ∧ x_2.2.1 + (1 : Int) = y_3.2 ∧ True) ∧ True)))) ∧ (∃ x : List Int × Int × Int,
 Rd (1099511627776 : Int) x.1 x.2.1 ∧ (((0 : Nat) = (0 : Nat) ∧ (2 : Int) = x.2.2 ∧ True) ∧ (Is (byts b) (byts x.1) ∧ p = x.2.1 ∧ True) ∧ True) ∧ ∀ (y : Int),
 ((1 : Int) ≤ x.2.2 → (0 : Int) ≤ y ∧ y < x.2.2) ∧ (x.2.2 < (1 : Int) → y = (0 : Int)) →
 ∃ x_1 : List Int × Int × List Int,
 (Rd (1099511627776 : Int) x_1.1 x_1.2.1 ∧ x_1.2.2 ≠ [] ∧ Sz x_1.2.2) ∧ (((0 : Nat) = (0 : Nat) ∧ Is (AV.lit (4 : Nat) (1 : Nat) (rowsCell [[i64 (2 : Int)], [i64 (3 : Int)], [i64 (1 : Int)], [i64 (4 : Int)]])) (ints x_1.2.2) ∧ True) ∧ (Is (byts x.1) (byts x_1.1) ∧ x.2.1 + (1 : Int) = x_1.2.1 ∧ True) ∧ True) ∧ ∀ (y_1 : Int),
 y_1 ∈ x_1.2.2 →
 ∃ x : AX,
 (Rd (137438953472 : Int) x.1 x.2.1 ∧ x.2.1 + (↑(Pl.CB x.2.2.2.2.toNat) : Int) ≤ (137438953472 : Int) ∧ Pl.SgB (5 : Nat) (2 : Nat) x.2.2.1 ∧ x.2.2.2.2 ≤ (4 : Int)) ∧ (((0 : Nat) = (0 : Nat) ∧ (Is (syms s) (syms x.2.2.1) ∧ True) ∧ y = x.2.2.2.1 ∧ y_1 = x.2.2.2.2 ∧ True) ∧ (Is (byts x_1.1) (byts x.1) ∧ x_1.2.1 + (1 : Int) = x.2.1 ∧ True) ∧ True) ∧ ∀ (y : Pl.TP × Int),
 Pl.TmB (Pl.CB x.2.2.2.2.toNat) y.1 ∧ x.2.1 ≤ y.2 ∧ y.2 ≤ x.2.1 + (↑(Pl.CB x.2.2.2.2.toNat) : Int) →
 ∃ x_2 : List Int × Int × Int,
 Rd (1099511627776 : Int) x_2.1 x_2.2.1 ∧ (((0 : Nat) = (0 : Nat) ∧ (48 : Int) = x_2.2.2 ∧ True) ∧ (Is (byts x.1) (byts x_2.1) ∧ y.2 = x_2.2.1 ∧ True) ∧ True) ∧ ∀ (y_2 : Int),
 ((1 : Int) ≤ x_2.2.2 → (0 : Int) ≤ y_2 ∧ y_2 < x_2.2.2) ∧ (x_2.2.2 < (1 : Int) → y_2 = (0 : Int)) →
 condP (y_2 == (0 : Int))
 (∃ x : List Int × Int × List ByteArray,
 (Rd (1099511627776 : Int) x.1 x.2.1 ∧ x.2.2 ≠ [] ∧ Sz x.2.2) ∧ (((0 : Nat) = (0 : Nat) ∧ Is
 (AV.lit (4 : Nat) (1 : Nat)
 (rowsCell
 [[st (ByteArray.mk #[])], [st (ByteArray.mk #[(65 : UInt8)])],
 [st (ByteArray.mk #[(97 : UInt8), (98 : UInt8), (99 : UInt8)])], [st (ByteArray.mk #[(102 : UInt8)])]]))
 (strs x.2.2) ∧ True) ∧ (Is (byts x_2.1) (byts x.1) ∧ x_2.2.1 + (1 : Int) = x.2.1 ∧ True) ∧ True) ∧ ∀ (y_3 : ByteArray),
 y_3 ∈ x.2.2 →
 ∃ y_4 : Pl.TP × Int,
 (Pl.TmB (1500 : Nat) y_4.1 ∧ p ≤ y_4.2 ∧ y_4.2 ≤ p + (500 : Int)) ∧ (0 : Nat) + y.1.2.length ≤ y.1.2.length ∧ ((y_3 = y_4.1.1 ∧ Is (terms y.1.2) (terms y_4.1.2) ∧ True) ∧ True) ∧ (Is (byts x.1) (byts b) ∧ x.2.1 + (1 : Int) = y_4.2 ∧ True) ∧ True)
 (condP (y_2 == (1 : Int))
 (∃ x : Pl.TP,
 SmT (Pl.Tree.mk x.1 x.2) ∧ (((y.1.1 = x.1 ∧ ((0 : Nat) = (0 : Nat) ∧ y.1.2.length = x.2.length) ∧ True) ∧ True) ∧ IsO (arT y.1.2) (arT x.2) ∧ True) ∧ ∀ (y_3 : Unit),
 True →
 (0 : Nat) + y.1.2.length ≤ x.2.length ∧ (y.1.2.length + (1 : Nat)) * (40 : Nat) ≤ (70368744177664 : Nat) ∧ ∃ y_4 : Pl.TP × Int,
 (Pl.TmB (1500 : Nat) y_4.1 ∧ p ≤ y_4.2 ∧ y_4.2 ≤ p + (500 : Int)) ∧ (0 : Nat) + (y.1.2.length + (1 : Nat)) ≤ y.1.2.length + (1 : Nat) ∧ ((y.1.1 = y_4.1.1 ∧ Is
 (AV.sl (y.1.2.length + (1 : Nat)) (2 : Nat) fun (i j : Nat) =>
 joinC y.1.2.length (cT x.2) (rowsCell [[st x.1, terms x.2]]) i j)
 (terms y_4.1.2) ∧ True) ∧ True) ∧ (Is (byts x_2.1) (byts b) ∧ x_2.2.1 + (1 : Int) = y_4.2 ∧ True) ∧ True)
 (condP (y_2 == (2 : Int))
 (∃ x : Pl.TP,
 SmT (Pl.Tree.mk x.1 x.2) ∧ (((y.1.1 = x.1 ∧ ((0 : Nat) = (0 : Nat) ∧ y.1.2.length = x.2.length) ∧ True) ∧ True) ∧ IsO (arT y.1.2) (arT x.2) ∧ True) ∧ ∀ (y_3 : Unit),
 True →
 ∃ x_3 : Pl.TP,
 SmT (Pl.Tree.mk x_3.1 x_3.2) ∧ (((y.1.1 = x_3.1 ∧ ((0 : Nat) = (0 : Nat) ∧ y.1.2.length = x_3.2.length) ∧ True) ∧ True) ∧ IsO (arT x.2) (arT x_3.2) ∧ True) ∧ ∀ (y_4 : Unit),
 True →
 (0 : Nat) + y.1.2.length ≤ x_3.2.length ∧ (y.1.2.length + (2 : Nat)) * (40 : Nat) ≤ (70368744177664 : Nat) ∧ ∃ y_5 : Pl.TP × Int,
 (Pl.TmB (1500 : Nat) y_5.1 ∧ p ≤ y_5.2 ∧ y_5.2 ≤ p + (500 : Int)) ∧ (0 : Nat) + (y.1.2.length + (2 : Nat)) ≤ y.1.2.length + (2 : Nat) ∧ ((y.1.1 = y_5.1.1 ∧ Is
 (AV.sl (y.1.2.length + (2 : Nat)) (2 : Nat) fun (i j : Nat) =>
 joinC y.1.2.length (cT x_3.2)
 (rowsCell [[st x.1, terms x.2], [st x_3.1, terms x_3.2]]) i j)
 (terms y_5.1.2) ∧ True) ∧ True) ∧ (Is (byts x_2.1) (byts b) ∧ x_2.2.1 + (1 : Int) = y_5.2 ∧ True) ∧ True)
 (∃ y_3 : Pl.TP × Int,
 (Pl.TmB (1500 : Nat) y_3.1 ∧ p ≤ y_3.2 ∧ y_3.2 ≤ p + (500 : Int)) ∧ (0 : Nat) + y.1.2.length ≤ y.1.2.length ∧ ((y.1.1 = y_3.1.1 ∧ Is (terms y.1.2) (terms y_3.1.2) ∧ True) ∧ True) ∧ (Is (byts x_2.1) (byts b) ∧ x_2.2.1 + (1 : Int) = y_3.2 ∧ True) ∧ True)))) ∧ ∃ x : List Int × Int × Int,
 Rd (1099511627776 : Int) x.1 x.2.1 ∧ (((0 : Nat) = (0 : Nat) ∧ (2 : Int) = x.2.2 ∧ True) ∧ (Is (byts b) (byts x.1) ∧ p = x.2.1 ∧ True) ∧ True) ∧ ∀ (y : Int),
 ((1 : Int) ≤ x.2.2 → (0 : Int) ≤ y ∧ y < x.2.2) ∧ (x.2.2 < (1 : Int) → y = (0 : Int)) →
 (∃ x_1 : List Int × Int × List Int,
 (Rd (1099511627776 : Int) x_1.1 x_1.2.1 ∧ x_1.2.2 ≠ [] ∧ Sz x_1.2.2) ∧ (((0 : Nat) = (0 : Nat) ∧ Is (AV.lit (4 : Nat) (1 : Nat) (rowsCell [[i64 (2 : Int)], [i64 (3 : Int)], [i64 (1 : Int)], [i64 (4 : Int)]])) (ints x_1.2.2) ∧ True) ∧ (Is (byts x.1) (byts x_1.1) ∧ x.2.1 + (1 : Int) = x_1.2.1 ∧ True) ∧ True) ∧ ∀ (y_1 : Int),
 y_1 ∈ x_1.2.2 →
 ∃ x : AX,
 (Rd (137438953472 : Int) x.1 x.2.1 ∧ x.2.1 + (↑(Pl.CB x.2.2.2.2.toNat) : Int) ≤ (137438953472 : Int) ∧ Pl.SgB (5 : Nat) (2 : Nat) x.2.2.1 ∧ x.2.2.2.2 ≤ (4 : Int)) ∧ (((0 : Nat) = (0 : Nat) ∧ (Is (syms s) (syms x.2.2.1) ∧ True) ∧ y = x.2.2.2.1 ∧ y_1 = x.2.2.2.2 ∧ True) ∧ (Is (byts x_1.1) (byts x.1) ∧ x_1.2.1 + (1 : Int) = x.2.1 ∧ True) ∧ True) ∧ ∀ (y : Pl.TP × Int),
 Pl.TmB (Pl.CB x.2.2.2.2.toNat) y.1 ∧ x.2.1 ≤ y.2 ∧ y.2 ≤ x.2.1 + (↑(Pl.CB x.2.2.2.2.toNat) : Int) →
 ∃ x_2 : List Int × Int × Int,
 Rd (1099511627776 : Int) x_2.1 x_2.2.1 ∧ (((0 : Nat) = (0 : Nat) ∧ (48 : Int) = x_2.2.2 ∧ True) ∧ (Is (byts x.1) (byts x_2.1) ∧ y.2 = x_2.2.1 ∧ True) ∧ True) ∧ ∀ (y_2 : Int),
 ((1 : Int) ≤ x_2.2.2 → (0 : Int) ≤ y_2 ∧ y_2 < x_2.2.2) ∧ (x_2.2.2 < (1 : Int) → y_2 = (0 : Int)) →
 condP (y_2 == (0 : Int))
 (∃ x : List Int × Int × List ByteArray,
 (Rd (1099511627776 : Int) x.1 x.2.1 ∧ x.2.2 ≠ [] ∧ Sz x.2.2) ∧ (((0 : Nat) = (0 : Nat) ∧ Is
 (AV.lit (4 : Nat) (1 : Nat)
 (rowsCell
 [[st (ByteArray.mk #[])], [st (ByteArray.mk #[(65 : UInt8)])],
 [st (ByteArray.mk #[(97 : UInt8), (98 : UInt8), (99 : UInt8)])], [st (ByteArray.mk #[(102 : UInt8)])]]))
 (strs x.2.2) ∧ True) ∧ (Is (byts x_2.1) (byts x.1) ∧ x_2.2.1 + (1 : Int) = x.2.1 ∧ True) ∧ True) ∧ ∀ (y_3 : ByteArray),
 y_3 ∈ x.2.2 →
 ∃ y_4 : Pl.TP × Int,
 (Pl.TmB (1500 : Nat) y_4.1 ∧ p ≤ y_4.2 ∧ y_4.2 ≤ p + (500 : Int)) ∧ (0 : Nat) + y.1.2.length ≤ y.1.2.length ∧ ((y_3 = y_4.1.1 ∧ Is (terms y.1.2) (terms y_4.1.2) ∧ True) ∧ True) ∧ (Is (byts x.1) (byts b) ∧ x.2.1 + (1 : Int) = y_4.2 ∧ True) ∧ True)
 (condP (y_2 == (1 : Int))
 (∃ x : Pl.TP,
 SmT (Pl.Tree.mk x.1 x.2) ∧ (((y.1.1 = x.1 ∧ ((0 : Nat) = (0 : Nat) ∧ y.1.2.length = x.2.length) ∧ True) ∧ True) ∧ IsO (arT y.1.2) (arT x.2) ∧ True) ∧ ∀ (y_3 : Unit),
 True →
 (0 : Nat) + y.1.2.length ≤ x.2.length ∧ (y.1.2.length + (1 : Nat)) * (40 : Nat) ≤ (70368744177664 : Nat) ∧ ∃ y_4 : Pl.TP × Int,
 (Pl.TmB (1500 : Nat) y_4.1 ∧ p ≤ y_4.2 ∧ y_4.2 ≤ p + (500 : Int)) ∧ (0 : Nat) + (y.1.2.length + (1 : Nat)) ≤ y.1.2.length + (1 : Nat) ∧ ((y.1.1 = y_4.1.1 ∧ Is
 (AV.sl (y.1.2.length + (1 : Nat)) (2 : Nat) fun (i j : Nat) =>
 joinC y.1.2.length (cT x.2) (rowsCell [[st x.1, terms x.2]]) i j)
 (terms y_4.1.2) ∧ True) ∧ True) ∧ (Is (byts x_2.1) (byts b) ∧ x_2.2.1 + (1 : Int) = y_4.2 ∧ True) ∧ True)
 (condP (y_2 == (2 : Int))
 (∃ x : Pl.TP,
 SmT (Pl.Tree.mk x.1 x.2) ∧ (((y.1.1 = x.1 ∧ ((0 : Nat) = (0 : Nat) ∧ y.1.2.length = x.2.length) ∧ True) ∧ True) ∧ IsO (arT y.1.2) (arT x.2) ∧ True) ∧ ∀ (y_3 : Unit),
 True →
 ∃ x_3 : Pl.TP,
 SmT (Pl.Tree.mk x_3.1 x_3.2) ∧ (((y.1.1 = x_3.1 ∧ ((0 : Nat) = (0 : Nat) ∧ y.1.2.length = x_3.2.length) ∧ True) ∧ True) ∧ IsO (arT x.2) (arT x_3.2) ∧ True) ∧ ∀ (y_4 : Unit),
 True →
 (0 : Nat) + y.1.2.length ≤ x_3.2.length ∧ (y.1.2.length + (2 : Nat)) * (40 : Nat) ≤ (70368744177664 : Nat) ∧ ∃ y_5 : Pl.TP × Int,
 (Pl.TmB (1500 : Nat) y_5.1 ∧ p ≤ y_5.2 ∧ y_5.2 ≤ p + (500 : Int)) ∧ (0 : Nat) + (y.1.2.length + (2 : Nat)) ≤ y.1.2.length + (2 : Nat) ∧ ((y.1.1 = y_5.1.1 ∧ Is
 (AV.sl (y.1.2.length + (2 : Nat)) (2 : Nat) fun (i j : Nat) =>
 joinC y.1.2.length (cT x_3.2)
 (rowsCell [[st x.1, terms x.2], [st x_3.1, terms x_3.2]]) i j)
 (terms y_5.1.2) ∧ True) ∧ True) ∧ (Is (byts x_2.1) (byts b) ∧ x_2.2.1 + (1 : Int) = y_5.2 ∧ True) ∧ True)
 (∃ y_3 : Pl.TP × Int,
 (Pl.TmB (1500 : Nat) y_3.1 ∧ p ≤ y_3.2 ∧ y_3.2 ≤ p + (500 : Int)) ∧ (0 : Nat) + y.1.2.length ≤ y.1.2.length ∧ ((y.1.1 = y_3.1.1 ∧ Is (terms y.1.2) (terms y_3.1.2) ∧ True) ∧ True) ∧ (Is (byts x_2.1) (byts b) ∧ x_2.2.1 + (1 : Int) = y_3.2 ∧ True) ∧ True)))) ∧ ∃ x_1 : List Int × Int × List Int,
 (Rd (1099511627776 : Int) x_1.1 x_1.2.1 ∧ x_1.2.2 ≠ [] ∧ Sz x_1.2.2) ∧ (((0 : Nat) = (0 : Nat) ∧ Is (AV.lit (4 : Nat) (1 : Nat) (rowsCell [[i64 (2 : Int)], [i64 (3 : Int)], [i64 (1 : Int)], [i64 (4 : Int)]])) (ints x_1.2.2) ∧ True) ∧ (Is (byts x.1) (byts x_1.1) ∧ x.2.1 + (1 : Int) = x_1.2.1 ∧ True) ∧ True) ∧ ∀ (y_1 : Int),
 y_1 ∈ x_1.2.2 →
 ∃ x : AX,
 (Rd (137438953472 : Int) x.1 x.2.1 ∧ x.2.1 + (↑(Pl.CB x.2.2.2.2.toNat) : Int) ≤ (137438953472 : Int) ∧ Pl.SgB (5 : Nat) (2 : Nat) x.2.2.1 ∧ x.2.2.2.2 ≤ (4 : Int)) ∧ (((0 : Nat) = (0 : Nat) ∧ (Is (syms s) (syms x.2.2.1) ∧ True) ∧ y = x.2.2.2.1 ∧ y_1 = x.2.2.2.2 ∧ True) ∧ (Is (byts x_1.1) (byts x.1) ∧ x_1.2.1 + (1 : Int) = x.2.1 ∧ True) ∧ True) ∧ ∀ (y : Pl.TP × Int),
 Pl.TmB (Pl.CB x.2.2.2.2.toNat) y.1 ∧ x.2.1 ≤ y.2 ∧ y.2 ≤ x.2.1 + (↑(Pl.CB x.2.2.2.2.toNat) : Int) →
 ∃ x_2 : List Int × Int × Int,
 Rd (1099511627776 : Int) x_2.1 x_2.2.1 ∧ (((0 : Nat) = (0 : Nat) ∧ (48 : Int) = x_2.2.2 ∧ True) ∧ (Is (byts x.1) (byts x_2.1) ∧ y.2 = x_2.2.1 ∧ True) ∧ True) ∧ ∀ (y_2 : Int),
 ((1 : Int) ≤ x_2.2.2 → (0 : Int) ≤ y_2 ∧ y_2 < x_2.2.2) ∧ (x_2.2.2 < (1 : Int) → y_2 = (0 : Int)) →
 condP (y_2 == (0 : Int))
 (∃ x : List Int × Int × List ByteArray,
 (Rd (1099511627776 : Int) x.1 x.2.1 ∧ x.2.2 ≠ [] ∧ Sz x.2.2) ∧ (((0 : Nat) = (0 : Nat) ∧ Is
 (AV.lit (4 : Nat) (1 : Nat)
 (rowsCell
 [[st (ByteArray.mk #[])], [st (ByteArray.mk #[(65 : UInt8)])],
 [st (ByteArray.mk #[(97 : UInt8), (98 : UInt8), (99 : UInt8)])], [st (ByteArray.mk #[(102 : UInt8)])]]))
 (strs x.2.2) ∧ True) ∧ (Is (byts x_2.1) (byts x.1) ∧ x_2.2.1 + (1 : Int) = x.2.1 ∧ True) ∧ True) ∧ ∀ (y_3 : ByteArray),
 y_3 ∈ x.2.2 →
 ∃ y_4 : Pl.TP × Int,
 (Pl.TmB (1500 : Nat) y_4.1 ∧ p ≤ y_4.2 ∧ y_4.2 ≤ p + (500 : Int)) ∧ (0 : Nat) + y.1.2.length ≤ y.1.2.length ∧ ((y_3 = y_4.1.1 ∧ Is (terms y.1.2) (terms y_4.1.2) ∧ True) ∧ True) ∧ (Is (byts x.1) (byts b) ∧ x.2.1 + (1 : Int) = y_4.2 ∧ True) ∧ True)
 (condP (y_2 == (1 : Int))
 (∃ x : Pl.TP,
 SmT (Pl.Tree.mk x.1 x.2) ∧ (((y.1.1 = x.1 ∧ ((0 : Nat) = (0 : Nat) ∧ y.1.2.length = x.2.length) ∧ True) ∧ True) ∧ IsO (arT y.1.2) (arT x.2) ∧ True) ∧ ∀ (y_3 : Unit),
 True →
 (0 : Nat) + y.1.2.length ≤ x.2.length ∧ (y.1.2.length + (1 : Nat)) * (40 : Nat) ≤ (70368744177664 : Nat) ∧ ∃ y_4 : Pl.TP × Int,
 (Pl.TmB (1500 : Nat) y_4.1 ∧ p ≤ y_4.2 ∧ y_4.2 ≤ p + (500 : Int)) ∧ (0 : Nat) + (y.1.2.length + (1 : Nat)) ≤ y.1.2.length + (1 : Nat) ∧ ((y.1.1 = y_4.1.1 ∧ Is
 (AV.sl (y.1.2.length + (1 : Nat)) (2 : Nat) fun (i j : Nat) =>
 joinC y.1.2.length (cT x.2) (rowsCell [[st x.1, terms x.2]]) i j)
 (terms y_4.1.2) ∧ True) ∧ True) ∧ (Is (byts x_2.1) (byts b) ∧ x_2.2.1 + (1 : Int) = y_4.2 ∧ True) ∧ True)
 (condP (y_2 == (2 : Int))
 (∃ x : Pl.TP,
 SmT (Pl.Tree.mk x.1 x.2) ∧ (((y.1.1 = x.1 ∧ ((0 : Nat) = (0 : Nat) ∧ y.1.2.length = x.2.length) ∧ True) ∧ True) ∧ IsO (arT y.1.2) (arT x.2) ∧ True) ∧ ∀ (y_3 : Unit),
 True →
 ∃ x_3 : Pl.TP,
 SmT (Pl.Tree.mk x_3.1 x_3.2) ∧ (((y.1.1 = x_3.1 ∧ ((0 : Nat) = (0 : Nat) ∧ y.1.2.length = x_3.2.length) ∧ True) ∧ True) ∧ IsO (arT x.2) (arT x_3.2) ∧ True) ∧ ∀ (y_4 : Unit),
 True →
 (0 : Nat) + y.1.2.length ≤ x_3.2.length ∧ (y.1.2.length + (2 : Nat)) * (40 : Nat) ≤ (70368744177664 : Nat) ∧ ∃ y_5 : Pl.TP × Int,
 (Pl.TmB (1500 : Nat) y_5.1 ∧ p ≤ y_5.2 ∧ y_5.2 ≤ p + (500 : Int)) ∧ (0 : Nat) + (y.1.2.length + (2 : Nat)) ≤ y.1.2.length + (2 : Nat) ∧ ((y.1.1 = y_5.1.1 ∧ Is
 (AV.sl (y.1.2.length + (2 : Nat)) (2 : Nat) fun (i j : Nat) =>
 joinC y.1.2.length (cT x_3.2)
 (rowsCell [[st x.1, terms x.2], [st x_3.1, terms x_3.2]]) i j)
 (terms y_5.1.2) ∧ True) ∧ True) ∧ (Is (byts x_2.1) (byts b) ∧ x_2.2.1 + (1 : Int) = y_5.2 ∧ True) ∧ True)
 (∃ y_3 : Pl.TP × Int,
 (Pl.TmB (1500 : Nat) y_3.1 ∧ p ≤ y_3.2 ∧ y_3.2 ≤ p + (500 : Int)) ∧ (0 : Nat) + y.1.2.length ≤ y.1.2.length ∧ ((y.1.1 = y_3.1.1 ∧ Is (terms y.1.2) (terms y_3.1.2) ∧ True) ∧ True) ∧ (Is (byts x_2.1) (byts b) ∧ x_2.2.1 + (1 : Int) = y_3.2 ∧ True) ∧ True)))) = Goal Tryz.prog [K_pick, K_num, K_of, K_lAny, K_l4CopyO] ([]) K_l4Some.1 K_l4Some.2 ((b, p, s)) := by kernel_rfl

end Cg

/-
  What is left to show of each function's code, printed by a program: Mds. No condition.
-/
set_option maxRecDepth 100000
set_option linter.unusedVariables false
namespace Cg
open Go Go.Proofs
theorem vc_of (b : List Int) (p : Int) (l : List ByteArray) : (∃ x : List Int × Int × Int,
 Rd (1099511627776 : Int) x.1 x.2.1 ∧ (((0 : Nat) = (0 : Nat) ∧ (↑l.length : Int) = x.2.2 ∧ True) ∧ (Is (byts b) (byts x.1) ∧ p = x.2.1 ∧ True) ∧ True) ∧ ∀ (y : Int),
 ((1 : Int) ≤ x.2.2 → (0 : Int) ≤ y ∧ y < x.2.2) ∧ (x.2.2 < (1 : Int) → y = (0 : Int)) →
 ((0 : Int) ≤ y ∧ y < (↑l.length : Int)) ∧ y.toNat < l.length ∧ ∃ y_1 : ByteArray, y_1 ∈ l ∧ (l.getD y.toNat ByteArray.empty = y_1 ∧ True) ∧ (Is (byts x.1) (byts b) ∧ x.2.1 + (1 : Int) = p + (1 : Int) ∧ True) ∧ True) = Goal Tryz.prog [K_pick] ([]) K_of.1 K_of.2 ((b, p, l)) := by kernel_rfl

theorem vc_l4Base (k : Int) : (condP (k == (0 : Int))
 (Is
 (AV.lit (5 : Nat) (3 : Nat)
 (rowsCell
 [[st (ByteArray.mk #[(97 : UInt8)]), AV.lit (0 : Nat) (1 : Nat) fun (x x_1 : Nat) => AV.any, i64 (0 : Int)],
 [st (ByteArray.mk #[(98 : UInt8)]), AV.lit (0 : Nat) (1 : Nat) fun (x x_1 : Nat) => AV.any, i64 (0 : Int)],
 [st (ByteArray.mk #[(99 : UInt8)]), AV.lit (0 : Nat) (1 : Nat) fun (x x_1 : Nat) => AV.any, i64 (0 : Int)],
 [st (ByteArray.mk #[(102 : UInt8)]), AV.lit (1 : Nat) (1 : Nat) (rowsCell [[i64 (0 : Int)]]), i64 (0 : Int)],
 [st (ByteArray.mk #[(103 : UInt8)]), AV.lit (2 : Nat) (1 : Nat) (rowsCell [[i64 (0 : Int)], [i64 (0 : Int)]]), i64 (0 : Int)]]))
 (syms (Pl.base k)) ∧ True)
 (condP (k == (1 : Int))
 (Is
 (AV.lit (5 : Nat) (3 : Nat)
 (rowsCell
 [[st (ByteArray.mk #[(97 : UInt8)]), AV.lit (0 : Nat) (1 : Nat) fun (x x_1 : Nat) => AV.any, i64 (0 : Int)],
 [st (ByteArray.mk #[(98 : UInt8)]), AV.lit (0 : Nat) (1 : Nat) fun (x x_1 : Nat) => AV.any, i64 (0 : Int)],
 [st (ByteArray.mk #[(104 : UInt8)]), AV.lit (1 : Nat) (1 : Nat) (rowsCell [[i64 (0 : Int)]]), i64 (1 : Int)],
 [st (ByteArray.mk #[(120 : UInt8)]), AV.lit (0 : Nat) (1 : Nat) fun (x x_1 : Nat) => AV.any, i64 (1 : Int)],
 [st (ByteArray.mk #[(121 : UInt8)]), AV.lit (0 : Nat) (1 : Nat) fun (x x_1 : Nat) => AV.any, i64 (1 : Int)]]))
 (syms (Pl.base k)) ∧ True)
 (condP (k == (2 : Int))
 (Is
 (AV.lit (4 : Nat) (3 : Nat)
 (rowsCell
 [[st (ByteArray.mk #[(107 : UInt8)]), AV.lit (1 : Nat) (1 : Nat) (rowsCell [[i64 (1 : Int)]]), i64 (1 : Int)],
 [st (ByteArray.mk #[(120 : UInt8)]), AV.lit (0 : Nat) (1 : Nat) fun (x x_1 : Nat) => AV.any, i64 (1 : Int)],
 [st (ByteArray.mk #[(121 : UInt8)]), AV.lit (0 : Nat) (1 : Nat) fun (x x_1 : Nat) => AV.any, i64 (1 : Int)],
 [st (ByteArray.mk #[(122 : UInt8)]), AV.lit (0 : Nat) (1 : Nat) fun (x x_1 : Nat) => AV.any, i64 (1 : Int)]]))
 (syms (Pl.base k)) ∧ True)
 (condP (k == (3 : Int))
 (Is
 (AV.lit (5 : Nat) (3 : Nat)
 (rowsCell
 [[st (ByteArray.mk #[(97 : UInt8)]), AV.lit (0 : Nat) (1 : Nat) fun (x x_1 : Nat) => AV.any, i64 (0 : Int)],
 [st (ByteArray.mk #[(117 : UInt8)]), AV.lit (1 : Nat) (1 : Nat) (rowsCell [[i64 (1 : Int)]]), i64 (0 : Int)],
 [st (ByteArray.mk #[(118 : UInt8)]), AV.lit (2 : Nat) (1 : Nat) (rowsCell [[i64 (1 : Int)], [i64 (0 : Int)]]), i64 (1 : Int)],
 [st (ByteArray.mk #[(120 : UInt8)]), AV.lit (0 : Nat) (1 : Nat) fun (x x_1 : Nat) => AV.any, i64 (1 : Int)],
 [st (ByteArray.mk #[(121 : UInt8)]), AV.lit (0 : Nat) (1 : Nat) fun (x x_1 : Nat) => AV.any, i64 (1 : Int)]]))
 (syms (Pl.base k)) ∧ True)
 (Is (AV.lit (0 : Nat) (3 : Nat) (rowsCell [])) (syms (Pl.base k)) ∧ True))))) = Goal Tryz.prog [] ([]) K_l4Base.1 K_l4Base.2 (k) := by kernel_rfl

theorem vc_l4Sig (b : List Int) (p : Int) : (∃ x : List Int × Int × List Int,
 (Rd (1099511627776 : Int) x.1 x.2.1 ∧ x.2.2 ≠ [] ∧ Sz x.2.2) ∧ (((0 : Nat) = (0 : Nat) ∧ Is
 (AV.lit (8 : Nat) (1 : Nat)
 (rowsCell [[i64 (0 : Int)], [i64 (0 : Int)], [i64 (1 : Int)], [i64 (1 : Int)], [i64 (2 : Int)], [i64 (3 : Int)], [i64 (1 : Int)], [i64 (4 : Int)]]))
 (ints x.2.2) ∧ True) ∧ (Is (byts b) (byts x.1) ∧ p = x.2.1 ∧ True) ∧ True) ∧ ∀ (y : Int),
 y ∈ x.2.2 →
 ∃ x_1 : Int,
 (y = x_1 ∧ True) ∧ True ∧ ∃ y : Pl.Sig,
 Pl.SgB (5 : Nat) (2 : Nat) y ∧ ((Is (syms (Pl.base x_1)) (syms y) ∧ True) ∧ True) ∧ (Is (byts x.1) (byts b) ∧ x.2.1 + (1 : Int) = p + (1 : Int) ∧ True) ∧ True) = Goal Tryz.prog [K_num, K_l4Base] ([]) K_l4Sig.1 K_l4Sig.2 ((b, p)) := by kernel_rfl

end Cg

/-
  What is left to show of each function's code, printed by a program: Draw. No condition.
-/
set_option maxRecDepth 100000
set_option linter.unusedVariables false
namespace Cg
open Go Go.Proofs
theorem vc_l16Open (b : List Int) : (condP (decide ((↑b.length : Int) > (2000 : Int)))
 (((0 : Int) ≤ (2000 : Int) ∧ (2000 : Int) ≤ (↑b.length : Int)) ∧ ∃ y : List Int, Rd (0 : Int) y (0 : Int) ∧ ((0 : Nat) = (0 : Nat) ∧ True) ∧ (Is (AV.sl (2000 : Nat) (1 : Nat) (cU b)) (byts y) ∧ (0 : Int) = (0 : Int) ∧ True) ∧ True)
 (∃ y : List Int, Rd (0 : Int) y (0 : Int) ∧ ((0 : Nat) = (0 : Nat) ∧ True) ∧ (Is (byts b) (byts y) ∧ (0 : Int) = (0 : Int) ∧ True) ∧ True)) = Goal Tryz.prog [] ([]) K_l16Open.1 K_l16Open.2 (b) := by kernel_rfl

theorem vc_pick (b : List Int) (p n : Int) : (condP (decide (n < (1 : Int)))
 (∃ y : Int,
 (((1 : Int) ≤ n → (0 : Int) ≤ y ∧ y < n) ∧ (n < (1 : Int) → y = (0 : Int))) ∧ ((0 : Int) = y ∧ True) ∧ (Is (byts b) (byts b) ∧ IntKind.i64.wrap (p + (1 : Int)) = p + (1 : Int) ∧ True) ∧ True)
 (condP ((↑b.length : Int) == (0 : Int))
 (∃ y : Int,
 (((1 : Int) ≤ n → (0 : Int) ≤ y ∧ y < n) ∧ (n < (1 : Int) → y = (0 : Int))) ∧ ((0 : Int) = y ∧ True) ∧ (Is (byts b) (byts b) ∧ IntKind.i64.wrap (p + (1 : Int)) = p + (1 : Int) ∧ True) ∧ True)
 (condP (decide (IntKind.i64.wrap (IntKind.i64.wrap (p + (1 : Int)) - (1 : Int)) < (↑b.length : Int)))
 (((0 : Int) ≤ IntKind.i64.wrap (IntKind.i64.wrap (p + (1 : Int)) - (1 : Int)) ∧ IntKind.i64.wrap (IntKind.i64.wrap (p + (1 : Int)) - (1 : Int)) < (↑b.length : Int)) ∧ (IntKind.i64.wrap (IntKind.i64.wrap (p + (1 : Int)) - (1 : Int))).toNat < b.length ∧ n ≠ (0 : Int) ∧ ∃ y : Int,
 (((1 : Int) ≤ n → (0 : Int) ≤ y ∧ y < n) ∧ (n < (1 : Int) → y = (0 : Int))) ∧ ((IntKind.i64.wrap (b.getD (IntKind.i64.wrap (IntKind.i64.wrap (p + (1 : Int)) - (1 : Int))).toNat (0 : Int))).tmod n = y ∧ True) ∧ (Is (byts b) (byts b) ∧ IntKind.i64.wrap (p + (1 : Int)) = p + (1 : Int) ∧ True) ∧ True)
 ((↑b.length : Int) ≠ (0 : Int) ∧ ((0 : Int) ≤ (IntKind.i64.wrap (IntKind.i64.wrap (p + (1 : Int)) - (1 : Int))).tmod (↑b.length : Int) ∧ (IntKind.i64.wrap (IntKind.i64.wrap (p + (1 : Int)) - (1 : Int))).tmod (↑b.length : Int) < (↑b.length : Int)) ∧ ((IntKind.i64.wrap (IntKind.i64.wrap (p + (1 : Int)) - (1 : Int))).tmod (↑b.length : Int)).toNat < b.length ∧ (↑b.length : Int) ≠ (0 : Int) ∧ ((0 : Int) ≤ (IntKind.i64.wrap (IntKind.i64.wrap (IntKind.i64.wrap (IntKind.i64.wrap (p + (1 : Int)) - (1 : Int)) * (7 : Int)) + (3 : Int))).tmod (↑b.length : Int) ∧ (IntKind.i64.wrap (IntKind.i64.wrap (IntKind.i64.wrap (IntKind.i64.wrap (p + (1 : Int)) - (1 : Int)) * (7 : Int)) + (3 : Int))).tmod (↑b.length : Int) <
 (↑b.length : Int)) ∧ ((IntKind.i64.wrap (IntKind.i64.wrap (IntKind.i64.wrap (IntKind.i64.wrap (p + (1 : Int)) - (1 : Int)) * (7 : Int)) + (3 : Int))).tmod (↑b.length : Int)).toNat < b.length ∧ (↑b.length : Int) ≠ (0 : Int) ∧ (64 : Int) ≠ (0 : Int) ∧ n ≠ (0 : Int) ∧ ∃ y : Int,
 (((1 : Int) ≤ n → (0 : Int) ≤ y ∧ y < n) ∧ (n < (1 : Int) → y = (0 : Int))) ∧ ((IntKind.i64.wrap
 (↑(BitVec.ofInt (64 : Nat)
 (IntKind.i64.wrap
 (IntKind.i64.wrap
 (IntKind.i64.wrap
 (IntKind.i64.wrap
 (IntKind.i64.wrap
 (b.getD ((IntKind.i64.wrap (IntKind.i64.wrap (p + (1 : Int)) - (1 : Int))).tmod (↑b.length : Int)).toNat (0 : Int)) *
 (131 : Int)) +
 IntKind.i64.wrap
 (IntKind.i64.wrap
 (b.getD
 ((IntKind.i64.wrap
 (IntKind.i64.wrap (IntKind.i64.wrap (IntKind.i64.wrap (p + (1 : Int)) - (1 : Int)) * (7 : Int)) +
 (3 : Int))).tmod
 (↑b.length : Int)).toNat
 (0 : Int)) *
 (1117 : Int))) +
 IntKind.i64.wrap (IntKind.i64.wrap (IntKind.i64.wrap (p + (1 : Int)) - (1 : Int)) * (29 : Int))) +
 IntKind.i64.wrap
 (IntKind.i64.wrap ((IntKind.i64.wrap (IntKind.i64.wrap (p + (1 : Int)) - (1 : Int))).tdiv (↑b.length : Int)) * (53 : Int)))) ^^^
 BitVec.ofInt (64 : Nat)
 (IntKind.i64.wrap
 ((IntKind.i64.wrap
 (IntKind.i64.wrap
 (IntKind.i64.wrap
 (IntKind.i64.wrap
 (IntKind.i64.wrap
 (b.getD ((IntKind.i64.wrap (IntKind.i64.wrap (p + (1 : Int)) - (1 : Int))).tmod (↑b.length : Int)).toNat (0 : Int)) *
 (131 : Int)) +
 IntKind.i64.wrap
 (IntKind.i64.wrap
 (b.getD
 ((IntKind.i64.wrap
 (IntKind.i64.wrap (IntKind.i64.wrap (IntKind.i64.wrap (p + (1 : Int)) - (1 : Int)) * (7 : Int)) +
 (3 : Int))).tmod
 (↑b.length : Int)).toNat
 (0 : Int)) *
 (1117 : Int))) +
 IntKind.i64.wrap (IntKind.i64.wrap (IntKind.i64.wrap (p + (1 : Int)) - (1 : Int)) * (29 : Int))) +
 IntKind.i64.wrap
 (IntKind.i64.wrap ((IntKind.i64.wrap (IntKind.i64.wrap (p + (1 : Int)) - (1 : Int))).tdiv (↑b.length : Int)) * (53 : Int)))).tdiv
 (64 : Int)))).toNat :
 Int)).tmod
 n =
 y ∧ True) ∧ (Is (byts b) (byts b) ∧ IntKind.i64.wrap (p + (1 : Int)) = p + (1 : Int) ∧ True) ∧ True)))) = Goal Tryz.prog [] ([]) K_pick.1 K_pick.2 ((b, p, n)) := by kernel_rfl

theorem vc_num (b : List Int) (p : Int) (l : List Int) : (∃ x : List Int × Int × Int,
 Rd (1099511627776 : Int) x.1 x.2.1 ∧ (((0 : Nat) = (0 : Nat) ∧ (↑l.length : Int) = x.2.2 ∧ True) ∧ (Is (byts b) (byts x.1) ∧ p = x.2.1 ∧ True) ∧ True) ∧ ∀ (y : Int),
 ((1 : Int) ≤ x.2.2 → (0 : Int) ≤ y ∧ y < x.2.2) ∧ (x.2.2 < (1 : Int) → y = (0 : Int)) →
 ((0 : Int) ≤ y ∧ y < (↑l.length : Int)) ∧ y.toNat < l.length ∧ ∃ y_1 : Int, y_1 ∈ l ∧ (l.getD y.toNat (0 : Int) = y_1 ∧ True) ∧ (Is (byts x.1) (byts b) ∧ x.2.1 + (1 : Int) = p + (1 : Int) ∧ True) ∧ True) = Goal Tryz.prog [K_pick] ([]) K_num.1 K_num.2 ((b, p, l)) := by kernel_rfl

end Cg

/-
  What is left to show of each function's code, printed by a program: Units. No condition.
-/
set_option maxRecDepth 100000
set_option linter.unusedVariables false
namespace Cg
open Go Go.Proofs
end Cg

/-
  Unit propagation: plain laws. No condition.
-/
set_option linter.unusedVariables false
namespace Pl
open Go Cg

/-- A mark of at most sixty variables. -/
def Mk (x : Int) : Prop := x ≠ 0 ∧ -60 ≤ x ∧ x ≤ 60
theorem Mk.wneg {x : Int} (h : Mk x) : Pl.wneg x = -x := by
  obtain ⟨h1, h2, h3⟩ := h
  unfold Pl.wneg; rw [Cg.wrap_small (by omega) (by omega)]; omega
theorem absW_of {x : Int} (h : Mk x) : absW x = if x < 0 then -x else x := by
  obtain ⟨h1, h2, h3⟩ := h
  unfold absW Pl.wneg
  rw [if_neg (by omega), if_neg (by omega)]
  split
  · rw [Cg.wrap_small (by omega) (by omega)]; omega
  · rfl
theorem take_succ_getD {α : Type} (d : α) {l : List α} {i : Nat} (h : i < l.length) : l.take (i + 1) = l.take i ++ [l.getD i d] := by
  rw [List.take_succ_eq_append_getElem h]; simp [h]
end Pl

/-
  The codes' contracts: unit propagation. No condition.
-/
set_option linter.unusedVariables false
set_option linter.unusedSimpArgs false
set_option maxRecDepth 100000
namespace Cg
open Go Go.Proofs

end Cg

/-
  The codes' contracts: the reader. No condition.
-/
set_option linter.unusedVariables false
set_option linter.unusedSimpArgs false
set_option maxRecDepth 100000
namespace Cg
open Go Go.Proofs

theorem Rd.mono {m m' : Int} {b : List Int} {p : Int} (h : Rd m b p) (hm : m ≤ m') : Rd m' b p := ⟨h.1, h.2.1, h.2.2.1, Int.le_trans h.2.2.2 hm⟩
theorem Rd.add {m m' : Int} {b : List Int} {p p' : Int} (h : Rd m b p) (h1 : p ≤ p') (h2 : p' ≤ m') : Rd m' b p' := ⟨h.1, h.2.1, Int.le_trans h.2.2.1 h1, h2⟩

theorem k_l16Open : SoundC Tryz.prog K_l16Open.1 K_l16Open.2 := sound_of hm CtxOK.nil (fun _ => []) (by kernel_rfl) fun (b : List Int) hb => cast (vc_l16Open b) (by
  obtain ⟨h1, h2⟩ : Sz b ∧ Byt b := hb
  simp [-List.getD_eq_getElem?_getD, and_assoc]
  refine ⟨fun h => ⟨by omega, b.take 2000, ⟨by simp; omega, fun x hx => h2 x (List.mem_of_mem_take hx), Int.le_refl 0, Int.le_refl 0⟩, (byts_take (by omega)).2 rfl⟩, fun h => ⟨by omega, h2, Int.le_refl 0, Int.le_refl 0⟩⟩)

theorem xor_nonneg {E : Int} (h0 : 0 ≤ E) (h1 : E < 281474976710656) : 0 ≤ IntKind.i64.wrap ((BitVec.ofInt 64 E ^^^ BitVec.ofInt 64 (IntKind.i64.wrap (E.tdiv 64))).toNat : Int) := by
  have d1 : 0 ≤ E.tdiv 64 := Int.tdiv_nonneg h0 (by omega)
  have d2 : E.tdiv 64 ≤ E := Int.tdiv_le_self _ h0
  rw [wrap_small (x := E.tdiv 64) (by omega) (by omega)]
  have e : ∀ x : Int, 0 ≤ x → x < 281474976710656 → (BitVec.ofInt 64 x).toNat < 2 ^ 48 := fun x h h' => by
    rw [BitVec.toNat_ofInt]
    have : x % ((2 ^ 64 : Nat) : Int) = x := Int.emod_eq_of_lt h (by omega)
    rw [this]; omega
  have h : (BitVec.ofInt 64 E ^^^ BitVec.ofInt 64 (E.tdiv 64)).toNat < 2 ^ 48 := by
    rw [BitVec.toNat_xor]
    exact Nat.xor_lt_two_pow (e E h0 h1) (e _ d1 (by omega))
  rw [wrap_small (by omega) (by omega)]
  omega

set_option maxHeartbeats 2000000 in
theorem k_pick : SoundC Tryz.prog K_pick.1 K_pick.2 := sound_of hm CtxOK.nil (fun _ => []) (by kernel_rfl) fun (b, p, n) hb => cast (vc_pick b p n) (by
  obtain ⟨h1, h2, h3, h4⟩ : Rd 1099511627776 b p := hb
  rw [wrap_small (x := p + 1) (by omega) (by omega), show p + 1 - 1 = p by omega, wrap_small (x := p) (by omega) (by omega)]
  simp only [condP_iff, decide_eq_true_eq, decide_eq_false_iff_not, beq_iff_eq, beq_eq_false_iff_ne, ne_eq]
  refine ⟨fun h => ⟨0, ⟨fun h' => absurd h' (by omega), fun _ => rfl⟩, by simp⟩, fun h => ⟨fun h' => ⟨0, ⟨fun _ => ⟨by omega, by omega⟩, fun _ => rfl⟩, by simp⟩, fun h' => ?_⟩⟩
  have hL : (0 : Int) < b.length := by
    omega
  have byte : ∀ i, i < b.length → 0 ≤ b.getD i 0 ∧ b.getD i 0 < 256 := fun i hi => h2 _ (getD_mem 0 hi)
  have tm : ∀ x : Int, 0 ≤ x → 0 ≤ x.tmod b.length ∧ x.tmod b.length < b.length := fun x hx => ⟨Int.tmod_nonneg _ hx, Int.tmod_lt_of_pos _ hL⟩
  refine ⟨fun hlt => ?_, fun hge => ?_⟩
  · obtain ⟨b1, b2⟩ := byte p.toNat (by omega)
    refine ⟨⟨by omega, hlt⟩, by omega, by omega, _, ⟨fun _ => ⟨?_, ?_⟩, fun h'' => absurd h'' (by omega)⟩, ⟨rfl, trivial⟩, by simp⟩
    · rw [wrap_small (by omega) (by omega)]; exact Int.tmod_nonneg _ b1
    · exact Int.tmod_lt_of_pos _ (by omega)
  · have e1 : IntKind.i64.wrap (p * 7) = p * 7 := wrap_small (by omega) (by omega)
    have e2 : IntKind.i64.wrap (p * 7 + 3) = p * 7 + 3 := wrap_small (by omega) (by omega)
    simp only [e1, e2]
    obtain ⟨t1, t2⟩ := tm p h3
    obtain ⟨t3, t4⟩ := tm (p * 7 + 3) (by omega)
    obtain ⟨a1, a2⟩ := byte (p.tmod b.length).toNat (by omega)
    obtain ⟨a3, a4⟩ := byte ((p * 7 + 3).tmod b.length).toNat (by omega)
    have d1 : 0 ≤ p.tdiv b.length := Int.tdiv_nonneg h3 (by omega)
    have d2 : p.tdiv b.length ≤ p := Int.tdiv_le_self _ h3
    refine ⟨by omega, ⟨t1, t2⟩, by omega, by omega, ⟨t3, t4⟩, by omega, by omega, by omega, by omega, ?_⟩
    generalize b.getD (p.tmod b.length).toNat 0 = A at a1 a2 ⊢
    generalize b.getD ((p * 7 + 3).tmod b.length).toNat 0 = B at a3 a4 ⊢
    generalize p.tdiv b.length = D at d1 d2 ⊢
    have e3 : IntKind.i64.wrap A = A := wrap_small (by omega) (by omega)
    have e4 : IntKind.i64.wrap (A * 131) = A * 131 := wrap_small (by omega) (by omega)
    have e5 : IntKind.i64.wrap B = B := wrap_small (by omega) (by omega)
    have e6 : IntKind.i64.wrap (B * 1117) = B * 1117 := wrap_small (by omega) (by omega)
    have e7 : IntKind.i64.wrap (A * 131 + B * 1117) = A * 131 + B * 1117 := wrap_small (by omega) (by omega)
    have e8 : IntKind.i64.wrap (p * 29) = p * 29 := wrap_small (by omega) (by omega)
    have e9 : IntKind.i64.wrap (A * 131 + B * 1117 + p * 29) = A * 131 + B * 1117 + p * 29 := wrap_small (by omega) (by omega)
    have e10 : IntKind.i64.wrap D = D := wrap_small (by omega) (by omega)
    have e11 : IntKind.i64.wrap (D * 53) = D * 53 := wrap_small (by omega) (by omega)
    have e12 : IntKind.i64.wrap (A * 131 + B * 1117 + p * 29 + D * 53) = A * 131 + B * 1117 + p * 29 + D * 53 := wrap_small (by omega) (by omega)
    simp only [e3, e4, e5, e6, e7, e8, e9, e10, e11, e12]
    have hE : 0 ≤ A * 131 + B * 1117 + p * 29 + D * 53 ∧ A * 131 + B * 1117 + p * 29 + D * 53 < 281474976710656 := by omega
    generalize A * 131 + B * 1117 + p * 29 + D * 53 = E at hE
    refine ⟨_, ⟨fun _ => ⟨Int.tmod_nonneg _ (xor_nonneg hE.1 hE.2), Int.tmod_lt_of_pos _ (by omega)⟩, fun h'' => absurd h'' (by omega)⟩, ⟨rfl, trivial⟩, by simp⟩)

end Cg

/-
  Drawn clause sets: plain laws. No condition.
-/
set_option linter.unusedVariables false
set_option linter.unusedSimpArgs false
namespace Pl
open Go Cg

theorem lIs_neg {x : Int} {v : List Bool} (h0 : x ≠ 0) (h1 : x ≤ v.length) (h2 : -(v.length : Int) ≤ x) : lIs (-x) v = !lIs x v := by
  have e1 : ¬ (-x = 0 ∨ -x > (v.length : Int) ∨ -x < -(v.length : Int)) := by omega
  have e2 : ¬ (x = 0 ∨ x > (v.length : Int) ∨ x < -(v.length : Int)) := by omega
  unfold lIs
  rw [if_neg e1, if_neg e2]
  by_cases h : x < 0
  · have e3 : ¬ -x < 0 := by omega
    rw [if_neg e3, if_pos h, Bool.not_not]; congr 2; omega
  · have e3 : -x < 0 := by omega
    rw [if_pos e3, if_neg h]; congr 3; omega
theorem Mk.le_abs {x n : Int} (h : Mk x) (h1 : absW x ≤ n) : x ≤ n ∧ -n ≤ x := by
  rw [absW_of h] at h1
  split at h1 <;> omega
theorem Mk.lIs {x : Int} {v : List Bool} (h : Mk x) (h1 : absW x ≤ v.length) : Pl.lIs (Pl.wneg x) v = !Pl.lIs x v := by
  obtain ⟨h2, h3⟩ := h.le_abs h1
  rw [h.wneg]
  exact lIs_neg h.1 h2 h3

end Pl

/-
  The codes' contracts: drawn clause sets. No condition.
-/
set_option linter.unusedVariables false
set_option linter.unusedSimpArgs false
set_option maxRecDepth 100000
namespace Cg
open Go Go.Proofs

theorem k_num : SoundC Tryz.prog K_num.1 K_num.2 := sound_of hm (CtxOK.nil.and k_pick) (fun _ => []) (by kernel_rfl) fun (b, p, l) hb => cast (vc_num b p l) (by
  obtain ⟨h1, h2, h3⟩ : Rd 1099511627776 b p ∧ l ≠ [] ∧ Sz l := hb
  simp [-List.getD_eq_getElem?_getD, and_assoc]
  have hl : 0 < l.length := List.length_pos_iff.2 h2
  exact ⟨b, p, h1, rfl, rfl, fun y h4 h5 => by
    obtain ⟨h6, h7⟩ := h4 (by omega)
    exact ⟨h6, h7, by omega, _, getD_mem 0 (by omega), rfl, rfl, rfl⟩⟩)

end Cg

/-
  The codes' contracts: drawn clause sets, the rest. No condition.
-/
set_option linter.unusedVariables false
set_option linter.unusedSimpArgs false
set_option maxRecDepth 100000
namespace Cg
open Go Go.Proofs


theorem Rd.to {m m' : Int} {b : List Int} {p p' : Int} (h : Rd m b p) (h1 : 0 ≤ p') (h2 : p' ≤ m') : Rd m' b p' := ⟨h.1, h.2.1, h1, h2⟩
theorem Rds.two {v w : List Int} {a b : AV} (h1 : Is a (ints v)) (h2 : Is b (ints w)) : Rds 1 eII [] 2 (rowsCell [[a], [b]]) [v, w] := ⟨rfl, fun i hi j hj => by
  match i, j, hi, hj with
  | 0, 0, _, _ => exact h1
  | 1, 0, _, _ => exact h2⟩
theorem Rds.one {v : List Int} {a : AV} (h1 : Is a (ints v)) : Rds 1 eII [] 1 (rowsCell [[a]]) [v] := ⟨rfl, fun i hi j hj => by
  match i, j, hi, hj with
  | 0, 0, _, _ => exact h1⟩

theorem Sm.len {a : Int} {l : List (List Int)} (h : Sm (a, l)) : a ≤ 61 ∧ l.length ≤ 100 ∧ ∀ x ∈ l, x.length ≤ 100 := h
end Cg

/-
  The codes' contracts: laws of drawn clause sets. No condition.
-/
set_option linter.unusedVariables false
set_option linter.unusedSimpArgs false
set_option maxRecDepth 100000
namespace Cg
open Go Go.Proofs

theorem byt_of {l : List Int} (h : ∀ x ∈ l, (Lit.int .u8 x).wf = true) : Byt l := fun x hx => by
  have := h x hx
  simp [Lit.wf, IntKind.min, IntKind.max, IntKind.signed, IntKind.bits] at this
  omega
end Cg

/-
  The codes' contracts: drawn words. No condition.
-/
set_option linter.unusedVariables false
set_option linter.unusedSimpArgs false
set_option maxRecDepth 100000
namespace Cg
open Go Go.Proofs Pl
theorem slit (v : ByteArray) (j : Nat) (hj : j < 1) : [st v].getD j .any = eS v j := by
  have : j = 0 := by omega
  subst this
  rfl
@[simp] theorem strs_lit3 {a b c : ByteArray} {m : List ByteArray} : Is (.lit 3 1 (rowsCell [[st a], [st b], [st c]])) (strs m) ↔ [a, b, c] = m := Is_lits (by decide) EncN.eS [a, b, c] m (fun v => [st v]) slit
@[simp] theorem strs_lit5 {a b c d e : ByteArray} {m : List ByteArray} : Is (.lit 5 1 (rowsCell [[st a], [st b], [st c], [st d], [st e]])) (strs m) ↔ [a, b, c, d, e] = m := Is_lits (by decide) EncN.eS [a, b, c, d, e] m (fun v => [st v]) slit
@[simp] theorem strs_lit4 {a b c d : ByteArray} {m : List ByteArray} : Is (.lit 4 1 (rowsCell [[st a], [st b], [st c], [st d]])) (strs m) ↔ [a, b, c, d] = m := Is_lits (by decide) EncN.eS [a, b, c, d] m (fun v => [st v]) slit
theorem k_of : SoundC Tryz.prog K_of.1 K_of.2 := sound_of hm (CtxOK.nil.and k_pick) (fun _ => []) (by kernel_rfl) fun ((b, p, l) : List Int × Int × List ByteArray) hb => (by
  obtain ⟨h1, h2, h3⟩ : Rd 1099511627776 b p ∧ l ≠ [] ∧ Sz l := hb
  rw [← vc_of b p l]
  simp [-List.getD_eq_getElem?_getD, -List.mem_cons, -Bool.forall_bool, -Bool.exists_bool, and_assoc, peta, tl_inj, ex_1, ex_2, ex_3, ex_4, ex_5, ex_6, ex_7, ex_8, ex_9, ey_2, ey_3, ey_4, ey_5, ey_6, ey_7, ey_8, ey_9]
  have h0 : 0 < l.length := List.length_pos_iff.2 h2
  refine ⟨h1, fun y hy _ => ?_⟩
  obtain ⟨h4, h5⟩ := hy (by omega)
  exact ⟨h4, h5, by omega, getD_mem _ (by omega)⟩)
/-- Rows that were written out, one by one. -/
def LitR {α : Type} (k : Nat) (e : α → Nat → AV) (d : α) (rows : List (List AV)) (l : List α) : Prop := rows.length = l.length ∧ ∀ i, i < l.length → ∀ j, j < k → Is ((rows.getD i []).getD j .any) (e (l.getD i d) j)
theorem LitR.nil {α : Type} {k : Nat} {e : α → Nat → AV} {d : α} : LitR k e d [] [] := ⟨rfl, fun i hi => by cases hi⟩
theorem LitR.cons {α : Type} {k : Nat} {e : α → Nat → AV} {d : α} {rows : List (List AV)} {l : List α} (h : LitR k e d rows l) {r : List AV} {v : α} (hr : ∀ j, j < k → Is (r.getD j .any) (e v j)) : LitR k e d (r :: rows) (v :: l) :=
  ⟨by simp [h.1], fun i hi j hj => by
    cases i with
    | zero => exact hr j hj
    | succ i => exact h.2 i (by simpa using hi) j hj⟩
theorem LitR.is {α : Type} {k : Nat} {e : α → Nat → AV} {d : α} {rows : List (List AV)} {l : List α} (h : LitR k e d rows l) : Is (.lit rows.length k (rowsCell rows)) (.sl l.length k fun i j => e (l.getD i d) j) :=
  Is_lit_of h.1 fun i hi j hj => h.2 i hi j hj
theorem rowY {a : ByteArray} {b : AV} {l : List Int} {c : Int} (hb : Is b (ints l)) : ∀ j, j < 3 → Is ([st a, b, i64 c].getD j .any) (eY (a, l, c) j) := Is_rowY hb
theorem ints_l0 {q : Nat} {c : Nat → Nat → AV} : Is (.lit 0 q c) (ints []) := ints_nil.2 rfl
theorem ints_l1 {a : Int} : Is (.lit 1 1 (rowsCell [[i64 a]])) (ints [a]) := ints_lit1.2 rfl
theorem ints_l2 {a b : Int} : Is (.lit 2 1 (rowsCell [[i64 a], [i64 b]])) (ints [a, b]) := ints_lit2.2 rfl
theorem base_small (k : Int) : SgB 5 2 (base k) := by
  unfold base
  split
  · exact ⟨by decide, by simp; decide⟩
  · split
    · exact ⟨by decide, by simp; decide⟩
    · split
      · exact ⟨by decide, by simp; decide⟩
      · split
        · exact ⟨by decide, by simp; decide⟩
        · exact ⟨by decide, by simp⟩
theorem k_l4Base : SoundC Tryz.prog K_l4Base.1 K_l4Base.2 := sound_of hm CtxOK.nil (fun _ => []) (by kernel_rfl) fun (k : Int) hb => (by
  rw [← vc_l4Base k]
  simp [-List.getD_eq_getElem?_getD, -List.mem_cons, -Bool.forall_bool, -Bool.exists_bool, and_assoc, peta, tl_inj, ex_1, ex_2, ex_3, ex_4, ex_5, ex_6, ex_7, ex_8, ex_9, ey_2, ey_3, ey_4, ey_5, ey_6, ey_7, ey_8, ey_9]
  refine ⟨fun h => ?_, fun h0 => ⟨fun h => ?_, fun h1 => ⟨fun h => ?_, fun h2 => ⟨fun h => ?_, fun h3 => ?_⟩⟩⟩⟩
  · unfold base; rw [if_pos h]
    exact (((((LitR.nil.cons (rowY ints_l2)).cons (rowY ints_l1)).cons (rowY ints_l0)).cons (rowY ints_l0)).cons (rowY ints_l0)).is
  · unfold base; rw [if_neg h0, if_pos h]
    exact (((((LitR.nil.cons (rowY ints_l0)).cons (rowY ints_l0)).cons (rowY ints_l1)).cons (rowY ints_l0)).cons (rowY ints_l0)).is
  · unfold base; rw [if_neg h0, if_neg h1, if_pos h]
    exact ((((LitR.nil.cons (rowY ints_l0)).cons (rowY ints_l0)).cons (rowY ints_l0)).cons (rowY ints_l1)).is
  · unfold base; rw [if_neg h0, if_neg h1, if_neg h2, if_pos h]
    exact (((((LitR.nil.cons (rowY ints_l0)).cons (rowY ints_l0)).cons (rowY ints_l2)).cons (rowY ints_l1)).cons (rowY ints_l0)).is
  · unfold base; rw [if_neg h0, if_neg h1, if_neg h2, if_neg h3])
theorem k_l4Sig : SoundC Tryz.prog K_l4Sig.1 K_l4Sig.2 := sound_of hm ((CtxOK.nil.and k_l4Base).and k_num) (fun _ => []) (by kernel_rfl) fun ((b, p) : List Int × Int) hb => (by
  replace hb : Rd 549755813888 b p := hb
  rw [← vc_l4Sig b p]
  simp [-List.getD_eq_getElem?_getD, -List.mem_cons, -Bool.forall_bool, -Bool.exists_bool, and_assoc, peta, tl_inj, ex_1, ex_2, ex_3, ex_4, ex_5, ex_6, ex_7, ex_8, ex_9, ey_2, ey_3, ey_4, ey_5, ey_6, ey_7, ey_8, ey_9]
  exact ⟨hb.to hb.2.2.1 (by have := hb.2.2.2; omega), fun y _ => base_small y⟩)
theorem IsR_storeG {α : Type} {k : Nat} {e : α → Nat → AV} {d : α} {c : Nat → Nat → AV} {l : List α} (hc : IsR k e d c l) {i0 : Nat} {v : α} {vs : List AV} (hl : vs.length = k)
    (h : ∀ j, j < k → Is (vs.getD j .any) (e v j)) : IsR k e d (storeC c i0 0 vs) (l.set i0 v) := fun i hi j hj => by
  have hi' : i < l.length := by simpa using hi
  unfold storeC
  by_cases hii : i = i0
  · subst hii
    have e1 : (l.set i v).getD i d = v := by simp [hi']
    rw [e1, beq_iff.2 rfl, Bool.true_and, ble_iff.2 (Nat.zero_le j), blt_true (by omega), Bool.true_and, cond_true, Nat.sub_zero]
    exact h j hj
  · have e1 : (l.set i0 v).getD i d = l.getD i d := by simp only [List.getD_eq_getElem?_getD, List.getElem?_set_ne (Ne.symm hii)]
    have e2 : Nat.beq i i0 = false := by
      cases hb : Nat.beq i i0
      · rfl
      · exact absurd (beq_iff.1 hb) hii
    rw [e1, e2, Bool.false_and, Bool.false_and, cond_false]
    exact hc i hi' j hj
theorem IsX_v (x : Value) : IsX (.v x) (.v x) := rfl
theorem mem_set_imp {α : Type} {q : α → Prop} {l : List α} {i : Nat} {v : α} (h : ∀ x ∈ l, q x) (hv : q v) : ∀ x ∈ l.set i v, q x := fun x hx => by
  rcases List.mem_or_eq_of_mem_set hx with e | e
  · exact h x e
  · rw [e]; exact hv
theorem mem_push_imp {α : Type} {q : α → Prop} {l : List α} {v : α} (h : ∀ x ∈ l, q x) (hv : q v) : ∀ x ∈ l ++ [v], q x := fun x hx => by
  rcases List.mem_append.1 hx with e | e
  · exact h x e
  · rw [List.mem_singleton.1 e]; exact hv
theorem _root_.Pl.SgB.mono {n k n' k' : Nat} {s : Pl.Sig} (h : SgB n k s) (h1 : n ≤ n') (h2 : k ≤ k') : SgB n' k' s := ⟨Nat.le_trans h.1 h1, fun x hx => ⟨(h.2 x hx).1, Nat.le_trans (h.2 x hx).2 h2⟩⟩
theorem _root_.Pl.SgB.set {n k : Nat} {s : Pl.Sig} (h : SgB n k s) {i : Nat} {x : Sym} (hx : x.1.size ≤ 10 ∧ x.2.1.length ≤ k) : SgB n k (s.set i x) := ⟨by simpa using h.1, mem_set_imp h.2 hx⟩
theorem _root_.Pl.SgB.push {n k : Nat} {s : Pl.Sig} (h : SgB n k s) {x : Sym} (hn : s.length < n) (hx : x.1.size ≤ 10 ∧ x.2.1.length ≤ k) : SgB n k (s ++ [x]) := ⟨by simp; omega, mem_push_imp h.2 hx⟩
end Cg

/-
  What is left to show of each function's code, printed by a program: Mdr. No condition.
-/
set_option maxRecDepth 100000
set_option linter.unusedVariables false
namespace Cg
open Go Go.Proofs
end Cg

/-
  A row that owns its values is put among rows that own theirs: from what the code does with the slices themselves. No condition.
-/
set_option linter.unusedVariables false
set_option linter.unusedSimpArgs false
namespace Cg
open Go Pl
section
variable {S : Nat → Prop} {μ : Nat → OI} {w : World} {L : List Rw} {r : Rw}

/-- What is known of the rows' slices: headers, and what they own. -/
structure Hds (S : Nat → Prop) (μ : Nat → OI) (w : World) (L : List Rw) (r : Rw) (hd : Nat → Value) (iq : Nat → Option Inn) : Prop where
  rel : ∀ i, i ≤ L.length → RelN S w (iq i) ((L ++ [r]).getD i dR).2.1.length 2 (cQ ((L ++ [r]).getD i dR).2.1) (hd i)
  own : ∀ i v, iq i = some v → i ≤ L.length ∧ Blk μ [xrR L, arQ r.2.1] v.b ∧ (μ 0).b ≠ some v.b
  dis : ∀ i v i' v', iq i = some v → iq i' = some v' → v'.b = v.b → i' = i

/-- The one slice of an own row. -/
def innOf (q : OI) (n : Nat) : Option Inn := match q.b with
  | none => none
  | some b => if q.cap = 0 then none else some ⟨b, q.base, q.cap, n⟩
/-- What stays while the rows are moved: what stays anyhow, and what they own. -/
def SOwn (S : Nat → Prop) (iq : Nat → Option Inn) : Nat → Prop := fun b => S b ∨ ∃ i v, iq i = some v ∧ v.b = b
def hrows (hd : Nat → Value) (L : List Rw) : List HRw := (List.range L.length).map fun i => (hd i, L.getD i dR)
@[simp] theorem hrows_len (hd : Nat → Value) (L : List Rw) : (hrows hd L).length = L.length := by unfold hrows; simp
end

end Cg

/-
  The codes' contracts: drawn models. No condition.
-/
set_option linter.unusedVariables false
set_option linter.unusedSimpArgs false
set_option maxRecDepth 100000
namespace Cg
open Go Go.Proofs Pl
/-- The places, with the last one put in at x. -/
def insI (x n : Nat) : List Nat := List.range x ++ [n] ++ List.range' x (n - x)
end Cg

/-
  What is left to show of each function's code, printed by a program: Mlt. No condition.
-/
set_option maxRecDepth 100000
set_option linter.unusedVariables false
namespace Cg
open Go Go.Proofs
end Cg

/-
  The codes' contracts: the truth of literals in models. No condition.
-/
set_option linter.unusedVariables false
set_option linter.unusedSimpArgs false
set_option maxRecDepth 100000
set_option maxHeartbeats 1000000
namespace Pl
open Go Cg
end Pl
namespace Cg
open Go Go.Proofs Pl
end Cg

/-
  The codes' contracts: drawn models. No condition.
-/
set_option linter.unusedVariables false
set_option linter.unusedSimpArgs false
set_option maxRecDepth 100000
namespace Cg
open Go Go.Proofs Pl
theorem IsX_eR (x : Rw) (j : Nat) (hj : j < 4) : IsX (eR x j) (eR x j) := by
  match j, hj with
  | 0, _ => exact IsX_v _
  | 1, _ => exact ⟨rfl, rfl, fun i hi j hj => EncN.eQ.self _ hj⟩
  | 2, _ => exact IsX_v _
  | 3, _ => exact IsX_v _
@[simp] theorem xrR_self {l : List Rw} : IsO (xrR l) (xrR l) := ⟨rfl, rfl, fun i hi j hj => IsX_eR _ j hj⟩
theorem _root_.Pl.MdB.mono {n k n' k' : Nat} {s : Mdl} (h : MdB n k s) (h1 : n ≤ n') (h2 : k ≤ k') : MdB n' k' s := ⟨Nat.le_trans h.1 h1, fun x hx => ⟨(h.2 x hx).1, Nat.le_trans (h.2 x hx).2 h2⟩⟩
theorem _root_.Pl.MdB.set {n k : Nat} {s : Mdl} (h : MdB n k s) {i : Nat} {x : Rw} (hx : x.1.size ≤ 10 ∧ x.2.1.length ≤ k) : MdB n k (s.set i x) := ⟨by simpa using h.1, mem_set_imp h.2 hx⟩
theorem _root_.Pl.MdB.push {n k : Nat} {s : Mdl} (h : MdB n k s) {x : Rw} (hn : s.length < n) (hx : x.1.size ≤ 10 ∧ x.2.1.length ≤ k) : MdB n k (s ++ [x]) := ⟨by simp; omega, mem_push_imp h.2 hx⟩
end Cg

/-
  Drawn models that stay as they are. No condition.
-/

/-
  What is left to show of each function's code, printed by a program: Mdf. No condition.
-/
set_option maxRecDepth 100000
set_option linter.unusedVariables false
namespace Cg
open Go Go.Proofs
end Cg

/-
  The codes' contracts: drawn models, the rest, and the law that models are compared exactly. No condition.
-/
set_option linter.unusedVariables false
set_option linter.unusedSimpArgs false
set_option maxRecDepth 100000
namespace Cg
open Go Go.Proofs Pl
end Cg

/-
  The codes' contracts: drawn terms, and the law that functions are functional. No condition.
-/
set_option linter.unusedVariables false
set_option linter.unusedSimpArgs false
set_option maxRecDepth 100000
namespace Cg
open Go Go.Proofs Pl
theorem copy_push {ks : List Tm} {k : Nat} (hk : k ≤ ks.length) (hlt : k < ks.length) : IsO (AObj.arr (min k ks.length + 1) 2 (joinC (min k ks.length) (cT (List.take k ks)) (rowsCell [[st (Tree.val (ks.getD k dT)), terms (Tree.kids (ks.getD k dT))]]))) (arT (List.take (k + 1) ks)) := by
  have hlen : (ks.take k).length = k := by simp; omega
  rw [Nat.min_eq_left hk, Pl.take_succ_getD dT hlt]
  have := IsO_join (l := ks.take k) (m := [ks.getD k dT]) (d := dT) EncN.eT (IsR_row EncN.eT (Is_rowK rfl (Is_terms_kidsT.2 rfl)))
  rw [hlen] at this
  exact this
theorem namesT : ∀ y ∈ [(⟨#[]⟩ : ByteArray), ⟨#[65]⟩, ⟨#[97, 98, 99]⟩, ⟨#[102]⟩], y.size ≤ 10 := by decide
theorem LitR.rds {α : Type} {k : Nat} {e : α → Nat → AV} {d : α} {rows : List (List AV)} {l : List α} (h : LitR k e d rows l) : Rds k e d rows.length (rowsCell rows) l := ⟨h.1, fun i hi j hj => h.2 i hi j hj⟩
theorem CB_ge (n : Nat) : 12 ≤ CB n := by cases n <;> (unfold CB; omega)
theorem k_l4Copy : ∀ n, SoundC Tryz.prog (K_l4Copy n).1 (K_l4Copy n).2
  | 0 => ⟨by exact callable_of (by kernel_rfl), fun x hx => absurd hx.2 (Nat.not_lt_zero _)⟩
  | n + 1 => sound_of hm (CtxOK.nil.and (K := K_l4Copy n) (k_l4Copy n)) (fun (x : TP) => A_l4Copy x.1 x.2) (by kernel_rfl) fun (x : TP) hl => (by
    obtain ⟨v, ks⟩ := x
    obtain ⟨h1, h2⟩ : SmT (.mk v ks) ∧ manyL ks < n + 1 := hl
    rw [← vc_l4Copy n v ks]
    simp [-List.getD_eq_getElem?_getD, -List.mem_cons, -Bool.forall_bool, -Bool.exists_bool, and_assoc, peta, tl_inj, ex_1, ex_2, ex_3, ex_4, ex_5, ex_6, ex_7, ex_8, ex_9, ey_2, ey_3, ey_4, ey_5, ey_6, ey_7, ey_8, ey_9]
    refine ⟨⟨0, by omega, rfl, rfl, .inl rfl⟩, fun k hk => ⟨fun hlt => ?_, fun hge => List.take_of_length_le hge⟩⟩
    have ht := getD_mem dT hlt
    have c1 := costT_mem ht
    have c2 := costT_eq (.mk v ks)
    simp only [Tree.val_mk, Tree.kids_mk] at c2
    have m1 := many_mem ht
    have m2 := (ks.getD k dT).many_eq
    exact ⟨hlt, by omega, by omega, by omega, k + 1, hlt, by omega, wrap_succ hlt (by omega), by omega, copy_push hk hlt⟩)
theorem k_lCopy : SoundC Tryz.prog K_lCopy.1 K_lCopy.2 := SoundC.famI (fun (x : TP) => manyL x.2) k_l4Copy
theorem k_l4CopyO : SoundC Tryz.prog K_l4CopyO.1 K_l4CopyO.2 := sound_of hm (CtxOK.nil.and k_lCopy) (fun (x : TP) => A_l4CopyO x.1 x.2) (by kernel_rfl) fun (x : TP) hl => (by
  obtain ⟨v, ks⟩ := x
  replace hl : SmT (.mk v ks) := hl
  rw [← vc_l4CopyO v ks]
  simp [-List.getD_eq_getElem?_getD, -List.mem_cons, -Bool.forall_bool, -Bool.exists_bool, and_assoc, peta, tl_inj, ex_1, ex_2, ex_3, ex_4, ex_5, ex_6, ex_7, ex_8, ex_9, ey_2, ey_3, ey_4, ey_5, ey_6, ey_7, ey_8, ey_9]
  refine ⟨⟨0, by omega, rfl, rfl, .inl rfl⟩, fun k hk => ⟨fun hlt => ?_, fun hge => List.take_of_length_le hge⟩⟩
  have ht := getD_mem dT hlt
  have c1 := costT_mem ht
  have c2 := costT_eq (.mk v ks)
  simp only [Tree.val_mk, Tree.kids_mk] at c2
  exact ⟨hlt, by omega, by omega, k + 1, hlt, by omega, wrap_succ hlt (by omega), by omega, copy_push hk hlt⟩)
theorem k_l4Any : ∀ n, SoundC Tryz.prog (K_l4Any n).1 (K_l4Any n).2
  | 0 => ⟨by exact callable_of (by kernel_rfl), fun x hx => absurd hx.2 (Nat.not_lt_zero _)⟩
  | n + 1 => sound_of hm ((CtxOK.nil.and (K := K_l4Any n) (k_l4Any n)).and k_pick) (fun ((b, p, s, u, d) : AX) => A_l4Any b p s u d) (by kernel_rfl) fun ((b, p, s, u, d) : AX) hl => (by
    obtain ⟨⟨h1, h1', h2, h3⟩, h4⟩ : (Rd 137438953472 b p ∧ p + CB d.toNat ≤ 137438953472 ∧ SgB 5 2 s ∧ d ≤ 4) ∧ d.toNat < n + 1 := hl
    rw [← vc_l4Any n b p s u d]
    simp [-List.getD_eq_getElem?_getD, -List.mem_cons, -Bool.forall_bool, -Bool.exists_bool, and_assoc, peta, tl_inj, ex_1, ex_2, ex_3, ex_4, ex_5, ex_6, ex_7, ex_8, ex_9, ey_2, ey_3, ey_4, ey_5, ey_6, ey_7, ey_8, ey_9]
    have g3 := h1.2.2.1
    have g4 := h1.2.2.2
    obtain ⟨s1, s2⟩ : s.length ≤ 5 ∧ ∀ x ∈ s, x.1.size ≤ 10 ∧ x.2.1.length ≤ 2 := id h2
    have hC := CB_ge d.toNat
    refine ⟨⟨0, by omega, [], Nat.le_refl _, fun x hx => (by cases hx), rfl, rfl, rfl, rfl⟩, fun i ws hi hw hwd => ⟨fun hlt => ?_, fun hge => ⟨fun hnil => ?_, fun hne => ?_⟩⟩⟩
    · have h5 := s2 _ (getD_mem dY hlt)
      have keep : ∃ a_8, a_8 ≤ s.length ∧ ∃ x : List Sym, x.length ≤ a_8 ∧ WdB d x ∧ s.length - a_8 < s.length - i ∧ ws.length = x.length ∧ IntKind.i64.wrap ((i : Int) + 1) = (a_8 : Int) ∧ (x = [] ∨ ws = x) :=
        ⟨i + 1, by omega, ws, by omega, hwd, by omega, rfl, wrap_succ hlt (by omega), .inr rfl⟩
      have push : (d ≤ 1 → (s.getD i dY).2.1 = []) → (ws.length + 1) * 48 ≤ 70368744177664 ∧ ∃ a_8, a_8 ≤ s.length ∧ ∃ x : List Sym, x.length ≤ a_8 ∧ WdB d x ∧ s.length - a_8 < s.length - i ∧ ws.length + 1 = x.length ∧ IntKind.i64.wrap ((i : Int) + 1) = (a_8 : Int) ∧
          IsO (AObj.arr (ws.length + 1) 3 (joinC ws.length (cY ws) (rowsCell [[st (s.getD i dY).fst, ints (s.getD i dY).snd.fst, i64 (s.getD i dY).snd.snd]]))) (arY x) := fun h6 =>
        ⟨by omega, i + 1, by omega, ws ++ [s.getD i dY], by simp; omega, mem_push_imp hwd ⟨h5.1, h5.2, h6⟩, by omega, by simp, wrap_succ hlt (by omega), IsO_join EncN.eY (IsR_row EncN.eY (Is_rowY (Is_ints.2 rfl)))⟩
      exact ⟨hlt, fun he => ⟨fun hd => ⟨hlt, push fun h => absurd h (by omega)⟩, fun hd => ⟨hlt, fun ha => ⟨hlt, push fun _ => ha⟩, fun _ => keep⟩⟩, fun _ => keep⟩
    · refine ⟨⟨#[113]⟩, [], ?_, by omega, rfl, rfl⟩
      show costT (.mk ⟨#[113]⟩ []) ≤ _
      rw [costT_eq]
      simp only [Tree.val_mk, Tree.kids_mk, costTs, List.length_nil]
      have : (⟨#[113]⟩ : ByteArray).size = 1 := rfl
      omega
    · refine ⟨h1.to (by omega) (by omega), fun y hy _ => ?_⟩
      have hw0 : 0 < ws.length := List.length_pos_iff.2 hne
      obtain ⟨y1, y2⟩ := hy (by omega)
      have hyl : y.toNat < ws.length := by omega
      have hwy := hwd _ (getD_mem dY hyl)
      refine ⟨y1, y2, hyl, ⟨(ws.getD y.toNat dY).1, (ws.getD y.toNat dY).2.1, (ws.getD y.toNat dY).2.2, fun x hx => by rw [List.mem_singleton.1 hx]; exact hwy, 0, Nat.zero_le _, [], rfl, Nat.zero_le _, by omega, by simp, rfl, rfl, rfl, rfl, rfl, rfl⟩, fun nm args so j kids q hw1 hj hkl hc q1 q2 => ⟨fun hlt => ?_, fun hge => ?_⟩⟩
      · obtain ⟨a1, a2, a3⟩ := hw1 _ List.mem_cons_self
        dsimp only at a1 a2 a3
        have hd : 2 ≤ d := Classical.byContradiction fun h => by
          have := a3 (by omega)
          rw [this] at hlt; exact absurd hlt (Nat.not_lt_zero _)
        have hdn : d.toNat = (d.toNat - 1) + 1 := by omega
        have hCe : CB d.toNat = 12 + 2 * CB (d.toNat - 1) := by rw [hdn]; rfl
        have hw2 : IntKind.i64.wrap (d - 1) = d - 1 := wrap_small (by omega) (by omega)
        have hdt : (d - 1).toNat = d.toNat - 1 := by omega
        rw [hw2, hdt]
        generalize hCC : CB (d.toNat - 1) = C at *
        have hj2 : (j : Int) * C ≤ C := by
          have : j = 0 ∨ j = 1 := by omega
          rcases this with rfl | rfl <;> simp <;> omega
        have hj3 : ((j + 1 : Nat) : Int) * C = j * C + C := by push_cast; rw [Int.add_mul, Int.one_mul]
        have hcn : (j + 1) * C = j * C + C := Nat.succ_mul j C
        refine ⟨hlt, h1.to (by omega) (by omega), by omega, h2, by omega, by omega, fun nm2 k2 q' ht q3 q4 => ⟨by omega, nm, args, so, hw1, j + 1, hlt, kids ++ [.mk nm2 k2], by simp; omega, ?_, by omega, by rw [hj3]; omega, by omega, wrap_succ hlt (by omega), rfl, rfl, rfl, rfl, by simp, IsO_join EncN.eT (IsR_row EncN.eT (Is_rowT (Is_terms.2 rfl)))⟩⟩
        have ht' : costT (.mk nm2 k2) ≤ C := ht
        rw [costTs_snoc, hcn]
        omega
      · obtain ⟨a1, a2, a3⟩ := hw1 _ List.mem_cons_self
        dsimp only at a1 a2 a3
        have c2 := costT_eq (.mk nm kids)
        simp only [Tree.val_mk, Tree.kids_mk] at c2
        by_cases hd : d ≤ 1
        · have h0 : j = 0 := by have := a3 hd; rw [this] at hj; simpa using hj
          subst h0
          refine ⟨nm, kids, ?_, q1, ?_, rfl, rfl, .inr rfl⟩
          · show costT (.mk nm kids) ≤ _
            simp at hc
            omega
          · simp at q2
            omega
        · have hdn : d.toNat = (d.toNat - 1) + 1 := by omega
          have hCe : CB d.toNat = 12 + 2 * CB (d.toNat - 1) := by rw [hdn]; rfl
          have hj2 : j * CB (d.toNat - 1) ≤ 2 * CB (d.toNat - 1) := Nat.mul_le_mul_right _ (by omega)
          have hj3 : (j : Int) * (CB (d.toNat - 1) : Int) = ((j * CB (d.toNat - 1) : Nat) : Int) := by push_cast; rfl
          rw [hj3] at q2
          generalize hm : j * CB (d.toNat - 1) = M at *
          refine ⟨nm, kids, ?_, q1, ?_, rfl, rfl, .inr rfl⟩
          · show costT (.mk nm kids) ≤ _
            omega
          · omega)
theorem k_lAny : SoundC Tryz.prog K_lAny.1 K_lAny.2 := SoundC.famE (fun (x : AX) => x.2.2.2.2.toNat) k_l4Any
set_option maxHeartbeats 8000000 in
theorem g_l4Some (b : List Int) (p : Int) (s : Pl.Sig) (h1 : Rd 68719476736 b p) (h2 : SgB 5 2 s) : GoalW Tryz.prog [K_pick, K_num, K_of, K_lAny, K_l4CopyO] ([]) K_l4Some.1 K_l4Some.2 (b, p, s) := GoalW.of (vc_l4Some b p s) (by
  simp (maxSteps := 2000000) [-List.getD_eq_getElem?_getD, -List.mem_cons, -Bool.forall_bool, -Bool.exists_bool, and_assoc, peta, tl_inj, ex_1, ex_2, ex_3, ex_4, ex_5, ex_6, ex_7, ex_8, ex_9, ey_2, ey_3, ey_4, ey_5, ey_6, ey_7, ey_8, ey_9]
  have g3 := h1.2.2.1
  have g4 := h1.2.2.2
  refine ⟨h1.to (by omega) (by omega), fun y _ _ => ⟨h1.to (by omega) (by omega), fun d hd => ?_⟩⟩
  have hC : CB d.toNat ≤ 372 ∧ d ≤ 4 := by
    simp at hd
    rcases hd with rfl | rfl | rfl | rfl <;> exact ⟨by decide, by decide⟩
  refine ⟨h1.to (by omega) (by omega), by omega, h2, hC.2, fun a ks q ht q1 q2 => ⟨h1.to (by omega) (by omega), fun z _ _ => ?_⟩⟩
  have ht' : costT (.mk a ks) ≤ CB d.toNat := ht
  have c2 := costT_eq (.mk a ks)
  simp only [Tree.val_mk, Tree.kids_mk] at c2
  have c3 : ∀ (v : ByteArray) (l : List Tm), costT (.mk v l) = v.size + l.length + costTs l := fun v l => by
    have := costT_eq (.mk v l)
    simpa only [Tree.val_mk, Tree.kids_mk] using this
  have h0j : LitR 2 eT dT [[st a, terms ks]] [Tree.mk a ks] := LitR.nil.cons (Is_rowT (Is_terms.2 rfl))
  have h1j := (Rds.cel (d := dT) EncN.eT ks).join h0j.rds
  have h2j := (Rds.cel (d := dT) EncN.eT ks).join (h0j.cons (r := [st a, terms ks]) (v := Tree.mk a ks) (Is_rowT (Is_terms.2 rfl))).rds
  refine ⟨fun _ => ⟨h1.to (by omega) (by omega), fun nm hnm => ⟨?_, by omega, by omega⟩⟩, fun _ => ⟨fun _ => ?_, fun _ => ⟨fun _ => ?_, fun _ => ⟨?_, by omega, by omega⟩⟩⟩⟩
  · have := namesT nm hnm
    show costT (.mk nm ks) ≤ 1500
    rw [c3]; omega
  · refine ⟨a, ks, by omega, rfl, rfl, .inr rfl, by omega, by omega, a, ks ++ [Tree.mk a ks], ?_, by omega, by omega, rfl, h1j.is⟩
    show costT (.mk a (ks ++ [.mk a ks])) ≤ 1500
    rw [c3, costTs_snoc, List.length_append, List.length_singleton]; omega
  · refine ⟨a, ks, by omega, rfl, rfl, .inr rfl, a, ks, by omega, rfl, rfl, .inr rfl, by omega, by omega, a, ks ++ [Tree.mk a ks, Tree.mk a ks], ?_, by omega, by omega, rfl, h2j.is⟩
    show costT (.mk a (ks ++ [.mk a ks, .mk a ks])) ≤ 1500
    have e : ks ++ [.mk a ks, .mk a ks] = (ks ++ [.mk a ks]) ++ [.mk a ks] := by simp
    rw [e, c3, costTs_snoc, costTs_snoc, List.length_append, List.length_append, List.length_singleton]; omega
  · show costT (.mk a ks) ≤ 1500
    omega)
theorem k_l4Some : SoundC Tryz.prog K_l4Some.1 K_l4Some.2 := sound_ofW hm (((((CtxOK.nil.and k_l4CopyO).and k_lAny).and k_of).and k_num).and k_pick) (fun _ => []) (by kernel_rfl) fun ((b, p, s) : List Int × Int × Pl.Sig) hb => g_l4Some b p s hb.1 hb.2
theorem Is_rowsI {α : Type} {k : Nat} {e : α → Nat → AV} {d : α} (hk : 0 < k) {v : α} {m : List α} {r : List AV} (h : ∀ v', (∀ j, j < k → Is (r.getD j .any) (e v' j)) ↔ v = v') :
    Is (.lit 1 k (rowsCell [r])) (.sl m.length k fun i j => e (m.getD i d) j) ↔ [v] = m := by
  constructor
  · intro h'
    rw [Is] at h'
    obtain ⟨h1, h2⟩ := h'
    match m, h1 with
    | [x], _ =>
      congr 1
      refine (h x).1 fun j hj => ?_
      rcases h2 with h2 | ⟨_, h2⟩
      · omega
      · exact h2 0 (by omega) j hj
  · rintro rfl
    refine Is_lit_of rfl fun i hi j hj => ?_
    have : i = 0 := by simpa using hi
    subst this
    exact (h v).2 rfl j hj
@[simp] theorem terms_lit1 {a : ByteArray} {ks m : List Tm} : Is (.lit 1 2 (rowsCell [[st a, terms ks]])) (terms m) ↔ [Tree.mk a ks] = m := Is_rowsI (e := eT) (d := dT) (by decide) fun v' => by
  constructor
  · intro h
    have h0 : Is (st a) (st v'.val) := h 0 (by decide)
    have h1 : Is (terms ks) (kidsT v') := h 1 (by decide)
    exact Tree.ext (Is_st.1 h0) (Is_terms_kidsT.1 h1)
  · rintro rfl j hj
    exact Is_rowT (Is_terms.2 rfl) j hj
@[simp] theorem terms_lit0 {a : ByteArray} {q : Nat} {c : Nat → Nat → AV} {m : List Tm} : Is (.lit 1 2 (rowsCell [[st a, .lit 0 q c]])) (terms m) ↔ [Tree.mk a []] = m := Is_rowsI (e := eT) (d := dT) (by decide) fun v' => by
  constructor
  · intro h
    have h0 : Is (st a) (st v'.val) := h 0 (by decide)
    have h1 : Is (.lit 0 q c) (kidsT v') := h 1 (by decide)
    unfold kidsT at h1
    rw [Is] at h1
    exact Tree.ext (Is_st.1 h0) (List.eq_nil_of_length_eq_zero h1.1.symm).symm
  · rintro rfl j hj
    exact Is_rowT (terms_nil.2 rfl) j hj
end Cg

/-
  The codes' contracts: drawn atoms. No condition.
-/
set_option linter.unusedVariables false
set_option linter.unusedSimpArgs false
set_option maxRecDepth 100000
namespace Cg
open Go Go.Proofs Pl
theorem _root_.Pl.PutB.nil {ns : List Tm} {t : Tm} {n : Nat} : PutB ns t n [] [] := ⟨Nat.zero_le _, rfl, fun u hu => by cases hu⟩
theorem _root_.Pl.PutB.push {ns : List Tm} {t u : Tm} {n n' : Nat} {ms : List Tm} {ts : List Int} {c : Int} (h : PutB ns t n ms ts) (hu : u ∈ ns ∨ u = t) (hn : n + 1 ≤ n') : PutB ns t n' (ms ++ [u]) (ts ++ [c]) :=
  ⟨by have := h.1; simp; omega, by have := h.2.1; simp; omega, mem_push_imp h.2.2 hu⟩
theorem _root_.Pl.PutB.mono {ns : List Tm} {t : Tm} {n n' : Nat} {ms : List Tm} {ts : List Int} (h : PutB ns t n ms ts) (hn : n ≤ n') : PutB ns t n' ms ts := ⟨Nat.le_trans h.1 hn, h.2⟩
theorem _root_.Pl.AtB.mono {n n' : Nat} {x : Atm} (h : AtB n x) (hn : n ≤ n') : AtB n' x := ⟨h.1, h.2.1, Nat.le_trans h.2.2.1 hn, Nat.le_trans h.2.2.2.1 hn, h.2.2.2.2⟩
theorem costTs_le {c : Nat} : ∀ {l : List Tm}, (∀ t ∈ l, costT t ≤ c) → costTs l ≤ l.length * c
  | [], _ => Nat.zero_le _
  | t :: ts, h => by
    have h1 := h t List.mem_cons_self
    have h2 := costTs_le (l := ts) fun u hu => h u (List.mem_cons_of_mem _ hu)
    rw [costTs, List.length_cons, Nat.succ_mul]; omega
theorem at_sm {n : Nat} {x : Atm} (h : AtB n x) (hn : n ≤ 100 := by decide) : costA x ≤ 1048576 := by
  obtain ⟨h1, h2, h3, h4, h5⟩ := h
  have h6 := costTs_le h5
  have h7 : x.2.2.2.1.length * 400 ≤ 100 * 400 := Nat.mul_le_mul_right _ (by omega)
  unfold costA; omega
theorem Rds.tm (a : ByteArray) (ks : List Tm) : Rds 2 eT dT 1 (rowsCell [[st a, terms ks]]) [.mk a ks] := Rds.row (terms_row a ks)
theorem Rds.tk (t : Tm) : Rds 2 eT dT 1 (rowsCell [[st (Tree.val t), kidsT t]]) [t] := Rds.row (IsR_row EncN.eT (Is_rowK rfl (Is_kidsT2.2 rfl)))
theorem Rds.int (a : Int) : Rds 1 eI 0 1 (rowsCell [[i64 a]]) [a] := Rds.row (ints_row a)
set_option maxHeartbeats 8000000 in
theorem g_l6Put (a : Atm) (v : ByteArray) (ks : List Tm) (n : Int) (h1 : SmA a) (h2 : SmT (.mk v ks)) (h3 : a.2.2.2.1.length ≤ 100) (h4 : a.2.2.2.2.1.length = a.2.2.2.1.length) : GoalW Tryz.prog [K_lText] (A_l6Put a v ks n) K_l6Put.1 K_l6Put.2 (a, (v, ks), n) := GoalW.of (vc_l6Put a v ks n) (by
  simp (maxSteps := 2000000) [-List.getD_eq_getElem?_getD, -List.mem_cons, -Bool.forall_bool, -Bool.exists_bool, and_assoc, peta, tl_inj, ex_1, ex_2, ex_3, ex_4, ex_5, ex_6, ex_7, ex_8, ex_9, ey_2, ey_3, ey_4, ey_5, ey_6, ey_7, ey_8, ey_9]
  refine ⟨⟨0, Nat.zero_le _, false, [], [], PutB.nil, rfl, rfl, rfl, rfl, rfl⟩, fun i d ms ts hi hp => ⟨fun hlt => ?_, fun hge => ?_⟩⟩
  · have ht := getD_mem dT hlt
    have c1 : costT (a.2.2.2.1.getD i dT) ≤ 1048576 := by
      have := costT_mem ht
      have h1' : costA a ≤ 1048576 := h1
      unfold costA at h1'; omega
    have p1 := hp.1
    have p2 := hp.2.1
    have hd1 : (if d = true then 1 else 0) ≤ 1 := by split <;> omega
    have w := wrap_succ hlt (by omega)
    have jt := (Rds.cel (d := dT) EncN.eT ms).join (Rds.tk (a.2.2.2.1.getD i dT))
    have ji := (Rds.cel (d := (0 : Int)) EncN.eI ts).join (Rds.int (a.2.2.2.2.1.getD i 0))
    refine ⟨hlt, c1, fun hd => ⟨h2, fun _ => ⟨by omega, by omega, h2, fun _ => ⟨hlt, by omega, by omega, by omega, i + 1, hlt, true, ms ++ [.mk v ks] ++ [a.2.2.2.1.getD i dT], ts ++ [n] ++ [a.2.2.2.2.1.getD i 0], ?_, by omega, rfl, w, by simp, by simp, ?_, ?_⟩, fun _ => ⟨i + 1, hlt, true, ms ++ [.mk v ks], ts ++ [n], ?_, by omega, rfl, w, by simp, by simp, ?_, ?_⟩⟩,
      fun _ => ⟨h2, fun _ => ⟨hlt, by omega, by omega, by omega, i + 1, hlt, d, ms ++ [a.2.2.2.1.getD i dT], ts ++ [a.2.2.2.2.1.getD i 0], ?_, by omega, rfl, w, by simp, by simp, jt.iso, ji.iso⟩, fun _ => ⟨i + 1, hlt, d, ms, ts, hp.mono (by omega), by omega, rfl, w, rfl, rfl, .inr rfl, .inr rfl⟩⟩⟩,
      fun hd => ⟨h2, fun _ => ⟨hlt, by omega, by omega, by omega, i + 1, hlt, d, ms ++ [a.2.2.2.1.getD i dT], ts ++ [a.2.2.2.2.1.getD i 0], ?_, by omega, rfl, w, by simp, by simp, jt.iso, ji.iso⟩, fun _ => ⟨i + 1, hlt, d, ms, ts, hp.mono (by omega), by omega, rfl, w, rfl, rfl, .inr rfl, .inr rfl⟩⟩⟩
    · subst hd; exact (hp.push (n' := i + 1) (.inr rfl) (by simp)).push (.inl ht) (by simp)
    · exact (((Rds.cel (d := dT) EncN.eT ms).join (Rds.tm v ks)).join (Rds.tk _)).iso
    · exact (((Rds.cel (d := (0 : Int)) EncN.eI ts).join (Rds.int n)).join (Rds.int _)).iso
    · subst hd; exact hp.push (.inr rfl) (by simp)
    · exact ((Rds.cel (d := dT) EncN.eT ms).join (Rds.tm v ks)).iso
    · exact ((Rds.cel (d := (0 : Int)) EncN.eI ts).join (Rds.int n)).iso
    · exact hp.push (.inl ht) (by omega)
    · exact hp.push (.inl ht) (by omega)
  · have p1 := hp.1
    have p2 := hp.2.1
    have hd1 : (if d = true then 1 else 0) ≤ 1 := by split <;> omega
    refine ⟨fun hd => ⟨by omega, by omega, ms ++ [Tree.mk v ks], ts ++ [n], ?_, rfl, by simp, by simp, ((Rds.cel (d := dT) EncN.eT ms).join (Rds.tm v ks)).iso, ((Rds.cel (d := (0 : Int)) EncN.eI ts).join (Rds.int n)).iso⟩, fun hd => ⟨ms, ts, hp.mono (by omega), rfl, rfl, rfl, .inr rfl, .inr rfl⟩⟩
    subst hd
    exact hp.push (.inr rfl) (by simp; omega))
theorem k_l6Put : SoundC Tryz.prog K_l6Put.1 K_l6Put.2 := sound_ofW hm (CtxOK.nil.and k_lText) (fun ((a, (v, ks), n) : Atm × TP × Int) => A_l6Put a v ks n) (by kernel_rfl) fun ((a, (v, ks), n) : Atm × TP × Int) hb => g_l6Put a v ks n hb.1 hb.2.1 hb.2.2.1 hb.2.2.2
theorem sl0 {c : Nat → Nat → AV} {m : List Tm} : Is (.sl 0 2 c) (terms m) ↔ m = [] := by
  unfold terms
  rw [Is]
  constructor
  · intro h; exact List.eq_nil_of_length_eq_zero h.1.symm
  · rintro rfl; exact ⟨rfl, .inl rfl⟩
theorem noc : costT (.mk ByteArray.empty []) ≤ 1500 := by
  rw [costT_eq]
  decide
theorem CB_le2 {d : Nat} (h : d ≤ 2) : CB d ≤ 84 := by
  have : d = 0 ∨ d = 1 ∨ d = 2 := by omega
  rcases this with rfl | rfl | rfl <;> decide
set_option maxHeartbeats 8000000 in
theorem g_l6Any (b : List Int) (p : Int) (s : Pl.Sig) (h1 : Rd 68719476736 b p) (h2 : SgB 5 2 s) : GoalW Tryz.prog [K_pick, K_num, K_lAny, K_l6Put] (A_l6Any b p s) K_l6Any.1 K_l6Any.2 (b, p, s) := GoalW.of (vc_l6Any b p s) (by
  simp (maxSteps := 2000000) [-List.getD_eq_getElem?_getD, -List.mem_cons, -Bool.forall_bool, -Bool.exists_bool, and_assoc, peta, tl_inj, ex_1, ex_2, ex_3, ex_4, ex_5, ex_6, ex_7, ex_8, ex_9, ey_2, ey_3, ey_4, ey_5, ey_6, ey_7, ey_8, ey_9]
  have g3 := h1.2.2.1
  have g4 := h1.2.2.2
  refine ⟨h1.to (by omega) (by omega), fun y _ _ => ⟨fun _ => ⟨h1.to (by omega) (by omega), fun so _ _ => ⟨h1.to (by omega) (by omega), fun d hd => ?_⟩⟩, fun _ => ⟨h1.to (by omega) (by omega), fun bd _ => ⟨h1.to (by omega) (by omega), fun sc _ _ => ⟨h1.to (by omega) (by omega), fun k hk => ?_⟩⟩⟩⟩⟩
  · have hC : CB d.toNat ≤ 84 ∧ d ≤ 4 := by
      simp at hd
      exact ⟨CB_le2 (by omega), by omega⟩
    refine ⟨h1.to (by omega) (by omega), by omega, h2, hC.2, fun v ks q ht q1 q2 => ⟨h1.to (by omega) (by omega), fun d' hd' => ?_⟩⟩
    have hC' : CB d'.toNat ≤ 84 ∧ d' ≤ 4 := by
      simp at hd'
      exact ⟨CB_le2 (by omega), by omega⟩
    refine ⟨h1.to (by omega) (by omega), by omega, h2, hC'.2, fun v' ks' q' ht' q3 q4 => ?_⟩
    have t1 : costT (.mk v ks) ≤ CB d.toNat := ht
    have t2 : costT (.mk v' ks') ≤ CB d'.toNat := ht'
    exact ⟨1, v, ks, v', ks', [], [], 0, false, ⟨by show costT (.mk v ks) ≤ 1500; omega, by show costT (.mk v' ks') ≤ 1500; omega, Nat.zero_le _, Nat.zero_le _, fun t ht => by cases ht⟩, q', by omega, by omega, rfl, rfl, rfl, rfl, rfl, rfl, rfl, rfl, rfl, rfl, rfl, rfl⟩
  · simp at hk
    refine ⟨⟨k, by omega, by omega, [], by simp; omega, [], rfl, fun t ht => (by cases ht), by omega, by omega, rfl, rfl, rfl, rfl, rfl, rfl⟩, fun k ms ts bd sc q k0 k3 hm ht hc q1 q2 => ⟨fun hk => ⟨h1.to (by omega) (by omega), fun d hd => ?_⟩, fun hk => ?_⟩⟩
    · have hC : CB d.toNat ≤ 84 ∧ d ≤ 4 := by
        simp at hd
        exact ⟨CB_le2 (by omega), by omega⟩
      refine ⟨h1.to (by omega) (by omega), by omega, h2, hC.2, fun v ks q' hv q3 q4 => ⟨h1.to (by omega) (by omega), fun c _ => ?_⟩⟩
      have hv' : costT (.mk v ks) ≤ CB d.toNat := hv
      have hs : costA (2, (ByteArray.empty, []), (ByteArray.empty, []), ms, ts, bd, sc) ≤ 1048576 := at_sm (n := 3) ⟨noc, noc, by dsimp only; omega, by dsimp only; omega, hc⟩
      refine ⟨2, ByteArray.empty, [], ByteArray.empty, [], ms, ts, bd, sc, hs, v, ks, by omega, by omega, ht, rfl, rfl, sl0.2 rfl, rfl, sl0.2 rfl, rfl, rfl, rfl, rfl, rfl, rfl, fun ms' ts' hp => ⟨k - 1, by omega, by omega, ms', by have := hp.1; omega, ts', hp.2.1, fun t ht => ?_, by omega, by omega, by omega, wrap_small (by omega) (by omega), rfl, rfl, sl0.2 rfl, rfl, sl0.2 rfl, rfl, rfl, .inr rfl, .inr rfl⟩⟩
      rcases hp.2.2 t ht with e | e
      · exact hc t e
      · rw [e]; omega
    · exact ⟨2, ByteArray.empty, [], ByteArray.empty, [], ms, ts, bd, sc, ⟨noc, noc, by dsimp only; omega, by dsimp only; omega, hc⟩, q, by omega, by omega, rfl, rfl, sl0.2 rfl, rfl, sl0.2 rfl, rfl, rfl, rfl, rfl, rfl, .inr rfl, .inr rfl⟩)
theorem k_l6Any : SoundC Tryz.prog K_l6Any.1 K_l6Any.2 := sound_ofW hm ((((CtxOK.nil.and k_l6Put).and k_lAny).and k_num).and k_pick) (fun ((b, p, s) : BX) => A_l6Any b p s) (by kernel_rfl) fun ((b, p, s) : BX) hb => g_l6Any b p s hb.1 hb.2
set_option maxHeartbeats 8000000 in
theorem g_l6Some (b : List Int) (p : Int) (s : Pl.Sig) (h1 : Rd 34359738368 b p) (h2 : SgB 5 2 s) : GoalW Tryz.prog [K_l6Any, K_pick, K_num, K_l4Some, K_lAny] ([]) K_l6Some.1 K_l6Some.2 (b, p, s) := GoalW.of (vc_l6Some b p s) (by
  simp (maxSteps := 2000000) [-List.getD_eq_getElem?_getD, -List.mem_cons, -Bool.forall_bool, -Bool.exists_bool, and_assoc, peta, tl_inj, ex_1, ex_2, ex_3, ex_4, ex_5, ex_6, ex_7, ex_8, ex_9, ey_2, ey_3, ey_4, ey_5, ey_6, ey_7, ey_8, ey_9]
  have g3 := h1.2.2.1
  have g4 := h1.2.2.2
  refine ⟨h1.to (by omega) (by omega), h2, fun kd av ak bv bk ms ts bd sc q ha q1 q2 => ⟨h1.to (by omega) (by omega), fun y _ _ => ⟨fun _ => ⟨h1.to (by omega) (by omega), fun z hz => ?_⟩, fun _ => ⟨fun _ => ⟨h1.to (by omega) (by omega), fun z hz => ?_⟩, fun _ => ⟨fun _ => ⟨h1.to (by omega) (by omega), h2, fun v ks q' hv q3 q4 => ?_⟩, fun _ => ⟨fun _ => ⟨fun hl => ⟨h1.to (by omega) (by omega), fun z hz => ⟨hl, ?_⟩⟩, fun hn => ?_⟩, fun _ => ⟨fun _ => ⟨h1.to (by omega) (by omega), by have := @CB_le2 1 (by decide); omega, h2, fun v ks q' hv q3 q4 => ⟨?_, ?_⟩⟩, fun _ => ?_⟩⟩⟩⟩⟩⟩⟩
  all_goals obtain ⟨t1, t2, t3, t4, t5⟩ := id ha
  · exact ⟨z, av, ak, bv, bk, ms, ts, bd, sc, ⟨t1, t2, Nat.le_succ_of_le t3, Nat.le_succ_of_le t4, t5⟩, _, by omega, by omega, rfl, rfl, rfl, rfl, rfl, rfl, rfl, rfl, rfl, rfl⟩
  · exact ⟨kd, av, ak, bv, bk, ms, ts, z, sc, ⟨t1, t2, Nat.le_succ_of_le t3, Nat.le_succ_of_le t4, t5⟩, _, by omega, by omega, rfl, rfl, rfl, rfl, rfl, rfl, rfl, rfl, rfl, rfl⟩
  · exact ⟨kd, v, ks, bv, bk, ms, ts, bd, sc, ⟨hv, t2, Nat.le_succ_of_le t3, Nat.le_succ_of_le t4, t5⟩, _, by omega, by omega, rfl, rfl, rfl, rfl, rfl, rfl, rfl, rfl, rfl, rfl⟩
  · exact ⟨kd, av, ak, bv, bk, ms, ts.set 0 z, bd, sc, ⟨t1, t2, Nat.le_succ_of_le t3, by dsimp only; rw [List.length_set]; exact Nat.le_succ_of_le t4, t5⟩, _, by omega, by omega, rfl, rfl, rfl, rfl, rfl, rfl, Is_sl_of (by simp) (IsR_storeG (IsR_cel EncN.eI) rfl fun j hj => by
      match j, hj with
      | 0, _ => exact Is_i64.2 rfl), rfl, rfl, rfl⟩
  · exact ⟨kd, av, ak, bv, bk, ms, ts, bd, sc, ha.mono (by decide), _, by omega, by omega, rfl, rfl, rfl, rfl, rfl, rfl, rfl, rfl, rfl, rfl⟩
  · dsimp only at t3; omega
  · have hC := @CB_le2 1 (by decide)
    have hv' : costT (.mk v ks) ≤ CB 1 := hv
    exact ⟨kd, av, ak, bv, bk, ms ++ [Tree.mk v ks], ts, bd, sc, ⟨t1, t2, by dsimp only at t3 ⊢; simp; omega, Nat.le_succ_of_le t4, mem_push_imp t5 (by omega)⟩, _, by omega, by omega, rfl, rfl, rfl, rfl, rfl, ((Rds.cel (d := dT) EncN.eT ms).join (Rds.tm v ks)).is, rfl, rfl, rfl, rfl⟩
  · exact ⟨kd, av, ak, bv, bk, ms, ts, bd, sc, ha.mono (by decide), _, by omega, by omega, rfl, rfl, rfl, rfl, rfl, rfl, rfl, rfl, rfl, rfl⟩)
theorem k_l6Some : SoundC Tryz.prog K_l6Some.1 K_l6Some.2 := sound_ofW hm (((((CtxOK.nil.and k_lAny).and k_l4Some).and k_num).and k_pick).and k_l6Any) (fun _ => []) (by kernel_rfl) fun ((b, p, s) : BX) hb => g_l6Some b p s hb.1 hb.2
end Cg

/-
  Plain laws of literals in models: strict and weak bounds, equality turned round, the model of no rows, parts of sums. No condition.
-/
set_option linter.unusedVariables false
set_option linter.unusedSimpArgs false
namespace Pl
open Go Cg
end Pl

/-
  The codes' contracts: the law that parts of sums are sums. No condition.
-/
set_option linter.unusedVariables false
set_option linter.unusedSimpArgs false
set_option maxRecDepth 100000
namespace Cg
open Go Go.Proofs Pl
end Cg

/-
  What is left to show of each function's code, printed by a program: Maf. No condition.
-/
set_option maxRecDepth 100000
set_option linter.unusedVariables false
namespace Cg
open Go Go.Proofs
theorem vc_l6Lit (b : List Int) (p : Int) (s : Pl.Sig) : (∃ x : BX,
 (Rd (68719476736 : Int) x.1 x.2.1 ∧ Pl.SgB (5 : Nat) (2 : Nat) x.2.2) ∧ (((0 : Nat) = (0 : Nat) ∧ (Is (syms s) (syms x.2.2) ∧ True) ∧ True) ∧ (Is (byts b) (byts x.1) ∧ p = x.2.1 ∧ True) ∧ True) ∧ ∀ (y : Pl.Atm × Int),
 Pl.AtB (3 : Nat) y.1 ∧ x.2.1 ≤ y.2 ∧ y.2 ≤ x.2.1 + (500 : Int) →
 ∃ x_1 : List Int × Int × Int,
 Rd (1099511627776 : Int) x_1.1 x_1.2.1 ∧ (((0 : Nat) = (0 : Nat) ∧ (3 : Int) = x_1.2.2 ∧ True) ∧ (Is (byts x.1) (byts x_1.1) ∧ y.2 = x_1.2.1 ∧ True) ∧ True) ∧ ∀ (y_1 : Int),
 ((1 : Int) ≤ x_1.2.2 → (0 : Int) ≤ y_1 ∧ y_1 < x_1.2.2) ∧ (x_1.2.2 < (1 : Int) → y_1 = (0 : Int)) →
 ∃ y_2 : Pl.Ltr × Int,
 (Pl.AtB (4 : Nat) y_2.1.1 ∧ p ≤ y_2.2 ∧ y_2.2 ≤ p + (600 : Int)) ∧ (0 : Nat) + y.1.2.2.2.1.length ≤ y.1.2.2.2.1.length ∧ (0 : Nat) + y.1.2.2.2.2.1.length ≤ y.1.2.2.2.2.1.length ∧ ((y.1.1 = y_2.1.1.1 ∧ y.1.2.1.1 = y_2.1.1.2.1.1 ∧ Is (terms y.1.2.1.2) (terms y_2.1.1.2.1.2) ∧ y.1.2.2.1.1 = y_2.1.1.2.2.1.1 ∧ Is (terms y.1.2.2.1.2) (terms y_2.1.1.2.2.1.2) ∧ Is (terms y.1.2.2.2.1) (terms y_2.1.1.2.2.2.1) ∧ Is (ints y.1.2.2.2.2.1) (ints y_2.1.1.2.2.2.2.1) ∧ y.1.2.2.2.2.2.1 = y_2.1.1.2.2.2.2.2.1 ∧ y.1.2.2.2.2.2.2 = y_2.1.1.2.2.2.2.2.2 ∧ (y_1 == (0 : Int)) = y_2.1.2 ∧ True) ∧ True) ∧ (Is (byts x_1.1) (byts b) ∧ x_1.2.1 + (1 : Int) = y_2.2 ∧ True) ∧ True) = Goal Tryz.prog [K_l6Any, K_pick] ([]) K_l6Lit.1 K_l6Lit.2 ((b, p, s)) := by kernel_rfl

end Cg

/-
  The codes' contracts: drawn literals, and laws of literals in models. No condition.
-/
set_option linter.unusedVariables false
set_option linter.unusedSimpArgs false
set_option maxRecDepth 100000
namespace Cg
open Go Go.Proofs Pl
theorem _root_.Pl.LsB.push {n n' : Nat} {l : List Ltr} {x : Ltr} (h : LsB n l) (hx : AtB 4 x.1) (hn : n + 1 ≤ n') : LsB n' (l ++ [x]) := ⟨by have := h.1; simp; omega, mem_push_imp h.2 hx⟩
set_option maxHeartbeats 8000000 in
theorem g_l6Lit (b : List Int) (p : Int) (s : Pl.Sig) (h1 : Rd 34359738368 b p) (h2 : SgB 5 2 s) : GoalW Tryz.prog [K_l6Any, K_pick] ([]) K_l6Lit.1 K_l6Lit.2 ((b, p, s)) := GoalW.of (vc_l6Lit b p s) (by
  simp (maxSteps := 2000000) [-List.getD_eq_getElem?_getD, -List.mem_cons, -Bool.forall_bool, -Bool.exists_bool, and_assoc, peta, tl_inj, ex_1, ex_2, ex_3, ex_4, ex_5, ex_6, ex_7, ex_8, ex_9, ey_2, ey_3, ey_4, ey_5, ey_6, ey_7, ey_8, ey_9]
  have g3 := h1.2.2.1
  have g4 := h1.2.2.2
  exact ⟨h1.to (by omega) (by omega), h2, fun kd av ak bv bk ms ts bd sc q ha q1 q2 => ⟨h1.to (by omega) (by omega), fun y _ _ => ⟨kd, av, ak, bv, bk, ms, ts, bd, sc, ha.mono (by decide), _, _, by omega, by omega, rfl, rfl, rfl, rfl, rfl, rfl, rfl, rfl, rfl, rfl, rfl⟩⟩⟩)
theorem k_l6Lit : SoundC Tryz.prog K_l6Lit.1 K_l6Lit.2 := sound_ofW hm ((CtxOK.nil.and k_pick).and k_l6Any) (fun ((b, p, s) : BX) => []) (by kernel_rfl) fun ((b, p, s) : BX) hb => g_l6Lit b p s hb.1 hb.2
end Cg
