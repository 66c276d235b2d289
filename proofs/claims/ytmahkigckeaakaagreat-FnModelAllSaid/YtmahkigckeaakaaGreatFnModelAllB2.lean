/-
  What the law leans on, part 2. No condition.
-/
import Derived.Test.YtmahkigckeaakaaGreatProg
import Derived.Test.YtmahkigckeaakaaGreatFnModelAllB1
/-
  What is left to show of each function's code, printed by a program: Mad. No condition.
-/
set_option maxRecDepth 100000
set_option linter.unusedVariables false
namespace Cg
open Go Go.Proofs
theorem vc_l6Put (a : Pl.Atm) (v : ByteArray) (ks : List Pl.Tm) (n : Int) : ((Exists fun (x : Nat × Bool × List Pl.Tm × List Int) =>
 (x.fst ≤ a.snd.snd.snd.fst.length ∧ Pl.PutB a.snd.snd.snd.fst (Pl.Tree.mk v ks) (x.fst + if x.snd.fst = Bool.true then (1 : Nat) else (0 : Nat)) x.snd.snd.fst x.snd.snd.snd) ∧
 (n = n ∧ (0 : Nat) = (0 : Nat) ∧ (0 : Nat) = (0 : Nat) ∧ (0 : Nat) = (0 : Nat) ∧ (0 : Nat) = (0 : Nat) ∧ Bool.false = x.snd.fst ∧ (0 : Int) = (↑x.fst : Int) ∧ True) ∧
 (a.fst = a.fst ∧
 a.snd.fst.fst = a.snd.fst.fst ∧
 Is (terms a.snd.fst.snd) (terms a.snd.fst.snd) ∧
 a.snd.snd.fst.fst = a.snd.snd.fst.fst ∧
 Is (terms a.snd.snd.fst.snd) (terms a.snd.snd.fst.snd) ∧
 Is (terms a.snd.snd.snd.fst) (terms a.snd.snd.snd.fst) ∧
 Is (ints a.snd.snd.snd.snd.fst) (ints a.snd.snd.snd.snd.fst) ∧
 a.snd.snd.snd.snd.snd.fst = a.snd.snd.snd.snd.snd.fst ∧ a.snd.snd.snd.snd.snd.snd = a.snd.snd.snd.snd.snd.snd ∧ True) ∧
 (v = v ∧ Is (terms ks) (terms ks) ∧ True) ∧
 ((0 : Int) = (0 : Int) ∧
 ByteArray.mk #[] = ByteArray.empty ∧
 Is (AV.lit (0 : Nat) (1 : Nat) fun (x x_1 : Nat) => AV.any) nilA ∧
 ByteArray.mk #[] = ByteArray.empty ∧
 Is (AV.lit (0 : Nat) (1 : Nat) fun (x x_1 : Nat) => AV.any) nilA ∧
 Is (AV.lit (0 : Nat) (1 : Nat) fun (x x_1 : Nat) => AV.any) nilA ∧
 Is (AV.lit (0 : Nat) (1 : Nat) fun (x x_1 : Nat) => AV.any) nilA ∧ (0 : Int) = (0 : Int) ∧ Bool.false = Bool.false ∧ True) ∧
 (a.fst = a.fst ∧
 ByteArray.mk #[] = ByteArray.empty ∧
 Is (AV.lit (0 : Nat) (1 : Nat) fun (x x_1 : Nat) => AV.any) nilA ∧
 ByteArray.mk #[] = ByteArray.empty ∧
 Is (AV.lit (0 : Nat) (1 : Nat) fun (x x_1 : Nat) => AV.any) nilA ∧
 ((0 : Nat) = (0 : Nat) ∧ (0 : Nat) = (0 : Nat) ∧ x.snd.snd.fst.length = (0 : Nat)) ∧
 ((0 : Nat) = (0 : Nat) ∧ (0 : Nat) = (0 : Nat) ∧ x.snd.snd.snd.length = (0 : Nat)) ∧
 a.snd.snd.snd.snd.snd.fst = a.snd.snd.snd.snd.snd.fst ∧ a.snd.snd.snd.snd.snd.snd = a.snd.snd.snd.snd.snd.snd ∧ True) ∧
 x.snd.snd.fst.length = (0 : Nat) ∧ x.snd.snd.snd.length = (0 : Nat) ∧ True) ∧
 ∀ (x : Nat × Bool × List Pl.Tm × List Int),
 x.fst ≤ a.snd.snd.snd.fst.length ∧ Pl.PutB a.snd.snd.snd.fst (Pl.Tree.mk v ks) (x.fst + if x.snd.fst = Bool.true then (1 : Nat) else (0 : Nat)) x.snd.snd.fst x.snd.snd.snd →
 condP (Decidable.decide ((↑x.fst : Int) < (↑a.snd.snd.snd.fst.length : Int)))
 (((0 : Int) ≤ (↑x.fst : Int) ∧ (↑x.fst : Int) < (↑a.snd.snd.snd.fst.length : Int)) ∧
 x.fst < a.snd.snd.snd.fst.length ∧
 Exists fun (x_1 : Pl.TP) =>
 ((Pl.Tree.val (a.snd.snd.snd.fst.getD x.fst Pl.dT) = x_1.fst ∧ Is (kidsT (a.snd.snd.snd.fst.getD x.fst Pl.dT)) (terms x_1.snd) ∧ True) ∧ True) ∧
 SmT (Pl.Tree.mk x_1.fst x_1.snd) ∧
 condP (!x.snd.fst)
 (Exists fun (x_2 : Pl.TP) =>
 ((v = x_2.fst ∧ Is (terms ks) (terms x_2.snd) ∧ True) ∧ True) ∧
 SmT (Pl.Tree.mk x_2.fst x_2.snd) ∧
 condP (!Op.bytesLess (Pl.textT (Pl.Tree.mk x_1.fst x_1.snd)).toList (Pl.textT (Pl.Tree.mk x_2.fst x_2.snd)).toList)
 ((0 : Nat) + x.snd.snd.fst.length ≤ x.snd.snd.fst.length ∧
 (x.snd.snd.fst.length + (1 : Nat)) * (40 : Nat) ≤ (70368744177664 : Nat) ∧
 (0 : Nat) + x.snd.snd.snd.length ≤ x.snd.snd.snd.length ∧
 (x.snd.snd.snd.length + (1 : Nat)) * (8 : Nat) ≤ (70368744177664 : Nat) ∧
 Exists fun (x_3 : Pl.TP) =>
 ((v = x_3.fst ∧ Is (terms ks) (terms x_3.snd) ∧ True) ∧ True) ∧
 SmT (Pl.Tree.mk x_3.fst x_3.snd) ∧
 condP (!(Pl.textT (Pl.Tree.mk x_1.fst x_1.snd)).toList == (Pl.textT (Pl.Tree.mk x_3.fst x_3.snd)).toList)
 (((0 : Int) ≤ (↑x.fst : Int) ∧ (↑x.fst : Int) < (↑a.snd.snd.snd.fst.length : Int)) ∧
 x.fst < a.snd.snd.snd.fst.length ∧
 (0 : Nat) + (x.snd.snd.fst.length + (1 : Nat)) ≤ x.snd.snd.fst.length + (1 : Nat) ∧
 (x.snd.snd.fst.length + (1 : Nat) + (1 : Nat)) * (40 : Nat) ≤ (70368744177664 : Nat) ∧
 ((0 : Int) ≤ (↑x.fst : Int) ∧ (↑x.fst : Int) < (↑a.snd.snd.snd.snd.fst.length : Int)) ∧
 x.fst < a.snd.snd.snd.snd.fst.length ∧
 (0 : Nat) + (x.snd.snd.snd.length + (1 : Nat)) ≤ x.snd.snd.snd.length + (1 : Nat) ∧
 (x.snd.snd.snd.length + (1 : Nat) + (1 : Nat)) * (8 : Nat) ≤ (70368744177664 : Nat) ∧
 Exists fun (x' : Nat × Bool × List Pl.Tm × List Int) =>
 (x'.fst ≤ a.snd.snd.snd.fst.length ∧
 Pl.PutB a.snd.snd.snd.fst (Pl.Tree.mk v ks) (x'.fst + if x'.snd.fst = Bool.true then (1 : Nat) else (0 : Nat)) x'.snd.snd.fst
 x'.snd.snd.snd) ∧
 a.snd.snd.snd.fst.length - x'.fst < a.snd.snd.snd.fst.length - x.fst ∧
 (n = n ∧
 (0 : Nat) = (0 : Nat) ∧
 (0 : Nat) = (0 : Nat) ∧
 (0 : Nat) = (0 : Nat) ∧
 (0 : Nat) = (0 : Nat) ∧
 Bool.true = x'.snd.fst ∧ IntKind.i64.wrap ((↑x.fst : Int) + (1 : Int)) = (↑x'.fst : Int) ∧ True) ∧
 (a.fst = a.fst ∧
 a.snd.fst.fst = a.snd.fst.fst ∧
 Is (terms a.snd.fst.snd) (terms a.snd.fst.snd) ∧
 a.snd.snd.fst.fst = a.snd.snd.fst.fst ∧
 Is (terms a.snd.snd.fst.snd) (terms a.snd.snd.fst.snd) ∧
 Is (terms a.snd.snd.snd.fst) (terms a.snd.snd.snd.fst) ∧
 Is (ints a.snd.snd.snd.snd.fst) (ints a.snd.snd.snd.snd.fst) ∧
 a.snd.snd.snd.snd.snd.fst = a.snd.snd.snd.snd.snd.fst ∧
 a.snd.snd.snd.snd.snd.snd = a.snd.snd.snd.snd.snd.snd ∧ True) ∧
 (v = v ∧ Is (terms ks) (terms ks) ∧ True) ∧
 ((0 : Int) = (0 : Int) ∧
 ByteArray.empty = ByteArray.empty ∧
 Is (AV.lit (0 : Nat) (1 : Nat) fun (x x_4 : Nat) => AV.any) nilA ∧
 ByteArray.empty = ByteArray.empty ∧
 Is (AV.lit (0 : Nat) (1 : Nat) fun (x x_4 : Nat) => AV.any) nilA ∧
 Is (AV.lit (0 : Nat) (1 : Nat) fun (x x_4 : Nat) => AV.any) nilA ∧
 Is (AV.lit (0 : Nat) (1 : Nat) fun (x x_4 : Nat) => AV.any) nilA ∧
 (0 : Int) = (0 : Int) ∧ Bool.false = Bool.false ∧ True) ∧
 (a.fst = a.fst ∧
 ByteArray.empty = ByteArray.empty ∧
 Is (AV.lit (0 : Nat) (1 : Nat) fun (x x_4 : Nat) => AV.any) nilA ∧
 ByteArray.empty = ByteArray.empty ∧
 Is (AV.lit (0 : Nat) (1 : Nat) fun (x x_4 : Nat) => AV.any) nilA ∧
 ((0 : Nat) = (0 : Nat) ∧ x.snd.snd.fst.length + (1 : Nat) + (1 : Nat) = x'.snd.snd.fst.length) ∧
 ((0 : Nat) = (0 : Nat) ∧ x.snd.snd.snd.length + (1 : Nat) + (1 : Nat) = x'.snd.snd.snd.length) ∧
 a.snd.snd.snd.snd.snd.fst = a.snd.snd.snd.snd.snd.fst ∧
 a.snd.snd.snd.snd.snd.snd = a.snd.snd.snd.snd.snd.snd ∧ True) ∧
 IsO
 (AObj.arr (x.snd.snd.fst.length + (1 : Nat) + (1 : Nat)) (2 : Nat)
 (joinC (x.snd.snd.fst.length + (1 : Nat))
 (fun (i j : Nat) => joinC x.snd.snd.fst.length (cT x.snd.snd.fst) (rowsCell [[st v, terms ks]]) i j)
 (rowsCell
 [[st (Pl.Tree.val (a.snd.snd.snd.fst.getD x.fst Pl.dT)), kidsT (a.snd.snd.snd.fst.getD x.fst Pl.dT)]])))
 (arT x'.snd.snd.fst) ∧
 IsO
 (AObj.arr (x.snd.snd.snd.length + (1 : Nat) + (1 : Nat)) (1 : Nat)
 (joinC (x.snd.snd.snd.length + (1 : Nat))
 (fun (i j : Nat) => joinC x.snd.snd.snd.length (cI x.snd.snd.snd) (rowsCell [[i64 n]]) i j)
 (rowsCell [[i64 (a.snd.snd.snd.snd.fst.getD x.fst (0 : Int))]])))
 (arI x'.snd.snd.snd) ∧
 True)
 (Exists fun (x' : Nat × Bool × List Pl.Tm × List Int) =>
 (x'.fst ≤ a.snd.snd.snd.fst.length ∧
 Pl.PutB a.snd.snd.snd.fst (Pl.Tree.mk v ks) (x'.fst + if x'.snd.fst = Bool.true then (1 : Nat) else (0 : Nat)) x'.snd.snd.fst x'.snd.snd.snd) ∧
 a.snd.snd.snd.fst.length - x'.fst < a.snd.snd.snd.fst.length - x.fst ∧
 (n = n ∧
 (0 : Nat) = (0 : Nat) ∧
 (0 : Nat) = (0 : Nat) ∧
 (0 : Nat) = (0 : Nat) ∧
 (0 : Nat) = (0 : Nat) ∧ Bool.true = x'.snd.fst ∧ IntKind.i64.wrap ((↑x.fst : Int) + (1 : Int)) = (↑x'.fst : Int) ∧ True) ∧
 (a.fst = a.fst ∧
 a.snd.fst.fst = a.snd.fst.fst ∧
 Is (terms a.snd.fst.snd) (terms a.snd.fst.snd) ∧
 a.snd.snd.fst.fst = a.snd.snd.fst.fst ∧
 Is (terms a.snd.snd.fst.snd) (terms a.snd.snd.fst.snd) ∧
 Is (terms a.snd.snd.snd.fst) (terms a.snd.snd.snd.fst) ∧
 Is (ints a.snd.snd.snd.snd.fst) (ints a.snd.snd.snd.snd.fst) ∧
 a.snd.snd.snd.snd.snd.fst = a.snd.snd.snd.snd.snd.fst ∧ a.snd.snd.snd.snd.snd.snd = a.snd.snd.snd.snd.snd.snd ∧ True) ∧
 (v = v ∧ Is (terms ks) (terms ks) ∧ True) ∧
 ((0 : Int) = (0 : Int) ∧
 ByteArray.empty = ByteArray.empty ∧
 Is (AV.lit (0 : Nat) (1 : Nat) fun (x x_4 : Nat) => AV.any) nilA ∧
 ByteArray.empty = ByteArray.empty ∧
 Is (AV.lit (0 : Nat) (1 : Nat) fun (x x_4 : Nat) => AV.any) nilA ∧
 Is (AV.lit (0 : Nat) (1 : Nat) fun (x x_4 : Nat) => AV.any) nilA ∧
 Is (AV.lit (0 : Nat) (1 : Nat) fun (x x_4 : Nat) => AV.any) nilA ∧
 (0 : Int) = (0 : Int) ∧ Bool.false = Bool.false ∧ True) ∧
 (a.fst = a.fst ∧
 ByteArray.empty = ByteArray.empty ∧
 Is (AV.lit (0 : Nat) (1 : Nat) fun (x x_4 : Nat) => AV.any) nilA ∧
 ByteArray.empty = ByteArray.empty ∧
 Is (AV.lit (0 : Nat) (1 : Nat) fun (x x_4 : Nat) => AV.any) nilA ∧
 ((0 : Nat) = (0 : Nat) ∧ x.snd.snd.fst.length + (1 : Nat) = x'.snd.snd.fst.length) ∧
 ((0 : Nat) = (0 : Nat) ∧ x.snd.snd.snd.length + (1 : Nat) = x'.snd.snd.snd.length) ∧
 a.snd.snd.snd.snd.snd.fst = a.snd.snd.snd.snd.snd.fst ∧ a.snd.snd.snd.snd.snd.snd = a.snd.snd.snd.snd.snd.snd ∧ True) ∧
 IsO
 (AObj.arr (x.snd.snd.fst.length + (1 : Nat)) (2 : Nat)
 (joinC x.snd.snd.fst.length (cT x.snd.snd.fst) (rowsCell [[st v, terms ks]])))
 (arT x'.snd.snd.fst) ∧
 IsO
 (AObj.arr (x.snd.snd.snd.length + (1 : Nat)) (1 : Nat)
 (joinC x.snd.snd.snd.length (cI x.snd.snd.snd) (rowsCell [[i64 n]])))
 (arI x'.snd.snd.snd) ∧
 True))
 (Exists fun (x_3 : Pl.TP) =>
 ((v = x_3.fst ∧ Is (terms ks) (terms x_3.snd) ∧ True) ∧ True) ∧
 SmT (Pl.Tree.mk x_3.fst x_3.snd) ∧
 condP (!(Pl.textT (Pl.Tree.mk x_1.fst x_1.snd)).toList == (Pl.textT (Pl.Tree.mk x_3.fst x_3.snd)).toList)
 (((0 : Int) ≤ (↑x.fst : Int) ∧ (↑x.fst : Int) < (↑a.snd.snd.snd.fst.length : Int)) ∧
 x.fst < a.snd.snd.snd.fst.length ∧
 (0 : Nat) + x.snd.snd.fst.length ≤ x.snd.snd.fst.length ∧
 (x.snd.snd.fst.length + (1 : Nat)) * (40 : Nat) ≤ (70368744177664 : Nat) ∧
 ((0 : Int) ≤ (↑x.fst : Int) ∧ (↑x.fst : Int) < (↑a.snd.snd.snd.snd.fst.length : Int)) ∧
 x.fst < a.snd.snd.snd.snd.fst.length ∧
 (0 : Nat) + x.snd.snd.snd.length ≤ x.snd.snd.snd.length ∧
 (x.snd.snd.snd.length + (1 : Nat)) * (8 : Nat) ≤ (70368744177664 : Nat) ∧
 Exists fun (x' : Nat × Bool × List Pl.Tm × List Int) =>
 (x'.fst ≤ a.snd.snd.snd.fst.length ∧
 Pl.PutB a.snd.snd.snd.fst (Pl.Tree.mk v ks) (x'.fst + if x'.snd.fst = Bool.true then (1 : Nat) else (0 : Nat)) x'.snd.snd.fst
 x'.snd.snd.snd) ∧
 a.snd.snd.snd.fst.length - x'.fst < a.snd.snd.snd.fst.length - x.fst ∧
 (n = n ∧
 (0 : Nat) = (0 : Nat) ∧
 (0 : Nat) = (0 : Nat) ∧
 (0 : Nat) = (0 : Nat) ∧
 (0 : Nat) = (0 : Nat) ∧ x.snd.fst = x'.snd.fst ∧ IntKind.i64.wrap ((↑x.fst : Int) + (1 : Int)) = (↑x'.fst : Int) ∧ True) ∧
 (a.fst = a.fst ∧
 a.snd.fst.fst = a.snd.fst.fst ∧
 Is (terms a.snd.fst.snd) (terms a.snd.fst.snd) ∧
 a.snd.snd.fst.fst = a.snd.snd.fst.fst ∧
 Is (terms a.snd.snd.fst.snd) (terms a.snd.snd.fst.snd) ∧
 Is (terms a.snd.snd.snd.fst) (terms a.snd.snd.snd.fst) ∧
 Is (ints a.snd.snd.snd.snd.fst) (ints a.snd.snd.snd.snd.fst) ∧
 a.snd.snd.snd.snd.snd.fst = a.snd.snd.snd.snd.snd.fst ∧ a.snd.snd.snd.snd.snd.snd = a.snd.snd.snd.snd.snd.snd ∧ True) ∧
 (v = v ∧ Is (terms ks) (terms ks) ∧ True) ∧
 ((0 : Int) = (0 : Int) ∧
 ByteArray.empty = ByteArray.empty ∧
 Is (AV.lit (0 : Nat) (1 : Nat) fun (x x_4 : Nat) => AV.any) nilA ∧
 ByteArray.empty = ByteArray.empty ∧
 Is (AV.lit (0 : Nat) (1 : Nat) fun (x x_4 : Nat) => AV.any) nilA ∧
 Is (AV.lit (0 : Nat) (1 : Nat) fun (x x_4 : Nat) => AV.any) nilA ∧
 Is (AV.lit (0 : Nat) (1 : Nat) fun (x x_4 : Nat) => AV.any) nilA ∧
 (0 : Int) = (0 : Int) ∧ Bool.false = Bool.false ∧ True) ∧
 (a.fst = a.fst ∧
 ByteArray.empty = ByteArray.empty ∧
 Is (AV.lit (0 : Nat) (1 : Nat) fun (x x_4 : Nat) => AV.any) nilA ∧
 ByteArray.empty = ByteArray.empty ∧
 Is (AV.lit (0 : Nat) (1 : Nat) fun (x x_4 : Nat) => AV.any) nilA ∧
 ((0 : Nat) = (0 : Nat) ∧ x.snd.snd.fst.length + (1 : Nat) = x'.snd.snd.fst.length) ∧
 ((0 : Nat) = (0 : Nat) ∧ x.snd.snd.snd.length + (1 : Nat) = x'.snd.snd.snd.length) ∧
 a.snd.snd.snd.snd.snd.fst = a.snd.snd.snd.snd.snd.fst ∧
 a.snd.snd.snd.snd.snd.snd = a.snd.snd.snd.snd.snd.snd ∧ True) ∧
 IsO
 (AObj.arr (x.snd.snd.fst.length + (1 : Nat)) (2 : Nat)
 (joinC x.snd.snd.fst.length (cT x.snd.snd.fst)
 (rowsCell [[st (Pl.Tree.val (a.snd.snd.snd.fst.getD x.fst Pl.dT)), kidsT (a.snd.snd.snd.fst.getD x.fst Pl.dT)]])))
 (arT x'.snd.snd.fst) ∧
 IsO
 (AObj.arr (x.snd.snd.snd.length + (1 : Nat)) (1 : Nat)
 (joinC x.snd.snd.snd.length (cI x.snd.snd.snd) (rowsCell [[i64 (a.snd.snd.snd.snd.fst.getD x.fst (0 : Int))]])))
 (arI x'.snd.snd.snd) ∧
 True)
 (Exists fun (x' : Nat × Bool × List Pl.Tm × List Int) =>
 (x'.fst ≤ a.snd.snd.snd.fst.length ∧
 Pl.PutB a.snd.snd.snd.fst (Pl.Tree.mk v ks) (x'.fst + if x'.snd.fst = Bool.true then (1 : Nat) else (0 : Nat)) x'.snd.snd.fst x'.snd.snd.snd) ∧
 a.snd.snd.snd.fst.length - x'.fst < a.snd.snd.snd.fst.length - x.fst ∧
 (n = n ∧
 (0 : Nat) = (0 : Nat) ∧
 (0 : Nat) = (0 : Nat) ∧
 (0 : Nat) = (0 : Nat) ∧ (0 : Nat) = (0 : Nat) ∧ x.snd.fst = x'.snd.fst ∧ IntKind.i64.wrap ((↑x.fst : Int) + (1 : Int)) = (↑x'.fst : Int) ∧ True) ∧
 (a.fst = a.fst ∧
 a.snd.fst.fst = a.snd.fst.fst ∧
 Is (terms a.snd.fst.snd) (terms a.snd.fst.snd) ∧
 a.snd.snd.fst.fst = a.snd.snd.fst.fst ∧
 Is (terms a.snd.snd.fst.snd) (terms a.snd.snd.fst.snd) ∧
 Is (terms a.snd.snd.snd.fst) (terms a.snd.snd.snd.fst) ∧
 Is (ints a.snd.snd.snd.snd.fst) (ints a.snd.snd.snd.snd.fst) ∧
 a.snd.snd.snd.snd.snd.fst = a.snd.snd.snd.snd.snd.fst ∧ a.snd.snd.snd.snd.snd.snd = a.snd.snd.snd.snd.snd.snd ∧ True) ∧
 (v = v ∧ Is (terms ks) (terms ks) ∧ True) ∧
 ((0 : Int) = (0 : Int) ∧
 ByteArray.empty = ByteArray.empty ∧
 Is (AV.lit (0 : Nat) (1 : Nat) fun (x x_4 : Nat) => AV.any) nilA ∧
 ByteArray.empty = ByteArray.empty ∧
 Is (AV.lit (0 : Nat) (1 : Nat) fun (x x_4 : Nat) => AV.any) nilA ∧
 Is (AV.lit (0 : Nat) (1 : Nat) fun (x x_4 : Nat) => AV.any) nilA ∧
 Is (AV.lit (0 : Nat) (1 : Nat) fun (x x_4 : Nat) => AV.any) nilA ∧ (0 : Int) = (0 : Int) ∧ Bool.false = Bool.false ∧ True) ∧
 (a.fst = a.fst ∧
 ByteArray.empty = ByteArray.empty ∧
 Is (AV.lit (0 : Nat) (1 : Nat) fun (x x_4 : Nat) => AV.any) nilA ∧
 ByteArray.empty = ByteArray.empty ∧
 Is (AV.lit (0 : Nat) (1 : Nat) fun (x x_4 : Nat) => AV.any) nilA ∧
 ((0 : Nat) = (0 : Nat) ∧ x.snd.snd.fst.length = x'.snd.snd.fst.length) ∧
 ((0 : Nat) = (0 : Nat) ∧ x.snd.snd.snd.length = x'.snd.snd.snd.length) ∧
 a.snd.snd.snd.snd.snd.fst = a.snd.snd.snd.snd.snd.fst ∧ a.snd.snd.snd.snd.snd.snd = a.snd.snd.snd.snd.snd.snd ∧ True) ∧
 IsO (arT x.snd.snd.fst) (arT x'.snd.snd.fst) ∧ IsO (arI x.snd.snd.snd) (arI x'.snd.snd.snd) ∧ True)))
 (Exists fun (x_2 : Pl.TP) =>
 ((v = x_2.fst ∧ Is (terms ks) (terms x_2.snd) ∧ True) ∧ True) ∧
 SmT (Pl.Tree.mk x_2.fst x_2.snd) ∧
 condP (!(Pl.textT (Pl.Tree.mk x_1.fst x_1.snd)).toList == (Pl.textT (Pl.Tree.mk x_2.fst x_2.snd)).toList)
 (((0 : Int) ≤ (↑x.fst : Int) ∧ (↑x.fst : Int) < (↑a.snd.snd.snd.fst.length : Int)) ∧
 x.fst < a.snd.snd.snd.fst.length ∧
 (0 : Nat) + x.snd.snd.fst.length ≤ x.snd.snd.fst.length ∧
 (x.snd.snd.fst.length + (1 : Nat)) * (40 : Nat) ≤ (70368744177664 : Nat) ∧
 ((0 : Int) ≤ (↑x.fst : Int) ∧ (↑x.fst : Int) < (↑a.snd.snd.snd.snd.fst.length : Int)) ∧
 x.fst < a.snd.snd.snd.snd.fst.length ∧
 (0 : Nat) + x.snd.snd.snd.length ≤ x.snd.snd.snd.length ∧
 (x.snd.snd.snd.length + (1 : Nat)) * (8 : Nat) ≤ (70368744177664 : Nat) ∧
 Exists fun (x' : Nat × Bool × List Pl.Tm × List Int) =>
 (x'.fst ≤ a.snd.snd.snd.fst.length ∧
 Pl.PutB a.snd.snd.snd.fst (Pl.Tree.mk v ks) (x'.fst + if x'.snd.fst = Bool.true then (1 : Nat) else (0 : Nat)) x'.snd.snd.fst x'.snd.snd.snd) ∧
 a.snd.snd.snd.fst.length - x'.fst < a.snd.snd.snd.fst.length - x.fst ∧
 (n = n ∧
 (0 : Nat) = (0 : Nat) ∧
 (0 : Nat) = (0 : Nat) ∧
 (0 : Nat) = (0 : Nat) ∧
 (0 : Nat) = (0 : Nat) ∧ x.snd.fst = x'.snd.fst ∧ IntKind.i64.wrap ((↑x.fst : Int) + (1 : Int)) = (↑x'.fst : Int) ∧ True) ∧
 (a.fst = a.fst ∧
 a.snd.fst.fst = a.snd.fst.fst ∧
 Is (terms a.snd.fst.snd) (terms a.snd.fst.snd) ∧
 a.snd.snd.fst.fst = a.snd.snd.fst.fst ∧
 Is (terms a.snd.snd.fst.snd) (terms a.snd.snd.fst.snd) ∧
 Is (terms a.snd.snd.snd.fst) (terms a.snd.snd.snd.fst) ∧
 Is (ints a.snd.snd.snd.snd.fst) (ints a.snd.snd.snd.snd.fst) ∧
 a.snd.snd.snd.snd.snd.fst = a.snd.snd.snd.snd.snd.fst ∧ a.snd.snd.snd.snd.snd.snd = a.snd.snd.snd.snd.snd.snd ∧ True) ∧
 (v = v ∧ Is (terms ks) (terms ks) ∧ True) ∧
 ((0 : Int) = (0 : Int) ∧
 ByteArray.empty = ByteArray.empty ∧
 Is (AV.lit (0 : Nat) (1 : Nat) fun (x x_3 : Nat) => AV.any) nilA ∧
 ByteArray.empty = ByteArray.empty ∧
 Is (AV.lit (0 : Nat) (1 : Nat) fun (x x_3 : Nat) => AV.any) nilA ∧
 Is (AV.lit (0 : Nat) (1 : Nat) fun (x x_3 : Nat) => AV.any) nilA ∧
 Is (AV.lit (0 : Nat) (1 : Nat) fun (x x_3 : Nat) => AV.any) nilA ∧
 (0 : Int) = (0 : Int) ∧ Bool.false = Bool.false ∧ True) ∧
 (a.fst = a.fst ∧
 ByteArray.empty = ByteArray.empty ∧
 Is (AV.lit (0 : Nat) (1 : Nat) fun (x x_3 : Nat) => AV.any) nilA ∧
 ByteArray.empty = ByteArray.empty ∧
 Is (AV.lit (0 : Nat) (1 : Nat) fun (x x_3 : Nat) => AV.any) nilA ∧
 ((0 : Nat) = (0 : Nat) ∧ x.snd.snd.fst.length + (1 : Nat) = x'.snd.snd.fst.length) ∧
 ((0 : Nat) = (0 : Nat) ∧ x.snd.snd.snd.length + (1 : Nat) = x'.snd.snd.snd.length) ∧
 a.snd.snd.snd.snd.snd.fst = a.snd.snd.snd.snd.snd.fst ∧ a.snd.snd.snd.snd.snd.snd = a.snd.snd.snd.snd.snd.snd ∧ True) ∧
 IsO
 (AObj.arr (x.snd.snd.fst.length + (1 : Nat)) (2 : Nat)
 (joinC x.snd.snd.fst.length (cT x.snd.snd.fst)
 (rowsCell [[st (Pl.Tree.val (a.snd.snd.snd.fst.getD x.fst Pl.dT)), kidsT (a.snd.snd.snd.fst.getD x.fst Pl.dT)]])))
 (arT x'.snd.snd.fst) ∧
 IsO
 (AObj.arr (x.snd.snd.snd.length + (1 : Nat)) (1 : Nat)
 (joinC x.snd.snd.snd.length (cI x.snd.snd.snd) (rowsCell [[i64 (a.snd.snd.snd.snd.fst.getD x.fst (0 : Int))]])))
 (arI x'.snd.snd.snd) ∧
 True)
 (Exists fun (x' : Nat × Bool × List Pl.Tm × List Int) =>
 (x'.fst ≤ a.snd.snd.snd.fst.length ∧
 Pl.PutB a.snd.snd.snd.fst (Pl.Tree.mk v ks) (x'.fst + if x'.snd.fst = Bool.true then (1 : Nat) else (0 : Nat)) x'.snd.snd.fst x'.snd.snd.snd) ∧
 a.snd.snd.snd.fst.length - x'.fst < a.snd.snd.snd.fst.length - x.fst ∧
 (n = n ∧
 (0 : Nat) = (0 : Nat) ∧
 (0 : Nat) = (0 : Nat) ∧
 (0 : Nat) = (0 : Nat) ∧ (0 : Nat) = (0 : Nat) ∧ x.snd.fst = x'.snd.fst ∧ IntKind.i64.wrap ((↑x.fst : Int) + (1 : Int)) = (↑x'.fst : Int) ∧ True) ∧
 (a.fst = a.fst ∧
 a.snd.fst.fst = a.snd.fst.fst ∧
 Is (terms a.snd.fst.snd) (terms a.snd.fst.snd) ∧
 a.snd.snd.fst.fst = a.snd.snd.fst.fst ∧
 Is (terms a.snd.snd.fst.snd) (terms a.snd.snd.fst.snd) ∧
 Is (terms a.snd.snd.snd.fst) (terms a.snd.snd.snd.fst) ∧
 Is (ints a.snd.snd.snd.snd.fst) (ints a.snd.snd.snd.snd.fst) ∧
 a.snd.snd.snd.snd.snd.fst = a.snd.snd.snd.snd.snd.fst ∧ a.snd.snd.snd.snd.snd.snd = a.snd.snd.snd.snd.snd.snd ∧ True) ∧
 (v = v ∧ Is (terms ks) (terms ks) ∧ True) ∧
 ((0 : Int) = (0 : Int) ∧
 ByteArray.empty = ByteArray.empty ∧
 Is (AV.lit (0 : Nat) (1 : Nat) fun (x x_3 : Nat) => AV.any) nilA ∧
 ByteArray.empty = ByteArray.empty ∧
 Is (AV.lit (0 : Nat) (1 : Nat) fun (x x_3 : Nat) => AV.any) nilA ∧
 Is (AV.lit (0 : Nat) (1 : Nat) fun (x x_3 : Nat) => AV.any) nilA ∧
 Is (AV.lit (0 : Nat) (1 : Nat) fun (x x_3 : Nat) => AV.any) nilA ∧ (0 : Int) = (0 : Int) ∧ Bool.false = Bool.false ∧ True) ∧
 (a.fst = a.fst ∧
 ByteArray.empty = ByteArray.empty ∧
 Is (AV.lit (0 : Nat) (1 : Nat) fun (x x_3 : Nat) => AV.any) nilA ∧
 ByteArray.empty = ByteArray.empty ∧
 Is (AV.lit (0 : Nat) (1 : Nat) fun (x x_3 : Nat) => AV.any) nilA ∧
 ((0 : Nat) = (0 : Nat) ∧ x.snd.snd.fst.length = x'.snd.snd.fst.length) ∧
 ((0 : Nat) = (0 : Nat) ∧ x.snd.snd.snd.length = x'.snd.snd.snd.length) ∧
 a.snd.snd.snd.snd.snd.fst = a.snd.snd.snd.snd.snd.fst ∧ a.snd.snd.snd.snd.snd.snd = a.snd.snd.snd.snd.snd.snd ∧ True) ∧
 IsO (arT x.snd.snd.fst) (arT x'.snd.snd.fst) ∧ IsO (arI x.snd.snd.snd) (arI x'.snd.snd.snd) ∧ True)))
 (condP (!x.snd.fst)
 ((0 : Nat) + x.snd.snd.fst.length ≤ x.snd.snd.fst.length ∧
 (x.snd.snd.fst.length + (1 : Nat)) * (40 : Nat) ≤ (70368744177664 : Nat) ∧
 (0 : Nat) + x.snd.snd.snd.length ≤ x.snd.snd.snd.length ∧
 (x.snd.snd.snd.length + (1 : Nat)) * (8 : Nat) ≤ (70368744177664 : Nat) ∧
 Exists fun (y : List Pl.Tm × List Int) =>
 Pl.PutB a.snd.snd.snd.fst (Pl.Tree.mk v ks) (a.snd.snd.snd.fst.length + (1 : Nat)) y.fst y.snd ∧
 ((a.fst = (a.fst, Pl.noTP, Pl.noTP, y.fst, y.snd, a.snd.snd.snd.snd.snd.fst, a.snd.snd.snd.snd.snd.snd).fst ∧
 ByteArray.empty = ByteArray.mk #[] ∧
 Is (AV.lit (0 : Nat) (1 : Nat) fun (x x_1 : Nat) => AV.any) (terms []) ∧
 ByteArray.empty = ByteArray.mk #[] ∧
 Is (AV.lit (0 : Nat) (1 : Nat) fun (x x_1 : Nat) => AV.any) (terms []) ∧
 ((0 : Nat) = (0 : Nat) ∧ x.snd.snd.fst.length + (1 : Nat) = (y.fst, y.snd, a.snd.snd.snd.snd.snd.fst, a.snd.snd.snd.snd.snd.snd).fst.length) ∧
 ((0 : Nat) = (0 : Nat) ∧ x.snd.snd.snd.length + (1 : Nat) = (y.snd, a.snd.snd.snd.snd.snd.fst, a.snd.snd.snd.snd.snd.snd).fst.length) ∧
 a.snd.snd.snd.snd.snd.fst = (a.snd.snd.snd.snd.snd.fst, a.snd.snd.snd.snd.snd.snd).fst ∧
 a.snd.snd.snd.snd.snd.snd = (a.snd.snd.snd.snd.snd.fst, a.snd.snd.snd.snd.snd.snd).snd ∧ True) ∧
 True) ∧
 IsO (AObj.arr (x.snd.snd.fst.length + (1 : Nat)) (2 : Nat) (joinC x.snd.snd.fst.length (cT x.snd.snd.fst) (rowsCell [[st v, terms ks]]))) (arT y.fst) ∧
 IsO (AObj.arr (x.snd.snd.snd.length + (1 : Nat)) (1 : Nat) (joinC x.snd.snd.snd.length (cI x.snd.snd.snd) (rowsCell [[i64 n]]))) (arI y.snd) ∧ True)
 (Exists fun (y : List Pl.Tm × List Int) =>
 Pl.PutB a.snd.snd.snd.fst (Pl.Tree.mk v ks) (a.snd.snd.snd.fst.length + (1 : Nat)) y.fst y.snd ∧
 ((a.fst = (a.fst, Pl.noTP, Pl.noTP, y.fst, y.snd, a.snd.snd.snd.snd.snd.fst, a.snd.snd.snd.snd.snd.snd).fst ∧
 ByteArray.empty = ByteArray.mk #[] ∧
 Is (AV.lit (0 : Nat) (1 : Nat) fun (x x_1 : Nat) => AV.any) (terms []) ∧
 ByteArray.empty = ByteArray.mk #[] ∧
 Is (AV.lit (0 : Nat) (1 : Nat) fun (x x_1 : Nat) => AV.any) (terms []) ∧
 ((0 : Nat) = (0 : Nat) ∧ x.snd.snd.fst.length = (y.fst, y.snd, a.snd.snd.snd.snd.snd.fst, a.snd.snd.snd.snd.snd.snd).fst.length) ∧
 ((0 : Nat) = (0 : Nat) ∧ x.snd.snd.snd.length = (y.snd, a.snd.snd.snd.snd.snd.fst, a.snd.snd.snd.snd.snd.snd).fst.length) ∧
 a.snd.snd.snd.snd.snd.fst = (a.snd.snd.snd.snd.snd.fst, a.snd.snd.snd.snd.snd.snd).fst ∧
 a.snd.snd.snd.snd.snd.snd = (a.snd.snd.snd.snd.snd.fst, a.snd.snd.snd.snd.snd.snd).snd ∧ True) ∧
 True) ∧
 IsO (arT x.snd.snd.fst) (arT y.fst) ∧ IsO (arI x.snd.snd.snd) (arI y.snd) ∧ True))) = Goal Tryz.prog [K_lText] (A_l6Put a v ks n) K_l6Put.1 K_l6Put.2 ((a, (v, ks), n)) := by kernel_rfl

theorem vc_l6Any (b : List Int) (p : Int) (s : Pl.Sig) : (Exists fun (x : List Int × Int × Int) =>
 Rd (1099511627776 : Int) x.fst x.snd.fst ∧
 (((0 : Nat) = (0 : Nat) ∧ (2 : Int) = x.snd.snd ∧ True) ∧ (Is (byts b) (byts x.fst) ∧ p = x.snd.fst ∧ True) ∧ True) ∧
 ∀ (y : Int),
 ((1 : Int) ≤ x.snd.snd → (0 : Int) ≤ y ∧ y < x.snd.snd) ∧ (x.snd.snd < (1 : Int) → y = (0 : Int)) →
 condP (y == (0 : Int))
 (Exists fun (x_1 : List Int × Int × Int) =>
 Rd (1099511627776 : Int) x_1.fst x_1.snd.fst ∧
 (((0 : Nat) = (0 : Nat) ∧ (2 : Int) = x_1.snd.snd ∧ True) ∧ (Is (byts x.fst) (byts x_1.fst) ∧ x.snd.fst + (1 : Int) = x_1.snd.fst ∧ True) ∧ True) ∧
 ∀ (y : Int),
 ((1 : Int) ≤ x_1.snd.snd → (0 : Int) ≤ y ∧ y < x_1.snd.snd) ∧ (x_1.snd.snd < (1 : Int) → y = (0 : Int)) →
 ((Exists fun (x : List Int × Int × List Int) =>
 (Rd (1099511627776 : Int) x.fst x.snd.fst ∧ x.snd.snd ≠ [] ∧ Sz x.snd.snd) ∧
 (((0 : Nat) = (0 : Nat) ∧ Is (AV.lit (2 : Nat) (1 : Nat) (rowsCell [[i64 (1 : Int)], [i64 (2 : Int)]])) (ints x.snd.snd) ∧ True) ∧
 (Is (byts x_1.fst) (byts x.fst) ∧ x_1.snd.fst + (1 : Int) = x.snd.fst ∧ True) ∧ True) ∧
 ∀ (y_1 : Int),
 y_1 ∈ x.snd.snd →
 (Exists fun (x_2 : AX) =>
 (Rd (137438953472 : Int) x_2.fst x_2.snd.fst ∧
 x_2.snd.fst + (↑(Pl.CB x_2.snd.snd.snd.snd.toNat) : Int) ≤ (137438953472 : Int) ∧
 Pl.SgB (5 : Nat) (2 : Nat) x_2.snd.snd.fst ∧ x_2.snd.snd.snd.snd ≤ (4 : Int)) ∧
 (((0 : Nat) = (0 : Nat) ∧ (Is (syms s) (syms x_2.snd.snd.fst) ∧ True) ∧ y = x_2.snd.snd.snd.fst ∧ y_1 = x_2.snd.snd.snd.snd ∧ True) ∧
 (Is (byts x.fst) (byts x_2.fst) ∧ x.snd.fst + (1 : Int) = x_2.snd.fst ∧ True) ∧ True) ∧
 ∀ (y_2 : Pl.TP × Int),
 Pl.TmB (Pl.CB x_2.snd.snd.snd.snd.toNat) y_2.fst ∧ x_2.snd.fst ≤ y_2.snd ∧ y_2.snd ≤ x_2.snd.fst + (↑(Pl.CB x_2.snd.snd.snd.snd.toNat) : Int) →
 (Exists fun (x : List Int × Int × List Int) =>
 (Rd (1099511627776 : Int) x.fst x.snd.fst ∧ x.snd.snd ≠ [] ∧ Sz x.snd.snd) ∧
 (((0 : Nat) = (0 : Nat) ∧
 Is (AV.lit (3 : Nat) (1 : Nat) (rowsCell [[i64 (1 : Int)], [i64 (1 : Int)], [i64 (2 : Int)]])) (ints x.snd.snd) ∧
 True) ∧
 (Is (byts x_2.fst) (byts x.fst) ∧ y_2.snd = x.snd.fst ∧ True) ∧ True) ∧
 ∀ (y_3 : Int),
 y_3 ∈ x.snd.snd →
 Exists fun (x_3 : AX) =>
 (Rd (137438953472 : Int) x_3.fst x_3.snd.fst ∧
 x_3.snd.fst + (↑(Pl.CB x_3.snd.snd.snd.snd.toNat) : Int) ≤ (137438953472 : Int) ∧
 Pl.SgB (5 : Nat) (2 : Nat) x_3.snd.snd.fst ∧ x_3.snd.snd.snd.snd ≤ (4 : Int)) ∧
 (((0 : Nat) = (0 : Nat) ∧
 (Is (syms s) (syms x_3.snd.snd.fst) ∧ True) ∧ y = x_3.snd.snd.snd.fst ∧ y_3 = x_3.snd.snd.snd.snd ∧ True) ∧
 (Is (byts x.fst) (byts x_3.fst) ∧ x.snd.fst + (1 : Int) = x_3.snd.fst ∧ True) ∧ True) ∧
 ∀ (y : Pl.TP × Int),
 Pl.TmB (Pl.CB x_3.snd.snd.snd.snd.toNat) y.fst ∧
 x_3.snd.fst ≤ y.snd ∧ y.snd ≤ x_3.snd.fst + (↑(Pl.CB x_3.snd.snd.snd.snd.toNat) : Int) →
 Exists fun (y_4 : Pl.Atm × Int) =>
 (Pl.AtB (3 : Nat) y_4.fst ∧ p ≤ y_4.snd ∧ y_4.snd ≤ p + (500 : Int)) ∧
 (0 : Nat) + y_2.fst.snd.length ≤ y_2.fst.snd.length ∧
 (0 : Nat) + y.fst.snd.length ≤ y.fst.snd.length ∧
 (((1 : Int) = y_4.fst.fst ∧
 y_2.fst.fst = y_4.fst.snd.fst.fst ∧
 Is (terms y_2.fst.snd) (terms y_4.fst.snd.fst.snd) ∧
 y.fst.fst = y_4.fst.snd.snd.fst.fst ∧
 Is (terms y.fst.snd) (terms y_4.fst.snd.snd.fst.snd) ∧
 ((0 : Nat) = (0 : Nat) ∧ (0 : Nat) = (0 : Nat) ∧ y_4.fst.snd.snd.snd.fst.length = (0 : Nat)) ∧
 ((0 : Nat) = (0 : Nat) ∧ (0 : Nat) = (0 : Nat) ∧ y_4.fst.snd.snd.snd.snd.fst.length = (0 : Nat)) ∧
 (0 : Int) = y_4.fst.snd.snd.snd.snd.snd.fst ∧ Bool.false = y_4.fst.snd.snd.snd.snd.snd.snd ∧ True) ∧
 True) ∧
 (Is (byts x_3.fst) (byts b) ∧ y.snd = y_4.snd ∧ True) ∧
 y_4.fst.snd.snd.snd.fst.length = (0 : Nat) ∧ y_4.fst.snd.snd.snd.snd.fst.length = (0 : Nat) ∧ True) ∧
 Exists fun (x : List Int × Int × List Int) =>
 (Rd (1099511627776 : Int) x.fst x.snd.fst ∧ x.snd.snd ≠ [] ∧ Sz x.snd.snd) ∧
 (((0 : Nat) = (0 : Nat) ∧
 Is (AV.lit (3 : Nat) (1 : Nat) (rowsCell [[i64 (1 : Int)], [i64 (1 : Int)], [i64 (2 : Int)]])) (ints x.snd.snd) ∧
 True) ∧
 (Is (byts x_2.fst) (byts x.fst) ∧ y_2.snd = x.snd.fst ∧ True) ∧ True) ∧
 ∀ (y_3 : Int),
 y_3 ∈ x.snd.snd →
 Exists fun (x_3 : AX) =>
 (Rd (137438953472 : Int) x_3.fst x_3.snd.fst ∧
 x_3.snd.fst + (↑(Pl.CB x_3.snd.snd.snd.snd.toNat) : Int) ≤ (137438953472 : Int) ∧
 Pl.SgB (5 : Nat) (2 : Nat) x_3.snd.snd.fst ∧ x_3.snd.snd.snd.snd ≤ (4 : Int)) ∧
 (((0 : Nat) = (0 : Nat) ∧
 (Is (syms s) (syms x_3.snd.snd.fst) ∧ True) ∧ y = x_3.snd.snd.snd.fst ∧ y_3 = x_3.snd.snd.snd.snd ∧ True) ∧
 (Is (byts x.fst) (byts x_3.fst) ∧ x.snd.fst + (1 : Int) = x_3.snd.fst ∧ True) ∧ True) ∧
 ∀ (y : Pl.TP × Int),
 Pl.TmB (Pl.CB x_3.snd.snd.snd.snd.toNat) y.fst ∧
 x_3.snd.fst ≤ y.snd ∧ y.snd ≤ x_3.snd.fst + (↑(Pl.CB x_3.snd.snd.snd.snd.toNat) : Int) →
 Exists fun (y_4 : Pl.Atm × Int) =>
 (Pl.AtB (3 : Nat) y_4.fst ∧ p ≤ y_4.snd ∧ y_4.snd ≤ p + (500 : Int)) ∧
 (0 : Nat) + y_2.fst.snd.length ≤ y_2.fst.snd.length ∧
 (0 : Nat) + y.fst.snd.length ≤ y.fst.snd.length ∧
 (((1 : Int) = y_4.fst.fst ∧
 y_2.fst.fst = y_4.fst.snd.fst.fst ∧
 Is (terms y_2.fst.snd) (terms y_4.fst.snd.fst.snd) ∧
 y.fst.fst = y_4.fst.snd.snd.fst.fst ∧
 Is (terms y.fst.snd) (terms y_4.fst.snd.snd.fst.snd) ∧
 ((0 : Nat) = (0 : Nat) ∧ (0 : Nat) = (0 : Nat) ∧ y_4.fst.snd.snd.snd.fst.length = (0 : Nat)) ∧
 ((0 : Nat) = (0 : Nat) ∧ (0 : Nat) = (0 : Nat) ∧ y_4.fst.snd.snd.snd.snd.fst.length = (0 : Nat)) ∧
 (0 : Int) = y_4.fst.snd.snd.snd.snd.snd.fst ∧ Bool.false = y_4.fst.snd.snd.snd.snd.snd.snd ∧ True) ∧
 True) ∧
 (Is (byts x_3.fst) (byts b) ∧ y.snd = y_4.snd ∧ True) ∧
 y_4.fst.snd.snd.snd.fst.length = (0 : Nat) ∧ y_4.fst.snd.snd.snd.snd.fst.length = (0 : Nat) ∧ True) ∧
 Exists fun (x_2 : AX) =>
 (Rd (137438953472 : Int) x_2.fst x_2.snd.fst ∧
 x_2.snd.fst + (↑(Pl.CB x_2.snd.snd.snd.snd.toNat) : Int) ≤ (137438953472 : Int) ∧
 Pl.SgB (5 : Nat) (2 : Nat) x_2.snd.snd.fst ∧ x_2.snd.snd.snd.snd ≤ (4 : Int)) ∧
 (((0 : Nat) = (0 : Nat) ∧ (Is (syms s) (syms x_2.snd.snd.fst) ∧ True) ∧ y = x_2.snd.snd.snd.fst ∧ y_1 = x_2.snd.snd.snd.snd ∧ True) ∧
 (Is (byts x.fst) (byts x_2.fst) ∧ x.snd.fst + (1 : Int) = x_2.snd.fst ∧ True) ∧ True) ∧
 ∀ (y_2 : Pl.TP × Int),
 Pl.TmB (Pl.CB x_2.snd.snd.snd.snd.toNat) y_2.fst ∧ x_2.snd.fst ≤ y_2.snd ∧ y_2.snd ≤ x_2.snd.fst + (↑(Pl.CB x_2.snd.snd.snd.snd.toNat) : Int) →
 Exists fun (x : List Int × Int × List Int) =>
 (Rd (1099511627776 : Int) x.fst x.snd.fst ∧ x.snd.snd ≠ [] ∧ Sz x.snd.snd) ∧
 (((0 : Nat) = (0 : Nat) ∧
 Is (AV.lit (3 : Nat) (1 : Nat) (rowsCell [[i64 (1 : Int)], [i64 (1 : Int)], [i64 (2 : Int)]])) (ints x.snd.snd) ∧ True) ∧
 (Is (byts x_2.fst) (byts x.fst) ∧ y_2.snd = x.snd.fst ∧ True) ∧ True) ∧
 ∀ (y_3 : Int),
 y_3 ∈ x.snd.snd →
 Exists fun (x_3 : AX) =>
 (Rd (137438953472 : Int) x_3.fst x_3.snd.fst ∧
 x_3.snd.fst + (↑(Pl.CB x_3.snd.snd.snd.snd.toNat) : Int) ≤ (137438953472 : Int) ∧
 Pl.SgB (5 : Nat) (2 : Nat) x_3.snd.snd.fst ∧ x_3.snd.snd.snd.snd ≤ (4 : Int)) ∧
 (((0 : Nat) = (0 : Nat) ∧
 (Is (syms s) (syms x_3.snd.snd.fst) ∧ True) ∧ y = x_3.snd.snd.snd.fst ∧ y_3 = x_3.snd.snd.snd.snd ∧ True) ∧
 (Is (byts x.fst) (byts x_3.fst) ∧ x.snd.fst + (1 : Int) = x_3.snd.fst ∧ True) ∧ True) ∧
 ∀ (y : Pl.TP × Int),
 Pl.TmB (Pl.CB x_3.snd.snd.snd.snd.toNat) y.fst ∧
 x_3.snd.fst ≤ y.snd ∧ y.snd ≤ x_3.snd.fst + (↑(Pl.CB x_3.snd.snd.snd.snd.toNat) : Int) →
 Exists fun (y_4 : Pl.Atm × Int) =>
 (Pl.AtB (3 : Nat) y_4.fst ∧ p ≤ y_4.snd ∧ y_4.snd ≤ p + (500 : Int)) ∧
 (0 : Nat) + y_2.fst.snd.length ≤ y_2.fst.snd.length ∧
 (0 : Nat) + y.fst.snd.length ≤ y.fst.snd.length ∧
 (((1 : Int) = y_4.fst.fst ∧
 y_2.fst.fst = y_4.fst.snd.fst.fst ∧
 Is (terms y_2.fst.snd) (terms y_4.fst.snd.fst.snd) ∧
 y.fst.fst = y_4.fst.snd.snd.fst.fst ∧
 Is (terms y.fst.snd) (terms y_4.fst.snd.snd.fst.snd) ∧
 ((0 : Nat) = (0 : Nat) ∧ (0 : Nat) = (0 : Nat) ∧ y_4.fst.snd.snd.snd.fst.length = (0 : Nat)) ∧
 ((0 : Nat) = (0 : Nat) ∧ (0 : Nat) = (0 : Nat) ∧ y_4.fst.snd.snd.snd.snd.fst.length = (0 : Nat)) ∧
 (0 : Int) = y_4.fst.snd.snd.snd.snd.snd.fst ∧ Bool.false = y_4.fst.snd.snd.snd.snd.snd.snd ∧ True) ∧
 True) ∧
 (Is (byts x_3.fst) (byts b) ∧ y.snd = y_4.snd ∧ True) ∧
 y_4.fst.snd.snd.snd.fst.length = (0 : Nat) ∧ y_4.fst.snd.snd.snd.snd.fst.length = (0 : Nat) ∧ True) ∧
 Exists fun (x : List Int × Int × List Int) =>
 (Rd (1099511627776 : Int) x.fst x.snd.fst ∧ x.snd.snd ≠ [] ∧ Sz x.snd.snd) ∧
 (((0 : Nat) = (0 : Nat) ∧ Is (AV.lit (2 : Nat) (1 : Nat) (rowsCell [[i64 (1 : Int)], [i64 (2 : Int)]])) (ints x.snd.snd) ∧ True) ∧
 (Is (byts x_1.fst) (byts x.fst) ∧ x_1.snd.fst + (1 : Int) = x.snd.fst ∧ True) ∧ True) ∧
 ∀ (y_1 : Int),
 y_1 ∈ x.snd.snd →
 Exists fun (x_2 : AX) =>
 (Rd (137438953472 : Int) x_2.fst x_2.snd.fst ∧
 x_2.snd.fst + (↑(Pl.CB x_2.snd.snd.snd.snd.toNat) : Int) ≤ (137438953472 : Int) ∧
 Pl.SgB (5 : Nat) (2 : Nat) x_2.snd.snd.fst ∧ x_2.snd.snd.snd.snd ≤ (4 : Int)) ∧
 (((0 : Nat) = (0 : Nat) ∧ (Is (syms s) (syms x_2.snd.snd.fst) ∧ True) ∧ y = x_2.snd.snd.snd.fst ∧ y_1 = x_2.snd.snd.snd.snd ∧ True) ∧
 (Is (byts x.fst) (byts x_2.fst) ∧ x.snd.fst + (1 : Int) = x_2.snd.fst ∧ True) ∧ True) ∧
 ∀ (y_2 : Pl.TP × Int),
 Pl.TmB (Pl.CB x_2.snd.snd.snd.snd.toNat) y_2.fst ∧ x_2.snd.fst ≤ y_2.snd ∧ y_2.snd ≤ x_2.snd.fst + (↑(Pl.CB x_2.snd.snd.snd.snd.toNat) : Int) →
 Exists fun (x : List Int × Int × List Int) =>
 (Rd (1099511627776 : Int) x.fst x.snd.fst ∧ x.snd.snd ≠ [] ∧ Sz x.snd.snd) ∧
 (((0 : Nat) = (0 : Nat) ∧
 Is (AV.lit (3 : Nat) (1 : Nat) (rowsCell [[i64 (1 : Int)], [i64 (1 : Int)], [i64 (2 : Int)]])) (ints x.snd.snd) ∧ True) ∧
 (Is (byts x_2.fst) (byts x.fst) ∧ y_2.snd = x.snd.fst ∧ True) ∧ True) ∧
 ∀ (y_3 : Int),
 y_3 ∈ x.snd.snd →
 Exists fun (x_3 : AX) =>
 (Rd (137438953472 : Int) x_3.fst x_3.snd.fst ∧
 x_3.snd.fst + (↑(Pl.CB x_3.snd.snd.snd.snd.toNat) : Int) ≤ (137438953472 : Int) ∧
 Pl.SgB (5 : Nat) (2 : Nat) x_3.snd.snd.fst ∧ x_3.snd.snd.snd.snd ≤ (4 : Int)) ∧
 (((0 : Nat) = (0 : Nat) ∧
 (Is (syms s) (syms x_3.snd.snd.fst) ∧ True) ∧ y = x_3.snd.snd.snd.fst ∧ y_3 = x_3.snd.snd.snd.snd ∧ True) ∧
 (Is (byts x.fst) (byts x_3.fst) ∧ x.snd.fst + (1 : Int) = x_3.snd.fst ∧ True) ∧ True) ∧
 ∀ (y : Pl.TP × Int),
 Pl.TmB (Pl.CB x_3.snd.snd.snd.snd.toNat) y.fst ∧
 x_3.snd.fst ≤ y.snd ∧ y.snd ≤ x_3.snd.fst + (↑(Pl.CB x_3.snd.snd.snd.snd.toNat) : Int) →
 Exists fun (y_4 : Pl.Atm × Int) =>
 (Pl.AtB (3 : Nat) y_4.fst ∧ p ≤ y_4.snd ∧ y_4.snd ≤ p + (500 : Int)) ∧
 (0 : Nat) + y_2.fst.snd.length ≤ y_2.fst.snd.length ∧
 (0 : Nat) + y.fst.snd.length ≤ y.fst.snd.length ∧
 (((1 : Int) = y_4.fst.fst ∧
 y_2.fst.fst = y_4.fst.snd.fst.fst ∧
 Is (terms y_2.fst.snd) (terms y_4.fst.snd.fst.snd) ∧
 y.fst.fst = y_4.fst.snd.snd.fst.fst ∧
 Is (terms y.fst.snd) (terms y_4.fst.snd.snd.fst.snd) ∧
 ((0 : Nat) = (0 : Nat) ∧ (0 : Nat) = (0 : Nat) ∧ y_4.fst.snd.snd.snd.fst.length = (0 : Nat)) ∧
 ((0 : Nat) = (0 : Nat) ∧ (0 : Nat) = (0 : Nat) ∧ y_4.fst.snd.snd.snd.snd.fst.length = (0 : Nat)) ∧
 (0 : Int) = y_4.fst.snd.snd.snd.snd.snd.fst ∧ Bool.false = y_4.fst.snd.snd.snd.snd.snd.snd ∧ True) ∧
 True) ∧
 (Is (byts x_3.fst) (byts b) ∧ y.snd = y_4.snd ∧ True) ∧
 y_4.fst.snd.snd.snd.fst.length = (0 : Nat) ∧ y_4.fst.snd.snd.snd.snd.fst.length = (0 : Nat) ∧ True) ∧
 (Exists fun (x : List Int × Int × List Int) =>
 (Rd (1099511627776 : Int) x.fst x.snd.fst ∧ x.snd.snd ≠ [] ∧ Sz x.snd.snd) ∧
 (((0 : Nat) = (0 : Nat) ∧ Is (AV.lit (2 : Nat) (1 : Nat) (rowsCell [[i64 (1 : Int)], [i64 (2 : Int)]])) (ints x.snd.snd) ∧ True) ∧
 (Is (byts x_1.fst) (byts x.fst) ∧ x_1.snd.fst + (1 : Int) = x.snd.fst ∧ True) ∧ True) ∧
 ∀ (y_1 : Int),
 y_1 ∈ x.snd.snd →
 ((Exists fun (x_2 : AX) =>
 (Rd (137438953472 : Int) x_2.fst x_2.snd.fst ∧
 x_2.snd.fst + (↑(Pl.CB x_2.snd.snd.snd.snd.toNat) : Int) ≤ (137438953472 : Int) ∧
 Pl.SgB (5 : Nat) (2 : Nat) x_2.snd.snd.fst ∧ x_2.snd.snd.snd.snd ≤ (4 : Int)) ∧
 (((0 : Nat) = (0 : Nat) ∧ (Is (syms s) (syms x_2.snd.snd.fst) ∧ True) ∧ y = x_2.snd.snd.snd.fst ∧ y_1 = x_2.snd.snd.snd.snd ∧ True) ∧
 (Is (byts x.fst) (byts x_2.fst) ∧ x.snd.fst + (1 : Int) = x_2.snd.fst ∧ True) ∧ True) ∧
 ∀ (y_2 : Pl.TP × Int),
 Pl.TmB (Pl.CB x_2.snd.snd.snd.snd.toNat) y_2.fst ∧ x_2.snd.fst ≤ y_2.snd ∧ y_2.snd ≤ x_2.snd.fst + (↑(Pl.CB x_2.snd.snd.snd.snd.toNat) : Int) →
 (Exists fun (x : List Int × Int × List Int) =>
 (Rd (1099511627776 : Int) x.fst x.snd.fst ∧ x.snd.snd ≠ [] ∧ Sz x.snd.snd) ∧
 (((0 : Nat) = (0 : Nat) ∧
 Is (AV.lit (3 : Nat) (1 : Nat) (rowsCell [[i64 (1 : Int)], [i64 (1 : Int)], [i64 (2 : Int)]])) (ints x.snd.snd) ∧
 True) ∧
 (Is (byts x_2.fst) (byts x.fst) ∧ y_2.snd = x.snd.fst ∧ True) ∧ True) ∧
 ∀ (y_3 : Int),
 y_3 ∈ x.snd.snd →
 Exists fun (x_3 : AX) =>
 (Rd (137438953472 : Int) x_3.fst x_3.snd.fst ∧
 x_3.snd.fst + (↑(Pl.CB x_3.snd.snd.snd.snd.toNat) : Int) ≤ (137438953472 : Int) ∧
 Pl.SgB (5 : Nat) (2 : Nat) x_3.snd.snd.fst ∧ x_3.snd.snd.snd.snd ≤ (4 : Int)) ∧
 (((0 : Nat) = (0 : Nat) ∧
 (Is (syms s) (syms x_3.snd.snd.fst) ∧ True) ∧ y = x_3.snd.snd.snd.fst ∧ y_3 = x_3.snd.snd.snd.snd ∧ True) ∧
 (Is (byts x.fst) (byts x_3.fst) ∧ x.snd.fst + (1 : Int) = x_3.snd.fst ∧ True) ∧ True) ∧
 ∀ (y : Pl.TP × Int),
 Pl.TmB (Pl.CB x_3.snd.snd.snd.snd.toNat) y.fst ∧
 x_3.snd.fst ≤ y.snd ∧ y.snd ≤ x_3.snd.fst + (↑(Pl.CB x_3.snd.snd.snd.snd.toNat) : Int) →
 Exists fun (y_4 : Pl.Atm × Int) =>
 (Pl.AtB (3 : Nat) y_4.fst ∧ p ≤ y_4.snd ∧ y_4.snd ≤ p + (500 : Int)) ∧
 (0 : Nat) + y_2.fst.snd.length ≤ y_2.fst.snd.length ∧
 (0 : Nat) + y.fst.snd.length ≤ y.fst.snd.length ∧
 (((1 : Int) = y_4.fst.fst ∧
 y_2.fst.fst = y_4.fst.snd.fst.fst ∧
 Is (terms y_2.fst.snd) (terms y_4.fst.snd.fst.snd) ∧
 y.fst.fst = y_4.fst.snd.snd.fst.fst ∧
 Is (terms y.fst.snd) (terms y_4.fst.snd.snd.fst.snd) ∧
 ((0 : Nat) = (0 : Nat) ∧ (0 : Nat) = (0 : Nat) ∧ y_4.fst.snd.snd.snd.fst.length = (0 : Nat)) ∧
 ((0 : Nat) = (0 : Nat) ∧ (0 : Nat) = (0 : Nat) ∧ y_4.fst.snd.snd.snd.snd.fst.length = (0 : Nat)) ∧
 (0 : Int) = y_4.fst.snd.snd.snd.snd.snd.fst ∧ Bool.false = y_4.fst.snd.snd.snd.snd.snd.snd ∧ True) ∧
 True) ∧
 (Is (byts x_3.fst) (byts b) ∧ y.snd = y_4.snd ∧ True) ∧
 y_4.fst.snd.snd.snd.fst.length = (0 : Nat) ∧ y_4.fst.snd.snd.snd.snd.fst.length = (0 : Nat) ∧ True) ∧
 Exists fun (x : List Int × Int × List Int) =>
 (Rd (1099511627776 : Int) x.fst x.snd.fst ∧ x.snd.snd ≠ [] ∧ Sz x.snd.snd) ∧
 (((0 : Nat) = (0 : Nat) ∧
 Is (AV.lit (3 : Nat) (1 : Nat) (rowsCell [[i64 (1 : Int)], [i64 (1 : Int)], [i64 (2 : Int)]])) (ints x.snd.snd) ∧
 True) ∧
 (Is (byts x_2.fst) (byts x.fst) ∧ y_2.snd = x.snd.fst ∧ True) ∧ True) ∧
 ∀ (y_3 : Int),
 y_3 ∈ x.snd.snd →
 Exists fun (x_3 : AX) =>
 (Rd (137438953472 : Int) x_3.fst x_3.snd.fst ∧
 x_3.snd.fst + (↑(Pl.CB x_3.snd.snd.snd.snd.toNat) : Int) ≤ (137438953472 : Int) ∧
 Pl.SgB (5 : Nat) (2 : Nat) x_3.snd.snd.fst ∧ x_3.snd.snd.snd.snd ≤ (4 : Int)) ∧
 (((0 : Nat) = (0 : Nat) ∧
 (Is (syms s) (syms x_3.snd.snd.fst) ∧ True) ∧ y = x_3.snd.snd.snd.fst ∧ y_3 = x_3.snd.snd.snd.snd ∧ True) ∧
 (Is (byts x.fst) (byts x_3.fst) ∧ x.snd.fst + (1 : Int) = x_3.snd.fst ∧ True) ∧ True) ∧
 ∀ (y : Pl.TP × Int),
 Pl.TmB (Pl.CB x_3.snd.snd.snd.snd.toNat) y.fst ∧
 x_3.snd.fst ≤ y.snd ∧ y.snd ≤ x_3.snd.fst + (↑(Pl.CB x_3.snd.snd.snd.snd.toNat) : Int) →
 Exists fun (y_4 : Pl.Atm × Int) =>
 (Pl.AtB (3 : Nat) y_4.fst ∧ p ≤ y_4.snd ∧ y_4.snd ≤ p + (500 : Int)) ∧
 (0 : Nat) + y_2.fst.snd.length ≤ y_2.fst.snd.length ∧
 (0 : Nat) + y.fst.snd.length ≤ y.fst.snd.length ∧
 (((1 : Int) = y_4.fst.fst ∧
 y_2.fst.fst = y_4.fst.snd.fst.fst ∧
 Is (terms y_2.fst.snd) (terms y_4.fst.snd.fst.snd) ∧
 y.fst.fst = y_4.fst.snd.snd.fst.fst ∧
 Is (terms y.fst.snd) (terms y_4.fst.snd.snd.fst.snd) ∧
 ((0 : Nat) = (0 : Nat) ∧ (0 : Nat) = (0 : Nat) ∧ y_4.fst.snd.snd.snd.fst.length = (0 : Nat)) ∧
 ((0 : Nat) = (0 : Nat) ∧ (0 : Nat) = (0 : Nat) ∧ y_4.fst.snd.snd.snd.snd.fst.length = (0 : Nat)) ∧
 (0 : Int) = y_4.fst.snd.snd.snd.snd.snd.fst ∧ Bool.false = y_4.fst.snd.snd.snd.snd.snd.snd ∧ True) ∧
 True) ∧
 (Is (byts x_3.fst) (byts b) ∧ y.snd = y_4.snd ∧ True) ∧
 y_4.fst.snd.snd.snd.fst.length = (0 : Nat) ∧ y_4.fst.snd.snd.snd.snd.fst.length = (0 : Nat) ∧ True) ∧
 Exists fun (x_2 : AX) =>
 (Rd (137438953472 : Int) x_2.fst x_2.snd.fst ∧
 x_2.snd.fst + (↑(Pl.CB x_2.snd.snd.snd.snd.toNat) : Int) ≤ (137438953472 : Int) ∧
 Pl.SgB (5 : Nat) (2 : Nat) x_2.snd.snd.fst ∧ x_2.snd.snd.snd.snd ≤ (4 : Int)) ∧
 (((0 : Nat) = (0 : Nat) ∧ (Is (syms s) (syms x_2.snd.snd.fst) ∧ True) ∧ y = x_2.snd.snd.snd.fst ∧ y_1 = x_2.snd.snd.snd.snd ∧ True) ∧
 (Is (byts x.fst) (byts x_2.fst) ∧ x.snd.fst + (1 : Int) = x_2.snd.fst ∧ True) ∧ True) ∧
 ∀ (y_2 : Pl.TP × Int),
 Pl.TmB (Pl.CB x_2.snd.snd.snd.snd.toNat) y_2.fst ∧ x_2.snd.fst ≤ y_2.snd ∧ y_2.snd ≤ x_2.snd.fst + (↑(Pl.CB x_2.snd.snd.snd.snd.toNat) : Int) →
 Exists fun (x : List Int × Int × List Int) =>
 (Rd (1099511627776 : Int) x.fst x.snd.fst ∧ x.snd.snd ≠ [] ∧ Sz x.snd.snd) ∧
 (((0 : Nat) = (0 : Nat) ∧
 Is (AV.lit (3 : Nat) (1 : Nat) (rowsCell [[i64 (1 : Int)], [i64 (1 : Int)], [i64 (2 : Int)]])) (ints x.snd.snd) ∧
 True) ∧
 (Is (byts x_2.fst) (byts x.fst) ∧ y_2.snd = x.snd.fst ∧ True) ∧ True) ∧
 ∀ (y_3 : Int),
 y_3 ∈ x.snd.snd →
 Exists fun (x_3 : AX) =>
 (Rd (137438953472 : Int) x_3.fst x_3.snd.fst ∧
 x_3.snd.fst + (↑(Pl.CB x_3.snd.snd.snd.snd.toNat) : Int) ≤ (137438953472 : Int) ∧
 Pl.SgB (5 : Nat) (2 : Nat) x_3.snd.snd.fst ∧ x_3.snd.snd.snd.snd ≤ (4 : Int)) ∧
 (((0 : Nat) = (0 : Nat) ∧
 (Is (syms s) (syms x_3.snd.snd.fst) ∧ True) ∧ y = x_3.snd.snd.snd.fst ∧ y_3 = x_3.snd.snd.snd.snd ∧ True) ∧
 (Is (byts x.fst) (byts x_3.fst) ∧ x.snd.fst + (1 : Int) = x_3.snd.fst ∧ True) ∧ True) ∧
 ∀ (y : Pl.TP × Int),
 Pl.TmB (Pl.CB x_3.snd.snd.snd.snd.toNat) y.fst ∧
 x_3.snd.fst ≤ y.snd ∧ y.snd ≤ x_3.snd.fst + (↑(Pl.CB x_3.snd.snd.snd.snd.toNat) : Int) →
 Exists fun (y_4 : Pl.Atm × Int) =>
 (Pl.AtB (3 : Nat) y_4.fst ∧ p ≤ y_4.snd ∧ y_4.snd ≤ p + (500 : Int)) ∧
 (0 : Nat) + y_2.fst.snd.length ≤ y_2.fst.snd.length ∧
 (0 : Nat) + y.fst.snd.length ≤ y.fst.snd.length ∧
 (((1 : Int) = y_4.fst.fst ∧
 y_2.fst.fst = y_4.fst.snd.fst.fst ∧
 Is (terms y_2.fst.snd) (terms y_4.fst.snd.fst.snd) ∧
 y.fst.fst = y_4.fst.snd.snd.fst.fst ∧
 Is (terms y.fst.snd) (terms y_4.fst.snd.snd.fst.snd) ∧
 ((0 : Nat) = (0 : Nat) ∧ (0 : Nat) = (0 : Nat) ∧ y_4.fst.snd.snd.snd.fst.length = (0 : Nat)) ∧
 ((0 : Nat) = (0 : Nat) ∧ (0 : Nat) = (0 : Nat) ∧ y_4.fst.snd.snd.snd.snd.fst.length = (0 : Nat)) ∧
 (0 : Int) = y_4.fst.snd.snd.snd.snd.snd.fst ∧ Bool.false = y_4.fst.snd.snd.snd.snd.snd.snd ∧ True) ∧
 True) ∧
 (Is (byts x_3.fst) (byts b) ∧ y.snd = y_4.snd ∧ True) ∧
 y_4.fst.snd.snd.snd.fst.length = (0 : Nat) ∧ y_4.fst.snd.snd.snd.snd.fst.length = (0 : Nat) ∧ True) ∧
 Exists fun (x_2 : AX) =>
 (Rd (137438953472 : Int) x_2.fst x_2.snd.fst ∧
 x_2.snd.fst + (↑(Pl.CB x_2.snd.snd.snd.snd.toNat) : Int) ≤ (137438953472 : Int) ∧
 Pl.SgB (5 : Nat) (2 : Nat) x_2.snd.snd.fst ∧ x_2.snd.snd.snd.snd ≤ (4 : Int)) ∧
 (((0 : Nat) = (0 : Nat) ∧ (Is (syms s) (syms x_2.snd.snd.fst) ∧ True) ∧ y = x_2.snd.snd.snd.fst ∧ y_1 = x_2.snd.snd.snd.snd ∧ True) ∧
 (Is (byts x.fst) (byts x_2.fst) ∧ x.snd.fst + (1 : Int) = x_2.snd.fst ∧ True) ∧ True) ∧
 ∀ (y_2 : Pl.TP × Int),
 Pl.TmB (Pl.CB x_2.snd.snd.snd.snd.toNat) y_2.fst ∧ x_2.snd.fst ≤ y_2.snd ∧ y_2.snd ≤ x_2.snd.fst + (↑(Pl.CB x_2.snd.snd.snd.snd.toNat) : Int) →
 Exists fun (x : List Int × Int × List Int) =>
 (Rd (1099511627776 : Int) x.fst x.snd.fst ∧ x.snd.snd ≠ [] ∧ Sz x.snd.snd) ∧
 (((0 : Nat) = (0 : Nat) ∧
 Is (AV.lit (3 : Nat) (1 : Nat) (rowsCell [[i64 (1 : Int)], [i64 (1 : Int)], [i64 (2 : Int)]])) (ints x.snd.snd) ∧ True) ∧
 (Is (byts x_2.fst) (byts x.fst) ∧ y_2.snd = x.snd.fst ∧ True) ∧ True) ∧
 ∀ (y_3 : Int),
 y_3 ∈ x.snd.snd →
 Exists fun (x_3 : AX) =>
 (Rd (137438953472 : Int) x_3.fst x_3.snd.fst ∧
 x_3.snd.fst + (↑(Pl.CB x_3.snd.snd.snd.snd.toNat) : Int) ≤ (137438953472 : Int) ∧
 Pl.SgB (5 : Nat) (2 : Nat) x_3.snd.snd.fst ∧ x_3.snd.snd.snd.snd ≤ (4 : Int)) ∧
 (((0 : Nat) = (0 : Nat) ∧
 (Is (syms s) (syms x_3.snd.snd.fst) ∧ True) ∧ y = x_3.snd.snd.snd.fst ∧ y_3 = x_3.snd.snd.snd.snd ∧ True) ∧
 (Is (byts x.fst) (byts x_3.fst) ∧ x.snd.fst + (1 : Int) = x_3.snd.fst ∧ True) ∧ True) ∧
 ∀ (y : Pl.TP × Int),
 Pl.TmB (Pl.CB x_3.snd.snd.snd.snd.toNat) y.fst ∧
 x_3.snd.fst ≤ y.snd ∧ y.snd ≤ x_3.snd.fst + (↑(Pl.CB x_3.snd.snd.snd.snd.toNat) : Int) →
 Exists fun (y_4 : Pl.Atm × Int) =>
 (Pl.AtB (3 : Nat) y_4.fst ∧ p ≤ y_4.snd ∧ y_4.snd ≤ p + (500 : Int)) ∧
 (0 : Nat) + y_2.fst.snd.length ≤ y_2.fst.snd.length ∧
 (0 : Nat) + y.fst.snd.length ≤ y.fst.snd.length ∧
 (((1 : Int) = y_4.fst.fst ∧
 y_2.fst.fst = y_4.fst.snd.fst.fst ∧
 Is (terms y_2.fst.snd) (terms y_4.fst.snd.fst.snd) ∧
 y.fst.fst = y_4.fst.snd.snd.fst.fst ∧
 Is (terms y.fst.snd) (terms y_4.fst.snd.snd.fst.snd) ∧
 ((0 : Nat) = (0 : Nat) ∧ (0 : Nat) = (0 : Nat) ∧ y_4.fst.snd.snd.snd.fst.length = (0 : Nat)) ∧
 ((0 : Nat) = (0 : Nat) ∧ (0 : Nat) = (0 : Nat) ∧ y_4.fst.snd.snd.snd.snd.fst.length = (0 : Nat)) ∧
 (0 : Int) = y_4.fst.snd.snd.snd.snd.snd.fst ∧ Bool.false = y_4.fst.snd.snd.snd.snd.snd.snd ∧ True) ∧
 True) ∧
 (Is (byts x_3.fst) (byts b) ∧ y.snd = y_4.snd ∧ True) ∧
 y_4.fst.snd.snd.snd.fst.length = (0 : Nat) ∧ y_4.fst.snd.snd.snd.snd.fst.length = (0 : Nat) ∧ True) ∧
 (Exists fun (x : List Int × Int × List Int) =>
 (Rd (1099511627776 : Int) x.fst x.snd.fst ∧ x.snd.snd ≠ [] ∧ Sz x.snd.snd) ∧
 (((0 : Nat) = (0 : Nat) ∧ Is (AV.lit (2 : Nat) (1 : Nat) (rowsCell [[i64 (1 : Int)], [i64 (2 : Int)]])) (ints x.snd.snd) ∧ True) ∧
 (Is (byts x_1.fst) (byts x.fst) ∧ x_1.snd.fst + (1 : Int) = x.snd.fst ∧ True) ∧ True) ∧
 ∀ (y_1 : Int),
 y_1 ∈ x.snd.snd →
 Exists fun (x_2 : AX) =>
 (Rd (137438953472 : Int) x_2.fst x_2.snd.fst ∧
 x_2.snd.fst + (↑(Pl.CB x_2.snd.snd.snd.snd.toNat) : Int) ≤ (137438953472 : Int) ∧
 Pl.SgB (5 : Nat) (2 : Nat) x_2.snd.snd.fst ∧ x_2.snd.snd.snd.snd ≤ (4 : Int)) ∧
 (((0 : Nat) = (0 : Nat) ∧ (Is (syms s) (syms x_2.snd.snd.fst) ∧ True) ∧ y = x_2.snd.snd.snd.fst ∧ y_1 = x_2.snd.snd.snd.snd ∧ True) ∧
 (Is (byts x.fst) (byts x_2.fst) ∧ x.snd.fst + (1 : Int) = x_2.snd.fst ∧ True) ∧ True) ∧
 ∀ (y_2 : Pl.TP × Int),
 Pl.TmB (Pl.CB x_2.snd.snd.snd.snd.toNat) y_2.fst ∧ x_2.snd.fst ≤ y_2.snd ∧ y_2.snd ≤ x_2.snd.fst + (↑(Pl.CB x_2.snd.snd.snd.snd.toNat) : Int) →
 Exists fun (x : List Int × Int × List Int) =>
 (Rd (1099511627776 : Int) x.fst x.snd.fst ∧ x.snd.snd ≠ [] ∧ Sz x.snd.snd) ∧
 (((0 : Nat) = (0 : Nat) ∧
 Is (AV.lit (3 : Nat) (1 : Nat) (rowsCell [[i64 (1 : Int)], [i64 (1 : Int)], [i64 (2 : Int)]])) (ints x.snd.snd) ∧ True) ∧
 (Is (byts x_2.fst) (byts x.fst) ∧ y_2.snd = x.snd.fst ∧ True) ∧ True) ∧
 ∀ (y_3 : Int),
 y_3 ∈ x.snd.snd →
 Exists fun (x_3 : AX) =>
 (Rd (137438953472 : Int) x_3.fst x_3.snd.fst ∧
 x_3.snd.fst + (↑(Pl.CB x_3.snd.snd.snd.snd.toNat) : Int) ≤ (137438953472 : Int) ∧
 Pl.SgB (5 : Nat) (2 : Nat) x_3.snd.snd.fst ∧ x_3.snd.snd.snd.snd ≤ (4 : Int)) ∧
 (((0 : Nat) = (0 : Nat) ∧
 (Is (syms s) (syms x_3.snd.snd.fst) ∧ True) ∧ y = x_3.snd.snd.snd.fst ∧ y_3 = x_3.snd.snd.snd.snd ∧ True) ∧
 (Is (byts x.fst) (byts x_3.fst) ∧ x.snd.fst + (1 : Int) = x_3.snd.fst ∧ True) ∧ True) ∧
 ∀ (y : Pl.TP × Int),
 Pl.TmB (Pl.CB x_3.snd.snd.snd.snd.toNat) y.fst ∧
 x_3.snd.fst ≤ y.snd ∧ y.snd ≤ x_3.snd.fst + (↑(Pl.CB x_3.snd.snd.snd.snd.toNat) : Int) →
 Exists fun (y_4 : Pl.Atm × Int) =>
 (Pl.AtB (3 : Nat) y_4.fst ∧ p ≤ y_4.snd ∧ y_4.snd ≤ p + (500 : Int)) ∧
 (0 : Nat) + y_2.fst.snd.length ≤ y_2.fst.snd.length ∧
 (0 : Nat) + y.fst.snd.length ≤ y.fst.snd.length ∧
 (((1 : Int) = y_4.fst.fst ∧
 y_2.fst.fst = y_4.fst.snd.fst.fst ∧
 Is (terms y_2.fst.snd) (terms y_4.fst.snd.fst.snd) ∧
 y.fst.fst = y_4.fst.snd.snd.fst.fst ∧
 Is (terms y.fst.snd) (terms y_4.fst.snd.snd.fst.snd) ∧
 ((0 : Nat) = (0 : Nat) ∧ (0 : Nat) = (0 : Nat) ∧ y_4.fst.snd.snd.snd.fst.length = (0 : Nat)) ∧
 ((0 : Nat) = (0 : Nat) ∧ (0 : Nat) = (0 : Nat) ∧ y_4.fst.snd.snd.snd.snd.fst.length = (0 : Nat)) ∧
 (0 : Int) = y_4.fst.snd.snd.snd.snd.snd.fst ∧ Bool.false = y_4.fst.snd.snd.snd.snd.snd.snd ∧ True) ∧
 True) ∧
 (Is (byts x_3.fst) (byts b) ∧ y.snd = y_4.snd ∧ True) ∧
 y_4.fst.snd.snd.snd.fst.length = (0 : Nat) ∧ y_4.fst.snd.snd.snd.snd.fst.length = (0 : Nat) ∧ True) ∧
 Exists fun (x : List Int × Int × List Int) =>
 (Rd (1099511627776 : Int) x.fst x.snd.fst ∧ x.snd.snd ≠ [] ∧ Sz x.snd.snd) ∧
 (((0 : Nat) = (0 : Nat) ∧ Is (AV.lit (2 : Nat) (1 : Nat) (rowsCell [[i64 (1 : Int)], [i64 (2 : Int)]])) (ints x.snd.snd) ∧ True) ∧
 (Is (byts x_1.fst) (byts x.fst) ∧ x_1.snd.fst + (1 : Int) = x.snd.fst ∧ True) ∧ True) ∧
 ∀ (y_1 : Int),
 y_1 ∈ x.snd.snd →
 Exists fun (x_2 : AX) =>
 (Rd (137438953472 : Int) x_2.fst x_2.snd.fst ∧
 x_2.snd.fst + (↑(Pl.CB x_2.snd.snd.snd.snd.toNat) : Int) ≤ (137438953472 : Int) ∧
 Pl.SgB (5 : Nat) (2 : Nat) x_2.snd.snd.fst ∧ x_2.snd.snd.snd.snd ≤ (4 : Int)) ∧
 (((0 : Nat) = (0 : Nat) ∧ (Is (syms s) (syms x_2.snd.snd.fst) ∧ True) ∧ y = x_2.snd.snd.snd.fst ∧ y_1 = x_2.snd.snd.snd.snd ∧ True) ∧
 (Is (byts x.fst) (byts x_2.fst) ∧ x.snd.fst + (1 : Int) = x_2.snd.fst ∧ True) ∧ True) ∧
 ∀ (y_2 : Pl.TP × Int),
 Pl.TmB (Pl.CB x_2.snd.snd.snd.snd.toNat) y_2.fst ∧ x_2.snd.fst ≤ y_2.snd ∧ y_2.snd ≤ x_2.snd.fst + (↑(Pl.CB x_2.snd.snd.snd.snd.toNat) : Int) →
 Exists fun (x : List Int × Int × List Int) =>
 (Rd (1099511627776 : Int) x.fst x.snd.fst ∧ x.snd.snd ≠ [] ∧ Sz x.snd.snd) ∧
 (((0 : Nat) = (0 : Nat) ∧
 Is (AV.lit (3 : Nat) (1 : Nat) (rowsCell [[i64 (1 : Int)], [i64 (1 : Int)], [i64 (2 : Int)]])) (ints x.snd.snd) ∧ True) ∧
 (Is (byts x_2.fst) (byts x.fst) ∧ y_2.snd = x.snd.fst ∧ True) ∧ True) ∧
 ∀ (y_3 : Int),
 y_3 ∈ x.snd.snd →
 Exists fun (x_3 : AX) =>
 (Rd (137438953472 : Int) x_3.fst x_3.snd.fst ∧
 x_3.snd.fst + (↑(Pl.CB x_3.snd.snd.snd.snd.toNat) : Int) ≤ (137438953472 : Int) ∧
 Pl.SgB (5 : Nat) (2 : Nat) x_3.snd.snd.fst ∧ x_3.snd.snd.snd.snd ≤ (4 : Int)) ∧
 (((0 : Nat) = (0 : Nat) ∧
 (Is (syms s) (syms x_3.snd.snd.fst) ∧ True) ∧ y = x_3.snd.snd.snd.fst ∧ y_3 = x_3.snd.snd.snd.snd ∧ True) ∧
 (Is (byts x.fst) (byts x_3.fst) ∧ x.snd.fst + (1 : Int) = x_3.snd.fst ∧ True) ∧ True) ∧
 ∀ (y : Pl.TP × Int),
 Pl.TmB (Pl.CB x_3.snd.snd.snd.snd.toNat) y.fst ∧
 x_3.snd.fst ≤ y.snd ∧ y.snd ≤ x_3.snd.fst + (↑(Pl.CB x_3.snd.snd.snd.snd.toNat) : Int) →
 Exists fun (y_4 : Pl.Atm × Int) =>
 (Pl.AtB (3 : Nat) y_4.fst ∧ p ≤ y_4.snd ∧ y_4.snd ≤ p + (500 : Int)) ∧
 (0 : Nat) + y_2.fst.snd.length ≤ y_2.fst.snd.length ∧
 (0 : Nat) + y.fst.snd.length ≤ y.fst.snd.length ∧
 (((1 : Int) = y_4.fst.fst ∧
 y_2.fst.fst = y_4.fst.snd.fst.fst ∧
 Is (terms y_2.fst.snd) (terms y_4.fst.snd.fst.snd) ∧
 y.fst.fst = y_4.fst.snd.snd.fst.fst ∧
 Is (terms y.fst.snd) (terms y_4.fst.snd.snd.fst.snd) ∧
 ((0 : Nat) = (0 : Nat) ∧ (0 : Nat) = (0 : Nat) ∧ y_4.fst.snd.snd.snd.fst.length = (0 : Nat)) ∧
 ((0 : Nat) = (0 : Nat) ∧ (0 : Nat) = (0 : Nat) ∧ y_4.fst.snd.snd.snd.snd.fst.length = (0 : Nat)) ∧
 (0 : Int) = y_4.fst.snd.snd.snd.snd.snd.fst ∧ Bool.false = y_4.fst.snd.snd.snd.snd.snd.snd ∧ True) ∧
 True) ∧
 (Is (byts x_3.fst) (byts b) ∧ y.snd = y_4.snd ∧ True) ∧
 y_4.fst.snd.snd.snd.fst.length = (0 : Nat) ∧ y_4.fst.snd.snd.snd.snd.fst.length = (0 : Nat) ∧ True)
 (Exists fun (x_1 : List Int × Int × List Int) =>
 (Rd (1099511627776 : Int) x_1.fst x_1.snd.fst ∧ x_1.snd.snd ≠ [] ∧ Sz x_1.snd.snd) ∧
 (((0 : Nat) = (0 : Nat) ∧
 Is (AV.lit (6 : Nat) (1 : Nat) (rowsCell [[i64 (0 : Int)], [i64 (1 : Int)], [i64 (-1 : Int)], [i64 (2 : Int)], [i64 (3 : Int)], [i64 (-4 : Int)]]))
 (ints x_1.snd.snd) ∧
 True) ∧
 (Is (byts x.fst) (byts x_1.fst) ∧ x.snd.fst + (1 : Int) = x_1.snd.fst ∧ True) ∧ True) ∧
 ∀ (y : Int),
 y ∈ x_1.snd.snd →
 Exists fun (x : List Int × Int × Int) =>
 Rd (1099511627776 : Int) x.fst x.snd.fst ∧
 (((0 : Nat) = (0 : Nat) ∧ (3 : Int) = x.snd.snd ∧ True) ∧ (Is (byts x_1.fst) (byts x.fst) ∧ x_1.snd.fst + (1 : Int) = x.snd.fst ∧ True) ∧ True) ∧
 ∀ (y_1 : Int),
 ((1 : Int) ≤ x.snd.snd → (0 : Int) ≤ y_1 ∧ y_1 < x.snd.snd) ∧ (x.snd.snd < (1 : Int) → y_1 = (0 : Int)) →
 Exists fun (x_2 : List Int × Int × List Int) =>
 (Rd (1099511627776 : Int) x_2.fst x_2.snd.fst ∧ x_2.snd.snd ≠ [] ∧ Sz x_2.snd.snd) ∧
 (((0 : Nat) = (0 : Nat) ∧
 Is (AV.lit (4 : Nat) (1 : Nat) (rowsCell [[i64 (1 : Int)], [i64 (2 : Int)], [i64 (2 : Int)], [i64 (3 : Int)]])) (ints x_2.snd.snd) ∧
 True) ∧
 (Is (byts x.fst) (byts x_2.fst) ∧ x.snd.fst + (1 : Int) = x_2.snd.fst ∧ True) ∧ True) ∧
 ∀ (y_2 : Int),
 y_2 ∈ x_2.snd.snd →
 (Exists fun (x : Int × List Pl.Tm × List Int × Int × Bool × Int) =>
 ((0 : Int) ≤ x.fst ∧
 x.fst ≤ (3 : Int) ∧
 (↑x.snd.fst.length : Int) + x.fst ≤ (3 : Int) ∧
 x.snd.snd.fst.length = x.snd.fst.length ∧
 (∀ (t : Pl.Tm), t ∈ x.snd.fst → Pl.costT t ≤ (400 : Nat)) ∧
 p ≤ x.snd.snd.snd.snd.snd ∧ x.snd.snd.snd.snd.snd + (100 : Int) * x.fst ≤ p + (310 : Int)) ∧
 ((0 : Nat) = (0 : Nat) ∧ (0 : Nat) = (0 : Nat) ∧ (0 : Nat) = (0 : Nat) ∧ (0 : Nat) = (0 : Nat) ∧ y_2 = x.fst ∧ True) ∧
 (Is (byts x_2.fst) (byts b) ∧ x_2.snd.fst + (1 : Int) = x.snd.snd.snd.snd.snd ∧ True) ∧
 (Is (syms s) (syms s) ∧ True) ∧
 ((0 : Int) = (0 : Int) ∧
 ByteArray.mk #[] = ByteArray.empty ∧
 Is (AV.lit (0 : Nat) (1 : Nat) fun (x x_3 : Nat) => AV.any) nilA ∧
 ByteArray.mk #[] = ByteArray.empty ∧
 Is (AV.lit (0 : Nat) (1 : Nat) fun (x x_3 : Nat) => AV.any) nilA ∧
 Is (AV.lit (0 : Nat) (1 : Nat) fun (x x_3 : Nat) => AV.any) nilA ∧
 Is (AV.lit (0 : Nat) (1 : Nat) fun (x x_3 : Nat) => AV.any) nilA ∧
 (0 : Int) = (0 : Int) ∧ Bool.false = Bool.false ∧ True) ∧
 ((2 : Int) = (2 : Int) ∧
 ByteArray.mk #[] = ByteArray.empty ∧
 Is (AV.lit (0 : Nat) (1 : Nat) fun (x x_3 : Nat) => AV.any) (terms []) ∧
 ByteArray.mk #[] = ByteArray.empty ∧
 Is (AV.lit (0 : Nat) (1 : Nat) fun (x x_3 : Nat) => AV.any) (terms []) ∧
 ((0 : Nat) = (0 : Nat) ∧ (0 : Nat) = (0 : Nat) ∧ x.snd.fst.length = (0 : Nat)) ∧
 ((0 : Nat) = (0 : Nat) ∧ (0 : Nat) = (0 : Nat) ∧ x.snd.snd.fst.length = (0 : Nat)) ∧
 y = x.snd.snd.snd.fst ∧ (y_1 == (0 : Int)) = x.snd.snd.snd.snd.fst ∧ True) ∧
 x.snd.fst.length = (0 : Nat) ∧ x.snd.snd.fst.length = (0 : Nat) ∧ True) ∧
 ∀ (x : Int × List Pl.Tm × List Int × Int × Bool × Int),
 (0 : Int) ≤ x.fst ∧
 x.fst ≤ (3 : Int) ∧
 (↑x.snd.fst.length : Int) + x.fst ≤ (3 : Int) ∧
 x.snd.snd.fst.length = x.snd.fst.length ∧
 (∀ (t : Pl.Tm), t ∈ x.snd.fst → Pl.costT t ≤ (400 : Nat)) ∧
 p ≤ x.snd.snd.snd.snd.snd ∧ x.snd.snd.snd.snd.snd + (100 : Int) * x.fst ≤ p + (310 : Int) →
 condP (Decidable.decide (x.fst > (0 : Int)))
 (((Exists fun (x_3 : List Int × Int × List Int) =>
 (Rd (1099511627776 : Int) x_3.fst x_3.snd.fst ∧ x_3.snd.snd ≠ [] ∧ Sz x_3.snd.snd) ∧
 (((0 : Nat) = (0 : Nat) ∧
 Is (AV.lit (3 : Nat) (1 : Nat) (rowsCell [[i64 (1 : Int)], [i64 (1 : Int)], [i64 (2 : Int)]])) (ints x_3.snd.snd) ∧
 True) ∧
 (Is (byts b) (byts x_3.fst) ∧ x.snd.snd.snd.snd.snd = x_3.snd.fst ∧ True) ∧ True) ∧
 ∀ (y : Int),
 y ∈ x_3.snd.snd →
 Exists fun (x_4 : AX) =>
 (Rd (137438953472 : Int) x_4.fst x_4.snd.fst ∧
 x_4.snd.fst + (↑(Pl.CB x_4.snd.snd.snd.snd.toNat) : Int) ≤ (137438953472 : Int) ∧
 Pl.SgB (5 : Nat) (2 : Nat) x_4.snd.snd.fst ∧ x_4.snd.snd.snd.snd ≤ (4 : Int)) ∧
 (((0 : Nat) = (0 : Nat) ∧
 (Is (syms s) (syms x_4.snd.snd.fst) ∧ True) ∧ (1 : Int) = x_4.snd.snd.snd.fst ∧ y = x_4.snd.snd.snd.snd ∧ True) ∧
 (Is (byts x_3.fst) (byts x_4.fst) ∧ x_3.snd.fst + (1 : Int) = x_4.snd.fst ∧ True) ∧ True) ∧
 ∀ (y : Pl.TP × Int),
 Pl.TmB (Pl.CB x_4.snd.snd.snd.snd.toNat) y.fst ∧
 x_4.snd.fst ≤ y.snd ∧ y.snd ≤ x_4.snd.fst + (↑(Pl.CB x_4.snd.snd.snd.snd.toNat) : Int) →
 Exists fun (x_5 : List Int × Int × List Int) =>
 (Rd (1099511627776 : Int) x_5.fst x_5.snd.fst ∧ x_5.snd.snd ≠ [] ∧ Sz x_5.snd.snd) ∧
 (((0 : Nat) = (0 : Nat) ∧
 Is
 (AV.lit (6 : Nat) (1 : Nat)
 (rowsCell
 [[i64 (1 : Int)], [i64 (-1 : Int)], [i64 (1 : Int)], [i64 (-1 : Int)], [i64 (2 : Int)],
 [i64 (-2 : Int)]]))
 (ints x_5.snd.snd) ∧
 True) ∧
 (Is (byts x_4.fst) (byts x_5.fst) ∧ y.snd = x_5.snd.fst ∧ True) ∧ True) ∧
 ∀ (y_3 : Int),
 y_3 ∈ x_5.snd.snd →
 (0 : Nat) + x.snd.fst.length ≤ x.snd.fst.length ∧
 (0 : Nat) + x.snd.snd.fst.length ≤ x.snd.snd.fst.length ∧
 (0 : Nat) + y.fst.snd.length ≤ y.fst.snd.length ∧
 Exists fun (x_6 : Pl.Atm × Pl.TP × Int) =>
 (SmA x_6.fst ∧
 SmT (Pl.Tree.mk x_6.snd.fst.fst x_6.snd.fst.snd) ∧
 x_6.fst.snd.snd.snd.fst.length ≤ (100 : Nat) ∧
 x_6.fst.snd.snd.snd.snd.fst.length = x_6.fst.snd.snd.snd.fst.length) ∧
 ((((2 : Int) = x_6.fst.fst ∧
 ByteArray.empty = x_6.fst.snd.fst.fst ∧
 Is
 (AV.sl ((0 : Nat)) (2 : Nat) fun (i j : Nat) => eT (Pl.Tree.mk ByteArray.empty []) j)
 (terms x_6.fst.snd.fst.snd) ∧
 ByteArray.empty = x_6.fst.snd.snd.fst.fst ∧
 Is
 (AV.sl ((0 : Nat)) (2 : Nat) fun (i j : Nat) =>
 eT (Pl.Tree.mk ByteArray.empty []) j)
 (terms x_6.fst.snd.snd.fst.snd) ∧
 Is (terms x.snd.fst) (terms x_6.fst.snd.snd.snd.fst) ∧
 Is (ints x.snd.snd.fst) (ints x_6.fst.snd.snd.snd.snd.fst) ∧
 x.snd.snd.snd.fst = x_6.fst.snd.snd.snd.snd.snd.fst ∧
 x.snd.snd.snd.snd.fst = x_6.fst.snd.snd.snd.snd.snd.snd ∧ True) ∧
 (y.fst.fst = x_6.snd.fst.fst ∧ Is (terms y.fst.snd) (terms x_6.snd.fst.snd) ∧ True) ∧
 y_3 = x_6.snd.snd ∧ True) ∧
 True) ∧
 ∀ (y : List Pl.Tm × List Int),
 Pl.PutB x_6.fst.snd.snd.snd.fst (Pl.Tree.mk x_6.snd.fst.fst x_6.snd.fst.snd)
 (x_6.fst.snd.snd.snd.fst.length + (1 : Nat)) y.fst y.snd →
 Exists fun (x' : Int × List Pl.Tm × List Int × Int × Bool × Int) =>
 ((0 : Int) ≤ x'.fst ∧
 x'.fst ≤ (3 : Int) ∧
 (↑x'.snd.fst.length : Int) + x'.fst ≤ (3 : Int) ∧
 x'.snd.snd.fst.length = x'.snd.fst.length ∧
 (∀ (t : Pl.Tm), t ∈ x'.snd.fst → Pl.costT t ≤ (400 : Nat)) ∧
 p ≤ x'.snd.snd.snd.snd.snd ∧
 x'.snd.snd.snd.snd.snd + (100 : Int) * x'.fst ≤ p + (310 : Int)) ∧
 x'.fst.toNat < x.fst.toNat ∧
 ((0 : Nat) = (0 : Nat) ∧
 (0 : Nat) = (0 : Nat) ∧
 (0 : Nat) = (0 : Nat) ∧
 (0 : Nat) = (0 : Nat) ∧ IntKind.i64.wrap (x.fst - (1 : Int)) = x'.fst ∧ True) ∧
 (Is (byts x_5.fst) (byts b) ∧
 x_5.snd.fst + (1 : Int) = x'.snd.snd.snd.snd.snd ∧ True) ∧
 (Is (syms s) (syms s) ∧ True) ∧
 ((0 : Int) = (0 : Int) ∧
 ByteArray.empty = ByteArray.empty ∧
 Is (AV.lit (0 : Nat) (1 : Nat) fun (x x_7 : Nat) => AV.any) nilA ∧
 ByteArray.empty = ByteArray.empty ∧
 Is (AV.lit (0 : Nat) (1 : Nat) fun (x x_7 : Nat) => AV.any) nilA ∧
 Is (AV.lit (0 : Nat) (1 : Nat) fun (x x_7 : Nat) => AV.any)
 nilA ∧
 Is (AV.lit (0 : Nat) (1 : Nat) fun (x x_7 : Nat) => AV.any)
 nilA ∧
 (0 : Int) = (0 : Int) ∧ Bool.false = Bool.false ∧ True) ∧
 ((x_6.fst.fst, Pl.noTP, Pl.noTP, y.fst, y.snd, x_6.fst.snd.snd.snd.snd.snd.fst,
 x_6.fst.snd.snd.snd.snd.snd.snd).fst =
 (2 : Int) ∧
 ByteArray.mk #[] = ByteArray.empty ∧
 Is
 (AV.sl ((0 : Nat)) (2 : Nat) fun (i j : Nat) =>
 eT (Pl.Tree.mk ByteArray.empty []) j)
 (terms []) ∧
 ByteArray.mk #[] = ByteArray.empty ∧
 Is
 (AV.sl ((0 : Nat)) (2 : Nat) fun (i j : Nat) =>
 eT (Pl.Tree.mk ByteArray.empty []) j)
 (terms []) ∧
 ((0 : Nat) = (0 : Nat) ∧
 (y.fst, y.snd, x_6.fst.snd.snd.snd.snd.snd.fst,
 x_6.fst.snd.snd.snd.snd.snd.snd).fst.length =
 x'.snd.fst.length) ∧
 ((0 : Nat) = (0 : Nat) ∧
 (y.snd, x_6.fst.snd.snd.snd.snd.snd.fst,
 x_6.fst.snd.snd.snd.snd.snd.snd).fst.length =
 x'.snd.snd.fst.length) ∧
 (x_6.fst.snd.snd.snd.snd.snd.fst,
 x_6.fst.snd.snd.snd.snd.snd.snd).fst =
 x'.snd.snd.snd.fst ∧
 (x_6.fst.snd.snd.snd.snd.snd.fst,
 x_6.fst.snd.snd.snd.snd.snd.snd).snd =
 x'.snd.snd.snd.snd.fst ∧
 True) ∧
 IsO (arT y.fst) (arT x'.snd.fst) ∧
 IsO (arI y.snd) (arI x'.snd.snd.fst) ∧ True) ∧
 Exists fun (x_3 : List Int × Int × List Int) =>
 (Rd (1099511627776 : Int) x_3.fst x_3.snd.fst ∧ x_3.snd.snd ≠ [] ∧ Sz x_3.snd.snd) ∧
 (((0 : Nat) = (0 : Nat) ∧
 Is (AV.lit (3 : Nat) (1 : Nat) (rowsCell [[i64 (1 : Int)], [i64 (1 : Int)], [i64 (2 : Int)]])) (ints x_3.snd.snd) ∧
 True) ∧
 (Is (byts b) (byts x_3.fst) ∧ x.snd.snd.snd.snd.snd = x_3.snd.fst ∧ True) ∧ True) ∧
 ∀ (y : Int),
 y ∈ x_3.snd.snd →
 Exists fun (x_4 : AX) =>
 (Rd (137438953472 : Int) x_4.fst x_4.snd.fst ∧
 x_4.snd.fst + (↑(Pl.CB x_4.snd.snd.snd.snd.toNat) : Int) ≤ (137438953472 : Int) ∧
 Pl.SgB (5 : Nat) (2 : Nat) x_4.snd.snd.fst ∧ x_4.snd.snd.snd.snd ≤ (4 : Int)) ∧
 (((0 : Nat) = (0 : Nat) ∧
 (Is (syms s) (syms x_4.snd.snd.fst) ∧ True) ∧ (1 : Int) = x_4.snd.snd.snd.fst ∧ y = x_4.snd.snd.snd.snd ∧ True) ∧
 (Is (byts x_3.fst) (byts x_4.fst) ∧ x_3.snd.fst + (1 : Int) = x_4.snd.fst ∧ True) ∧ True) ∧
 ∀ (y : Pl.TP × Int),
 Pl.TmB (Pl.CB x_4.snd.snd.snd.snd.toNat) y.fst ∧
 x_4.snd.fst ≤ y.snd ∧ y.snd ≤ x_4.snd.fst + (↑(Pl.CB x_4.snd.snd.snd.snd.toNat) : Int) →
 Exists fun (x_5 : List Int × Int × List Int) =>
 (Rd (1099511627776 : Int) x_5.fst x_5.snd.fst ∧ x_5.snd.snd ≠ [] ∧ Sz x_5.snd.snd) ∧
 (((0 : Nat) = (0 : Nat) ∧
 Is
 (AV.lit (6 : Nat) (1 : Nat)
 (rowsCell
 [[i64 (1 : Int)], [i64 (-1 : Int)], [i64 (1 : Int)], [i64 (-1 : Int)], [i64 (2 : Int)],
 [i64 (-2 : Int)]]))
 (ints x_5.snd.snd) ∧
 True) ∧
 (Is (byts x_4.fst) (byts x_5.fst) ∧ y.snd = x_5.snd.fst ∧ True) ∧ True) ∧
 ∀ (y_3 : Int),
 y_3 ∈ x_5.snd.snd →
 (0 : Nat) + x.snd.fst.length ≤ x.snd.fst.length ∧
 (0 : Nat) + x.snd.snd.fst.length ≤ x.snd.snd.fst.length ∧
 (0 : Nat) + y.fst.snd.length ≤ y.fst.snd.length ∧
 Exists fun (x_6 : Pl.Atm × Pl.TP × Int) =>
 (SmA x_6.fst ∧
 SmT (Pl.Tree.mk x_6.snd.fst.fst x_6.snd.fst.snd) ∧
 x_6.fst.snd.snd.snd.fst.length ≤ (100 : Nat) ∧
 x_6.fst.snd.snd.snd.snd.fst.length = x_6.fst.snd.snd.snd.fst.length) ∧
 ((((2 : Int) = x_6.fst.fst ∧
 ByteArray.empty = x_6.fst.snd.fst.fst ∧
 Is
 (AV.sl ((0 : Nat)) (2 : Nat) fun (i j : Nat) => eT (Pl.Tree.mk ByteArray.empty []) j)
 (terms x_6.fst.snd.fst.snd) ∧
 ByteArray.empty = x_6.fst.snd.snd.fst.fst ∧
 Is
 (AV.sl ((0 : Nat)) (2 : Nat) fun (i j : Nat) =>
 eT (Pl.Tree.mk ByteArray.empty []) j)
 (terms x_6.fst.snd.snd.fst.snd) ∧
 Is (terms x.snd.fst) (terms x_6.fst.snd.snd.snd.fst) ∧
 Is (ints x.snd.snd.fst) (ints x_6.fst.snd.snd.snd.snd.fst) ∧
 x.snd.snd.snd.fst = x_6.fst.snd.snd.snd.snd.snd.fst ∧
 x.snd.snd.snd.snd.fst = x_6.fst.snd.snd.snd.snd.snd.snd ∧ True) ∧
 (y.fst.fst = x_6.snd.fst.fst ∧ Is (terms y.fst.snd) (terms x_6.snd.fst.snd) ∧ True) ∧
 y_3 = x_6.snd.snd ∧ True) ∧
 True) ∧
 ∀ (y : List Pl.Tm × List Int),
 Pl.PutB x_6.fst.snd.snd.snd.fst (Pl.Tree.mk x_6.snd.fst.fst x_6.snd.fst.snd)
 (x_6.fst.snd.snd.snd.fst.length + (1 : Nat)) y.fst y.snd →
 Exists fun (x' : Int × List Pl.Tm × List Int × Int × Bool × Int) =>
 ((0 : Int) ≤ x'.fst ∧
 x'.fst ≤ (3 : Int) ∧
 (↑x'.snd.fst.length : Int) + x'.fst ≤ (3 : Int) ∧
 x'.snd.snd.fst.length = x'.snd.fst.length ∧
 (∀ (t : Pl.Tm), t ∈ x'.snd.fst → Pl.costT t ≤ (400 : Nat)) ∧
 p ≤ x'.snd.snd.snd.snd.snd ∧
 x'.snd.snd.snd.snd.snd + (100 : Int) * x'.fst ≤ p + (310 : Int)) ∧
 x'.fst.toNat < x.fst.toNat ∧
 ((0 : Nat) = (0 : Nat) ∧
 (0 : Nat) = (0 : Nat) ∧
 (0 : Nat) = (0 : Nat) ∧
 (0 : Nat) = (0 : Nat) ∧ IntKind.i64.wrap (x.fst - (1 : Int)) = x'.fst ∧ True) ∧
 (Is (byts x_5.fst) (byts b) ∧
 x_5.snd.fst + (1 : Int) = x'.snd.snd.snd.snd.snd ∧ True) ∧
 (Is (syms s) (syms s) ∧ True) ∧
 ((0 : Int) = (0 : Int) ∧
 ByteArray.empty = ByteArray.empty ∧
 Is (AV.lit (0 : Nat) (1 : Nat) fun (x x_7 : Nat) => AV.any) nilA ∧
 ByteArray.empty = ByteArray.empty ∧
 Is (AV.lit (0 : Nat) (1 : Nat) fun (x x_7 : Nat) => AV.any) nilA ∧
 Is (AV.lit (0 : Nat) (1 : Nat) fun (x x_7 : Nat) => AV.any)
 nilA ∧
 Is (AV.lit (0 : Nat) (1 : Nat) fun (x x_7 : Nat) => AV.any)
 nilA ∧
 (0 : Int) = (0 : Int) ∧ Bool.false = Bool.false ∧ True) ∧
 ((x_6.fst.fst, Pl.noTP, Pl.noTP, y.fst, y.snd, x_6.fst.snd.snd.snd.snd.snd.fst,
 x_6.fst.snd.snd.snd.snd.snd.snd).fst =
 (2 : Int) ∧
 ByteArray.mk #[] = ByteArray.empty ∧
 Is
 (AV.sl ((0 : Nat)) (2 : Nat) fun (i j : Nat) =>
 eT (Pl.Tree.mk ByteArray.empty []) j)
 (terms []) ∧
 ByteArray.mk #[] = ByteArray.empty ∧
 Is
 (AV.sl ((0 : Nat)) (2 : Nat) fun (i j : Nat) =>
 eT (Pl.Tree.mk ByteArray.empty []) j)
 (terms []) ∧
 ((0 : Nat) = (0 : Nat) ∧
 (y.fst, y.snd, x_6.fst.snd.snd.snd.snd.snd.fst,
 x_6.fst.snd.snd.snd.snd.snd.snd).fst.length =
 x'.snd.fst.length) ∧
 ((0 : Nat) = (0 : Nat) ∧
 (y.snd, x_6.fst.snd.snd.snd.snd.snd.fst,
 x_6.fst.snd.snd.snd.snd.snd.snd).fst.length =
 x'.snd.snd.fst.length) ∧
 (x_6.fst.snd.snd.snd.snd.snd.fst,
 x_6.fst.snd.snd.snd.snd.snd.snd).fst =
 x'.snd.snd.snd.fst ∧
 (x_6.fst.snd.snd.snd.snd.snd.fst,
 x_6.fst.snd.snd.snd.snd.snd.snd).snd =
 x'.snd.snd.snd.snd.fst ∧
 True) ∧
 IsO (arT y.fst) (arT x'.snd.fst) ∧
 IsO (arI y.snd) (arI x'.snd.snd.fst) ∧ True) ∧
 ((Exists fun (x_3 : List Int × Int × List Int) =>
 (Rd (1099511627776 : Int) x_3.fst x_3.snd.fst ∧ x_3.snd.snd ≠ [] ∧ Sz x_3.snd.snd) ∧
 (((0 : Nat) = (0 : Nat) ∧
 Is (AV.lit (3 : Nat) (1 : Nat) (rowsCell [[i64 (1 : Int)], [i64 (1 : Int)], [i64 (2 : Int)]]))
 (ints x_3.snd.snd) ∧
 True) ∧
 (Is (byts b) (byts x_3.fst) ∧ x.snd.snd.snd.snd.snd = x_3.snd.fst ∧ True) ∧ True) ∧
 ∀ (y : Int),
 y ∈ x_3.snd.snd →
 Exists fun (x_4 : AX) =>
 (Rd (137438953472 : Int) x_4.fst x_4.snd.fst ∧
 x_4.snd.fst + (↑(Pl.CB x_4.snd.snd.snd.snd.toNat) : Int) ≤ (137438953472 : Int) ∧
 Pl.SgB (5 : Nat) (2 : Nat) x_4.snd.snd.fst ∧ x_4.snd.snd.snd.snd ≤ (4 : Int)) ∧
 (((0 : Nat) = (0 : Nat) ∧
 (Is (syms s) (syms x_4.snd.snd.fst) ∧ True) ∧ (1 : Int) = x_4.snd.snd.snd.fst ∧ y = x_4.snd.snd.snd.snd ∧ True) ∧
 (Is (byts x_3.fst) (byts x_4.fst) ∧ x_3.snd.fst + (1 : Int) = x_4.snd.fst ∧ True) ∧ True) ∧
 ∀ (y : Pl.TP × Int),
 Pl.TmB (Pl.CB x_4.snd.snd.snd.snd.toNat) y.fst ∧
 x_4.snd.fst ≤ y.snd ∧ y.snd ≤ x_4.snd.fst + (↑(Pl.CB x_4.snd.snd.snd.snd.toNat) : Int) →
 Exists fun (x_5 : List Int × Int × List Int) =>
 (Rd (1099511627776 : Int) x_5.fst x_5.snd.fst ∧ x_5.snd.snd ≠ [] ∧ Sz x_5.snd.snd) ∧
 (((0 : Nat) = (0 : Nat) ∧
 Is
 (AV.lit (6 : Nat) (1 : Nat)
 (rowsCell
 [[i64 (1 : Int)], [i64 (-1 : Int)], [i64 (1 : Int)], [i64 (-1 : Int)], [i64 (2 : Int)],
 [i64 (-2 : Int)]]))
 (ints x_5.snd.snd) ∧
 True) ∧
 (Is (byts x_4.fst) (byts x_5.fst) ∧ y.snd = x_5.snd.fst ∧ True) ∧ True) ∧
 ∀ (y_3 : Int),
 y_3 ∈ x_5.snd.snd →
 (0 : Nat) + x.snd.fst.length ≤ x.snd.fst.length ∧
 (0 : Nat) + x.snd.snd.fst.length ≤ x.snd.snd.fst.length ∧
 (0 : Nat) + y.fst.snd.length ≤ y.fst.snd.length ∧
 Exists fun (x_6 : Pl.Atm × Pl.TP × Int) =>
 (SmA x_6.fst ∧
 SmT (Pl.Tree.mk x_6.snd.fst.fst x_6.snd.fst.snd) ∧
 x_6.fst.snd.snd.snd.fst.length ≤ (100 : Nat) ∧
 x_6.fst.snd.snd.snd.snd.fst.length = x_6.fst.snd.snd.snd.fst.length) ∧
 ((((2 : Int) = x_6.fst.fst ∧
 ByteArray.empty = x_6.fst.snd.fst.fst ∧
 Is
 (AV.sl ((0 : Nat)) (2 : Nat) fun (i j : Nat) =>
 eT (Pl.Tree.mk ByteArray.empty []) j)
 (terms x_6.fst.snd.fst.snd) ∧
 ByteArray.empty = x_6.fst.snd.snd.fst.fst ∧
 Is
 (AV.sl ((0 : Nat)) (2 : Nat) fun (i j : Nat) =>
 eT (Pl.Tree.mk ByteArray.empty []) j)
 (terms x_6.fst.snd.snd.fst.snd) ∧
 Is (terms x.snd.fst) (terms x_6.fst.snd.snd.snd.fst) ∧
 Is (ints x.snd.snd.fst) (ints x_6.fst.snd.snd.snd.snd.fst) ∧
 x.snd.snd.snd.fst = x_6.fst.snd.snd.snd.snd.snd.fst ∧
 x.snd.snd.snd.snd.fst = x_6.fst.snd.snd.snd.snd.snd.snd ∧ True) ∧
 (y.fst.fst = x_6.snd.fst.fst ∧ Is (terms y.fst.snd) (terms x_6.snd.fst.snd) ∧ True) ∧
 y_3 = x_6.snd.snd ∧ True) ∧
 True) ∧
 ∀ (y : List Pl.Tm × List Int),
 Pl.PutB x_6.fst.snd.snd.snd.fst (Pl.Tree.mk x_6.snd.fst.fst x_6.snd.fst.snd)
 (x_6.fst.snd.snd.snd.fst.length + (1 : Nat)) y.fst y.snd →
 Exists fun (x' : Int × List Pl.Tm × List Int × Int × Bool × Int) =>
 ((0 : Int) ≤ x'.fst ∧
 x'.fst ≤ (3 : Int) ∧
 (↑x'.snd.fst.length : Int) + x'.fst ≤ (3 : Int) ∧
 x'.snd.snd.fst.length = x'.snd.fst.length ∧
 (∀ (t : Pl.Tm), t ∈ x'.snd.fst → Pl.costT t ≤ (400 : Nat)) ∧
 p ≤ x'.snd.snd.snd.snd.snd ∧
 x'.snd.snd.snd.snd.snd + (100 : Int) * x'.fst ≤ p + (310 : Int)) ∧
 x'.fst.toNat < x.fst.toNat ∧
 ((0 : Nat) = (0 : Nat) ∧
 (0 : Nat) = (0 : Nat) ∧
 (0 : Nat) = (0 : Nat) ∧
 (0 : Nat) = (0 : Nat) ∧ IntKind.i64.wrap (x.fst - (1 : Int)) = x'.fst ∧ True) ∧
 (Is (byts x_5.fst) (byts b) ∧
 x_5.snd.fst + (1 : Int) = x'.snd.snd.snd.snd.snd ∧ True) ∧
 (Is (syms s) (syms s) ∧ True) ∧
 ((0 : Int) = (0 : Int) ∧
 ByteArray.empty = ByteArray.empty ∧
 Is (AV.lit (0 : Nat) (1 : Nat) fun (x x_7 : Nat) => AV.any) nilA ∧
 ByteArray.empty = ByteArray.empty ∧
 Is (AV.lit (0 : Nat) (1 : Nat) fun (x x_7 : Nat) => AV.any)
 nilA ∧
 Is (AV.lit (0 : Nat) (1 : Nat) fun (x x_7 : Nat) => AV.any)
 nilA ∧
 Is (AV.lit (0 : Nat) (1 : Nat) fun (x x_7 : Nat) => AV.any)
 nilA ∧
 (0 : Int) = (0 : Int) ∧ Bool.false = Bool.false ∧ True) ∧
 ((x_6.fst.fst, Pl.noTP, Pl.noTP, y.fst, y.snd, x_6.fst.snd.snd.snd.snd.snd.fst,
 x_6.fst.snd.snd.snd.snd.snd.snd).fst =
 (2 : Int) ∧
 ByteArray.mk #[] = ByteArray.empty ∧
 Is
 (AV.sl ((0 : Nat)) (2 : Nat) fun (i j : Nat) =>
 eT (Pl.Tree.mk ByteArray.empty []) j)
 (terms []) ∧
 ByteArray.mk #[] = ByteArray.empty ∧
 Is
 (AV.sl ((0 : Nat)) (2 : Nat) fun (i j : Nat) =>
 eT (Pl.Tree.mk ByteArray.empty []) j)
 (terms []) ∧
 ((0 : Nat) = (0 : Nat) ∧
 (y.fst, y.snd, x_6.fst.snd.snd.snd.snd.snd.fst,
 x_6.fst.snd.snd.snd.snd.snd.snd).fst.length =
 x'.snd.fst.length) ∧
 ((0 : Nat) = (0 : Nat) ∧
 (y.snd, x_6.fst.snd.snd.snd.snd.snd.fst,
 x_6.fst.snd.snd.snd.snd.snd.snd).fst.length =
 x'.snd.snd.fst.length) ∧
 (x_6.fst.snd.snd.snd.snd.snd.fst,
 x_6.fst.snd.snd.snd.snd.snd.snd).fst =
 x'.snd.snd.snd.fst ∧
 (x_6.fst.snd.snd.snd.snd.snd.fst,
 x_6.fst.snd.snd.snd.snd.snd.snd).snd =
 x'.snd.snd.snd.snd.fst ∧
 True) ∧
 IsO (arT y.fst) (arT x'.snd.fst) ∧
 IsO (arI y.snd) (arI x'.snd.snd.fst) ∧ True) ∧
 Exists fun (x_3 : List Int × Int × List Int) =>
 (Rd (1099511627776 : Int) x_3.fst x_3.snd.fst ∧ x_3.snd.snd ≠ [] ∧ Sz x_3.snd.snd) ∧
 (((0 : Nat) = (0 : Nat) ∧
 Is (AV.lit (3 : Nat) (1 : Nat) (rowsCell [[i64 (1 : Int)], [i64 (1 : Int)], [i64 (2 : Int)]]))
 (ints x_3.snd.snd) ∧
 True) ∧
 (Is (byts b) (byts x_3.fst) ∧ x.snd.snd.snd.snd.snd = x_3.snd.fst ∧ True) ∧ True) ∧
 ∀ (y : Int),
 y ∈ x_3.snd.snd →
 (Exists fun (x_4 : AX) =>
 (Rd (137438953472 : Int) x_4.fst x_4.snd.fst ∧
 x_4.snd.fst + (↑(Pl.CB x_4.snd.snd.snd.snd.toNat) : Int) ≤ (137438953472 : Int) ∧
 Pl.SgB (5 : Nat) (2 : Nat) x_4.snd.snd.fst ∧ x_4.snd.snd.snd.snd ≤ (4 : Int)) ∧
 (((0 : Nat) = (0 : Nat) ∧
 (Is (syms s) (syms x_4.snd.snd.fst) ∧ True) ∧ (1 : Int) = x_4.snd.snd.snd.fst ∧ y = x_4.snd.snd.snd.snd ∧ True) ∧
 (Is (byts x_3.fst) (byts x_4.fst) ∧ x_3.snd.fst + (1 : Int) = x_4.snd.fst ∧ True) ∧ True) ∧
 ∀ (y : Pl.TP × Int),
 Pl.TmB (Pl.CB x_4.snd.snd.snd.snd.toNat) y.fst ∧
 x_4.snd.fst ≤ y.snd ∧ y.snd ≤ x_4.snd.fst + (↑(Pl.CB x_4.snd.snd.snd.snd.toNat) : Int) →
 Exists fun (x_5 : List Int × Int × List Int) =>
 (Rd (1099511627776 : Int) x_5.fst x_5.snd.fst ∧ x_5.snd.snd ≠ [] ∧ Sz x_5.snd.snd) ∧
 (((0 : Nat) = (0 : Nat) ∧
 Is
 (AV.lit (6 : Nat) (1 : Nat)
 (rowsCell
 [[i64 (1 : Int)], [i64 (-1 : Int)], [i64 (1 : Int)], [i64 (-1 : Int)], [i64 (2 : Int)],
 [i64 (-2 : Int)]]))
 (ints x_5.snd.snd) ∧
 True) ∧
 (Is (byts x_4.fst) (byts x_5.fst) ∧ y.snd = x_5.snd.fst ∧ True) ∧ True) ∧
 ∀ (y_3 : Int),
 y_3 ∈ x_5.snd.snd →
 (0 : Nat) + x.snd.fst.length ≤ x.snd.fst.length ∧
 (0 : Nat) + x.snd.snd.fst.length ≤ x.snd.snd.fst.length ∧
 (0 : Nat) + y.fst.snd.length ≤ y.fst.snd.length ∧
 Exists fun (x_6 : Pl.Atm × Pl.TP × Int) =>
 (SmA x_6.fst ∧
 SmT (Pl.Tree.mk x_6.snd.fst.fst x_6.snd.fst.snd) ∧
 x_6.fst.snd.snd.snd.fst.length ≤ (100 : Nat) ∧
 x_6.fst.snd.snd.snd.snd.fst.length = x_6.fst.snd.snd.snd.fst.length) ∧
 ((((2 : Int) = x_6.fst.fst ∧
 ByteArray.empty = x_6.fst.snd.fst.fst ∧
 Is
 (AV.sl ((0 : Nat)) (2 : Nat) fun (i j : Nat) =>
 eT (Pl.Tree.mk ByteArray.empty []) j)
 (terms x_6.fst.snd.fst.snd) ∧
 ByteArray.empty = x_6.fst.snd.snd.fst.fst ∧
 Is
 (AV.sl ((0 : Nat)) (2 : Nat) fun (i j : Nat) =>
 eT (Pl.Tree.mk ByteArray.empty []) j)
 (terms x_6.fst.snd.snd.fst.snd) ∧
 Is (terms x.snd.fst) (terms x_6.fst.snd.snd.snd.fst) ∧
 Is (ints x.snd.snd.fst) (ints x_6.fst.snd.snd.snd.snd.fst) ∧
 x.snd.snd.snd.fst = x_6.fst.snd.snd.snd.snd.snd.fst ∧
 x.snd.snd.snd.snd.fst = x_6.fst.snd.snd.snd.snd.snd.snd ∧ True) ∧
 (y.fst.fst = x_6.snd.fst.fst ∧ Is (terms y.fst.snd) (terms x_6.snd.fst.snd) ∧ True) ∧
 y_3 = x_6.snd.snd ∧ True) ∧
 True) ∧
 ∀ (y : List Pl.Tm × List Int),
 Pl.PutB x_6.fst.snd.snd.snd.fst (Pl.Tree.mk x_6.snd.fst.fst x_6.snd.fst.snd)
 (x_6.fst.snd.snd.snd.fst.length + (1 : Nat)) y.fst y.snd →
 Exists fun (x' : Int × List Pl.Tm × List Int × Int × Bool × Int) =>
 ((0 : Int) ≤ x'.fst ∧
 x'.fst ≤ (3 : Int) ∧
 (↑x'.snd.fst.length : Int) + x'.fst ≤ (3 : Int) ∧
 x'.snd.snd.fst.length = x'.snd.fst.length ∧
 (∀ (t : Pl.Tm), t ∈ x'.snd.fst → Pl.costT t ≤ (400 : Nat)) ∧
 p ≤ x'.snd.snd.snd.snd.snd ∧
 x'.snd.snd.snd.snd.snd + (100 : Int) * x'.fst ≤ p + (310 : Int)) ∧
 x'.fst.toNat < x.fst.toNat ∧
 ((0 : Nat) = (0 : Nat) ∧
 (0 : Nat) = (0 : Nat) ∧
 (0 : Nat) = (0 : Nat) ∧
 (0 : Nat) = (0 : Nat) ∧ IntKind.i64.wrap (x.fst - (1 : Int)) = x'.fst ∧ True) ∧
 (Is (byts x_5.fst) (byts b) ∧
 x_5.snd.fst + (1 : Int) = x'.snd.snd.snd.snd.snd ∧ True) ∧
 (Is (syms s) (syms s) ∧ True) ∧
 ((0 : Int) = (0 : Int) ∧
 ByteArray.empty = ByteArray.empty ∧
 Is (AV.lit (0 : Nat) (1 : Nat) fun (x x_7 : Nat) => AV.any) nilA ∧
 ByteArray.empty = ByteArray.empty ∧
 Is (AV.lit (0 : Nat) (1 : Nat) fun (x x_7 : Nat) => AV.any)
 nilA ∧
 Is (AV.lit (0 : Nat) (1 : Nat) fun (x x_7 : Nat) => AV.any)
 nilA ∧
 Is (AV.lit (0 : Nat) (1 : Nat) fun (x x_7 : Nat) => AV.any)
 nilA ∧
 (0 : Int) = (0 : Int) ∧ Bool.false = Bool.false ∧ True) ∧
 ((x_6.fst.fst, Pl.noTP, Pl.noTP, y.fst, y.snd, x_6.fst.snd.snd.snd.snd.snd.fst,
 x_6.fst.snd.snd.snd.snd.snd.snd).fst =
 (2 : Int) ∧
 ByteArray.mk #[] = ByteArray.empty ∧
 Is
 (AV.sl ((0 : Nat)) (2 : Nat) fun (i j : Nat) =>
 eT (Pl.Tree.mk ByteArray.empty []) j)
 (terms []) ∧
 ByteArray.mk #[] = ByteArray.empty ∧
 Is
 (AV.sl ((0 : Nat)) (2 : Nat) fun (i j : Nat) =>
 eT (Pl.Tree.mk ByteArray.empty []) j)
 (terms []) ∧
 ((0 : Nat) = (0 : Nat) ∧
 (y.fst, y.snd, x_6.fst.snd.snd.snd.snd.snd.fst,
 x_6.fst.snd.snd.snd.snd.snd.snd).fst.length =
 x'.snd.fst.length) ∧
 ((0 : Nat) = (0 : Nat) ∧
 (y.snd, x_6.fst.snd.snd.snd.snd.snd.fst,
 x_6.fst.snd.snd.snd.snd.snd.snd).fst.length =
 x'.snd.snd.fst.length) ∧
 (x_6.fst.snd.snd.snd.snd.snd.fst,
 x_6.fst.snd.snd.snd.snd.snd.snd).fst =
 x'.snd.snd.snd.fst ∧
 (x_6.fst.snd.snd.snd.snd.snd.fst,
 x_6.fst.snd.snd.snd.snd.snd.snd).snd =
 x'.snd.snd.snd.snd.fst ∧
 True) ∧
 IsO (arT y.fst) (arT x'.snd.fst) ∧
 IsO (arI y.snd) (arI x'.snd.snd.fst) ∧ True) ∧
 Exists fun (x_4 : AX) =>
 (Rd (137438953472 : Int) x_4.fst x_4.snd.fst ∧
 x_4.snd.fst + (↑(Pl.CB x_4.snd.snd.snd.snd.toNat) : Int) ≤ (137438953472 : Int) ∧
 Pl.SgB (5 : Nat) (2 : Nat) x_4.snd.snd.fst ∧ x_4.snd.snd.snd.snd ≤ (4 : Int)) ∧
 (((0 : Nat) = (0 : Nat) ∧
 (Is (syms s) (syms x_4.snd.snd.fst) ∧ True) ∧ (1 : Int) = x_4.snd.snd.snd.fst ∧ y = x_4.snd.snd.snd.snd ∧ True) ∧
 (Is (byts x_3.fst) (byts x_4.fst) ∧ x_3.snd.fst + (1 : Int) = x_4.snd.fst ∧ True) ∧ True) ∧
 ∀ (y : Pl.TP × Int),
 Pl.TmB (Pl.CB x_4.snd.snd.snd.snd.toNat) y.fst ∧
 x_4.snd.fst ≤ y.snd ∧ y.snd ≤ x_4.snd.fst + (↑(Pl.CB x_4.snd.snd.snd.snd.toNat) : Int) →
 (Exists fun (x_5 : List Int × Int × List Int) =>
 (Rd (1099511627776 : Int) x_5.fst x_5.snd.fst ∧ x_5.snd.snd ≠ [] ∧ Sz x_5.snd.snd) ∧
 (((0 : Nat) = (0 : Nat) ∧
 Is
 (AV.lit (6 : Nat) (1 : Nat)
 (rowsCell
 [[i64 (1 : Int)], [i64 (-1 : Int)], [i64 (1 : Int)], [i64 (-1 : Int)], [i64 (2 : Int)],
 [i64 (-2 : Int)]]))
 (ints x_5.snd.snd) ∧
 True) ∧
 (Is (byts x_4.fst) (byts x_5.fst) ∧ y.snd = x_5.snd.fst ∧ True) ∧ True) ∧
 ∀ (y_3 : Int),
 y_3 ∈ x_5.snd.snd →
 (0 : Nat) + x.snd.fst.length ≤ x.snd.fst.length ∧
 (0 : Nat) + x.snd.snd.fst.length ≤ x.snd.snd.fst.length ∧
 (0 : Nat) + y.fst.snd.length ≤ y.fst.snd.length ∧
 Exists fun (x_6 : Pl.Atm × Pl.TP × Int) =>
 (SmA x_6.fst ∧
 SmT (Pl.Tree.mk x_6.snd.fst.fst x_6.snd.fst.snd) ∧
 x_6.fst.snd.snd.snd.fst.length ≤ (100 : Nat) ∧
 x_6.fst.snd.snd.snd.snd.fst.length = x_6.fst.snd.snd.snd.fst.length) ∧
 ((((2 : Int) = x_6.fst.fst ∧
 ByteArray.empty = x_6.fst.snd.fst.fst ∧
 Is
 (AV.sl ((0 : Nat)) (2 : Nat) fun (i j : Nat) =>
 eT (Pl.Tree.mk ByteArray.empty []) j)
 (terms x_6.fst.snd.fst.snd) ∧
 ByteArray.empty = x_6.fst.snd.snd.fst.fst ∧
 Is
 (AV.sl ((0 : Nat)) (2 : Nat) fun (i j : Nat) =>
 eT (Pl.Tree.mk ByteArray.empty []) j)
 (terms x_6.fst.snd.snd.fst.snd) ∧
 Is (terms x.snd.fst) (terms x_6.fst.snd.snd.snd.fst) ∧
 Is (ints x.snd.snd.fst) (ints x_6.fst.snd.snd.snd.snd.fst) ∧
 x.snd.snd.snd.fst = x_6.fst.snd.snd.snd.snd.snd.fst ∧
 x.snd.snd.snd.snd.fst = x_6.fst.snd.snd.snd.snd.snd.snd ∧ True) ∧
 (y.fst.fst = x_6.snd.fst.fst ∧ Is (terms y.fst.snd) (terms x_6.snd.fst.snd) ∧ True) ∧
 y_3 = x_6.snd.snd ∧ True) ∧
 True) ∧
 ∀ (y : List Pl.Tm × List Int),
 Pl.PutB x_6.fst.snd.snd.snd.fst (Pl.Tree.mk x_6.snd.fst.fst x_6.snd.fst.snd)
 (x_6.fst.snd.snd.snd.fst.length + (1 : Nat)) y.fst y.snd →
 Exists fun (x' : Int × List Pl.Tm × List Int × Int × Bool × Int) =>
 ((0 : Int) ≤ x'.fst ∧
 x'.fst ≤ (3 : Int) ∧
 (↑x'.snd.fst.length : Int) + x'.fst ≤ (3 : Int) ∧
 x'.snd.snd.fst.length = x'.snd.fst.length ∧
 (∀ (t : Pl.Tm), t ∈ x'.snd.fst → Pl.costT t ≤ (400 : Nat)) ∧
 p ≤ x'.snd.snd.snd.snd.snd ∧
 x'.snd.snd.snd.snd.snd + (100 : Int) * x'.fst ≤ p + (310 : Int)) ∧
 x'.fst.toNat < x.fst.toNat ∧
 ((0 : Nat) = (0 : Nat) ∧
 (0 : Nat) = (0 : Nat) ∧
 (0 : Nat) = (0 : Nat) ∧
 (0 : Nat) = (0 : Nat) ∧
 IntKind.i64.wrap (x.fst - (1 : Int)) = x'.fst ∧ True) ∧
 (Is (byts x_5.fst) (byts b) ∧
 x_5.snd.fst + (1 : Int) = x'.snd.snd.snd.snd.snd ∧ True) ∧
 (Is (syms s) (syms s) ∧ True) ∧
 ((0 : Int) = (0 : Int) ∧
 ByteArray.empty = ByteArray.empty ∧
 Is (AV.lit (0 : Nat) (1 : Nat) fun (x x_7 : Nat) => AV.any)
 nilA ∧
 ByteArray.empty = ByteArray.empty ∧
 Is (AV.lit (0 : Nat) (1 : Nat) fun (x x_7 : Nat) => AV.any)
 nilA ∧
 Is (AV.lit (0 : Nat) (1 : Nat) fun (x x_7 : Nat) => AV.any)
 nilA ∧
 Is (AV.lit (0 : Nat) (1 : Nat) fun (x x_7 : Nat) => AV.any)
 nilA ∧
 (0 : Int) = (0 : Int) ∧ Bool.false = Bool.false ∧ True) ∧
 ((x_6.fst.fst, Pl.noTP, Pl.noTP, y.fst, y.snd, x_6.fst.snd.snd.snd.snd.snd.fst,
 x_6.fst.snd.snd.snd.snd.snd.snd).fst =
 (2 : Int) ∧
 ByteArray.mk #[] = ByteArray.empty ∧
 Is
 (AV.sl ((0 : Nat)) (2 : Nat) fun (i j : Nat) =>
 eT (Pl.Tree.mk ByteArray.empty []) j)
 (terms []) ∧
 ByteArray.mk #[] = ByteArray.empty ∧
 Is
 (AV.sl ((0 : Nat)) (2 : Nat) fun (i j : Nat) =>
 eT (Pl.Tree.mk ByteArray.empty []) j)
 (terms []) ∧
 ((0 : Nat) = (0 : Nat) ∧
 (y.fst, y.snd, x_6.fst.snd.snd.snd.snd.snd.fst,
 x_6.fst.snd.snd.snd.snd.snd.snd).fst.length =
 x'.snd.fst.length) ∧
 ((0 : Nat) = (0 : Nat) ∧
 (y.snd, x_6.fst.snd.snd.snd.snd.snd.fst,
 x_6.fst.snd.snd.snd.snd.snd.snd).fst.length =
 x'.snd.snd.fst.length) ∧
 (x_6.fst.snd.snd.snd.snd.snd.fst,
 x_6.fst.snd.snd.snd.snd.snd.snd).fst =
 x'.snd.snd.snd.fst ∧
 (x_6.fst.snd.snd.snd.snd.snd.fst,
 x_6.fst.snd.snd.snd.snd.snd.snd).snd =
 x'.snd.snd.snd.snd.fst ∧
 True) ∧
 IsO (arT y.fst) (arT x'.snd.fst) ∧
 IsO (arI y.snd) (arI x'.snd.snd.fst) ∧ True) ∧
 Exists fun (x_5 : List Int × Int × List Int) =>
 (Rd (1099511627776 : Int) x_5.fst x_5.snd.fst ∧ x_5.snd.snd ≠ [] ∧ Sz x_5.snd.snd) ∧
 (((0 : Nat) = (0 : Nat) ∧
 Is
 (AV.lit (6 : Nat) (1 : Nat)
 (rowsCell
 [[i64 (1 : Int)], [i64 (-1 : Int)], [i64 (1 : Int)], [i64 (-1 : Int)], [i64 (2 : Int)],
 [i64 (-2 : Int)]]))
 (ints x_5.snd.snd) ∧
 True) ∧
 (Is (byts x_4.fst) (byts x_5.fst) ∧ y.snd = x_5.snd.fst ∧ True) ∧ True) ∧
 ∀ (y_3 : Int),
 y_3 ∈ x_5.snd.snd →
 (0 : Nat) + x.snd.fst.length ≤ x.snd.fst.length ∧
 (0 : Nat) + x.snd.snd.fst.length ≤ x.snd.snd.fst.length ∧
 (0 : Nat) + y.fst.snd.length ≤ y.fst.snd.length ∧
 Exists fun (x_6 : Pl.Atm × Pl.TP × Int) =>
 (SmA x_6.fst ∧
 SmT (Pl.Tree.mk x_6.snd.fst.fst x_6.snd.fst.snd) ∧
 x_6.fst.snd.snd.snd.fst.length ≤ (100 : Nat) ∧
 x_6.fst.snd.snd.snd.snd.fst.length = x_6.fst.snd.snd.snd.fst.length) ∧
 ((((2 : Int) = x_6.fst.fst ∧
 ByteArray.empty = x_6.fst.snd.fst.fst ∧
 Is
 (AV.sl ((0 : Nat)) (2 : Nat) fun (i j : Nat) =>
 eT (Pl.Tree.mk ByteArray.empty []) j)
 (terms x_6.fst.snd.fst.snd) ∧
 ByteArray.empty = x_6.fst.snd.snd.fst.fst ∧
 Is
 (AV.sl ((0 : Nat)) (2 : Nat) fun (i j : Nat) =>
 eT (Pl.Tree.mk ByteArray.empty []) j)
 (terms x_6.fst.snd.snd.fst.snd) ∧
 Is (terms x.snd.fst) (terms x_6.fst.snd.snd.snd.fst) ∧
 Is (ints x.snd.snd.fst) (ints x_6.fst.snd.snd.snd.snd.fst) ∧
 x.snd.snd.snd.fst = x_6.fst.snd.snd.snd.snd.snd.fst ∧
 x.snd.snd.snd.snd.fst = x_6.fst.snd.snd.snd.snd.snd.snd ∧ True) ∧
 (y.fst.fst = x_6.snd.fst.fst ∧ Is (terms y.fst.snd) (terms x_6.snd.fst.snd) ∧ True) ∧
 y_3 = x_6.snd.snd ∧ True) ∧
 True) ∧
 ∀ (y : List Pl.Tm × List Int),
 Pl.PutB x_6.fst.snd.snd.snd.fst (Pl.Tree.mk x_6.snd.fst.fst x_6.snd.fst.snd)
 (x_6.fst.snd.snd.snd.fst.length + (1 : Nat)) y.fst y.snd →
 Exists fun (x' : Int × List Pl.Tm × List Int × Int × Bool × Int) =>
 ((0 : Int) ≤ x'.fst ∧
 x'.fst ≤ (3 : Int) ∧
 (↑x'.snd.fst.length : Int) + x'.fst ≤ (3 : Int) ∧
 x'.snd.snd.fst.length = x'.snd.fst.length ∧
 (∀ (t : Pl.Tm), t ∈ x'.snd.fst → Pl.costT t ≤ (400 : Nat)) ∧
 p ≤ x'.snd.snd.snd.snd.snd ∧
 x'.snd.snd.snd.snd.snd + (100 : Int) * x'.fst ≤ p + (310 : Int)) ∧
 x'.fst.toNat < x.fst.toNat ∧
 ((0 : Nat) = (0 : Nat) ∧
 (0 : Nat) = (0 : Nat) ∧
 (0 : Nat) = (0 : Nat) ∧
 (0 : Nat) = (0 : Nat) ∧
 IntKind.i64.wrap (x.fst - (1 : Int)) = x'.fst ∧ True) ∧
 (Is (byts x_5.fst) (byts b) ∧
 x_5.snd.fst + (1 : Int) = x'.snd.snd.snd.snd.snd ∧ True) ∧
 (Is (syms s) (syms s) ∧ True) ∧
 ((0 : Int) = (0 : Int) ∧
 ByteArray.empty = ByteArray.empty ∧
 Is (AV.lit (0 : Nat) (1 : Nat) fun (x x_7 : Nat) => AV.any)
 nilA ∧
 ByteArray.empty = ByteArray.empty ∧
 Is (AV.lit (0 : Nat) (1 : Nat) fun (x x_7 : Nat) => AV.any)
 nilA ∧
 Is (AV.lit (0 : Nat) (1 : Nat) fun (x x_7 : Nat) => AV.any)
 nilA ∧
 Is (AV.lit (0 : Nat) (1 : Nat) fun (x x_7 : Nat) => AV.any)
 nilA ∧
 (0 : Int) = (0 : Int) ∧ Bool.false = Bool.false ∧ True) ∧
 ((x_6.fst.fst, Pl.noTP, Pl.noTP, y.fst, y.snd, x_6.fst.snd.snd.snd.snd.snd.fst,
 x_6.fst.snd.snd.snd.snd.snd.snd).fst =
 (2 : Int) ∧
 ByteArray.mk #[] = ByteArray.empty ∧
 Is
 (AV.sl ((0 : Nat)) (2 : Nat) fun (i j : Nat) =>
 eT (Pl.Tree.mk ByteArray.empty []) j)
 (terms []) ∧
 ByteArray.mk #[] = ByteArray.empty ∧
 Is
 (AV.sl ((0 : Nat)) (2 : Nat) fun (i j : Nat) =>
 eT (Pl.Tree.mk ByteArray.empty []) j)
 (terms []) ∧
 ((0 : Nat) = (0 : Nat) ∧
 (y.fst, y.snd, x_6.fst.snd.snd.snd.snd.snd.fst,
 x_6.fst.snd.snd.snd.snd.snd.snd).fst.length =
 x'.snd.fst.length) ∧
 ((0 : Nat) = (0 : Nat) ∧
 (y.snd, x_6.fst.snd.snd.snd.snd.snd.fst,
 x_6.fst.snd.snd.snd.snd.snd.snd).fst.length =
 x'.snd.snd.fst.length) ∧
 (x_6.fst.snd.snd.snd.snd.snd.fst,
 x_6.fst.snd.snd.snd.snd.snd.snd).fst =
 x'.snd.snd.snd.fst ∧
 (x_6.fst.snd.snd.snd.snd.snd.fst,
 x_6.fst.snd.snd.snd.snd.snd.snd).snd =
 x'.snd.snd.snd.snd.fst ∧
 True) ∧
 IsO (arT y.fst) (arT x'.snd.fst) ∧
 IsO (arI y.snd) (arI x'.snd.snd.fst) ∧ True) ∧
 Exists fun (x_3 : List Int × Int × List Int) =>
 (Rd (1099511627776 : Int) x_3.fst x_3.snd.fst ∧ x_3.snd.snd ≠ [] ∧ Sz x_3.snd.snd) ∧
 (((0 : Nat) = (0 : Nat) ∧
 Is (AV.lit (3 : Nat) (1 : Nat) (rowsCell [[i64 (1 : Int)], [i64 (1 : Int)], [i64 (2 : Int)]])) (ints x_3.snd.snd) ∧
 True) ∧
 (Is (byts b) (byts x_3.fst) ∧ x.snd.snd.snd.snd.snd = x_3.snd.fst ∧ True) ∧ True) ∧
 ∀ (y : Int),
 y ∈ x_3.snd.snd →
 (Exists fun (x_4 : AX) =>
 (Rd (137438953472 : Int) x_4.fst x_4.snd.fst ∧
 x_4.snd.fst + (↑(Pl.CB x_4.snd.snd.snd.snd.toNat) : Int) ≤ (137438953472 : Int) ∧
 Pl.SgB (5 : Nat) (2 : Nat) x_4.snd.snd.fst ∧ x_4.snd.snd.snd.snd ≤ (4 : Int)) ∧
 (((0 : Nat) = (0 : Nat) ∧
 (Is (syms s) (syms x_4.snd.snd.fst) ∧ True) ∧ (1 : Int) = x_4.snd.snd.snd.fst ∧ y = x_4.snd.snd.snd.snd ∧ True) ∧
 (Is (byts x_3.fst) (byts x_4.fst) ∧ x_3.snd.fst + (1 : Int) = x_4.snd.fst ∧ True) ∧ True) ∧
 ∀ (y : Pl.TP × Int),
 Pl.TmB (Pl.CB x_4.snd.snd.snd.snd.toNat) y.fst ∧
 x_4.snd.fst ≤ y.snd ∧ y.snd ≤ x_4.snd.fst + (↑(Pl.CB x_4.snd.snd.snd.snd.toNat) : Int) →
 Exists fun (x_5 : List Int × Int × List Int) =>
 (Rd (1099511627776 : Int) x_5.fst x_5.snd.fst ∧ x_5.snd.snd ≠ [] ∧ Sz x_5.snd.snd) ∧
 (((0 : Nat) = (0 : Nat) ∧
 Is
 (AV.lit (6 : Nat) (1 : Nat)
 (rowsCell
 [[i64 (1 : Int)], [i64 (-1 : Int)], [i64 (1 : Int)], [i64 (-1 : Int)], [i64 (2 : Int)],
 [i64 (-2 : Int)]]))
 (ints x_5.snd.snd) ∧
 True) ∧
 (Is (byts x_4.fst) (byts x_5.fst) ∧ y.snd = x_5.snd.fst ∧ True) ∧ True) ∧
 ∀ (y_3 : Int),
 y_3 ∈ x_5.snd.snd →
 (0 : Nat) + x.snd.fst.length ≤ x.snd.fst.length ∧
 (0 : Nat) + x.snd.snd.fst.length ≤ x.snd.snd.fst.length ∧
 (0 : Nat) + y.fst.snd.length ≤ y.fst.snd.length ∧
 Exists fun (x_6 : Pl.Atm × Pl.TP × Int) =>
 (SmA x_6.fst ∧
 SmT (Pl.Tree.mk x_6.snd.fst.fst x_6.snd.fst.snd) ∧
 x_6.fst.snd.snd.snd.fst.length ≤ (100 : Nat) ∧
 x_6.fst.snd.snd.snd.snd.fst.length = x_6.fst.snd.snd.snd.fst.length) ∧
 ((((2 : Int) = x_6.fst.fst ∧
 ByteArray.empty = x_6.fst.snd.fst.fst ∧
 Is
 (AV.sl ((0 : Nat)) (2 : Nat) fun (i j : Nat) =>
 eT (Pl.Tree.mk ByteArray.empty []) j)
 (terms x_6.fst.snd.fst.snd) ∧
 ByteArray.empty = x_6.fst.snd.snd.fst.fst ∧
 Is
 (AV.sl ((0 : Nat)) (2 : Nat) fun (i j : Nat) =>
 eT (Pl.Tree.mk ByteArray.empty []) j)
 (terms x_6.fst.snd.snd.fst.snd) ∧
 Is (terms x.snd.fst) (terms x_6.fst.snd.snd.snd.fst) ∧
 Is (ints x.snd.snd.fst) (ints x_6.fst.snd.snd.snd.snd.fst) ∧
 x.snd.snd.snd.fst = x_6.fst.snd.snd.snd.snd.snd.fst ∧
 x.snd.snd.snd.snd.fst = x_6.fst.snd.snd.snd.snd.snd.snd ∧ True) ∧
 (y.fst.fst = x_6.snd.fst.fst ∧ Is (terms y.fst.snd) (terms x_6.snd.fst.snd) ∧ True) ∧
 y_3 = x_6.snd.snd ∧ True) ∧
 True) ∧
 ∀ (y : List Pl.Tm × List Int),
 Pl.PutB x_6.fst.snd.snd.snd.fst (Pl.Tree.mk x_6.snd.fst.fst x_6.snd.fst.snd)
 (x_6.fst.snd.snd.snd.fst.length + (1 : Nat)) y.fst y.snd →
 Exists fun (x' : Int × List Pl.Tm × List Int × Int × Bool × Int) =>
 ((0 : Int) ≤ x'.fst ∧
 x'.fst ≤ (3 : Int) ∧
 (↑x'.snd.fst.length : Int) + x'.fst ≤ (3 : Int) ∧
 x'.snd.snd.fst.length = x'.snd.fst.length ∧
 (∀ (t : Pl.Tm), t ∈ x'.snd.fst → Pl.costT t ≤ (400 : Nat)) ∧
 p ≤ x'.snd.snd.snd.snd.snd ∧
 x'.snd.snd.snd.snd.snd + (100 : Int) * x'.fst ≤ p + (310 : Int)) ∧
 x'.fst.toNat < x.fst.toNat ∧
 ((0 : Nat) = (0 : Nat) ∧
 (0 : Nat) = (0 : Nat) ∧
 (0 : Nat) = (0 : Nat) ∧
 (0 : Nat) = (0 : Nat) ∧ IntKind.i64.wrap (x.fst - (1 : Int)) = x'.fst ∧ True) ∧
 (Is (byts x_5.fst) (byts b) ∧
 x_5.snd.fst + (1 : Int) = x'.snd.snd.snd.snd.snd ∧ True) ∧
 (Is (syms s) (syms s) ∧ True) ∧
 ((0 : Int) = (0 : Int) ∧
 ByteArray.empty = ByteArray.empty ∧
 Is (AV.lit (0 : Nat) (1 : Nat) fun (x x_7 : Nat) => AV.any) nilA ∧
 ByteArray.empty = ByteArray.empty ∧
 Is (AV.lit (0 : Nat) (1 : Nat) fun (x x_7 : Nat) => AV.any)
 nilA ∧
 Is (AV.lit (0 : Nat) (1 : Nat) fun (x x_7 : Nat) => AV.any)
 nilA ∧
 Is (AV.lit (0 : Nat) (1 : Nat) fun (x x_7 : Nat) => AV.any)
 nilA ∧
 (0 : Int) = (0 : Int) ∧ Bool.false = Bool.false ∧ True) ∧
 ((x_6.fst.fst, Pl.noTP, Pl.noTP, y.fst, y.snd, x_6.fst.snd.snd.snd.snd.snd.fst,
 x_6.fst.snd.snd.snd.snd.snd.snd).fst =
 (2 : Int) ∧
 ByteArray.mk #[] = ByteArray.empty ∧
 Is
 (AV.sl ((0 : Nat)) (2 : Nat) fun (i j : Nat) =>
 eT (Pl.Tree.mk ByteArray.empty []) j)
 (terms []) ∧
 ByteArray.mk #[] = ByteArray.empty ∧
 Is
 (AV.sl ((0 : Nat)) (2 : Nat) fun (i j : Nat) =>
 eT (Pl.Tree.mk ByteArray.empty []) j)
 (terms []) ∧
 ((0 : Nat) = (0 : Nat) ∧
 (y.fst, y.snd, x_6.fst.snd.snd.snd.snd.snd.fst,
 x_6.fst.snd.snd.snd.snd.snd.snd).fst.length =
 x'.snd.fst.length) ∧
 ((0 : Nat) = (0 : Nat) ∧
 (y.snd, x_6.fst.snd.snd.snd.snd.snd.fst,
 x_6.fst.snd.snd.snd.snd.snd.snd).fst.length =
 x'.snd.snd.fst.length) ∧
 (x_6.fst.snd.snd.snd.snd.snd.fst,
 x_6.fst.snd.snd.snd.snd.snd.snd).fst =
 x'.snd.snd.snd.fst ∧
 (x_6.fst.snd.snd.snd.snd.snd.fst,
 x_6.fst.snd.snd.snd.snd.snd.snd).snd =
 x'.snd.snd.snd.snd.fst ∧
 True) ∧
 IsO (arT y.fst) (arT x'.snd.fst) ∧
 IsO (arI y.snd) (arI x'.snd.snd.fst) ∧ True) ∧
 (Exists fun (x_4 : AX) =>
 (Rd (137438953472 : Int) x_4.fst x_4.snd.fst ∧
 x_4.snd.fst + (↑(Pl.CB x_4.snd.snd.snd.snd.toNat) : Int) ≤ (137438953472 : Int) ∧
 Pl.SgB (5 : Nat) (2 : Nat) x_4.snd.snd.fst ∧ x_4.snd.snd.snd.snd ≤ (4 : Int)) ∧
 (((0 : Nat) = (0 : Nat) ∧
 (Is (syms s) (syms x_4.snd.snd.fst) ∧ True) ∧ (1 : Int) = x_4.snd.snd.snd.fst ∧ y = x_4.snd.snd.snd.snd ∧ True) ∧
 (Is (byts x_3.fst) (byts x_4.fst) ∧ x_3.snd.fst + (1 : Int) = x_4.snd.fst ∧ True) ∧ True) ∧
 ∀ (y : Pl.TP × Int),
 Pl.TmB (Pl.CB x_4.snd.snd.snd.snd.toNat) y.fst ∧
 x_4.snd.fst ≤ y.snd ∧ y.snd ≤ x_4.snd.fst + (↑(Pl.CB x_4.snd.snd.snd.snd.toNat) : Int) →
 Exists fun (x_5 : List Int × Int × List Int) =>
 (Rd (1099511627776 : Int) x_5.fst x_5.snd.fst ∧ x_5.snd.snd ≠ [] ∧ Sz x_5.snd.snd) ∧
 (((0 : Nat) = (0 : Nat) ∧
 Is
 (AV.lit (6 : Nat) (1 : Nat)
 (rowsCell
 [[i64 (1 : Int)], [i64 (-1 : Int)], [i64 (1 : Int)], [i64 (-1 : Int)], [i64 (2 : Int)],
 [i64 (-2 : Int)]]))
 (ints x_5.snd.snd) ∧
 True) ∧
 (Is (byts x_4.fst) (byts x_5.fst) ∧ y.snd = x_5.snd.fst ∧ True) ∧ True) ∧
 ∀ (y_3 : Int),
 y_3 ∈ x_5.snd.snd →
 (0 : Nat) + x.snd.fst.length ≤ x.snd.fst.length ∧
 (0 : Nat) + x.snd.snd.fst.length ≤ x.snd.snd.fst.length ∧
 (0 : Nat) + y.fst.snd.length ≤ y.fst.snd.length ∧
 Exists fun (x_6 : Pl.Atm × Pl.TP × Int) =>
 (SmA x_6.fst ∧
 SmT (Pl.Tree.mk x_6.snd.fst.fst x_6.snd.fst.snd) ∧
 x_6.fst.snd.snd.snd.fst.length ≤ (100 : Nat) ∧
 x_6.fst.snd.snd.snd.snd.fst.length = x_6.fst.snd.snd.snd.fst.length) ∧
 ((((2 : Int) = x_6.fst.fst ∧
 ByteArray.empty = x_6.fst.snd.fst.fst ∧
 Is
 (AV.sl ((0 : Nat)) (2 : Nat) fun (i j : Nat) =>
 eT (Pl.Tree.mk ByteArray.empty []) j)
 (terms x_6.fst.snd.fst.snd) ∧
 ByteArray.empty = x_6.fst.snd.snd.fst.fst ∧
 Is
 (AV.sl ((0 : Nat)) (2 : Nat) fun (i j : Nat) =>
 eT (Pl.Tree.mk ByteArray.empty []) j)
 (terms x_6.fst.snd.snd.fst.snd) ∧
 Is (terms x.snd.fst) (terms x_6.fst.snd.snd.snd.fst) ∧
 Is (ints x.snd.snd.fst) (ints x_6.fst.snd.snd.snd.snd.fst) ∧
 x.snd.snd.snd.fst = x_6.fst.snd.snd.snd.snd.snd.fst ∧
 x.snd.snd.snd.snd.fst = x_6.fst.snd.snd.snd.snd.snd.snd ∧ True) ∧
 (y.fst.fst = x_6.snd.fst.fst ∧ Is (terms y.fst.snd) (terms x_6.snd.fst.snd) ∧ True) ∧
 y_3 = x_6.snd.snd ∧ True) ∧
 True) ∧
 ∀ (y : List Pl.Tm × List Int),
 Pl.PutB x_6.fst.snd.snd.snd.fst (Pl.Tree.mk x_6.snd.fst.fst x_6.snd.fst.snd)
 (x_6.fst.snd.snd.snd.fst.length + (1 : Nat)) y.fst y.snd →
 Exists fun (x' : Int × List Pl.Tm × List Int × Int × Bool × Int) =>
 ((0 : Int) ≤ x'.fst ∧
 x'.fst ≤ (3 : Int) ∧
 (↑x'.snd.fst.length : Int) + x'.fst ≤ (3 : Int) ∧
 x'.snd.snd.fst.length = x'.snd.fst.length ∧
 (∀ (t : Pl.Tm), t ∈ x'.snd.fst → Pl.costT t ≤ (400 : Nat)) ∧
 p ≤ x'.snd.snd.snd.snd.snd ∧
 x'.snd.snd.snd.snd.snd + (100 : Int) * x'.fst ≤ p + (310 : Int)) ∧
 x'.fst.toNat < x.fst.toNat ∧
 ((0 : Nat) = (0 : Nat) ∧
 (0 : Nat) = (0 : Nat) ∧
 (0 : Nat) = (0 : Nat) ∧
 (0 : Nat) = (0 : Nat) ∧ IntKind.i64.wrap (x.fst - (1 : Int)) = x'.fst ∧ True) ∧
 (Is (byts x_5.fst) (byts b) ∧
 x_5.snd.fst + (1 : Int) = x'.snd.snd.snd.snd.snd ∧ True) ∧
 (Is (syms s) (syms s) ∧ True) ∧
 ((0 : Int) = (0 : Int) ∧
 ByteArray.empty = ByteArray.empty ∧
 Is (AV.lit (0 : Nat) (1 : Nat) fun (x x_7 : Nat) => AV.any) nilA ∧
 ByteArray.empty = ByteArray.empty ∧
 Is (AV.lit (0 : Nat) (1 : Nat) fun (x x_7 : Nat) => AV.any)
 nilA ∧
 Is (AV.lit (0 : Nat) (1 : Nat) fun (x x_7 : Nat) => AV.any)
 nilA ∧
 Is (AV.lit (0 : Nat) (1 : Nat) fun (x x_7 : Nat) => AV.any)
 nilA ∧
 (0 : Int) = (0 : Int) ∧ Bool.false = Bool.false ∧ True) ∧
 ((x_6.fst.fst, Pl.noTP, Pl.noTP, y.fst, y.snd, x_6.fst.snd.snd.snd.snd.snd.fst,
 x_6.fst.snd.snd.snd.snd.snd.snd).fst =
 (2 : Int) ∧
 ByteArray.mk #[] = ByteArray.empty ∧
 Is
 (AV.sl ((0 : Nat)) (2 : Nat) fun (i j : Nat) =>
 eT (Pl.Tree.mk ByteArray.empty []) j)
 (terms []) ∧
 ByteArray.mk #[] = ByteArray.empty ∧
 Is
 (AV.sl ((0 : Nat)) (2 : Nat) fun (i j : Nat) =>
 eT (Pl.Tree.mk ByteArray.empty []) j)
 (terms []) ∧
 ((0 : Nat) = (0 : Nat) ∧
 (y.fst, y.snd, x_6.fst.snd.snd.snd.snd.snd.fst,
 x_6.fst.snd.snd.snd.snd.snd.snd).fst.length =
 x'.snd.fst.length) ∧
 ((0 : Nat) = (0 : Nat) ∧
 (y.snd, x_6.fst.snd.snd.snd.snd.snd.fst,
 x_6.fst.snd.snd.snd.snd.snd.snd).fst.length =
 x'.snd.snd.fst.length) ∧
 (x_6.fst.snd.snd.snd.snd.snd.fst,
 x_6.fst.snd.snd.snd.snd.snd.snd).fst =
 x'.snd.snd.snd.fst ∧
 (x_6.fst.snd.snd.snd.snd.snd.fst,
 x_6.fst.snd.snd.snd.snd.snd.snd).snd =
 x'.snd.snd.snd.snd.fst ∧
 True) ∧
 IsO (arT y.fst) (arT x'.snd.fst) ∧
 IsO (arI y.snd) (arI x'.snd.snd.fst) ∧ True) ∧
 Exists fun (x_4 : AX) =>
 (Rd (137438953472 : Int) x_4.fst x_4.snd.fst ∧
 x_4.snd.fst + (↑(Pl.CB x_4.snd.snd.snd.snd.toNat) : Int) ≤ (137438953472 : Int) ∧
 Pl.SgB (5 : Nat) (2 : Nat) x_4.snd.snd.fst ∧ x_4.snd.snd.snd.snd ≤ (4 : Int)) ∧
 (((0 : Nat) = (0 : Nat) ∧
 (Is (syms s) (syms x_4.snd.snd.fst) ∧ True) ∧ (1 : Int) = x_4.snd.snd.snd.fst ∧ y = x_4.snd.snd.snd.snd ∧ True) ∧
 (Is (byts x_3.fst) (byts x_4.fst) ∧ x_3.snd.fst + (1 : Int) = x_4.snd.fst ∧ True) ∧ True) ∧
 ∀ (y : Pl.TP × Int),
 Pl.TmB (Pl.CB x_4.snd.snd.snd.snd.toNat) y.fst ∧
 x_4.snd.fst ≤ y.snd ∧ y.snd ≤ x_4.snd.fst + (↑(Pl.CB x_4.snd.snd.snd.snd.toNat) : Int) →
 (Exists fun (x_5 : List Int × Int × List Int) =>
 (Rd (1099511627776 : Int) x_5.fst x_5.snd.fst ∧ x_5.snd.snd ≠ [] ∧ Sz x_5.snd.snd) ∧
 (((0 : Nat) = (0 : Nat) ∧
 Is
 (AV.lit (6 : Nat) (1 : Nat)
 (rowsCell
 [[i64 (1 : Int)], [i64 (-1 : Int)], [i64 (1 : Int)], [i64 (-1 : Int)], [i64 (2 : Int)],
 [i64 (-2 : Int)]]))
 (ints x_5.snd.snd) ∧
 True) ∧
 (Is (byts x_4.fst) (byts x_5.fst) ∧ y.snd = x_5.snd.fst ∧ True) ∧ True) ∧
 ∀ (y_3 : Int),
 y_3 ∈ x_5.snd.snd →
 (0 : Nat) + x.snd.fst.length ≤ x.snd.fst.length ∧
 (0 : Nat) + x.snd.snd.fst.length ≤ x.snd.snd.fst.length ∧
 (0 : Nat) + y.fst.snd.length ≤ y.fst.snd.length ∧
 Exists fun (x_6 : Pl.Atm × Pl.TP × Int) =>
 (SmA x_6.fst ∧
 SmT (Pl.Tree.mk x_6.snd.fst.fst x_6.snd.fst.snd) ∧
 x_6.fst.snd.snd.snd.fst.length ≤ (100 : Nat) ∧
 x_6.fst.snd.snd.snd.snd.fst.length = x_6.fst.snd.snd.snd.fst.length) ∧
 ((((2 : Int) = x_6.fst.fst ∧
 ByteArray.empty = x_6.fst.snd.fst.fst ∧
 Is
 (AV.sl ((0 : Nat)) (2 : Nat) fun (i j : Nat) =>
 eT (Pl.Tree.mk ByteArray.empty []) j)
 (terms x_6.fst.snd.fst.snd) ∧
 ByteArray.empty = x_6.fst.snd.snd.fst.fst ∧
 Is
 (AV.sl ((0 : Nat)) (2 : Nat) fun (i j : Nat) =>
 eT (Pl.Tree.mk ByteArray.empty []) j)
 (terms x_6.fst.snd.snd.fst.snd) ∧
 Is (terms x.snd.fst) (terms x_6.fst.snd.snd.snd.fst) ∧
 Is (ints x.snd.snd.fst) (ints x_6.fst.snd.snd.snd.snd.fst) ∧
 x.snd.snd.snd.fst = x_6.fst.snd.snd.snd.snd.snd.fst ∧
 x.snd.snd.snd.snd.fst = x_6.fst.snd.snd.snd.snd.snd.snd ∧ True) ∧
 (y.fst.fst = x_6.snd.fst.fst ∧ Is (terms y.fst.snd) (terms x_6.snd.fst.snd) ∧ True) ∧
 y_3 = x_6.snd.snd ∧ True) ∧
 True) ∧
 ∀ (y : List Pl.Tm × List Int),
 Pl.PutB x_6.fst.snd.snd.snd.fst (Pl.Tree.mk x_6.snd.fst.fst x_6.snd.fst.snd)
 (x_6.fst.snd.snd.snd.fst.length + (1 : Nat)) y.fst y.snd →
 Exists fun (x' : Int × List Pl.Tm × List Int × Int × Bool × Int) =>
 ((0 : Int) ≤ x'.fst ∧
 x'.fst ≤ (3 : Int) ∧
 (↑x'.snd.fst.length : Int) + x'.fst ≤ (3 : Int) ∧
 x'.snd.snd.fst.length = x'.snd.fst.length ∧
 (∀ (t : Pl.Tm), t ∈ x'.snd.fst → Pl.costT t ≤ (400 : Nat)) ∧
 p ≤ x'.snd.snd.snd.snd.snd ∧
 x'.snd.snd.snd.snd.snd + (100 : Int) * x'.fst ≤ p + (310 : Int)) ∧
 x'.fst.toNat < x.fst.toNat ∧
 ((0 : Nat) = (0 : Nat) ∧
 (0 : Nat) = (0 : Nat) ∧
 (0 : Nat) = (0 : Nat) ∧
 (0 : Nat) = (0 : Nat) ∧
 IntKind.i64.wrap (x.fst - (1 : Int)) = x'.fst ∧ True) ∧
 (Is (byts x_5.fst) (byts b) ∧
 x_5.snd.fst + (1 : Int) = x'.snd.snd.snd.snd.snd ∧ True) ∧
 (Is (syms s) (syms s) ∧ True) ∧
 ((0 : Int) = (0 : Int) ∧
 ByteArray.empty = ByteArray.empty ∧
 Is (AV.lit (0 : Nat) (1 : Nat) fun (x x_7 : Nat) => AV.any)
 nilA ∧
 ByteArray.empty = ByteArray.empty ∧
 Is (AV.lit (0 : Nat) (1 : Nat) fun (x x_7 : Nat) => AV.any)
 nilA ∧
 Is (AV.lit (0 : Nat) (1 : Nat) fun (x x_7 : Nat) => AV.any)
 nilA ∧
 Is (AV.lit (0 : Nat) (1 : Nat) fun (x x_7 : Nat) => AV.any)
 nilA ∧
 (0 : Int) = (0 : Int) ∧ Bool.false = Bool.false ∧ True) ∧
 ((x_6.fst.fst, Pl.noTP, Pl.noTP, y.fst, y.snd, x_6.fst.snd.snd.snd.snd.snd.fst,
 x_6.fst.snd.snd.snd.snd.snd.snd).fst =
 (2 : Int) ∧
 ByteArray.mk #[] = ByteArray.empty ∧
 Is
 (AV.sl ((0 : Nat)) (2 : Nat) fun (i j : Nat) =>
 eT (Pl.Tree.mk ByteArray.empty []) j)
 (terms []) ∧
 ByteArray.mk #[] = ByteArray.empty ∧
 Is
 (AV.sl ((0 : Nat)) (2 : Nat) fun (i j : Nat) =>
 eT (Pl.Tree.mk ByteArray.empty []) j)
 (terms []) ∧
 ((0 : Nat) = (0 : Nat) ∧
 (y.fst, y.snd, x_6.fst.snd.snd.snd.snd.snd.fst,
 x_6.fst.snd.snd.snd.snd.snd.snd).fst.length =
 x'.snd.fst.length) ∧
 ((0 : Nat) = (0 : Nat) ∧
 (y.snd, x_6.fst.snd.snd.snd.snd.snd.fst,
 x_6.fst.snd.snd.snd.snd.snd.snd).fst.length =
 x'.snd.snd.fst.length) ∧
 (x_6.fst.snd.snd.snd.snd.snd.fst,
 x_6.fst.snd.snd.snd.snd.snd.snd).fst =
 x'.snd.snd.snd.fst ∧
 (x_6.fst.snd.snd.snd.snd.snd.fst,
 x_6.fst.snd.snd.snd.snd.snd.snd).snd =
 x'.snd.snd.snd.snd.fst ∧
 True) ∧
 IsO (arT y.fst) (arT x'.snd.fst) ∧
 IsO (arI y.snd) (arI x'.snd.snd.fst) ∧ True) ∧
 Exists fun (x_5 : List Int × Int × List Int) =>
 (Rd (1099511627776 : Int) x_5.fst x_5.snd.fst ∧ x_5.snd.snd ≠ [] ∧ Sz x_5.snd.snd) ∧
 (((0 : Nat) = (0 : Nat) ∧
 Is
 (AV.lit (6 : Nat) (1 : Nat)
 (rowsCell
 [[i64 (1 : Int)], [i64 (-1 : Int)], [i64 (1 : Int)], [i64 (-1 : Int)], [i64 (2 : Int)],
 [i64 (-2 : Int)]]))
 (ints x_5.snd.snd) ∧
 True) ∧
 (Is (byts x_4.fst) (byts x_5.fst) ∧ y.snd = x_5.snd.fst ∧ True) ∧ True) ∧
 ∀ (y_3 : Int),
 y_3 ∈ x_5.snd.snd →
 (0 : Nat) + x.snd.fst.length ≤ x.snd.fst.length ∧
 (0 : Nat) + x.snd.snd.fst.length ≤ x.snd.snd.fst.length ∧
 (0 : Nat) + y.fst.snd.length ≤ y.fst.snd.length ∧
 Exists fun (x_6 : Pl.Atm × Pl.TP × Int) =>
 (SmA x_6.fst ∧
 SmT (Pl.Tree.mk x_6.snd.fst.fst x_6.snd.fst.snd) ∧
 x_6.fst.snd.snd.snd.fst.length ≤ (100 : Nat) ∧
 x_6.fst.snd.snd.snd.snd.fst.length = x_6.fst.snd.snd.snd.fst.length) ∧
 ((((2 : Int) = x_6.fst.fst ∧
 ByteArray.empty = x_6.fst.snd.fst.fst ∧
 Is
 (AV.sl ((0 : Nat)) (2 : Nat) fun (i j : Nat) =>
 eT (Pl.Tree.mk ByteArray.empty []) j)
 (terms x_6.fst.snd.fst.snd) ∧
 ByteArray.empty = x_6.fst.snd.snd.fst.fst ∧
 Is
 (AV.sl ((0 : Nat)) (2 : Nat) fun (i j : Nat) =>
 eT (Pl.Tree.mk ByteArray.empty []) j)
 (terms x_6.fst.snd.snd.fst.snd) ∧
 Is (terms x.snd.fst) (terms x_6.fst.snd.snd.snd.fst) ∧
 Is (ints x.snd.snd.fst) (ints x_6.fst.snd.snd.snd.snd.fst) ∧
 x.snd.snd.snd.fst = x_6.fst.snd.snd.snd.snd.snd.fst ∧
 x.snd.snd.snd.snd.fst = x_6.fst.snd.snd.snd.snd.snd.snd ∧ True) ∧
 (y.fst.fst = x_6.snd.fst.fst ∧ Is (terms y.fst.snd) (terms x_6.snd.fst.snd) ∧ True) ∧
 y_3 = x_6.snd.snd ∧ True) ∧
 True) ∧
 ∀ (y : List Pl.Tm × List Int),
 Pl.PutB x_6.fst.snd.snd.snd.fst (Pl.Tree.mk x_6.snd.fst.fst x_6.snd.fst.snd)
 (x_6.fst.snd.snd.snd.fst.length + (1 : Nat)) y.fst y.snd →
 Exists fun (x' : Int × List Pl.Tm × List Int × Int × Bool × Int) =>
 ((0 : Int) ≤ x'.fst ∧
 x'.fst ≤ (3 : Int) ∧
 (↑x'.snd.fst.length : Int) + x'.fst ≤ (3 : Int) ∧
 x'.snd.snd.fst.length = x'.snd.fst.length ∧
 (∀ (t : Pl.Tm), t ∈ x'.snd.fst → Pl.costT t ≤ (400 : Nat)) ∧
 p ≤ x'.snd.snd.snd.snd.snd ∧
 x'.snd.snd.snd.snd.snd + (100 : Int) * x'.fst ≤ p + (310 : Int)) ∧
 x'.fst.toNat < x.fst.toNat ∧
 ((0 : Nat) = (0 : Nat) ∧
 (0 : Nat) = (0 : Nat) ∧
 (0 : Nat) = (0 : Nat) ∧
 (0 : Nat) = (0 : Nat) ∧
 IntKind.i64.wrap (x.fst - (1 : Int)) = x'.fst ∧ True) ∧
 (Is (byts x_5.fst) (byts b) ∧
 x_5.snd.fst + (1 : Int) = x'.snd.snd.snd.snd.snd ∧ True) ∧
 (Is (syms s) (syms s) ∧ True) ∧
 ((0 : Int) = (0 : Int) ∧
 ByteArray.empty = ByteArray.empty ∧
 Is (AV.lit (0 : Nat) (1 : Nat) fun (x x_7 : Nat) => AV.any)
 nilA ∧
 ByteArray.empty = ByteArray.empty ∧
 Is (AV.lit (0 : Nat) (1 : Nat) fun (x x_7 : Nat) => AV.any)
 nilA ∧
 Is (AV.lit (0 : Nat) (1 : Nat) fun (x x_7 : Nat) => AV.any)
 nilA ∧
 Is (AV.lit (0 : Nat) (1 : Nat) fun (x x_7 : Nat) => AV.any)
 nilA ∧
 (0 : Int) = (0 : Int) ∧ Bool.false = Bool.false ∧ True) ∧
 ((x_6.fst.fst, Pl.noTP, Pl.noTP, y.fst, y.snd, x_6.fst.snd.snd.snd.snd.snd.fst,
 x_6.fst.snd.snd.snd.snd.snd.snd).fst =
 (2 : Int) ∧
 ByteArray.mk #[] = ByteArray.empty ∧
 Is
 (AV.sl ((0 : Nat)) (2 : Nat) fun (i j : Nat) =>
 eT (Pl.Tree.mk ByteArray.empty []) j)
 (terms []) ∧
 ByteArray.mk #[] = ByteArray.empty ∧
 Is
 (AV.sl ((0 : Nat)) (2 : Nat) fun (i j : Nat) =>
 eT (Pl.Tree.mk ByteArray.empty []) j)
 (terms []) ∧
 ((0 : Nat) = (0 : Nat) ∧
 (y.fst, y.snd, x_6.fst.snd.snd.snd.snd.snd.fst,
 x_6.fst.snd.snd.snd.snd.snd.snd).fst.length =
 x'.snd.fst.length) ∧
 ((0 : Nat) = (0 : Nat) ∧
 (y.snd, x_6.fst.snd.snd.snd.snd.snd.fst,
 x_6.fst.snd.snd.snd.snd.snd.snd).fst.length =
 x'.snd.snd.fst.length) ∧
 (x_6.fst.snd.snd.snd.snd.snd.fst,
 x_6.fst.snd.snd.snd.snd.snd.snd).fst =
 x'.snd.snd.snd.fst ∧
 (x_6.fst.snd.snd.snd.snd.snd.fst,
 x_6.fst.snd.snd.snd.snd.snd.snd).snd =
 x'.snd.snd.snd.snd.fst ∧
 True) ∧
 IsO (arT y.fst) (arT x'.snd.fst) ∧
 IsO (arI y.snd) (arI x'.snd.snd.fst) ∧ True)
 (Exists fun (y : Pl.Atm × Int) =>
 (Pl.AtB (3 : Nat) y.fst ∧ p ≤ y.snd ∧ y.snd ≤ p + (500 : Int)) ∧
 (((2 : Int) = y.fst.fst ∧
 ByteArray.empty = y.fst.snd.fst.fst ∧
 Is (AV.sl ((0 : Nat)) (2 : Nat) fun (i j : Nat) => eT (Pl.Tree.mk ByteArray.empty []) j) (terms y.fst.snd.fst.snd) ∧
 ByteArray.empty = y.fst.snd.snd.fst.fst ∧
 Is (AV.sl ((0 : Nat)) (2 : Nat) fun (i j : Nat) => eT (Pl.Tree.mk ByteArray.empty []) j) (terms y.fst.snd.snd.fst.snd) ∧
 ((0 : Nat) = (0 : Nat) ∧ x.snd.fst.length = y.fst.snd.snd.snd.fst.length) ∧
 ((0 : Nat) = (0 : Nat) ∧ x.snd.snd.fst.length = y.fst.snd.snd.snd.snd.fst.length) ∧
 x.snd.snd.snd.fst = y.fst.snd.snd.snd.snd.snd.fst ∧ x.snd.snd.snd.snd.fst = y.fst.snd.snd.snd.snd.snd.snd ∧ True) ∧
 True) ∧
 (Is (byts b) (byts b) ∧ x.snd.snd.snd.snd.snd = y.snd ∧ True) ∧
 IsO (arT x.snd.fst) (arT y.fst.snd.snd.snd.fst) ∧ IsO (arI x.snd.snd.fst) (arI y.fst.snd.snd.snd.snd.fst) ∧ True))) = Goal Tryz.prog [K_pick, K_num, K_lAny, K_l6Put] (A_l6Any b p s) K_l6Any.1 K_l6Any.2 ((b, p, s)) := by kernel_rfl

end Cg

/-
  What is left to show of each function's code, printed by a program: Mtd. No condition.
-/
set_option maxRecDepth 100000
set_option linter.unusedVariables false
namespace Cg
open Go Go.Proofs
theorem vc_l4Copy (n : Nat) (v : ByteArray) (ks : List Pl.Tm) : ((Exists fun (x : Nat) =>
 x ≤ ks.length ∧
 ((0 : Nat) = (0 : Nat) ∧ (0 : Nat) = (0 : Nat) ∧ (0 : Nat) = (0 : Nat) ∧ (0 : Int) = (↑x : Int) ∧ True) ∧
 (v = v ∧ Is (terms ks) (terms ks) ∧ True) ∧
 (ByteArray.mk #[] = ByteArray.empty ∧ Is (AV.lit (0 : Nat) (1 : Nat) fun (x x_1 : Nat) => AV.any) nilA ∧ True) ∧
 (v = v ∧ ((0 : Nat) = (0 : Nat) ∧ (0 : Nat) = (0 : Nat) ∧ (List.take x ks).length = (0 : Nat)) ∧ True) ∧ (List.take x ks).length = (0 : Nat) ∧ True) ∧
 ∀ (x : Nat),
 x ≤ ks.length →
 condP (Decidable.decide ((↑x : Int) < (↑ks.length : Int)))
 (((0 : Int) ≤ (↑x : Int) ∧ (↑x : Int) < (↑ks.length : Int)) ∧
 x < ks.length ∧
 Exists fun (x_1 : Pl.TP) =>
 ((Pl.Tree.val (ks.getD x Pl.dT) = x_1.fst ∧ Is (kidsT (ks.getD x Pl.dT)) (terms x_1.snd) ∧ True) ∧ True) ∧
 (SmT (Pl.Tree.mk x_1.fst x_1.snd) ∧ Pl.manyL x_1.snd < n) ∧
 (0 : Nat) + (List.take x ks).length ≤ (List.take x ks).length ∧
 ((List.take x ks).length + (1 : Nat)) * (40 : Nat) ≤ (70368744177664 : Nat) ∧
 Exists fun (x' : Nat) =>
 x' ≤ ks.length ∧
 ks.length - x' < ks.length - x ∧
 ((0 : Nat) = (0 : Nat) ∧ (0 : Nat) = (0 : Nat) ∧ (0 : Nat) = (0 : Nat) ∧ IntKind.i64.wrap ((↑x : Int) + (1 : Int)) = (↑x' : Int) ∧ True) ∧
 (v = v ∧ Is (terms ks) (terms ks) ∧ True) ∧
 (ByteArray.empty = ByteArray.empty ∧ Is (AV.lit (0 : Nat) (1 : Nat) fun (x x_2 : Nat) => AV.any) nilA ∧ True) ∧
 (v = v ∧ ((0 : Nat) = (0 : Nat) ∧ (List.take x ks).length + (1 : Nat) = (List.take x' ks).length) ∧ True) ∧
 IsO
 (AObj.arr ((List.take x ks).length + (1 : Nat)) (2 : Nat)
 (joinC (List.take x ks).length (cT (List.take x ks)) (rowsCell [[st x_1.fst, terms x_1.snd]])))
 (arT (List.take x' ks)) ∧
 True)
 ((0 : Nat) + (List.take x ks).length ≤ (List.take x ks).length ∧ v = v ∧ Is (terms (List.take x ks)) (terms ks) ∧ True)) = Goal Tryz.prog [(K_l4Copy n)] (A_l4Copy v ks) (K_l4Copy (n + 1)).1 (K_l4Copy (n + 1)).2 ((v, ks)) := by kernel_rfl

theorem vc_l4Any (n : Nat) (b : List Int) (p : Int) (s : Pl.Sig) (u d : Int) : ((Exists fun (x : Nat × List Pl.Sym) =>
 (x.fst ≤ List.length s ∧ x.snd.length ≤ x.fst ∧ Pl.WdB d x.snd) ∧
 ((0 : Nat) = (0 : Nat) ∧
 u = u ∧ d = d ∧ (0 : Nat) = (0 : Nat) ∧ (0 : Nat) = (0 : Nat) ∧ ((0 : Nat) = (0 : Nat) ∧ (0 : Nat) = (0 : Nat) ∧ x.snd.length = (0 : Nat)) ∧ (0 : Int) = (↑x.fst : Int) ∧ True) ∧
 (Is (byts b) (byts b) ∧ p = p ∧ True) ∧
 (Is (syms s) (syms s) ∧ True) ∧
 (ByteArray.mk #[] = ByteArray.empty ∧ Is (AV.lit (0 : Nat) (1 : Nat) fun (x x_1 : Nat) => AV.any) nilA ∧ True) ∧ x.snd.length = (0 : Nat) ∧ True) ∧
 ∀ (x : Nat × List Pl.Sym),
 x.fst ≤ List.length s ∧ x.snd.length ≤ x.fst ∧ Pl.WdB d x.snd →
 condP (Decidable.decide ((↑x.fst : Int) < (↑(List.length s) : Int)))
 (((0 : Int) ≤ (↑x.fst : Int) ∧ (↑x.fst : Int) < (↑(List.length s) : Int)) ∧
 x.fst < List.length s ∧
 condP ((List.getD s x.fst Pl.dY).snd.snd == u)
 (condP (Decidable.decide (d > (1 : Int)))
 (((0 : Int) ≤ (↑x.fst : Int) ∧ (↑x.fst : Int) < (↑(List.length s) : Int)) ∧
 x.fst < List.length s ∧
 (0 : Nat) + x.snd.length ≤ x.snd.length ∧
 (x.snd.length + (1 : Nat)) * (48 : Nat) ≤ (70368744177664 : Nat) ∧
 Exists fun (x' : Nat × List Pl.Sym) =>
 (x'.fst ≤ List.length s ∧ x'.snd.length ≤ x'.fst ∧ Pl.WdB d x'.snd) ∧
 List.length s - x'.fst < List.length s - x.fst ∧
 ((0 : Nat) = (0 : Nat) ∧
 u = u ∧
 d = d ∧
 (0 : Nat) = (0 : Nat) ∧
 (0 : Nat) = (0 : Nat) ∧
 ((0 : Nat) = (0 : Nat) ∧ x.snd.length + (1 : Nat) = x'.snd.length) ∧ IntKind.i64.wrap ((↑x.fst : Int) + (1 : Int)) = (↑x'.fst : Int) ∧ True) ∧
 (Is (byts b) (byts b) ∧ p = p ∧ True) ∧
 (Is (syms s) (syms s) ∧ True) ∧
 (ByteArray.empty = ByteArray.empty ∧ Is (AV.lit (0 : Nat) (1 : Nat) fun (x x_1 : Nat) => AV.any) nilA ∧ True) ∧
 IsO
 (AObj.arr (x.snd.length + (1 : Nat)) (3 : Nat)
 (joinC x.snd.length (cY x.snd)
 (rowsCell [[st (List.getD s x.fst Pl.dY).fst, ints (List.getD s x.fst Pl.dY).snd.fst, i64 (List.getD s x.fst Pl.dY).snd.snd]])))
 (arY x'.snd) ∧
 True)
 (((0 : Int) ≤ (↑x.fst : Int) ∧ (↑x.fst : Int) < (↑(List.length s) : Int)) ∧
 x.fst < List.length s ∧
 condP ((↑(List.getD s x.fst Pl.dY).snd.fst.length : Int) == (0 : Int))
 (((0 : Int) ≤ (↑x.fst : Int) ∧ (↑x.fst : Int) < (↑(List.length s) : Int)) ∧
 x.fst < List.length s ∧
 (0 : Nat) + x.snd.length ≤ x.snd.length ∧
 (x.snd.length + (1 : Nat)) * (48 : Nat) ≤ (70368744177664 : Nat) ∧
 Exists fun (x' : Nat × List Pl.Sym) =>
 (x'.fst ≤ List.length s ∧ x'.snd.length ≤ x'.fst ∧ Pl.WdB d x'.snd) ∧
 List.length s - x'.fst < List.length s - x.fst ∧
 ((0 : Nat) = (0 : Nat) ∧
 u = u ∧
 d = d ∧
 (0 : Nat) = (0 : Nat) ∧
 (0 : Nat) = (0 : Nat) ∧
 ((0 : Nat) = (0 : Nat) ∧ x.snd.length + (1 : Nat) = x'.snd.length) ∧ IntKind.i64.wrap ((↑x.fst : Int) + (1 : Int)) = (↑x'.fst : Int) ∧ True) ∧
 (Is (byts b) (byts b) ∧ p = p ∧ True) ∧
 (Is (syms s) (syms s) ∧ True) ∧
 (ByteArray.empty = ByteArray.empty ∧ Is (AV.lit (0 : Nat) (1 : Nat) fun (x x_1 : Nat) => AV.any) nilA ∧ True) ∧
 IsO
 (AObj.arr (x.snd.length + (1 : Nat)) (3 : Nat)
 (joinC x.snd.length (cY x.snd)
 (rowsCell [[st (List.getD s x.fst Pl.dY).fst, ints (List.getD s x.fst Pl.dY).snd.fst, i64 (List.getD s x.fst Pl.dY).snd.snd]])))
 (arY x'.snd) ∧
 True)
 (Exists fun (x' : Nat × List Pl.Sym) =>
 (x'.fst ≤ List.length s ∧ x'.snd.length ≤ x'.fst ∧ Pl.WdB d x'.snd) ∧
 List.length s - x'.fst < List.length s - x.fst ∧
 ((0 : Nat) = (0 : Nat) ∧
 u = u ∧
 d = d ∧
 (0 : Nat) = (0 : Nat) ∧
 (0 : Nat) = (0 : Nat) ∧ ((0 : Nat) = (0 : Nat) ∧ x.snd.length = x'.snd.length) ∧ IntKind.i64.wrap ((↑x.fst : Int) + (1 : Int)) = (↑x'.fst : Int) ∧ True) ∧
 (Is (byts b) (byts b) ∧ p = p ∧ True) ∧
 (Is (syms s) (syms s) ∧ True) ∧
 (ByteArray.empty = ByteArray.empty ∧ Is (AV.lit (0 : Nat) (1 : Nat) fun (x x_1 : Nat) => AV.any) nilA ∧ True) ∧
 IsO (arY x.snd) (arY x'.snd) ∧ True)))
 (Exists fun (x' : Nat × List Pl.Sym) =>
 (x'.fst ≤ List.length s ∧ x'.snd.length ≤ x'.fst ∧ Pl.WdB d x'.snd) ∧
 List.length s - x'.fst < List.length s - x.fst ∧
 ((0 : Nat) = (0 : Nat) ∧
 u = u ∧
 d = d ∧
 (0 : Nat) = (0 : Nat) ∧
 (0 : Nat) = (0 : Nat) ∧ ((0 : Nat) = (0 : Nat) ∧ x.snd.length = x'.snd.length) ∧ IntKind.i64.wrap ((↑x.fst : Int) + (1 : Int)) = (↑x'.fst : Int) ∧ True) ∧
 (Is (byts b) (byts b) ∧ p = p ∧ True) ∧
 (Is (syms s) (syms s) ∧ True) ∧
 (ByteArray.empty = ByteArray.empty ∧ Is (AV.lit (0 : Nat) (1 : Nat) fun (x x_1 : Nat) => AV.any) nilA ∧ True) ∧ IsO (arY x.snd) (arY x'.snd) ∧ True))
 (condP ((↑x.snd.length : Int) == (0 : Int))
 (Exists fun (y : Pl.TP × Int) =>
 (Pl.TmB (Pl.CB d.toNat) y.fst ∧ p ≤ y.snd ∧ y.snd ≤ p + (↑(Pl.CB d.toNat) : Int)) ∧
 ((ByteArray.mk #[(113 : UInt8)] = y.fst.fst ∧ ((0 : Nat) = (0 : Nat) ∧ (0 : Nat) = (0 : Nat) ∧ y.fst.snd.length = (0 : Nat)) ∧ True) ∧ True) ∧
 (Is (byts b) (byts b) ∧ p = y.snd ∧ True) ∧ y.fst.snd.length = (0 : Nat) ∧ True)
 (Exists fun (x_1 : List Int × Int × Int) =>
 Rd (1099511627776 : Int) x_1.fst x_1.snd.fst ∧
 (((0 : Nat) = (0 : Nat) ∧ (↑x.snd.length : Int) = x_1.snd.snd ∧ True) ∧ (Is (byts b) (byts x_1.fst) ∧ p = x_1.snd.fst ∧ True) ∧ True) ∧
 ∀ (y : Int),
 ((1 : Int) ≤ x_1.snd.snd → (0 : Int) ≤ y ∧ y < x_1.snd.snd) ∧ (x_1.snd.snd < (1 : Int) → y = (0 : Int)) →
 ((0 : Int) ≤ y ∧ y < (↑x.snd.length : Int)) ∧
 y.toNat < x.snd.length ∧
 (Exists fun (x_2 : Pl.Sym × Nat × List Pl.Tm × Int) =>
 (Pl.WdB d [x_2.fst] ∧
 x_2.snd.fst ≤ x_2.fst.snd.fst.length ∧
 x_2.snd.snd.fst.length = x_2.snd.fst ∧
 Pl.costTs x_2.snd.snd.fst ≤ x_2.snd.fst * Pl.CB (d - (1 : Int)).toNat ∧
 p ≤ x_2.snd.snd.snd ∧ x_2.snd.snd.snd ≤ p + (1 : Int) + (↑x_2.snd.fst : Int) * (↑(Pl.CB (d - (1 : Int)).toNat) : Int)) ∧
 ((0 : Nat) = (0 : Nat) ∧
 d = d ∧ (0 : Nat) = (0 : Nat) ∧ (0 : Nat) = (0 : Nat) ∧ (0 : Nat) = (0 : Nat) ∧ (0 : Nat) = (0 : Nat) ∧ (0 : Int) = (↑x_2.snd.fst : Int) ∧ True) ∧
 (Is (byts x_1.fst) (byts b) ∧ x_1.snd.fst + (1 : Int) = x_2.snd.snd.snd ∧ True) ∧
 (Is (syms s) (syms s) ∧ True) ∧
 (ByteArray.empty = ByteArray.empty ∧ Is (AV.lit (0 : Nat) (1 : Nat) fun (x x_3 : Nat) => AV.any) nilA ∧ True) ∧
 ((x.snd.getD y.toNat Pl.dY).fst = x_2.fst.fst ∧
 Is (ints (x.snd.getD y.toNat Pl.dY).snd.fst) (ints x_2.fst.snd.fst) ∧ (x.snd.getD y.toNat Pl.dY).snd.snd = x_2.fst.snd.snd ∧ True) ∧
 ((x.snd.getD y.toNat Pl.dY).fst = x_2.fst.fst ∧ ((0 : Nat) = (0 : Nat) ∧ (0 : Nat) = (0 : Nat) ∧ x_2.snd.snd.fst.length = (0 : Nat)) ∧ True) ∧
 x_2.snd.snd.fst.length = (0 : Nat) ∧ True) ∧
 ∀ (x : Pl.Sym × Nat × List Pl.Tm × Int),
 Pl.WdB d [x.fst] ∧
 x.snd.fst ≤ x.fst.snd.fst.length ∧
 x.snd.snd.fst.length = x.snd.fst ∧
 Pl.costTs x.snd.snd.fst ≤ x.snd.fst * Pl.CB (d - (1 : Int)).toNat ∧
 p ≤ x.snd.snd.snd ∧ x.snd.snd.snd ≤ p + (1 : Int) + (↑x.snd.fst : Int) * (↑(Pl.CB (d - (1 : Int)).toNat) : Int) →
 condP (Decidable.decide ((↑x.snd.fst : Int) < (↑x.fst.snd.fst.length : Int)))
 ((((0 : Int) ≤ (↑x.snd.fst : Int) ∧ (↑x.snd.fst : Int) < (↑x.fst.snd.fst.length : Int)) ∧
 x.snd.fst < x.fst.snd.fst.length ∧
 Exists fun (x_2 : AX) =>
 ((Rd (137438953472 : Int) x_2.fst x_2.snd.fst ∧
 x_2.snd.fst + (↑(Pl.CB x_2.snd.snd.snd.snd.toNat) : Int) ≤ (137438953472 : Int) ∧
 Pl.SgB (5 : Nat) (2 : Nat) x_2.snd.snd.fst ∧ x_2.snd.snd.snd.snd ≤ (4 : Int)) ∧
 x_2.snd.snd.snd.snd.toNat < n) ∧
 (((0 : Nat) = (0 : Nat) ∧
 (Is (syms s) (syms x_2.snd.snd.fst) ∧ True) ∧
 x.fst.snd.fst.getD x.snd.fst (0 : Int) = x_2.snd.snd.snd.fst ∧ IntKind.i64.wrap (d - (1 : Int)) = x_2.snd.snd.snd.snd ∧ True) ∧
 (Is (byts b) (byts x_2.fst) ∧ x.snd.snd.snd = x_2.snd.fst ∧ True) ∧ True) ∧
 ∀ (y : Pl.TP × Int),
 Pl.TmB (Pl.CB x_2.snd.snd.snd.snd.toNat) y.fst ∧ x_2.snd.fst ≤ y.snd ∧ y.snd ≤ x_2.snd.fst + (↑(Pl.CB x_2.snd.snd.snd.snd.toNat) : Int) →
 (0 : Nat) + y.fst.snd.length ≤ y.fst.snd.length ∧
 (0 : Nat) + x.snd.snd.fst.length ≤ x.snd.snd.fst.length ∧
 (x.snd.snd.fst.length + (1 : Nat)) * (40 : Nat) ≤ (70368744177664 : Nat) ∧
 Exists fun (x' : Pl.Sym × Nat × List Pl.Tm × Int) =>
 (Pl.WdB d [x'.fst] ∧
 x'.snd.fst ≤ x'.fst.snd.fst.length ∧
 x'.snd.snd.fst.length = x'.snd.fst ∧
 Pl.costTs x'.snd.snd.fst ≤ x'.snd.fst * Pl.CB (d - (1 : Int)).toNat ∧
 p ≤ x'.snd.snd.snd ∧ x'.snd.snd.snd ≤ p + (1 : Int) + (↑x'.snd.fst : Int) * (↑(Pl.CB (d - (1 : Int)).toNat) : Int)) ∧
 x'.fst.snd.fst.length - x'.snd.fst < x.fst.snd.fst.length - x.snd.fst ∧
 ((0 : Nat) = (0 : Nat) ∧
 d = d ∧
 (0 : Nat) = (0 : Nat) ∧
 (0 : Nat) = (0 : Nat) ∧
 (0 : Nat) = (0 : Nat) ∧
 (0 : Nat) = (0 : Nat) ∧ IntKind.i64.wrap ((↑x.snd.fst : Int) + (1 : Int)) = (↑x'.snd.fst : Int) ∧ True) ∧
 (Is (byts x_2.fst) (byts b) ∧ y.snd = x'.snd.snd.snd ∧ True) ∧
 (Is (syms s) (syms s) ∧ True) ∧
 (ByteArray.empty = ByteArray.empty ∧ Is (AV.lit (0 : Nat) (1 : Nat) fun (x x_3 : Nat) => AV.any) nilA ∧ True) ∧
 (x.fst.fst = x'.fst.fst ∧ Is (ints x.fst.snd.fst) (ints x'.fst.snd.fst) ∧ x.fst.snd.snd = x'.fst.snd.snd ∧ True) ∧
 (x.fst.fst = x'.fst.fst ∧ ((0 : Nat) = (0 : Nat) ∧ x.snd.snd.fst.length + (1 : Nat) = x'.snd.snd.fst.length) ∧ True) ∧
 IsO
 (AObj.arr (x.snd.snd.fst.length + (1 : Nat)) (2 : Nat)
 (joinC x.snd.snd.fst.length (cT x.snd.snd.fst) (rowsCell [[st y.fst.fst, terms y.fst.snd]])))
 (arT x'.snd.snd.fst) ∧
 True) ∧
 ((0 : Int) ≤ (↑x.snd.fst : Int) ∧ (↑x.snd.fst : Int) < (↑x.fst.snd.fst.length : Int)) ∧
 x.snd.fst < x.fst.snd.fst.length ∧
 (Exists fun (x_2 : AX) =>
 ((Rd (137438953472 : Int) x_2.fst x_2.snd.fst ∧
 x_2.snd.fst + (↑(Pl.CB x_2.snd.snd.snd.snd.toNat) : Int) ≤ (137438953472 : Int) ∧
 Pl.SgB (5 : Nat) (2 : Nat) x_2.snd.snd.fst ∧ x_2.snd.snd.snd.snd ≤ (4 : Int)) ∧
 x_2.snd.snd.snd.snd.toNat < n) ∧
 (((0 : Nat) = (0 : Nat) ∧
 (Is (syms s) (syms x_2.snd.snd.fst) ∧ True) ∧
 x.fst.snd.fst.getD x.snd.fst (0 : Int) = x_2.snd.snd.snd.fst ∧ IntKind.i64.wrap (d - (1 : Int)) = x_2.snd.snd.snd.snd ∧ True) ∧
 (Is (byts b) (byts x_2.fst) ∧ x.snd.snd.snd = x_2.snd.fst ∧ True) ∧ True) ∧
 ∀ (y : Pl.TP × Int),
 Pl.TmB (Pl.CB x_2.snd.snd.snd.snd.toNat) y.fst ∧ x_2.snd.fst ≤ y.snd ∧ y.snd ≤ x_2.snd.fst + (↑(Pl.CB x_2.snd.snd.snd.snd.toNat) : Int) →
 (0 : Nat) + y.fst.snd.length ≤ y.fst.snd.length ∧
 (0 : Nat) + x.snd.snd.fst.length ≤ x.snd.snd.fst.length ∧
 (x.snd.snd.fst.length + (1 : Nat)) * (40 : Nat) ≤ (70368744177664 : Nat) ∧
 Exists fun (x' : Pl.Sym × Nat × List Pl.Tm × Int) =>
 (Pl.WdB d [x'.fst] ∧
 x'.snd.fst ≤ x'.fst.snd.fst.length ∧
 x'.snd.snd.fst.length = x'.snd.fst ∧
 Pl.costTs x'.snd.snd.fst ≤ x'.snd.fst * Pl.CB (d - (1 : Int)).toNat ∧
 p ≤ x'.snd.snd.snd ∧ x'.snd.snd.snd ≤ p + (1 : Int) + (↑x'.snd.fst : Int) * (↑(Pl.CB (d - (1 : Int)).toNat) : Int)) ∧
 x'.fst.snd.fst.length - x'.snd.fst < x.fst.snd.fst.length - x.snd.fst ∧
 ((0 : Nat) = (0 : Nat) ∧
 d = d ∧
 (0 : Nat) = (0 : Nat) ∧
 (0 : Nat) = (0 : Nat) ∧
 (0 : Nat) = (0 : Nat) ∧
 (0 : Nat) = (0 : Nat) ∧ IntKind.i64.wrap ((↑x.snd.fst : Int) + (1 : Int)) = (↑x'.snd.fst : Int) ∧ True) ∧
 (Is (byts x_2.fst) (byts b) ∧ y.snd = x'.snd.snd.snd ∧ True) ∧
 (Is (syms s) (syms s) ∧ True) ∧
 (ByteArray.empty = ByteArray.empty ∧ Is (AV.lit (0 : Nat) (1 : Nat) fun (x x_3 : Nat) => AV.any) nilA ∧ True) ∧
 (x.fst.fst = x'.fst.fst ∧ Is (ints x.fst.snd.fst) (ints x'.fst.snd.fst) ∧ x.fst.snd.snd = x'.fst.snd.snd ∧ True) ∧
 (x.fst.fst = x'.fst.fst ∧ ((0 : Nat) = (0 : Nat) ∧ x.snd.snd.fst.length + (1 : Nat) = x'.snd.snd.fst.length) ∧ True) ∧
 IsO
 (AObj.arr (x.snd.snd.fst.length + (1 : Nat)) (2 : Nat)
 (joinC x.snd.snd.fst.length (cT x.snd.snd.fst) (rowsCell [[st y.fst.fst, terms y.fst.snd]])))
 (arT x'.snd.snd.fst) ∧
 True) ∧
 Exists fun (x_2 : AX) =>
 ((Rd (137438953472 : Int) x_2.fst x_2.snd.fst ∧
 x_2.snd.fst + (↑(Pl.CB x_2.snd.snd.snd.snd.toNat) : Int) ≤ (137438953472 : Int) ∧
 Pl.SgB (5 : Nat) (2 : Nat) x_2.snd.snd.fst ∧ x_2.snd.snd.snd.snd ≤ (4 : Int)) ∧
 x_2.snd.snd.snd.snd.toNat < n) ∧
 (((0 : Nat) = (0 : Nat) ∧
 (Is (syms s) (syms x_2.snd.snd.fst) ∧ True) ∧
 x.fst.snd.fst.getD x.snd.fst (0 : Int) = x_2.snd.snd.snd.fst ∧ IntKind.i64.wrap (d - (1 : Int)) = x_2.snd.snd.snd.snd ∧ True) ∧
 (Is (byts b) (byts x_2.fst) ∧ x.snd.snd.snd = x_2.snd.fst ∧ True) ∧ True) ∧
 ∀ (y : Pl.TP × Int),
 Pl.TmB (Pl.CB x_2.snd.snd.snd.snd.toNat) y.fst ∧ x_2.snd.fst ≤ y.snd ∧ y.snd ≤ x_2.snd.fst + (↑(Pl.CB x_2.snd.snd.snd.snd.toNat) : Int) →
 (0 : Nat) + y.fst.snd.length ≤ y.fst.snd.length ∧
 (0 : Nat) + x.snd.snd.fst.length ≤ x.snd.snd.fst.length ∧
 (x.snd.snd.fst.length + (1 : Nat)) * (40 : Nat) ≤ (70368744177664 : Nat) ∧
 Exists fun (x' : Pl.Sym × Nat × List Pl.Tm × Int) =>
 (Pl.WdB d [x'.fst] ∧
 x'.snd.fst ≤ x'.fst.snd.fst.length ∧
 x'.snd.snd.fst.length = x'.snd.fst ∧
 Pl.costTs x'.snd.snd.fst ≤ x'.snd.fst * Pl.CB (d - (1 : Int)).toNat ∧
 p ≤ x'.snd.snd.snd ∧ x'.snd.snd.snd ≤ p + (1 : Int) + (↑x'.snd.fst : Int) * (↑(Pl.CB (d - (1 : Int)).toNat) : Int)) ∧
 x'.fst.snd.fst.length - x'.snd.fst < x.fst.snd.fst.length - x.snd.fst ∧
 ((0 : Nat) = (0 : Nat) ∧
 d = d ∧
 (0 : Nat) = (0 : Nat) ∧
 (0 : Nat) = (0 : Nat) ∧
 (0 : Nat) = (0 : Nat) ∧
 (0 : Nat) = (0 : Nat) ∧ IntKind.i64.wrap ((↑x.snd.fst : Int) + (1 : Int)) = (↑x'.snd.fst : Int) ∧ True) ∧
 (Is (byts x_2.fst) (byts b) ∧ y.snd = x'.snd.snd.snd ∧ True) ∧
 (Is (syms s) (syms s) ∧ True) ∧
 (ByteArray.empty = ByteArray.empty ∧ Is (AV.lit (0 : Nat) (1 : Nat) fun (x x_3 : Nat) => AV.any) nilA ∧ True) ∧
 (x.fst.fst = x'.fst.fst ∧ Is (ints x.fst.snd.fst) (ints x'.fst.snd.fst) ∧ x.fst.snd.snd = x'.fst.snd.snd ∧ True) ∧
 (x.fst.fst = x'.fst.fst ∧ ((0 : Nat) = (0 : Nat) ∧ x.snd.snd.fst.length + (1 : Nat) = x'.snd.snd.fst.length) ∧ True) ∧
 IsO
 (AObj.arr (x.snd.snd.fst.length + (1 : Nat)) (2 : Nat)
 (joinC x.snd.snd.fst.length (cT x.snd.snd.fst) (rowsCell [[st y.fst.fst, terms y.fst.snd]])))
 (arT x'.snd.snd.fst) ∧
 True)
 (Exists fun (y : Pl.TP × Int) =>
 (Pl.TmB (Pl.CB d.toNat) y.fst ∧ p ≤ y.snd ∧ y.snd ≤ p + (↑(Pl.CB d.toNat) : Int)) ∧
 ((x.fst.fst = y.fst.fst ∧ ((0 : Nat) = (0 : Nat) ∧ x.snd.snd.fst.length = y.fst.snd.length) ∧ True) ∧ True) ∧
 (Is (byts b) (byts b) ∧ x.snd.snd.snd = y.snd ∧ True) ∧ IsO (arT x.snd.snd.fst) (arT y.fst.snd) ∧ True)))) = Goal Tryz.prog [K_pick, (K_l4Any n)] (A_l4Any b p s u d) (K_l4Any (n + 1)).1 (K_l4Any (n + 1)).2 ((b, p, s, u, d)) := by kernel_rfl

end Cg
