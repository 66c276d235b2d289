/-
  What is left to show of each function's code, printed by a program: Ltr. No condition.
-/
import Derived.Test.YtgobdkgdhmkegaaLtrDefs
import Derived.Test.YtgobdkgdhmkegaaProg
set_option maxRecDepth 100000
set_option linter.unusedVariables false
namespace Cg
open Go Go.Proofs
theorem vc_ownLogI (l : List (List Int)) : ((Exists fun (x : Nat) =>
 x ≤ l.length ∧
 (((0 : Nat) = (0 : Nat) ∧ (0 : Nat) = (0 : Nat) ∧ x = (0 : Nat)) ∧ Is (intss l) (intss l) ∧ (↑l.length : Int) = (↑l.length : Int) ∧ (0 : Int) = (↑x : Int) ∧ True) ∧
 (List.take x l).length = (0 : Nat) ∧ True) ∧
 ∀ (x : Nat),
 x ≤ l.length →
 condP (Decidable.decide ((↑x : Int) < (↑l.length : Int)))
 (((0 : Int) ≤ (↑x : Int) ∧ (↑x : Int) < (↑l.length : Int)) ∧
 x < l.length ∧
 Exists fun (x_1 : List Int) =>
 SzH x_1 ∧
 ((Is (ints (l.getD x [])) (ints x_1) ∧ True) ∧ True) ∧
 ∀ (y : Unit),
 True →
 (0 : Nat) + x_1.length ≤ x_1.length ∧
 (0 : Nat) + x ≤ (List.take x l).length ∧
 (x + (1 : Nat)) * (24 : Nat) ≤ (70368744177664 : Nat) ∧
 Exists fun (x' : Nat) =>
 x' ≤ l.length ∧
 l.length - x' < l.length - x ∧
 (((0 : Nat) = (0 : Nat) ∧ x + (1 : Nat) = x') ∧
 Is (intss l) (intss l) ∧ (↑l.length : Int) = (↑l.length : Int) ∧ IntKind.i64.wrap ((↑x : Int) + (1 : Int)) = (↑x' : Int) ∧ True) ∧
 IsO (AObj.arr (x + (1 : Nat)) (1 : Nat) (joinC x (cII (List.take x l)) (rowsCell [[ints x_1]]))) (arII (List.take x' l)) ∧ True)
 ((0 : Nat) + x ≤ (List.take x l).length ∧ Is (AV.sl x (1 : Nat) (cII (List.take x l))) (intss l))) = Goal Try.prog [K_Clone] (A_ownLogI l) K_ownLogI.1 K_ownLogI.2 (l) := by kernel_rfl

theorem vc_iLogTrim (c : Pl.Cnf) (l : List (List Int)) : (Exists fun (x : Pl.Cnf × List (List Int)) =>
 ((c.fst = x.fst.fst ∧ Is (intss c.snd) (intss x.fst.snd) ∧ True) ∧ Is (intss l) (intss x.snd) ∧ True) ∧
 (SzC x.fst ∧ Sz x.snd ∧ ∀ (y : List Int), y ∈ x.snd → SzH y) ∧
 condP (!Pl.logOk x.fst x.snd) (Is (AV.lit (0 : Nat) (1 : Nat) fun (x x_1 : Nat) => AV.any) (intss (Pl.logTrim c l).fst) ∧ Bool.false = (Pl.logTrim c l).snd ∧ True)
 (Exists fun (x : List (List Int)) =>
 (Is (intss l) (intss x) ∧ True) ∧
 Sz x ∧
 condP (!Pl.logEnds x) (Is (AV.lit (0 : Nat) (1 : Nat) fun (x x_1 : Nat) => AV.any) (intss (Pl.logTrim c l).fst) ∧ Bool.false = (Pl.logTrim c l).snd ∧ True)
 (Exists fun (x : List (List Int)) =>
 (Is (intss l) (intss x) ∧ True) ∧
 (x.length ≤ (1000 : Nat) ∧ ∀ (x_1 : List Int), x_1 ∈ x → x_1.length ≤ (1000 : Nat)) ∧
 (Exists fun (x_1 : Nat × List (List Int)) =>
 Pl.TrimI c l x_1.fst x_1.snd ∧
 (Is (intss l) (intss l) ∧
 (0 : Nat) = (0 : Nat) ∧ Is (intss x) (intss x_1.snd) ∧ IntKind.i64.wrap ((↑l.length : Int) - (2 : Int)) = (↑x_1.fst : Int) - (1 : Int) ∧ True) ∧
 (c.fst = c.fst ∧ Is (intss c.snd) (intss c.snd) ∧ True) ∧ True) ∧
 ∀ (x : Nat × List (List Int)),
 Pl.TrimI c l x.fst x.snd →
 condP (Decidable.decide ((↑x.fst : Int) - (1 : Int) ≥ (0 : Int)))
 (((0 : Int) ≤ (↑x.fst : Int) - (1 : Int) ∧ (↑x.fst : Int) - (1 : Int) ≤ (↑x.snd.length : Int)) ∧
 ((0 : Int) ≤ IntKind.i64.wrap ((↑x.fst : Int) - (1 : Int) + (1 : Int)) ∧ IntKind.i64.wrap ((↑x.fst : Int) - (1 : Int) + (1 : Int)) ≤ (↑x.snd.length : Int)) ∧
 Exists fun (x_1 : List (List (List Int))) =>
 (Is
 (AV.lit (2 : Nat) (1 : Nat)
 (rowsCell
 [[AV.sl ((↑x.fst : Int) - (1 : Int)).toNat (1 : Nat) (cII x.snd)],
 [AV.sl (x.snd.length - (IntKind.i64.wrap ((↑x.fst : Int) - (1 : Int) + (1 : Int))).toNat) (1 : Nat) fun (i j : Nat) =>
 ints (x.snd.getD (i + (IntKind.i64.wrap ((↑x.fst : Int) - (1 : Int) + (1 : Int))).toNat) [])]]))
 (intsss x_1) ∧
 True) ∧
 (x_1.length ≤ (4 : Nat) ∧ ∀ (y : List (List Int)), y ∈ x_1 → y.length ≤ (1073741824 : Nat)) ∧
 Exists fun (x_2 : Pl.Cnf × List (List Int)) =>
 ((c.fst = x_2.fst.fst ∧ Is (intss c.snd) (intss x_2.fst.snd) ∧ True) ∧ Is (intss x_1.flatten) (intss x_2.snd) ∧ True) ∧
 (SzC x_2.fst ∧ Sz x_2.snd ∧ ∀ (y : List Int), y ∈ x_2.snd → SzH y) ∧
 condP (Pl.logOk x_2.fst x_2.snd)
 (Exists fun (x' : Nat × List (List Int)) =>
 Pl.TrimI c l x'.fst x'.snd ∧
 x'.fst < x.fst ∧
 (Is (intss l) (intss l) ∧
 (0 : Nat) = (0 : Nat) ∧
 Is (intss x_1.flatten) (intss x'.snd) ∧
 IntKind.i64.wrap ((↑x.fst : Int) - (1 : Int) - (1 : Int)) = (↑x'.fst : Int) - (1 : Int) ∧ True) ∧
 (c.fst = c.fst ∧ Is (intss c.snd) (intss c.snd) ∧ True) ∧ True)
 (Exists fun (x' : Nat × List (List Int)) =>
 Pl.TrimI c l x'.fst x'.snd ∧
 x'.fst < x.fst ∧
 (Is (intss l) (intss l) ∧
 (0 : Nat) = (0 : Nat) ∧
 Is (intss x.snd) (intss x'.snd) ∧
 IntKind.i64.wrap ((↑x.fst : Int) - (1 : Int) - (1 : Int)) = (↑x'.fst : Int) - (1 : Int) ∧ True) ∧
 (c.fst = c.fst ∧ Is (intss c.snd) (intss c.snd) ∧ True) ∧ True))
 (Is (intss x.snd) (intss (Pl.logTrim c l).fst) ∧ Bool.true = (Pl.logTrim c l).snd ∧ True)))) = Goal Try.prog [K_iLogOk, K_iLogEnds, K_ownLogI, K_ConcatII] (A_iLogTrim c l) K_iLogTrim.1 K_iLogTrim.2 ((c, l)) := by kernel_rfl

theorem vc_sLogTrim (c : Pl.Cnf) (l : List (List Int)) : (Exists fun (x : Pl.Cnf × List (List Int)) =>
 ((c.fst = x.fst.fst ∧ Is (intss c.snd) (intss x.fst.snd) ∧ True) ∧ Is (intss l) (intss x.snd) ∧ True) ∧
 (SzC x.fst ∧ Sz x.snd ∧ ∀ (y : List Int), y ∈ x.snd → SzH y) ∧
 condP (!Pl.logOk x.fst x.snd) (Is (AV.lit (0 : Nat) (1 : Nat) (rowsCell [])) (intss (Pl.logTrim c l).fst) ∧ Bool.false = (Pl.logTrim c l).snd ∧ True)
 (Exists fun (x : List (List Int)) =>
 (Is (intss l) (intss x) ∧ True) ∧
 Sz x ∧
 condP (!Pl.logEnds x) (Is (AV.lit (0 : Nat) (1 : Nat) (rowsCell [])) (intss (Pl.logTrim c l).fst) ∧ Bool.false = (Pl.logTrim c l).snd ∧ True)
 (((0 : Nat) = (0 : Nat) ∨ (0 : Nat) < l.length) ∧
 ((0 : Nat) + l.length) * (24 : Nat) ≤ (70368744177664 : Nat) ∧
 (Exists fun (x : Nat × List (List Int)) =>
 Pl.TrimI c l x.fst x.snd ∧
 (Is (intss l) (intss l) ∧
 (0 : Nat) = (0 : Nat) ∧
 ((0 : Nat) = (0 : Nat) ∧ (0 : Nat) + l.length = x.snd.length) ∧ IntKind.i64.wrap ((↑((0 : Nat) + l.length) : Int) - (2 : Int)) = (↑x.fst : Int) - (1 : Int) ∧ True) ∧
 (c.fst = c.fst ∧ Is (intss c.snd) (intss c.snd) ∧ True) ∧
 IsO (AObj.arr ((0 : Nat) + l.length) (1 : Nat) (joinC (0 : Nat) (rowsCell []) (cII l))) (arII x.snd) ∧ True) ∧
 ∀ (x : Nat × List (List Int)),
 Pl.TrimI c l x.fst x.snd →
 condP (Decidable.decide ((↑x.fst : Int) - (1 : Int) ≥ (0 : Int)))
 ((((0 : Int) ≤ (↑x.fst : Int) - (1 : Int) ∧ (↑x.fst : Int) - (1 : Int) ≤ (↑x.snd.length : Int)) ∧
 ((0 : Nat) + ((↑x.fst : Int) - (1 : Int)).toNat ≤ x.snd.length ∧
 ((0 : Nat) = (0 : Nat) ∨ (0 : Nat) < ((↑x.fst : Int) - (1 : Int)).toNat) ∧
 ((0 : Nat) + ((↑x.fst : Int) - (1 : Int)).toNat) * (24 : Nat) ≤ (70368744177664 : Nat) ∧
 ((0 : Int) ≤ IntKind.i64.wrap ((↑x.fst : Int) - (1 : Int) + (1 : Int)) ∧
 IntKind.i64.wrap ((↑x.fst : Int) - (1 : Int) + (1 : Int)) ≤ (↑x.snd.length : Int)) ∧
 (IntKind.i64.wrap ((↑x.fst : Int) - (1 : Int) + (1 : Int))).toNat + (x.snd.length - (IntKind.i64.wrap ((↑x.fst : Int) - (1 : Int) + (1 : Int))).toNat) ≤
 x.snd.length ∧
 (0 : Nat) + ((0 : Nat) + ((↑x.fst : Int) - (1 : Int)).toNat) ≤ (0 : Nat) + ((↑x.fst : Int) - (1 : Int)).toNat ∧
 ((0 : Nat) + ((↑x.fst : Int) - (1 : Int)).toNat + (x.snd.length - (IntKind.i64.wrap ((↑x.fst : Int) - (1 : Int) + (1 : Int))).toNat)) * (24 : Nat) ≤
 (70368744177664 : Nat) ∧
 (0 : Nat) + ((0 : Nat) + ((↑x.fst : Int) - (1 : Int)).toNat + (x.snd.length - (IntKind.i64.wrap ((↑x.fst : Int) - (1 : Int) + (1 : Int))).toNat)) ≤
 (0 : Nat) + ((↑x.fst : Int) - (1 : Int)).toNat + (x.snd.length - (IntKind.i64.wrap ((↑x.fst : Int) - (1 : Int) + (1 : Int))).toNat) ∧
 Exists fun (x_1 : Pl.Cnf × List (List Int)) =>
 ((c.fst = x_1.fst.fst ∧ Is (intss c.snd) (intss x_1.fst.snd) ∧ True) ∧
 Is
 (AV.sl
 ((0 : Nat) + ((↑x.fst : Int) - (1 : Int)).toNat + (x.snd.length - (IntKind.i64.wrap ((↑x.fst : Int) - (1 : Int) + (1 : Int))).toNat))
 (1 : Nat) fun (i j : Nat) =>
 joinC ((0 : Nat) + ((↑x.fst : Int) - (1 : Int)).toNat) (cII x.snd)
 (fun (i j : Nat) => ints (x.snd.getD (i + (IntKind.i64.wrap ((↑x.fst : Int) - (1 : Int) + (1 : Int))).toNat) [])) i j)
 (intss x_1.snd) ∧
 True) ∧
 (SzC x_1.fst ∧ Sz x_1.snd ∧ ∀ (y : List Int), y ∈ x_1.snd → SzH y) ∧
 condP (Pl.logOk x_1.fst x_1.snd)
 (Exists fun (x' : Nat × List (List Int)) =>
 Pl.TrimI c l x'.fst x'.snd ∧
 x'.fst < x.fst ∧
 (Is (intss l) (intss l) ∧
 (0 : Nat) = (0 : Nat) ∧
 ((0 : Nat) = (0 : Nat) ∧
 (0 : Nat) + ((↑x.fst : Int) - (1 : Int)).toNat +
 (x.snd.length - (IntKind.i64.wrap ((↑x.fst : Int) - (1 : Int) + (1 : Int))).toNat) =
 x'.snd.length) ∧
 IntKind.i64.wrap ((↑x.fst : Int) - (1 : Int) - (1 : Int)) = (↑x'.fst : Int) - (1 : Int) ∧ True) ∧
 (c.fst = c.fst ∧ Is (intss c.snd) (intss c.snd) ∧ True) ∧
 IsO
 (AObj.arr
 ((0 : Nat) + ((↑x.fst : Int) - (1 : Int)).toNat +
 (x.snd.length - (IntKind.i64.wrap ((↑x.fst : Int) - (1 : Int) + (1 : Int))).toNat))
 (1 : Nat)
 (joinC ((0 : Nat) + ((↑x.fst : Int) - (1 : Int)).toNat) (cII x.snd) fun (i j : Nat) =>
 ints (x.snd.getD (i + (IntKind.i64.wrap ((↑x.fst : Int) - (1 : Int) + (1 : Int))).toNat) [])))
 (arII x'.snd) ∧
 True)
 (Exists fun (x' : Nat × List (List Int)) =>
 Pl.TrimI c l x'.fst x'.snd ∧
 x'.fst < x.fst ∧
 (Is (intss l) (intss l) ∧
 (0 : Nat) = (0 : Nat) ∧
 ((0 : Nat) = (0 : Nat) ∧ x.snd.length = x'.snd.length) ∧
 IntKind.i64.wrap ((↑x.fst : Int) - (1 : Int) - (1 : Int)) = (↑x'.fst : Int) - (1 : Int) ∧ True) ∧
 (c.fst = c.fst ∧ Is (intss c.snd) (intss c.snd) ∧ True) ∧ IsO (arII x.snd) (arII x'.snd) ∧ True)) ∧
 ((0 : Int) ≤ IntKind.i64.wrap ((↑x.fst : Int) - (1 : Int) + (1 : Int)) ∧ IntKind.i64.wrap ((↑x.fst : Int) - (1 : Int) + (1 : Int)) ≤ (↑x.snd.length : Int)) ∧
 (0 : Nat) + ((↑x.fst : Int) - (1 : Int)).toNat ≤ x.snd.length ∧
 ((0 : Nat) = (0 : Nat) ∨ (0 : Nat) < ((↑x.fst : Int) - (1 : Int)).toNat) ∧
 ((0 : Nat) + ((↑x.fst : Int) - (1 : Int)).toNat) * (24 : Nat) ≤ (70368744177664 : Nat) ∧
 (IntKind.i64.wrap ((↑x.fst : Int) - (1 : Int) + (1 : Int))).toNat + (x.snd.length - (IntKind.i64.wrap ((↑x.fst : Int) - (1 : Int) + (1 : Int))).toNat) ≤
 x.snd.length ∧
 (0 : Nat) + ((0 : Nat) + ((↑x.fst : Int) - (1 : Int)).toNat) ≤ (0 : Nat) + ((↑x.fst : Int) - (1 : Int)).toNat ∧
 ((0 : Nat) + ((↑x.fst : Int) - (1 : Int)).toNat + (x.snd.length - (IntKind.i64.wrap ((↑x.fst : Int) - (1 : Int) + (1 : Int))).toNat)) * (24 : Nat) ≤
 (70368744177664 : Nat) ∧
 (0 : Nat) + ((0 : Nat) + ((↑x.fst : Int) - (1 : Int)).toNat + (x.snd.length - (IntKind.i64.wrap ((↑x.fst : Int) - (1 : Int) + (1 : Int))).toNat)) ≤
 (0 : Nat) + ((↑x.fst : Int) - (1 : Int)).toNat + (x.snd.length - (IntKind.i64.wrap ((↑x.fst : Int) - (1 : Int) + (1 : Int))).toNat) ∧
 Exists fun (x_1 : Pl.Cnf × List (List Int)) =>
 ((c.fst = x_1.fst.fst ∧ Is (intss c.snd) (intss x_1.fst.snd) ∧ True) ∧
 Is
 (AV.sl
 ((0 : Nat) + ((↑x.fst : Int) - (1 : Int)).toNat + (x.snd.length - (IntKind.i64.wrap ((↑x.fst : Int) - (1 : Int) + (1 : Int))).toNat))
 (1 : Nat) fun (i j : Nat) =>
 joinC ((0 : Nat) + ((↑x.fst : Int) - (1 : Int)).toNat) (cII x.snd)
 (fun (i j : Nat) => ints (x.snd.getD (i + (IntKind.i64.wrap ((↑x.fst : Int) - (1 : Int) + (1 : Int))).toNat) [])) i j)
 (intss x_1.snd) ∧
 True) ∧
 (SzC x_1.fst ∧ Sz x_1.snd ∧ ∀ (y : List Int), y ∈ x_1.snd → SzH y) ∧
 condP (Pl.logOk x_1.fst x_1.snd)
 (Exists fun (x' : Nat × List (List Int)) =>
 Pl.TrimI c l x'.fst x'.snd ∧
 x'.fst < x.fst ∧
 (Is (intss l) (intss l) ∧
 (0 : Nat) = (0 : Nat) ∧
 ((0 : Nat) = (0 : Nat) ∧
 (0 : Nat) + ((↑x.fst : Int) - (1 : Int)).toNat +
 (x.snd.length - (IntKind.i64.wrap ((↑x.fst : Int) - (1 : Int) + (1 : Int))).toNat) =
 x'.snd.length) ∧
 IntKind.i64.wrap ((↑x.fst : Int) - (1 : Int) - (1 : Int)) = (↑x'.fst : Int) - (1 : Int) ∧ True) ∧
 (c.fst = c.fst ∧ Is (intss c.snd) (intss c.snd) ∧ True) ∧
 IsO
 (AObj.arr
 ((0 : Nat) + ((↑x.fst : Int) - (1 : Int)).toNat +
 (x.snd.length - (IntKind.i64.wrap ((↑x.fst : Int) - (1 : Int) + (1 : Int))).toNat))
 (1 : Nat)
 (joinC ((0 : Nat) + ((↑x.fst : Int) - (1 : Int)).toNat) (cII x.snd) fun (i j : Nat) =>
 ints (x.snd.getD (i + (IntKind.i64.wrap ((↑x.fst : Int) - (1 : Int) + (1 : Int))).toNat) [])))
 (arII x'.snd) ∧
 True)
 (Exists fun (x' : Nat × List (List Int)) =>
 Pl.TrimI c l x'.fst x'.snd ∧
 x'.fst < x.fst ∧
 (Is (intss l) (intss l) ∧
 (0 : Nat) = (0 : Nat) ∧
 ((0 : Nat) = (0 : Nat) ∧ x.snd.length = x'.snd.length) ∧
 IntKind.i64.wrap ((↑x.fst : Int) - (1 : Int) - (1 : Int)) = (↑x'.fst : Int) - (1 : Int) ∧ True) ∧
 (c.fst = c.fst ∧ Is (intss c.snd) (intss c.snd) ∧ True) ∧ IsO (arII x.snd) (arII x'.snd) ∧ True)) ∧
 ((0 : Int) ≤ IntKind.i64.wrap ((↑x.fst : Int) - (1 : Int) + (1 : Int)) ∧ IntKind.i64.wrap ((↑x.fst : Int) - (1 : Int) + (1 : Int)) ≤ (↑x.snd.length : Int)) ∧
 ((0 : Int) ≤ (↑x.fst : Int) - (1 : Int) ∧ (↑x.fst : Int) - (1 : Int) ≤ (↑x.snd.length : Int)) ∧
 (0 : Nat) + ((↑x.fst : Int) - (1 : Int)).toNat ≤ x.snd.length ∧
 ((0 : Nat) = (0 : Nat) ∨ (0 : Nat) < ((↑x.fst : Int) - (1 : Int)).toNat) ∧
 ((0 : Nat) + ((↑x.fst : Int) - (1 : Int)).toNat) * (24 : Nat) ≤ (70368744177664 : Nat) ∧
 (IntKind.i64.wrap ((↑x.fst : Int) - (1 : Int) + (1 : Int))).toNat + (x.snd.length - (IntKind.i64.wrap ((↑x.fst : Int) - (1 : Int) + (1 : Int))).toNat) ≤
 x.snd.length ∧
 (0 : Nat) + ((0 : Nat) + ((↑x.fst : Int) - (1 : Int)).toNat) ≤ (0 : Nat) + ((↑x.fst : Int) - (1 : Int)).toNat ∧
 ((0 : Nat) + ((↑x.fst : Int) - (1 : Int)).toNat + (x.snd.length - (IntKind.i64.wrap ((↑x.fst : Int) - (1 : Int) + (1 : Int))).toNat)) * (24 : Nat) ≤
 (70368744177664 : Nat) ∧
 (0 : Nat) + ((0 : Nat) + ((↑x.fst : Int) - (1 : Int)).toNat + (x.snd.length - (IntKind.i64.wrap ((↑x.fst : Int) - (1 : Int) + (1 : Int))).toNat)) ≤
 (0 : Nat) + ((↑x.fst : Int) - (1 : Int)).toNat + (x.snd.length - (IntKind.i64.wrap ((↑x.fst : Int) - (1 : Int) + (1 : Int))).toNat) ∧
 Exists fun (x_1 : Pl.Cnf × List (List Int)) =>
 ((c.fst = x_1.fst.fst ∧ Is (intss c.snd) (intss x_1.fst.snd) ∧ True) ∧
 Is
 (AV.sl
 ((0 : Nat) + ((↑x.fst : Int) - (1 : Int)).toNat + (x.snd.length - (IntKind.i64.wrap ((↑x.fst : Int) - (1 : Int) + (1 : Int))).toNat))
 (1 : Nat) fun (i j : Nat) =>
 joinC ((0 : Nat) + ((↑x.fst : Int) - (1 : Int)).toNat) (cII x.snd)
 (fun (i j : Nat) => ints (x.snd.getD (i + (IntKind.i64.wrap ((↑x.fst : Int) - (1 : Int) + (1 : Int))).toNat) [])) i j)
 (intss x_1.snd) ∧
 True) ∧
 (SzC x_1.fst ∧ Sz x_1.snd ∧ ∀ (y : List Int), y ∈ x_1.snd → SzH y) ∧
 condP (Pl.logOk x_1.fst x_1.snd)
 (Exists fun (x' : Nat × List (List Int)) =>
 Pl.TrimI c l x'.fst x'.snd ∧
 x'.fst < x.fst ∧
 (Is (intss l) (intss l) ∧
 (0 : Nat) = (0 : Nat) ∧
 ((0 : Nat) = (0 : Nat) ∧
 (0 : Nat) + ((↑x.fst : Int) - (1 : Int)).toNat +
 (x.snd.length - (IntKind.i64.wrap ((↑x.fst : Int) - (1 : Int) + (1 : Int))).toNat) =
 x'.snd.length) ∧
 IntKind.i64.wrap ((↑x.fst : Int) - (1 : Int) - (1 : Int)) = (↑x'.fst : Int) - (1 : Int) ∧ True) ∧
 (c.fst = c.fst ∧ Is (intss c.snd) (intss c.snd) ∧ True) ∧
 IsO
 (AObj.arr
 ((0 : Nat) + ((↑x.fst : Int) - (1 : Int)).toNat +
 (x.snd.length - (IntKind.i64.wrap ((↑x.fst : Int) - (1 : Int) + (1 : Int))).toNat))
 (1 : Nat)
 (joinC ((0 : Nat) + ((↑x.fst : Int) - (1 : Int)).toNat) (cII x.snd) fun (i j : Nat) =>
 ints (x.snd.getD (i + (IntKind.i64.wrap ((↑x.fst : Int) - (1 : Int) + (1 : Int))).toNat) [])))
 (arII x'.snd) ∧
 True)
 (Exists fun (x' : Nat × List (List Int)) =>
 Pl.TrimI c l x'.fst x'.snd ∧
 x'.fst < x.fst ∧
 (Is (intss l) (intss l) ∧
 (0 : Nat) = (0 : Nat) ∧
 ((0 : Nat) = (0 : Nat) ∧ x.snd.length = x'.snd.length) ∧
 IntKind.i64.wrap ((↑x.fst : Int) - (1 : Int) - (1 : Int)) = (↑x'.fst : Int) - (1 : Int) ∧ True) ∧
 (c.fst = c.fst ∧ Is (intss c.snd) (intss c.snd) ∧ True) ∧ IsO (arII x.snd) (arII x'.snd) ∧ True))
 ((0 : Nat) + x.snd.length ≤ x.snd.length ∧
 Exists fun (x_1 : List (List Int)) =>
 (x_1.length ≤ (1000 : Nat) ∧ ∀ (x : List Int), x ∈ x_1 → x.length ≤ (1000 : Nat)) ∧
 ((Is (intss x.snd) (intss x_1) ∧ True) ∧ True) ∧
 ∀ (y : Unit), True → (0 : Nat) + x_1.length ≤ x_1.length ∧ Is (intss x_1) (intss (Pl.logTrim c l).fst) ∧ Bool.true = (Pl.logTrim c l).snd ∧ True)))) = Goal Try.prog [K_sLogOk, K_sLogEnds, K_l11CopyZ] (A_sLogTrim c l) K_sLogTrim.1 K_sLogTrim.2 ((c, l)) := by kernel_rfl

theorem vc_yLogTrim (b : List Int) : (condP (Decidable.decide ((↑b.length : Int) > (1048576 : Int))) (Bool.true = Bool.true)
 (Exists fun (x : List Int) =>
 (Sz x ∧ Byt x) ∧
 ((Is (byts b) (byts x) ∧ True) ∧ True) ∧
 ∀ (y : Pl.Cnf × List (List Int)),
 LgOk y →
 Exists fun (x : Pl.Cnf × List (List Int)) =>
 ((y.fst.fst = x.fst.fst ∧ Is (intss y.fst.snd) (intss x.fst.snd) ∧ True) ∧ Is (intss y.snd) (intss x.snd) ∧ True) ∧
 (SzC x.fst ∧ Sz x.snd ∧ ∀ (y : List Int), y ∈ x.snd → SzH y) ∧
 Exists fun (x_1 : Pl.Cnf × List (List Int)) =>
 ((y.fst.fst = x_1.fst.fst ∧ Is (intss y.fst.snd) (intss x_1.fst.snd) ∧ True) ∧ Is (intss y.snd) (intss x_1.snd) ∧ True) ∧
 (SzC x_1.fst ∧ Sz x_1.snd ∧ ∀ (y : List Int), y ∈ x_1.snd → SzH y) ∧
 condP (!(Pl.logTrim x.fst x.snd).snd == (Pl.logTrim x_1.fst x_1.snd).snd)
 (condP ((Pl.logTrim x.fst x.snd).snd == (Pl.logTrim x_1.fst x_1.snd).snd)
 (Exists fun (x_2 : List (List Int) × List (List Int)) =>
 (Is (intss (Pl.logTrim x.fst x.snd).fst) (intss x_2.fst) ∧ Is (intss (Pl.logTrim x_1.fst x_1.snd).fst) (intss x_2.snd) ∧ True) ∧
 (Sz x_2.fst ∧ ∀ (y : List Int), y ∈ x_2.fst → Sz y) ∧ Decidable.decide (x_2.fst = x_2.snd) = Bool.true)
 (Bool.false = Bool.true))
 (Exists fun (x_2 : List (List Int) × List (List Int)) =>
 (Is (intss (Pl.logTrim x.fst x.snd).fst) (intss x_2.fst) ∧ Is (intss (Pl.logTrim x_1.fst x_1.snd).fst) (intss x_2.snd) ∧ True) ∧
 (Sz x_2.fst ∧ ∀ (y : List Int), y ∈ x_2.fst → Sz y) ∧
 condP (!Decidable.decide (x_2.fst = x_2.snd))
 (condP ((Pl.logTrim x.fst x.snd).snd == (Pl.logTrim x_1.fst x_1.snd).snd)
 (Exists fun (x_3 : List (List Int) × List (List Int)) =>
 (Is (intss (Pl.logTrim x.fst x.snd).fst) (intss x_3.fst) ∧ Is (intss (Pl.logTrim x_1.fst x_1.snd).fst) (intss x_3.snd) ∧ True) ∧
 (Sz x_3.fst ∧ ∀ (y : List Int), y ∈ x_3.fst → Sz y) ∧ Decidable.decide (x_3.fst = x_3.snd) = Bool.true)
 (Bool.false = Bool.true))
 (condP (!(Pl.logTrim x.fst x.snd).snd)
 (condP ((Pl.logTrim x.fst x.snd).snd == (Pl.logTrim x_1.fst x_1.snd).snd)
 (Exists fun (x_3 : List (List Int) × List (List Int)) =>
 (Is (intss (Pl.logTrim x.fst x.snd).fst) (intss x_3.fst) ∧ Is (intss (Pl.logTrim x_1.fst x_1.snd).fst) (intss x_3.snd) ∧ True) ∧
 (Sz x_3.fst ∧ ∀ (y : List Int), y ∈ x_3.fst → Sz y) ∧ Decidable.decide (x_3.fst = x_3.snd) = Bool.true)
 (Bool.false = Bool.true))
 (Exists fun (x_3 : Pl.Cnf × List (List Int)) =>
 ((y.fst.fst = x_3.fst.fst ∧ Is (intss y.fst.snd) (intss x_3.fst.snd) ∧ True) ∧ Is (intss (Pl.logTrim x.fst x.snd).fst) (intss x_3.snd) ∧ True) ∧
 (SzC x_3.fst ∧ Sz x_3.snd ∧ ∀ (y : List Int), y ∈ x_3.snd → SzH y) ∧
 condP (Pl.logOk x_3.fst x_3.snd)
 (Exists fun (x_4 : List (List Int)) =>
 (Is (intss (Pl.logTrim x.fst x.snd).fst) (intss x_4) ∧ True) ∧
 Sz x_4 ∧
 condP (Pl.logEnds x_4)
 (condP (Decidable.decide ((↑(Pl.logTrim x.fst x.snd).fst.length : Int) ≤ (↑y.snd.length : Int)))
 (Decidable.decide ((↑(Pl.logTrim x.fst x.snd).fst.length : Int) ≥ (1 : Int)) = Bool.true) (Bool.false = Bool.true))
 (Bool.false = Bool.true))
 (Bool.false = Bool.true)))))) = Goal Try.prog [K_DrawLogTrim, K_iLogTrim, K_sLogTrim, K_wpLog, K_iLogOk, K_iLogEnds] ([]) K_yLogTrim.1 K_yLogTrim.2 (b) := by kernel_rfl

end Cg
