/-
  What the law leans on, part 2. No condition.
-/
import Derived.Test.YtmahkigckeaakaaGreatProg
import Derived.Test.YtmahkigckeaakaaGreatFnModelNoneB1
/-
  What is left to show of each function's code, printed by a program: Mtd. No condition.
-/
set_option maxRecDepth 100000
set_option linter.unusedVariables false
namespace Cg
open Go Go.Proofs
theorem vc_l4Copy (n : Nat) (v : ByteArray) (ks : List Pl.Tm) : ((Exists fun (x : Nat) =>
 x ≤ ks.length ∧
 ((0 : Nat) = (0 : Nat) ∧ (0 : Nat) = (0 : Nat) ∧ (0 : Nat) = (0 : Nat) ∧ (0 : Int) = (↑x : Int) ∧ True) ∧
 (v = v ∧ Is (terms ks) (terms ks) ∧ True) ∧
 (ByteArray.mk #[] = ByteArray.empty ∧ Is (AV.lit (0 : Nat) (1 : Nat) fun (x x_1 : Nat) => AV.any) nilA ∧ True) ∧
 (v = v ∧ ((0 : Nat) = (0 : Nat) ∧ (0 : Nat) = (0 : Nat) ∧ (List.take x ks).length = (0 : Nat)) ∧ True) ∧ (List.take x ks).length = (0 : Nat) ∧ True) ∧
 ∀ (x : Nat),
 x ≤ ks.length →
 condP (Decidable.decide ((↑x : Int) < (↑ks.length : Int)))
 (((0 : Int) ≤ (↑x : Int) ∧ (↑x : Int) < (↑ks.length : Int)) ∧
 x < ks.length ∧
 Exists fun (x_1 : Pl.TP) =>
 ((Pl.Tree.val (ks.getD x Pl.dT) = x_1.fst ∧ Is (kidsT (ks.getD x Pl.dT)) (terms x_1.snd) ∧ True) ∧ True) ∧
 (SmT (Pl.Tree.mk x_1.fst x_1.snd) ∧ Pl.manyL x_1.snd < n) ∧
 (0 : Nat) + (List.take x ks).length ≤ (List.take x ks).length ∧
 ((List.take x ks).length + (1 : Nat)) * (40 : Nat) ≤ (70368744177664 : Nat) ∧
 Exists fun (x' : Nat) =>
 x' ≤ ks.length ∧
 ks.length - x' < ks.length - x ∧
 ((0 : Nat) = (0 : Nat) ∧ (0 : Nat) = (0 : Nat) ∧ (0 : Nat) = (0 : Nat) ∧ IntKind.i64.wrap ((↑x : Int) + (1 : Int)) = (↑x' : Int) ∧ True) ∧
 (v = v ∧ Is (terms ks) (terms ks) ∧ True) ∧
 (ByteArray.empty = ByteArray.empty ∧ Is (AV.lit (0 : Nat) (1 : Nat) fun (x x_2 : Nat) => AV.any) nilA ∧ True) ∧
 (v = v ∧ ((0 : Nat) = (0 : Nat) ∧ (List.take x ks).length + (1 : Nat) = (List.take x' ks).length) ∧ True) ∧
 IsO
 (AObj.arr ((List.take x ks).length + (1 : Nat)) (2 : Nat)
 (joinC (List.take x ks).length (cT (List.take x ks)) (rowsCell [[st x_1.fst, terms x_1.snd]])))
 (arT (List.take x' ks)) ∧
 True)
 ((0 : Nat) + (List.take x ks).length ≤ (List.take x ks).length ∧ v = v ∧ Is (terms (List.take x ks)) (terms ks) ∧ True)) = Goal Tryz.prog [(K_l4Copy n)] (A_l4Copy v ks) (K_l4Copy (n + 1)).1 (K_l4Copy (n + 1)).2 ((v, ks)) := by kernel_rfl

theorem vc_l4CopyO (v : ByteArray) (ks : List Pl.Tm) : ((Exists fun (x : Nat) =>
 x ≤ ks.length ∧
 ((0 : Nat) = (0 : Nat) ∧ (0 : Nat) = (0 : Nat) ∧ (0 : Nat) = (0 : Nat) ∧ (0 : Int) = (↑x : Int) ∧ True) ∧
 IsO (arT ks) (arT ks) ∧
 (v = v ∧ ((0 : Nat) = (0 : Nat) ∧ ks.length = ks.length) ∧ True) ∧
 (ByteArray.mk #[] = ByteArray.empty ∧ Is (AV.lit (0 : Nat) (1 : Nat) fun (x x_1 : Nat) => AV.any) nilA ∧ True) ∧
 (v = v ∧ ((0 : Nat) = (0 : Nat) ∧ (0 : Nat) = (0 : Nat) ∧ (List.take x ks).length = (0 : Nat)) ∧ True) ∧ (List.take x ks).length = (0 : Nat) ∧ True) ∧
 ∀ (x : Nat),
 x ≤ ks.length →
 condP (Decidable.decide ((↑x : Int) < (↑ks.length : Int)))
 (((0 : Int) ≤ (↑x : Int) ∧ (↑x : Int) < (↑ks.length : Int)) ∧
 x < ks.length ∧
 Exists fun (x_1 : Pl.TP) =>
 ((Pl.Tree.val (ks.getD x Pl.dT) = x_1.fst ∧ Is (kidsT (ks.getD x Pl.dT)) (terms x_1.snd) ∧ True) ∧ True) ∧
 SmT (Pl.Tree.mk x_1.fst x_1.snd) ∧
 (0 : Nat) + (List.take x ks).length ≤ (List.take x ks).length ∧
 ((List.take x ks).length + (1 : Nat)) * (40 : Nat) ≤ (70368744177664 : Nat) ∧
 Exists fun (x' : Nat) =>
 x' ≤ ks.length ∧
 ks.length - x' < ks.length - x ∧
 ((0 : Nat) = (0 : Nat) ∧ (0 : Nat) = (0 : Nat) ∧ (0 : Nat) = (0 : Nat) ∧ IntKind.i64.wrap ((↑x : Int) + (1 : Int)) = (↑x' : Int) ∧ True) ∧
 IsO (arT ks) (arT ks) ∧
 (v = v ∧ ((0 : Nat) = (0 : Nat) ∧ ks.length = ks.length) ∧ True) ∧
 (ByteArray.empty = ByteArray.empty ∧ Is (AV.lit (0 : Nat) (1 : Nat) fun (x x_2 : Nat) => AV.any) nilA ∧ True) ∧
 (v = v ∧ ((0 : Nat) = (0 : Nat) ∧ (List.take x ks).length + (1 : Nat) = (List.take x' ks).length) ∧ True) ∧
 IsO
 (AObj.arr ((List.take x ks).length + (1 : Nat)) (2 : Nat)
 (joinC (List.take x ks).length (cT (List.take x ks)) (rowsCell [[st x_1.fst, terms x_1.snd]])))
 (arT (List.take x' ks)) ∧
 True)
 (Exists fun (y : Unit) =>
 True ∧ (0 : Nat) + (List.take x ks).length ≤ (List.take x ks).length ∧ ((v = v ∧ Is (terms (List.take x ks)) (terms ks) ∧ True) ∧ True) ∧ IsO (arT ks) (arT ks) ∧ True)) = Goal Tryz.prog [K_lCopy] (A_l4CopyO v ks) K_l4CopyO.1 K_l4CopyO.2 ((v, ks)) := by kernel_rfl

theorem vc_l4Any (n : Nat) (b : List Int) (p : Int) (s : Pl.Sig) (u d : Int) : ((Exists fun (x : Nat × List Pl.Sym) =>
 (x.fst ≤ List.length s ∧ x.snd.length ≤ x.fst ∧ Pl.WdB d x.snd) ∧
 ((0 : Nat) = (0 : Nat) ∧
 u = u ∧ d = d ∧ (0 : Nat) = (0 : Nat) ∧ (0 : Nat) = (0 : Nat) ∧ ((0 : Nat) = (0 : Nat) ∧ (0 : Nat) = (0 : Nat) ∧ x.snd.length = (0 : Nat)) ∧ (0 : Int) = (↑x.fst : Int) ∧ True) ∧
 (Is (byts b) (byts b) ∧ p = p ∧ True) ∧
 (Is (syms s) (syms s) ∧ True) ∧
 (ByteArray.mk #[] = ByteArray.empty ∧ Is (AV.lit (0 : Nat) (1 : Nat) fun (x x_1 : Nat) => AV.any) nilA ∧ True) ∧ x.snd.length = (0 : Nat) ∧ True) ∧
 ∀ (x : Nat × List Pl.Sym),
 x.fst ≤ List.length s ∧ x.snd.length ≤ x.fst ∧ Pl.WdB d x.snd →
 condP (Decidable.decide ((↑x.fst : Int) < (↑(List.length s) : Int)))
 (((0 : Int) ≤ (↑x.fst : Int) ∧ (↑x.fst : Int) < (↑(List.length s) : Int)) ∧
 x.fst < List.length s ∧
 condP ((List.getD s x.fst Pl.dY).snd.snd == u)
 (condP (Decidable.decide (d > (1 : Int)))
 (((0 : Int) ≤ (↑x.fst : Int) ∧ (↑x.fst : Int) < (↑(List.length s) : Int)) ∧
 x.fst < List.length s ∧
 (0 : Nat) + x.snd.length ≤ x.snd.length ∧
 (x.snd.length + (1 : Nat)) * (48 : Nat) ≤ (70368744177664 : Nat) ∧
 Exists fun (x' : Nat × List Pl.Sym) =>
 (x'.fst ≤ List.length s ∧ x'.snd.length ≤ x'.fst ∧ Pl.WdB d x'.snd) ∧
 List.length s - x'.fst < List.length s - x.fst ∧
 ((0 : Nat) = (0 : Nat) ∧
 u = u ∧
 d = d ∧
 (0 : Nat) = (0 : Nat) ∧
 (0 : Nat) = (0 : Nat) ∧
 ((0 : Nat) = (0 : Nat) ∧ x.snd.length + (1 : Nat) = x'.snd.length) ∧ IntKind.i64.wrap ((↑x.fst : Int) + (1 : Int)) = (↑x'.fst : Int) ∧ True) ∧
 (Is (byts b) (byts b) ∧ p = p ∧ True) ∧
 (Is (syms s) (syms s) ∧ True) ∧
 (ByteArray.empty = ByteArray.empty ∧ Is (AV.lit (0 : Nat) (1 : Nat) fun (x x_1 : Nat) => AV.any) nilA ∧ True) ∧
 IsO
 (AObj.arr (x.snd.length + (1 : Nat)) (3 : Nat)
 (joinC x.snd.length (cY x.snd)
 (rowsCell [[st (List.getD s x.fst Pl.dY).fst, ints (List.getD s x.fst Pl.dY).snd.fst, i64 (List.getD s x.fst Pl.dY).snd.snd]])))
 (arY x'.snd) ∧
 True)
 (((0 : Int) ≤ (↑x.fst : Int) ∧ (↑x.fst : Int) < (↑(List.length s) : Int)) ∧
 x.fst < List.length s ∧
 condP ((↑(List.getD s x.fst Pl.dY).snd.fst.length : Int) == (0 : Int))
 (((0 : Int) ≤ (↑x.fst : Int) ∧ (↑x.fst : Int) < (↑(List.length s) : Int)) ∧
 x.fst < List.length s ∧
 (0 : Nat) + x.snd.length ≤ x.snd.length ∧
 (x.snd.length + (1 : Nat)) * (48 : Nat) ≤ (70368744177664 : Nat) ∧
 Exists fun (x' : Nat × List Pl.Sym) =>
 (x'.fst ≤ List.length s ∧ x'.snd.length ≤ x'.fst ∧ Pl.WdB d x'.snd) ∧
 List.length s - x'.fst < List.length s - x.fst ∧
 ((0 : Nat) = (0 : Nat) ∧
 u = u ∧
 d = d ∧
 (0 : Nat) = (0 : Nat) ∧
 (0 : Nat) = (0 : Nat) ∧
 ((0 : Nat) = (0 : Nat) ∧ x.snd.length + (1 : Nat) = x'.snd.length) ∧ IntKind.i64.wrap ((↑x.fst : Int) + (1 : Int)) = (↑x'.fst : Int) ∧ True) ∧
 (Is (byts b) (byts b) ∧ p = p ∧ True) ∧
 (Is (syms s) (syms s) ∧ True) ∧
 (ByteArray.empty = ByteArray.empty ∧ Is (AV.lit (0 : Nat) (1 : Nat) fun (x x_1 : Nat) => AV.any) nilA ∧ True) ∧
 IsO
 (AObj.arr (x.snd.length + (1 : Nat)) (3 : Nat)
 (joinC x.snd.length (cY x.snd)
 (rowsCell [[st (List.getD s x.fst Pl.dY).fst, ints (List.getD s x.fst Pl.dY).snd.fst, i64 (List.getD s x.fst Pl.dY).snd.snd]])))
 (arY x'.snd) ∧
 True)
 (Exists fun (x' : Nat × List Pl.Sym) =>
 (x'.fst ≤ List.length s ∧ x'.snd.length ≤ x'.fst ∧ Pl.WdB d x'.snd) ∧
 List.length s - x'.fst < List.length s - x.fst ∧
 ((0 : Nat) = (0 : Nat) ∧
 u = u ∧
 d = d ∧
 (0 : Nat) = (0 : Nat) ∧
 (0 : Nat) = (0 : Nat) ∧ ((0 : Nat) = (0 : Nat) ∧ x.snd.length = x'.snd.length) ∧ IntKind.i64.wrap ((↑x.fst : Int) + (1 : Int)) = (↑x'.fst : Int) ∧ True) ∧
 (Is (byts b) (byts b) ∧ p = p ∧ True) ∧
 (Is (syms s) (syms s) ∧ True) ∧
 (ByteArray.empty = ByteArray.empty ∧ Is (AV.lit (0 : Nat) (1 : Nat) fun (x x_1 : Nat) => AV.any) nilA ∧ True) ∧
 IsO (arY x.snd) (arY x'.snd) ∧ True)))
 (Exists fun (x' : Nat × List Pl.Sym) =>
 (x'.fst ≤ List.length s ∧ x'.snd.length ≤ x'.fst ∧ Pl.WdB d x'.snd) ∧
 List.length s - x'.fst < List.length s - x.fst ∧
 ((0 : Nat) = (0 : Nat) ∧
 u = u ∧
 d = d ∧
 (0 : Nat) = (0 : Nat) ∧
 (0 : Nat) = (0 : Nat) ∧ ((0 : Nat) = (0 : Nat) ∧ x.snd.length = x'.snd.length) ∧ IntKind.i64.wrap ((↑x.fst : Int) + (1 : Int)) = (↑x'.fst : Int) ∧ True) ∧
 (Is (byts b) (byts b) ∧ p = p ∧ True) ∧
 (Is (syms s) (syms s) ∧ True) ∧
 (ByteArray.empty = ByteArray.empty ∧ Is (AV.lit (0 : Nat) (1 : Nat) fun (x x_1 : Nat) => AV.any) nilA ∧ True) ∧ IsO (arY x.snd) (arY x'.snd) ∧ True))
 (condP ((↑x.snd.length : Int) == (0 : Int))
 (Exists fun (y : Pl.TP × Int) =>
 (Pl.TmB (Pl.CB d.toNat) y.fst ∧ p ≤ y.snd ∧ y.snd ≤ p + (↑(Pl.CB d.toNat) : Int)) ∧
 ((ByteArray.mk #[(113 : UInt8)] = y.fst.fst ∧ ((0 : Nat) = (0 : Nat) ∧ (0 : Nat) = (0 : Nat) ∧ y.fst.snd.length = (0 : Nat)) ∧ True) ∧ True) ∧
 (Is (byts b) (byts b) ∧ p = y.snd ∧ True) ∧ y.fst.snd.length = (0 : Nat) ∧ True)
 (Exists fun (x_1 : List Int × Int × Int) =>
 Rd (1099511627776 : Int) x_1.fst x_1.snd.fst ∧
 (((0 : Nat) = (0 : Nat) ∧ (↑x.snd.length : Int) = x_1.snd.snd ∧ True) ∧ (Is (byts b) (byts x_1.fst) ∧ p = x_1.snd.fst ∧ True) ∧ True) ∧
 ∀ (y : Int),
 ((1 : Int) ≤ x_1.snd.snd → (0 : Int) ≤ y ∧ y < x_1.snd.snd) ∧ (x_1.snd.snd < (1 : Int) → y = (0 : Int)) →
 ((0 : Int) ≤ y ∧ y < (↑x.snd.length : Int)) ∧
 y.toNat < x.snd.length ∧
 (Exists fun (x_2 : Pl.Sym × Nat × List Pl.Tm × Int) =>
 (Pl.WdB d [x_2.fst] ∧
 x_2.snd.fst ≤ x_2.fst.snd.fst.length ∧
 x_2.snd.snd.fst.length = x_2.snd.fst ∧
 Pl.costTs x_2.snd.snd.fst ≤ x_2.snd.fst * Pl.CB (d - (1 : Int)).toNat ∧
 p ≤ x_2.snd.snd.snd ∧ x_2.snd.snd.snd ≤ p + (1 : Int) + (↑x_2.snd.fst : Int) * (↑(Pl.CB (d - (1 : Int)).toNat) : Int)) ∧
 ((0 : Nat) = (0 : Nat) ∧
 d = d ∧ (0 : Nat) = (0 : Nat) ∧ (0 : Nat) = (0 : Nat) ∧ (0 : Nat) = (0 : Nat) ∧ (0 : Nat) = (0 : Nat) ∧ (0 : Int) = (↑x_2.snd.fst : Int) ∧ True) ∧
 (Is (byts x_1.fst) (byts b) ∧ x_1.snd.fst + (1 : Int) = x_2.snd.snd.snd ∧ True) ∧
 (Is (syms s) (syms s) ∧ True) ∧
 (ByteArray.empty = ByteArray.empty ∧ Is (AV.lit (0 : Nat) (1 : Nat) fun (x x_3 : Nat) => AV.any) nilA ∧ True) ∧
 ((x.snd.getD y.toNat Pl.dY).fst = x_2.fst.fst ∧
 Is (ints (x.snd.getD y.toNat Pl.dY).snd.fst) (ints x_2.fst.snd.fst) ∧ (x.snd.getD y.toNat Pl.dY).snd.snd = x_2.fst.snd.snd ∧ True) ∧
 ((x.snd.getD y.toNat Pl.dY).fst = x_2.fst.fst ∧ ((0 : Nat) = (0 : Nat) ∧ (0 : Nat) = (0 : Nat) ∧ x_2.snd.snd.fst.length = (0 : Nat)) ∧ True) ∧
 x_2.snd.snd.fst.length = (0 : Nat) ∧ True) ∧
 ∀ (x : Pl.Sym × Nat × List Pl.Tm × Int),
 Pl.WdB d [x.fst] ∧
 x.snd.fst ≤ x.fst.snd.fst.length ∧
 x.snd.snd.fst.length = x.snd.fst ∧
 Pl.costTs x.snd.snd.fst ≤ x.snd.fst * Pl.CB (d - (1 : Int)).toNat ∧
 p ≤ x.snd.snd.snd ∧ x.snd.snd.snd ≤ p + (1 : Int) + (↑x.snd.fst : Int) * (↑(Pl.CB (d - (1 : Int)).toNat) : Int) →
 condP (Decidable.decide ((↑x.snd.fst : Int) < (↑x.fst.snd.fst.length : Int)))
 ((((0 : Int) ≤ (↑x.snd.fst : Int) ∧ (↑x.snd.fst : Int) < (↑x.fst.snd.fst.length : Int)) ∧
 x.snd.fst < x.fst.snd.fst.length ∧
 Exists fun (x_2 : AX) =>
 ((Rd (137438953472 : Int) x_2.fst x_2.snd.fst ∧
 x_2.snd.fst + (↑(Pl.CB x_2.snd.snd.snd.snd.toNat) : Int) ≤ (137438953472 : Int) ∧
 Pl.SgB (5 : Nat) (2 : Nat) x_2.snd.snd.fst ∧ x_2.snd.snd.snd.snd ≤ (4 : Int)) ∧
 x_2.snd.snd.snd.snd.toNat < n) ∧
 (((0 : Nat) = (0 : Nat) ∧
 (Is (syms s) (syms x_2.snd.snd.fst) ∧ True) ∧
 x.fst.snd.fst.getD x.snd.fst (0 : Int) = x_2.snd.snd.snd.fst ∧ IntKind.i64.wrap (d - (1 : Int)) = x_2.snd.snd.snd.snd ∧ True) ∧
 (Is (byts b) (byts x_2.fst) ∧ x.snd.snd.snd = x_2.snd.fst ∧ True) ∧ True) ∧
 ∀ (y : Pl.TP × Int),
 Pl.TmB (Pl.CB x_2.snd.snd.snd.snd.toNat) y.fst ∧ x_2.snd.fst ≤ y.snd ∧ y.snd ≤ x_2.snd.fst + (↑(Pl.CB x_2.snd.snd.snd.snd.toNat) : Int) →
 (0 : Nat) + y.fst.snd.length ≤ y.fst.snd.length ∧
 (0 : Nat) + x.snd.snd.fst.length ≤ x.snd.snd.fst.length ∧
 (x.snd.snd.fst.length + (1 : Nat)) * (40 : Nat) ≤ (70368744177664 : Nat) ∧
 Exists fun (x' : Pl.Sym × Nat × List Pl.Tm × Int) =>
 (Pl.WdB d [x'.fst] ∧
 x'.snd.fst ≤ x'.fst.snd.fst.length ∧
 x'.snd.snd.fst.length = x'.snd.fst ∧
 Pl.costTs x'.snd.snd.fst ≤ x'.snd.fst * Pl.CB (d - (1 : Int)).toNat ∧
 p ≤ x'.snd.snd.snd ∧ x'.snd.snd.snd ≤ p + (1 : Int) + (↑x'.snd.fst : Int) * (↑(Pl.CB (d - (1 : Int)).toNat) : Int)) ∧
 x'.fst.snd.fst.length - x'.snd.fst < x.fst.snd.fst.length - x.snd.fst ∧
 ((0 : Nat) = (0 : Nat) ∧
 d = d ∧
 (0 : Nat) = (0 : Nat) ∧
 (0 : Nat) = (0 : Nat) ∧
 (0 : Nat) = (0 : Nat) ∧
 (0 : Nat) = (0 : Nat) ∧ IntKind.i64.wrap ((↑x.snd.fst : Int) + (1 : Int)) = (↑x'.snd.fst : Int) ∧ True) ∧
 (Is (byts x_2.fst) (byts b) ∧ y.snd = x'.snd.snd.snd ∧ True) ∧
 (Is (syms s) (syms s) ∧ True) ∧
 (ByteArray.empty = ByteArray.empty ∧ Is (AV.lit (0 : Nat) (1 : Nat) fun (x x_3 : Nat) => AV.any) nilA ∧ True) ∧
 (x.fst.fst = x'.fst.fst ∧ Is (ints x.fst.snd.fst) (ints x'.fst.snd.fst) ∧ x.fst.snd.snd = x'.fst.snd.snd ∧ True) ∧
 (x.fst.fst = x'.fst.fst ∧ ((0 : Nat) = (0 : Nat) ∧ x.snd.snd.fst.length + (1 : Nat) = x'.snd.snd.fst.length) ∧ True) ∧
 IsO
 (AObj.arr (x.snd.snd.fst.length + (1 : Nat)) (2 : Nat)
 (joinC x.snd.snd.fst.length (cT x.snd.snd.fst) (rowsCell [[st y.fst.fst, terms y.fst.snd]])))
 (arT x'.snd.snd.fst) ∧
 True) ∧
 ((0 : Int) ≤ (↑x.snd.fst : Int) ∧ (↑x.snd.fst : Int) < (↑x.fst.snd.fst.length : Int)) ∧
 x.snd.fst < x.fst.snd.fst.length ∧
 (Exists fun (x_2 : AX) =>
 ((Rd (137438953472 : Int) x_2.fst x_2.snd.fst ∧
 x_2.snd.fst + (↑(Pl.CB x_2.snd.snd.snd.snd.toNat) : Int) ≤ (137438953472 : Int) ∧
 Pl.SgB (5 : Nat) (2 : Nat) x_2.snd.snd.fst ∧ x_2.snd.snd.snd.snd ≤ (4 : Int)) ∧
 x_2.snd.snd.snd.snd.toNat < n) ∧
 (((0 : Nat) = (0 : Nat) ∧
 (Is (syms s) (syms x_2.snd.snd.fst) ∧ True) ∧
 x.fst.snd.fst.getD x.snd.fst (0 : Int) = x_2.snd.snd.snd.fst ∧ IntKind.i64.wrap (d - (1 : Int)) = x_2.snd.snd.snd.snd ∧ True) ∧
 (Is (byts b) (byts x_2.fst) ∧ x.snd.snd.snd = x_2.snd.fst ∧ True) ∧ True) ∧
 ∀ (y : Pl.TP × Int),
 Pl.TmB (Pl.CB x_2.snd.snd.snd.snd.toNat) y.fst ∧ x_2.snd.fst ≤ y.snd ∧ y.snd ≤ x_2.snd.fst + (↑(Pl.CB x_2.snd.snd.snd.snd.toNat) : Int) →
 (0 : Nat) + y.fst.snd.length ≤ y.fst.snd.length ∧
 (0 : Nat) + x.snd.snd.fst.length ≤ x.snd.snd.fst.length ∧
 (x.snd.snd.fst.length + (1 : Nat)) * (40 : Nat) ≤ (70368744177664 : Nat) ∧
 Exists fun (x' : Pl.Sym × Nat × List Pl.Tm × Int) =>
 (Pl.WdB d [x'.fst] ∧
 x'.snd.fst ≤ x'.fst.snd.fst.length ∧
 x'.snd.snd.fst.length = x'.snd.fst ∧
 Pl.costTs x'.snd.snd.fst ≤ x'.snd.fst * Pl.CB (d - (1 : Int)).toNat ∧
 p ≤ x'.snd.snd.snd ∧ x'.snd.snd.snd ≤ p + (1 : Int) + (↑x'.snd.fst : Int) * (↑(Pl.CB (d - (1 : Int)).toNat) : Int)) ∧
 x'.fst.snd.fst.length - x'.snd.fst < x.fst.snd.fst.length - x.snd.fst ∧
 ((0 : Nat) = (0 : Nat) ∧
 d = d ∧
 (0 : Nat) = (0 : Nat) ∧
 (0 : Nat) = (0 : Nat) ∧
 (0 : Nat) = (0 : Nat) ∧
 (0 : Nat) = (0 : Nat) ∧ IntKind.i64.wrap ((↑x.snd.fst : Int) + (1 : Int)) = (↑x'.snd.fst : Int) ∧ True) ∧
 (Is (byts x_2.fst) (byts b) ∧ y.snd = x'.snd.snd.snd ∧ True) ∧
 (Is (syms s) (syms s) ∧ True) ∧
 (ByteArray.empty = ByteArray.empty ∧ Is (AV.lit (0 : Nat) (1 : Nat) fun (x x_3 : Nat) => AV.any) nilA ∧ True) ∧
 (x.fst.fst = x'.fst.fst ∧ Is (ints x.fst.snd.fst) (ints x'.fst.snd.fst) ∧ x.fst.snd.snd = x'.fst.snd.snd ∧ True) ∧
 (x.fst.fst = x'.fst.fst ∧ ((0 : Nat) = (0 : Nat) ∧ x.snd.snd.fst.length + (1 : Nat) = x'.snd.snd.fst.length) ∧ True) ∧
 IsO
 (AObj.arr (x.snd.snd.fst.length + (1 : Nat)) (2 : Nat)
 (joinC x.snd.snd.fst.length (cT x.snd.snd.fst) (rowsCell [[st y.fst.fst, terms y.fst.snd]])))
 (arT x'.snd.snd.fst) ∧
 True) ∧
 Exists fun (x_2 : AX) =>
 ((Rd (137438953472 : Int) x_2.fst x_2.snd.fst ∧
 x_2.snd.fst + (↑(Pl.CB x_2.snd.snd.snd.snd.toNat) : Int) ≤ (137438953472 : Int) ∧
 Pl.SgB (5 : Nat) (2 : Nat) x_2.snd.snd.fst ∧ x_2.snd.snd.snd.snd ≤ (4 : Int)) ∧
 x_2.snd.snd.snd.snd.toNat < n) ∧
 (((0 : Nat) = (0 : Nat) ∧
 (Is (syms s) (syms x_2.snd.snd.fst) ∧ True) ∧
 x.fst.snd.fst.getD x.snd.fst (0 : Int) = x_2.snd.snd.snd.fst ∧ IntKind.i64.wrap (d - (1 : Int)) = x_2.snd.snd.snd.snd ∧ True) ∧
 (Is (byts b) (byts x_2.fst) ∧ x.snd.snd.snd = x_2.snd.fst ∧ True) ∧ True) ∧
 ∀ (y : Pl.TP × Int),
 Pl.TmB (Pl.CB x_2.snd.snd.snd.snd.toNat) y.fst ∧ x_2.snd.fst ≤ y.snd ∧ y.snd ≤ x_2.snd.fst + (↑(Pl.CB x_2.snd.snd.snd.snd.toNat) : Int) →
 (0 : Nat) + y.fst.snd.length ≤ y.fst.snd.length ∧
 (0 : Nat) + x.snd.snd.fst.length ≤ x.snd.snd.fst.length ∧
 (x.snd.snd.fst.length + (1 : Nat)) * (40 : Nat) ≤ (70368744177664 : Nat) ∧
 Exists fun (x' : Pl.Sym × Nat × List Pl.Tm × Int) =>
 (Pl.WdB d [x'.fst] ∧
 x'.snd.fst ≤ x'.fst.snd.fst.length ∧
 x'.snd.snd.fst.length = x'.snd.fst ∧
 Pl.costTs x'.snd.snd.fst ≤ x'.snd.fst * Pl.CB (d - (1 : Int)).toNat ∧
 p ≤ x'.snd.snd.snd ∧ x'.snd.snd.snd ≤ p + (1 : Int) + (↑x'.snd.fst : Int) * (↑(Pl.CB (d - (1 : Int)).toNat) : Int)) ∧
 x'.fst.snd.fst.length - x'.snd.fst < x.fst.snd.fst.length - x.snd.fst ∧
 ((0 : Nat) = (0 : Nat) ∧
 d = d ∧
 (0 : Nat) = (0 : Nat) ∧
 (0 : Nat) = (0 : Nat) ∧
 (0 : Nat) = (0 : Nat) ∧
 (0 : Nat) = (0 : Nat) ∧ IntKind.i64.wrap ((↑x.snd.fst : Int) + (1 : Int)) = (↑x'.snd.fst : Int) ∧ True) ∧
 (Is (byts x_2.fst) (byts b) ∧ y.snd = x'.snd.snd.snd ∧ True) ∧
 (Is (syms s) (syms s) ∧ True) ∧
 (ByteArray.empty = ByteArray.empty ∧ Is (AV.lit (0 : Nat) (1 : Nat) fun (x x_3 : Nat) => AV.any) nilA ∧ True) ∧
 (x.fst.fst = x'.fst.fst ∧ Is (ints x.fst.snd.fst) (ints x'.fst.snd.fst) ∧ x.fst.snd.snd = x'.fst.snd.snd ∧ True) ∧
 (x.fst.fst = x'.fst.fst ∧ ((0 : Nat) = (0 : Nat) ∧ x.snd.snd.fst.length + (1 : Nat) = x'.snd.snd.fst.length) ∧ True) ∧
 IsO
 (AObj.arr (x.snd.snd.fst.length + (1 : Nat)) (2 : Nat)
 (joinC x.snd.snd.fst.length (cT x.snd.snd.fst) (rowsCell [[st y.fst.fst, terms y.fst.snd]])))
 (arT x'.snd.snd.fst) ∧
 True)
 (Exists fun (y : Pl.TP × Int) =>
 (Pl.TmB (Pl.CB d.toNat) y.fst ∧ p ≤ y.snd ∧ y.snd ≤ p + (↑(Pl.CB d.toNat) : Int)) ∧
 ((x.fst.fst = y.fst.fst ∧ ((0 : Nat) = (0 : Nat) ∧ x.snd.snd.fst.length = y.fst.snd.length) ∧ True) ∧ True) ∧
 (Is (byts b) (byts b) ∧ x.snd.snd.snd = y.snd ∧ True) ∧ IsO (arT x.snd.snd.fst) (arT y.fst.snd) ∧ True)))) = Goal Tryz.prog [K_pick, (K_l4Any n)] (A_l4Any b p s u d) (K_l4Any (n + 1)).1 (K_l4Any (n + 1)).2 ((b, p, s, u, d)) := by kernel_rfl

theorem vc_l4Some (b : List Int) (p : Int) (s : Pl.Sig) : (((Exists fun (x : List Int × Int × Int) =>
 Rd (1099511627776 : Int) x.fst x.snd.fst ∧
 (((0 : Nat) = (0 : Nat) ∧ (2 : Int) = x.snd.snd ∧ True) ∧ (Is (byts b) (byts x.fst) ∧ p = x.snd.fst ∧ True) ∧ True) ∧
 ∀ (y : Int),
 ((1 : Int) ≤ x.snd.snd → (0 : Int) ≤ y ∧ y < x.snd.snd) ∧ (x.snd.snd < (1 : Int) → y = (0 : Int)) →
 (Exists fun (x_1 : List Int × Int × List Int) =>
 (Rd (1099511627776 : Int) x_1.fst x_1.snd.fst ∧ x_1.snd.snd ≠ [] ∧ Sz x_1.snd.snd) ∧
 (((0 : Nat) = (0 : Nat) ∧
 Is (AV.lit (4 : Nat) (1 : Nat) (rowsCell [[i64 (2 : Int)], [i64 (3 : Int)], [i64 (1 : Int)], [i64 (4 : Int)]])) (ints x_1.snd.snd) ∧ True) ∧
 (Is (byts x.fst) (byts x_1.fst) ∧ x.snd.fst + (1 : Int) = x_1.snd.fst ∧ True) ∧ True) ∧
 ∀ (y_1 : Int),
 y_1 ∈ x_1.snd.snd →
 (Exists fun (x : AX) =>
 (Rd (137438953472 : Int) x.fst x.snd.fst ∧
 x.snd.fst + (↑(Pl.CB x.snd.snd.snd.snd.toNat) : Int) ≤ (137438953472 : Int) ∧ Pl.SgB (5 : Nat) (2 : Nat) x.snd.snd.fst ∧ x.snd.snd.snd.snd ≤ (4 : Int)) ∧
 (((0 : Nat) = (0 : Nat) ∧ (Is (syms s) (syms x.snd.snd.fst) ∧ True) ∧ y = x.snd.snd.snd.fst ∧ y_1 = x.snd.snd.snd.snd ∧ True) ∧
 (Is (byts x_1.fst) (byts x.fst) ∧ x_1.snd.fst + (1 : Int) = x.snd.fst ∧ True) ∧ True) ∧
 ∀ (y : Pl.TP × Int),
 Pl.TmB (Pl.CB x.snd.snd.snd.snd.toNat) y.fst ∧ x.snd.fst ≤ y.snd ∧ y.snd ≤ x.snd.fst + (↑(Pl.CB x.snd.snd.snd.snd.toNat) : Int) →
 Exists fun (x_2 : List Int × Int × Int) =>
 Rd (1099511627776 : Int) x_2.fst x_2.snd.fst ∧
 (((0 : Nat) = (0 : Nat) ∧ (48 : Int) = x_2.snd.snd ∧ True) ∧ (Is (byts x.fst) (byts x_2.fst) ∧ y.snd = x_2.snd.fst ∧ True) ∧ True) ∧
 ∀ (y_2 : Int),
 ((1 : Int) ≤ x_2.snd.snd → (0 : Int) ≤ y_2 ∧ y_2 < x_2.snd.snd) ∧ (x_2.snd.snd < (1 : Int) → y_2 = (0 : Int)) →
 condP (y_2 == (0 : Int))
 (Exists fun (x : List Int × Int × List ByteArray) =>
 (Rd (1099511627776 : Int) x.fst x.snd.fst ∧ x.snd.snd ≠ [] ∧ Sz x.snd.snd) ∧
 (((0 : Nat) = (0 : Nat) ∧
 Is
 (AV.lit (4 : Nat) (1 : Nat)
 (rowsCell
 [[st (ByteArray.mk #[])], [st (ByteArray.mk #[(65 : UInt8)])],
 [st (ByteArray.mk #[(97 : UInt8), (98 : UInt8), (99 : UInt8)])], [st (ByteArray.mk #[(102 : UInt8)])]]))
 (strs x.snd.snd) ∧
 True) ∧
 (Is (byts x_2.fst) (byts x.fst) ∧ x_2.snd.fst + (1 : Int) = x.snd.fst ∧ True) ∧ True) ∧
 ∀ (y_3 : ByteArray),
 y_3 ∈ x.snd.snd →
 Exists fun (y_4 : Pl.TP × Int) =>
 (Pl.TmB (1500 : Nat) y_4.fst ∧ p ≤ y_4.snd ∧ y_4.snd ≤ p + (500 : Int)) ∧
 (0 : Nat) + y.fst.snd.length ≤ y.fst.snd.length ∧
 ((y_3 = y_4.fst.fst ∧ Is (terms y.fst.snd) (terms y_4.fst.snd) ∧ True) ∧ True) ∧
 (Is (byts x.fst) (byts b) ∧ x.snd.fst + (1 : Int) = y_4.snd ∧ True) ∧ True)
 (condP (y_2 == (1 : Int))
 (Exists fun (x : Pl.TP) =>
 SmT (Pl.Tree.mk x.fst x.snd) ∧
 (((y.fst.fst = x.fst ∧ ((0 : Nat) = (0 : Nat) ∧ y.fst.snd.length = x.snd.length) ∧ True) ∧ True) ∧
 IsO (arT y.fst.snd) (arT x.snd) ∧ True) ∧
 ∀ (y_3 : Unit),
 True →
 (0 : Nat) + y.fst.snd.length ≤ x.snd.length ∧
 (y.fst.snd.length + (1 : Nat)) * (40 : Nat) ≤ (70368744177664 : Nat) ∧
 Exists fun (y_4 : Pl.TP × Int) =>
 (Pl.TmB (1500 : Nat) y_4.fst ∧ p ≤ y_4.snd ∧ y_4.snd ≤ p + (500 : Int)) ∧
 (0 : Nat) + (y.fst.snd.length + (1 : Nat)) ≤ y.fst.snd.length + (1 : Nat) ∧
 ((y.fst.fst = y_4.fst.fst ∧
 Is
 (AV.sl (y.fst.snd.length + (1 : Nat)) (2 : Nat) fun (i j : Nat) =>
 joinC y.fst.snd.length (cT x.snd) (rowsCell [[st x.fst, terms x.snd]]) i j)
 (terms y_4.fst.snd) ∧
 True) ∧
 True) ∧
 (Is (byts x_2.fst) (byts b) ∧ x_2.snd.fst + (1 : Int) = y_4.snd ∧ True) ∧ True)
 (condP (y_2 == (2 : Int))
 (Exists fun (x : Pl.TP) =>
 SmT (Pl.Tree.mk x.fst x.snd) ∧
 (((y.fst.fst = x.fst ∧ ((0 : Nat) = (0 : Nat) ∧ y.fst.snd.length = x.snd.length) ∧ True) ∧ True) ∧
 IsO (arT y.fst.snd) (arT x.snd) ∧ True) ∧
 ∀ (y_3 : Unit),
 True →
 Exists fun (x_3 : Pl.TP) =>
 SmT (Pl.Tree.mk x_3.fst x_3.snd) ∧
 (((y.fst.fst = x_3.fst ∧ ((0 : Nat) = (0 : Nat) ∧ y.fst.snd.length = x_3.snd.length) ∧ True) ∧ True) ∧
 IsO (arT x.snd) (arT x_3.snd) ∧ True) ∧
 ∀ (y_4 : Unit),
 True →
 (0 : Nat) + y.fst.snd.length ≤ x_3.snd.length ∧
 (y.fst.snd.length + (2 : Nat)) * (40 : Nat) ≤ (70368744177664 : Nat) ∧
 Exists fun (y_5 : Pl.TP × Int) =>
 (Pl.TmB (1500 : Nat) y_5.fst ∧ p ≤ y_5.snd ∧ y_5.snd ≤ p + (500 : Int)) ∧
 (0 : Nat) + (y.fst.snd.length + (2 : Nat)) ≤ y.fst.snd.length + (2 : Nat) ∧
 ((y.fst.fst = y_5.fst.fst ∧
 Is
 (AV.sl (y.fst.snd.length + (2 : Nat)) (2 : Nat) fun (i j : Nat) =>
 joinC y.fst.snd.length (cT x_3.snd)
 (rowsCell [[st x.fst, terms x.snd], [st x_3.fst, terms x_3.snd]]) i j)
 (terms y_5.fst.snd) ∧
 True) ∧
 True) ∧
 (Is (byts x_2.fst) (byts b) ∧ x_2.snd.fst + (1 : Int) = y_5.snd ∧ True) ∧ True)
 (Exists fun (y_3 : Pl.TP × Int) =>
 (Pl.TmB (1500 : Nat) y_3.fst ∧ p ≤ y_3.snd ∧ y_3.snd ≤ p + (500 : Int)) ∧
 (0 : Nat) + y.fst.snd.length ≤ y.fst.snd.length ∧
 ((y.fst.fst = y_3.fst.fst ∧ Is (terms y.fst.snd) (terms y_3.fst.snd) ∧ True) ∧ True) ∧
 (Is (byts x_2.fst) (byts b) ∧ x_2.snd.fst + (1 : Int) = y_3.snd ∧ True) ∧ True)))) ∧
 Exists fun (x : AX) =>
 (Rd (137438953472 : Int) x.fst x.snd.fst ∧
 x.snd.fst + (↑(Pl.CB x.snd.snd.snd.snd.toNat) : Int) ≤ (137438953472 : Int) ∧ Pl.SgB (5 : Nat) (2 : Nat) x.snd.snd.fst ∧ x.snd.snd.snd.snd ≤ (4 : Int)) ∧
 (((0 : Nat) = (0 : Nat) ∧ (Is (syms s) (syms x.snd.snd.fst) ∧ True) ∧ y = x.snd.snd.snd.fst ∧ y_1 = x.snd.snd.snd.snd ∧ True) ∧
 (Is (byts x_1.fst) (byts x.fst) ∧ x_1.snd.fst + (1 : Int) = x.snd.fst ∧ True) ∧ True) ∧
 ∀ (y : Pl.TP × Int),
 Pl.TmB (Pl.CB x.snd.snd.snd.snd.toNat) y.fst ∧ x.snd.fst ≤ y.snd ∧ y.snd ≤ x.snd.fst + (↑(Pl.CB x.snd.snd.snd.snd.toNat) : Int) →
 Exists fun (x_2 : List Int × Int × Int) =>
 Rd (1099511627776 : Int) x_2.fst x_2.snd.fst ∧
 (((0 : Nat) = (0 : Nat) ∧ (48 : Int) = x_2.snd.snd ∧ True) ∧ (Is (byts x.fst) (byts x_2.fst) ∧ y.snd = x_2.snd.fst ∧ True) ∧ True) ∧
 ∀ (y_2 : Int),
 ((1 : Int) ≤ x_2.snd.snd → (0 : Int) ≤ y_2 ∧ y_2 < x_2.snd.snd) ∧ (x_2.snd.snd < (1 : Int) → y_2 = (0 : Int)) →
 condP (y_2 == (0 : Int))
 (Exists fun (x : List Int × Int × List ByteArray) =>
 (Rd (1099511627776 : Int) x.fst x.snd.fst ∧ x.snd.snd ≠ [] ∧ Sz x.snd.snd) ∧
 (((0 : Nat) = (0 : Nat) ∧
 Is
 (AV.lit (4 : Nat) (1 : Nat)
 (rowsCell
 [[st (ByteArray.mk #[])], [st (ByteArray.mk #[(65 : UInt8)])],
 [st (ByteArray.mk #[(97 : UInt8), (98 : UInt8), (99 : UInt8)])], [st (ByteArray.mk #[(102 : UInt8)])]]))
 (strs x.snd.snd) ∧
 True) ∧
 (Is (byts x_2.fst) (byts x.fst) ∧ x_2.snd.fst + (1 : Int) = x.snd.fst ∧ True) ∧ True) ∧
 ∀ (y_3 : ByteArray),
 y_3 ∈ x.snd.snd →
 Exists fun (y_4 : Pl.TP × Int) =>
 (Pl.TmB (1500 : Nat) y_4.fst ∧ p ≤ y_4.snd ∧ y_4.snd ≤ p + (500 : Int)) ∧
 (0 : Nat) + y.fst.snd.length ≤ y.fst.snd.length ∧
 ((y_3 = y_4.fst.fst ∧ Is (terms y.fst.snd) (terms y_4.fst.snd) ∧ True) ∧ True) ∧
 (Is (byts x.fst) (byts b) ∧ x.snd.fst + (1 : Int) = y_4.snd ∧ True) ∧ True)
 (condP (y_2 == (1 : Int))
 (Exists fun (x : Pl.TP) =>
 SmT (Pl.Tree.mk x.fst x.snd) ∧
 (((y.fst.fst = x.fst ∧ ((0 : Nat) = (0 : Nat) ∧ y.fst.snd.length = x.snd.length) ∧ True) ∧ True) ∧
 IsO (arT y.fst.snd) (arT x.snd) ∧ True) ∧
 ∀ (y_3 : Unit),
 True →
 (0 : Nat) + y.fst.snd.length ≤ x.snd.length ∧
 (y.fst.snd.length + (1 : Nat)) * (40 : Nat) ≤ (70368744177664 : Nat) ∧
 Exists fun (y_4 : Pl.TP × Int) =>
 (Pl.TmB (1500 : Nat) y_4.fst ∧ p ≤ y_4.snd ∧ y_4.snd ≤ p + (500 : Int)) ∧
 (0 : Nat) + (y.fst.snd.length + (1 : Nat)) ≤ y.fst.snd.length + (1 : Nat) ∧
 ((y.fst.fst = y_4.fst.fst ∧
 Is
 (AV.sl (y.fst.snd.length + (1 : Nat)) (2 : Nat) fun (i j : Nat) =>
 joinC y.fst.snd.length (cT x.snd) (rowsCell [[st x.fst, terms x.snd]]) i j)
 (terms y_4.fst.snd) ∧
 True) ∧
 True) ∧
 (Is (byts x_2.fst) (byts b) ∧ x_2.snd.fst + (1 : Int) = y_4.snd ∧ True) ∧ True)
 (condP (y_2 == (2 : Int))
 (Exists fun (x : Pl.TP) =>
 SmT (Pl.Tree.mk x.fst x.snd) ∧
 (((y.fst.fst = x.fst ∧ ((0 : Nat) = (0 : Nat) ∧ y.fst.snd.length = x.snd.length) ∧ True) ∧ True) ∧
 IsO (arT y.fst.snd) (arT x.snd) ∧ True) ∧
 ∀ (y_3 : Unit),
 True →
 Exists fun (x_3 : Pl.TP) =>
 SmT (Pl.Tree.mk x_3.fst x_3.snd) ∧
 (((y.fst.fst = x_3.fst ∧ ((0 : Nat) = (0 : Nat) ∧ y.fst.snd.length = x_3.snd.length) ∧ True) ∧ True) ∧
 IsO (arT x.snd) (arT x_3.snd) ∧ True) ∧
 ∀ (y_4 : Unit),
 True →
 (0 : Nat) + y.fst.snd.length ≤ x_3.snd.length ∧
 (y.fst.snd.length + (2 : Nat)) * (40 : Nat) ≤ (70368744177664 : Nat) ∧
 Exists fun (y_5 : Pl.TP × Int) =>
 (Pl.TmB (1500 : Nat) y_5.fst ∧ p ≤ y_5.snd ∧ y_5.snd ≤ p + (500 : Int)) ∧
 (0 : Nat) + (y.fst.snd.length + (2 : Nat)) ≤ y.fst.snd.length + (2 : Nat) ∧
 ((y.fst.fst = y_5.fst.fst ∧
 Is
 (AV.sl (y.fst.snd.length + (2 : Nat)) (2 : Nat) fun (i j : Nat) =>
 joinC y.fst.snd.length (cT x_3.snd)
 (rowsCell [[st x.fst, terms x.snd], [st x_3.fst, terms x_3.snd]]) i j)
 (terms y_5.fst.snd) ∧
 True) ∧
 True) ∧
 (Is (byts x_2.fst) (byts b) ∧ x_2.snd.fst + (1 : Int) = y_5.snd ∧ True) ∧ True)
 (Exists fun (y_3 : Pl.TP × Int) =>
 (Pl.TmB (1500 : Nat) y_3.fst ∧ p ≤ y_3.snd ∧ y_3.snd ≤ p + (500 : Int)) ∧
 (0 : Nat) + y.fst.snd.length ≤ y.fst.snd.length ∧
 ((y.fst.fst = y_3.fst.fst ∧ Is (terms y.fst.snd) (terms y_3.fst.snd) ∧ True) ∧ True) ∧
 (Is (byts x_2.fst) (byts b) ∧ x_2.snd.fst + (1 : Int) = y_3.snd ∧ True) ∧ True)))) ∧
 Exists fun (x_1 : List Int × Int × List Int) =>
 (Rd (1099511627776 : Int) x_1.fst x_1.snd.fst ∧ x_1.snd.snd ≠ [] ∧ Sz x_1.snd.snd) ∧
 (((0 : Nat) = (0 : Nat) ∧
 Is (AV.lit (4 : Nat) (1 : Nat) (rowsCell [[i64 (2 : Int)], [i64 (3 : Int)], [i64 (1 : Int)], [i64 (4 : Int)]])) (ints x_1.snd.snd) ∧ True) ∧
 (Is (byts x.fst) (byts x_1.fst) ∧ x.snd.fst + (1 : Int) = x_1.snd.fst ∧ True) ∧ True) ∧
 ∀ (y_1 : Int),
 y_1 ∈ x_1.snd.snd →
 Exists fun (x : AX) =>
 (Rd (137438953472 : Int) x.fst x.snd.fst ∧
 x.snd.fst + (↑(Pl.CB x.snd.snd.snd.snd.toNat) : Int) ≤ (137438953472 : Int) ∧ Pl.SgB (5 : Nat) (2 : Nat) x.snd.snd.fst ∧ x.snd.snd.snd.snd ≤ (4 : Int)) ∧
 (((0 : Nat) = (0 : Nat) ∧ (Is (syms s) (syms x.snd.snd.fst) ∧ True) ∧ y = x.snd.snd.snd.fst ∧ y_1 = x.snd.snd.snd.snd ∧ True) ∧
 (Is (byts x_1.fst) (byts x.fst) ∧ x_1.snd.fst + (1 : Int) = x.snd.fst ∧ True) ∧ True) ∧
 ∀ (y : Pl.TP × Int),
 Pl.TmB (Pl.CB x.snd.snd.snd.snd.toNat) y.fst ∧ x.snd.fst ≤ y.snd ∧ y.snd ≤ x.snd.fst + (↑(Pl.CB x.snd.snd.snd.snd.toNat) : Int) →
 Exists fun (x_2 : List Int × Int × Int) =>
 Rd (1099511627776 : Int) x_2.fst x_2.snd.fst ∧
 (((0 : Nat) = (0 : Nat) ∧ (48 : Int) = x_2.snd.snd ∧ True) ∧ (Is (byts x.fst) (byts x_2.fst) ∧ y.snd = x_2.snd.fst ∧ True) ∧ True) ∧
 ∀ (y_2 : Int),
 ((1 : Int) ≤ x_2.snd.snd → (0 : Int) ≤ y_2 ∧ y_2 < x_2.snd.snd) ∧ (x_2.snd.snd < (1 : Int) → y_2 = (0 : Int)) →
 condP (y_2 == (0 : Int))
 (Exists fun (x : List Int × Int × List ByteArray) =>
 (Rd (1099511627776 : Int) x.fst x.snd.fst ∧ x.snd.snd ≠ [] ∧ Sz x.snd.snd) ∧
 (((0 : Nat) = (0 : Nat) ∧
 Is
 (AV.lit (4 : Nat) (1 : Nat)
 (rowsCell
 [[st (ByteArray.mk #[])], [st (ByteArray.mk #[(65 : UInt8)])],
 [st (ByteArray.mk #[(97 : UInt8), (98 : UInt8), (99 : UInt8)])], [st (ByteArray.mk #[(102 : UInt8)])]]))
 (strs x.snd.snd) ∧
 True) ∧
 (Is (byts x_2.fst) (byts x.fst) ∧ x_2.snd.fst + (1 : Int) = x.snd.fst ∧ True) ∧ True) ∧
 ∀ (y_3 : ByteArray),
 y_3 ∈ x.snd.snd →
 Exists fun (y_4 : Pl.TP × Int) =>
 (Pl.TmB (1500 : Nat) y_4.fst ∧ p ≤ y_4.snd ∧ y_4.snd ≤ p + (500 : Int)) ∧
 (0 : Nat) + y.fst.snd.length ≤ y.fst.snd.length ∧
 ((y_3 = y_4.fst.fst ∧ Is (terms y.fst.snd) (terms y_4.fst.snd) ∧ True) ∧ True) ∧
 (Is (byts x.fst) (byts b) ∧ x.snd.fst + (1 : Int) = y_4.snd ∧ True) ∧ True)
 (condP (y_2 == (1 : Int))
 (Exists fun (x : Pl.TP) =>
 SmT (Pl.Tree.mk x.fst x.snd) ∧
 (((y.fst.fst = x.fst ∧ ((0 : Nat) = (0 : Nat) ∧ y.fst.snd.length = x.snd.length) ∧ True) ∧ True) ∧
 IsO (arT y.fst.snd) (arT x.snd) ∧ True) ∧
 ∀ (y_3 : Unit),
 True →
 (0 : Nat) + y.fst.snd.length ≤ x.snd.length ∧
 (y.fst.snd.length + (1 : Nat)) * (40 : Nat) ≤ (70368744177664 : Nat) ∧
 Exists fun (y_4 : Pl.TP × Int) =>
 (Pl.TmB (1500 : Nat) y_4.fst ∧ p ≤ y_4.snd ∧ y_4.snd ≤ p + (500 : Int)) ∧
 (0 : Nat) + (y.fst.snd.length + (1 : Nat)) ≤ y.fst.snd.length + (1 : Nat) ∧
 ((y.fst.fst = y_4.fst.fst ∧
 Is
 (AV.sl (y.fst.snd.length + (1 : Nat)) (2 : Nat) fun (i j : Nat) =>
 joinC y.fst.snd.length (cT x.snd) (rowsCell [[st x.fst, terms x.snd]]) i j)
 (terms y_4.fst.snd) ∧
 True) ∧
 True) ∧
 (Is (byts x_2.fst) (byts b) ∧ x_2.snd.fst + (1 : Int) = y_4.snd ∧ True) ∧ True)
 (condP (y_2 == (2 : Int))
 (Exists fun (x : Pl.TP) =>
 SmT (Pl.Tree.mk x.fst x.snd) ∧
 (((y.fst.fst = x.fst ∧ ((0 : Nat) = (0 : Nat) ∧ y.fst.snd.length = x.snd.length) ∧ True) ∧ True) ∧
 IsO (arT y.fst.snd) (arT x.snd) ∧ True) ∧
 ∀ (y_3 : Unit),
 True →
 Exists fun (x_3 : Pl.TP) =>
 SmT (Pl.Tree.mk x_3.fst x_3.snd) ∧
 (((y.fst.fst = x_3.fst ∧ ((0 : Nat) = (0 : Nat) ∧ y.fst.snd.length = x_3.snd.length) ∧ True) ∧ True) ∧
 IsO (arT x.snd) (arT x_3.snd) ∧ True) ∧
 ∀ (y_4 : Unit),
 True →
 (0 : Nat) + y.fst.snd.length ≤ x_3.snd.length ∧
 (y.fst.snd.length + (2 : Nat)) * (40 : Nat) ≤ (70368744177664 : Nat) ∧
 Exists fun (y_5 : Pl.TP × Int) =>
 (Pl.TmB (1500 : Nat) y_5.fst ∧ p ≤ y_5.snd ∧ y_5.snd ≤ p + (500 : Int)) ∧
 (0 : Nat) + (y.fst.snd.length + (2 : Nat)) ≤ y.fst.snd.length + (2 : Nat) ∧
 ((y.fst.fst = y_5.fst.fst ∧
 Is
 (AV.sl (y.fst.snd.length + (2 : Nat)) (2 : Nat) fun (i j : Nat) =>
 joinC y.fst.snd.length (cT x_3.snd)
 (rowsCell [[st x.fst, terms x.snd], [st x_3.fst, terms x_3.snd]]) i j)
 (terms y_5.fst.snd) ∧
 True) ∧
 True) ∧
 (Is (byts x_2.fst) (byts b) ∧ x_2.snd.fst + (1 : Int) = y_5.snd ∧ True) ∧ True)
 (Exists fun (y_3 : Pl.TP × Int) =>
 (Pl.TmB (1500 : Nat) y_3.fst ∧ p ≤ y_3.snd ∧ y_3.snd ≤ p + (500 : Int)) ∧
 (0 : Nat) + y.fst.snd.length ≤ y.fst.snd.length ∧
 ((y.fst.fst = y_3.fst.fst ∧ Is (terms y.fst.snd) (terms y_3.fst.snd) ∧ True) ∧ True) ∧
 (Is (byts x_2.fst) (byts b) ∧ x_2.snd.fst + (1 : Int) = y_3.snd ∧ True) ∧ True)))) ∧
 Exists fun (x : List Int × Int × Int) =>
 Rd (1099511627776 : Int) x.fst x.snd.fst ∧
 (((0 : Nat) = (0 : Nat) ∧ (2 : Int) = x.snd.snd ∧ True) ∧ (Is (byts b) (byts x.fst) ∧ p = x.snd.fst ∧ True) ∧ True) ∧
 ∀ (y : Int),
 ((1 : Int) ≤ x.snd.snd → (0 : Int) ≤ y ∧ y < x.snd.snd) ∧ (x.snd.snd < (1 : Int) → y = (0 : Int)) →
 Exists fun (x_1 : List Int × Int × List Int) =>
 (Rd (1099511627776 : Int) x_1.fst x_1.snd.fst ∧ x_1.snd.snd ≠ [] ∧ Sz x_1.snd.snd) ∧
 (((0 : Nat) = (0 : Nat) ∧
 Is (AV.lit (4 : Nat) (1 : Nat) (rowsCell [[i64 (2 : Int)], [i64 (3 : Int)], [i64 (1 : Int)], [i64 (4 : Int)]])) (ints x_1.snd.snd) ∧ True) ∧
 (Is (byts x.fst) (byts x_1.fst) ∧ x.snd.fst + (1 : Int) = x_1.snd.fst ∧ True) ∧ True) ∧
 ∀ (y_1 : Int),
 y_1 ∈ x_1.snd.snd →
 Exists fun (x : AX) =>
 (Rd (137438953472 : Int) x.fst x.snd.fst ∧
 x.snd.fst + (↑(Pl.CB x.snd.snd.snd.snd.toNat) : Int) ≤ (137438953472 : Int) ∧ Pl.SgB (5 : Nat) (2 : Nat) x.snd.snd.fst ∧ x.snd.snd.snd.snd ≤ (4 : Int)) ∧
 (((0 : Nat) = (0 : Nat) ∧ (Is (syms s) (syms x.snd.snd.fst) ∧ True) ∧ y = x.snd.snd.snd.fst ∧ y_1 = x.snd.snd.snd.snd ∧ True) ∧
 (Is (byts x_1.fst) (byts x.fst) ∧ x_1.snd.fst + (1 : Int) = x.snd.fst ∧ True) ∧ True) ∧
 ∀ (y : Pl.TP × Int),
 Pl.TmB (Pl.CB x.snd.snd.snd.snd.toNat) y.fst ∧ x.snd.fst ≤ y.snd ∧ y.snd ≤ x.snd.fst + (↑(Pl.CB x.snd.snd.snd.snd.toNat) : Int) →
 Exists fun (x_2 : List Int × Int × Int) =>
 Rd (1099511627776 : Int) x_2.fst x_2.snd.fst ∧
 (((0 : Nat) = (0 : Nat) ∧ (48 : Int) = x_2.snd.snd ∧ True) ∧ (Is (byts x.fst) (byts x_2.fst) ∧ y.snd = x_2.snd.fst ∧ True) ∧ True) ∧
 ∀ (y_2 : Int),
 ((1 : Int) ≤ x_2.snd.snd → (0 : Int) ≤ y_2 ∧ y_2 < x_2.snd.snd) ∧ (x_2.snd.snd < (1 : Int) → y_2 = (0 : Int)) →
 condP (y_2 == (0 : Int))
 (Exists fun (x : List Int × Int × List ByteArray) =>
 (Rd (1099511627776 : Int) x.fst x.snd.fst ∧ x.snd.snd ≠ [] ∧ Sz x.snd.snd) ∧
 (((0 : Nat) = (0 : Nat) ∧
 Is
 (AV.lit (4 : Nat) (1 : Nat)
 (rowsCell
 [[st (ByteArray.mk #[])], [st (ByteArray.mk #[(65 : UInt8)])], [st (ByteArray.mk #[(97 : UInt8), (98 : UInt8), (99 : UInt8)])],
 [st (ByteArray.mk #[(102 : UInt8)])]]))
 (strs x.snd.snd) ∧
 True) ∧
 (Is (byts x_2.fst) (byts x.fst) ∧ x_2.snd.fst + (1 : Int) = x.snd.fst ∧ True) ∧ True) ∧
 ∀ (y_3 : ByteArray),
 y_3 ∈ x.snd.snd →
 Exists fun (y_4 : Pl.TP × Int) =>
 (Pl.TmB (1500 : Nat) y_4.fst ∧ p ≤ y_4.snd ∧ y_4.snd ≤ p + (500 : Int)) ∧
 (0 : Nat) + y.fst.snd.length ≤ y.fst.snd.length ∧
 ((y_3 = y_4.fst.fst ∧ Is (terms y.fst.snd) (terms y_4.fst.snd) ∧ True) ∧ True) ∧
 (Is (byts x.fst) (byts b) ∧ x.snd.fst + (1 : Int) = y_4.snd ∧ True) ∧ True)
 (condP (y_2 == (1 : Int))
 (Exists fun (x : Pl.TP) =>
 SmT (Pl.Tree.mk x.fst x.snd) ∧
 (((y.fst.fst = x.fst ∧ ((0 : Nat) = (0 : Nat) ∧ y.fst.snd.length = x.snd.length) ∧ True) ∧ True) ∧
 IsO (arT y.fst.snd) (arT x.snd) ∧ True) ∧
 ∀ (y_3 : Unit),
 True →
 (0 : Nat) + y.fst.snd.length ≤ x.snd.length ∧
 (y.fst.snd.length + (1 : Nat)) * (40 : Nat) ≤ (70368744177664 : Nat) ∧
 Exists fun (y_4 : Pl.TP × Int) =>
 (Pl.TmB (1500 : Nat) y_4.fst ∧ p ≤ y_4.snd ∧ y_4.snd ≤ p + (500 : Int)) ∧
 (0 : Nat) + (y.fst.snd.length + (1 : Nat)) ≤ y.fst.snd.length + (1 : Nat) ∧
 ((y.fst.fst = y_4.fst.fst ∧
 Is
 (AV.sl (y.fst.snd.length + (1 : Nat)) (2 : Nat) fun (i j : Nat) =>
 joinC y.fst.snd.length (cT x.snd) (rowsCell [[st x.fst, terms x.snd]]) i j)
 (terms y_4.fst.snd) ∧
 True) ∧
 True) ∧
 (Is (byts x_2.fst) (byts b) ∧ x_2.snd.fst + (1 : Int) = y_4.snd ∧ True) ∧ True)
 (condP (y_2 == (2 : Int))
 (Exists fun (x : Pl.TP) =>
 SmT (Pl.Tree.mk x.fst x.snd) ∧
 (((y.fst.fst = x.fst ∧ ((0 : Nat) = (0 : Nat) ∧ y.fst.snd.length = x.snd.length) ∧ True) ∧ True) ∧
 IsO (arT y.fst.snd) (arT x.snd) ∧ True) ∧
 ∀ (y_3 : Unit),
 True →
 Exists fun (x_3 : Pl.TP) =>
 SmT (Pl.Tree.mk x_3.fst x_3.snd) ∧
 (((y.fst.fst = x_3.fst ∧ ((0 : Nat) = (0 : Nat) ∧ y.fst.snd.length = x_3.snd.length) ∧ True) ∧ True) ∧
 IsO (arT x.snd) (arT x_3.snd) ∧ True) ∧
 ∀ (y_4 : Unit),
 True →
 (0 : Nat) + y.fst.snd.length ≤ x_3.snd.length ∧
 (y.fst.snd.length + (2 : Nat)) * (40 : Nat) ≤ (70368744177664 : Nat) ∧
 Exists fun (y_5 : Pl.TP × Int) =>
 (Pl.TmB (1500 : Nat) y_5.fst ∧ p ≤ y_5.snd ∧ y_5.snd ≤ p + (500 : Int)) ∧
 (0 : Nat) + (y.fst.snd.length + (2 : Nat)) ≤ y.fst.snd.length + (2 : Nat) ∧
 ((y.fst.fst = y_5.fst.fst ∧
 Is
 (AV.sl (y.fst.snd.length + (2 : Nat)) (2 : Nat) fun (i j : Nat) =>
 joinC y.fst.snd.length (cT x_3.snd)
 (rowsCell [[st x.fst, terms x.snd], [st x_3.fst, terms x_3.snd]]) i j)
 (terms y_5.fst.snd) ∧
 True) ∧
 True) ∧
 (Is (byts x_2.fst) (byts b) ∧ x_2.snd.fst + (1 : Int) = y_5.snd ∧ True) ∧ True)
 (Exists fun (y_3 : Pl.TP × Int) =>
 (Pl.TmB (1500 : Nat) y_3.fst ∧ p ≤ y_3.snd ∧ y_3.snd ≤ p + (500 : Int)) ∧
 (0 : Nat) + y.fst.snd.length ≤ y.fst.snd.length ∧
 ((y.fst.fst = y_3.fst.fst ∧ Is (terms y.fst.snd) (terms y_3.fst.snd) ∧ True) ∧ True) ∧
 (Is (byts x_2.fst) (byts b) ∧ x_2.snd.fst + (1 : Int) = y_3.snd ∧ True) ∧ True)))) ∧
 (Exists fun (x : List Int × Int × Int) =>
 Rd (1099511627776 : Int) x.fst x.snd.fst ∧
 (((0 : Nat) = (0 : Nat) ∧ (2 : Int) = x.snd.snd ∧ True) ∧ (Is (byts b) (byts x.fst) ∧ p = x.snd.fst ∧ True) ∧ True) ∧
 ∀ (y : Int),
 ((1 : Int) ≤ x.snd.snd → (0 : Int) ≤ y ∧ y < x.snd.snd) ∧ (x.snd.snd < (1 : Int) → y = (0 : Int)) →
 ((Exists fun (x_1 : List Int × Int × List Int) =>
 (Rd (1099511627776 : Int) x_1.fst x_1.snd.fst ∧ x_1.snd.snd ≠ [] ∧ Sz x_1.snd.snd) ∧
 (((0 : Nat) = (0 : Nat) ∧
 Is (AV.lit (4 : Nat) (1 : Nat) (rowsCell [[i64 (2 : Int)], [i64 (3 : Int)], [i64 (1 : Int)], [i64 (4 : Int)]])) (ints x_1.snd.snd) ∧ True) ∧
 (Is (byts x.fst) (byts x_1.fst) ∧ x.snd.fst + (1 : Int) = x_1.snd.fst ∧ True) ∧ True) ∧
 ∀ (y_1 : Int),
 y_1 ∈ x_1.snd.snd →
 (Exists fun (x : AX) =>
 (Rd (137438953472 : Int) x.fst x.snd.fst ∧
 x.snd.fst + (↑(Pl.CB x.snd.snd.snd.snd.toNat) : Int) ≤ (137438953472 : Int) ∧ Pl.SgB (5 : Nat) (2 : Nat) x.snd.snd.fst ∧ x.snd.snd.snd.snd ≤ (4 : Int)) ∧
 (((0 : Nat) = (0 : Nat) ∧ (Is (syms s) (syms x.snd.snd.fst) ∧ True) ∧ y = x.snd.snd.snd.fst ∧ y_1 = x.snd.snd.snd.snd ∧ True) ∧
 (Is (byts x_1.fst) (byts x.fst) ∧ x_1.snd.fst + (1 : Int) = x.snd.fst ∧ True) ∧ True) ∧
 ∀ (y : Pl.TP × Int),
 Pl.TmB (Pl.CB x.snd.snd.snd.snd.toNat) y.fst ∧ x.snd.fst ≤ y.snd ∧ y.snd ≤ x.snd.fst + (↑(Pl.CB x.snd.snd.snd.snd.toNat) : Int) →
 Exists fun (x_2 : List Int × Int × Int) =>
 Rd (1099511627776 : Int) x_2.fst x_2.snd.fst ∧
 (((0 : Nat) = (0 : Nat) ∧ (48 : Int) = x_2.snd.snd ∧ True) ∧ (Is (byts x.fst) (byts x_2.fst) ∧ y.snd = x_2.snd.fst ∧ True) ∧ True) ∧
 ∀ (y_2 : Int),
 ((1 : Int) ≤ x_2.snd.snd → (0 : Int) ≤ y_2 ∧ y_2 < x_2.snd.snd) ∧ (x_2.snd.snd < (1 : Int) → y_2 = (0 : Int)) →
 condP (y_2 == (0 : Int))
 (Exists fun (x : List Int × Int × List ByteArray) =>
 (Rd (1099511627776 : Int) x.fst x.snd.fst ∧ x.snd.snd ≠ [] ∧ Sz x.snd.snd) ∧
 (((0 : Nat) = (0 : Nat) ∧
 Is
 (AV.lit (4 : Nat) (1 : Nat)
 (rowsCell
 [[st (ByteArray.mk #[])], [st (ByteArray.mk #[(65 : UInt8)])],
 [st (ByteArray.mk #[(97 : UInt8), (98 : UInt8), (99 : UInt8)])], [st (ByteArray.mk #[(102 : UInt8)])]]))
 (strs x.snd.snd) ∧
 True) ∧
 (Is (byts x_2.fst) (byts x.fst) ∧ x_2.snd.fst + (1 : Int) = x.snd.fst ∧ True) ∧ True) ∧
 ∀ (y_3 : ByteArray),
 y_3 ∈ x.snd.snd →
 Exists fun (y_4 : Pl.TP × Int) =>
 (Pl.TmB (1500 : Nat) y_4.fst ∧ p ≤ y_4.snd ∧ y_4.snd ≤ p + (500 : Int)) ∧
 (0 : Nat) + y.fst.snd.length ≤ y.fst.snd.length ∧
 ((y_3 = y_4.fst.fst ∧ Is (terms y.fst.snd) (terms y_4.fst.snd) ∧ True) ∧ True) ∧
 (Is (byts x.fst) (byts b) ∧ x.snd.fst + (1 : Int) = y_4.snd ∧ True) ∧ True)
 (condP (y_2 == (1 : Int))
 (Exists fun (x : Pl.TP) =>
 SmT (Pl.Tree.mk x.fst x.snd) ∧
 (((y.fst.fst = x.fst ∧ ((0 : Nat) = (0 : Nat) ∧ y.fst.snd.length = x.snd.length) ∧ True) ∧ True) ∧
 IsO (arT y.fst.snd) (arT x.snd) ∧ True) ∧
 ∀ (y_3 : Unit),
 True →
 (0 : Nat) + y.fst.snd.length ≤ x.snd.length ∧
 (y.fst.snd.length + (1 : Nat)) * (40 : Nat) ≤ (70368744177664 : Nat) ∧
 Exists fun (y_4 : Pl.TP × Int) =>
 (Pl.TmB (1500 : Nat) y_4.fst ∧ p ≤ y_4.snd ∧ y_4.snd ≤ p + (500 : Int)) ∧
 (0 : Nat) + (y.fst.snd.length + (1 : Nat)) ≤ y.fst.snd.length + (1 : Nat) ∧
 ((y.fst.fst = y_4.fst.fst ∧
 Is
 (AV.sl (y.fst.snd.length + (1 : Nat)) (2 : Nat) fun (i j : Nat) =>
 joinC y.fst.snd.length (cT x.snd) (rowsCell [[st x.fst, terms x.snd]]) i j)
 (terms y_4.fst.snd) ∧
 True) ∧
 True) ∧
 (Is (byts x_2.fst) (byts b) ∧ x_2.snd.fst + (1 : Int) = y_4.snd ∧ True) ∧ True)
 (condP (y_2 == (2 : Int))
 (Exists fun (x : Pl.TP) =>
 SmT (Pl.Tree.mk x.fst x.snd) ∧
 (((y.fst.fst = x.fst ∧ ((0 : Nat) = (0 : Nat) ∧ y.fst.snd.length = x.snd.length) ∧ True) ∧ True) ∧
 IsO (arT y.fst.snd) (arT x.snd) ∧ True) ∧
 ∀ (y_3 : Unit),
 True →
 Exists fun (x_3 : Pl.TP) =>
 SmT (Pl.Tree.mk x_3.fst x_3.snd) ∧
 (((y.fst.fst = x_3.fst ∧ ((0 : Nat) = (0 : Nat) ∧ y.fst.snd.length = x_3.snd.length) ∧ True) ∧ True) ∧
 IsO (arT x.snd) (arT x_3.snd) ∧ True) ∧
 ∀ (y_4 : Unit),
 True →
 (0 : Nat) + y.fst.snd.length ≤ x_3.snd.length ∧
 (y.fst.snd.length + (2 : Nat)) * (40 : Nat) ≤ (70368744177664 : Nat) ∧
 Exists fun (y_5 : Pl.TP × Int) =>
 (Pl.TmB (1500 : Nat) y_5.fst ∧ p ≤ y_5.snd ∧ y_5.snd ≤ p + (500 : Int)) ∧
 (0 : Nat) + (y.fst.snd.length + (2 : Nat)) ≤ y.fst.snd.length + (2 : Nat) ∧
 ((y.fst.fst = y_5.fst.fst ∧
 Is
 (AV.sl (y.fst.snd.length + (2 : Nat)) (2 : Nat) fun (i j : Nat) =>
 joinC y.fst.snd.length (cT x_3.snd)
 (rowsCell [[st x.fst, terms x.snd], [st x_3.fst, terms x_3.snd]]) i j)
 (terms y_5.fst.snd) ∧
 True) ∧
 True) ∧
 (Is (byts x_2.fst) (byts b) ∧ x_2.snd.fst + (1 : Int) = y_5.snd ∧ True) ∧ True)
 (Exists fun (y_3 : Pl.TP × Int) =>
 (Pl.TmB (1500 : Nat) y_3.fst ∧ p ≤ y_3.snd ∧ y_3.snd ≤ p + (500 : Int)) ∧
 (0 : Nat) + y.fst.snd.length ≤ y.fst.snd.length ∧
 ((y.fst.fst = y_3.fst.fst ∧ Is (terms y.fst.snd) (terms y_3.fst.snd) ∧ True) ∧ True) ∧
 (Is (byts x_2.fst) (byts b) ∧ x_2.snd.fst + (1 : Int) = y_3.snd ∧ True) ∧ True)))) ∧
 Exists fun (x : AX) =>
 (Rd (137438953472 : Int) x.fst x.snd.fst ∧
 x.snd.fst + (↑(Pl.CB x.snd.snd.snd.snd.toNat) : Int) ≤ (137438953472 : Int) ∧ Pl.SgB (5 : Nat) (2 : Nat) x.snd.snd.fst ∧ x.snd.snd.snd.snd ≤ (4 : Int)) ∧
 (((0 : Nat) = (0 : Nat) ∧ (Is (syms s) (syms x.snd.snd.fst) ∧ True) ∧ y = x.snd.snd.snd.fst ∧ y_1 = x.snd.snd.snd.snd ∧ True) ∧
 (Is (byts x_1.fst) (byts x.fst) ∧ x_1.snd.fst + (1 : Int) = x.snd.fst ∧ True) ∧ True) ∧
 ∀ (y : Pl.TP × Int),
 Pl.TmB (Pl.CB x.snd.snd.snd.snd.toNat) y.fst ∧ x.snd.fst ≤ y.snd ∧ y.snd ≤ x.snd.fst + (↑(Pl.CB x.snd.snd.snd.snd.toNat) : Int) →
 Exists fun (x_2 : List Int × Int × Int) =>
 Rd (1099511627776 : Int) x_2.fst x_2.snd.fst ∧
 (((0 : Nat) = (0 : Nat) ∧ (48 : Int) = x_2.snd.snd ∧ True) ∧ (Is (byts x.fst) (byts x_2.fst) ∧ y.snd = x_2.snd.fst ∧ True) ∧ True) ∧
 ∀ (y_2 : Int),
 ((1 : Int) ≤ x_2.snd.snd → (0 : Int) ≤ y_2 ∧ y_2 < x_2.snd.snd) ∧ (x_2.snd.snd < (1 : Int) → y_2 = (0 : Int)) →
 condP (y_2 == (0 : Int))
 (Exists fun (x : List Int × Int × List ByteArray) =>
 (Rd (1099511627776 : Int) x.fst x.snd.fst ∧ x.snd.snd ≠ [] ∧ Sz x.snd.snd) ∧
 (((0 : Nat) = (0 : Nat) ∧
 Is
 (AV.lit (4 : Nat) (1 : Nat)
 (rowsCell
 [[st (ByteArray.mk #[])], [st (ByteArray.mk #[(65 : UInt8)])],
 [st (ByteArray.mk #[(97 : UInt8), (98 : UInt8), (99 : UInt8)])], [st (ByteArray.mk #[(102 : UInt8)])]]))
 (strs x.snd.snd) ∧
 True) ∧
 (Is (byts x_2.fst) (byts x.fst) ∧ x_2.snd.fst + (1 : Int) = x.snd.fst ∧ True) ∧ True) ∧
 ∀ (y_3 : ByteArray),
 y_3 ∈ x.snd.snd →
 Exists fun (y_4 : Pl.TP × Int) =>
 (Pl.TmB (1500 : Nat) y_4.fst ∧ p ≤ y_4.snd ∧ y_4.snd ≤ p + (500 : Int)) ∧
 (0 : Nat) + y.fst.snd.length ≤ y.fst.snd.length ∧
 ((y_3 = y_4.fst.fst ∧ Is (terms y.fst.snd) (terms y_4.fst.snd) ∧ True) ∧ True) ∧
 (Is (byts x.fst) (byts b) ∧ x.snd.fst + (1 : Int) = y_4.snd ∧ True) ∧ True)
 (condP (y_2 == (1 : Int))
 (Exists fun (x : Pl.TP) =>
 SmT (Pl.Tree.mk x.fst x.snd) ∧
 (((y.fst.fst = x.fst ∧ ((0 : Nat) = (0 : Nat) ∧ y.fst.snd.length = x.snd.length) ∧ True) ∧ True) ∧
 IsO (arT y.fst.snd) (arT x.snd) ∧ True) ∧
 ∀ (y_3 : Unit),
 True →
 (0 : Nat) + y.fst.snd.length ≤ x.snd.length ∧
 (y.fst.snd.length + (1 : Nat)) * (40 : Nat) ≤ (70368744177664 : Nat) ∧
 Exists fun (y_4 : Pl.TP × Int) =>
 (Pl.TmB (1500 : Nat) y_4.fst ∧ p ≤ y_4.snd ∧ y_4.snd ≤ p + (500 : Int)) ∧
 (0 : Nat) + (y.fst.snd.length + (1 : Nat)) ≤ y.fst.snd.length + (1 : Nat) ∧
 ((y.fst.fst = y_4.fst.fst ∧
 Is
 (AV.sl (y.fst.snd.length + (1 : Nat)) (2 : Nat) fun (i j : Nat) =>
 joinC y.fst.snd.length (cT x.snd) (rowsCell [[st x.fst, terms x.snd]]) i j)
 (terms y_4.fst.snd) ∧
 True) ∧
 True) ∧
 (Is (byts x_2.fst) (byts b) ∧ x_2.snd.fst + (1 : Int) = y_4.snd ∧ True) ∧ True)
 (condP (y_2 == (2 : Int))
 (Exists fun (x : Pl.TP) =>
 SmT (Pl.Tree.mk x.fst x.snd) ∧
 (((y.fst.fst = x.fst ∧ ((0 : Nat) = (0 : Nat) ∧ y.fst.snd.length = x.snd.length) ∧ True) ∧ True) ∧
 IsO (arT y.fst.snd) (arT x.snd) ∧ True) ∧
 ∀ (y_3 : Unit),
 True →
 Exists fun (x_3 : Pl.TP) =>
 SmT (Pl.Tree.mk x_3.fst x_3.snd) ∧
 (((y.fst.fst = x_3.fst ∧ ((0 : Nat) = (0 : Nat) ∧ y.fst.snd.length = x_3.snd.length) ∧ True) ∧ True) ∧
 IsO (arT x.snd) (arT x_3.snd) ∧ True) ∧
 ∀ (y_4 : Unit),
 True →
 (0 : Nat) + y.fst.snd.length ≤ x_3.snd.length ∧
 (y.fst.snd.length + (2 : Nat)) * (40 : Nat) ≤ (70368744177664 : Nat) ∧
 Exists fun (y_5 : Pl.TP × Int) =>
 (Pl.TmB (1500 : Nat) y_5.fst ∧ p ≤ y_5.snd ∧ y_5.snd ≤ p + (500 : Int)) ∧
 (0 : Nat) + (y.fst.snd.length + (2 : Nat)) ≤ y.fst.snd.length + (2 : Nat) ∧
 ((y.fst.fst = y_5.fst.fst ∧
 Is
 (AV.sl (y.fst.snd.length + (2 : Nat)) (2 : Nat) fun (i j : Nat) =>
 joinC y.fst.snd.length (cT x_3.snd)
 (rowsCell [[st x.fst, terms x.snd], [st x_3.fst, terms x_3.snd]]) i j)
 (terms y_5.fst.snd) ∧
 True) ∧
 True) ∧
 (Is (byts x_2.fst) (byts b) ∧ x_2.snd.fst + (1 : Int) = y_5.snd ∧ True) ∧ True)
 (Exists fun (y_3 : Pl.TP × Int) =>
 (Pl.TmB (1500 : Nat) y_3.fst ∧ p ≤ y_3.snd ∧ y_3.snd ≤ p + (500 : Int)) ∧
 (0 : Nat) + y.fst.snd.length ≤ y.fst.snd.length ∧
 ((y.fst.fst = y_3.fst.fst ∧ Is (terms y.fst.snd) (terms y_3.fst.snd) ∧ True) ∧ True) ∧
 (Is (byts x_2.fst) (byts b) ∧ x_2.snd.fst + (1 : Int) = y_3.snd ∧ True) ∧ True)))) ∧
 Exists fun (x_1 : List Int × Int × List Int) =>
 (Rd (1099511627776 : Int) x_1.fst x_1.snd.fst ∧ x_1.snd.snd ≠ [] ∧ Sz x_1.snd.snd) ∧
 (((0 : Nat) = (0 : Nat) ∧
 Is (AV.lit (4 : Nat) (1 : Nat) (rowsCell [[i64 (2 : Int)], [i64 (3 : Int)], [i64 (1 : Int)], [i64 (4 : Int)]])) (ints x_1.snd.snd) ∧ True) ∧
 (Is (byts x.fst) (byts x_1.fst) ∧ x.snd.fst + (1 : Int) = x_1.snd.fst ∧ True) ∧ True) ∧
 ∀ (y_1 : Int),
 y_1 ∈ x_1.snd.snd →
 Exists fun (x : AX) =>
 (Rd (137438953472 : Int) x.fst x.snd.fst ∧
 x.snd.fst + (↑(Pl.CB x.snd.snd.snd.snd.toNat) : Int) ≤ (137438953472 : Int) ∧ Pl.SgB (5 : Nat) (2 : Nat) x.snd.snd.fst ∧ x.snd.snd.snd.snd ≤ (4 : Int)) ∧
 (((0 : Nat) = (0 : Nat) ∧ (Is (syms s) (syms x.snd.snd.fst) ∧ True) ∧ y = x.snd.snd.snd.fst ∧ y_1 = x.snd.snd.snd.snd ∧ True) ∧
 (Is (byts x_1.fst) (byts x.fst) ∧ x_1.snd.fst + (1 : Int) = x.snd.fst ∧ True) ∧ True) ∧
 ∀ (y : Pl.TP × Int),
 Pl.TmB (Pl.CB x.snd.snd.snd.snd.toNat) y.fst ∧ x.snd.fst ≤ y.snd ∧ y.snd ≤ x.snd.fst + (↑(Pl.CB x.snd.snd.snd.snd.toNat) : Int) →
 Exists fun (x_2 : List Int × Int × Int) =>
 Rd (1099511627776 : Int) x_2.fst x_2.snd.fst ∧
 (((0 : Nat) = (0 : Nat) ∧ (48 : Int) = x_2.snd.snd ∧ True) ∧ (Is (byts x.fst) (byts x_2.fst) ∧ y.snd = x_2.snd.fst ∧ True) ∧ True) ∧
 ∀ (y_2 : Int),
 ((1 : Int) ≤ x_2.snd.snd → (0 : Int) ≤ y_2 ∧ y_2 < x_2.snd.snd) ∧ (x_2.snd.snd < (1 : Int) → y_2 = (0 : Int)) →
 condP (y_2 == (0 : Int))
 (Exists fun (x : List Int × Int × List ByteArray) =>
 (Rd (1099511627776 : Int) x.fst x.snd.fst ∧ x.snd.snd ≠ [] ∧ Sz x.snd.snd) ∧
 (((0 : Nat) = (0 : Nat) ∧
 Is
 (AV.lit (4 : Nat) (1 : Nat)
 (rowsCell
 [[st (ByteArray.mk #[])], [st (ByteArray.mk #[(65 : UInt8)])],
 [st (ByteArray.mk #[(97 : UInt8), (98 : UInt8), (99 : UInt8)])], [st (ByteArray.mk #[(102 : UInt8)])]]))
 (strs x.snd.snd) ∧
 True) ∧
 (Is (byts x_2.fst) (byts x.fst) ∧ x_2.snd.fst + (1 : Int) = x.snd.fst ∧ True) ∧ True) ∧
 ∀ (y_3 : ByteArray),
 y_3 ∈ x.snd.snd →
 Exists fun (y_4 : Pl.TP × Int) =>
 (Pl.TmB (1500 : Nat) y_4.fst ∧ p ≤ y_4.snd ∧ y_4.snd ≤ p + (500 : Int)) ∧
 (0 : Nat) + y.fst.snd.length ≤ y.fst.snd.length ∧
 ((y_3 = y_4.fst.fst ∧ Is (terms y.fst.snd) (terms y_4.fst.snd) ∧ True) ∧ True) ∧
 (Is (byts x.fst) (byts b) ∧ x.snd.fst + (1 : Int) = y_4.snd ∧ True) ∧ True)
 (condP (y_2 == (1 : Int))
 (Exists fun (x : Pl.TP) =>
 SmT (Pl.Tree.mk x.fst x.snd) ∧
 (((y.fst.fst = x.fst ∧ ((0 : Nat) = (0 : Nat) ∧ y.fst.snd.length = x.snd.length) ∧ True) ∧ True) ∧
 IsO (arT y.fst.snd) (arT x.snd) ∧ True) ∧
 ∀ (y_3 : Unit),
 True →
 (0 : Nat) + y.fst.snd.length ≤ x.snd.length ∧
 (y.fst.snd.length + (1 : Nat)) * (40 : Nat) ≤ (70368744177664 : Nat) ∧
 Exists fun (y_4 : Pl.TP × Int) =>
 (Pl.TmB (1500 : Nat) y_4.fst ∧ p ≤ y_4.snd ∧ y_4.snd ≤ p + (500 : Int)) ∧
 (0 : Nat) + (y.fst.snd.length + (1 : Nat)) ≤ y.fst.snd.length + (1 : Nat) ∧
 ((y.fst.fst = y_4.fst.fst ∧
 Is
 (AV.sl (y.fst.snd.length + (1 : Nat)) (2 : Nat) fun (i j : Nat) =>
 joinC y.fst.snd.length (cT x.snd) (rowsCell [[st x.fst, terms x.snd]]) i j)
 (terms y_4.fst.snd) ∧
 True) ∧
 True) ∧
 (Is (byts x_2.fst) (byts b) ∧ x_2.snd.fst + (1 : Int) = y_4.snd ∧ True) ∧ True)
 (condP (y_2 == (2 : Int))
 (Exists fun (x : Pl.TP) =>
 SmT (Pl.Tree.mk x.fst x.snd) ∧
 (((y.fst.fst = x.fst ∧ ((0 : Nat) = (0 : Nat) ∧ y.fst.snd.length = x.snd.length) ∧ True) ∧ True) ∧
 IsO (arT y.fst.snd) (arT x.snd) ∧ True) ∧
 ∀ (y_3 : Unit),
 True →
 Exists fun (x_3 : Pl.TP) =>
 SmT (Pl.Tree.mk x_3.fst x_3.snd) ∧
 (((y.fst.fst = x_3.fst ∧ ((0 : Nat) = (0 : Nat) ∧ y.fst.snd.length = x_3.snd.length) ∧ True) ∧ True) ∧
 IsO (arT x.snd) (arT x_3.snd) ∧ True) ∧
 ∀ (y_4 : Unit),
 True →
 (0 : Nat) + y.fst.snd.length ≤ x_3.snd.length ∧
 (y.fst.snd.length + (2 : Nat)) * (40 : Nat) ≤ (70368744177664 : Nat) ∧
 Exists fun (y_5 : Pl.TP × Int) =>
 (Pl.TmB (1500 : Nat) y_5.fst ∧ p ≤ y_5.snd ∧ y_5.snd ≤ p + (500 : Int)) ∧
 (0 : Nat) + (y.fst.snd.length + (2 : Nat)) ≤ y.fst.snd.length + (2 : Nat) ∧
 ((y.fst.fst = y_5.fst.fst ∧
 Is
 (AV.sl (y.fst.snd.length + (2 : Nat)) (2 : Nat) fun (i j : Nat) =>
 joinC y.fst.snd.length (cT x_3.snd)
 (rowsCell [[st x.fst, terms x.snd], [st x_3.fst, terms x_3.snd]]) i j)
 (terms y_5.fst.snd) ∧
 True) ∧
 True) ∧
 (Is (byts x_2.fst) (byts b) ∧ x_2.snd.fst + (1 : Int) = y_5.snd ∧ True) ∧ True)
 (Exists fun (y_3 : Pl.TP × Int) =>
 (Pl.TmB (1500 : Nat) y_3.fst ∧ p ≤ y_3.snd ∧ y_3.snd ≤ p + (500 : Int)) ∧
 (0 : Nat) + y.fst.snd.length ≤ y.fst.snd.length ∧
 ((y.fst.fst = y_3.fst.fst ∧ Is (terms y.fst.snd) (terms y_3.fst.snd) ∧ True) ∧ True) ∧
 (Is (byts x_2.fst) (byts b) ∧ x_2.snd.fst + (1 : Int) = y_3.snd ∧ True) ∧ True)))) ∧
 (Exists fun (x_1 : List Int × Int × List Int) =>
 (Rd (1099511627776 : Int) x_1.fst x_1.snd.fst ∧ x_1.snd.snd ≠ [] ∧ Sz x_1.snd.snd) ∧
 (((0 : Nat) = (0 : Nat) ∧
 Is (AV.lit (4 : Nat) (1 : Nat) (rowsCell [[i64 (2 : Int)], [i64 (3 : Int)], [i64 (1 : Int)], [i64 (4 : Int)]])) (ints x_1.snd.snd) ∧ True) ∧
 (Is (byts x.fst) (byts x_1.fst) ∧ x.snd.fst + (1 : Int) = x_1.snd.fst ∧ True) ∧ True) ∧
 ∀ (y_1 : Int),
 y_1 ∈ x_1.snd.snd →
 (Exists fun (x : AX) =>
 (Rd (137438953472 : Int) x.fst x.snd.fst ∧
 x.snd.fst + (↑(Pl.CB x.snd.snd.snd.snd.toNat) : Int) ≤ (137438953472 : Int) ∧ Pl.SgB (5 : Nat) (2 : Nat) x.snd.snd.fst ∧ x.snd.snd.snd.snd ≤ (4 : Int)) ∧
 (((0 : Nat) = (0 : Nat) ∧ (Is (syms s) (syms x.snd.snd.fst) ∧ True) ∧ y = x.snd.snd.snd.fst ∧ y_1 = x.snd.snd.snd.snd ∧ True) ∧
 (Is (byts x_1.fst) (byts x.fst) ∧ x_1.snd.fst + (1 : Int) = x.snd.fst ∧ True) ∧ True) ∧
 ∀ (y : Pl.TP × Int),
 Pl.TmB (Pl.CB x.snd.snd.snd.snd.toNat) y.fst ∧ x.snd.fst ≤ y.snd ∧ y.snd ≤ x.snd.fst + (↑(Pl.CB x.snd.snd.snd.snd.toNat) : Int) →
 Exists fun (x_2 : List Int × Int × Int) =>
 Rd (1099511627776 : Int) x_2.fst x_2.snd.fst ∧
 (((0 : Nat) = (0 : Nat) ∧ (48 : Int) = x_2.snd.snd ∧ True) ∧ (Is (byts x.fst) (byts x_2.fst) ∧ y.snd = x_2.snd.fst ∧ True) ∧ True) ∧
 ∀ (y_2 : Int),
 ((1 : Int) ≤ x_2.snd.snd → (0 : Int) ≤ y_2 ∧ y_2 < x_2.snd.snd) ∧ (x_2.snd.snd < (1 : Int) → y_2 = (0 : Int)) →
 condP (y_2 == (0 : Int))
 (Exists fun (x : List Int × Int × List ByteArray) =>
 (Rd (1099511627776 : Int) x.fst x.snd.fst ∧ x.snd.snd ≠ [] ∧ Sz x.snd.snd) ∧
 (((0 : Nat) = (0 : Nat) ∧
 Is
 (AV.lit (4 : Nat) (1 : Nat)
 (rowsCell
 [[st (ByteArray.mk #[])], [st (ByteArray.mk #[(65 : UInt8)])],
 [st (ByteArray.mk #[(97 : UInt8), (98 : UInt8), (99 : UInt8)])], [st (ByteArray.mk #[(102 : UInt8)])]]))
 (strs x.snd.snd) ∧
 True) ∧
 (Is (byts x_2.fst) (byts x.fst) ∧ x_2.snd.fst + (1 : Int) = x.snd.fst ∧ True) ∧ True) ∧
 ∀ (y_3 : ByteArray),
 y_3 ∈ x.snd.snd →
 Exists fun (y_4 : Pl.TP × Int) =>
 (Pl.TmB (1500 : Nat) y_4.fst ∧ p ≤ y_4.snd ∧ y_4.snd ≤ p + (500 : Int)) ∧
 (0 : Nat) + y.fst.snd.length ≤ y.fst.snd.length ∧
 ((y_3 = y_4.fst.fst ∧ Is (terms y.fst.snd) (terms y_4.fst.snd) ∧ True) ∧ True) ∧
 (Is (byts x.fst) (byts b) ∧ x.snd.fst + (1 : Int) = y_4.snd ∧ True) ∧ True)
 (condP (y_2 == (1 : Int))
 (Exists fun (x : Pl.TP) =>
 SmT (Pl.Tree.mk x.fst x.snd) ∧
 (((y.fst.fst = x.fst ∧ ((0 : Nat) = (0 : Nat) ∧ y.fst.snd.length = x.snd.length) ∧ True) ∧ True) ∧
 IsO (arT y.fst.snd) (arT x.snd) ∧ True) ∧
 ∀ (y_3 : Unit),
 True →
 (0 : Nat) + y.fst.snd.length ≤ x.snd.length ∧
 (y.fst.snd.length + (1 : Nat)) * (40 : Nat) ≤ (70368744177664 : Nat) ∧
 Exists fun (y_4 : Pl.TP × Int) =>
 (Pl.TmB (1500 : Nat) y_4.fst ∧ p ≤ y_4.snd ∧ y_4.snd ≤ p + (500 : Int)) ∧
 (0 : Nat) + (y.fst.snd.length + (1 : Nat)) ≤ y.fst.snd.length + (1 : Nat) ∧
 ((y.fst.fst = y_4.fst.fst ∧
 Is
 (AV.sl (y.fst.snd.length + (1 : Nat)) (2 : Nat) fun (i j : Nat) =>
 joinC y.fst.snd.length (cT x.snd) (rowsCell [[st x.fst, terms x.snd]]) i j)
 (terms y_4.fst.snd) ∧
 True) ∧
 True) ∧
 (Is (byts x_2.fst) (byts b) ∧ x_2.snd.fst + (1 : Int) = y_4.snd ∧ True) ∧ True)
 (condP (y_2 == (2 : Int))
 (Exists fun (x : Pl.TP) =>
 SmT (Pl.Tree.mk x.fst x.snd) ∧
 (((y.fst.fst = x.fst ∧ ((0 : Nat) = (0 : Nat) ∧ y.fst.snd.length = x.snd.length) ∧ True) ∧ True) ∧
 IsO (arT y.fst.snd) (arT x.snd) ∧ True) ∧
 ∀ (y_3 : Unit),
 True →
 Exists fun (x_3 : Pl.TP) =>
 SmT (Pl.Tree.mk x_3.fst x_3.snd) ∧
 (((y.fst.fst = x_3.fst ∧ ((0 : Nat) = (0 : Nat) ∧ y.fst.snd.length = x_3.snd.length) ∧ True) ∧ True) ∧
 IsO (arT x.snd) (arT x_3.snd) ∧ True) ∧
 ∀ (y_4 : Unit),
 True →
 (0 : Nat) + y.fst.snd.length ≤ x_3.snd.length ∧
 (y.fst.snd.length + (2 : Nat)) * (40 : Nat) ≤ (70368744177664 : Nat) ∧
 Exists fun (y_5 : Pl.TP × Int) =>
 (Pl.TmB (1500 : Nat) y_5.fst ∧ p ≤ y_5.snd ∧ y_5.snd ≤ p + (500 : Int)) ∧
 (0 : Nat) + (y.fst.snd.length + (2 : Nat)) ≤ y.fst.snd.length + (2 : Nat) ∧
 ((y.fst.fst = y_5.fst.fst ∧
 Is
 (AV.sl (y.fst.snd.length + (2 : Nat)) (2 : Nat) fun (i j : Nat) =>
 joinC y.fst.snd.length (cT x_3.snd)
 (rowsCell [[st x.fst, terms x.snd], [st x_3.fst, terms x_3.snd]]) i j)
 (terms y_5.fst.snd) ∧
 True) ∧
 True) ∧
 (Is (byts x_2.fst) (byts b) ∧ x_2.snd.fst + (1 : Int) = y_5.snd ∧ True) ∧ True)
 (Exists fun (y_3 : Pl.TP × Int) =>
 (Pl.TmB (1500 : Nat) y_3.fst ∧ p ≤ y_3.snd ∧ y_3.snd ≤ p + (500 : Int)) ∧
 (0 : Nat) + y.fst.snd.length ≤ y.fst.snd.length ∧
 ((y.fst.fst = y_3.fst.fst ∧ Is (terms y.fst.snd) (terms y_3.fst.snd) ∧ True) ∧ True) ∧
 (Is (byts x_2.fst) (byts b) ∧ x_2.snd.fst + (1 : Int) = y_3.snd ∧ True) ∧ True)))) ∧
 Exists fun (x : AX) =>
 (Rd (137438953472 : Int) x.fst x.snd.fst ∧
 x.snd.fst + (↑(Pl.CB x.snd.snd.snd.snd.toNat) : Int) ≤ (137438953472 : Int) ∧ Pl.SgB (5 : Nat) (2 : Nat) x.snd.snd.fst ∧ x.snd.snd.snd.snd ≤ (4 : Int)) ∧
 (((0 : Nat) = (0 : Nat) ∧ (Is (syms s) (syms x.snd.snd.fst) ∧ True) ∧ y = x.snd.snd.snd.fst ∧ y_1 = x.snd.snd.snd.snd ∧ True) ∧
 (Is (byts x_1.fst) (byts x.fst) ∧ x_1.snd.fst + (1 : Int) = x.snd.fst ∧ True) ∧ True) ∧
 ∀ (y : Pl.TP × Int),
 Pl.TmB (Pl.CB x.snd.snd.snd.snd.toNat) y.fst ∧ x.snd.fst ≤ y.snd ∧ y.snd ≤ x.snd.fst + (↑(Pl.CB x.snd.snd.snd.snd.toNat) : Int) →
 Exists fun (x_2 : List Int × Int × Int) =>
 Rd (1099511627776 : Int) x_2.fst x_2.snd.fst ∧
 (((0 : Nat) = (0 : Nat) ∧ (48 : Int) = x_2.snd.snd ∧ True) ∧ (Is (byts x.fst) (byts x_2.fst) ∧ y.snd = x_2.snd.fst ∧ True) ∧ True) ∧
 ∀ (y_2 : Int),
 ((1 : Int) ≤ x_2.snd.snd → (0 : Int) ≤ y_2 ∧ y_2 < x_2.snd.snd) ∧ (x_2.snd.snd < (1 : Int) → y_2 = (0 : Int)) →
 condP (y_2 == (0 : Int))
 (Exists fun (x : List Int × Int × List ByteArray) =>
 (Rd (1099511627776 : Int) x.fst x.snd.fst ∧ x.snd.snd ≠ [] ∧ Sz x.snd.snd) ∧
 (((0 : Nat) = (0 : Nat) ∧
 Is
 (AV.lit (4 : Nat) (1 : Nat)
 (rowsCell
 [[st (ByteArray.mk #[])], [st (ByteArray.mk #[(65 : UInt8)])],
 [st (ByteArray.mk #[(97 : UInt8), (98 : UInt8), (99 : UInt8)])], [st (ByteArray.mk #[(102 : UInt8)])]]))
 (strs x.snd.snd) ∧
 True) ∧
 (Is (byts x_2.fst) (byts x.fst) ∧ x_2.snd.fst + (1 : Int) = x.snd.fst ∧ True) ∧ True) ∧
 ∀ (y_3 : ByteArray),
 y_3 ∈ x.snd.snd →
 Exists fun (y_4 : Pl.TP × Int) =>
 (Pl.TmB (1500 : Nat) y_4.fst ∧ p ≤ y_4.snd ∧ y_4.snd ≤ p + (500 : Int)) ∧
 (0 : Nat) + y.fst.snd.length ≤ y.fst.snd.length ∧
 ((y_3 = y_4.fst.fst ∧ Is (terms y.fst.snd) (terms y_4.fst.snd) ∧ True) ∧ True) ∧
 (Is (byts x.fst) (byts b) ∧ x.snd.fst + (1 : Int) = y_4.snd ∧ True) ∧ True)
 (condP (y_2 == (1 : Int))
 (Exists fun (x : Pl.TP) =>
 SmT (Pl.Tree.mk x.fst x.snd) ∧
 (((y.fst.fst = x.fst ∧ ((0 : Nat) = (0 : Nat) ∧ y.fst.snd.length = x.snd.length) ∧ True) ∧ True) ∧
 IsO (arT y.fst.snd) (arT x.snd) ∧ True) ∧
 ∀ (y_3 : Unit),
 True →
 (0 : Nat) + y.fst.snd.length ≤ x.snd.length ∧
 (y.fst.snd.length + (1 : Nat)) * (40 : Nat) ≤ (70368744177664 : Nat) ∧
 Exists fun (y_4 : Pl.TP × Int) =>
 (Pl.TmB (1500 : Nat) y_4.fst ∧ p ≤ y_4.snd ∧ y_4.snd ≤ p + (500 : Int)) ∧
 (0 : Nat) + (y.fst.snd.length + (1 : Nat)) ≤ y.fst.snd.length + (1 : Nat) ∧
 ((y.fst.fst = y_4.fst.fst ∧
 Is
 (AV.sl (y.fst.snd.length + (1 : Nat)) (2 : Nat) fun (i j : Nat) =>
 joinC y.fst.snd.length (cT x.snd) (rowsCell [[st x.fst, terms x.snd]]) i j)
 (terms y_4.fst.snd) ∧
 True) ∧
 True) ∧
 (Is (byts x_2.fst) (byts b) ∧ x_2.snd.fst + (1 : Int) = y_4.snd ∧ True) ∧ True)
 (condP (y_2 == (2 : Int))
 (Exists fun (x : Pl.TP) =>
 SmT (Pl.Tree.mk x.fst x.snd) ∧
 (((y.fst.fst = x.fst ∧ ((0 : Nat) = (0 : Nat) ∧ y.fst.snd.length = x.snd.length) ∧ True) ∧ True) ∧
 IsO (arT y.fst.snd) (arT x.snd) ∧ True) ∧
 ∀ (y_3 : Unit),
 True →
 Exists fun (x_3 : Pl.TP) =>
 SmT (Pl.Tree.mk x_3.fst x_3.snd) ∧
 (((y.fst.fst = x_3.fst ∧ ((0 : Nat) = (0 : Nat) ∧ y.fst.snd.length = x_3.snd.length) ∧ True) ∧ True) ∧
 IsO (arT x.snd) (arT x_3.snd) ∧ True) ∧
 ∀ (y_4 : Unit),
 True →
 (0 : Nat) + y.fst.snd.length ≤ x_3.snd.length ∧
 (y.fst.snd.length + (2 : Nat)) * (40 : Nat) ≤ (70368744177664 : Nat) ∧
 Exists fun (y_5 : Pl.TP × Int) =>
 (Pl.TmB (1500 : Nat) y_5.fst ∧ p ≤ y_5.snd ∧ y_5.snd ≤ p + (500 : Int)) ∧
 (0 : Nat) + (y.fst.snd.length + (2 : Nat)) ≤ y.fst.snd.length + (2 : Nat) ∧
 ((y.fst.fst = y_5.fst.fst ∧
 Is
 (AV.sl (y.fst.snd.length + (2 : Nat)) (2 : Nat) fun (i j : Nat) =>
 joinC y.fst.snd.length (cT x_3.snd)
 (rowsCell [[st x.fst, terms x.snd], [st x_3.fst, terms x_3.snd]]) i j)
 (terms y_5.fst.snd) ∧
 True) ∧
 True) ∧
 (Is (byts x_2.fst) (byts b) ∧ x_2.snd.fst + (1 : Int) = y_5.snd ∧ True) ∧ True)
 (Exists fun (y_3 : Pl.TP × Int) =>
 (Pl.TmB (1500 : Nat) y_3.fst ∧ p ≤ y_3.snd ∧ y_3.snd ≤ p + (500 : Int)) ∧
 (0 : Nat) + y.fst.snd.length ≤ y.fst.snd.length ∧
 ((y.fst.fst = y_3.fst.fst ∧ Is (terms y.fst.snd) (terms y_3.fst.snd) ∧ True) ∧ True) ∧
 (Is (byts x_2.fst) (byts b) ∧ x_2.snd.fst + (1 : Int) = y_3.snd ∧ True) ∧ True)))) ∧
 (Exists fun (x_1 : List Int × Int × List Int) =>
 (Rd (1099511627776 : Int) x_1.fst x_1.snd.fst ∧ x_1.snd.snd ≠ [] ∧ Sz x_1.snd.snd) ∧
 (((0 : Nat) = (0 : Nat) ∧
 Is (AV.lit (4 : Nat) (1 : Nat) (rowsCell [[i64 (2 : Int)], [i64 (3 : Int)], [i64 (1 : Int)], [i64 (4 : Int)]])) (ints x_1.snd.snd) ∧ True) ∧
 (Is (byts x.fst) (byts x_1.fst) ∧ x.snd.fst + (1 : Int) = x_1.snd.fst ∧ True) ∧ True) ∧
 ∀ (y_1 : Int),
 y_1 ∈ x_1.snd.snd →
 Exists fun (x : AX) =>
 (Rd (137438953472 : Int) x.fst x.snd.fst ∧
 x.snd.fst + (↑(Pl.CB x.snd.snd.snd.snd.toNat) : Int) ≤ (137438953472 : Int) ∧ Pl.SgB (5 : Nat) (2 : Nat) x.snd.snd.fst ∧ x.snd.snd.snd.snd ≤ (4 : Int)) ∧
 (((0 : Nat) = (0 : Nat) ∧ (Is (syms s) (syms x.snd.snd.fst) ∧ True) ∧ y = x.snd.snd.snd.fst ∧ y_1 = x.snd.snd.snd.snd ∧ True) ∧
 (Is (byts x_1.fst) (byts x.fst) ∧ x_1.snd.fst + (1 : Int) = x.snd.fst ∧ True) ∧ True) ∧
 ∀ (y : Pl.TP × Int),
 Pl.TmB (Pl.CB x.snd.snd.snd.snd.toNat) y.fst ∧ x.snd.fst ≤ y.snd ∧ y.snd ≤ x.snd.fst + (↑(Pl.CB x.snd.snd.snd.snd.toNat) : Int) →
 Exists fun (x_2 : List Int × Int × Int) =>
 Rd (1099511627776 : Int) x_2.fst x_2.snd.fst ∧
 (((0 : Nat) = (0 : Nat) ∧ (48 : Int) = x_2.snd.snd ∧ True) ∧ (Is (byts x.fst) (byts x_2.fst) ∧ y.snd = x_2.snd.fst ∧ True) ∧ True) ∧
 ∀ (y_2 : Int),
 ((1 : Int) ≤ x_2.snd.snd → (0 : Int) ≤ y_2 ∧ y_2 < x_2.snd.snd) ∧ (x_2.snd.snd < (1 : Int) → y_2 = (0 : Int)) →
 condP (y_2 == (0 : Int))
 (Exists fun (x : List Int × Int × List ByteArray) =>
 (Rd (1099511627776 : Int) x.fst x.snd.fst ∧ x.snd.snd ≠ [] ∧ Sz x.snd.snd) ∧
 (((0 : Nat) = (0 : Nat) ∧
 Is
 (AV.lit (4 : Nat) (1 : Nat)
 (rowsCell
 [[st (ByteArray.mk #[])], [st (ByteArray.mk #[(65 : UInt8)])],
 [st (ByteArray.mk #[(97 : UInt8), (98 : UInt8), (99 : UInt8)])], [st (ByteArray.mk #[(102 : UInt8)])]]))
 (strs x.snd.snd) ∧
 True) ∧
 (Is (byts x_2.fst) (byts x.fst) ∧ x_2.snd.fst + (1 : Int) = x.snd.fst ∧ True) ∧ True) ∧
 ∀ (y_3 : ByteArray),
 y_3 ∈ x.snd.snd →
 Exists fun (y_4 : Pl.TP × Int) =>
 (Pl.TmB (1500 : Nat) y_4.fst ∧ p ≤ y_4.snd ∧ y_4.snd ≤ p + (500 : Int)) ∧
 (0 : Nat) + y.fst.snd.length ≤ y.fst.snd.length ∧
 ((y_3 = y_4.fst.fst ∧ Is (terms y.fst.snd) (terms y_4.fst.snd) ∧ True) ∧ True) ∧
 (Is (byts x.fst) (byts b) ∧ x.snd.fst + (1 : Int) = y_4.snd ∧ True) ∧ True)
 (condP (y_2 == (1 : Int))
 (Exists fun (x : Pl.TP) =>
 SmT (Pl.Tree.mk x.fst x.snd) ∧
 (((y.fst.fst = x.fst ∧ ((0 : Nat) = (0 : Nat) ∧ y.fst.snd.length = x.snd.length) ∧ True) ∧ True) ∧
 IsO (arT y.fst.snd) (arT x.snd) ∧ True) ∧
 ∀ (y_3 : Unit),
 True →
 (0 : Nat) + y.fst.snd.length ≤ x.snd.length ∧
 (y.fst.snd.length + (1 : Nat)) * (40 : Nat) ≤ (70368744177664 : Nat) ∧
 Exists fun (y_4 : Pl.TP × Int) =>
 (Pl.TmB (1500 : Nat) y_4.fst ∧ p ≤ y_4.snd ∧ y_4.snd ≤ p + (500 : Int)) ∧
 (0 : Nat) + (y.fst.snd.length + (1 : Nat)) ≤ y.fst.snd.length + (1 : Nat) ∧
 ((y.fst.fst = y_4.fst.fst ∧
 Is
 (AV.sl (y.fst.snd.length + (1 : Nat)) (2 : Nat) fun (i j : Nat) =>
 joinC y.fst.snd.length (cT x.snd) (rowsCell [[st x.fst, terms x.snd]]) i j)
 (terms y_4.fst.snd) ∧
 True) ∧
 True) ∧
 (Is (byts x_2.fst) (byts b) ∧ x_2.snd.fst + (1 : Int) = y_4.snd ∧ True) ∧ True)
 (condP (y_2 == (2 : Int))
 (Exists fun (x : Pl.TP) =>
 SmT (Pl.Tree.mk x.fst x.snd) ∧
 (((y.fst.fst = x.fst ∧ ((0 : Nat) = (0 : Nat) ∧ y.fst.snd.length = x.snd.length) ∧ True) ∧ True) ∧
 IsO (arT y.fst.snd) (arT x.snd) ∧ True) ∧
 ∀ (y_3 : Unit),
 True →
 Exists fun (x_3 : Pl.TP) =>
 SmT (Pl.Tree.mk x_3.fst x_3.snd) ∧
 (((y.fst.fst = x_3.fst ∧ ((0 : Nat) = (0 : Nat) ∧ y.fst.snd.length = x_3.snd.length) ∧ True) ∧ True) ∧
 IsO (arT x.snd) (arT x_3.snd) ∧ True) ∧
 ∀ (y_4 : Unit),
 True →
 (0 : Nat) + y.fst.snd.length ≤ x_3.snd.length ∧
 (y.fst.snd.length + (2 : Nat)) * (40 : Nat) ≤ (70368744177664 : Nat) ∧
 Exists fun (y_5 : Pl.TP × Int) =>
 (Pl.TmB (1500 : Nat) y_5.fst ∧ p ≤ y_5.snd ∧ y_5.snd ≤ p + (500 : Int)) ∧
 (0 : Nat) + (y.fst.snd.length + (2 : Nat)) ≤ y.fst.snd.length + (2 : Nat) ∧
 ((y.fst.fst = y_5.fst.fst ∧
 Is
 (AV.sl (y.fst.snd.length + (2 : Nat)) (2 : Nat) fun (i j : Nat) =>
 joinC y.fst.snd.length (cT x_3.snd)
 (rowsCell [[st x.fst, terms x.snd], [st x_3.fst, terms x_3.snd]]) i j)
 (terms y_5.fst.snd) ∧
 True) ∧
 True) ∧
 (Is (byts x_2.fst) (byts b) ∧ x_2.snd.fst + (1 : Int) = y_5.snd ∧ True) ∧ True)
 (Exists fun (y_3 : Pl.TP × Int) =>
 (Pl.TmB (1500 : Nat) y_3.fst ∧ p ≤ y_3.snd ∧ y_3.snd ≤ p + (500 : Int)) ∧
 (0 : Nat) + y.fst.snd.length ≤ y.fst.snd.length ∧
 ((y.fst.fst = y_3.fst.fst ∧ Is (terms y.fst.snd) (terms y_3.fst.snd) ∧ True) ∧ True) ∧
 (Is (byts x_2.fst) (byts b) ∧ x_2.snd.fst + (1 : Int) = y_3.snd ∧ True) ∧ True)))) ∧
 Exists fun (x_1 : List Int × Int × List Int) =>
 (Rd (1099511627776 : Int) x_1.fst x_1.snd.fst ∧ x_1.snd.snd ≠ [] ∧ Sz x_1.snd.snd) ∧
 (((0 : Nat) = (0 : Nat) ∧
 Is (AV.lit (4 : Nat) (1 : Nat) (rowsCell [[i64 (2 : Int)], [i64 (3 : Int)], [i64 (1 : Int)], [i64 (4 : Int)]])) (ints x_1.snd.snd) ∧ True) ∧
 (Is (byts x.fst) (byts x_1.fst) ∧ x.snd.fst + (1 : Int) = x_1.snd.fst ∧ True) ∧ True) ∧
 ∀ (y_1 : Int),
 y_1 ∈ x_1.snd.snd →
 Exists fun (x : AX) =>
 (Rd (137438953472 : Int) x.fst x.snd.fst ∧
 x.snd.fst + (↑(Pl.CB x.snd.snd.snd.snd.toNat) : Int) ≤ (137438953472 : Int) ∧ Pl.SgB (5 : Nat) (2 : Nat) x.snd.snd.fst ∧ x.snd.snd.snd.snd ≤ (4 : Int)) ∧
 (((0 : Nat) = (0 : Nat) ∧ (Is (syms s) (syms x.snd.snd.fst) ∧ True) ∧ y = x.snd.snd.snd.fst ∧ y_1 = x.snd.snd.snd.snd ∧ True) ∧
 (Is (byts x_1.fst) (byts x.fst) ∧ x_1.snd.fst + (1 : Int) = x.snd.fst ∧ True) ∧ True) ∧
 ∀ (y : Pl.TP × Int),
 Pl.TmB (Pl.CB x.snd.snd.snd.snd.toNat) y.fst ∧ x.snd.fst ≤ y.snd ∧ y.snd ≤ x.snd.fst + (↑(Pl.CB x.snd.snd.snd.snd.toNat) : Int) →
 Exists fun (x_2 : List Int × Int × Int) =>
 Rd (1099511627776 : Int) x_2.fst x_2.snd.fst ∧
 (((0 : Nat) = (0 : Nat) ∧ (48 : Int) = x_2.snd.snd ∧ True) ∧ (Is (byts x.fst) (byts x_2.fst) ∧ y.snd = x_2.snd.fst ∧ True) ∧ True) ∧
 ∀ (y_2 : Int),
 ((1 : Int) ≤ x_2.snd.snd → (0 : Int) ≤ y_2 ∧ y_2 < x_2.snd.snd) ∧ (x_2.snd.snd < (1 : Int) → y_2 = (0 : Int)) →
 condP (y_2 == (0 : Int))
 (Exists fun (x : List Int × Int × List ByteArray) =>
 (Rd (1099511627776 : Int) x.fst x.snd.fst ∧ x.snd.snd ≠ [] ∧ Sz x.snd.snd) ∧
 (((0 : Nat) = (0 : Nat) ∧
 Is
 (AV.lit (4 : Nat) (1 : Nat)
 (rowsCell
 [[st (ByteArray.mk #[])], [st (ByteArray.mk #[(65 : UInt8)])],
 [st (ByteArray.mk #[(97 : UInt8), (98 : UInt8), (99 : UInt8)])], [st (ByteArray.mk #[(102 : UInt8)])]]))
 (strs x.snd.snd) ∧
 True) ∧
 (Is (byts x_2.fst) (byts x.fst) ∧ x_2.snd.fst + (1 : Int) = x.snd.fst ∧ True) ∧ True) ∧
 ∀ (y_3 : ByteArray),
 y_3 ∈ x.snd.snd →
 Exists fun (y_4 : Pl.TP × Int) =>
 (Pl.TmB (1500 : Nat) y_4.fst ∧ p ≤ y_4.snd ∧ y_4.snd ≤ p + (500 : Int)) ∧
 (0 : Nat) + y.fst.snd.length ≤ y.fst.snd.length ∧
 ((y_3 = y_4.fst.fst ∧ Is (terms y.fst.snd) (terms y_4.fst.snd) ∧ True) ∧ True) ∧
 (Is (byts x.fst) (byts b) ∧ x.snd.fst + (1 : Int) = y_4.snd ∧ True) ∧ True)
 (condP (y_2 == (1 : Int))
 (Exists fun (x : Pl.TP) =>
 SmT (Pl.Tree.mk x.fst x.snd) ∧
 (((y.fst.fst = x.fst ∧ ((0 : Nat) = (0 : Nat) ∧ y.fst.snd.length = x.snd.length) ∧ True) ∧ True) ∧
 IsO (arT y.fst.snd) (arT x.snd) ∧ True) ∧
 ∀ (y_3 : Unit),
 True →
 (0 : Nat) + y.fst.snd.length ≤ x.snd.length ∧
 (y.fst.snd.length + (1 : Nat)) * (40 : Nat) ≤ (70368744177664 : Nat) ∧
 Exists fun (y_4 : Pl.TP × Int) =>
 (Pl.TmB (1500 : Nat) y_4.fst ∧ p ≤ y_4.snd ∧ y_4.snd ≤ p + (500 : Int)) ∧
 (0 : Nat) + (y.fst.snd.length + (1 : Nat)) ≤ y.fst.snd.length + (1 : Nat) ∧
 ((y.fst.fst = y_4.fst.fst ∧
 Is
 (AV.sl (y.fst.snd.length + (1 : Nat)) (2 : Nat) fun (i j : Nat) =>
 joinC y.fst.snd.length (cT x.snd) (rowsCell [[st x.fst, terms x.snd]]) i j)
 (terms y_4.fst.snd) ∧
 True) ∧
 True) ∧
 (Is (byts x_2.fst) (byts b) ∧ x_2.snd.fst + (1 : Int) = y_4.snd ∧ True) ∧ True)
 (condP (y_2 == (2 : Int))
 (Exists fun (x : Pl.TP) =>
 SmT (Pl.Tree.mk x.fst x.snd) ∧
 (((y.fst.fst = x.fst ∧ ((0 : Nat) = (0 : Nat) ∧ y.fst.snd.length = x.snd.length) ∧ True) ∧ True) ∧
 IsO (arT y.fst.snd) (arT x.snd) ∧ True) ∧
 ∀ (y_3 : Unit),
 True →
 Exists fun (x_3 : Pl.TP) =>
 SmT (Pl.Tree.mk x_3.fst x_3.snd) ∧
 (((y.fst.fst = x_3.fst ∧ ((0 : Nat) = (0 : Nat) ∧ y.fst.snd.length = x_3.snd.length) ∧ True) ∧ True) ∧
 IsO (arT x.snd) (arT x_3.snd) ∧ True) ∧
 ∀ (y_4 : Unit),
 True →
 (0 : Nat) + y.fst.snd.length ≤ x_3.snd.length ∧
 (y.fst.snd.length + (2 : Nat)) * (40 : Nat) ≤ (70368744177664 : Nat) ∧
 Exists fun (y_5 : Pl.TP × Int) =>
 (Pl.TmB (1500 : Nat) y_5.fst ∧ p ≤ y_5.snd ∧ y_5.snd ≤ p + (500 : Int)) ∧
 (0 : Nat) + (y.fst.snd.length + (2 : Nat)) ≤ y.fst.snd.length + (2 : Nat) ∧
 ((y.fst.fst = y_5.fst.fst ∧
 Is
 (AV.sl (y.fst.snd.length + (2 : Nat)) (2 : Nat) fun (i j : Nat) =>
 joinC y.fst.snd.length (cT x_3.snd)
 (rowsCell [[st x.fst, terms x.snd], [st x_3.fst, terms x_3.snd]]) i j)
 (terms y_5.fst.snd) ∧
 True) ∧
 True) ∧
 (Is (byts x_2.fst) (byts b) ∧ x_2.snd.fst + (1 : Int) = y_5.snd ∧ True) ∧ True)
 (Exists fun (y_3 : Pl.TP × Int) =>
 (Pl.TmB (1500 : Nat) y_3.fst ∧ p ≤ y_3.snd ∧ y_3.snd ≤ p + (500 : Int)) ∧
 (0 : Nat) + y.fst.snd.length ≤ y.fst.snd.length ∧
 ((y.fst.fst = y_3.fst.fst ∧ Is (terms y.fst.snd) (terms y_3.fst.snd) ∧ True) ∧ True) ∧
 (Is (byts x_2.fst) (byts b) ∧ x_2.snd.fst + (1 : Int) = y_3.snd ∧ True) ∧ True)))) ∧
 (Exists fun (x : List Int × Int × Int) =>
 Rd (1099511627776 : Int) x.fst x.snd.fst ∧
 (((0 : Nat) = (0 : Nat) ∧ (2 : Int) = x.snd.snd ∧ True) ∧ (Is (byts b) (byts x.fst) ∧ p = x.snd.fst ∧ True) ∧ True) ∧
 ∀ (y : Int),
 ((1 : Int) ≤ x.snd.snd → (0 : Int) ≤ y ∧ y < x.snd.snd) ∧ (x.snd.snd < (1 : Int) → y = (0 : Int)) →
 Exists fun (x_1 : List Int × Int × List Int) =>
 (Rd (1099511627776 : Int) x_1.fst x_1.snd.fst ∧ x_1.snd.snd ≠ [] ∧ Sz x_1.snd.snd) ∧
 (((0 : Nat) = (0 : Nat) ∧
 Is (AV.lit (4 : Nat) (1 : Nat) (rowsCell [[i64 (2 : Int)], [i64 (3 : Int)], [i64 (1 : Int)], [i64 (4 : Int)]])) (ints x_1.snd.snd) ∧ True) ∧
 (Is (byts x.fst) (byts x_1.fst) ∧ x.snd.fst + (1 : Int) = x_1.snd.fst ∧ True) ∧ True) ∧
 ∀ (y_1 : Int),
 y_1 ∈ x_1.snd.snd →
 Exists fun (x : AX) =>
 (Rd (137438953472 : Int) x.fst x.snd.fst ∧
 x.snd.fst + (↑(Pl.CB x.snd.snd.snd.snd.toNat) : Int) ≤ (137438953472 : Int) ∧ Pl.SgB (5 : Nat) (2 : Nat) x.snd.snd.fst ∧ x.snd.snd.snd.snd ≤ (4 : Int)) ∧
 (((0 : Nat) = (0 : Nat) ∧ (Is (syms s) (syms x.snd.snd.fst) ∧ True) ∧ y = x.snd.snd.snd.fst ∧ y_1 = x.snd.snd.snd.snd ∧ True) ∧
 (Is (byts x_1.fst) (byts x.fst) ∧ x_1.snd.fst + (1 : Int) = x.snd.fst ∧ True) ∧ True) ∧
 ∀ (y : Pl.TP × Int),
 Pl.TmB (Pl.CB x.snd.snd.snd.snd.toNat) y.fst ∧ x.snd.fst ≤ y.snd ∧ y.snd ≤ x.snd.fst + (↑(Pl.CB x.snd.snd.snd.snd.toNat) : Int) →
 Exists fun (x_2 : List Int × Int × Int) =>
 Rd (1099511627776 : Int) x_2.fst x_2.snd.fst ∧
 (((0 : Nat) = (0 : Nat) ∧ (48 : Int) = x_2.snd.snd ∧ True) ∧ (Is (byts x.fst) (byts x_2.fst) ∧ y.snd = x_2.snd.fst ∧ True) ∧ True) ∧
 ∀ (y_2 : Int),
 ((1 : Int) ≤ x_2.snd.snd → (0 : Int) ≤ y_2 ∧ y_2 < x_2.snd.snd) ∧ (x_2.snd.snd < (1 : Int) → y_2 = (0 : Int)) →
 condP (y_2 == (0 : Int))
 (Exists fun (x : List Int × Int × List ByteArray) =>
 (Rd (1099511627776 : Int) x.fst x.snd.fst ∧ x.snd.snd ≠ [] ∧ Sz x.snd.snd) ∧
 (((0 : Nat) = (0 : Nat) ∧
 Is
 (AV.lit (4 : Nat) (1 : Nat)
 (rowsCell
 [[st (ByteArray.mk #[])], [st (ByteArray.mk #[(65 : UInt8)])],
 [st (ByteArray.mk #[(97 : UInt8), (98 : UInt8), (99 : UInt8)])], [st (ByteArray.mk #[(102 : UInt8)])]]))
 (strs x.snd.snd) ∧
 True) ∧
 (Is (byts x_2.fst) (byts x.fst) ∧ x_2.snd.fst + (1 : Int) = x.snd.fst ∧ True) ∧ True) ∧
 ∀ (y_3 : ByteArray),
 y_3 ∈ x.snd.snd →
 Exists fun (y_4 : Pl.TP × Int) =>
 (Pl.TmB (1500 : Nat) y_4.fst ∧ p ≤ y_4.snd ∧ y_4.snd ≤ p + (500 : Int)) ∧
 (0 : Nat) + y.fst.snd.length ≤ y.fst.snd.length ∧
 ((y_3 = y_4.fst.fst ∧ Is (terms y.fst.snd) (terms y_4.fst.snd) ∧ True) ∧ True) ∧
 (Is (byts x.fst) (byts b) ∧ x.snd.fst + (1 : Int) = y_4.snd ∧ True) ∧ True)
 (condP (y_2 == (1 : Int))
 (Exists fun (x : Pl.TP) =>
 SmT (Pl.Tree.mk x.fst x.snd) ∧
 (((y.fst.fst = x.fst ∧ ((0 : Nat) = (0 : Nat) ∧ y.fst.snd.length = x.snd.length) ∧ True) ∧ True) ∧
 IsO (arT y.fst.snd) (arT x.snd) ∧ True) ∧
 ∀ (y_3 : Unit),
 True →
 (0 : Nat) + y.fst.snd.length ≤ x.snd.length ∧
 (y.fst.snd.length + (1 : Nat)) * (40 : Nat) ≤ (70368744177664 : Nat) ∧
 Exists fun (y_4 : Pl.TP × Int) =>
 (Pl.TmB (1500 : Nat) y_4.fst ∧ p ≤ y_4.snd ∧ y_4.snd ≤ p + (500 : Int)) ∧
 (0 : Nat) + (y.fst.snd.length + (1 : Nat)) ≤ y.fst.snd.length + (1 : Nat) ∧
 ((y.fst.fst = y_4.fst.fst ∧
 Is
 (AV.sl (y.fst.snd.length + (1 : Nat)) (2 : Nat) fun (i j : Nat) =>
 joinC y.fst.snd.length (cT x.snd) (rowsCell [[st x.fst, terms x.snd]]) i j)
 (terms y_4.fst.snd) ∧
 True) ∧
 True) ∧
 (Is (byts x_2.fst) (byts b) ∧ x_2.snd.fst + (1 : Int) = y_4.snd ∧ True) ∧ True)
 (condP (y_2 == (2 : Int))
 (Exists fun (x : Pl.TP) =>
 SmT (Pl.Tree.mk x.fst x.snd) ∧
 (((y.fst.fst = x.fst ∧ ((0 : Nat) = (0 : Nat) ∧ y.fst.snd.length = x.snd.length) ∧ True) ∧ True) ∧
 IsO (arT y.fst.snd) (arT x.snd) ∧ True) ∧
 ∀ (y_3 : Unit),
 True →
 Exists fun (x_3 : Pl.TP) =>
 SmT (Pl.Tree.mk x_3.fst x_3.snd) ∧
 (((y.fst.fst = x_3.fst ∧ ((0 : Nat) = (0 : Nat) ∧ y.fst.snd.length = x_3.snd.length) ∧ True) ∧ True) ∧
 IsO (arT x.snd) (arT x_3.snd) ∧ True) ∧
 ∀ (y_4 : Unit),
 True →
 (0 : Nat) + y.fst.snd.length ≤ x_3.snd.length ∧
 (y.fst.snd.length + (2 : Nat)) * (40 : Nat) ≤ (70368744177664 : Nat) ∧
 Exists fun (y_5 : Pl.TP × Int) =>
 (Pl.TmB (1500 : Nat) y_5.fst ∧ p ≤ y_5.snd ∧ y_5.snd ≤ p + (500 : Int)) ∧
 (0 : Nat) + (y.fst.snd.length + (2 : Nat)) ≤ y.fst.snd.length + (2 : Nat) ∧
 ((y.fst.fst = y_5.fst.fst ∧
 Is
 (AV.sl (y.fst.snd.length + (2 : Nat)) (2 : Nat) fun (i j : Nat) =>
 joinC y.fst.snd.length (cT x_3.snd)
 (rowsCell [[st x.fst, terms x.snd], [st x_3.fst, terms x_3.snd]]) i j)
 (terms y_5.fst.snd) ∧
 True) ∧
 True) ∧
 (Is (byts x_2.fst) (byts b) ∧ x_2.snd.fst + (1 : Int) = y_5.snd ∧ True) ∧ True)
 (Exists fun (y_3 : Pl.TP × Int) =>
 (Pl.TmB (1500 : Nat) y_3.fst ∧ p ≤ y_3.snd ∧ y_3.snd ≤ p + (500 : Int)) ∧
 (0 : Nat) + y.fst.snd.length ≤ y.fst.snd.length ∧
 ((y.fst.fst = y_3.fst.fst ∧ Is (terms y.fst.snd) (terms y_3.fst.snd) ∧ True) ∧ True) ∧
 (Is (byts x_2.fst) (byts b) ∧ x_2.snd.fst + (1 : Int) = y_3.snd ∧ True) ∧ True)))) ∧
 Exists fun (x : List Int × Int × Int) =>
 Rd (1099511627776 : Int) x.fst x.snd.fst ∧
 (((0 : Nat) = (0 : Nat) ∧ (2 : Int) = x.snd.snd ∧ True) ∧ (Is (byts b) (byts x.fst) ∧ p = x.snd.fst ∧ True) ∧ True) ∧
 ∀ (y : Int),
 ((1 : Int) ≤ x.snd.snd → (0 : Int) ≤ y ∧ y < x.snd.snd) ∧ (x.snd.snd < (1 : Int) → y = (0 : Int)) →
 (Exists fun (x_1 : List Int × Int × List Int) =>
 (Rd (1099511627776 : Int) x_1.fst x_1.snd.fst ∧ x_1.snd.snd ≠ [] ∧ Sz x_1.snd.snd) ∧
 (((0 : Nat) = (0 : Nat) ∧
 Is (AV.lit (4 : Nat) (1 : Nat) (rowsCell [[i64 (2 : Int)], [i64 (3 : Int)], [i64 (1 : Int)], [i64 (4 : Int)]])) (ints x_1.snd.snd) ∧ True) ∧
 (Is (byts x.fst) (byts x_1.fst) ∧ x.snd.fst + (1 : Int) = x_1.snd.fst ∧ True) ∧ True) ∧
 ∀ (y_1 : Int),
 y_1 ∈ x_1.snd.snd →
 Exists fun (x : AX) =>
 (Rd (137438953472 : Int) x.fst x.snd.fst ∧
 x.snd.fst + (↑(Pl.CB x.snd.snd.snd.snd.toNat) : Int) ≤ (137438953472 : Int) ∧ Pl.SgB (5 : Nat) (2 : Nat) x.snd.snd.fst ∧ x.snd.snd.snd.snd ≤ (4 : Int)) ∧
 (((0 : Nat) = (0 : Nat) ∧ (Is (syms s) (syms x.snd.snd.fst) ∧ True) ∧ y = x.snd.snd.snd.fst ∧ y_1 = x.snd.snd.snd.snd ∧ True) ∧
 (Is (byts x_1.fst) (byts x.fst) ∧ x_1.snd.fst + (1 : Int) = x.snd.fst ∧ True) ∧ True) ∧
 ∀ (y : Pl.TP × Int),
 Pl.TmB (Pl.CB x.snd.snd.snd.snd.toNat) y.fst ∧ x.snd.fst ≤ y.snd ∧ y.snd ≤ x.snd.fst + (↑(Pl.CB x.snd.snd.snd.snd.toNat) : Int) →
 Exists fun (x_2 : List Int × Int × Int) =>
 Rd (1099511627776 : Int) x_2.fst x_2.snd.fst ∧
 (((0 : Nat) = (0 : Nat) ∧ (48 : Int) = x_2.snd.snd ∧ True) ∧ (Is (byts x.fst) (byts x_2.fst) ∧ y.snd = x_2.snd.fst ∧ True) ∧ True) ∧
 ∀ (y_2 : Int),
 ((1 : Int) ≤ x_2.snd.snd → (0 : Int) ≤ y_2 ∧ y_2 < x_2.snd.snd) ∧ (x_2.snd.snd < (1 : Int) → y_2 = (0 : Int)) →
 condP (y_2 == (0 : Int))
 (Exists fun (x : List Int × Int × List ByteArray) =>
 (Rd (1099511627776 : Int) x.fst x.snd.fst ∧ x.snd.snd ≠ [] ∧ Sz x.snd.snd) ∧
 (((0 : Nat) = (0 : Nat) ∧
 Is
 (AV.lit (4 : Nat) (1 : Nat)
 (rowsCell
 [[st (ByteArray.mk #[])], [st (ByteArray.mk #[(65 : UInt8)])],
 [st (ByteArray.mk #[(97 : UInt8), (98 : UInt8), (99 : UInt8)])], [st (ByteArray.mk #[(102 : UInt8)])]]))
 (strs x.snd.snd) ∧
 True) ∧
 (Is (byts x_2.fst) (byts x.fst) ∧ x_2.snd.fst + (1 : Int) = x.snd.fst ∧ True) ∧ True) ∧
 ∀ (y_3 : ByteArray),
 y_3 ∈ x.snd.snd →
 Exists fun (y_4 : Pl.TP × Int) =>
 (Pl.TmB (1500 : Nat) y_4.fst ∧ p ≤ y_4.snd ∧ y_4.snd ≤ p + (500 : Int)) ∧
 (0 : Nat) + y.fst.snd.length ≤ y.fst.snd.length ∧
 ((y_3 = y_4.fst.fst ∧ Is (terms y.fst.snd) (terms y_4.fst.snd) ∧ True) ∧ True) ∧
 (Is (byts x.fst) (byts b) ∧ x.snd.fst + (1 : Int) = y_4.snd ∧ True) ∧ True)
 (condP (y_2 == (1 : Int))
 (Exists fun (x : Pl.TP) =>
 SmT (Pl.Tree.mk x.fst x.snd) ∧
 (((y.fst.fst = x.fst ∧ ((0 : Nat) = (0 : Nat) ∧ y.fst.snd.length = x.snd.length) ∧ True) ∧ True) ∧
 IsO (arT y.fst.snd) (arT x.snd) ∧ True) ∧
 ∀ (y_3 : Unit),
 True →
 (0 : Nat) + y.fst.snd.length ≤ x.snd.length ∧
 (y.fst.snd.length + (1 : Nat)) * (40 : Nat) ≤ (70368744177664 : Nat) ∧
 Exists fun (y_4 : Pl.TP × Int) =>
 (Pl.TmB (1500 : Nat) y_4.fst ∧ p ≤ y_4.snd ∧ y_4.snd ≤ p + (500 : Int)) ∧
 (0 : Nat) + (y.fst.snd.length + (1 : Nat)) ≤ y.fst.snd.length + (1 : Nat) ∧
 ((y.fst.fst = y_4.fst.fst ∧
 Is
 (AV.sl (y.fst.snd.length + (1 : Nat)) (2 : Nat) fun (i j : Nat) =>
 joinC y.fst.snd.length (cT x.snd) (rowsCell [[st x.fst, terms x.snd]]) i j)
 (terms y_4.fst.snd) ∧
 True) ∧
 True) ∧
 (Is (byts x_2.fst) (byts b) ∧ x_2.snd.fst + (1 : Int) = y_4.snd ∧ True) ∧ True)
 (condP (y_2 == (2 : Int))
 (Exists fun (x : Pl.TP) =>
 SmT (Pl.Tree.mk x.fst x.snd) ∧
 (((y.fst.fst = x.fst ∧ ((0 : Nat) = (0 : Nat) ∧ y.fst.snd.length = x.snd.length) ∧ True) ∧ True) ∧
 IsO (arT y.fst.snd) (arT x.snd) ∧ True) ∧
 ∀ (y_3 : Unit),
 True →
 Exists fun (x_3 : Pl.TP) =>
 SmT (Pl.Tree.mk x_3.fst x_3.snd) ∧
 (((y.fst.fst = x_3.fst ∧ ((0 : Nat) = (0 : Nat) ∧ y.fst.snd.length = x_3.snd.length) ∧ True) ∧ True) ∧
 IsO (arT x.snd) (arT x_3.snd) ∧ True) ∧
 ∀ (y_4 : Unit),
 True →
 (0 : Nat) + y.fst.snd.length ≤ x_3.snd.length ∧
 (y.fst.snd.length + (2 : Nat)) * (40 : Nat) ≤ (70368744177664 : Nat) ∧
 Exists fun (y_5 : Pl.TP × Int) =>
 (Pl.TmB (1500 : Nat) y_5.fst ∧ p ≤ y_5.snd ∧ y_5.snd ≤ p + (500 : Int)) ∧
 (0 : Nat) + (y.fst.snd.length + (2 : Nat)) ≤ y.fst.snd.length + (2 : Nat) ∧
 ((y.fst.fst = y_5.fst.fst ∧
 Is
 (AV.sl (y.fst.snd.length + (2 : Nat)) (2 : Nat) fun (i j : Nat) =>
 joinC y.fst.snd.length (cT x_3.snd)
 (rowsCell [[st x.fst, terms x.snd], [st x_3.fst, terms x_3.snd]]) i j)
 (terms y_5.fst.snd) ∧
 True) ∧
 True) ∧
 (Is (byts x_2.fst) (byts b) ∧ x_2.snd.fst + (1 : Int) = y_5.snd ∧ True) ∧ True)
 (Exists fun (y_3 : Pl.TP × Int) =>
 (Pl.TmB (1500 : Nat) y_3.fst ∧ p ≤ y_3.snd ∧ y_3.snd ≤ p + (500 : Int)) ∧
 (0 : Nat) + y.fst.snd.length ≤ y.fst.snd.length ∧
 ((y.fst.fst = y_3.fst.fst ∧ Is (terms y.fst.snd) (terms y_3.fst.snd) ∧ True) ∧ True) ∧
 (Is (byts x_2.fst) (byts b) ∧ x_2.snd.fst + (1 : Int) = y_3.snd ∧ True) ∧ True)))) ∧
 Exists fun (x_1 : List Int × Int × List Int) =>
 (Rd (1099511627776 : Int) x_1.fst x_1.snd.fst ∧ x_1.snd.snd ≠ [] ∧ Sz x_1.snd.snd) ∧
 (((0 : Nat) = (0 : Nat) ∧
 Is (AV.lit (4 : Nat) (1 : Nat) (rowsCell [[i64 (2 : Int)], [i64 (3 : Int)], [i64 (1 : Int)], [i64 (4 : Int)]])) (ints x_1.snd.snd) ∧ True) ∧
 (Is (byts x.fst) (byts x_1.fst) ∧ x.snd.fst + (1 : Int) = x_1.snd.fst ∧ True) ∧ True) ∧
 ∀ (y_1 : Int),
 y_1 ∈ x_1.snd.snd →
 Exists fun (x : AX) =>
 (Rd (137438953472 : Int) x.fst x.snd.fst ∧
 x.snd.fst + (↑(Pl.CB x.snd.snd.snd.snd.toNat) : Int) ≤ (137438953472 : Int) ∧ Pl.SgB (5 : Nat) (2 : Nat) x.snd.snd.fst ∧ x.snd.snd.snd.snd ≤ (4 : Int)) ∧
 (((0 : Nat) = (0 : Nat) ∧ (Is (syms s) (syms x.snd.snd.fst) ∧ True) ∧ y = x.snd.snd.snd.fst ∧ y_1 = x.snd.snd.snd.snd ∧ True) ∧
 (Is (byts x_1.fst) (byts x.fst) ∧ x_1.snd.fst + (1 : Int) = x.snd.fst ∧ True) ∧ True) ∧
 ∀ (y : Pl.TP × Int),
 Pl.TmB (Pl.CB x.snd.snd.snd.snd.toNat) y.fst ∧ x.snd.fst ≤ y.snd ∧ y.snd ≤ x.snd.fst + (↑(Pl.CB x.snd.snd.snd.snd.toNat) : Int) →
 Exists fun (x_2 : List Int × Int × Int) =>
 Rd (1099511627776 : Int) x_2.fst x_2.snd.fst ∧
 (((0 : Nat) = (0 : Nat) ∧ (48 : Int) = x_2.snd.snd ∧ True) ∧ (Is (byts x.fst) (byts x_2.fst) ∧ y.snd = x_2.snd.fst ∧ True) ∧ True) ∧
 ∀ (y_2 : Int),
 ((1 : Int) ≤ x_2.snd.snd → (0 : Int) ≤ y_2 ∧ y_2 < x_2.snd.snd) ∧ (x_2.snd.snd < (1 : Int) → y_2 = (0 : Int)) →
 condP (y_2 == (0 : Int))
 (Exists fun (x : List Int × Int × List ByteArray) =>
 (Rd (1099511627776 : Int) x.fst x.snd.fst ∧ x.snd.snd ≠ [] ∧ Sz x.snd.snd) ∧
 (((0 : Nat) = (0 : Nat) ∧
 Is
 (AV.lit (4 : Nat) (1 : Nat)
 (rowsCell
 [[st (ByteArray.mk #[])], [st (ByteArray.mk #[(65 : UInt8)])],
 [st (ByteArray.mk #[(97 : UInt8), (98 : UInt8), (99 : UInt8)])], [st (ByteArray.mk #[(102 : UInt8)])]]))
 (strs x.snd.snd) ∧
 True) ∧
 (Is (byts x_2.fst) (byts x.fst) ∧ x_2.snd.fst + (1 : Int) = x.snd.fst ∧ True) ∧ True) ∧
 ∀ (y_3 : ByteArray),
 y_3 ∈ x.snd.snd →
 Exists fun (y_4 : Pl.TP × Int) =>
 (Pl.TmB (1500 : Nat) y_4.fst ∧ p ≤ y_4.snd ∧ y_4.snd ≤ p + (500 : Int)) ∧
 (0 : Nat) + y.fst.snd.length ≤ y.fst.snd.length ∧
 ((y_3 = y_4.fst.fst ∧ Is (terms y.fst.snd) (terms y_4.fst.snd) ∧ True) ∧ True) ∧
 (Is (byts x.fst) (byts b) ∧ x.snd.fst + (1 : Int) = y_4.snd ∧ True) ∧ True)
 (condP (y_2 == (1 : Int))
 (Exists fun (x : Pl.TP) =>
 SmT (Pl.Tree.mk x.fst x.snd) ∧
 (((y.fst.fst = x.fst ∧ ((0 : Nat) = (0 : Nat) ∧ y.fst.snd.length = x.snd.length) ∧ True) ∧ True) ∧
 IsO (arT y.fst.snd) (arT x.snd) ∧ True) ∧
 ∀ (y_3 : Unit),
 True →
 (0 : Nat) + y.fst.snd.length ≤ x.snd.length ∧
 (y.fst.snd.length + (1 : Nat)) * (40 : Nat) ≤ (70368744177664 : Nat) ∧
 Exists fun (y_4 : Pl.TP × Int) =>
 (Pl.TmB (1500 : Nat) y_4.fst ∧ p ≤ y_4.snd ∧ y_4.snd ≤ p + (500 : Int)) ∧
 (0 : Nat) + (y.fst.snd.length + (1 : Nat)) ≤ y.fst.snd.length + (1 : Nat) ∧
 ((y.fst.fst = y_4.fst.fst ∧
 Is
 (AV.sl (y.fst.snd.length + (1 : Nat)) (2 : Nat) fun (i j : Nat) =>
 joinC y.fst.snd.length (cT x.snd) (rowsCell [[st x.fst, terms x.snd]]) i j)
 (terms y_4.fst.snd) ∧
 True) ∧
 True) ∧
 (Is (byts x_2.fst) (byts b) ∧ x_2.snd.fst + (1 : Int) = y_4.snd ∧ True) ∧ True)
 (condP (y_2 == (2 : Int))
 (Exists fun (x : Pl.TP) =>
 SmT (Pl.Tree.mk x.fst x.snd) ∧
 (((y.fst.fst = x.fst ∧ ((0 : Nat) = (0 : Nat) ∧ y.fst.snd.length = x.snd.length) ∧ True) ∧ True) ∧
 IsO (arT y.fst.snd) (arT x.snd) ∧ True) ∧
 ∀ (y_3 : Unit),
 True →
 Exists fun (x_3 : Pl.TP) =>
 SmT (Pl.Tree.mk x_3.fst x_3.snd) ∧
 (((y.fst.fst = x_3.fst ∧ ((0 : Nat) = (0 : Nat) ∧ y.fst.snd.length = x_3.snd.length) ∧ True) ∧ True) ∧
 IsO (arT x.snd) (arT x_3.snd) ∧ True) ∧
 ∀ (y_4 : Unit),
 True →
 (0 : Nat) + y.fst.snd.length ≤ x_3.snd.length ∧
 (y.fst.snd.length + (2 : Nat)) * (40 : Nat) ≤ (70368744177664 : Nat) ∧
 Exists fun (y_5 : Pl.TP × Int) =>
 (Pl.TmB (1500 : Nat) y_5.fst ∧ p ≤ y_5.snd ∧ y_5.snd ≤ p + (500 : Int)) ∧
 (0 : Nat) + (y.fst.snd.length + (2 : Nat)) ≤ y.fst.snd.length + (2 : Nat) ∧
 ((y.fst.fst = y_5.fst.fst ∧
 Is
 (AV.sl (y.fst.snd.length + (2 : Nat)) (2 : Nat) fun (i j : Nat) =>
 joinC y.fst.snd.length (cT x_3.snd)
 (rowsCell [[st x.fst, terms x.snd], [st x_3.fst, terms x_3.snd]]) i j)
 (terms y_5.fst.snd) ∧
 True) ∧
 True) ∧
 (Is (byts x_2.fst) (byts b) ∧ x_2.snd.fst + (1 : Int) = y_5.snd ∧ True) ∧ True)
 (Exists fun (y_3 : Pl.TP × Int) =>
 (Pl.TmB (1500 : Nat) y_3.fst ∧ p ≤ y_3.snd ∧ y_3.snd ≤ p + (500 : Int)) ∧
 (0 : Nat) + y.fst.snd.length ≤ y.fst.snd.length ∧
 ((y.fst.fst = y_3.fst.fst ∧ Is (terms y.fst.snd) (terms y_3.fst.snd) ∧ True) ∧ True) ∧
 (Is (byts x_2.fst) (byts b) ∧ x_2.snd.fst + (1 : Int) = y_3.snd ∧ True) ∧ True)))) = Goal Tryz.prog [K_pick, K_num, K_of, K_lAny, K_l4CopyO] ([]) K_l4Some.1 K_l4Some.2 ((b, p, s)) := by kernel_rfl

theorem vc_DrawModelTerm (b : List Int) : (Exists fun (x : List Int) =>
 (Sz x ∧ Byt x) ∧
 ((Is (byts b) (byts x) ∧ True) ∧ True) ∧
 ∀ (y : List Int),
 Rd (0 : Int) y (0 : Int) →
 Exists fun (x : RX) =>
 Rd (549755813888 : Int) x.fst x.snd ∧
 (((0 : Nat) = (0 : Nat) ∧ True) ∧ (Is (byts y) (byts x.fst) ∧ (0 : Int) = x.snd ∧ True) ∧ True) ∧
 ∀ (y : Pl.Sig),
 Pl.SgB (5 : Nat) (2 : Nat) y →
 Exists fun (x_1 : BX) =>
 (Rd (68719476736 : Int) x_1.fst x_1.snd.fst ∧ Pl.SgB (5 : Nat) (2 : Nat) x_1.snd.snd) ∧
 (((0 : Nat) = (0 : Nat) ∧ (Is (syms y) (syms x_1.snd.snd) ∧ True) ∧ True) ∧
 (Is (byts x.fst) (byts x_1.fst) ∧ x.snd + (1 : Int) = x_1.snd.fst ∧ True) ∧ True) ∧
 ∀ (y_1 : Pl.Mdl × Int),
 Pl.MdB (16 : Nat) (3 : Nat) y_1.fst ∧ x_1.snd.fst ≤ y_1.snd ∧ y_1.snd ≤ x_1.snd.fst + (1100 : Int) →
 ((Exists fun (x : BX) =>
 (Rd (68719476736 : Int) x.fst x.snd.fst ∧ Pl.SgB (5 : Nat) (2 : Nat) x.snd.snd) ∧
 (((0 : Nat) = (0 : Nat) ∧ (Is (syms y) (syms x.snd.snd) ∧ True) ∧ True) ∧
 (Is (byts x_1.fst) (byts x.fst) ∧ y_1.snd = x.snd.fst ∧ True) ∧ True) ∧
 ∀ (y_2 : Pl.TP × Int),
 Pl.TmB (1500 : Nat) y_2.fst ∧ x.snd.fst ≤ y_2.snd ∧ y_2.snd ≤ x.snd.fst + (500 : Int) →
 Exists fun (y_3 : Pl.Sig × Pl.Mdl × Pl.TP) =>
 (Pl.SgB (5 : Nat) (2 : Nat) y_3.fst ∧ Pl.MdB (16 : Nat) (3 : Nat) y_3.snd.fst ∧ Pl.TmB (1500 : Nat) y_3.snd.snd) ∧
 (((Is (syms y) (syms y_3.fst) ∧ True) ∧
 (Is (mrows y_1.fst) (mrows y_3.snd.fst) ∧ True) ∧
 (y_2.fst.fst = y_3.snd.snd.fst ∧ Is (terms y_2.fst.snd) (terms y_3.snd.snd.snd) ∧ True) ∧ True) ∧
 True) ∧
 True) ∧
 (Exists fun (x : BX) =>
 (Rd (68719476736 : Int) x.fst x.snd.fst ∧ Pl.SgB (5 : Nat) (2 : Nat) x.snd.snd) ∧
 (((0 : Nat) = (0 : Nat) ∧ (Is (syms y) (syms x.snd.snd) ∧ True) ∧ True) ∧
 (Is (byts x_1.fst) (byts x.fst) ∧ y_1.snd = x.snd.fst ∧ True) ∧ True) ∧
 ∀ (y_2 : Pl.TP × Int),
 Pl.TmB (1500 : Nat) y_2.fst ∧ x.snd.fst ≤ y_2.snd ∧ y_2.snd ≤ x.snd.fst + (500 : Int) →
 Exists fun (y_3 : Pl.Sig × Pl.Mdl × Pl.TP) =>
 (Pl.SgB (5 : Nat) (2 : Nat) y_3.fst ∧ Pl.MdB (16 : Nat) (3 : Nat) y_3.snd.fst ∧ Pl.TmB (1500 : Nat) y_3.snd.snd) ∧
 (((Is (syms y) (syms y_3.fst) ∧ True) ∧
 (Is (mrows y_1.fst) (mrows y_3.snd.fst) ∧ True) ∧
 (y_2.fst.fst = y_3.snd.snd.fst ∧ Is (terms y_2.fst.snd) (terms y_3.snd.snd.snd) ∧ True) ∧ True) ∧
 True) ∧
 True) ∧
 Exists fun (x : BX) =>
 (Rd (68719476736 : Int) x.fst x.snd.fst ∧ Pl.SgB (5 : Nat) (2 : Nat) x.snd.snd) ∧
 (((0 : Nat) = (0 : Nat) ∧ (Is (syms y) (syms x.snd.snd) ∧ True) ∧ True) ∧
 (Is (byts x_1.fst) (byts x.fst) ∧ y_1.snd = x.snd.fst ∧ True) ∧ True) ∧
 ∀ (y_2 : Pl.TP × Int),
 Pl.TmB (1500 : Nat) y_2.fst ∧ x.snd.fst ≤ y_2.snd ∧ y_2.snd ≤ x.snd.fst + (500 : Int) →
 (Exists fun (y_3 : Pl.Sig × Pl.Mdl × Pl.TP) =>
 (Pl.SgB (5 : Nat) (2 : Nat) y_3.fst ∧ Pl.MdB (16 : Nat) (3 : Nat) y_3.snd.fst ∧ Pl.TmB (1500 : Nat) y_3.snd.snd) ∧
 (((Is (syms y) (syms y_3.fst) ∧ True) ∧
 (Is (mrows y_1.fst) (mrows y_3.snd.fst) ∧ True) ∧
 (y_2.fst.fst = y_3.snd.snd.fst ∧ Is (terms y_2.fst.snd) (terms y_3.snd.snd.snd) ∧ True) ∧ True) ∧
 True) ∧
 True) ∧
 Exists fun (y_3 : Pl.Sig × Pl.Mdl × Pl.TP) =>
 (Pl.SgB (5 : Nat) (2 : Nat) y_3.fst ∧ Pl.MdB (16 : Nat) (3 : Nat) y_3.snd.fst ∧ Pl.TmB (1500 : Nat) y_3.snd.snd) ∧
 (((Is (syms y) (syms y_3.fst) ∧ True) ∧
 (Is (mrows y_1.fst) (mrows y_3.snd.fst) ∧ True) ∧
 (y_2.fst.fst = y_3.snd.snd.fst ∧ Is (terms y_2.fst.snd) (terms y_3.snd.snd.snd) ∧ True) ∧ True) ∧
 True) ∧
 True) ∧
 ((Exists fun (x : BX) =>
 (Rd (68719476736 : Int) x.fst x.snd.fst ∧ Pl.SgB (5 : Nat) (2 : Nat) x.snd.snd) ∧
 (((0 : Nat) = (0 : Nat) ∧ (Is (syms y) (syms x.snd.snd) ∧ True) ∧ True) ∧
 (Is (byts x_1.fst) (byts x.fst) ∧ y_1.snd = x.snd.fst ∧ True) ∧ True) ∧
 ∀ (y_2 : Pl.TP × Int),
 Pl.TmB (1500 : Nat) y_2.fst ∧ x.snd.fst ≤ y_2.snd ∧ y_2.snd ≤ x.snd.fst + (500 : Int) →
 Exists fun (y_3 : Pl.Sig × Pl.Mdl × Pl.TP) =>
 (Pl.SgB (5 : Nat) (2 : Nat) y_3.fst ∧ Pl.MdB (16 : Nat) (3 : Nat) y_3.snd.fst ∧ Pl.TmB (1500 : Nat) y_3.snd.snd) ∧
 (((Is (syms y) (syms y_3.fst) ∧ True) ∧
 (Is (mrows y_1.fst) (mrows y_3.snd.fst) ∧ True) ∧
 (y_2.fst.fst = y_3.snd.snd.fst ∧ Is (terms y_2.fst.snd) (terms y_3.snd.snd.snd) ∧ True) ∧ True) ∧
 True) ∧
 True) ∧
 (Exists fun (x : BX) =>
 (Rd (68719476736 : Int) x.fst x.snd.fst ∧ Pl.SgB (5 : Nat) (2 : Nat) x.snd.snd) ∧
 (((0 : Nat) = (0 : Nat) ∧ (Is (syms y) (syms x.snd.snd) ∧ True) ∧ True) ∧
 (Is (byts x_1.fst) (byts x.fst) ∧ y_1.snd = x.snd.fst ∧ True) ∧ True) ∧
 ∀ (y_2 : Pl.TP × Int),
 Pl.TmB (1500 : Nat) y_2.fst ∧ x.snd.fst ≤ y_2.snd ∧ y_2.snd ≤ x.snd.fst + (500 : Int) →
 Exists fun (y_3 : Pl.Sig × Pl.Mdl × Pl.TP) =>
 (Pl.SgB (5 : Nat) (2 : Nat) y_3.fst ∧ Pl.MdB (16 : Nat) (3 : Nat) y_3.snd.fst ∧ Pl.TmB (1500 : Nat) y_3.snd.snd) ∧
 (((Is (syms y) (syms y_3.fst) ∧ True) ∧
 (Is (mrows y_1.fst) (mrows y_3.snd.fst) ∧ True) ∧
 (y_2.fst.fst = y_3.snd.snd.fst ∧ Is (terms y_2.fst.snd) (terms y_3.snd.snd.snd) ∧ True) ∧ True) ∧
 True) ∧
 True) ∧
 Exists fun (x : BX) =>
 (Rd (68719476736 : Int) x.fst x.snd.fst ∧ Pl.SgB (5 : Nat) (2 : Nat) x.snd.snd) ∧
 (((0 : Nat) = (0 : Nat) ∧ (Is (syms y) (syms x.snd.snd) ∧ True) ∧ True) ∧
 (Is (byts x_1.fst) (byts x.fst) ∧ y_1.snd = x.snd.fst ∧ True) ∧ True) ∧
 ∀ (y_2 : Pl.TP × Int),
 Pl.TmB (1500 : Nat) y_2.fst ∧ x.snd.fst ≤ y_2.snd ∧ y_2.snd ≤ x.snd.fst + (500 : Int) →
 Exists fun (y_3 : Pl.Sig × Pl.Mdl × Pl.TP) =>
 (Pl.SgB (5 : Nat) (2 : Nat) y_3.fst ∧ Pl.MdB (16 : Nat) (3 : Nat) y_3.snd.fst ∧ Pl.TmB (1500 : Nat) y_3.snd.snd) ∧
 (((Is (syms y) (syms y_3.fst) ∧ True) ∧
 (Is (mrows y_1.fst) (mrows y_3.snd.fst) ∧ True) ∧
 (y_2.fst.fst = y_3.snd.snd.fst ∧ Is (terms y_2.fst.snd) (terms y_3.snd.snd.snd) ∧ True) ∧ True) ∧
 True) ∧
 True) ∧
 ((Exists fun (x : BX) =>
 (Rd (68719476736 : Int) x.fst x.snd.fst ∧ Pl.SgB (5 : Nat) (2 : Nat) x.snd.snd) ∧
 (((0 : Nat) = (0 : Nat) ∧ (Is (syms y) (syms x.snd.snd) ∧ True) ∧ True) ∧
 (Is (byts x_1.fst) (byts x.fst) ∧ y_1.snd = x.snd.fst ∧ True) ∧ True) ∧
 ∀ (y_2 : Pl.TP × Int),
 Pl.TmB (1500 : Nat) y_2.fst ∧ x.snd.fst ≤ y_2.snd ∧ y_2.snd ≤ x.snd.fst + (500 : Int) →
 Exists fun (y_3 : Pl.Sig × Pl.Mdl × Pl.TP) =>
 (Pl.SgB (5 : Nat) (2 : Nat) y_3.fst ∧ Pl.MdB (16 : Nat) (3 : Nat) y_3.snd.fst ∧ Pl.TmB (1500 : Nat) y_3.snd.snd) ∧
 (((Is (syms y) (syms y_3.fst) ∧ True) ∧
 (Is (mrows y_1.fst) (mrows y_3.snd.fst) ∧ True) ∧
 (y_2.fst.fst = y_3.snd.snd.fst ∧ Is (terms y_2.fst.snd) (terms y_3.snd.snd.snd) ∧ True) ∧ True) ∧
 True) ∧
 True) ∧
 Exists fun (x : BX) =>
 (Rd (68719476736 : Int) x.fst x.snd.fst ∧ Pl.SgB (5 : Nat) (2 : Nat) x.snd.snd) ∧
 (((0 : Nat) = (0 : Nat) ∧ (Is (syms y) (syms x.snd.snd) ∧ True) ∧ True) ∧
 (Is (byts x_1.fst) (byts x.fst) ∧ y_1.snd = x.snd.fst ∧ True) ∧ True) ∧
 ∀ (y_2 : Pl.TP × Int),
 Pl.TmB (1500 : Nat) y_2.fst ∧ x.snd.fst ≤ y_2.snd ∧ y_2.snd ≤ x.snd.fst + (500 : Int) →
 (Exists fun (y_3 : Pl.Sig × Pl.Mdl × Pl.TP) =>
 (Pl.SgB (5 : Nat) (2 : Nat) y_3.fst ∧ Pl.MdB (16 : Nat) (3 : Nat) y_3.snd.fst ∧ Pl.TmB (1500 : Nat) y_3.snd.snd) ∧
 (((Is (syms y) (syms y_3.fst) ∧ True) ∧
 (Is (mrows y_1.fst) (mrows y_3.snd.fst) ∧ True) ∧
 (y_2.fst.fst = y_3.snd.snd.fst ∧ Is (terms y_2.fst.snd) (terms y_3.snd.snd.snd) ∧ True) ∧ True) ∧
 True) ∧
 True) ∧
 Exists fun (y_3 : Pl.Sig × Pl.Mdl × Pl.TP) =>
 (Pl.SgB (5 : Nat) (2 : Nat) y_3.fst ∧ Pl.MdB (16 : Nat) (3 : Nat) y_3.snd.fst ∧ Pl.TmB (1500 : Nat) y_3.snd.snd) ∧
 (((Is (syms y) (syms y_3.fst) ∧ True) ∧
 (Is (mrows y_1.fst) (mrows y_3.snd.fst) ∧ True) ∧
 (y_2.fst.fst = y_3.snd.snd.fst ∧ Is (terms y_2.fst.snd) (terms y_3.snd.snd.snd) ∧ True) ∧ True) ∧
 True) ∧
 True) ∧
 ((Exists fun (x : BX) =>
 (Rd (68719476736 : Int) x.fst x.snd.fst ∧ Pl.SgB (5 : Nat) (2 : Nat) x.snd.snd) ∧
 (((0 : Nat) = (0 : Nat) ∧ (Is (syms y) (syms x.snd.snd) ∧ True) ∧ True) ∧
 (Is (byts x_1.fst) (byts x.fst) ∧ y_1.snd = x.snd.fst ∧ True) ∧ True) ∧
 ∀ (y_2 : Pl.TP × Int),
 Pl.TmB (1500 : Nat) y_2.fst ∧ x.snd.fst ≤ y_2.snd ∧ y_2.snd ≤ x.snd.fst + (500 : Int) →
 Exists fun (y_3 : Pl.Sig × Pl.Mdl × Pl.TP) =>
 (Pl.SgB (5 : Nat) (2 : Nat) y_3.fst ∧ Pl.MdB (16 : Nat) (3 : Nat) y_3.snd.fst ∧ Pl.TmB (1500 : Nat) y_3.snd.snd) ∧
 (((Is (syms y) (syms y_3.fst) ∧ True) ∧
 (Is (mrows y_1.fst) (mrows y_3.snd.fst) ∧ True) ∧
 (y_2.fst.fst = y_3.snd.snd.fst ∧ Is (terms y_2.fst.snd) (terms y_3.snd.snd.snd) ∧ True) ∧ True) ∧
 True) ∧
 True) ∧
 Exists fun (x : BX) =>
 (Rd (68719476736 : Int) x.fst x.snd.fst ∧ Pl.SgB (5 : Nat) (2 : Nat) x.snd.snd) ∧
 (((0 : Nat) = (0 : Nat) ∧ (Is (syms y) (syms x.snd.snd) ∧ True) ∧ True) ∧
 (Is (byts x_1.fst) (byts x.fst) ∧ y_1.snd = x.snd.fst ∧ True) ∧ True) ∧
 ∀ (y_2 : Pl.TP × Int),
 Pl.TmB (1500 : Nat) y_2.fst ∧ x.snd.fst ≤ y_2.snd ∧ y_2.snd ≤ x.snd.fst + (500 : Int) →
 Exists fun (y_3 : Pl.Sig × Pl.Mdl × Pl.TP) =>
 (Pl.SgB (5 : Nat) (2 : Nat) y_3.fst ∧ Pl.MdB (16 : Nat) (3 : Nat) y_3.snd.fst ∧ Pl.TmB (1500 : Nat) y_3.snd.snd) ∧
 (((Is (syms y) (syms y_3.fst) ∧ True) ∧
 (Is (mrows y_1.fst) (mrows y_3.snd.fst) ∧ True) ∧
 (y_2.fst.fst = y_3.snd.snd.fst ∧ Is (terms y_2.fst.snd) (terms y_3.snd.snd.snd) ∧ True) ∧ True) ∧
 True) ∧
 True) ∧
 Exists fun (x : BX) =>
 (Rd (68719476736 : Int) x.fst x.snd.fst ∧ Pl.SgB (5 : Nat) (2 : Nat) x.snd.snd) ∧
 (((0 : Nat) = (0 : Nat) ∧ (Is (syms y) (syms x.snd.snd) ∧ True) ∧ True) ∧
 (Is (byts x_1.fst) (byts x.fst) ∧ y_1.snd = x.snd.fst ∧ True) ∧ True) ∧
 ∀ (y_2 : Pl.TP × Int),
 Pl.TmB (1500 : Nat) y_2.fst ∧ x.snd.fst ≤ y_2.snd ∧ y_2.snd ≤ x.snd.fst + (500 : Int) →
 (Exists fun (y_3 : Pl.Sig × Pl.Mdl × Pl.TP) =>
 (Pl.SgB (5 : Nat) (2 : Nat) y_3.fst ∧ Pl.MdB (16 : Nat) (3 : Nat) y_3.snd.fst ∧ Pl.TmB (1500 : Nat) y_3.snd.snd) ∧
 (((Is (syms y) (syms y_3.fst) ∧ True) ∧
 (Is (mrows y_1.fst) (mrows y_3.snd.fst) ∧ True) ∧
 (y_2.fst.fst = y_3.snd.snd.fst ∧ Is (terms y_2.fst.snd) (terms y_3.snd.snd.snd) ∧ True) ∧ True) ∧
 True) ∧
 True) ∧
 Exists fun (y_3 : Pl.Sig × Pl.Mdl × Pl.TP) =>
 (Pl.SgB (5 : Nat) (2 : Nat) y_3.fst ∧ Pl.MdB (16 : Nat) (3 : Nat) y_3.snd.fst ∧ Pl.TmB (1500 : Nat) y_3.snd.snd) ∧
 (((Is (syms y) (syms y_3.fst) ∧ True) ∧
 (Is (mrows y_1.fst) (mrows y_3.snd.fst) ∧ True) ∧
 (y_2.fst.fst = y_3.snd.snd.fst ∧ Is (terms y_2.fst.snd) (terms y_3.snd.snd.snd) ∧ True) ∧ True) ∧
 True) ∧
 True) = Goal Tryz.prog [K_l16Open, K_l4Sig, K_l7Some, K_l4Some] ([]) K_DrawModelTerm.1 K_DrawModelTerm.2 (b) := by kernel_rfl

end Cg

/-
  What is left to show of each function's code, printed by a program: Mds. No condition.
-/
set_option maxRecDepth 100000
set_option linter.unusedVariables false
namespace Cg
open Go Go.Proofs
theorem vc_of (b : List Int) (p : Int) (l : List ByteArray) : (Exists fun (x : List Int × Int × Int) =>
 Rd (1099511627776 : Int) x.fst x.snd.fst ∧
 (((0 : Nat) = (0 : Nat) ∧ (↑l.length : Int) = x.snd.snd ∧ True) ∧ (Is (byts b) (byts x.fst) ∧ p = x.snd.fst ∧ True) ∧ True) ∧
 ∀ (y : Int),
 ((1 : Int) ≤ x.snd.snd → (0 : Int) ≤ y ∧ y < x.snd.snd) ∧ (x.snd.snd < (1 : Int) → y = (0 : Int)) →
 ((0 : Int) ≤ y ∧ y < (↑l.length : Int)) ∧
 y.toNat < l.length ∧
 Exists fun (y_1 : ByteArray) => y_1 ∈ l ∧ (l.getD y.toNat ByteArray.empty = y_1 ∧ True) ∧ (Is (byts x.fst) (byts b) ∧ x.snd.fst + (1 : Int) = p + (1 : Int) ∧ True) ∧ True) = Goal Tryz.prog [K_pick] ([]) K_of.1 K_of.2 ((b, p, l)) := by kernel_rfl

theorem vc_rat (b : List Int) (p : Int) : (Exists fun (x : List Int × Int × List Int) =>
 (Rd (1099511627776 : Int) x.fst x.snd.fst ∧ x.snd.snd ≠ [] ∧ Sz x.snd.snd) ∧
 (((0 : Nat) = (0 : Nat) ∧ Is (AV.lit (3 : Nat) (1 : Nat) (rowsCell [[i64 (1 : Int)], [i64 (2 : Int)], [i64 (0 : Int)]])) (ints x.snd.snd) ∧ True) ∧
 (Is (byts b) (byts x.fst) ∧ p = x.snd.fst ∧ True) ∧ True) ∧
 ∀ (y : Int),
 y ∈ x.snd.snd →
 Exists fun (x_1 : List Int × Int × List Int) =>
 (Rd (1099511627776 : Int) x_1.fst x_1.snd.fst ∧ x_1.snd.snd ≠ [] ∧ Sz x_1.snd.snd) ∧
 (((0 : Nat) = (0 : Nat) ∧
 Is (AV.lit (4 : Nat) (1 : Nat) (rowsCell [[i64 (0 : Int)], [i64 (2 : Int)], [i64 (-1 : Int)], [i64 (1 : Int)]])) (ints x_1.snd.snd) ∧ True) ∧
 (Is (byts x.fst) (byts x_1.fst) ∧ x.snd.fst + (1 : Int) = x_1.snd.fst ∧ True) ∧ True) ∧
 ∀ (y_1 : Int),
 y_1 ∈ x_1.snd.snd →
 Exists fun (y_2 : Pl.Rt) => True ∧ ((y = y_2.fst ∧ y_1 = y_2.snd ∧ True) ∧ True) ∧ (Is (byts x_1.fst) (byts b) ∧ x_1.snd.fst + (1 : Int) = p + (2 : Int) ∧ True) ∧ True) = Goal Tryz.prog [K_num] ([]) K_rat.1 K_rat.2 ((b, p)) := by kernel_rfl

theorem vc_RatOfP (n d : Int) : (condP (d == (0 : Int)) (((0 : Int) = (Pl.ratV (Pl.least n d)).fst ∧ (0 : Int) = (Pl.ratV (Pl.least n d)).snd ∧ True) ∧ Bool.false = (Pl.least n d).isSome ∧ True)
 (Exists fun (x : Int) =>
 (n = x ∧ True) ∧
 True ∧
 condP (Decidable.decide (Pl.abs1 x > (1000000000 : Int)))
 (((0 : Int) = (Pl.ratV (Pl.least n d)).fst ∧ (0 : Int) = (Pl.ratV (Pl.least n d)).snd ∧ True) ∧ Bool.false = (Pl.least n d).isSome ∧ True)
 (Exists fun (x : Int) =>
 (d = x ∧ True) ∧
 True ∧
 condP (Decidable.decide (Pl.abs1 x > (1000000000 : Int)))
 (((0 : Int) = (Pl.ratV (Pl.least n d)).fst ∧ (0 : Int) = (Pl.ratV (Pl.least n d)).snd ∧ True) ∧ Bool.false = (Pl.least n d).isSome ∧ True)
 (condP (Decidable.decide (d < (0 : Int)))
 (Exists fun (x : Int × Int) =>
 (IntKind.i64.wrap ((0 : Int) - n) = x.fst ∧ IntKind.i64.wrap ((0 : Int) - d) = x.snd ∧ True) ∧
 (x.fst.natAbs ≤ (2000000000000000000 : Nat) ∧ (1 : Int) ≤ x.snd ∧ x.snd ≤ (1000000000000000000 : Int)) ∧
 ((Pl.ratV (Pl.least x.fst x.snd)).fst = (Pl.ratV (Pl.least n d)).fst ∧ (Pl.ratV (Pl.least x.fst x.snd)).snd = (Pl.ratV (Pl.least n d)).snd ∧ True) ∧
 (Pl.least x.fst x.snd).isSome = (Pl.least n d).isSome ∧ True)
 (Exists fun (x : Int × Int) =>
 (n = x.fst ∧ d = x.snd ∧ True) ∧
 (x.fst.natAbs ≤ (2000000000000000000 : Nat) ∧ (1 : Int) ≤ x.snd ∧ x.snd ≤ (1000000000000000000 : Int)) ∧
 ((Pl.ratV (Pl.least x.fst x.snd)).fst = (Pl.ratV (Pl.least n d)).fst ∧ (Pl.ratV (Pl.least x.fst x.snd)).snd = (Pl.ratV (Pl.least n d)).snd ∧ True) ∧
 (Pl.least x.fst x.snd).isSome = (Pl.least n d).isSome ∧ True))))) = Goal Tryz.prog [K_l1Abs, K_l1Least] ([]) K_RatOfP.1 K_RatOfP.2 ((n, d)) := by kernel_rfl

theorem vc_l7Value (b : List Int) (p s : Int) : (condP (s == (0 : Int))
 (Exists fun (x : List Int × Int × Int) =>
 Rd (1099511627776 : Int) x.fst x.snd.fst ∧
 (((0 : Nat) = (0 : Nat) ∧ (3 : Int) = x.snd.snd ∧ True) ∧ (Is (byts b) (byts x.fst) ∧ p = x.snd.fst ∧ True) ∧ True) ∧
 ∀ (y : Int),
 ((1 : Int) ≤ x.snd.snd → (0 : Int) ≤ y ∧ y < x.snd.snd) ∧ (x.snd.snd < (1 : Int) → y = (0 : Int)) →
 Exists fun (y_1 : Pl.Rt × Int) =>
 (p ≤ y_1.snd ∧ y_1.snd ≤ p + (2 : Int)) ∧
 ((y = y_1.fst.fst ∧ (1 : Int) = y_1.fst.snd ∧ True) ∧ True) ∧ (Is (byts x.fst) (byts b) ∧ x.snd.fst + (1 : Int) = y_1.snd ∧ True) ∧ True)
 (Exists fun (x : List Int × Int × List Int) =>
 (Rd (1099511627776 : Int) x.fst x.snd.fst ∧ x.snd.snd ≠ [] ∧ Sz x.snd.snd) ∧
 (((0 : Nat) = (0 : Nat) ∧
 Is (AV.lit (6 : Nat) (1 : Nat) (rowsCell [[i64 (0 : Int)], [i64 (1 : Int)], [i64 (2 : Int)], [i64 (-1 : Int)], [i64 (3 : Int)], [i64 (5 : Int)]]))
 (ints x.snd.snd) ∧
 True) ∧
 (Is (byts b) (byts x.fst) ∧ p = x.snd.fst ∧ True) ∧ True) ∧
 ∀ (y : Int),
 y ∈ x.snd.snd →
 Exists fun (x_1 : List Int × Int × List Int) =>
 (Rd (1099511627776 : Int) x_1.fst x_1.snd.fst ∧ x_1.snd.snd ≠ [] ∧ Sz x_1.snd.snd) ∧
 (((0 : Nat) = (0 : Nat) ∧ Is (AV.lit (3 : Nat) (1 : Nat) (rowsCell [[i64 (1 : Int)], [i64 (1 : Int)], [i64 (2 : Int)]])) (ints x_1.snd.snd) ∧ True) ∧
 (Is (byts x.fst) (byts x_1.fst) ∧ x.snd.fst + (1 : Int) = x_1.snd.fst ∧ True) ∧ True) ∧
 ∀ (y_1 : Int),
 y_1 ∈ x_1.snd.snd →
 Exists fun (x : Int × Int) =>
 (y = x.fst ∧ y_1 = x.snd ∧ True) ∧
 (x.fst.natAbs ≤ (1000000000 : Nat) ∧ (1 : Int) ≤ x.snd ∧ x.snd ≤ (1000000000 : Int)) ∧
 condP (!(Pl.least x.fst x.snd).isSome)
 (Exists fun (y : Pl.Rt × Int) =>
 (p ≤ y.snd ∧ y.snd ≤ p + (2 : Int)) ∧
 (((0 : Int) = y.fst.fst ∧ (1 : Int) = y.fst.snd ∧ True) ∧ True) ∧ (Is (byts x_1.fst) (byts b) ∧ x_1.snd.fst + (1 : Int) = y.snd ∧ True) ∧ True)
 (Exists fun (y : Pl.Rt × Int) =>
 (p ≤ y.snd ∧ y.snd ≤ p + (2 : Int)) ∧
 (((Pl.ratV (Pl.least x.fst x.snd)).fst = y.fst.fst ∧ (Pl.ratV (Pl.least x.fst x.snd)).snd = y.fst.snd ∧ True) ∧ True) ∧
 (Is (byts x_1.fst) (byts b) ∧ x_1.snd.fst + (1 : Int) = y.snd ∧ True) ∧ True))) = Goal Tryz.prog [K_pick, K_num, K_RatOfP] ([]) K_l7Value.1 K_l7Value.2 ((b, p, s)) := by kernel_rfl

theorem vc_l4Base (k : Int) : (condP (k == (0 : Int))
 (Is
 (AV.lit (5 : Nat) (3 : Nat)
 (rowsCell
 [[st (ByteArray.mk #[(97 : UInt8)]), AV.lit (0 : Nat) (1 : Nat) fun (x x_1 : Nat) => AV.any, i64 (0 : Int)],
 [st (ByteArray.mk #[(98 : UInt8)]), AV.lit (0 : Nat) (1 : Nat) fun (x x_1 : Nat) => AV.any, i64 (0 : Int)],
 [st (ByteArray.mk #[(99 : UInt8)]), AV.lit (0 : Nat) (1 : Nat) fun (x x_1 : Nat) => AV.any, i64 (0 : Int)],
 [st (ByteArray.mk #[(102 : UInt8)]), AV.lit (1 : Nat) (1 : Nat) (rowsCell [[i64 (0 : Int)]]), i64 (0 : Int)],
 [st (ByteArray.mk #[(103 : UInt8)]), AV.lit (2 : Nat) (1 : Nat) (rowsCell [[i64 (0 : Int)], [i64 (0 : Int)]]), i64 (0 : Int)]]))
 (syms (Pl.base k)) ∧
 True)
 (condP (k == (1 : Int))
 (Is
 (AV.lit (5 : Nat) (3 : Nat)
 (rowsCell
 [[st (ByteArray.mk #[(97 : UInt8)]), AV.lit (0 : Nat) (1 : Nat) fun (x x_1 : Nat) => AV.any, i64 (0 : Int)],
 [st (ByteArray.mk #[(98 : UInt8)]), AV.lit (0 : Nat) (1 : Nat) fun (x x_1 : Nat) => AV.any, i64 (0 : Int)],
 [st (ByteArray.mk #[(104 : UInt8)]), AV.lit (1 : Nat) (1 : Nat) (rowsCell [[i64 (0 : Int)]]), i64 (1 : Int)],
 [st (ByteArray.mk #[(120 : UInt8)]), AV.lit (0 : Nat) (1 : Nat) fun (x x_1 : Nat) => AV.any, i64 (1 : Int)],
 [st (ByteArray.mk #[(121 : UInt8)]), AV.lit (0 : Nat) (1 : Nat) fun (x x_1 : Nat) => AV.any, i64 (1 : Int)]]))
 (syms (Pl.base k)) ∧
 True)
 (condP (k == (2 : Int))
 (Is
 (AV.lit (4 : Nat) (3 : Nat)
 (rowsCell
 [[st (ByteArray.mk #[(107 : UInt8)]), AV.lit (1 : Nat) (1 : Nat) (rowsCell [[i64 (1 : Int)]]), i64 (1 : Int)],
 [st (ByteArray.mk #[(120 : UInt8)]), AV.lit (0 : Nat) (1 : Nat) fun (x x_1 : Nat) => AV.any, i64 (1 : Int)],
 [st (ByteArray.mk #[(121 : UInt8)]), AV.lit (0 : Nat) (1 : Nat) fun (x x_1 : Nat) => AV.any, i64 (1 : Int)],
 [st (ByteArray.mk #[(122 : UInt8)]), AV.lit (0 : Nat) (1 : Nat) fun (x x_1 : Nat) => AV.any, i64 (1 : Int)]]))
 (syms (Pl.base k)) ∧
 True)
 (condP (k == (3 : Int))
 (Is
 (AV.lit (5 : Nat) (3 : Nat)
 (rowsCell
 [[st (ByteArray.mk #[(97 : UInt8)]), AV.lit (0 : Nat) (1 : Nat) fun (x x_1 : Nat) => AV.any, i64 (0 : Int)],
 [st (ByteArray.mk #[(117 : UInt8)]), AV.lit (1 : Nat) (1 : Nat) (rowsCell [[i64 (1 : Int)]]), i64 (0 : Int)],
 [st (ByteArray.mk #[(118 : UInt8)]), AV.lit (2 : Nat) (1 : Nat) (rowsCell [[i64 (1 : Int)], [i64 (0 : Int)]]), i64 (1 : Int)],
 [st (ByteArray.mk #[(120 : UInt8)]), AV.lit (0 : Nat) (1 : Nat) fun (x x_1 : Nat) => AV.any, i64 (1 : Int)],
 [st (ByteArray.mk #[(121 : UInt8)]), AV.lit (0 : Nat) (1 : Nat) fun (x x_1 : Nat) => AV.any, i64 (1 : Int)]]))
 (syms (Pl.base k)) ∧
 True)
 (Is (AV.lit (0 : Nat) (3 : Nat) (rowsCell [])) (syms (Pl.base k)) ∧ True))))) = Goal Tryz.prog [] ([]) K_l4Base.1 K_l4Base.2 (k) := by kernel_rfl

theorem vc_l4Sig (b : List Int) (p : Int) : (Exists fun (x : List Int × Int × List Int) =>
 (Rd (1099511627776 : Int) x.fst x.snd.fst ∧ x.snd.snd ≠ [] ∧ Sz x.snd.snd) ∧
 (((0 : Nat) = (0 : Nat) ∧
 Is
 (AV.lit (8 : Nat) (1 : Nat)
 (rowsCell [[i64 (0 : Int)], [i64 (0 : Int)], [i64 (1 : Int)], [i64 (1 : Int)], [i64 (2 : Int)], [i64 (3 : Int)], [i64 (1 : Int)], [i64 (4 : Int)]]))
 (ints x.snd.snd) ∧
 True) ∧
 (Is (byts b) (byts x.fst) ∧ p = x.snd.fst ∧ True) ∧ True) ∧
 ∀ (y : Int),
 y ∈ x.snd.snd →
 Exists fun (x_1 : Int) =>
 (y = x_1 ∧ True) ∧
 True ∧
 Exists fun (y : Pl.Sig) =>
 Pl.SgB (5 : Nat) (2 : Nat) y ∧ ((Is (syms (Pl.base x_1)) (syms y) ∧ True) ∧ True) ∧ (Is (byts x.fst) (byts b) ∧ x.snd.fst + (1 : Int) = p + (1 : Int) ∧ True) ∧ True) = Goal Tryz.prog [K_num, K_l4Base] ([]) K_l4Sig.1 K_l4Sig.2 ((b, p)) := by kernel_rfl

theorem vc_l7Any (b : List Int) (p : Int) (s : Pl.Sig) : ((Exists fun (x : Nat × Pl.Mdl × Int) =>
 (x.fst ≤ List.length s ∧ Pl.MdB ((3 : Nat) * x.fst) (2 : Nat) x.snd.fst ∧ p ≤ x.snd.snd ∧ x.snd.snd ≤ p + (100 : Int) * (↑x.fst : Int)) ∧
 ((0 : Nat) = (0 : Nat) ∧
 (0 : Nat) = (0 : Nat) ∧ (0 : Nat) = (0 : Nat) ∧ ((0 : Nat) = (0 : Nat) ∧ (0 : Nat) = (0 : Nat) ∧ List.length x.snd.fst = (0 : Nat)) ∧ (0 : Int) = (↑x.fst : Int) ∧ True) ∧
 (Is (byts b) (byts b) ∧ p = x.snd.snd ∧ True) ∧
 (Is (syms s) (syms s) ∧ True) ∧ (Is (AV.lit (0 : Nat) (1 : Nat) fun (x x_1 : Nat) => AV.any) nilA ∧ True) ∧ List.length x.snd.fst = (0 : Nat) ∧ True) ∧
 ∀ (x : Nat × Pl.Mdl × Int),
 x.fst ≤ List.length s ∧ Pl.MdB ((3 : Nat) * x.fst) (2 : Nat) x.snd.fst ∧ p ≤ x.snd.snd ∧ x.snd.snd ≤ p + (100 : Int) * (↑x.fst : Int) →
 condP (Decidable.decide ((↑x.fst : Int) < (↑(List.length s) : Int)))
 (Exists fun (x_1 : List Int × Int × List Int) =>
 (Rd (1099511627776 : Int) x_1.fst x_1.snd.fst ∧ x_1.snd.snd ≠ [] ∧ Sz x_1.snd.snd) ∧
 (((0 : Nat) = (0 : Nat) ∧ Is (AV.lit (3 : Nat) (1 : Nat) (rowsCell [[i64 (1 : Int)], [i64 (2 : Int)], [i64 (3 : Int)]])) (ints x_1.snd.snd) ∧ True) ∧
 (Is (byts b) (byts x_1.fst) ∧ x.snd.snd = x_1.snd.fst ∧ True) ∧ True) ∧
 ∀ (y : Int),
 y ∈ x_1.snd.snd →
 (Exists fun (x_2 : Int × Pl.Mdl × Int) =>
 ((0 : Int) ≤ x_2.fst ∧
 x_2.fst ≤ (3 : Int) ∧
 Pl.MdB ((3 : Nat) * x.fst + (3 : Nat) - x_2.fst.toNat) (2 : Nat) x_2.snd.fst ∧
 p ≤ x_2.snd.snd ∧ x_2.snd.snd ≤ p + (100 : Int) * (↑x.fst : Int) + (1 : Int) + (30 : Int) * ((3 : Int) - x_2.fst)) ∧
 ((0 : Nat) = (0 : Nat) ∧
 (0 : Nat) = (0 : Nat) ∧
 (0 : Nat) = (0 : Nat) ∧ ((0 : Nat) = (0 : Nat) ∧ List.length x.snd.fst = List.length x_2.snd.fst) ∧ (↑x.fst : Int) = (↑x.fst : Int) ∧ y = x_2.fst ∧ True) ∧
 (Is (byts x_1.fst) (byts b) ∧ x_1.snd.fst + (1 : Int) = x_2.snd.snd ∧ True) ∧
 (Is (syms s) (syms s) ∧ True) ∧
 (Is (AV.lit (0 : Nat) (1 : Nat) fun (x x_3 : Nat) => AV.any) nilA ∧ True) ∧ IsO (xrR x.snd.fst) (xrR x_2.snd.fst) ∧ True) ∧
 ∀ (x_2 : Int × Pl.Mdl × Int),
 (0 : Int) ≤ x_2.fst ∧
 x_2.fst ≤ (3 : Int) ∧
 Pl.MdB ((3 : Nat) * x.fst + (3 : Nat) - x_2.fst.toNat) (2 : Nat) x_2.snd.fst ∧
 p ≤ x_2.snd.snd ∧ x_2.snd.snd ≤ p + (100 : Int) * (↑x.fst : Int) + (1 : Int) + (30 : Int) * ((3 : Int) - x_2.fst) →
 condP (Decidable.decide (x_2.fst > (0 : Int)))
 ((((0 : Int) ≤ (↑x.fst : Int) ∧ (↑x.fst : Int) < (↑(List.length s) : Int)) ∧
 x.fst < List.length s ∧
 (((0 : Int) ≤ (↑x.fst : Int) ∧ (↑x.fst : Int) < (↑(List.length s) : Int)) ∧
 x.fst < List.length s ∧
 (Exists fun (x_3 : List Int × Int × Int) =>
 Rd (549755813888 : Int) x_3.fst x_3.snd.fst ∧
 (((0 : Nat) = (0 : Nat) ∧ (List.getD s x.fst Pl.dY).snd.snd = x_3.snd.snd ∧ True) ∧
 (Is (byts b) (byts x_3.fst) ∧ x_2.snd.snd = x_3.snd.fst ∧ True) ∧ True) ∧
 ∀ (y : Pl.Rt × Int),
 x_3.snd.fst ≤ y.snd ∧ y.snd ≤ x_3.snd.fst + (2 : Int) →
 (Exists fun (x_4 : Nat × List Pl.Rt × Pl.Rt × Int) =>
 (x_4.fst ≤ (List.getD s x.fst Pl.dY).snd.fst.length ∧
 x_4.snd.fst.length = x_4.fst ∧
 p ≤ x_4.snd.snd.snd ∧
 x_4.snd.snd.snd ≤ p + (100 : Int) * (↑x.fst : Int) + (3 : Int) + (30 : Int) * ((3 : Int) - x_2.fst) + (2 : Int) * (↑x_4.fst : Int)) ∧
 ((0 : Nat) = (0 : Nat) ∧
 (0 : Nat) = (0 : Nat) ∧
 (0 : Nat) = (0 : Nat) ∧
 ((0 : Nat) = (0 : Nat) ∧ List.length x_2.snd.fst = List.length x_2.snd.fst) ∧
 (↑x.fst : Int) = (↑x.fst : Int) ∧ x_2.fst = x_2.fst ∧ (0 : Nat) = (0 : Nat) ∧ (0 : Int) = (↑x_4.fst : Int) ∧ True) ∧
 (Is (byts x_3.fst) (byts b) ∧ y.snd = x_4.snd.snd.snd ∧ True) ∧
 (Is (syms s) (syms s) ∧ True) ∧
 (Is (AV.lit (0 : Nat) (1 : Nat) fun (x x_5 : Nat) => AV.any) nilA ∧ True) ∧
 IsO (xrR x_2.snd.fst) (xrR x_2.snd.fst) ∧
 ((List.getD s x.fst Pl.dY).fst = (List.getD s x.fst Pl.dY).fst ∧
 ((0 : Nat) = (0 : Nat) ∧ (0 : Nat) = (0 : Nat) ∧ x_4.snd.fst.length = (0 : Nat)) ∧
 y.fst.fst = x_4.snd.snd.fst.fst ∧ y.fst.snd = x_4.snd.snd.fst.snd ∧ True) ∧
 x_4.snd.fst.length = (0 : Nat) ∧ True) ∧
 ∀ (x_4 : Nat × List Pl.Rt × Pl.Rt × Int),
 x_4.fst ≤ (List.getD s x.fst Pl.dY).snd.fst.length ∧
 x_4.snd.fst.length = x_4.fst ∧
 p ≤ x_4.snd.snd.snd ∧
 x_4.snd.snd.snd ≤ p + (100 : Int) * (↑x.fst : Int) + (3 : Int) + (30 : Int) * ((3 : Int) - x_2.fst) + (2 : Int) * (↑x_4.fst : Int) →
 ((0 : Int) ≤ (↑x.fst : Int) ∧ (↑x.fst : Int) < (↑(List.length s) : Int)) ∧
 x.fst < List.length s ∧
 condP (Decidable.decide ((↑x_4.fst : Int) < (↑(List.getD s x.fst Pl.dY).snd.fst.length : Int)))
 ((((0 : Int) ≤ (↑x.fst : Int) ∧ (↑x.fst : Int) < (↑(List.length s) : Int)) ∧
 x.fst < List.length s ∧
 ((0 : Int) ≤ (↑x_4.fst : Int) ∧ (↑x_4.fst : Int) < (↑(List.getD s x.fst Pl.dY).snd.fst.length : Int)) ∧
 x_4.fst < (List.getD s x.fst Pl.dY).snd.fst.length ∧
 Exists fun (x_5 : List Int × Int × Int) =>
 Rd (549755813888 : Int) x_5.fst x_5.snd.fst ∧
 (((0 : Nat) = (0 : Nat) ∧ (List.getD s x.fst Pl.dY).snd.fst.getD x_4.fst (0 : Int) = x_5.snd.snd ∧ True) ∧
 (Is (byts b) (byts x_5.fst) ∧ x_4.snd.snd.snd = x_5.snd.fst ∧ True) ∧ True) ∧
 ∀ (y : Pl.Rt × Int),
 x_5.snd.fst ≤ y.snd ∧ y.snd ≤ x_5.snd.fst + (2 : Int) →
 (0 : Nat) + x_4.snd.fst.length ≤ x_4.snd.fst.length ∧
 (x_4.snd.fst.length + (1 : Nat)) * (16 : Nat) ≤ (70368744177664 : Nat) ∧
 Exists fun (x' : Nat × List Pl.Rt × Pl.Rt × Int) =>
 (x'.fst ≤ (List.getD s x.fst Pl.dY).snd.fst.length ∧
 x'.snd.fst.length = x'.fst ∧
 p ≤ x'.snd.snd.snd ∧
 x'.snd.snd.snd ≤
 p + (100 : Int) * (↑x.fst : Int) + (3 : Int) + (30 : Int) * ((3 : Int) - x_2.fst) +
 (2 : Int) * (↑x'.fst : Int)) ∧
 (List.getD s x.fst Pl.dY).snd.fst.length - x'.fst < (List.getD s x.fst Pl.dY).snd.fst.length - x_4.fst ∧
 ((0 : Nat) = (0 : Nat) ∧
 (0 : Nat) = (0 : Nat) ∧
 (0 : Nat) = (0 : Nat) ∧
 ((0 : Nat) = (0 : Nat) ∧ List.length x_2.snd.fst = List.length x_2.snd.fst) ∧
 (↑x.fst : Int) = (↑x.fst : Int) ∧
 x_2.fst = x_2.fst ∧
 (0 : Nat) = (0 : Nat) ∧
 IntKind.i64.wrap ((↑x_4.fst : Int) + (1 : Int)) = (↑x'.fst : Int) ∧ True) ∧
 (Is (byts x_5.fst) (byts b) ∧ y.snd = x'.snd.snd.snd ∧ True) ∧
 (Is (syms s) (syms s) ∧ True) ∧
 (Is (AV.lit (0 : Nat) (1 : Nat) fun (x x_6 : Nat) => AV.any) nilA ∧ True) ∧
 IsO (xrR x_2.snd.fst) (xrR x_2.snd.fst) ∧
 ((List.getD s x.fst Pl.dY).fst = (List.getD s x.fst Pl.dY).fst ∧
 ((0 : Nat) = (0 : Nat) ∧ x_4.snd.fst.length + (1 : Nat) = x'.snd.fst.length) ∧
 x_4.snd.snd.fst.fst = x'.snd.snd.fst.fst ∧
 x_4.snd.snd.fst.snd = x'.snd.snd.fst.snd ∧ True) ∧
 IsO
 (AObj.arr (x_4.snd.fst.length + (1 : Nat)) (2 : Nat)
 (joinC x_4.snd.fst.length (cQ x_4.snd.fst)
 (rowsCell [[i64 y.fst.fst, i64 y.fst.snd]])))
 (arQ x'.snd.fst) ∧
 True) ∧
 ((0 : Int) ≤ (↑x.fst : Int) ∧ (↑x.fst : Int) < (↑(List.length s) : Int)) ∧
 x.fst < List.length s ∧
 ((0 : Int) ≤ (↑x_4.fst : Int) ∧ (↑x_4.fst : Int) < (↑(List.getD s x.fst Pl.dY).snd.fst.length : Int)) ∧
 x_4.fst < (List.getD s x.fst Pl.dY).snd.fst.length ∧
 (Exists fun (x_5 : List Int × Int × Int) =>
 Rd (549755813888 : Int) x_5.fst x_5.snd.fst ∧
 (((0 : Nat) = (0 : Nat) ∧ (List.getD s x.fst Pl.dY).snd.fst.getD x_4.fst (0 : Int) = x_5.snd.snd ∧ True) ∧
 (Is (byts b) (byts x_5.fst) ∧ x_4.snd.snd.snd = x_5.snd.fst ∧ True) ∧ True) ∧
 ∀ (y : Pl.Rt × Int),
 x_5.snd.fst ≤ y.snd ∧ y.snd ≤ x_5.snd.fst + (2 : Int) →
 (0 : Nat) + x_4.snd.fst.length ≤ x_4.snd.fst.length ∧
 (x_4.snd.fst.length + (1 : Nat)) * (16 : Nat) ≤ (70368744177664 : Nat) ∧
 Exists fun (x' : Nat × List Pl.Rt × Pl.Rt × Int) =>
 (x'.fst ≤ (List.getD s x.fst Pl.dY).snd.fst.length ∧
 x'.snd.fst.length = x'.fst ∧
 p ≤ x'.snd.snd.snd ∧
 x'.snd.snd.snd ≤
 p + (100 : Int) * (↑x.fst : Int) + (3 : Int) + (30 : Int) * ((3 : Int) - x_2.fst) +
 (2 : Int) * (↑x'.fst : Int)) ∧
 (List.getD s x.fst Pl.dY).snd.fst.length - x'.fst < (List.getD s x.fst Pl.dY).snd.fst.length - x_4.fst ∧
 ((0 : Nat) = (0 : Nat) ∧
 (0 : Nat) = (0 : Nat) ∧
 (0 : Nat) = (0 : Nat) ∧
 ((0 : Nat) = (0 : Nat) ∧ List.length x_2.snd.fst = List.length x_2.snd.fst) ∧
 (↑x.fst : Int) = (↑x.fst : Int) ∧
 x_2.fst = x_2.fst ∧
 (0 : Nat) = (0 : Nat) ∧
 IntKind.i64.wrap ((↑x_4.fst : Int) + (1 : Int)) = (↑x'.fst : Int) ∧ True) ∧
 (Is (byts x_5.fst) (byts b) ∧ y.snd = x'.snd.snd.snd ∧ True) ∧
 (Is (syms s) (syms s) ∧ True) ∧
 (Is (AV.lit (0 : Nat) (1 : Nat) fun (x x_6 : Nat) => AV.any) nilA ∧ True) ∧
 IsO (xrR x_2.snd.fst) (xrR x_2.snd.fst) ∧
 ((List.getD s x.fst Pl.dY).fst = (List.getD s x.fst Pl.dY).fst ∧
 ((0 : Nat) = (0 : Nat) ∧ x_4.snd.fst.length + (1 : Nat) = x'.snd.fst.length) ∧
 x_4.snd.snd.fst.fst = x'.snd.snd.fst.fst ∧
 x_4.snd.snd.fst.snd = x'.snd.snd.fst.snd ∧ True) ∧
 IsO
 (AObj.arr (x_4.snd.fst.length + (1 : Nat)) (2 : Nat)
 (joinC x_4.snd.fst.length (cQ x_4.snd.fst)
 (rowsCell [[i64 y.fst.fst, i64 y.fst.snd]])))
 (arQ x'.snd.fst) ∧
 True) ∧
 Exists fun (x_5 : List Int × Int × Int) =>
 Rd (549755813888 : Int) x_5.fst x_5.snd.fst ∧
 (((0 : Nat) = (0 : Nat) ∧ (List.getD s x.fst Pl.dY).snd.fst.getD x_4.fst (0 : Int) = x_5.snd.snd ∧ True) ∧
 (Is (byts b) (byts x_5.fst) ∧ x_4.snd.snd.snd = x_5.snd.fst ∧ True) ∧ True) ∧
 ∀ (y : Pl.Rt × Int),
 x_5.snd.fst ≤ y.snd ∧ y.snd ≤ x_5.snd.fst + (2 : Int) →
 (0 : Nat) + x_4.snd.fst.length ≤ x_4.snd.fst.length ∧
 (x_4.snd.fst.length + (1 : Nat)) * (16 : Nat) ≤ (70368744177664 : Nat) ∧
 Exists fun (x' : Nat × List Pl.Rt × Pl.Rt × Int) =>
 (x'.fst ≤ (List.getD s x.fst Pl.dY).snd.fst.length ∧
 x'.snd.fst.length = x'.fst ∧
 p ≤ x'.snd.snd.snd ∧
 x'.snd.snd.snd ≤
 p + (100 : Int) * (↑x.fst : Int) + (3 : Int) + (30 : Int) * ((3 : Int) - x_2.fst) +
 (2 : Int) * (↑x'.fst : Int)) ∧
 (List.getD s x.fst Pl.dY).snd.fst.length - x'.fst < (List.getD s x.fst Pl.dY).snd.fst.length - x_4.fst ∧
 ((0 : Nat) = (0 : Nat) ∧
 (0 : Nat) = (0 : Nat) ∧
 (0 : Nat) = (0 : Nat) ∧
 ((0 : Nat) = (0 : Nat) ∧ List.length x_2.snd.fst = List.length x_2.snd.fst) ∧
 (↑x.fst : Int) = (↑x.fst : Int) ∧
 x_2.fst = x_2.fst ∧
 (0 : Nat) = (0 : Nat) ∧
 IntKind.i64.wrap ((↑x_4.fst : Int) + (1 : Int)) = (↑x'.fst : Int) ∧ True) ∧
 (Is (byts x_5.fst) (byts b) ∧ y.snd = x'.snd.snd.snd ∧ True) ∧
 (Is (syms s) (syms s) ∧ True) ∧
 (Is (AV.lit (0 : Nat) (1 : Nat) fun (x x_6 : Nat) => AV.any) nilA ∧ True) ∧
 IsO (xrR x_2.snd.fst) (xrR x_2.snd.fst) ∧
 ((List.getD s x.fst Pl.dY).fst = (List.getD s x.fst Pl.dY).fst ∧
 ((0 : Nat) = (0 : Nat) ∧ x_4.snd.fst.length + (1 : Nat) = x'.snd.fst.length) ∧
 x_4.snd.snd.fst.fst = x'.snd.snd.fst.fst ∧
 x_4.snd.snd.fst.snd = x'.snd.snd.fst.snd ∧ True) ∧
 IsO
 (AObj.arr (x_4.snd.fst.length + (1 : Nat)) (2 : Nat)
 (joinC x_4.snd.fst.length (cQ x_4.snd.fst)
 (rowsCell [[i64 y.fst.fst, i64 y.fst.snd]])))
 (arQ x'.snd.fst) ∧
 True)
 (Exists fun (x_5 : List Pl.Rw × Pl.Rw) =>
 (x_5.fst.length ≤ (1000 : Nat) ∧
 (∀ (y : Pl.Rw), y ∈ x_5.fst → y.snd.fst.length ≤ (1000 : Nat)) ∧ x_5.snd.snd.fst.length ≤ (1000 : Nat)) ∧
 ((((0 : Nat) = (0 : Nat) ∧ List.length x_2.snd.fst = x_5.fst.length) ∧
 ((List.getD s x.fst Pl.dY).fst = x_5.snd.fst ∧
 ((0 : Nat) = (0 : Nat) ∧ x_4.snd.fst.length = x_5.snd.snd.fst.length) ∧
 x_4.snd.snd.fst.fst = x_5.snd.snd.snd.fst ∧ x_4.snd.snd.fst.snd = x_5.snd.snd.snd.snd ∧ True) ∧
 True) ∧
 IsO (xrR x_2.snd.fst) (xrR x_5.fst) ∧ IsO (arQ x_4.snd.fst) (arQ x_5.snd.snd.fst) ∧ True) ∧
 ∀ (y : List Nat),
 HPut x_5.fst.length y →
 Exists fun (x' : Int × Pl.Mdl × Int) =>
 ((0 : Int) ≤ x'.fst ∧
 x'.fst ≤ (3 : Int) ∧
 Pl.MdB ((3 : Nat) * x.fst + (3 : Nat) - x'.fst.toNat) (2 : Nat) x'.snd.fst ∧
 p ≤ x'.snd.snd ∧ x'.snd.snd ≤ p + (100 : Int) * (↑x.fst : Int) + (1 : Int) + (30 : Int) * ((3 : Int) - x'.fst)) ∧
 x'.fst.toNat < x_2.fst.toNat ∧
 ((0 : Nat) = (0 : Nat) ∧
 (0 : Nat) = (0 : Nat) ∧
 (0 : Nat) = (0 : Nat) ∧
 ((0 : Nat) = (0 : Nat) ∧ y.length = List.length x'.snd.fst) ∧
 (↑x.fst : Int) = (↑x.fst : Int) ∧ IntKind.i64.wrap (x_2.fst - (1 : Int)) = x'.fst ∧ True) ∧
 (Is (byts b) (byts b) ∧ x_4.snd.snd.snd = x'.snd.snd ∧ True) ∧
 (Is (syms s) (syms s) ∧ True) ∧
 (Is (AV.lit (0 : Nat) (1 : Nat) fun (x x_6 : Nat) => AV.any) nilA ∧ True) ∧
 IsO (xrR (List.map (fun (i : Nat) => (x_5.fst ++ [x_5.snd]).getD i Pl.dR) y)) (xrR x'.snd.fst) ∧ True)) ∧
 Exists fun (x_3 : List Int × Int × Int) =>
 Rd (549755813888 : Int) x_3.fst x_3.snd.fst ∧
 (((0 : Nat) = (0 : Nat) ∧ (List.getD s x.fst Pl.dY).snd.snd = x_3.snd.snd ∧ True) ∧
 (Is (byts b) (byts x_3.fst) ∧ x_2.snd.snd = x_3.snd.fst ∧ True) ∧ True) ∧
 ∀ (y : Pl.Rt × Int),
 x_3.snd.fst ≤ y.snd ∧ y.snd ≤ x_3.snd.fst + (2 : Int) →
 (Exists fun (x_4 : Nat × List Pl.Rt × Pl.Rt × Int) =>
 (x_4.fst ≤ (List.getD s x.fst Pl.dY).snd.fst.length ∧
 x_4.snd.fst.length = x_4.fst ∧
 p ≤ x_4.snd.snd.snd ∧
 x_4.snd.snd.snd ≤ p + (100 : Int) * (↑x.fst : Int) + (3 : Int) + (30 : Int) * ((3 : Int) - x_2.fst) + (2 : Int) * (↑x_4.fst : Int)) ∧
 ((0 : Nat) = (0 : Nat) ∧
 (0 : Nat) = (0 : Nat) ∧
 (0 : Nat) = (0 : Nat) ∧
 ((0 : Nat) = (0 : Nat) ∧ List.length x_2.snd.fst = List.length x_2.snd.fst) ∧
 (↑x.fst : Int) = (↑x.fst : Int) ∧ x_2.fst = x_2.fst ∧ (0 : Nat) = (0 : Nat) ∧ (0 : Int) = (↑x_4.fst : Int) ∧ True) ∧
 (Is (byts x_3.fst) (byts b) ∧ y.snd = x_4.snd.snd.snd ∧ True) ∧
 (Is (syms s) (syms s) ∧ True) ∧
 (Is (AV.lit (0 : Nat) (1 : Nat) fun (x x_5 : Nat) => AV.any) nilA ∧ True) ∧
 IsO (xrR x_2.snd.fst) (xrR x_2.snd.fst) ∧
 ((List.getD s x.fst Pl.dY).fst = (List.getD s x.fst Pl.dY).fst ∧
 ((0 : Nat) = (0 : Nat) ∧ (0 : Nat) = (0 : Nat) ∧ x_4.snd.fst.length = (0 : Nat)) ∧
 y.fst.fst = x_4.snd.snd.fst.fst ∧ y.fst.snd = x_4.snd.snd.fst.snd ∧ True) ∧
 x_4.snd.fst.length = (0 : Nat) ∧ True) ∧
 ∀ (x_4 : Nat × List Pl.Rt × Pl.Rt × Int),
 x_4.fst ≤ (List.getD s x.fst Pl.dY).snd.fst.length ∧
 x_4.snd.fst.length = x_4.fst ∧
 p ≤ x_4.snd.snd.snd ∧
 x_4.snd.snd.snd ≤ p + (100 : Int) * (↑x.fst : Int) + (3 : Int) + (30 : Int) * ((3 : Int) - x_2.fst) + (2 : Int) * (↑x_4.fst : Int) →
 ((0 : Int) ≤ (↑x.fst : Int) ∧ (↑x.fst : Int) < (↑(List.length s) : Int)) ∧
 x.fst < List.length s ∧
 condP (Decidable.decide ((↑x_4.fst : Int) < (↑(List.getD s x.fst Pl.dY).snd.fst.length : Int)))
 ((((0 : Int) ≤ (↑x.fst : Int) ∧ (↑x.fst : Int) < (↑(List.length s) : Int)) ∧
 x.fst < List.length s ∧
 ((0 : Int) ≤ (↑x_4.fst : Int) ∧ (↑x_4.fst : Int) < (↑(List.getD s x.fst Pl.dY).snd.fst.length : Int)) ∧
 x_4.fst < (List.getD s x.fst Pl.dY).snd.fst.length ∧
 Exists fun (x_5 : List Int × Int × Int) =>
 Rd (549755813888 : Int) x_5.fst x_5.snd.fst ∧
 (((0 : Nat) = (0 : Nat) ∧ (List.getD s x.fst Pl.dY).snd.fst.getD x_4.fst (0 : Int) = x_5.snd.snd ∧ True) ∧
 (Is (byts b) (byts x_5.fst) ∧ x_4.snd.snd.snd = x_5.snd.fst ∧ True) ∧ True) ∧
 ∀ (y : Pl.Rt × Int),
 x_5.snd.fst ≤ y.snd ∧ y.snd ≤ x_5.snd.fst + (2 : Int) →
 (0 : Nat) + x_4.snd.fst.length ≤ x_4.snd.fst.length ∧
 (x_4.snd.fst.length + (1 : Nat)) * (16 : Nat) ≤ (70368744177664 : Nat) ∧
 Exists fun (x' : Nat × List Pl.Rt × Pl.Rt × Int) =>
 (x'.fst ≤ (List.getD s x.fst Pl.dY).snd.fst.length ∧
 x'.snd.fst.length = x'.fst ∧
 p ≤ x'.snd.snd.snd ∧
 x'.snd.snd.snd ≤
 p + (100 : Int) * (↑x.fst : Int) + (3 : Int) + (30 : Int) * ((3 : Int) - x_2.fst) +
 (2 : Int) * (↑x'.fst : Int)) ∧
 (List.getD s x.fst Pl.dY).snd.fst.length - x'.fst < (List.getD s x.fst Pl.dY).snd.fst.length - x_4.fst ∧
 ((0 : Nat) = (0 : Nat) ∧
 (0 : Nat) = (0 : Nat) ∧
 (0 : Nat) = (0 : Nat) ∧
 ((0 : Nat) = (0 : Nat) ∧ List.length x_2.snd.fst = List.length x_2.snd.fst) ∧
 (↑x.fst : Int) = (↑x.fst : Int) ∧
 x_2.fst = x_2.fst ∧
 (0 : Nat) = (0 : Nat) ∧
 IntKind.i64.wrap ((↑x_4.fst : Int) + (1 : Int)) = (↑x'.fst : Int) ∧ True) ∧
 (Is (byts x_5.fst) (byts b) ∧ y.snd = x'.snd.snd.snd ∧ True) ∧
 (Is (syms s) (syms s) ∧ True) ∧
 (Is (AV.lit (0 : Nat) (1 : Nat) fun (x x_6 : Nat) => AV.any) nilA ∧ True) ∧
 IsO (xrR x_2.snd.fst) (xrR x_2.snd.fst) ∧
 ((List.getD s x.fst Pl.dY).fst = (List.getD s x.fst Pl.dY).fst ∧
 ((0 : Nat) = (0 : Nat) ∧ x_4.snd.fst.length + (1 : Nat) = x'.snd.fst.length) ∧
 x_4.snd.snd.fst.fst = x'.snd.snd.fst.fst ∧
 x_4.snd.snd.fst.snd = x'.snd.snd.fst.snd ∧ True) ∧
 IsO
 (AObj.arr (x_4.snd.fst.length + (1 : Nat)) (2 : Nat)
 (joinC x_4.snd.fst.length (cQ x_4.snd.fst)
 (rowsCell [[i64 y.fst.fst, i64 y.fst.snd]])))
 (arQ x'.snd.fst) ∧
 True) ∧
 ((0 : Int) ≤ (↑x.fst : Int) ∧ (↑x.fst : Int) < (↑(List.length s) : Int)) ∧
 x.fst < List.length s ∧
 ((0 : Int) ≤ (↑x_4.fst : Int) ∧ (↑x_4.fst : Int) < (↑(List.getD s x.fst Pl.dY).snd.fst.length : Int)) ∧
 x_4.fst < (List.getD s x.fst Pl.dY).snd.fst.length ∧
 (Exists fun (x_5 : List Int × Int × Int) =>
 Rd (549755813888 : Int) x_5.fst x_5.snd.fst ∧
 (((0 : Nat) = (0 : Nat) ∧ (List.getD s x.fst Pl.dY).snd.fst.getD x_4.fst (0 : Int) = x_5.snd.snd ∧ True) ∧
 (Is (byts b) (byts x_5.fst) ∧ x_4.snd.snd.snd = x_5.snd.fst ∧ True) ∧ True) ∧
 ∀ (y : Pl.Rt × Int),
 x_5.snd.fst ≤ y.snd ∧ y.snd ≤ x_5.snd.fst + (2 : Int) →
 (0 : Nat) + x_4.snd.fst.length ≤ x_4.snd.fst.length ∧
 (x_4.snd.fst.length + (1 : Nat)) * (16 : Nat) ≤ (70368744177664 : Nat) ∧
 Exists fun (x' : Nat × List Pl.Rt × Pl.Rt × Int) =>
 (x'.fst ≤ (List.getD s x.fst Pl.dY).snd.fst.length ∧
 x'.snd.fst.length = x'.fst ∧
 p ≤ x'.snd.snd.snd ∧
 x'.snd.snd.snd ≤
 p + (100 : Int) * (↑x.fst : Int) + (3 : Int) + (30 : Int) * ((3 : Int) - x_2.fst) +
 (2 : Int) * (↑x'.fst : Int)) ∧
 (List.getD s x.fst Pl.dY).snd.fst.length - x'.fst < (List.getD s x.fst Pl.dY).snd.fst.length - x_4.fst ∧
 ((0 : Nat) = (0 : Nat) ∧
 (0 : Nat) = (0 : Nat) ∧
 (0 : Nat) = (0 : Nat) ∧
 ((0 : Nat) = (0 : Nat) ∧ List.length x_2.snd.fst = List.length x_2.snd.fst) ∧
 (↑x.fst : Int) = (↑x.fst : Int) ∧
 x_2.fst = x_2.fst ∧
 (0 : Nat) = (0 : Nat) ∧
 IntKind.i64.wrap ((↑x_4.fst : Int) + (1 : Int)) = (↑x'.fst : Int) ∧ True) ∧
 (Is (byts x_5.fst) (byts b) ∧ y.snd = x'.snd.snd.snd ∧ True) ∧
 (Is (syms s) (syms s) ∧ True) ∧
 (Is (AV.lit (0 : Nat) (1 : Nat) fun (x x_6 : Nat) => AV.any) nilA ∧ True) ∧
 IsO (xrR x_2.snd.fst) (xrR x_2.snd.fst) ∧
 ((List.getD s x.fst Pl.dY).fst = (List.getD s x.fst Pl.dY).fst ∧
 ((0 : Nat) = (0 : Nat) ∧ x_4.snd.fst.length + (1 : Nat) = x'.snd.fst.length) ∧
 x_4.snd.snd.fst.fst = x'.snd.snd.fst.fst ∧
 x_4.snd.snd.fst.snd = x'.snd.snd.fst.snd ∧ True) ∧
 IsO
 (AObj.arr (x_4.snd.fst.length + (1 : Nat)) (2 : Nat)
 (joinC x_4.snd.fst.length (cQ x_4.snd.fst)
 (rowsCell [[i64 y.fst.fst, i64 y.fst.snd]])))
 (arQ x'.snd.fst) ∧
 True) ∧
 Exists fun (x_5 : List Int × Int × Int) =>
 Rd (549755813888 : Int) x_5.fst x_5.snd.fst ∧
 (((0 : Nat) = (0 : Nat) ∧ (List.getD s x.fst Pl.dY).snd.fst.getD x_4.fst (0 : Int) = x_5.snd.snd ∧ True) ∧
 (Is (byts b) (byts x_5.fst) ∧ x_4.snd.snd.snd = x_5.snd.fst ∧ True) ∧ True) ∧
 ∀ (y : Pl.Rt × Int),
 x_5.snd.fst ≤ y.snd ∧ y.snd ≤ x_5.snd.fst + (2 : Int) →
 (0 : Nat) + x_4.snd.fst.length ≤ x_4.snd.fst.length ∧
 (x_4.snd.fst.length + (1 : Nat)) * (16 : Nat) ≤ (70368744177664 : Nat) ∧
 Exists fun (x' : Nat × List Pl.Rt × Pl.Rt × Int) =>
 (x'.fst ≤ (List.getD s x.fst Pl.dY).snd.fst.length ∧
 x'.snd.fst.length = x'.fst ∧
 p ≤ x'.snd.snd.snd ∧
 x'.snd.snd.snd ≤
 p + (100 : Int) * (↑x.fst : Int) + (3 : Int) + (30 : Int) * ((3 : Int) - x_2.fst) +
 (2 : Int) * (↑x'.fst : Int)) ∧
 (List.getD s x.fst Pl.dY).snd.fst.length - x'.fst < (List.getD s x.fst Pl.dY).snd.fst.length - x_4.fst ∧
 ((0 : Nat) = (0 : Nat) ∧
 (0 : Nat) = (0 : Nat) ∧
 (0 : Nat) = (0 : Nat) ∧
 ((0 : Nat) = (0 : Nat) ∧ List.length x_2.snd.fst = List.length x_2.snd.fst) ∧
 (↑x.fst : Int) = (↑x.fst : Int) ∧
 x_2.fst = x_2.fst ∧
 (0 : Nat) = (0 : Nat) ∧
 IntKind.i64.wrap ((↑x_4.fst : Int) + (1 : Int)) = (↑x'.fst : Int) ∧ True) ∧
 (Is (byts x_5.fst) (byts b) ∧ y.snd = x'.snd.snd.snd ∧ True) ∧
 (Is (syms s) (syms s) ∧ True) ∧
 (Is (AV.lit (0 : Nat) (1 : Nat) fun (x x_6 : Nat) => AV.any) nilA ∧ True) ∧
 IsO (xrR x_2.snd.fst) (xrR x_2.snd.fst) ∧
 ((List.getD s x.fst Pl.dY).fst = (List.getD s x.fst Pl.dY).fst ∧
 ((0 : Nat) = (0 : Nat) ∧ x_4.snd.fst.length + (1 : Nat) = x'.snd.fst.length) ∧
 x_4.snd.snd.fst.fst = x'.snd.snd.fst.fst ∧
 x_4.snd.snd.fst.snd = x'.snd.snd.fst.snd ∧ True) ∧
 IsO
 (AObj.arr (x_4.snd.fst.length + (1 : Nat)) (2 : Nat)
 (joinC x_4.snd.fst.length (cQ x_4.snd.fst)
 (rowsCell [[i64 y.fst.fst, i64 y.fst.snd]])))
 (arQ x'.snd.fst) ∧
 True)
 (Exists fun (x_5 : List Pl.Rw × Pl.Rw) =>
 (x_5.fst.length ≤ (1000 : Nat) ∧
 (∀ (y : Pl.Rw), y ∈ x_5.fst → y.snd.fst.length ≤ (1000 : Nat)) ∧ x_5.snd.snd.fst.length ≤ (1000 : Nat)) ∧
 ((((0 : Nat) = (0 : Nat) ∧ List.length x_2.snd.fst = x_5.fst.length) ∧
 ((List.getD s x.fst Pl.dY).fst = x_5.snd.fst ∧
 ((0 : Nat) = (0 : Nat) ∧ x_4.snd.fst.length = x_5.snd.snd.fst.length) ∧
 x_4.snd.snd.fst.fst = x_5.snd.snd.snd.fst ∧ x_4.snd.snd.fst.snd = x_5.snd.snd.snd.snd ∧ True) ∧
 True) ∧
 IsO (xrR x_2.snd.fst) (xrR x_5.fst) ∧ IsO (arQ x_4.snd.fst) (arQ x_5.snd.snd.fst) ∧ True) ∧
 ∀ (y : List Nat),
 HPut x_5.fst.length y →
 Exists fun (x' : Int × Pl.Mdl × Int) =>
 ((0 : Int) ≤ x'.fst ∧
 x'.fst ≤ (3 : Int) ∧
 Pl.MdB ((3 : Nat) * x.fst + (3 : Nat) - x'.fst.toNat) (2 : Nat) x'.snd.fst ∧
 p ≤ x'.snd.snd ∧ x'.snd.snd ≤ p + (100 : Int) * (↑x.fst : Int) + (1 : Int) + (30 : Int) * ((3 : Int) - x'.fst)) ∧
 x'.fst.toNat < x_2.fst.toNat ∧
 ((0 : Nat) = (0 : Nat) ∧
 (0 : Nat) = (0 : Nat) ∧
 (0 : Nat) = (0 : Nat) ∧
 ((0 : Nat) = (0 : Nat) ∧ y.length = List.length x'.snd.fst) ∧
 (↑x.fst : Int) = (↑x.fst : Int) ∧ IntKind.i64.wrap (x_2.fst - (1 : Int)) = x'.fst ∧ True) ∧
 (Is (byts b) (byts b) ∧ x_4.snd.snd.snd = x'.snd.snd ∧ True) ∧
 (Is (syms s) (syms s) ∧ True) ∧
 (Is (AV.lit (0 : Nat) (1 : Nat) fun (x x_6 : Nat) => AV.any) nilA ∧ True) ∧
 IsO (xrR (List.map (fun (i : Nat) => (x_5.fst ++ [x_5.snd]).getD i Pl.dR) y)) (xrR x'.snd.fst) ∧ True)) ∧
 ((0 : Int) ≤ (↑x.fst : Int) ∧ (↑x.fst : Int) < (↑(List.length s) : Int)) ∧
 x.fst < List.length s ∧
 Exists fun (x_3 : List Int × Int × Int) =>
 Rd (549755813888 : Int) x_3.fst x_3.snd.fst ∧
 (((0 : Nat) = (0 : Nat) ∧ (List.getD s x.fst Pl.dY).snd.snd = x_3.snd.snd ∧ True) ∧
 (Is (byts b) (byts x_3.fst) ∧ x_2.snd.snd = x_3.snd.fst ∧ True) ∧ True) ∧
 ∀ (y : Pl.Rt × Int),
 x_3.snd.fst ≤ y.snd ∧ y.snd ≤ x_3.snd.fst + (2 : Int) →
 (Exists fun (x_4 : Nat × List Pl.Rt × Pl.Rt × Int) =>
 (x_4.fst ≤ (List.getD s x.fst Pl.dY).snd.fst.length ∧
 x_4.snd.fst.length = x_4.fst ∧
 p ≤ x_4.snd.snd.snd ∧
 x_4.snd.snd.snd ≤ p + (100 : Int) * (↑x.fst : Int) + (3 : Int) + (30 : Int) * ((3 : Int) - x_2.fst) + (2 : Int) * (↑x_4.fst : Int)) ∧
 ((0 : Nat) = (0 : Nat) ∧
 (0 : Nat) = (0 : Nat) ∧
 (0 : Nat) = (0 : Nat) ∧
 ((0 : Nat) = (0 : Nat) ∧ List.length x_2.snd.fst = List.length x_2.snd.fst) ∧
 (↑x.fst : Int) = (↑x.fst : Int) ∧ x_2.fst = x_2.fst ∧ (0 : Nat) = (0 : Nat) ∧ (0 : Int) = (↑x_4.fst : Int) ∧ True) ∧
 (Is (byts x_3.fst) (byts b) ∧ y.snd = x_4.snd.snd.snd ∧ True) ∧
 (Is (syms s) (syms s) ∧ True) ∧
 (Is (AV.lit (0 : Nat) (1 : Nat) fun (x x_5 : Nat) => AV.any) nilA ∧ True) ∧
 IsO (xrR x_2.snd.fst) (xrR x_2.snd.fst) ∧
 ((List.getD s x.fst Pl.dY).fst = (List.getD s x.fst Pl.dY).fst ∧
 ((0 : Nat) = (0 : Nat) ∧ (0 : Nat) = (0 : Nat) ∧ x_4.snd.fst.length = (0 : Nat)) ∧
 y.fst.fst = x_4.snd.snd.fst.fst ∧ y.fst.snd = x_4.snd.snd.fst.snd ∧ True) ∧
 x_4.snd.fst.length = (0 : Nat) ∧ True) ∧
 ∀ (x_4 : Nat × List Pl.Rt × Pl.Rt × Int),
 x_4.fst ≤ (List.getD s x.fst Pl.dY).snd.fst.length ∧
 x_4.snd.fst.length = x_4.fst ∧
 p ≤ x_4.snd.snd.snd ∧
 x_4.snd.snd.snd ≤ p + (100 : Int) * (↑x.fst : Int) + (3 : Int) + (30 : Int) * ((3 : Int) - x_2.fst) + (2 : Int) * (↑x_4.fst : Int) →
 ((0 : Int) ≤ (↑x.fst : Int) ∧ (↑x.fst : Int) < (↑(List.length s) : Int)) ∧
 x.fst < List.length s ∧
 condP (Decidable.decide ((↑x_4.fst : Int) < (↑(List.getD s x.fst Pl.dY).snd.fst.length : Int)))
 ((((0 : Int) ≤ (↑x.fst : Int) ∧ (↑x.fst : Int) < (↑(List.length s) : Int)) ∧
 x.fst < List.length s ∧
 ((0 : Int) ≤ (↑x_4.fst : Int) ∧ (↑x_4.fst : Int) < (↑(List.getD s x.fst Pl.dY).snd.fst.length : Int)) ∧
 x_4.fst < (List.getD s x.fst Pl.dY).snd.fst.length ∧
 Exists fun (x_5 : List Int × Int × Int) =>
 Rd (549755813888 : Int) x_5.fst x_5.snd.fst ∧
 (((0 : Nat) = (0 : Nat) ∧ (List.getD s x.fst Pl.dY).snd.fst.getD x_4.fst (0 : Int) = x_5.snd.snd ∧ True) ∧
 (Is (byts b) (byts x_5.fst) ∧ x_4.snd.snd.snd = x_5.snd.fst ∧ True) ∧ True) ∧
 ∀ (y : Pl.Rt × Int),
 x_5.snd.fst ≤ y.snd ∧ y.snd ≤ x_5.snd.fst + (2 : Int) →
 (0 : Nat) + x_4.snd.fst.length ≤ x_4.snd.fst.length ∧
 (x_4.snd.fst.length + (1 : Nat)) * (16 : Nat) ≤ (70368744177664 : Nat) ∧
 Exists fun (x' : Nat × List Pl.Rt × Pl.Rt × Int) =>
 (x'.fst ≤ (List.getD s x.fst Pl.dY).snd.fst.length ∧
 x'.snd.fst.length = x'.fst ∧
 p ≤ x'.snd.snd.snd ∧
 x'.snd.snd.snd ≤
 p + (100 : Int) * (↑x.fst : Int) + (3 : Int) + (30 : Int) * ((3 : Int) - x_2.fst) +
 (2 : Int) * (↑x'.fst : Int)) ∧
 (List.getD s x.fst Pl.dY).snd.fst.length - x'.fst < (List.getD s x.fst Pl.dY).snd.fst.length - x_4.fst ∧
 ((0 : Nat) = (0 : Nat) ∧
 (0 : Nat) = (0 : Nat) ∧
 (0 : Nat) = (0 : Nat) ∧
 ((0 : Nat) = (0 : Nat) ∧ List.length x_2.snd.fst = List.length x_2.snd.fst) ∧
 (↑x.fst : Int) = (↑x.fst : Int) ∧
 x_2.fst = x_2.fst ∧
 (0 : Nat) = (0 : Nat) ∧
 IntKind.i64.wrap ((↑x_4.fst : Int) + (1 : Int)) = (↑x'.fst : Int) ∧ True) ∧
 (Is (byts x_5.fst) (byts b) ∧ y.snd = x'.snd.snd.snd ∧ True) ∧
 (Is (syms s) (syms s) ∧ True) ∧
 (Is (AV.lit (0 : Nat) (1 : Nat) fun (x x_6 : Nat) => AV.any) nilA ∧ True) ∧
 IsO (xrR x_2.snd.fst) (xrR x_2.snd.fst) ∧
 ((List.getD s x.fst Pl.dY).fst = (List.getD s x.fst Pl.dY).fst ∧
 ((0 : Nat) = (0 : Nat) ∧ x_4.snd.fst.length + (1 : Nat) = x'.snd.fst.length) ∧
 x_4.snd.snd.fst.fst = x'.snd.snd.fst.fst ∧ x_4.snd.snd.fst.snd = x'.snd.snd.fst.snd ∧ True) ∧
 IsO
 (AObj.arr (x_4.snd.fst.length + (1 : Nat)) (2 : Nat)
 (joinC x_4.snd.fst.length (cQ x_4.snd.fst)
 (rowsCell [[i64 y.fst.fst, i64 y.fst.snd]])))
 (arQ x'.snd.fst) ∧
 True) ∧
 ((0 : Int) ≤ (↑x.fst : Int) ∧ (↑x.fst : Int) < (↑(List.length s) : Int)) ∧
 x.fst < List.length s ∧
 ((0 : Int) ≤ (↑x_4.fst : Int) ∧ (↑x_4.fst : Int) < (↑(List.getD s x.fst Pl.dY).snd.fst.length : Int)) ∧
 x_4.fst < (List.getD s x.fst Pl.dY).snd.fst.length ∧
 (Exists fun (x_5 : List Int × Int × Int) =>
 Rd (549755813888 : Int) x_5.fst x_5.snd.fst ∧
 (((0 : Nat) = (0 : Nat) ∧ (List.getD s x.fst Pl.dY).snd.fst.getD x_4.fst (0 : Int) = x_5.snd.snd ∧ True) ∧
 (Is (byts b) (byts x_5.fst) ∧ x_4.snd.snd.snd = x_5.snd.fst ∧ True) ∧ True) ∧
 ∀ (y : Pl.Rt × Int),
 x_5.snd.fst ≤ y.snd ∧ y.snd ≤ x_5.snd.fst + (2 : Int) →
 (0 : Nat) + x_4.snd.fst.length ≤ x_4.snd.fst.length ∧
 (x_4.snd.fst.length + (1 : Nat)) * (16 : Nat) ≤ (70368744177664 : Nat) ∧
 Exists fun (x' : Nat × List Pl.Rt × Pl.Rt × Int) =>
 (x'.fst ≤ (List.getD s x.fst Pl.dY).snd.fst.length ∧
 x'.snd.fst.length = x'.fst ∧
 p ≤ x'.snd.snd.snd ∧
 x'.snd.snd.snd ≤
 p + (100 : Int) * (↑x.fst : Int) + (3 : Int) + (30 : Int) * ((3 : Int) - x_2.fst) +
 (2 : Int) * (↑x'.fst : Int)) ∧
 (List.getD s x.fst Pl.dY).snd.fst.length - x'.fst < (List.getD s x.fst Pl.dY).snd.fst.length - x_4.fst ∧
 ((0 : Nat) = (0 : Nat) ∧
 (0 : Nat) = (0 : Nat) ∧
 (0 : Nat) = (0 : Nat) ∧
 ((0 : Nat) = (0 : Nat) ∧ List.length x_2.snd.fst = List.length x_2.snd.fst) ∧
 (↑x.fst : Int) = (↑x.fst : Int) ∧
 x_2.fst = x_2.fst ∧
 (0 : Nat) = (0 : Nat) ∧
 IntKind.i64.wrap ((↑x_4.fst : Int) + (1 : Int)) = (↑x'.fst : Int) ∧ True) ∧
 (Is (byts x_5.fst) (byts b) ∧ y.snd = x'.snd.snd.snd ∧ True) ∧
 (Is (syms s) (syms s) ∧ True) ∧
 (Is (AV.lit (0 : Nat) (1 : Nat) fun (x x_6 : Nat) => AV.any) nilA ∧ True) ∧
 IsO (xrR x_2.snd.fst) (xrR x_2.snd.fst) ∧
 ((List.getD s x.fst Pl.dY).fst = (List.getD s x.fst Pl.dY).fst ∧
 ((0 : Nat) = (0 : Nat) ∧ x_4.snd.fst.length + (1 : Nat) = x'.snd.fst.length) ∧
 x_4.snd.snd.fst.fst = x'.snd.snd.fst.fst ∧
 x_4.snd.snd.fst.snd = x'.snd.snd.fst.snd ∧ True) ∧
 IsO
 (AObj.arr (x_4.snd.fst.length + (1 : Nat)) (2 : Nat)
 (joinC x_4.snd.fst.length (cQ x_4.snd.fst)
 (rowsCell [[i64 y.fst.fst, i64 y.fst.snd]])))
 (arQ x'.snd.fst) ∧
 True) ∧
 Exists fun (x_5 : List Int × Int × Int) =>
 Rd (549755813888 : Int) x_5.fst x_5.snd.fst ∧
 (((0 : Nat) = (0 : Nat) ∧ (List.getD s x.fst Pl.dY).snd.fst.getD x_4.fst (0 : Int) = x_5.snd.snd ∧ True) ∧
 (Is (byts b) (byts x_5.fst) ∧ x_4.snd.snd.snd = x_5.snd.fst ∧ True) ∧ True) ∧
 ∀ (y : Pl.Rt × Int),
 x_5.snd.fst ≤ y.snd ∧ y.snd ≤ x_5.snd.fst + (2 : Int) →
 (0 : Nat) + x_4.snd.fst.length ≤ x_4.snd.fst.length ∧
 (x_4.snd.fst.length + (1 : Nat)) * (16 : Nat) ≤ (70368744177664 : Nat) ∧
 Exists fun (x' : Nat × List Pl.Rt × Pl.Rt × Int) =>
 (x'.fst ≤ (List.getD s x.fst Pl.dY).snd.fst.length ∧
 x'.snd.fst.length = x'.fst ∧
 p ≤ x'.snd.snd.snd ∧
 x'.snd.snd.snd ≤
 p + (100 : Int) * (↑x.fst : Int) + (3 : Int) + (30 : Int) * ((3 : Int) - x_2.fst) +
 (2 : Int) * (↑x'.fst : Int)) ∧
 (List.getD s x.fst Pl.dY).snd.fst.length - x'.fst < (List.getD s x.fst Pl.dY).snd.fst.length - x_4.fst ∧
 ((0 : Nat) = (0 : Nat) ∧
 (0 : Nat) = (0 : Nat) ∧
 (0 : Nat) = (0 : Nat) ∧
 ((0 : Nat) = (0 : Nat) ∧ List.length x_2.snd.fst = List.length x_2.snd.fst) ∧
 (↑x.fst : Int) = (↑x.fst : Int) ∧
 x_2.fst = x_2.fst ∧
 (0 : Nat) = (0 : Nat) ∧
 IntKind.i64.wrap ((↑x_4.fst : Int) + (1 : Int)) = (↑x'.fst : Int) ∧ True) ∧
 (Is (byts x_5.fst) (byts b) ∧ y.snd = x'.snd.snd.snd ∧ True) ∧
 (Is (syms s) (syms s) ∧ True) ∧
 (Is (AV.lit (0 : Nat) (1 : Nat) fun (x x_6 : Nat) => AV.any) nilA ∧ True) ∧
 IsO (xrR x_2.snd.fst) (xrR x_2.snd.fst) ∧
 ((List.getD s x.fst Pl.dY).fst = (List.getD s x.fst Pl.dY).fst ∧
 ((0 : Nat) = (0 : Nat) ∧ x_4.snd.fst.length + (1 : Nat) = x'.snd.fst.length) ∧
 x_4.snd.snd.fst.fst = x'.snd.snd.fst.fst ∧
 x_4.snd.snd.fst.snd = x'.snd.snd.fst.snd ∧ True) ∧
 IsO
 (AObj.arr (x_4.snd.fst.length + (1 : Nat)) (2 : Nat)
 (joinC x_4.snd.fst.length (cQ x_4.snd.fst)
 (rowsCell [[i64 y.fst.fst, i64 y.fst.snd]])))
 (arQ x'.snd.fst) ∧
 True)
 (Exists fun (x_5 : List Pl.Rw × Pl.Rw) =>
 (x_5.fst.length ≤ (1000 : Nat) ∧ (∀ (y : Pl.Rw), y ∈ x_5.fst → y.snd.fst.length ≤ (1000 : Nat)) ∧ x_5.snd.snd.fst.length ≤ (1000 : Nat)) ∧
 ((((0 : Nat) = (0 : Nat) ∧ List.length x_2.snd.fst = x_5.fst.length) ∧
 ((List.getD s x.fst Pl.dY).fst = x_5.snd.fst ∧
 ((0 : Nat) = (0 : Nat) ∧ x_4.snd.fst.length = x_5.snd.snd.fst.length) ∧
 x_4.snd.snd.fst.fst = x_5.snd.snd.snd.fst ∧ x_4.snd.snd.fst.snd = x_5.snd.snd.snd.snd ∧ True) ∧
 True) ∧
 IsO (xrR x_2.snd.fst) (xrR x_5.fst) ∧ IsO (arQ x_4.snd.fst) (arQ x_5.snd.snd.fst) ∧ True) ∧
 ∀ (y : List Nat),
 HPut x_5.fst.length y →
 Exists fun (x' : Int × Pl.Mdl × Int) =>
 ((0 : Int) ≤ x'.fst ∧
 x'.fst ≤ (3 : Int) ∧
 Pl.MdB ((3 : Nat) * x.fst + (3 : Nat) - x'.fst.toNat) (2 : Nat) x'.snd.fst ∧
 p ≤ x'.snd.snd ∧ x'.snd.snd ≤ p + (100 : Int) * (↑x.fst : Int) + (1 : Int) + (30 : Int) * ((3 : Int) - x'.fst)) ∧
 x'.fst.toNat < x_2.fst.toNat ∧
 ((0 : Nat) = (0 : Nat) ∧
 (0 : Nat) = (0 : Nat) ∧
 (0 : Nat) = (0 : Nat) ∧
 ((0 : Nat) = (0 : Nat) ∧ y.length = List.length x'.snd.fst) ∧
 (↑x.fst : Int) = (↑x.fst : Int) ∧ IntKind.i64.wrap (x_2.fst - (1 : Int)) = x'.fst ∧ True) ∧
 (Is (byts b) (byts b) ∧ x_4.snd.snd.snd = x'.snd.snd ∧ True) ∧
 (Is (syms s) (syms s) ∧ True) ∧
 (Is (AV.lit (0 : Nat) (1 : Nat) fun (x x_6 : Nat) => AV.any) nilA ∧ True) ∧
 IsO (xrR (List.map (fun (i : Nat) => (x_5.fst ++ [x_5.snd]).getD i Pl.dR) y)) (xrR x'.snd.fst) ∧ True)) ∧
 (((0 : Int) ≤ (↑x.fst : Int) ∧ (↑x.fst : Int) < (↑(List.length s) : Int)) ∧
 x.fst < List.length s ∧
 (((0 : Int) ≤ (↑x.fst : Int) ∧ (↑x.fst : Int) < (↑(List.length s) : Int)) ∧
 x.fst < List.length s ∧
 (Exists fun (x_3 : List Int × Int × Int) =>
 Rd (549755813888 : Int) x_3.fst x_3.snd.fst ∧
 (((0 : Nat) = (0 : Nat) ∧ (List.getD s x.fst Pl.dY).snd.snd = x_3.snd.snd ∧ True) ∧
 (Is (byts b) (byts x_3.fst) ∧ x_2.snd.snd = x_3.snd.fst ∧ True) ∧ True) ∧
 ∀ (y : Pl.Rt × Int),
 x_3.snd.fst ≤ y.snd ∧ y.snd ≤ x_3.snd.fst + (2 : Int) →
 (Exists fun (x_4 : Nat × List Pl.Rt × Pl.Rt × Int) =>
 (x_4.fst ≤ (List.getD s x.fst Pl.dY).snd.fst.length ∧
 x_4.snd.fst.length = x_4.fst ∧
 p ≤ x_4.snd.snd.snd ∧
 x_4.snd.snd.snd ≤ p + (100 : Int) * (↑x.fst : Int) + (3 : Int) + (30 : Int) * ((3 : Int) - x_2.fst) + (2 : Int) * (↑x_4.fst : Int)) ∧
 ((0 : Nat) = (0 : Nat) ∧
 (0 : Nat) = (0 : Nat) ∧
 (0 : Nat) = (0 : Nat) ∧
 ((0 : Nat) = (0 : Nat) ∧ List.length x_2.snd.fst = List.length x_2.snd.fst) ∧
 (↑x.fst : Int) = (↑x.fst : Int) ∧ x_2.fst = x_2.fst ∧ (0 : Nat) = (0 : Nat) ∧ (0 : Int) = (↑x_4.fst : Int) ∧ True) ∧
 (Is (byts x_3.fst) (byts b) ∧ y.snd = x_4.snd.snd.snd ∧ True) ∧
 (Is (syms s) (syms s) ∧ True) ∧
 (Is (AV.lit (0 : Nat) (1 : Nat) fun (x x_5 : Nat) => AV.any) nilA ∧ True) ∧
 IsO (xrR x_2.snd.fst) (xrR x_2.snd.fst) ∧
 ((List.getD s x.fst Pl.dY).fst = (List.getD s x.fst Pl.dY).fst ∧
 ((0 : Nat) = (0 : Nat) ∧ (0 : Nat) = (0 : Nat) ∧ x_4.snd.fst.length = (0 : Nat)) ∧
 y.fst.fst = x_4.snd.snd.fst.fst ∧ y.fst.snd = x_4.snd.snd.fst.snd ∧ True) ∧
 x_4.snd.fst.length = (0 : Nat) ∧ True) ∧
 ∀ (x_4 : Nat × List Pl.Rt × Pl.Rt × Int),
 x_4.fst ≤ (List.getD s x.fst Pl.dY).snd.fst.length ∧
 x_4.snd.fst.length = x_4.fst ∧
 p ≤ x_4.snd.snd.snd ∧
 x_4.snd.snd.snd ≤ p + (100 : Int) * (↑x.fst : Int) + (3 : Int) + (30 : Int) * ((3 : Int) - x_2.fst) + (2 : Int) * (↑x_4.fst : Int) →
 ((0 : Int) ≤ (↑x.fst : Int) ∧ (↑x.fst : Int) < (↑(List.length s) : Int)) ∧
 x.fst < List.length s ∧
 condP (Decidable.decide ((↑x_4.fst : Int) < (↑(List.getD s x.fst Pl.dY).snd.fst.length : Int)))
 ((((0 : Int) ≤ (↑x.fst : Int) ∧ (↑x.fst : Int) < (↑(List.length s) : Int)) ∧
 x.fst < List.length s ∧
 ((0 : Int) ≤ (↑x_4.fst : Int) ∧ (↑x_4.fst : Int) < (↑(List.getD s x.fst Pl.dY).snd.fst.length : Int)) ∧
 x_4.fst < (List.getD s x.fst Pl.dY).snd.fst.length ∧
 Exists fun (x_5 : List Int × Int × Int) =>
 Rd (549755813888 : Int) x_5.fst x_5.snd.fst ∧
 (((0 : Nat) = (0 : Nat) ∧ (List.getD s x.fst Pl.dY).snd.fst.getD x_4.fst (0 : Int) = x_5.snd.snd ∧ True) ∧
 (Is (byts b) (byts x_5.fst) ∧ x_4.snd.snd.snd = x_5.snd.fst ∧ True) ∧ True) ∧
 ∀ (y : Pl.Rt × Int),
 x_5.snd.fst ≤ y.snd ∧ y.snd ≤ x_5.snd.fst + (2 : Int) →
 (0 : Nat) + x_4.snd.fst.length ≤ x_4.snd.fst.length ∧
 (x_4.snd.fst.length + (1 : Nat)) * (16 : Nat) ≤ (70368744177664 : Nat) ∧
 Exists fun (x' : Nat × List Pl.Rt × Pl.Rt × Int) =>
 (x'.fst ≤ (List.getD s x.fst Pl.dY).snd.fst.length ∧
 x'.snd.fst.length = x'.fst ∧
 p ≤ x'.snd.snd.snd ∧
 x'.snd.snd.snd ≤
 p + (100 : Int) * (↑x.fst : Int) + (3 : Int) + (30 : Int) * ((3 : Int) - x_2.fst) +
 (2 : Int) * (↑x'.fst : Int)) ∧
 (List.getD s x.fst Pl.dY).snd.fst.length - x'.fst < (List.getD s x.fst Pl.dY).snd.fst.length - x_4.fst ∧
 ((0 : Nat) = (0 : Nat) ∧
 (0 : Nat) = (0 : Nat) ∧
 (0 : Nat) = (0 : Nat) ∧
 ((0 : Nat) = (0 : Nat) ∧ List.length x_2.snd.fst = List.length x_2.snd.fst) ∧
 (↑x.fst : Int) = (↑x.fst : Int) ∧
 x_2.fst = x_2.fst ∧
 (0 : Nat) = (0 : Nat) ∧
 IntKind.i64.wrap ((↑x_4.fst : Int) + (1 : Int)) = (↑x'.fst : Int) ∧ True) ∧
 (Is (byts x_5.fst) (byts b) ∧ y.snd = x'.snd.snd.snd ∧ True) ∧
 (Is (syms s) (syms s) ∧ True) ∧
 (Is (AV.lit (0 : Nat) (1 : Nat) fun (x x_6 : Nat) => AV.any) nilA ∧ True) ∧
 IsO (xrR x_2.snd.fst) (xrR x_2.snd.fst) ∧
 ((List.getD s x.fst Pl.dY).fst = (List.getD s x.fst Pl.dY).fst ∧
 ((0 : Nat) = (0 : Nat) ∧ x_4.snd.fst.length + (1 : Nat) = x'.snd.fst.length) ∧
 x_4.snd.snd.fst.fst = x'.snd.snd.fst.fst ∧
 x_4.snd.snd.fst.snd = x'.snd.snd.fst.snd ∧ True) ∧
 IsO
 (AObj.arr (x_4.snd.fst.length + (1 : Nat)) (2 : Nat)
 (joinC x_4.snd.fst.length (cQ x_4.snd.fst)
 (rowsCell [[i64 y.fst.fst, i64 y.fst.snd]])))
 (arQ x'.snd.fst) ∧
 True) ∧
 ((0 : Int) ≤ (↑x.fst : Int) ∧ (↑x.fst : Int) < (↑(List.length s) : Int)) ∧
 x.fst < List.length s ∧
 ((0 : Int) ≤ (↑x_4.fst : Int) ∧ (↑x_4.fst : Int) < (↑(List.getD s x.fst Pl.dY).snd.fst.length : Int)) ∧
 x_4.fst < (List.getD s x.fst Pl.dY).snd.fst.length ∧
 (Exists fun (x_5 : List Int × Int × Int) =>
 Rd (549755813888 : Int) x_5.fst x_5.snd.fst ∧
 (((0 : Nat) = (0 : Nat) ∧ (List.getD s x.fst Pl.dY).snd.fst.getD x_4.fst (0 : Int) = x_5.snd.snd ∧ True) ∧
 (Is (byts b) (byts x_5.fst) ∧ x_4.snd.snd.snd = x_5.snd.fst ∧ True) ∧ True) ∧
 ∀ (y : Pl.Rt × Int),
 x_5.snd.fst ≤ y.snd ∧ y.snd ≤ x_5.snd.fst + (2 : Int) →
 (0 : Nat) + x_4.snd.fst.length ≤ x_4.snd.fst.length ∧
 (x_4.snd.fst.length + (1 : Nat)) * (16 : Nat) ≤ (70368744177664 : Nat) ∧
 Exists fun (x' : Nat × List Pl.Rt × Pl.Rt × Int) =>
 (x'.fst ≤ (List.getD s x.fst Pl.dY).snd.fst.length ∧
 x'.snd.fst.length = x'.fst ∧
 p ≤ x'.snd.snd.snd ∧
 x'.snd.snd.snd ≤
 p + (100 : Int) * (↑x.fst : Int) + (3 : Int) + (30 : Int) * ((3 : Int) - x_2.fst) +
 (2 : Int) * (↑x'.fst : Int)) ∧
 (List.getD s x.fst Pl.dY).snd.fst.length - x'.fst < (List.getD s x.fst Pl.dY).snd.fst.length - x_4.fst ∧
 ((0 : Nat) = (0 : Nat) ∧
 (0 : Nat) = (0 : Nat) ∧
 (0 : Nat) = (0 : Nat) ∧
 ((0 : Nat) = (0 : Nat) ∧ List.length x_2.snd.fst = List.length x_2.snd.fst) ∧
 (↑x.fst : Int) = (↑x.fst : Int) ∧
 x_2.fst = x_2.fst ∧
 (0 : Nat) = (0 : Nat) ∧
 IntKind.i64.wrap ((↑x_4.fst : Int) + (1 : Int)) = (↑x'.fst : Int) ∧ True) ∧
 (Is (byts x_5.fst) (byts b) ∧ y.snd = x'.snd.snd.snd ∧ True) ∧
 (Is (syms s) (syms s) ∧ True) ∧
 (Is (AV.lit (0 : Nat) (1 : Nat) fun (x x_6 : Nat) => AV.any) nilA ∧ True) ∧
 IsO (xrR x_2.snd.fst) (xrR x_2.snd.fst) ∧
 ((List.getD s x.fst Pl.dY).fst = (List.getD s x.fst Pl.dY).fst ∧
 ((0 : Nat) = (0 : Nat) ∧ x_4.snd.fst.length + (1 : Nat) = x'.snd.fst.length) ∧
 x_4.snd.snd.fst.fst = x'.snd.snd.fst.fst ∧
 x_4.snd.snd.fst.snd = x'.snd.snd.fst.snd ∧ True) ∧
 IsO
 (AObj.arr (x_4.snd.fst.length + (1 : Nat)) (2 : Nat)
 (joinC x_4.snd.fst.length (cQ x_4.snd.fst)
 (rowsCell [[i64 y.fst.fst, i64 y.fst.snd]])))
 (arQ x'.snd.fst) ∧
 True) ∧
 Exists fun (x_5 : List Int × Int × Int) =>
 Rd (549755813888 : Int) x_5.fst x_5.snd.fst ∧
 (((0 : Nat) = (0 : Nat) ∧ (List.getD s x.fst Pl.dY).snd.fst.getD x_4.fst (0 : Int) = x_5.snd.snd ∧ True) ∧
 (Is (byts b) (byts x_5.fst) ∧ x_4.snd.snd.snd = x_5.snd.fst ∧ True) ∧ True) ∧
 ∀ (y : Pl.Rt × Int),
 x_5.snd.fst ≤ y.snd ∧ y.snd ≤ x_5.snd.fst + (2 : Int) →
 (0 : Nat) + x_4.snd.fst.length ≤ x_4.snd.fst.length ∧
 (x_4.snd.fst.length + (1 : Nat)) * (16 : Nat) ≤ (70368744177664 : Nat) ∧
 Exists fun (x' : Nat × List Pl.Rt × Pl.Rt × Int) =>
 (x'.fst ≤ (List.getD s x.fst Pl.dY).snd.fst.length ∧
 x'.snd.fst.length = x'.fst ∧
 p ≤ x'.snd.snd.snd ∧
 x'.snd.snd.snd ≤
 p + (100 : Int) * (↑x.fst : Int) + (3 : Int) + (30 : Int) * ((3 : Int) - x_2.fst) +
 (2 : Int) * (↑x'.fst : Int)) ∧
 (List.getD s x.fst Pl.dY).snd.fst.length - x'.fst < (List.getD s x.fst Pl.dY).snd.fst.length - x_4.fst ∧
 ((0 : Nat) = (0 : Nat) ∧
 (0 : Nat) = (0 : Nat) ∧
 (0 : Nat) = (0 : Nat) ∧
 ((0 : Nat) = (0 : Nat) ∧ List.length x_2.snd.fst = List.length x_2.snd.fst) ∧
 (↑x.fst : Int) = (↑x.fst : Int) ∧
 x_2.fst = x_2.fst ∧
 (0 : Nat) = (0 : Nat) ∧
 IntKind.i64.wrap ((↑x_4.fst : Int) + (1 : Int)) = (↑x'.fst : Int) ∧ True) ∧
 (Is (byts x_5.fst) (byts b) ∧ y.snd = x'.snd.snd.snd ∧ True) ∧
 (Is (syms s) (syms s) ∧ True) ∧
 (Is (AV.lit (0 : Nat) (1 : Nat) fun (x x_6 : Nat) => AV.any) nilA ∧ True) ∧
 IsO (xrR x_2.snd.fst) (xrR x_2.snd.fst) ∧
 ((List.getD s x.fst Pl.dY).fst = (List.getD s x.fst Pl.dY).fst ∧
 ((0 : Nat) = (0 : Nat) ∧ x_4.snd.fst.length + (1 : Nat) = x'.snd.fst.length) ∧
 x_4.snd.snd.fst.fst = x'.snd.snd.fst.fst ∧
 x_4.snd.snd.fst.snd = x'.snd.snd.fst.snd ∧ True) ∧
 IsO
 (AObj.arr (x_4.snd.fst.length + (1 : Nat)) (2 : Nat)
 (joinC x_4.snd.fst.length (cQ x_4.snd.fst)
 (rowsCell [[i64 y.fst.fst, i64 y.fst.snd]])))
 (arQ x'.snd.fst) ∧
 True)
 (Exists fun (x_5 : List Pl.Rw × Pl.Rw) =>
 (x_5.fst.length ≤ (1000 : Nat) ∧
 (∀ (y : Pl.Rw), y ∈ x_5.fst → y.snd.fst.length ≤ (1000 : Nat)) ∧ x_5.snd.snd.fst.length ≤ (1000 : Nat)) ∧
 ((((0 : Nat) = (0 : Nat) ∧ List.length x_2.snd.fst = x_5.fst.length) ∧
 ((List.getD s x.fst Pl.dY).fst = x_5.snd.fst ∧
 ((0 : Nat) = (0 : Nat) ∧ x_4.snd.fst.length = x_5.snd.snd.fst.length) ∧
 x_4.snd.snd.fst.fst = x_5.snd.snd.snd.fst ∧ x_4.snd.snd.fst.snd = x_5.snd.snd.snd.snd ∧ True) ∧
 True) ∧
 IsO (xrR x_2.snd.fst) (xrR x_5.fst) ∧ IsO (arQ x_4.snd.fst) (arQ x_5.snd.snd.fst) ∧ True) ∧
 ∀ (y : List Nat),
 HPut x_5.fst.length y →
 Exists fun (x' : Int × Pl.Mdl × Int) =>
 ((0 : Int) ≤ x'.fst ∧
 x'.fst ≤ (3 : Int) ∧
 Pl.MdB ((3 : Nat) * x.fst + (3 : Nat) - x'.fst.toNat) (2 : Nat) x'.snd.fst ∧
 p ≤ x'.snd.snd ∧ x'.snd.snd ≤ p + (100 : Int) * (↑x.fst : Int) + (1 : Int) + (30 : Int) * ((3 : Int) - x'.fst)) ∧
 x'.fst.toNat < x_2.fst.toNat ∧
 ((0 : Nat) = (0 : Nat) ∧
 (0 : Nat) = (0 : Nat) ∧
 (0 : Nat) = (0 : Nat) ∧
 ((0 : Nat) = (0 : Nat) ∧ y.length = List.length x'.snd.fst) ∧
 (↑x.fst : Int) = (↑x.fst : Int) ∧ IntKind.i64.wrap (x_2.fst - (1 : Int)) = x'.fst ∧ True) ∧
 (Is (byts b) (byts b) ∧ x_4.snd.snd.snd = x'.snd.snd ∧ True) ∧
 (Is (syms s) (syms s) ∧ True) ∧
 (Is (AV.lit (0 : Nat) (1 : Nat) fun (x x_6 : Nat) => AV.any) nilA ∧ True) ∧
 IsO (xrR (List.map (fun (i : Nat) => (x_5.fst ++ [x_5.snd]).getD i Pl.dR) y)) (xrR x'.snd.fst) ∧
 True)) ∧
 Exists fun (x_3 : List Int × Int × Int) =>
 Rd (549755813888 : Int) x_3.fst x_3.snd.fst ∧
 (((0 : Nat) = (0 : Nat) ∧ (List.getD s x.fst Pl.dY).snd.snd = x_3.snd.snd ∧ True) ∧
 (Is (byts b) (byts x_3.fst) ∧ x_2.snd.snd = x_3.snd.fst ∧ True) ∧ True) ∧
 ∀ (y : Pl.Rt × Int),
 x_3.snd.fst ≤ y.snd ∧ y.snd ≤ x_3.snd.fst + (2 : Int) →
 (Exists fun (x_4 : Nat × List Pl.Rt × Pl.Rt × Int) =>
 (x_4.fst ≤ (List.getD s x.fst Pl.dY).snd.fst.length ∧
 x_4.snd.fst.length = x_4.fst ∧
 p ≤ x_4.snd.snd.snd ∧
 x_4.snd.snd.snd ≤ p + (100 : Int) * (↑x.fst : Int) + (3 : Int) + (30 : Int) * ((3 : Int) - x_2.fst) + (2 : Int) * (↑x_4.fst : Int)) ∧
 ((0 : Nat) = (0 : Nat) ∧
 (0 : Nat) = (0 : Nat) ∧
 (0 : Nat) = (0 : Nat) ∧
 ((0 : Nat) = (0 : Nat) ∧ List.length x_2.snd.fst = List.length x_2.snd.fst) ∧
 (↑x.fst : Int) = (↑x.fst : Int) ∧ x_2.fst = x_2.fst ∧ (0 : Nat) = (0 : Nat) ∧ (0 : Int) = (↑x_4.fst : Int) ∧ True) ∧
 (Is (byts x_3.fst) (byts b) ∧ y.snd = x_4.snd.snd.snd ∧ True) ∧
 (Is (syms s) (syms s) ∧ True) ∧
 (Is (AV.lit (0 : Nat) (1 : Nat) fun (x x_5 : Nat) => AV.any) nilA ∧ True) ∧
 IsO (xrR x_2.snd.fst) (xrR x_2.snd.fst) ∧
 ((List.getD s x.fst Pl.dY).fst = (List.getD s x.fst Pl.dY).fst ∧
 ((0 : Nat) = (0 : Nat) ∧ (0 : Nat) = (0 : Nat) ∧ x_4.snd.fst.length = (0 : Nat)) ∧
 y.fst.fst = x_4.snd.snd.fst.fst ∧ y.fst.snd = x_4.snd.snd.fst.snd ∧ True) ∧
 x_4.snd.fst.length = (0 : Nat) ∧ True) ∧
 ∀ (x_4 : Nat × List Pl.Rt × Pl.Rt × Int),
 x_4.fst ≤ (List.getD s x.fst Pl.dY).snd.fst.length ∧
 x_4.snd.fst.length = x_4.fst ∧
 p ≤ x_4.snd.snd.snd ∧
 x_4.snd.snd.snd ≤ p + (100 : Int) * (↑x.fst : Int) + (3 : Int) + (30 : Int) * ((3 : Int) - x_2.fst) + (2 : Int) * (↑x_4.fst : Int) →
 ((0 : Int) ≤ (↑x.fst : Int) ∧ (↑x.fst : Int) < (↑(List.length s) : Int)) ∧
 x.fst < List.length s ∧
 condP (Decidable.decide ((↑x_4.fst : Int) < (↑(List.getD s x.fst Pl.dY).snd.fst.length : Int)))
 ((((0 : Int) ≤ (↑x.fst : Int) ∧ (↑x.fst : Int) < (↑(List.length s) : Int)) ∧
 x.fst < List.length s ∧
 ((0 : Int) ≤ (↑x_4.fst : Int) ∧ (↑x_4.fst : Int) < (↑(List.getD s x.fst Pl.dY).snd.fst.length : Int)) ∧
 x_4.fst < (List.getD s x.fst Pl.dY).snd.fst.length ∧
 Exists fun (x_5 : List Int × Int × Int) =>
 Rd (549755813888 : Int) x_5.fst x_5.snd.fst ∧
 (((0 : Nat) = (0 : Nat) ∧ (List.getD s x.fst Pl.dY).snd.fst.getD x_4.fst (0 : Int) = x_5.snd.snd ∧ True) ∧
 (Is (byts b) (byts x_5.fst) ∧ x_4.snd.snd.snd = x_5.snd.fst ∧ True) ∧ True) ∧
 ∀ (y : Pl.Rt × Int),
 x_5.snd.fst ≤ y.snd ∧ y.snd ≤ x_5.snd.fst + (2 : Int) →
 (0 : Nat) + x_4.snd.fst.length ≤ x_4.snd.fst.length ∧
 (x_4.snd.fst.length + (1 : Nat)) * (16 : Nat) ≤ (70368744177664 : Nat) ∧
 Exists fun (x' : Nat × List Pl.Rt × Pl.Rt × Int) =>
 (x'.fst ≤ (List.getD s x.fst Pl.dY).snd.fst.length ∧
 x'.snd.fst.length = x'.fst ∧
 p ≤ x'.snd.snd.snd ∧
 x'.snd.snd.snd ≤
 p + (100 : Int) * (↑x.fst : Int) + (3 : Int) + (30 : Int) * ((3 : Int) - x_2.fst) +
 (2 : Int) * (↑x'.fst : Int)) ∧
 (List.getD s x.fst Pl.dY).snd.fst.length - x'.fst < (List.getD s x.fst Pl.dY).snd.fst.length - x_4.fst ∧
 ((0 : Nat) = (0 : Nat) ∧
 (0 : Nat) = (0 : Nat) ∧
 (0 : Nat) = (0 : Nat) ∧
 ((0 : Nat) = (0 : Nat) ∧ List.length x_2.snd.fst = List.length x_2.snd.fst) ∧
 (↑x.fst : Int) = (↑x.fst : Int) ∧
 x_2.fst = x_2.fst ∧
 (0 : Nat) = (0 : Nat) ∧
 IntKind.i64.wrap ((↑x_4.fst : Int) + (1 : Int)) = (↑x'.fst : Int) ∧ True) ∧
 (Is (byts x_5.fst) (byts b) ∧ y.snd = x'.snd.snd.snd ∧ True) ∧
 (Is (syms s) (syms s) ∧ True) ∧
 (Is (AV.lit (0 : Nat) (1 : Nat) fun (x x_6 : Nat) => AV.any) nilA ∧ True) ∧
 IsO (xrR x_2.snd.fst) (xrR x_2.snd.fst) ∧
 ((List.getD s x.fst Pl.dY).fst = (List.getD s x.fst Pl.dY).fst ∧
 ((0 : Nat) = (0 : Nat) ∧ x_4.snd.fst.length + (1 : Nat) = x'.snd.fst.length) ∧
 x_4.snd.snd.fst.fst = x'.snd.snd.fst.fst ∧
 x_4.snd.snd.fst.snd = x'.snd.snd.fst.snd ∧ True) ∧
 IsO
 (AObj.arr (x_4.snd.fst.length + (1 : Nat)) (2 : Nat)
 (joinC x_4.snd.fst.length (cQ x_4.snd.fst)
 (rowsCell [[i64 y.fst.fst, i64 y.fst.snd]])))
 (arQ x'.snd.fst) ∧
 True) ∧
 ((0 : Int) ≤ (↑x.fst : Int) ∧ (↑x.fst : Int) < (↑(List.length s) : Int)) ∧
 x.fst < List.length s ∧
 ((0 : Int) ≤ (↑x_4.fst : Int) ∧ (↑x_4.fst : Int) < (↑(List.getD s x.fst Pl.dY).snd.fst.length : Int)) ∧
 x_4.fst < (List.getD s x.fst Pl.dY).snd.fst.length ∧
 (Exists fun (x_5 : List Int × Int × Int) =>
 Rd (549755813888 : Int) x_5.fst x_5.snd.fst ∧
 (((0 : Nat) = (0 : Nat) ∧ (List.getD s x.fst Pl.dY).snd.fst.getD x_4.fst (0 : Int) = x_5.snd.snd ∧ True) ∧
 (Is (byts b) (byts x_5.fst) ∧ x_4.snd.snd.snd = x_5.snd.fst ∧ True) ∧ True) ∧
 ∀ (y : Pl.Rt × Int),
 x_5.snd.fst ≤ y.snd ∧ y.snd ≤ x_5.snd.fst + (2 : Int) →
 (0 : Nat) + x_4.snd.fst.length ≤ x_4.snd.fst.length ∧
 (x_4.snd.fst.length + (1 : Nat)) * (16 : Nat) ≤ (70368744177664 : Nat) ∧
 Exists fun (x' : Nat × List Pl.Rt × Pl.Rt × Int) =>
 (x'.fst ≤ (List.getD s x.fst Pl.dY).snd.fst.length ∧
 x'.snd.fst.length = x'.fst ∧
 p ≤ x'.snd.snd.snd ∧
 x'.snd.snd.snd ≤
 p + (100 : Int) * (↑x.fst : Int) + (3 : Int) + (30 : Int) * ((3 : Int) - x_2.fst) +
 (2 : Int) * (↑x'.fst : Int)) ∧
 (List.getD s x.fst Pl.dY).snd.fst.length - x'.fst < (List.getD s x.fst Pl.dY).snd.fst.length - x_4.fst ∧
 ((0 : Nat) = (0 : Nat) ∧
 (0 : Nat) = (0 : Nat) ∧
 (0 : Nat) = (0 : Nat) ∧
 ((0 : Nat) = (0 : Nat) ∧ List.length x_2.snd.fst = List.length x_2.snd.fst) ∧
 (↑x.fst : Int) = (↑x.fst : Int) ∧
 x_2.fst = x_2.fst ∧
 (0 : Nat) = (0 : Nat) ∧
 IntKind.i64.wrap ((↑x_4.fst : Int) + (1 : Int)) = (↑x'.fst : Int) ∧ True) ∧
 (Is (byts x_5.fst) (byts b) ∧ y.snd = x'.snd.snd.snd ∧ True) ∧
 (Is (syms s) (syms s) ∧ True) ∧
 (Is (AV.lit (0 : Nat) (1 : Nat) fun (x x_6 : Nat) => AV.any) nilA ∧ True) ∧
 IsO (xrR x_2.snd.fst) (xrR x_2.snd.fst) ∧
 ((List.getD s x.fst Pl.dY).fst = (List.getD s x.fst Pl.dY).fst ∧
 ((0 : Nat) = (0 : Nat) ∧ x_4.snd.fst.length + (1 : Nat) = x'.snd.fst.length) ∧
 x_4.snd.snd.fst.fst = x'.snd.snd.fst.fst ∧
 x_4.snd.snd.fst.snd = x'.snd.snd.fst.snd ∧ True) ∧
 IsO
 (AObj.arr (x_4.snd.fst.length + (1 : Nat)) (2 : Nat)
 (joinC x_4.snd.fst.length (cQ x_4.snd.fst)
 (rowsCell [[i64 y.fst.fst, i64 y.fst.snd]])))
 (arQ x'.snd.fst) ∧
 True) ∧
 Exists fun (x_5 : List Int × Int × Int) =>
 Rd (549755813888 : Int) x_5.fst x_5.snd.fst ∧
 (((0 : Nat) = (0 : Nat) ∧ (List.getD s x.fst Pl.dY).snd.fst.getD x_4.fst (0 : Int) = x_5.snd.snd ∧ True) ∧
 (Is (byts b) (byts x_5.fst) ∧ x_4.snd.snd.snd = x_5.snd.fst ∧ True) ∧ True) ∧
 ∀ (y : Pl.Rt × Int),
 x_5.snd.fst ≤ y.snd ∧ y.snd ≤ x_5.snd.fst + (2 : Int) →
 (0 : Nat) + x_4.snd.fst.length ≤ x_4.snd.fst.length ∧
 (x_4.snd.fst.length + (1 : Nat)) * (16 : Nat) ≤ (70368744177664 : Nat) ∧
 Exists fun (x' : Nat × List Pl.Rt × Pl.Rt × Int) =>
 (x'.fst ≤ (List.getD s x.fst Pl.dY).snd.fst.length ∧
 x'.snd.fst.length = x'.fst ∧
 p ≤ x'.snd.snd.snd ∧
 x'.snd.snd.snd ≤
 p + (100 : Int) * (↑x.fst : Int) + (3 : Int) + (30 : Int) * ((3 : Int) - x_2.fst) +
 (2 : Int) * (↑x'.fst : Int)) ∧
 (List.getD s x.fst Pl.dY).snd.fst.length - x'.fst < (List.getD s x.fst Pl.dY).snd.fst.length - x_4.fst ∧
 ((0 : Nat) = (0 : Nat) ∧
 (0 : Nat) = (0 : Nat) ∧
 (0 : Nat) = (0 : Nat) ∧
 ((0 : Nat) = (0 : Nat) ∧ List.length x_2.snd.fst = List.length x_2.snd.fst) ∧
 (↑x.fst : Int) = (↑x.fst : Int) ∧
 x_2.fst = x_2.fst ∧
 (0 : Nat) = (0 : Nat) ∧
 IntKind.i64.wrap ((↑x_4.fst : Int) + (1 : Int)) = (↑x'.fst : Int) ∧ True) ∧
 (Is (byts x_5.fst) (byts b) ∧ y.snd = x'.snd.snd.snd ∧ True) ∧
 (Is (syms s) (syms s) ∧ True) ∧
 (Is (AV.lit (0 : Nat) (1 : Nat) fun (x x_6 : Nat) => AV.any) nilA ∧ True) ∧
 IsO (xrR x_2.snd.fst) (xrR x_2.snd.fst) ∧
 ((List.getD s x.fst Pl.dY).fst = (List.getD s x.fst Pl.dY).fst ∧
 ((0 : Nat) = (0 : Nat) ∧ x_4.snd.fst.length + (1 : Nat) = x'.snd.fst.length) ∧
 x_4.snd.snd.fst.fst = x'.snd.snd.fst.fst ∧
 x_4.snd.snd.fst.snd = x'.snd.snd.fst.snd ∧ True) ∧
 IsO
 (AObj.arr (x_4.snd.fst.length + (1 : Nat)) (2 : Nat)
 (joinC x_4.snd.fst.length (cQ x_4.snd.fst)
 (rowsCell [[i64 y.fst.fst, i64 y.fst.snd]])))
 (arQ x'.snd.fst) ∧
 True)
 (Exists fun (x_5 : List Pl.Rw × Pl.Rw) =>
 (x_5.fst.length ≤ (1000 : Nat) ∧
 (∀ (y : Pl.Rw), y ∈ x_5.fst → y.snd.fst.length ≤ (1000 : Nat)) ∧ x_5.snd.snd.fst.length ≤ (1000 : Nat)) ∧
 ((((0 : Nat) = (0 : Nat) ∧ List.length x_2.snd.fst = x_5.fst.length) ∧
 ((List.getD s x.fst Pl.dY).fst = x_5.snd.fst ∧
 ((0 : Nat) = (0 : Nat) ∧ x_4.snd.fst.length = x_5.snd.snd.fst.length) ∧
 x_4.snd.snd.fst.fst = x_5.snd.snd.snd.fst ∧ x_4.snd.snd.fst.snd = x_5.snd.snd.snd.snd ∧ True) ∧
 True) ∧
 IsO (xrR x_2.snd.fst) (xrR x_5.fst) ∧ IsO (arQ x_4.snd.fst) (arQ x_5.snd.snd.fst) ∧ True) ∧
 ∀ (y : List Nat),
 HPut x_5.fst.length y →
 Exists fun (x' : Int × Pl.Mdl × Int) =>
 ((0 : Int) ≤ x'.fst ∧
 x'.fst ≤ (3 : Int) ∧
 Pl.MdB ((3 : Nat) * x.fst + (3 : Nat) - x'.fst.toNat) (2 : Nat) x'.snd.fst ∧
 p ≤ x'.snd.snd ∧ x'.snd.snd ≤ p + (100 : Int) * (↑x.fst : Int) + (1 : Int) + (30 : Int) * ((3 : Int) - x'.fst)) ∧
 x'.fst.toNat < x_2.fst.toNat ∧
 ((0 : Nat) = (0 : Nat) ∧
 (0 : Nat) = (0 : Nat) ∧
 (0 : Nat) = (0 : Nat) ∧
 ((0 : Nat) = (0 : Nat) ∧ y.length = List.length x'.snd.fst) ∧
 (↑x.fst : Int) = (↑x.fst : Int) ∧ IntKind.i64.wrap (x_2.fst - (1 : Int)) = x'.fst ∧ True) ∧
 (Is (byts b) (byts b) ∧ x_4.snd.snd.snd = x'.snd.snd ∧ True) ∧
 (Is (syms s) (syms s) ∧ True) ∧
 (Is (AV.lit (0 : Nat) (1 : Nat) fun (x x_6 : Nat) => AV.any) nilA ∧ True) ∧
 IsO (xrR (List.map (fun (i : Nat) => (x_5.fst ++ [x_5.snd]).getD i Pl.dR) y)) (xrR x'.snd.fst) ∧
 True)) ∧
 (Exists fun (x_3 : List Int × Int × Int) =>
 Rd (549755813888 : Int) x_3.fst x_3.snd.fst ∧
 (((0 : Nat) = (0 : Nat) ∧ (List.getD s x.fst Pl.dY).snd.snd = x_3.snd.snd ∧ True) ∧
 (Is (byts b) (byts x_3.fst) ∧ x_2.snd.snd = x_3.snd.fst ∧ True) ∧ True) ∧
 ∀ (y : Pl.Rt × Int),
 x_3.snd.fst ≤ y.snd ∧ y.snd ≤ x_3.snd.fst + (2 : Int) →
 ((0 : Int) ≤ (↑x.fst : Int) ∧ (↑x.fst : Int) < (↑(List.length s) : Int)) ∧
 x.fst < List.length s ∧
 (Exists fun (x_4 : Nat × List Pl.Rt × Pl.Rt × Int) =>
 (x_4.fst ≤ (List.getD s x.fst Pl.dY).snd.fst.length ∧
 x_4.snd.fst.length = x_4.fst ∧
 p ≤ x_4.snd.snd.snd ∧
 x_4.snd.snd.snd ≤ p + (100 : Int) * (↑x.fst : Int) + (3 : Int) + (30 : Int) * ((3 : Int) - x_2.fst) + (2 : Int) * (↑x_4.fst : Int)) ∧
 ((0 : Nat) = (0 : Nat) ∧
 (0 : Nat) = (0 : Nat) ∧
 (0 : Nat) = (0 : Nat) ∧
 ((0 : Nat) = (0 : Nat) ∧ List.length x_2.snd.fst = List.length x_2.snd.fst) ∧
 (↑x.fst : Int) = (↑x.fst : Int) ∧ x_2.fst = x_2.fst ∧ (0 : Nat) = (0 : Nat) ∧ (0 : Int) = (↑x_4.fst : Int) ∧ True) ∧
 (Is (byts x_3.fst) (byts b) ∧ y.snd = x_4.snd.snd.snd ∧ True) ∧
 (Is (syms s) (syms s) ∧ True) ∧
 (Is (AV.lit (0 : Nat) (1 : Nat) fun (x x_5 : Nat) => AV.any) nilA ∧ True) ∧
 IsO (xrR x_2.snd.fst) (xrR x_2.snd.fst) ∧
 ((List.getD s x.fst Pl.dY).fst = (List.getD s x.fst Pl.dY).fst ∧
 ((0 : Nat) = (0 : Nat) ∧ (0 : Nat) = (0 : Nat) ∧ x_4.snd.fst.length = (0 : Nat)) ∧
 y.fst.fst = x_4.snd.snd.fst.fst ∧ y.fst.snd = x_4.snd.snd.fst.snd ∧ True) ∧
 x_4.snd.fst.length = (0 : Nat) ∧ True) ∧
 ∀ (x_4 : Nat × List Pl.Rt × Pl.Rt × Int),
 x_4.fst ≤ (List.getD s x.fst Pl.dY).snd.fst.length ∧
 x_4.snd.fst.length = x_4.fst ∧
 p ≤ x_4.snd.snd.snd ∧
 x_4.snd.snd.snd ≤ p + (100 : Int) * (↑x.fst : Int) + (3 : Int) + (30 : Int) * ((3 : Int) - x_2.fst) + (2 : Int) * (↑x_4.fst : Int) →
 ((0 : Int) ≤ (↑x.fst : Int) ∧ (↑x.fst : Int) < (↑(List.length s) : Int)) ∧
 x.fst < List.length s ∧
 condP (Decidable.decide ((↑x_4.fst : Int) < (↑(List.getD s x.fst Pl.dY).snd.fst.length : Int)))
 ((((0 : Int) ≤ (↑x.fst : Int) ∧ (↑x.fst : Int) < (↑(List.length s) : Int)) ∧
 x.fst < List.length s ∧
 ((0 : Int) ≤ (↑x_4.fst : Int) ∧ (↑x_4.fst : Int) < (↑(List.getD s x.fst Pl.dY).snd.fst.length : Int)) ∧
 x_4.fst < (List.getD s x.fst Pl.dY).snd.fst.length ∧
 Exists fun (x_5 : List Int × Int × Int) =>
 Rd (549755813888 : Int) x_5.fst x_5.snd.fst ∧
 (((0 : Nat) = (0 : Nat) ∧ (List.getD s x.fst Pl.dY).snd.fst.getD x_4.fst (0 : Int) = x_5.snd.snd ∧ True) ∧
 (Is (byts b) (byts x_5.fst) ∧ x_4.snd.snd.snd = x_5.snd.fst ∧ True) ∧ True) ∧
 ∀ (y : Pl.Rt × Int),
 x_5.snd.fst ≤ y.snd ∧ y.snd ≤ x_5.snd.fst + (2 : Int) →
 (0 : Nat) + x_4.snd.fst.length ≤ x_4.snd.fst.length ∧
 (x_4.snd.fst.length + (1 : Nat)) * (16 : Nat) ≤ (70368744177664 : Nat) ∧
 Exists fun (x' : Nat × List Pl.Rt × Pl.Rt × Int) =>
 (x'.fst ≤ (List.getD s x.fst Pl.dY).snd.fst.length ∧
 x'.snd.fst.length = x'.fst ∧
 p ≤ x'.snd.snd.snd ∧
 x'.snd.snd.snd ≤
 p + (100 : Int) * (↑x.fst : Int) + (3 : Int) + (30 : Int) * ((3 : Int) - x_2.fst) +
 (2 : Int) * (↑x'.fst : Int)) ∧
 (List.getD s x.fst Pl.dY).snd.fst.length - x'.fst < (List.getD s x.fst Pl.dY).snd.fst.length - x_4.fst ∧
 ((0 : Nat) = (0 : Nat) ∧
 (0 : Nat) = (0 : Nat) ∧
 (0 : Nat) = (0 : Nat) ∧
 ((0 : Nat) = (0 : Nat) ∧ List.length x_2.snd.fst = List.length x_2.snd.fst) ∧
 (↑x.fst : Int) = (↑x.fst : Int) ∧
 x_2.fst = x_2.fst ∧
 (0 : Nat) = (0 : Nat) ∧
 IntKind.i64.wrap ((↑x_4.fst : Int) + (1 : Int)) = (↑x'.fst : Int) ∧ True) ∧
 (Is (byts x_5.fst) (byts b) ∧ y.snd = x'.snd.snd.snd ∧ True) ∧
 (Is (syms s) (syms s) ∧ True) ∧
 (Is (AV.lit (0 : Nat) (1 : Nat) fun (x x_6 : Nat) => AV.any) nilA ∧ True) ∧
 IsO (xrR x_2.snd.fst) (xrR x_2.snd.fst) ∧
 ((List.getD s x.fst Pl.dY).fst = (List.getD s x.fst Pl.dY).fst ∧
 ((0 : Nat) = (0 : Nat) ∧ x_4.snd.fst.length + (1 : Nat) = x'.snd.fst.length) ∧
 x_4.snd.snd.fst.fst = x'.snd.snd.fst.fst ∧
 x_4.snd.snd.fst.snd = x'.snd.snd.fst.snd ∧ True) ∧
 IsO
 (AObj.arr (x_4.snd.fst.length + (1 : Nat)) (2 : Nat)
 (joinC x_4.snd.fst.length (cQ x_4.snd.fst)
 (rowsCell [[i64 y.fst.fst, i64 y.fst.snd]])))
 (arQ x'.snd.fst) ∧
 True) ∧
 ((0 : Int) ≤ (↑x.fst : Int) ∧ (↑x.fst : Int) < (↑(List.length s) : Int)) ∧
 x.fst < List.length s ∧
 ((0 : Int) ≤ (↑x_4.fst : Int) ∧ (↑x_4.fst : Int) < (↑(List.getD s x.fst Pl.dY).snd.fst.length : Int)) ∧
 x_4.fst < (List.getD s x.fst Pl.dY).snd.fst.length ∧
 (Exists fun (x_5 : List Int × Int × Int) =>
 Rd (549755813888 : Int) x_5.fst x_5.snd.fst ∧
 (((0 : Nat) = (0 : Nat) ∧ (List.getD s x.fst Pl.dY).snd.fst.getD x_4.fst (0 : Int) = x_5.snd.snd ∧ True) ∧
 (Is (byts b) (byts x_5.fst) ∧ x_4.snd.snd.snd = x_5.snd.fst ∧ True) ∧ True) ∧
 ∀ (y : Pl.Rt × Int),
 x_5.snd.fst ≤ y.snd ∧ y.snd ≤ x_5.snd.fst + (2 : Int) →
 (0 : Nat) + x_4.snd.fst.length ≤ x_4.snd.fst.length ∧
 (x_4.snd.fst.length + (1 : Nat)) * (16 : Nat) ≤ (70368744177664 : Nat) ∧
 Exists fun (x' : Nat × List Pl.Rt × Pl.Rt × Int) =>
 (x'.fst ≤ (List.getD s x.fst Pl.dY).snd.fst.length ∧
 x'.snd.fst.length = x'.fst ∧
 p ≤ x'.snd.snd.snd ∧
 x'.snd.snd.snd ≤
 p + (100 : Int) * (↑x.fst : Int) + (3 : Int) + (30 : Int) * ((3 : Int) - x_2.fst) +
 (2 : Int) * (↑x'.fst : Int)) ∧
 (List.getD s x.fst Pl.dY).snd.fst.length - x'.fst < (List.getD s x.fst Pl.dY).snd.fst.length - x_4.fst ∧
 ((0 : Nat) = (0 : Nat) ∧
 (0 : Nat) = (0 : Nat) ∧
 (0 : Nat) = (0 : Nat) ∧
 ((0 : Nat) = (0 : Nat) ∧ List.length x_2.snd.fst = List.length x_2.snd.fst) ∧
 (↑x.fst : Int) = (↑x.fst : Int) ∧
 x_2.fst = x_2.fst ∧
 (0 : Nat) = (0 : Nat) ∧
 IntKind.i64.wrap ((↑x_4.fst : Int) + (1 : Int)) = (↑x'.fst : Int) ∧ True) ∧
 (Is (byts x_5.fst) (byts b) ∧ y.snd = x'.snd.snd.snd ∧ True) ∧
 (Is (syms s) (syms s) ∧ True) ∧
 (Is (AV.lit (0 : Nat) (1 : Nat) fun (x x_6 : Nat) => AV.any) nilA ∧ True) ∧
 IsO (xrR x_2.snd.fst) (xrR x_2.snd.fst) ∧
 ((List.getD s x.fst Pl.dY).fst = (List.getD s x.fst Pl.dY).fst ∧
 ((0 : Nat) = (0 : Nat) ∧ x_4.snd.fst.length + (1 : Nat) = x'.snd.fst.length) ∧
 x_4.snd.snd.fst.fst = x'.snd.snd.fst.fst ∧
 x_4.snd.snd.fst.snd = x'.snd.snd.fst.snd ∧ True) ∧
 IsO
 (AObj.arr (x_4.snd.fst.length + (1 : Nat)) (2 : Nat)
 (joinC x_4.snd.fst.length (cQ x_4.snd.fst)
 (rowsCell [[i64 y.fst.fst, i64 y.fst.snd]])))
 (arQ x'.snd.fst) ∧
 True) ∧
 Exists fun (x_5 : List Int × Int × Int) =>
 Rd (549755813888 : Int) x_5.fst x_5.snd.fst ∧
 (((0 : Nat) = (0 : Nat) ∧ (List.getD s x.fst Pl.dY).snd.fst.getD x_4.fst (0 : Int) = x_5.snd.snd ∧ True) ∧
 (Is (byts b) (byts x_5.fst) ∧ x_4.snd.snd.snd = x_5.snd.fst ∧ True) ∧ True) ∧
 ∀ (y : Pl.Rt × Int),
 x_5.snd.fst ≤ y.snd ∧ y.snd ≤ x_5.snd.fst + (2 : Int) →
 (0 : Nat) + x_4.snd.fst.length ≤ x_4.snd.fst.length ∧
 (x_4.snd.fst.length + (1 : Nat)) * (16 : Nat) ≤ (70368744177664 : Nat) ∧
 Exists fun (x' : Nat × List Pl.Rt × Pl.Rt × Int) =>
 (x'.fst ≤ (List.getD s x.fst Pl.dY).snd.fst.length ∧
 x'.snd.fst.length = x'.fst ∧
 p ≤ x'.snd.snd.snd ∧
 x'.snd.snd.snd ≤
 p + (100 : Int) * (↑x.fst : Int) + (3 : Int) + (30 : Int) * ((3 : Int) - x_2.fst) +
 (2 : Int) * (↑x'.fst : Int)) ∧
 (List.getD s x.fst Pl.dY).snd.fst.length - x'.fst < (List.getD s x.fst Pl.dY).snd.fst.length - x_4.fst ∧
 ((0 : Nat) = (0 : Nat) ∧
 (0 : Nat) = (0 : Nat) ∧
 (0 : Nat) = (0 : Nat) ∧
 ((0 : Nat) = (0 : Nat) ∧ List.length x_2.snd.fst = List.length x_2.snd.fst) ∧
 (↑x.fst : Int) = (↑x.fst : Int) ∧
 x_2.fst = x_2.fst ∧
 (0 : Nat) = (0 : Nat) ∧
 IntKind.i64.wrap ((↑x_4.fst : Int) + (1 : Int)) = (↑x'.fst : Int) ∧ True) ∧
 (Is (byts x_5.fst) (byts b) ∧ y.snd = x'.snd.snd.snd ∧ True) ∧
 (Is (syms s) (syms s) ∧ True) ∧
 (Is (AV.lit (0 : Nat) (1 : Nat) fun (x x_6 : Nat) => AV.any) nilA ∧ True) ∧
 IsO (xrR x_2.snd.fst) (xrR x_2.snd.fst) ∧
 ((List.getD s x.fst Pl.dY).fst = (List.getD s x.fst Pl.dY).fst ∧
 ((0 : Nat) = (0 : Nat) ∧ x_4.snd.fst.length + (1 : Nat) = x'.snd.fst.length) ∧
 x_4.snd.snd.fst.fst = x'.snd.snd.fst.fst ∧
 x_4.snd.snd.fst.snd = x'.snd.snd.fst.snd ∧ True) ∧
 IsO
 (AObj.arr (x_4.snd.fst.length + (1 : Nat)) (2 : Nat)
 (joinC x_4.snd.fst.length (cQ x_4.snd.fst)
 (rowsCell [[i64 y.fst.fst, i64 y.fst.snd]])))
 (arQ x'.snd.fst) ∧
 True)
 (Exists fun (x_5 : List Pl.Rw × Pl.Rw) =>
 (x_5.fst.length ≤ (1000 : Nat) ∧
 (∀ (y : Pl.Rw), y ∈ x_5.fst → y.snd.fst.length ≤ (1000 : Nat)) ∧ x_5.snd.snd.fst.length ≤ (1000 : Nat)) ∧
 ((((0 : Nat) = (0 : Nat) ∧ List.length x_2.snd.fst = x_5.fst.length) ∧
 ((List.getD s x.fst Pl.dY).fst = x_5.snd.fst ∧
 ((0 : Nat) = (0 : Nat) ∧ x_4.snd.fst.length = x_5.snd.snd.fst.length) ∧
 x_4.snd.snd.fst.fst = x_5.snd.snd.snd.fst ∧ x_4.snd.snd.fst.snd = x_5.snd.snd.snd.snd ∧ True) ∧
 True) ∧
 IsO (xrR x_2.snd.fst) (xrR x_5.fst) ∧ IsO (arQ x_4.snd.fst) (arQ x_5.snd.snd.fst) ∧ True) ∧
 ∀ (y : List Nat),
 HPut x_5.fst.length y →
 Exists fun (x' : Int × Pl.Mdl × Int) =>
 ((0 : Int) ≤ x'.fst ∧
 x'.fst ≤ (3 : Int) ∧
 Pl.MdB ((3 : Nat) * x.fst + (3 : Nat) - x'.fst.toNat) (2 : Nat) x'.snd.fst ∧
 p ≤ x'.snd.snd ∧ x'.snd.snd ≤ p + (100 : Int) * (↑x.fst : Int) + (1 : Int) + (30 : Int) * ((3 : Int) - x'.fst)) ∧
 x'.fst.toNat < x_2.fst.toNat ∧
 ((0 : Nat) = (0 : Nat) ∧
 (0 : Nat) = (0 : Nat) ∧
 (0 : Nat) = (0 : Nat) ∧
 ((0 : Nat) = (0 : Nat) ∧ y.length = List.length x'.snd.fst) ∧
 (↑x.fst : Int) = (↑x.fst : Int) ∧ IntKind.i64.wrap (x_2.fst - (1 : Int)) = x'.fst ∧ True) ∧
 (Is (byts b) (byts b) ∧ x_4.snd.snd.snd = x'.snd.snd ∧ True) ∧
 (Is (syms s) (syms s) ∧ True) ∧
 (Is (AV.lit (0 : Nat) (1 : Nat) fun (x x_6 : Nat) => AV.any) nilA ∧ True) ∧
 IsO (xrR (List.map (fun (i : Nat) => (x_5.fst ++ [x_5.snd]).getD i Pl.dR) y)) (xrR x'.snd.fst) ∧
 True)) ∧
 (((0 : Int) ≤ (↑x.fst : Int) ∧ (↑x.fst : Int) < (↑(List.length s) : Int)) ∧
 x.fst < List.length s ∧
 Exists fun (x_3 : List Int × Int × Int) =>
 Rd (549755813888 : Int) x_3.fst x_3.snd.fst ∧
 (((0 : Nat) = (0 : Nat) ∧ (List.getD s x.fst Pl.dY).snd.snd = x_3.snd.snd ∧ True) ∧
 (Is (byts b) (byts x_3.fst) ∧ x_2.snd.snd = x_3.snd.fst ∧ True) ∧ True) ∧
 ∀ (y : Pl.Rt × Int),
 x_3.snd.fst ≤ y.snd ∧ y.snd ≤ x_3.snd.fst + (2 : Int) →
 (Exists fun (x_4 : Nat × List Pl.Rt × Pl.Rt × Int) =>
 (x_4.fst ≤ (List.getD s x.fst Pl.dY).snd.fst.length ∧
 x_4.snd.fst.length = x_4.fst ∧
 p ≤ x_4.snd.snd.snd ∧
 x_4.snd.snd.snd ≤ p + (100 : Int) * (↑x.fst : Int) + (3 : Int) + (30 : Int) * ((3 : Int) - x_2.fst) + (2 : Int) * (↑x_4.fst : Int)) ∧
 ((0 : Nat) = (0 : Nat) ∧
 (0 : Nat) = (0 : Nat) ∧
 (0 : Nat) = (0 : Nat) ∧
 ((0 : Nat) = (0 : Nat) ∧ List.length x_2.snd.fst = List.length x_2.snd.fst) ∧
 (↑x.fst : Int) = (↑x.fst : Int) ∧ x_2.fst = x_2.fst ∧ (0 : Nat) = (0 : Nat) ∧ (0 : Int) = (↑x_4.fst : Int) ∧ True) ∧
 (Is (byts x_3.fst) (byts b) ∧ y.snd = x_4.snd.snd.snd ∧ True) ∧
 (Is (syms s) (syms s) ∧ True) ∧
 (Is (AV.lit (0 : Nat) (1 : Nat) fun (x x_5 : Nat) => AV.any) nilA ∧ True) ∧
 IsO (xrR x_2.snd.fst) (xrR x_2.snd.fst) ∧
 ((List.getD s x.fst Pl.dY).fst = (List.getD s x.fst Pl.dY).fst ∧
 ((0 : Nat) = (0 : Nat) ∧ (0 : Nat) = (0 : Nat) ∧ x_4.snd.fst.length = (0 : Nat)) ∧
 y.fst.fst = x_4.snd.snd.fst.fst ∧ y.fst.snd = x_4.snd.snd.fst.snd ∧ True) ∧
 x_4.snd.fst.length = (0 : Nat) ∧ True) ∧
 ∀ (x_4 : Nat × List Pl.Rt × Pl.Rt × Int),
 x_4.fst ≤ (List.getD s x.fst Pl.dY).snd.fst.length ∧
 x_4.snd.fst.length = x_4.fst ∧
 p ≤ x_4.snd.snd.snd ∧
 x_4.snd.snd.snd ≤ p + (100 : Int) * (↑x.fst : Int) + (3 : Int) + (30 : Int) * ((3 : Int) - x_2.fst) + (2 : Int) * (↑x_4.fst : Int) →
 ((0 : Int) ≤ (↑x.fst : Int) ∧ (↑x.fst : Int) < (↑(List.length s) : Int)) ∧
 x.fst < List.length s ∧
 condP (Decidable.decide ((↑x_4.fst : Int) < (↑(List.getD s x.fst Pl.dY).snd.fst.length : Int)))
 ((((0 : Int) ≤ (↑x.fst : Int) ∧ (↑x.fst : Int) < (↑(List.length s) : Int)) ∧
 x.fst < List.length s ∧
 ((0 : Int) ≤ (↑x_4.fst : Int) ∧ (↑x_4.fst : Int) < (↑(List.getD s x.fst Pl.dY).snd.fst.length : Int)) ∧
 x_4.fst < (List.getD s x.fst Pl.dY).snd.fst.length ∧
 Exists fun (x_5 : List Int × Int × Int) =>
 Rd (549755813888 : Int) x_5.fst x_5.snd.fst ∧
 (((0 : Nat) = (0 : Nat) ∧ (List.getD s x.fst Pl.dY).snd.fst.getD x_4.fst (0 : Int) = x_5.snd.snd ∧ True) ∧
 (Is (byts b) (byts x_5.fst) ∧ x_4.snd.snd.snd = x_5.snd.fst ∧ True) ∧ True) ∧
 ∀ (y : Pl.Rt × Int),
 x_5.snd.fst ≤ y.snd ∧ y.snd ≤ x_5.snd.fst + (2 : Int) →
 (0 : Nat) + x_4.snd.fst.length ≤ x_4.snd.fst.length ∧
 (x_4.snd.fst.length + (1 : Nat)) * (16 : Nat) ≤ (70368744177664 : Nat) ∧
 Exists fun (x' : Nat × List Pl.Rt × Pl.Rt × Int) =>
 (x'.fst ≤ (List.getD s x.fst Pl.dY).snd.fst.length ∧
 x'.snd.fst.length = x'.fst ∧
 p ≤ x'.snd.snd.snd ∧
 x'.snd.snd.snd ≤
 p + (100 : Int) * (↑x.fst : Int) + (3 : Int) + (30 : Int) * ((3 : Int) - x_2.fst) +
 (2 : Int) * (↑x'.fst : Int)) ∧
 (List.getD s x.fst Pl.dY).snd.fst.length - x'.fst < (List.getD s x.fst Pl.dY).snd.fst.length - x_4.fst ∧
 ((0 : Nat) = (0 : Nat) ∧
 (0 : Nat) = (0 : Nat) ∧
 (0 : Nat) = (0 : Nat) ∧
 ((0 : Nat) = (0 : Nat) ∧ List.length x_2.snd.fst = List.length x_2.snd.fst) ∧
 (↑x.fst : Int) = (↑x.fst : Int) ∧
 x_2.fst = x_2.fst ∧
 (0 : Nat) = (0 : Nat) ∧
 IntKind.i64.wrap ((↑x_4.fst : Int) + (1 : Int)) = (↑x'.fst : Int) ∧ True) ∧
 (Is (byts x_5.fst) (byts b) ∧ y.snd = x'.snd.snd.snd ∧ True) ∧
 (Is (syms s) (syms s) ∧ True) ∧
 (Is (AV.lit (0 : Nat) (1 : Nat) fun (x x_6 : Nat) => AV.any) nilA ∧ True) ∧
 IsO (xrR x_2.snd.fst) (xrR x_2.snd.fst) ∧
 ((List.getD s x.fst Pl.dY).fst = (List.getD s x.fst Pl.dY).fst ∧
 ((0 : Nat) = (0 : Nat) ∧ x_4.snd.fst.length + (1 : Nat) = x'.snd.fst.length) ∧
 x_4.snd.snd.fst.fst = x'.snd.snd.fst.fst ∧
 x_4.snd.snd.fst.snd = x'.snd.snd.fst.snd ∧ True) ∧
 IsO
 (AObj.arr (x_4.snd.fst.length + (1 : Nat)) (2 : Nat)
 (joinC x_4.snd.fst.length (cQ x_4.snd.fst)
 (rowsCell [[i64 y.fst.fst, i64 y.fst.snd]])))
 (arQ x'.snd.fst) ∧
 True) ∧
 ((0 : Int) ≤ (↑x.fst : Int) ∧ (↑x.fst : Int) < (↑(List.length s) : Int)) ∧
 x.fst < List.length s ∧
 ((0 : Int) ≤ (↑x_4.fst : Int) ∧ (↑x_4.fst : Int) < (↑(List.getD s x.fst Pl.dY).snd.fst.length : Int)) ∧
 x_4.fst < (List.getD s x.fst Pl.dY).snd.fst.length ∧
 (Exists fun (x_5 : List Int × Int × Int) =>
 Rd (549755813888 : Int) x_5.fst x_5.snd.fst ∧
 (((0 : Nat) = (0 : Nat) ∧ (List.getD s x.fst Pl.dY).snd.fst.getD x_4.fst (0 : Int) = x_5.snd.snd ∧ True) ∧
 (Is (byts b) (byts x_5.fst) ∧ x_4.snd.snd.snd = x_5.snd.fst ∧ True) ∧ True) ∧
 ∀ (y : Pl.Rt × Int),
 x_5.snd.fst ≤ y.snd ∧ y.snd ≤ x_5.snd.fst + (2 : Int) →
 (0 : Nat) + x_4.snd.fst.length ≤ x_4.snd.fst.length ∧
 (x_4.snd.fst.length + (1 : Nat)) * (16 : Nat) ≤ (70368744177664 : Nat) ∧
 Exists fun (x' : Nat × List Pl.Rt × Pl.Rt × Int) =>
 (x'.fst ≤ (List.getD s x.fst Pl.dY).snd.fst.length ∧
 x'.snd.fst.length = x'.fst ∧
 p ≤ x'.snd.snd.snd ∧
 x'.snd.snd.snd ≤
 p + (100 : Int) * (↑x.fst : Int) + (3 : Int) + (30 : Int) * ((3 : Int) - x_2.fst) +
 (2 : Int) * (↑x'.fst : Int)) ∧
 (List.getD s x.fst Pl.dY).snd.fst.length - x'.fst < (List.getD s x.fst Pl.dY).snd.fst.length - x_4.fst ∧
 ((0 : Nat) = (0 : Nat) ∧
 (0 : Nat) = (0 : Nat) ∧
 (0 : Nat) = (0 : Nat) ∧
 ((0 : Nat) = (0 : Nat) ∧ List.length x_2.snd.fst = List.length x_2.snd.fst) ∧
 (↑x.fst : Int) = (↑x.fst : Int) ∧
 x_2.fst = x_2.fst ∧
 (0 : Nat) = (0 : Nat) ∧
 IntKind.i64.wrap ((↑x_4.fst : Int) + (1 : Int)) = (↑x'.fst : Int) ∧ True) ∧
 (Is (byts x_5.fst) (byts b) ∧ y.snd = x'.snd.snd.snd ∧ True) ∧
 (Is (syms s) (syms s) ∧ True) ∧
 (Is (AV.lit (0 : Nat) (1 : Nat) fun (x x_6 : Nat) => AV.any) nilA ∧ True) ∧
 IsO (xrR x_2.snd.fst) (xrR x_2.snd.fst) ∧
 ((List.getD s x.fst Pl.dY).fst = (List.getD s x.fst Pl.dY).fst ∧
 ((0 : Nat) = (0 : Nat) ∧ x_4.snd.fst.length + (1 : Nat) = x'.snd.fst.length) ∧
 x_4.snd.snd.fst.fst = x'.snd.snd.fst.fst ∧
 x_4.snd.snd.fst.snd = x'.snd.snd.fst.snd ∧ True) ∧
 IsO
 (AObj.arr (x_4.snd.fst.length + (1 : Nat)) (2 : Nat)
 (joinC x_4.snd.fst.length (cQ x_4.snd.fst)
 (rowsCell [[i64 y.fst.fst, i64 y.fst.snd]])))
 (arQ x'.snd.fst) ∧
 True) ∧
 Exists fun (x_5 : List Int × Int × Int) =>
 Rd (549755813888 : Int) x_5.fst x_5.snd.fst ∧
 (((0 : Nat) = (0 : Nat) ∧ (List.getD s x.fst Pl.dY).snd.fst.getD x_4.fst (0 : Int) = x_5.snd.snd ∧ True) ∧
 (Is (byts b) (byts x_5.fst) ∧ x_4.snd.snd.snd = x_5.snd.fst ∧ True) ∧ True) ∧
 ∀ (y : Pl.Rt × Int),
 x_5.snd.fst ≤ y.snd ∧ y.snd ≤ x_5.snd.fst + (2 : Int) →
 (0 : Nat) + x_4.snd.fst.length ≤ x_4.snd.fst.length ∧
 (x_4.snd.fst.length + (1 : Nat)) * (16 : Nat) ≤ (70368744177664 : Nat) ∧
 Exists fun (x' : Nat × List Pl.Rt × Pl.Rt × Int) =>
 (x'.fst ≤ (List.getD s x.fst Pl.dY).snd.fst.length ∧
 x'.snd.fst.length = x'.fst ∧
 p ≤ x'.snd.snd.snd ∧
 x'.snd.snd.snd ≤
 p + (100 : Int) * (↑x.fst : Int) + (3 : Int) + (30 : Int) * ((3 : Int) - x_2.fst) +
 (2 : Int) * (↑x'.fst : Int)) ∧
 (List.getD s x.fst Pl.dY).snd.fst.length - x'.fst < (List.getD s x.fst Pl.dY).snd.fst.length - x_4.fst ∧
 ((0 : Nat) = (0 : Nat) ∧
 (0 : Nat) = (0 : Nat) ∧
 (0 : Nat) = (0 : Nat) ∧
 ((0 : Nat) = (0 : Nat) ∧ List.length x_2.snd.fst = List.length x_2.snd.fst) ∧
 (↑x.fst : Int) = (↑x.fst : Int) ∧
 x_2.fst = x_2.fst ∧
 (0 : Nat) = (0 : Nat) ∧
 IntKind.i64.wrap ((↑x_4.fst : Int) + (1 : Int)) = (↑x'.fst : Int) ∧ True) ∧
 (Is (byts x_5.fst) (byts b) ∧ y.snd = x'.snd.snd.snd ∧ True) ∧
 (Is (syms s) (syms s) ∧ True) ∧
 (Is (AV.lit (0 : Nat) (1 : Nat) fun (x x_6 : Nat) => AV.any) nilA ∧ True) ∧
 IsO (xrR x_2.snd.fst) (xrR x_2.snd.fst) ∧
 ((List.getD s x.fst Pl.dY).fst = (List.getD s x.fst Pl.dY).fst ∧
 ((0 : Nat) = (0 : Nat) ∧ x_4.snd.fst.length + (1 : Nat) = x'.snd.fst.length) ∧
 x_4.snd.snd.fst.fst = x'.snd.snd.fst.fst ∧
 x_4.snd.snd.fst.snd = x'.snd.snd.fst.snd ∧ True) ∧
 IsO
 (AObj.arr (x_4.snd.fst.length + (1 : Nat)) (2 : Nat)
 (joinC x_4.snd.fst.length (cQ x_4.snd.fst)
 (rowsCell [[i64 y.fst.fst, i64 y.fst.snd]])))
 (arQ x'.snd.fst) ∧
 True)
 (Exists fun (x_5 : List Pl.Rw × Pl.Rw) =>
 (x_5.fst.length ≤ (1000 : Nat) ∧
 (∀ (y : Pl.Rw), y ∈ x_5.fst → y.snd.fst.length ≤ (1000 : Nat)) ∧ x_5.snd.snd.fst.length ≤ (1000 : Nat)) ∧
 ((((0 : Nat) = (0 : Nat) ∧ List.length x_2.snd.fst = x_5.fst.length) ∧
 ((List.getD s x.fst Pl.dY).fst = x_5.snd.fst ∧
 ((0 : Nat) = (0 : Nat) ∧ x_4.snd.fst.length = x_5.snd.snd.fst.length) ∧
 x_4.snd.snd.fst.fst = x_5.snd.snd.snd.fst ∧ x_4.snd.snd.fst.snd = x_5.snd.snd.snd.snd ∧ True) ∧
 True) ∧
 IsO (xrR x_2.snd.fst) (xrR x_5.fst) ∧ IsO (arQ x_4.snd.fst) (arQ x_5.snd.snd.fst) ∧ True) ∧
 ∀ (y : List Nat),
 HPut x_5.fst.length y →
 Exists fun (x' : Int × Pl.Mdl × Int) =>
 ((0 : Int) ≤ x'.fst ∧
 x'.fst ≤ (3 : Int) ∧
 Pl.MdB ((3 : Nat) * x.fst + (3 : Nat) - x'.fst.toNat) (2 : Nat) x'.snd.fst ∧
 p ≤ x'.snd.snd ∧ x'.snd.snd ≤ p + (100 : Int) * (↑x.fst : Int) + (1 : Int) + (30 : Int) * ((3 : Int) - x'.fst)) ∧
 x'.fst.toNat < x_2.fst.toNat ∧
 ((0 : Nat) = (0 : Nat) ∧
 (0 : Nat) = (0 : Nat) ∧
 (0 : Nat) = (0 : Nat) ∧
 ((0 : Nat) = (0 : Nat) ∧ y.length = List.length x'.snd.fst) ∧
 (↑x.fst : Int) = (↑x.fst : Int) ∧ IntKind.i64.wrap (x_2.fst - (1 : Int)) = x'.fst ∧ True) ∧
 (Is (byts b) (byts b) ∧ x_4.snd.snd.snd = x'.snd.snd ∧ True) ∧
 (Is (syms s) (syms s) ∧ True) ∧
 (Is (AV.lit (0 : Nat) (1 : Nat) fun (x x_6 : Nat) => AV.any) nilA ∧ True) ∧
 IsO (xrR (List.map (fun (i : Nat) => (x_5.fst ++ [x_5.snd]).getD i Pl.dR) y)) (xrR x'.snd.fst) ∧
 True)) ∧
 Exists fun (x_3 : List Int × Int × Int) =>
 Rd (549755813888 : Int) x_3.fst x_3.snd.fst ∧
 (((0 : Nat) = (0 : Nat) ∧ (List.getD s x.fst Pl.dY).snd.snd = x_3.snd.snd ∧ True) ∧
 (Is (byts b) (byts x_3.fst) ∧ x_2.snd.snd = x_3.snd.fst ∧ True) ∧ True) ∧
 ∀ (y : Pl.Rt × Int),
 x_3.snd.fst ≤ y.snd ∧ y.snd ≤ x_3.snd.fst + (2 : Int) →
 ((0 : Int) ≤ (↑x.fst : Int) ∧ (↑x.fst : Int) < (↑(List.length s) : Int)) ∧
 x.fst < List.length s ∧
 (Exists fun (x_4 : Nat × List Pl.Rt × Pl.Rt × Int) =>
 (x_4.fst ≤ (List.getD s x.fst Pl.dY).snd.fst.length ∧
 x_4.snd.fst.length = x_4.fst ∧
 p ≤ x_4.snd.snd.snd ∧
 x_4.snd.snd.snd ≤ p + (100 : Int) * (↑x.fst : Int) + (3 : Int) + (30 : Int) * ((3 : Int) - x_2.fst) + (2 : Int) * (↑x_4.fst : Int)) ∧
 ((0 : Nat) = (0 : Nat) ∧
 (0 : Nat) = (0 : Nat) ∧
 (0 : Nat) = (0 : Nat) ∧
 ((0 : Nat) = (0 : Nat) ∧ List.length x_2.snd.fst = List.length x_2.snd.fst) ∧
 (↑x.fst : Int) = (↑x.fst : Int) ∧ x_2.fst = x_2.fst ∧ (0 : Nat) = (0 : Nat) ∧ (0 : Int) = (↑x_4.fst : Int) ∧ True) ∧
 (Is (byts x_3.fst) (byts b) ∧ y.snd = x_4.snd.snd.snd ∧ True) ∧
 (Is (syms s) (syms s) ∧ True) ∧
 (Is (AV.lit (0 : Nat) (1 : Nat) fun (x x_5 : Nat) => AV.any) nilA ∧ True) ∧
 IsO (xrR x_2.snd.fst) (xrR x_2.snd.fst) ∧
 ((List.getD s x.fst Pl.dY).fst = (List.getD s x.fst Pl.dY).fst ∧
 ((0 : Nat) = (0 : Nat) ∧ (0 : Nat) = (0 : Nat) ∧ x_4.snd.fst.length = (0 : Nat)) ∧
 y.fst.fst = x_4.snd.snd.fst.fst ∧ y.fst.snd = x_4.snd.snd.fst.snd ∧ True) ∧
 x_4.snd.fst.length = (0 : Nat) ∧ True) ∧
 ∀ (x_4 : Nat × List Pl.Rt × Pl.Rt × Int),
 x_4.fst ≤ (List.getD s x.fst Pl.dY).snd.fst.length ∧
 x_4.snd.fst.length = x_4.fst ∧
 p ≤ x_4.snd.snd.snd ∧
 x_4.snd.snd.snd ≤ p + (100 : Int) * (↑x.fst : Int) + (3 : Int) + (30 : Int) * ((3 : Int) - x_2.fst) + (2 : Int) * (↑x_4.fst : Int) →
 ((0 : Int) ≤ (↑x.fst : Int) ∧ (↑x.fst : Int) < (↑(List.length s) : Int)) ∧
 x.fst < List.length s ∧
 condP (Decidable.decide ((↑x_4.fst : Int) < (↑(List.getD s x.fst Pl.dY).snd.fst.length : Int)))
 ((((0 : Int) ≤ (↑x.fst : Int) ∧ (↑x.fst : Int) < (↑(List.length s) : Int)) ∧
 x.fst < List.length s ∧
 ((0 : Int) ≤ (↑x_4.fst : Int) ∧ (↑x_4.fst : Int) < (↑(List.getD s x.fst Pl.dY).snd.fst.length : Int)) ∧
 x_4.fst < (List.getD s x.fst Pl.dY).snd.fst.length ∧
 Exists fun (x_5 : List Int × Int × Int) =>
 Rd (549755813888 : Int) x_5.fst x_5.snd.fst ∧
 (((0 : Nat) = (0 : Nat) ∧ (List.getD s x.fst Pl.dY).snd.fst.getD x_4.fst (0 : Int) = x_5.snd.snd ∧ True) ∧
 (Is (byts b) (byts x_5.fst) ∧ x_4.snd.snd.snd = x_5.snd.fst ∧ True) ∧ True) ∧
 ∀ (y : Pl.Rt × Int),
 x_5.snd.fst ≤ y.snd ∧ y.snd ≤ x_5.snd.fst + (2 : Int) →
 (0 : Nat) + x_4.snd.fst.length ≤ x_4.snd.fst.length ∧
 (x_4.snd.fst.length + (1 : Nat)) * (16 : Nat) ≤ (70368744177664 : Nat) ∧
 Exists fun (x' : Nat × List Pl.Rt × Pl.Rt × Int) =>
 (x'.fst ≤ (List.getD s x.fst Pl.dY).snd.fst.length ∧
 x'.snd.fst.length = x'.fst ∧
 p ≤ x'.snd.snd.snd ∧
 x'.snd.snd.snd ≤
 p + (100 : Int) * (↑x.fst : Int) + (3 : Int) + (30 : Int) * ((3 : Int) - x_2.fst) +
 (2 : Int) * (↑x'.fst : Int)) ∧
 (List.getD s x.fst Pl.dY).snd.fst.length - x'.fst < (List.getD s x.fst Pl.dY).snd.fst.length - x_4.fst ∧
 ((0 : Nat) = (0 : Nat) ∧
 (0 : Nat) = (0 : Nat) ∧
 (0 : Nat) = (0 : Nat) ∧
 ((0 : Nat) = (0 : Nat) ∧ List.length x_2.snd.fst = List.length x_2.snd.fst) ∧
 (↑x.fst : Int) = (↑x.fst : Int) ∧
 x_2.fst = x_2.fst ∧
 (0 : Nat) = (0 : Nat) ∧
 IntKind.i64.wrap ((↑x_4.fst : Int) + (1 : Int)) = (↑x'.fst : Int) ∧ True) ∧
 (Is (byts x_5.fst) (byts b) ∧ y.snd = x'.snd.snd.snd ∧ True) ∧
 (Is (syms s) (syms s) ∧ True) ∧
 (Is (AV.lit (0 : Nat) (1 : Nat) fun (x x_6 : Nat) => AV.any) nilA ∧ True) ∧
 IsO (xrR x_2.snd.fst) (xrR x_2.snd.fst) ∧
 ((List.getD s x.fst Pl.dY).fst = (List.getD s x.fst Pl.dY).fst ∧
 ((0 : Nat) = (0 : Nat) ∧ x_4.snd.fst.length + (1 : Nat) = x'.snd.fst.length) ∧
 x_4.snd.snd.fst.fst = x'.snd.snd.fst.fst ∧
 x_4.snd.snd.fst.snd = x'.snd.snd.fst.snd ∧ True) ∧
 IsO
 (AObj.arr (x_4.snd.fst.length + (1 : Nat)) (2 : Nat)
 (joinC x_4.snd.fst.length (cQ x_4.snd.fst)
 (rowsCell [[i64 y.fst.fst, i64 y.fst.snd]])))
 (arQ x'.snd.fst) ∧
 True) ∧
 ((0 : Int) ≤ (↑x.fst : Int) ∧ (↑x.fst : Int) < (↑(List.length s) : Int)) ∧
 x.fst < List.length s ∧
 ((0 : Int) ≤ (↑x_4.fst : Int) ∧ (↑x_4.fst : Int) < (↑(List.getD s x.fst Pl.dY).snd.fst.length : Int)) ∧
 x_4.fst < (List.getD s x.fst Pl.dY).snd.fst.length ∧
 (Exists fun (x_5 : List Int × Int × Int) =>
 Rd (549755813888 : Int) x_5.fst x_5.snd.fst ∧
 (((0 : Nat) = (0 : Nat) ∧ (List.getD s x.fst Pl.dY).snd.fst.getD x_4.fst (0 : Int) = x_5.snd.snd ∧ True) ∧
 (Is (byts b) (byts x_5.fst) ∧ x_4.snd.snd.snd = x_5.snd.fst ∧ True) ∧ True) ∧
 ∀ (y : Pl.Rt × Int),
 x_5.snd.fst ≤ y.snd ∧ y.snd ≤ x_5.snd.fst + (2 : Int) →
 (0 : Nat) + x_4.snd.fst.length ≤ x_4.snd.fst.length ∧
 (x_4.snd.fst.length + (1 : Nat)) * (16 : Nat) ≤ (70368744177664 : Nat) ∧
 Exists fun (x' : Nat × List Pl.Rt × Pl.Rt × Int) =>
 (x'.fst ≤ (List.getD s x.fst Pl.dY).snd.fst.length ∧
 x'.snd.fst.length = x'.fst ∧
 p ≤ x'.snd.snd.snd ∧
 x'.snd.snd.snd ≤
 p + (100 : Int) * (↑x.fst : Int) + (3 : Int) + (30 : Int) * ((3 : Int) - x_2.fst) +
 (2 : Int) * (↑x'.fst : Int)) ∧
 (List.getD s x.fst Pl.dY).snd.fst.length - x'.fst < (List.getD s x.fst Pl.dY).snd.fst.length - x_4.fst ∧
 ((0 : Nat) = (0 : Nat) ∧
 (0 : Nat) = (0 : Nat) ∧
 (0 : Nat) = (0 : Nat) ∧
 ((0 : Nat) = (0 : Nat) ∧ List.length x_2.snd.fst = List.length x_2.snd.fst) ∧
 (↑x.fst : Int) = (↑x.fst : Int) ∧
 x_2.fst = x_2.fst ∧
 (0 : Nat) = (0 : Nat) ∧
 IntKind.i64.wrap ((↑x_4.fst : Int) + (1 : Int)) = (↑x'.fst : Int) ∧ True) ∧
 (Is (byts x_5.fst) (byts b) ∧ y.snd = x'.snd.snd.snd ∧ True) ∧
 (Is (syms s) (syms s) ∧ True) ∧
 (Is (AV.lit (0 : Nat) (1 : Nat) fun (x x_6 : Nat) => AV.any) nilA ∧ True) ∧
 IsO (xrR x_2.snd.fst) (xrR x_2.snd.fst) ∧
 ((List.getD s x.fst Pl.dY).fst = (List.getD s x.fst Pl.dY).fst ∧
 ((0 : Nat) = (0 : Nat) ∧ x_4.snd.fst.length + (1 : Nat) = x'.snd.fst.length) ∧
 x_4.snd.snd.fst.fst = x'.snd.snd.fst.fst ∧
 x_4.snd.snd.fst.snd = x'.snd.snd.fst.snd ∧ True) ∧
 IsO
 (AObj.arr (x_4.snd.fst.length + (1 : Nat)) (2 : Nat)
 (joinC x_4.snd.fst.length (cQ x_4.snd.fst)
 (rowsCell [[i64 y.fst.fst, i64 y.fst.snd]])))
 (arQ x'.snd.fst) ∧
 True) ∧
 Exists fun (x_5 : List Int × Int × Int) =>
 Rd (549755813888 : Int) x_5.fst x_5.snd.fst ∧
 (((0 : Nat) = (0 : Nat) ∧ (List.getD s x.fst Pl.dY).snd.fst.getD x_4.fst (0 : Int) = x_5.snd.snd ∧ True) ∧
 (Is (byts b) (byts x_5.fst) ∧ x_4.snd.snd.snd = x_5.snd.fst ∧ True) ∧ True) ∧
 ∀ (y : Pl.Rt × Int),
 x_5.snd.fst ≤ y.snd ∧ y.snd ≤ x_5.snd.fst + (2 : Int) →
 (0 : Nat) + x_4.snd.fst.length ≤ x_4.snd.fst.length ∧
 (x_4.snd.fst.length + (1 : Nat)) * (16 : Nat) ≤ (70368744177664 : Nat) ∧
 Exists fun (x' : Nat × List Pl.Rt × Pl.Rt × Int) =>
 (x'.fst ≤ (List.getD s x.fst Pl.dY).snd.fst.length ∧
 x'.snd.fst.length = x'.fst ∧
 p ≤ x'.snd.snd.snd ∧
 x'.snd.snd.snd ≤
 p + (100 : Int) * (↑x.fst : Int) + (3 : Int) + (30 : Int) * ((3 : Int) - x_2.fst) +
 (2 : Int) * (↑x'.fst : Int)) ∧
 (List.getD s x.fst Pl.dY).snd.fst.length - x'.fst < (List.getD s x.fst Pl.dY).snd.fst.length - x_4.fst ∧
 ((0 : Nat) = (0 : Nat) ∧
 (0 : Nat) = (0 : Nat) ∧
 (0 : Nat) = (0 : Nat) ∧
 ((0 : Nat) = (0 : Nat) ∧ List.length x_2.snd.fst = List.length x_2.snd.fst) ∧
 (↑x.fst : Int) = (↑x.fst : Int) ∧
 x_2.fst = x_2.fst ∧
 (0 : Nat) = (0 : Nat) ∧
 IntKind.i64.wrap ((↑x_4.fst : Int) + (1 : Int)) = (↑x'.fst : Int) ∧ True) ∧
 (Is (byts x_5.fst) (byts b) ∧ y.snd = x'.snd.snd.snd ∧ True) ∧
 (Is (syms s) (syms s) ∧ True) ∧
 (Is (AV.lit (0 : Nat) (1 : Nat) fun (x x_6 : Nat) => AV.any) nilA ∧ True) ∧
 IsO (xrR x_2.snd.fst) (xrR x_2.snd.fst) ∧
 ((List.getD s x.fst Pl.dY).fst = (List.getD s x.fst Pl.dY).fst ∧
 ((0 : Nat) = (0 : Nat) ∧ x_4.snd.fst.length + (1 : Nat) = x'.snd.fst.length) ∧
 x_4.snd.snd.fst.fst = x'.snd.snd.fst.fst ∧
 x_4.snd.snd.fst.snd = x'.snd.snd.fst.snd ∧ True) ∧
 IsO
 (AObj.arr (x_4.snd.fst.length + (1 : Nat)) (2 : Nat)
 (joinC x_4.snd.fst.length (cQ x_4.snd.fst)
 (rowsCell [[i64 y.fst.fst, i64 y.fst.snd]])))
 (arQ x'.snd.fst) ∧
 True)
 (Exists fun (x_5 : List Pl.Rw × Pl.Rw) =>
 (x_5.fst.length ≤ (1000 : Nat) ∧
 (∀ (y : Pl.Rw), y ∈ x_5.fst → y.snd.fst.length ≤ (1000 : Nat)) ∧ x_5.snd.snd.fst.length ≤ (1000 : Nat)) ∧
 ((((0 : Nat) = (0 : Nat) ∧ List.length x_2.snd.fst = x_5.fst.length) ∧
 ((List.getD s x.fst Pl.dY).fst = x_5.snd.fst ∧
 ((0 : Nat) = (0 : Nat) ∧ x_4.snd.fst.length = x_5.snd.snd.fst.length) ∧
 x_4.snd.snd.fst.fst = x_5.snd.snd.snd.fst ∧ x_4.snd.snd.fst.snd = x_5.snd.snd.snd.snd ∧ True) ∧
 True) ∧
 IsO (xrR x_2.snd.fst) (xrR x_5.fst) ∧ IsO (arQ x_4.snd.fst) (arQ x_5.snd.snd.fst) ∧ True) ∧
 ∀ (y : List Nat),
 HPut x_5.fst.length y →
 Exists fun (x' : Int × Pl.Mdl × Int) =>
 ((0 : Int) ≤ x'.fst ∧
 x'.fst ≤ (3 : Int) ∧
 Pl.MdB ((3 : Nat) * x.fst + (3 : Nat) - x'.fst.toNat) (2 : Nat) x'.snd.fst ∧
 p ≤ x'.snd.snd ∧ x'.snd.snd ≤ p + (100 : Int) * (↑x.fst : Int) + (1 : Int) + (30 : Int) * ((3 : Int) - x'.fst)) ∧
 x'.fst.toNat < x_2.fst.toNat ∧
 ((0 : Nat) = (0 : Nat) ∧
 (0 : Nat) = (0 : Nat) ∧
 (0 : Nat) = (0 : Nat) ∧
 ((0 : Nat) = (0 : Nat) ∧ y.length = List.length x'.snd.fst) ∧
 (↑x.fst : Int) = (↑x.fst : Int) ∧ IntKind.i64.wrap (x_2.fst - (1 : Int)) = x'.fst ∧ True) ∧
 (Is (byts b) (byts b) ∧ x_4.snd.snd.snd = x'.snd.snd ∧ True) ∧
 (Is (syms s) (syms s) ∧ True) ∧
 (Is (AV.lit (0 : Nat) (1 : Nat) fun (x x_6 : Nat) => AV.any) nilA ∧ True) ∧
 IsO (xrR (List.map (fun (i : Nat) => (x_5.fst ++ [x_5.snd]).getD i Pl.dR) y)) (xrR x'.snd.fst) ∧
 True)) ∧
 (((0 : Int) ≤ (↑x.fst : Int) ∧ (↑x.fst : Int) < (↑(List.length s) : Int)) ∧
 x.fst < List.length s ∧
 ((0 : Int) ≤ (↑x.fst : Int) ∧ (↑x.fst : Int) < (↑(List.length s) : Int)) ∧
 x.fst < List.length s ∧
 Exists fun (x_3 : List Int × Int × Int) =>
 Rd (549755813888 : Int) x_3.fst x_3.snd.fst ∧
 (((0 : Nat) = (0 : Nat) ∧ (List.getD s x.fst Pl.dY).snd.snd = x_3.snd.snd ∧ True) ∧
 (Is (byts b) (byts x_3.fst) ∧ x_2.snd.snd = x_3.snd.fst ∧ True) ∧ True) ∧
 ∀ (y : Pl.Rt × Int),
 x_3.snd.fst ≤ y.snd ∧ y.snd ≤ x_3.snd.fst + (2 : Int) →
 (Exists fun (x_4 : Nat × List Pl.Rt × Pl.Rt × Int) =>
 (x_4.fst ≤ (List.getD s x.fst Pl.dY).snd.fst.length ∧
 x_4.snd.fst.length = x_4.fst ∧
 p ≤ x_4.snd.snd.snd ∧
 x_4.snd.snd.snd ≤ p + (100 : Int) * (↑x.fst : Int) + (3 : Int) + (30 : Int) * ((3 : Int) - x_2.fst) + (2 : Int) * (↑x_4.fst : Int)) ∧
 ((0 : Nat) = (0 : Nat) ∧
 (0 : Nat) = (0 : Nat) ∧
 (0 : Nat) = (0 : Nat) ∧
 ((0 : Nat) = (0 : Nat) ∧ List.length x_2.snd.fst = List.length x_2.snd.fst) ∧
 (↑x.fst : Int) = (↑x.fst : Int) ∧ x_2.fst = x_2.fst ∧ (0 : Nat) = (0 : Nat) ∧ (0 : Int) = (↑x_4.fst : Int) ∧ True) ∧
 (Is (byts x_3.fst) (byts b) ∧ y.snd = x_4.snd.snd.snd ∧ True) ∧
 (Is (syms s) (syms s) ∧ True) ∧
 (Is (AV.lit (0 : Nat) (1 : Nat) fun (x x_5 : Nat) => AV.any) nilA ∧ True) ∧
 IsO (xrR x_2.snd.fst) (xrR x_2.snd.fst) ∧
 ((List.getD s x.fst Pl.dY).fst = (List.getD s x.fst Pl.dY).fst ∧
 ((0 : Nat) = (0 : Nat) ∧ (0 : Nat) = (0 : Nat) ∧ x_4.snd.fst.length = (0 : Nat)) ∧
 y.fst.fst = x_4.snd.snd.fst.fst ∧ y.fst.snd = x_4.snd.snd.fst.snd ∧ True) ∧
 x_4.snd.fst.length = (0 : Nat) ∧ True) ∧
 ∀ (x_4 : Nat × List Pl.Rt × Pl.Rt × Int),
 x_4.fst ≤ (List.getD s x.fst Pl.dY).snd.fst.length ∧
 x_4.snd.fst.length = x_4.fst ∧
 p ≤ x_4.snd.snd.snd ∧
 x_4.snd.snd.snd ≤ p + (100 : Int) * (↑x.fst : Int) + (3 : Int) + (30 : Int) * ((3 : Int) - x_2.fst) + (2 : Int) * (↑x_4.fst : Int) →
 ((0 : Int) ≤ (↑x.fst : Int) ∧ (↑x.fst : Int) < (↑(List.length s) : Int)) ∧
 x.fst < List.length s ∧
 condP (Decidable.decide ((↑x_4.fst : Int) < (↑(List.getD s x.fst Pl.dY).snd.fst.length : Int)))
 ((((0 : Int) ≤ (↑x.fst : Int) ∧ (↑x.fst : Int) < (↑(List.length s) : Int)) ∧
 x.fst < List.length s ∧
 ((0 : Int) ≤ (↑x_4.fst : Int) ∧ (↑x_4.fst : Int) < (↑(List.getD s x.fst Pl.dY).snd.fst.length : Int)) ∧
 x_4.fst < (List.getD s x.fst Pl.dY).snd.fst.length ∧
 Exists fun (x_5 : List Int × Int × Int) =>
 Rd (549755813888 : Int) x_5.fst x_5.snd.fst ∧
 (((0 : Nat) = (0 : Nat) ∧ (List.getD s x.fst Pl.dY).snd.fst.getD x_4.fst (0 : Int) = x_5.snd.snd ∧ True) ∧
 (Is (byts b) (byts x_5.fst) ∧ x_4.snd.snd.snd = x_5.snd.fst ∧ True) ∧ True) ∧
 ∀ (y : Pl.Rt × Int),
 x_5.snd.fst ≤ y.snd ∧ y.snd ≤ x_5.snd.fst + (2 : Int) →
 (0 : Nat) + x_4.snd.fst.length ≤ x_4.snd.fst.length ∧
 (x_4.snd.fst.length + (1 : Nat)) * (16 : Nat) ≤ (70368744177664 : Nat) ∧
 Exists fun (x' : Nat × List Pl.Rt × Pl.Rt × Int) =>
 (x'.fst ≤ (List.getD s x.fst Pl.dY).snd.fst.length ∧
 x'.snd.fst.length = x'.fst ∧
 p ≤ x'.snd.snd.snd ∧
 x'.snd.snd.snd ≤
 p + (100 : Int) * (↑x.fst : Int) + (3 : Int) + (30 : Int) * ((3 : Int) - x_2.fst) +
 (2 : Int) * (↑x'.fst : Int)) ∧
 (List.getD s x.fst Pl.dY).snd.fst.length - x'.fst < (List.getD s x.fst Pl.dY).snd.fst.length - x_4.fst ∧
 ((0 : Nat) = (0 : Nat) ∧
 (0 : Nat) = (0 : Nat) ∧
 (0 : Nat) = (0 : Nat) ∧
 ((0 : Nat) = (0 : Nat) ∧ List.length x_2.snd.fst = List.length x_2.snd.fst) ∧
 (↑x.fst : Int) = (↑x.fst : Int) ∧
 x_2.fst = x_2.fst ∧
 (0 : Nat) = (0 : Nat) ∧
 IntKind.i64.wrap ((↑x_4.fst : Int) + (1 : Int)) = (↑x'.fst : Int) ∧ True) ∧
 (Is (byts x_5.fst) (byts b) ∧ y.snd = x'.snd.snd.snd ∧ True) ∧
 (Is (syms s) (syms s) ∧ True) ∧
 (Is (AV.lit (0 : Nat) (1 : Nat) fun (x x_6 : Nat) => AV.any) nilA ∧ True) ∧
 IsO (xrR x_2.snd.fst) (xrR x_2.snd.fst) ∧
 ((List.getD s x.fst Pl.dY).fst = (List.getD s x.fst Pl.dY).fst ∧
 ((0 : Nat) = (0 : Nat) ∧ x_4.snd.fst.length + (1 : Nat) = x'.snd.fst.length) ∧
 x_4.snd.snd.fst.fst = x'.snd.snd.fst.fst ∧
 x_4.snd.snd.fst.snd = x'.snd.snd.fst.snd ∧ True) ∧
 IsO
 (AObj.arr (x_4.snd.fst.length + (1 : Nat)) (2 : Nat)
 (joinC x_4.snd.fst.length (cQ x_4.snd.fst)
 (rowsCell [[i64 y.fst.fst, i64 y.fst.snd]])))
 (arQ x'.snd.fst) ∧
 True) ∧
 ((0 : Int) ≤ (↑x.fst : Int) ∧ (↑x.fst : Int) < (↑(List.length s) : Int)) ∧
 x.fst < List.length s ∧
 ((0 : Int) ≤ (↑x_4.fst : Int) ∧ (↑x_4.fst : Int) < (↑(List.getD s x.fst Pl.dY).snd.fst.length : Int)) ∧
 x_4.fst < (List.getD s x.fst Pl.dY).snd.fst.length ∧
 (Exists fun (x_5 : List Int × Int × Int) =>
 Rd (549755813888 : Int) x_5.fst x_5.snd.fst ∧
 (((0 : Nat) = (0 : Nat) ∧ (List.getD s x.fst Pl.dY).snd.fst.getD x_4.fst (0 : Int) = x_5.snd.snd ∧ True) ∧
 (Is (byts b) (byts x_5.fst) ∧ x_4.snd.snd.snd = x_5.snd.fst ∧ True) ∧ True) ∧
 ∀ (y : Pl.Rt × Int),
 x_5.snd.fst ≤ y.snd ∧ y.snd ≤ x_5.snd.fst + (2 : Int) →
 (0 : Nat) + x_4.snd.fst.length ≤ x_4.snd.fst.length ∧
 (x_4.snd.fst.length + (1 : Nat)) * (16 : Nat) ≤ (70368744177664 : Nat) ∧
 Exists fun (x' : Nat × List Pl.Rt × Pl.Rt × Int) =>
 (x'.fst ≤ (List.getD s x.fst Pl.dY).snd.fst.length ∧
 x'.snd.fst.length = x'.fst ∧
 p ≤ x'.snd.snd.snd ∧
 x'.snd.snd.snd ≤
 p + (100 : Int) * (↑x.fst : Int) + (3 : Int) + (30 : Int) * ((3 : Int) - x_2.fst) +
 (2 : Int) * (↑x'.fst : Int)) ∧
 (List.getD s x.fst Pl.dY).snd.fst.length - x'.fst < (List.getD s x.fst Pl.dY).snd.fst.length - x_4.fst ∧
 ((0 : Nat) = (0 : Nat) ∧
 (0 : Nat) = (0 : Nat) ∧
 (0 : Nat) = (0 : Nat) ∧
 ((0 : Nat) = (0 : Nat) ∧ List.length x_2.snd.fst = List.length x_2.snd.fst) ∧
 (↑x.fst : Int) = (↑x.fst : Int) ∧
 x_2.fst = x_2.fst ∧
 (0 : Nat) = (0 : Nat) ∧
 IntKind.i64.wrap ((↑x_4.fst : Int) + (1 : Int)) = (↑x'.fst : Int) ∧ True) ∧
 (Is (byts x_5.fst) (byts b) ∧ y.snd = x'.snd.snd.snd ∧ True) ∧
 (Is (syms s) (syms s) ∧ True) ∧
 (Is (AV.lit (0 : Nat) (1 : Nat) fun (x x_6 : Nat) => AV.any) nilA ∧ True) ∧
 IsO (xrR x_2.snd.fst) (xrR x_2.snd.fst) ∧
 ((List.getD s x.fst Pl.dY).fst = (List.getD s x.fst Pl.dY).fst ∧
 ((0 : Nat) = (0 : Nat) ∧ x_4.snd.fst.length + (1 : Nat) = x'.snd.fst.length) ∧
 x_4.snd.snd.fst.fst = x'.snd.snd.fst.fst ∧
 x_4.snd.snd.fst.snd = x'.snd.snd.fst.snd ∧ True) ∧
 IsO
 (AObj.arr (x_4.snd.fst.length + (1 : Nat)) (2 : Nat)
 (joinC x_4.snd.fst.length (cQ x_4.snd.fst)
 (rowsCell [[i64 y.fst.fst, i64 y.fst.snd]])))
 (arQ x'.snd.fst) ∧
 True) ∧
 Exists fun (x_5 : List Int × Int × Int) =>
 Rd (549755813888 : Int) x_5.fst x_5.snd.fst ∧
 (((0 : Nat) = (0 : Nat) ∧ (List.getD s x.fst Pl.dY).snd.fst.getD x_4.fst (0 : Int) = x_5.snd.snd ∧ True) ∧
 (Is (byts b) (byts x_5.fst) ∧ x_4.snd.snd.snd = x_5.snd.fst ∧ True) ∧ True) ∧
 ∀ (y : Pl.Rt × Int),
 x_5.snd.fst ≤ y.snd ∧ y.snd ≤ x_5.snd.fst + (2 : Int) →
 (0 : Nat) + x_4.snd.fst.length ≤ x_4.snd.fst.length ∧
 (x_4.snd.fst.length + (1 : Nat)) * (16 : Nat) ≤ (70368744177664 : Nat) ∧
 Exists fun (x' : Nat × List Pl.Rt × Pl.Rt × Int) =>
 (x'.fst ≤ (List.getD s x.fst Pl.dY).snd.fst.length ∧
 x'.snd.fst.length = x'.fst ∧
 p ≤ x'.snd.snd.snd ∧
 x'.snd.snd.snd ≤
 p + (100 : Int) * (↑x.fst : Int) + (3 : Int) + (30 : Int) * ((3 : Int) - x_2.fst) +
 (2 : Int) * (↑x'.fst : Int)) ∧
 (List.getD s x.fst Pl.dY).snd.fst.length - x'.fst < (List.getD s x.fst Pl.dY).snd.fst.length - x_4.fst ∧
 ((0 : Nat) = (0 : Nat) ∧
 (0 : Nat) = (0 : Nat) ∧
 (0 : Nat) = (0 : Nat) ∧
 ((0 : Nat) = (0 : Nat) ∧ List.length x_2.snd.fst = List.length x_2.snd.fst) ∧
 (↑x.fst : Int) = (↑x.fst : Int) ∧
 x_2.fst = x_2.fst ∧
 (0 : Nat) = (0 : Nat) ∧
 IntKind.i64.wrap ((↑x_4.fst : Int) + (1 : Int)) = (↑x'.fst : Int) ∧ True) ∧
 (Is (byts x_5.fst) (byts b) ∧ y.snd = x'.snd.snd.snd ∧ True) ∧
 (Is (syms s) (syms s) ∧ True) ∧
 (Is (AV.lit (0 : Nat) (1 : Nat) fun (x x_6 : Nat) => AV.any) nilA ∧ True) ∧
 IsO (xrR x_2.snd.fst) (xrR x_2.snd.fst) ∧
 ((List.getD s x.fst Pl.dY).fst = (List.getD s x.fst Pl.dY).fst ∧
 ((0 : Nat) = (0 : Nat) ∧ x_4.snd.fst.length + (1 : Nat) = x'.snd.fst.length) ∧
 x_4.snd.snd.fst.fst = x'.snd.snd.fst.fst ∧
 x_4.snd.snd.fst.snd = x'.snd.snd.fst.snd ∧ True) ∧
 IsO
 (AObj.arr (x_4.snd.fst.length + (1 : Nat)) (2 : Nat)
 (joinC x_4.snd.fst.length (cQ x_4.snd.fst)
 (rowsCell [[i64 y.fst.fst, i64 y.fst.snd]])))
 (arQ x'.snd.fst) ∧
 True)
 (Exists fun (x_5 : List Pl.Rw × Pl.Rw) =>
 (x_5.fst.length ≤ (1000 : Nat) ∧
 (∀ (y : Pl.Rw), y ∈ x_5.fst → y.snd.fst.length ≤ (1000 : Nat)) ∧ x_5.snd.snd.fst.length ≤ (1000 : Nat)) ∧
 ((((0 : Nat) = (0 : Nat) ∧ List.length x_2.snd.fst = x_5.fst.length) ∧
 ((List.getD s x.fst Pl.dY).fst = x_5.snd.fst ∧
 ((0 : Nat) = (0 : Nat) ∧ x_4.snd.fst.length = x_5.snd.snd.fst.length) ∧
 x_4.snd.snd.fst.fst = x_5.snd.snd.snd.fst ∧ x_4.snd.snd.fst.snd = x_5.snd.snd.snd.snd ∧ True) ∧
 True) ∧
 IsO (xrR x_2.snd.fst) (xrR x_5.fst) ∧ IsO (arQ x_4.snd.fst) (arQ x_5.snd.snd.fst) ∧ True) ∧
 ∀ (y : List Nat),
 HPut x_5.fst.length y →
 Exists fun (x' : Int × Pl.Mdl × Int) =>
 ((0 : Int) ≤ x'.fst ∧
 x'.fst ≤ (3 : Int) ∧
 Pl.MdB ((3 : Nat) * x.fst + (3 : Nat) - x'.fst.toNat) (2 : Nat) x'.snd.fst ∧
 p ≤ x'.snd.snd ∧ x'.snd.snd ≤ p + (100 : Int) * (↑x.fst : Int) + (1 : Int) + (30 : Int) * ((3 : Int) - x'.fst)) ∧
 x'.fst.toNat < x_2.fst.toNat ∧
 ((0 : Nat) = (0 : Nat) ∧
 (0 : Nat) = (0 : Nat) ∧
 (0 : Nat) = (0 : Nat) ∧
 ((0 : Nat) = (0 : Nat) ∧ y.length = List.length x'.snd.fst) ∧
 (↑x.fst : Int) = (↑x.fst : Int) ∧ IntKind.i64.wrap (x_2.fst - (1 : Int)) = x'.fst ∧ True) ∧
 (Is (byts b) (byts b) ∧ x_4.snd.snd.snd = x'.snd.snd ∧ True) ∧
 (Is (syms s) (syms s) ∧ True) ∧
 (Is (AV.lit (0 : Nat) (1 : Nat) fun (x x_6 : Nat) => AV.any) nilA ∧ True) ∧
 IsO (xrR (List.map (fun (i : Nat) => (x_5.fst ++ [x_5.snd]).getD i Pl.dR) y)) (xrR x'.snd.fst) ∧ True)) ∧
 ((0 : Int) ≤ (↑x.fst : Int) ∧ (↑x.fst : Int) < (↑(List.length s) : Int)) ∧
 x.fst < List.length s ∧
 (((0 : Int) ≤ (↑x.fst : Int) ∧ (↑x.fst : Int) < (↑(List.length s) : Int)) ∧
 x.fst < List.length s ∧
 Exists fun (x_3 : List Int × Int × Int) =>
 Rd (549755813888 : Int) x_3.fst x_3.snd.fst ∧
 (((0 : Nat) = (0 : Nat) ∧ (List.getD s x.fst Pl.dY).snd.snd = x_3.snd.snd ∧ True) ∧
 (Is (byts b) (byts x_3.fst) ∧ x_2.snd.snd = x_3.snd.fst ∧ True) ∧ True) ∧
 ∀ (y : Pl.Rt × Int),
 x_3.snd.fst ≤ y.snd ∧ y.snd ≤ x_3.snd.fst + (2 : Int) →
 (Exists fun (x_4 : Nat × List Pl.Rt × Pl.Rt × Int) =>
 (x_4.fst ≤ (List.getD s x.fst Pl.dY).snd.fst.length ∧
 x_4.snd.fst.length = x_4.fst ∧
 p ≤ x_4.snd.snd.snd ∧
 x_4.snd.snd.snd ≤ p + (100 : Int) * (↑x.fst : Int) + (3 : Int) + (30 : Int) * ((3 : Int) - x_2.fst) + (2 : Int) * (↑x_4.fst : Int)) ∧
 ((0 : Nat) = (0 : Nat) ∧
 (0 : Nat) = (0 : Nat) ∧
 (0 : Nat) = (0 : Nat) ∧
 ((0 : Nat) = (0 : Nat) ∧ List.length x_2.snd.fst = List.length x_2.snd.fst) ∧
 (↑x.fst : Int) = (↑x.fst : Int) ∧ x_2.fst = x_2.fst ∧ (0 : Nat) = (0 : Nat) ∧ (0 : Int) = (↑x_4.fst : Int) ∧ True) ∧
 (Is (byts x_3.fst) (byts b) ∧ y.snd = x_4.snd.snd.snd ∧ True) ∧
 (Is (syms s) (syms s) ∧ True) ∧
 (Is (AV.lit (0 : Nat) (1 : Nat) fun (x x_5 : Nat) => AV.any) nilA ∧ True) ∧
 IsO (xrR x_2.snd.fst) (xrR x_2.snd.fst) ∧
 ((List.getD s x.fst Pl.dY).fst = (List.getD s x.fst Pl.dY).fst ∧
 ((0 : Nat) = (0 : Nat) ∧ (0 : Nat) = (0 : Nat) ∧ x_4.snd.fst.length = (0 : Nat)) ∧
 y.fst.fst = x_4.snd.snd.fst.fst ∧ y.fst.snd = x_4.snd.snd.fst.snd ∧ True) ∧
 x_4.snd.fst.length = (0 : Nat) ∧ True) ∧
 ∀ (x_4 : Nat × List Pl.Rt × Pl.Rt × Int),
 x_4.fst ≤ (List.getD s x.fst Pl.dY).snd.fst.length ∧
 x_4.snd.fst.length = x_4.fst ∧
 p ≤ x_4.snd.snd.snd ∧
 x_4.snd.snd.snd ≤ p + (100 : Int) * (↑x.fst : Int) + (3 : Int) + (30 : Int) * ((3 : Int) - x_2.fst) + (2 : Int) * (↑x_4.fst : Int) →
 ((0 : Int) ≤ (↑x.fst : Int) ∧ (↑x.fst : Int) < (↑(List.length s) : Int)) ∧
 x.fst < List.length s ∧
 condP (Decidable.decide ((↑x_4.fst : Int) < (↑(List.getD s x.fst Pl.dY).snd.fst.length : Int)))
 ((((0 : Int) ≤ (↑x.fst : Int) ∧ (↑x.fst : Int) < (↑(List.length s) : Int)) ∧
 x.fst < List.length s ∧
 ((0 : Int) ≤ (↑x_4.fst : Int) ∧ (↑x_4.fst : Int) < (↑(List.getD s x.fst Pl.dY).snd.fst.length : Int)) ∧
 x_4.fst < (List.getD s x.fst Pl.dY).snd.fst.length ∧
 Exists fun (x_5 : List Int × Int × Int) =>
 Rd (549755813888 : Int) x_5.fst x_5.snd.fst ∧
 (((0 : Nat) = (0 : Nat) ∧ (List.getD s x.fst Pl.dY).snd.fst.getD x_4.fst (0 : Int) = x_5.snd.snd ∧ True) ∧
 (Is (byts b) (byts x_5.fst) ∧ x_4.snd.snd.snd = x_5.snd.fst ∧ True) ∧ True) ∧
 ∀ (y : Pl.Rt × Int),
 x_5.snd.fst ≤ y.snd ∧ y.snd ≤ x_5.snd.fst + (2 : Int) →
 (0 : Nat) + x_4.snd.fst.length ≤ x_4.snd.fst.length ∧
 (x_4.snd.fst.length + (1 : Nat)) * (16 : Nat) ≤ (70368744177664 : Nat) ∧
 Exists fun (x' : Nat × List Pl.Rt × Pl.Rt × Int) =>
 (x'.fst ≤ (List.getD s x.fst Pl.dY).snd.fst.length ∧
 x'.snd.fst.length = x'.fst ∧
 p ≤ x'.snd.snd.snd ∧
 x'.snd.snd.snd ≤
 p + (100 : Int) * (↑x.fst : Int) + (3 : Int) + (30 : Int) * ((3 : Int) - x_2.fst) +
 (2 : Int) * (↑x'.fst : Int)) ∧
 (List.getD s x.fst Pl.dY).snd.fst.length - x'.fst < (List.getD s x.fst Pl.dY).snd.fst.length - x_4.fst ∧
 ((0 : Nat) = (0 : Nat) ∧
 (0 : Nat) = (0 : Nat) ∧
 (0 : Nat) = (0 : Nat) ∧
 ((0 : Nat) = (0 : Nat) ∧ List.length x_2.snd.fst = List.length x_2.snd.fst) ∧
 (↑x.fst : Int) = (↑x.fst : Int) ∧
 x_2.fst = x_2.fst ∧
 (0 : Nat) = (0 : Nat) ∧
 IntKind.i64.wrap ((↑x_4.fst : Int) + (1 : Int)) = (↑x'.fst : Int) ∧ True) ∧
 (Is (byts x_5.fst) (byts b) ∧ y.snd = x'.snd.snd.snd ∧ True) ∧
 (Is (syms s) (syms s) ∧ True) ∧
 (Is (AV.lit (0 : Nat) (1 : Nat) fun (x x_6 : Nat) => AV.any) nilA ∧ True) ∧
 IsO (xrR x_2.snd.fst) (xrR x_2.snd.fst) ∧
 ((List.getD s x.fst Pl.dY).fst = (List.getD s x.fst Pl.dY).fst ∧
 ((0 : Nat) = (0 : Nat) ∧ x_4.snd.fst.length + (1 : Nat) = x'.snd.fst.length) ∧
 x_4.snd.snd.fst.fst = x'.snd.snd.fst.fst ∧
 x_4.snd.snd.fst.snd = x'.snd.snd.fst.snd ∧ True) ∧
 IsO
 (AObj.arr (x_4.snd.fst.length + (1 : Nat)) (2 : Nat)
 (joinC x_4.snd.fst.length (cQ x_4.snd.fst)
 (rowsCell [[i64 y.fst.fst, i64 y.fst.snd]])))
 (arQ x'.snd.fst) ∧
 True) ∧
 ((0 : Int) ≤ (↑x.fst : Int) ∧ (↑x.fst : Int) < (↑(List.length s) : Int)) ∧
 x.fst < List.length s ∧
 ((0 : Int) ≤ (↑x_4.fst : Int) ∧ (↑x_4.fst : Int) < (↑(List.getD s x.fst Pl.dY).snd.fst.length : Int)) ∧
 x_4.fst < (List.getD s x.fst Pl.dY).snd.fst.length ∧
 (Exists fun (x_5 : List Int × Int × Int) =>
 Rd (549755813888 : Int) x_5.fst x_5.snd.fst ∧
 (((0 : Nat) = (0 : Nat) ∧ (List.getD s x.fst Pl.dY).snd.fst.getD x_4.fst (0 : Int) = x_5.snd.snd ∧ True) ∧
 (Is (byts b) (byts x_5.fst) ∧ x_4.snd.snd.snd = x_5.snd.fst ∧ True) ∧ True) ∧
 ∀ (y : Pl.Rt × Int),
 x_5.snd.fst ≤ y.snd ∧ y.snd ≤ x_5.snd.fst + (2 : Int) →
 (0 : Nat) + x_4.snd.fst.length ≤ x_4.snd.fst.length ∧
 (x_4.snd.fst.length + (1 : Nat)) * (16 : Nat) ≤ (70368744177664 : Nat) ∧
 Exists fun (x' : Nat × List Pl.Rt × Pl.Rt × Int) =>
 (x'.fst ≤ (List.getD s x.fst Pl.dY).snd.fst.length ∧
 x'.snd.fst.length = x'.fst ∧
 p ≤ x'.snd.snd.snd ∧
 x'.snd.snd.snd ≤
 p + (100 : Int) * (↑x.fst : Int) + (3 : Int) + (30 : Int) * ((3 : Int) - x_2.fst) +
 (2 : Int) * (↑x'.fst : Int)) ∧
 (List.getD s x.fst Pl.dY).snd.fst.length - x'.fst < (List.getD s x.fst Pl.dY).snd.fst.length - x_4.fst ∧
 ((0 : Nat) = (0 : Nat) ∧
 (0 : Nat) = (0 : Nat) ∧
 (0 : Nat) = (0 : Nat) ∧
 ((0 : Nat) = (0 : Nat) ∧ List.length x_2.snd.fst = List.length x_2.snd.fst) ∧
 (↑x.fst : Int) = (↑x.fst : Int) ∧
 x_2.fst = x_2.fst ∧
 (0 : Nat) = (0 : Nat) ∧
 IntKind.i64.wrap ((↑x_4.fst : Int) + (1 : Int)) = (↑x'.fst : Int) ∧ True) ∧
 (Is (byts x_5.fst) (byts b) ∧ y.snd = x'.snd.snd.snd ∧ True) ∧
 (Is (syms s) (syms s) ∧ True) ∧
 (Is (AV.lit (0 : Nat) (1 : Nat) fun (x x_6 : Nat) => AV.any) nilA ∧ True) ∧
 IsO (xrR x_2.snd.fst) (xrR x_2.snd.fst) ∧
 ((List.getD s x.fst Pl.dY).fst = (List.getD s x.fst Pl.dY).fst ∧
 ((0 : Nat) = (0 : Nat) ∧ x_4.snd.fst.length + (1 : Nat) = x'.snd.fst.length) ∧
 x_4.snd.snd.fst.fst = x'.snd.snd.fst.fst ∧
 x_4.snd.snd.fst.snd = x'.snd.snd.fst.snd ∧ True) ∧
 IsO
 (AObj.arr (x_4.snd.fst.length + (1 : Nat)) (2 : Nat)
 (joinC x_4.snd.fst.length (cQ x_4.snd.fst)
 (rowsCell [[i64 y.fst.fst, i64 y.fst.snd]])))
 (arQ x'.snd.fst) ∧
 True) ∧
 Exists fun (x_5 : List Int × Int × Int) =>
 Rd (549755813888 : Int) x_5.fst x_5.snd.fst ∧
 (((0 : Nat) = (0 : Nat) ∧ (List.getD s x.fst Pl.dY).snd.fst.getD x_4.fst (0 : Int) = x_5.snd.snd ∧ True) ∧
 (Is (byts b) (byts x_5.fst) ∧ x_4.snd.snd.snd = x_5.snd.fst ∧ True) ∧ True) ∧
 ∀ (y : Pl.Rt × Int),
 x_5.snd.fst ≤ y.snd ∧ y.snd ≤ x_5.snd.fst + (2 : Int) →
 (0 : Nat) + x_4.snd.fst.length ≤ x_4.snd.fst.length ∧
 (x_4.snd.fst.length + (1 : Nat)) * (16 : Nat) ≤ (70368744177664 : Nat) ∧
 Exists fun (x' : Nat × List Pl.Rt × Pl.Rt × Int) =>
 (x'.fst ≤ (List.getD s x.fst Pl.dY).snd.fst.length ∧
 x'.snd.fst.length = x'.fst ∧
 p ≤ x'.snd.snd.snd ∧
 x'.snd.snd.snd ≤
 p + (100 : Int) * (↑x.fst : Int) + (3 : Int) + (30 : Int) * ((3 : Int) - x_2.fst) +
 (2 : Int) * (↑x'.fst : Int)) ∧
 (List.getD s x.fst Pl.dY).snd.fst.length - x'.fst < (List.getD s x.fst Pl.dY).snd.fst.length - x_4.fst ∧
 ((0 : Nat) = (0 : Nat) ∧
 (0 : Nat) = (0 : Nat) ∧
 (0 : Nat) = (0 : Nat) ∧
 ((0 : Nat) = (0 : Nat) ∧ List.length x_2.snd.fst = List.length x_2.snd.fst) ∧
 (↑x.fst : Int) = (↑x.fst : Int) ∧
 x_2.fst = x_2.fst ∧
 (0 : Nat) = (0 : Nat) ∧
 IntKind.i64.wrap ((↑x_4.fst : Int) + (1 : Int)) = (↑x'.fst : Int) ∧ True) ∧
 (Is (byts x_5.fst) (byts b) ∧ y.snd = x'.snd.snd.snd ∧ True) ∧
 (Is (syms s) (syms s) ∧ True) ∧
 (Is (AV.lit (0 : Nat) (1 : Nat) fun (x x_6 : Nat) => AV.any) nilA ∧ True) ∧
 IsO (xrR x_2.snd.fst) (xrR x_2.snd.fst) ∧
 ((List.getD s x.fst Pl.dY).fst = (List.getD s x.fst Pl.dY).fst ∧
 ((0 : Nat) = (0 : Nat) ∧ x_4.snd.fst.length + (1 : Nat) = x'.snd.fst.length) ∧
 x_4.snd.snd.fst.fst = x'.snd.snd.fst.fst ∧
 x_4.snd.snd.fst.snd = x'.snd.snd.fst.snd ∧ True) ∧
 IsO
 (AObj.arr (x_4.snd.fst.length + (1 : Nat)) (2 : Nat)
 (joinC x_4.snd.fst.length (cQ x_4.snd.fst)
 (rowsCell [[i64 y.fst.fst, i64 y.fst.snd]])))
 (arQ x'.snd.fst) ∧
 True)
 (Exists fun (x_5 : List Pl.Rw × Pl.Rw) =>
 (x_5.fst.length ≤ (1000 : Nat) ∧
 (∀ (y : Pl.Rw), y ∈ x_5.fst → y.snd.fst.length ≤ (1000 : Nat)) ∧ x_5.snd.snd.fst.length ≤ (1000 : Nat)) ∧
 ((((0 : Nat) = (0 : Nat) ∧ List.length x_2.snd.fst = x_5.fst.length) ∧
 ((List.getD s x.fst Pl.dY).fst = x_5.snd.fst ∧
 ((0 : Nat) = (0 : Nat) ∧ x_4.snd.fst.length = x_5.snd.snd.fst.length) ∧
 x_4.snd.snd.fst.fst = x_5.snd.snd.snd.fst ∧ x_4.snd.snd.fst.snd = x_5.snd.snd.snd.snd ∧ True) ∧
 True) ∧
 IsO (xrR x_2.snd.fst) (xrR x_5.fst) ∧ IsO (arQ x_4.snd.fst) (arQ x_5.snd.snd.fst) ∧ True) ∧
 ∀ (y : List Nat),
 HPut x_5.fst.length y →
 Exists fun (x' : Int × Pl.Mdl × Int) =>
 ((0 : Int) ≤ x'.fst ∧
 x'.fst ≤ (3 : Int) ∧
 Pl.MdB ((3 : Nat) * x.fst + (3 : Nat) - x'.fst.toNat) (2 : Nat) x'.snd.fst ∧
 p ≤ x'.snd.snd ∧ x'.snd.snd ≤ p + (100 : Int) * (↑x.fst : Int) + (1 : Int) + (30 : Int) * ((3 : Int) - x'.fst)) ∧
 x'.fst.toNat < x_2.fst.toNat ∧
 ((0 : Nat) = (0 : Nat) ∧
 (0 : Nat) = (0 : Nat) ∧
 (0 : Nat) = (0 : Nat) ∧
 ((0 : Nat) = (0 : Nat) ∧ y.length = List.length x'.snd.fst) ∧
 (↑x.fst : Int) = (↑x.fst : Int) ∧ IntKind.i64.wrap (x_2.fst - (1 : Int)) = x'.fst ∧ True) ∧
 (Is (byts b) (byts b) ∧ x_4.snd.snd.snd = x'.snd.snd ∧ True) ∧
 (Is (syms s) (syms s) ∧ True) ∧
 (Is (AV.lit (0 : Nat) (1 : Nat) fun (x x_6 : Nat) => AV.any) nilA ∧ True) ∧
 IsO (xrR (List.map (fun (i : Nat) => (x_5.fst ++ [x_5.snd]).getD i Pl.dR) y)) (xrR x'.snd.fst) ∧
 True)) ∧
 Exists fun (x_3 : List Int × Int × Int) =>
 Rd (549755813888 : Int) x_3.fst x_3.snd.fst ∧
 (((0 : Nat) = (0 : Nat) ∧ (List.getD s x.fst Pl.dY).snd.snd = x_3.snd.snd ∧ True) ∧
 (Is (byts b) (byts x_3.fst) ∧ x_2.snd.snd = x_3.snd.fst ∧ True) ∧ True) ∧
 ∀ (y : Pl.Rt × Int),
 x_3.snd.fst ≤ y.snd ∧ y.snd ≤ x_3.snd.fst + (2 : Int) →
 ((0 : Int) ≤ (↑x.fst : Int) ∧ (↑x.fst : Int) < (↑(List.length s) : Int)) ∧
 x.fst < List.length s ∧
 (Exists fun (x_4 : Nat × List Pl.Rt × Pl.Rt × Int) =>
 (x_4.fst ≤ (List.getD s x.fst Pl.dY).snd.fst.length ∧
 x_4.snd.fst.length = x_4.fst ∧
 p ≤ x_4.snd.snd.snd ∧
 x_4.snd.snd.snd ≤ p + (100 : Int) * (↑x.fst : Int) + (3 : Int) + (30 : Int) * ((3 : Int) - x_2.fst) + (2 : Int) * (↑x_4.fst : Int)) ∧
 ((0 : Nat) = (0 : Nat) ∧
 (0 : Nat) = (0 : Nat) ∧
 (0 : Nat) = (0 : Nat) ∧
 ((0 : Nat) = (0 : Nat) ∧ List.length x_2.snd.fst = List.length x_2.snd.fst) ∧
 (↑x.fst : Int) = (↑x.fst : Int) ∧ x_2.fst = x_2.fst ∧ (0 : Nat) = (0 : Nat) ∧ (0 : Int) = (↑x_4.fst : Int) ∧ True) ∧
 (Is (byts x_3.fst) (byts b) ∧ y.snd = x_4.snd.snd.snd ∧ True) ∧
 (Is (syms s) (syms s) ∧ True) ∧
 (Is (AV.lit (0 : Nat) (1 : Nat) fun (x x_5 : Nat) => AV.any) nilA ∧ True) ∧
 IsO (xrR x_2.snd.fst) (xrR x_2.snd.fst) ∧
 ((List.getD s x.fst Pl.dY).fst = (List.getD s x.fst Pl.dY).fst ∧
 ((0 : Nat) = (0 : Nat) ∧ (0 : Nat) = (0 : Nat) ∧ x_4.snd.fst.length = (0 : Nat)) ∧
 y.fst.fst = x_4.snd.snd.fst.fst ∧ y.fst.snd = x_4.snd.snd.fst.snd ∧ True) ∧
 x_4.snd.fst.length = (0 : Nat) ∧ True) ∧
 ∀ (x_4 : Nat × List Pl.Rt × Pl.Rt × Int),
 x_4.fst ≤ (List.getD s x.fst Pl.dY).snd.fst.length ∧
 x_4.snd.fst.length = x_4.fst ∧
 p ≤ x_4.snd.snd.snd ∧
 x_4.snd.snd.snd ≤ p + (100 : Int) * (↑x.fst : Int) + (3 : Int) + (30 : Int) * ((3 : Int) - x_2.fst) + (2 : Int) * (↑x_4.fst : Int) →
 ((0 : Int) ≤ (↑x.fst : Int) ∧ (↑x.fst : Int) < (↑(List.length s) : Int)) ∧
 x.fst < List.length s ∧
 condP (Decidable.decide ((↑x_4.fst : Int) < (↑(List.getD s x.fst Pl.dY).snd.fst.length : Int)))
 ((((0 : Int) ≤ (↑x.fst : Int) ∧ (↑x.fst : Int) < (↑(List.length s) : Int)) ∧
 x.fst < List.length s ∧
 ((0 : Int) ≤ (↑x_4.fst : Int) ∧ (↑x_4.fst : Int) < (↑(List.getD s x.fst Pl.dY).snd.fst.length : Int)) ∧
 x_4.fst < (List.getD s x.fst Pl.dY).snd.fst.length ∧
 Exists fun (x_5 : List Int × Int × Int) =>
 Rd (549755813888 : Int) x_5.fst x_5.snd.fst ∧
 (((0 : Nat) = (0 : Nat) ∧ (List.getD s x.fst Pl.dY).snd.fst.getD x_4.fst (0 : Int) = x_5.snd.snd ∧ True) ∧
 (Is (byts b) (byts x_5.fst) ∧ x_4.snd.snd.snd = x_5.snd.fst ∧ True) ∧ True) ∧
 ∀ (y : Pl.Rt × Int),
 x_5.snd.fst ≤ y.snd ∧ y.snd ≤ x_5.snd.fst + (2 : Int) →
 (0 : Nat) + x_4.snd.fst.length ≤ x_4.snd.fst.length ∧
 (x_4.snd.fst.length + (1 : Nat)) * (16 : Nat) ≤ (70368744177664 : Nat) ∧
 Exists fun (x' : Nat × List Pl.Rt × Pl.Rt × Int) =>
 (x'.fst ≤ (List.getD s x.fst Pl.dY).snd.fst.length ∧
 x'.snd.fst.length = x'.fst ∧
 p ≤ x'.snd.snd.snd ∧
 x'.snd.snd.snd ≤
 p + (100 : Int) * (↑x.fst : Int) + (3 : Int) + (30 : Int) * ((3 : Int) - x_2.fst) +
 (2 : Int) * (↑x'.fst : Int)) ∧
 (List.getD s x.fst Pl.dY).snd.fst.length - x'.fst < (List.getD s x.fst Pl.dY).snd.fst.length - x_4.fst ∧
 ((0 : Nat) = (0 : Nat) ∧
 (0 : Nat) = (0 : Nat) ∧
 (0 : Nat) = (0 : Nat) ∧
 ((0 : Nat) = (0 : Nat) ∧ List.length x_2.snd.fst = List.length x_2.snd.fst) ∧
 (↑x.fst : Int) = (↑x.fst : Int) ∧
 x_2.fst = x_2.fst ∧
 (0 : Nat) = (0 : Nat) ∧
 IntKind.i64.wrap ((↑x_4.fst : Int) + (1 : Int)) = (↑x'.fst : Int) ∧ True) ∧
 (Is (byts x_5.fst) (byts b) ∧ y.snd = x'.snd.snd.snd ∧ True) ∧
 (Is (syms s) (syms s) ∧ True) ∧
 (Is (AV.lit (0 : Nat) (1 : Nat) fun (x x_6 : Nat) => AV.any) nilA ∧ True) ∧
 IsO (xrR x_2.snd.fst) (xrR x_2.snd.fst) ∧
 ((List.getD s x.fst Pl.dY).fst = (List.getD s x.fst Pl.dY).fst ∧
 ((0 : Nat) = (0 : Nat) ∧ x_4.snd.fst.length + (1 : Nat) = x'.snd.fst.length) ∧
 x_4.snd.snd.fst.fst = x'.snd.snd.fst.fst ∧
 x_4.snd.snd.fst.snd = x'.snd.snd.fst.snd ∧ True) ∧
 IsO
 (AObj.arr (x_4.snd.fst.length + (1 : Nat)) (2 : Nat)
 (joinC x_4.snd.fst.length (cQ x_4.snd.fst)
 (rowsCell [[i64 y.fst.fst, i64 y.fst.snd]])))
 (arQ x'.snd.fst) ∧
 True) ∧
 ((0 : Int) ≤ (↑x.fst : Int) ∧ (↑x.fst : Int) < (↑(List.length s) : Int)) ∧
 x.fst < List.length s ∧
 ((0 : Int) ≤ (↑x_4.fst : Int) ∧ (↑x_4.fst : Int) < (↑(List.getD s x.fst Pl.dY).snd.fst.length : Int)) ∧
 x_4.fst < (List.getD s x.fst Pl.dY).snd.fst.length ∧
 (Exists fun (x_5 : List Int × Int × Int) =>
 Rd (549755813888 : Int) x_5.fst x_5.snd.fst ∧
 (((0 : Nat) = (0 : Nat) ∧ (List.getD s x.fst Pl.dY).snd.fst.getD x_4.fst (0 : Int) = x_5.snd.snd ∧ True) ∧
 (Is (byts b) (byts x_5.fst) ∧ x_4.snd.snd.snd = x_5.snd.fst ∧ True) ∧ True) ∧
 ∀ (y : Pl.Rt × Int),
 x_5.snd.fst ≤ y.snd ∧ y.snd ≤ x_5.snd.fst + (2 : Int) →
 (0 : Nat) + x_4.snd.fst.length ≤ x_4.snd.fst.length ∧
 (x_4.snd.fst.length + (1 : Nat)) * (16 : Nat) ≤ (70368744177664 : Nat) ∧
 Exists fun (x' : Nat × List Pl.Rt × Pl.Rt × Int) =>
 (x'.fst ≤ (List.getD s x.fst Pl.dY).snd.fst.length ∧
 x'.snd.fst.length = x'.fst ∧
 p ≤ x'.snd.snd.snd ∧
 x'.snd.snd.snd ≤
 p + (100 : Int) * (↑x.fst : Int) + (3 : Int) + (30 : Int) * ((3 : Int) - x_2.fst) +
 (2 : Int) * (↑x'.fst : Int)) ∧
 (List.getD s x.fst Pl.dY).snd.fst.length - x'.fst < (List.getD s x.fst Pl.dY).snd.fst.length - x_4.fst ∧
 ((0 : Nat) = (0 : Nat) ∧
 (0 : Nat) = (0 : Nat) ∧
 (0 : Nat) = (0 : Nat) ∧
 ((0 : Nat) = (0 : Nat) ∧ List.length x_2.snd.fst = List.length x_2.snd.fst) ∧
 (↑x.fst : Int) = (↑x.fst : Int) ∧
 x_2.fst = x_2.fst ∧
 (0 : Nat) = (0 : Nat) ∧
 IntKind.i64.wrap ((↑x_4.fst : Int) + (1 : Int)) = (↑x'.fst : Int) ∧ True) ∧
 (Is (byts x_5.fst) (byts b) ∧ y.snd = x'.snd.snd.snd ∧ True) ∧
 (Is (syms s) (syms s) ∧ True) ∧
 (Is (AV.lit (0 : Nat) (1 : Nat) fun (x x_6 : Nat) => AV.any) nilA ∧ True) ∧
 IsO (xrR x_2.snd.fst) (xrR x_2.snd.fst) ∧
 ((List.getD s x.fst Pl.dY).fst = (List.getD s x.fst Pl.dY).fst ∧
 ((0 : Nat) = (0 : Nat) ∧ x_4.snd.fst.length + (1 : Nat) = x'.snd.fst.length) ∧
 x_4.snd.snd.fst.fst = x'.snd.snd.fst.fst ∧
 x_4.snd.snd.fst.snd = x'.snd.snd.fst.snd ∧ True) ∧
 IsO
 (AObj.arr (x_4.snd.fst.length + (1 : Nat)) (2 : Nat)
 (joinC x_4.snd.fst.length (cQ x_4.snd.fst)
 (rowsCell [[i64 y.fst.fst, i64 y.fst.snd]])))
 (arQ x'.snd.fst) ∧
 True) ∧
 Exists fun (x_5 : List Int × Int × Int) =>
 Rd (549755813888 : Int) x_5.fst x_5.snd.fst ∧
 (((0 : Nat) = (0 : Nat) ∧ (List.getD s x.fst Pl.dY).snd.fst.getD x_4.fst (0 : Int) = x_5.snd.snd ∧ True) ∧
 (Is (byts b) (byts x_5.fst) ∧ x_4.snd.snd.snd = x_5.snd.fst ∧ True) ∧ True) ∧
 ∀ (y : Pl.Rt × Int),
 x_5.snd.fst ≤ y.snd ∧ y.snd ≤ x_5.snd.fst + (2 : Int) →
 (0 : Nat) + x_4.snd.fst.length ≤ x_4.snd.fst.length ∧
 (x_4.snd.fst.length + (1 : Nat)) * (16 : Nat) ≤ (70368744177664 : Nat) ∧
 Exists fun (x' : Nat × List Pl.Rt × Pl.Rt × Int) =>
 (x'.fst ≤ (List.getD s x.fst Pl.dY).snd.fst.length ∧
 x'.snd.fst.length = x'.fst ∧
 p ≤ x'.snd.snd.snd ∧
 x'.snd.snd.snd ≤
 p + (100 : Int) * (↑x.fst : Int) + (3 : Int) + (30 : Int) * ((3 : Int) - x_2.fst) +
 (2 : Int) * (↑x'.fst : Int)) ∧
 (List.getD s x.fst Pl.dY).snd.fst.length - x'.fst < (List.getD s x.fst Pl.dY).snd.fst.length - x_4.fst ∧
 ((0 : Nat) = (0 : Nat) ∧
 (0 : Nat) = (0 : Nat) ∧
 (0 : Nat) = (0 : Nat) ∧
 ((0 : Nat) = (0 : Nat) ∧ List.length x_2.snd.fst = List.length x_2.snd.fst) ∧
 (↑x.fst : Int) = (↑x.fst : Int) ∧
 x_2.fst = x_2.fst ∧
 (0 : Nat) = (0 : Nat) ∧
 IntKind.i64.wrap ((↑x_4.fst : Int) + (1 : Int)) = (↑x'.fst : Int) ∧ True) ∧
 (Is (byts x_5.fst) (byts b) ∧ y.snd = x'.snd.snd.snd ∧ True) ∧
 (Is (syms s) (syms s) ∧ True) ∧
 (Is (AV.lit (0 : Nat) (1 : Nat) fun (x x_6 : Nat) => AV.any) nilA ∧ True) ∧
 IsO (xrR x_2.snd.fst) (xrR x_2.snd.fst) ∧
 ((List.getD s x.fst Pl.dY).fst = (List.getD s x.fst Pl.dY).fst ∧
 ((0 : Nat) = (0 : Nat) ∧ x_4.snd.fst.length + (1 : Nat) = x'.snd.fst.length) ∧
 x_4.snd.snd.fst.fst = x'.snd.snd.fst.fst ∧
 x_4.snd.snd.fst.snd = x'.snd.snd.fst.snd ∧ True) ∧
 IsO
 (AObj.arr (x_4.snd.fst.length + (1 : Nat)) (2 : Nat)
 (joinC x_4.snd.fst.length (cQ x_4.snd.fst)
 (rowsCell [[i64 y.fst.fst, i64 y.fst.snd]])))
 (arQ x'.snd.fst) ∧
 True)
 (Exists fun (x_5 : List Pl.Rw × Pl.Rw) =>
 (x_5.fst.length ≤ (1000 : Nat) ∧
 (∀ (y : Pl.Rw), y ∈ x_5.fst → y.snd.fst.length ≤ (1000 : Nat)) ∧ x_5.snd.snd.fst.length ≤ (1000 : Nat)) ∧
 ((((0 : Nat) = (0 : Nat) ∧ List.length x_2.snd.fst = x_5.fst.length) ∧
 ((List.getD s x.fst Pl.dY).fst = x_5.snd.fst ∧
 ((0 : Nat) = (0 : Nat) ∧ x_4.snd.fst.length = x_5.snd.snd.fst.length) ∧
 x_4.snd.snd.fst.fst = x_5.snd.snd.snd.fst ∧ x_4.snd.snd.fst.snd = x_5.snd.snd.snd.snd ∧ True) ∧
 True) ∧
 IsO (xrR x_2.snd.fst) (xrR x_5.fst) ∧ IsO (arQ x_4.snd.fst) (arQ x_5.snd.snd.fst) ∧ True) ∧
 ∀ (y : List Nat),
 HPut x_5.fst.length y →
 Exists fun (x' : Int × Pl.Mdl × Int) =>
 ((0 : Int) ≤ x'.fst ∧
 x'.fst ≤ (3 : Int) ∧
 Pl.MdB ((3 : Nat) * x.fst + (3 : Nat) - x'.fst.toNat) (2 : Nat) x'.snd.fst ∧
 p ≤ x'.snd.snd ∧ x'.snd.snd ≤ p + (100 : Int) * (↑x.fst : Int) + (1 : Int) + (30 : Int) * ((3 : Int) - x'.fst)) ∧
 x'.fst.toNat < x_2.fst.toNat ∧
 ((0 : Nat) = (0 : Nat) ∧
 (0 : Nat) = (0 : Nat) ∧
 (0 : Nat) = (0 : Nat) ∧
 ((0 : Nat) = (0 : Nat) ∧ y.length = List.length x'.snd.fst) ∧
 (↑x.fst : Int) = (↑x.fst : Int) ∧ IntKind.i64.wrap (x_2.fst - (1 : Int)) = x'.fst ∧ True) ∧
 (Is (byts b) (byts b) ∧ x_4.snd.snd.snd = x'.snd.snd ∧ True) ∧
 (Is (syms s) (syms s) ∧ True) ∧
 (Is (AV.lit (0 : Nat) (1 : Nat) fun (x x_6 : Nat) => AV.any) nilA ∧ True) ∧
 IsO (xrR (List.map (fun (i : Nat) => (x_5.fst ++ [x_5.snd]).getD i Pl.dR) y)) (xrR x'.snd.fst) ∧ True))
 (Exists fun (x' : Nat × Pl.Mdl × Int) =>
 (x'.fst ≤ List.length s ∧ Pl.MdB ((3 : Nat) * x'.fst) (2 : Nat) x'.snd.fst ∧ p ≤ x'.snd.snd ∧ x'.snd.snd ≤ p + (100 : Int) * (↑x'.fst : Int)) ∧
 List.length s - x'.fst < List.length s - x.fst ∧
 ((0 : Nat) = (0 : Nat) ∧
 (0 : Nat) = (0 : Nat) ∧
 (0 : Nat) = (0 : Nat) ∧
 ((0 : Nat) = (0 : Nat) ∧ List.length x_2.snd.fst = List.length x'.snd.fst) ∧ IntKind.i64.wrap ((↑x.fst : Int) + (1 : Int)) = (↑x'.fst : Int) ∧ True) ∧
 (Is (byts b) (byts b) ∧ x_2.snd.snd = x'.snd.snd ∧ True) ∧
 (Is (syms s) (syms s) ∧ True) ∧
 (Is (AV.lit (0 : Nat) (1 : Nat) fun (x x_3 : Nat) => AV.any) nilA ∧ True) ∧ IsO (xrR x_2.snd.fst) (xrR x'.snd.fst) ∧ True))
 (Exists fun (y : Pl.Mdl × Int) =>
 (Pl.MdB (15 : Nat) (2 : Nat) y.fst ∧ p ≤ y.snd ∧ y.snd ≤ p + (1000 : Int)) ∧
 ((((0 : Nat) = (0 : Nat) ∧ List.length x.snd.fst = List.length y.fst) ∧ True) ∧ True) ∧
 (Is (byts b) (byts b) ∧ x.snd.snd = y.snd ∧ True) ∧ IsO (xrR x.snd.fst) (xrR y.fst) ∧ True)) = Goal Tryz.prog [K_num, K_l7Value, K_l7PutX] (A_l7Any b p s) K_l7Any.1 K_l7Any.2 ((b, p, s)) := by kernel_rfl


theorem vc_l7Some (b : List Int) (p : Int) (s : Pl.Sig) : (Exists fun (x : BX) =>
 (Rd (137438953472 : Int) x.fst x.snd.fst ∧ Pl.SgB (5 : Nat) (2 : Nat) x.snd.snd) ∧
 (((0 : Nat) = (0 : Nat) ∧ (Is (syms s) (syms x.snd.snd) ∧ True) ∧ True) ∧ (Is (byts b) (byts x.fst) ∧ p = x.snd.fst ∧ True) ∧ True) ∧
 ∀ (y : Pl.Mdl × Int),
 Pl.MdB (15 : Nat) (2 : Nat) y.fst ∧ x.snd.fst ≤ y.snd ∧ y.snd ≤ x.snd.fst + (1000 : Int) →
 condP ((↑(List.length y.fst) : Int) == (0 : Int))
 (Exists fun (y_1 : Pl.Mdl × Int) =>
 (Pl.MdB (16 : Nat) (3 : Nat) y_1.fst ∧ p ≤ y_1.snd ∧ y_1.snd ≤ p + (1100 : Int)) ∧
 (0 : Nat) + List.length y.fst ≤ List.length y.fst ∧ ((Is (mrows y.fst) (mrows y_1.fst) ∧ True) ∧ True) ∧ (Is (byts x.fst) (byts b) ∧ y.snd = y_1.snd ∧ True) ∧ True)
 (Exists fun (x_1 : List Int × Int × Int) =>
 Rd (1099511627776 : Int) x_1.fst x_1.snd.fst ∧
 (((0 : Nat) = (0 : Nat) ∧ (10 : Int) = x_1.snd.snd ∧ True) ∧ (Is (byts x.fst) (byts x_1.fst) ∧ y.snd = x_1.snd.fst ∧ True) ∧ True) ∧
 ∀ (y_1 : Int),
 ((1 : Int) ≤ x_1.snd.snd → (0 : Int) ≤ y_1 ∧ y_1 < x_1.snd.snd) ∧ (x_1.snd.snd < (1 : Int) → y_1 = (0 : Int)) →
 condP (Decidable.decide (y_1 > (0 : Int)))
 (Exists fun (y_2 : Pl.Mdl × Int) =>
 (Pl.MdB (16 : Nat) (3 : Nat) y_2.fst ∧ p ≤ y_2.snd ∧ y_2.snd ≤ p + (1100 : Int)) ∧
 (0 : Nat) + List.length y.fst ≤ List.length y.fst ∧
 ((Is (mrows y.fst) (mrows y_2.fst) ∧ True) ∧ True) ∧ (Is (byts x_1.fst) (byts b) ∧ x_1.snd.fst + (1 : Int) = y_2.snd ∧ True) ∧ True)
 (Exists fun (x : List Int × Int × Int) =>
 Rd (1099511627776 : Int) x.fst x.snd.fst ∧
 (((0 : Nat) = (0 : Nat) ∧ (↑(List.length y.fst) : Int) = x.snd.snd ∧ True) ∧
 (Is (byts x_1.fst) (byts x.fst) ∧ x_1.snd.fst + (1 : Int) = x.snd.fst ∧ True) ∧ True) ∧
 ∀ (y_2 : Int),
 ((1 : Int) ≤ x.snd.snd → (0 : Int) ≤ y_2 ∧ y_2 < x.snd.snd) ∧ (x.snd.snd < (1 : Int) → y_2 = (0 : Int)) →
 Exists fun (x_2 : List Int × Int × Int) =>
 Rd (1099511627776 : Int) x_2.fst x_2.snd.fst ∧
 (((0 : Nat) = (0 : Nat) ∧ (5 : Int) = x_2.snd.snd ∧ True) ∧ (Is (byts x.fst) (byts x_2.fst) ∧ x.snd.fst + (1 : Int) = x_2.snd.fst ∧ True) ∧ True) ∧
 ∀ (y_3 : Int),
 ((1 : Int) ≤ x_2.snd.snd → (0 : Int) ≤ y_3 ∧ y_3 < x_2.snd.snd) ∧ (x_2.snd.snd < (1 : Int) → y_3 = (0 : Int)) →
 condP (y_3 == (0 : Int))
 ((Exists fun (x : List Int × Int) =>
 Rd (549755813888 : Int) x.fst x.snd ∧
 (((0 : Nat) = (0 : Nat) ∧ True) ∧ (Is (byts x_2.fst) (byts x.fst) ∧ x_2.snd.fst + (1 : Int) = x.snd ∧ True) ∧ True) ∧
 ∀ (y_4 : Pl.Rt),
 True →
 ((0 : Int) ≤ y_2 ∧ y_2 < (↑(List.length y.fst) : Int)) ∧
 y_2.toNat < List.length y.fst ∧
 Exists fun (y_5 : Pl.Mdl × Int) =>
 (Pl.MdB (16 : Nat) (3 : Nat) y_5.fst ∧ p ≤ y_5.snd ∧ y_5.snd ≤ p + (1100 : Int)) ∧
 (0 : Nat) + List.length y.fst ≤ List.length y.fst ∧
 ((Is
 (AV.sl (List.length y.fst) (4 : Nat) fun (i j : Nat) =>
 storeC (cR y.fst) y_2.toNat ((2 : Nat)) [i64 y_4.fst, i64 y_4.snd] i j)
 (mrows y_5.fst) ∧
 True) ∧
 True) ∧
 (Is (byts x.fst) (byts b) ∧ x.snd + (2 : Int) = y_5.snd ∧ True) ∧ True) ∧
 Exists fun (x : List Int × Int) =>
 Rd (549755813888 : Int) x.fst x.snd ∧
 (((0 : Nat) = (0 : Nat) ∧ True) ∧ (Is (byts x_2.fst) (byts x.fst) ∧ x_2.snd.fst + (1 : Int) = x.snd ∧ True) ∧ True) ∧
 ∀ (y_4 : Pl.Rt),
 True →
 ((0 : Int) ≤ y_2 ∧ y_2 < (↑(List.length y.fst) : Int)) ∧
 y_2.toNat < List.length y.fst ∧
 Exists fun (y_5 : Pl.Mdl × Int) =>
 (Pl.MdB (16 : Nat) (3 : Nat) y_5.fst ∧ p ≤ y_5.snd ∧ y_5.snd ≤ p + (1100 : Int)) ∧
 (0 : Nat) + List.length y.fst ≤ List.length y.fst ∧
 ((Is
 (AV.sl (List.length y.fst) (4 : Nat) fun (i j : Nat) =>
 storeC (cR y.fst) y_2.toNat ((2 : Nat)) [i64 y_4.fst, i64 y_4.snd] i j)
 (mrows y_5.fst) ∧
 True) ∧
 True) ∧
 (Is (byts x.fst) (byts b) ∧ x.snd + (2 : Int) = y_5.snd ∧ True) ∧ True)
 (condP (y_3 == (1 : Int))
 (((0 : Int) ≤ y_2 ∧ y_2 < (↑(List.length y.fst) : Int)) ∧
 y_2.toNat < List.length y.fst ∧
 (List.getD y.fst y_2.toNat Pl.dR).snd.fst.length = (List.getD y.fst y_2.toNat Pl.dR).snd.fst.length ∧
 y_2.toNat < List.length y.fst ∧
 (0 : Nat) + List.length y.fst ≤ List.length y.fst ∧
 (List.length y.fst + (1 : Nat)) * (56 : Nat) ≤ (70368744177664 : Nat) ∧
 Exists fun (y_4 : Pl.Mdl × Int) =>
 (Pl.MdB (16 : Nat) (3 : Nat) y_4.fst ∧ p ≤ y_4.snd ∧ y_4.snd ≤ p + (1100 : Int)) ∧
 (0 : Nat) + (List.length y.fst + (1 : Nat)) ≤ List.length y.fst + (1 : Nat) ∧
 ((Is
 (AV.sl (List.length y.fst + (1 : Nat)) (4 : Nat) fun (i j : Nat) =>
 joinC (List.length y.fst) (cR y.fst)
 (rowsCell
 [[st (List.getD y.fst y_2.toNat Pl.dR).fst, rats (List.getD y.fst y_2.toNat Pl.dR).snd.fst,
 i64 (List.getD y.fst y_2.toNat Pl.dR).snd.snd.fst, i64 (List.getD y.fst y_2.toNat Pl.dR).snd.snd.snd]])
 i j)
 (mrows y_4.fst) ∧
 True) ∧
 True) ∧
 (Is (byts x_2.fst) (byts b) ∧ x_2.snd.fst + (1 : Int) = y_4.snd ∧ True) ∧ True)
 (condP (y_3 == (2 : Int))
 (((0 : Int) ≤ y_2 ∧ y_2 < (↑(List.length y.fst) : Int)) ∧
 y_2.toNat < List.length y.fst ∧
 (List.getD y.fst y_2.toNat Pl.dR).snd.fst.length = (List.getD y.fst y_2.toNat Pl.dR).snd.fst.length ∧
 y_2.toNat < List.length y.fst ∧
 (1 : Nat) < (4 : Nat) ∧
 ((List.getD y.fst y_2.toNat Pl.dR).snd.fst.length + (1 : Nat)) * (16 : Nat) ≤ (70368744177664 : Nat) ∧
 ((0 : Int) ≤ y_2 ∧ y_2 < (↑(List.length y.fst) : Int)) ∧
 y_2.toNat < List.length y.fst ∧
 Exists fun (y_4 : Pl.Mdl × Int) =>
 (Pl.MdB (16 : Nat) (3 : Nat) y_4.fst ∧ p ≤ y_4.snd ∧ y_4.snd ≤ p + (1100 : Int)) ∧
 (0 : Nat) + List.length y.fst ≤ List.length y.fst ∧
 ((Is
 (AV.sl (List.length y.fst) (4 : Nat) fun (i j : Nat) =>
 storeC (cR y.fst) y_2.toNat ((1 : Nat))
 [AV.sl ((List.getD y.fst y_2.toNat Pl.dR).snd.fst.length + (1 : Nat)) (2 : Nat)
 (joinC (List.getD y.fst y_2.toNat Pl.dR).snd.fst.length (cQ (List.getD y.fst y_2.toNat Pl.dR).snd.fst)
 (rowsCell [[i64 (0 : Int), i64 (1 : Int)]]))]
 i j)
 (mrows y_4.fst) ∧
 True) ∧
 True) ∧
 (Is (byts x_2.fst) (byts b) ∧ x_2.snd.fst + (1 : Int) = y_4.snd ∧ True) ∧ True)
 (condP (y_3 == (3 : Int))
 ((Exists fun (x : List Int × Int × List ByteArray) =>
 (Rd (1099511627776 : Int) x.fst x.snd.fst ∧ x.snd.snd ≠ [] ∧ Sz x.snd.snd) ∧
 (((0 : Nat) = (0 : Nat) ∧
 Is
 (AV.lit (3 : Nat) (1 : Nat)
 (rowsCell
 [[st (ByteArray.mk #[])], [st (ByteArray.mk #[(65 : UInt8)])], [st (ByteArray.mk #[(122 : UInt8), (122 : UInt8)])]]))
 (strs x.snd.snd) ∧
 True) ∧
 (Is (byts x_2.fst) (byts x.fst) ∧ x_2.snd.fst + (1 : Int) = x.snd.fst ∧ True) ∧ True) ∧
 ∀ (y_4 : ByteArray),
 y_4 ∈ x.snd.snd →
 ((0 : Int) ≤ y_2 ∧ y_2 < (↑(List.length y.fst) : Int)) ∧
 y_2.toNat < List.length y.fst ∧
 Exists fun (y_5 : Pl.Mdl × Int) =>
 (Pl.MdB (16 : Nat) (3 : Nat) y_5.fst ∧ p ≤ y_5.snd ∧ y_5.snd ≤ p + (1100 : Int)) ∧
 (0 : Nat) + List.length y.fst ≤ List.length y.fst ∧
 ((Is
 (AV.sl (List.length y.fst) (4 : Nat) fun (i j : Nat) =>
 storeC (cR y.fst) y_2.toNat (0 : Nat) [st y_4] i j)
 (mrows y_5.fst) ∧
 True) ∧
 True) ∧
 (Is (byts x.fst) (byts b) ∧ x.snd.fst + (1 : Int) = y_5.snd ∧ True) ∧ True) ∧
 Exists fun (x : List Int × Int × List ByteArray) =>
 (Rd (1099511627776 : Int) x.fst x.snd.fst ∧ x.snd.snd ≠ [] ∧ Sz x.snd.snd) ∧
 (((0 : Nat) = (0 : Nat) ∧
 Is
 (AV.lit (3 : Nat) (1 : Nat)
 (rowsCell
 [[st (ByteArray.mk #[])], [st (ByteArray.mk #[(65 : UInt8)])], [st (ByteArray.mk #[(122 : UInt8), (122 : UInt8)])]]))
 (strs x.snd.snd) ∧
 True) ∧
 (Is (byts x_2.fst) (byts x.fst) ∧ x_2.snd.fst + (1 : Int) = x.snd.fst ∧ True) ∧ True) ∧
 ∀ (y_4 : ByteArray),
 y_4 ∈ x.snd.snd →
 ((0 : Int) ≤ y_2 ∧ y_2 < (↑(List.length y.fst) : Int)) ∧
 y_2.toNat < List.length y.fst ∧
 Exists fun (y_5 : Pl.Mdl × Int) =>
 (Pl.MdB (16 : Nat) (3 : Nat) y_5.fst ∧ p ≤ y_5.snd ∧ y_5.snd ≤ p + (1100 : Int)) ∧
 (0 : Nat) + List.length y.fst ≤ List.length y.fst ∧
 ((Is
 (AV.sl (List.length y.fst) (4 : Nat) fun (i j : Nat) =>
 storeC (cR y.fst) y_2.toNat (0 : Nat) [st y_4] i j)
 (mrows y_5.fst) ∧
 True) ∧
 True) ∧
 (Is (byts x.fst) (byts b) ∧ x.snd.fst + (1 : Int) = y_5.snd ∧ True) ∧ True)
 (((0 : Int) ≤ y_2 ∧ y_2 < (↑(List.length y.fst) : Int)) ∧
 y_2.toNat < List.length y.fst ∧
 (List.getD y.fst y_2.toNat Pl.dR).snd.fst.length = (List.getD y.fst y_2.toNat Pl.dR).snd.fst.length ∧
 y_2.toNat < List.length y.fst ∧
 ((0 : Int) ≤ (0 : Int) ∧ (0 : Int) < (↑(List.length y.fst) : Int)) ∧
 (0 : Nat) < List.length y.fst ∧
 ((0 : Int) ≤ y_2 ∧ y_2 < (↑(List.length y.fst) : Int)) ∧
 y_2.toNat < List.length y.fst ∧
 ((0 : Int) ≤ (0 : Int) ∧ (0 : Int) < (↑(List.length y.fst) : Int)) ∧
 (0 : Nat) < List.length y.fst ∧
 Exists fun (y_4 : Pl.Mdl × Int) =>
 (Pl.MdB (16 : Nat) (3 : Nat) y_4.fst ∧ p ≤ y_4.snd ∧ y_4.snd ≤ p + (1100 : Int)) ∧
 (0 : Nat) + List.length y.fst ≤ List.length y.fst ∧
 ((Is
 (AV.sl (List.length y.fst) (4 : Nat) fun (i j : Nat) =>
 storeC
 (storeC (cR y.fst) y_2.toNat (0 : Nat)
 [st (List.getD y.fst (0 : Nat) Pl.dR).fst, rats (List.getD y.fst (0 : Nat) Pl.dR).snd.fst,
 i64 (List.getD y.fst (0 : Nat) Pl.dR).snd.snd.fst,
 i64 (List.getD y.fst (0 : Nat) Pl.dR).snd.snd.snd])
 (0 : Nat) (0 : Nat)
 [st (List.getD y.fst y_2.toNat Pl.dR).fst, rats (List.getD y.fst y_2.toNat Pl.dR).snd.fst,
 i64 (List.getD y.fst y_2.toNat Pl.dR).snd.snd.fst, i64 (List.getD y.fst y_2.toNat Pl.dR).snd.snd.snd]
 i j)
 (mrows y_4.fst) ∧
 True) ∧
 True) ∧
 (Is (byts x_2.fst) (byts b) ∧ x_2.snd.fst + (1 : Int) = y_4.snd ∧ True) ∧ True))))))) = Goal Tryz.prog [K_l7Any, K_pick, K_rat, K_of] ([]) K_l7Some.1 K_l7Some.2 ((b, p, s)) := by kernel_rfl

end Cg

/-
  What is left to show of each function's code, printed by a program: Mdr. No condition.
-/
set_option maxRecDepth 100000
set_option linter.unusedVariables false
namespace Cg
open Go Go.Proofs
theorem vc_l7Put (L : List Pl.HRw) (r : Pl.HRw) : ((Exists fun (x : Nat) =>
 x ≤ L.length ∧
 (((0 : Nat) = (0 : Nat) ∧ L.length = L.length) ∧ (0 : Nat) = (0 : Nat) ∧ (0 : Int) = (↑x : Int) ∧ True) ∧
 IsO (arRH L) (arRH L) ∧
 (r.snd.fst = r.snd.fst ∧ Is (hdQ r.fst r.snd.snd.fst) (hdQ r.fst r.snd.snd.fst) ∧ r.snd.snd.snd.fst = r.snd.snd.snd.fst ∧ r.snd.snd.snd.snd = r.snd.snd.snd.snd ∧ True) ∧ True) ∧
 ∀ (x : Nat),
 x ≤ L.length →
 condP (Decidable.decide ((↑x : Int) < (↑L.length : Int)))
 (((0 : Int) ≤ (↑x : Int) ∧ (↑x : Int) < (↑L.length : Int)) ∧
 x < L.length ∧
 Exists fun (x_1 : Pl.Rw × Pl.Rw) =>
 (((L.getD x Pl.dH).snd.fst = x_1.fst.fst ∧
 Is (hdQ (L.getD x Pl.dH).fst (L.getD x Pl.dH).snd.snd.fst) (rats x_1.fst.snd.fst) ∧
 (L.getD x Pl.dH).snd.snd.snd.fst = x_1.fst.snd.snd.fst ∧ (L.getD x Pl.dH).snd.snd.snd.snd = x_1.fst.snd.snd.snd ∧ True) ∧
 (r.snd.fst = x_1.snd.fst ∧ Is (hdQ r.fst r.snd.snd.fst) (rats x_1.snd.snd.fst) ∧ r.snd.snd.snd.fst = x_1.snd.snd.snd.fst ∧ r.snd.snd.snd.snd = x_1.snd.snd.snd.snd ∧ True) ∧
 True) ∧
 x_1.fst.snd.fst.length ≤ (1048576 : Nat) ∧
 condP (Pl.rowLess x_1.fst x_1.snd)
 (Exists fun (x' : Nat) =>
 x' ≤ L.length ∧
 L.length - x' < L.length - x ∧
 (((0 : Nat) = (0 : Nat) ∧ L.length = L.length) ∧ (0 : Nat) = (0 : Nat) ∧ IntKind.i64.wrap ((↑x : Int) + (1 : Int)) = (↑x' : Int) ∧ True) ∧
 IsO (arRH L) (arRH L) ∧
 (r.snd.fst = r.snd.fst ∧
 Is (hdQ r.fst r.snd.snd.fst) (hdQ r.fst r.snd.snd.fst) ∧ r.snd.snd.snd.fst = r.snd.snd.snd.fst ∧ r.snd.snd.snd.snd = r.snd.snd.snd.snd ∧ True) ∧
 True)
 (condP (Decidable.decide ((↑x : Int) < (↑L.length : Int)))
 (((0 : Int) ≤ (↑x : Int) ∧ (↑x : Int) < (↑L.length : Int)) ∧
 x < L.length ∧
 condP ((L.getD x Pl.dH).snd.fst.toList == r.snd.fst.toList)
 (((0 : Int) ≤ (↑x : Int) ∧ (↑x : Int) < (↑L.length : Int)) ∧
 x < L.length ∧
 Exists fun (x_2 : List Pl.Rt × List Pl.Rt) =>
 (Is (hdQ (L.getD x Pl.dH).fst (L.getD x Pl.dH).snd.snd.fst) (rats x_2.fst) ∧ Is (hdQ r.fst r.snd.snd.fst) (rats x_2.snd) ∧ True) ∧
 Sz x_2.fst ∧
 condP (Decidable.decide (x_2.fst = x_2.snd))
 (Exists fun (y : List Nat) =>
 HPut L.length y ∧
 (((0 : Nat) = (0 : Nat) ∧ L.length = y.length) ∧ True) ∧ True ∧ IsO (arRH L) (arRH (List.map (fun (i : Nat) => (L ++ [r]).getD i Pl.dH) y)) ∧ True)
 (((0 : Int) ≤ (↑x : Int) ∧ (↑x : Int) ≤ (↑L.length : Int)) ∧
 x + (L.length - x) ≤ L.length ∧
 ((0 : Nat) = (0 : Nat) ∨ (0 : Nat) < L.length - x) ∧
 ((0 : Nat) + (L.length - x)) * (56 : Nat) ≤ (70368744177664 : Nat) ∧
 ((0 : Int) ≤ (↑x : Int) ∧ (↑x : Int) ≤ (↑L.length : Int)) ∧
 (0 : Nat) + x ≤ L.length ∧
 ((0 : Nat) = (0 : Nat) ∨ (0 : Nat) < x) ∧
 ((0 : Nat) + x) * (56 : Nat) ≤ (70368744177664 : Nat) ∧
 (0 : Nat) + ((0 : Nat) + x) ≤ (0 : Nat) + x ∧
 ((0 : Nat) + x + (1 : Nat)) * (56 : Nat) ≤ (70368744177664 : Nat) ∧
 (0 : Nat) + ((0 : Nat) + (L.length - x)) ≤ (0 : Nat) + (L.length - x) ∧
 (0 : Nat) + ((0 : Nat) + x + (1 : Nat)) ≤ (0 : Nat) + x + (1 : Nat) ∧
 ((0 : Nat) + x + (1 : Nat) + ((0 : Nat) + (L.length - x))) * (56 : Nat) ≤ (70368744177664 : Nat) ∧
 Exists fun (y : List Nat) =>
 HPut L.length y ∧
 (((0 : Nat) = (0 : Nat) ∧ (0 : Nat) + x + (1 : Nat) + ((0 : Nat) + (L.length - x)) = y.length) ∧ True) ∧
 True ∧
 IsO
 (AObj.arr ((0 : Nat) + x + (1 : Nat) + ((0 : Nat) + (L.length - x))) (4 : Nat)
 (joinC ((0 : Nat) + x + (1 : Nat))
 (fun (i j : Nat) =>
 joinC ((0 : Nat) + x) (cRH L)
 (rowsCell [[st r.snd.fst, hdQ r.fst r.snd.snd.fst, i64 r.snd.snd.snd.fst, i64 r.snd.snd.snd.snd]])
 i j)
 fun (i j : Nat) => joinC (0 : Nat) (rowsCell []) (fun (i j : Nat) => eRH (L.getD (i + x) Pl.dH) j) i j))
 (arRH (List.map (fun (i : Nat) => (L ++ [r]).getD i Pl.dH) y)) ∧
 True))
 (((0 : Int) ≤ (↑x : Int) ∧ (↑x : Int) ≤ (↑L.length : Int)) ∧
 x + (L.length - x) ≤ L.length ∧
 ((0 : Nat) = (0 : Nat) ∨ (0 : Nat) < L.length - x) ∧
 ((0 : Nat) + (L.length - x)) * (56 : Nat) ≤ (70368744177664 : Nat) ∧
 ((0 : Int) ≤ (↑x : Int) ∧ (↑x : Int) ≤ (↑L.length : Int)) ∧
 (0 : Nat) + x ≤ L.length ∧
 ((0 : Nat) = (0 : Nat) ∨ (0 : Nat) < x) ∧
 ((0 : Nat) + x) * (56 : Nat) ≤ (70368744177664 : Nat) ∧
 (0 : Nat) + ((0 : Nat) + x) ≤ (0 : Nat) + x ∧
 ((0 : Nat) + x + (1 : Nat)) * (56 : Nat) ≤ (70368744177664 : Nat) ∧
 (0 : Nat) + ((0 : Nat) + (L.length - x)) ≤ (0 : Nat) + (L.length - x) ∧
 (0 : Nat) + ((0 : Nat) + x + (1 : Nat)) ≤ (0 : Nat) + x + (1 : Nat) ∧
 ((0 : Nat) + x + (1 : Nat) + ((0 : Nat) + (L.length - x))) * (56 : Nat) ≤ (70368744177664 : Nat) ∧
 Exists fun (y : List Nat) =>
 HPut L.length y ∧
 (((0 : Nat) = (0 : Nat) ∧ (0 : Nat) + x + (1 : Nat) + ((0 : Nat) + (L.length - x)) = y.length) ∧ True) ∧
 True ∧
 IsO
 (AObj.arr ((0 : Nat) + x + (1 : Nat) + ((0 : Nat) + (L.length - x))) (4 : Nat)
 (joinC ((0 : Nat) + x + (1 : Nat))
 (fun (i j : Nat) =>
 joinC ((0 : Nat) + x) (cRH L)
 (rowsCell [[st r.snd.fst, hdQ r.fst r.snd.snd.fst, i64 r.snd.snd.snd.fst, i64 r.snd.snd.snd.snd]]) i j)
 fun (i j : Nat) => joinC (0 : Nat) (rowsCell []) (fun (i j : Nat) => eRH (L.getD (i + x) Pl.dH) j) i j))
 (arRH (List.map (fun (i : Nat) => (L ++ [r]).getD i Pl.dH) y)) ∧
 True))
 (((0 : Int) ≤ (↑x : Int) ∧ (↑x : Int) ≤ (↑L.length : Int)) ∧
 x + (L.length - x) ≤ L.length ∧
 ((0 : Nat) = (0 : Nat) ∨ (0 : Nat) < L.length - x) ∧
 ((0 : Nat) + (L.length - x)) * (56 : Nat) ≤ (70368744177664 : Nat) ∧
 ((0 : Int) ≤ (↑x : Int) ∧ (↑x : Int) ≤ (↑L.length : Int)) ∧
 (0 : Nat) + x ≤ L.length ∧
 ((0 : Nat) = (0 : Nat) ∨ (0 : Nat) < x) ∧
 ((0 : Nat) + x) * (56 : Nat) ≤ (70368744177664 : Nat) ∧
 (0 : Nat) + ((0 : Nat) + x) ≤ (0 : Nat) + x ∧
 ((0 : Nat) + x + (1 : Nat)) * (56 : Nat) ≤ (70368744177664 : Nat) ∧
 (0 : Nat) + ((0 : Nat) + (L.length - x)) ≤ (0 : Nat) + (L.length - x) ∧
 (0 : Nat) + ((0 : Nat) + x + (1 : Nat)) ≤ (0 : Nat) + x + (1 : Nat) ∧
 ((0 : Nat) + x + (1 : Nat) + ((0 : Nat) + (L.length - x))) * (56 : Nat) ≤ (70368744177664 : Nat) ∧
 Exists fun (y : List Nat) =>
 HPut L.length y ∧
 (((0 : Nat) = (0 : Nat) ∧ (0 : Nat) + x + (1 : Nat) + ((0 : Nat) + (L.length - x)) = y.length) ∧ True) ∧
 True ∧
 IsO
 (AObj.arr ((0 : Nat) + x + (1 : Nat) + ((0 : Nat) + (L.length - x))) (4 : Nat)
 (joinC ((0 : Nat) + x + (1 : Nat))
 (fun (i j : Nat) =>
 joinC ((0 : Nat) + x) (cRH L)
 (rowsCell [[st r.snd.fst, hdQ r.fst r.snd.snd.fst, i64 r.snd.snd.snd.fst, i64 r.snd.snd.snd.snd]]) i j)
 fun (i j : Nat) => joinC (0 : Nat) (rowsCell []) (fun (i j : Nat) => eRH (L.getD (i + x) Pl.dH) j) i j))
 (arRH (List.map (fun (i : Nat) => (L ++ [r]).getD i Pl.dH) y)) ∧
 True)))
 (condP (Decidable.decide ((↑x : Int) < (↑L.length : Int)))
 (((0 : Int) ≤ (↑x : Int) ∧ (↑x : Int) < (↑L.length : Int)) ∧
 x < L.length ∧
 condP ((L.getD x Pl.dH).snd.fst.toList == r.snd.fst.toList)
 (((0 : Int) ≤ (↑x : Int) ∧ (↑x : Int) < (↑L.length : Int)) ∧
 x < L.length ∧
 Exists fun (x_1 : List Pl.Rt × List Pl.Rt) =>
 (Is (hdQ (L.getD x Pl.dH).fst (L.getD x Pl.dH).snd.snd.fst) (rats x_1.fst) ∧ Is (hdQ r.fst r.snd.snd.fst) (rats x_1.snd) ∧ True) ∧
 Sz x_1.fst ∧
 condP (Decidable.decide (x_1.fst = x_1.snd))
 (Exists fun (y : List Nat) =>
 HPut L.length y ∧
 (((0 : Nat) = (0 : Nat) ∧ L.length = y.length) ∧ True) ∧ True ∧ IsO (arRH L) (arRH (List.map (fun (i : Nat) => (L ++ [r]).getD i Pl.dH) y)) ∧ True)
 (((0 : Int) ≤ (↑x : Int) ∧ (↑x : Int) ≤ (↑L.length : Int)) ∧
 x + (L.length - x) ≤ L.length ∧
 ((0 : Nat) = (0 : Nat) ∨ (0 : Nat) < L.length - x) ∧
 ((0 : Nat) + (L.length - x)) * (56 : Nat) ≤ (70368744177664 : Nat) ∧
 ((0 : Int) ≤ (↑x : Int) ∧ (↑x : Int) ≤ (↑L.length : Int)) ∧
 (0 : Nat) + x ≤ L.length ∧
 ((0 : Nat) = (0 : Nat) ∨ (0 : Nat) < x) ∧
 ((0 : Nat) + x) * (56 : Nat) ≤ (70368744177664 : Nat) ∧
 (0 : Nat) + ((0 : Nat) + x) ≤ (0 : Nat) + x ∧
 ((0 : Nat) + x + (1 : Nat)) * (56 : Nat) ≤ (70368744177664 : Nat) ∧
 (0 : Nat) + ((0 : Nat) + (L.length - x)) ≤ (0 : Nat) + (L.length - x) ∧
 (0 : Nat) + ((0 : Nat) + x + (1 : Nat)) ≤ (0 : Nat) + x + (1 : Nat) ∧
 ((0 : Nat) + x + (1 : Nat) + ((0 : Nat) + (L.length - x))) * (56 : Nat) ≤ (70368744177664 : Nat) ∧
 Exists fun (y : List Nat) =>
 HPut L.length y ∧
 (((0 : Nat) = (0 : Nat) ∧ (0 : Nat) + x + (1 : Nat) + ((0 : Nat) + (L.length - x)) = y.length) ∧ True) ∧
 True ∧
 IsO
 (AObj.arr ((0 : Nat) + x + (1 : Nat) + ((0 : Nat) + (L.length - x))) (4 : Nat)
 (joinC ((0 : Nat) + x + (1 : Nat))
 (fun (i j : Nat) =>
 joinC ((0 : Nat) + x) (cRH L)
 (rowsCell [[st r.snd.fst, hdQ r.fst r.snd.snd.fst, i64 r.snd.snd.snd.fst, i64 r.snd.snd.snd.snd]]) i j)
 fun (i j : Nat) => joinC (0 : Nat) (rowsCell []) (fun (i j : Nat) => eRH (L.getD (i + x) Pl.dH) j) i j))
 (arRH (List.map (fun (i : Nat) => (L ++ [r]).getD i Pl.dH) y)) ∧
 True))
 (((0 : Int) ≤ (↑x : Int) ∧ (↑x : Int) ≤ (↑L.length : Int)) ∧
 x + (L.length - x) ≤ L.length ∧
 ((0 : Nat) = (0 : Nat) ∨ (0 : Nat) < L.length - x) ∧
 ((0 : Nat) + (L.length - x)) * (56 : Nat) ≤ (70368744177664 : Nat) ∧
 ((0 : Int) ≤ (↑x : Int) ∧ (↑x : Int) ≤ (↑L.length : Int)) ∧
 (0 : Nat) + x ≤ L.length ∧
 ((0 : Nat) = (0 : Nat) ∨ (0 : Nat) < x) ∧
 ((0 : Nat) + x) * (56 : Nat) ≤ (70368744177664 : Nat) ∧
 (0 : Nat) + ((0 : Nat) + x) ≤ (0 : Nat) + x ∧
 ((0 : Nat) + x + (1 : Nat)) * (56 : Nat) ≤ (70368744177664 : Nat) ∧
 (0 : Nat) + ((0 : Nat) + (L.length - x)) ≤ (0 : Nat) + (L.length - x) ∧
 (0 : Nat) + ((0 : Nat) + x + (1 : Nat)) ≤ (0 : Nat) + x + (1 : Nat) ∧
 ((0 : Nat) + x + (1 : Nat) + ((0 : Nat) + (L.length - x))) * (56 : Nat) ≤ (70368744177664 : Nat) ∧
 Exists fun (y : List Nat) =>
 HPut L.length y ∧
 (((0 : Nat) = (0 : Nat) ∧ (0 : Nat) + x + (1 : Nat) + ((0 : Nat) + (L.length - x)) = y.length) ∧ True) ∧
 True ∧
 IsO
 (AObj.arr ((0 : Nat) + x + (1 : Nat) + ((0 : Nat) + (L.length - x))) (4 : Nat)
 (joinC ((0 : Nat) + x + (1 : Nat))
 (fun (i j : Nat) =>
 joinC ((0 : Nat) + x) (cRH L)
 (rowsCell [[st r.snd.fst, hdQ r.fst r.snd.snd.fst, i64 r.snd.snd.snd.fst, i64 r.snd.snd.snd.snd]]) i j)
 fun (i j : Nat) => joinC (0 : Nat) (rowsCell []) (fun (i j : Nat) => eRH (L.getD (i + x) Pl.dH) j) i j))
 (arRH (List.map (fun (i : Nat) => (L ++ [r]).getD i Pl.dH) y)) ∧
 True))
 (((0 : Int) ≤ (↑x : Int) ∧ (↑x : Int) ≤ (↑L.length : Int)) ∧
 x + (L.length - x) ≤ L.length ∧
 ((0 : Nat) = (0 : Nat) ∨ (0 : Nat) < L.length - x) ∧
 ((0 : Nat) + (L.length - x)) * (56 : Nat) ≤ (70368744177664 : Nat) ∧
 ((0 : Int) ≤ (↑x : Int) ∧ (↑x : Int) ≤ (↑L.length : Int)) ∧
 (0 : Nat) + x ≤ L.length ∧
 ((0 : Nat) = (0 : Nat) ∨ (0 : Nat) < x) ∧
 ((0 : Nat) + x) * (56 : Nat) ≤ (70368744177664 : Nat) ∧
 (0 : Nat) + ((0 : Nat) + x) ≤ (0 : Nat) + x ∧
 ((0 : Nat) + x + (1 : Nat)) * (56 : Nat) ≤ (70368744177664 : Nat) ∧
 (0 : Nat) + ((0 : Nat) + (L.length - x)) ≤ (0 : Nat) + (L.length - x) ∧
 (0 : Nat) + ((0 : Nat) + x + (1 : Nat)) ≤ (0 : Nat) + x + (1 : Nat) ∧
 ((0 : Nat) + x + (1 : Nat) + ((0 : Nat) + (L.length - x))) * (56 : Nat) ≤ (70368744177664 : Nat) ∧
 Exists fun (y : List Nat) =>
 HPut L.length y ∧
 (((0 : Nat) = (0 : Nat) ∧ (0 : Nat) + x + (1 : Nat) + ((0 : Nat) + (L.length - x)) = y.length) ∧ True) ∧
 True ∧
 IsO
 (AObj.arr ((0 : Nat) + x + (1 : Nat) + ((0 : Nat) + (L.length - x))) (4 : Nat)
 (joinC ((0 : Nat) + x + (1 : Nat))
 (fun (i j : Nat) =>
 joinC ((0 : Nat) + x) (cRH L)
 (rowsCell [[st r.snd.fst, hdQ r.fst r.snd.snd.fst, i64 r.snd.snd.snd.fst, i64 r.snd.snd.snd.snd]]) i j)
 fun (i j : Nat) => joinC (0 : Nat) (rowsCell []) (fun (i j : Nat) => eRH (L.getD (i + x) Pl.dH) j) i j))
 (arRH (List.map (fun (i : Nat) => (L ++ [r]).getD i Pl.dH) y)) ∧
 True))) = Goal Tryz.prog [K_l7Less, K_l7Rats] (A_l7Put L r) K_l7Put.1 K_l7Put.2 ((L, r)) := by kernel_rfl

end Cg
