/-
  What the law leans on, part 2. No condition.
-/
import Derived.Test.YtmahkigckeaakaaProg
import Derived.Test.YtmahkigckeaakaaFnModelTermB1
/-
  What is left to show of each function's code, printed by a program: Mtd. No condition.
-/
set_option maxRecDepth 100000
set_option linter.unusedVariables false
namespace Cg
open Go Go.Proofs
theorem vc_l4Copy (n : Nat) (v : ByteArray) (ks : List Pl.Tm) : ((Exists fun (x : Nat) =>
 x ≤ ks.length ∧
 ((0 : Nat) = (0 : Nat) ∧ (0 : Nat) = (0 : Nat) ∧ (0 : Nat) = (0 : Nat) ∧ (0 : Int) = (↑x : Int) ∧ True) ∧
 (v = v ∧ Is (terms ks) (terms ks) ∧ True) ∧
 (ByteArray.mk #[] = ByteArray.empty ∧ Is (AV.lit (0 : Nat) (1 : Nat) fun (x x_1 : Nat) => AV.any) nilA ∧ True) ∧
 (v = v ∧ ((0 : Nat) = (0 : Nat) ∧ (0 : Nat) = (0 : Nat) ∧ (List.take x ks).length = (0 : Nat)) ∧ True) ∧ (List.take x ks).length = (0 : Nat) ∧ True) ∧
 ∀ (x : Nat),
 x ≤ ks.length →
 condP (Decidable.decide ((↑x : Int) < (↑ks.length : Int)))
 (((0 : Int) ≤ (↑x : Int) ∧ (↑x : Int) < (↑ks.length : Int)) ∧
 x < ks.length ∧
 Exists fun (x_1 : Pl.TP) =>
 ((Pl.Tree.val (ks.getD x Pl.dT) = x_1.fst ∧ Is (kidsT (ks.getD x Pl.dT)) (terms x_1.snd) ∧ True) ∧ True) ∧
 (SmT (Pl.Tree.mk x_1.fst x_1.snd) ∧ Pl.manyL x_1.snd < n) ∧
 (0 : Nat) + (List.take x ks).length ≤ (List.take x ks).length ∧
 ((List.take x ks).length + (1 : Nat)) * (40 : Nat) ≤ (70368744177664 : Nat) ∧
 Exists fun (x' : Nat) =>
 x' ≤ ks.length ∧
 ks.length - x' < ks.length - x ∧
 ((0 : Nat) = (0 : Nat) ∧ (0 : Nat) = (0 : Nat) ∧ (0 : Nat) = (0 : Nat) ∧ IntKind.i64.wrap ((↑x : Int) + (1 : Int)) = (↑x' : Int) ∧ True) ∧
 (v = v ∧ Is (terms ks) (terms ks) ∧ True) ∧
 (ByteArray.empty = ByteArray.empty ∧ Is (AV.lit (0 : Nat) (1 : Nat) fun (x x_2 : Nat) => AV.any) nilA ∧ True) ∧
 (v = v ∧ ((0 : Nat) = (0 : Nat) ∧ (List.take x ks).length + (1 : Nat) = (List.take x' ks).length) ∧ True) ∧
 IsO
 (AObj.arr ((List.take x ks).length + (1 : Nat)) (2 : Nat)
 (joinC (List.take x ks).length (cT (List.take x ks)) (rowsCell [[st x_1.fst, terms x_1.snd]])))
 (arT (List.take x' ks)) ∧
 True)
 ((0 : Nat) + (List.take x ks).length ≤ (List.take x ks).length ∧ v = v ∧ Is (terms (List.take x ks)) (terms ks) ∧ True)) = Goal Try.prog [(K_l4Copy n)] (A_l4Copy v ks) (K_l4Copy (n + 1)).1 (K_l4Copy (n + 1)).2 ((v, ks)) := by kernel_rfl

theorem vc_l4CopyO (v : ByteArray) (ks : List Pl.Tm) : ((Exists fun (x : Nat) =>
 x ≤ ks.length ∧
 ((0 : Nat) = (0 : Nat) ∧ (0 : Nat) = (0 : Nat) ∧ (0 : Nat) = (0 : Nat) ∧ (0 : Int) = (↑x : Int) ∧ True) ∧
 IsO (arT ks) (arT ks) ∧
 (v = v ∧ ((0 : Nat) = (0 : Nat) ∧ ks.length = ks.length) ∧ True) ∧
 (ByteArray.mk #[] = ByteArray.empty ∧ Is (AV.lit (0 : Nat) (1 : Nat) fun (x x_1 : Nat) => AV.any) nilA ∧ True) ∧
 (v = v ∧ ((0 : Nat) = (0 : Nat) ∧ (0 : Nat) = (0 : Nat) ∧ (List.take x ks).length = (0 : Nat)) ∧ True) ∧ (List.take x ks).length = (0 : Nat) ∧ True) ∧
 ∀ (x : Nat),
 x ≤ ks.length →
 condP (Decidable.decide ((↑x : Int) < (↑ks.length : Int)))
 (((0 : Int) ≤ (↑x : Int) ∧ (↑x : Int) < (↑ks.length : Int)) ∧
 x < ks.length ∧
 Exists fun (x_1 : Pl.TP) =>
 ((Pl.Tree.val (ks.getD x Pl.dT) = x_1.fst ∧ Is (kidsT (ks.getD x Pl.dT)) (terms x_1.snd) ∧ True) ∧ True) ∧
 SmT (Pl.Tree.mk x_1.fst x_1.snd) ∧
 (0 : Nat) + (List.take x ks).length ≤ (List.take x ks).length ∧
 ((List.take x ks).length + (1 : Nat)) * (40 : Nat) ≤ (70368744177664 : Nat) ∧
 Exists fun (x' : Nat) =>
 x' ≤ ks.length ∧
 ks.length - x' < ks.length - x ∧
 ((0 : Nat) = (0 : Nat) ∧ (0 : Nat) = (0 : Nat) ∧ (0 : Nat) = (0 : Nat) ∧ IntKind.i64.wrap ((↑x : Int) + (1 : Int)) = (↑x' : Int) ∧ True) ∧
 IsO (arT ks) (arT ks) ∧
 (v = v ∧ ((0 : Nat) = (0 : Nat) ∧ ks.length = ks.length) ∧ True) ∧
 (ByteArray.empty = ByteArray.empty ∧ Is (AV.lit (0 : Nat) (1 : Nat) fun (x x_2 : Nat) => AV.any) nilA ∧ True) ∧
 (v = v ∧ ((0 : Nat) = (0 : Nat) ∧ (List.take x ks).length + (1 : Nat) = (List.take x' ks).length) ∧ True) ∧
 IsO
 (AObj.arr ((List.take x ks).length + (1 : Nat)) (2 : Nat)
 (joinC (List.take x ks).length (cT (List.take x ks)) (rowsCell [[st x_1.fst, terms x_1.snd]])))
 (arT (List.take x' ks)) ∧
 True)
 (Exists fun (y : Unit) =>
 True ∧ (0 : Nat) + (List.take x ks).length ≤ (List.take x ks).length ∧ ((v = v ∧ Is (terms (List.take x ks)) (terms ks) ∧ True) ∧ True) ∧ IsO (arT ks) (arT ks) ∧ True)) = Goal Try.prog [K_lCopy] (A_l4CopyO v ks) K_l4CopyO.1 K_l4CopyO.2 ((v, ks)) := by kernel_rfl

theorem vc_l4Any (n : Nat) (b : List Int) (p : Int) (s : Pl.Sig) (u d : Int) : ((Exists fun (x : Nat × List Pl.Sym) =>
 (x.fst ≤ List.length s ∧ x.snd.length ≤ x.fst ∧ Pl.WdB d x.snd) ∧
 ((0 : Nat) = (0 : Nat) ∧
 u = u ∧ d = d ∧ (0 : Nat) = (0 : Nat) ∧ (0 : Nat) = (0 : Nat) ∧ ((0 : Nat) = (0 : Nat) ∧ (0 : Nat) = (0 : Nat) ∧ x.snd.length = (0 : Nat)) ∧ (0 : Int) = (↑x.fst : Int) ∧ True) ∧
 (Is (byts b) (byts b) ∧ p = p ∧ True) ∧
 (Is (syms s) (syms s) ∧ True) ∧
 (ByteArray.mk #[] = ByteArray.empty ∧ Is (AV.lit (0 : Nat) (1 : Nat) fun (x x_1 : Nat) => AV.any) nilA ∧ True) ∧ x.snd.length = (0 : Nat) ∧ True) ∧
 ∀ (x : Nat × List Pl.Sym),
 x.fst ≤ List.length s ∧ x.snd.length ≤ x.fst ∧ Pl.WdB d x.snd →
 condP (Decidable.decide ((↑x.fst : Int) < (↑(List.length s) : Int)))
 (((0 : Int) ≤ (↑x.fst : Int) ∧ (↑x.fst : Int) < (↑(List.length s) : Int)) ∧
 x.fst < List.length s ∧
 condP ((List.getD s x.fst Pl.dY).snd.snd == u)
 (condP (Decidable.decide (d > (1 : Int)))
 (((0 : Int) ≤ (↑x.fst : Int) ∧ (↑x.fst : Int) < (↑(List.length s) : Int)) ∧
 x.fst < List.length s ∧
 (0 : Nat) + x.snd.length ≤ x.snd.length ∧
 (x.snd.length + (1 : Nat)) * (48 : Nat) ≤ (70368744177664 : Nat) ∧
 Exists fun (x' : Nat × List Pl.Sym) =>
 (x'.fst ≤ List.length s ∧ x'.snd.length ≤ x'.fst ∧ Pl.WdB d x'.snd) ∧
 List.length s - x'.fst < List.length s - x.fst ∧
 ((0 : Nat) = (0 : Nat) ∧
 u = u ∧
 d = d ∧
 (0 : Nat) = (0 : Nat) ∧
 (0 : Nat) = (0 : Nat) ∧
 ((0 : Nat) = (0 : Nat) ∧ x.snd.length + (1 : Nat) = x'.snd.length) ∧ IntKind.i64.wrap ((↑x.fst : Int) + (1 : Int)) = (↑x'.fst : Int) ∧ True) ∧
 (Is (byts b) (byts b) ∧ p = p ∧ True) ∧
 (Is (syms s) (syms s) ∧ True) ∧
 (ByteArray.empty = ByteArray.empty ∧ Is (AV.lit (0 : Nat) (1 : Nat) fun (x x_1 : Nat) => AV.any) nilA ∧ True) ∧
 IsO
 (AObj.arr (x.snd.length + (1 : Nat)) (3 : Nat)
 (joinC x.snd.length (cY x.snd)
 (rowsCell [[st (List.getD s x.fst Pl.dY).fst, ints (List.getD s x.fst Pl.dY).snd.fst, i64 (List.getD s x.fst Pl.dY).snd.snd]])))
 (arY x'.snd) ∧
 True)
 (((0 : Int) ≤ (↑x.fst : Int) ∧ (↑x.fst : Int) < (↑(List.length s) : Int)) ∧
 x.fst < List.length s ∧
 condP ((↑(List.getD s x.fst Pl.dY).snd.fst.length : Int) == (0 : Int))
 (((0 : Int) ≤ (↑x.fst : Int) ∧ (↑x.fst : Int) < (↑(List.length s) : Int)) ∧
 x.fst < List.length s ∧
 (0 : Nat) + x.snd.length ≤ x.snd.length ∧
 (x.snd.length + (1 : Nat)) * (48 : Nat) ≤ (70368744177664 : Nat) ∧
 Exists fun (x' : Nat × List Pl.Sym) =>
 (x'.fst ≤ List.length s ∧ x'.snd.length ≤ x'.fst ∧ Pl.WdB d x'.snd) ∧
 List.length s - x'.fst < List.length s - x.fst ∧
 ((0 : Nat) = (0 : Nat) ∧
 u = u ∧
 d = d ∧
 (0 : Nat) = (0 : Nat) ∧
 (0 : Nat) = (0 : Nat) ∧
 ((0 : Nat) = (0 : Nat) ∧ x.snd.length + (1 : Nat) = x'.snd.length) ∧ IntKind.i64.wrap ((↑x.fst : Int) + (1 : Int)) = (↑x'.fst : Int) ∧ True) ∧
 (Is (byts b) (byts b) ∧ p = p ∧ True) ∧
 (Is (syms s) (syms s) ∧ True) ∧
 (ByteArray.empty = ByteArray.empty ∧ Is (AV.lit (0 : Nat) (1 : Nat) fun (x x_1 : Nat) => AV.any) nilA ∧ True) ∧
 IsO
 (AObj.arr (x.snd.length + (1 : Nat)) (3 : Nat)
 (joinC x.snd.length (cY x.snd)
 (rowsCell [[st (List.getD s x.fst Pl.dY).fst, ints (List.getD s x.fst Pl.dY).snd.fst, i64 (List.getD s x.fst Pl.dY).snd.snd]])))
 (arY x'.snd) ∧
 True)
 (Exists fun (x' : Nat × List Pl.Sym) =>
 (x'.fst ≤ List.length s ∧ x'.snd.length ≤ x'.fst ∧ Pl.WdB d x'.snd) ∧
 List.length s - x'.fst < List.length s - x.fst ∧
 ((0 : Nat) = (0 : Nat) ∧
 u = u ∧
 d = d ∧
 (0 : Nat) = (0 : Nat) ∧
 (0 : Nat) = (0 : Nat) ∧ ((0 : Nat) = (0 : Nat) ∧ x.snd.length = x'.snd.length) ∧ IntKind.i64.wrap ((↑x.fst : Int) + (1 : Int)) = (↑x'.fst : Int) ∧ True) ∧
 (Is (byts b) (byts b) ∧ p = p ∧ True) ∧
 (Is (syms s) (syms s) ∧ True) ∧
 (ByteArray.empty = ByteArray.empty ∧ Is (AV.lit (0 : Nat) (1 : Nat) fun (x x_1 : Nat) => AV.any) nilA ∧ True) ∧
 IsO (arY x.snd) (arY x'.snd) ∧ True)))
 (Exists fun (x' : Nat × List Pl.Sym) =>
 (x'.fst ≤ List.length s ∧ x'.snd.length ≤ x'.fst ∧ Pl.WdB d x'.snd) ∧
 List.length s - x'.fst < List.length s - x.fst ∧
 ((0 : Nat) = (0 : Nat) ∧
 u = u ∧
 d = d ∧
 (0 : Nat) = (0 : Nat) ∧
 (0 : Nat) = (0 : Nat) ∧ ((0 : Nat) = (0 : Nat) ∧ x.snd.length = x'.snd.length) ∧ IntKind.i64.wrap ((↑x.fst : Int) + (1 : Int)) = (↑x'.fst : Int) ∧ True) ∧
 (Is (byts b) (byts b) ∧ p = p ∧ True) ∧
 (Is (syms s) (syms s) ∧ True) ∧
 (ByteArray.empty = ByteArray.empty ∧ Is (AV.lit (0 : Nat) (1 : Nat) fun (x x_1 : Nat) => AV.any) nilA ∧ True) ∧ IsO (arY x.snd) (arY x'.snd) ∧ True))
 (condP ((↑x.snd.length : Int) == (0 : Int))
 (Exists fun (y : Pl.TP × Int) =>
 (Pl.TmB (Pl.CB d.toNat) y.fst ∧ p ≤ y.snd ∧ y.snd ≤ p + (↑(Pl.CB d.toNat) : Int)) ∧
 ((ByteArray.mk #[(113 : UInt8)] = y.fst.fst ∧ ((0 : Nat) = (0 : Nat) ∧ (0 : Nat) = (0 : Nat) ∧ y.fst.snd.length = (0 : Nat)) ∧ True) ∧ True) ∧
 (Is (byts b) (byts b) ∧ p = y.snd ∧ True) ∧ y.fst.snd.length = (0 : Nat) ∧ True)
 (Exists fun (x_1 : List Int × Int × Int) =>
 Rd (1099511627776 : Int) x_1.fst x_1.snd.fst ∧
 (((0 : Nat) = (0 : Nat) ∧ (↑x.snd.length : Int) = x_1.snd.snd ∧ True) ∧ (Is (byts b) (byts x_1.fst) ∧ p = x_1.snd.fst ∧ True) ∧ True) ∧
 ∀ (y : Int),
 ((1 : Int) ≤ x_1.snd.snd → (0 : Int) ≤ y ∧ y < x_1.snd.snd) ∧ (x_1.snd.snd < (1 : Int) → y = (0 : Int)) →
 ((0 : Int) ≤ y ∧ y < (↑x.snd.length : Int)) ∧
 y.toNat < x.snd.length ∧
 (Exists fun (x_2 : Pl.Sym × Nat × List Pl.Tm × Int) =>
 (Pl.WdB d [x_2.fst] ∧
 x_2.snd.fst ≤ x_2.fst.snd.fst.length ∧
 x_2.snd.snd.fst.length = x_2.snd.fst ∧
 Pl.costTs x_2.snd.snd.fst ≤ x_2.snd.fst * Pl.CB (d - (1 : Int)).toNat ∧
 p ≤ x_2.snd.snd.snd ∧ x_2.snd.snd.snd ≤ p + (1 : Int) + (↑x_2.snd.fst : Int) * (↑(Pl.CB (d - (1 : Int)).toNat) : Int)) ∧
 ((0 : Nat) = (0 : Nat) ∧
 d = d ∧ (0 : Nat) = (0 : Nat) ∧ (0 : Nat) = (0 : Nat) ∧ (0 : Nat) = (0 : Nat) ∧ (0 : Nat) = (0 : Nat) ∧ (0 : Int) = (↑x_2.snd.fst : Int) ∧ True) ∧
 (Is (byts x_1.fst) (byts b) ∧ x_1.snd.fst + (1 : Int) = x_2.snd.snd.snd ∧ True) ∧
 (Is (syms s) (syms s) ∧ True) ∧
 (ByteArray.empty = ByteArray.empty ∧ Is (AV.lit (0 : Nat) (1 : Nat) fun (x x_3 : Nat) => AV.any) nilA ∧ True) ∧
 ((x.snd.getD y.toNat Pl.dY).fst = x_2.fst.fst ∧
 Is (ints (x.snd.getD y.toNat Pl.dY).snd.fst) (ints x_2.fst.snd.fst) ∧ (x.snd.getD y.toNat Pl.dY).snd.snd = x_2.fst.snd.snd ∧ True) ∧
 ((x.snd.getD y.toNat Pl.dY).fst = x_2.fst.fst ∧ ((0 : Nat) = (0 : Nat) ∧ (0 : Nat) = (0 : Nat) ∧ x_2.snd.snd.fst.length = (0 : Nat)) ∧ True) ∧
 x_2.snd.snd.fst.length = (0 : Nat) ∧ True) ∧
 ∀ (x : Pl.Sym × Nat × List Pl.Tm × Int),
 Pl.WdB d [x.fst] ∧
 x.snd.fst ≤ x.fst.snd.fst.length ∧
 x.snd.snd.fst.length = x.snd.fst ∧
 Pl.costTs x.snd.snd.fst ≤ x.snd.fst * Pl.CB (d - (1 : Int)).toNat ∧
 p ≤ x.snd.snd.snd ∧ x.snd.snd.snd ≤ p + (1 : Int) + (↑x.snd.fst : Int) * (↑(Pl.CB (d - (1 : Int)).toNat) : Int) →
 condP (Decidable.decide ((↑x.snd.fst : Int) < (↑x.fst.snd.fst.length : Int)))
 ((((0 : Int) ≤ (↑x.snd.fst : Int) ∧ (↑x.snd.fst : Int) < (↑x.fst.snd.fst.length : Int)) ∧
 x.snd.fst < x.fst.snd.fst.length ∧
 Exists fun (x_2 : AX) =>
 ((Rd (137438953472 : Int) x_2.fst x_2.snd.fst ∧
 x_2.snd.fst + (↑(Pl.CB x_2.snd.snd.snd.snd.toNat) : Int) ≤ (137438953472 : Int) ∧
 Pl.SgB (5 : Nat) (2 : Nat) x_2.snd.snd.fst ∧ x_2.snd.snd.snd.snd ≤ (4 : Int)) ∧
 x_2.snd.snd.snd.snd.toNat < n) ∧
 (((0 : Nat) = (0 : Nat) ∧
 (Is (syms s) (syms x_2.snd.snd.fst) ∧ True) ∧
 x.fst.snd.fst.getD x.snd.fst (0 : Int) = x_2.snd.snd.snd.fst ∧ IntKind.i64.wrap (d - (1 : Int)) = x_2.snd.snd.snd.snd ∧ True) ∧
 (Is (byts b) (byts x_2.fst) ∧ x.snd.snd.snd = x_2.snd.fst ∧ True) ∧ True) ∧
 ∀ (y : Pl.TP × Int),
 Pl.TmB (Pl.CB x_2.snd.snd.snd.snd.toNat) y.fst ∧ x_2.snd.fst ≤ y.snd ∧ y.snd ≤ x_2.snd.fst + (↑(Pl.CB x_2.snd.snd.snd.snd.toNat) : Int) →
 (0 : Nat) + y.fst.snd.length ≤ y.fst.snd.length ∧
 (0 : Nat) + x.snd.snd.fst.length ≤ x.snd.snd.fst.length ∧
 (x.snd.snd.fst.length + (1 : Nat)) * (40 : Nat) ≤ (70368744177664 : Nat) ∧
 Exists fun (x' : Pl.Sym × Nat × List Pl.Tm × Int) =>
 (Pl.WdB d [x'.fst] ∧
 x'.snd.fst ≤ x'.fst.snd.fst.length ∧
 x'.snd.snd.fst.length = x'.snd.fst ∧
 Pl.costTs x'.snd.snd.fst ≤ x'.snd.fst * Pl.CB (d - (1 : Int)).toNat ∧
 p ≤ x'.snd.snd.snd ∧ x'.snd.snd.snd ≤ p + (1 : Int) + (↑x'.snd.fst : Int) * (↑(Pl.CB (d - (1 : Int)).toNat) : Int)) ∧
 x'.fst.snd.fst.length - x'.snd.fst < x.fst.snd.fst.length - x.snd.fst ∧
 ((0 : Nat) = (0 : Nat) ∧
 d = d ∧
 (0 : Nat) = (0 : Nat) ∧
 (0 : Nat) = (0 : Nat) ∧
 (0 : Nat) = (0 : Nat) ∧
 (0 : Nat) = (0 : Nat) ∧ IntKind.i64.wrap ((↑x.snd.fst : Int) + (1 : Int)) = (↑x'.snd.fst : Int) ∧ True) ∧
 (Is (byts x_2.fst) (byts b) ∧ y.snd = x'.snd.snd.snd ∧ True) ∧
 (Is (syms s) (syms s) ∧ True) ∧
 (ByteArray.empty = ByteArray.empty ∧ Is (AV.lit (0 : Nat) (1 : Nat) fun (x x_3 : Nat) => AV.any) nilA ∧ True) ∧
 (x.fst.fst = x'.fst.fst ∧ Is (ints x.fst.snd.fst) (ints x'.fst.snd.fst) ∧ x.fst.snd.snd = x'.fst.snd.snd ∧ True) ∧
 (x.fst.fst = x'.fst.fst ∧ ((0 : Nat) = (0 : Nat) ∧ x.snd.snd.fst.length + (1 : Nat) = x'.snd.snd.fst.length) ∧ True) ∧
 IsO
 (AObj.arr (x.snd.snd.fst.length + (1 : Nat)) (2 : Nat)
 (joinC x.snd.snd.fst.length (cT x.snd.snd.fst) (rowsCell [[st y.fst.fst, terms y.fst.snd]])))
 (arT x'.snd.snd.fst) ∧
 True) ∧
 ((0 : Int) ≤ (↑x.snd.fst : Int) ∧ (↑x.snd.fst : Int) < (↑x.fst.snd.fst.length : Int)) ∧
 x.snd.fst < x.fst.snd.fst.length ∧
 (Exists fun (x_2 : AX) =>
 ((Rd (137438953472 : Int) x_2.fst x_2.snd.fst ∧
 x_2.snd.fst + (↑(Pl.CB x_2.snd.snd.snd.snd.toNat) : Int) ≤ (137438953472 : Int) ∧
 Pl.SgB (5 : Nat) (2 : Nat) x_2.snd.snd.fst ∧ x_2.snd.snd.snd.snd ≤ (4 : Int)) ∧
 x_2.snd.snd.snd.snd.toNat < n) ∧
 (((0 : Nat) = (0 : Nat) ∧
 (Is (syms s) (syms x_2.snd.snd.fst) ∧ True) ∧
 x.fst.snd.fst.getD x.snd.fst (0 : Int) = x_2.snd.snd.snd.fst ∧ IntKind.i64.wrap (d - (1 : Int)) = x_2.snd.snd.snd.snd ∧ True) ∧
 (Is (byts b) (byts x_2.fst) ∧ x.snd.snd.snd = x_2.snd.fst ∧ True) ∧ True) ∧
 ∀ (y : Pl.TP × Int),
 Pl.TmB (Pl.CB x_2.snd.snd.snd.snd.toNat) y.fst ∧ x_2.snd.fst ≤ y.snd ∧ y.snd ≤ x_2.snd.fst + (↑(Pl.CB x_2.snd.snd.snd.snd.toNat) : Int) →
 (0 : Nat) + y.fst.snd.length ≤ y.fst.snd.length ∧
 (0 : Nat) + x.snd.snd.fst.length ≤ x.snd.snd.fst.length ∧
 (x.snd.snd.fst.length + (1 : Nat)) * (40 : Nat) ≤ (70368744177664 : Nat) ∧
 Exists fun (x' : Pl.Sym × Nat × List Pl.Tm × Int) =>
 (Pl.WdB d [x'.fst] ∧
 x'.snd.fst ≤ x'.fst.snd.fst.length ∧
 x'.snd.snd.fst.length = x'.snd.fst ∧
 Pl.costTs x'.snd.snd.fst ≤ x'.snd.fst * Pl.CB (d - (1 : Int)).toNat ∧
 p ≤ x'.snd.snd.snd ∧ x'.snd.snd.snd ≤ p + (1 : Int) + (↑x'.snd.fst : Int) * (↑(Pl.CB (d - (1 : Int)).toNat) : Int)) ∧
 x'.fst.snd.fst.length - x'.snd.fst < x.fst.snd.fst.length - x.snd.fst ∧
 ((0 : Nat) = (0 : Nat) ∧
 d = d ∧
 (0 : Nat) = (0 : Nat) ∧
 (0 : Nat) = (0 : Nat) ∧
 (0 : Nat) = (0 : Nat) ∧
 (0 : Nat) = (0 : Nat) ∧ IntKind.i64.wrap ((↑x.snd.fst : Int) + (1 : Int)) = (↑x'.snd.fst : Int) ∧ True) ∧
 (Is (byts x_2.fst) (byts b) ∧ y.snd = x'.snd.snd.snd ∧ True) ∧
 (Is (syms s) (syms s) ∧ True) ∧
 (ByteArray.empty = ByteArray.empty ∧ Is (AV.lit (0 : Nat) (1 : Nat) fun (x x_3 : Nat) => AV.any) nilA ∧ True) ∧
 (x.fst.fst = x'.fst.fst ∧ Is (ints x.fst.snd.fst) (ints x'.fst.snd.fst) ∧ x.fst.snd.snd = x'.fst.snd.snd ∧ True) ∧
 (x.fst.fst = x'.fst.fst ∧ ((0 : Nat) = (0 : Nat) ∧ x.snd.snd.fst.length + (1 : Nat) = x'.snd.snd.fst.length) ∧ True) ∧
 IsO
 (AObj.arr (x.snd.snd.fst.length + (1 : Nat)) (2 : Nat)
 (joinC x.snd.snd.fst.length (cT x.snd.snd.fst) (rowsCell [[st y.fst.fst, terms y.fst.snd]])))
 (arT x'.snd.snd.fst) ∧
 True) ∧
 Exists fun (x_2 : AX) =>
 ((Rd (137438953472 : Int) x_2.fst x_2.snd.fst ∧
 x_2.snd.fst + (↑(Pl.CB x_2.snd.snd.snd.snd.toNat) : Int) ≤ (137438953472 : Int) ∧
 Pl.SgB (5 : Nat) (2 : Nat) x_2.snd.snd.fst ∧ x_2.snd.snd.snd.snd ≤ (4 : Int)) ∧
 x_2.snd.snd.snd.snd.toNat < n) ∧
 (((0 : Nat) = (0 : Nat) ∧
 (Is (syms s) (syms x_2.snd.snd.fst) ∧ True) ∧
 x.fst.snd.fst.getD x.snd.fst (0 : Int) = x_2.snd.snd.snd.fst ∧ IntKind.i64.wrap (d - (1 : Int)) = x_2.snd.snd.snd.snd ∧ True) ∧
 (Is (byts b) (byts x_2.fst) ∧ x.snd.snd.snd = x_2.snd.fst ∧ True) ∧ True) ∧
 ∀ (y : Pl.TP × Int),
 Pl.TmB (Pl.CB x_2.snd.snd.snd.snd.toNat) y.fst ∧ x_2.snd.fst ≤ y.snd ∧ y.snd ≤ x_2.snd.fst + (↑(Pl.CB x_2.snd.snd.snd.snd.toNat) : Int) →
 (0 : Nat) + y.fst.snd.length ≤ y.fst.snd.length ∧
 (0 : Nat) + x.snd.snd.fst.length ≤ x.snd.snd.fst.length ∧
 (x.snd.snd.fst.length + (1 : Nat)) * (40 : Nat) ≤ (70368744177664 : Nat) ∧
 Exists fun (x' : Pl.Sym × Nat × List Pl.Tm × Int) =>
 (Pl.WdB d [x'.fst] ∧
 x'.snd.fst ≤ x'.fst.snd.fst.length ∧
 x'.snd.snd.fst.length = x'.snd.fst ∧
 Pl.costTs x'.snd.snd.fst ≤ x'.snd.fst * Pl.CB (d - (1 : Int)).toNat ∧
 p ≤ x'.snd.snd.snd ∧ x'.snd.snd.snd ≤ p + (1 : Int) + (↑x'.snd.fst : Int) * (↑(Pl.CB (d - (1 : Int)).toNat) : Int)) ∧
 x'.fst.snd.fst.length - x'.snd.fst < x.fst.snd.fst.length - x.snd.fst ∧
 ((0 : Nat) = (0 : Nat) ∧
 d = d ∧
 (0 : Nat) = (0 : Nat) ∧
 (0 : Nat) = (0 : Nat) ∧
 (0 : Nat) = (0 : Nat) ∧
 (0 : Nat) = (0 : Nat) ∧ IntKind.i64.wrap ((↑x.snd.fst : Int) + (1 : Int)) = (↑x'.snd.fst : Int) ∧ True) ∧
 (Is (byts x_2.fst) (byts b) ∧ y.snd = x'.snd.snd.snd ∧ True) ∧
 (Is (syms s) (syms s) ∧ True) ∧
 (ByteArray.empty = ByteArray.empty ∧ Is (AV.lit (0 : Nat) (1 : Nat) fun (x x_3 : Nat) => AV.any) nilA ∧ True) ∧
 (x.fst.fst = x'.fst.fst ∧ Is (ints x.fst.snd.fst) (ints x'.fst.snd.fst) ∧ x.fst.snd.snd = x'.fst.snd.snd ∧ True) ∧
 (x.fst.fst = x'.fst.fst ∧ ((0 : Nat) = (0 : Nat) ∧ x.snd.snd.fst.length + (1 : Nat) = x'.snd.snd.fst.length) ∧ True) ∧
 IsO
 (AObj.arr (x.snd.snd.fst.length + (1 : Nat)) (2 : Nat)
 (joinC x.snd.snd.fst.length (cT x.snd.snd.fst) (rowsCell [[st y.fst.fst, terms y.fst.snd]])))
 (arT x'.snd.snd.fst) ∧
 True)
 (Exists fun (y : Pl.TP × Int) =>
 (Pl.TmB (Pl.CB d.toNat) y.fst ∧ p ≤ y.snd ∧ y.snd ≤ p + (↑(Pl.CB d.toNat) : Int)) ∧
 ((x.fst.fst = y.fst.fst ∧ ((0 : Nat) = (0 : Nat) ∧ x.snd.snd.fst.length = y.fst.snd.length) ∧ True) ∧ True) ∧
 (Is (byts b) (byts b) ∧ x.snd.snd.snd = y.snd ∧ True) ∧ IsO (arT x.snd.snd.fst) (arT y.fst.snd) ∧ True)))) = Goal Try.prog [K_pick, (K_l4Any n)] (A_l4Any b p s u d) (K_l4Any (n + 1)).1 (K_l4Any (n + 1)).2 ((b, p, s, u, d)) := by kernel_rfl

theorem vc_l4Some (b : List Int) (p : Int) (s : Pl.Sig) : (((Exists fun (x : List Int × Int × Int) =>
 Rd (1099511627776 : Int) x.fst x.snd.fst ∧
 (((0 : Nat) = (0 : Nat) ∧ (2 : Int) = x.snd.snd ∧ True) ∧ (Is (byts b) (byts x.fst) ∧ p = x.snd.fst ∧ True) ∧ True) ∧
 ∀ (y : Int),
 ((1 : Int) ≤ x.snd.snd → (0 : Int) ≤ y ∧ y < x.snd.snd) ∧ (x.snd.snd < (1 : Int) → y = (0 : Int)) →
 (Exists fun (x_1 : List Int × Int × List Int) =>
 (Rd (1099511627776 : Int) x_1.fst x_1.snd.fst ∧ x_1.snd.snd ≠ [] ∧ Sz x_1.snd.snd) ∧
 (((0 : Nat) = (0 : Nat) ∧
 Is (AV.lit (4 : Nat) (1 : Nat) (rowsCell [[i64 (2 : Int)], [i64 (3 : Int)], [i64 (1 : Int)], [i64 (4 : Int)]])) (ints x_1.snd.snd) ∧ True) ∧
 (Is (byts x.fst) (byts x_1.fst) ∧ x.snd.fst + (1 : Int) = x_1.snd.fst ∧ True) ∧ True) ∧
 ∀ (y_1 : Int),
 y_1 ∈ x_1.snd.snd →
 (Exists fun (x : AX) =>
 (Rd (137438953472 : Int) x.fst x.snd.fst ∧
 x.snd.fst + (↑(Pl.CB x.snd.snd.snd.snd.toNat) : Int) ≤ (137438953472 : Int) ∧ Pl.SgB (5 : Nat) (2 : Nat) x.snd.snd.fst ∧ x.snd.snd.snd.snd ≤ (4 : Int)) ∧
 (((0 : Nat) = (0 : Nat) ∧ (Is (syms s) (syms x.snd.snd.fst) ∧ True) ∧ y = x.snd.snd.snd.fst ∧ y_1 = x.snd.snd.snd.snd ∧ True) ∧
 (Is (byts x_1.fst) (byts x.fst) ∧ x_1.snd.fst + (1 : Int) = x.snd.fst ∧ True) ∧ True) ∧
 ∀ (y : Pl.TP × Int),
 Pl.TmB (Pl.CB x.snd.snd.snd.snd.toNat) y.fst ∧ x.snd.fst ≤ y.snd ∧ y.snd ≤ x.snd.fst + (↑(Pl.CB x.snd.snd.snd.snd.toNat) : Int) →
 Exists fun (x_2 : List Int × Int × Int) =>
 Rd (1099511627776 : Int) x_2.fst x_2.snd.fst ∧
 (((0 : Nat) = (0 : Nat) ∧ (48 : Int) = x_2.snd.snd ∧ True) ∧ (Is (byts x.fst) (byts x_2.fst) ∧ y.snd = x_2.snd.fst ∧ True) ∧ True) ∧
 ∀ (y_2 : Int),
 ((1 : Int) ≤ x_2.snd.snd → (0 : Int) ≤ y_2 ∧ y_2 < x_2.snd.snd) ∧ (x_2.snd.snd < (1 : Int) → y_2 = (0 : Int)) →
 condP (y_2 == (0 : Int))
 (Exists fun (x : List Int × Int × List ByteArray) =>
 (Rd (1099511627776 : Int) x.fst x.snd.fst ∧ x.snd.snd ≠ [] ∧ Sz x.snd.snd) ∧
 (((0 : Nat) = (0 : Nat) ∧
 Is
 (AV.lit (4 : Nat) (1 : Nat)
 (rowsCell
 [[st (ByteArray.mk #[])], [st (ByteArray.mk #[(65 : UInt8)])],
 [st (ByteArray.mk #[(97 : UInt8), (98 : UInt8), (99 : UInt8)])], [st (ByteArray.mk #[(102 : UInt8)])]]))
 (strs x.snd.snd) ∧
 True) ∧
 (Is (byts x_2.fst) (byts x.fst) ∧ x_2.snd.fst + (1 : Int) = x.snd.fst ∧ True) ∧ True) ∧
 ∀ (y_3 : ByteArray),
 y_3 ∈ x.snd.snd →
 Exists fun (y_4 : Pl.TP × Int) =>
 (Pl.TmB (1500 : Nat) y_4.fst ∧ p ≤ y_4.snd ∧ y_4.snd ≤ p + (500 : Int)) ∧
 (0 : Nat) + y.fst.snd.length ≤ y.fst.snd.length ∧
 ((y_3 = y_4.fst.fst ∧ Is (terms y.fst.snd) (terms y_4.fst.snd) ∧ True) ∧ True) ∧
 (Is (byts x.fst) (byts b) ∧ x.snd.fst + (1 : Int) = y_4.snd ∧ True) ∧ True)
 (condP (y_2 == (1 : Int))
 (Exists fun (x : Pl.TP) =>
 SmT (Pl.Tree.mk x.fst x.snd) ∧
 (((y.fst.fst = x.fst ∧ ((0 : Nat) = (0 : Nat) ∧ y.fst.snd.length = x.snd.length) ∧ True) ∧ True) ∧
 IsO (arT y.fst.snd) (arT x.snd) ∧ True) ∧
 ∀ (y_3 : Unit),
 True →
 (0 : Nat) + y.fst.snd.length ≤ x.snd.length ∧
 (y.fst.snd.length + (1 : Nat)) * (40 : Nat) ≤ (70368744177664 : Nat) ∧
 Exists fun (y_4 : Pl.TP × Int) =>
 (Pl.TmB (1500 : Nat) y_4.fst ∧ p ≤ y_4.snd ∧ y_4.snd ≤ p + (500 : Int)) ∧
 (0 : Nat) + (y.fst.snd.length + (1 : Nat)) ≤ y.fst.snd.length + (1 : Nat) ∧
 ((y.fst.fst = y_4.fst.fst ∧
 Is
 (AV.sl (y.fst.snd.length + (1 : Nat)) (2 : Nat) fun (i j : Nat) =>
 joinC y.fst.snd.length (cT x.snd) (rowsCell [[st x.fst, terms x.snd]]) i j)
 (terms y_4.fst.snd) ∧
 True) ∧
 True) ∧
 (Is (byts x_2.fst) (byts b) ∧ x_2.snd.fst + (1 : Int) = y_4.snd ∧ True) ∧ True)
 (condP (y_2 == (2 : Int))
 (Exists fun (x : Pl.TP) =>
 SmT (Pl.Tree.mk x.fst x.snd) ∧
 (((y.fst.fst = x.fst ∧ ((0 : Nat) = (0 : Nat) ∧ y.fst.snd.length = x.snd.length) ∧ True) ∧ True) ∧
 IsO (arT y.fst.snd) (arT x.snd) ∧ True) ∧
 ∀ (y_3 : Unit),
 True →
 Exists fun (x_3 : Pl.TP) =>
 SmT (Pl.Tree.mk x_3.fst x_3.snd) ∧
 (((y.fst.fst = x_3.fst ∧ ((0 : Nat) = (0 : Nat) ∧ y.fst.snd.length = x_3.snd.length) ∧ True) ∧ True) ∧
 IsO (arT x.snd) (arT x_3.snd) ∧ True) ∧
 ∀ (y_4 : Unit),
 True →
 (0 : Nat) + y.fst.snd.length ≤ x_3.snd.length ∧
 (y.fst.snd.length + (2 : Nat)) * (40 : Nat) ≤ (70368744177664 : Nat) ∧
 Exists fun (y_5 : Pl.TP × Int) =>
 (Pl.TmB (1500 : Nat) y_5.fst ∧ p ≤ y_5.snd ∧ y_5.snd ≤ p + (500 : Int)) ∧
 (0 : Nat) + (y.fst.snd.length + (2 : Nat)) ≤ y.fst.snd.length + (2 : Nat) ∧
 ((y.fst.fst = y_5.fst.fst ∧
 Is
 (AV.sl (y.fst.snd.length + (2 : Nat)) (2 : Nat) fun (i j : Nat) =>
 joinC y.fst.snd.length (cT x_3.snd)
 (rowsCell [[st x.fst, terms x.snd], [st x_3.fst, terms x_3.snd]]) i j)
 (terms y_5.fst.snd) ∧
 True) ∧
 True) ∧
 (Is (byts x_2.fst) (byts b) ∧ x_2.snd.fst + (1 : Int) = y_5.snd ∧ True) ∧ True)
 (Exists fun (y_3 : Pl.TP × Int) =>
 (Pl.TmB (1500 : Nat) y_3.fst ∧ p ≤ y_3.snd ∧ y_3.snd ≤ p + (500 : Int)) ∧
 (0 : Nat) + y.fst.snd.length ≤ y.fst.snd.length ∧
 ((y.fst.fst = y_3.fst.fst ∧ Is (terms y.fst.snd) (terms y_3.fst.snd) ∧ True) ∧ True) ∧
 (Is (byts x_2.fst) (byts b) ∧ x_2.snd.fst + (1 : Int) = y_3.snd ∧ True) ∧ True)))) ∧
 Exists fun (x : AX) =>
 (Rd (137438953472 : Int) x.fst x.snd.fst ∧
 x.snd.fst + (↑(Pl.CB x.snd.snd.snd.snd.toNat) : Int) ≤ (137438953472 : Int) ∧ Pl.SgB (5 : Nat) (2 : Nat) x.snd.snd.fst ∧ x.snd.snd.snd.snd ≤ (4 : Int)) ∧
 (((0 : Nat) = (0 : Nat) ∧ (Is (syms s) (syms x.snd.snd.fst) ∧ True) ∧ y = x.snd.snd.snd.fst ∧ y_1 = x.snd.snd.snd.snd ∧ True) ∧
 (Is (byts x_1.fst) (byts x.fst) ∧ x_1.snd.fst + (1 : Int) = x.snd.fst ∧ True) ∧ True) ∧
 ∀ (y : Pl.TP × Int),
 Pl.TmB (Pl.CB x.snd.snd.snd.snd.toNat) y.fst ∧ x.snd.fst ≤ y.snd ∧ y.snd ≤ x.snd.fst + (↑(Pl.CB x.snd.snd.snd.snd.toNat) : Int) →
 Exists fun (x_2 : List Int × Int × Int) =>
 Rd (1099511627776 : Int) x_2.fst x_2.snd.fst ∧
 (((0 : Nat) = (0 : Nat) ∧ (48 : Int) = x_2.snd.snd ∧ True) ∧ (Is (byts x.fst) (byts x_2.fst) ∧ y.snd = x_2.snd.fst ∧ True) ∧ True) ∧
 ∀ (y_2 : Int),
 ((1 : Int) ≤ x_2.snd.snd → (0 : Int) ≤ y_2 ∧ y_2 < x_2.snd.snd) ∧ (x_2.snd.snd < (1 : Int) → y_2 = (0 : Int)) →
 condP (y_2 == (0 : Int))
 (Exists fun (x : List Int × Int × List ByteArray) =>
 (Rd (1099511627776 : Int) x.fst x.snd.fst ∧ x.snd.snd ≠ [] ∧ Sz x.snd.snd) ∧
 (((0 : Nat) = (0 : Nat) ∧
 Is
 (AV.lit (4 : Nat) (1 : Nat)
 (rowsCell
 [[st (ByteArray.mk #[])], [st (ByteArray.mk #[(65 : UInt8)])],
 [st (ByteArray.mk #[(97 : UInt8), (98 : UInt8), (99 : UInt8)])], [st (ByteArray.mk #[(102 : UInt8)])]]))
 (strs x.snd.snd) ∧
 True) ∧
 (Is (byts x_2.fst) (byts x.fst) ∧ x_2.snd.fst + (1 : Int) = x.snd.fst ∧ True) ∧ True) ∧
 ∀ (y_3 : ByteArray),
 y_3 ∈ x.snd.snd →
 Exists fun (y_4 : Pl.TP × Int) =>
 (Pl.TmB (1500 : Nat) y_4.fst ∧ p ≤ y_4.snd ∧ y_4.snd ≤ p + (500 : Int)) ∧
 (0 : Nat) + y.fst.snd.length ≤ y.fst.snd.length ∧
 ((y_3 = y_4.fst.fst ∧ Is (terms y.fst.snd) (terms y_4.fst.snd) ∧ True) ∧ True) ∧
 (Is (byts x.fst) (byts b) ∧ x.snd.fst + (1 : Int) = y_4.snd ∧ True) ∧ True)
 (condP (y_2 == (1 : Int))
 (Exists fun (x : Pl.TP) =>
 SmT (Pl.Tree.mk x.fst x.snd) ∧
 (((y.fst.fst = x.fst ∧ ((0 : Nat) = (0 : Nat) ∧ y.fst.snd.length = x.snd.length) ∧ True) ∧ True) ∧
 IsO (arT y.fst.snd) (arT x.snd) ∧ True) ∧
 ∀ (y_3 : Unit),
 True →
 (0 : Nat) + y.fst.snd.length ≤ x.snd.length ∧
 (y.fst.snd.length + (1 : Nat)) * (40 : Nat) ≤ (70368744177664 : Nat) ∧
 Exists fun (y_4 : Pl.TP × Int) =>
 (Pl.TmB (1500 : Nat) y_4.fst ∧ p ≤ y_4.snd ∧ y_4.snd ≤ p + (500 : Int)) ∧
 (0 : Nat) + (y.fst.snd.length + (1 : Nat)) ≤ y.fst.snd.length + (1 : Nat) ∧
 ((y.fst.fst = y_4.fst.fst ∧
 Is
 (AV.sl (y.fst.snd.length + (1 : Nat)) (2 : Nat) fun (i j : Nat) =>
 joinC y.fst.snd.length (cT x.snd) (rowsCell [[st x.fst, terms x.snd]]) i j)
 (terms y_4.fst.snd) ∧
 True) ∧
 True) ∧
 (Is (byts x_2.fst) (byts b) ∧ x_2.snd.fst + (1 : Int) = y_4.snd ∧ True) ∧ True)
 (condP (y_2 == (2 : Int))
 (Exists fun (x : Pl.TP) =>
 SmT (Pl.Tree.mk x.fst x.snd) ∧
 (((y.fst.fst = x.fst ∧ ((0 : Nat) = (0 : Nat) ∧ y.fst.snd.length = x.snd.length) ∧ True) ∧ True) ∧
 IsO (arT y.fst.snd) (arT x.snd) ∧ True) ∧
 ∀ (y_3 : Unit),
 True →
 Exists fun (x_3 : Pl.TP) =>
 SmT (Pl.Tree.mk x_3.fst x_3.snd) ∧
 (((y.fst.fst = x_3.fst ∧ ((0 : Nat) = (0 : Nat) ∧ y.fst.snd.length = x_3.snd.length) ∧ True) ∧ True) ∧
 IsO (arT x.snd) (arT x_3.snd) ∧ True) ∧
 ∀ (y_4 : Unit),
 True →
 (0 : Nat) + y.fst.snd.length ≤ x_3.snd.length ∧
 (y.fst.snd.length + (2 : Nat)) * (40 : Nat) ≤ (70368744177664 : Nat) ∧
 Exists fun (y_5 : Pl.TP × Int) =>
 (Pl.TmB (1500 : Nat) y_5.fst ∧ p ≤ y_5.snd ∧ y_5.snd ≤ p + (500 : Int)) ∧
 (0 : Nat) + (y.fst.snd.length + (2 : Nat)) ≤ y.fst.snd.length + (2 : Nat) ∧
 ((y.fst.fst = y_5.fst.fst ∧
 Is
 (AV.sl (y.fst.snd.length + (2 : Nat)) (2 : Nat) fun (i j : Nat) =>
 joinC y.fst.snd.length (cT x_3.snd)
 (rowsCell [[st x.fst, terms x.snd], [st x_3.fst, terms x_3.snd]]) i j)
 (terms y_5.fst.snd) ∧
 True) ∧
 True) ∧
 (Is (byts x_2.fst) (byts b) ∧ x_2.snd.fst + (1 : Int) = y_5.snd ∧ True) ∧ True)
 (Exists fun (y_3 : Pl.TP × Int) =>
 (Pl.TmB (1500 : Nat) y_3.fst ∧ p ≤ y_3.snd ∧ y_3.snd ≤ p + (500 : Int)) ∧
 (0 : Nat) + y.fst.snd.length ≤ y.fst.snd.length ∧
 ((y.fst.fst = y_3.fst.fst ∧ Is (terms y.fst.snd) (terms y_3.fst.snd) ∧ True) ∧ True) ∧
 (Is (byts x_2.fst) (byts b) ∧ x_2.snd.fst + (1 : Int) = y_3.snd ∧ True) ∧ True)))) ∧
 Exists fun (x_1 : List Int × Int × List Int) =>
 (Rd (1099511627776 : Int) x_1.fst x_1.snd.fst ∧ x_1.snd.snd ≠ [] ∧ Sz x_1.snd.snd) ∧
 (((0 : Nat) = (0 : Nat) ∧
 Is (AV.lit (4 : Nat) (1 : Nat) (rowsCell [[i64 (2 : Int)], [i64 (3 : Int)], [i64 (1 : Int)], [i64 (4 : Int)]])) (ints x_1.snd.snd) ∧ True) ∧
 (Is (byts x.fst) (byts x_1.fst) ∧ x.snd.fst + (1 : Int) = x_1.snd.fst ∧ True) ∧ True) ∧
 ∀ (y_1 : Int),
 y_1 ∈ x_1.snd.snd →
 Exists fun (x : AX) =>
 (Rd (137438953472 : Int) x.fst x.snd.fst ∧
 x.snd.fst + (↑(Pl.CB x.snd.snd.snd.snd.toNat) : Int) ≤ (137438953472 : Int) ∧ Pl.SgB (5 : Nat) (2 : Nat) x.snd.snd.fst ∧ x.snd.snd.snd.snd ≤ (4 : Int)) ∧
 (((0 : Nat) = (0 : Nat) ∧ (Is (syms s) (syms x.snd.snd.fst) ∧ True) ∧ y = x.snd.snd.snd.fst ∧ y_1 = x.snd.snd.snd.snd ∧ True) ∧
 (Is (byts x_1.fst) (byts x.fst) ∧ x_1.snd.fst + (1 : Int) = x.snd.fst ∧ True) ∧ True) ∧
 ∀ (y : Pl.TP × Int),
 Pl.TmB (Pl.CB x.snd.snd.snd.snd.toNat) y.fst ∧ x.snd.fst ≤ y.snd ∧ y.snd ≤ x.snd.fst + (↑(Pl.CB x.snd.snd.snd.snd.toNat) : Int) →
 Exists fun (x_2 : List Int × Int × Int) =>
 Rd (1099511627776 : Int) x_2.fst x_2.snd.fst ∧
 (((0 : Nat) = (0 : Nat) ∧ (48 : Int) = x_2.snd.snd ∧ True) ∧ (Is (byts x.fst) (byts x_2.fst) ∧ y.snd = x_2.snd.fst ∧ True) ∧ True) ∧
 ∀ (y_2 : Int),
 ((1 : Int) ≤ x_2.snd.snd → (0 : Int) ≤ y_2 ∧ y_2 < x_2.snd.snd) ∧ (x_2.snd.snd < (1 : Int) → y_2 = (0 : Int)) →
 condP (y_2 == (0 : Int))
 (Exists fun (x : List Int × Int × List ByteArray) =>
 (Rd (1099511627776 : Int) x.fst x.snd.fst ∧ x.snd.snd ≠ [] ∧ Sz x.snd.snd) ∧
 (((0 : Nat) = (0 : Nat) ∧
 Is
 (AV.lit (4 : Nat) (1 : Nat)
 (rowsCell
 [[st (ByteArray.mk #[])], [st (ByteArray.mk #[(65 : UInt8)])],
 [st (ByteArray.mk #[(97 : UInt8), (98 : UInt8), (99 : UInt8)])], [st (ByteArray.mk #[(102 : UInt8)])]]))
 (strs x.snd.snd) ∧
 True) ∧
 (Is (byts x_2.fst) (byts x.fst) ∧ x_2.snd.fst + (1 : Int) = x.snd.fst ∧ True) ∧ True) ∧
 ∀ (y_3 : ByteArray),
 y_3 ∈ x.snd.snd →
 Exists fun (y_4 : Pl.TP × Int) =>
 (Pl.TmB (1500 : Nat) y_4.fst ∧ p ≤ y_4.snd ∧ y_4.snd ≤ p + (500 : Int)) ∧
 (0 : Nat) + y.fst.snd.length ≤ y.fst.snd.length ∧
 ((y_3 = y_4.fst.fst ∧ Is (terms y.fst.snd) (terms y_4.fst.snd) ∧ True) ∧ True) ∧
 (Is (byts x.fst) (byts b) ∧ x.snd.fst + (1 : Int) = y_4.snd ∧ True) ∧ True)
 (condP (y_2 == (1 : Int))
 (Exists fun (x : Pl.TP) =>
 SmT (Pl.Tree.mk x.fst x.snd) ∧
 (((y.fst.fst = x.fst ∧ ((0 : Nat) = (0 : Nat) ∧ y.fst.snd.length = x.snd.length) ∧ True) ∧ True) ∧
 IsO (arT y.fst.snd) (arT x.snd) ∧ True) ∧
 ∀ (y_3 : Unit),
 True →
 (0 : Nat) + y.fst.snd.length ≤ x.snd.length ∧
 (y.fst.snd.length + (1 : Nat)) * (40 : Nat) ≤ (70368744177664 : Nat) ∧
 Exists fun (y_4 : Pl.TP × Int) =>
 (Pl.TmB (1500 : Nat) y_4.fst ∧ p ≤ y_4.snd ∧ y_4.snd ≤ p + (500 : Int)) ∧
 (0 : Nat) + (y.fst.snd.length + (1 : Nat)) ≤ y.fst.snd.length + (1 : Nat) ∧
 ((y.fst.fst = y_4.fst.fst ∧
 Is
 (AV.sl (y.fst.snd.length + (1 : Nat)) (2 : Nat) fun (i j : Nat) =>
 joinC y.fst.snd.length (cT x.snd) (rowsCell [[st x.fst, terms x.snd]]) i j)
 (terms y_4.fst.snd) ∧
 True) ∧
 True) ∧
 (Is (byts x_2.fst) (byts b) ∧ x_2.snd.fst + (1 : Int) = y_4.snd ∧ True) ∧ True)
 (condP (y_2 == (2 : Int))
 (Exists fun (x : Pl.TP) =>
 SmT (Pl.Tree.mk x.fst x.snd) ∧
 (((y.fst.fst = x.fst ∧ ((0 : Nat) = (0 : Nat) ∧ y.fst.snd.length = x.snd.length) ∧ True) ∧ True) ∧
 IsO (arT y.fst.snd) (arT x.snd) ∧ True) ∧
 ∀ (y_3 : Unit),
 True →
 Exists fun (x_3 : Pl.TP) =>
 SmT (Pl.Tree.mk x_3.fst x_3.snd) ∧
 (((y.fst.fst = x_3.fst ∧ ((0 : Nat) = (0 : Nat) ∧ y.fst.snd.length = x_3.snd.length) ∧ True) ∧ True) ∧
 IsO (arT x.snd) (arT x_3.snd) ∧ True) ∧
 ∀ (y_4 : Unit),
 True →
 (0 : Nat) + y.fst.snd.length ≤ x_3.snd.length ∧
 (y.fst.snd.length + (2 : Nat)) * (40 : Nat) ≤ (70368744177664 : Nat) ∧
 Exists fun (y_5 : Pl.TP × Int) =>
 (Pl.TmB (1500 : Nat) y_5.fst ∧ p ≤ y_5.snd ∧ y_5.snd ≤ p + (500 : Int)) ∧
 (0 : Nat) + (y.fst.snd.length + (2 : Nat)) ≤ y.fst.snd.length + (2 : Nat) ∧
 ((y.fst.fst = y_5.fst.fst ∧
 Is
 (AV.sl (y.fst.snd.length + (2 : Nat)) (2 : Nat) fun (i j : Nat) =>
 joinC y.fst.snd.length (cT x_3.snd)
 (rowsCell [[st x.fst, terms x.snd], [st x_3.fst, terms x_3.snd]]) i j)
 (terms y_5.fst.snd) ∧
 True) ∧
 True) ∧
 (Is (byts x_2.fst) (byts b) ∧ x_2.snd.fst + (1 : Int) = y_5.snd ∧ True) ∧ True)
 (Exists fun (y_3 : Pl.TP × Int) =>
 (Pl.TmB (1500 : Nat) y_3.fst ∧ p ≤ y_3.snd ∧ y_3.snd ≤ p + (500 : Int)) ∧
 (0 : Nat) + y.fst.snd.length ≤ y.fst.snd.length ∧
 ((y.fst.fst = y_3.fst.fst ∧ Is (terms y.fst.snd) (terms y_3.fst.snd) ∧ True) ∧ True) ∧
 (Is (byts x_2.fst) (byts b) ∧ x_2.snd.fst + (1 : Int) = y_3.snd ∧ True) ∧ True)))) ∧
 Exists fun (x : List Int × Int × Int) =>
 Rd (1099511627776 : Int) x.fst x.snd.fst ∧
 (((0 : Nat) = (0 : Nat) ∧ (2 : Int) = x.snd.snd ∧ True) ∧ (Is (byts b) (byts x.fst) ∧ p = x.snd.fst ∧ True) ∧ True) ∧
 ∀ (y : Int),
 ((1 : Int) ≤ x.snd.snd → (0 : Int) ≤ y ∧ y < x.snd.snd) ∧ (x.snd.snd < (1 : Int) → y = (0 : Int)) →
 Exists fun (x_1 : List Int × Int × List Int) =>
 (Rd (1099511627776 : Int) x_1.fst x_1.snd.fst ∧ x_1.snd.snd ≠ [] ∧ Sz x_1.snd.snd) ∧
 (((0 : Nat) = (0 : Nat) ∧
 Is (AV.lit (4 : Nat) (1 : Nat) (rowsCell [[i64 (2 : Int)], [i64 (3 : Int)], [i64 (1 : Int)], [i64 (4 : Int)]])) (ints x_1.snd.snd) ∧ True) ∧
 (Is (byts x.fst) (byts x_1.fst) ∧ x.snd.fst + (1 : Int) = x_1.snd.fst ∧ True) ∧ True) ∧
 ∀ (y_1 : Int),
 y_1 ∈ x_1.snd.snd →
 Exists fun (x : AX) =>
 (Rd (137438953472 : Int) x.fst x.snd.fst ∧
 x.snd.fst + (↑(Pl.CB x.snd.snd.snd.snd.toNat) : Int) ≤ (137438953472 : Int) ∧ Pl.SgB (5 : Nat) (2 : Nat) x.snd.snd.fst ∧ x.snd.snd.snd.snd ≤ (4 : Int)) ∧
 (((0 : Nat) = (0 : Nat) ∧ (Is (syms s) (syms x.snd.snd.fst) ∧ True) ∧ y = x.snd.snd.snd.fst ∧ y_1 = x.snd.snd.snd.snd ∧ True) ∧
 (Is (byts x_1.fst) (byts x.fst) ∧ x_1.snd.fst + (1 : Int) = x.snd.fst ∧ True) ∧ True) ∧
 ∀ (y : Pl.TP × Int),
 Pl.TmB (Pl.CB x.snd.snd.snd.snd.toNat) y.fst ∧ x.snd.fst ≤ y.snd ∧ y.snd ≤ x.snd.fst + (↑(Pl.CB x.snd.snd.snd.snd.toNat) : Int) →
 Exists fun (x_2 : List Int × Int × Int) =>
 Rd (1099511627776 : Int) x_2.fst x_2.snd.fst ∧
 (((0 : Nat) = (0 : Nat) ∧ (48 : Int) = x_2.snd.snd ∧ True) ∧ (Is (byts x.fst) (byts x_2.fst) ∧ y.snd = x_2.snd.fst ∧ True) ∧ True) ∧
 ∀ (y_2 : Int),
 ((1 : Int) ≤ x_2.snd.snd → (0 : Int) ≤ y_2 ∧ y_2 < x_2.snd.snd) ∧ (x_2.snd.snd < (1 : Int) → y_2 = (0 : Int)) →
 condP (y_2 == (0 : Int))
 (Exists fun (x : List Int × Int × List ByteArray) =>
 (Rd (1099511627776 : Int) x.fst x.snd.fst ∧ x.snd.snd ≠ [] ∧ Sz x.snd.snd) ∧
 (((0 : Nat) = (0 : Nat) ∧
 Is
 (AV.lit (4 : Nat) (1 : Nat)
 (rowsCell
 [[st (ByteArray.mk #[])], [st (ByteArray.mk #[(65 : UInt8)])], [st (ByteArray.mk #[(97 : UInt8), (98 : UInt8), (99 : UInt8)])],
 [st (ByteArray.mk #[(102 : UInt8)])]]))
 (strs x.snd.snd) ∧
 True) ∧
 (Is (byts x_2.fst) (byts x.fst) ∧ x_2.snd.fst + (1 : Int) = x.snd.fst ∧ True) ∧ True) ∧
 ∀ (y_3 : ByteArray),
 y_3 ∈ x.snd.snd →
 Exists fun (y_4 : Pl.TP × Int) =>
 (Pl.TmB (1500 : Nat) y_4.fst ∧ p ≤ y_4.snd ∧ y_4.snd ≤ p + (500 : Int)) ∧
 (0 : Nat) + y.fst.snd.length ≤ y.fst.snd.length ∧
 ((y_3 = y_4.fst.fst ∧ Is (terms y.fst.snd) (terms y_4.fst.snd) ∧ True) ∧ True) ∧
 (Is (byts x.fst) (byts b) ∧ x.snd.fst + (1 : Int) = y_4.snd ∧ True) ∧ True)
 (condP (y_2 == (1 : Int))
 (Exists fun (x : Pl.TP) =>
 SmT (Pl.Tree.mk x.fst x.snd) ∧
 (((y.fst.fst = x.fst ∧ ((0 : Nat) = (0 : Nat) ∧ y.fst.snd.length = x.snd.length) ∧ True) ∧ True) ∧
 IsO (arT y.fst.snd) (arT x.snd) ∧ True) ∧
 ∀ (y_3 : Unit),
 True →
 (0 : Nat) + y.fst.snd.length ≤ x.snd.length ∧
 (y.fst.snd.length + (1 : Nat)) * (40 : Nat) ≤ (70368744177664 : Nat) ∧
 Exists fun (y_4 : Pl.TP × Int) =>
 (Pl.TmB (1500 : Nat) y_4.fst ∧ p ≤ y_4.snd ∧ y_4.snd ≤ p + (500 : Int)) ∧
 (0 : Nat) + (y.fst.snd.length + (1 : Nat)) ≤ y.fst.snd.length + (1 : Nat) ∧
 ((y.fst.fst = y_4.fst.fst ∧
 Is
 (AV.sl (y.fst.snd.length + (1 : Nat)) (2 : Nat) fun (i j : Nat) =>
 joinC y.fst.snd.length (cT x.snd) (rowsCell [[st x.fst, terms x.snd]]) i j)
 (terms y_4.fst.snd) ∧
 True) ∧
 True) ∧
 (Is (byts x_2.fst) (byts b) ∧ x_2.snd.fst + (1 : Int) = y_4.snd ∧ True) ∧ True)
 (condP (y_2 == (2 : Int))
 (Exists fun (x : Pl.TP) =>
 SmT (Pl.Tree.mk x.fst x.snd) ∧
 (((y.fst.fst = x.fst ∧ ((0 : Nat) = (0 : Nat) ∧ y.fst.snd.length = x.snd.length) ∧ True) ∧ True) ∧
 IsO (arT y.fst.snd) (arT x.snd) ∧ True) ∧
 ∀ (y_3 : Unit),
 True →
 Exists fun (x_3 : Pl.TP) =>
 SmT (Pl.Tree.mk x_3.fst x_3.snd) ∧
 (((y.fst.fst = x_3.fst ∧ ((0 : Nat) = (0 : Nat) ∧ y.fst.snd.length = x_3.snd.length) ∧ True) ∧ True) ∧
 IsO (arT x.snd) (arT x_3.snd) ∧ True) ∧
 ∀ (y_4 : Unit),
 True →
 (0 : Nat) + y.fst.snd.length ≤ x_3.snd.length ∧
 (y.fst.snd.length + (2 : Nat)) * (40 : Nat) ≤ (70368744177664 : Nat) ∧
 Exists fun (y_5 : Pl.TP × Int) =>
 (Pl.TmB (1500 : Nat) y_5.fst ∧ p ≤ y_5.snd ∧ y_5.snd ≤ p + (500 : Int)) ∧
 (0 : Nat) + (y.fst.snd.length + (2 : Nat)) ≤ y.fst.snd.length + (2 : Nat) ∧
 ((y.fst.fst = y_5.fst.fst ∧
 Is
 (AV.sl (y.fst.snd.length + (2 : Nat)) (2 : Nat) fun (i j : Nat) =>
 joinC y.fst.snd.length (cT x_3.snd)
 (rowsCell [[st x.fst, terms x.snd], [st x_3.fst, terms x_3.snd]]) i j)
 (terms y_5.fst.snd) ∧
 True) ∧
 True) ∧
 (Is (byts x_2.fst) (byts b) ∧ x_2.snd.fst + (1 : Int) = y_5.snd ∧ True) ∧ True)
 (Exists fun (y_3 : Pl.TP × Int) =>
 (Pl.TmB (1500 : Nat) y_3.fst ∧ p ≤ y_3.snd ∧ y_3.snd ≤ p + (500 : Int)) ∧
 (0 : Nat) + y.fst.snd.length ≤ y.fst.snd.length ∧
 ((y.fst.fst = y_3.fst.fst ∧ Is (terms y.fst.snd) (terms y_3.fst.snd) ∧ True) ∧ True) ∧
 (Is (byts x_2.fst) (byts b) ∧ x_2.snd.fst + (1 : Int) = y_3.snd ∧ True) ∧ True)))) ∧
 (Exists fun (x : List Int × Int × Int) =>
 Rd (1099511627776 : Int) x.fst x.snd.fst ∧
 (((0 : Nat) = (0 : Nat) ∧ (2 : Int) = x.snd.snd ∧ True) ∧ (Is (byts b) (byts x.fst) ∧ p = x.snd.fst ∧ True) ∧ True) ∧
 ∀ (y : Int),
 ((1 : Int) ≤ x.snd.snd → (0 : Int) ≤ y ∧ y < x.snd.snd) ∧ (x.snd.snd < (1 : Int) → y = (0 : Int)) →
 ((Exists fun (x_1 : List Int × Int × List Int) =>
 (Rd (1099511627776 : Int) x_1.fst x_1.snd.fst ∧ x_1.snd.snd ≠ [] ∧ Sz x_1.snd.snd) ∧
 (((0 : Nat) = (0 : Nat) ∧
 Is (AV.lit (4 : Nat) (1 : Nat) (rowsCell [[i64 (2 : Int)], [i64 (3 : Int)], [i64 (1 : Int)], [i64 (4 : Int)]])) (ints x_1.snd.snd) ∧ True) ∧
 (Is (byts x.fst) (byts x_1.fst) ∧ x.snd.fst + (1 : Int) = x_1.snd.fst ∧ True) ∧ True) ∧
 ∀ (y_1 : Int),
 y_1 ∈ x_1.snd.snd →
 (Exists fun (x : AX) =>
 (Rd (137438953472 : Int) x.fst x.snd.fst ∧
 x.snd.fst + (↑(Pl.CB x.snd.snd.snd.snd.toNat) : Int) ≤ (137438953472 : Int) ∧ Pl.SgB (5 : Nat) (2 : Nat) x.snd.snd.fst ∧ x.snd.snd.snd.snd ≤ (4 : Int)) ∧
 (((0 : Nat) = (0 : Nat) ∧ (Is (syms s) (syms x.snd.snd.fst) ∧ True) ∧ y = x.snd.snd.snd.fst ∧ y_1 = x.snd.snd.snd.snd ∧ True) ∧
 (Is (byts x_1.fst) (byts x.fst) ∧ x_1.snd.fst + (1 : Int) = x.snd.fst ∧ True) ∧ True) ∧
 ∀ (y : Pl.TP × Int),
 Pl.TmB (Pl.CB x.snd.snd.snd.snd.toNat) y.fst ∧ x.snd.fst ≤ y.snd ∧ y.snd ≤ x.snd.fst + (↑(Pl.CB x.snd.snd.snd.snd.toNat) : Int) →
 Exists fun (x_2 : List Int × Int × Int) =>
 Rd (1099511627776 : Int) x_2.fst x_2.snd.fst ∧
 (((0 : Nat) = (0 : Nat) ∧ (48 : Int) = x_2.snd.snd ∧ True) ∧ (Is (byts x.fst) (byts x_2.fst) ∧ y.snd = x_2.snd.fst ∧ True) ∧ True) ∧
 ∀ (y_2 : Int),
 ((1 : Int) ≤ x_2.snd.snd → (0 : Int) ≤ y_2 ∧ y_2 < x_2.snd.snd) ∧ (x_2.snd.snd < (1 : Int) → y_2 = (0 : Int)) →
 condP (y_2 == (0 : Int))
 (Exists fun (x : List Int × Int × List ByteArray) =>
 (Rd (1099511627776 : Int) x.fst x.snd.fst ∧ x.snd.snd ≠ [] ∧ Sz x.snd.snd) ∧
 (((0 : Nat) = (0 : Nat) ∧
 Is
 (AV.lit (4 : Nat) (1 : Nat)
 (rowsCell
 [[st (ByteArray.mk #[])], [st (ByteArray.mk #[(65 : UInt8)])],
 [st (ByteArray.mk #[(97 : UInt8), (98 : UInt8), (99 : UInt8)])], [st (ByteArray.mk #[(102 : UInt8)])]]))
 (strs x.snd.snd) ∧
 True) ∧
 (Is (byts x_2.fst) (byts x.fst) ∧ x_2.snd.fst + (1 : Int) = x.snd.fst ∧ True) ∧ True) ∧
 ∀ (y_3 : ByteArray),
 y_3 ∈ x.snd.snd →
 Exists fun (y_4 : Pl.TP × Int) =>
 (Pl.TmB (1500 : Nat) y_4.fst ∧ p ≤ y_4.snd ∧ y_4.snd ≤ p + (500 : Int)) ∧
 (0 : Nat) + y.fst.snd.length ≤ y.fst.snd.length ∧
 ((y_3 = y_4.fst.fst ∧ Is (terms y.fst.snd) (terms y_4.fst.snd) ∧ True) ∧ True) ∧
 (Is (byts x.fst) (byts b) ∧ x.snd.fst + (1 : Int) = y_4.snd ∧ True) ∧ True)
 (condP (y_2 == (1 : Int))
 (Exists fun (x : Pl.TP) =>
 SmT (Pl.Tree.mk x.fst x.snd) ∧
 (((y.fst.fst = x.fst ∧ ((0 : Nat) = (0 : Nat) ∧ y.fst.snd.length = x.snd.length) ∧ True) ∧ True) ∧
 IsO (arT y.fst.snd) (arT x.snd) ∧ True) ∧
 ∀ (y_3 : Unit),
 True →
 (0 : Nat) + y.fst.snd.length ≤ x.snd.length ∧
 (y.fst.snd.length + (1 : Nat)) * (40 : Nat) ≤ (70368744177664 : Nat) ∧
 Exists fun (y_4 : Pl.TP × Int) =>
 (Pl.TmB (1500 : Nat) y_4.fst ∧ p ≤ y_4.snd ∧ y_4.snd ≤ p + (500 : Int)) ∧
 (0 : Nat) + (y.fst.snd.length + (1 : Nat)) ≤ y.fst.snd.length + (1 : Nat) ∧
 ((y.fst.fst = y_4.fst.fst ∧
 Is
 (AV.sl (y.fst.snd.length + (1 : Nat)) (2 : Nat) fun (i j : Nat) =>
 joinC y.fst.snd.length (cT x.snd) (rowsCell [[st x.fst, terms x.snd]]) i j)
 (terms y_4.fst.snd) ∧
 True) ∧
 True) ∧
 (Is (byts x_2.fst) (byts b) ∧ x_2.snd.fst + (1 : Int) = y_4.snd ∧ True) ∧ True)
 (condP (y_2 == (2 : Int))
 (Exists fun (x : Pl.TP) =>
 SmT (Pl.Tree.mk x.fst x.snd) ∧
 (((y.fst.fst = x.fst ∧ ((0 : Nat) = (0 : Nat) ∧ y.fst.snd.length = x.snd.length) ∧ True) ∧ True) ∧
 IsO (arT y.fst.snd) (arT x.snd) ∧ True) ∧
 ∀ (y_3 : Unit),
 True →
 Exists fun (x_3 : Pl.TP) =>
 SmT (Pl.Tree.mk x_3.fst x_3.snd) ∧
 (((y.fst.fst = x_3.fst ∧ ((0 : Nat) = (0 : Nat) ∧ y.fst.snd.length = x_3.snd.length) ∧ True) ∧ True) ∧
 IsO (arT x.snd) (arT x_3.snd) ∧ True) ∧
 ∀ (y_4 : Unit),
 True →
 (0 : Nat) + y.fst.snd.length ≤ x_3.snd.length ∧
 (y.fst.snd.length + (2 : Nat)) * (40 : Nat) ≤ (70368744177664 : Nat) ∧
 Exists fun (y_5 : Pl.TP × Int) =>
 (Pl.TmB (1500 : Nat) y_5.fst ∧ p ≤ y_5.snd ∧ y_5.snd ≤ p + (500 : Int)) ∧
 (0 : Nat) + (y.fst.snd.length + (2 : Nat)) ≤ y.fst.snd.length + (2 : Nat) ∧
 ((y.fst.fst = y_5.fst.fst ∧
 Is
 (AV.sl (y.fst.snd.length + (2 : Nat)) (2 : Nat) fun (i j : Nat) =>
 joinC y.fst.snd.length (cT x_3.snd)
 (rowsCell [[st x.fst, terms x.snd], [st x_3.fst, terms x_3.snd]]) i j)
 (terms y_5.fst.snd) ∧
 True) ∧
 True) ∧
 (Is (byts x_2.fst) (byts b) ∧ x_2.snd.fst + (1 : Int) = y_5.snd ∧ True) ∧ True)
 (Exists fun (y_3 : Pl.TP × Int) =>
 (Pl.TmB (1500 : Nat) y_3.fst ∧ p ≤ y_3.snd ∧ y_3.snd ≤ p + (500 : Int)) ∧
 (0 : Nat) + y.fst.snd.length ≤ y.fst.snd.length ∧
 ((y.fst.fst = y_3.fst.fst ∧ Is (terms y.fst.snd) (terms y_3.fst.snd) ∧ True) ∧ True) ∧
 (Is (byts x_2.fst) (byts b) ∧ x_2.snd.fst + (1 : Int) = y_3.snd ∧ True) ∧ True)))) ∧
 Exists fun (x : AX) =>
 (Rd (137438953472 : Int) x.fst x.snd.fst ∧
 x.snd.fst + (↑(Pl.CB x.snd.snd.snd.snd.toNat) : Int) ≤ (137438953472 : Int) ∧ Pl.SgB (5 : Nat) (2 : Nat) x.snd.snd.fst ∧ x.snd.snd.snd.snd ≤ (4 : Int)) ∧
 (((0 : Nat) = (0 : Nat) ∧ (Is (syms s) (syms x.snd.snd.fst) ∧ True) ∧ y = x.snd.snd.snd.fst ∧ y_1 = x.snd.snd.snd.snd ∧ True) ∧
 (Is (byts x_1.fst) (byts x.fst) ∧ x_1.snd.fst + (1 : Int) = x.snd.fst ∧ True) ∧ True) ∧
 ∀ (y : Pl.TP × Int),
 Pl.TmB (Pl.CB x.snd.snd.snd.snd.toNat) y.fst ∧ x.snd.fst ≤ y.snd ∧ y.snd ≤ x.snd.fst + (↑(Pl.CB x.snd.snd.snd.snd.toNat) : Int) →
 Exists fun (x_2 : List Int × Int × Int) =>
 Rd (1099511627776 : Int) x_2.fst x_2.snd.fst ∧
 (((0 : Nat) = (0 : Nat) ∧ (48 : Int) = x_2.snd.snd ∧ True) ∧ (Is (byts x.fst) (byts x_2.fst) ∧ y.snd = x_2.snd.fst ∧ True) ∧ True) ∧
 ∀ (y_2 : Int),
 ((1 : Int) ≤ x_2.snd.snd → (0 : Int) ≤ y_2 ∧ y_2 < x_2.snd.snd) ∧ (x_2.snd.snd < (1 : Int) → y_2 = (0 : Int)) →
 condP (y_2 == (0 : Int))
 (Exists fun (x : List Int × Int × List ByteArray) =>
 (Rd (1099511627776 : Int) x.fst x.snd.fst ∧ x.snd.snd ≠ [] ∧ Sz x.snd.snd) ∧
 (((0 : Nat) = (0 : Nat) ∧
 Is
 (AV.lit (4 : Nat) (1 : Nat)
 (rowsCell
 [[st (ByteArray.mk #[])], [st (ByteArray.mk #[(65 : UInt8)])],
 [st (ByteArray.mk #[(97 : UInt8), (98 : UInt8), (99 : UInt8)])], [st (ByteArray.mk #[(102 : UInt8)])]]))
 (strs x.snd.snd) ∧
 True) ∧
 (Is (byts x_2.fst) (byts x.fst) ∧ x_2.snd.fst + (1 : Int) = x.snd.fst ∧ True) ∧ True) ∧
 ∀ (y_3 : ByteArray),
 y_3 ∈ x.snd.snd →
 Exists fun (y_4 : Pl.TP × Int) =>
 (Pl.TmB (1500 : Nat) y_4.fst ∧ p ≤ y_4.snd ∧ y_4.snd ≤ p + (500 : Int)) ∧
 (0 : Nat) + y.fst.snd.length ≤ y.fst.snd.length ∧
 ((y_3 = y_4.fst.fst ∧ Is (terms y.fst.snd) (terms y_4.fst.snd) ∧ True) ∧ True) ∧
 (Is (byts x.fst) (byts b) ∧ x.snd.fst + (1 : Int) = y_4.snd ∧ True) ∧ True)
 (condP (y_2 == (1 : Int))
 (Exists fun (x : Pl.TP) =>
 SmT (Pl.Tree.mk x.fst x.snd) ∧
 (((y.fst.fst = x.fst ∧ ((0 : Nat) = (0 : Nat) ∧ y.fst.snd.length = x.snd.length) ∧ True) ∧ True) ∧
 IsO (arT y.fst.snd) (arT x.snd) ∧ True) ∧
 ∀ (y_3 : Unit),
 True →
 (0 : Nat) + y.fst.snd.length ≤ x.snd.length ∧
 (y.fst.snd.length + (1 : Nat)) * (40 : Nat) ≤ (70368744177664 : Nat) ∧
 Exists fun (y_4 : Pl.TP × Int) =>
 (Pl.TmB (1500 : Nat) y_4.fst ∧ p ≤ y_4.snd ∧ y_4.snd ≤ p + (500 : Int)) ∧
 (0 : Nat) + (y.fst.snd.length + (1 : Nat)) ≤ y.fst.snd.length + (1 : Nat) ∧
 ((y.fst.fst = y_4.fst.fst ∧
 Is
 (AV.sl (y.fst.snd.length + (1 : Nat)) (2 : Nat) fun (i j : Nat) =>
 joinC y.fst.snd.length (cT x.snd) (rowsCell [[st x.fst, terms x.snd]]) i j)
 (terms y_4.fst.snd) ∧
 True) ∧
 True) ∧
 (Is (byts x_2.fst) (byts b) ∧ x_2.snd.fst + (1 : Int) = y_4.snd ∧ True) ∧ True)
 (condP (y_2 == (2 : Int))
 (Exists fun (x : Pl.TP) =>
 SmT (Pl.Tree.mk x.fst x.snd) ∧
 (((y.fst.fst = x.fst ∧ ((0 : Nat) = (0 : Nat) ∧ y.fst.snd.length = x.snd.length) ∧ True) ∧ True) ∧
 IsO (arT y.fst.snd) (arT x.snd) ∧ True) ∧
 ∀ (y_3 : Unit),
 True →
 Exists fun (x_3 : Pl.TP) =>
 SmT (Pl.Tree.mk x_3.fst x_3.snd) ∧
 (((y.fst.fst = x_3.fst ∧ ((0 : Nat) = (0 : Nat) ∧ y.fst.snd.length = x_3.snd.length) ∧ True) ∧ True) ∧
 IsO (arT x.snd) (arT x_3.snd) ∧ True) ∧
 ∀ (y_4 : Unit),
 True →
 (0 : Nat) + y.fst.snd.length ≤ x_3.snd.length ∧
 (y.fst.snd.length + (2 : Nat)) * (40 : Nat) ≤ (70368744177664 : Nat) ∧
 Exists fun (y_5 : Pl.TP × Int) =>
 (Pl.TmB (1500 : Nat) y_5.fst ∧ p ≤ y_5.snd ∧ y_5.snd ≤ p + (500 : Int)) ∧
 (0 : Nat) + (y.fst.snd.length + (2 : Nat)) ≤ y.fst.snd.length + (2 : Nat) ∧
 ((y.fst.fst = y_5.fst.fst ∧
 Is
 (AV.sl (y.fst.snd.length + (2 : Nat)) (2 : Nat) fun (i j : Nat) =>
 joinC y.fst.snd.length (cT x_3.snd)
 (rowsCell [[st x.fst, terms x.snd], [st x_3.fst, terms x_3.snd]]) i j)
 (terms y_5.fst.snd) ∧
 True) ∧
 True) ∧
 (Is (byts x_2.fst) (byts b) ∧ x_2.snd.fst + (1 : Int) = y_5.snd ∧ True) ∧ True)
 (Exists fun (y_3 : Pl.TP × Int) =>
 (Pl.TmB (1500 : Nat) y_3.fst ∧ p ≤ y_3.snd ∧ y_3.snd ≤ p + (500 : Int)) ∧
 (0 : Nat) + y.fst.snd.length ≤ y.fst.snd.length ∧
 ((y.fst.fst = y_3.fst.fst ∧ Is (terms y.fst.snd) (terms y_3.fst.snd) ∧ True) ∧ True) ∧
 (Is (byts x_2.fst) (byts b) ∧ x_2.snd.fst + (1 : Int) = y_3.snd ∧ True) ∧ True)))) ∧
 Exists fun (x_1 : List Int × Int × List Int) =>
 (Rd (1099511627776 : Int) x_1.fst x_1.snd.fst ∧ x_1.snd.snd ≠ [] ∧ Sz x_1.snd.snd) ∧
 (((0 : Nat) = (0 : Nat) ∧
 Is (AV.lit (4 : Nat) (1 : Nat) (rowsCell [[i64 (2 : Int)], [i64 (3 : Int)], [i64 (1 : Int)], [i64 (4 : Int)]])) (ints x_1.snd.snd) ∧ True) ∧
 (Is (byts x.fst) (byts x_1.fst) ∧ x.snd.fst + (1 : Int) = x_1.snd.fst ∧ True) ∧ True) ∧
 ∀ (y_1 : Int),
 y_1 ∈ x_1.snd.snd →
 Exists fun (x : AX) =>
 (Rd (137438953472 : Int) x.fst x.snd.fst ∧
 x.snd.fst + (↑(Pl.CB x.snd.snd.snd.snd.toNat) : Int) ≤ (137438953472 : Int) ∧ Pl.SgB (5 : Nat) (2 : Nat) x.snd.snd.fst ∧ x.snd.snd.snd.snd ≤ (4 : Int)) ∧
 (((0 : Nat) = (0 : Nat) ∧ (Is (syms s) (syms x.snd.snd.fst) ∧ True) ∧ y = x.snd.snd.snd.fst ∧ y_1 = x.snd.snd.snd.snd ∧ True) ∧
 (Is (byts x_1.fst) (byts x.fst) ∧ x_1.snd.fst + (1 : Int) = x.snd.fst ∧ True) ∧ True) ∧
 ∀ (y : Pl.TP × Int),
 Pl.TmB (Pl.CB x.snd.snd.snd.snd.toNat) y.fst ∧ x.snd.fst ≤ y.snd ∧ y.snd ≤ x.snd.fst + (↑(Pl.CB x.snd.snd.snd.snd.toNat) : Int) →
 Exists fun (x_2 : List Int × Int × Int) =>
 Rd (1099511627776 : Int) x_2.fst x_2.snd.fst ∧
 (((0 : Nat) = (0 : Nat) ∧ (48 : Int) = x_2.snd.snd ∧ True) ∧ (Is (byts x.fst) (byts x_2.fst) ∧ y.snd = x_2.snd.fst ∧ True) ∧ True) ∧
 ∀ (y_2 : Int),
 ((1 : Int) ≤ x_2.snd.snd → (0 : Int) ≤ y_2 ∧ y_2 < x_2.snd.snd) ∧ (x_2.snd.snd < (1 : Int) → y_2 = (0 : Int)) →
 condP (y_2 == (0 : Int))
 (Exists fun (x : List Int × Int × List ByteArray) =>
 (Rd (1099511627776 : Int) x.fst x.snd.fst ∧ x.snd.snd ≠ [] ∧ Sz x.snd.snd) ∧
 (((0 : Nat) = (0 : Nat) ∧
 Is
 (AV.lit (4 : Nat) (1 : Nat)
 (rowsCell
 [[st (ByteArray.mk #[])], [st (ByteArray.mk #[(65 : UInt8)])],
 [st (ByteArray.mk #[(97 : UInt8), (98 : UInt8), (99 : UInt8)])], [st (ByteArray.mk #[(102 : UInt8)])]]))
 (strs x.snd.snd) ∧
 True) ∧
 (Is (byts x_2.fst) (byts x.fst) ∧ x_2.snd.fst + (1 : Int) = x.snd.fst ∧ True) ∧ True) ∧
 ∀ (y_3 : ByteArray),
 y_3 ∈ x.snd.snd →
 Exists fun (y_4 : Pl.TP × Int) =>
 (Pl.TmB (1500 : Nat) y_4.fst ∧ p ≤ y_4.snd ∧ y_4.snd ≤ p + (500 : Int)) ∧
 (0 : Nat) + y.fst.snd.length ≤ y.fst.snd.length ∧
 ((y_3 = y_4.fst.fst ∧ Is (terms y.fst.snd) (terms y_4.fst.snd) ∧ True) ∧ True) ∧
 (Is (byts x.fst) (byts b) ∧ x.snd.fst + (1 : Int) = y_4.snd ∧ True) ∧ True)
 (condP (y_2 == (1 : Int))
 (Exists fun (x : Pl.TP) =>
 SmT (Pl.Tree.mk x.fst x.snd) ∧
 (((y.fst.fst = x.fst ∧ ((0 : Nat) = (0 : Nat) ∧ y.fst.snd.length = x.snd.length) ∧ True) ∧ True) ∧
 IsO (arT y.fst.snd) (arT x.snd) ∧ True) ∧
 ∀ (y_3 : Unit),
 True →
 (0 : Nat) + y.fst.snd.length ≤ x.snd.length ∧
 (y.fst.snd.length + (1 : Nat)) * (40 : Nat) ≤ (70368744177664 : Nat) ∧
 Exists fun (y_4 : Pl.TP × Int) =>
 (Pl.TmB (1500 : Nat) y_4.fst ∧ p ≤ y_4.snd ∧ y_4.snd ≤ p + (500 : Int)) ∧
 (0 : Nat) + (y.fst.snd.length + (1 : Nat)) ≤ y.fst.snd.length + (1 : Nat) ∧
 ((y.fst.fst = y_4.fst.fst ∧
 Is
 (AV.sl (y.fst.snd.length + (1 : Nat)) (2 : Nat) fun (i j : Nat) =>
 joinC y.fst.snd.length (cT x.snd) (rowsCell [[st x.fst, terms x.snd]]) i j)
 (terms y_4.fst.snd) ∧
 True) ∧
 True) ∧
 (Is (byts x_2.fst) (byts b) ∧ x_2.snd.fst + (1 : Int) = y_4.snd ∧ True) ∧ True)
 (condP (y_2 == (2 : Int))
 (Exists fun (x : Pl.TP) =>
 SmT (Pl.Tree.mk x.fst x.snd) ∧
 (((y.fst.fst = x.fst ∧ ((0 : Nat) = (0 : Nat) ∧ y.fst.snd.length = x.snd.length) ∧ True) ∧ True) ∧
 IsO (arT y.fst.snd) (arT x.snd) ∧ True) ∧
 ∀ (y_3 : Unit),
 True →
 Exists fun (x_3 : Pl.TP) =>
 SmT (Pl.Tree.mk x_3.fst x_3.snd) ∧
 (((y.fst.fst = x_3.fst ∧ ((0 : Nat) = (0 : Nat) ∧ y.fst.snd.length = x_3.snd.length) ∧ True) ∧ True) ∧
 IsO (arT x.snd) (arT x_3.snd) ∧ True) ∧
 ∀ (y_4 : Unit),
 True →
 (0 : Nat) + y.fst.snd.length ≤ x_3.snd.length ∧
 (y.fst.snd.length + (2 : Nat)) * (40 : Nat) ≤ (70368744177664 : Nat) ∧
 Exists fun (y_5 : Pl.TP × Int) =>
 (Pl.TmB (1500 : Nat) y_5.fst ∧ p ≤ y_5.snd ∧ y_5.snd ≤ p + (500 : Int)) ∧
 (0 : Nat) + (y.fst.snd.length + (2 : Nat)) ≤ y.fst.snd.length + (2 : Nat) ∧
 ((y.fst.fst = y_5.fst.fst ∧
 Is
 (AV.sl (y.fst.snd.length + (2 : Nat)) (2 : Nat) fun (i j : Nat) =>
 joinC y.fst.snd.length (cT x_3.snd)
 (rowsCell [[st x.fst, terms x.snd], [st x_3.fst, terms x_3.snd]]) i j)
 (terms y_5.fst.snd) ∧
 True) ∧
 True) ∧
 (Is (byts x_2.fst) (byts b) ∧ x_2.snd.fst + (1 : Int) = y_5.snd ∧ True) ∧ True)
 (Exists fun (y_3 : Pl.TP × Int) =>
 (Pl.TmB (1500 : Nat) y_3.fst ∧ p ≤ y_3.snd ∧ y_3.snd ≤ p + (500 : Int)) ∧
 (0 : Nat) + y.fst.snd.length ≤ y.fst.snd.length ∧
 ((y.fst.fst = y_3.fst.fst ∧ Is (terms y.fst.snd) (terms y_3.fst.snd) ∧ True) ∧ True) ∧
 (Is (byts x_2.fst) (byts b) ∧ x_2.snd.fst + (1 : Int) = y_3.snd ∧ True) ∧ True)))) ∧
 (Exists fun (x_1 : List Int × Int × List Int) =>
 (Rd (1099511627776 : Int) x_1.fst x_1.snd.fst ∧ x_1.snd.snd ≠ [] ∧ Sz x_1.snd.snd) ∧
 (((0 : Nat) = (0 : Nat) ∧
 Is (AV.lit (4 : Nat) (1 : Nat) (rowsCell [[i64 (2 : Int)], [i64 (3 : Int)], [i64 (1 : Int)], [i64 (4 : Int)]])) (ints x_1.snd.snd) ∧ True) ∧
 (Is (byts x.fst) (byts x_1.fst) ∧ x.snd.fst + (1 : Int) = x_1.snd.fst ∧ True) ∧ True) ∧
 ∀ (y_1 : Int),
 y_1 ∈ x_1.snd.snd →
 (Exists fun (x : AX) =>
 (Rd (137438953472 : Int) x.fst x.snd.fst ∧
 x.snd.fst + (↑(Pl.CB x.snd.snd.snd.snd.toNat) : Int) ≤ (137438953472 : Int) ∧ Pl.SgB (5 : Nat) (2 : Nat) x.snd.snd.fst ∧ x.snd.snd.snd.snd ≤ (4 : Int)) ∧
 (((0 : Nat) = (0 : Nat) ∧ (Is (syms s) (syms x.snd.snd.fst) ∧ True) ∧ y = x.snd.snd.snd.fst ∧ y_1 = x.snd.snd.snd.snd ∧ True) ∧
 (Is (byts x_1.fst) (byts x.fst) ∧ x_1.snd.fst + (1 : Int) = x.snd.fst ∧ True) ∧ True) ∧
 ∀ (y : Pl.TP × Int),
 Pl.TmB (Pl.CB x.snd.snd.snd.snd.toNat) y.fst ∧ x.snd.fst ≤ y.snd ∧ y.snd ≤ x.snd.fst + (↑(Pl.CB x.snd.snd.snd.snd.toNat) : Int) →
 Exists fun (x_2 : List Int × Int × Int) =>
 Rd (1099511627776 : Int) x_2.fst x_2.snd.fst ∧
 (((0 : Nat) = (0 : Nat) ∧ (48 : Int) = x_2.snd.snd ∧ True) ∧ (Is (byts x.fst) (byts x_2.fst) ∧ y.snd = x_2.snd.fst ∧ True) ∧ True) ∧
 ∀ (y_2 : Int),
 ((1 : Int) ≤ x_2.snd.snd → (0 : Int) ≤ y_2 ∧ y_2 < x_2.snd.snd) ∧ (x_2.snd.snd < (1 : Int) → y_2 = (0 : Int)) →
 condP (y_2 == (0 : Int))
 (Exists fun (x : List Int × Int × List ByteArray) =>
 (Rd (1099511627776 : Int) x.fst x.snd.fst ∧ x.snd.snd ≠ [] ∧ Sz x.snd.snd) ∧
 (((0 : Nat) = (0 : Nat) ∧
 Is
 (AV.lit (4 : Nat) (1 : Nat)
 (rowsCell
 [[st (ByteArray.mk #[])], [st (ByteArray.mk #[(65 : UInt8)])],
 [st (ByteArray.mk #[(97 : UInt8), (98 : UInt8), (99 : UInt8)])], [st (ByteArray.mk #[(102 : UInt8)])]]))
 (strs x.snd.snd) ∧
 True) ∧
 (Is (byts x_2.fst) (byts x.fst) ∧ x_2.snd.fst + (1 : Int) = x.snd.fst ∧ True) ∧ True) ∧
 ∀ (y_3 : ByteArray),
 y_3 ∈ x.snd.snd →
 Exists fun (y_4 : Pl.TP × Int) =>
 (Pl.TmB (1500 : Nat) y_4.fst ∧ p ≤ y_4.snd ∧ y_4.snd ≤ p + (500 : Int)) ∧
 (0 : Nat) + y.fst.snd.length ≤ y.fst.snd.length ∧
 ((y_3 = y_4.fst.fst ∧ Is (terms y.fst.snd) (terms y_4.fst.snd) ∧ True) ∧ True) ∧
 (Is (byts x.fst) (byts b) ∧ x.snd.fst + (1 : Int) = y_4.snd ∧ True) ∧ True)
 (condP (y_2 == (1 : Int))
 (Exists fun (x : Pl.TP) =>
 SmT (Pl.Tree.mk x.fst x.snd) ∧
 (((y.fst.fst = x.fst ∧ ((0 : Nat) = (0 : Nat) ∧ y.fst.snd.length = x.snd.length) ∧ True) ∧ True) ∧
 IsO (arT y.fst.snd) (arT x.snd) ∧ True) ∧
 ∀ (y_3 : Unit),
 True →
 (0 : Nat) + y.fst.snd.length ≤ x.snd.length ∧
 (y.fst.snd.length + (1 : Nat)) * (40 : Nat) ≤ (70368744177664 : Nat) ∧
 Exists fun (y_4 : Pl.TP × Int) =>
 (Pl.TmB (1500 : Nat) y_4.fst ∧ p ≤ y_4.snd ∧ y_4.snd ≤ p + (500 : Int)) ∧
 (0 : Nat) + (y.fst.snd.length + (1 : Nat)) ≤ y.fst.snd.length + (1 : Nat) ∧
 ((y.fst.fst = y_4.fst.fst ∧
 Is
 (AV.sl (y.fst.snd.length + (1 : Nat)) (2 : Nat) fun (i j : Nat) =>
 joinC y.fst.snd.length (cT x.snd) (rowsCell [[st x.fst, terms x.snd]]) i j)
 (terms y_4.fst.snd) ∧
 True) ∧
 True) ∧
 (Is (byts x_2.fst) (byts b) ∧ x_2.snd.fst + (1 : Int) = y_4.snd ∧ True) ∧ True)
 (condP (y_2 == (2 : Int))
 (Exists fun (x : Pl.TP) =>
 SmT (Pl.Tree.mk x.fst x.snd) ∧
 (((y.fst.fst = x.fst ∧ ((0 : Nat) = (0 : Nat) ∧ y.fst.snd.length = x.snd.length) ∧ True) ∧ True) ∧
 IsO (arT y.fst.snd) (arT x.snd) ∧ True) ∧
 ∀ (y_3 : Unit),
 True →
 Exists fun (x_3 : Pl.TP) =>
 SmT (Pl.Tree.mk x_3.fst x_3.snd) ∧
 (((y.fst.fst = x_3.fst ∧ ((0 : Nat) = (0 : Nat) ∧ y.fst.snd.length = x_3.snd.length) ∧ True) ∧ True) ∧
 IsO (arT x.snd) (arT x_3.snd) ∧ True) ∧
 ∀ (y_4 : Unit),
 True →
 (0 : Nat) + y.fst.snd.length ≤ x_3.snd.length ∧
 (y.fst.snd.length + (2 : Nat)) * (40 : Nat) ≤ (70368744177664 : Nat) ∧
 Exists fun (y_5 : Pl.TP × Int) =>
 (Pl.TmB (1500 : Nat) y_5.fst ∧ p ≤ y_5.snd ∧ y_5.snd ≤ p + (500 : Int)) ∧
 (0 : Nat) + (y.fst.snd.length + (2 : Nat)) ≤ y.fst.snd.length + (2 : Nat) ∧
 ((y.fst.fst = y_5.fst.fst ∧
 Is
 (AV.sl (y.fst.snd.length + (2 : Nat)) (2 : Nat) fun (i j : Nat) =>
 joinC y.fst.snd.length (cT x_3.snd)
 (rowsCell [[st x.fst, terms x.snd], [st x_3.fst, terms x_3.snd]]) i j)
 (terms y_5.fst.snd) ∧
 True) ∧
 True) ∧
 (Is (byts x_2.fst) (byts b) ∧ x_2.snd.fst + (1 : Int) = y_5.snd ∧ True) ∧ True)
 (Exists fun (y_3 : Pl.TP × Int) =>
 (Pl.TmB (1500 : Nat) y_3.fst ∧ p ≤ y_3.snd ∧ y_3.snd ≤ p + (500 : Int)) ∧
 (0 : Nat) + y.fst.snd.length ≤ y.fst.snd.length ∧
 ((y.fst.fst = y_3.fst.fst ∧ Is (terms y.fst.snd) (terms y_3.fst.snd) ∧ True) ∧ True) ∧
 (Is (byts x_2.fst) (byts b) ∧ x_2.snd.fst + (1 : Int) = y_3.snd ∧ True) ∧ True)))) ∧
 Exists fun (x : AX) =>
 (Rd (137438953472 : Int) x.fst x.snd.fst ∧
 x.snd.fst + (↑(Pl.CB x.snd.snd.snd.snd.toNat) : Int) ≤ (137438953472 : Int) ∧ Pl.SgB (5 : Nat) (2 : Nat) x.snd.snd.fst ∧ x.snd.snd.snd.snd ≤ (4 : Int)) ∧
 (((0 : Nat) = (0 : Nat) ∧ (Is (syms s) (syms x.snd.snd.fst) ∧ True) ∧ y = x.snd.snd.snd.fst ∧ y_1 = x.snd.snd.snd.snd ∧ True) ∧
 (Is (byts x_1.fst) (byts x.fst) ∧ x_1.snd.fst + (1 : Int) = x.snd.fst ∧ True) ∧ True) ∧
 ∀ (y : Pl.TP × Int),
 Pl.TmB (Pl.CB x.snd.snd.snd.snd.toNat) y.fst ∧ x.snd.fst ≤ y.snd ∧ y.snd ≤ x.snd.fst + (↑(Pl.CB x.snd.snd.snd.snd.toNat) : Int) →
 Exists fun (x_2 : List Int × Int × Int) =>
 Rd (1099511627776 : Int) x_2.fst x_2.snd.fst ∧
 (((0 : Nat) = (0 : Nat) ∧ (48 : Int) = x_2.snd.snd ∧ True) ∧ (Is (byts x.fst) (byts x_2.fst) ∧ y.snd = x_2.snd.fst ∧ True) ∧ True) ∧
 ∀ (y_2 : Int),
 ((1 : Int) ≤ x_2.snd.snd → (0 : Int) ≤ y_2 ∧ y_2 < x_2.snd.snd) ∧ (x_2.snd.snd < (1 : Int) → y_2 = (0 : Int)) →
 condP (y_2 == (0 : Int))
 (Exists fun (x : List Int × Int × List ByteArray) =>
 (Rd (1099511627776 : Int) x.fst x.snd.fst ∧ x.snd.snd ≠ [] ∧ Sz x.snd.snd) ∧
 (((0 : Nat) = (0 : Nat) ∧
 Is
 (AV.lit (4 : Nat) (1 : Nat)
 (rowsCell
 [[st (ByteArray.mk #[])], [st (ByteArray.mk #[(65 : UInt8)])],
 [st (ByteArray.mk #[(97 : UInt8), (98 : UInt8), (99 : UInt8)])], [st (ByteArray.mk #[(102 : UInt8)])]]))
 (strs x.snd.snd) ∧
 True) ∧
 (Is (byts x_2.fst) (byts x.fst) ∧ x_2.snd.fst + (1 : Int) = x.snd.fst ∧ True) ∧ True) ∧
 ∀ (y_3 : ByteArray),
 y_3 ∈ x.snd.snd →
 Exists fun (y_4 : Pl.TP × Int) =>
 (Pl.TmB (1500 : Nat) y_4.fst ∧ p ≤ y_4.snd ∧ y_4.snd ≤ p + (500 : Int)) ∧
 (0 : Nat) + y.fst.snd.length ≤ y.fst.snd.length ∧
 ((y_3 = y_4.fst.fst ∧ Is (terms y.fst.snd) (terms y_4.fst.snd) ∧ True) ∧ True) ∧
 (Is (byts x.fst) (byts b) ∧ x.snd.fst + (1 : Int) = y_4.snd ∧ True) ∧ True)
 (condP (y_2 == (1 : Int))
 (Exists fun (x : Pl.TP) =>
 SmT (Pl.Tree.mk x.fst x.snd) ∧
 (((y.fst.fst = x.fst ∧ ((0 : Nat) = (0 : Nat) ∧ y.fst.snd.length = x.snd.length) ∧ True) ∧ True) ∧
 IsO (arT y.fst.snd) (arT x.snd) ∧ True) ∧
 ∀ (y_3 : Unit),
 True →
 (0 : Nat) + y.fst.snd.length ≤ x.snd.length ∧
 (y.fst.snd.length + (1 : Nat)) * (40 : Nat) ≤ (70368744177664 : Nat) ∧
 Exists fun (y_4 : Pl.TP × Int) =>
 (Pl.TmB (1500 : Nat) y_4.fst ∧ p ≤ y_4.snd ∧ y_4.snd ≤ p + (500 : Int)) ∧
 (0 : Nat) + (y.fst.snd.length + (1 : Nat)) ≤ y.fst.snd.length + (1 : Nat) ∧
 ((y.fst.fst = y_4.fst.fst ∧
 Is
 (AV.sl (y.fst.snd.length + (1 : Nat)) (2 : Nat) fun (i j : Nat) =>
 joinC y.fst.snd.length (cT x.snd) (rowsCell [[st x.fst, terms x.snd]]) i j)
 (terms y_4.fst.snd) ∧
 True) ∧
 True) ∧
 (Is (byts x_2.fst) (byts b) ∧ x_2.snd.fst + (1 : Int) = y_4.snd ∧ True) ∧ True)
 (condP (y_2 == (2 : Int))
 (Exists fun (x : Pl.TP) =>
 SmT (Pl.Tree.mk x.fst x.snd) ∧
 (((y.fst.fst = x.fst ∧ ((0 : Nat) = (0 : Nat) ∧ y.fst.snd.length = x.snd.length) ∧ True) ∧ True) ∧
 IsO (arT y.fst.snd) (arT x.snd) ∧ True) ∧
 ∀ (y_3 : Unit),
 True →
 Exists fun (x_3 : Pl.TP) =>
 SmT (Pl.Tree.mk x_3.fst x_3.snd) ∧
 (((y.fst.fst = x_3.fst ∧ ((0 : Nat) = (0 : Nat) ∧ y.fst.snd.length = x_3.snd.length) ∧ True) ∧ True) ∧
 IsO (arT x.snd) (arT x_3.snd) ∧ True) ∧
 ∀ (y_4 : Unit),
 True →
 (0 : Nat) + y.fst.snd.length ≤ x_3.snd.length ∧
 (y.fst.snd.length + (2 : Nat)) * (40 : Nat) ≤ (70368744177664 : Nat) ∧
 Exists fun (y_5 : Pl.TP × Int) =>
 (Pl.TmB (1500 : Nat) y_5.fst ∧ p ≤ y_5.snd ∧ y_5.snd ≤ p + (500 : Int)) ∧
 (0 : Nat) + (y.fst.snd.length + (2 : Nat)) ≤ y.fst.snd.length + (2 : Nat) ∧
 ((y.fst.fst = y_5.fst.fst ∧
 Is
 (AV.sl (y.fst.snd.length + (2 : Nat)) (2 : Nat) fun (i j : Nat) =>
 joinC y.fst.snd.length (cT x_3.snd)
 (rowsCell [[st x.fst, terms x.snd], [st x_3.fst, terms x_3.snd]]) i j)
 (terms y_5.fst.snd) ∧
 True) ∧
 True) ∧
 (Is (byts x_2.fst) (byts b) ∧ x_2.snd.fst + (1 : Int) = y_5.snd ∧ True) ∧ True)
 (Exists fun (y_3 : Pl.TP × Int) =>
 (Pl.TmB (1500 : Nat) y_3.fst ∧ p ≤ y_3.snd ∧ y_3.snd ≤ p + (500 : Int)) ∧
 (0 : Nat) + y.fst.snd.length ≤ y.fst.snd.length ∧
 ((y.fst.fst = y_3.fst.fst ∧ Is (terms y.fst.snd) (terms y_3.fst.snd) ∧ True) ∧ True) ∧
 (Is (byts x_2.fst) (byts b) ∧ x_2.snd.fst + (1 : Int) = y_3.snd ∧ True) ∧ True)))) ∧
 (Exists fun (x_1 : List Int × Int × List Int) =>
 (Rd (1099511627776 : Int) x_1.fst x_1.snd.fst ∧ x_1.snd.snd ≠ [] ∧ Sz x_1.snd.snd) ∧
 (((0 : Nat) = (0 : Nat) ∧
 Is (AV.lit (4 : Nat) (1 : Nat) (rowsCell [[i64 (2 : Int)], [i64 (3 : Int)], [i64 (1 : Int)], [i64 (4 : Int)]])) (ints x_1.snd.snd) ∧ True) ∧
 (Is (byts x.fst) (byts x_1.fst) ∧ x.snd.fst + (1 : Int) = x_1.snd.fst ∧ True) ∧ True) ∧
 ∀ (y_1 : Int),
 y_1 ∈ x_1.snd.snd →
 Exists fun (x : AX) =>
 (Rd (137438953472 : Int) x.fst x.snd.fst ∧
 x.snd.fst + (↑(Pl.CB x.snd.snd.snd.snd.toNat) : Int) ≤ (137438953472 : Int) ∧ Pl.SgB (5 : Nat) (2 : Nat) x.snd.snd.fst ∧ x.snd.snd.snd.snd ≤ (4 : Int)) ∧
 (((0 : Nat) = (0 : Nat) ∧ (Is (syms s) (syms x.snd.snd.fst) ∧ True) ∧ y = x.snd.snd.snd.fst ∧ y_1 = x.snd.snd.snd.snd ∧ True) ∧
 (Is (byts x_1.fst) (byts x.fst) ∧ x_1.snd.fst + (1 : Int) = x.snd.fst ∧ True) ∧ True) ∧
 ∀ (y : Pl.TP × Int),
 Pl.TmB (Pl.CB x.snd.snd.snd.snd.toNat) y.fst ∧ x.snd.fst ≤ y.snd ∧ y.snd ≤ x.snd.fst + (↑(Pl.CB x.snd.snd.snd.snd.toNat) : Int) →
 Exists fun (x_2 : List Int × Int × Int) =>
 Rd (1099511627776 : Int) x_2.fst x_2.snd.fst ∧
 (((0 : Nat) = (0 : Nat) ∧ (48 : Int) = x_2.snd.snd ∧ True) ∧ (Is (byts x.fst) (byts x_2.fst) ∧ y.snd = x_2.snd.fst ∧ True) ∧ True) ∧
 ∀ (y_2 : Int),
 ((1 : Int) ≤ x_2.snd.snd → (0 : Int) ≤ y_2 ∧ y_2 < x_2.snd.snd) ∧ (x_2.snd.snd < (1 : Int) → y_2 = (0 : Int)) →
 condP (y_2 == (0 : Int))
 (Exists fun (x : List Int × Int × List ByteArray) =>
 (Rd (1099511627776 : Int) x.fst x.snd.fst ∧ x.snd.snd ≠ [] ∧ Sz x.snd.snd) ∧
 (((0 : Nat) = (0 : Nat) ∧
 Is
 (AV.lit (4 : Nat) (1 : Nat)
 (rowsCell
 [[st (ByteArray.mk #[])], [st (ByteArray.mk #[(65 : UInt8)])],
 [st (ByteArray.mk #[(97 : UInt8), (98 : UInt8), (99 : UInt8)])], [st (ByteArray.mk #[(102 : UInt8)])]]))
 (strs x.snd.snd) ∧
 True) ∧
 (Is (byts x_2.fst) (byts x.fst) ∧ x_2.snd.fst + (1 : Int) = x.snd.fst ∧ True) ∧ True) ∧
 ∀ (y_3 : ByteArray),
 y_3 ∈ x.snd.snd →
 Exists fun (y_4 : Pl.TP × Int) =>
 (Pl.TmB (1500 : Nat) y_4.fst ∧ p ≤ y_4.snd ∧ y_4.snd ≤ p + (500 : Int)) ∧
 (0 : Nat) + y.fst.snd.length ≤ y.fst.snd.length ∧
 ((y_3 = y_4.fst.fst ∧ Is (terms y.fst.snd) (terms y_4.fst.snd) ∧ True) ∧ True) ∧
 (Is (byts x.fst) (byts b) ∧ x.snd.fst + (1 : Int) = y_4.snd ∧ True) ∧ True)
 (condP (y_2 == (1 : Int))
 (Exists fun (x : Pl.TP) =>
 SmT (Pl.Tree.mk x.fst x.snd) ∧
 (((y.fst.fst = x.fst ∧ ((0 : Nat) = (0 : Nat) ∧ y.fst.snd.length = x.snd.length) ∧ True) ∧ True) ∧
 IsO (arT y.fst.snd) (arT x.snd) ∧ True) ∧
 ∀ (y_3 : Unit),
 True →
 (0 : Nat) + y.fst.snd.length ≤ x.snd.length ∧
 (y.fst.snd.length + (1 : Nat)) * (40 : Nat) ≤ (70368744177664 : Nat) ∧
 Exists fun (y_4 : Pl.TP × Int) =>
 (Pl.TmB (1500 : Nat) y_4.fst ∧ p ≤ y_4.snd ∧ y_4.snd ≤ p + (500 : Int)) ∧
 (0 : Nat) + (y.fst.snd.length + (1 : Nat)) ≤ y.fst.snd.length + (1 : Nat) ∧
 ((y.fst.fst = y_4.fst.fst ∧
 Is
 (AV.sl (y.fst.snd.length + (1 : Nat)) (2 : Nat) fun (i j : Nat) =>
 joinC y.fst.snd.length (cT x.snd) (rowsCell [[st x.fst, terms x.snd]]) i j)
 (terms y_4.fst.snd) ∧
 True) ∧
 True) ∧
 (Is (byts x_2.fst) (byts b) ∧ x_2.snd.fst + (1 : Int) = y_4.snd ∧ True) ∧ True)
 (condP (y_2 == (2 : Int))
 (Exists fun (x : Pl.TP) =>
 SmT (Pl.Tree.mk x.fst x.snd) ∧
 (((y.fst.fst = x.fst ∧ ((0 : Nat) = (0 : Nat) ∧ y.fst.snd.length = x.snd.length) ∧ True) ∧ True) ∧
 IsO (arT y.fst.snd) (arT x.snd) ∧ True) ∧
 ∀ (y_3 : Unit),
 True →
 Exists fun (x_3 : Pl.TP) =>
 SmT (Pl.Tree.mk x_3.fst x_3.snd) ∧
 (((y.fst.fst = x_3.fst ∧ ((0 : Nat) = (0 : Nat) ∧ y.fst.snd.length = x_3.snd.length) ∧ True) ∧ True) ∧
 IsO (arT x.snd) (arT x_3.snd) ∧ True) ∧
 ∀ (y_4 : Unit),
 True →
 (0 : Nat) + y.fst.snd.length ≤ x_3.snd.length ∧
 (y.fst.snd.length + (2 : Nat)) * (40 : Nat) ≤ (70368744177664 : Nat) ∧
 Exists fun (y_5 : Pl.TP × Int) =>
 (Pl.TmB (1500 : Nat) y_5.fst ∧ p ≤ y_5.snd ∧ y_5.snd ≤ p + (500 : Int)) ∧
 (0 : Nat) + (y.fst.snd.length + (2 : Nat)) ≤ y.fst.snd.length + (2 : Nat) ∧
 ((y.fst.fst = y_5.fst.fst ∧
 Is
 (AV.sl (y.fst.snd.length + (2 : Nat)) (2 : Nat) fun (i j : Nat) =>
 joinC y.fst.snd.length (cT x_3.snd)
 (rowsCell [[st x.fst, terms x.snd], [st x_3.fst, terms x_3.snd]]) i j)
 (terms y_5.fst.snd) ∧
 True) ∧
 True) ∧
 (Is (byts x_2.fst) (byts b) ∧ x_2.snd.fst + (1 : Int) = y_5.snd ∧ True) ∧ True)
 (Exists fun (y_3 : Pl.TP × Int) =>
 (Pl.TmB (1500 : Nat) y_3.fst ∧ p ≤ y_3.snd ∧ y_3.snd ≤ p + (500 : Int)) ∧
 (0 : Nat) + y.fst.snd.length ≤ y.fst.snd.length ∧
 ((y.fst.fst = y_3.fst.fst ∧ Is (terms y.fst.snd) (terms y_3.fst.snd) ∧ True) ∧ True) ∧
 (Is (byts x_2.fst) (byts b) ∧ x_2.snd.fst + (1 : Int) = y_3.snd ∧ True) ∧ True)))) ∧
 Exists fun (x_1 : List Int × Int × List Int) =>
 (Rd (1099511627776 : Int) x_1.fst x_1.snd.fst ∧ x_1.snd.snd ≠ [] ∧ Sz x_1.snd.snd) ∧
 (((0 : Nat) = (0 : Nat) ∧
 Is (AV.lit (4 : Nat) (1 : Nat) (rowsCell [[i64 (2 : Int)], [i64 (3 : Int)], [i64 (1 : Int)], [i64 (4 : Int)]])) (ints x_1.snd.snd) ∧ True) ∧
 (Is (byts x.fst) (byts x_1.fst) ∧ x.snd.fst + (1 : Int) = x_1.snd.fst ∧ True) ∧ True) ∧
 ∀ (y_1 : Int),
 y_1 ∈ x_1.snd.snd →
 Exists fun (x : AX) =>
 (Rd (137438953472 : Int) x.fst x.snd.fst ∧
 x.snd.fst + (↑(Pl.CB x.snd.snd.snd.snd.toNat) : Int) ≤ (137438953472 : Int) ∧ Pl.SgB (5 : Nat) (2 : Nat) x.snd.snd.fst ∧ x.snd.snd.snd.snd ≤ (4 : Int)) ∧
 (((0 : Nat) = (0 : Nat) ∧ (Is (syms s) (syms x.snd.snd.fst) ∧ True) ∧ y = x.snd.snd.snd.fst ∧ y_1 = x.snd.snd.snd.snd ∧ True) ∧
 (Is (byts x_1.fst) (byts x.fst) ∧ x_1.snd.fst + (1 : Int) = x.snd.fst ∧ True) ∧ True) ∧
 ∀ (y : Pl.TP × Int),
 Pl.TmB (Pl.CB x.snd.snd.snd.snd.toNat) y.fst ∧ x.snd.fst ≤ y.snd ∧ y.snd ≤ x.snd.fst + (↑(Pl.CB x.snd.snd.snd.snd.toNat) : Int) →
 Exists fun (x_2 : List Int × Int × Int) =>
 Rd (1099511627776 : Int) x_2.fst x_2.snd.fst ∧
 (((0 : Nat) = (0 : Nat) ∧ (48 : Int) = x_2.snd.snd ∧ True) ∧ (Is (byts x.fst) (byts x_2.fst) ∧ y.snd = x_2.snd.fst ∧ True) ∧ True) ∧
 ∀ (y_2 : Int),
 ((1 : Int) ≤ x_2.snd.snd → (0 : Int) ≤ y_2 ∧ y_2 < x_2.snd.snd) ∧ (x_2.snd.snd < (1 : Int) → y_2 = (0 : Int)) →
 condP (y_2 == (0 : Int))
 (Exists fun (x : List Int × Int × List ByteArray) =>
 (Rd (1099511627776 : Int) x.fst x.snd.fst ∧ x.snd.snd ≠ [] ∧ Sz x.snd.snd) ∧
 (((0 : Nat) = (0 : Nat) ∧
 Is
 (AV.lit (4 : Nat) (1 : Nat)
 (rowsCell
 [[st (ByteArray.mk #[])], [st (ByteArray.mk #[(65 : UInt8)])],
 [st (ByteArray.mk #[(97 : UInt8), (98 : UInt8), (99 : UInt8)])], [st (ByteArray.mk #[(102 : UInt8)])]]))
 (strs x.snd.snd) ∧
 True) ∧
 (Is (byts x_2.fst) (byts x.fst) ∧ x_2.snd.fst + (1 : Int) = x.snd.fst ∧ True) ∧ True) ∧
 ∀ (y_3 : ByteArray),
 y_3 ∈ x.snd.snd →
 Exists fun (y_4 : Pl.TP × Int) =>
 (Pl.TmB (1500 : Nat) y_4.fst ∧ p ≤ y_4.snd ∧ y_4.snd ≤ p + (500 : Int)) ∧
 (0 : Nat) + y.fst.snd.length ≤ y.fst.snd.length ∧
 ((y_3 = y_4.fst.fst ∧ Is (terms y.fst.snd) (terms y_4.fst.snd) ∧ True) ∧ True) ∧
 (Is (byts x.fst) (byts b) ∧ x.snd.fst + (1 : Int) = y_4.snd ∧ True) ∧ True)
 (condP (y_2 == (1 : Int))
 (Exists fun (x : Pl.TP) =>
 SmT (Pl.Tree.mk x.fst x.snd) ∧
 (((y.fst.fst = x.fst ∧ ((0 : Nat) = (0 : Nat) ∧ y.fst.snd.length = x.snd.length) ∧ True) ∧ True) ∧
 IsO (arT y.fst.snd) (arT x.snd) ∧ True) ∧
 ∀ (y_3 : Unit),
 True →
 (0 : Nat) + y.fst.snd.length ≤ x.snd.length ∧
 (y.fst.snd.length + (1 : Nat)) * (40 : Nat) ≤ (70368744177664 : Nat) ∧
 Exists fun (y_4 : Pl.TP × Int) =>
 (Pl.TmB (1500 : Nat) y_4.fst ∧ p ≤ y_4.snd ∧ y_4.snd ≤ p + (500 : Int)) ∧
 (0 : Nat) + (y.fst.snd.length + (1 : Nat)) ≤ y.fst.snd.length + (1 : Nat) ∧
 ((y.fst.fst = y_4.fst.fst ∧
 Is
 (AV.sl (y.fst.snd.length + (1 : Nat)) (2 : Nat) fun (i j : Nat) =>
 joinC y.fst.snd.length (cT x.snd) (rowsCell [[st x.fst, terms x.snd]]) i j)
 (terms y_4.fst.snd) ∧
 True) ∧
 True) ∧
 (Is (byts x_2.fst) (byts b) ∧ x_2.snd.fst + (1 : Int) = y_4.snd ∧ True) ∧ True)
 (condP (y_2 == (2 : Int))
 (Exists fun (x : Pl.TP) =>
 SmT (Pl.Tree.mk x.fst x.snd) ∧
 (((y.fst.fst = x.fst ∧ ((0 : Nat) = (0 : Nat) ∧ y.fst.snd.length = x.snd.length) ∧ True) ∧ True) ∧
 IsO (arT y.fst.snd) (arT x.snd) ∧ True) ∧
 ∀ (y_3 : Unit),
 True →
 Exists fun (x_3 : Pl.TP) =>
 SmT (Pl.Tree.mk x_3.fst x_3.snd) ∧
 (((y.fst.fst = x_3.fst ∧ ((0 : Nat) = (0 : Nat) ∧ y.fst.snd.length = x_3.snd.length) ∧ True) ∧ True) ∧
 IsO (arT x.snd) (arT x_3.snd) ∧ True) ∧
 ∀ (y_4 : Unit),
 True →
 (0 : Nat) + y.fst.snd.length ≤ x_3.snd.length ∧
 (y.fst.snd.length + (2 : Nat)) * (40 : Nat) ≤ (70368744177664 : Nat) ∧
 Exists fun (y_5 : Pl.TP × Int) =>
 (Pl.TmB (1500 : Nat) y_5.fst ∧ p ≤ y_5.snd ∧ y_5.snd ≤ p + (500 : Int)) ∧
 (0 : Nat) + (y.fst.snd.length + (2 : Nat)) ≤ y.fst.snd.length + (2 : Nat) ∧
 ((y.fst.fst = y_5.fst.fst ∧
 Is
 (AV.sl (y.fst.snd.length + (2 : Nat)) (2 : Nat) fun (i j : Nat) =>
 joinC y.fst.snd.length (cT x_3.snd)
 (rowsCell [[st x.fst, terms x.snd], [st x_3.fst, terms x_3.snd]]) i j)
 (terms y_5.fst.snd) ∧
 True) ∧
 True) ∧
 (Is (byts x_2.fst) (byts b) ∧ x_2.snd.fst + (1 : Int) = y_5.snd ∧ True) ∧ True)
 (Exists fun (y_3 : Pl.TP × Int) =>
 (Pl.TmB (1500 : Nat) y_3.fst ∧ p ≤ y_3.snd ∧ y_3.snd ≤ p + (500 : Int)) ∧
 (0 : Nat) + y.fst.snd.length ≤ y.fst.snd.length ∧
 ((y.fst.fst = y_3.fst.fst ∧ Is (terms y.fst.snd) (terms y_3.fst.snd) ∧ True) ∧ True) ∧
 (Is (byts x_2.fst) (byts b) ∧ x_2.snd.fst + (1 : Int) = y_3.snd ∧ True) ∧ True)))) ∧
 (Exists fun (x : List Int × Int × Int) =>
 Rd (1099511627776 : Int) x.fst x.snd.fst ∧
 (((0 : Nat) = (0 : Nat) ∧ (2 : Int) = x.snd.snd ∧ True) ∧ (Is (byts b) (byts x.fst) ∧ p = x.snd.fst ∧ True) ∧ True) ∧
 ∀ (y : Int),
 ((1 : Int) ≤ x.snd.snd → (0 : Int) ≤ y ∧ y < x.snd.snd) ∧ (x.snd.snd < (1 : Int) → y = (0 : Int)) →
 Exists fun (x_1 : List Int × Int × List Int) =>
 (Rd (1099511627776 : Int) x_1.fst x_1.snd.fst ∧ x_1.snd.snd ≠ [] ∧ Sz x_1.snd.snd) ∧
 (((0 : Nat) = (0 : Nat) ∧
 Is (AV.lit (4 : Nat) (1 : Nat) (rowsCell [[i64 (2 : Int)], [i64 (3 : Int)], [i64 (1 : Int)], [i64 (4 : Int)]])) (ints x_1.snd.snd) ∧ True) ∧
 (Is (byts x.fst) (byts x_1.fst) ∧ x.snd.fst + (1 : Int) = x_1.snd.fst ∧ True) ∧ True) ∧
 ∀ (y_1 : Int),
 y_1 ∈ x_1.snd.snd →
 Exists fun (x : AX) =>
 (Rd (137438953472 : Int) x.fst x.snd.fst ∧
 x.snd.fst + (↑(Pl.CB x.snd.snd.snd.snd.toNat) : Int) ≤ (137438953472 : Int) ∧ Pl.SgB (5 : Nat) (2 : Nat) x.snd.snd.fst ∧ x.snd.snd.snd.snd ≤ (4 : Int)) ∧
 (((0 : Nat) = (0 : Nat) ∧ (Is (syms s) (syms x.snd.snd.fst) ∧ True) ∧ y = x.snd.snd.snd.fst ∧ y_1 = x.snd.snd.snd.snd ∧ True) ∧
 (Is (byts x_1.fst) (byts x.fst) ∧ x_1.snd.fst + (1 : Int) = x.snd.fst ∧ True) ∧ True) ∧
 ∀ (y : Pl.TP × Int),
 Pl.TmB (Pl.CB x.snd.snd.snd.snd.toNat) y.fst ∧ x.snd.fst ≤ y.snd ∧ y.snd ≤ x.snd.fst + (↑(Pl.CB x.snd.snd.snd.snd.toNat) : Int) →
 Exists fun (x_2 : List Int × Int × Int) =>
 Rd (1099511627776 : Int) x_2.fst x_2.snd.fst ∧
 (((0 : Nat) = (0 : Nat) ∧ (48 : Int) = x_2.snd.snd ∧ True) ∧ (Is (byts x.fst) (byts x_2.fst) ∧ y.snd = x_2.snd.fst ∧ True) ∧ True) ∧
 ∀ (y_2 : Int),
 ((1 : Int) ≤ x_2.snd.snd → (0 : Int) ≤ y_2 ∧ y_2 < x_2.snd.snd) ∧ (x_2.snd.snd < (1 : Int) → y_2 = (0 : Int)) →
 condP (y_2 == (0 : Int))
 (Exists fun (x : List Int × Int × List ByteArray) =>
 (Rd (1099511627776 : Int) x.fst x.snd.fst ∧ x.snd.snd ≠ [] ∧ Sz x.snd.snd) ∧
 (((0 : Nat) = (0 : Nat) ∧
 Is
 (AV.lit (4 : Nat) (1 : Nat)
 (rowsCell
 [[st (ByteArray.mk #[])], [st (ByteArray.mk #[(65 : UInt8)])],
 [st (ByteArray.mk #[(97 : UInt8), (98 : UInt8), (99 : UInt8)])], [st (ByteArray.mk #[(102 : UInt8)])]]))
 (strs x.snd.snd) ∧
 True) ∧
 (Is (byts x_2.fst) (byts x.fst) ∧ x_2.snd.fst + (1 : Int) = x.snd.fst ∧ True) ∧ True) ∧
 ∀ (y_3 : ByteArray),
 y_3 ∈ x.snd.snd →
 Exists fun (y_4 : Pl.TP × Int) =>
 (Pl.TmB (1500 : Nat) y_4.fst ∧ p ≤ y_4.snd ∧ y_4.snd ≤ p + (500 : Int)) ∧
 (0 : Nat) + y.fst.snd.length ≤ y.fst.snd.length ∧
 ((y_3 = y_4.fst.fst ∧ Is (terms y.fst.snd) (terms y_4.fst.snd) ∧ True) ∧ True) ∧
 (Is (byts x.fst) (byts b) ∧ x.snd.fst + (1 : Int) = y_4.snd ∧ True) ∧ True)
 (condP (y_2 == (1 : Int))
 (Exists fun (x : Pl.TP) =>
 SmT (Pl.Tree.mk x.fst x.snd) ∧
 (((y.fst.fst = x.fst ∧ ((0 : Nat) = (0 : Nat) ∧ y.fst.snd.length = x.snd.length) ∧ True) ∧ True) ∧
 IsO (arT y.fst.snd) (arT x.snd) ∧ True) ∧
 ∀ (y_3 : Unit),
 True →
 (0 : Nat) + y.fst.snd.length ≤ x.snd.length ∧
 (y.fst.snd.length + (1 : Nat)) * (40 : Nat) ≤ (70368744177664 : Nat) ∧
 Exists fun (y_4 : Pl.TP × Int) =>
 (Pl.TmB (1500 : Nat) y_4.fst ∧ p ≤ y_4.snd ∧ y_4.snd ≤ p + (500 : Int)) ∧
 (0 : Nat) + (y.fst.snd.length + (1 : Nat)) ≤ y.fst.snd.length + (1 : Nat) ∧
 ((y.fst.fst = y_4.fst.fst ∧
 Is
 (AV.sl (y.fst.snd.length + (1 : Nat)) (2 : Nat) fun (i j : Nat) =>
 joinC y.fst.snd.length (cT x.snd) (rowsCell [[st x.fst, terms x.snd]]) i j)
 (terms y_4.fst.snd) ∧
 True) ∧
 True) ∧
 (Is (byts x_2.fst) (byts b) ∧ x_2.snd.fst + (1 : Int) = y_4.snd ∧ True) ∧ True)
 (condP (y_2 == (2 : Int))
 (Exists fun (x : Pl.TP) =>
 SmT (Pl.Tree.mk x.fst x.snd) ∧
 (((y.fst.fst = x.fst ∧ ((0 : Nat) = (0 : Nat) ∧ y.fst.snd.length = x.snd.length) ∧ True) ∧ True) ∧
 IsO (arT y.fst.snd) (arT x.snd) ∧ True) ∧
 ∀ (y_3 : Unit),
 True →
 Exists fun (x_3 : Pl.TP) =>
 SmT (Pl.Tree.mk x_3.fst x_3.snd) ∧
 (((y.fst.fst = x_3.fst ∧ ((0 : Nat) = (0 : Nat) ∧ y.fst.snd.length = x_3.snd.length) ∧ True) ∧ True) ∧
 IsO (arT x.snd) (arT x_3.snd) ∧ True) ∧
 ∀ (y_4 : Unit),
 True →
 (0 : Nat) + y.fst.snd.length ≤ x_3.snd.length ∧
 (y.fst.snd.length + (2 : Nat)) * (40 : Nat) ≤ (70368744177664 : Nat) ∧
 Exists fun (y_5 : Pl.TP × Int) =>
 (Pl.TmB (1500 : Nat) y_5.fst ∧ p ≤ y_5.snd ∧ y_5.snd ≤ p + (500 : Int)) ∧
 (0 : Nat) + (y.fst.snd.length + (2 : Nat)) ≤ y.fst.snd.length + (2 : Nat) ∧
 ((y.fst.fst = y_5.fst.fst ∧
 Is
 (AV.sl (y.fst.snd.length + (2 : Nat)) (2 : Nat) fun (i j : Nat) =>
 joinC y.fst.snd.length (cT x_3.snd)
 (rowsCell [[st x.fst, terms x.snd], [st x_3.fst, terms x_3.snd]]) i j)
 (terms y_5.fst.snd) ∧
 True) ∧
 True) ∧
 (Is (byts x_2.fst) (byts b) ∧ x_2.snd.fst + (1 : Int) = y_5.snd ∧ True) ∧ True)
 (Exists fun (y_3 : Pl.TP × Int) =>
 (Pl.TmB (1500 : Nat) y_3.fst ∧ p ≤ y_3.snd ∧ y_3.snd ≤ p + (500 : Int)) ∧
 (0 : Nat) + y.fst.snd.length ≤ y.fst.snd.length ∧
 ((y.fst.fst = y_3.fst.fst ∧ Is (terms y.fst.snd) (terms y_3.fst.snd) ∧ True) ∧ True) ∧
 (Is (byts x_2.fst) (byts b) ∧ x_2.snd.fst + (1 : Int) = y_3.snd ∧ True) ∧ True)))) ∧
 Exists fun (x : List Int × Int × Int) =>
 Rd (1099511627776 : Int) x.fst x.snd.fst ∧
 (((0 : Nat) = (0 : Nat) ∧ (2 : Int) = x.snd.snd ∧ True) ∧ (Is (byts b) (byts x.fst) ∧ p = x.snd.fst ∧ True) ∧ True) ∧
 ∀ (y : Int),
 ((1 : Int) ≤ x.snd.snd → (0 : Int) ≤ y ∧ y < x.snd.snd) ∧ (x.snd.snd < (1 : Int) → y = (0 : Int)) →
 (Exists fun (x_1 : List Int × Int × List Int) =>
 (Rd (1099511627776 : Int) x_1.fst x_1.snd.fst ∧ x_1.snd.snd ≠ [] ∧ Sz x_1.snd.snd) ∧
 (((0 : Nat) = (0 : Nat) ∧
 Is (AV.lit (4 : Nat) (1 : Nat) (rowsCell [[i64 (2 : Int)], [i64 (3 : Int)], [i64 (1 : Int)], [i64 (4 : Int)]])) (ints x_1.snd.snd) ∧ True) ∧
 (Is (byts x.fst) (byts x_1.fst) ∧ x.snd.fst + (1 : Int) = x_1.snd.fst ∧ True) ∧ True) ∧
 ∀ (y_1 : Int),
 y_1 ∈ x_1.snd.snd →
 Exists fun (x : AX) =>
 (Rd (137438953472 : Int) x.fst x.snd.fst ∧
 x.snd.fst + (↑(Pl.CB x.snd.snd.snd.snd.toNat) : Int) ≤ (137438953472 : Int) ∧ Pl.SgB (5 : Nat) (2 : Nat) x.snd.snd.fst ∧ x.snd.snd.snd.snd ≤ (4 : Int)) ∧
 (((0 : Nat) = (0 : Nat) ∧ (Is (syms s) (syms x.snd.snd.fst) ∧ True) ∧ y = x.snd.snd.snd.fst ∧ y_1 = x.snd.snd.snd.snd ∧ True) ∧
 (Is (byts x_1.fst) (byts x.fst) ∧ x_1.snd.fst + (1 : Int) = x.snd.fst ∧ True) ∧ True) ∧
 ∀ (y : Pl.TP × Int),
 Pl.TmB (Pl.CB x.snd.snd.snd.snd.toNat) y.fst ∧ x.snd.fst ≤ y.snd ∧ y.snd ≤ x.snd.fst + (↑(Pl.CB x.snd.snd.snd.snd.toNat) : Int) →
 Exists fun (x_2 : List Int × Int × Int) =>
 Rd (1099511627776 : Int) x_2.fst x_2.snd.fst ∧
 (((0 : Nat) = (0 : Nat) ∧ (48 : Int) = x_2.snd.snd ∧ True) ∧ (Is (byts x.fst) (byts x_2.fst) ∧ y.snd = x_2.snd.fst ∧ True) ∧ True) ∧
 ∀ (y_2 : Int),
 ((1 : Int) ≤ x_2.snd.snd → (0 : Int) ≤ y_2 ∧ y_2 < x_2.snd.snd) ∧ (x_2.snd.snd < (1 : Int) → y_2 = (0 : Int)) →
 condP (y_2 == (0 : Int))
 (Exists fun (x : List Int × Int × List ByteArray) =>
 (Rd (1099511627776 : Int) x.fst x.snd.fst ∧ x.snd.snd ≠ [] ∧ Sz x.snd.snd) ∧
 (((0 : Nat) = (0 : Nat) ∧
 Is
 (AV.lit (4 : Nat) (1 : Nat)
 (rowsCell
 [[st (ByteArray.mk #[])], [st (ByteArray.mk #[(65 : UInt8)])],
 [st (ByteArray.mk #[(97 : UInt8), (98 : UInt8), (99 : UInt8)])], [st (ByteArray.mk #[(102 : UInt8)])]]))
 (strs x.snd.snd) ∧
 True) ∧
 (Is (byts x_2.fst) (byts x.fst) ∧ x_2.snd.fst + (1 : Int) = x.snd.fst ∧ True) ∧ True) ∧
 ∀ (y_3 : ByteArray),
 y_3 ∈ x.snd.snd →
 Exists fun (y_4 : Pl.TP × Int) =>
 (Pl.TmB (1500 : Nat) y_4.fst ∧ p ≤ y_4.snd ∧ y_4.snd ≤ p + (500 : Int)) ∧
 (0 : Nat) + y.fst.snd.length ≤ y.fst.snd.length ∧
 ((y_3 = y_4.fst.fst ∧ Is (terms y.fst.snd) (terms y_4.fst.snd) ∧ True) ∧ True) ∧
 (Is (byts x.fst) (byts b) ∧ x.snd.fst + (1 : Int) = y_4.snd ∧ True) ∧ True)
 (condP (y_2 == (1 : Int))
 (Exists fun (x : Pl.TP) =>
 SmT (Pl.Tree.mk x.fst x.snd) ∧
 (((y.fst.fst = x.fst ∧ ((0 : Nat) = (0 : Nat) ∧ y.fst.snd.length = x.snd.length) ∧ True) ∧ True) ∧
 IsO (arT y.fst.snd) (arT x.snd) ∧ True) ∧
 ∀ (y_3 : Unit),
 True →
 (0 : Nat) + y.fst.snd.length ≤ x.snd.length ∧
 (y.fst.snd.length + (1 : Nat)) * (40 : Nat) ≤ (70368744177664 : Nat) ∧
 Exists fun (y_4 : Pl.TP × Int) =>
 (Pl.TmB (1500 : Nat) y_4.fst ∧ p ≤ y_4.snd ∧ y_4.snd ≤ p + (500 : Int)) ∧
 (0 : Nat) + (y.fst.snd.length + (1 : Nat)) ≤ y.fst.snd.length + (1 : Nat) ∧
 ((y.fst.fst = y_4.fst.fst ∧
 Is
 (AV.sl (y.fst.snd.length + (1 : Nat)) (2 : Nat) fun (i j : Nat) =>
 joinC y.fst.snd.length (cT x.snd) (rowsCell [[st x.fst, terms x.snd]]) i j)
 (terms y_4.fst.snd) ∧
 True) ∧
 True) ∧
 (Is (byts x_2.fst) (byts b) ∧ x_2.snd.fst + (1 : Int) = y_4.snd ∧ True) ∧ True)
 (condP (y_2 == (2 : Int))
 (Exists fun (x : Pl.TP) =>
 SmT (Pl.Tree.mk x.fst x.snd) ∧
 (((y.fst.fst = x.fst ∧ ((0 : Nat) = (0 : Nat) ∧ y.fst.snd.length = x.snd.length) ∧ True) ∧ True) ∧
 IsO (arT y.fst.snd) (arT x.snd) ∧ True) ∧
 ∀ (y_3 : Unit),
 True →
 Exists fun (x_3 : Pl.TP) =>
 SmT (Pl.Tree.mk x_3.fst x_3.snd) ∧
 (((y.fst.fst = x_3.fst ∧ ((0 : Nat) = (0 : Nat) ∧ y.fst.snd.length = x_3.snd.length) ∧ True) ∧ True) ∧
 IsO (arT x.snd) (arT x_3.snd) ∧ True) ∧
 ∀ (y_4 : Unit),
 True →
 (0 : Nat) + y.fst.snd.length ≤ x_3.snd.length ∧
 (y.fst.snd.length + (2 : Nat)) * (40 : Nat) ≤ (70368744177664 : Nat) ∧
 Exists fun (y_5 : Pl.TP × Int) =>
 (Pl.TmB (1500 : Nat) y_5.fst ∧ p ≤ y_5.snd ∧ y_5.snd ≤ p + (500 : Int)) ∧
 (0 : Nat) + (y.fst.snd.length + (2 : Nat)) ≤ y.fst.snd.length + (2 : Nat) ∧
 ((y.fst.fst = y_5.fst.fst ∧
 Is
 (AV.sl (y.fst.snd.length + (2 : Nat)) (2 : Nat) fun (i j : Nat) =>
 joinC y.fst.snd.length (cT x_3.snd)
 (rowsCell [[st x.fst, terms x.snd], [st x_3.fst, terms x_3.snd]]) i j)
 (terms y_5.fst.snd) ∧
 True) ∧
 True) ∧
 (Is (byts x_2.fst) (byts b) ∧ x_2.snd.fst + (1 : Int) = y_5.snd ∧ True) ∧ True)
 (Exists fun (y_3 : Pl.TP × Int) =>
 (Pl.TmB (1500 : Nat) y_3.fst ∧ p ≤ y_3.snd ∧ y_3.snd ≤ p + (500 : Int)) ∧
 (0 : Nat) + y.fst.snd.length ≤ y.fst.snd.length ∧
 ((y.fst.fst = y_3.fst.fst ∧ Is (terms y.fst.snd) (terms y_3.fst.snd) ∧ True) ∧ True) ∧
 (Is (byts x_2.fst) (byts b) ∧ x_2.snd.fst + (1 : Int) = y_3.snd ∧ True) ∧ True)))) ∧
 Exists fun (x_1 : List Int × Int × List Int) =>
 (Rd (1099511627776 : Int) x_1.fst x_1.snd.fst ∧ x_1.snd.snd ≠ [] ∧ Sz x_1.snd.snd) ∧
 (((0 : Nat) = (0 : Nat) ∧
 Is (AV.lit (4 : Nat) (1 : Nat) (rowsCell [[i64 (2 : Int)], [i64 (3 : Int)], [i64 (1 : Int)], [i64 (4 : Int)]])) (ints x_1.snd.snd) ∧ True) ∧
 (Is (byts x.fst) (byts x_1.fst) ∧ x.snd.fst + (1 : Int) = x_1.snd.fst ∧ True) ∧ True) ∧
 ∀ (y_1 : Int),
 y_1 ∈ x_1.snd.snd →
 Exists fun (x : AX) =>
 (Rd (137438953472 : Int) x.fst x.snd.fst ∧
 x.snd.fst + (↑(Pl.CB x.snd.snd.snd.snd.toNat) : Int) ≤ (137438953472 : Int) ∧ Pl.SgB (5 : Nat) (2 : Nat) x.snd.snd.fst ∧ x.snd.snd.snd.snd ≤ (4 : Int)) ∧
 (((0 : Nat) = (0 : Nat) ∧ (Is (syms s) (syms x.snd.snd.fst) ∧ True) ∧ y = x.snd.snd.snd.fst ∧ y_1 = x.snd.snd.snd.snd ∧ True) ∧
 (Is (byts x_1.fst) (byts x.fst) ∧ x_1.snd.fst + (1 : Int) = x.snd.fst ∧ True) ∧ True) ∧
 ∀ (y : Pl.TP × Int),
 Pl.TmB (Pl.CB x.snd.snd.snd.snd.toNat) y.fst ∧ x.snd.fst ≤ y.snd ∧ y.snd ≤ x.snd.fst + (↑(Pl.CB x.snd.snd.snd.snd.toNat) : Int) →
 Exists fun (x_2 : List Int × Int × Int) =>
 Rd (1099511627776 : Int) x_2.fst x_2.snd.fst ∧
 (((0 : Nat) = (0 : Nat) ∧ (48 : Int) = x_2.snd.snd ∧ True) ∧ (Is (byts x.fst) (byts x_2.fst) ∧ y.snd = x_2.snd.fst ∧ True) ∧ True) ∧
 ∀ (y_2 : Int),
 ((1 : Int) ≤ x_2.snd.snd → (0 : Int) ≤ y_2 ∧ y_2 < x_2.snd.snd) ∧ (x_2.snd.snd < (1 : Int) → y_2 = (0 : Int)) →
 condP (y_2 == (0 : Int))
 (Exists fun (x : List Int × Int × List ByteArray) =>
 (Rd (1099511627776 : Int) x.fst x.snd.fst ∧ x.snd.snd ≠ [] ∧ Sz x.snd.snd) ∧
 (((0 : Nat) = (0 : Nat) ∧
 Is
 (AV.lit (4 : Nat) (1 : Nat)
 (rowsCell
 [[st (ByteArray.mk #[])], [st (ByteArray.mk #[(65 : UInt8)])],
 [st (ByteArray.mk #[(97 : UInt8), (98 : UInt8), (99 : UInt8)])], [st (ByteArray.mk #[(102 : UInt8)])]]))
 (strs x.snd.snd) ∧
 True) ∧
 (Is (byts x_2.fst) (byts x.fst) ∧ x_2.snd.fst + (1 : Int) = x.snd.fst ∧ True) ∧ True) ∧
 ∀ (y_3 : ByteArray),
 y_3 ∈ x.snd.snd →
 Exists fun (y_4 : Pl.TP × Int) =>
 (Pl.TmB (1500 : Nat) y_4.fst ∧ p ≤ y_4.snd ∧ y_4.snd ≤ p + (500 : Int)) ∧
 (0 : Nat) + y.fst.snd.length ≤ y.fst.snd.length ∧
 ((y_3 = y_4.fst.fst ∧ Is (terms y.fst.snd) (terms y_4.fst.snd) ∧ True) ∧ True) ∧
 (Is (byts x.fst) (byts b) ∧ x.snd.fst + (1 : Int) = y_4.snd ∧ True) ∧ True)
 (condP (y_2 == (1 : Int))
 (Exists fun (x : Pl.TP) =>
 SmT (Pl.Tree.mk x.fst x.snd) ∧
 (((y.fst.fst = x.fst ∧ ((0 : Nat) = (0 : Nat) ∧ y.fst.snd.length = x.snd.length) ∧ True) ∧ True) ∧
 IsO (arT y.fst.snd) (arT x.snd) ∧ True) ∧
 ∀ (y_3 : Unit),
 True →
 (0 : Nat) + y.fst.snd.length ≤ x.snd.length ∧
 (y.fst.snd.length + (1 : Nat)) * (40 : Nat) ≤ (70368744177664 : Nat) ∧
 Exists fun (y_4 : Pl.TP × Int) =>
 (Pl.TmB (1500 : Nat) y_4.fst ∧ p ≤ y_4.snd ∧ y_4.snd ≤ p + (500 : Int)) ∧
 (0 : Nat) + (y.fst.snd.length + (1 : Nat)) ≤ y.fst.snd.length + (1 : Nat) ∧
 ((y.fst.fst = y_4.fst.fst ∧
 Is
 (AV.sl (y.fst.snd.length + (1 : Nat)) (2 : Nat) fun (i j : Nat) =>
 joinC y.fst.snd.length (cT x.snd) (rowsCell [[st x.fst, terms x.snd]]) i j)
 (terms y_4.fst.snd) ∧
 True) ∧
 True) ∧
 (Is (byts x_2.fst) (byts b) ∧ x_2.snd.fst + (1 : Int) = y_4.snd ∧ True) ∧ True)
 (condP (y_2 == (2 : Int))
 (Exists fun (x : Pl.TP) =>
 SmT (Pl.Tree.mk x.fst x.snd) ∧
 (((y.fst.fst = x.fst ∧ ((0 : Nat) = (0 : Nat) ∧ y.fst.snd.length = x.snd.length) ∧ True) ∧ True) ∧
 IsO (arT y.fst.snd) (arT x.snd) ∧ True) ∧
 ∀ (y_3 : Unit),
 True →
 Exists fun (x_3 : Pl.TP) =>
 SmT (Pl.Tree.mk x_3.fst x_3.snd) ∧
 (((y.fst.fst = x_3.fst ∧ ((0 : Nat) = (0 : Nat) ∧ y.fst.snd.length = x_3.snd.length) ∧ True) ∧ True) ∧
 IsO (arT x.snd) (arT x_3.snd) ∧ True) ∧
 ∀ (y_4 : Unit),
 True →
 (0 : Nat) + y.fst.snd.length ≤ x_3.snd.length ∧
 (y.fst.snd.length + (2 : Nat)) * (40 : Nat) ≤ (70368744177664 : Nat) ∧
 Exists fun (y_5 : Pl.TP × Int) =>
 (Pl.TmB (1500 : Nat) y_5.fst ∧ p ≤ y_5.snd ∧ y_5.snd ≤ p + (500 : Int)) ∧
 (0 : Nat) + (y.fst.snd.length + (2 : Nat)) ≤ y.fst.snd.length + (2 : Nat) ∧
 ((y.fst.fst = y_5.fst.fst ∧
 Is
 (AV.sl (y.fst.snd.length + (2 : Nat)) (2 : Nat) fun (i j : Nat) =>
 joinC y.fst.snd.length (cT x_3.snd)
 (rowsCell [[st x.fst, terms x.snd], [st x_3.fst, terms x_3.snd]]) i j)
 (terms y_5.fst.snd) ∧
 True) ∧
 True) ∧
 (Is (byts x_2.fst) (byts b) ∧ x_2.snd.fst + (1 : Int) = y_5.snd ∧ True) ∧ True)
 (Exists fun (y_3 : Pl.TP × Int) =>
 (Pl.TmB (1500 : Nat) y_3.fst ∧ p ≤ y_3.snd ∧ y_3.snd ≤ p + (500 : Int)) ∧
 (0 : Nat) + y.fst.snd.length ≤ y.fst.snd.length ∧
 ((y.fst.fst = y_3.fst.fst ∧ Is (terms y.fst.snd) (terms y_3.fst.snd) ∧ True) ∧ True) ∧
 (Is (byts x_2.fst) (byts b) ∧ x_2.snd.fst + (1 : Int) = y_3.snd ∧ True) ∧ True)))) = Goal Try.prog [K_pick, K_num, K_of, K_lAny, K_l4CopyO] ([]) K_l4Some.1 K_l4Some.2 ((b, p, s)) := by kernel_rfl

theorem vc_DrawModelTerm (b : List Int) : (Exists fun (x : List Int) =>
 (Sz x ∧ Byt x) ∧
 ((Is (byts b) (byts x) ∧ True) ∧ True) ∧
 ∀ (y : List Int),
 Rd (0 : Int) y (0 : Int) →
 Exists fun (x : RX) =>
 Rd (549755813888 : Int) x.fst x.snd ∧
 (((0 : Nat) = (0 : Nat) ∧ True) ∧ (Is (byts y) (byts x.fst) ∧ (0 : Int) = x.snd ∧ True) ∧ True) ∧
 ∀ (y : Pl.Sig),
 Pl.SgB (5 : Nat) (2 : Nat) y →
 Exists fun (x_1 : BX) =>
 (Rd (68719476736 : Int) x_1.fst x_1.snd.fst ∧ Pl.SgB (5 : Nat) (2 : Nat) x_1.snd.snd) ∧
 (((0 : Nat) = (0 : Nat) ∧ (Is (syms y) (syms x_1.snd.snd) ∧ True) ∧ True) ∧
 (Is (byts x.fst) (byts x_1.fst) ∧ x.snd + (1 : Int) = x_1.snd.fst ∧ True) ∧ True) ∧
 ∀ (y_1 : Pl.Mdl × Int),
 Pl.MdB (16 : Nat) (3 : Nat) y_1.fst ∧ x_1.snd.fst ≤ y_1.snd ∧ y_1.snd ≤ x_1.snd.fst + (1100 : Int) →
 ((Exists fun (x : BX) =>
 (Rd (68719476736 : Int) x.fst x.snd.fst ∧ Pl.SgB (5 : Nat) (2 : Nat) x.snd.snd) ∧
 (((0 : Nat) = (0 : Nat) ∧ (Is (syms y) (syms x.snd.snd) ∧ True) ∧ True) ∧
 (Is (byts x_1.fst) (byts x.fst) ∧ y_1.snd = x.snd.fst ∧ True) ∧ True) ∧
 ∀ (y_2 : Pl.TP × Int),
 Pl.TmB (1500 : Nat) y_2.fst ∧ x.snd.fst ≤ y_2.snd ∧ y_2.snd ≤ x.snd.fst + (500 : Int) →
 Exists fun (y_3 : Pl.Sig × Pl.Mdl × Pl.TP) =>
 (Pl.SgB (5 : Nat) (2 : Nat) y_3.fst ∧ Pl.MdB (16 : Nat) (3 : Nat) y_3.snd.fst ∧ Pl.TmB (1500 : Nat) y_3.snd.snd) ∧
 (((Is (syms y) (syms y_3.fst) ∧ True) ∧
 (Is (mrows y_1.fst) (mrows y_3.snd.fst) ∧ True) ∧
 (y_2.fst.fst = y_3.snd.snd.fst ∧ Is (terms y_2.fst.snd) (terms y_3.snd.snd.snd) ∧ True) ∧ True) ∧
 True) ∧
 True) ∧
 (Exists fun (x : BX) =>
 (Rd (68719476736 : Int) x.fst x.snd.fst ∧ Pl.SgB (5 : Nat) (2 : Nat) x.snd.snd) ∧
 (((0 : Nat) = (0 : Nat) ∧ (Is (syms y) (syms x.snd.snd) ∧ True) ∧ True) ∧
 (Is (byts x_1.fst) (byts x.fst) ∧ y_1.snd = x.snd.fst ∧ True) ∧ True) ∧
 ∀ (y_2 : Pl.TP × Int),
 Pl.TmB (1500 : Nat) y_2.fst ∧ x.snd.fst ≤ y_2.snd ∧ y_2.snd ≤ x.snd.fst + (500 : Int) →
 Exists fun (y_3 : Pl.Sig × Pl.Mdl × Pl.TP) =>
 (Pl.SgB (5 : Nat) (2 : Nat) y_3.fst ∧ Pl.MdB (16 : Nat) (3 : Nat) y_3.snd.fst ∧ Pl.TmB (1500 : Nat) y_3.snd.snd) ∧
 (((Is (syms y) (syms y_3.fst) ∧ True) ∧
 (Is (mrows y_1.fst) (mrows y_3.snd.fst) ∧ True) ∧
 (y_2.fst.fst = y_3.snd.snd.fst ∧ Is (terms y_2.fst.snd) (terms y_3.snd.snd.snd) ∧ True) ∧ True) ∧
 True) ∧
 True) ∧
 Exists fun (x : BX) =>
 (Rd (68719476736 : Int) x.fst x.snd.fst ∧ Pl.SgB (5 : Nat) (2 : Nat) x.snd.snd) ∧
 (((0 : Nat) = (0 : Nat) ∧ (Is (syms y) (syms x.snd.snd) ∧ True) ∧ True) ∧
 (Is (byts x_1.fst) (byts x.fst) ∧ y_1.snd = x.snd.fst ∧ True) ∧ True) ∧
 ∀ (y_2 : Pl.TP × Int),
 Pl.TmB (1500 : Nat) y_2.fst ∧ x.snd.fst ≤ y_2.snd ∧ y_2.snd ≤ x.snd.fst + (500 : Int) →
 (Exists fun (y_3 : Pl.Sig × Pl.Mdl × Pl.TP) =>
 (Pl.SgB (5 : Nat) (2 : Nat) y_3.fst ∧ Pl.MdB (16 : Nat) (3 : Nat) y_3.snd.fst ∧ Pl.TmB (1500 : Nat) y_3.snd.snd) ∧
 (((Is (syms y) (syms y_3.fst) ∧ True) ∧
 (Is (mrows y_1.fst) (mrows y_3.snd.fst) ∧ True) ∧
 (y_2.fst.fst = y_3.snd.snd.fst ∧ Is (terms y_2.fst.snd) (terms y_3.snd.snd.snd) ∧ True) ∧ True) ∧
 True) ∧
 True) ∧
 Exists fun (y_3 : Pl.Sig × Pl.Mdl × Pl.TP) =>
 (Pl.SgB (5 : Nat) (2 : Nat) y_3.fst ∧ Pl.MdB (16 : Nat) (3 : Nat) y_3.snd.fst ∧ Pl.TmB (1500 : Nat) y_3.snd.snd) ∧
 (((Is (syms y) (syms y_3.fst) ∧ True) ∧
 (Is (mrows y_1.fst) (mrows y_3.snd.fst) ∧ True) ∧
 (y_2.fst.fst = y_3.snd.snd.fst ∧ Is (terms y_2.fst.snd) (terms y_3.snd.snd.snd) ∧ True) ∧ True) ∧
 True) ∧
 True) ∧
 ((Exists fun (x : BX) =>
 (Rd (68719476736 : Int) x.fst x.snd.fst ∧ Pl.SgB (5 : Nat) (2 : Nat) x.snd.snd) ∧
 (((0 : Nat) = (0 : Nat) ∧ (Is (syms y) (syms x.snd.snd) ∧ True) ∧ True) ∧
 (Is (byts x_1.fst) (byts x.fst) ∧ y_1.snd = x.snd.fst ∧ True) ∧ True) ∧
 ∀ (y_2 : Pl.TP × Int),
 Pl.TmB (1500 : Nat) y_2.fst ∧ x.snd.fst ≤ y_2.snd ∧ y_2.snd ≤ x.snd.fst + (500 : Int) →
 Exists fun (y_3 : Pl.Sig × Pl.Mdl × Pl.TP) =>
 (Pl.SgB (5 : Nat) (2 : Nat) y_3.fst ∧ Pl.MdB (16 : Nat) (3 : Nat) y_3.snd.fst ∧ Pl.TmB (1500 : Nat) y_3.snd.snd) ∧
 (((Is (syms y) (syms y_3.fst) ∧ True) ∧
 (Is (mrows y_1.fst) (mrows y_3.snd.fst) ∧ True) ∧
 (y_2.fst.fst = y_3.snd.snd.fst ∧ Is (terms y_2.fst.snd) (terms y_3.snd.snd.snd) ∧ True) ∧ True) ∧
 True) ∧
 True) ∧
 (Exists fun (x : BX) =>
 (Rd (68719476736 : Int) x.fst x.snd.fst ∧ Pl.SgB (5 : Nat) (2 : Nat) x.snd.snd) ∧
 (((0 : Nat) = (0 : Nat) ∧ (Is (syms y) (syms x.snd.snd) ∧ True) ∧ True) ∧
 (Is (byts x_1.fst) (byts x.fst) ∧ y_1.snd = x.snd.fst ∧ True) ∧ True) ∧
 ∀ (y_2 : Pl.TP × Int),
 Pl.TmB (1500 : Nat) y_2.fst ∧ x.snd.fst ≤ y_2.snd ∧ y_2.snd ≤ x.snd.fst + (500 : Int) →
 Exists fun (y_3 : Pl.Sig × Pl.Mdl × Pl.TP) =>
 (Pl.SgB (5 : Nat) (2 : Nat) y_3.fst ∧ Pl.MdB (16 : Nat) (3 : Nat) y_3.snd.fst ∧ Pl.TmB (1500 : Nat) y_3.snd.snd) ∧
 (((Is (syms y) (syms y_3.fst) ∧ True) ∧
 (Is (mrows y_1.fst) (mrows y_3.snd.fst) ∧ True) ∧
 (y_2.fst.fst = y_3.snd.snd.fst ∧ Is (terms y_2.fst.snd) (terms y_3.snd.snd.snd) ∧ True) ∧ True) ∧
 True) ∧
 True) ∧
 Exists fun (x : BX) =>
 (Rd (68719476736 : Int) x.fst x.snd.fst ∧ Pl.SgB (5 : Nat) (2 : Nat) x.snd.snd) ∧
 (((0 : Nat) = (0 : Nat) ∧ (Is (syms y) (syms x.snd.snd) ∧ True) ∧ True) ∧
 (Is (byts x_1.fst) (byts x.fst) ∧ y_1.snd = x.snd.fst ∧ True) ∧ True) ∧
 ∀ (y_2 : Pl.TP × Int),
 Pl.TmB (1500 : Nat) y_2.fst ∧ x.snd.fst ≤ y_2.snd ∧ y_2.snd ≤ x.snd.fst + (500 : Int) →
 Exists fun (y_3 : Pl.Sig × Pl.Mdl × Pl.TP) =>
 (Pl.SgB (5 : Nat) (2 : Nat) y_3.fst ∧ Pl.MdB (16 : Nat) (3 : Nat) y_3.snd.fst ∧ Pl.TmB (1500 : Nat) y_3.snd.snd) ∧
 (((Is (syms y) (syms y_3.fst) ∧ True) ∧
 (Is (mrows y_1.fst) (mrows y_3.snd.fst) ∧ True) ∧
 (y_2.fst.fst = y_3.snd.snd.fst ∧ Is (terms y_2.fst.snd) (terms y_3.snd.snd.snd) ∧ True) ∧ True) ∧
 True) ∧
 True) ∧
 ((Exists fun (x : BX) =>
 (Rd (68719476736 : Int) x.fst x.snd.fst ∧ Pl.SgB (5 : Nat) (2 : Nat) x.snd.snd) ∧
 (((0 : Nat) = (0 : Nat) ∧ (Is (syms y) (syms x.snd.snd) ∧ True) ∧ True) ∧
 (Is (byts x_1.fst) (byts x.fst) ∧ y_1.snd = x.snd.fst ∧ True) ∧ True) ∧
 ∀ (y_2 : Pl.TP × Int),
 Pl.TmB (1500 : Nat) y_2.fst ∧ x.snd.fst ≤ y_2.snd ∧ y_2.snd ≤ x.snd.fst + (500 : Int) →
 Exists fun (y_3 : Pl.Sig × Pl.Mdl × Pl.TP) =>
 (Pl.SgB (5 : Nat) (2 : Nat) y_3.fst ∧ Pl.MdB (16 : Nat) (3 : Nat) y_3.snd.fst ∧ Pl.TmB (1500 : Nat) y_3.snd.snd) ∧
 (((Is (syms y) (syms y_3.fst) ∧ True) ∧
 (Is (mrows y_1.fst) (mrows y_3.snd.fst) ∧ True) ∧
 (y_2.fst.fst = y_3.snd.snd.fst ∧ Is (terms y_2.fst.snd) (terms y_3.snd.snd.snd) ∧ True) ∧ True) ∧
 True) ∧
 True) ∧
 Exists fun (x : BX) =>
 (Rd (68719476736 : Int) x.fst x.snd.fst ∧ Pl.SgB (5 : Nat) (2 : Nat) x.snd.snd) ∧
 (((0 : Nat) = (0 : Nat) ∧ (Is (syms y) (syms x.snd.snd) ∧ True) ∧ True) ∧
 (Is (byts x_1.fst) (byts x.fst) ∧ y_1.snd = x.snd.fst ∧ True) ∧ True) ∧
 ∀ (y_2 : Pl.TP × Int),
 Pl.TmB (1500 : Nat) y_2.fst ∧ x.snd.fst ≤ y_2.snd ∧ y_2.snd ≤ x.snd.fst + (500 : Int) →
 (Exists fun (y_3 : Pl.Sig × Pl.Mdl × Pl.TP) =>
 (Pl.SgB (5 : Nat) (2 : Nat) y_3.fst ∧ Pl.MdB (16 : Nat) (3 : Nat) y_3.snd.fst ∧ Pl.TmB (1500 : Nat) y_3.snd.snd) ∧
 (((Is (syms y) (syms y_3.fst) ∧ True) ∧
 (Is (mrows y_1.fst) (mrows y_3.snd.fst) ∧ True) ∧
 (y_2.fst.fst = y_3.snd.snd.fst ∧ Is (terms y_2.fst.snd) (terms y_3.snd.snd.snd) ∧ True) ∧ True) ∧
 True) ∧
 True) ∧
 Exists fun (y_3 : Pl.Sig × Pl.Mdl × Pl.TP) =>
 (Pl.SgB (5 : Nat) (2 : Nat) y_3.fst ∧ Pl.MdB (16 : Nat) (3 : Nat) y_3.snd.fst ∧ Pl.TmB (1500 : Nat) y_3.snd.snd) ∧
 (((Is (syms y) (syms y_3.fst) ∧ True) ∧
 (Is (mrows y_1.fst) (mrows y_3.snd.fst) ∧ True) ∧
 (y_2.fst.fst = y_3.snd.snd.fst ∧ Is (terms y_2.fst.snd) (terms y_3.snd.snd.snd) ∧ True) ∧ True) ∧
 True) ∧
 True) ∧
 ((Exists fun (x : BX) =>
 (Rd (68719476736 : Int) x.fst x.snd.fst ∧ Pl.SgB (5 : Nat) (2 : Nat) x.snd.snd) ∧
 (((0 : Nat) = (0 : Nat) ∧ (Is (syms y) (syms x.snd.snd) ∧ True) ∧ True) ∧
 (Is (byts x_1.fst) (byts x.fst) ∧ y_1.snd = x.snd.fst ∧ True) ∧ True) ∧
 ∀ (y_2 : Pl.TP × Int),
 Pl.TmB (1500 : Nat) y_2.fst ∧ x.snd.fst ≤ y_2.snd ∧ y_2.snd ≤ x.snd.fst + (500 : Int) →
 Exists fun (y_3 : Pl.Sig × Pl.Mdl × Pl.TP) =>
 (Pl.SgB (5 : Nat) (2 : Nat) y_3.fst ∧ Pl.MdB (16 : Nat) (3 : Nat) y_3.snd.fst ∧ Pl.TmB (1500 : Nat) y_3.snd.snd) ∧
 (((Is (syms y) (syms y_3.fst) ∧ True) ∧
 (Is (mrows y_1.fst) (mrows y_3.snd.fst) ∧ True) ∧
 (y_2.fst.fst = y_3.snd.snd.fst ∧ Is (terms y_2.fst.snd) (terms y_3.snd.snd.snd) ∧ True) ∧ True) ∧
 True) ∧
 True) ∧
 Exists fun (x : BX) =>
 (Rd (68719476736 : Int) x.fst x.snd.fst ∧ Pl.SgB (5 : Nat) (2 : Nat) x.snd.snd) ∧
 (((0 : Nat) = (0 : Nat) ∧ (Is (syms y) (syms x.snd.snd) ∧ True) ∧ True) ∧
 (Is (byts x_1.fst) (byts x.fst) ∧ y_1.snd = x.snd.fst ∧ True) ∧ True) ∧
 ∀ (y_2 : Pl.TP × Int),
 Pl.TmB (1500 : Nat) y_2.fst ∧ x.snd.fst ≤ y_2.snd ∧ y_2.snd ≤ x.snd.fst + (500 : Int) →
 Exists fun (y_3 : Pl.Sig × Pl.Mdl × Pl.TP) =>
 (Pl.SgB (5 : Nat) (2 : Nat) y_3.fst ∧ Pl.MdB (16 : Nat) (3 : Nat) y_3.snd.fst ∧ Pl.TmB (1500 : Nat) y_3.snd.snd) ∧
 (((Is (syms y) (syms y_3.fst) ∧ True) ∧
 (Is (mrows y_1.fst) (mrows y_3.snd.fst) ∧ True) ∧
 (y_2.fst.fst = y_3.snd.snd.fst ∧ Is (terms y_2.fst.snd) (terms y_3.snd.snd.snd) ∧ True) ∧ True) ∧
 True) ∧
 True) ∧
 Exists fun (x : BX) =>
 (Rd (68719476736 : Int) x.fst x.snd.fst ∧ Pl.SgB (5 : Nat) (2 : Nat) x.snd.snd) ∧
 (((0 : Nat) = (0 : Nat) ∧ (Is (syms y) (syms x.snd.snd) ∧ True) ∧ True) ∧
 (Is (byts x_1.fst) (byts x.fst) ∧ y_1.snd = x.snd.fst ∧ True) ∧ True) ∧
 ∀ (y_2 : Pl.TP × Int),
 Pl.TmB (1500 : Nat) y_2.fst ∧ x.snd.fst ≤ y_2.snd ∧ y_2.snd ≤ x.snd.fst + (500 : Int) →
 (Exists fun (y_3 : Pl.Sig × Pl.Mdl × Pl.TP) =>
 (Pl.SgB (5 : Nat) (2 : Nat) y_3.fst ∧ Pl.MdB (16 : Nat) (3 : Nat) y_3.snd.fst ∧ Pl.TmB (1500 : Nat) y_3.snd.snd) ∧
 (((Is (syms y) (syms y_3.fst) ∧ True) ∧
 (Is (mrows y_1.fst) (mrows y_3.snd.fst) ∧ True) ∧
 (y_2.fst.fst = y_3.snd.snd.fst ∧ Is (terms y_2.fst.snd) (terms y_3.snd.snd.snd) ∧ True) ∧ True) ∧
 True) ∧
 True) ∧
 Exists fun (y_3 : Pl.Sig × Pl.Mdl × Pl.TP) =>
 (Pl.SgB (5 : Nat) (2 : Nat) y_3.fst ∧ Pl.MdB (16 : Nat) (3 : Nat) y_3.snd.fst ∧ Pl.TmB (1500 : Nat) y_3.snd.snd) ∧
 (((Is (syms y) (syms y_3.fst) ∧ True) ∧
 (Is (mrows y_1.fst) (mrows y_3.snd.fst) ∧ True) ∧
 (y_2.fst.fst = y_3.snd.snd.fst ∧ Is (terms y_2.fst.snd) (terms y_3.snd.snd.snd) ∧ True) ∧ True) ∧
 True) ∧
 True) = Goal Try.prog [K_l16Open, K_l4Sig, K_l7Some, K_l4Some] ([]) K_DrawModelTerm.1 K_DrawModelTerm.2 (b) := by kernel_rfl

theorem vc_yModelTerm (b : List Int) : (condP (Decidable.decide ((↑b.length : Int) > (1048576 : Int))) (Bool.true = Bool.true)
 (Exists fun (x : List Int) =>
 (Sz x ∧ Byt x) ∧
 ((Is (byts b) (byts x) ∧ True) ∧ True) ∧
 ∀ (y : Pl.Sig × Pl.Mdl × Pl.TP),
 Pl.SgB (5 : Nat) (2 : Nat) y.fst ∧ Pl.MdB (16 : Nat) (3 : Nat) y.snd.fst ∧ Pl.TmB (1500 : Nat) y.snd.snd →
 Exists fun (x : Pl.Sig × Pl.Mdl × Pl.TP) =>
 ((Is (syms y.fst) (syms x.fst) ∧ True) ∧
 (Is (mrows y.snd.fst) (mrows x.snd.fst) ∧ True) ∧ (y.snd.snd.fst = x.snd.snd.fst ∧ Is (terms y.snd.snd.snd) (terms x.snd.snd.snd) ∧ True) ∧ True) ∧
 (SmG x.fst ∧ SmM x.snd.fst ∧ SmT (Pl.Tree.mk x.snd.snd.fst x.snd.snd.snd)) ∧
 Exists fun (x_1 : Pl.Sig × Pl.Mdl × Pl.TP) =>
 ((Is (syms y.fst) (syms x_1.fst) ∧ True) ∧
 (Is (mrows y.snd.fst) (mrows x_1.snd.fst) ∧ True) ∧ (y.snd.snd.fst = x_1.snd.snd.fst ∧ Is (terms y.snd.snd.snd) (terms x_1.snd.snd.snd) ∧ True) ∧ True) ∧
 (SmG x_1.fst ∧ SmM x_1.snd.fst ∧ SmT (Pl.Tree.mk x_1.snd.snd.fst x_1.snd.snd.snd)) ∧
 condP
 (!((Pl.modelTerm x.fst x.snd.fst (Pl.Tree.mk x.snd.snd.fst x.snd.snd.snd)).fst.fst ==
 (Pl.modelTerm x_1.fst x_1.snd.fst (Pl.Tree.mk x_1.snd.snd.fst x_1.snd.snd.snd)).fst.fst &&
 (Pl.modelTerm x.fst x.snd.fst (Pl.Tree.mk x.snd.snd.fst x.snd.snd.snd)).fst.snd ==
 (Pl.modelTerm x_1.fst x_1.snd.fst (Pl.Tree.mk x_1.snd.snd.fst x_1.snd.snd.snd)).fst.snd))
 (condP
 ((Pl.modelTerm x.fst x.snd.fst (Pl.Tree.mk x.snd.snd.fst x.snd.snd.snd)).fst.fst ==
 (Pl.modelTerm x_1.fst x_1.snd.fst (Pl.Tree.mk x_1.snd.snd.fst x_1.snd.snd.snd)).fst.fst &&
 (Pl.modelTerm x.fst x.snd.fst (Pl.Tree.mk x.snd.snd.fst x.snd.snd.snd)).fst.snd ==
 (Pl.modelTerm x_1.fst x_1.snd.fst (Pl.Tree.mk x_1.snd.snd.fst x_1.snd.snd.snd)).fst.snd)
 (((Pl.modelTerm x.fst x.snd.fst (Pl.Tree.mk x.snd.snd.fst x.snd.snd.snd)).snd == (Pl.modelTerm x_1.fst x_1.snd.fst (Pl.Tree.mk x_1.snd.snd.fst x_1.snd.snd.snd)).snd) =
 Bool.true)
 (Bool.false = Bool.true))
 (condP
 (!(Pl.modelTerm x.fst x.snd.fst (Pl.Tree.mk x.snd.snd.fst x.snd.snd.snd)).snd == (Pl.modelTerm x_1.fst x_1.snd.fst (Pl.Tree.mk x_1.snd.snd.fst x_1.snd.snd.snd)).snd)
 (condP
 ((Pl.modelTerm x.fst x.snd.fst (Pl.Tree.mk x.snd.snd.fst x.snd.snd.snd)).fst.fst ==
 (Pl.modelTerm x_1.fst x_1.snd.fst (Pl.Tree.mk x_1.snd.snd.fst x_1.snd.snd.snd)).fst.fst &&
 (Pl.modelTerm x.fst x.snd.fst (Pl.Tree.mk x.snd.snd.fst x.snd.snd.snd)).fst.snd ==
 (Pl.modelTerm x_1.fst x_1.snd.fst (Pl.Tree.mk x_1.snd.snd.fst x_1.snd.snd.snd)).fst.snd)
 (((Pl.modelTerm x.fst x.snd.fst (Pl.Tree.mk x.snd.snd.fst x.snd.snd.snd)).snd == (Pl.modelTerm x_1.fst x_1.snd.fst (Pl.Tree.mk x_1.snd.snd.fst x_1.snd.snd.snd)).snd) =
 Bool.true)
 (Bool.false = Bool.true))
 (condP (!(Pl.modelTerm x.fst x.snd.fst (Pl.Tree.mk x.snd.snd.fst x.snd.snd.snd)).snd)
 (condP
 ((Pl.modelTerm x.fst x.snd.fst (Pl.Tree.mk x.snd.snd.fst x.snd.snd.snd)).fst.fst ==
 (Pl.modelTerm x_1.fst x_1.snd.fst (Pl.Tree.mk x_1.snd.snd.fst x_1.snd.snd.snd)).fst.fst &&
 (Pl.modelTerm x.fst x.snd.fst (Pl.Tree.mk x.snd.snd.fst x.snd.snd.snd)).fst.snd ==
 (Pl.modelTerm x_1.fst x_1.snd.fst (Pl.Tree.mk x_1.snd.snd.fst x_1.snd.snd.snd)).fst.snd)
 (((Pl.modelTerm x.fst x.snd.fst (Pl.Tree.mk x.snd.snd.fst x.snd.snd.snd)).snd == (Pl.modelTerm x_1.fst x_1.snd.fst (Pl.Tree.mk x_1.snd.snd.fst x_1.snd.snd.snd)).snd) =
 Bool.true)
 (Bool.false = Bool.true))
 (Exists fun (x_2 : Pl.Sig × Pl.TP) =>
 ((Is (syms y.fst) (syms x_2.fst) ∧ True) ∧ (y.snd.snd.fst = x_2.snd.fst ∧ Is (terms y.snd.snd.snd) (terms x_2.snd.snd) ∧ True) ∧ True) ∧
 (SmG x_2.fst ∧ SmT (Pl.Tree.mk x_2.snd.fst x_2.snd.snd)) ∧
 condP (!(Pl.termSort x_2.fst (Pl.Tree.mk x_2.snd.fst x_2.snd.snd)).snd) (Bool.false = Bool.true)
 (Exists fun (x_3 : Pl.Rt) =>
 (((Pl.modelTerm x.fst x.snd.fst (Pl.Tree.mk x.snd.snd.fst x.snd.snd.snd)).fst.fst = x_3.fst ∧
 (Pl.modelTerm x.fst x.snd.fst (Pl.Tree.mk x.snd.snd.fst x.snd.snd.snd)).fst.snd = x_3.snd ∧ True) ∧
 True) ∧
 True ∧
 condP (!Pl.ratOk x_3) (Bool.false = Bool.true)
 (condP ((Pl.termSort x_2.fst (Pl.Tree.mk x_2.snd.fst x_2.snd.snd)).fst == (0 : Int))
 (condP ((Pl.modelTerm x.fst x.snd.fst (Pl.Tree.mk x.snd.snd.fst x.snd.snd.snd)).fst.snd != (1 : Int)) (Bool.false = Bool.true)
 ((Exists fun (x_4 : Pl.Sig × Pl.Mdl × Pl.TP × Nat) =>
 (Pl.SgB (5 : Nat) (2 : Nat) x_4.fst ∧
 Pl.MdB (16 : Nat) (3 : Nat) x_4.snd.fst ∧
 Pl.TmB (1500 : Nat) x_4.snd.snd.fst ∧
 x_4.snd.snd.snd ≤ List.length x_4.fst ∧
 (Pl.modelTerm x_4.fst x_4.snd.fst (Pl.Tree.mk x_4.snd.snd.fst.fst x_4.snd.snd.fst.snd)).snd = Bool.true) ∧
 ((0 : Nat) = (0 : Nat) ∧
 (0 : Nat) = (0 : Nat) ∧
 (0 : Nat) = (0 : Nat) ∧
 (0 : Nat) = (0 : Nat) ∧
 (Pl.termSort x_2.fst (Pl.Tree.mk x_2.snd.fst x_2.snd.snd)).fst =
 (Pl.termSort x_4.fst (Pl.Tree.mk x_4.snd.snd.fst.fst x_4.snd.snd.fst.snd)).fst ∧
 (0 : Int) = (↑x_4.snd.snd.snd : Int) ∧ True) ∧
 (Is (syms y.fst) (syms x_4.fst) ∧ True) ∧
 (Is (mrows y.snd.fst) (mrows x_4.snd.fst) ∧ True) ∧
 (y.snd.snd.fst = x_4.snd.snd.fst.fst ∧ Is (terms y.snd.snd.snd) (terms x_4.snd.snd.fst.snd) ∧ True) ∧
 ((Pl.modelTerm x.fst x.snd.fst (Pl.Tree.mk x.snd.snd.fst x.snd.snd.snd)).fst.fst =
 (Pl.valT x_4.snd.fst (Pl.Tree.mk x_4.snd.snd.fst.fst x_4.snd.snd.fst.snd)).fst ∧
 (Pl.modelTerm x.fst x.snd.fst (Pl.Tree.mk x.snd.snd.fst x.snd.snd.snd)).fst.snd =
 (Pl.valT x_4.snd.fst (Pl.Tree.mk x_4.snd.snd.fst.fst x_4.snd.snd.fst.snd)).snd ∧
 True) ∧
 True) ∧
 ∀ (x : Pl.Sig × Pl.Mdl × Pl.TP × Nat),
 Pl.SgB (5 : Nat) (2 : Nat) x.fst ∧
 Pl.MdB (16 : Nat) (3 : Nat) x.snd.fst ∧
 Pl.TmB (1500 : Nat) x.snd.snd.fst ∧
 x.snd.snd.snd ≤ List.length x.fst ∧ (Pl.modelTerm x.fst x.snd.fst (Pl.Tree.mk x.snd.snd.fst.fst x.snd.snd.fst.snd)).snd = Bool.true →
 condP (Decidable.decide ((↑x.snd.snd.snd : Int) < (↑(List.length x.fst) : Int)))
 (((0 : Int) ≤ (↑x.snd.snd.snd : Int) ∧ (↑x.snd.snd.snd : Int) < (↑(List.length x.fst) : Int)) ∧
 x.snd.snd.snd < List.length x.fst ∧
 condP ((↑(List.getD x.fst x.snd.snd.snd Pl.dY).snd.fst.length : Int) != (1 : Int))
 (Exists fun (x' : Pl.Sig × Pl.Mdl × Pl.TP × Nat) =>
 (Pl.SgB (5 : Nat) (2 : Nat) x'.fst ∧
 Pl.MdB (16 : Nat) (3 : Nat) x'.snd.fst ∧
 Pl.TmB (1500 : Nat) x'.snd.snd.fst ∧
 x'.snd.snd.snd ≤ List.length x'.fst ∧
 (Pl.modelTerm x'.fst x'.snd.fst (Pl.Tree.mk x'.snd.snd.fst.fst x'.snd.snd.fst.snd)).snd = Bool.true) ∧
 List.length x'.fst - x'.snd.snd.snd < List.length x.fst - x.snd.snd.snd ∧
 ((0 : Nat) = (0 : Nat) ∧
 (0 : Nat) = (0 : Nat) ∧
 (0 : Nat) = (0 : Nat) ∧
 (0 : Nat) = (0 : Nat) ∧
 (Pl.termSort x.fst (Pl.Tree.mk x.snd.snd.fst.fst x.snd.snd.fst.snd)).fst =
 (Pl.termSort x'.fst (Pl.Tree.mk x'.snd.snd.fst.fst x'.snd.snd.fst.snd)).fst ∧
 IntKind.i64.wrap ((↑x.snd.snd.snd : Int) + (1 : Int)) = (↑x'.snd.snd.snd : Int) ∧ True) ∧
 (Is (syms x.fst) (syms x'.fst) ∧ True) ∧
 (Is (mrows x.snd.fst) (mrows x'.snd.fst) ∧ True) ∧
 (x.snd.snd.fst.fst = x'.snd.snd.fst.fst ∧ Is (terms x.snd.snd.fst.snd) (terms x'.snd.snd.fst.snd) ∧ True) ∧
 ((Pl.valT x.snd.fst (Pl.Tree.mk x.snd.snd.fst.fst x.snd.snd.fst.snd)).fst =
 (Pl.valT x'.snd.fst (Pl.Tree.mk x'.snd.snd.fst.fst x'.snd.snd.fst.snd)).fst ∧
 (Pl.valT x.snd.fst (Pl.Tree.mk x.snd.snd.fst.fst x.snd.snd.fst.snd)).snd =
 (Pl.valT x'.snd.fst (Pl.Tree.mk x'.snd.snd.fst.fst x'.snd.snd.fst.snd)).snd ∧
 True) ∧
 True)
 (((0 : Int) ≤ (↑x.snd.snd.snd : Int) ∧ (↑x.snd.snd.snd : Int) < (↑(List.length x.fst) : Int)) ∧
 x.snd.snd.snd < List.length x.fst ∧
 ((0 : Int) ≤ (0 : Int) ∧ (0 : Int) < (↑(List.getD x.fst x.snd.snd.snd Pl.dY).snd.fst.length : Int)) ∧
 (0 : Nat) < (List.getD x.fst x.snd.snd.snd Pl.dY).snd.fst.length ∧
 condP
 ((List.getD x.fst x.snd.snd.snd Pl.dY).snd.fst.getD (0 : Nat) (0 : Int) !=
 (Pl.termSort x.fst (Pl.Tree.mk x.snd.snd.fst.fst x.snd.snd.fst.snd)).fst)
 (Exists fun (x' : Pl.Sig × Pl.Mdl × Pl.TP × Nat) =>
 (Pl.SgB (5 : Nat) (2 : Nat) x'.fst ∧
 Pl.MdB (16 : Nat) (3 : Nat) x'.snd.fst ∧
 Pl.TmB (1500 : Nat) x'.snd.snd.fst ∧
 x'.snd.snd.snd ≤ List.length x'.fst ∧
 (Pl.modelTerm x'.fst x'.snd.fst (Pl.Tree.mk x'.snd.snd.fst.fst x'.snd.snd.fst.snd)).snd = Bool.true) ∧
 List.length x'.fst - x'.snd.snd.snd < List.length x.fst - x.snd.snd.snd ∧
 ((0 : Nat) = (0 : Nat) ∧
 (0 : Nat) = (0 : Nat) ∧
 (0 : Nat) = (0 : Nat) ∧
 (0 : Nat) = (0 : Nat) ∧
 (Pl.termSort x.fst (Pl.Tree.mk x.snd.snd.fst.fst x.snd.snd.fst.snd)).fst =
 (Pl.termSort x'.fst (Pl.Tree.mk x'.snd.snd.fst.fst x'.snd.snd.fst.snd)).fst ∧
 IntKind.i64.wrap ((↑x.snd.snd.snd : Int) + (1 : Int)) = (↑x'.snd.snd.snd : Int) ∧ True) ∧
 (Is (syms x.fst) (syms x'.fst) ∧ True) ∧
 (Is (mrows x.snd.fst) (mrows x'.snd.fst) ∧ True) ∧
 (x.snd.snd.fst.fst = x'.snd.snd.fst.fst ∧
 Is (terms x.snd.snd.fst.snd) (terms x'.snd.snd.fst.snd) ∧ True) ∧
 ((Pl.valT x.snd.fst (Pl.Tree.mk x.snd.snd.fst.fst x.snd.snd.fst.snd)).fst =
 (Pl.valT x'.snd.fst (Pl.Tree.mk x'.snd.snd.fst.fst x'.snd.snd.fst.snd)).fst ∧
 (Pl.valT x.snd.fst (Pl.Tree.mk x.snd.snd.fst.fst x.snd.snd.fst.snd)).snd =
 (Pl.valT x'.snd.fst (Pl.Tree.mk x'.snd.snd.fst.fst x'.snd.snd.fst.snd)).snd ∧
 True) ∧
 True)
 ((Exists fun (x_4 : Nat) =>
 x_4 ≤ List.length x.fst ∧
 ((0 : Nat) = (0 : Nat) ∧
 (0 : Nat) = (0 : Nat) ∧
 (0 : Nat) = (0 : Nat) ∧
 (0 : Nat) = (0 : Nat) ∧
 (Pl.termSort x.fst (Pl.Tree.mk x.snd.snd.fst.fst x.snd.snd.fst.snd)).fst =
 (Pl.termSort x.fst (Pl.Tree.mk x.snd.snd.fst.fst x.snd.snd.fst.snd)).fst ∧
 (↑x.snd.snd.snd : Int) = (↑x.snd.snd.snd : Int) ∧ (0 : Int) = (↑x_4 : Int) ∧ True) ∧
 (Is (syms x.fst) (syms x.fst) ∧ True) ∧
 (Is (mrows x.snd.fst) (mrows x.snd.fst) ∧ True) ∧
 (x.snd.snd.fst.fst = x.snd.snd.fst.fst ∧ Is (terms x.snd.snd.fst.snd) (terms x.snd.snd.fst.snd) ∧ True) ∧
 ((Pl.valT x.snd.fst (Pl.Tree.mk x.snd.snd.fst.fst x.snd.snd.fst.snd)).fst =
 (Pl.valT x.snd.fst (Pl.Tree.mk x.snd.snd.fst.fst x.snd.snd.fst.snd)).fst ∧
 (Pl.valT x.snd.fst (Pl.Tree.mk x.snd.snd.fst.fst x.snd.snd.fst.snd)).snd =
 (Pl.valT x.snd.fst (Pl.Tree.mk x.snd.snd.fst.fst x.snd.snd.fst.snd)).snd ∧
 True) ∧
 True) ∧
 ∀ (x_4 : Nat),
 x_4 ≤ List.length x.fst →
 condP (Decidable.decide ((↑x_4 : Int) < (↑(List.length x.fst) : Int)))
 (((0 : Int) ≤ (↑x_4 : Int) ∧ (↑x_4 : Int) < (↑(List.length x.fst) : Int)) ∧
 x_4 < List.length x.fst ∧
 Exists fun (x_5 : Pl.Sig × Pl.Mdl × Pl.TP) =>
 ((Is (syms x.fst) (syms x_5.fst) ∧ True) ∧
 (Is (mrows x.snd.fst) (mrows x_5.snd.fst) ∧ True) ∧
 ((List.getD x.fst x_4 Pl.dY).fst = x_5.snd.snd.fst ∧
 Is (AV.lit (0 : Nat) (1 : Nat) fun (x x_6 : Nat) => AV.any) (terms x_5.snd.snd.snd) ∧
 True) ∧
 True) ∧
 (SmG x_5.fst ∧ SmM x_5.snd.fst ∧ SmT (Pl.Tree.mk x_5.snd.snd.fst x_5.snd.snd.snd)) ∧
 condP (!(Pl.modelTerm x_5.fst x_5.snd.fst (Pl.Tree.mk x_5.snd.snd.fst x_5.snd.snd.snd)).snd)
 (Exists fun (x' : Nat) =>
 x' ≤ List.length x.fst ∧
 List.length x.fst - x' < List.length x.fst - x_4 ∧
 ((0 : Nat) = (0 : Nat) ∧
 (0 : Nat) = (0 : Nat) ∧
 (0 : Nat) = (0 : Nat) ∧
 (0 : Nat) = (0 : Nat) ∧
 (Pl.termSort x.fst (Pl.Tree.mk x.snd.snd.fst.fst x.snd.snd.fst.snd)).fst =
 (Pl.termSort x.fst (Pl.Tree.mk x.snd.snd.fst.fst x.snd.snd.fst.snd)).fst ∧
 (↑x.snd.snd.snd : Int) = (↑x.snd.snd.snd : Int) ∧
 IntKind.i64.wrap ((↑x_4 : Int) + (1 : Int)) = (↑x' : Int) ∧ True) ∧
 (Is (syms x.fst) (syms x.fst) ∧ True) ∧
 (Is (mrows x.snd.fst) (mrows x.snd.fst) ∧ True) ∧
 (x.snd.snd.fst.fst = x.snd.snd.fst.fst ∧
 Is (terms x.snd.snd.fst.snd) (terms x.snd.snd.fst.snd) ∧ True) ∧
 ((Pl.valT x.snd.fst (Pl.Tree.mk x.snd.snd.fst.fst x.snd.snd.fst.snd)).fst =
 (Pl.valT x.snd.fst (Pl.Tree.mk x.snd.snd.fst.fst x.snd.snd.fst.snd)).fst ∧
 (Pl.valT x.snd.fst (Pl.Tree.mk x.snd.snd.fst.fst x.snd.snd.fst.snd)).snd =
 (Pl.valT x.snd.fst (Pl.Tree.mk x.snd.snd.fst.fst x.snd.snd.fst.snd)).snd ∧
 True) ∧
 True)
 (((0 : Int) ≤ (↑x_4 : Int) ∧ (↑x_4 : Int) < (↑(List.length x.fst) : Int)) ∧
 x_4 < List.length x.fst ∧
 condP
 ((List.getD x.fst x_4 Pl.dY).snd.snd !=
 (Pl.termSort x.fst (Pl.Tree.mk x.snd.snd.fst.fst x.snd.snd.fst.snd)).fst)
 (Exists fun (x' : Nat) =>
 x' ≤ List.length x.fst ∧
 List.length x.fst - x' < List.length x.fst - x_4 ∧
 ((0 : Nat) = (0 : Nat) ∧
 (0 : Nat) = (0 : Nat) ∧
 (0 : Nat) = (0 : Nat) ∧
 (0 : Nat) = (0 : Nat) ∧
 (Pl.termSort x.fst (Pl.Tree.mk x.snd.snd.fst.fst x.snd.snd.fst.snd)).fst =
 (Pl.termSort x.fst (Pl.Tree.mk x.snd.snd.fst.fst x.snd.snd.fst.snd)).fst ∧
 (↑x.snd.snd.snd : Int) = (↑x.snd.snd.snd : Int) ∧
 IntKind.i64.wrap ((↑x_4 : Int) + (1 : Int)) = (↑x' : Int) ∧ True) ∧
 (Is (syms x.fst) (syms x.fst) ∧ True) ∧
 (Is (mrows x.snd.fst) (mrows x.snd.fst) ∧ True) ∧
 (x.snd.snd.fst.fst = x.snd.snd.fst.fst ∧
 Is (terms x.snd.snd.fst.snd) (terms x.snd.snd.fst.snd) ∧ True) ∧
 ((Pl.valT x.snd.fst (Pl.Tree.mk x.snd.snd.fst.fst x.snd.snd.fst.snd)).fst =
 (Pl.valT x.snd.fst (Pl.Tree.mk x.snd.snd.fst.fst x.snd.snd.fst.snd)).fst ∧
 (Pl.valT x.snd.fst (Pl.Tree.mk x.snd.snd.fst.fst x.snd.snd.fst.snd)).snd =
 (Pl.valT x.snd.fst (Pl.Tree.mk x.snd.snd.fst.fst x.snd.snd.fst.snd)).snd ∧
 True) ∧
 True)
 (condP
 (!((Pl.modelTerm x_5.fst x_5.snd.fst (Pl.Tree.mk x_5.snd.snd.fst x_5.snd.snd.snd)).fst.fst ==
 (Pl.valT x.snd.fst (Pl.Tree.mk x.snd.snd.fst.fst x.snd.snd.fst.snd)).fst &&
 (Pl.modelTerm x_5.fst x_5.snd.fst (Pl.Tree.mk x_5.snd.snd.fst x_5.snd.snd.snd)).fst.snd ==
 (Pl.valT x.snd.fst (Pl.Tree.mk x.snd.snd.fst.fst x.snd.snd.fst.snd)).snd))
 (Exists fun (x' : Nat) =>
 x' ≤ List.length x.fst ∧
 List.length x.fst - x' < List.length x.fst - x_4 ∧
 ((0 : Nat) = (0 : Nat) ∧
 (0 : Nat) = (0 : Nat) ∧
 (0 : Nat) = (0 : Nat) ∧
 (0 : Nat) = (0 : Nat) ∧
 (Pl.termSort x.fst (Pl.Tree.mk x.snd.snd.fst.fst x.snd.snd.fst.snd)).fst =
 (Pl.termSort x.fst (Pl.Tree.mk x.snd.snd.fst.fst x.snd.snd.fst.snd)).fst ∧
 (↑x.snd.snd.snd : Int) = (↑x.snd.snd.snd : Int) ∧
 IntKind.i64.wrap ((↑x_4 : Int) + (1 : Int)) = (↑x' : Int) ∧ True) ∧
 (Is (syms x.fst) (syms x.fst) ∧ True) ∧
 (Is (mrows x.snd.fst) (mrows x.snd.fst) ∧ True) ∧
 (x.snd.snd.fst.fst = x.snd.snd.fst.fst ∧
 Is (terms x.snd.snd.fst.snd) (terms x.snd.snd.fst.snd) ∧ True) ∧
 ((Pl.valT x.snd.fst (Pl.Tree.mk x.snd.snd.fst.fst x.snd.snd.fst.snd)).fst =
 (Pl.valT x.snd.fst (Pl.Tree.mk x.snd.snd.fst.fst x.snd.snd.fst.snd)).fst ∧
 (Pl.valT x.snd.fst (Pl.Tree.mk x.snd.snd.fst.fst x.snd.snd.fst.snd)).snd =
 (Pl.valT x.snd.fst (Pl.Tree.mk x.snd.snd.fst.fst x.snd.snd.fst.snd)).snd ∧
 True) ∧
 True)
 (((0 : Int) ≤ (↑x.snd.snd.snd : Int) ∧ (↑x.snd.snd.snd : Int) < (↑(List.length x.fst) : Int)) ∧
 x.snd.snd.snd < List.length x.fst ∧
 Exists fun (x_6 : Pl.Sig × Pl.Mdl × Pl.TP) =>
 ((Is (syms x.fst) (syms x_6.fst) ∧ True) ∧
 (Is (mrows x.snd.fst) (mrows x_6.snd.fst) ∧ True) ∧
 ((List.getD x.fst x.snd.snd.snd Pl.dY).fst = x_6.snd.snd.fst ∧
 Is
 (AV.lit (1 : Nat) (2 : Nat)
 (rowsCell [[st x.snd.snd.fst.fst, terms x.snd.snd.fst.snd]]))
 (terms x_6.snd.snd.snd) ∧
 True) ∧
 True) ∧
 (SmG x_6.fst ∧
 SmM x_6.snd.fst ∧ SmT (Pl.Tree.mk x_6.snd.snd.fst x_6.snd.snd.snd)) ∧
 ((0 : Int) ≤ (↑x.snd.snd.snd : Int) ∧
 (↑x.snd.snd.snd : Int) < (↑(List.length x.fst) : Int)) ∧
 x.snd.snd.snd < List.length x.fst ∧
 Exists fun (x_7 : Pl.Sig × Pl.Mdl × Pl.TP) =>
 ((Is (syms x.fst) (syms x_7.fst) ∧ True) ∧
 (Is (mrows x.snd.fst) (mrows x_7.snd.fst) ∧ True) ∧
 ((List.getD x.fst x.snd.snd.snd Pl.dY).fst = x_7.snd.snd.fst ∧
 Is
 (AV.lit (1 : Nat) (2 : Nat)
 (rowsCell
 [[st (List.getD x.fst x_4 Pl.dY).fst,
 AV.lit (0 : Nat) (1 : Nat) fun (x x_8 : Nat) =>
 AV.any]]))
 (terms x_7.snd.snd.snd) ∧
 True) ∧
 True) ∧
 (SmG x_7.fst ∧
 SmM x_7.snd.fst ∧ SmT (Pl.Tree.mk x_7.snd.snd.fst x_7.snd.snd.snd)) ∧
 condP
 (Pl.modelTerm x_6.fst x_6.snd.fst
 (Pl.Tree.mk x_6.snd.snd.fst x_6.snd.snd.snd)).snd
 (condP
 (Pl.modelTerm x_7.fst x_7.snd.fst
 (Pl.Tree.mk x_7.snd.snd.fst x_7.snd.snd.snd)).snd
 (condP
 (!((Pl.modelTerm x_6.fst x_6.snd.fst
 (Pl.Tree.mk x_6.snd.snd.fst x_6.snd.snd.snd)).fst.fst ==
 (Pl.modelTerm x_7.fst x_7.snd.fst
 (Pl.Tree.mk x_7.snd.snd.fst x_7.snd.snd.snd)).fst.fst &&
 (Pl.modelTerm x_6.fst x_6.snd.fst
 (Pl.Tree.mk x_6.snd.snd.fst x_6.snd.snd.snd)).fst.snd ==
 (Pl.modelTerm x_7.fst x_7.snd.fst
 (Pl.Tree.mk x_7.snd.snd.fst x_7.snd.snd.snd)).fst.snd))
 (Bool.false = Bool.true)
 (Exists fun (x' : Nat) =>
 x' ≤ List.length x.fst ∧
 List.length x.fst - x' < List.length x.fst - x_4 ∧
 ((0 : Nat) = (0 : Nat) ∧
 (0 : Nat) = (0 : Nat) ∧
 (0 : Nat) = (0 : Nat) ∧
 (0 : Nat) = (0 : Nat) ∧
 (Pl.termSort x.fst
 (Pl.Tree.mk x.snd.snd.fst.fst
 x.snd.snd.fst.snd)).fst =
 (Pl.termSort x.fst
 (Pl.Tree.mk x.snd.snd.fst.fst
 x.snd.snd.fst.snd)).fst ∧
 (↑x.snd.snd.snd : Int) = (↑x.snd.snd.snd : Int) ∧
 IntKind.i64.wrap ((↑x_4 : Int) + (1 : Int)) =
 (↑x' : Int) ∧
 True) ∧
 (Is (syms x.fst) (syms x.fst) ∧ True) ∧
 (Is (mrows x.snd.fst) (mrows x.snd.fst) ∧ True) ∧
 (x.snd.snd.fst.fst = x.snd.snd.fst.fst ∧
 Is (terms x.snd.snd.fst.snd)
 (terms x.snd.snd.fst.snd) ∧
 True) ∧
 ((Pl.valT x.snd.fst
 (Pl.Tree.mk x.snd.snd.fst.fst
 x.snd.snd.fst.snd)).fst =
 (Pl.valT x.snd.fst
 (Pl.Tree.mk x.snd.snd.fst.fst
 x.snd.snd.fst.snd)).fst ∧
 (Pl.valT x.snd.fst
 (Pl.Tree.mk x.snd.snd.fst.fst
 x.snd.snd.fst.snd)).snd =
 (Pl.valT x.snd.fst
 (Pl.Tree.mk x.snd.snd.fst.fst
 x.snd.snd.fst.snd)).snd ∧
 True) ∧
 True))
 (Exists fun (x' : Nat) =>
 x' ≤ List.length x.fst ∧
 List.length x.fst - x' < List.length x.fst - x_4 ∧
 ((0 : Nat) = (0 : Nat) ∧
 (0 : Nat) = (0 : Nat) ∧
 (0 : Nat) = (0 : Nat) ∧
 (0 : Nat) = (0 : Nat) ∧
 (Pl.termSort x.fst
 (Pl.Tree.mk x.snd.snd.fst.fst
 x.snd.snd.fst.snd)).fst =
 (Pl.termSort x.fst
 (Pl.Tree.mk x.snd.snd.fst.fst
 x.snd.snd.fst.snd)).fst ∧
 (↑x.snd.snd.snd : Int) = (↑x.snd.snd.snd : Int) ∧
 IntKind.i64.wrap ((↑x_4 : Int) + (1 : Int)) =
 (↑x' : Int) ∧
 True) ∧
 (Is (syms x.fst) (syms x.fst) ∧ True) ∧
 (Is (mrows x.snd.fst) (mrows x.snd.fst) ∧ True) ∧
 (x.snd.snd.fst.fst = x.snd.snd.fst.fst ∧
 Is (terms x.snd.snd.fst.snd)
 (terms x.snd.snd.fst.snd) ∧
 True) ∧
 ((Pl.valT x.snd.fst
 (Pl.Tree.mk x.snd.snd.fst.fst
 x.snd.snd.fst.snd)).fst =
 (Pl.valT x.snd.fst
 (Pl.Tree.mk x.snd.snd.fst.fst
 x.snd.snd.fst.snd)).fst ∧
 (Pl.valT x.snd.fst
 (Pl.Tree.mk x.snd.snd.fst.fst
 x.snd.snd.fst.snd)).snd =
 (Pl.valT x.snd.fst
 (Pl.Tree.mk x.snd.snd.fst.fst
 x.snd.snd.fst.snd)).snd ∧
 True) ∧
 True))
 (Exists fun (x' : Nat) =>
 x' ≤ List.length x.fst ∧
 List.length x.fst - x' < List.length x.fst - x_4 ∧
 ((0 : Nat) = (0 : Nat) ∧
 (0 : Nat) = (0 : Nat) ∧
 (0 : Nat) = (0 : Nat) ∧
 (0 : Nat) = (0 : Nat) ∧
 (Pl.termSort x.fst
 (Pl.Tree.mk x.snd.snd.fst.fst
 x.snd.snd.fst.snd)).fst =
 (Pl.termSort x.fst
 (Pl.Tree.mk x.snd.snd.fst.fst
 x.snd.snd.fst.snd)).fst ∧
 (↑x.snd.snd.snd : Int) = (↑x.snd.snd.snd : Int) ∧
 IntKind.i64.wrap ((↑x_4 : Int) + (1 : Int)) =
 (↑x' : Int) ∧
 True) ∧
 (Is (syms x.fst) (syms x.fst) ∧ True) ∧
 (Is (mrows x.snd.fst) (mrows x.snd.fst) ∧ True) ∧
 (x.snd.snd.fst.fst = x.snd.snd.fst.fst ∧
 Is (terms x.snd.snd.fst.snd)
 (terms x.snd.snd.fst.snd) ∧
 True) ∧
 ((Pl.valT x.snd.fst
 (Pl.Tree.mk x.snd.snd.fst.fst
 x.snd.snd.fst.snd)).fst =
 (Pl.valT x.snd.fst
 (Pl.Tree.mk x.snd.snd.fst.fst
 x.snd.snd.fst.snd)).fst ∧
 (Pl.valT x.snd.fst
 (Pl.Tree.mk x.snd.snd.fst.fst
 x.snd.snd.fst.snd)).snd =
 (Pl.valT x.snd.fst
 (Pl.Tree.mk x.snd.snd.fst.fst
 x.snd.snd.fst.snd)).snd ∧
 True) ∧
 True)))))
 (Exists fun (x' : Pl.Sig × Pl.Mdl × Pl.TP × Nat) =>
 (Pl.SgB (5 : Nat) (2 : Nat) x'.fst ∧
 Pl.MdB (16 : Nat) (3 : Nat) x'.snd.fst ∧
 Pl.TmB (1500 : Nat) x'.snd.snd.fst ∧
 x'.snd.snd.snd ≤ List.length x'.fst ∧
 (Pl.modelTerm x'.fst x'.snd.fst (Pl.Tree.mk x'.snd.snd.fst.fst x'.snd.snd.fst.snd)).snd = Bool.true) ∧
 List.length x'.fst - x'.snd.snd.snd < List.length x.fst - x.snd.snd.snd ∧
 ((0 : Nat) = (0 : Nat) ∧
 (0 : Nat) = (0 : Nat) ∧
 (0 : Nat) = (0 : Nat) ∧
 (0 : Nat) = (0 : Nat) ∧
 (Pl.termSort x.fst (Pl.Tree.mk x.snd.snd.fst.fst x.snd.snd.fst.snd)).fst =
 (Pl.termSort x'.fst (Pl.Tree.mk x'.snd.snd.fst.fst x'.snd.snd.fst.snd)).fst ∧
 IntKind.i64.wrap ((↑x.snd.snd.snd : Int) + (1 : Int)) = (↑x'.snd.snd.snd : Int) ∧ True) ∧
 (Is (syms x.fst) (syms x'.fst) ∧ True) ∧
 (Is (mrows x.snd.fst) (mrows x'.snd.fst) ∧ True) ∧
 (x.snd.snd.fst.fst = x'.snd.snd.fst.fst ∧
 Is (terms x.snd.snd.fst.snd) (terms x'.snd.snd.fst.snd) ∧ True) ∧
 ((Pl.valT x.snd.fst (Pl.Tree.mk x.snd.snd.fst.fst x.snd.snd.fst.snd)).fst =
 (Pl.valT x'.snd.fst (Pl.Tree.mk x'.snd.snd.fst.fst x'.snd.snd.fst.snd)).fst ∧
 (Pl.valT x.snd.fst (Pl.Tree.mk x.snd.snd.fst.fst x.snd.snd.fst.snd)).snd =
 (Pl.valT x'.snd.fst (Pl.Tree.mk x'.snd.snd.fst.fst x'.snd.snd.fst.snd)).snd ∧
 True) ∧
 True))))
 (Bool.true = Bool.true)))
 ((Exists fun (x_4 : Pl.Sig × Pl.Mdl × Pl.TP × Nat) =>
 (Pl.SgB (5 : Nat) (2 : Nat) x_4.fst ∧
 Pl.MdB (16 : Nat) (3 : Nat) x_4.snd.fst ∧
 Pl.TmB (1500 : Nat) x_4.snd.snd.fst ∧
 x_4.snd.snd.snd ≤ List.length x_4.fst ∧
 (Pl.modelTerm x_4.fst x_4.snd.fst (Pl.Tree.mk x_4.snd.snd.fst.fst x_4.snd.snd.fst.snd)).snd = Bool.true) ∧
 ((0 : Nat) = (0 : Nat) ∧
 (0 : Nat) = (0 : Nat) ∧
 (0 : Nat) = (0 : Nat) ∧
 (0 : Nat) = (0 : Nat) ∧
 (Pl.termSort x_2.fst (Pl.Tree.mk x_2.snd.fst x_2.snd.snd)).fst =
 (Pl.termSort x_4.fst (Pl.Tree.mk x_4.snd.snd.fst.fst x_4.snd.snd.fst.snd)).fst ∧
 (0 : Int) = (↑x_4.snd.snd.snd : Int) ∧ True) ∧
 (Is (syms y.fst) (syms x_4.fst) ∧ True) ∧
 (Is (mrows y.snd.fst) (mrows x_4.snd.fst) ∧ True) ∧
 (y.snd.snd.fst = x_4.snd.snd.fst.fst ∧ Is (terms y.snd.snd.snd) (terms x_4.snd.snd.fst.snd) ∧ True) ∧
 ((Pl.modelTerm x.fst x.snd.fst (Pl.Tree.mk x.snd.snd.fst x.snd.snd.snd)).fst.fst =
 (Pl.valT x_4.snd.fst (Pl.Tree.mk x_4.snd.snd.fst.fst x_4.snd.snd.fst.snd)).fst ∧
 (Pl.modelTerm x.fst x.snd.fst (Pl.Tree.mk x.snd.snd.fst x.snd.snd.snd)).fst.snd =
 (Pl.valT x_4.snd.fst (Pl.Tree.mk x_4.snd.snd.fst.fst x_4.snd.snd.fst.snd)).snd ∧
 True) ∧
 True) ∧
 ∀ (x : Pl.Sig × Pl.Mdl × Pl.TP × Nat),
 Pl.SgB (5 : Nat) (2 : Nat) x.fst ∧
 Pl.MdB (16 : Nat) (3 : Nat) x.snd.fst ∧
 Pl.TmB (1500 : Nat) x.snd.snd.fst ∧
 x.snd.snd.snd ≤ List.length x.fst ∧ (Pl.modelTerm x.fst x.snd.fst (Pl.Tree.mk x.snd.snd.fst.fst x.snd.snd.fst.snd)).snd = Bool.true →
 condP (Decidable.decide ((↑x.snd.snd.snd : Int) < (↑(List.length x.fst) : Int)))
 (((0 : Int) ≤ (↑x.snd.snd.snd : Int) ∧ (↑x.snd.snd.snd : Int) < (↑(List.length x.fst) : Int)) ∧
 x.snd.snd.snd < List.length x.fst ∧
 condP ((↑(List.getD x.fst x.snd.snd.snd Pl.dY).snd.fst.length : Int) != (1 : Int))
 (Exists fun (x' : Pl.Sig × Pl.Mdl × Pl.TP × Nat) =>
 (Pl.SgB (5 : Nat) (2 : Nat) x'.fst ∧
 Pl.MdB (16 : Nat) (3 : Nat) x'.snd.fst ∧
 Pl.TmB (1500 : Nat) x'.snd.snd.fst ∧
 x'.snd.snd.snd ≤ List.length x'.fst ∧
 (Pl.modelTerm x'.fst x'.snd.fst (Pl.Tree.mk x'.snd.snd.fst.fst x'.snd.snd.fst.snd)).snd = Bool.true) ∧
 List.length x'.fst - x'.snd.snd.snd < List.length x.fst - x.snd.snd.snd ∧
 ((0 : Nat) = (0 : Nat) ∧
 (0 : Nat) = (0 : Nat) ∧
 (0 : Nat) = (0 : Nat) ∧
 (0 : Nat) = (0 : Nat) ∧
 (Pl.termSort x.fst (Pl.Tree.mk x.snd.snd.fst.fst x.snd.snd.fst.snd)).fst =
 (Pl.termSort x'.fst (Pl.Tree.mk x'.snd.snd.fst.fst x'.snd.snd.fst.snd)).fst ∧
 IntKind.i64.wrap ((↑x.snd.snd.snd : Int) + (1 : Int)) = (↑x'.snd.snd.snd : Int) ∧ True) ∧
 (Is (syms x.fst) (syms x'.fst) ∧ True) ∧
 (Is (mrows x.snd.fst) (mrows x'.snd.fst) ∧ True) ∧
 (x.snd.snd.fst.fst = x'.snd.snd.fst.fst ∧ Is (terms x.snd.snd.fst.snd) (terms x'.snd.snd.fst.snd) ∧ True) ∧
 ((Pl.valT x.snd.fst (Pl.Tree.mk x.snd.snd.fst.fst x.snd.snd.fst.snd)).fst =
 (Pl.valT x'.snd.fst (Pl.Tree.mk x'.snd.snd.fst.fst x'.snd.snd.fst.snd)).fst ∧
 (Pl.valT x.snd.fst (Pl.Tree.mk x.snd.snd.fst.fst x.snd.snd.fst.snd)).snd =
 (Pl.valT x'.snd.fst (Pl.Tree.mk x'.snd.snd.fst.fst x'.snd.snd.fst.snd)).snd ∧
 True) ∧
 True)
 (((0 : Int) ≤ (↑x.snd.snd.snd : Int) ∧ (↑x.snd.snd.snd : Int) < (↑(List.length x.fst) : Int)) ∧
 x.snd.snd.snd < List.length x.fst ∧
 ((0 : Int) ≤ (0 : Int) ∧ (0 : Int) < (↑(List.getD x.fst x.snd.snd.snd Pl.dY).snd.fst.length : Int)) ∧
 (0 : Nat) < (List.getD x.fst x.snd.snd.snd Pl.dY).snd.fst.length ∧
 condP
 ((List.getD x.fst x.snd.snd.snd Pl.dY).snd.fst.getD (0 : Nat) (0 : Int) !=
 (Pl.termSort x.fst (Pl.Tree.mk x.snd.snd.fst.fst x.snd.snd.fst.snd)).fst)
 (Exists fun (x' : Pl.Sig × Pl.Mdl × Pl.TP × Nat) =>
 (Pl.SgB (5 : Nat) (2 : Nat) x'.fst ∧
 Pl.MdB (16 : Nat) (3 : Nat) x'.snd.fst ∧
 Pl.TmB (1500 : Nat) x'.snd.snd.fst ∧
 x'.snd.snd.snd ≤ List.length x'.fst ∧
 (Pl.modelTerm x'.fst x'.snd.fst (Pl.Tree.mk x'.snd.snd.fst.fst x'.snd.snd.fst.snd)).snd = Bool.true) ∧
 List.length x'.fst - x'.snd.snd.snd < List.length x.fst - x.snd.snd.snd ∧
 ((0 : Nat) = (0 : Nat) ∧
 (0 : Nat) = (0 : Nat) ∧
 (0 : Nat) = (0 : Nat) ∧
 (0 : Nat) = (0 : Nat) ∧
 (Pl.termSort x.fst (Pl.Tree.mk x.snd.snd.fst.fst x.snd.snd.fst.snd)).fst =
 (Pl.termSort x'.fst (Pl.Tree.mk x'.snd.snd.fst.fst x'.snd.snd.fst.snd)).fst ∧
 IntKind.i64.wrap ((↑x.snd.snd.snd : Int) + (1 : Int)) = (↑x'.snd.snd.snd : Int) ∧ True) ∧
 (Is (syms x.fst) (syms x'.fst) ∧ True) ∧
 (Is (mrows x.snd.fst) (mrows x'.snd.fst) ∧ True) ∧
 (x.snd.snd.fst.fst = x'.snd.snd.fst.fst ∧ Is (terms x.snd.snd.fst.snd) (terms x'.snd.snd.fst.snd) ∧ True) ∧
 ((Pl.valT x.snd.fst (Pl.Tree.mk x.snd.snd.fst.fst x.snd.snd.fst.snd)).fst =
 (Pl.valT x'.snd.fst (Pl.Tree.mk x'.snd.snd.fst.fst x'.snd.snd.fst.snd)).fst ∧
 (Pl.valT x.snd.fst (Pl.Tree.mk x.snd.snd.fst.fst x.snd.snd.fst.snd)).snd =
 (Pl.valT x'.snd.fst (Pl.Tree.mk x'.snd.snd.fst.fst x'.snd.snd.fst.snd)).snd ∧
 True) ∧
 True)
 ((Exists fun (x_4 : Nat) =>
 x_4 ≤ List.length x.fst ∧
 ((0 : Nat) = (0 : Nat) ∧
 (0 : Nat) = (0 : Nat) ∧
 (0 : Nat) = (0 : Nat) ∧
 (0 : Nat) = (0 : Nat) ∧
 (Pl.termSort x.fst (Pl.Tree.mk x.snd.snd.fst.fst x.snd.snd.fst.snd)).fst =
 (Pl.termSort x.fst (Pl.Tree.mk x.snd.snd.fst.fst x.snd.snd.fst.snd)).fst ∧
 (↑x.snd.snd.snd : Int) = (↑x.snd.snd.snd : Int) ∧ (0 : Int) = (↑x_4 : Int) ∧ True) ∧
 (Is (syms x.fst) (syms x.fst) ∧ True) ∧
 (Is (mrows x.snd.fst) (mrows x.snd.fst) ∧ True) ∧
 (x.snd.snd.fst.fst = x.snd.snd.fst.fst ∧ Is (terms x.snd.snd.fst.snd) (terms x.snd.snd.fst.snd) ∧ True) ∧
 ((Pl.valT x.snd.fst (Pl.Tree.mk x.snd.snd.fst.fst x.snd.snd.fst.snd)).fst =
 (Pl.valT x.snd.fst (Pl.Tree.mk x.snd.snd.fst.fst x.snd.snd.fst.snd)).fst ∧
 (Pl.valT x.snd.fst (Pl.Tree.mk x.snd.snd.fst.fst x.snd.snd.fst.snd)).snd =
 (Pl.valT x.snd.fst (Pl.Tree.mk x.snd.snd.fst.fst x.snd.snd.fst.snd)).snd ∧
 True) ∧
 True) ∧
 ∀ (x_4 : Nat),
 x_4 ≤ List.length x.fst →
 condP (Decidable.decide ((↑x_4 : Int) < (↑(List.length x.fst) : Int)))
 (((0 : Int) ≤ (↑x_4 : Int) ∧ (↑x_4 : Int) < (↑(List.length x.fst) : Int)) ∧
 x_4 < List.length x.fst ∧
 Exists fun (x_5 : Pl.Sig × Pl.Mdl × Pl.TP) =>
 ((Is (syms x.fst) (syms x_5.fst) ∧ True) ∧
 (Is (mrows x.snd.fst) (mrows x_5.snd.fst) ∧ True) ∧
 ((List.getD x.fst x_4 Pl.dY).fst = x_5.snd.snd.fst ∧
 Is (AV.lit (0 : Nat) (1 : Nat) fun (x x_6 : Nat) => AV.any) (terms x_5.snd.snd.snd) ∧
 True) ∧
 True) ∧
 (SmG x_5.fst ∧ SmM x_5.snd.fst ∧ SmT (Pl.Tree.mk x_5.snd.snd.fst x_5.snd.snd.snd)) ∧
 condP (!(Pl.modelTerm x_5.fst x_5.snd.fst (Pl.Tree.mk x_5.snd.snd.fst x_5.snd.snd.snd)).snd)
 (Exists fun (x' : Nat) =>
 x' ≤ List.length x.fst ∧
 List.length x.fst - x' < List.length x.fst - x_4 ∧
 ((0 : Nat) = (0 : Nat) ∧
 (0 : Nat) = (0 : Nat) ∧
 (0 : Nat) = (0 : Nat) ∧
 (0 : Nat) = (0 : Nat) ∧
 (Pl.termSort x.fst (Pl.Tree.mk x.snd.snd.fst.fst x.snd.snd.fst.snd)).fst =
 (Pl.termSort x.fst (Pl.Tree.mk x.snd.snd.fst.fst x.snd.snd.fst.snd)).fst ∧
 (↑x.snd.snd.snd : Int) = (↑x.snd.snd.snd : Int) ∧
 IntKind.i64.wrap ((↑x_4 : Int) + (1 : Int)) = (↑x' : Int) ∧ True) ∧
 (Is (syms x.fst) (syms x.fst) ∧ True) ∧
 (Is (mrows x.snd.fst) (mrows x.snd.fst) ∧ True) ∧
 (x.snd.snd.fst.fst = x.snd.snd.fst.fst ∧
 Is (terms x.snd.snd.fst.snd) (terms x.snd.snd.fst.snd) ∧ True) ∧
 ((Pl.valT x.snd.fst (Pl.Tree.mk x.snd.snd.fst.fst x.snd.snd.fst.snd)).fst =
 (Pl.valT x.snd.fst (Pl.Tree.mk x.snd.snd.fst.fst x.snd.snd.fst.snd)).fst ∧
 (Pl.valT x.snd.fst (Pl.Tree.mk x.snd.snd.fst.fst x.snd.snd.fst.snd)).snd =
 (Pl.valT x.snd.fst (Pl.Tree.mk x.snd.snd.fst.fst x.snd.snd.fst.snd)).snd ∧
 True) ∧
 True)
 (((0 : Int) ≤ (↑x_4 : Int) ∧ (↑x_4 : Int) < (↑(List.length x.fst) : Int)) ∧
 x_4 < List.length x.fst ∧
 condP
 ((List.getD x.fst x_4 Pl.dY).snd.snd !=
 (Pl.termSort x.fst (Pl.Tree.mk x.snd.snd.fst.fst x.snd.snd.fst.snd)).fst)
 (Exists fun (x' : Nat) =>
 x' ≤ List.length x.fst ∧
 List.length x.fst - x' < List.length x.fst - x_4 ∧
 ((0 : Nat) = (0 : Nat) ∧
 (0 : Nat) = (0 : Nat) ∧
 (0 : Nat) = (0 : Nat) ∧
 (0 : Nat) = (0 : Nat) ∧
 (Pl.termSort x.fst (Pl.Tree.mk x.snd.snd.fst.fst x.snd.snd.fst.snd)).fst =
 (Pl.termSort x.fst (Pl.Tree.mk x.snd.snd.fst.fst x.snd.snd.fst.snd)).fst ∧
 (↑x.snd.snd.snd : Int) = (↑x.snd.snd.snd : Int) ∧
 IntKind.i64.wrap ((↑x_4 : Int) + (1 : Int)) = (↑x' : Int) ∧ True) ∧
 (Is (syms x.fst) (syms x.fst) ∧ True) ∧
 (Is (mrows x.snd.fst) (mrows x.snd.fst) ∧ True) ∧
 (x.snd.snd.fst.fst = x.snd.snd.fst.fst ∧
 Is (terms x.snd.snd.fst.snd) (terms x.snd.snd.fst.snd) ∧ True) ∧
 ((Pl.valT x.snd.fst (Pl.Tree.mk x.snd.snd.fst.fst x.snd.snd.fst.snd)).fst =
 (Pl.valT x.snd.fst (Pl.Tree.mk x.snd.snd.fst.fst x.snd.snd.fst.snd)).fst ∧
 (Pl.valT x.snd.fst (Pl.Tree.mk x.snd.snd.fst.fst x.snd.snd.fst.snd)).snd =
 (Pl.valT x.snd.fst (Pl.Tree.mk x.snd.snd.fst.fst x.snd.snd.fst.snd)).snd ∧
 True) ∧
 True)
 (condP
 (!((Pl.modelTerm x_5.fst x_5.snd.fst (Pl.Tree.mk x_5.snd.snd.fst x_5.snd.snd.snd)).fst.fst ==
 (Pl.valT x.snd.fst (Pl.Tree.mk x.snd.snd.fst.fst x.snd.snd.fst.snd)).fst &&
 (Pl.modelTerm x_5.fst x_5.snd.fst (Pl.Tree.mk x_5.snd.snd.fst x_5.snd.snd.snd)).fst.snd ==
 (Pl.valT x.snd.fst (Pl.Tree.mk x.snd.snd.fst.fst x.snd.snd.fst.snd)).snd))
 (Exists fun (x' : Nat) =>
 x' ≤ List.length x.fst ∧
 List.length x.fst - x' < List.length x.fst - x_4 ∧
 ((0 : Nat) = (0 : Nat) ∧
 (0 : Nat) = (0 : Nat) ∧
 (0 : Nat) = (0 : Nat) ∧
 (0 : Nat) = (0 : Nat) ∧
 (Pl.termSort x.fst (Pl.Tree.mk x.snd.snd.fst.fst x.snd.snd.fst.snd)).fst =
 (Pl.termSort x.fst (Pl.Tree.mk x.snd.snd.fst.fst x.snd.snd.fst.snd)).fst ∧
 (↑x.snd.snd.snd : Int) = (↑x.snd.snd.snd : Int) ∧
 IntKind.i64.wrap ((↑x_4 : Int) + (1 : Int)) = (↑x' : Int) ∧ True) ∧
 (Is (syms x.fst) (syms x.fst) ∧ True) ∧
 (Is (mrows x.snd.fst) (mrows x.snd.fst) ∧ True) ∧
 (x.snd.snd.fst.fst = x.snd.snd.fst.fst ∧
 Is (terms x.snd.snd.fst.snd) (terms x.snd.snd.fst.snd) ∧ True) ∧
 ((Pl.valT x.snd.fst (Pl.Tree.mk x.snd.snd.fst.fst x.snd.snd.fst.snd)).fst =
 (Pl.valT x.snd.fst (Pl.Tree.mk x.snd.snd.fst.fst x.snd.snd.fst.snd)).fst ∧
 (Pl.valT x.snd.fst (Pl.Tree.mk x.snd.snd.fst.fst x.snd.snd.fst.snd)).snd =
 (Pl.valT x.snd.fst (Pl.Tree.mk x.snd.snd.fst.fst x.snd.snd.fst.snd)).snd ∧
 True) ∧
 True)
 (((0 : Int) ≤ (↑x.snd.snd.snd : Int) ∧ (↑x.snd.snd.snd : Int) < (↑(List.length x.fst) : Int)) ∧
 x.snd.snd.snd < List.length x.fst ∧
 Exists fun (x_6 : Pl.Sig × Pl.Mdl × Pl.TP) =>
 ((Is (syms x.fst) (syms x_6.fst) ∧ True) ∧
 (Is (mrows x.snd.fst) (mrows x_6.snd.fst) ∧ True) ∧
 ((List.getD x.fst x.snd.snd.snd Pl.dY).fst = x_6.snd.snd.fst ∧
 Is
 (AV.lit (1 : Nat) (2 : Nat)
 (rowsCell [[st x.snd.snd.fst.fst, terms x.snd.snd.fst.snd]]))
 (terms x_6.snd.snd.snd) ∧
 True) ∧
 True) ∧
 (SmG x_6.fst ∧
 SmM x_6.snd.fst ∧ SmT (Pl.Tree.mk x_6.snd.snd.fst x_6.snd.snd.snd)) ∧
 ((0 : Int) ≤ (↑x.snd.snd.snd : Int) ∧
 (↑x.snd.snd.snd : Int) < (↑(List.length x.fst) : Int)) ∧
 x.snd.snd.snd < List.length x.fst ∧
 Exists fun (x_7 : Pl.Sig × Pl.Mdl × Pl.TP) =>
 ((Is (syms x.fst) (syms x_7.fst) ∧ True) ∧
 (Is (mrows x.snd.fst) (mrows x_7.snd.fst) ∧ True) ∧
 ((List.getD x.fst x.snd.snd.snd Pl.dY).fst = x_7.snd.snd.fst ∧
 Is
 (AV.lit (1 : Nat) (2 : Nat)
 (rowsCell
 [[st (List.getD x.fst x_4 Pl.dY).fst,
 AV.lit (0 : Nat) (1 : Nat) fun (x x_8 : Nat) =>
 AV.any]]))
 (terms x_7.snd.snd.snd) ∧
 True) ∧
 True) ∧
 (SmG x_7.fst ∧
 SmM x_7.snd.fst ∧ SmT (Pl.Tree.mk x_7.snd.snd.fst x_7.snd.snd.snd)) ∧
 condP
 (Pl.modelTerm x_6.fst x_6.snd.fst
 (Pl.Tree.mk x_6.snd.snd.fst x_6.snd.snd.snd)).snd
 (condP
 (Pl.modelTerm x_7.fst x_7.snd.fst
 (Pl.Tree.mk x_7.snd.snd.fst x_7.snd.snd.snd)).snd
 (condP
 (!((Pl.modelTerm x_6.fst x_6.snd.fst
 (Pl.Tree.mk x_6.snd.snd.fst x_6.snd.snd.snd)).fst.fst ==
 (Pl.modelTerm x_7.fst x_7.snd.fst
 (Pl.Tree.mk x_7.snd.snd.fst x_7.snd.snd.snd)).fst.fst &&
 (Pl.modelTerm x_6.fst x_6.snd.fst
 (Pl.Tree.mk x_6.snd.snd.fst x_6.snd.snd.snd)).fst.snd ==
 (Pl.modelTerm x_7.fst x_7.snd.fst
 (Pl.Tree.mk x_7.snd.snd.fst x_7.snd.snd.snd)).fst.snd))
 (Bool.false = Bool.true)
 (Exists fun (x' : Nat) =>
 x' ≤ List.length x.fst ∧
 List.length x.fst - x' < List.length x.fst - x_4 ∧
 ((0 : Nat) = (0 : Nat) ∧
 (0 : Nat) = (0 : Nat) ∧
 (0 : Nat) = (0 : Nat) ∧
 (0 : Nat) = (0 : Nat) ∧
 (Pl.termSort x.fst
 (Pl.Tree.mk x.snd.snd.fst.fst
 x.snd.snd.fst.snd)).fst =
 (Pl.termSort x.fst
 (Pl.Tree.mk x.snd.snd.fst.fst
 x.snd.snd.fst.snd)).fst ∧
 (↑x.snd.snd.snd : Int) = (↑x.snd.snd.snd : Int) ∧
 IntKind.i64.wrap ((↑x_4 : Int) + (1 : Int)) =
 (↑x' : Int) ∧
 True) ∧
 (Is (syms x.fst) (syms x.fst) ∧ True) ∧
 (Is (mrows x.snd.fst) (mrows x.snd.fst) ∧ True) ∧
 (x.snd.snd.fst.fst = x.snd.snd.fst.fst ∧
 Is (terms x.snd.snd.fst.snd)
 (terms x.snd.snd.fst.snd) ∧
 True) ∧
 ((Pl.valT x.snd.fst
 (Pl.Tree.mk x.snd.snd.fst.fst
 x.snd.snd.fst.snd)).fst =
 (Pl.valT x.snd.fst
 (Pl.Tree.mk x.snd.snd.fst.fst
 x.snd.snd.fst.snd)).fst ∧
 (Pl.valT x.snd.fst
 (Pl.Tree.mk x.snd.snd.fst.fst
 x.snd.snd.fst.snd)).snd =
 (Pl.valT x.snd.fst
 (Pl.Tree.mk x.snd.snd.fst.fst
 x.snd.snd.fst.snd)).snd ∧
 True) ∧
 True))
 (Exists fun (x' : Nat) =>
 x' ≤ List.length x.fst ∧
 List.length x.fst - x' < List.length x.fst - x_4 ∧
 ((0 : Nat) = (0 : Nat) ∧
 (0 : Nat) = (0 : Nat) ∧
 (0 : Nat) = (0 : Nat) ∧
 (0 : Nat) = (0 : Nat) ∧
 (Pl.termSort x.fst
 (Pl.Tree.mk x.snd.snd.fst.fst
 x.snd.snd.fst.snd)).fst =
 (Pl.termSort x.fst
 (Pl.Tree.mk x.snd.snd.fst.fst
 x.snd.snd.fst.snd)).fst ∧
 (↑x.snd.snd.snd : Int) = (↑x.snd.snd.snd : Int) ∧
 IntKind.i64.wrap ((↑x_4 : Int) + (1 : Int)) =
 (↑x' : Int) ∧
 True) ∧
 (Is (syms x.fst) (syms x.fst) ∧ True) ∧
 (Is (mrows x.snd.fst) (mrows x.snd.fst) ∧ True) ∧
 (x.snd.snd.fst.fst = x.snd.snd.fst.fst ∧
 Is (terms x.snd.snd.fst.snd)
 (terms x.snd.snd.fst.snd) ∧
 True) ∧
 ((Pl.valT x.snd.fst
 (Pl.Tree.mk x.snd.snd.fst.fst
 x.snd.snd.fst.snd)).fst =
 (Pl.valT x.snd.fst
 (Pl.Tree.mk x.snd.snd.fst.fst
 x.snd.snd.fst.snd)).fst ∧
 (Pl.valT x.snd.fst
 (Pl.Tree.mk x.snd.snd.fst.fst
 x.snd.snd.fst.snd)).snd =
 (Pl.valT x.snd.fst
 (Pl.Tree.mk x.snd.snd.fst.fst
 x.snd.snd.fst.snd)).snd ∧
 True) ∧
 True))
 (Exists fun (x' : Nat) =>
 x' ≤ List.length x.fst ∧
 List.length x.fst - x' < List.length x.fst - x_4 ∧
 ((0 : Nat) = (0 : Nat) ∧
 (0 : Nat) = (0 : Nat) ∧
 (0 : Nat) = (0 : Nat) ∧
 (0 : Nat) = (0 : Nat) ∧
 (Pl.termSort x.fst
 (Pl.Tree.mk x.snd.snd.fst.fst
 x.snd.snd.fst.snd)).fst =
 (Pl.termSort x.fst
 (Pl.Tree.mk x.snd.snd.fst.fst
 x.snd.snd.fst.snd)).fst ∧
 (↑x.snd.snd.snd : Int) = (↑x.snd.snd.snd : Int) ∧
 IntKind.i64.wrap ((↑x_4 : Int) + (1 : Int)) =
 (↑x' : Int) ∧
 True) ∧
 (Is (syms x.fst) (syms x.fst) ∧ True) ∧
 (Is (mrows x.snd.fst) (mrows x.snd.fst) ∧ True) ∧
 (x.snd.snd.fst.fst = x.snd.snd.fst.fst ∧
 Is (terms x.snd.snd.fst.snd)
 (terms x.snd.snd.fst.snd) ∧
 True) ∧
 ((Pl.valT x.snd.fst
 (Pl.Tree.mk x.snd.snd.fst.fst
 x.snd.snd.fst.snd)).fst =
 (Pl.valT x.snd.fst
 (Pl.Tree.mk x.snd.snd.fst.fst
 x.snd.snd.fst.snd)).fst ∧
 (Pl.valT x.snd.fst
 (Pl.Tree.mk x.snd.snd.fst.fst
 x.snd.snd.fst.snd)).snd =
 (Pl.valT x.snd.fst
 (Pl.Tree.mk x.snd.snd.fst.fst
 x.snd.snd.fst.snd)).snd ∧
 True) ∧
 True)))))
 (Exists fun (x' : Pl.Sig × Pl.Mdl × Pl.TP × Nat) =>
 (Pl.SgB (5 : Nat) (2 : Nat) x'.fst ∧
 Pl.MdB (16 : Nat) (3 : Nat) x'.snd.fst ∧
 Pl.TmB (1500 : Nat) x'.snd.snd.fst ∧
 x'.snd.snd.snd ≤ List.length x'.fst ∧
 (Pl.modelTerm x'.fst x'.snd.fst (Pl.Tree.mk x'.snd.snd.fst.fst x'.snd.snd.fst.snd)).snd = Bool.true) ∧
 List.length x'.fst - x'.snd.snd.snd < List.length x.fst - x.snd.snd.snd ∧
 ((0 : Nat) = (0 : Nat) ∧
 (0 : Nat) = (0 : Nat) ∧
 (0 : Nat) = (0 : Nat) ∧
 (0 : Nat) = (0 : Nat) ∧
 (Pl.termSort x.fst (Pl.Tree.mk x.snd.snd.fst.fst x.snd.snd.fst.snd)).fst =
 (Pl.termSort x'.fst (Pl.Tree.mk x'.snd.snd.fst.fst x'.snd.snd.fst.snd)).fst ∧
 IntKind.i64.wrap ((↑x.snd.snd.snd : Int) + (1 : Int)) = (↑x'.snd.snd.snd : Int) ∧ True) ∧
 (Is (syms x.fst) (syms x'.fst) ∧ True) ∧
 (Is (mrows x.snd.fst) (mrows x'.snd.fst) ∧ True) ∧
 (x.snd.snd.fst.fst = x'.snd.snd.fst.fst ∧
 Is (terms x.snd.snd.fst.snd) (terms x'.snd.snd.fst.snd) ∧ True) ∧
 ((Pl.valT x.snd.fst (Pl.Tree.mk x.snd.snd.fst.fst x.snd.snd.fst.snd)).fst =
 (Pl.valT x'.snd.fst (Pl.Tree.mk x'.snd.snd.fst.fst x'.snd.snd.fst.snd)).fst ∧
 (Pl.valT x.snd.fst (Pl.Tree.mk x.snd.snd.fst.fst x.snd.snd.fst.snd)).snd =
 (Pl.valT x'.snd.fst (Pl.Tree.mk x'.snd.snd.fst.fst x'.snd.snd.fst.snd)).snd ∧
 True) ∧
 True))))
 (Bool.true = Bool.true))))))))) = Goal Try.prog [K_DrawModelTerm, K_iModelTerm, K_sModelTerm, K_iTermSort, K_iRatOk] (A_yModelTerm) K_yModelTerm.1 K_yModelTerm.2 (b) := by kernel_rfl

end Cg
