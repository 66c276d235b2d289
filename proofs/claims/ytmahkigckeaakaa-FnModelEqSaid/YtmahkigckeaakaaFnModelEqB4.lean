/-
  What the law leans on, part 4. No condition.
-/
import Derived.Test.YtmahkigckeaakaaProg
import Derived.Test.YtmahkigckeaakaaFnModelEqB1
import Derived.Test.YtmahkigckeaakaaFnModelEqB2
import Derived.Test.YtmahkigckeaakaaFnModelEqB3
/-
  What is left to show of each function's code, printed by a program: Mdf. No condition.
-/
set_option maxRecDepth 100000
set_option linter.unusedVariables false
namespace Cg
open Go Go.Proofs
theorem vc_l7AnyF (b : List Int) (p : Int) (s : Pl.Sig) : ((Exists fun (x : Nat × Pl.Mdl × Int) =>
 (x.fst ≤ List.length s ∧ Pl.MdB ((3 : Nat) * x.fst) (2 : Nat) x.snd.fst ∧ p ≤ x.snd.snd ∧ x.snd.snd ≤ p + (100 : Int) * (↑x.fst : Int)) ∧
 ((0 : Nat) = (0 : Nat) ∧
 (0 : Nat) = (0 : Nat) ∧ (0 : Nat) = (0 : Nat) ∧ ((0 : Nat) = (0 : Nat) ∧ (0 : Nat) = (0 : Nat) ∧ List.length x.snd.fst = (0 : Nat)) ∧ (0 : Int) = (↑x.fst : Int) ∧ True) ∧
 (Is (byts b) (byts b) ∧ p = x.snd.snd ∧ True) ∧
 (Is (syms s) (syms s) ∧ True) ∧ (Is (AV.lit (0 : Nat) (1 : Nat) fun (x x_1 : Nat) => AV.any) nilA ∧ True) ∧ List.length x.snd.fst = (0 : Nat) ∧ True) ∧
 ∀ (x : Nat × Pl.Mdl × Int),
 x.fst ≤ List.length s ∧ Pl.MdB ((3 : Nat) * x.fst) (2 : Nat) x.snd.fst ∧ p ≤ x.snd.snd ∧ x.snd.snd ≤ p + (100 : Int) * (↑x.fst : Int) →
 condP (Decidable.decide ((↑x.fst : Int) < (↑(List.length s) : Int)))
 (Exists fun (x_1 : List Int × Int × List Int) =>
 (Rd (1099511627776 : Int) x_1.fst x_1.snd.fst ∧ x_1.snd.snd ≠ [] ∧ Sz x_1.snd.snd) ∧
 (((0 : Nat) = (0 : Nat) ∧ Is (AV.lit (3 : Nat) (1 : Nat) (rowsCell [[i64 (1 : Int)], [i64 (2 : Int)], [i64 (3 : Int)]])) (ints x_1.snd.snd) ∧ True) ∧
 (Is (byts b) (byts x_1.fst) ∧ x.snd.snd = x_1.snd.fst ∧ True) ∧ True) ∧
 ∀ (y : Int),
 y ∈ x_1.snd.snd →
 (Exists fun (x_2 : Int × Pl.Mdl × Int) =>
 ((0 : Int) ≤ x_2.fst ∧
 x_2.fst ≤ (3 : Int) ∧
 Pl.MdB ((3 : Nat) * x.fst + (3 : Nat) - x_2.fst.toNat) (2 : Nat) x_2.snd.fst ∧
 p ≤ x_2.snd.snd ∧ x_2.snd.snd ≤ p + (100 : Int) * (↑x.fst : Int) + (1 : Int) + (30 : Int) * ((3 : Int) - x_2.fst)) ∧
 ((0 : Nat) = (0 : Nat) ∧
 (0 : Nat) = (0 : Nat) ∧
 (0 : Nat) = (0 : Nat) ∧ ((0 : Nat) = (0 : Nat) ∧ List.length x.snd.fst = List.length x_2.snd.fst) ∧ (↑x.fst : Int) = (↑x.fst : Int) ∧ y = x_2.fst ∧ True) ∧
 (Is (byts x_1.fst) (byts b) ∧ x_1.snd.fst + (1 : Int) = x_2.snd.snd ∧ True) ∧
 (Is (syms s) (syms s) ∧ True) ∧
 (Is (AV.lit (0 : Nat) (1 : Nat) fun (x x_3 : Nat) => AV.any) nilA ∧ True) ∧ IsO (xrR x.snd.fst) (xrR x_2.snd.fst) ∧ True) ∧
 ∀ (x_2 : Int × Pl.Mdl × Int),
 (0 : Int) ≤ x_2.fst ∧
 x_2.fst ≤ (3 : Int) ∧
 Pl.MdB ((3 : Nat) * x.fst + (3 : Nat) - x_2.fst.toNat) (2 : Nat) x_2.snd.fst ∧
 p ≤ x_2.snd.snd ∧ x_2.snd.snd ≤ p + (100 : Int) * (↑x.fst : Int) + (1 : Int) + (30 : Int) * ((3 : Int) - x_2.fst) →
 condP (Decidable.decide (x_2.fst > (0 : Int)))
 ((((0 : Int) ≤ (↑x.fst : Int) ∧ (↑x.fst : Int) < (↑(List.length s) : Int)) ∧
 x.fst < List.length s ∧
 (((0 : Int) ≤ (↑x.fst : Int) ∧ (↑x.fst : Int) < (↑(List.length s) : Int)) ∧
 x.fst < List.length s ∧
 (Exists fun (x_3 : List Int × Int × Int) =>
 Rd (549755813888 : Int) x_3.fst x_3.snd.fst ∧
 (((0 : Nat) = (0 : Nat) ∧ (List.getD s x.fst Pl.dY).snd.snd = x_3.snd.snd ∧ True) ∧
 (Is (byts b) (byts x_3.fst) ∧ x_2.snd.snd = x_3.snd.fst ∧ True) ∧ True) ∧
 ∀ (y : Pl.Rt × Int),
 x_3.snd.fst ≤ y.snd ∧ y.snd ≤ x_3.snd.fst + (2 : Int) →
 (Exists fun (x_4 : Nat × List Pl.Rt × Pl.Rt × Int) =>
 (x_4.fst ≤ (List.getD s x.fst Pl.dY).snd.fst.length ∧
 x_4.snd.fst.length = x_4.fst ∧
 p ≤ x_4.snd.snd.snd ∧
 x_4.snd.snd.snd ≤ p + (100 : Int) * (↑x.fst : Int) + (3 : Int) + (30 : Int) * ((3 : Int) - x_2.fst) + (2 : Int) * (↑x_4.fst : Int)) ∧
 ((0 : Nat) = (0 : Nat) ∧
 (0 : Nat) = (0 : Nat) ∧
 (0 : Nat) = (0 : Nat) ∧
 ((0 : Nat) = (0 : Nat) ∧ List.length x_2.snd.fst = List.length x_2.snd.fst) ∧
 (↑x.fst : Int) = (↑x.fst : Int) ∧ x_2.fst = x_2.fst ∧ (0 : Nat) = (0 : Nat) ∧ (0 : Int) = (↑x_4.fst : Int) ∧ True) ∧
 (Is (byts x_3.fst) (byts b) ∧ y.snd = x_4.snd.snd.snd ∧ True) ∧
 (Is (syms s) (syms s) ∧ True) ∧
 (Is (AV.lit (0 : Nat) (1 : Nat) fun (x x_5 : Nat) => AV.any) nilA ∧ True) ∧
 IsO (xrR x_2.snd.fst) (xrR x_2.snd.fst) ∧
 ((List.getD s x.fst Pl.dY).fst = (List.getD s x.fst Pl.dY).fst ∧
 ((0 : Nat) = (0 : Nat) ∧ (0 : Nat) = (0 : Nat) ∧ x_4.snd.fst.length = (0 : Nat)) ∧
 y.fst.fst = x_4.snd.snd.fst.fst ∧ y.fst.snd = x_4.snd.snd.fst.snd ∧ True) ∧
 x_4.snd.fst.length = (0 : Nat) ∧ True) ∧
 ∀ (x_4 : Nat × List Pl.Rt × Pl.Rt × Int),
 x_4.fst ≤ (List.getD s x.fst Pl.dY).snd.fst.length ∧
 x_4.snd.fst.length = x_4.fst ∧
 p ≤ x_4.snd.snd.snd ∧
 x_4.snd.snd.snd ≤ p + (100 : Int) * (↑x.fst : Int) + (3 : Int) + (30 : Int) * ((3 : Int) - x_2.fst) + (2 : Int) * (↑x_4.fst : Int) →
 ((0 : Int) ≤ (↑x.fst : Int) ∧ (↑x.fst : Int) < (↑(List.length s) : Int)) ∧
 x.fst < List.length s ∧
 condP (Decidable.decide ((↑x_4.fst : Int) < (↑(List.getD s x.fst Pl.dY).snd.fst.length : Int)))
 ((((0 : Int) ≤ (↑x.fst : Int) ∧ (↑x.fst : Int) < (↑(List.length s) : Int)) ∧
 x.fst < List.length s ∧
 ((0 : Int) ≤ (↑x_4.fst : Int) ∧ (↑x_4.fst : Int) < (↑(List.getD s x.fst Pl.dY).snd.fst.length : Int)) ∧
 x_4.fst < (List.getD s x.fst Pl.dY).snd.fst.length ∧
 Exists fun (x_5 : List Int × Int × Int) =>
 Rd (549755813888 : Int) x_5.fst x_5.snd.fst ∧
 (((0 : Nat) = (0 : Nat) ∧ (List.getD s x.fst Pl.dY).snd.fst.getD x_4.fst (0 : Int) = x_5.snd.snd ∧ True) ∧
 (Is (byts b) (byts x_5.fst) ∧ x_4.snd.snd.snd = x_5.snd.fst ∧ True) ∧ True) ∧
 ∀ (y : Pl.Rt × Int),
 x_5.snd.fst ≤ y.snd ∧ y.snd ≤ x_5.snd.fst + (2 : Int) →
 (0 : Nat) + x_4.snd.fst.length ≤ x_4.snd.fst.length ∧
 (x_4.snd.fst.length + (1 : Nat)) * (16 : Nat) ≤ (70368744177664 : Nat) ∧
 Exists fun (x' : Nat × List Pl.Rt × Pl.Rt × Int) =>
 (x'.fst ≤ (List.getD s x.fst Pl.dY).snd.fst.length ∧
 x'.snd.fst.length = x'.fst ∧
 p ≤ x'.snd.snd.snd ∧
 x'.snd.snd.snd ≤
 p + (100 : Int) * (↑x.fst : Int) + (3 : Int) + (30 : Int) * ((3 : Int) - x_2.fst) +
 (2 : Int) * (↑x'.fst : Int)) ∧
 (List.getD s x.fst Pl.dY).snd.fst.length - x'.fst < (List.getD s x.fst Pl.dY).snd.fst.length - x_4.fst ∧
 ((0 : Nat) = (0 : Nat) ∧
 (0 : Nat) = (0 : Nat) ∧
 (0 : Nat) = (0 : Nat) ∧
 ((0 : Nat) = (0 : Nat) ∧ List.length x_2.snd.fst = List.length x_2.snd.fst) ∧
 (↑x.fst : Int) = (↑x.fst : Int) ∧
 x_2.fst = x_2.fst ∧
 (0 : Nat) = (0 : Nat) ∧
 IntKind.i64.wrap ((↑x_4.fst : Int) + (1 : Int)) = (↑x'.fst : Int) ∧ True) ∧
 (Is (byts x_5.fst) (byts b) ∧ y.snd = x'.snd.snd.snd ∧ True) ∧
 (Is (syms s) (syms s) ∧ True) ∧
 (Is (AV.lit (0 : Nat) (1 : Nat) fun (x x_6 : Nat) => AV.any) nilA ∧ True) ∧
 IsO (xrR x_2.snd.fst) (xrR x_2.snd.fst) ∧
 ((List.getD s x.fst Pl.dY).fst = (List.getD s x.fst Pl.dY).fst ∧
 ((0 : Nat) = (0 : Nat) ∧ x_4.snd.fst.length + (1 : Nat) = x'.snd.fst.length) ∧
 x_4.snd.snd.fst.fst = x'.snd.snd.fst.fst ∧
 x_4.snd.snd.fst.snd = x'.snd.snd.fst.snd ∧ True) ∧
 IsO
 (AObj.arr (x_4.snd.fst.length + (1 : Nat)) (2 : Nat)
 (joinC x_4.snd.fst.length (cQ x_4.snd.fst)
 (rowsCell [[i64 y.fst.fst, i64 y.fst.snd]])))
 (arQ x'.snd.fst) ∧
 True) ∧
 ((0 : Int) ≤ (↑x.fst : Int) ∧ (↑x.fst : Int) < (↑(List.length s) : Int)) ∧
 x.fst < List.length s ∧
 ((0 : Int) ≤ (↑x_4.fst : Int) ∧ (↑x_4.fst : Int) < (↑(List.getD s x.fst Pl.dY).snd.fst.length : Int)) ∧
 x_4.fst < (List.getD s x.fst Pl.dY).snd.fst.length ∧
 (Exists fun (x_5 : List Int × Int × Int) =>
 Rd (549755813888 : Int) x_5.fst x_5.snd.fst ∧
 (((0 : Nat) = (0 : Nat) ∧ (List.getD s x.fst Pl.dY).snd.fst.getD x_4.fst (0 : Int) = x_5.snd.snd ∧ True) ∧
 (Is (byts b) (byts x_5.fst) ∧ x_4.snd.snd.snd = x_5.snd.fst ∧ True) ∧ True) ∧
 ∀ (y : Pl.Rt × Int),
 x_5.snd.fst ≤ y.snd ∧ y.snd ≤ x_5.snd.fst + (2 : Int) →
 (0 : Nat) + x_4.snd.fst.length ≤ x_4.snd.fst.length ∧
 (x_4.snd.fst.length + (1 : Nat)) * (16 : Nat) ≤ (70368744177664 : Nat) ∧
 Exists fun (x' : Nat × List Pl.Rt × Pl.Rt × Int) =>
 (x'.fst ≤ (List.getD s x.fst Pl.dY).snd.fst.length ∧
 x'.snd.fst.length = x'.fst ∧
 p ≤ x'.snd.snd.snd ∧
 x'.snd.snd.snd ≤
 p + (100 : Int) * (↑x.fst : Int) + (3 : Int) + (30 : Int) * ((3 : Int) - x_2.fst) +
 (2 : Int) * (↑x'.fst : Int)) ∧
 (List.getD s x.fst Pl.dY).snd.fst.length - x'.fst < (List.getD s x.fst Pl.dY).snd.fst.length - x_4.fst ∧
 ((0 : Nat) = (0 : Nat) ∧
 (0 : Nat) = (0 : Nat) ∧
 (0 : Nat) = (0 : Nat) ∧
 ((0 : Nat) = (0 : Nat) ∧ List.length x_2.snd.fst = List.length x_2.snd.fst) ∧
 (↑x.fst : Int) = (↑x.fst : Int) ∧
 x_2.fst = x_2.fst ∧
 (0 : Nat) = (0 : Nat) ∧
 IntKind.i64.wrap ((↑x_4.fst : Int) + (1 : Int)) = (↑x'.fst : Int) ∧ True) ∧
 (Is (byts x_5.fst) (byts b) ∧ y.snd = x'.snd.snd.snd ∧ True) ∧
 (Is (syms s) (syms s) ∧ True) ∧
 (Is (AV.lit (0 : Nat) (1 : Nat) fun (x x_6 : Nat) => AV.any) nilA ∧ True) ∧
 IsO (xrR x_2.snd.fst) (xrR x_2.snd.fst) ∧
 ((List.getD s x.fst Pl.dY).fst = (List.getD s x.fst Pl.dY).fst ∧
 ((0 : Nat) = (0 : Nat) ∧ x_4.snd.fst.length + (1 : Nat) = x'.snd.fst.length) ∧
 x_4.snd.snd.fst.fst = x'.snd.snd.fst.fst ∧
 x_4.snd.snd.fst.snd = x'.snd.snd.fst.snd ∧ True) ∧
 IsO
 (AObj.arr (x_4.snd.fst.length + (1 : Nat)) (2 : Nat)
 (joinC x_4.snd.fst.length (cQ x_4.snd.fst)
 (rowsCell [[i64 y.fst.fst, i64 y.fst.snd]])))
 (arQ x'.snd.fst) ∧
 True) ∧
 Exists fun (x_5 : List Int × Int × Int) =>
 Rd (549755813888 : Int) x_5.fst x_5.snd.fst ∧
 (((0 : Nat) = (0 : Nat) ∧ (List.getD s x.fst Pl.dY).snd.fst.getD x_4.fst (0 : Int) = x_5.snd.snd ∧ True) ∧
 (Is (byts b) (byts x_5.fst) ∧ x_4.snd.snd.snd = x_5.snd.fst ∧ True) ∧ True) ∧
 ∀ (y : Pl.Rt × Int),
 x_5.snd.fst ≤ y.snd ∧ y.snd ≤ x_5.snd.fst + (2 : Int) →
 (0 : Nat) + x_4.snd.fst.length ≤ x_4.snd.fst.length ∧
 (x_4.snd.fst.length + (1 : Nat)) * (16 : Nat) ≤ (70368744177664 : Nat) ∧
 Exists fun (x' : Nat × List Pl.Rt × Pl.Rt × Int) =>
 (x'.fst ≤ (List.getD s x.fst Pl.dY).snd.fst.length ∧
 x'.snd.fst.length = x'.fst ∧
 p ≤ x'.snd.snd.snd ∧
 x'.snd.snd.snd ≤
 p + (100 : Int) * (↑x.fst : Int) + (3 : Int) + (30 : Int) * ((3 : Int) - x_2.fst) +
 (2 : Int) * (↑x'.fst : Int)) ∧
 (List.getD s x.fst Pl.dY).snd.fst.length - x'.fst < (List.getD s x.fst Pl.dY).snd.fst.length - x_4.fst ∧
 ((0 : Nat) = (0 : Nat) ∧
 (0 : Nat) = (0 : Nat) ∧
 (0 : Nat) = (0 : Nat) ∧
 ((0 : Nat) = (0 : Nat) ∧ List.length x_2.snd.fst = List.length x_2.snd.fst) ∧
 (↑x.fst : Int) = (↑x.fst : Int) ∧
 x_2.fst = x_2.fst ∧
 (0 : Nat) = (0 : Nat) ∧
 IntKind.i64.wrap ((↑x_4.fst : Int) + (1 : Int)) = (↑x'.fst : Int) ∧ True) ∧
 (Is (byts x_5.fst) (byts b) ∧ y.snd = x'.snd.snd.snd ∧ True) ∧
 (Is (syms s) (syms s) ∧ True) ∧
 (Is (AV.lit (0 : Nat) (1 : Nat) fun (x x_6 : Nat) => AV.any) nilA ∧ True) ∧
 IsO (xrR x_2.snd.fst) (xrR x_2.snd.fst) ∧
 ((List.getD s x.fst Pl.dY).fst = (List.getD s x.fst Pl.dY).fst ∧
 ((0 : Nat) = (0 : Nat) ∧ x_4.snd.fst.length + (1 : Nat) = x'.snd.fst.length) ∧
 x_4.snd.snd.fst.fst = x'.snd.snd.fst.fst ∧
 x_4.snd.snd.fst.snd = x'.snd.snd.fst.snd ∧ True) ∧
 IsO
 (AObj.arr (x_4.snd.fst.length + (1 : Nat)) (2 : Nat)
 (joinC x_4.snd.fst.length (cQ x_4.snd.fst)
 (rowsCell [[i64 y.fst.fst, i64 y.fst.snd]])))
 (arQ x'.snd.fst) ∧
 True)
 (Exists fun (x_5 : List Pl.Rw × Pl.Rw) =>
 (x_5.fst.length ≤ (1000 : Nat) ∧
 (∀ (y : Pl.Rw), y ∈ x_5.fst → y.snd.fst.length ≤ (1000 : Nat)) ∧ x_5.snd.snd.fst.length ≤ (1000 : Nat)) ∧
 ((((0 : Nat) = (0 : Nat) ∧ List.length x_2.snd.fst = x_5.fst.length) ∧
 ((List.getD s x.fst Pl.dY).fst = x_5.snd.fst ∧
 ((0 : Nat) = (0 : Nat) ∧ x_4.snd.fst.length = x_5.snd.snd.fst.length) ∧
 x_4.snd.snd.fst.fst = x_5.snd.snd.snd.fst ∧ x_4.snd.snd.fst.snd = x_5.snd.snd.snd.snd ∧ True) ∧
 True) ∧
 IsO (xrR x_2.snd.fst) (xrR x_5.fst) ∧ IsO (arQ x_4.snd.fst) (arQ x_5.snd.snd.fst) ∧ True) ∧
 ∀ (y : List Nat),
 HPut x_5.fst.length y →
 Exists fun (x' : Int × Pl.Mdl × Int) =>
 ((0 : Int) ≤ x'.fst ∧
 x'.fst ≤ (3 : Int) ∧
 Pl.MdB ((3 : Nat) * x.fst + (3 : Nat) - x'.fst.toNat) (2 : Nat) x'.snd.fst ∧
 p ≤ x'.snd.snd ∧ x'.snd.snd ≤ p + (100 : Int) * (↑x.fst : Int) + (1 : Int) + (30 : Int) * ((3 : Int) - x'.fst)) ∧
 x'.fst.toNat < x_2.fst.toNat ∧
 ((0 : Nat) = (0 : Nat) ∧
 (0 : Nat) = (0 : Nat) ∧
 (0 : Nat) = (0 : Nat) ∧
 ((0 : Nat) = (0 : Nat) ∧ y.length = List.length x'.snd.fst) ∧
 (↑x.fst : Int) = (↑x.fst : Int) ∧ IntKind.i64.wrap (x_2.fst - (1 : Int)) = x'.fst ∧ True) ∧
 (Is (byts b) (byts b) ∧ x_4.snd.snd.snd = x'.snd.snd ∧ True) ∧
 (Is (syms s) (syms s) ∧ True) ∧
 (Is (AV.lit (0 : Nat) (1 : Nat) fun (x x_6 : Nat) => AV.any) nilA ∧ True) ∧
 IsO (xrR (List.map (fun (i : Nat) => (x_5.fst ++ [x_5.snd]).getD i Pl.dR) y)) (xrR x'.snd.fst) ∧ True)) ∧
 Exists fun (x_3 : List Int × Int × Int) =>
 Rd (549755813888 : Int) x_3.fst x_3.snd.fst ∧
 (((0 : Nat) = (0 : Nat) ∧ (List.getD s x.fst Pl.dY).snd.snd = x_3.snd.snd ∧ True) ∧
 (Is (byts b) (byts x_3.fst) ∧ x_2.snd.snd = x_3.snd.fst ∧ True) ∧ True) ∧
 ∀ (y : Pl.Rt × Int),
 x_3.snd.fst ≤ y.snd ∧ y.snd ≤ x_3.snd.fst + (2 : Int) →
 (Exists fun (x_4 : Nat × List Pl.Rt × Pl.Rt × Int) =>
 (x_4.fst ≤ (List.getD s x.fst Pl.dY).snd.fst.length ∧
 x_4.snd.fst.length = x_4.fst ∧
 p ≤ x_4.snd.snd.snd ∧
 x_4.snd.snd.snd ≤ p + (100 : Int) * (↑x.fst : Int) + (3 : Int) + (30 : Int) * ((3 : Int) - x_2.fst) + (2 : Int) * (↑x_4.fst : Int)) ∧
 ((0 : Nat) = (0 : Nat) ∧
 (0 : Nat) = (0 : Nat) ∧
 (0 : Nat) = (0 : Nat) ∧
 ((0 : Nat) = (0 : Nat) ∧ List.length x_2.snd.fst = List.length x_2.snd.fst) ∧
 (↑x.fst : Int) = (↑x.fst : Int) ∧ x_2.fst = x_2.fst ∧ (0 : Nat) = (0 : Nat) ∧ (0 : Int) = (↑x_4.fst : Int) ∧ True) ∧
 (Is (byts x_3.fst) (byts b) ∧ y.snd = x_4.snd.snd.snd ∧ True) ∧
 (Is (syms s) (syms s) ∧ True) ∧
 (Is (AV.lit (0 : Nat) (1 : Nat) fun (x x_5 : Nat) => AV.any) nilA ∧ True) ∧
 IsO (xrR x_2.snd.fst) (xrR x_2.snd.fst) ∧
 ((List.getD s x.fst Pl.dY).fst = (List.getD s x.fst Pl.dY).fst ∧
 ((0 : Nat) = (0 : Nat) ∧ (0 : Nat) = (0 : Nat) ∧ x_4.snd.fst.length = (0 : Nat)) ∧
 y.fst.fst = x_4.snd.snd.fst.fst ∧ y.fst.snd = x_4.snd.snd.fst.snd ∧ True) ∧
 x_4.snd.fst.length = (0 : Nat) ∧ True) ∧
 ∀ (x_4 : Nat × List Pl.Rt × Pl.Rt × Int),
 x_4.fst ≤ (List.getD s x.fst Pl.dY).snd.fst.length ∧
 x_4.snd.fst.length = x_4.fst ∧
 p ≤ x_4.snd.snd.snd ∧
 x_4.snd.snd.snd ≤ p + (100 : Int) * (↑x.fst : Int) + (3 : Int) + (30 : Int) * ((3 : Int) - x_2.fst) + (2 : Int) * (↑x_4.fst : Int) →
 ((0 : Int) ≤ (↑x.fst : Int) ∧ (↑x.fst : Int) < (↑(List.length s) : Int)) ∧
 x.fst < List.length s ∧
 condP (Decidable.decide ((↑x_4.fst : Int) < (↑(List.getD s x.fst Pl.dY).snd.fst.length : Int)))
 ((((0 : Int) ≤ (↑x.fst : Int) ∧ (↑x.fst : Int) < (↑(List.length s) : Int)) ∧
 x.fst < List.length s ∧
 ((0 : Int) ≤ (↑x_4.fst : Int) ∧ (↑x_4.fst : Int) < (↑(List.getD s x.fst Pl.dY).snd.fst.length : Int)) ∧
 x_4.fst < (List.getD s x.fst Pl.dY).snd.fst.length ∧
 Exists fun (x_5 : List Int × Int × Int) =>
 Rd (549755813888 : Int) x_5.fst x_5.snd.fst ∧
 (((0 : Nat) = (0 : Nat) ∧ (List.getD s x.fst Pl.dY).snd.fst.getD x_4.fst (0 : Int) = x_5.snd.snd ∧ True) ∧
 (Is (byts b) (byts x_5.fst) ∧ x_4.snd.snd.snd = x_5.snd.fst ∧ True) ∧ True) ∧
 ∀ (y : Pl.Rt × Int),
 x_5.snd.fst ≤ y.snd ∧ y.snd ≤ x_5.snd.fst + (2 : Int) →
 (0 : Nat) + x_4.snd.fst.length ≤ x_4.snd.fst.length ∧
 (x_4.snd.fst.length + (1 : Nat)) * (16 : Nat) ≤ (70368744177664 : Nat) ∧
 Exists fun (x' : Nat × List Pl.Rt × Pl.Rt × Int) =>
 (x'.fst ≤ (List.getD s x.fst Pl.dY).snd.fst.length ∧
 x'.snd.fst.length = x'.fst ∧
 p ≤ x'.snd.snd.snd ∧
 x'.snd.snd.snd ≤
 p + (100 : Int) * (↑x.fst : Int) + (3 : Int) + (30 : Int) * ((3 : Int) - x_2.fst) +
 (2 : Int) * (↑x'.fst : Int)) ∧
 (List.getD s x.fst Pl.dY).snd.fst.length - x'.fst < (List.getD s x.fst Pl.dY).snd.fst.length - x_4.fst ∧
 ((0 : Nat) = (0 : Nat) ∧
 (0 : Nat) = (0 : Nat) ∧
 (0 : Nat) = (0 : Nat) ∧
 ((0 : Nat) = (0 : Nat) ∧ List.length x_2.snd.fst = List.length x_2.snd.fst) ∧
 (↑x.fst : Int) = (↑x.fst : Int) ∧
 x_2.fst = x_2.fst ∧
 (0 : Nat) = (0 : Nat) ∧
 IntKind.i64.wrap ((↑x_4.fst : Int) + (1 : Int)) = (↑x'.fst : Int) ∧ True) ∧
 (Is (byts x_5.fst) (byts b) ∧ y.snd = x'.snd.snd.snd ∧ True) ∧
 (Is (syms s) (syms s) ∧ True) ∧
 (Is (AV.lit (0 : Nat) (1 : Nat) fun (x x_6 : Nat) => AV.any) nilA ∧ True) ∧
 IsO (xrR x_2.snd.fst) (xrR x_2.snd.fst) ∧
 ((List.getD s x.fst Pl.dY).fst = (List.getD s x.fst Pl.dY).fst ∧
 ((0 : Nat) = (0 : Nat) ∧ x_4.snd.fst.length + (1 : Nat) = x'.snd.fst.length) ∧
 x_4.snd.snd.fst.fst = x'.snd.snd.fst.fst ∧
 x_4.snd.snd.fst.snd = x'.snd.snd.fst.snd ∧ True) ∧
 IsO
 (AObj.arr (x_4.snd.fst.length + (1 : Nat)) (2 : Nat)
 (joinC x_4.snd.fst.length (cQ x_4.snd.fst)
 (rowsCell [[i64 y.fst.fst, i64 y.fst.snd]])))
 (arQ x'.snd.fst) ∧
 True) ∧
 ((0 : Int) ≤ (↑x.fst : Int) ∧ (↑x.fst : Int) < (↑(List.length s) : Int)) ∧
 x.fst < List.length s ∧
 ((0 : Int) ≤ (↑x_4.fst : Int) ∧ (↑x_4.fst : Int) < (↑(List.getD s x.fst Pl.dY).snd.fst.length : Int)) ∧
 x_4.fst < (List.getD s x.fst Pl.dY).snd.fst.length ∧
 (Exists fun (x_5 : List Int × Int × Int) =>
 Rd (549755813888 : Int) x_5.fst x_5.snd.fst ∧
 (((0 : Nat) = (0 : Nat) ∧ (List.getD s x.fst Pl.dY).snd.fst.getD x_4.fst (0 : Int) = x_5.snd.snd ∧ True) ∧
 (Is (byts b) (byts x_5.fst) ∧ x_4.snd.snd.snd = x_5.snd.fst ∧ True) ∧ True) ∧
 ∀ (y : Pl.Rt × Int),
 x_5.snd.fst ≤ y.snd ∧ y.snd ≤ x_5.snd.fst + (2 : Int) →
 (0 : Nat) + x_4.snd.fst.length ≤ x_4.snd.fst.length ∧
 (x_4.snd.fst.length + (1 : Nat)) * (16 : Nat) ≤ (70368744177664 : Nat) ∧
 Exists fun (x' : Nat × List Pl.Rt × Pl.Rt × Int) =>
 (x'.fst ≤ (List.getD s x.fst Pl.dY).snd.fst.length ∧
 x'.snd.fst.length = x'.fst ∧
 p ≤ x'.snd.snd.snd ∧
 x'.snd.snd.snd ≤
 p + (100 : Int) * (↑x.fst : Int) + (3 : Int) + (30 : Int) * ((3 : Int) - x_2.fst) +
 (2 : Int) * (↑x'.fst : Int)) ∧
 (List.getD s x.fst Pl.dY).snd.fst.length - x'.fst < (List.getD s x.fst Pl.dY).snd.fst.length - x_4.fst ∧
 ((0 : Nat) = (0 : Nat) ∧
 (0 : Nat) = (0 : Nat) ∧
 (0 : Nat) = (0 : Nat) ∧
 ((0 : Nat) = (0 : Nat) ∧ List.length x_2.snd.fst = List.length x_2.snd.fst) ∧
 (↑x.fst : Int) = (↑x.fst : Int) ∧
 x_2.fst = x_2.fst ∧
 (0 : Nat) = (0 : Nat) ∧
 IntKind.i64.wrap ((↑x_4.fst : Int) + (1 : Int)) = (↑x'.fst : Int) ∧ True) ∧
 (Is (byts x_5.fst) (byts b) ∧ y.snd = x'.snd.snd.snd ∧ True) ∧
 (Is (syms s) (syms s) ∧ True) ∧
 (Is (AV.lit (0 : Nat) (1 : Nat) fun (x x_6 : Nat) => AV.any) nilA ∧ True) ∧
 IsO (xrR x_2.snd.fst) (xrR x_2.snd.fst) ∧
 ((List.getD s x.fst Pl.dY).fst = (List.getD s x.fst Pl.dY).fst ∧
 ((0 : Nat) = (0 : Nat) ∧ x_4.snd.fst.length + (1 : Nat) = x'.snd.fst.length) ∧
 x_4.snd.snd.fst.fst = x'.snd.snd.fst.fst ∧
 x_4.snd.snd.fst.snd = x'.snd.snd.fst.snd ∧ True) ∧
 IsO
 (AObj.arr (x_4.snd.fst.length + (1 : Nat)) (2 : Nat)
 (joinC x_4.snd.fst.length (cQ x_4.snd.fst)
 (rowsCell [[i64 y.fst.fst, i64 y.fst.snd]])))
 (arQ x'.snd.fst) ∧
 True) ∧
 Exists fun (x_5 : List Int × Int × Int) =>
 Rd (549755813888 : Int) x_5.fst x_5.snd.fst ∧
 (((0 : Nat) = (0 : Nat) ∧ (List.getD s x.fst Pl.dY).snd.fst.getD x_4.fst (0 : Int) = x_5.snd.snd ∧ True) ∧
 (Is (byts b) (byts x_5.fst) ∧ x_4.snd.snd.snd = x_5.snd.fst ∧ True) ∧ True) ∧
 ∀ (y : Pl.Rt × Int),
 x_5.snd.fst ≤ y.snd ∧ y.snd ≤ x_5.snd.fst + (2 : Int) →
 (0 : Nat) + x_4.snd.fst.length ≤ x_4.snd.fst.length ∧
 (x_4.snd.fst.length + (1 : Nat)) * (16 : Nat) ≤ (70368744177664 : Nat) ∧
 Exists fun (x' : Nat × List Pl.Rt × Pl.Rt × Int) =>
 (x'.fst ≤ (List.getD s x.fst Pl.dY).snd.fst.length ∧
 x'.snd.fst.length = x'.fst ∧
 p ≤ x'.snd.snd.snd ∧
 x'.snd.snd.snd ≤
 p + (100 : Int) * (↑x.fst : Int) + (3 : Int) + (30 : Int) * ((3 : Int) - x_2.fst) +
 (2 : Int) * (↑x'.fst : Int)) ∧
 (List.getD s x.fst Pl.dY).snd.fst.length - x'.fst < (List.getD s x.fst Pl.dY).snd.fst.length - x_4.fst ∧
 ((0 : Nat) = (0 : Nat) ∧
 (0 : Nat) = (0 : Nat) ∧
 (0 : Nat) = (0 : Nat) ∧
 ((0 : Nat) = (0 : Nat) ∧ List.length x_2.snd.fst = List.length x_2.snd.fst) ∧
 (↑x.fst : Int) = (↑x.fst : Int) ∧
 x_2.fst = x_2.fst ∧
 (0 : Nat) = (0 : Nat) ∧
 IntKind.i64.wrap ((↑x_4.fst : Int) + (1 : Int)) = (↑x'.fst : Int) ∧ True) ∧
 (Is (byts x_5.fst) (byts b) ∧ y.snd = x'.snd.snd.snd ∧ True) ∧
 (Is (syms s) (syms s) ∧ True) ∧
 (Is (AV.lit (0 : Nat) (1 : Nat) fun (x x_6 : Nat) => AV.any) nilA ∧ True) ∧
 IsO (xrR x_2.snd.fst) (xrR x_2.snd.fst) ∧
 ((List.getD s x.fst Pl.dY).fst = (List.getD s x.fst Pl.dY).fst ∧
 ((0 : Nat) = (0 : Nat) ∧ x_4.snd.fst.length + (1 : Nat) = x'.snd.fst.length) ∧
 x_4.snd.snd.fst.fst = x'.snd.snd.fst.fst ∧
 x_4.snd.snd.fst.snd = x'.snd.snd.fst.snd ∧ True) ∧
 IsO
 (AObj.arr (x_4.snd.fst.length + (1 : Nat)) (2 : Nat)
 (joinC x_4.snd.fst.length (cQ x_4.snd.fst)
 (rowsCell [[i64 y.fst.fst, i64 y.fst.snd]])))
 (arQ x'.snd.fst) ∧
 True)
 (Exists fun (x_5 : List Pl.Rw × Pl.Rw) =>
 (x_5.fst.length ≤ (1000 : Nat) ∧
 (∀ (y : Pl.Rw), y ∈ x_5.fst → y.snd.fst.length ≤ (1000 : Nat)) ∧ x_5.snd.snd.fst.length ≤ (1000 : Nat)) ∧
 ((((0 : Nat) = (0 : Nat) ∧ List.length x_2.snd.fst = x_5.fst.length) ∧
 ((List.getD s x.fst Pl.dY).fst = x_5.snd.fst ∧
 ((0 : Nat) = (0 : Nat) ∧ x_4.snd.fst.length = x_5.snd.snd.fst.length) ∧
 x_4.snd.snd.fst.fst = x_5.snd.snd.snd.fst ∧ x_4.snd.snd.fst.snd = x_5.snd.snd.snd.snd ∧ True) ∧
 True) ∧
 IsO (xrR x_2.snd.fst) (xrR x_5.fst) ∧ IsO (arQ x_4.snd.fst) (arQ x_5.snd.snd.fst) ∧ True) ∧
 ∀ (y : List Nat),
 HPut x_5.fst.length y →
 Exists fun (x' : Int × Pl.Mdl × Int) =>
 ((0 : Int) ≤ x'.fst ∧
 x'.fst ≤ (3 : Int) ∧
 Pl.MdB ((3 : Nat) * x.fst + (3 : Nat) - x'.fst.toNat) (2 : Nat) x'.snd.fst ∧
 p ≤ x'.snd.snd ∧ x'.snd.snd ≤ p + (100 : Int) * (↑x.fst : Int) + (1 : Int) + (30 : Int) * ((3 : Int) - x'.fst)) ∧
 x'.fst.toNat < x_2.fst.toNat ∧
 ((0 : Nat) = (0 : Nat) ∧
 (0 : Nat) = (0 : Nat) ∧
 (0 : Nat) = (0 : Nat) ∧
 ((0 : Nat) = (0 : Nat) ∧ y.length = List.length x'.snd.fst) ∧
 (↑x.fst : Int) = (↑x.fst : Int) ∧ IntKind.i64.wrap (x_2.fst - (1 : Int)) = x'.fst ∧ True) ∧
 (Is (byts b) (byts b) ∧ x_4.snd.snd.snd = x'.snd.snd ∧ True) ∧
 (Is (syms s) (syms s) ∧ True) ∧
 (Is (AV.lit (0 : Nat) (1 : Nat) fun (x x_6 : Nat) => AV.any) nilA ∧ True) ∧
 IsO (xrR (List.map (fun (i : Nat) => (x_5.fst ++ [x_5.snd]).getD i Pl.dR) y)) (xrR x'.snd.fst) ∧ True)) ∧
 ((0 : Int) ≤ (↑x.fst : Int) ∧ (↑x.fst : Int) < (↑(List.length s) : Int)) ∧
 x.fst < List.length s ∧
 Exists fun (x_3 : List Int × Int × Int) =>
 Rd (549755813888 : Int) x_3.fst x_3.snd.fst ∧
 (((0 : Nat) = (0 : Nat) ∧ (List.getD s x.fst Pl.dY).snd.snd = x_3.snd.snd ∧ True) ∧
 (Is (byts b) (byts x_3.fst) ∧ x_2.snd.snd = x_3.snd.fst ∧ True) ∧ True) ∧
 ∀ (y : Pl.Rt × Int),
 x_3.snd.fst ≤ y.snd ∧ y.snd ≤ x_3.snd.fst + (2 : Int) →
 (Exists fun (x_4 : Nat × List Pl.Rt × Pl.Rt × Int) =>
 (x_4.fst ≤ (List.getD s x.fst Pl.dY).snd.fst.length ∧
 x_4.snd.fst.length = x_4.fst ∧
 p ≤ x_4.snd.snd.snd ∧
 x_4.snd.snd.snd ≤ p + (100 : Int) * (↑x.fst : Int) + (3 : Int) + (30 : Int) * ((3 : Int) - x_2.fst) + (2 : Int) * (↑x_4.fst : Int)) ∧
 ((0 : Nat) = (0 : Nat) ∧
 (0 : Nat) = (0 : Nat) ∧
 (0 : Nat) = (0 : Nat) ∧
 ((0 : Nat) = (0 : Nat) ∧ List.length x_2.snd.fst = List.length x_2.snd.fst) ∧
 (↑x.fst : Int) = (↑x.fst : Int) ∧ x_2.fst = x_2.fst ∧ (0 : Nat) = (0 : Nat) ∧ (0 : Int) = (↑x_4.fst : Int) ∧ True) ∧
 (Is (byts x_3.fst) (byts b) ∧ y.snd = x_4.snd.snd.snd ∧ True) ∧
 (Is (syms s) (syms s) ∧ True) ∧
 (Is (AV.lit (0 : Nat) (1 : Nat) fun (x x_5 : Nat) => AV.any) nilA ∧ True) ∧
 IsO (xrR x_2.snd.fst) (xrR x_2.snd.fst) ∧
 ((List.getD s x.fst Pl.dY).fst = (List.getD s x.fst Pl.dY).fst ∧
 ((0 : Nat) = (0 : Nat) ∧ (0 : Nat) = (0 : Nat) ∧ x_4.snd.fst.length = (0 : Nat)) ∧
 y.fst.fst = x_4.snd.snd.fst.fst ∧ y.fst.snd = x_4.snd.snd.fst.snd ∧ True) ∧
 x_4.snd.fst.length = (0 : Nat) ∧ True) ∧
 ∀ (x_4 : Nat × List Pl.Rt × Pl.Rt × Int),
 x_4.fst ≤ (List.getD s x.fst Pl.dY).snd.fst.length ∧
 x_4.snd.fst.length = x_4.fst ∧
 p ≤ x_4.snd.snd.snd ∧
 x_4.snd.snd.snd ≤ p + (100 : Int) * (↑x.fst : Int) + (3 : Int) + (30 : Int) * ((3 : Int) - x_2.fst) + (2 : Int) * (↑x_4.fst : Int) →
 ((0 : Int) ≤ (↑x.fst : Int) ∧ (↑x.fst : Int) < (↑(List.length s) : Int)) ∧
 x.fst < List.length s ∧
 condP (Decidable.decide ((↑x_4.fst : Int) < (↑(List.getD s x.fst Pl.dY).snd.fst.length : Int)))
 ((((0 : Int) ≤ (↑x.fst : Int) ∧ (↑x.fst : Int) < (↑(List.length s) : Int)) ∧
 x.fst < List.length s ∧
 ((0 : Int) ≤ (↑x_4.fst : Int) ∧ (↑x_4.fst : Int) < (↑(List.getD s x.fst Pl.dY).snd.fst.length : Int)) ∧
 x_4.fst < (List.getD s x.fst Pl.dY).snd.fst.length ∧
 Exists fun (x_5 : List Int × Int × Int) =>
 Rd (549755813888 : Int) x_5.fst x_5.snd.fst ∧
 (((0 : Nat) = (0 : Nat) ∧ (List.getD s x.fst Pl.dY).snd.fst.getD x_4.fst (0 : Int) = x_5.snd.snd ∧ True) ∧
 (Is (byts b) (byts x_5.fst) ∧ x_4.snd.snd.snd = x_5.snd.fst ∧ True) ∧ True) ∧
 ∀ (y : Pl.Rt × Int),
 x_5.snd.fst ≤ y.snd ∧ y.snd ≤ x_5.snd.fst + (2 : Int) →
 (0 : Nat) + x_4.snd.fst.length ≤ x_4.snd.fst.length ∧
 (x_4.snd.fst.length + (1 : Nat)) * (16 : Nat) ≤ (70368744177664 : Nat) ∧
 Exists fun (x' : Nat × List Pl.Rt × Pl.Rt × Int) =>
 (x'.fst ≤ (List.getD s x.fst Pl.dY).snd.fst.length ∧
 x'.snd.fst.length = x'.fst ∧
 p ≤ x'.snd.snd.snd ∧
 x'.snd.snd.snd ≤
 p + (100 : Int) * (↑x.fst : Int) + (3 : Int) + (30 : Int) * ((3 : Int) - x_2.fst) +
 (2 : Int) * (↑x'.fst : Int)) ∧
 (List.getD s x.fst Pl.dY).snd.fst.length - x'.fst < (List.getD s x.fst Pl.dY).snd.fst.length - x_4.fst ∧
 ((0 : Nat) = (0 : Nat) ∧
 (0 : Nat) = (0 : Nat) ∧
 (0 : Nat) = (0 : Nat) ∧
 ((0 : Nat) = (0 : Nat) ∧ List.length x_2.snd.fst = List.length x_2.snd.fst) ∧
 (↑x.fst : Int) = (↑x.fst : Int) ∧
 x_2.fst = x_2.fst ∧
 (0 : Nat) = (0 : Nat) ∧
 IntKind.i64.wrap ((↑x_4.fst : Int) + (1 : Int)) = (↑x'.fst : Int) ∧ True) ∧
 (Is (byts x_5.fst) (byts b) ∧ y.snd = x'.snd.snd.snd ∧ True) ∧
 (Is (syms s) (syms s) ∧ True) ∧
 (Is (AV.lit (0 : Nat) (1 : Nat) fun (x x_6 : Nat) => AV.any) nilA ∧ True) ∧
 IsO (xrR x_2.snd.fst) (xrR x_2.snd.fst) ∧
 ((List.getD s x.fst Pl.dY).fst = (List.getD s x.fst Pl.dY).fst ∧
 ((0 : Nat) = (0 : Nat) ∧ x_4.snd.fst.length + (1 : Nat) = x'.snd.fst.length) ∧
 x_4.snd.snd.fst.fst = x'.snd.snd.fst.fst ∧ x_4.snd.snd.fst.snd = x'.snd.snd.fst.snd ∧ True) ∧
 IsO
 (AObj.arr (x_4.snd.fst.length + (1 : Nat)) (2 : Nat)
 (joinC x_4.snd.fst.length (cQ x_4.snd.fst)
 (rowsCell [[i64 y.fst.fst, i64 y.fst.snd]])))
 (arQ x'.snd.fst) ∧
 True) ∧
 ((0 : Int) ≤ (↑x.fst : Int) ∧ (↑x.fst : Int) < (↑(List.length s) : Int)) ∧
 x.fst < List.length s ∧
 ((0 : Int) ≤ (↑x_4.fst : Int) ∧ (↑x_4.fst : Int) < (↑(List.getD s x.fst Pl.dY).snd.fst.length : Int)) ∧
 x_4.fst < (List.getD s x.fst Pl.dY).snd.fst.length ∧
 (Exists fun (x_5 : List Int × Int × Int) =>
 Rd (549755813888 : Int) x_5.fst x_5.snd.fst ∧
 (((0 : Nat) = (0 : Nat) ∧ (List.getD s x.fst Pl.dY).snd.fst.getD x_4.fst (0 : Int) = x_5.snd.snd ∧ True) ∧
 (Is (byts b) (byts x_5.fst) ∧ x_4.snd.snd.snd = x_5.snd.fst ∧ True) ∧ True) ∧
 ∀ (y : Pl.Rt × Int),
 x_5.snd.fst ≤ y.snd ∧ y.snd ≤ x_5.snd.fst + (2 : Int) →
 (0 : Nat) + x_4.snd.fst.length ≤ x_4.snd.fst.length ∧
 (x_4.snd.fst.length + (1 : Nat)) * (16 : Nat) ≤ (70368744177664 : Nat) ∧
 Exists fun (x' : Nat × List Pl.Rt × Pl.Rt × Int) =>
 (x'.fst ≤ (List.getD s x.fst Pl.dY).snd.fst.length ∧
 x'.snd.fst.length = x'.fst ∧
 p ≤ x'.snd.snd.snd ∧
 x'.snd.snd.snd ≤
 p + (100 : Int) * (↑x.fst : Int) + (3 : Int) + (30 : Int) * ((3 : Int) - x_2.fst) +
 (2 : Int) * (↑x'.fst : Int)) ∧
 (List.getD s x.fst Pl.dY).snd.fst.length - x'.fst < (List.getD s x.fst Pl.dY).snd.fst.length - x_4.fst ∧
 ((0 : Nat) = (0 : Nat) ∧
 (0 : Nat) = (0 : Nat) ∧
 (0 : Nat) = (0 : Nat) ∧
 ((0 : Nat) = (0 : Nat) ∧ List.length x_2.snd.fst = List.length x_2.snd.fst) ∧
 (↑x.fst : Int) = (↑x.fst : Int) ∧
 x_2.fst = x_2.fst ∧
 (0 : Nat) = (0 : Nat) ∧
 IntKind.i64.wrap ((↑x_4.fst : Int) + (1 : Int)) = (↑x'.fst : Int) ∧ True) ∧
 (Is (byts x_5.fst) (byts b) ∧ y.snd = x'.snd.snd.snd ∧ True) ∧
 (Is (syms s) (syms s) ∧ True) ∧
 (Is (AV.lit (0 : Nat) (1 : Nat) fun (x x_6 : Nat) => AV.any) nilA ∧ True) ∧
 IsO (xrR x_2.snd.fst) (xrR x_2.snd.fst) ∧
 ((List.getD s x.fst Pl.dY).fst = (List.getD s x.fst Pl.dY).fst ∧
 ((0 : Nat) = (0 : Nat) ∧ x_4.snd.fst.length + (1 : Nat) = x'.snd.fst.length) ∧
 x_4.snd.snd.fst.fst = x'.snd.snd.fst.fst ∧
 x_4.snd.snd.fst.snd = x'.snd.snd.fst.snd ∧ True) ∧
 IsO
 (AObj.arr (x_4.snd.fst.length + (1 : Nat)) (2 : Nat)
 (joinC x_4.snd.fst.length (cQ x_4.snd.fst)
 (rowsCell [[i64 y.fst.fst, i64 y.fst.snd]])))
 (arQ x'.snd.fst) ∧
 True) ∧
 Exists fun (x_5 : List Int × Int × Int) =>
 Rd (549755813888 : Int) x_5.fst x_5.snd.fst ∧
 (((0 : Nat) = (0 : Nat) ∧ (List.getD s x.fst Pl.dY).snd.fst.getD x_4.fst (0 : Int) = x_5.snd.snd ∧ True) ∧
 (Is (byts b) (byts x_5.fst) ∧ x_4.snd.snd.snd = x_5.snd.fst ∧ True) ∧ True) ∧
 ∀ (y : Pl.Rt × Int),
 x_5.snd.fst ≤ y.snd ∧ y.snd ≤ x_5.snd.fst + (2 : Int) →
 (0 : Nat) + x_4.snd.fst.length ≤ x_4.snd.fst.length ∧
 (x_4.snd.fst.length + (1 : Nat)) * (16 : Nat) ≤ (70368744177664 : Nat) ∧
 Exists fun (x' : Nat × List Pl.Rt × Pl.Rt × Int) =>
 (x'.fst ≤ (List.getD s x.fst Pl.dY).snd.fst.length ∧
 x'.snd.fst.length = x'.fst ∧
 p ≤ x'.snd.snd.snd ∧
 x'.snd.snd.snd ≤
 p + (100 : Int) * (↑x.fst : Int) + (3 : Int) + (30 : Int) * ((3 : Int) - x_2.fst) +
 (2 : Int) * (↑x'.fst : Int)) ∧
 (List.getD s x.fst Pl.dY).snd.fst.length - x'.fst < (List.getD s x.fst Pl.dY).snd.fst.length - x_4.fst ∧
 ((0 : Nat) = (0 : Nat) ∧
 (0 : Nat) = (0 : Nat) ∧
 (0 : Nat) = (0 : Nat) ∧
 ((0 : Nat) = (0 : Nat) ∧ List.length x_2.snd.fst = List.length x_2.snd.fst) ∧
 (↑x.fst : Int) = (↑x.fst : Int) ∧
 x_2.fst = x_2.fst ∧
 (0 : Nat) = (0 : Nat) ∧
 IntKind.i64.wrap ((↑x_4.fst : Int) + (1 : Int)) = (↑x'.fst : Int) ∧ True) ∧
 (Is (byts x_5.fst) (byts b) ∧ y.snd = x'.snd.snd.snd ∧ True) ∧
 (Is (syms s) (syms s) ∧ True) ∧
 (Is (AV.lit (0 : Nat) (1 : Nat) fun (x x_6 : Nat) => AV.any) nilA ∧ True) ∧
 IsO (xrR x_2.snd.fst) (xrR x_2.snd.fst) ∧
 ((List.getD s x.fst Pl.dY).fst = (List.getD s x.fst Pl.dY).fst ∧
 ((0 : Nat) = (0 : Nat) ∧ x_4.snd.fst.length + (1 : Nat) = x'.snd.fst.length) ∧
 x_4.snd.snd.fst.fst = x'.snd.snd.fst.fst ∧
 x_4.snd.snd.fst.snd = x'.snd.snd.fst.snd ∧ True) ∧
 IsO
 (AObj.arr (x_4.snd.fst.length + (1 : Nat)) (2 : Nat)
 (joinC x_4.snd.fst.length (cQ x_4.snd.fst)
 (rowsCell [[i64 y.fst.fst, i64 y.fst.snd]])))
 (arQ x'.snd.fst) ∧
 True)
 (Exists fun (x_5 : List Pl.Rw × Pl.Rw) =>
 (x_5.fst.length ≤ (1000 : Nat) ∧ (∀ (y : Pl.Rw), y ∈ x_5.fst → y.snd.fst.length ≤ (1000 : Nat)) ∧ x_5.snd.snd.fst.length ≤ (1000 : Nat)) ∧
 ((((0 : Nat) = (0 : Nat) ∧ List.length x_2.snd.fst = x_5.fst.length) ∧
 ((List.getD s x.fst Pl.dY).fst = x_5.snd.fst ∧
 ((0 : Nat) = (0 : Nat) ∧ x_4.snd.fst.length = x_5.snd.snd.fst.length) ∧
 x_4.snd.snd.fst.fst = x_5.snd.snd.snd.fst ∧ x_4.snd.snd.fst.snd = x_5.snd.snd.snd.snd ∧ True) ∧
 True) ∧
 IsO (xrR x_2.snd.fst) (xrR x_5.fst) ∧ IsO (arQ x_4.snd.fst) (arQ x_5.snd.snd.fst) ∧ True) ∧
 ∀ (y : List Nat),
 HPut x_5.fst.length y →
 Exists fun (x' : Int × Pl.Mdl × Int) =>
 ((0 : Int) ≤ x'.fst ∧
 x'.fst ≤ (3 : Int) ∧
 Pl.MdB ((3 : Nat) * x.fst + (3 : Nat) - x'.fst.toNat) (2 : Nat) x'.snd.fst ∧
 p ≤ x'.snd.snd ∧ x'.snd.snd ≤ p + (100 : Int) * (↑x.fst : Int) + (1 : Int) + (30 : Int) * ((3 : Int) - x'.fst)) ∧
 x'.fst.toNat < x_2.fst.toNat ∧
 ((0 : Nat) = (0 : Nat) ∧
 (0 : Nat) = (0 : Nat) ∧
 (0 : Nat) = (0 : Nat) ∧
 ((0 : Nat) = (0 : Nat) ∧ y.length = List.length x'.snd.fst) ∧
 (↑x.fst : Int) = (↑x.fst : Int) ∧ IntKind.i64.wrap (x_2.fst - (1 : Int)) = x'.fst ∧ True) ∧
 (Is (byts b) (byts b) ∧ x_4.snd.snd.snd = x'.snd.snd ∧ True) ∧
 (Is (syms s) (syms s) ∧ True) ∧
 (Is (AV.lit (0 : Nat) (1 : Nat) fun (x x_6 : Nat) => AV.any) nilA ∧ True) ∧
 IsO (xrR (List.map (fun (i : Nat) => (x_5.fst ++ [x_5.snd]).getD i Pl.dR) y)) (xrR x'.snd.fst) ∧ True)) ∧
 (((0 : Int) ≤ (↑x.fst : Int) ∧ (↑x.fst : Int) < (↑(List.length s) : Int)) ∧
 x.fst < List.length s ∧
 (((0 : Int) ≤ (↑x.fst : Int) ∧ (↑x.fst : Int) < (↑(List.length s) : Int)) ∧
 x.fst < List.length s ∧
 (Exists fun (x_3 : List Int × Int × Int) =>
 Rd (549755813888 : Int) x_3.fst x_3.snd.fst ∧
 (((0 : Nat) = (0 : Nat) ∧ (List.getD s x.fst Pl.dY).snd.snd = x_3.snd.snd ∧ True) ∧
 (Is (byts b) (byts x_3.fst) ∧ x_2.snd.snd = x_3.snd.fst ∧ True) ∧ True) ∧
 ∀ (y : Pl.Rt × Int),
 x_3.snd.fst ≤ y.snd ∧ y.snd ≤ x_3.snd.fst + (2 : Int) →
 (Exists fun (x_4 : Nat × List Pl.Rt × Pl.Rt × Int) =>
 (x_4.fst ≤ (List.getD s x.fst Pl.dY).snd.fst.length ∧
 x_4.snd.fst.length = x_4.fst ∧
 p ≤ x_4.snd.snd.snd ∧
 x_4.snd.snd.snd ≤ p + (100 : Int) * (↑x.fst : Int) + (3 : Int) + (30 : Int) * ((3 : Int) - x_2.fst) + (2 : Int) * (↑x_4.fst : Int)) ∧
 ((0 : Nat) = (0 : Nat) ∧
 (0 : Nat) = (0 : Nat) ∧
 (0 : Nat) = (0 : Nat) ∧
 ((0 : Nat) = (0 : Nat) ∧ List.length x_2.snd.fst = List.length x_2.snd.fst) ∧
 (↑x.fst : Int) = (↑x.fst : Int) ∧ x_2.fst = x_2.fst ∧ (0 : Nat) = (0 : Nat) ∧ (0 : Int) = (↑x_4.fst : Int) ∧ True) ∧
 (Is (byts x_3.fst) (byts b) ∧ y.snd = x_4.snd.snd.snd ∧ True) ∧
 (Is (syms s) (syms s) ∧ True) ∧
 (Is (AV.lit (0 : Nat) (1 : Nat) fun (x x_5 : Nat) => AV.any) nilA ∧ True) ∧
 IsO (xrR x_2.snd.fst) (xrR x_2.snd.fst) ∧
 ((List.getD s x.fst Pl.dY).fst = (List.getD s x.fst Pl.dY).fst ∧
 ((0 : Nat) = (0 : Nat) ∧ (0 : Nat) = (0 : Nat) ∧ x_4.snd.fst.length = (0 : Nat)) ∧
 y.fst.fst = x_4.snd.snd.fst.fst ∧ y.fst.snd = x_4.snd.snd.fst.snd ∧ True) ∧
 x_4.snd.fst.length = (0 : Nat) ∧ True) ∧
 ∀ (x_4 : Nat × List Pl.Rt × Pl.Rt × Int),
 x_4.fst ≤ (List.getD s x.fst Pl.dY).snd.fst.length ∧
 x_4.snd.fst.length = x_4.fst ∧
 p ≤ x_4.snd.snd.snd ∧
 x_4.snd.snd.snd ≤ p + (100 : Int) * (↑x.fst : Int) + (3 : Int) + (30 : Int) * ((3 : Int) - x_2.fst) + (2 : Int) * (↑x_4.fst : Int) →
 ((0 : Int) ≤ (↑x.fst : Int) ∧ (↑x.fst : Int) < (↑(List.length s) : Int)) ∧
 x.fst < List.length s ∧
 condP (Decidable.decide ((↑x_4.fst : Int) < (↑(List.getD s x.fst Pl.dY).snd.fst.length : Int)))
 ((((0 : Int) ≤ (↑x.fst : Int) ∧ (↑x.fst : Int) < (↑(List.length s) : Int)) ∧
 x.fst < List.length s ∧
 ((0 : Int) ≤ (↑x_4.fst : Int) ∧ (↑x_4.fst : Int) < (↑(List.getD s x.fst Pl.dY).snd.fst.length : Int)) ∧
 x_4.fst < (List.getD s x.fst Pl.dY).snd.fst.length ∧
 Exists fun (x_5 : List Int × Int × Int) =>
 Rd (549755813888 : Int) x_5.fst x_5.snd.fst ∧
 (((0 : Nat) = (0 : Nat) ∧ (List.getD s x.fst Pl.dY).snd.fst.getD x_4.fst (0 : Int) = x_5.snd.snd ∧ True) ∧
 (Is (byts b) (byts x_5.fst) ∧ x_4.snd.snd.snd = x_5.snd.fst ∧ True) ∧ True) ∧
 ∀ (y : Pl.Rt × Int),
 x_5.snd.fst ≤ y.snd ∧ y.snd ≤ x_5.snd.fst + (2 : Int) →
 (0 : Nat) + x_4.snd.fst.length ≤ x_4.snd.fst.length ∧
 (x_4.snd.fst.length + (1 : Nat)) * (16 : Nat) ≤ (70368744177664 : Nat) ∧
 Exists fun (x' : Nat × List Pl.Rt × Pl.Rt × Int) =>
 (x'.fst ≤ (List.getD s x.fst Pl.dY).snd.fst.length ∧
 x'.snd.fst.length = x'.fst ∧
 p ≤ x'.snd.snd.snd ∧
 x'.snd.snd.snd ≤
 p + (100 : Int) * (↑x.fst : Int) + (3 : Int) + (30 : Int) * ((3 : Int) - x_2.fst) +
 (2 : Int) * (↑x'.fst : Int)) ∧
 (List.getD s x.fst Pl.dY).snd.fst.length - x'.fst < (List.getD s x.fst Pl.dY).snd.fst.length - x_4.fst ∧
 ((0 : Nat) = (0 : Nat) ∧
 (0 : Nat) = (0 : Nat) ∧
 (0 : Nat) = (0 : Nat) ∧
 ((0 : Nat) = (0 : Nat) ∧ List.length x_2.snd.fst = List.length x_2.snd.fst) ∧
 (↑x.fst : Int) = (↑x.fst : Int) ∧
 x_2.fst = x_2.fst ∧
 (0 : Nat) = (0 : Nat) ∧
 IntKind.i64.wrap ((↑x_4.fst : Int) + (1 : Int)) = (↑x'.fst : Int) ∧ True) ∧
 (Is (byts x_5.fst) (byts b) ∧ y.snd = x'.snd.snd.snd ∧ True) ∧
 (Is (syms s) (syms s) ∧ True) ∧
 (Is (AV.lit (0 : Nat) (1 : Nat) fun (x x_6 : Nat) => AV.any) nilA ∧ True) ∧
 IsO (xrR x_2.snd.fst) (xrR x_2.snd.fst) ∧
 ((List.getD s x.fst Pl.dY).fst = (List.getD s x.fst Pl.dY).fst ∧
 ((0 : Nat) = (0 : Nat) ∧ x_4.snd.fst.length + (1 : Nat) = x'.snd.fst.length) ∧
 x_4.snd.snd.fst.fst = x'.snd.snd.fst.fst ∧
 x_4.snd.snd.fst.snd = x'.snd.snd.fst.snd ∧ True) ∧
 IsO
 (AObj.arr (x_4.snd.fst.length + (1 : Nat)) (2 : Nat)
 (joinC x_4.snd.fst.length (cQ x_4.snd.fst)
 (rowsCell [[i64 y.fst.fst, i64 y.fst.snd]])))
 (arQ x'.snd.fst) ∧
 True) ∧
 ((0 : Int) ≤ (↑x.fst : Int) ∧ (↑x.fst : Int) < (↑(List.length s) : Int)) ∧
 x.fst < List.length s ∧
 ((0 : Int) ≤ (↑x_4.fst : Int) ∧ (↑x_4.fst : Int) < (↑(List.getD s x.fst Pl.dY).snd.fst.length : Int)) ∧
 x_4.fst < (List.getD s x.fst Pl.dY).snd.fst.length ∧
 (Exists fun (x_5 : List Int × Int × Int) =>
 Rd (549755813888 : Int) x_5.fst x_5.snd.fst ∧
 (((0 : Nat) = (0 : Nat) ∧ (List.getD s x.fst Pl.dY).snd.fst.getD x_4.fst (0 : Int) = x_5.snd.snd ∧ True) ∧
 (Is (byts b) (byts x_5.fst) ∧ x_4.snd.snd.snd = x_5.snd.fst ∧ True) ∧ True) ∧
 ∀ (y : Pl.Rt × Int),
 x_5.snd.fst ≤ y.snd ∧ y.snd ≤ x_5.snd.fst + (2 : Int) →
 (0 : Nat) + x_4.snd.fst.length ≤ x_4.snd.fst.length ∧
 (x_4.snd.fst.length + (1 : Nat)) * (16 : Nat) ≤ (70368744177664 : Nat) ∧
 Exists fun (x' : Nat × List Pl.Rt × Pl.Rt × Int) =>
 (x'.fst ≤ (List.getD s x.fst Pl.dY).snd.fst.length ∧
 x'.snd.fst.length = x'.fst ∧
 p ≤ x'.snd.snd.snd ∧
 x'.snd.snd.snd ≤
 p + (100 : Int) * (↑x.fst : Int) + (3 : Int) + (30 : Int) * ((3 : Int) - x_2.fst) +
 (2 : Int) * (↑x'.fst : Int)) ∧
 (List.getD s x.fst Pl.dY).snd.fst.length - x'.fst < (List.getD s x.fst Pl.dY).snd.fst.length - x_4.fst ∧
 ((0 : Nat) = (0 : Nat) ∧
 (0 : Nat) = (0 : Nat) ∧
 (0 : Nat) = (0 : Nat) ∧
 ((0 : Nat) = (0 : Nat) ∧ List.length x_2.snd.fst = List.length x_2.snd.fst) ∧
 (↑x.fst : Int) = (↑x.fst : Int) ∧
 x_2.fst = x_2.fst ∧
 (0 : Nat) = (0 : Nat) ∧
 IntKind.i64.wrap ((↑x_4.fst : Int) + (1 : Int)) = (↑x'.fst : Int) ∧ True) ∧
 (Is (byts x_5.fst) (byts b) ∧ y.snd = x'.snd.snd.snd ∧ True) ∧
 (Is (syms s) (syms s) ∧ True) ∧
 (Is (AV.lit (0 : Nat) (1 : Nat) fun (x x_6 : Nat) => AV.any) nilA ∧ True) ∧
 IsO (xrR x_2.snd.fst) (xrR x_2.snd.fst) ∧
 ((List.getD s x.fst Pl.dY).fst = (List.getD s x.fst Pl.dY).fst ∧
 ((0 : Nat) = (0 : Nat) ∧ x_4.snd.fst.length + (1 : Nat) = x'.snd.fst.length) ∧
 x_4.snd.snd.fst.fst = x'.snd.snd.fst.fst ∧
 x_4.snd.snd.fst.snd = x'.snd.snd.fst.snd ∧ True) ∧
 IsO
 (AObj.arr (x_4.snd.fst.length + (1 : Nat)) (2 : Nat)
 (joinC x_4.snd.fst.length (cQ x_4.snd.fst)
 (rowsCell [[i64 y.fst.fst, i64 y.fst.snd]])))
 (arQ x'.snd.fst) ∧
 True) ∧
 Exists fun (x_5 : List Int × Int × Int) =>
 Rd (549755813888 : Int) x_5.fst x_5.snd.fst ∧
 (((0 : Nat) = (0 : Nat) ∧ (List.getD s x.fst Pl.dY).snd.fst.getD x_4.fst (0 : Int) = x_5.snd.snd ∧ True) ∧
 (Is (byts b) (byts x_5.fst) ∧ x_4.snd.snd.snd = x_5.snd.fst ∧ True) ∧ True) ∧
 ∀ (y : Pl.Rt × Int),
 x_5.snd.fst ≤ y.snd ∧ y.snd ≤ x_5.snd.fst + (2 : Int) →
 (0 : Nat) + x_4.snd.fst.length ≤ x_4.snd.fst.length ∧
 (x_4.snd.fst.length + (1 : Nat)) * (16 : Nat) ≤ (70368744177664 : Nat) ∧
 Exists fun (x' : Nat × List Pl.Rt × Pl.Rt × Int) =>
 (x'.fst ≤ (List.getD s x.fst Pl.dY).snd.fst.length ∧
 x'.snd.fst.length = x'.fst ∧
 p ≤ x'.snd.snd.snd ∧
 x'.snd.snd.snd ≤
 p + (100 : Int) * (↑x.fst : Int) + (3 : Int) + (30 : Int) * ((3 : Int) - x_2.fst) +
 (2 : Int) * (↑x'.fst : Int)) ∧
 (List.getD s x.fst Pl.dY).snd.fst.length - x'.fst < (List.getD s x.fst Pl.dY).snd.fst.length - x_4.fst ∧
 ((0 : Nat) = (0 : Nat) ∧
 (0 : Nat) = (0 : Nat) ∧
 (0 : Nat) = (0 : Nat) ∧
 ((0 : Nat) = (0 : Nat) ∧ List.length x_2.snd.fst = List.length x_2.snd.fst) ∧
 (↑x.fst : Int) = (↑x.fst : Int) ∧
 x_2.fst = x_2.fst ∧
 (0 : Nat) = (0 : Nat) ∧
 IntKind.i64.wrap ((↑x_4.fst : Int) + (1 : Int)) = (↑x'.fst : Int) ∧ True) ∧
 (Is (byts x_5.fst) (byts b) ∧ y.snd = x'.snd.snd.snd ∧ True) ∧
 (Is (syms s) (syms s) ∧ True) ∧
 (Is (AV.lit (0 : Nat) (1 : Nat) fun (x x_6 : Nat) => AV.any) nilA ∧ True) ∧
 IsO (xrR x_2.snd.fst) (xrR x_2.snd.fst) ∧
 ((List.getD s x.fst Pl.dY).fst = (List.getD s x.fst Pl.dY).fst ∧
 ((0 : Nat) = (0 : Nat) ∧ x_4.snd.fst.length + (1 : Nat) = x'.snd.fst.length) ∧
 x_4.snd.snd.fst.fst = x'.snd.snd.fst.fst ∧
 x_4.snd.snd.fst.snd = x'.snd.snd.fst.snd ∧ True) ∧
 IsO
 (AObj.arr (x_4.snd.fst.length + (1 : Nat)) (2 : Nat)
 (joinC x_4.snd.fst.length (cQ x_4.snd.fst)
 (rowsCell [[i64 y.fst.fst, i64 y.fst.snd]])))
 (arQ x'.snd.fst) ∧
 True)
 (Exists fun (x_5 : List Pl.Rw × Pl.Rw) =>
 (x_5.fst.length ≤ (1000 : Nat) ∧
 (∀ (y : Pl.Rw), y ∈ x_5.fst → y.snd.fst.length ≤ (1000 : Nat)) ∧ x_5.snd.snd.fst.length ≤ (1000 : Nat)) ∧
 ((((0 : Nat) = (0 : Nat) ∧ List.length x_2.snd.fst = x_5.fst.length) ∧
 ((List.getD s x.fst Pl.dY).fst = x_5.snd.fst ∧
 ((0 : Nat) = (0 : Nat) ∧ x_4.snd.fst.length = x_5.snd.snd.fst.length) ∧
 x_4.snd.snd.fst.fst = x_5.snd.snd.snd.fst ∧ x_4.snd.snd.fst.snd = x_5.snd.snd.snd.snd ∧ True) ∧
 True) ∧
 IsO (xrR x_2.snd.fst) (xrR x_5.fst) ∧ IsO (arQ x_4.snd.fst) (arQ x_5.snd.snd.fst) ∧ True) ∧
 ∀ (y : List Nat),
 HPut x_5.fst.length y →
 Exists fun (x' : Int × Pl.Mdl × Int) =>
 ((0 : Int) ≤ x'.fst ∧
 x'.fst ≤ (3 : Int) ∧
 Pl.MdB ((3 : Nat) * x.fst + (3 : Nat) - x'.fst.toNat) (2 : Nat) x'.snd.fst ∧
 p ≤ x'.snd.snd ∧ x'.snd.snd ≤ p + (100 : Int) * (↑x.fst : Int) + (1 : Int) + (30 : Int) * ((3 : Int) - x'.fst)) ∧
 x'.fst.toNat < x_2.fst.toNat ∧
 ((0 : Nat) = (0 : Nat) ∧
 (0 : Nat) = (0 : Nat) ∧
 (0 : Nat) = (0 : Nat) ∧
 ((0 : Nat) = (0 : Nat) ∧ y.length = List.length x'.snd.fst) ∧
 (↑x.fst : Int) = (↑x.fst : Int) ∧ IntKind.i64.wrap (x_2.fst - (1 : Int)) = x'.fst ∧ True) ∧
 (Is (byts b) (byts b) ∧ x_4.snd.snd.snd = x'.snd.snd ∧ True) ∧
 (Is (syms s) (syms s) ∧ True) ∧
 (Is (AV.lit (0 : Nat) (1 : Nat) fun (x x_6 : Nat) => AV.any) nilA ∧ True) ∧
 IsO (xrR (List.map (fun (i : Nat) => (x_5.fst ++ [x_5.snd]).getD i Pl.dR) y)) (xrR x'.snd.fst) ∧
 True)) ∧
 Exists fun (x_3 : List Int × Int × Int) =>
 Rd (549755813888 : Int) x_3.fst x_3.snd.fst ∧
 (((0 : Nat) = (0 : Nat) ∧ (List.getD s x.fst Pl.dY).snd.snd = x_3.snd.snd ∧ True) ∧
 (Is (byts b) (byts x_3.fst) ∧ x_2.snd.snd = x_3.snd.fst ∧ True) ∧ True) ∧
 ∀ (y : Pl.Rt × Int),
 x_3.snd.fst ≤ y.snd ∧ y.snd ≤ x_3.snd.fst + (2 : Int) →
 (Exists fun (x_4 : Nat × List Pl.Rt × Pl.Rt × Int) =>
 (x_4.fst ≤ (List.getD s x.fst Pl.dY).snd.fst.length ∧
 x_4.snd.fst.length = x_4.fst ∧
 p ≤ x_4.snd.snd.snd ∧
 x_4.snd.snd.snd ≤ p + (100 : Int) * (↑x.fst : Int) + (3 : Int) + (30 : Int) * ((3 : Int) - x_2.fst) + (2 : Int) * (↑x_4.fst : Int)) ∧
 ((0 : Nat) = (0 : Nat) ∧
 (0 : Nat) = (0 : Nat) ∧
 (0 : Nat) = (0 : Nat) ∧
 ((0 : Nat) = (0 : Nat) ∧ List.length x_2.snd.fst = List.length x_2.snd.fst) ∧
 (↑x.fst : Int) = (↑x.fst : Int) ∧ x_2.fst = x_2.fst ∧ (0 : Nat) = (0 : Nat) ∧ (0 : Int) = (↑x_4.fst : Int) ∧ True) ∧
 (Is (byts x_3.fst) (byts b) ∧ y.snd = x_4.snd.snd.snd ∧ True) ∧
 (Is (syms s) (syms s) ∧ True) ∧
 (Is (AV.lit (0 : Nat) (1 : Nat) fun (x x_5 : Nat) => AV.any) nilA ∧ True) ∧
 IsO (xrR x_2.snd.fst) (xrR x_2.snd.fst) ∧
 ((List.getD s x.fst Pl.dY).fst = (List.getD s x.fst Pl.dY).fst ∧
 ((0 : Nat) = (0 : Nat) ∧ (0 : Nat) = (0 : Nat) ∧ x_4.snd.fst.length = (0 : Nat)) ∧
 y.fst.fst = x_4.snd.snd.fst.fst ∧ y.fst.snd = x_4.snd.snd.fst.snd ∧ True) ∧
 x_4.snd.fst.length = (0 : Nat) ∧ True) ∧
 ∀ (x_4 : Nat × List Pl.Rt × Pl.Rt × Int),
 x_4.fst ≤ (List.getD s x.fst Pl.dY).snd.fst.length ∧
 x_4.snd.fst.length = x_4.fst ∧
 p ≤ x_4.snd.snd.snd ∧
 x_4.snd.snd.snd ≤ p + (100 : Int) * (↑x.fst : Int) + (3 : Int) + (30 : Int) * ((3 : Int) - x_2.fst) + (2 : Int) * (↑x_4.fst : Int) →
 ((0 : Int) ≤ (↑x.fst : Int) ∧ (↑x.fst : Int) < (↑(List.length s) : Int)) ∧
 x.fst < List.length s ∧
 condP (Decidable.decide ((↑x_4.fst : Int) < (↑(List.getD s x.fst Pl.dY).snd.fst.length : Int)))
 ((((0 : Int) ≤ (↑x.fst : Int) ∧ (↑x.fst : Int) < (↑(List.length s) : Int)) ∧
 x.fst < List.length s ∧
 ((0 : Int) ≤ (↑x_4.fst : Int) ∧ (↑x_4.fst : Int) < (↑(List.getD s x.fst Pl.dY).snd.fst.length : Int)) ∧
 x_4.fst < (List.getD s x.fst Pl.dY).snd.fst.length ∧
 Exists fun (x_5 : List Int × Int × Int) =>
 Rd (549755813888 : Int) x_5.fst x_5.snd.fst ∧
 (((0 : Nat) = (0 : Nat) ∧ (List.getD s x.fst Pl.dY).snd.fst.getD x_4.fst (0 : Int) = x_5.snd.snd ∧ True) ∧
 (Is (byts b) (byts x_5.fst) ∧ x_4.snd.snd.snd = x_5.snd.fst ∧ True) ∧ True) ∧
 ∀ (y : Pl.Rt × Int),
 x_5.snd.fst ≤ y.snd ∧ y.snd ≤ x_5.snd.fst + (2 : Int) →
 (0 : Nat) + x_4.snd.fst.length ≤ x_4.snd.fst.length ∧
 (x_4.snd.fst.length + (1 : Nat)) * (16 : Nat) ≤ (70368744177664 : Nat) ∧
 Exists fun (x' : Nat × List Pl.Rt × Pl.Rt × Int) =>
 (x'.fst ≤ (List.getD s x.fst Pl.dY).snd.fst.length ∧
 x'.snd.fst.length = x'.fst ∧
 p ≤ x'.snd.snd.snd ∧
 x'.snd.snd.snd ≤
 p + (100 : Int) * (↑x.fst : Int) + (3 : Int) + (30 : Int) * ((3 : Int) - x_2.fst) +
 (2 : Int) * (↑x'.fst : Int)) ∧
 (List.getD s x.fst Pl.dY).snd.fst.length - x'.fst < (List.getD s x.fst Pl.dY).snd.fst.length - x_4.fst ∧
 ((0 : Nat) = (0 : Nat) ∧
 (0 : Nat) = (0 : Nat) ∧
 (0 : Nat) = (0 : Nat) ∧
 ((0 : Nat) = (0 : Nat) ∧ List.length x_2.snd.fst = List.length x_2.snd.fst) ∧
 (↑x.fst : Int) = (↑x.fst : Int) ∧
 x_2.fst = x_2.fst ∧
 (0 : Nat) = (0 : Nat) ∧
 IntKind.i64.wrap ((↑x_4.fst : Int) + (1 : Int)) = (↑x'.fst : Int) ∧ True) ∧
 (Is (byts x_5.fst) (byts b) ∧ y.snd = x'.snd.snd.snd ∧ True) ∧
 (Is (syms s) (syms s) ∧ True) ∧
 (Is (AV.lit (0 : Nat) (1 : Nat) fun (x x_6 : Nat) => AV.any) nilA ∧ True) ∧
 IsO (xrR x_2.snd.fst) (xrR x_2.snd.fst) ∧
 ((List.getD s x.fst Pl.dY).fst = (List.getD s x.fst Pl.dY).fst ∧
 ((0 : Nat) = (0 : Nat) ∧ x_4.snd.fst.length + (1 : Nat) = x'.snd.fst.length) ∧
 x_4.snd.snd.fst.fst = x'.snd.snd.fst.fst ∧
 x_4.snd.snd.fst.snd = x'.snd.snd.fst.snd ∧ True) ∧
 IsO
 (AObj.arr (x_4.snd.fst.length + (1 : Nat)) (2 : Nat)
 (joinC x_4.snd.fst.length (cQ x_4.snd.fst)
 (rowsCell [[i64 y.fst.fst, i64 y.fst.snd]])))
 (arQ x'.snd.fst) ∧
 True) ∧
 ((0 : Int) ≤ (↑x.fst : Int) ∧ (↑x.fst : Int) < (↑(List.length s) : Int)) ∧
 x.fst < List.length s ∧
 ((0 : Int) ≤ (↑x_4.fst : Int) ∧ (↑x_4.fst : Int) < (↑(List.getD s x.fst Pl.dY).snd.fst.length : Int)) ∧
 x_4.fst < (List.getD s x.fst Pl.dY).snd.fst.length ∧
 (Exists fun (x_5 : List Int × Int × Int) =>
 Rd (549755813888 : Int) x_5.fst x_5.snd.fst ∧
 (((0 : Nat) = (0 : Nat) ∧ (List.getD s x.fst Pl.dY).snd.fst.getD x_4.fst (0 : Int) = x_5.snd.snd ∧ True) ∧
 (Is (byts b) (byts x_5.fst) ∧ x_4.snd.snd.snd = x_5.snd.fst ∧ True) ∧ True) ∧
 ∀ (y : Pl.Rt × Int),
 x_5.snd.fst ≤ y.snd ∧ y.snd ≤ x_5.snd.fst + (2 : Int) →
 (0 : Nat) + x_4.snd.fst.length ≤ x_4.snd.fst.length ∧
 (x_4.snd.fst.length + (1 : Nat)) * (16 : Nat) ≤ (70368744177664 : Nat) ∧
 Exists fun (x' : Nat × List Pl.Rt × Pl.Rt × Int) =>
 (x'.fst ≤ (List.getD s x.fst Pl.dY).snd.fst.length ∧
 x'.snd.fst.length = x'.fst ∧
 p ≤ x'.snd.snd.snd ∧
 x'.snd.snd.snd ≤
 p + (100 : Int) * (↑x.fst : Int) + (3 : Int) + (30 : Int) * ((3 : Int) - x_2.fst) +
 (2 : Int) * (↑x'.fst : Int)) ∧
 (List.getD s x.fst Pl.dY).snd.fst.length - x'.fst < (List.getD s x.fst Pl.dY).snd.fst.length - x_4.fst ∧
 ((0 : Nat) = (0 : Nat) ∧
 (0 : Nat) = (0 : Nat) ∧
 (0 : Nat) = (0 : Nat) ∧
 ((0 : Nat) = (0 : Nat) ∧ List.length x_2.snd.fst = List.length x_2.snd.fst) ∧
 (↑x.fst : Int) = (↑x.fst : Int) ∧
 x_2.fst = x_2.fst ∧
 (0 : Nat) = (0 : Nat) ∧
 IntKind.i64.wrap ((↑x_4.fst : Int) + (1 : Int)) = (↑x'.fst : Int) ∧ True) ∧
 (Is (byts x_5.fst) (byts b) ∧ y.snd = x'.snd.snd.snd ∧ True) ∧
 (Is (syms s) (syms s) ∧ True) ∧
 (Is (AV.lit (0 : Nat) (1 : Nat) fun (x x_6 : Nat) => AV.any) nilA ∧ True) ∧
 IsO (xrR x_2.snd.fst) (xrR x_2.snd.fst) ∧
 ((List.getD s x.fst Pl.dY).fst = (List.getD s x.fst Pl.dY).fst ∧
 ((0 : Nat) = (0 : Nat) ∧ x_4.snd.fst.length + (1 : Nat) = x'.snd.fst.length) ∧
 x_4.snd.snd.fst.fst = x'.snd.snd.fst.fst ∧
 x_4.snd.snd.fst.snd = x'.snd.snd.fst.snd ∧ True) ∧
 IsO
 (AObj.arr (x_4.snd.fst.length + (1 : Nat)) (2 : Nat)
 (joinC x_4.snd.fst.length (cQ x_4.snd.fst)
 (rowsCell [[i64 y.fst.fst, i64 y.fst.snd]])))
 (arQ x'.snd.fst) ∧
 True) ∧
 Exists fun (x_5 : List Int × Int × Int) =>
 Rd (549755813888 : Int) x_5.fst x_5.snd.fst ∧
 (((0 : Nat) = (0 : Nat) ∧ (List.getD s x.fst Pl.dY).snd.fst.getD x_4.fst (0 : Int) = x_5.snd.snd ∧ True) ∧
 (Is (byts b) (byts x_5.fst) ∧ x_4.snd.snd.snd = x_5.snd.fst ∧ True) ∧ True) ∧
 ∀ (y : Pl.Rt × Int),
 x_5.snd.fst ≤ y.snd ∧ y.snd ≤ x_5.snd.fst + (2 : Int) →
 (0 : Nat) + x_4.snd.fst.length ≤ x_4.snd.fst.length ∧
 (x_4.snd.fst.length + (1 : Nat)) * (16 : Nat) ≤ (70368744177664 : Nat) ∧
 Exists fun (x' : Nat × List Pl.Rt × Pl.Rt × Int) =>
 (x'.fst ≤ (List.getD s x.fst Pl.dY).snd.fst.length ∧
 x'.snd.fst.length = x'.fst ∧
 p ≤ x'.snd.snd.snd ∧
 x'.snd.snd.snd ≤
 p + (100 : Int) * (↑x.fst : Int) + (3 : Int) + (30 : Int) * ((3 : Int) - x_2.fst) +
 (2 : Int) * (↑x'.fst : Int)) ∧
 (List.getD s x.fst Pl.dY).snd.fst.length - x'.fst < (List.getD s x.fst Pl.dY).snd.fst.length - x_4.fst ∧
 ((0 : Nat) = (0 : Nat) ∧
 (0 : Nat) = (0 : Nat) ∧
 (0 : Nat) = (0 : Nat) ∧
 ((0 : Nat) = (0 : Nat) ∧ List.length x_2.snd.fst = List.length x_2.snd.fst) ∧
 (↑x.fst : Int) = (↑x.fst : Int) ∧
 x_2.fst = x_2.fst ∧
 (0 : Nat) = (0 : Nat) ∧
 IntKind.i64.wrap ((↑x_4.fst : Int) + (1 : Int)) = (↑x'.fst : Int) ∧ True) ∧
 (Is (byts x_5.fst) (byts b) ∧ y.snd = x'.snd.snd.snd ∧ True) ∧
 (Is (syms s) (syms s) ∧ True) ∧
 (Is (AV.lit (0 : Nat) (1 : Nat) fun (x x_6 : Nat) => AV.any) nilA ∧ True) ∧
 IsO (xrR x_2.snd.fst) (xrR x_2.snd.fst) ∧
 ((List.getD s x.fst Pl.dY).fst = (List.getD s x.fst Pl.dY).fst ∧
 ((0 : Nat) = (0 : Nat) ∧ x_4.snd.fst.length + (1 : Nat) = x'.snd.fst.length) ∧
 x_4.snd.snd.fst.fst = x'.snd.snd.fst.fst ∧
 x_4.snd.snd.fst.snd = x'.snd.snd.fst.snd ∧ True) ∧
 IsO
 (AObj.arr (x_4.snd.fst.length + (1 : Nat)) (2 : Nat)
 (joinC x_4.snd.fst.length (cQ x_4.snd.fst)
 (rowsCell [[i64 y.fst.fst, i64 y.fst.snd]])))
 (arQ x'.snd.fst) ∧
 True)
 (Exists fun (x_5 : List Pl.Rw × Pl.Rw) =>
 (x_5.fst.length ≤ (1000 : Nat) ∧
 (∀ (y : Pl.Rw), y ∈ x_5.fst → y.snd.fst.length ≤ (1000 : Nat)) ∧ x_5.snd.snd.fst.length ≤ (1000 : Nat)) ∧
 ((((0 : Nat) = (0 : Nat) ∧ List.length x_2.snd.fst = x_5.fst.length) ∧
 ((List.getD s x.fst Pl.dY).fst = x_5.snd.fst ∧
 ((0 : Nat) = (0 : Nat) ∧ x_4.snd.fst.length = x_5.snd.snd.fst.length) ∧
 x_4.snd.snd.fst.fst = x_5.snd.snd.snd.fst ∧ x_4.snd.snd.fst.snd = x_5.snd.snd.snd.snd ∧ True) ∧
 True) ∧
 IsO (xrR x_2.snd.fst) (xrR x_5.fst) ∧ IsO (arQ x_4.snd.fst) (arQ x_5.snd.snd.fst) ∧ True) ∧
 ∀ (y : List Nat),
 HPut x_5.fst.length y →
 Exists fun (x' : Int × Pl.Mdl × Int) =>
 ((0 : Int) ≤ x'.fst ∧
 x'.fst ≤ (3 : Int) ∧
 Pl.MdB ((3 : Nat) * x.fst + (3 : Nat) - x'.fst.toNat) (2 : Nat) x'.snd.fst ∧
 p ≤ x'.snd.snd ∧ x'.snd.snd ≤ p + (100 : Int) * (↑x.fst : Int) + (1 : Int) + (30 : Int) * ((3 : Int) - x'.fst)) ∧
 x'.fst.toNat < x_2.fst.toNat ∧
 ((0 : Nat) = (0 : Nat) ∧
 (0 : Nat) = (0 : Nat) ∧
 (0 : Nat) = (0 : Nat) ∧
 ((0 : Nat) = (0 : Nat) ∧ y.length = List.length x'.snd.fst) ∧
 (↑x.fst : Int) = (↑x.fst : Int) ∧ IntKind.i64.wrap (x_2.fst - (1 : Int)) = x'.fst ∧ True) ∧
 (Is (byts b) (byts b) ∧ x_4.snd.snd.snd = x'.snd.snd ∧ True) ∧
 (Is (syms s) (syms s) ∧ True) ∧
 (Is (AV.lit (0 : Nat) (1 : Nat) fun (x x_6 : Nat) => AV.any) nilA ∧ True) ∧
 IsO (xrR (List.map (fun (i : Nat) => (x_5.fst ++ [x_5.snd]).getD i Pl.dR) y)) (xrR x'.snd.fst) ∧
 True)) ∧
 (Exists fun (x_3 : List Int × Int × Int) =>
 Rd (549755813888 : Int) x_3.fst x_3.snd.fst ∧
 (((0 : Nat) = (0 : Nat) ∧ (List.getD s x.fst Pl.dY).snd.snd = x_3.snd.snd ∧ True) ∧
 (Is (byts b) (byts x_3.fst) ∧ x_2.snd.snd = x_3.snd.fst ∧ True) ∧ True) ∧
 ∀ (y : Pl.Rt × Int),
 x_3.snd.fst ≤ y.snd ∧ y.snd ≤ x_3.snd.fst + (2 : Int) →
 ((0 : Int) ≤ (↑x.fst : Int) ∧ (↑x.fst : Int) < (↑(List.length s) : Int)) ∧
 x.fst < List.length s ∧
 (Exists fun (x_4 : Nat × List Pl.Rt × Pl.Rt × Int) =>
 (x_4.fst ≤ (List.getD s x.fst Pl.dY).snd.fst.length ∧
 x_4.snd.fst.length = x_4.fst ∧
 p ≤ x_4.snd.snd.snd ∧
 x_4.snd.snd.snd ≤ p + (100 : Int) * (↑x.fst : Int) + (3 : Int) + (30 : Int) * ((3 : Int) - x_2.fst) + (2 : Int) * (↑x_4.fst : Int)) ∧
 ((0 : Nat) = (0 : Nat) ∧
 (0 : Nat) = (0 : Nat) ∧
 (0 : Nat) = (0 : Nat) ∧
 ((0 : Nat) = (0 : Nat) ∧ List.length x_2.snd.fst = List.length x_2.snd.fst) ∧
 (↑x.fst : Int) = (↑x.fst : Int) ∧ x_2.fst = x_2.fst ∧ (0 : Nat) = (0 : Nat) ∧ (0 : Int) = (↑x_4.fst : Int) ∧ True) ∧
 (Is (byts x_3.fst) (byts b) ∧ y.snd = x_4.snd.snd.snd ∧ True) ∧
 (Is (syms s) (syms s) ∧ True) ∧
 (Is (AV.lit (0 : Nat) (1 : Nat) fun (x x_5 : Nat) => AV.any) nilA ∧ True) ∧
 IsO (xrR x_2.snd.fst) (xrR x_2.snd.fst) ∧
 ((List.getD s x.fst Pl.dY).fst = (List.getD s x.fst Pl.dY).fst ∧
 ((0 : Nat) = (0 : Nat) ∧ (0 : Nat) = (0 : Nat) ∧ x_4.snd.fst.length = (0 : Nat)) ∧
 y.fst.fst = x_4.snd.snd.fst.fst ∧ y.fst.snd = x_4.snd.snd.fst.snd ∧ True) ∧
 x_4.snd.fst.length = (0 : Nat) ∧ True) ∧
 ∀ (x_4 : Nat × List Pl.Rt × Pl.Rt × Int),
 x_4.fst ≤ (List.getD s x.fst Pl.dY).snd.fst.length ∧
 x_4.snd.fst.length = x_4.fst ∧
 p ≤ x_4.snd.snd.snd ∧
 x_4.snd.snd.snd ≤ p + (100 : Int) * (↑x.fst : Int) + (3 : Int) + (30 : Int) * ((3 : Int) - x_2.fst) + (2 : Int) * (↑x_4.fst : Int) →
 ((0 : Int) ≤ (↑x.fst : Int) ∧ (↑x.fst : Int) < (↑(List.length s) : Int)) ∧
 x.fst < List.length s ∧
 condP (Decidable.decide ((↑x_4.fst : Int) < (↑(List.getD s x.fst Pl.dY).snd.fst.length : Int)))
 ((((0 : Int) ≤ (↑x.fst : Int) ∧ (↑x.fst : Int) < (↑(List.length s) : Int)) ∧
 x.fst < List.length s ∧
 ((0 : Int) ≤ (↑x_4.fst : Int) ∧ (↑x_4.fst : Int) < (↑(List.getD s x.fst Pl.dY).snd.fst.length : Int)) ∧
 x_4.fst < (List.getD s x.fst Pl.dY).snd.fst.length ∧
 Exists fun (x_5 : List Int × Int × Int) =>
 Rd (549755813888 : Int) x_5.fst x_5.snd.fst ∧
 (((0 : Nat) = (0 : Nat) ∧ (List.getD s x.fst Pl.dY).snd.fst.getD x_4.fst (0 : Int) = x_5.snd.snd ∧ True) ∧
 (Is (byts b) (byts x_5.fst) ∧ x_4.snd.snd.snd = x_5.snd.fst ∧ True) ∧ True) ∧
 ∀ (y : Pl.Rt × Int),
 x_5.snd.fst ≤ y.snd ∧ y.snd ≤ x_5.snd.fst + (2 : Int) →
 (0 : Nat) + x_4.snd.fst.length ≤ x_4.snd.fst.length ∧
 (x_4.snd.fst.length + (1 : Nat)) * (16 : Nat) ≤ (70368744177664 : Nat) ∧
 Exists fun (x' : Nat × List Pl.Rt × Pl.Rt × Int) =>
 (x'.fst ≤ (List.getD s x.fst Pl.dY).snd.fst.length ∧
 x'.snd.fst.length = x'.fst ∧
 p ≤ x'.snd.snd.snd ∧
 x'.snd.snd.snd ≤
 p + (100 : Int) * (↑x.fst : Int) + (3 : Int) + (30 : Int) * ((3 : Int) - x_2.fst) +
 (2 : Int) * (↑x'.fst : Int)) ∧
 (List.getD s x.fst Pl.dY).snd.fst.length - x'.fst < (List.getD s x.fst Pl.dY).snd.fst.length - x_4.fst ∧
 ((0 : Nat) = (0 : Nat) ∧
 (0 : Nat) = (0 : Nat) ∧
 (0 : Nat) = (0 : Nat) ∧
 ((0 : Nat) = (0 : Nat) ∧ List.length x_2.snd.fst = List.length x_2.snd.fst) ∧
 (↑x.fst : Int) = (↑x.fst : Int) ∧
 x_2.fst = x_2.fst ∧
 (0 : Nat) = (0 : Nat) ∧
 IntKind.i64.wrap ((↑x_4.fst : Int) + (1 : Int)) = (↑x'.fst : Int) ∧ True) ∧
 (Is (byts x_5.fst) (byts b) ∧ y.snd = x'.snd.snd.snd ∧ True) ∧
 (Is (syms s) (syms s) ∧ True) ∧
 (Is (AV.lit (0 : Nat) (1 : Nat) fun (x x_6 : Nat) => AV.any) nilA ∧ True) ∧
 IsO (xrR x_2.snd.fst) (xrR x_2.snd.fst) ∧
 ((List.getD s x.fst Pl.dY).fst = (List.getD s x.fst Pl.dY).fst ∧
 ((0 : Nat) = (0 : Nat) ∧ x_4.snd.fst.length + (1 : Nat) = x'.snd.fst.length) ∧
 x_4.snd.snd.fst.fst = x'.snd.snd.fst.fst ∧
 x_4.snd.snd.fst.snd = x'.snd.snd.fst.snd ∧ True) ∧
 IsO
 (AObj.arr (x_4.snd.fst.length + (1 : Nat)) (2 : Nat)
 (joinC x_4.snd.fst.length (cQ x_4.snd.fst)
 (rowsCell [[i64 y.fst.fst, i64 y.fst.snd]])))
 (arQ x'.snd.fst) ∧
 True) ∧
 ((0 : Int) ≤ (↑x.fst : Int) ∧ (↑x.fst : Int) < (↑(List.length s) : Int)) ∧
 x.fst < List.length s ∧
 ((0 : Int) ≤ (↑x_4.fst : Int) ∧ (↑x_4.fst : Int) < (↑(List.getD s x.fst Pl.dY).snd.fst.length : Int)) ∧
 x_4.fst < (List.getD s x.fst Pl.dY).snd.fst.length ∧
 (Exists fun (x_5 : List Int × Int × Int) =>
 Rd (549755813888 : Int) x_5.fst x_5.snd.fst ∧
 (((0 : Nat) = (0 : Nat) ∧ (List.getD s x.fst Pl.dY).snd.fst.getD x_4.fst (0 : Int) = x_5.snd.snd ∧ True) ∧
 (Is (byts b) (byts x_5.fst) ∧ x_4.snd.snd.snd = x_5.snd.fst ∧ True) ∧ True) ∧
 ∀ (y : Pl.Rt × Int),
 x_5.snd.fst ≤ y.snd ∧ y.snd ≤ x_5.snd.fst + (2 : Int) →
 (0 : Nat) + x_4.snd.fst.length ≤ x_4.snd.fst.length ∧
 (x_4.snd.fst.length + (1 : Nat)) * (16 : Nat) ≤ (70368744177664 : Nat) ∧
 Exists fun (x' : Nat × List Pl.Rt × Pl.Rt × Int) =>
 (x'.fst ≤ (List.getD s x.fst Pl.dY).snd.fst.length ∧
 x'.snd.fst.length = x'.fst ∧
 p ≤ x'.snd.snd.snd ∧
 x'.snd.snd.snd ≤
 p + (100 : Int) * (↑x.fst : Int) + (3 : Int) + (30 : Int) * ((3 : Int) - x_2.fst) +
 (2 : Int) * (↑x'.fst : Int)) ∧
 (List.getD s x.fst Pl.dY).snd.fst.length - x'.fst < (List.getD s x.fst Pl.dY).snd.fst.length - x_4.fst ∧
 ((0 : Nat) = (0 : Nat) ∧
 (0 : Nat) = (0 : Nat) ∧
 (0 : Nat) = (0 : Nat) ∧
 ((0 : Nat) = (0 : Nat) ∧ List.length x_2.snd.fst = List.length x_2.snd.fst) ∧
 (↑x.fst : Int) = (↑x.fst : Int) ∧
 x_2.fst = x_2.fst ∧
 (0 : Nat) = (0 : Nat) ∧
 IntKind.i64.wrap ((↑x_4.fst : Int) + (1 : Int)) = (↑x'.fst : Int) ∧ True) ∧
 (Is (byts x_5.fst) (byts b) ∧ y.snd = x'.snd.snd.snd ∧ True) ∧
 (Is (syms s) (syms s) ∧ True) ∧
 (Is (AV.lit (0 : Nat) (1 : Nat) fun (x x_6 : Nat) => AV.any) nilA ∧ True) ∧
 IsO (xrR x_2.snd.fst) (xrR x_2.snd.fst) ∧
 ((List.getD s x.fst Pl.dY).fst = (List.getD s x.fst Pl.dY).fst ∧
 ((0 : Nat) = (0 : Nat) ∧ x_4.snd.fst.length + (1 : Nat) = x'.snd.fst.length) ∧
 x_4.snd.snd.fst.fst = x'.snd.snd.fst.fst ∧
 x_4.snd.snd.fst.snd = x'.snd.snd.fst.snd ∧ True) ∧
 IsO
 (AObj.arr (x_4.snd.fst.length + (1 : Nat)) (2 : Nat)
 (joinC x_4.snd.fst.length (cQ x_4.snd.fst)
 (rowsCell [[i64 y.fst.fst, i64 y.fst.snd]])))
 (arQ x'.snd.fst) ∧
 True) ∧
 Exists fun (x_5 : List Int × Int × Int) =>
 Rd (549755813888 : Int) x_5.fst x_5.snd.fst ∧
 (((0 : Nat) = (0 : Nat) ∧ (List.getD s x.fst Pl.dY).snd.fst.getD x_4.fst (0 : Int) = x_5.snd.snd ∧ True) ∧
 (Is (byts b) (byts x_5.fst) ∧ x_4.snd.snd.snd = x_5.snd.fst ∧ True) ∧ True) ∧
 ∀ (y : Pl.Rt × Int),
 x_5.snd.fst ≤ y.snd ∧ y.snd ≤ x_5.snd.fst + (2 : Int) →
 (0 : Nat) + x_4.snd.fst.length ≤ x_4.snd.fst.length ∧
 (x_4.snd.fst.length + (1 : Nat)) * (16 : Nat) ≤ (70368744177664 : Nat) ∧
 Exists fun (x' : Nat × List Pl.Rt × Pl.Rt × Int) =>
 (x'.fst ≤ (List.getD s x.fst Pl.dY).snd.fst.length ∧
 x'.snd.fst.length = x'.fst ∧
 p ≤ x'.snd.snd.snd ∧
 x'.snd.snd.snd ≤
 p + (100 : Int) * (↑x.fst : Int) + (3 : Int) + (30 : Int) * ((3 : Int) - x_2.fst) +
 (2 : Int) * (↑x'.fst : Int)) ∧
 (List.getD s x.fst Pl.dY).snd.fst.length - x'.fst < (List.getD s x.fst Pl.dY).snd.fst.length - x_4.fst ∧
 ((0 : Nat) = (0 : Nat) ∧
 (0 : Nat) = (0 : Nat) ∧
 (0 : Nat) = (0 : Nat) ∧
 ((0 : Nat) = (0 : Nat) ∧ List.length x_2.snd.fst = List.length x_2.snd.fst) ∧
 (↑x.fst : Int) = (↑x.fst : Int) ∧
 x_2.fst = x_2.fst ∧
 (0 : Nat) = (0 : Nat) ∧
 IntKind.i64.wrap ((↑x_4.fst : Int) + (1 : Int)) = (↑x'.fst : Int) ∧ True) ∧
 (Is (byts x_5.fst) (byts b) ∧ y.snd = x'.snd.snd.snd ∧ True) ∧
 (Is (syms s) (syms s) ∧ True) ∧
 (Is (AV.lit (0 : Nat) (1 : Nat) fun (x x_6 : Nat) => AV.any) nilA ∧ True) ∧
 IsO (xrR x_2.snd.fst) (xrR x_2.snd.fst) ∧
 ((List.getD s x.fst Pl.dY).fst = (List.getD s x.fst Pl.dY).fst ∧
 ((0 : Nat) = (0 : Nat) ∧ x_4.snd.fst.length + (1 : Nat) = x'.snd.fst.length) ∧
 x_4.snd.snd.fst.fst = x'.snd.snd.fst.fst ∧
 x_4.snd.snd.fst.snd = x'.snd.snd.fst.snd ∧ True) ∧
 IsO
 (AObj.arr (x_4.snd.fst.length + (1 : Nat)) (2 : Nat)
 (joinC x_4.snd.fst.length (cQ x_4.snd.fst)
 (rowsCell [[i64 y.fst.fst, i64 y.fst.snd]])))
 (arQ x'.snd.fst) ∧
 True)
 (Exists fun (x_5 : List Pl.Rw × Pl.Rw) =>
 (x_5.fst.length ≤ (1000 : Nat) ∧
 (∀ (y : Pl.Rw), y ∈ x_5.fst → y.snd.fst.length ≤ (1000 : Nat)) ∧ x_5.snd.snd.fst.length ≤ (1000 : Nat)) ∧
 ((((0 : Nat) = (0 : Nat) ∧ List.length x_2.snd.fst = x_5.fst.length) ∧
 ((List.getD s x.fst Pl.dY).fst = x_5.snd.fst ∧
 ((0 : Nat) = (0 : Nat) ∧ x_4.snd.fst.length = x_5.snd.snd.fst.length) ∧
 x_4.snd.snd.fst.fst = x_5.snd.snd.snd.fst ∧ x_4.snd.snd.fst.snd = x_5.snd.snd.snd.snd ∧ True) ∧
 True) ∧
 IsO (xrR x_2.snd.fst) (xrR x_5.fst) ∧ IsO (arQ x_4.snd.fst) (arQ x_5.snd.snd.fst) ∧ True) ∧
 ∀ (y : List Nat),
 HPut x_5.fst.length y →
 Exists fun (x' : Int × Pl.Mdl × Int) =>
 ((0 : Int) ≤ x'.fst ∧
 x'.fst ≤ (3 : Int) ∧
 Pl.MdB ((3 : Nat) * x.fst + (3 : Nat) - x'.fst.toNat) (2 : Nat) x'.snd.fst ∧
 p ≤ x'.snd.snd ∧ x'.snd.snd ≤ p + (100 : Int) * (↑x.fst : Int) + (1 : Int) + (30 : Int) * ((3 : Int) - x'.fst)) ∧
 x'.fst.toNat < x_2.fst.toNat ∧
 ((0 : Nat) = (0 : Nat) ∧
 (0 : Nat) = (0 : Nat) ∧
 (0 : Nat) = (0 : Nat) ∧
 ((0 : Nat) = (0 : Nat) ∧ y.length = List.length x'.snd.fst) ∧
 (↑x.fst : Int) = (↑x.fst : Int) ∧ IntKind.i64.wrap (x_2.fst - (1 : Int)) = x'.fst ∧ True) ∧
 (Is (byts b) (byts b) ∧ x_4.snd.snd.snd = x'.snd.snd ∧ True) ∧
 (Is (syms s) (syms s) ∧ True) ∧
 (Is (AV.lit (0 : Nat) (1 : Nat) fun (x x_6 : Nat) => AV.any) nilA ∧ True) ∧
 IsO (xrR (List.map (fun (i : Nat) => (x_5.fst ++ [x_5.snd]).getD i Pl.dR) y)) (xrR x'.snd.fst) ∧
 True)) ∧
 (((0 : Int) ≤ (↑x.fst : Int) ∧ (↑x.fst : Int) < (↑(List.length s) : Int)) ∧
 x.fst < List.length s ∧
 Exists fun (x_3 : List Int × Int × Int) =>
 Rd (549755813888 : Int) x_3.fst x_3.snd.fst ∧
 (((0 : Nat) = (0 : Nat) ∧ (List.getD s x.fst Pl.dY).snd.snd = x_3.snd.snd ∧ True) ∧
 (Is (byts b) (byts x_3.fst) ∧ x_2.snd.snd = x_3.snd.fst ∧ True) ∧ True) ∧
 ∀ (y : Pl.Rt × Int),
 x_3.snd.fst ≤ y.snd ∧ y.snd ≤ x_3.snd.fst + (2 : Int) →
 (Exists fun (x_4 : Nat × List Pl.Rt × Pl.Rt × Int) =>
 (x_4.fst ≤ (List.getD s x.fst Pl.dY).snd.fst.length ∧
 x_4.snd.fst.length = x_4.fst ∧
 p ≤ x_4.snd.snd.snd ∧
 x_4.snd.snd.snd ≤ p + (100 : Int) * (↑x.fst : Int) + (3 : Int) + (30 : Int) * ((3 : Int) - x_2.fst) + (2 : Int) * (↑x_4.fst : Int)) ∧
 ((0 : Nat) = (0 : Nat) ∧
 (0 : Nat) = (0 : Nat) ∧
 (0 : Nat) = (0 : Nat) ∧
 ((0 : Nat) = (0 : Nat) ∧ List.length x_2.snd.fst = List.length x_2.snd.fst) ∧
 (↑x.fst : Int) = (↑x.fst : Int) ∧ x_2.fst = x_2.fst ∧ (0 : Nat) = (0 : Nat) ∧ (0 : Int) = (↑x_4.fst : Int) ∧ True) ∧
 (Is (byts x_3.fst) (byts b) ∧ y.snd = x_4.snd.snd.snd ∧ True) ∧
 (Is (syms s) (syms s) ∧ True) ∧
 (Is (AV.lit (0 : Nat) (1 : Nat) fun (x x_5 : Nat) => AV.any) nilA ∧ True) ∧
 IsO (xrR x_2.snd.fst) (xrR x_2.snd.fst) ∧
 ((List.getD s x.fst Pl.dY).fst = (List.getD s x.fst Pl.dY).fst ∧
 ((0 : Nat) = (0 : Nat) ∧ (0 : Nat) = (0 : Nat) ∧ x_4.snd.fst.length = (0 : Nat)) ∧
 y.fst.fst = x_4.snd.snd.fst.fst ∧ y.fst.snd = x_4.snd.snd.fst.snd ∧ True) ∧
 x_4.snd.fst.length = (0 : Nat) ∧ True) ∧
 ∀ (x_4 : Nat × List Pl.Rt × Pl.Rt × Int),
 x_4.fst ≤ (List.getD s x.fst Pl.dY).snd.fst.length ∧
 x_4.snd.fst.length = x_4.fst ∧
 p ≤ x_4.snd.snd.snd ∧
 x_4.snd.snd.snd ≤ p + (100 : Int) * (↑x.fst : Int) + (3 : Int) + (30 : Int) * ((3 : Int) - x_2.fst) + (2 : Int) * (↑x_4.fst : Int) →
 ((0 : Int) ≤ (↑x.fst : Int) ∧ (↑x.fst : Int) < (↑(List.length s) : Int)) ∧
 x.fst < List.length s ∧
 condP (Decidable.decide ((↑x_4.fst : Int) < (↑(List.getD s x.fst Pl.dY).snd.fst.length : Int)))
 ((((0 : Int) ≤ (↑x.fst : Int) ∧ (↑x.fst : Int) < (↑(List.length s) : Int)) ∧
 x.fst < List.length s ∧
 ((0 : Int) ≤ (↑x_4.fst : Int) ∧ (↑x_4.fst : Int) < (↑(List.getD s x.fst Pl.dY).snd.fst.length : Int)) ∧
 x_4.fst < (List.getD s x.fst Pl.dY).snd.fst.length ∧
 Exists fun (x_5 : List Int × Int × Int) =>
 Rd (549755813888 : Int) x_5.fst x_5.snd.fst ∧
 (((0 : Nat) = (0 : Nat) ∧ (List.getD s x.fst Pl.dY).snd.fst.getD x_4.fst (0 : Int) = x_5.snd.snd ∧ True) ∧
 (Is (byts b) (byts x_5.fst) ∧ x_4.snd.snd.snd = x_5.snd.fst ∧ True) ∧ True) ∧
 ∀ (y : Pl.Rt × Int),
 x_5.snd.fst ≤ y.snd ∧ y.snd ≤ x_5.snd.fst + (2 : Int) →
 (0 : Nat) + x_4.snd.fst.length ≤ x_4.snd.fst.length ∧
 (x_4.snd.fst.length + (1 : Nat)) * (16 : Nat) ≤ (70368744177664 : Nat) ∧
 Exists fun (x' : Nat × List Pl.Rt × Pl.Rt × Int) =>
 (x'.fst ≤ (List.getD s x.fst Pl.dY).snd.fst.length ∧
 x'.snd.fst.length = x'.fst ∧
 p ≤ x'.snd.snd.snd ∧
 x'.snd.snd.snd ≤
 p + (100 : Int) * (↑x.fst : Int) + (3 : Int) + (30 : Int) * ((3 : Int) - x_2.fst) +
 (2 : Int) * (↑x'.fst : Int)) ∧
 (List.getD s x.fst Pl.dY).snd.fst.length - x'.fst < (List.getD s x.fst Pl.dY).snd.fst.length - x_4.fst ∧
 ((0 : Nat) = (0 : Nat) ∧
 (0 : Nat) = (0 : Nat) ∧
 (0 : Nat) = (0 : Nat) ∧
 ((0 : Nat) = (0 : Nat) ∧ List.length x_2.snd.fst = List.length x_2.snd.fst) ∧
 (↑x.fst : Int) = (↑x.fst : Int) ∧
 x_2.fst = x_2.fst ∧
 (0 : Nat) = (0 : Nat) ∧
 IntKind.i64.wrap ((↑x_4.fst : Int) + (1 : Int)) = (↑x'.fst : Int) ∧ True) ∧
 (Is (byts x_5.fst) (byts b) ∧ y.snd = x'.snd.snd.snd ∧ True) ∧
 (Is (syms s) (syms s) ∧ True) ∧
 (Is (AV.lit (0 : Nat) (1 : Nat) fun (x x_6 : Nat) => AV.any) nilA ∧ True) ∧
 IsO (xrR x_2.snd.fst) (xrR x_2.snd.fst) ∧
 ((List.getD s x.fst Pl.dY).fst = (List.getD s x.fst Pl.dY).fst ∧
 ((0 : Nat) = (0 : Nat) ∧ x_4.snd.fst.length + (1 : Nat) = x'.snd.fst.length) ∧
 x_4.snd.snd.fst.fst = x'.snd.snd.fst.fst ∧
 x_4.snd.snd.fst.snd = x'.snd.snd.fst.snd ∧ True) ∧
 IsO
 (AObj.arr (x_4.snd.fst.length + (1 : Nat)) (2 : Nat)
 (joinC x_4.snd.fst.length (cQ x_4.snd.fst)
 (rowsCell [[i64 y.fst.fst, i64 y.fst.snd]])))
 (arQ x'.snd.fst) ∧
 True) ∧
 ((0 : Int) ≤ (↑x.fst : Int) ∧ (↑x.fst : Int) < (↑(List.length s) : Int)) ∧
 x.fst < List.length s ∧
 ((0 : Int) ≤ (↑x_4.fst : Int) ∧ (↑x_4.fst : Int) < (↑(List.getD s x.fst Pl.dY).snd.fst.length : Int)) ∧
 x_4.fst < (List.getD s x.fst Pl.dY).snd.fst.length ∧
 (Exists fun (x_5 : List Int × Int × Int) =>
 Rd (549755813888 : Int) x_5.fst x_5.snd.fst ∧
 (((0 : Nat) = (0 : Nat) ∧ (List.getD s x.fst Pl.dY).snd.fst.getD x_4.fst (0 : Int) = x_5.snd.snd ∧ True) ∧
 (Is (byts b) (byts x_5.fst) ∧ x_4.snd.snd.snd = x_5.snd.fst ∧ True) ∧ True) ∧
 ∀ (y : Pl.Rt × Int),
 x_5.snd.fst ≤ y.snd ∧ y.snd ≤ x_5.snd.fst + (2 : Int) →
 (0 : Nat) + x_4.snd.fst.length ≤ x_4.snd.fst.length ∧
 (x_4.snd.fst.length + (1 : Nat)) * (16 : Nat) ≤ (70368744177664 : Nat) ∧
 Exists fun (x' : Nat × List Pl.Rt × Pl.Rt × Int) =>
 (x'.fst ≤ (List.getD s x.fst Pl.dY).snd.fst.length ∧
 x'.snd.fst.length = x'.fst ∧
 p ≤ x'.snd.snd.snd ∧
 x'.snd.snd.snd ≤
 p + (100 : Int) * (↑x.fst : Int) + (3 : Int) + (30 : Int) * ((3 : Int) - x_2.fst) +
 (2 : Int) * (↑x'.fst : Int)) ∧
 (List.getD s x.fst Pl.dY).snd.fst.length - x'.fst < (List.getD s x.fst Pl.dY).snd.fst.length - x_4.fst ∧
 ((0 : Nat) = (0 : Nat) ∧
 (0 : Nat) = (0 : Nat) ∧
 (0 : Nat) = (0 : Nat) ∧
 ((0 : Nat) = (0 : Nat) ∧ List.length x_2.snd.fst = List.length x_2.snd.fst) ∧
 (↑x.fst : Int) = (↑x.fst : Int) ∧
 x_2.fst = x_2.fst ∧
 (0 : Nat) = (0 : Nat) ∧
 IntKind.i64.wrap ((↑x_4.fst : Int) + (1 : Int)) = (↑x'.fst : Int) ∧ True) ∧
 (Is (byts x_5.fst) (byts b) ∧ y.snd = x'.snd.snd.snd ∧ True) ∧
 (Is (syms s) (syms s) ∧ True) ∧
 (Is (AV.lit (0 : Nat) (1 : Nat) fun (x x_6 : Nat) => AV.any) nilA ∧ True) ∧
 IsO (xrR x_2.snd.fst) (xrR x_2.snd.fst) ∧
 ((List.getD s x.fst Pl.dY).fst = (List.getD s x.fst Pl.dY).fst ∧
 ((0 : Nat) = (0 : Nat) ∧ x_4.snd.fst.length + (1 : Nat) = x'.snd.fst.length) ∧
 x_4.snd.snd.fst.fst = x'.snd.snd.fst.fst ∧
 x_4.snd.snd.fst.snd = x'.snd.snd.fst.snd ∧ True) ∧
 IsO
 (AObj.arr (x_4.snd.fst.length + (1 : Nat)) (2 : Nat)
 (joinC x_4.snd.fst.length (cQ x_4.snd.fst)
 (rowsCell [[i64 y.fst.fst, i64 y.fst.snd]])))
 (arQ x'.snd.fst) ∧
 True) ∧
 Exists fun (x_5 : List Int × Int × Int) =>
 Rd (549755813888 : Int) x_5.fst x_5.snd.fst ∧
 (((0 : Nat) = (0 : Nat) ∧ (List.getD s x.fst Pl.dY).snd.fst.getD x_4.fst (0 : Int) = x_5.snd.snd ∧ True) ∧
 (Is (byts b) (byts x_5.fst) ∧ x_4.snd.snd.snd = x_5.snd.fst ∧ True) ∧ True) ∧
 ∀ (y : Pl.Rt × Int),
 x_5.snd.fst ≤ y.snd ∧ y.snd ≤ x_5.snd.fst + (2 : Int) →
 (0 : Nat) + x_4.snd.fst.length ≤ x_4.snd.fst.length ∧
 (x_4.snd.fst.length + (1 : Nat)) * (16 : Nat) ≤ (70368744177664 : Nat) ∧
 Exists fun (x' : Nat × List Pl.Rt × Pl.Rt × Int) =>
 (x'.fst ≤ (List.getD s x.fst Pl.dY).snd.fst.length ∧
 x'.snd.fst.length = x'.fst ∧
 p ≤ x'.snd.snd.snd ∧
 x'.snd.snd.snd ≤
 p + (100 : Int) * (↑x.fst : Int) + (3 : Int) + (30 : Int) * ((3 : Int) - x_2.fst) +
 (2 : Int) * (↑x'.fst : Int)) ∧
 (List.getD s x.fst Pl.dY).snd.fst.length - x'.fst < (List.getD s x.fst Pl.dY).snd.fst.length - x_4.fst ∧
 ((0 : Nat) = (0 : Nat) ∧
 (0 : Nat) = (0 : Nat) ∧
 (0 : Nat) = (0 : Nat) ∧
 ((0 : Nat) = (0 : Nat) ∧ List.length x_2.snd.fst = List.length x_2.snd.fst) ∧
 (↑x.fst : Int) = (↑x.fst : Int) ∧
 x_2.fst = x_2.fst ∧
 (0 : Nat) = (0 : Nat) ∧
 IntKind.i64.wrap ((↑x_4.fst : Int) + (1 : Int)) = (↑x'.fst : Int) ∧ True) ∧
 (Is (byts x_5.fst) (byts b) ∧ y.snd = x'.snd.snd.snd ∧ True) ∧
 (Is (syms s) (syms s) ∧ True) ∧
 (Is (AV.lit (0 : Nat) (1 : Nat) fun (x x_6 : Nat) => AV.any) nilA ∧ True) ∧
 IsO (xrR x_2.snd.fst) (xrR x_2.snd.fst) ∧
 ((List.getD s x.fst Pl.dY).fst = (List.getD s x.fst Pl.dY).fst ∧
 ((0 : Nat) = (0 : Nat) ∧ x_4.snd.fst.length + (1 : Nat) = x'.snd.fst.length) ∧
 x_4.snd.snd.fst.fst = x'.snd.snd.fst.fst ∧
 x_4.snd.snd.fst.snd = x'.snd.snd.fst.snd ∧ True) ∧
 IsO
 (AObj.arr (x_4.snd.fst.length + (1 : Nat)) (2 : Nat)
 (joinC x_4.snd.fst.length (cQ x_4.snd.fst)
 (rowsCell [[i64 y.fst.fst, i64 y.fst.snd]])))
 (arQ x'.snd.fst) ∧
 True)
 (Exists fun (x_5 : List Pl.Rw × Pl.Rw) =>
 (x_5.fst.length ≤ (1000 : Nat) ∧
 (∀ (y : Pl.Rw), y ∈ x_5.fst → y.snd.fst.length ≤ (1000 : Nat)) ∧ x_5.snd.snd.fst.length ≤ (1000 : Nat)) ∧
 ((((0 : Nat) = (0 : Nat) ∧ List.length x_2.snd.fst = x_5.fst.length) ∧
 ((List.getD s x.fst Pl.dY).fst = x_5.snd.fst ∧
 ((0 : Nat) = (0 : Nat) ∧ x_4.snd.fst.length = x_5.snd.snd.fst.length) ∧
 x_4.snd.snd.fst.fst = x_5.snd.snd.snd.fst ∧ x_4.snd.snd.fst.snd = x_5.snd.snd.snd.snd ∧ True) ∧
 True) ∧
 IsO (xrR x_2.snd.fst) (xrR x_5.fst) ∧ IsO (arQ x_4.snd.fst) (arQ x_5.snd.snd.fst) ∧ True) ∧
 ∀ (y : List Nat),
 HPut x_5.fst.length y →
 Exists fun (x' : Int × Pl.Mdl × Int) =>
 ((0 : Int) ≤ x'.fst ∧
 x'.fst ≤ (3 : Int) ∧
 Pl.MdB ((3 : Nat) * x.fst + (3 : Nat) - x'.fst.toNat) (2 : Nat) x'.snd.fst ∧
 p ≤ x'.snd.snd ∧ x'.snd.snd ≤ p + (100 : Int) * (↑x.fst : Int) + (1 : Int) + (30 : Int) * ((3 : Int) - x'.fst)) ∧
 x'.fst.toNat < x_2.fst.toNat ∧
 ((0 : Nat) = (0 : Nat) ∧
 (0 : Nat) = (0 : Nat) ∧
 (0 : Nat) = (0 : Nat) ∧
 ((0 : Nat) = (0 : Nat) ∧ y.length = List.length x'.snd.fst) ∧
 (↑x.fst : Int) = (↑x.fst : Int) ∧ IntKind.i64.wrap (x_2.fst - (1 : Int)) = x'.fst ∧ True) ∧
 (Is (byts b) (byts b) ∧ x_4.snd.snd.snd = x'.snd.snd ∧ True) ∧
 (Is (syms s) (syms s) ∧ True) ∧
 (Is (AV.lit (0 : Nat) (1 : Nat) fun (x x_6 : Nat) => AV.any) nilA ∧ True) ∧
 IsO (xrR (List.map (fun (i : Nat) => (x_5.fst ++ [x_5.snd]).getD i Pl.dR) y)) (xrR x'.snd.fst) ∧
 True)) ∧
 Exists fun (x_3 : List Int × Int × Int) =>
 Rd (549755813888 : Int) x_3.fst x_3.snd.fst ∧
 (((0 : Nat) = (0 : Nat) ∧ (List.getD s x.fst Pl.dY).snd.snd = x_3.snd.snd ∧ True) ∧
 (Is (byts b) (byts x_3.fst) ∧ x_2.snd.snd = x_3.snd.fst ∧ True) ∧ True) ∧
 ∀ (y : Pl.Rt × Int),
 x_3.snd.fst ≤ y.snd ∧ y.snd ≤ x_3.snd.fst + (2 : Int) →
 ((0 : Int) ≤ (↑x.fst : Int) ∧ (↑x.fst : Int) < (↑(List.length s) : Int)) ∧
 x.fst < List.length s ∧
 (Exists fun (x_4 : Nat × List Pl.Rt × Pl.Rt × Int) =>
 (x_4.fst ≤ (List.getD s x.fst Pl.dY).snd.fst.length ∧
 x_4.snd.fst.length = x_4.fst ∧
 p ≤ x_4.snd.snd.snd ∧
 x_4.snd.snd.snd ≤ p + (100 : Int) * (↑x.fst : Int) + (3 : Int) + (30 : Int) * ((3 : Int) - x_2.fst) + (2 : Int) * (↑x_4.fst : Int)) ∧
 ((0 : Nat) = (0 : Nat) ∧
 (0 : Nat) = (0 : Nat) ∧
 (0 : Nat) = (0 : Nat) ∧
 ((0 : Nat) = (0 : Nat) ∧ List.length x_2.snd.fst = List.length x_2.snd.fst) ∧
 (↑x.fst : Int) = (↑x.fst : Int) ∧ x_2.fst = x_2.fst ∧ (0 : Nat) = (0 : Nat) ∧ (0 : Int) = (↑x_4.fst : Int) ∧ True) ∧
 (Is (byts x_3.fst) (byts b) ∧ y.snd = x_4.snd.snd.snd ∧ True) ∧
 (Is (syms s) (syms s) ∧ True) ∧
 (Is (AV.lit (0 : Nat) (1 : Nat) fun (x x_5 : Nat) => AV.any) nilA ∧ True) ∧
 IsO (xrR x_2.snd.fst) (xrR x_2.snd.fst) ∧
 ((List.getD s x.fst Pl.dY).fst = (List.getD s x.fst Pl.dY).fst ∧
 ((0 : Nat) = (0 : Nat) ∧ (0 : Nat) = (0 : Nat) ∧ x_4.snd.fst.length = (0 : Nat)) ∧
 y.fst.fst = x_4.snd.snd.fst.fst ∧ y.fst.snd = x_4.snd.snd.fst.snd ∧ True) ∧
 x_4.snd.fst.length = (0 : Nat) ∧ True) ∧
 ∀ (x_4 : Nat × List Pl.Rt × Pl.Rt × Int),
 x_4.fst ≤ (List.getD s x.fst Pl.dY).snd.fst.length ∧
 x_4.snd.fst.length = x_4.fst ∧
 p ≤ x_4.snd.snd.snd ∧
 x_4.snd.snd.snd ≤ p + (100 : Int) * (↑x.fst : Int) + (3 : Int) + (30 : Int) * ((3 : Int) - x_2.fst) + (2 : Int) * (↑x_4.fst : Int) →
 ((0 : Int) ≤ (↑x.fst : Int) ∧ (↑x.fst : Int) < (↑(List.length s) : Int)) ∧
 x.fst < List.length s ∧
 condP (Decidable.decide ((↑x_4.fst : Int) < (↑(List.getD s x.fst Pl.dY).snd.fst.length : Int)))
 ((((0 : Int) ≤ (↑x.fst : Int) ∧ (↑x.fst : Int) < (↑(List.length s) : Int)) ∧
 x.fst < List.length s ∧
 ((0 : Int) ≤ (↑x_4.fst : Int) ∧ (↑x_4.fst : Int) < (↑(List.getD s x.fst Pl.dY).snd.fst.length : Int)) ∧
 x_4.fst < (List.getD s x.fst Pl.dY).snd.fst.length ∧
 Exists fun (x_5 : List Int × Int × Int) =>
 Rd (549755813888 : Int) x_5.fst x_5.snd.fst ∧
 (((0 : Nat) = (0 : Nat) ∧ (List.getD s x.fst Pl.dY).snd.fst.getD x_4.fst (0 : Int) = x_5.snd.snd ∧ True) ∧
 (Is (byts b) (byts x_5.fst) ∧ x_4.snd.snd.snd = x_5.snd.fst ∧ True) ∧ True) ∧
 ∀ (y : Pl.Rt × Int),
 x_5.snd.fst ≤ y.snd ∧ y.snd ≤ x_5.snd.fst + (2 : Int) →
 (0 : Nat) + x_4.snd.fst.length ≤ x_4.snd.fst.length ∧
 (x_4.snd.fst.length + (1 : Nat)) * (16 : Nat) ≤ (70368744177664 : Nat) ∧
 Exists fun (x' : Nat × List Pl.Rt × Pl.Rt × Int) =>
 (x'.fst ≤ (List.getD s x.fst Pl.dY).snd.fst.length ∧
 x'.snd.fst.length = x'.fst ∧
 p ≤ x'.snd.snd.snd ∧
 x'.snd.snd.snd ≤
 p + (100 : Int) * (↑x.fst : Int) + (3 : Int) + (30 : Int) * ((3 : Int) - x_2.fst) +
 (2 : Int) * (↑x'.fst : Int)) ∧
 (List.getD s x.fst Pl.dY).snd.fst.length - x'.fst < (List.getD s x.fst Pl.dY).snd.fst.length - x_4.fst ∧
 ((0 : Nat) = (0 : Nat) ∧
 (0 : Nat) = (0 : Nat) ∧
 (0 : Nat) = (0 : Nat) ∧
 ((0 : Nat) = (0 : Nat) ∧ List.length x_2.snd.fst = List.length x_2.snd.fst) ∧
 (↑x.fst : Int) = (↑x.fst : Int) ∧
 x_2.fst = x_2.fst ∧
 (0 : Nat) = (0 : Nat) ∧
 IntKind.i64.wrap ((↑x_4.fst : Int) + (1 : Int)) = (↑x'.fst : Int) ∧ True) ∧
 (Is (byts x_5.fst) (byts b) ∧ y.snd = x'.snd.snd.snd ∧ True) ∧
 (Is (syms s) (syms s) ∧ True) ∧
 (Is (AV.lit (0 : Nat) (1 : Nat) fun (x x_6 : Nat) => AV.any) nilA ∧ True) ∧
 IsO (xrR x_2.snd.fst) (xrR x_2.snd.fst) ∧
 ((List.getD s x.fst Pl.dY).fst = (List.getD s x.fst Pl.dY).fst ∧
 ((0 : Nat) = (0 : Nat) ∧ x_4.snd.fst.length + (1 : Nat) = x'.snd.fst.length) ∧
 x_4.snd.snd.fst.fst = x'.snd.snd.fst.fst ∧
 x_4.snd.snd.fst.snd = x'.snd.snd.fst.snd ∧ True) ∧
 IsO
 (AObj.arr (x_4.snd.fst.length + (1 : Nat)) (2 : Nat)
 (joinC x_4.snd.fst.length (cQ x_4.snd.fst)
 (rowsCell [[i64 y.fst.fst, i64 y.fst.snd]])))
 (arQ x'.snd.fst) ∧
 True) ∧
 ((0 : Int) ≤ (↑x.fst : Int) ∧ (↑x.fst : Int) < (↑(List.length s) : Int)) ∧
 x.fst < List.length s ∧
 ((0 : Int) ≤ (↑x_4.fst : Int) ∧ (↑x_4.fst : Int) < (↑(List.getD s x.fst Pl.dY).snd.fst.length : Int)) ∧
 x_4.fst < (List.getD s x.fst Pl.dY).snd.fst.length ∧
 (Exists fun (x_5 : List Int × Int × Int) =>
 Rd (549755813888 : Int) x_5.fst x_5.snd.fst ∧
 (((0 : Nat) = (0 : Nat) ∧ (List.getD s x.fst Pl.dY).snd.fst.getD x_4.fst (0 : Int) = x_5.snd.snd ∧ True) ∧
 (Is (byts b) (byts x_5.fst) ∧ x_4.snd.snd.snd = x_5.snd.fst ∧ True) ∧ True) ∧
 ∀ (y : Pl.Rt × Int),
 x_5.snd.fst ≤ y.snd ∧ y.snd ≤ x_5.snd.fst + (2 : Int) →
 (0 : Nat) + x_4.snd.fst.length ≤ x_4.snd.fst.length ∧
 (x_4.snd.fst.length + (1 : Nat)) * (16 : Nat) ≤ (70368744177664 : Nat) ∧
 Exists fun (x' : Nat × List Pl.Rt × Pl.Rt × Int) =>
 (x'.fst ≤ (List.getD s x.fst Pl.dY).snd.fst.length ∧
 x'.snd.fst.length = x'.fst ∧
 p ≤ x'.snd.snd.snd ∧
 x'.snd.snd.snd ≤
 p + (100 : Int) * (↑x.fst : Int) + (3 : Int) + (30 : Int) * ((3 : Int) - x_2.fst) +
 (2 : Int) * (↑x'.fst : Int)) ∧
 (List.getD s x.fst Pl.dY).snd.fst.length - x'.fst < (List.getD s x.fst Pl.dY).snd.fst.length - x_4.fst ∧
 ((0 : Nat) = (0 : Nat) ∧
 (0 : Nat) = (0 : Nat) ∧
 (0 : Nat) = (0 : Nat) ∧
 ((0 : Nat) = (0 : Nat) ∧ List.length x_2.snd.fst = List.length x_2.snd.fst) ∧
 (↑x.fst : Int) = (↑x.fst : Int) ∧
 x_2.fst = x_2.fst ∧
 (0 : Nat) = (0 : Nat) ∧
 IntKind.i64.wrap ((↑x_4.fst : Int) + (1 : Int)) = (↑x'.fst : Int) ∧ True) ∧
 (Is (byts x_5.fst) (byts b) ∧ y.snd = x'.snd.snd.snd ∧ True) ∧
 (Is (syms s) (syms s) ∧ True) ∧
 (Is (AV.lit (0 : Nat) (1 : Nat) fun (x x_6 : Nat) => AV.any) nilA ∧ True) ∧
 IsO (xrR x_2.snd.fst) (xrR x_2.snd.fst) ∧
 ((List.getD s x.fst Pl.dY).fst = (List.getD s x.fst Pl.dY).fst ∧
 ((0 : Nat) = (0 : Nat) ∧ x_4.snd.fst.length + (1 : Nat) = x'.snd.fst.length) ∧
 x_4.snd.snd.fst.fst = x'.snd.snd.fst.fst ∧
 x_4.snd.snd.fst.snd = x'.snd.snd.fst.snd ∧ True) ∧
 IsO
 (AObj.arr (x_4.snd.fst.length + (1 : Nat)) (2 : Nat)
 (joinC x_4.snd.fst.length (cQ x_4.snd.fst)
 (rowsCell [[i64 y.fst.fst, i64 y.fst.snd]])))
 (arQ x'.snd.fst) ∧
 True) ∧
 Exists fun (x_5 : List Int × Int × Int) =>
 Rd (549755813888 : Int) x_5.fst x_5.snd.fst ∧
 (((0 : Nat) = (0 : Nat) ∧ (List.getD s x.fst Pl.dY).snd.fst.getD x_4.fst (0 : Int) = x_5.snd.snd ∧ True) ∧
 (Is (byts b) (byts x_5.fst) ∧ x_4.snd.snd.snd = x_5.snd.fst ∧ True) ∧ True) ∧
 ∀ (y : Pl.Rt × Int),
 x_5.snd.fst ≤ y.snd ∧ y.snd ≤ x_5.snd.fst + (2 : Int) →
 (0 : Nat) + x_4.snd.fst.length ≤ x_4.snd.fst.length ∧
 (x_4.snd.fst.length + (1 : Nat)) * (16 : Nat) ≤ (70368744177664 : Nat) ∧
 Exists fun (x' : Nat × List Pl.Rt × Pl.Rt × Int) =>
 (x'.fst ≤ (List.getD s x.fst Pl.dY).snd.fst.length ∧
 x'.snd.fst.length = x'.fst ∧
 p ≤ x'.snd.snd.snd ∧
 x'.snd.snd.snd ≤
 p + (100 : Int) * (↑x.fst : Int) + (3 : Int) + (30 : Int) * ((3 : Int) - x_2.fst) +
 (2 : Int) * (↑x'.fst : Int)) ∧
 (List.getD s x.fst Pl.dY).snd.fst.length - x'.fst < (List.getD s x.fst Pl.dY).snd.fst.length - x_4.fst ∧
 ((0 : Nat) = (0 : Nat) ∧
 (0 : Nat) = (0 : Nat) ∧
 (0 : Nat) = (0 : Nat) ∧
 ((0 : Nat) = (0 : Nat) ∧ List.length x_2.snd.fst = List.length x_2.snd.fst) ∧
 (↑x.fst : Int) = (↑x.fst : Int) ∧
 x_2.fst = x_2.fst ∧
 (0 : Nat) = (0 : Nat) ∧
 IntKind.i64.wrap ((↑x_4.fst : Int) + (1 : Int)) = (↑x'.fst : Int) ∧ True) ∧
 (Is (byts x_5.fst) (byts b) ∧ y.snd = x'.snd.snd.snd ∧ True) ∧
 (Is (syms s) (syms s) ∧ True) ∧
 (Is (AV.lit (0 : Nat) (1 : Nat) fun (x x_6 : Nat) => AV.any) nilA ∧ True) ∧
 IsO (xrR x_2.snd.fst) (xrR x_2.snd.fst) ∧
 ((List.getD s x.fst Pl.dY).fst = (List.getD s x.fst Pl.dY).fst ∧
 ((0 : Nat) = (0 : Nat) ∧ x_4.snd.fst.length + (1 : Nat) = x'.snd.fst.length) ∧
 x_4.snd.snd.fst.fst = x'.snd.snd.fst.fst ∧
 x_4.snd.snd.fst.snd = x'.snd.snd.fst.snd ∧ True) ∧
 IsO
 (AObj.arr (x_4.snd.fst.length + (1 : Nat)) (2 : Nat)
 (joinC x_4.snd.fst.length (cQ x_4.snd.fst)
 (rowsCell [[i64 y.fst.fst, i64 y.fst.snd]])))
 (arQ x'.snd.fst) ∧
 True)
 (Exists fun (x_5 : List Pl.Rw × Pl.Rw) =>
 (x_5.fst.length ≤ (1000 : Nat) ∧
 (∀ (y : Pl.Rw), y ∈ x_5.fst → y.snd.fst.length ≤ (1000 : Nat)) ∧ x_5.snd.snd.fst.length ≤ (1000 : Nat)) ∧
 ((((0 : Nat) = (0 : Nat) ∧ List.length x_2.snd.fst = x_5.fst.length) ∧
 ((List.getD s x.fst Pl.dY).fst = x_5.snd.fst ∧
 ((0 : Nat) = (0 : Nat) ∧ x_4.snd.fst.length = x_5.snd.snd.fst.length) ∧
 x_4.snd.snd.fst.fst = x_5.snd.snd.snd.fst ∧ x_4.snd.snd.fst.snd = x_5.snd.snd.snd.snd ∧ True) ∧
 True) ∧
 IsO (xrR x_2.snd.fst) (xrR x_5.fst) ∧ IsO (arQ x_4.snd.fst) (arQ x_5.snd.snd.fst) ∧ True) ∧
 ∀ (y : List Nat),
 HPut x_5.fst.length y →
 Exists fun (x' : Int × Pl.Mdl × Int) =>
 ((0 : Int) ≤ x'.fst ∧
 x'.fst ≤ (3 : Int) ∧
 Pl.MdB ((3 : Nat) * x.fst + (3 : Nat) - x'.fst.toNat) (2 : Nat) x'.snd.fst ∧
 p ≤ x'.snd.snd ∧ x'.snd.snd ≤ p + (100 : Int) * (↑x.fst : Int) + (1 : Int) + (30 : Int) * ((3 : Int) - x'.fst)) ∧
 x'.fst.toNat < x_2.fst.toNat ∧
 ((0 : Nat) = (0 : Nat) ∧
 (0 : Nat) = (0 : Nat) ∧
 (0 : Nat) = (0 : Nat) ∧
 ((0 : Nat) = (0 : Nat) ∧ y.length = List.length x'.snd.fst) ∧
 (↑x.fst : Int) = (↑x.fst : Int) ∧ IntKind.i64.wrap (x_2.fst - (1 : Int)) = x'.fst ∧ True) ∧
 (Is (byts b) (byts b) ∧ x_4.snd.snd.snd = x'.snd.snd ∧ True) ∧
 (Is (syms s) (syms s) ∧ True) ∧
 (Is (AV.lit (0 : Nat) (1 : Nat) fun (x x_6 : Nat) => AV.any) nilA ∧ True) ∧
 IsO (xrR (List.map (fun (i : Nat) => (x_5.fst ++ [x_5.snd]).getD i Pl.dR) y)) (xrR x'.snd.fst) ∧
 True)) ∧
 (((0 : Int) ≤ (↑x.fst : Int) ∧ (↑x.fst : Int) < (↑(List.length s) : Int)) ∧
 x.fst < List.length s ∧
 ((0 : Int) ≤ (↑x.fst : Int) ∧ (↑x.fst : Int) < (↑(List.length s) : Int)) ∧
 x.fst < List.length s ∧
 Exists fun (x_3 : List Int × Int × Int) =>
 Rd (549755813888 : Int) x_3.fst x_3.snd.fst ∧
 (((0 : Nat) = (0 : Nat) ∧ (List.getD s x.fst Pl.dY).snd.snd = x_3.snd.snd ∧ True) ∧
 (Is (byts b) (byts x_3.fst) ∧ x_2.snd.snd = x_3.snd.fst ∧ True) ∧ True) ∧
 ∀ (y : Pl.Rt × Int),
 x_3.snd.fst ≤ y.snd ∧ y.snd ≤ x_3.snd.fst + (2 : Int) →
 (Exists fun (x_4 : Nat × List Pl.Rt × Pl.Rt × Int) =>
 (x_4.fst ≤ (List.getD s x.fst Pl.dY).snd.fst.length ∧
 x_4.snd.fst.length = x_4.fst ∧
 p ≤ x_4.snd.snd.snd ∧
 x_4.snd.snd.snd ≤ p + (100 : Int) * (↑x.fst : Int) + (3 : Int) + (30 : Int) * ((3 : Int) - x_2.fst) + (2 : Int) * (↑x_4.fst : Int)) ∧
 ((0 : Nat) = (0 : Nat) ∧
 (0 : Nat) = (0 : Nat) ∧
 (0 : Nat) = (0 : Nat) ∧
 ((0 : Nat) = (0 : Nat) ∧ List.length x_2.snd.fst = List.length x_2.snd.fst) ∧
 (↑x.fst : Int) = (↑x.fst : Int) ∧ x_2.fst = x_2.fst ∧ (0 : Nat) = (0 : Nat) ∧ (0 : Int) = (↑x_4.fst : Int) ∧ True) ∧
 (Is (byts x_3.fst) (byts b) ∧ y.snd = x_4.snd.snd.snd ∧ True) ∧
 (Is (syms s) (syms s) ∧ True) ∧
 (Is (AV.lit (0 : Nat) (1 : Nat) fun (x x_5 : Nat) => AV.any) nilA ∧ True) ∧
 IsO (xrR x_2.snd.fst) (xrR x_2.snd.fst) ∧
 ((List.getD s x.fst Pl.dY).fst = (List.getD s x.fst Pl.dY).fst ∧
 ((0 : Nat) = (0 : Nat) ∧ (0 : Nat) = (0 : Nat) ∧ x_4.snd.fst.length = (0 : Nat)) ∧
 y.fst.fst = x_4.snd.snd.fst.fst ∧ y.fst.snd = x_4.snd.snd.fst.snd ∧ True) ∧
 x_4.snd.fst.length = (0 : Nat) ∧ True) ∧
 ∀ (x_4 : Nat × List Pl.Rt × Pl.Rt × Int),
 x_4.fst ≤ (List.getD s x.fst Pl.dY).snd.fst.length ∧
 x_4.snd.fst.length = x_4.fst ∧
 p ≤ x_4.snd.snd.snd ∧
 x_4.snd.snd.snd ≤ p + (100 : Int) * (↑x.fst : Int) + (3 : Int) + (30 : Int) * ((3 : Int) - x_2.fst) + (2 : Int) * (↑x_4.fst : Int) →
 ((0 : Int) ≤ (↑x.fst : Int) ∧ (↑x.fst : Int) < (↑(List.length s) : Int)) ∧
 x.fst < List.length s ∧
 condP (Decidable.decide ((↑x_4.fst : Int) < (↑(List.getD s x.fst Pl.dY).snd.fst.length : Int)))
 ((((0 : Int) ≤ (↑x.fst : Int) ∧ (↑x.fst : Int) < (↑(List.length s) : Int)) ∧
 x.fst < List.length s ∧
 ((0 : Int) ≤ (↑x_4.fst : Int) ∧ (↑x_4.fst : Int) < (↑(List.getD s x.fst Pl.dY).snd.fst.length : Int)) ∧
 x_4.fst < (List.getD s x.fst Pl.dY).snd.fst.length ∧
 Exists fun (x_5 : List Int × Int × Int) =>
 Rd (549755813888 : Int) x_5.fst x_5.snd.fst ∧
 (((0 : Nat) = (0 : Nat) ∧ (List.getD s x.fst Pl.dY).snd.fst.getD x_4.fst (0 : Int) = x_5.snd.snd ∧ True) ∧
 (Is (byts b) (byts x_5.fst) ∧ x_4.snd.snd.snd = x_5.snd.fst ∧ True) ∧ True) ∧
 ∀ (y : Pl.Rt × Int),
 x_5.snd.fst ≤ y.snd ∧ y.snd ≤ x_5.snd.fst + (2 : Int) →
 (0 : Nat) + x_4.snd.fst.length ≤ x_4.snd.fst.length ∧
 (x_4.snd.fst.length + (1 : Nat)) * (16 : Nat) ≤ (70368744177664 : Nat) ∧
 Exists fun (x' : Nat × List Pl.Rt × Pl.Rt × Int) =>
 (x'.fst ≤ (List.getD s x.fst Pl.dY).snd.fst.length ∧
 x'.snd.fst.length = x'.fst ∧
 p ≤ x'.snd.snd.snd ∧
 x'.snd.snd.snd ≤
 p + (100 : Int) * (↑x.fst : Int) + (3 : Int) + (30 : Int) * ((3 : Int) - x_2.fst) +
 (2 : Int) * (↑x'.fst : Int)) ∧
 (List.getD s x.fst Pl.dY).snd.fst.length - x'.fst < (List.getD s x.fst Pl.dY).snd.fst.length - x_4.fst ∧
 ((0 : Nat) = (0 : Nat) ∧
 (0 : Nat) = (0 : Nat) ∧
 (0 : Nat) = (0 : Nat) ∧
 ((0 : Nat) = (0 : Nat) ∧ List.length x_2.snd.fst = List.length x_2.snd.fst) ∧
 (↑x.fst : Int) = (↑x.fst : Int) ∧
 x_2.fst = x_2.fst ∧
 (0 : Nat) = (0 : Nat) ∧
 IntKind.i64.wrap ((↑x_4.fst : Int) + (1 : Int)) = (↑x'.fst : Int) ∧ True) ∧
 (Is (byts x_5.fst) (byts b) ∧ y.snd = x'.snd.snd.snd ∧ True) ∧
 (Is (syms s) (syms s) ∧ True) ∧
 (Is (AV.lit (0 : Nat) (1 : Nat) fun (x x_6 : Nat) => AV.any) nilA ∧ True) ∧
 IsO (xrR x_2.snd.fst) (xrR x_2.snd.fst) ∧
 ((List.getD s x.fst Pl.dY).fst = (List.getD s x.fst Pl.dY).fst ∧
 ((0 : Nat) = (0 : Nat) ∧ x_4.snd.fst.length + (1 : Nat) = x'.snd.fst.length) ∧
 x_4.snd.snd.fst.fst = x'.snd.snd.fst.fst ∧
 x_4.snd.snd.fst.snd = x'.snd.snd.fst.snd ∧ True) ∧
 IsO
 (AObj.arr (x_4.snd.fst.length + (1 : Nat)) (2 : Nat)
 (joinC x_4.snd.fst.length (cQ x_4.snd.fst)
 (rowsCell [[i64 y.fst.fst, i64 y.fst.snd]])))
 (arQ x'.snd.fst) ∧
 True) ∧
 ((0 : Int) ≤ (↑x.fst : Int) ∧ (↑x.fst : Int) < (↑(List.length s) : Int)) ∧
 x.fst < List.length s ∧
 ((0 : Int) ≤ (↑x_4.fst : Int) ∧ (↑x_4.fst : Int) < (↑(List.getD s x.fst Pl.dY).snd.fst.length : Int)) ∧
 x_4.fst < (List.getD s x.fst Pl.dY).snd.fst.length ∧
 (Exists fun (x_5 : List Int × Int × Int) =>
 Rd (549755813888 : Int) x_5.fst x_5.snd.fst ∧
 (((0 : Nat) = (0 : Nat) ∧ (List.getD s x.fst Pl.dY).snd.fst.getD x_4.fst (0 : Int) = x_5.snd.snd ∧ True) ∧
 (Is (byts b) (byts x_5.fst) ∧ x_4.snd.snd.snd = x_5.snd.fst ∧ True) ∧ True) ∧
 ∀ (y : Pl.Rt × Int),
 x_5.snd.fst ≤ y.snd ∧ y.snd ≤ x_5.snd.fst + (2 : Int) →
 (0 : Nat) + x_4.snd.fst.length ≤ x_4.snd.fst.length ∧
 (x_4.snd.fst.length + (1 : Nat)) * (16 : Nat) ≤ (70368744177664 : Nat) ∧
 Exists fun (x' : Nat × List Pl.Rt × Pl.Rt × Int) =>
 (x'.fst ≤ (List.getD s x.fst Pl.dY).snd.fst.length ∧
 x'.snd.fst.length = x'.fst ∧
 p ≤ x'.snd.snd.snd ∧
 x'.snd.snd.snd ≤
 p + (100 : Int) * (↑x.fst : Int) + (3 : Int) + (30 : Int) * ((3 : Int) - x_2.fst) +
 (2 : Int) * (↑x'.fst : Int)) ∧
 (List.getD s x.fst Pl.dY).snd.fst.length - x'.fst < (List.getD s x.fst Pl.dY).snd.fst.length - x_4.fst ∧
 ((0 : Nat) = (0 : Nat) ∧
 (0 : Nat) = (0 : Nat) ∧
 (0 : Nat) = (0 : Nat) ∧
 ((0 : Nat) = (0 : Nat) ∧ List.length x_2.snd.fst = List.length x_2.snd.fst) ∧
 (↑x.fst : Int) = (↑x.fst : Int) ∧
 x_2.fst = x_2.fst ∧
 (0 : Nat) = (0 : Nat) ∧
 IntKind.i64.wrap ((↑x_4.fst : Int) + (1 : Int)) = (↑x'.fst : Int) ∧ True) ∧
 (Is (byts x_5.fst) (byts b) ∧ y.snd = x'.snd.snd.snd ∧ True) ∧
 (Is (syms s) (syms s) ∧ True) ∧
 (Is (AV.lit (0 : Nat) (1 : Nat) fun (x x_6 : Nat) => AV.any) nilA ∧ True) ∧
 IsO (xrR x_2.snd.fst) (xrR x_2.snd.fst) ∧
 ((List.getD s x.fst Pl.dY).fst = (List.getD s x.fst Pl.dY).fst ∧
 ((0 : Nat) = (0 : Nat) ∧ x_4.snd.fst.length + (1 : Nat) = x'.snd.fst.length) ∧
 x_4.snd.snd.fst.fst = x'.snd.snd.fst.fst ∧
 x_4.snd.snd.fst.snd = x'.snd.snd.fst.snd ∧ True) ∧
 IsO
 (AObj.arr (x_4.snd.fst.length + (1 : Nat)) (2 : Nat)
 (joinC x_4.snd.fst.length (cQ x_4.snd.fst)
 (rowsCell [[i64 y.fst.fst, i64 y.fst.snd]])))
 (arQ x'.snd.fst) ∧
 True) ∧
 Exists fun (x_5 : List Int × Int × Int) =>
 Rd (549755813888 : Int) x_5.fst x_5.snd.fst ∧
 (((0 : Nat) = (0 : Nat) ∧ (List.getD s x.fst Pl.dY).snd.fst.getD x_4.fst (0 : Int) = x_5.snd.snd ∧ True) ∧
 (Is (byts b) (byts x_5.fst) ∧ x_4.snd.snd.snd = x_5.snd.fst ∧ True) ∧ True) ∧
 ∀ (y : Pl.Rt × Int),
 x_5.snd.fst ≤ y.snd ∧ y.snd ≤ x_5.snd.fst + (2 : Int) →
 (0 : Nat) + x_4.snd.fst.length ≤ x_4.snd.fst.length ∧
 (x_4.snd.fst.length + (1 : Nat)) * (16 : Nat) ≤ (70368744177664 : Nat) ∧
 Exists fun (x' : Nat × List Pl.Rt × Pl.Rt × Int) =>
 (x'.fst ≤ (List.getD s x.fst Pl.dY).snd.fst.length ∧
 x'.snd.fst.length = x'.fst ∧
 p ≤ x'.snd.snd.snd ∧
 x'.snd.snd.snd ≤
 p + (100 : Int) * (↑x.fst : Int) + (3 : Int) + (30 : Int) * ((3 : Int) - x_2.fst) +
 (2 : Int) * (↑x'.fst : Int)) ∧
 (List.getD s x.fst Pl.dY).snd.fst.length - x'.fst < (List.getD s x.fst Pl.dY).snd.fst.length - x_4.fst ∧
 ((0 : Nat) = (0 : Nat) ∧
 (0 : Nat) = (0 : Nat) ∧
 (0 : Nat) = (0 : Nat) ∧
 ((0 : Nat) = (0 : Nat) ∧ List.length x_2.snd.fst = List.length x_2.snd.fst) ∧
 (↑x.fst : Int) = (↑x.fst : Int) ∧
 x_2.fst = x_2.fst ∧
 (0 : Nat) = (0 : Nat) ∧
 IntKind.i64.wrap ((↑x_4.fst : Int) + (1 : Int)) = (↑x'.fst : Int) ∧ True) ∧
 (Is (byts x_5.fst) (byts b) ∧ y.snd = x'.snd.snd.snd ∧ True) ∧
 (Is (syms s) (syms s) ∧ True) ∧
 (Is (AV.lit (0 : Nat) (1 : Nat) fun (x x_6 : Nat) => AV.any) nilA ∧ True) ∧
 IsO (xrR x_2.snd.fst) (xrR x_2.snd.fst) ∧
 ((List.getD s x.fst Pl.dY).fst = (List.getD s x.fst Pl.dY).fst ∧
 ((0 : Nat) = (0 : Nat) ∧ x_4.snd.fst.length + (1 : Nat) = x'.snd.fst.length) ∧
 x_4.snd.snd.fst.fst = x'.snd.snd.fst.fst ∧
 x_4.snd.snd.fst.snd = x'.snd.snd.fst.snd ∧ True) ∧
 IsO
 (AObj.arr (x_4.snd.fst.length + (1 : Nat)) (2 : Nat)
 (joinC x_4.snd.fst.length (cQ x_4.snd.fst)
 (rowsCell [[i64 y.fst.fst, i64 y.fst.snd]])))
 (arQ x'.snd.fst) ∧
 True)
 (Exists fun (x_5 : List Pl.Rw × Pl.Rw) =>
 (x_5.fst.length ≤ (1000 : Nat) ∧
 (∀ (y : Pl.Rw), y ∈ x_5.fst → y.snd.fst.length ≤ (1000 : Nat)) ∧ x_5.snd.snd.fst.length ≤ (1000 : Nat)) ∧
 ((((0 : Nat) = (0 : Nat) ∧ List.length x_2.snd.fst = x_5.fst.length) ∧
 ((List.getD s x.fst Pl.dY).fst = x_5.snd.fst ∧
 ((0 : Nat) = (0 : Nat) ∧ x_4.snd.fst.length = x_5.snd.snd.fst.length) ∧
 x_4.snd.snd.fst.fst = x_5.snd.snd.snd.fst ∧ x_4.snd.snd.fst.snd = x_5.snd.snd.snd.snd ∧ True) ∧
 True) ∧
 IsO (xrR x_2.snd.fst) (xrR x_5.fst) ∧ IsO (arQ x_4.snd.fst) (arQ x_5.snd.snd.fst) ∧ True) ∧
 ∀ (y : List Nat),
 HPut x_5.fst.length y →
 Exists fun (x' : Int × Pl.Mdl × Int) =>
 ((0 : Int) ≤ x'.fst ∧
 x'.fst ≤ (3 : Int) ∧
 Pl.MdB ((3 : Nat) * x.fst + (3 : Nat) - x'.fst.toNat) (2 : Nat) x'.snd.fst ∧
 p ≤ x'.snd.snd ∧ x'.snd.snd ≤ p + (100 : Int) * (↑x.fst : Int) + (1 : Int) + (30 : Int) * ((3 : Int) - x'.fst)) ∧
 x'.fst.toNat < x_2.fst.toNat ∧
 ((0 : Nat) = (0 : Nat) ∧
 (0 : Nat) = (0 : Nat) ∧
 (0 : Nat) = (0 : Nat) ∧
 ((0 : Nat) = (0 : Nat) ∧ y.length = List.length x'.snd.fst) ∧
 (↑x.fst : Int) = (↑x.fst : Int) ∧ IntKind.i64.wrap (x_2.fst - (1 : Int)) = x'.fst ∧ True) ∧
 (Is (byts b) (byts b) ∧ x_4.snd.snd.snd = x'.snd.snd ∧ True) ∧
 (Is (syms s) (syms s) ∧ True) ∧
 (Is (AV.lit (0 : Nat) (1 : Nat) fun (x x_6 : Nat) => AV.any) nilA ∧ True) ∧
 IsO (xrR (List.map (fun (i : Nat) => (x_5.fst ++ [x_5.snd]).getD i Pl.dR) y)) (xrR x'.snd.fst) ∧ True)) ∧
 ((0 : Int) ≤ (↑x.fst : Int) ∧ (↑x.fst : Int) < (↑(List.length s) : Int)) ∧
 x.fst < List.length s ∧
 (((0 : Int) ≤ (↑x.fst : Int) ∧ (↑x.fst : Int) < (↑(List.length s) : Int)) ∧
 x.fst < List.length s ∧
 Exists fun (x_3 : List Int × Int × Int) =>
 Rd (549755813888 : Int) x_3.fst x_3.snd.fst ∧
 (((0 : Nat) = (0 : Nat) ∧ (List.getD s x.fst Pl.dY).snd.snd = x_3.snd.snd ∧ True) ∧
 (Is (byts b) (byts x_3.fst) ∧ x_2.snd.snd = x_3.snd.fst ∧ True) ∧ True) ∧
 ∀ (y : Pl.Rt × Int),
 x_3.snd.fst ≤ y.snd ∧ y.snd ≤ x_3.snd.fst + (2 : Int) →
 (Exists fun (x_4 : Nat × List Pl.Rt × Pl.Rt × Int) =>
 (x_4.fst ≤ (List.getD s x.fst Pl.dY).snd.fst.length ∧
 x_4.snd.fst.length = x_4.fst ∧
 p ≤ x_4.snd.snd.snd ∧
 x_4.snd.snd.snd ≤ p + (100 : Int) * (↑x.fst : Int) + (3 : Int) + (30 : Int) * ((3 : Int) - x_2.fst) + (2 : Int) * (↑x_4.fst : Int)) ∧
 ((0 : Nat) = (0 : Nat) ∧
 (0 : Nat) = (0 : Nat) ∧
 (0 : Nat) = (0 : Nat) ∧
 ((0 : Nat) = (0 : Nat) ∧ List.length x_2.snd.fst = List.length x_2.snd.fst) ∧
 (↑x.fst : Int) = (↑x.fst : Int) ∧ x_2.fst = x_2.fst ∧ (0 : Nat) = (0 : Nat) ∧ (0 : Int) = (↑x_4.fst : Int) ∧ True) ∧
 (Is (byts x_3.fst) (byts b) ∧ y.snd = x_4.snd.snd.snd ∧ True) ∧
 (Is (syms s) (syms s) ∧ True) ∧
 (Is (AV.lit (0 : Nat) (1 : Nat) fun (x x_5 : Nat) => AV.any) nilA ∧ True) ∧
 IsO (xrR x_2.snd.fst) (xrR x_2.snd.fst) ∧
 ((List.getD s x.fst Pl.dY).fst = (List.getD s x.fst Pl.dY).fst ∧
 ((0 : Nat) = (0 : Nat) ∧ (0 : Nat) = (0 : Nat) ∧ x_4.snd.fst.length = (0 : Nat)) ∧
 y.fst.fst = x_4.snd.snd.fst.fst ∧ y.fst.snd = x_4.snd.snd.fst.snd ∧ True) ∧
 x_4.snd.fst.length = (0 : Nat) ∧ True) ∧
 ∀ (x_4 : Nat × List Pl.Rt × Pl.Rt × Int),
 x_4.fst ≤ (List.getD s x.fst Pl.dY).snd.fst.length ∧
 x_4.snd.fst.length = x_4.fst ∧
 p ≤ x_4.snd.snd.snd ∧
 x_4.snd.snd.snd ≤ p + (100 : Int) * (↑x.fst : Int) + (3 : Int) + (30 : Int) * ((3 : Int) - x_2.fst) + (2 : Int) * (↑x_4.fst : Int) →
 ((0 : Int) ≤ (↑x.fst : Int) ∧ (↑x.fst : Int) < (↑(List.length s) : Int)) ∧
 x.fst < List.length s ∧
 condP (Decidable.decide ((↑x_4.fst : Int) < (↑(List.getD s x.fst Pl.dY).snd.fst.length : Int)))
 ((((0 : Int) ≤ (↑x.fst : Int) ∧ (↑x.fst : Int) < (↑(List.length s) : Int)) ∧
 x.fst < List.length s ∧
 ((0 : Int) ≤ (↑x_4.fst : Int) ∧ (↑x_4.fst : Int) < (↑(List.getD s x.fst Pl.dY).snd.fst.length : Int)) ∧
 x_4.fst < (List.getD s x.fst Pl.dY).snd.fst.length ∧
 Exists fun (x_5 : List Int × Int × Int) =>
 Rd (549755813888 : Int) x_5.fst x_5.snd.fst ∧
 (((0 : Nat) = (0 : Nat) ∧ (List.getD s x.fst Pl.dY).snd.fst.getD x_4.fst (0 : Int) = x_5.snd.snd ∧ True) ∧
 (Is (byts b) (byts x_5.fst) ∧ x_4.snd.snd.snd = x_5.snd.fst ∧ True) ∧ True) ∧
 ∀ (y : Pl.Rt × Int),
 x_5.snd.fst ≤ y.snd ∧ y.snd ≤ x_5.snd.fst + (2 : Int) →
 (0 : Nat) + x_4.snd.fst.length ≤ x_4.snd.fst.length ∧
 (x_4.snd.fst.length + (1 : Nat)) * (16 : Nat) ≤ (70368744177664 : Nat) ∧
 Exists fun (x' : Nat × List Pl.Rt × Pl.Rt × Int) =>
 (x'.fst ≤ (List.getD s x.fst Pl.dY).snd.fst.length ∧
 x'.snd.fst.length = x'.fst ∧
 p ≤ x'.snd.snd.snd ∧
 x'.snd.snd.snd ≤
 p + (100 : Int) * (↑x.fst : Int) + (3 : Int) + (30 : Int) * ((3 : Int) - x_2.fst) +
 (2 : Int) * (↑x'.fst : Int)) ∧
 (List.getD s x.fst Pl.dY).snd.fst.length - x'.fst < (List.getD s x.fst Pl.dY).snd.fst.length - x_4.fst ∧
 ((0 : Nat) = (0 : Nat) ∧
 (0 : Nat) = (0 : Nat) ∧
 (0 : Nat) = (0 : Nat) ∧
 ((0 : Nat) = (0 : Nat) ∧ List.length x_2.snd.fst = List.length x_2.snd.fst) ∧
 (↑x.fst : Int) = (↑x.fst : Int) ∧
 x_2.fst = x_2.fst ∧
 (0 : Nat) = (0 : Nat) ∧
 IntKind.i64.wrap ((↑x_4.fst : Int) + (1 : Int)) = (↑x'.fst : Int) ∧ True) ∧
 (Is (byts x_5.fst) (byts b) ∧ y.snd = x'.snd.snd.snd ∧ True) ∧
 (Is (syms s) (syms s) ∧ True) ∧
 (Is (AV.lit (0 : Nat) (1 : Nat) fun (x x_6 : Nat) => AV.any) nilA ∧ True) ∧
 IsO (xrR x_2.snd.fst) (xrR x_2.snd.fst) ∧
 ((List.getD s x.fst Pl.dY).fst = (List.getD s x.fst Pl.dY).fst ∧
 ((0 : Nat) = (0 : Nat) ∧ x_4.snd.fst.length + (1 : Nat) = x'.snd.fst.length) ∧
 x_4.snd.snd.fst.fst = x'.snd.snd.fst.fst ∧
 x_4.snd.snd.fst.snd = x'.snd.snd.fst.snd ∧ True) ∧
 IsO
 (AObj.arr (x_4.snd.fst.length + (1 : Nat)) (2 : Nat)
 (joinC x_4.snd.fst.length (cQ x_4.snd.fst)
 (rowsCell [[i64 y.fst.fst, i64 y.fst.snd]])))
 (arQ x'.snd.fst) ∧
 True) ∧
 ((0 : Int) ≤ (↑x.fst : Int) ∧ (↑x.fst : Int) < (↑(List.length s) : Int)) ∧
 x.fst < List.length s ∧
 ((0 : Int) ≤ (↑x_4.fst : Int) ∧ (↑x_4.fst : Int) < (↑(List.getD s x.fst Pl.dY).snd.fst.length : Int)) ∧
 x_4.fst < (List.getD s x.fst Pl.dY).snd.fst.length ∧
 (Exists fun (x_5 : List Int × Int × Int) =>
 Rd (549755813888 : Int) x_5.fst x_5.snd.fst ∧
 (((0 : Nat) = (0 : Nat) ∧ (List.getD s x.fst Pl.dY).snd.fst.getD x_4.fst (0 : Int) = x_5.snd.snd ∧ True) ∧
 (Is (byts b) (byts x_5.fst) ∧ x_4.snd.snd.snd = x_5.snd.fst ∧ True) ∧ True) ∧
 ∀ (y : Pl.Rt × Int),
 x_5.snd.fst ≤ y.snd ∧ y.snd ≤ x_5.snd.fst + (2 : Int) →
 (0 : Nat) + x_4.snd.fst.length ≤ x_4.snd.fst.length ∧
 (x_4.snd.fst.length + (1 : Nat)) * (16 : Nat) ≤ (70368744177664 : Nat) ∧
 Exists fun (x' : Nat × List Pl.Rt × Pl.Rt × Int) =>
 (x'.fst ≤ (List.getD s x.fst Pl.dY).snd.fst.length ∧
 x'.snd.fst.length = x'.fst ∧
 p ≤ x'.snd.snd.snd ∧
 x'.snd.snd.snd ≤
 p + (100 : Int) * (↑x.fst : Int) + (3 : Int) + (30 : Int) * ((3 : Int) - x_2.fst) +
 (2 : Int) * (↑x'.fst : Int)) ∧
 (List.getD s x.fst Pl.dY).snd.fst.length - x'.fst < (List.getD s x.fst Pl.dY).snd.fst.length - x_4.fst ∧
 ((0 : Nat) = (0 : Nat) ∧
 (0 : Nat) = (0 : Nat) ∧
 (0 : Nat) = (0 : Nat) ∧
 ((0 : Nat) = (0 : Nat) ∧ List.length x_2.snd.fst = List.length x_2.snd.fst) ∧
 (↑x.fst : Int) = (↑x.fst : Int) ∧
 x_2.fst = x_2.fst ∧
 (0 : Nat) = (0 : Nat) ∧
 IntKind.i64.wrap ((↑x_4.fst : Int) + (1 : Int)) = (↑x'.fst : Int) ∧ True) ∧
 (Is (byts x_5.fst) (byts b) ∧ y.snd = x'.snd.snd.snd ∧ True) ∧
 (Is (syms s) (syms s) ∧ True) ∧
 (Is (AV.lit (0 : Nat) (1 : Nat) fun (x x_6 : Nat) => AV.any) nilA ∧ True) ∧
 IsO (xrR x_2.snd.fst) (xrR x_2.snd.fst) ∧
 ((List.getD s x.fst Pl.dY).fst = (List.getD s x.fst Pl.dY).fst ∧
 ((0 : Nat) = (0 : Nat) ∧ x_4.snd.fst.length + (1 : Nat) = x'.snd.fst.length) ∧
 x_4.snd.snd.fst.fst = x'.snd.snd.fst.fst ∧
 x_4.snd.snd.fst.snd = x'.snd.snd.fst.snd ∧ True) ∧
 IsO
 (AObj.arr (x_4.snd.fst.length + (1 : Nat)) (2 : Nat)
 (joinC x_4.snd.fst.length (cQ x_4.snd.fst)
 (rowsCell [[i64 y.fst.fst, i64 y.fst.snd]])))
 (arQ x'.snd.fst) ∧
 True) ∧
 Exists fun (x_5 : List Int × Int × Int) =>
 Rd (549755813888 : Int) x_5.fst x_5.snd.fst ∧
 (((0 : Nat) = (0 : Nat) ∧ (List.getD s x.fst Pl.dY).snd.fst.getD x_4.fst (0 : Int) = x_5.snd.snd ∧ True) ∧
 (Is (byts b) (byts x_5.fst) ∧ x_4.snd.snd.snd = x_5.snd.fst ∧ True) ∧ True) ∧
 ∀ (y : Pl.Rt × Int),
 x_5.snd.fst ≤ y.snd ∧ y.snd ≤ x_5.snd.fst + (2 : Int) →
 (0 : Nat) + x_4.snd.fst.length ≤ x_4.snd.fst.length ∧
 (x_4.snd.fst.length + (1 : Nat)) * (16 : Nat) ≤ (70368744177664 : Nat) ∧
 Exists fun (x' : Nat × List Pl.Rt × Pl.Rt × Int) =>
 (x'.fst ≤ (List.getD s x.fst Pl.dY).snd.fst.length ∧
 x'.snd.fst.length = x'.fst ∧
 p ≤ x'.snd.snd.snd ∧
 x'.snd.snd.snd ≤
 p + (100 : Int) * (↑x.fst : Int) + (3 : Int) + (30 : Int) * ((3 : Int) - x_2.fst) +
 (2 : Int) * (↑x'.fst : Int)) ∧
 (List.getD s x.fst Pl.dY).snd.fst.length - x'.fst < (List.getD s x.fst Pl.dY).snd.fst.length - x_4.fst ∧
 ((0 : Nat) = (0 : Nat) ∧
 (0 : Nat) = (0 : Nat) ∧
 (0 : Nat) = (0 : Nat) ∧
 ((0 : Nat) = (0 : Nat) ∧ List.length x_2.snd.fst = List.length x_2.snd.fst) ∧
 (↑x.fst : Int) = (↑x.fst : Int) ∧
 x_2.fst = x_2.fst ∧
 (0 : Nat) = (0 : Nat) ∧
 IntKind.i64.wrap ((↑x_4.fst : Int) + (1 : Int)) = (↑x'.fst : Int) ∧ True) ∧
 (Is (byts x_5.fst) (byts b) ∧ y.snd = x'.snd.snd.snd ∧ True) ∧
 (Is (syms s) (syms s) ∧ True) ∧
 (Is (AV.lit (0 : Nat) (1 : Nat) fun (x x_6 : Nat) => AV.any) nilA ∧ True) ∧
 IsO (xrR x_2.snd.fst) (xrR x_2.snd.fst) ∧
 ((List.getD s x.fst Pl.dY).fst = (List.getD s x.fst Pl.dY).fst ∧
 ((0 : Nat) = (0 : Nat) ∧ x_4.snd.fst.length + (1 : Nat) = x'.snd.fst.length) ∧
 x_4.snd.snd.fst.fst = x'.snd.snd.fst.fst ∧
 x_4.snd.snd.fst.snd = x'.snd.snd.fst.snd ∧ True) ∧
 IsO
 (AObj.arr (x_4.snd.fst.length + (1 : Nat)) (2 : Nat)
 (joinC x_4.snd.fst.length (cQ x_4.snd.fst)
 (rowsCell [[i64 y.fst.fst, i64 y.fst.snd]])))
 (arQ x'.snd.fst) ∧
 True)
 (Exists fun (x_5 : List Pl.Rw × Pl.Rw) =>
 (x_5.fst.length ≤ (1000 : Nat) ∧
 (∀ (y : Pl.Rw), y ∈ x_5.fst → y.snd.fst.length ≤ (1000 : Nat)) ∧ x_5.snd.snd.fst.length ≤ (1000 : Nat)) ∧
 ((((0 : Nat) = (0 : Nat) ∧ List.length x_2.snd.fst = x_5.fst.length) ∧
 ((List.getD s x.fst Pl.dY).fst = x_5.snd.fst ∧
 ((0 : Nat) = (0 : Nat) ∧ x_4.snd.fst.length = x_5.snd.snd.fst.length) ∧
 x_4.snd.snd.fst.fst = x_5.snd.snd.snd.fst ∧ x_4.snd.snd.fst.snd = x_5.snd.snd.snd.snd ∧ True) ∧
 True) ∧
 IsO (xrR x_2.snd.fst) (xrR x_5.fst) ∧ IsO (arQ x_4.snd.fst) (arQ x_5.snd.snd.fst) ∧ True) ∧
 ∀ (y : List Nat),
 HPut x_5.fst.length y →
 Exists fun (x' : Int × Pl.Mdl × Int) =>
 ((0 : Int) ≤ x'.fst ∧
 x'.fst ≤ (3 : Int) ∧
 Pl.MdB ((3 : Nat) * x.fst + (3 : Nat) - x'.fst.toNat) (2 : Nat) x'.snd.fst ∧
 p ≤ x'.snd.snd ∧ x'.snd.snd ≤ p + (100 : Int) * (↑x.fst : Int) + (1 : Int) + (30 : Int) * ((3 : Int) - x'.fst)) ∧
 x'.fst.toNat < x_2.fst.toNat ∧
 ((0 : Nat) = (0 : Nat) ∧
 (0 : Nat) = (0 : Nat) ∧
 (0 : Nat) = (0 : Nat) ∧
 ((0 : Nat) = (0 : Nat) ∧ y.length = List.length x'.snd.fst) ∧
 (↑x.fst : Int) = (↑x.fst : Int) ∧ IntKind.i64.wrap (x_2.fst - (1 : Int)) = x'.fst ∧ True) ∧
 (Is (byts b) (byts b) ∧ x_4.snd.snd.snd = x'.snd.snd ∧ True) ∧
 (Is (syms s) (syms s) ∧ True) ∧
 (Is (AV.lit (0 : Nat) (1 : Nat) fun (x x_6 : Nat) => AV.any) nilA ∧ True) ∧
 IsO (xrR (List.map (fun (i : Nat) => (x_5.fst ++ [x_5.snd]).getD i Pl.dR) y)) (xrR x'.snd.fst) ∧
 True)) ∧
 Exists fun (x_3 : List Int × Int × Int) =>
 Rd (549755813888 : Int) x_3.fst x_3.snd.fst ∧
 (((0 : Nat) = (0 : Nat) ∧ (List.getD s x.fst Pl.dY).snd.snd = x_3.snd.snd ∧ True) ∧
 (Is (byts b) (byts x_3.fst) ∧ x_2.snd.snd = x_3.snd.fst ∧ True) ∧ True) ∧
 ∀ (y : Pl.Rt × Int),
 x_3.snd.fst ≤ y.snd ∧ y.snd ≤ x_3.snd.fst + (2 : Int) →
 ((0 : Int) ≤ (↑x.fst : Int) ∧ (↑x.fst : Int) < (↑(List.length s) : Int)) ∧
 x.fst < List.length s ∧
 (Exists fun (x_4 : Nat × List Pl.Rt × Pl.Rt × Int) =>
 (x_4.fst ≤ (List.getD s x.fst Pl.dY).snd.fst.length ∧
 x_4.snd.fst.length = x_4.fst ∧
 p ≤ x_4.snd.snd.snd ∧
 x_4.snd.snd.snd ≤ p + (100 : Int) * (↑x.fst : Int) + (3 : Int) + (30 : Int) * ((3 : Int) - x_2.fst) + (2 : Int) * (↑x_4.fst : Int)) ∧
 ((0 : Nat) = (0 : Nat) ∧
 (0 : Nat) = (0 : Nat) ∧
 (0 : Nat) = (0 : Nat) ∧
 ((0 : Nat) = (0 : Nat) ∧ List.length x_2.snd.fst = List.length x_2.snd.fst) ∧
 (↑x.fst : Int) = (↑x.fst : Int) ∧ x_2.fst = x_2.fst ∧ (0 : Nat) = (0 : Nat) ∧ (0 : Int) = (↑x_4.fst : Int) ∧ True) ∧
 (Is (byts x_3.fst) (byts b) ∧ y.snd = x_4.snd.snd.snd ∧ True) ∧
 (Is (syms s) (syms s) ∧ True) ∧
 (Is (AV.lit (0 : Nat) (1 : Nat) fun (x x_5 : Nat) => AV.any) nilA ∧ True) ∧
 IsO (xrR x_2.snd.fst) (xrR x_2.snd.fst) ∧
 ((List.getD s x.fst Pl.dY).fst = (List.getD s x.fst Pl.dY).fst ∧
 ((0 : Nat) = (0 : Nat) ∧ (0 : Nat) = (0 : Nat) ∧ x_4.snd.fst.length = (0 : Nat)) ∧
 y.fst.fst = x_4.snd.snd.fst.fst ∧ y.fst.snd = x_4.snd.snd.fst.snd ∧ True) ∧
 x_4.snd.fst.length = (0 : Nat) ∧ True) ∧
 ∀ (x_4 : Nat × List Pl.Rt × Pl.Rt × Int),
 x_4.fst ≤ (List.getD s x.fst Pl.dY).snd.fst.length ∧
 x_4.snd.fst.length = x_4.fst ∧
 p ≤ x_4.snd.snd.snd ∧
 x_4.snd.snd.snd ≤ p + (100 : Int) * (↑x.fst : Int) + (3 : Int) + (30 : Int) * ((3 : Int) - x_2.fst) + (2 : Int) * (↑x_4.fst : Int) →
 ((0 : Int) ≤ (↑x.fst : Int) ∧ (↑x.fst : Int) < (↑(List.length s) : Int)) ∧
 x.fst < List.length s ∧
 condP (Decidable.decide ((↑x_4.fst : Int) < (↑(List.getD s x.fst Pl.dY).snd.fst.length : Int)))
 ((((0 : Int) ≤ (↑x.fst : Int) ∧ (↑x.fst : Int) < (↑(List.length s) : Int)) ∧
 x.fst < List.length s ∧
 ((0 : Int) ≤ (↑x_4.fst : Int) ∧ (↑x_4.fst : Int) < (↑(List.getD s x.fst Pl.dY).snd.fst.length : Int)) ∧
 x_4.fst < (List.getD s x.fst Pl.dY).snd.fst.length ∧
 Exists fun (x_5 : List Int × Int × Int) =>
 Rd (549755813888 : Int) x_5.fst x_5.snd.fst ∧
 (((0 : Nat) = (0 : Nat) ∧ (List.getD s x.fst Pl.dY).snd.fst.getD x_4.fst (0 : Int) = x_5.snd.snd ∧ True) ∧
 (Is (byts b) (byts x_5.fst) ∧ x_4.snd.snd.snd = x_5.snd.fst ∧ True) ∧ True) ∧
 ∀ (y : Pl.Rt × Int),
 x_5.snd.fst ≤ y.snd ∧ y.snd ≤ x_5.snd.fst + (2 : Int) →
 (0 : Nat) + x_4.snd.fst.length ≤ x_4.snd.fst.length ∧
 (x_4.snd.fst.length + (1 : Nat)) * (16 : Nat) ≤ (70368744177664 : Nat) ∧
 Exists fun (x' : Nat × List Pl.Rt × Pl.Rt × Int) =>
 (x'.fst ≤ (List.getD s x.fst Pl.dY).snd.fst.length ∧
 x'.snd.fst.length = x'.fst ∧
 p ≤ x'.snd.snd.snd ∧
 x'.snd.snd.snd ≤
 p + (100 : Int) * (↑x.fst : Int) + (3 : Int) + (30 : Int) * ((3 : Int) - x_2.fst) +
 (2 : Int) * (↑x'.fst : Int)) ∧
 (List.getD s x.fst Pl.dY).snd.fst.length - x'.fst < (List.getD s x.fst Pl.dY).snd.fst.length - x_4.fst ∧
 ((0 : Nat) = (0 : Nat) ∧
 (0 : Nat) = (0 : Nat) ∧
 (0 : Nat) = (0 : Nat) ∧
 ((0 : Nat) = (0 : Nat) ∧ List.length x_2.snd.fst = List.length x_2.snd.fst) ∧
 (↑x.fst : Int) = (↑x.fst : Int) ∧
 x_2.fst = x_2.fst ∧
 (0 : Nat) = (0 : Nat) ∧
 IntKind.i64.wrap ((↑x_4.fst : Int) + (1 : Int)) = (↑x'.fst : Int) ∧ True) ∧
 (Is (byts x_5.fst) (byts b) ∧ y.snd = x'.snd.snd.snd ∧ True) ∧
 (Is (syms s) (syms s) ∧ True) ∧
 (Is (AV.lit (0 : Nat) (1 : Nat) fun (x x_6 : Nat) => AV.any) nilA ∧ True) ∧
 IsO (xrR x_2.snd.fst) (xrR x_2.snd.fst) ∧
 ((List.getD s x.fst Pl.dY).fst = (List.getD s x.fst Pl.dY).fst ∧
 ((0 : Nat) = (0 : Nat) ∧ x_4.snd.fst.length + (1 : Nat) = x'.snd.fst.length) ∧
 x_4.snd.snd.fst.fst = x'.snd.snd.fst.fst ∧
 x_4.snd.snd.fst.snd = x'.snd.snd.fst.snd ∧ True) ∧
 IsO
 (AObj.arr (x_4.snd.fst.length + (1 : Nat)) (2 : Nat)
 (joinC x_4.snd.fst.length (cQ x_4.snd.fst)
 (rowsCell [[i64 y.fst.fst, i64 y.fst.snd]])))
 (arQ x'.snd.fst) ∧
 True) ∧
 ((0 : Int) ≤ (↑x.fst : Int) ∧ (↑x.fst : Int) < (↑(List.length s) : Int)) ∧
 x.fst < List.length s ∧
 ((0 : Int) ≤ (↑x_4.fst : Int) ∧ (↑x_4.fst : Int) < (↑(List.getD s x.fst Pl.dY).snd.fst.length : Int)) ∧
 x_4.fst < (List.getD s x.fst Pl.dY).snd.fst.length ∧
 (Exists fun (x_5 : List Int × Int × Int) =>
 Rd (549755813888 : Int) x_5.fst x_5.snd.fst ∧
 (((0 : Nat) = (0 : Nat) ∧ (List.getD s x.fst Pl.dY).snd.fst.getD x_4.fst (0 : Int) = x_5.snd.snd ∧ True) ∧
 (Is (byts b) (byts x_5.fst) ∧ x_4.snd.snd.snd = x_5.snd.fst ∧ True) ∧ True) ∧
 ∀ (y : Pl.Rt × Int),
 x_5.snd.fst ≤ y.snd ∧ y.snd ≤ x_5.snd.fst + (2 : Int) →
 (0 : Nat) + x_4.snd.fst.length ≤ x_4.snd.fst.length ∧
 (x_4.snd.fst.length + (1 : Nat)) * (16 : Nat) ≤ (70368744177664 : Nat) ∧
 Exists fun (x' : Nat × List Pl.Rt × Pl.Rt × Int) =>
 (x'.fst ≤ (List.getD s x.fst Pl.dY).snd.fst.length ∧
 x'.snd.fst.length = x'.fst ∧
 p ≤ x'.snd.snd.snd ∧
 x'.snd.snd.snd ≤
 p + (100 : Int) * (↑x.fst : Int) + (3 : Int) + (30 : Int) * ((3 : Int) - x_2.fst) +
 (2 : Int) * (↑x'.fst : Int)) ∧
 (List.getD s x.fst Pl.dY).snd.fst.length - x'.fst < (List.getD s x.fst Pl.dY).snd.fst.length - x_4.fst ∧
 ((0 : Nat) = (0 : Nat) ∧
 (0 : Nat) = (0 : Nat) ∧
 (0 : Nat) = (0 : Nat) ∧
 ((0 : Nat) = (0 : Nat) ∧ List.length x_2.snd.fst = List.length x_2.snd.fst) ∧
 (↑x.fst : Int) = (↑x.fst : Int) ∧
 x_2.fst = x_2.fst ∧
 (0 : Nat) = (0 : Nat) ∧
 IntKind.i64.wrap ((↑x_4.fst : Int) + (1 : Int)) = (↑x'.fst : Int) ∧ True) ∧
 (Is (byts x_5.fst) (byts b) ∧ y.snd = x'.snd.snd.snd ∧ True) ∧
 (Is (syms s) (syms s) ∧ True) ∧
 (Is (AV.lit (0 : Nat) (1 : Nat) fun (x x_6 : Nat) => AV.any) nilA ∧ True) ∧
 IsO (xrR x_2.snd.fst) (xrR x_2.snd.fst) ∧
 ((List.getD s x.fst Pl.dY).fst = (List.getD s x.fst Pl.dY).fst ∧
 ((0 : Nat) = (0 : Nat) ∧ x_4.snd.fst.length + (1 : Nat) = x'.snd.fst.length) ∧
 x_4.snd.snd.fst.fst = x'.snd.snd.fst.fst ∧
 x_4.snd.snd.fst.snd = x'.snd.snd.fst.snd ∧ True) ∧
 IsO
 (AObj.arr (x_4.snd.fst.length + (1 : Nat)) (2 : Nat)
 (joinC x_4.snd.fst.length (cQ x_4.snd.fst)
 (rowsCell [[i64 y.fst.fst, i64 y.fst.snd]])))
 (arQ x'.snd.fst) ∧
 True) ∧
 Exists fun (x_5 : List Int × Int × Int) =>
 Rd (549755813888 : Int) x_5.fst x_5.snd.fst ∧
 (((0 : Nat) = (0 : Nat) ∧ (List.getD s x.fst Pl.dY).snd.fst.getD x_4.fst (0 : Int) = x_5.snd.snd ∧ True) ∧
 (Is (byts b) (byts x_5.fst) ∧ x_4.snd.snd.snd = x_5.snd.fst ∧ True) ∧ True) ∧
 ∀ (y : Pl.Rt × Int),
 x_5.snd.fst ≤ y.snd ∧ y.snd ≤ x_5.snd.fst + (2 : Int) →
 (0 : Nat) + x_4.snd.fst.length ≤ x_4.snd.fst.length ∧
 (x_4.snd.fst.length + (1 : Nat)) * (16 : Nat) ≤ (70368744177664 : Nat) ∧
 Exists fun (x' : Nat × List Pl.Rt × Pl.Rt × Int) =>
 (x'.fst ≤ (List.getD s x.fst Pl.dY).snd.fst.length ∧
 x'.snd.fst.length = x'.fst ∧
 p ≤ x'.snd.snd.snd ∧
 x'.snd.snd.snd ≤
 p + (100 : Int) * (↑x.fst : Int) + (3 : Int) + (30 : Int) * ((3 : Int) - x_2.fst) +
 (2 : Int) * (↑x'.fst : Int)) ∧
 (List.getD s x.fst Pl.dY).snd.fst.length - x'.fst < (List.getD s x.fst Pl.dY).snd.fst.length - x_4.fst ∧
 ((0 : Nat) = (0 : Nat) ∧
 (0 : Nat) = (0 : Nat) ∧
 (0 : Nat) = (0 : Nat) ∧
 ((0 : Nat) = (0 : Nat) ∧ List.length x_2.snd.fst = List.length x_2.snd.fst) ∧
 (↑x.fst : Int) = (↑x.fst : Int) ∧
 x_2.fst = x_2.fst ∧
 (0 : Nat) = (0 : Nat) ∧
 IntKind.i64.wrap ((↑x_4.fst : Int) + (1 : Int)) = (↑x'.fst : Int) ∧ True) ∧
 (Is (byts x_5.fst) (byts b) ∧ y.snd = x'.snd.snd.snd ∧ True) ∧
 (Is (syms s) (syms s) ∧ True) ∧
 (Is (AV.lit (0 : Nat) (1 : Nat) fun (x x_6 : Nat) => AV.any) nilA ∧ True) ∧
 IsO (xrR x_2.snd.fst) (xrR x_2.snd.fst) ∧
 ((List.getD s x.fst Pl.dY).fst = (List.getD s x.fst Pl.dY).fst ∧
 ((0 : Nat) = (0 : Nat) ∧ x_4.snd.fst.length + (1 : Nat) = x'.snd.fst.length) ∧
 x_4.snd.snd.fst.fst = x'.snd.snd.fst.fst ∧
 x_4.snd.snd.fst.snd = x'.snd.snd.fst.snd ∧ True) ∧
 IsO
 (AObj.arr (x_4.snd.fst.length + (1 : Nat)) (2 : Nat)
 (joinC x_4.snd.fst.length (cQ x_4.snd.fst)
 (rowsCell [[i64 y.fst.fst, i64 y.fst.snd]])))
 (arQ x'.snd.fst) ∧
 True)
 (Exists fun (x_5 : List Pl.Rw × Pl.Rw) =>
 (x_5.fst.length ≤ (1000 : Nat) ∧
 (∀ (y : Pl.Rw), y ∈ x_5.fst → y.snd.fst.length ≤ (1000 : Nat)) ∧ x_5.snd.snd.fst.length ≤ (1000 : Nat)) ∧
 ((((0 : Nat) = (0 : Nat) ∧ List.length x_2.snd.fst = x_5.fst.length) ∧
 ((List.getD s x.fst Pl.dY).fst = x_5.snd.fst ∧
 ((0 : Nat) = (0 : Nat) ∧ x_4.snd.fst.length = x_5.snd.snd.fst.length) ∧
 x_4.snd.snd.fst.fst = x_5.snd.snd.snd.fst ∧ x_4.snd.snd.fst.snd = x_5.snd.snd.snd.snd ∧ True) ∧
 True) ∧
 IsO (xrR x_2.snd.fst) (xrR x_5.fst) ∧ IsO (arQ x_4.snd.fst) (arQ x_5.snd.snd.fst) ∧ True) ∧
 ∀ (y : List Nat),
 HPut x_5.fst.length y →
 Exists fun (x' : Int × Pl.Mdl × Int) =>
 ((0 : Int) ≤ x'.fst ∧
 x'.fst ≤ (3 : Int) ∧
 Pl.MdB ((3 : Nat) * x.fst + (3 : Nat) - x'.fst.toNat) (2 : Nat) x'.snd.fst ∧
 p ≤ x'.snd.snd ∧ x'.snd.snd ≤ p + (100 : Int) * (↑x.fst : Int) + (1 : Int) + (30 : Int) * ((3 : Int) - x'.fst)) ∧
 x'.fst.toNat < x_2.fst.toNat ∧
 ((0 : Nat) = (0 : Nat) ∧
 (0 : Nat) = (0 : Nat) ∧
 (0 : Nat) = (0 : Nat) ∧
 ((0 : Nat) = (0 : Nat) ∧ y.length = List.length x'.snd.fst) ∧
 (↑x.fst : Int) = (↑x.fst : Int) ∧ IntKind.i64.wrap (x_2.fst - (1 : Int)) = x'.fst ∧ True) ∧
 (Is (byts b) (byts b) ∧ x_4.snd.snd.snd = x'.snd.snd ∧ True) ∧
 (Is (syms s) (syms s) ∧ True) ∧
 (Is (AV.lit (0 : Nat) (1 : Nat) fun (x x_6 : Nat) => AV.any) nilA ∧ True) ∧
 IsO (xrR (List.map (fun (i : Nat) => (x_5.fst ++ [x_5.snd]).getD i Pl.dR) y)) (xrR x'.snd.fst) ∧ True))
 (Exists fun (x' : Nat × Pl.Mdl × Int) =>
 (x'.fst ≤ List.length s ∧ Pl.MdB ((3 : Nat) * x'.fst) (2 : Nat) x'.snd.fst ∧ p ≤ x'.snd.snd ∧ x'.snd.snd ≤ p + (100 : Int) * (↑x'.fst : Int)) ∧
 List.length s - x'.fst < List.length s - x.fst ∧
 ((0 : Nat) = (0 : Nat) ∧
 (0 : Nat) = (0 : Nat) ∧
 (0 : Nat) = (0 : Nat) ∧
 ((0 : Nat) = (0 : Nat) ∧ List.length x_2.snd.fst = List.length x'.snd.fst) ∧ IntKind.i64.wrap ((↑x.fst : Int) + (1 : Int)) = (↑x'.fst : Int) ∧ True) ∧
 (Is (byts b) (byts b) ∧ x_2.snd.snd = x'.snd.snd ∧ True) ∧
 (Is (syms s) (syms s) ∧ True) ∧
 (Is (AV.lit (0 : Nat) (1 : Nat) fun (x x_3 : Nat) => AV.any) nilA ∧ True) ∧ IsO (xrR x_2.snd.fst) (xrR x'.snd.fst) ∧ True))
 (Exists fun (y : Pl.Mdl × Int) =>
 (Pl.MdB (15 : Nat) (2 : Nat) y.fst ∧ p ≤ y.snd ∧ y.snd ≤ p + (1000 : Int)) ∧
 (0 : Nat) + List.length x.snd.fst ≤ List.length x.snd.fst ∧
 ((Is (mrows x.snd.fst) (mrows y.fst) ∧ True) ∧ True) ∧ (Is (byts b) (byts b) ∧ x.snd.snd = y.snd ∧ True) ∧ True)) = Goal Try.prog [K_num, K_l7Value, K_l7PutX] (A_l7Any b p s) K_l7AnyF.1 K_l7AnyF.2 ((b, p, s)) := by kernel_rfl
end Cg

/-
  The codes' contracts: drawn models, the rest, and the law that models are compared exactly. No condition.
-/
set_option linter.unusedVariables false
set_option linter.unusedSimpArgs false
set_option maxRecDepth 100000
namespace Cg
open Go Go.Proofs Pl
theorem sg_sm {n k : Nat} {s : Pl.Sig} (h : SgB n k s) (hn : n ≤ 100 := by decide) (hk : k ≤ 100 := by decide) : costG s ≤ 1048576 := by
  have : sumN costY s ≤ s.length * 110 := sumN_le fun x hx => by have := h.2 x hx; unfold costY; omega
  have h1 := h.1
  have : s.length * 110 ≤ 100 * 110 := Nat.mul_le_mul_right _ (by omega)
  unfold costG; omega
theorem md_sm {n k : Nat} {m : Mdl} (h : MdB n k m) (hn : n ≤ 100 := by decide) (hk : k ≤ 100 := by decide) : costM m ≤ 1048576 := by
  have : sumN costR m ≤ m.length * 110 := sumN_le fun x hx => by have := h.2 x hx; unfold costR; omega
  have h1 := h.1
  have : m.length * 110 ≤ 100 * 110 := Nat.mul_le_mul_right _ (by omega)
  unfold costM; omega
theorem rowOk_args {x : Rw} (h : rowOk x = true) : x.2.1.all ratOk = true := (rowOk_iff.1 h).2.2.2
theorem mL_less {p : Option Rw} {x : Rw} {xs : List Rw} (hx : rowOk x = true) (hp : ∀ q, p = some q → rowOk q = true) (hb : beforeR p x = true) (h : mL (some x) xs = true) : mL p xs = true := by
  cases xs with
  | nil => rfl
  | cons y ys =>
    simp only [mL, Bool.and_eq_true] at h ⊢
    obtain ⟨⟨h1, h2⟩, h3⟩ := h
    refine ⟨⟨h1, ?_⟩, h3⟩
    cases p with
    | none => rfl
    | some q => exact rowLess_trans (rowOk_args (hp q rfl)) (rowOk_args hx) (rowOk_args h1) hb h2
theorem mL_del : ∀ (m : List Rw) (p : Option Rw) (k : Nat), mL p m = true → (∀ q, p = some q → rowOk q = true) → mL p (m.take k ++ m.drop (k + 1)) = true
  | [], p, k, _, _ => by simp [mL]
  | x :: xs, p, 0, h, hp => by
    simp only [mL, Bool.and_eq_true] at h
    exact mL_less h.1.1 hp h.1.2 h.2
  | x :: xs, p, k + 1, h, hp => by
    simp only [mL, Bool.and_eq_true] at h
    show mL p (x :: (xs.take k ++ xs.drop (k + 1))) = true
    simp only [mL, Bool.and_eq_true]
    exact ⟨h.1, mL_del xs (some x) k h.2 fun q hq => by cases hq; exact h.1.1⟩
theorem modelOk_del {s : Pl.Sig} {m : Mdl} (h : modelOk s m = true) (k : Nat) : modelOk s (m.take k ++ m.drop (k + 1)) = true := by
  simp only [modelOk, mRight, Bool.and_eq_true, decide_eq_true_eq, List.all_eq_true] at h ⊢
  obtain ⟨⟨h1, h2, h3⟩, h4⟩ := h
  have hl : (m.take k ++ m.drop (k + 1)).length ≤ m.length := by simp; omega
  exact ⟨⟨h1, ⟨mL_del m none k h2 fun q hq => (by cases hq), Nat.le_trans hl h3⟩⟩, fun x hx => h4 x ((List.mem_append.1 hx).elim List.mem_of_mem_take List.mem_of_mem_drop)⟩
theorem k_l7Any : SoundC Try.prog K_l7Any.1 K_l7Any.2 := sound_of hm (((CtxOK.nil.and k_l7PutX).and k_l7Value).and k_num) (fun (b, p, s) => A_l7Any b p s) (by kernel_rfl) fun ((b, p, s) : List Int × Int × Pl.Sig) hb => (by
  obtain ⟨h1, h2⟩ : Rd 137438953472 b p ∧ SgB 5 2 s := hb
  rw [← vc_l7Any b p s]
  simp [-List.getD_eq_getElem?_getD, -List.mem_cons, -Bool.forall_bool, -Bool.exists_bool, and_assoc, peta, tl_inj, ex_1, ex_2, ex_3, ex_4, ex_5, ex_6, ex_7, ex_8, ex_9, ey_2, ey_3, ey_4, ey_5, ey_6, ey_7, ey_8, ey_9]
  obtain ⟨s1, s2⟩ : s.length ≤ 5 ∧ ∀ x ∈ s, x.1.size ≤ 10 ∧ x.2.1.length ≤ 2 := id h2
  have g3 := h1.2.2.1
  have g4 := h1.2.2.2
  refine ⟨⟨0, by omega, [], ⟨Nat.zero_le _, fun x hx => by cases hx⟩, by omega, rfl, rfl, rfl⟩, fun i m q hi hm q1 q2 => ⟨fun hlt => ⟨h1.to (by omega) (by omega), fun y hy => ⟨?_, fun k m q hk1 hk2 hm q3 q4 => ⟨fun hk => ?_, fun hk => ?_⟩⟩⟩, fun hge => ?_⟩⟩
  · simp at hy
    exact ⟨y, by omega, by omega, m, hm.mono (by omega) (Nat.le_refl _), by omega, by omega, rfl, rfl, xrR_self⟩
  · have hN := s2 _ (getD_mem dY hlt)
    have hr1 : Rd 549755813888 b q := h1.to (by omega) (by omega)
    have init : ∀ b3 : Int, q ≤ b3 → b3 ≤ q + 2 → ∃ a_18, a_18 ≤ (s.getD i dY).snd.fst.length ∧ ∃ a_19 : List Rt, a_19.length = a_18 ∧ p ≤ b3 ∧ b3 ≤ p + 100 * (i : Int) + 3 + 30 * (3 - k) + 2 * (a_18 : Int) ∧ (0 : Int) = a_18 ∧ a_19 = [] := fun b3 e1 e2 =>
      ⟨0, by omega, [], rfl, by omega, by omega, rfl, rfl⟩
    have stp : ∀ (j : Nat) (al : List Rt) (u : Int), al.length = j → p ≤ u → u ≤ p + 100 * (i : Int) + 3 + 30 * (3 - k) + 2 * (j : Int) → j < (s.getD i dY).snd.fst.length → ∀ (v w u' : Int), u ≤ u' → u' ≤ u + 2 → (al.length + 1) * 16 ≤ 70368744177664 ∧
        ∃ a_29, a_29 ≤ (s.getD i dY).snd.fst.length ∧ ∃ a_30, a_30.length = a_29 ∧ p ≤ u' ∧ u' ≤ p + 100 * (i : Int) + 3 + 30 * (3 - k) + 2 * (a_29 : Int) ∧ (s.getD i dY).snd.fst.length - a_29 < (s.getD i dY).snd.fst.length - j ∧ IntKind.i64.wrap ((j : Int) + 1) = (a_29 : Int) ∧ al.length + 1 = a_30.length ∧
        IsO (AObj.arr (al.length + 1) 2 (joinC al.length (cQ al) (rowsCell [[i64 v, i64 w]]))) (arQ a_30) := fun j al u e1 e2 e3 e4 v w u' e5 e6 =>
      ⟨by omega, j + 1, by omega, al ++ [(v, w)], by simp; omega, by omega, by omega, by omega, wrap_succ e4 (by omega), by simp, IsO_join EncN.eQ (IsR_row EncN.eQ fun j hj => by
        match j, hj with
        | 0, _ => exact Is_i64.2 rfl
        | 1, _ => exact Is_i64.2 rfl)⟩
    have ext : ∀ (j : Nat) (al : List Rt) (v w u : Int), j ≤ (s.getD i dY).snd.fst.length → al.length = j → p ≤ u → u ≤ p + 100 * (i : Int) + 3 + 30 * (3 - k) + 2 * (j : Int) →
        ∃ a_26 : List Rw, a_26.length ≤ 1000 ∧ (∀ (a : ByteArray) (a_27 : List Rt) (a_28 b : Int), (a, a_27, a_28, b) ∈ a_26 → a_27.length ≤ 1000) ∧ ∃ (a_27 : ByteArray) (a_28 : List Rt), a_28.length ≤ 1000 ∧ m.length = a_26.length ∧ (s.getD i dY).fst = a_27 ∧ al.length = a_28.length ∧ IsO (xrR m) (xrR a_26) ∧ (a_28 = [] ∨ al = a_28) ∧
          ∀ y : List Nat, HPut a_26.length y → ∃ a_30 : Int, 0 ≤ a_30 ∧ a_30 ≤ 3 ∧ ∃ a_31 : Mdl, MdB (3 * i + 3 - a_30.toNat) 2 a_31 ∧ p ≤ u ∧ u ≤ p + 100 * (i : Int) + 1 + 30 * (3 - a_30) ∧ max a_30 0 < k ∧ y.length = a_31.length ∧ IntKind.i64.wrap (k - 1) = a_30 ∧
            IsO (xrR (List.map (fun i => (a_26 ++ [(a_27, a_28, v, w)]).getD i dR) y)) (xrR a_31) := fun j al v w u e1 e2 e3 e4 => by
      obtain ⟨m1, m2⟩ : m.length ≤ 3 * i + 3 - k.toNat ∧ ∀ x ∈ m, x.1.size ≤ 10 ∧ x.2.1.length ≤ 2 := id hm
      refine ⟨m, by omega, fun a b c d h => by have := (m2 _ h).2; dsimp only at this; omega, (s.getD i dY).fst, al, by omega, rfl, rfl, rfl, xrR_self, .inr rfl, fun y hy => ?_⟩
      obtain ⟨y1, y2, y3⟩ := hy
      refine ⟨k - 1, by omega, by omega, List.map (fun i' => (m ++ [((s.getD i dY).fst, al, v, w)]).getD i' dR) y, ⟨by simp; omega, fun x hx => ?_⟩, by omega, by omega, by omega, by simp, wrap_small (by omega) (by omega), xrR_self⟩
      obtain ⟨n, hn, rfl⟩ := List.mem_map.1 hx
      have hn' := y3 n hn
      have : (m ++ [((s.getD i dY).fst, al, v, w)]).getD n dR ∈ m ++ [((s.getD i dY).fst, al, v, w)] := getD_mem dR (by simp; omega)
      rcases List.mem_append.1 this with e | e
      · exact m2 _ e
      · rw [List.mem_singleton.1 e]; exact ⟨hN.1, by dsimp only; omega⟩
    repeat' first
      | exact hlt
      | exact hr1
      | apply And.intro
    all_goals
      intro b3 h3 h4
      repeat' first
        | exact hlt
        | exact init b3 h3 h4
        | apply And.intro
    all_goals
      intro j al v w u e1 e2 e3 e4
      repeat' first
        | exact hlt
        | exact fun e5 => ext j al v w u e1 e2 e3 e4
        | apply And.intro
    all_goals
      intro e5
      repeat' first
        | exact hlt
        | exact e5
        | exact h1.to (by omega) (by omega)
        | exact fun v w u' => stp j al u e2 e3 e4 e5 v w u'
        | apply And.intro
  · obtain rfl : k = 0 := by omega
    exact ⟨i + 1, by omega, m, hm.mono (by simp; omega) (Nat.le_refl _), by omega, by omega, by omega, rfl, wrap_succ hlt (by omega), xrR_self⟩
  · exact ⟨m, hm.mono (by omega) (Nat.le_refl _), by omega, by omega, rfl, xrR_self⟩)
theorem k_l7AnyF : SoundC Try.prog K_l7AnyF.1 K_l7AnyF.2 := sound_of hm (((CtxOK.nil.and k_l7PutX).and k_l7Value).and k_num) (fun (b, p, s) => A_l7Any b p s) (by kernel_rfl) fun ((b, p, s) : List Int × Int × Pl.Sig) hb => (by
  obtain ⟨h1, h2⟩ : Rd 137438953472 b p ∧ SgB 5 2 s := hb
  rw [← vc_l7AnyF b p s]
  simp [-List.getD_eq_getElem?_getD, -List.mem_cons, -Bool.forall_bool, -Bool.exists_bool, and_assoc, peta, tl_inj, ex_1, ex_2, ex_3, ex_4, ex_5, ex_6, ex_7, ex_8, ex_9, ey_2, ey_3, ey_4, ey_5, ey_6, ey_7, ey_8, ey_9]
  obtain ⟨s1, s2⟩ : s.length ≤ 5 ∧ ∀ x ∈ s, x.1.size ≤ 10 ∧ x.2.1.length ≤ 2 := id h2
  have g3 := h1.2.2.1
  have g4 := h1.2.2.2
  refine ⟨⟨0, by omega, [], ⟨Nat.zero_le _, fun x hx => by cases hx⟩, by omega, rfl, rfl, rfl⟩, fun i m q hi hm q1 q2 => ⟨fun hlt => ⟨h1.to (by omega) (by omega), fun y hy => ⟨?_, fun k m q hk1 hk2 hm q3 q4 => ⟨fun hk => ?_, fun hk => ?_⟩⟩⟩, fun hge => ?_⟩⟩
  · simp at hy
    exact ⟨y, by omega, by omega, m, hm.mono (by omega) (Nat.le_refl _), by omega, by omega, rfl, rfl, xrR_self⟩
  · have hN := s2 _ (getD_mem dY hlt)
    have hr1 : Rd 549755813888 b q := h1.to (by omega) (by omega)
    have init : ∀ b3 : Int, q ≤ b3 → b3 ≤ q + 2 → ∃ a_18, a_18 ≤ (s.getD i dY).snd.fst.length ∧ ∃ a_19 : List Rt, a_19.length = a_18 ∧ p ≤ b3 ∧ b3 ≤ p + 100 * (i : Int) + 3 + 30 * (3 - k) + 2 * (a_18 : Int) ∧ (0 : Int) = a_18 ∧ a_19 = [] := fun b3 e1 e2 =>
      ⟨0, by omega, [], rfl, by omega, by omega, rfl, rfl⟩
    have stp : ∀ (j : Nat) (al : List Rt) (u : Int), al.length = j → p ≤ u → u ≤ p + 100 * (i : Int) + 3 + 30 * (3 - k) + 2 * (j : Int) → j < (s.getD i dY).snd.fst.length → ∀ (v w u' : Int), u ≤ u' → u' ≤ u + 2 → (al.length + 1) * 16 ≤ 70368744177664 ∧
        ∃ a_29, a_29 ≤ (s.getD i dY).snd.fst.length ∧ ∃ a_30, a_30.length = a_29 ∧ p ≤ u' ∧ u' ≤ p + 100 * (i : Int) + 3 + 30 * (3 - k) + 2 * (a_29 : Int) ∧ (s.getD i dY).snd.fst.length - a_29 < (s.getD i dY).snd.fst.length - j ∧ IntKind.i64.wrap ((j : Int) + 1) = (a_29 : Int) ∧ al.length + 1 = a_30.length ∧
        IsO (AObj.arr (al.length + 1) 2 (joinC al.length (cQ al) (rowsCell [[i64 v, i64 w]]))) (arQ a_30) := fun j al u e1 e2 e3 e4 v w u' e5 e6 =>
      ⟨by omega, j + 1, by omega, al ++ [(v, w)], by simp; omega, by omega, by omega, by omega, wrap_succ e4 (by omega), by simp, IsO_join EncN.eQ (IsR_row EncN.eQ fun j hj => by
        match j, hj with
        | 0, _ => exact Is_i64.2 rfl
        | 1, _ => exact Is_i64.2 rfl)⟩
    have ext : ∀ (j : Nat) (al : List Rt) (v w u : Int), j ≤ (s.getD i dY).snd.fst.length → al.length = j → p ≤ u → u ≤ p + 100 * (i : Int) + 3 + 30 * (3 - k) + 2 * (j : Int) →
        ∃ a_26 : List Rw, a_26.length ≤ 1000 ∧ (∀ (a : ByteArray) (a_27 : List Rt) (a_28 b : Int), (a, a_27, a_28, b) ∈ a_26 → a_27.length ≤ 1000) ∧ ∃ (a_27 : ByteArray) (a_28 : List Rt), a_28.length ≤ 1000 ∧ m.length = a_26.length ∧ (s.getD i dY).fst = a_27 ∧ al.length = a_28.length ∧ IsO (xrR m) (xrR a_26) ∧ (a_28 = [] ∨ al = a_28) ∧
          ∀ y : List Nat, HPut a_26.length y → ∃ a_30 : Int, 0 ≤ a_30 ∧ a_30 ≤ 3 ∧ ∃ a_31 : Mdl, MdB (3 * i + 3 - a_30.toNat) 2 a_31 ∧ p ≤ u ∧ u ≤ p + 100 * (i : Int) + 1 + 30 * (3 - a_30) ∧ max a_30 0 < k ∧ y.length = a_31.length ∧ IntKind.i64.wrap (k - 1) = a_30 ∧
            IsO (xrR (List.map (fun i => (a_26 ++ [(a_27, a_28, v, w)]).getD i dR) y)) (xrR a_31) := fun j al v w u e1 e2 e3 e4 => by
      obtain ⟨m1, m2⟩ : m.length ≤ 3 * i + 3 - k.toNat ∧ ∀ x ∈ m, x.1.size ≤ 10 ∧ x.2.1.length ≤ 2 := id hm
      refine ⟨m, by omega, fun a b c d h => by have := (m2 _ h).2; dsimp only at this; omega, (s.getD i dY).fst, al, by omega, rfl, rfl, rfl, xrR_self, .inr rfl, fun y hy => ?_⟩
      obtain ⟨y1, y2, y3⟩ := hy
      refine ⟨k - 1, by omega, by omega, List.map (fun i' => (m ++ [((s.getD i dY).fst, al, v, w)]).getD i' dR) y, ⟨by simp; omega, fun x hx => ?_⟩, by omega, by omega, by omega, by simp, wrap_small (by omega) (by omega), xrR_self⟩
      obtain ⟨n, hn, rfl⟩ := List.mem_map.1 hx
      have hn' := y3 n hn
      have : (m ++ [((s.getD i dY).fst, al, v, w)]).getD n dR ∈ m ++ [((s.getD i dY).fst, al, v, w)] := getD_mem dR (by simp; omega)
      rcases List.mem_append.1 this with e | e
      · exact m2 _ e
      · rw [List.mem_singleton.1 e]; exact ⟨hN.1, by dsimp only; omega⟩
    repeat' first
      | exact hlt
      | exact hr1
      | apply And.intro
    all_goals
      intro b3 h3 h4
      repeat' first
        | exact hlt
        | exact init b3 h3 h4
        | apply And.intro
    all_goals
      intro j al v w u e1 e2 e3 e4
      repeat' first
        | exact hlt
        | exact fun e5 => ext j al v w u e1 e2 e3 e4
        | apply And.intro
    all_goals
      intro e5
      repeat' first
        | exact hlt
        | exact e5
        | exact h1.to (by omega) (by omega)
        | exact fun v w u' => stp j al u e2 e3 e4 e5 v w u'
        | apply And.intro
  · obtain rfl : k = 0 := by omega
    exact ⟨i + 1, by omega, m, hm.mono (by simp; omega) (Nat.le_refl _), by omega, by omega, by omega, rfl, wrap_succ hlt (by omega), xrR_self⟩
  · exact ⟨hm.mono (by omega) (Nat.le_refl _), by omega, by omega⟩)
theorem k_l7Some : SoundC Try.prog K_l7Some.1 K_l7Some.2 := k_l7Some0 k_l7Any
theorem k_DrawModelOk : SoundC Try.prog K_DrawModelOk.1 K_DrawModelOk.2 := sound_of hm (((((CtxOK.nil.and k_l4Bent).and k_pick).and k_l7Some).and k_l4Sig).and k_l16Open) (fun _ => []) (by kernel_rfl) fun (b : List Int) hb => (by
  obtain ⟨h1, h2⟩ : Sz b ∧ Byt b := hb
  rw [← vc_DrawModelOk b]
  simp [-List.getD_eq_getElem?_getD, -List.mem_cons, -Bool.forall_bool, -Bool.exists_bool, and_assoc, peta, tl_inj, ex_1, ex_2, ex_3, ex_4, ex_5, ex_6, ex_7, ex_8, ex_9, ey_2, ey_3, ey_4, ey_5, ey_6, ey_7, ey_8, ey_9]
  exact ⟨by omega, h2, fun y hr => ⟨hr.to (by omega) (by omega), fun s hs => ⟨hr.to (by omega) (by omega), hs, fun m q hm q1 q2 => ⟨hr.to (by omega) (by omega), fun z _ _ => ⟨fun _ =>
    ⟨y, q + 1, hr.to (by omega) (by omega), s, 7, 2, hs.mono (by decide) (by decide), by decide, by decide, by decide, rfl, rfl, rfl, fun s2 q2' hs2 e1 e2 =>
      ⟨y, q2', hr.to (by omega) (by omega), s2, 8, 3, hs2, by decide, by decide, by decide, rfl, rfl, rfl, fun s3 q3 hs3 e3 e4 => ⟨hs3.mono (by decide) (by decide), hm⟩⟩⟩,
    fun _ => ⟨hs.mono (by decide) (by decide), hm⟩⟩⟩⟩⟩⟩)
theorem k_DrawModelSame : SoundC Try.prog K_DrawModelSame.1 K_DrawModelSame.2 := sound_of hm ((((CtxOK.nil.and k_pick).and k_l7AnyF).and k_l4Sig).and k_l16Open) (fun _ => []) (by kernel_rfl) fun (b : List Int) hb => (by
  obtain ⟨h1, h2⟩ : Sz b ∧ Byt b := hb
  rw [← vc_DrawModelSame b]
  simp [-List.getD_eq_getElem?_getD, -List.mem_cons, -Bool.forall_bool, -Bool.exists_bool, and_assoc, peta, tl_inj, ex_1, ex_2, ex_3, ex_4, ex_5, ex_6, ex_7, ex_8, ex_9, ey_2, ey_3, ey_4, ey_5, ey_6, ey_7, ey_8, ey_9]
  refine ⟨by omega, h2, fun y hr => ⟨hr.to (by omega) (by omega), fun s hs => ⟨hr.to (by omega) (by omega), hs, fun m q hm q1 q2 => ⟨hr.to (by omega) (by omega), fun z _ _ => ⟨fun _ => ⟨hr.to (by omega) (by omega), hs, fun m2 q' hm2 _ _ => ⟨hm, hm2⟩⟩, fun _ => ?_⟩⟩⟩⟩⟩
  obtain ⟨m1, m2⟩ : m.length ≤ 15 ∧ ∀ x ∈ m, x.1.size ≤ 10 ∧ x.2.1.length ≤ 2 := id hm
  have hI : Is (AV.sl m.length 4 (cR m)) (mrows m) := (mrows_take (Nat.le_refl _)).2 List.take_length
  have end_ : ∃ a_11, MdB 15 2 a_11 ∧ ∃ x, MdB 15 2 x ∧ m = a_11 ∧ Is (AV.sl m.length 4 (cR m)) (mrows x) := ⟨m, hm, m, hm, rfl, hI⟩
  refine ⟨by omega, fun h0 => ⟨hr.to (by omega) (by omega), fun z _ _ => ⟨fun _ => ⟨h0, m, hm, m.set 0 ((m.getD 0 dR).1, (m.getD 0 dR).2.1, 7, 1), hm.set (have e := m2 _ (getD_mem dR h0); ⟨e.1, e.2⟩), rfl, ?_⟩, fun _ => end_⟩⟩, fun _ => end_⟩
  have hJ : (fun i j => storeC (joinC 0 (rowsCell []) (cR m)) 0 2 [i64 7, i64 1] i j) = storeC (fun i j => eR (m.getD i dR) j) 0 2 [i64 7, i64 1] := rfl
  rw [hJ]
  exact Is_sl_of (by simp) (IsR_store EncN.eR fun j hj => by
    match j, hj with
    | 0, _ => exact EncN.eR.self _ (j := 0) (by decide)
    | 1, _ => exact EncN.eR.self _ (j := 1) (by decide)
    | 2, _ => exact Is_i64.2 rfl
    | 3, _ => exact Is_i64.2 rfl))
theorem k_yModelEq : SoundC Try.prog K_yModelEq.1 K_yModelEq.2 := sound_of hm ((((((CtxOK.nil.and k_sModelOk).and k_sModelSame).and k_iModelSame).and k_iModelOk).and k_DrawModelOk).and k_DrawModelSame) (fun _ => A_yModelEq) (by kernel_rfl) fun (b : List Int) hb => (by
  replace hb : Byt b := hb
  rw [← vc_yModelEq b]
  simp [-List.getD_eq_getElem?_getD, -List.mem_cons, -Bool.forall_bool, -Bool.exists_bool, and_assoc, peta, tl_inj, ex_1, ex_2, ex_3, ex_4, ex_5, ex_6, ex_7, ex_8, ex_9, ey_2, ey_3, ey_4, ey_5, ey_6, ey_7, ey_8, ey_9]
  refine fun l1 => ⟨by omega, hb, fun m m' hm hm' => ⟨by omega, hb, fun s r hs hr => ?_⟩⟩
  refine ⟨sg_sm hs, md_sm hr, md_sm hm, md_sm hm', eq_comm, fun _ => ⟨md_sm hm, sg_sm hs, md_sm hr, ⟨s, hs, r, hr, 0, by omega, rfl, rfl, rfl, rfl⟩, fun s r k hs hr hk hlt hok => ?_⟩⟩
  have hrl := hr.1
  rw [wrap_succ hlt (by omega), Int.toNat_natCast]
  have hR := ((Rds.take (d := dR) EncN.eR (l := r) (x := k) (by omega)).join (Rds.drop EncN.eR r (k + 1))).is
  have hdel : MdB 16 3 (r.take k ++ r.drop (k + 1)) := ⟨by simp; omega, fun x hx => hr.2 x ((List.mem_append.1 hx).elim List.mem_of_mem_take List.mem_of_mem_drop)⟩
  have hne : ¬ r.take k ++ r.drop (k + 1) = r := fun e => by
    have := congrArg List.length e
    simp at this; omega
  exact ⟨by omega, by omega, by omega, by omega, by omega, _, hR, sg_sm hs, md_sm hdel, modelOk_del hok k, fun _ => ⟨_, hR, md_sm hdel, hne, fun _ => ⟨s, hs, r, hr, k + 1, by omega, by omega, rfl, rfl, rfl, rfl⟩⟩⟩)
end Cg
