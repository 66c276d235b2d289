/-
  What the law leans on, part 3. No condition.
-/
import Derived.Test.YtmahkigckeaakaaGreatProg
import Derived.Test.YtmahkigckeaakaaGreatFnModelAllB1
import Derived.Test.YtmahkigckeaakaaGreatFnModelAllB2
/-
  What is left to show of each function's code, printed by a program: Mds. No condition.
-/
set_option maxRecDepth 100000
set_option linter.unusedVariables false
namespace Cg
open Go Go.Proofs
theorem vc_of (b : List Int) (p : Int) (l : List ByteArray) : (Exists fun (x : List Int × Int × Int) =>
 Rd (1099511627776 : Int) x.fst x.snd.fst ∧
 (((0 : Nat) = (0 : Nat) ∧ (↑l.length : Int) = x.snd.snd ∧ True) ∧ (Is (byts b) (byts x.fst) ∧ p = x.snd.fst ∧ True) ∧ True) ∧
 ∀ (y : Int),
 ((1 : Int) ≤ x.snd.snd → (0 : Int) ≤ y ∧ y < x.snd.snd) ∧ (x.snd.snd < (1 : Int) → y = (0 : Int)) →
 ((0 : Int) ≤ y ∧ y < (↑l.length : Int)) ∧
 y.toNat < l.length ∧
 Exists fun (y_1 : ByteArray) => y_1 ∈ l ∧ (l.getD y.toNat ByteArray.empty = y_1 ∧ True) ∧ (Is (byts x.fst) (byts b) ∧ x.snd.fst + (1 : Int) = p + (1 : Int) ∧ True) ∧ True) = Goal Tryz.prog [K_pick] ([]) K_of.1 K_of.2 ((b, p, l)) := by kernel_rfl

theorem vc_rat (b : List Int) (p : Int) : (Exists fun (x : List Int × Int × List Int) =>
 (Rd (1099511627776 : Int) x.fst x.snd.fst ∧ x.snd.snd ≠ [] ∧ Sz x.snd.snd) ∧
 (((0 : Nat) = (0 : Nat) ∧ Is (AV.lit (3 : Nat) (1 : Nat) (rowsCell [[i64 (1 : Int)], [i64 (2 : Int)], [i64 (0 : Int)]])) (ints x.snd.snd) ∧ True) ∧
 (Is (byts b) (byts x.fst) ∧ p = x.snd.fst ∧ True) ∧ True) ∧
 ∀ (y : Int),
 y ∈ x.snd.snd →
 Exists fun (x_1 : List Int × Int × List Int) =>
 (Rd (1099511627776 : Int) x_1.fst x_1.snd.fst ∧ x_1.snd.snd ≠ [] ∧ Sz x_1.snd.snd) ∧
 (((0 : Nat) = (0 : Nat) ∧
 Is (AV.lit (4 : Nat) (1 : Nat) (rowsCell [[i64 (0 : Int)], [i64 (2 : Int)], [i64 (-1 : Int)], [i64 (1 : Int)]])) (ints x_1.snd.snd) ∧ True) ∧
 (Is (byts x.fst) (byts x_1.fst) ∧ x.snd.fst + (1 : Int) = x_1.snd.fst ∧ True) ∧ True) ∧
 ∀ (y_1 : Int),
 y_1 ∈ x_1.snd.snd →
 Exists fun (y_2 : Pl.Rt) => True ∧ ((y = y_2.fst ∧ y_1 = y_2.snd ∧ True) ∧ True) ∧ (Is (byts x_1.fst) (byts b) ∧ x_1.snd.fst + (1 : Int) = p + (2 : Int) ∧ True) ∧ True) = Goal Tryz.prog [K_num] ([]) K_rat.1 K_rat.2 ((b, p)) := by kernel_rfl

theorem vc_RatOfP (n d : Int) : (condP (d == (0 : Int)) (((0 : Int) = (Pl.ratV (Pl.least n d)).fst ∧ (0 : Int) = (Pl.ratV (Pl.least n d)).snd ∧ True) ∧ Bool.false = (Pl.least n d).isSome ∧ True)
 (Exists fun (x : Int) =>
 (n = x ∧ True) ∧
 True ∧
 condP (Decidable.decide (Pl.abs1 x > (1000000000 : Int)))
 (((0 : Int) = (Pl.ratV (Pl.least n d)).fst ∧ (0 : Int) = (Pl.ratV (Pl.least n d)).snd ∧ True) ∧ Bool.false = (Pl.least n d).isSome ∧ True)
 (Exists fun (x : Int) =>
 (d = x ∧ True) ∧
 True ∧
 condP (Decidable.decide (Pl.abs1 x > (1000000000 : Int)))
 (((0 : Int) = (Pl.ratV (Pl.least n d)).fst ∧ (0 : Int) = (Pl.ratV (Pl.least n d)).snd ∧ True) ∧ Bool.false = (Pl.least n d).isSome ∧ True)
 (condP (Decidable.decide (d < (0 : Int)))
 (Exists fun (x : Int × Int) =>
 (IntKind.i64.wrap ((0 : Int) - n) = x.fst ∧ IntKind.i64.wrap ((0 : Int) - d) = x.snd ∧ True) ∧
 (x.fst.natAbs ≤ (2000000000000000000 : Nat) ∧ (1 : Int) ≤ x.snd ∧ x.snd ≤ (1000000000000000000 : Int)) ∧
 ((Pl.ratV (Pl.least x.fst x.snd)).fst = (Pl.ratV (Pl.least n d)).fst ∧ (Pl.ratV (Pl.least x.fst x.snd)).snd = (Pl.ratV (Pl.least n d)).snd ∧ True) ∧
 (Pl.least x.fst x.snd).isSome = (Pl.least n d).isSome ∧ True)
 (Exists fun (x : Int × Int) =>
 (n = x.fst ∧ d = x.snd ∧ True) ∧
 (x.fst.natAbs ≤ (2000000000000000000 : Nat) ∧ (1 : Int) ≤ x.snd ∧ x.snd ≤ (1000000000000000000 : Int)) ∧
 ((Pl.ratV (Pl.least x.fst x.snd)).fst = (Pl.ratV (Pl.least n d)).fst ∧ (Pl.ratV (Pl.least x.fst x.snd)).snd = (Pl.ratV (Pl.least n d)).snd ∧ True) ∧
 (Pl.least x.fst x.snd).isSome = (Pl.least n d).isSome ∧ True))))) = Goal Tryz.prog [K_l1Abs, K_l1Least] ([]) K_RatOfP.1 K_RatOfP.2 ((n, d)) := by kernel_rfl

theorem vc_l7Value (b : List Int) (p s : Int) : (condP (s == (0 : Int))
 (Exists fun (x : List Int × Int × Int) =>
 Rd (1099511627776 : Int) x.fst x.snd.fst ∧
 (((0 : Nat) = (0 : Nat) ∧ (3 : Int) = x.snd.snd ∧ True) ∧ (Is (byts b) (byts x.fst) ∧ p = x.snd.fst ∧ True) ∧ True) ∧
 ∀ (y : Int),
 ((1 : Int) ≤ x.snd.snd → (0 : Int) ≤ y ∧ y < x.snd.snd) ∧ (x.snd.snd < (1 : Int) → y = (0 : Int)) →
 Exists fun (y_1 : Pl.Rt × Int) =>
 (p ≤ y_1.snd ∧ y_1.snd ≤ p + (2 : Int)) ∧
 ((y = y_1.fst.fst ∧ (1 : Int) = y_1.fst.snd ∧ True) ∧ True) ∧ (Is (byts x.fst) (byts b) ∧ x.snd.fst + (1 : Int) = y_1.snd ∧ True) ∧ True)
 (Exists fun (x : List Int × Int × List Int) =>
 (Rd (1099511627776 : Int) x.fst x.snd.fst ∧ x.snd.snd ≠ [] ∧ Sz x.snd.snd) ∧
 (((0 : Nat) = (0 : Nat) ∧
 Is (AV.lit (6 : Nat) (1 : Nat) (rowsCell [[i64 (0 : Int)], [i64 (1 : Int)], [i64 (2 : Int)], [i64 (-1 : Int)], [i64 (3 : Int)], [i64 (5 : Int)]]))
 (ints x.snd.snd) ∧
 True) ∧
 (Is (byts b) (byts x.fst) ∧ p = x.snd.fst ∧ True) ∧ True) ∧
 ∀ (y : Int),
 y ∈ x.snd.snd →
 Exists fun (x_1 : List Int × Int × List Int) =>
 (Rd (1099511627776 : Int) x_1.fst x_1.snd.fst ∧ x_1.snd.snd ≠ [] ∧ Sz x_1.snd.snd) ∧
 (((0 : Nat) = (0 : Nat) ∧ Is (AV.lit (3 : Nat) (1 : Nat) (rowsCell [[i64 (1 : Int)], [i64 (1 : Int)], [i64 (2 : Int)]])) (ints x_1.snd.snd) ∧ True) ∧
 (Is (byts x.fst) (byts x_1.fst) ∧ x.snd.fst + (1 : Int) = x_1.snd.fst ∧ True) ∧ True) ∧
 ∀ (y_1 : Int),
 y_1 ∈ x_1.snd.snd →
 Exists fun (x : Int × Int) =>
 (y = x.fst ∧ y_1 = x.snd ∧ True) ∧
 (x.fst.natAbs ≤ (1000000000 : Nat) ∧ (1 : Int) ≤ x.snd ∧ x.snd ≤ (1000000000 : Int)) ∧
 condP (!(Pl.least x.fst x.snd).isSome)
 (Exists fun (y : Pl.Rt × Int) =>
 (p ≤ y.snd ∧ y.snd ≤ p + (2 : Int)) ∧
 (((0 : Int) = y.fst.fst ∧ (1 : Int) = y.fst.snd ∧ True) ∧ True) ∧ (Is (byts x_1.fst) (byts b) ∧ x_1.snd.fst + (1 : Int) = y.snd ∧ True) ∧ True)
 (Exists fun (y : Pl.Rt × Int) =>
 (p ≤ y.snd ∧ y.snd ≤ p + (2 : Int)) ∧
 (((Pl.ratV (Pl.least x.fst x.snd)).fst = y.fst.fst ∧ (Pl.ratV (Pl.least x.fst x.snd)).snd = y.fst.snd ∧ True) ∧ True) ∧
 (Is (byts x_1.fst) (byts b) ∧ x_1.snd.fst + (1 : Int) = y.snd ∧ True) ∧ True))) = Goal Tryz.prog [K_pick, K_num, K_RatOfP] ([]) K_l7Value.1 K_l7Value.2 ((b, p, s)) := by kernel_rfl

theorem vc_l4Base (k : Int) : (condP (k == (0 : Int))
 (Is
 (AV.lit (5 : Nat) (3 : Nat)
 (rowsCell
 [[st (ByteArray.mk #[(97 : UInt8)]), AV.lit (0 : Nat) (1 : Nat) fun (x x_1 : Nat) => AV.any, i64 (0 : Int)],
 [st (ByteArray.mk #[(98 : UInt8)]), AV.lit (0 : Nat) (1 : Nat) fun (x x_1 : Nat) => AV.any, i64 (0 : Int)],
 [st (ByteArray.mk #[(99 : UInt8)]), AV.lit (0 : Nat) (1 : Nat) fun (x x_1 : Nat) => AV.any, i64 (0 : Int)],
 [st (ByteArray.mk #[(102 : UInt8)]), AV.lit (1 : Nat) (1 : Nat) (rowsCell [[i64 (0 : Int)]]), i64 (0 : Int)],
 [st (ByteArray.mk #[(103 : UInt8)]), AV.lit (2 : Nat) (1 : Nat) (rowsCell [[i64 (0 : Int)], [i64 (0 : Int)]]), i64 (0 : Int)]]))
 (syms (Pl.base k)) ∧
 True)
 (condP (k == (1 : Int))
 (Is
 (AV.lit (5 : Nat) (3 : Nat)
 (rowsCell
 [[st (ByteArray.mk #[(97 : UInt8)]), AV.lit (0 : Nat) (1 : Nat) fun (x x_1 : Nat) => AV.any, i64 (0 : Int)],
 [st (ByteArray.mk #[(98 : UInt8)]), AV.lit (0 : Nat) (1 : Nat) fun (x x_1 : Nat) => AV.any, i64 (0 : Int)],
 [st (ByteArray.mk #[(104 : UInt8)]), AV.lit (1 : Nat) (1 : Nat) (rowsCell [[i64 (0 : Int)]]), i64 (1 : Int)],
 [st (ByteArray.mk #[(120 : UInt8)]), AV.lit (0 : Nat) (1 : Nat) fun (x x_1 : Nat) => AV.any, i64 (1 : Int)],
 [st (ByteArray.mk #[(121 : UInt8)]), AV.lit (0 : Nat) (1 : Nat) fun (x x_1 : Nat) => AV.any, i64 (1 : Int)]]))
 (syms (Pl.base k)) ∧
 True)
 (condP (k == (2 : Int))
 (Is
 (AV.lit (4 : Nat) (3 : Nat)
 (rowsCell
 [[st (ByteArray.mk #[(107 : UInt8)]), AV.lit (1 : Nat) (1 : Nat) (rowsCell [[i64 (1 : Int)]]), i64 (1 : Int)],
 [st (ByteArray.mk #[(120 : UInt8)]), AV.lit (0 : Nat) (1 : Nat) fun (x x_1 : Nat) => AV.any, i64 (1 : Int)],
 [st (ByteArray.mk #[(121 : UInt8)]), AV.lit (0 : Nat) (1 : Nat) fun (x x_1 : Nat) => AV.any, i64 (1 : Int)],
 [st (ByteArray.mk #[(122 : UInt8)]), AV.lit (0 : Nat) (1 : Nat) fun (x x_1 : Nat) => AV.any, i64 (1 : Int)]]))
 (syms (Pl.base k)) ∧
 True)
 (condP (k == (3 : Int))
 (Is
 (AV.lit (5 : Nat) (3 : Nat)
 (rowsCell
 [[st (ByteArray.mk #[(97 : UInt8)]), AV.lit (0 : Nat) (1 : Nat) fun (x x_1 : Nat) => AV.any, i64 (0 : Int)],
 [st (ByteArray.mk #[(117 : UInt8)]), AV.lit (1 : Nat) (1 : Nat) (rowsCell [[i64 (1 : Int)]]), i64 (0 : Int)],
 [st (ByteArray.mk #[(118 : UInt8)]), AV.lit (2 : Nat) (1 : Nat) (rowsCell [[i64 (1 : Int)], [i64 (0 : Int)]]), i64 (1 : Int)],
 [st (ByteArray.mk #[(120 : UInt8)]), AV.lit (0 : Nat) (1 : Nat) fun (x x_1 : Nat) => AV.any, i64 (1 : Int)],
 [st (ByteArray.mk #[(121 : UInt8)]), AV.lit (0 : Nat) (1 : Nat) fun (x x_1 : Nat) => AV.any, i64 (1 : Int)]]))
 (syms (Pl.base k)) ∧
 True)
 (Is (AV.lit (0 : Nat) (3 : Nat) (rowsCell [])) (syms (Pl.base k)) ∧ True))))) = Goal Tryz.prog [] ([]) K_l4Base.1 K_l4Base.2 (k) := by kernel_rfl

theorem vc_l4Sig (b : List Int) (p : Int) : (Exists fun (x : List Int × Int × List Int) =>
 (Rd (1099511627776 : Int) x.fst x.snd.fst ∧ x.snd.snd ≠ [] ∧ Sz x.snd.snd) ∧
 (((0 : Nat) = (0 : Nat) ∧
 Is
 (AV.lit (8 : Nat) (1 : Nat)
 (rowsCell [[i64 (0 : Int)], [i64 (0 : Int)], [i64 (1 : Int)], [i64 (1 : Int)], [i64 (2 : Int)], [i64 (3 : Int)], [i64 (1 : Int)], [i64 (4 : Int)]]))
 (ints x.snd.snd) ∧
 True) ∧
 (Is (byts b) (byts x.fst) ∧ p = x.snd.fst ∧ True) ∧ True) ∧
 ∀ (y : Int),
 y ∈ x.snd.snd →
 Exists fun (x_1 : Int) =>
 (y = x_1 ∧ True) ∧
 True ∧
 Exists fun (y : Pl.Sig) =>
 Pl.SgB (5 : Nat) (2 : Nat) y ∧ ((Is (syms (Pl.base x_1)) (syms y) ∧ True) ∧ True) ∧ (Is (byts x.fst) (byts b) ∧ x.snd.fst + (1 : Int) = p + (1 : Int) ∧ True) ∧ True) = Goal Tryz.prog [K_num, K_l4Base] ([]) K_l4Sig.1 K_l4Sig.2 ((b, p)) := by kernel_rfl

theorem vc_l7Any (b : List Int) (p : Int) (s : Pl.Sig) : ((Exists fun (x : Nat × Pl.Mdl × Int) =>
 (x.fst ≤ List.length s ∧ Pl.MdB ((3 : Nat) * x.fst) (2 : Nat) x.snd.fst ∧ p ≤ x.snd.snd ∧ x.snd.snd ≤ p + (100 : Int) * (↑x.fst : Int)) ∧
 ((0 : Nat) = (0 : Nat) ∧
 (0 : Nat) = (0 : Nat) ∧ (0 : Nat) = (0 : Nat) ∧ ((0 : Nat) = (0 : Nat) ∧ (0 : Nat) = (0 : Nat) ∧ List.length x.snd.fst = (0 : Nat)) ∧ (0 : Int) = (↑x.fst : Int) ∧ True) ∧
 (Is (byts b) (byts b) ∧ p = x.snd.snd ∧ True) ∧
 (Is (syms s) (syms s) ∧ True) ∧ (Is (AV.lit (0 : Nat) (1 : Nat) fun (x x_1 : Nat) => AV.any) nilA ∧ True) ∧ List.length x.snd.fst = (0 : Nat) ∧ True) ∧
 ∀ (x : Nat × Pl.Mdl × Int),
 x.fst ≤ List.length s ∧ Pl.MdB ((3 : Nat) * x.fst) (2 : Nat) x.snd.fst ∧ p ≤ x.snd.snd ∧ x.snd.snd ≤ p + (100 : Int) * (↑x.fst : Int) →
 condP (Decidable.decide ((↑x.fst : Int) < (↑(List.length s) : Int)))
 (Exists fun (x_1 : List Int × Int × List Int) =>
 (Rd (1099511627776 : Int) x_1.fst x_1.snd.fst ∧ x_1.snd.snd ≠ [] ∧ Sz x_1.snd.snd) ∧
 (((0 : Nat) = (0 : Nat) ∧ Is (AV.lit (3 : Nat) (1 : Nat) (rowsCell [[i64 (1 : Int)], [i64 (2 : Int)], [i64 (3 : Int)]])) (ints x_1.snd.snd) ∧ True) ∧
 (Is (byts b) (byts x_1.fst) ∧ x.snd.snd = x_1.snd.fst ∧ True) ∧ True) ∧
 ∀ (y : Int),
 y ∈ x_1.snd.snd →
 (Exists fun (x_2 : Int × Pl.Mdl × Int) =>
 ((0 : Int) ≤ x_2.fst ∧
 x_2.fst ≤ (3 : Int) ∧
 Pl.MdB ((3 : Nat) * x.fst + (3 : Nat) - x_2.fst.toNat) (2 : Nat) x_2.snd.fst ∧
 p ≤ x_2.snd.snd ∧ x_2.snd.snd ≤ p + (100 : Int) * (↑x.fst : Int) + (1 : Int) + (30 : Int) * ((3 : Int) - x_2.fst)) ∧
 ((0 : Nat) = (0 : Nat) ∧
 (0 : Nat) = (0 : Nat) ∧
 (0 : Nat) = (0 : Nat) ∧ ((0 : Nat) = (0 : Nat) ∧ List.length x.snd.fst = List.length x_2.snd.fst) ∧ (↑x.fst : Int) = (↑x.fst : Int) ∧ y = x_2.fst ∧ True) ∧
 (Is (byts x_1.fst) (byts b) ∧ x_1.snd.fst + (1 : Int) = x_2.snd.snd ∧ True) ∧
 (Is (syms s) (syms s) ∧ True) ∧
 (Is (AV.lit (0 : Nat) (1 : Nat) fun (x x_3 : Nat) => AV.any) nilA ∧ True) ∧ IsO (xrR x.snd.fst) (xrR x_2.snd.fst) ∧ True) ∧
 ∀ (x_2 : Int × Pl.Mdl × Int),
 (0 : Int) ≤ x_2.fst ∧
 x_2.fst ≤ (3 : Int) ∧
 Pl.MdB ((3 : Nat) * x.fst + (3 : Nat) - x_2.fst.toNat) (2 : Nat) x_2.snd.fst ∧
 p ≤ x_2.snd.snd ∧ x_2.snd.snd ≤ p + (100 : Int) * (↑x.fst : Int) + (1 : Int) + (30 : Int) * ((3 : Int) - x_2.fst) →
 condP (Decidable.decide (x_2.fst > (0 : Int)))
 ((((0 : Int) ≤ (↑x.fst : Int) ∧ (↑x.fst : Int) < (↑(List.length s) : Int)) ∧
 x.fst < List.length s ∧
 (((0 : Int) ≤ (↑x.fst : Int) ∧ (↑x.fst : Int) < (↑(List.length s) : Int)) ∧
 x.fst < List.length s ∧
 (Exists fun (x_3 : List Int × Int × Int) =>
 Rd (549755813888 : Int) x_3.fst x_3.snd.fst ∧
 (((0 : Nat) = (0 : Nat) ∧ (List.getD s x.fst Pl.dY).snd.snd = x_3.snd.snd ∧ True) ∧
 (Is (byts b) (byts x_3.fst) ∧ x_2.snd.snd = x_3.snd.fst ∧ True) ∧ True) ∧
 ∀ (y : Pl.Rt × Int),
 x_3.snd.fst ≤ y.snd ∧ y.snd ≤ x_3.snd.fst + (2 : Int) →
 (Exists fun (x_4 : Nat × List Pl.Rt × Pl.Rt × Int) =>
 (x_4.fst ≤ (List.getD s x.fst Pl.dY).snd.fst.length ∧
 x_4.snd.fst.length = x_4.fst ∧
 p ≤ x_4.snd.snd.snd ∧
 x_4.snd.snd.snd ≤ p + (100 : Int) * (↑x.fst : Int) + (3 : Int) + (30 : Int) * ((3 : Int) - x_2.fst) + (2 : Int) * (↑x_4.fst : Int)) ∧
 ((0 : Nat) = (0 : Nat) ∧
 (0 : Nat) = (0 : Nat) ∧
 (0 : Nat) = (0 : Nat) ∧
 ((0 : Nat) = (0 : Nat) ∧ List.length x_2.snd.fst = List.length x_2.snd.fst) ∧
 (↑x.fst : Int) = (↑x.fst : Int) ∧ x_2.fst = x_2.fst ∧ (0 : Nat) = (0 : Nat) ∧ (0 : Int) = (↑x_4.fst : Int) ∧ True) ∧
 (Is (byts x_3.fst) (byts b) ∧ y.snd = x_4.snd.snd.snd ∧ True) ∧
 (Is (syms s) (syms s) ∧ True) ∧
 (Is (AV.lit (0 : Nat) (1 : Nat) fun (x x_5 : Nat) => AV.any) nilA ∧ True) ∧
 IsO (xrR x_2.snd.fst) (xrR x_2.snd.fst) ∧
 ((List.getD s x.fst Pl.dY).fst = (List.getD s x.fst Pl.dY).fst ∧
 ((0 : Nat) = (0 : Nat) ∧ (0 : Nat) = (0 : Nat) ∧ x_4.snd.fst.length = (0 : Nat)) ∧
 y.fst.fst = x_4.snd.snd.fst.fst ∧ y.fst.snd = x_4.snd.snd.fst.snd ∧ True) ∧
 x_4.snd.fst.length = (0 : Nat) ∧ True) ∧
 ∀ (x_4 : Nat × List Pl.Rt × Pl.Rt × Int),
 x_4.fst ≤ (List.getD s x.fst Pl.dY).snd.fst.length ∧
 x_4.snd.fst.length = x_4.fst ∧
 p ≤ x_4.snd.snd.snd ∧
 x_4.snd.snd.snd ≤ p + (100 : Int) * (↑x.fst : Int) + (3 : Int) + (30 : Int) * ((3 : Int) - x_2.fst) + (2 : Int) * (↑x_4.fst : Int) →
 ((0 : Int) ≤ (↑x.fst : Int) ∧ (↑x.fst : Int) < (↑(List.length s) : Int)) ∧
 x.fst < List.length s ∧
 condP (Decidable.decide ((↑x_4.fst : Int) < (↑(List.getD s x.fst Pl.dY).snd.fst.length : Int)))
 ((((0 : Int) ≤ (↑x.fst : Int) ∧ (↑x.fst : Int) < (↑(List.length s) : Int)) ∧
 x.fst < List.length s ∧
 ((0 : Int) ≤ (↑x_4.fst : Int) ∧ (↑x_4.fst : Int) < (↑(List.getD s x.fst Pl.dY).snd.fst.length : Int)) ∧
 x_4.fst < (List.getD s x.fst Pl.dY).snd.fst.length ∧
 Exists fun (x_5 : List Int × Int × Int) =>
 Rd (549755813888 : Int) x_5.fst x_5.snd.fst ∧
 (((0 : Nat) = (0 : Nat) ∧ (List.getD s x.fst Pl.dY).snd.fst.getD x_4.fst (0 : Int) = x_5.snd.snd ∧ True) ∧
 (Is (byts b) (byts x_5.fst) ∧ x_4.snd.snd.snd = x_5.snd.fst ∧ True) ∧ True) ∧
 ∀ (y : Pl.Rt × Int),
 x_5.snd.fst ≤ y.snd ∧ y.snd ≤ x_5.snd.fst + (2 : Int) →
 (0 : Nat) + x_4.snd.fst.length ≤ x_4.snd.fst.length ∧
 (x_4.snd.fst.length + (1 : Nat)) * (16 : Nat) ≤ (70368744177664 : Nat) ∧
 Exists fun (x' : Nat × List Pl.Rt × Pl.Rt × Int) =>
 (x'.fst ≤ (List.getD s x.fst Pl.dY).snd.fst.length ∧
 x'.snd.fst.length = x'.fst ∧
 p ≤ x'.snd.snd.snd ∧
 x'.snd.snd.snd ≤
 p + (100 : Int) * (↑x.fst : Int) + (3 : Int) + (30 : Int) * ((3 : Int) - x_2.fst) +
 (2 : Int) * (↑x'.fst : Int)) ∧
 (List.getD s x.fst Pl.dY).snd.fst.length - x'.fst < (List.getD s x.fst Pl.dY).snd.fst.length - x_4.fst ∧
 ((0 : Nat) = (0 : Nat) ∧
 (0 : Nat) = (0 : Nat) ∧
 (0 : Nat) = (0 : Nat) ∧
 ((0 : Nat) = (0 : Nat) ∧ List.length x_2.snd.fst = List.length x_2.snd.fst) ∧
 (↑x.fst : Int) = (↑x.fst : Int) ∧
 x_2.fst = x_2.fst ∧
 (0 : Nat) = (0 : Nat) ∧
 IntKind.i64.wrap ((↑x_4.fst : Int) + (1 : Int)) = (↑x'.fst : Int) ∧ True) ∧
 (Is (byts x_5.fst) (byts b) ∧ y.snd = x'.snd.snd.snd ∧ True) ∧
 (Is (syms s) (syms s) ∧ True) ∧
 (Is (AV.lit (0 : Nat) (1 : Nat) fun (x x_6 : Nat) => AV.any) nilA ∧ True) ∧
 IsO (xrR x_2.snd.fst) (xrR x_2.snd.fst) ∧
 ((List.getD s x.fst Pl.dY).fst = (List.getD s x.fst Pl.dY).fst ∧
 ((0 : Nat) = (0 : Nat) ∧ x_4.snd.fst.length + (1 : Nat) = x'.snd.fst.length) ∧
 x_4.snd.snd.fst.fst = x'.snd.snd.fst.fst ∧
 x_4.snd.snd.fst.snd = x'.snd.snd.fst.snd ∧ True) ∧
 IsO
 (AObj.arr (x_4.snd.fst.length + (1 : Nat)) (2 : Nat)
 (joinC x_4.snd.fst.length (cQ x_4.snd.fst)
 (rowsCell [[i64 y.fst.fst, i64 y.fst.snd]])))
 (arQ x'.snd.fst) ∧
 True) ∧
 ((0 : Int) ≤ (↑x.fst : Int) ∧ (↑x.fst : Int) < (↑(List.length s) : Int)) ∧
 x.fst < List.length s ∧
 ((0 : Int) ≤ (↑x_4.fst : Int) ∧ (↑x_4.fst : Int) < (↑(List.getD s x.fst Pl.dY).snd.fst.length : Int)) ∧
 x_4.fst < (List.getD s x.fst Pl.dY).snd.fst.length ∧
 (Exists fun (x_5 : List Int × Int × Int) =>
 Rd (549755813888 : Int) x_5.fst x_5.snd.fst ∧
 (((0 : Nat) = (0 : Nat) ∧ (List.getD s x.fst Pl.dY).snd.fst.getD x_4.fst (0 : Int) = x_5.snd.snd ∧ True) ∧
 (Is (byts b) (byts x_5.fst) ∧ x_4.snd.snd.snd = x_5.snd.fst ∧ True) ∧ True) ∧
 ∀ (y : Pl.Rt × Int),
 x_5.snd.fst ≤ y.snd ∧ y.snd ≤ x_5.snd.fst + (2 : Int) →
 (0 : Nat) + x_4.snd.fst.length ≤ x_4.snd.fst.length ∧
 (x_4.snd.fst.length + (1 : Nat)) * (16 : Nat) ≤ (70368744177664 : Nat) ∧
 Exists fun (x' : Nat × List Pl.Rt × Pl.Rt × Int) =>
 (x'.fst ≤ (List.getD s x.fst Pl.dY).snd.fst.length ∧
 x'.snd.fst.length = x'.fst ∧
 p ≤ x'.snd.snd.snd ∧
 x'.snd.snd.snd ≤
 p + (100 : Int) * (↑x.fst : Int) + (3 : Int) + (30 : Int) * ((3 : Int) - x_2.fst) +
 (2 : Int) * (↑x'.fst : Int)) ∧
 (List.getD s x.fst Pl.dY).snd.fst.length - x'.fst < (List.getD s x.fst Pl.dY).snd.fst.length - x_4.fst ∧
 ((0 : Nat) = (0 : Nat) ∧
 (0 : Nat) = (0 : Nat) ∧
 (0 : Nat) = (0 : Nat) ∧
 ((0 : Nat) = (0 : Nat) ∧ List.length x_2.snd.fst = List.length x_2.snd.fst) ∧
 (↑x.fst : Int) = (↑x.fst : Int) ∧
 x_2.fst = x_2.fst ∧
 (0 : Nat) = (0 : Nat) ∧
 IntKind.i64.wrap ((↑x_4.fst : Int) + (1 : Int)) = (↑x'.fst : Int) ∧ True) ∧
 (Is (byts x_5.fst) (byts b) ∧ y.snd = x'.snd.snd.snd ∧ True) ∧
 (Is (syms s) (syms s) ∧ True) ∧
 (Is (AV.lit (0 : Nat) (1 : Nat) fun (x x_6 : Nat) => AV.any) nilA ∧ True) ∧
 IsO (xrR x_2.snd.fst) (xrR x_2.snd.fst) ∧
 ((List.getD s x.fst Pl.dY).fst = (List.getD s x.fst Pl.dY).fst ∧
 ((0 : Nat) = (0 : Nat) ∧ x_4.snd.fst.length + (1 : Nat) = x'.snd.fst.length) ∧
 x_4.snd.snd.fst.fst = x'.snd.snd.fst.fst ∧
 x_4.snd.snd.fst.snd = x'.snd.snd.fst.snd ∧ True) ∧
 IsO
 (AObj.arr (x_4.snd.fst.length + (1 : Nat)) (2 : Nat)
 (joinC x_4.snd.fst.length (cQ x_4.snd.fst)
 (rowsCell [[i64 y.fst.fst, i64 y.fst.snd]])))
 (arQ x'.snd.fst) ∧
 True) ∧
 Exists fun (x_5 : List Int × Int × Int) =>
 Rd (549755813888 : Int) x_5.fst x_5.snd.fst ∧
 (((0 : Nat) = (0 : Nat) ∧ (List.getD s x.fst Pl.dY).snd.fst.getD x_4.fst (0 : Int) = x_5.snd.snd ∧ True) ∧
 (Is (byts b) (byts x_5.fst) ∧ x_4.snd.snd.snd = x_5.snd.fst ∧ True) ∧ True) ∧
 ∀ (y : Pl.Rt × Int),
 x_5.snd.fst ≤ y.snd ∧ y.snd ≤ x_5.snd.fst + (2 : Int) →
 (0 : Nat) + x_4.snd.fst.length ≤ x_4.snd.fst.length ∧
 (x_4.snd.fst.length + (1 : Nat)) * (16 : Nat) ≤ (70368744177664 : Nat) ∧
 Exists fun (x' : Nat × List Pl.Rt × Pl.Rt × Int) =>
 (x'.fst ≤ (List.getD s x.fst Pl.dY).snd.fst.length ∧
 x'.snd.fst.length = x'.fst ∧
 p ≤ x'.snd.snd.snd ∧
 x'.snd.snd.snd ≤
 p + (100 : Int) * (↑x.fst : Int) + (3 : Int) + (30 : Int) * ((3 : Int) - x_2.fst) +
 (2 : Int) * (↑x'.fst : Int)) ∧
 (List.getD s x.fst Pl.dY).snd.fst.length - x'.fst < (List.getD s x.fst Pl.dY).snd.fst.length - x_4.fst ∧
 ((0 : Nat) = (0 : Nat) ∧
 (0 : Nat) = (0 : Nat) ∧
 (0 : Nat) = (0 : Nat) ∧
 ((0 : Nat) = (0 : Nat) ∧ List.length x_2.snd.fst = List.length x_2.snd.fst) ∧
 (↑x.fst : Int) = (↑x.fst : Int) ∧
 x_2.fst = x_2.fst ∧
 (0 : Nat) = (0 : Nat) ∧
 IntKind.i64.wrap ((↑x_4.fst : Int) + (1 : Int)) = (↑x'.fst : Int) ∧ True) ∧
 (Is (byts x_5.fst) (byts b) ∧ y.snd = x'.snd.snd.snd ∧ True) ∧
 (Is (syms s) (syms s) ∧ True) ∧
 (Is (AV.lit (0 : Nat) (1 : Nat) fun (x x_6 : Nat) => AV.any) nilA ∧ True) ∧
 IsO (xrR x_2.snd.fst) (xrR x_2.snd.fst) ∧
 ((List.getD s x.fst Pl.dY).fst = (List.getD s x.fst Pl.dY).fst ∧
 ((0 : Nat) = (0 : Nat) ∧ x_4.snd.fst.length + (1 : Nat) = x'.snd.fst.length) ∧
 x_4.snd.snd.fst.fst = x'.snd.snd.fst.fst ∧
 x_4.snd.snd.fst.snd = x'.snd.snd.fst.snd ∧ True) ∧
 IsO
 (AObj.arr (x_4.snd.fst.length + (1 : Nat)) (2 : Nat)
 (joinC x_4.snd.fst.length (cQ x_4.snd.fst)
 (rowsCell [[i64 y.fst.fst, i64 y.fst.snd]])))
 (arQ x'.snd.fst) ∧
 True)
 (Exists fun (x_5 : List Pl.Rw × Pl.Rw) =>
 (x_5.fst.length ≤ (1000 : Nat) ∧
 (∀ (y : Pl.Rw), y ∈ x_5.fst → y.snd.fst.length ≤ (1000 : Nat)) ∧ x_5.snd.snd.fst.length ≤ (1000 : Nat)) ∧
 ((((0 : Nat) = (0 : Nat) ∧ List.length x_2.snd.fst = x_5.fst.length) ∧
 ((List.getD s x.fst Pl.dY).fst = x_5.snd.fst ∧
 ((0 : Nat) = (0 : Nat) ∧ x_4.snd.fst.length = x_5.snd.snd.fst.length) ∧
 x_4.snd.snd.fst.fst = x_5.snd.snd.snd.fst ∧ x_4.snd.snd.fst.snd = x_5.snd.snd.snd.snd ∧ True) ∧
 True) ∧
 IsO (xrR x_2.snd.fst) (xrR x_5.fst) ∧ IsO (arQ x_4.snd.fst) (arQ x_5.snd.snd.fst) ∧ True) ∧
 ∀ (y : List Nat),
 HPut x_5.fst.length y →
 Exists fun (x' : Int × Pl.Mdl × Int) =>
 ((0 : Int) ≤ x'.fst ∧
 x'.fst ≤ (3 : Int) ∧
 Pl.MdB ((3 : Nat) * x.fst + (3 : Nat) - x'.fst.toNat) (2 : Nat) x'.snd.fst ∧
 p ≤ x'.snd.snd ∧ x'.snd.snd ≤ p + (100 : Int) * (↑x.fst : Int) + (1 : Int) + (30 : Int) * ((3 : Int) - x'.fst)) ∧
 x'.fst.toNat < x_2.fst.toNat ∧
 ((0 : Nat) = (0 : Nat) ∧
 (0 : Nat) = (0 : Nat) ∧
 (0 : Nat) = (0 : Nat) ∧
 ((0 : Nat) = (0 : Nat) ∧ y.length = List.length x'.snd.fst) ∧
 (↑x.fst : Int) = (↑x.fst : Int) ∧ IntKind.i64.wrap (x_2.fst - (1 : Int)) = x'.fst ∧ True) ∧
 (Is (byts b) (byts b) ∧ x_4.snd.snd.snd = x'.snd.snd ∧ True) ∧
 (Is (syms s) (syms s) ∧ True) ∧
 (Is (AV.lit (0 : Nat) (1 : Nat) fun (x x_6 : Nat) => AV.any) nilA ∧ True) ∧
 IsO (xrR (List.map (fun (i : Nat) => (x_5.fst ++ [x_5.snd]).getD i Pl.dR) y)) (xrR x'.snd.fst) ∧ True)) ∧
 Exists fun (x_3 : List Int × Int × Int) =>
 Rd (549755813888 : Int) x_3.fst x_3.snd.fst ∧
 (((0 : Nat) = (0 : Nat) ∧ (List.getD s x.fst Pl.dY).snd.snd = x_3.snd.snd ∧ True) ∧
 (Is (byts b) (byts x_3.fst) ∧ x_2.snd.snd = x_3.snd.fst ∧ True) ∧ True) ∧
 ∀ (y : Pl.Rt × Int),
 x_3.snd.fst ≤ y.snd ∧ y.snd ≤ x_3.snd.fst + (2 : Int) →
 (Exists fun (x_4 : Nat × List Pl.Rt × Pl.Rt × Int) =>
 (x_4.fst ≤ (List.getD s x.fst Pl.dY).snd.fst.length ∧
 x_4.snd.fst.length = x_4.fst ∧
 p ≤ x_4.snd.snd.snd ∧
 x_4.snd.snd.snd ≤ p + (100 : Int) * (↑x.fst : Int) + (3 : Int) + (30 : Int) * ((3 : Int) - x_2.fst) + (2 : Int) * (↑x_4.fst : Int)) ∧
 ((0 : Nat) = (0 : Nat) ∧
 (0 : Nat) = (0 : Nat) ∧
 (0 : Nat) = (0 : Nat) ∧
 ((0 : Nat) = (0 : Nat) ∧ List.length x_2.snd.fst = List.length x_2.snd.fst) ∧
 (↑x.fst : Int) = (↑x.fst : Int) ∧ x_2.fst = x_2.fst ∧ (0 : Nat) = (0 : Nat) ∧ (0 : Int) = (↑x_4.fst : Int) ∧ True) ∧
 (Is (byts x_3.fst) (byts b) ∧ y.snd = x_4.snd.snd.snd ∧ True) ∧
 (Is (syms s) (syms s) ∧ True) ∧
 (Is (AV.lit (0 : Nat) (1 : Nat) fun (x x_5 : Nat) => AV.any) nilA ∧ True) ∧
 IsO (xrR x_2.snd.fst) (xrR x_2.snd.fst) ∧
 ((List.getD s x.fst Pl.dY).fst = (List.getD s x.fst Pl.dY).fst ∧
 ((0 : Nat) = (0 : Nat) ∧ (0 : Nat) = (0 : Nat) ∧ x_4.snd.fst.length = (0 : Nat)) ∧
 y.fst.fst = x_4.snd.snd.fst.fst ∧ y.fst.snd = x_4.snd.snd.fst.snd ∧ True) ∧
 x_4.snd.fst.length = (0 : Nat) ∧ True) ∧
 ∀ (x_4 : Nat × List Pl.Rt × Pl.Rt × Int),
 x_4.fst ≤ (List.getD s x.fst Pl.dY).snd.fst.length ∧
 x_4.snd.fst.length = x_4.fst ∧
 p ≤ x_4.snd.snd.snd ∧
 x_4.snd.snd.snd ≤ p + (100 : Int) * (↑x.fst : Int) + (3 : Int) + (30 : Int) * ((3 : Int) - x_2.fst) + (2 : Int) * (↑x_4.fst : Int) →
 ((0 : Int) ≤ (↑x.fst : Int) ∧ (↑x.fst : Int) < (↑(List.length s) : Int)) ∧
 x.fst < List.length s ∧
 condP (Decidable.decide ((↑x_4.fst : Int) < (↑(List.getD s x.fst Pl.dY).snd.fst.length : Int)))
 ((((0 : Int) ≤ (↑x.fst : Int) ∧ (↑x.fst : Int) < (↑(List.length s) : Int)) ∧
 x.fst < List.length s ∧
 ((0 : Int) ≤ (↑x_4.fst : Int) ∧ (↑x_4.fst : Int) < (↑(List.getD s x.fst Pl.dY).snd.fst.length : Int)) ∧
 x_4.fst < (List.getD s x.fst Pl.dY).snd.fst.length ∧
 Exists fun (x_5 : List Int × Int × Int) =>
 Rd (549755813888 : Int) x_5.fst x_5.snd.fst ∧
 (((0 : Nat) = (0 : Nat) ∧ (List.getD s x.fst Pl.dY).snd.fst.getD x_4.fst (0 : Int) = x_5.snd.snd ∧ True) ∧
 (Is (byts b) (byts x_5.fst) ∧ x_4.snd.snd.snd = x_5.snd.fst ∧ True) ∧ True) ∧
 ∀ (y : Pl.Rt × Int),
 x_5.snd.fst ≤ y.snd ∧ y.snd ≤ x_5.snd.fst + (2 : Int) →
 (0 : Nat) + x_4.snd.fst.length ≤ x_4.snd.fst.length ∧
 (x_4.snd.fst.length + (1 : Nat)) * (16 : Nat) ≤ (70368744177664 : Nat) ∧
 Exists fun (x' : Nat × List Pl.Rt × Pl.Rt × Int) =>
 (x'.fst ≤ (List.getD s x.fst Pl.dY).snd.fst.length ∧
 x'.snd.fst.length = x'.fst ∧
 p ≤ x'.snd.snd.snd ∧
 x'.snd.snd.snd ≤
 p + (100 : Int) * (↑x.fst : Int) + (3 : Int) + (30 : Int) * ((3 : Int) - x_2.fst) +
 (2 : Int) * (↑x'.fst : Int)) ∧
 (List.getD s x.fst Pl.dY).snd.fst.length - x'.fst < (List.getD s x.fst Pl.dY).snd.fst.length - x_4.fst ∧
 ((0 : Nat) = (0 : Nat) ∧
 (0 : Nat) = (0 : Nat) ∧
 (0 : Nat) = (0 : Nat) ∧
 ((0 : Nat) = (0 : Nat) ∧ List.length x_2.snd.fst = List.length x_2.snd.fst) ∧
 (↑x.fst : Int) = (↑x.fst : Int) ∧
 x_2.fst = x_2.fst ∧
 (0 : Nat) = (0 : Nat) ∧
 IntKind.i64.wrap ((↑x_4.fst : Int) + (1 : Int)) = (↑x'.fst : Int) ∧ True) ∧
 (Is (byts x_5.fst) (byts b) ∧ y.snd = x'.snd.snd.snd ∧ True) ∧
 (Is (syms s) (syms s) ∧ True) ∧
 (Is (AV.lit (0 : Nat) (1 : Nat) fun (x x_6 : Nat) => AV.any) nilA ∧ True) ∧
 IsO (xrR x_2.snd.fst) (xrR x_2.snd.fst) ∧
 ((List.getD s x.fst Pl.dY).fst = (List.getD s x.fst Pl.dY).fst ∧
 ((0 : Nat) = (0 : Nat) ∧ x_4.snd.fst.length + (1 : Nat) = x'.snd.fst.length) ∧
 x_4.snd.snd.fst.fst = x'.snd.snd.fst.fst ∧
 x_4.snd.snd.fst.snd = x'.snd.snd.fst.snd ∧ True) ∧
 IsO
 (AObj.arr (x_4.snd.fst.length + (1 : Nat)) (2 : Nat)
 (joinC x_4.snd.fst.length (cQ x_4.snd.fst)
 (rowsCell [[i64 y.fst.fst, i64 y.fst.snd]])))
 (arQ x'.snd.fst) ∧
 True) ∧
 ((0 : Int) ≤ (↑x.fst : Int) ∧ (↑x.fst : Int) < (↑(List.length s) : Int)) ∧
 x.fst < List.length s ∧
 ((0 : Int) ≤ (↑x_4.fst : Int) ∧ (↑x_4.fst : Int) < (↑(List.getD s x.fst Pl.dY).snd.fst.length : Int)) ∧
 x_4.fst < (List.getD s x.fst Pl.dY).snd.fst.length ∧
 (Exists fun (x_5 : List Int × Int × Int) =>
 Rd (549755813888 : Int) x_5.fst x_5.snd.fst ∧
 (((0 : Nat) = (0 : Nat) ∧ (List.getD s x.fst Pl.dY).snd.fst.getD x_4.fst (0 : Int) = x_5.snd.snd ∧ True) ∧
 (Is (byts b) (byts x_5.fst) ∧ x_4.snd.snd.snd = x_5.snd.fst ∧ True) ∧ True) ∧
 ∀ (y : Pl.Rt × Int),
 x_5.snd.fst ≤ y.snd ∧ y.snd ≤ x_5.snd.fst + (2 : Int) →
 (0 : Nat) + x_4.snd.fst.length ≤ x_4.snd.fst.length ∧
 (x_4.snd.fst.length + (1 : Nat)) * (16 : Nat) ≤ (70368744177664 : Nat) ∧
 Exists fun (x' : Nat × List Pl.Rt × Pl.Rt × Int) =>
 (x'.fst ≤ (List.getD s x.fst Pl.dY).snd.fst.length ∧
 x'.snd.fst.length = x'.fst ∧
 p ≤ x'.snd.snd.snd ∧
 x'.snd.snd.snd ≤
 p + (100 : Int) * (↑x.fst : Int) + (3 : Int) + (30 : Int) * ((3 : Int) - x_2.fst) +
 (2 : Int) * (↑x'.fst : Int)) ∧
 (List.getD s x.fst Pl.dY).snd.fst.length - x'.fst < (List.getD s x.fst Pl.dY).snd.fst.length - x_4.fst ∧
 ((0 : Nat) = (0 : Nat) ∧
 (0 : Nat) = (0 : Nat) ∧
 (0 : Nat) = (0 : Nat) ∧
 ((0 : Nat) = (0 : Nat) ∧ List.length x_2.snd.fst = List.length x_2.snd.fst) ∧
 (↑x.fst : Int) = (↑x.fst : Int) ∧
 x_2.fst = x_2.fst ∧
 (0 : Nat) = (0 : Nat) ∧
 IntKind.i64.wrap ((↑x_4.fst : Int) + (1 : Int)) = (↑x'.fst : Int) ∧ True) ∧
 (Is (byts x_5.fst) (byts b) ∧ y.snd = x'.snd.snd.snd ∧ True) ∧
 (Is (syms s) (syms s) ∧ True) ∧
 (Is (AV.lit (0 : Nat) (1 : Nat) fun (x x_6 : Nat) => AV.any) nilA ∧ True) ∧
 IsO (xrR x_2.snd.fst) (xrR x_2.snd.fst) ∧
 ((List.getD s x.fst Pl.dY).fst = (List.getD s x.fst Pl.dY).fst ∧
 ((0 : Nat) = (0 : Nat) ∧ x_4.snd.fst.length + (1 : Nat) = x'.snd.fst.length) ∧
 x_4.snd.snd.fst.fst = x'.snd.snd.fst.fst ∧
 x_4.snd.snd.fst.snd = x'.snd.snd.fst.snd ∧ True) ∧
 IsO
 (AObj.arr (x_4.snd.fst.length + (1 : Nat)) (2 : Nat)
 (joinC x_4.snd.fst.length (cQ x_4.snd.fst)
 (rowsCell [[i64 y.fst.fst, i64 y.fst.snd]])))
 (arQ x'.snd.fst) ∧
 True) ∧
 Exists fun (x_5 : List Int × Int × Int) =>
 Rd (549755813888 : Int) x_5.fst x_5.snd.fst ∧
 (((0 : Nat) = (0 : Nat) ∧ (List.getD s x.fst Pl.dY).snd.fst.getD x_4.fst (0 : Int) = x_5.snd.snd ∧ True) ∧
 (Is (byts b) (byts x_5.fst) ∧ x_4.snd.snd.snd = x_5.snd.fst ∧ True) ∧ True) ∧
 ∀ (y : Pl.Rt × Int),
 x_5.snd.fst ≤ y.snd ∧ y.snd ≤ x_5.snd.fst + (2 : Int) →
 (0 : Nat) + x_4.snd.fst.length ≤ x_4.snd.fst.length ∧
 (x_4.snd.fst.length + (1 : Nat)) * (16 : Nat) ≤ (70368744177664 : Nat) ∧
 Exists fun (x' : Nat × List Pl.Rt × Pl.Rt × Int) =>
 (x'.fst ≤ (List.getD s x.fst Pl.dY).snd.fst.length ∧
 x'.snd.fst.length = x'.fst ∧
 p ≤ x'.snd.snd.snd ∧
 x'.snd.snd.snd ≤
 p + (100 : Int) * (↑x.fst : Int) + (3 : Int) + (30 : Int) * ((3 : Int) - x_2.fst) +
 (2 : Int) * (↑x'.fst : Int)) ∧
 (List.getD s x.fst Pl.dY).snd.fst.length - x'.fst < (List.getD s x.fst Pl.dY).snd.fst.length - x_4.fst ∧
 ((0 : Nat) = (0 : Nat) ∧
 (0 : Nat) = (0 : Nat) ∧
 (0 : Nat) = (0 : Nat) ∧
 ((0 : Nat) = (0 : Nat) ∧ List.length x_2.snd.fst = List.length x_2.snd.fst) ∧
 (↑x.fst : Int) = (↑x.fst : Int) ∧
 x_2.fst = x_2.fst ∧
 (0 : Nat) = (0 : Nat) ∧
 IntKind.i64.wrap ((↑x_4.fst : Int) + (1 : Int)) = (↑x'.fst : Int) ∧ True) ∧
 (Is (byts x_5.fst) (byts b) ∧ y.snd = x'.snd.snd.snd ∧ True) ∧
 (Is (syms s) (syms s) ∧ True) ∧
 (Is (AV.lit (0 : Nat) (1 : Nat) fun (x x_6 : Nat) => AV.any) nilA ∧ True) ∧
 IsO (xrR x_2.snd.fst) (xrR x_2.snd.fst) ∧
 ((List.getD s x.fst Pl.dY).fst = (List.getD s x.fst Pl.dY).fst ∧
 ((0 : Nat) = (0 : Nat) ∧ x_4.snd.fst.length + (1 : Nat) = x'.snd.fst.length) ∧
 x_4.snd.snd.fst.fst = x'.snd.snd.fst.fst ∧
 x_4.snd.snd.fst.snd = x'.snd.snd.fst.snd ∧ True) ∧
 IsO
 (AObj.arr (x_4.snd.fst.length + (1 : Nat)) (2 : Nat)
 (joinC x_4.snd.fst.length (cQ x_4.snd.fst)
 (rowsCell [[i64 y.fst.fst, i64 y.fst.snd]])))
 (arQ x'.snd.fst) ∧
 True)
 (Exists fun (x_5 : List Pl.Rw × Pl.Rw) =>
 (x_5.fst.length ≤ (1000 : Nat) ∧
 (∀ (y : Pl.Rw), y ∈ x_5.fst → y.snd.fst.length ≤ (1000 : Nat)) ∧ x_5.snd.snd.fst.length ≤ (1000 : Nat)) ∧
 ((((0 : Nat) = (0 : Nat) ∧ List.length x_2.snd.fst = x_5.fst.length) ∧
 ((List.getD s x.fst Pl.dY).fst = x_5.snd.fst ∧
 ((0 : Nat) = (0 : Nat) ∧ x_4.snd.fst.length = x_5.snd.snd.fst.length) ∧
 x_4.snd.snd.fst.fst = x_5.snd.snd.snd.fst ∧ x_4.snd.snd.fst.snd = x_5.snd.snd.snd.snd ∧ True) ∧
 True) ∧
 IsO (xrR x_2.snd.fst) (xrR x_5.fst) ∧ IsO (arQ x_4.snd.fst) (arQ x_5.snd.snd.fst) ∧ True) ∧
 ∀ (y : List Nat),
 HPut x_5.fst.length y →
 Exists fun (x' : Int × Pl.Mdl × Int) =>
 ((0 : Int) ≤ x'.fst ∧
 x'.fst ≤ (3 : Int) ∧
 Pl.MdB ((3 : Nat) * x.fst + (3 : Nat) - x'.fst.toNat) (2 : Nat) x'.snd.fst ∧
 p ≤ x'.snd.snd ∧ x'.snd.snd ≤ p + (100 : Int) * (↑x.fst : Int) + (1 : Int) + (30 : Int) * ((3 : Int) - x'.fst)) ∧
 x'.fst.toNat < x_2.fst.toNat ∧
 ((0 : Nat) = (0 : Nat) ∧
 (0 : Nat) = (0 : Nat) ∧
 (0 : Nat) = (0 : Nat) ∧
 ((0 : Nat) = (0 : Nat) ∧ y.length = List.length x'.snd.fst) ∧
 (↑x.fst : Int) = (↑x.fst : Int) ∧ IntKind.i64.wrap (x_2.fst - (1 : Int)) = x'.fst ∧ True) ∧
 (Is (byts b) (byts b) ∧ x_4.snd.snd.snd = x'.snd.snd ∧ True) ∧
 (Is (syms s) (syms s) ∧ True) ∧
 (Is (AV.lit (0 : Nat) (1 : Nat) fun (x x_6 : Nat) => AV.any) nilA ∧ True) ∧
 IsO (xrR (List.map (fun (i : Nat) => (x_5.fst ++ [x_5.snd]).getD i Pl.dR) y)) (xrR x'.snd.fst) ∧ True)) ∧
 ((0 : Int) ≤ (↑x.fst : Int) ∧ (↑x.fst : Int) < (↑(List.length s) : Int)) ∧
 x.fst < List.length s ∧
 Exists fun (x_3 : List Int × Int × Int) =>
 Rd (549755813888 : Int) x_3.fst x_3.snd.fst ∧
 (((0 : Nat) = (0 : Nat) ∧ (List.getD s x.fst Pl.dY).snd.snd = x_3.snd.snd ∧ True) ∧
 (Is (byts b) (byts x_3.fst) ∧ x_2.snd.snd = x_3.snd.fst ∧ True) ∧ True) ∧
 ∀ (y : Pl.Rt × Int),
 x_3.snd.fst ≤ y.snd ∧ y.snd ≤ x_3.snd.fst + (2 : Int) →
 (Exists fun (x_4 : Nat × List Pl.Rt × Pl.Rt × Int) =>
 (x_4.fst ≤ (List.getD s x.fst Pl.dY).snd.fst.length ∧
 x_4.snd.fst.length = x_4.fst ∧
 p ≤ x_4.snd.snd.snd ∧
 x_4.snd.snd.snd ≤ p + (100 : Int) * (↑x.fst : Int) + (3 : Int) + (30 : Int) * ((3 : Int) - x_2.fst) + (2 : Int) * (↑x_4.fst : Int)) ∧
 ((0 : Nat) = (0 : Nat) ∧
 (0 : Nat) = (0 : Nat) ∧
 (0 : Nat) = (0 : Nat) ∧
 ((0 : Nat) = (0 : Nat) ∧ List.length x_2.snd.fst = List.length x_2.snd.fst) ∧
 (↑x.fst : Int) = (↑x.fst : Int) ∧ x_2.fst = x_2.fst ∧ (0 : Nat) = (0 : Nat) ∧ (0 : Int) = (↑x_4.fst : Int) ∧ True) ∧
 (Is (byts x_3.fst) (byts b) ∧ y.snd = x_4.snd.snd.snd ∧ True) ∧
 (Is (syms s) (syms s) ∧ True) ∧
 (Is (AV.lit (0 : Nat) (1 : Nat) fun (x x_5 : Nat) => AV.any) nilA ∧ True) ∧
 IsO (xrR x_2.snd.fst) (xrR x_2.snd.fst) ∧
 ((List.getD s x.fst Pl.dY).fst = (List.getD s x.fst Pl.dY).fst ∧
 ((0 : Nat) = (0 : Nat) ∧ (0 : Nat) = (0 : Nat) ∧ x_4.snd.fst.length = (0 : Nat)) ∧
 y.fst.fst = x_4.snd.snd.fst.fst ∧ y.fst.snd = x_4.snd.snd.fst.snd ∧ True) ∧
 x_4.snd.fst.length = (0 : Nat) ∧ True) ∧
 ∀ (x_4 : Nat × List Pl.Rt × Pl.Rt × Int),
 x_4.fst ≤ (List.getD s x.fst Pl.dY).snd.fst.length ∧
 x_4.snd.fst.length = x_4.fst ∧
 p ≤ x_4.snd.snd.snd ∧
 x_4.snd.snd.snd ≤ p + (100 : Int) * (↑x.fst : Int) + (3 : Int) + (30 : Int) * ((3 : Int) - x_2.fst) + (2 : Int) * (↑x_4.fst : Int) →
 ((0 : Int) ≤ (↑x.fst : Int) ∧ (↑x.fst : Int) < (↑(List.length s) : Int)) ∧
 x.fst < List.length s ∧
 condP (Decidable.decide ((↑x_4.fst : Int) < (↑(List.getD s x.fst Pl.dY).snd.fst.length : Int)))
 ((((0 : Int) ≤ (↑x.fst : Int) ∧ (↑x.fst : Int) < (↑(List.length s) : Int)) ∧
 x.fst < List.length s ∧
 ((0 : Int) ≤ (↑x_4.fst : Int) ∧ (↑x_4.fst : Int) < (↑(List.getD s x.fst Pl.dY).snd.fst.length : Int)) ∧
 x_4.fst < (List.getD s x.fst Pl.dY).snd.fst.length ∧
 Exists fun (x_5 : List Int × Int × Int) =>
 Rd (549755813888 : Int) x_5.fst x_5.snd.fst ∧
 (((0 : Nat) = (0 : Nat) ∧ (List.getD s x.fst Pl.dY).snd.fst.getD x_4.fst (0 : Int) = x_5.snd.snd ∧ True) ∧
 (Is (byts b) (byts x_5.fst) ∧ x_4.snd.snd.snd = x_5.snd.fst ∧ True) ∧ True) ∧
 ∀ (y : Pl.Rt × Int),
 x_5.snd.fst ≤ y.snd ∧ y.snd ≤ x_5.snd.fst + (2 : Int) →
 (0 : Nat) + x_4.snd.fst.length ≤ x_4.snd.fst.length ∧
 (x_4.snd.fst.length + (1 : Nat)) * (16 : Nat) ≤ (70368744177664 : Nat) ∧
 Exists fun (x' : Nat × List Pl.Rt × Pl.Rt × Int) =>
 (x'.fst ≤ (List.getD s x.fst Pl.dY).snd.fst.length ∧
 x'.snd.fst.length = x'.fst ∧
 p ≤ x'.snd.snd.snd ∧
 x'.snd.snd.snd ≤
 p + (100 : Int) * (↑x.fst : Int) + (3 : Int) + (30 : Int) * ((3 : Int) - x_2.fst) +
 (2 : Int) * (↑x'.fst : Int)) ∧
 (List.getD s x.fst Pl.dY).snd.fst.length - x'.fst < (List.getD s x.fst Pl.dY).snd.fst.length - x_4.fst ∧
 ((0 : Nat) = (0 : Nat) ∧
 (0 : Nat) = (0 : Nat) ∧
 (0 : Nat) = (0 : Nat) ∧
 ((0 : Nat) = (0 : Nat) ∧ List.length x_2.snd.fst = List.length x_2.snd.fst) ∧
 (↑x.fst : Int) = (↑x.fst : Int) ∧
 x_2.fst = x_2.fst ∧
 (0 : Nat) = (0 : Nat) ∧
 IntKind.i64.wrap ((↑x_4.fst : Int) + (1 : Int)) = (↑x'.fst : Int) ∧ True) ∧
 (Is (byts x_5.fst) (byts b) ∧ y.snd = x'.snd.snd.snd ∧ True) ∧
 (Is (syms s) (syms s) ∧ True) ∧
 (Is (AV.lit (0 : Nat) (1 : Nat) fun (x x_6 : Nat) => AV.any) nilA ∧ True) ∧
 IsO (xrR x_2.snd.fst) (xrR x_2.snd.fst) ∧
 ((List.getD s x.fst Pl.dY).fst = (List.getD s x.fst Pl.dY).fst ∧
 ((0 : Nat) = (0 : Nat) ∧ x_4.snd.fst.length + (1 : Nat) = x'.snd.fst.length) ∧
 x_4.snd.snd.fst.fst = x'.snd.snd.fst.fst ∧ x_4.snd.snd.fst.snd = x'.snd.snd.fst.snd ∧ True) ∧
 IsO
 (AObj.arr (x_4.snd.fst.length + (1 : Nat)) (2 : Nat)
 (joinC x_4.snd.fst.length (cQ x_4.snd.fst)
 (rowsCell [[i64 y.fst.fst, i64 y.fst.snd]])))
 (arQ x'.snd.fst) ∧
 True) ∧
 ((0 : Int) ≤ (↑x.fst : Int) ∧ (↑x.fst : Int) < (↑(List.length s) : Int)) ∧
 x.fst < List.length s ∧
 ((0 : Int) ≤ (↑x_4.fst : Int) ∧ (↑x_4.fst : Int) < (↑(List.getD s x.fst Pl.dY).snd.fst.length : Int)) ∧
 x_4.fst < (List.getD s x.fst Pl.dY).snd.fst.length ∧
 (Exists fun (x_5 : List Int × Int × Int) =>
 Rd (549755813888 : Int) x_5.fst x_5.snd.fst ∧
 (((0 : Nat) = (0 : Nat) ∧ (List.getD s x.fst Pl.dY).snd.fst.getD x_4.fst (0 : Int) = x_5.snd.snd ∧ True) ∧
 (Is (byts b) (byts x_5.fst) ∧ x_4.snd.snd.snd = x_5.snd.fst ∧ True) ∧ True) ∧
 ∀ (y : Pl.Rt × Int),
 x_5.snd.fst ≤ y.snd ∧ y.snd ≤ x_5.snd.fst + (2 : Int) →
 (0 : Nat) + x_4.snd.fst.length ≤ x_4.snd.fst.length ∧
 (x_4.snd.fst.length + (1 : Nat)) * (16 : Nat) ≤ (70368744177664 : Nat) ∧
 Exists fun (x' : Nat × List Pl.Rt × Pl.Rt × Int) =>
 (x'.fst ≤ (List.getD s x.fst Pl.dY).snd.fst.length ∧
 x'.snd.fst.length = x'.fst ∧
 p ≤ x'.snd.snd.snd ∧
 x'.snd.snd.snd ≤
 p + (100 : Int) * (↑x.fst : Int) + (3 : Int) + (30 : Int) * ((3 : Int) - x_2.fst) +
 (2 : Int) * (↑x'.fst : Int)) ∧
 (List.getD s x.fst Pl.dY).snd.fst.length - x'.fst < (List.getD s x.fst Pl.dY).snd.fst.length - x_4.fst ∧
 ((0 : Nat) = (0 : Nat) ∧
 (0 : Nat) = (0 : Nat) ∧
 (0 : Nat) = (0 : Nat) ∧
 ((0 : Nat) = (0 : Nat) ∧ List.length x_2.snd.fst = List.length x_2.snd.fst) ∧
 (↑x.fst : Int) = (↑x.fst : Int) ∧
 x_2.fst = x_2.fst ∧
 (0 : Nat) = (0 : Nat) ∧
 IntKind.i64.wrap ((↑x_4.fst : Int) + (1 : Int)) = (↑x'.fst : Int) ∧ True) ∧
 (Is (byts x_5.fst) (byts b) ∧ y.snd = x'.snd.snd.snd ∧ True) ∧
 (Is (syms s) (syms s) ∧ True) ∧
 (Is (AV.lit (0 : Nat) (1 : Nat) fun (x x_6 : Nat) => AV.any) nilA ∧ True) ∧
 IsO (xrR x_2.snd.fst) (xrR x_2.snd.fst) ∧
 ((List.getD s x.fst Pl.dY).fst = (List.getD s x.fst Pl.dY).fst ∧
 ((0 : Nat) = (0 : Nat) ∧ x_4.snd.fst.length + (1 : Nat) = x'.snd.fst.length) ∧
 x_4.snd.snd.fst.fst = x'.snd.snd.fst.fst ∧
 x_4.snd.snd.fst.snd = x'.snd.snd.fst.snd ∧ True) ∧
 IsO
 (AObj.arr (x_4.snd.fst.length + (1 : Nat)) (2 : Nat)
 (joinC x_4.snd.fst.length (cQ x_4.snd.fst)
 (rowsCell [[i64 y.fst.fst, i64 y.fst.snd]])))
 (arQ x'.snd.fst) ∧
 True) ∧
 Exists fun (x_5 : List Int × Int × Int) =>
 Rd (549755813888 : Int) x_5.fst x_5.snd.fst ∧
 (((0 : Nat) = (0 : Nat) ∧ (List.getD s x.fst Pl.dY).snd.fst.getD x_4.fst (0 : Int) = x_5.snd.snd ∧ True) ∧
 (Is (byts b) (byts x_5.fst) ∧ x_4.snd.snd.snd = x_5.snd.fst ∧ True) ∧ True) ∧
 ∀ (y : Pl.Rt × Int),
 x_5.snd.fst ≤ y.snd ∧ y.snd ≤ x_5.snd.fst + (2 : Int) →
 (0 : Nat) + x_4.snd.fst.length ≤ x_4.snd.fst.length ∧
 (x_4.snd.fst.length + (1 : Nat)) * (16 : Nat) ≤ (70368744177664 : Nat) ∧
 Exists fun (x' : Nat × List Pl.Rt × Pl.Rt × Int) =>
 (x'.fst ≤ (List.getD s x.fst Pl.dY).snd.fst.length ∧
 x'.snd.fst.length = x'.fst ∧
 p ≤ x'.snd.snd.snd ∧
 x'.snd.snd.snd ≤
 p + (100 : Int) * (↑x.fst : Int) + (3 : Int) + (30 : Int) * ((3 : Int) - x_2.fst) +
 (2 : Int) * (↑x'.fst : Int)) ∧
 (List.getD s x.fst Pl.dY).snd.fst.length - x'.fst < (List.getD s x.fst Pl.dY).snd.fst.length - x_4.fst ∧
 ((0 : Nat) = (0 : Nat) ∧
 (0 : Nat) = (0 : Nat) ∧
 (0 : Nat) = (0 : Nat) ∧
 ((0 : Nat) = (0 : Nat) ∧ List.length x_2.snd.fst = List.length x_2.snd.fst) ∧
 (↑x.fst : Int) = (↑x.fst : Int) ∧
 x_2.fst = x_2.fst ∧
 (0 : Nat) = (0 : Nat) ∧
 IntKind.i64.wrap ((↑x_4.fst : Int) + (1 : Int)) = (↑x'.fst : Int) ∧ True) ∧
 (Is (byts x_5.fst) (byts b) ∧ y.snd = x'.snd.snd.snd ∧ True) ∧
 (Is (syms s) (syms s) ∧ True) ∧
 (Is (AV.lit (0 : Nat) (1 : Nat) fun (x x_6 : Nat) => AV.any) nilA ∧ True) ∧
 IsO (xrR x_2.snd.fst) (xrR x_2.snd.fst) ∧
 ((List.getD s x.fst Pl.dY).fst = (List.getD s x.fst Pl.dY).fst ∧
 ((0 : Nat) = (0 : Nat) ∧ x_4.snd.fst.length + (1 : Nat) = x'.snd.fst.length) ∧
 x_4.snd.snd.fst.fst = x'.snd.snd.fst.fst ∧
 x_4.snd.snd.fst.snd = x'.snd.snd.fst.snd ∧ True) ∧
 IsO
 (AObj.arr (x_4.snd.fst.length + (1 : Nat)) (2 : Nat)
 (joinC x_4.snd.fst.length (cQ x_4.snd.fst)
 (rowsCell [[i64 y.fst.fst, i64 y.fst.snd]])))
 (arQ x'.snd.fst) ∧
 True)
 (Exists fun (x_5 : List Pl.Rw × Pl.Rw) =>
 (x_5.fst.length ≤ (1000 : Nat) ∧ (∀ (y : Pl.Rw), y ∈ x_5.fst → y.snd.fst.length ≤ (1000 : Nat)) ∧ x_5.snd.snd.fst.length ≤ (1000 : Nat)) ∧
 ((((0 : Nat) = (0 : Nat) ∧ List.length x_2.snd.fst = x_5.fst.length) ∧
 ((List.getD s x.fst Pl.dY).fst = x_5.snd.fst ∧
 ((0 : Nat) = (0 : Nat) ∧ x_4.snd.fst.length = x_5.snd.snd.fst.length) ∧
 x_4.snd.snd.fst.fst = x_5.snd.snd.snd.fst ∧ x_4.snd.snd.fst.snd = x_5.snd.snd.snd.snd ∧ True) ∧
 True) ∧
 IsO (xrR x_2.snd.fst) (xrR x_5.fst) ∧ IsO (arQ x_4.snd.fst) (arQ x_5.snd.snd.fst) ∧ True) ∧
 ∀ (y : List Nat),
 HPut x_5.fst.length y →
 Exists fun (x' : Int × Pl.Mdl × Int) =>
 ((0 : Int) ≤ x'.fst ∧
 x'.fst ≤ (3 : Int) ∧
 Pl.MdB ((3 : Nat) * x.fst + (3 : Nat) - x'.fst.toNat) (2 : Nat) x'.snd.fst ∧
 p ≤ x'.snd.snd ∧ x'.snd.snd ≤ p + (100 : Int) * (↑x.fst : Int) + (1 : Int) + (30 : Int) * ((3 : Int) - x'.fst)) ∧
 x'.fst.toNat < x_2.fst.toNat ∧
 ((0 : Nat) = (0 : Nat) ∧
 (0 : Nat) = (0 : Nat) ∧
 (0 : Nat) = (0 : Nat) ∧
 ((0 : Nat) = (0 : Nat) ∧ y.length = List.length x'.snd.fst) ∧
 (↑x.fst : Int) = (↑x.fst : Int) ∧ IntKind.i64.wrap (x_2.fst - (1 : Int)) = x'.fst ∧ True) ∧
 (Is (byts b) (byts b) ∧ x_4.snd.snd.snd = x'.snd.snd ∧ True) ∧
 (Is (syms s) (syms s) ∧ True) ∧
 (Is (AV.lit (0 : Nat) (1 : Nat) fun (x x_6 : Nat) => AV.any) nilA ∧ True) ∧
 IsO (xrR (List.map (fun (i : Nat) => (x_5.fst ++ [x_5.snd]).getD i Pl.dR) y)) (xrR x'.snd.fst) ∧ True)) ∧
 (((0 : Int) ≤ (↑x.fst : Int) ∧ (↑x.fst : Int) < (↑(List.length s) : Int)) ∧
 x.fst < List.length s ∧
 (((0 : Int) ≤ (↑x.fst : Int) ∧ (↑x.fst : Int) < (↑(List.length s) : Int)) ∧
 x.fst < List.length s ∧
 (Exists fun (x_3 : List Int × Int × Int) =>
 Rd (549755813888 : Int) x_3.fst x_3.snd.fst ∧
 (((0 : Nat) = (0 : Nat) ∧ (List.getD s x.fst Pl.dY).snd.snd = x_3.snd.snd ∧ True) ∧
 (Is (byts b) (byts x_3.fst) ∧ x_2.snd.snd = x_3.snd.fst ∧ True) ∧ True) ∧
 ∀ (y : Pl.Rt × Int),
 x_3.snd.fst ≤ y.snd ∧ y.snd ≤ x_3.snd.fst + (2 : Int) →
 (Exists fun (x_4 : Nat × List Pl.Rt × Pl.Rt × Int) =>
 (x_4.fst ≤ (List.getD s x.fst Pl.dY).snd.fst.length ∧
 x_4.snd.fst.length = x_4.fst ∧
 p ≤ x_4.snd.snd.snd ∧
 x_4.snd.snd.snd ≤ p + (100 : Int) * (↑x.fst : Int) + (3 : Int) + (30 : Int) * ((3 : Int) - x_2.fst) + (2 : Int) * (↑x_4.fst : Int)) ∧
 ((0 : Nat) = (0 : Nat) ∧
 (0 : Nat) = (0 : Nat) ∧
 (0 : Nat) = (0 : Nat) ∧
 ((0 : Nat) = (0 : Nat) ∧ List.length x_2.snd.fst = List.length x_2.snd.fst) ∧
 (↑x.fst : Int) = (↑x.fst : Int) ∧ x_2.fst = x_2.fst ∧ (0 : Nat) = (0 : Nat) ∧ (0 : Int) = (↑x_4.fst : Int) ∧ True) ∧
 (Is (byts x_3.fst) (byts b) ∧ y.snd = x_4.snd.snd.snd ∧ True) ∧
 (Is (syms s) (syms s) ∧ True) ∧
 (Is (AV.lit (0 : Nat) (1 : Nat) fun (x x_5 : Nat) => AV.any) nilA ∧ True) ∧
 IsO (xrR x_2.snd.fst) (xrR x_2.snd.fst) ∧
 ((List.getD s x.fst Pl.dY).fst = (List.getD s x.fst Pl.dY).fst ∧
 ((0 : Nat) = (0 : Nat) ∧ (0 : Nat) = (0 : Nat) ∧ x_4.snd.fst.length = (0 : Nat)) ∧
 y.fst.fst = x_4.snd.snd.fst.fst ∧ y.fst.snd = x_4.snd.snd.fst.snd ∧ True) ∧
 x_4.snd.fst.length = (0 : Nat) ∧ True) ∧
 ∀ (x_4 : Nat × List Pl.Rt × Pl.Rt × Int),
 x_4.fst ≤ (List.getD s x.fst Pl.dY).snd.fst.length ∧
 x_4.snd.fst.length = x_4.fst ∧
 p ≤ x_4.snd.snd.snd ∧
 x_4.snd.snd.snd ≤ p + (100 : Int) * (↑x.fst : Int) + (3 : Int) + (30 : Int) * ((3 : Int) - x_2.fst) + (2 : Int) * (↑x_4.fst : Int) →
 ((0 : Int) ≤ (↑x.fst : Int) ∧ (↑x.fst : Int) < (↑(List.length s) : Int)) ∧
 x.fst < List.length s ∧
 condP (Decidable.decide ((↑x_4.fst : Int) < (↑(List.getD s x.fst Pl.dY).snd.fst.length : Int)))
 ((((0 : Int) ≤ (↑x.fst : Int) ∧ (↑x.fst : Int) < (↑(List.length s) : Int)) ∧
 x.fst < List.length s ∧
 ((0 : Int) ≤ (↑x_4.fst : Int) ∧ (↑x_4.fst : Int) < (↑(List.getD s x.fst Pl.dY).snd.fst.length : Int)) ∧
 x_4.fst < (List.getD s x.fst Pl.dY).snd.fst.length ∧
 Exists fun (x_5 : List Int × Int × Int) =>
 Rd (549755813888 : Int) x_5.fst x_5.snd.fst ∧
 (((0 : Nat) = (0 : Nat) ∧ (List.getD s x.fst Pl.dY).snd.fst.getD x_4.fst (0 : Int) = x_5.snd.snd ∧ True) ∧
 (Is (byts b) (byts x_5.fst) ∧ x_4.snd.snd.snd = x_5.snd.fst ∧ True) ∧ True) ∧
 ∀ (y : Pl.Rt × Int),
 x_5.snd.fst ≤ y.snd ∧ y.snd ≤ x_5.snd.fst + (2 : Int) →
 (0 : Nat) + x_4.snd.fst.length ≤ x_4.snd.fst.length ∧
 (x_4.snd.fst.length + (1 : Nat)) * (16 : Nat) ≤ (70368744177664 : Nat) ∧
 Exists fun (x' : Nat × List Pl.Rt × Pl.Rt × Int) =>
 (x'.fst ≤ (List.getD s x.fst Pl.dY).snd.fst.length ∧
 x'.snd.fst.length = x'.fst ∧
 p ≤ x'.snd.snd.snd ∧
 x'.snd.snd.snd ≤
 p + (100 : Int) * (↑x.fst : Int) + (3 : Int) + (30 : Int) * ((3 : Int) - x_2.fst) +
 (2 : Int) * (↑x'.fst : Int)) ∧
 (List.getD s x.fst Pl.dY).snd.fst.length - x'.fst < (List.getD s x.fst Pl.dY).snd.fst.length - x_4.fst ∧
 ((0 : Nat) = (0 : Nat) ∧
 (0 : Nat) = (0 : Nat) ∧
 (0 : Nat) = (0 : Nat) ∧
 ((0 : Nat) = (0 : Nat) ∧ List.length x_2.snd.fst = List.length x_2.snd.fst) ∧
 (↑x.fst : Int) = (↑x.fst : Int) ∧
 x_2.fst = x_2.fst ∧
 (0 : Nat) = (0 : Nat) ∧
 IntKind.i64.wrap ((↑x_4.fst : Int) + (1 : Int)) = (↑x'.fst : Int) ∧ True) ∧
 (Is (byts x_5.fst) (byts b) ∧ y.snd = x'.snd.snd.snd ∧ True) ∧
 (Is (syms s) (syms s) ∧ True) ∧
 (Is (AV.lit (0 : Nat) (1 : Nat) fun (x x_6 : Nat) => AV.any) nilA ∧ True) ∧
 IsO (xrR x_2.snd.fst) (xrR x_2.snd.fst) ∧
 ((List.getD s x.fst Pl.dY).fst = (List.getD s x.fst Pl.dY).fst ∧
 ((0 : Nat) = (0 : Nat) ∧ x_4.snd.fst.length + (1 : Nat) = x'.snd.fst.length) ∧
 x_4.snd.snd.fst.fst = x'.snd.snd.fst.fst ∧
 x_4.snd.snd.fst.snd = x'.snd.snd.fst.snd ∧ True) ∧
 IsO
 (AObj.arr (x_4.snd.fst.length + (1 : Nat)) (2 : Nat)
 (joinC x_4.snd.fst.length (cQ x_4.snd.fst)
 (rowsCell [[i64 y.fst.fst, i64 y.fst.snd]])))
 (arQ x'.snd.fst) ∧
 True) ∧
 ((0 : Int) ≤ (↑x.fst : Int) ∧ (↑x.fst : Int) < (↑(List.length s) : Int)) ∧
 x.fst < List.length s ∧
 ((0 : Int) ≤ (↑x_4.fst : Int) ∧ (↑x_4.fst : Int) < (↑(List.getD s x.fst Pl.dY).snd.fst.length : Int)) ∧
 x_4.fst < (List.getD s x.fst Pl.dY).snd.fst.length ∧
 (Exists fun (x_5 : List Int × Int × Int) =>
 Rd (549755813888 : Int) x_5.fst x_5.snd.fst ∧
 (((0 : Nat) = (0 : Nat) ∧ (List.getD s x.fst Pl.dY).snd.fst.getD x_4.fst (0 : Int) = x_5.snd.snd ∧ True) ∧
 (Is (byts b) (byts x_5.fst) ∧ x_4.snd.snd.snd = x_5.snd.fst ∧ True) ∧ True) ∧
 ∀ (y : Pl.Rt × Int),
 x_5.snd.fst ≤ y.snd ∧ y.snd ≤ x_5.snd.fst + (2 : Int) →
 (0 : Nat) + x_4.snd.fst.length ≤ x_4.snd.fst.length ∧
 (x_4.snd.fst.length + (1 : Nat)) * (16 : Nat) ≤ (70368744177664 : Nat) ∧
 Exists fun (x' : Nat × List Pl.Rt × Pl.Rt × Int) =>
 (x'.fst ≤ (List.getD s x.fst Pl.dY).snd.fst.length ∧
 x'.snd.fst.length = x'.fst ∧
 p ≤ x'.snd.snd.snd ∧
 x'.snd.snd.snd ≤
 p + (100 : Int) * (↑x.fst : Int) + (3 : Int) + (30 : Int) * ((3 : Int) - x_2.fst) +
 (2 : Int) * (↑x'.fst : Int)) ∧
 (List.getD s x.fst Pl.dY).snd.fst.length - x'.fst < (List.getD s x.fst Pl.dY).snd.fst.length - x_4.fst ∧
 ((0 : Nat) = (0 : Nat) ∧
 (0 : Nat) = (0 : Nat) ∧
 (0 : Nat) = (0 : Nat) ∧
 ((0 : Nat) = (0 : Nat) ∧ List.length x_2.snd.fst = List.length x_2.snd.fst) ∧
 (↑x.fst : Int) = (↑x.fst : Int) ∧
 x_2.fst = x_2.fst ∧
 (0 : Nat) = (0 : Nat) ∧
 IntKind.i64.wrap ((↑x_4.fst : Int) + (1 : Int)) = (↑x'.fst : Int) ∧ True) ∧
 (Is (byts x_5.fst) (byts b) ∧ y.snd = x'.snd.snd.snd ∧ True) ∧
 (Is (syms s) (syms s) ∧ True) ∧
 (Is (AV.lit (0 : Nat) (1 : Nat) fun (x x_6 : Nat) => AV.any) nilA ∧ True) ∧
 IsO (xrR x_2.snd.fst) (xrR x_2.snd.fst) ∧
 ((List.getD s x.fst Pl.dY).fst = (List.getD s x.fst Pl.dY).fst ∧
 ((0 : Nat) = (0 : Nat) ∧ x_4.snd.fst.length + (1 : Nat) = x'.snd.fst.length) ∧
 x_4.snd.snd.fst.fst = x'.snd.snd.fst.fst ∧
 x_4.snd.snd.fst.snd = x'.snd.snd.fst.snd ∧ True) ∧
 IsO
 (AObj.arr (x_4.snd.fst.length + (1 : Nat)) (2 : Nat)
 (joinC x_4.snd.fst.length (cQ x_4.snd.fst)
 (rowsCell [[i64 y.fst.fst, i64 y.fst.snd]])))
 (arQ x'.snd.fst) ∧
 True) ∧
 Exists fun (x_5 : List Int × Int × Int) =>
 Rd (549755813888 : Int) x_5.fst x_5.snd.fst ∧
 (((0 : Nat) = (0 : Nat) ∧ (List.getD s x.fst Pl.dY).snd.fst.getD x_4.fst (0 : Int) = x_5.snd.snd ∧ True) ∧
 (Is (byts b) (byts x_5.fst) ∧ x_4.snd.snd.snd = x_5.snd.fst ∧ True) ∧ True) ∧
 ∀ (y : Pl.Rt × Int),
 x_5.snd.fst ≤ y.snd ∧ y.snd ≤ x_5.snd.fst + (2 : Int) →
 (0 : Nat) + x_4.snd.fst.length ≤ x_4.snd.fst.length ∧
 (x_4.snd.fst.length + (1 : Nat)) * (16 : Nat) ≤ (70368744177664 : Nat) ∧
 Exists fun (x' : Nat × List Pl.Rt × Pl.Rt × Int) =>
 (x'.fst ≤ (List.getD s x.fst Pl.dY).snd.fst.length ∧
 x'.snd.fst.length = x'.fst ∧
 p ≤ x'.snd.snd.snd ∧
 x'.snd.snd.snd ≤
 p + (100 : Int) * (↑x.fst : Int) + (3 : Int) + (30 : Int) * ((3 : Int) - x_2.fst) +
 (2 : Int) * (↑x'.fst : Int)) ∧
 (List.getD s x.fst Pl.dY).snd.fst.length - x'.fst < (List.getD s x.fst Pl.dY).snd.fst.length - x_4.fst ∧
 ((0 : Nat) = (0 : Nat) ∧
 (0 : Nat) = (0 : Nat) ∧
 (0 : Nat) = (0 : Nat) ∧
 ((0 : Nat) = (0 : Nat) ∧ List.length x_2.snd.fst = List.length x_2.snd.fst) ∧
 (↑x.fst : Int) = (↑x.fst : Int) ∧
 x_2.fst = x_2.fst ∧
 (0 : Nat) = (0 : Nat) ∧
 IntKind.i64.wrap ((↑x_4.fst : Int) + (1 : Int)) = (↑x'.fst : Int) ∧ True) ∧
 (Is (byts x_5.fst) (byts b) ∧ y.snd = x'.snd.snd.snd ∧ True) ∧
 (Is (syms s) (syms s) ∧ True) ∧
 (Is (AV.lit (0 : Nat) (1 : Nat) fun (x x_6 : Nat) => AV.any) nilA ∧ True) ∧
 IsO (xrR x_2.snd.fst) (xrR x_2.snd.fst) ∧
 ((List.getD s x.fst Pl.dY).fst = (List.getD s x.fst Pl.dY).fst ∧
 ((0 : Nat) = (0 : Nat) ∧ x_4.snd.fst.length + (1 : Nat) = x'.snd.fst.length) ∧
 x_4.snd.snd.fst.fst = x'.snd.snd.fst.fst ∧
 x_4.snd.snd.fst.snd = x'.snd.snd.fst.snd ∧ True) ∧
 IsO
 (AObj.arr (x_4.snd.fst.length + (1 : Nat)) (2 : Nat)
 (joinC x_4.snd.fst.length (cQ x_4.snd.fst)
 (rowsCell [[i64 y.fst.fst, i64 y.fst.snd]])))
 (arQ x'.snd.fst) ∧
 True)
 (Exists fun (x_5 : List Pl.Rw × Pl.Rw) =>
 (x_5.fst.length ≤ (1000 : Nat) ∧
 (∀ (y : Pl.Rw), y ∈ x_5.fst → y.snd.fst.length ≤ (1000 : Nat)) ∧ x_5.snd.snd.fst.length ≤ (1000 : Nat)) ∧
 ((((0 : Nat) = (0 : Nat) ∧ List.length x_2.snd.fst = x_5.fst.length) ∧
 ((List.getD s x.fst Pl.dY).fst = x_5.snd.fst ∧
 ((0 : Nat) = (0 : Nat) ∧ x_4.snd.fst.length = x_5.snd.snd.fst.length) ∧
 x_4.snd.snd.fst.fst = x_5.snd.snd.snd.fst ∧ x_4.snd.snd.fst.snd = x_5.snd.snd.snd.snd ∧ True) ∧
 True) ∧
 IsO (xrR x_2.snd.fst) (xrR x_5.fst) ∧ IsO (arQ x_4.snd.fst) (arQ x_5.snd.snd.fst) ∧ True) ∧
 ∀ (y : List Nat),
 HPut x_5.fst.length y →
 Exists fun (x' : Int × Pl.Mdl × Int) =>
 ((0 : Int) ≤ x'.fst ∧
 x'.fst ≤ (3 : Int) ∧
 Pl.MdB ((3 : Nat) * x.fst + (3 : Nat) - x'.fst.toNat) (2 : Nat) x'.snd.fst ∧
 p ≤ x'.snd.snd ∧ x'.snd.snd ≤ p + (100 : Int) * (↑x.fst : Int) + (1 : Int) + (30 : Int) * ((3 : Int) - x'.fst)) ∧
 x'.fst.toNat < x_2.fst.toNat ∧
 ((0 : Nat) = (0 : Nat) ∧
 (0 : Nat) = (0 : Nat) ∧
 (0 : Nat) = (0 : Nat) ∧
 ((0 : Nat) = (0 : Nat) ∧ y.length = List.length x'.snd.fst) ∧
 (↑x.fst : Int) = (↑x.fst : Int) ∧ IntKind.i64.wrap (x_2.fst - (1 : Int)) = x'.fst ∧ True) ∧
 (Is (byts b) (byts b) ∧ x_4.snd.snd.snd = x'.snd.snd ∧ True) ∧
 (Is (syms s) (syms s) ∧ True) ∧
 (Is (AV.lit (0 : Nat) (1 : Nat) fun (x x_6 : Nat) => AV.any) nilA ∧ True) ∧
 IsO (xrR (List.map (fun (i : Nat) => (x_5.fst ++ [x_5.snd]).getD i Pl.dR) y)) (xrR x'.snd.fst) ∧
 True)) ∧
 Exists fun (x_3 : List Int × Int × Int) =>
 Rd (549755813888 : Int) x_3.fst x_3.snd.fst ∧
 (((0 : Nat) = (0 : Nat) ∧ (List.getD s x.fst Pl.dY).snd.snd = x_3.snd.snd ∧ True) ∧
 (Is (byts b) (byts x_3.fst) ∧ x_2.snd.snd = x_3.snd.fst ∧ True) ∧ True) ∧
 ∀ (y : Pl.Rt × Int),
 x_3.snd.fst ≤ y.snd ∧ y.snd ≤ x_3.snd.fst + (2 : Int) →
 (Exists fun (x_4 : Nat × List Pl.Rt × Pl.Rt × Int) =>
 (x_4.fst ≤ (List.getD s x.fst Pl.dY).snd.fst.length ∧
 x_4.snd.fst.length = x_4.fst ∧
 p ≤ x_4.snd.snd.snd ∧
 x_4.snd.snd.snd ≤ p + (100 : Int) * (↑x.fst : Int) + (3 : Int) + (30 : Int) * ((3 : Int) - x_2.fst) + (2 : Int) * (↑x_4.fst : Int)) ∧
 ((0 : Nat) = (0 : Nat) ∧
 (0 : Nat) = (0 : Nat) ∧
 (0 : Nat) = (0 : Nat) ∧
 ((0 : Nat) = (0 : Nat) ∧ List.length x_2.snd.fst = List.length x_2.snd.fst) ∧
 (↑x.fst : Int) = (↑x.fst : Int) ∧ x_2.fst = x_2.fst ∧ (0 : Nat) = (0 : Nat) ∧ (0 : Int) = (↑x_4.fst : Int) ∧ True) ∧
 (Is (byts x_3.fst) (byts b) ∧ y.snd = x_4.snd.snd.snd ∧ True) ∧
 (Is (syms s) (syms s) ∧ True) ∧
 (Is (AV.lit (0 : Nat) (1 : Nat) fun (x x_5 : Nat) => AV.any) nilA ∧ True) ∧
 IsO (xrR x_2.snd.fst) (xrR x_2.snd.fst) ∧
 ((List.getD s x.fst Pl.dY).fst = (List.getD s x.fst Pl.dY).fst ∧
 ((0 : Nat) = (0 : Nat) ∧ (0 : Nat) = (0 : Nat) ∧ x_4.snd.fst.length = (0 : Nat)) ∧
 y.fst.fst = x_4.snd.snd.fst.fst ∧ y.fst.snd = x_4.snd.snd.fst.snd ∧ True) ∧
 x_4.snd.fst.length = (0 : Nat) ∧ True) ∧
 ∀ (x_4 : Nat × List Pl.Rt × Pl.Rt × Int),
 x_4.fst ≤ (List.getD s x.fst Pl.dY).snd.fst.length ∧
 x_4.snd.fst.length = x_4.fst ∧
 p ≤ x_4.snd.snd.snd ∧
 x_4.snd.snd.snd ≤ p + (100 : Int) * (↑x.fst : Int) + (3 : Int) + (30 : Int) * ((3 : Int) - x_2.fst) + (2 : Int) * (↑x_4.fst : Int) →
 ((0 : Int) ≤ (↑x.fst : Int) ∧ (↑x.fst : Int) < (↑(List.length s) : Int)) ∧
 x.fst < List.length s ∧
 condP (Decidable.decide ((↑x_4.fst : Int) < (↑(List.getD s x.fst Pl.dY).snd.fst.length : Int)))
 ((((0 : Int) ≤ (↑x.fst : Int) ∧ (↑x.fst : Int) < (↑(List.length s) : Int)) ∧
 x.fst < List.length s ∧
 ((0 : Int) ≤ (↑x_4.fst : Int) ∧ (↑x_4.fst : Int) < (↑(List.getD s x.fst Pl.dY).snd.fst.length : Int)) ∧
 x_4.fst < (List.getD s x.fst Pl.dY).snd.fst.length ∧
 Exists fun (x_5 : List Int × Int × Int) =>
 Rd (549755813888 : Int) x_5.fst x_5.snd.fst ∧
 (((0 : Nat) = (0 : Nat) ∧ (List.getD s x.fst Pl.dY).snd.fst.getD x_4.fst (0 : Int) = x_5.snd.snd ∧ True) ∧
 (Is (byts b) (byts x_5.fst) ∧ x_4.snd.snd.snd = x_5.snd.fst ∧ True) ∧ True) ∧
 ∀ (y : Pl.Rt × Int),
 x_5.snd.fst ≤ y.snd ∧ y.snd ≤ x_5.snd.fst + (2 : Int) →
 (0 : Nat) + x_4.snd.fst.length ≤ x_4.snd.fst.length ∧
 (x_4.snd.fst.length + (1 : Nat)) * (16 : Nat) ≤ (70368744177664 : Nat) ∧
 Exists fun (x' : Nat × List Pl.Rt × Pl.Rt × Int) =>
 (x'.fst ≤ (List.getD s x.fst Pl.dY).snd.fst.length ∧
 x'.snd.fst.length = x'.fst ∧
 p ≤ x'.snd.snd.snd ∧
 x'.snd.snd.snd ≤
 p + (100 : Int) * (↑x.fst : Int) + (3 : Int) + (30 : Int) * ((3 : Int) - x_2.fst) +
 (2 : Int) * (↑x'.fst : Int)) ∧
 (List.getD s x.fst Pl.dY).snd.fst.length - x'.fst < (List.getD s x.fst Pl.dY).snd.fst.length - x_4.fst ∧
 ((0 : Nat) = (0 : Nat) ∧
 (0 : Nat) = (0 : Nat) ∧
 (0 : Nat) = (0 : Nat) ∧
 ((0 : Nat) = (0 : Nat) ∧ List.length x_2.snd.fst = List.length x_2.snd.fst) ∧
 (↑x.fst : Int) = (↑x.fst : Int) ∧
 x_2.fst = x_2.fst ∧
 (0 : Nat) = (0 : Nat) ∧
 IntKind.i64.wrap ((↑x_4.fst : Int) + (1 : Int)) = (↑x'.fst : Int) ∧ True) ∧
 (Is (byts x_5.fst) (byts b) ∧ y.snd = x'.snd.snd.snd ∧ True) ∧
 (Is (syms s) (syms s) ∧ True) ∧
 (Is (AV.lit (0 : Nat) (1 : Nat) fun (x x_6 : Nat) => AV.any) nilA ∧ True) ∧
 IsO (xrR x_2.snd.fst) (xrR x_2.snd.fst) ∧
 ((List.getD s x.fst Pl.dY).fst = (List.getD s x.fst Pl.dY).fst ∧
 ((0 : Nat) = (0 : Nat) ∧ x_4.snd.fst.length + (1 : Nat) = x'.snd.fst.length) ∧
 x_4.snd.snd.fst.fst = x'.snd.snd.fst.fst ∧
 x_4.snd.snd.fst.snd = x'.snd.snd.fst.snd ∧ True) ∧
 IsO
 (AObj.arr (x_4.snd.fst.length + (1 : Nat)) (2 : Nat)
 (joinC x_4.snd.fst.length (cQ x_4.snd.fst)
 (rowsCell [[i64 y.fst.fst, i64 y.fst.snd]])))
 (arQ x'.snd.fst) ∧
 True) ∧
 ((0 : Int) ≤ (↑x.fst : Int) ∧ (↑x.fst : Int) < (↑(List.length s) : Int)) ∧
 x.fst < List.length s ∧
 ((0 : Int) ≤ (↑x_4.fst : Int) ∧ (↑x_4.fst : Int) < (↑(List.getD s x.fst Pl.dY).snd.fst.length : Int)) ∧
 x_4.fst < (List.getD s x.fst Pl.dY).snd.fst.length ∧
 (Exists fun (x_5 : List Int × Int × Int) =>
 Rd (549755813888 : Int) x_5.fst x_5.snd.fst ∧
 (((0 : Nat) = (0 : Nat) ∧ (List.getD s x.fst Pl.dY).snd.fst.getD x_4.fst (0 : Int) = x_5.snd.snd ∧ True) ∧
 (Is (byts b) (byts x_5.fst) ∧ x_4.snd.snd.snd = x_5.snd.fst ∧ True) ∧ True) ∧
 ∀ (y : Pl.Rt × Int),
 x_5.snd.fst ≤ y.snd ∧ y.snd ≤ x_5.snd.fst + (2 : Int) →
 (0 : Nat) + x_4.snd.fst.length ≤ x_4.snd.fst.length ∧
 (x_4.snd.fst.length + (1 : Nat)) * (16 : Nat) ≤ (70368744177664 : Nat) ∧
 Exists fun (x' : Nat × List Pl.Rt × Pl.Rt × Int) =>
 (x'.fst ≤ (List.getD s x.fst Pl.dY).snd.fst.length ∧
 x'.snd.fst.length = x'.fst ∧
 p ≤ x'.snd.snd.snd ∧
 x'.snd.snd.snd ≤
 p + (100 : Int) * (↑x.fst : Int) + (3 : Int) + (30 : Int) * ((3 : Int) - x_2.fst) +
 (2 : Int) * (↑x'.fst : Int)) ∧
 (List.getD s x.fst Pl.dY).snd.fst.length - x'.fst < (List.getD s x.fst Pl.dY).snd.fst.length - x_4.fst ∧
 ((0 : Nat) = (0 : Nat) ∧
 (0 : Nat) = (0 : Nat) ∧
 (0 : Nat) = (0 : Nat) ∧
 ((0 : Nat) = (0 : Nat) ∧ List.length x_2.snd.fst = List.length x_2.snd.fst) ∧
 (↑x.fst : Int) = (↑x.fst : Int) ∧
 x_2.fst = x_2.fst ∧
 (0 : Nat) = (0 : Nat) ∧
 IntKind.i64.wrap ((↑x_4.fst : Int) + (1 : Int)) = (↑x'.fst : Int) ∧ True) ∧
 (Is (byts x_5.fst) (byts b) ∧ y.snd = x'.snd.snd.snd ∧ True) ∧
 (Is (syms s) (syms s) ∧ True) ∧
 (Is (AV.lit (0 : Nat) (1 : Nat) fun (x x_6 : Nat) => AV.any) nilA ∧ True) ∧
 IsO (xrR x_2.snd.fst) (xrR x_2.snd.fst) ∧
 ((List.getD s x.fst Pl.dY).fst = (List.getD s x.fst Pl.dY).fst ∧
 ((0 : Nat) = (0 : Nat) ∧ x_4.snd.fst.length + (1 : Nat) = x'.snd.fst.length) ∧
 x_4.snd.snd.fst.fst = x'.snd.snd.fst.fst ∧
 x_4.snd.snd.fst.snd = x'.snd.snd.fst.snd ∧ True) ∧
 IsO
 (AObj.arr (x_4.snd.fst.length + (1 : Nat)) (2 : Nat)
 (joinC x_4.snd.fst.length (cQ x_4.snd.fst)
 (rowsCell [[i64 y.fst.fst, i64 y.fst.snd]])))
 (arQ x'.snd.fst) ∧
 True) ∧
 Exists fun (x_5 : List Int × Int × Int) =>
 Rd (549755813888 : Int) x_5.fst x_5.snd.fst ∧
 (((0 : Nat) = (0 : Nat) ∧ (List.getD s x.fst Pl.dY).snd.fst.getD x_4.fst (0 : Int) = x_5.snd.snd ∧ True) ∧
 (Is (byts b) (byts x_5.fst) ∧ x_4.snd.snd.snd = x_5.snd.fst ∧ True) ∧ True) ∧
 ∀ (y : Pl.Rt × Int),
 x_5.snd.fst ≤ y.snd ∧ y.snd ≤ x_5.snd.fst + (2 : Int) →
 (0 : Nat) + x_4.snd.fst.length ≤ x_4.snd.fst.length ∧
 (x_4.snd.fst.length + (1 : Nat)) * (16 : Nat) ≤ (70368744177664 : Nat) ∧
 Exists fun (x' : Nat × List Pl.Rt × Pl.Rt × Int) =>
 (x'.fst ≤ (List.getD s x.fst Pl.dY).snd.fst.length ∧
 x'.snd.fst.length = x'.fst ∧
 p ≤ x'.snd.snd.snd ∧
 x'.snd.snd.snd ≤
 p + (100 : Int) * (↑x.fst : Int) + (3 : Int) + (30 : Int) * ((3 : Int) - x_2.fst) +
 (2 : Int) * (↑x'.fst : Int)) ∧
 (List.getD s x.fst Pl.dY).snd.fst.length - x'.fst < (List.getD s x.fst Pl.dY).snd.fst.length - x_4.fst ∧
 ((0 : Nat) = (0 : Nat) ∧
 (0 : Nat) = (0 : Nat) ∧
 (0 : Nat) = (0 : Nat) ∧
 ((0 : Nat) = (0 : Nat) ∧ List.length x_2.snd.fst = List.length x_2.snd.fst) ∧
 (↑x.fst : Int) = (↑x.fst : Int) ∧
 x_2.fst = x_2.fst ∧
 (0 : Nat) = (0 : Nat) ∧
 IntKind.i64.wrap ((↑x_4.fst : Int) + (1 : Int)) = (↑x'.fst : Int) ∧ True) ∧
 (Is (byts x_5.fst) (byts b) ∧ y.snd = x'.snd.snd.snd ∧ True) ∧
 (Is (syms s) (syms s) ∧ True) ∧
 (Is (AV.lit (0 : Nat) (1 : Nat) fun (x x_6 : Nat) => AV.any) nilA ∧ True) ∧
 IsO (xrR x_2.snd.fst) (xrR x_2.snd.fst) ∧
 ((List.getD s x.fst Pl.dY).fst = (List.getD s x.fst Pl.dY).fst ∧
 ((0 : Nat) = (0 : Nat) ∧ x_4.snd.fst.length + (1 : Nat) = x'.snd.fst.length) ∧
 x_4.snd.snd.fst.fst = x'.snd.snd.fst.fst ∧
 x_4.snd.snd.fst.snd = x'.snd.snd.fst.snd ∧ True) ∧
 IsO
 (AObj.arr (x_4.snd.fst.length + (1 : Nat)) (2 : Nat)
 (joinC x_4.snd.fst.length (cQ x_4.snd.fst)
 (rowsCell [[i64 y.fst.fst, i64 y.fst.snd]])))
 (arQ x'.snd.fst) ∧
 True)
 (Exists fun (x_5 : List Pl.Rw × Pl.Rw) =>
 (x_5.fst.length ≤ (1000 : Nat) ∧
 (∀ (y : Pl.Rw), y ∈ x_5.fst → y.snd.fst.length ≤ (1000 : Nat)) ∧ x_5.snd.snd.fst.length ≤ (1000 : Nat)) ∧
 ((((0 : Nat) = (0 : Nat) ∧ List.length x_2.snd.fst = x_5.fst.length) ∧
 ((List.getD s x.fst Pl.dY).fst = x_5.snd.fst ∧
 ((0 : Nat) = (0 : Nat) ∧ x_4.snd.fst.length = x_5.snd.snd.fst.length) ∧
 x_4.snd.snd.fst.fst = x_5.snd.snd.snd.fst ∧ x_4.snd.snd.fst.snd = x_5.snd.snd.snd.snd ∧ True) ∧
 True) ∧
 IsO (xrR x_2.snd.fst) (xrR x_5.fst) ∧ IsO (arQ x_4.snd.fst) (arQ x_5.snd.snd.fst) ∧ True) ∧
 ∀ (y : List Nat),
 HPut x_5.fst.length y →
 Exists fun (x' : Int × Pl.Mdl × Int) =>
 ((0 : Int) ≤ x'.fst ∧
 x'.fst ≤ (3 : Int) ∧
 Pl.MdB ((3 : Nat) * x.fst + (3 : Nat) - x'.fst.toNat) (2 : Nat) x'.snd.fst ∧
 p ≤ x'.snd.snd ∧ x'.snd.snd ≤ p + (100 : Int) * (↑x.fst : Int) + (1 : Int) + (30 : Int) * ((3 : Int) - x'.fst)) ∧
 x'.fst.toNat < x_2.fst.toNat ∧
 ((0 : Nat) = (0 : Nat) ∧
 (0 : Nat) = (0 : Nat) ∧
 (0 : Nat) = (0 : Nat) ∧
 ((0 : Nat) = (0 : Nat) ∧ y.length = List.length x'.snd.fst) ∧
 (↑x.fst : Int) = (↑x.fst : Int) ∧ IntKind.i64.wrap (x_2.fst - (1 : Int)) = x'.fst ∧ True) ∧
 (Is (byts b) (byts b) ∧ x_4.snd.snd.snd = x'.snd.snd ∧ True) ∧
 (Is (syms s) (syms s) ∧ True) ∧
 (Is (AV.lit (0 : Nat) (1 : Nat) fun (x x_6 : Nat) => AV.any) nilA ∧ True) ∧
 IsO (xrR (List.map (fun (i : Nat) => (x_5.fst ++ [x_5.snd]).getD i Pl.dR) y)) (xrR x'.snd.fst) ∧
 True)) ∧
 (Exists fun (x_3 : List Int × Int × Int) =>
 Rd (549755813888 : Int) x_3.fst x_3.snd.fst ∧
 (((0 : Nat) = (0 : Nat) ∧ (List.getD s x.fst Pl.dY).snd.snd = x_3.snd.snd ∧ True) ∧
 (Is (byts b) (byts x_3.fst) ∧ x_2.snd.snd = x_3.snd.fst ∧ True) ∧ True) ∧
 ∀ (y : Pl.Rt × Int),
 x_3.snd.fst ≤ y.snd ∧ y.snd ≤ x_3.snd.fst + (2 : Int) →
 ((0 : Int) ≤ (↑x.fst : Int) ∧ (↑x.fst : Int) < (↑(List.length s) : Int)) ∧
 x.fst < List.length s ∧
 (Exists fun (x_4 : Nat × List Pl.Rt × Pl.Rt × Int) =>
 (x_4.fst ≤ (List.getD s x.fst Pl.dY).snd.fst.length ∧
 x_4.snd.fst.length = x_4.fst ∧
 p ≤ x_4.snd.snd.snd ∧
 x_4.snd.snd.snd ≤ p + (100 : Int) * (↑x.fst : Int) + (3 : Int) + (30 : Int) * ((3 : Int) - x_2.fst) + (2 : Int) * (↑x_4.fst : Int)) ∧
 ((0 : Nat) = (0 : Nat) ∧
 (0 : Nat) = (0 : Nat) ∧
 (0 : Nat) = (0 : Nat) ∧
 ((0 : Nat) = (0 : Nat) ∧ List.length x_2.snd.fst = List.length x_2.snd.fst) ∧
 (↑x.fst : Int) = (↑x.fst : Int) ∧ x_2.fst = x_2.fst ∧ (0 : Nat) = (0 : Nat) ∧ (0 : Int) = (↑x_4.fst : Int) ∧ True) ∧
 (Is (byts x_3.fst) (byts b) ∧ y.snd = x_4.snd.snd.snd ∧ True) ∧
 (Is (syms s) (syms s) ∧ True) ∧
 (Is (AV.lit (0 : Nat) (1 : Nat) fun (x x_5 : Nat) => AV.any) nilA ∧ True) ∧
 IsO (xrR x_2.snd.fst) (xrR x_2.snd.fst) ∧
 ((List.getD s x.fst Pl.dY).fst = (List.getD s x.fst Pl.dY).fst ∧
 ((0 : Nat) = (0 : Nat) ∧ (0 : Nat) = (0 : Nat) ∧ x_4.snd.fst.length = (0 : Nat)) ∧
 y.fst.fst = x_4.snd.snd.fst.fst ∧ y.fst.snd = x_4.snd.snd.fst.snd ∧ True) ∧
 x_4.snd.fst.length = (0 : Nat) ∧ True) ∧
 ∀ (x_4 : Nat × List Pl.Rt × Pl.Rt × Int),
 x_4.fst ≤ (List.getD s x.fst Pl.dY).snd.fst.length ∧
 x_4.snd.fst.length = x_4.fst ∧
 p ≤ x_4.snd.snd.snd ∧
 x_4.snd.snd.snd ≤ p + (100 : Int) * (↑x.fst : Int) + (3 : Int) + (30 : Int) * ((3 : Int) - x_2.fst) + (2 : Int) * (↑x_4.fst : Int) →
 ((0 : Int) ≤ (↑x.fst : Int) ∧ (↑x.fst : Int) < (↑(List.length s) : Int)) ∧
 x.fst < List.length s ∧
 condP (Decidable.decide ((↑x_4.fst : Int) < (↑(List.getD s x.fst Pl.dY).snd.fst.length : Int)))
 ((((0 : Int) ≤ (↑x.fst : Int) ∧ (↑x.fst : Int) < (↑(List.length s) : Int)) ∧
 x.fst < List.length s ∧
 ((0 : Int) ≤ (↑x_4.fst : Int) ∧ (↑x_4.fst : Int) < (↑(List.getD s x.fst Pl.dY).snd.fst.length : Int)) ∧
 x_4.fst < (List.getD s x.fst Pl.dY).snd.fst.length ∧
 Exists fun (x_5 : List Int × Int × Int) =>
 Rd (549755813888 : Int) x_5.fst x_5.snd.fst ∧
 (((0 : Nat) = (0 : Nat) ∧ (List.getD s x.fst Pl.dY).snd.fst.getD x_4.fst (0 : Int) = x_5.snd.snd ∧ True) ∧
 (Is (byts b) (byts x_5.fst) ∧ x_4.snd.snd.snd = x_5.snd.fst ∧ True) ∧ True) ∧
 ∀ (y : Pl.Rt × Int),
 x_5.snd.fst ≤ y.snd ∧ y.snd ≤ x_5.snd.fst + (2 : Int) →
 (0 : Nat) + x_4.snd.fst.length ≤ x_4.snd.fst.length ∧
 (x_4.snd.fst.length + (1 : Nat)) * (16 : Nat) ≤ (70368744177664 : Nat) ∧
 Exists fun (x' : Nat × List Pl.Rt × Pl.Rt × Int) =>
 (x'.fst ≤ (List.getD s x.fst Pl.dY).snd.fst.length ∧
 x'.snd.fst.length = x'.fst ∧
 p ≤ x'.snd.snd.snd ∧
 x'.snd.snd.snd ≤
 p + (100 : Int) * (↑x.fst : Int) + (3 : Int) + (30 : Int) * ((3 : Int) - x_2.fst) +
 (2 : Int) * (↑x'.fst : Int)) ∧
 (List.getD s x.fst Pl.dY).snd.fst.length - x'.fst < (List.getD s x.fst Pl.dY).snd.fst.length - x_4.fst ∧
 ((0 : Nat) = (0 : Nat) ∧
 (0 : Nat) = (0 : Nat) ∧
 (0 : Nat) = (0 : Nat) ∧
 ((0 : Nat) = (0 : Nat) ∧ List.length x_2.snd.fst = List.length x_2.snd.fst) ∧
 (↑x.fst : Int) = (↑x.fst : Int) ∧
 x_2.fst = x_2.fst ∧
 (0 : Nat) = (0 : Nat) ∧
 IntKind.i64.wrap ((↑x_4.fst : Int) + (1 : Int)) = (↑x'.fst : Int) ∧ True) ∧
 (Is (byts x_5.fst) (byts b) ∧ y.snd = x'.snd.snd.snd ∧ True) ∧
 (Is (syms s) (syms s) ∧ True) ∧
 (Is (AV.lit (0 : Nat) (1 : Nat) fun (x x_6 : Nat) => AV.any) nilA ∧ True) ∧
 IsO (xrR x_2.snd.fst) (xrR x_2.snd.fst) ∧
 ((List.getD s x.fst Pl.dY).fst = (List.getD s x.fst Pl.dY).fst ∧
 ((0 : Nat) = (0 : Nat) ∧ x_4.snd.fst.length + (1 : Nat) = x'.snd.fst.length) ∧
 x_4.snd.snd.fst.fst = x'.snd.snd.fst.fst ∧
 x_4.snd.snd.fst.snd = x'.snd.snd.fst.snd ∧ True) ∧
 IsO
 (AObj.arr (x_4.snd.fst.length + (1 : Nat)) (2 : Nat)
 (joinC x_4.snd.fst.length (cQ x_4.snd.fst)
 (rowsCell [[i64 y.fst.fst, i64 y.fst.snd]])))
 (arQ x'.snd.fst) ∧
 True) ∧
 ((0 : Int) ≤ (↑x.fst : Int) ∧ (↑x.fst : Int) < (↑(List.length s) : Int)) ∧
 x.fst < List.length s ∧
 ((0 : Int) ≤ (↑x_4.fst : Int) ∧ (↑x_4.fst : Int) < (↑(List.getD s x.fst Pl.dY).snd.fst.length : Int)) ∧
 x_4.fst < (List.getD s x.fst Pl.dY).snd.fst.length ∧
 (Exists fun (x_5 : List Int × Int × Int) =>
 Rd (549755813888 : Int) x_5.fst x_5.snd.fst ∧
 (((0 : Nat) = (0 : Nat) ∧ (List.getD s x.fst Pl.dY).snd.fst.getD x_4.fst (0 : Int) = x_5.snd.snd ∧ True) ∧
 (Is (byts b) (byts x_5.fst) ∧ x_4.snd.snd.snd = x_5.snd.fst ∧ True) ∧ True) ∧
 ∀ (y : Pl.Rt × Int),
 x_5.snd.fst ≤ y.snd ∧ y.snd ≤ x_5.snd.fst + (2 : Int) →
 (0 : Nat) + x_4.snd.fst.length ≤ x_4.snd.fst.length ∧
 (x_4.snd.fst.length + (1 : Nat)) * (16 : Nat) ≤ (70368744177664 : Nat) ∧
 Exists fun (x' : Nat × List Pl.Rt × Pl.Rt × Int) =>
 (x'.fst ≤ (List.getD s x.fst Pl.dY).snd.fst.length ∧
 x'.snd.fst.length = x'.fst ∧
 p ≤ x'.snd.snd.snd ∧
 x'.snd.snd.snd ≤
 p + (100 : Int) * (↑x.fst : Int) + (3 : Int) + (30 : Int) * ((3 : Int) - x_2.fst) +
 (2 : Int) * (↑x'.fst : Int)) ∧
 (List.getD s x.fst Pl.dY).snd.fst.length - x'.fst < (List.getD s x.fst Pl.dY).snd.fst.length - x_4.fst ∧
 ((0 : Nat) = (0 : Nat) ∧
 (0 : Nat) = (0 : Nat) ∧
 (0 : Nat) = (0 : Nat) ∧
 ((0 : Nat) = (0 : Nat) ∧ List.length x_2.snd.fst = List.length x_2.snd.fst) ∧
 (↑x.fst : Int) = (↑x.fst : Int) ∧
 x_2.fst = x_2.fst ∧
 (0 : Nat) = (0 : Nat) ∧
 IntKind.i64.wrap ((↑x_4.fst : Int) + (1 : Int)) = (↑x'.fst : Int) ∧ True) ∧
 (Is (byts x_5.fst) (byts b) ∧ y.snd = x'.snd.snd.snd ∧ True) ∧
 (Is (syms s) (syms s) ∧ True) ∧
 (Is (AV.lit (0 : Nat) (1 : Nat) fun (x x_6 : Nat) => AV.any) nilA ∧ True) ∧
 IsO (xrR x_2.snd.fst) (xrR x_2.snd.fst) ∧
 ((List.getD s x.fst Pl.dY).fst = (List.getD s x.fst Pl.dY).fst ∧
 ((0 : Nat) = (0 : Nat) ∧ x_4.snd.fst.length + (1 : Nat) = x'.snd.fst.length) ∧
 x_4.snd.snd.fst.fst = x'.snd.snd.fst.fst ∧
 x_4.snd.snd.fst.snd = x'.snd.snd.fst.snd ∧ True) ∧
 IsO
 (AObj.arr (x_4.snd.fst.length + (1 : Nat)) (2 : Nat)
 (joinC x_4.snd.fst.length (cQ x_4.snd.fst)
 (rowsCell [[i64 y.fst.fst, i64 y.fst.snd]])))
 (arQ x'.snd.fst) ∧
 True) ∧
 Exists fun (x_5 : List Int × Int × Int) =>
 Rd (549755813888 : Int) x_5.fst x_5.snd.fst ∧
 (((0 : Nat) = (0 : Nat) ∧ (List.getD s x.fst Pl.dY).snd.fst.getD x_4.fst (0 : Int) = x_5.snd.snd ∧ True) ∧
 (Is (byts b) (byts x_5.fst) ∧ x_4.snd.snd.snd = x_5.snd.fst ∧ True) ∧ True) ∧
 ∀ (y : Pl.Rt × Int),
 x_5.snd.fst ≤ y.snd ∧ y.snd ≤ x_5.snd.fst + (2 : Int) →
 (0 : Nat) + x_4.snd.fst.length ≤ x_4.snd.fst.length ∧
 (x_4.snd.fst.length + (1 : Nat)) * (16 : Nat) ≤ (70368744177664 : Nat) ∧
 Exists fun (x' : Nat × List Pl.Rt × Pl.Rt × Int) =>
 (x'.fst ≤ (List.getD s x.fst Pl.dY).snd.fst.length ∧
 x'.snd.fst.length = x'.fst ∧
 p ≤ x'.snd.snd.snd ∧
 x'.snd.snd.snd ≤
 p + (100 : Int) * (↑x.fst : Int) + (3 : Int) + (30 : Int) * ((3 : Int) - x_2.fst) +
 (2 : Int) * (↑x'.fst : Int)) ∧
 (List.getD s x.fst Pl.dY).snd.fst.length - x'.fst < (List.getD s x.fst Pl.dY).snd.fst.length - x_4.fst ∧
 ((0 : Nat) = (0 : Nat) ∧
 (0 : Nat) = (0 : Nat) ∧
 (0 : Nat) = (0 : Nat) ∧
 ((0 : Nat) = (0 : Nat) ∧ List.length x_2.snd.fst = List.length x_2.snd.fst) ∧
 (↑x.fst : Int) = (↑x.fst : Int) ∧
 x_2.fst = x_2.fst ∧
 (0 : Nat) = (0 : Nat) ∧
 IntKind.i64.wrap ((↑x_4.fst : Int) + (1 : Int)) = (↑x'.fst : Int) ∧ True) ∧
 (Is (byts x_5.fst) (byts b) ∧ y.snd = x'.snd.snd.snd ∧ True) ∧
 (Is (syms s) (syms s) ∧ True) ∧
 (Is (AV.lit (0 : Nat) (1 : Nat) fun (x x_6 : Nat) => AV.any) nilA ∧ True) ∧
 IsO (xrR x_2.snd.fst) (xrR x_2.snd.fst) ∧
 ((List.getD s x.fst Pl.dY).fst = (List.getD s x.fst Pl.dY).fst ∧
 ((0 : Nat) = (0 : Nat) ∧ x_4.snd.fst.length + (1 : Nat) = x'.snd.fst.length) ∧
 x_4.snd.snd.fst.fst = x'.snd.snd.fst.fst ∧
 x_4.snd.snd.fst.snd = x'.snd.snd.fst.snd ∧ True) ∧
 IsO
 (AObj.arr (x_4.snd.fst.length + (1 : Nat)) (2 : Nat)
 (joinC x_4.snd.fst.length (cQ x_4.snd.fst)
 (rowsCell [[i64 y.fst.fst, i64 y.fst.snd]])))
 (arQ x'.snd.fst) ∧
 True)
 (Exists fun (x_5 : List Pl.Rw × Pl.Rw) =>
 (x_5.fst.length ≤ (1000 : Nat) ∧
 (∀ (y : Pl.Rw), y ∈ x_5.fst → y.snd.fst.length ≤ (1000 : Nat)) ∧ x_5.snd.snd.fst.length ≤ (1000 : Nat)) ∧
 ((((0 : Nat) = (0 : Nat) ∧ List.length x_2.snd.fst = x_5.fst.length) ∧
 ((List.getD s x.fst Pl.dY).fst = x_5.snd.fst ∧
 ((0 : Nat) = (0 : Nat) ∧ x_4.snd.fst.length = x_5.snd.snd.fst.length) ∧
 x_4.snd.snd.fst.fst = x_5.snd.snd.snd.fst ∧ x_4.snd.snd.fst.snd = x_5.snd.snd.snd.snd ∧ True) ∧
 True) ∧
 IsO (xrR x_2.snd.fst) (xrR x_5.fst) ∧ IsO (arQ x_4.snd.fst) (arQ x_5.snd.snd.fst) ∧ True) ∧
 ∀ (y : List Nat),
 HPut x_5.fst.length y →
 Exists fun (x' : Int × Pl.Mdl × Int) =>
 ((0 : Int) ≤ x'.fst ∧
 x'.fst ≤ (3 : Int) ∧
 Pl.MdB ((3 : Nat) * x.fst + (3 : Nat) - x'.fst.toNat) (2 : Nat) x'.snd.fst ∧
 p ≤ x'.snd.snd ∧ x'.snd.snd ≤ p + (100 : Int) * (↑x.fst : Int) + (1 : Int) + (30 : Int) * ((3 : Int) - x'.fst)) ∧
 x'.fst.toNat < x_2.fst.toNat ∧
 ((0 : Nat) = (0 : Nat) ∧
 (0 : Nat) = (0 : Nat) ∧
 (0 : Nat) = (0 : Nat) ∧
 ((0 : Nat) = (0 : Nat) ∧ y.length = List.length x'.snd.fst) ∧
 (↑x.fst : Int) = (↑x.fst : Int) ∧ IntKind.i64.wrap (x_2.fst - (1 : Int)) = x'.fst ∧ True) ∧
 (Is (byts b) (byts b) ∧ x_4.snd.snd.snd = x'.snd.snd ∧ True) ∧
 (Is (syms s) (syms s) ∧ True) ∧
 (Is (AV.lit (0 : Nat) (1 : Nat) fun (x x_6 : Nat) => AV.any) nilA ∧ True) ∧
 IsO (xrR (List.map (fun (i : Nat) => (x_5.fst ++ [x_5.snd]).getD i Pl.dR) y)) (xrR x'.snd.fst) ∧
 True)) ∧
 (((0 : Int) ≤ (↑x.fst : Int) ∧ (↑x.fst : Int) < (↑(List.length s) : Int)) ∧
 x.fst < List.length s ∧
 Exists fun (x_3 : List Int × Int × Int) =>
 Rd (549755813888 : Int) x_3.fst x_3.snd.fst ∧
 (((0 : Nat) = (0 : Nat) ∧ (List.getD s x.fst Pl.dY).snd.snd = x_3.snd.snd ∧ True) ∧
 (Is (byts b) (byts x_3.fst) ∧ x_2.snd.snd = x_3.snd.fst ∧ True) ∧ True) ∧
 ∀ (y : Pl.Rt × Int),
 x_3.snd.fst ≤ y.snd ∧ y.snd ≤ x_3.snd.fst + (2 : Int) →
 (Exists fun (x_4 : Nat × List Pl.Rt × Pl.Rt × Int) =>
 (x_4.fst ≤ (List.getD s x.fst Pl.dY).snd.fst.length ∧
 x_4.snd.fst.length = x_4.fst ∧
 p ≤ x_4.snd.snd.snd ∧
 x_4.snd.snd.snd ≤ p + (100 : Int) * (↑x.fst : Int) + (3 : Int) + (30 : Int) * ((3 : Int) - x_2.fst) + (2 : Int) * (↑x_4.fst : Int)) ∧
 ((0 : Nat) = (0 : Nat) ∧
 (0 : Nat) = (0 : Nat) ∧
 (0 : Nat) = (0 : Nat) ∧
 ((0 : Nat) = (0 : Nat) ∧ List.length x_2.snd.fst = List.length x_2.snd.fst) ∧
 (↑x.fst : Int) = (↑x.fst : Int) ∧ x_2.fst = x_2.fst ∧ (0 : Nat) = (0 : Nat) ∧ (0 : Int) = (↑x_4.fst : Int) ∧ True) ∧
 (Is (byts x_3.fst) (byts b) ∧ y.snd = x_4.snd.snd.snd ∧ True) ∧
 (Is (syms s) (syms s) ∧ True) ∧
 (Is (AV.lit (0 : Nat) (1 : Nat) fun (x x_5 : Nat) => AV.any) nilA ∧ True) ∧
 IsO (xrR x_2.snd.fst) (xrR x_2.snd.fst) ∧
 ((List.getD s x.fst Pl.dY).fst = (List.getD s x.fst Pl.dY).fst ∧
 ((0 : Nat) = (0 : Nat) ∧ (0 : Nat) = (0 : Nat) ∧ x_4.snd.fst.length = (0 : Nat)) ∧
 y.fst.fst = x_4.snd.snd.fst.fst ∧ y.fst.snd = x_4.snd.snd.fst.snd ∧ True) ∧
 x_4.snd.fst.length = (0 : Nat) ∧ True) ∧
 ∀ (x_4 : Nat × List Pl.Rt × Pl.Rt × Int),
 x_4.fst ≤ (List.getD s x.fst Pl.dY).snd.fst.length ∧
 x_4.snd.fst.length = x_4.fst ∧
 p ≤ x_4.snd.snd.snd ∧
 x_4.snd.snd.snd ≤ p + (100 : Int) * (↑x.fst : Int) + (3 : Int) + (30 : Int) * ((3 : Int) - x_2.fst) + (2 : Int) * (↑x_4.fst : Int) →
 ((0 : Int) ≤ (↑x.fst : Int) ∧ (↑x.fst : Int) < (↑(List.length s) : Int)) ∧
 x.fst < List.length s ∧
 condP (Decidable.decide ((↑x_4.fst : Int) < (↑(List.getD s x.fst Pl.dY).snd.fst.length : Int)))
 ((((0 : Int) ≤ (↑x.fst : Int) ∧ (↑x.fst : Int) < (↑(List.length s) : Int)) ∧
 x.fst < List.length s ∧
 ((0 : Int) ≤ (↑x_4.fst : Int) ∧ (↑x_4.fst : Int) < (↑(List.getD s x.fst Pl.dY).snd.fst.length : Int)) ∧
 x_4.fst < (List.getD s x.fst Pl.dY).snd.fst.length ∧
 Exists fun (x_5 : List Int × Int × Int) =>
 Rd (549755813888 : Int) x_5.fst x_5.snd.fst ∧
 (((0 : Nat) = (0 : Nat) ∧ (List.getD s x.fst Pl.dY).snd.fst.getD x_4.fst (0 : Int) = x_5.snd.snd ∧ True) ∧
 (Is (byts b) (byts x_5.fst) ∧ x_4.snd.snd.snd = x_5.snd.fst ∧ True) ∧ True) ∧
 ∀ (y : Pl.Rt × Int),
 x_5.snd.fst ≤ y.snd ∧ y.snd ≤ x_5.snd.fst + (2 : Int) →
 (0 : Nat) + x_4.snd.fst.length ≤ x_4.snd.fst.length ∧
 (x_4.snd.fst.length + (1 : Nat)) * (16 : Nat) ≤ (70368744177664 : Nat) ∧
 Exists fun (x' : Nat × List Pl.Rt × Pl.Rt × Int) =>
 (x'.fst ≤ (List.getD s x.fst Pl.dY).snd.fst.length ∧
 x'.snd.fst.length = x'.fst ∧
 p ≤ x'.snd.snd.snd ∧
 x'.snd.snd.snd ≤
 p + (100 : Int) * (↑x.fst : Int) + (3 : Int) + (30 : Int) * ((3 : Int) - x_2.fst) +
 (2 : Int) * (↑x'.fst : Int)) ∧
 (List.getD s x.fst Pl.dY).snd.fst.length - x'.fst < (List.getD s x.fst Pl.dY).snd.fst.length - x_4.fst ∧
 ((0 : Nat) = (0 : Nat) ∧
 (0 : Nat) = (0 : Nat) ∧
 (0 : Nat) = (0 : Nat) ∧
 ((0 : Nat) = (0 : Nat) ∧ List.length x_2.snd.fst = List.length x_2.snd.fst) ∧
 (↑x.fst : Int) = (↑x.fst : Int) ∧
 x_2.fst = x_2.fst ∧
 (0 : Nat) = (0 : Nat) ∧
 IntKind.i64.wrap ((↑x_4.fst : Int) + (1 : Int)) = (↑x'.fst : Int) ∧ True) ∧
 (Is (byts x_5.fst) (byts b) ∧ y.snd = x'.snd.snd.snd ∧ True) ∧
 (Is (syms s) (syms s) ∧ True) ∧
 (Is (AV.lit (0 : Nat) (1 : Nat) fun (x x_6 : Nat) => AV.any) nilA ∧ True) ∧
 IsO (xrR x_2.snd.fst) (xrR x_2.snd.fst) ∧
 ((List.getD s x.fst Pl.dY).fst = (List.getD s x.fst Pl.dY).fst ∧
 ((0 : Nat) = (0 : Nat) ∧ x_4.snd.fst.length + (1 : Nat) = x'.snd.fst.length) ∧
 x_4.snd.snd.fst.fst = x'.snd.snd.fst.fst ∧
 x_4.snd.snd.fst.snd = x'.snd.snd.fst.snd ∧ True) ∧
 IsO
 (AObj.arr (x_4.snd.fst.length + (1 : Nat)) (2 : Nat)
 (joinC x_4.snd.fst.length (cQ x_4.snd.fst)
 (rowsCell [[i64 y.fst.fst, i64 y.fst.snd]])))
 (arQ x'.snd.fst) ∧
 True) ∧
 ((0 : Int) ≤ (↑x.fst : Int) ∧ (↑x.fst : Int) < (↑(List.length s) : Int)) ∧
 x.fst < List.length s ∧
 ((0 : Int) ≤ (↑x_4.fst : Int) ∧ (↑x_4.fst : Int) < (↑(List.getD s x.fst Pl.dY).snd.fst.length : Int)) ∧
 x_4.fst < (List.getD s x.fst Pl.dY).snd.fst.length ∧
 (Exists fun (x_5 : List Int × Int × Int) =>
 Rd (549755813888 : Int) x_5.fst x_5.snd.fst ∧
 (((0 : Nat) = (0 : Nat) ∧ (List.getD s x.fst Pl.dY).snd.fst.getD x_4.fst (0 : Int) = x_5.snd.snd ∧ True) ∧
 (Is (byts b) (byts x_5.fst) ∧ x_4.snd.snd.snd = x_5.snd.fst ∧ True) ∧ True) ∧
 ∀ (y : Pl.Rt × Int),
 x_5.snd.fst ≤ y.snd ∧ y.snd ≤ x_5.snd.fst + (2 : Int) →
 (0 : Nat) + x_4.snd.fst.length ≤ x_4.snd.fst.length ∧
 (x_4.snd.fst.length + (1 : Nat)) * (16 : Nat) ≤ (70368744177664 : Nat) ∧
 Exists fun (x' : Nat × List Pl.Rt × Pl.Rt × Int) =>
 (x'.fst ≤ (List.getD s x.fst Pl.dY).snd.fst.length ∧
 x'.snd.fst.length = x'.fst ∧
 p ≤ x'.snd.snd.snd ∧
 x'.snd.snd.snd ≤
 p + (100 : Int) * (↑x.fst : Int) + (3 : Int) + (30 : Int) * ((3 : Int) - x_2.fst) +
 (2 : Int) * (↑x'.fst : Int)) ∧
 (List.getD s x.fst Pl.dY).snd.fst.length - x'.fst < (List.getD s x.fst Pl.dY).snd.fst.length - x_4.fst ∧
 ((0 : Nat) = (0 : Nat) ∧
 (0 : Nat) = (0 : Nat) ∧
 (0 : Nat) = (0 : Nat) ∧
 ((0 : Nat) = (0 : Nat) ∧ List.length x_2.snd.fst = List.length x_2.snd.fst) ∧
 (↑x.fst : Int) = (↑x.fst : Int) ∧
 x_2.fst = x_2.fst ∧
 (0 : Nat) = (0 : Nat) ∧
 IntKind.i64.wrap ((↑x_4.fst : Int) + (1 : Int)) = (↑x'.fst : Int) ∧ True) ∧
 (Is (byts x_5.fst) (byts b) ∧ y.snd = x'.snd.snd.snd ∧ True) ∧
 (Is (syms s) (syms s) ∧ True) ∧
 (Is (AV.lit (0 : Nat) (1 : Nat) fun (x x_6 : Nat) => AV.any) nilA ∧ True) ∧
 IsO (xrR x_2.snd.fst) (xrR x_2.snd.fst) ∧
 ((List.getD s x.fst Pl.dY).fst = (List.getD s x.fst Pl.dY).fst ∧
 ((0 : Nat) = (0 : Nat) ∧ x_4.snd.fst.length + (1 : Nat) = x'.snd.fst.length) ∧
 x_4.snd.snd.fst.fst = x'.snd.snd.fst.fst ∧
 x_4.snd.snd.fst.snd = x'.snd.snd.fst.snd ∧ True) ∧
 IsO
 (AObj.arr (x_4.snd.fst.length + (1 : Nat)) (2 : Nat)
 (joinC x_4.snd.fst.length (cQ x_4.snd.fst)
 (rowsCell [[i64 y.fst.fst, i64 y.fst.snd]])))
 (arQ x'.snd.fst) ∧
 True) ∧
 Exists fun (x_5 : List Int × Int × Int) =>
 Rd (549755813888 : Int) x_5.fst x_5.snd.fst ∧
 (((0 : Nat) = (0 : Nat) ∧ (List.getD s x.fst Pl.dY).snd.fst.getD x_4.fst (0 : Int) = x_5.snd.snd ∧ True) ∧
 (Is (byts b) (byts x_5.fst) ∧ x_4.snd.snd.snd = x_5.snd.fst ∧ True) ∧ True) ∧
 ∀ (y : Pl.Rt × Int),
 x_5.snd.fst ≤ y.snd ∧ y.snd ≤ x_5.snd.fst + (2 : Int) →
 (0 : Nat) + x_4.snd.fst.length ≤ x_4.snd.fst.length ∧
 (x_4.snd.fst.length + (1 : Nat)) * (16 : Nat) ≤ (70368744177664 : Nat) ∧
 Exists fun (x' : Nat × List Pl.Rt × Pl.Rt × Int) =>
 (x'.fst ≤ (List.getD s x.fst Pl.dY).snd.fst.length ∧
 x'.snd.fst.length = x'.fst ∧
 p ≤ x'.snd.snd.snd ∧
 x'.snd.snd.snd ≤
 p + (100 : Int) * (↑x.fst : Int) + (3 : Int) + (30 : Int) * ((3 : Int) - x_2.fst) +
 (2 : Int) * (↑x'.fst : Int)) ∧
 (List.getD s x.fst Pl.dY).snd.fst.length - x'.fst < (List.getD s x.fst Pl.dY).snd.fst.length - x_4.fst ∧
 ((0 : Nat) = (0 : Nat) ∧
 (0 : Nat) = (0 : Nat) ∧
 (0 : Nat) = (0 : Nat) ∧
 ((0 : Nat) = (0 : Nat) ∧ List.length x_2.snd.fst = List.length x_2.snd.fst) ∧
 (↑x.fst : Int) = (↑x.fst : Int) ∧
 x_2.fst = x_2.fst ∧
 (0 : Nat) = (0 : Nat) ∧
 IntKind.i64.wrap ((↑x_4.fst : Int) + (1 : Int)) = (↑x'.fst : Int) ∧ True) ∧
 (Is (byts x_5.fst) (byts b) ∧ y.snd = x'.snd.snd.snd ∧ True) ∧
 (Is (syms s) (syms s) ∧ True) ∧
 (Is (AV.lit (0 : Nat) (1 : Nat) fun (x x_6 : Nat) => AV.any) nilA ∧ True) ∧
 IsO (xrR x_2.snd.fst) (xrR x_2.snd.fst) ∧
 ((List.getD s x.fst Pl.dY).fst = (List.getD s x.fst Pl.dY).fst ∧
 ((0 : Nat) = (0 : Nat) ∧ x_4.snd.fst.length + (1 : Nat) = x'.snd.fst.length) ∧
 x_4.snd.snd.fst.fst = x'.snd.snd.fst.fst ∧
 x_4.snd.snd.fst.snd = x'.snd.snd.fst.snd ∧ True) ∧
 IsO
 (AObj.arr (x_4.snd.fst.length + (1 : Nat)) (2 : Nat)
 (joinC x_4.snd.fst.length (cQ x_4.snd.fst)
 (rowsCell [[i64 y.fst.fst, i64 y.fst.snd]])))
 (arQ x'.snd.fst) ∧
 True)
 (Exists fun (x_5 : List Pl.Rw × Pl.Rw) =>
 (x_5.fst.length ≤ (1000 : Nat) ∧
 (∀ (y : Pl.Rw), y ∈ x_5.fst → y.snd.fst.length ≤ (1000 : Nat)) ∧ x_5.snd.snd.fst.length ≤ (1000 : Nat)) ∧
 ((((0 : Nat) = (0 : Nat) ∧ List.length x_2.snd.fst = x_5.fst.length) ∧
 ((List.getD s x.fst Pl.dY).fst = x_5.snd.fst ∧
 ((0 : Nat) = (0 : Nat) ∧ x_4.snd.fst.length = x_5.snd.snd.fst.length) ∧
 x_4.snd.snd.fst.fst = x_5.snd.snd.snd.fst ∧ x_4.snd.snd.fst.snd = x_5.snd.snd.snd.snd ∧ True) ∧
 True) ∧
 IsO (xrR x_2.snd.fst) (xrR x_5.fst) ∧ IsO (arQ x_4.snd.fst) (arQ x_5.snd.snd.fst) ∧ True) ∧
 ∀ (y : List Nat),
 HPut x_5.fst.length y →
 Exists fun (x' : Int × Pl.Mdl × Int) =>
 ((0 : Int) ≤ x'.fst ∧
 x'.fst ≤ (3 : Int) ∧
 Pl.MdB ((3 : Nat) * x.fst + (3 : Nat) - x'.fst.toNat) (2 : Nat) x'.snd.fst ∧
 p ≤ x'.snd.snd ∧ x'.snd.snd ≤ p + (100 : Int) * (↑x.fst : Int) + (1 : Int) + (30 : Int) * ((3 : Int) - x'.fst)) ∧
 x'.fst.toNat < x_2.fst.toNat ∧
 ((0 : Nat) = (0 : Nat) ∧
 (0 : Nat) = (0 : Nat) ∧
 (0 : Nat) = (0 : Nat) ∧
 ((0 : Nat) = (0 : Nat) ∧ y.length = List.length x'.snd.fst) ∧
 (↑x.fst : Int) = (↑x.fst : Int) ∧ IntKind.i64.wrap (x_2.fst - (1 : Int)) = x'.fst ∧ True) ∧
 (Is (byts b) (byts b) ∧ x_4.snd.snd.snd = x'.snd.snd ∧ True) ∧
 (Is (syms s) (syms s) ∧ True) ∧
 (Is (AV.lit (0 : Nat) (1 : Nat) fun (x x_6 : Nat) => AV.any) nilA ∧ True) ∧
 IsO (xrR (List.map (fun (i : Nat) => (x_5.fst ++ [x_5.snd]).getD i Pl.dR) y)) (xrR x'.snd.fst) ∧
 True)) ∧
 Exists fun (x_3 : List Int × Int × Int) =>
 Rd (549755813888 : Int) x_3.fst x_3.snd.fst ∧
 (((0 : Nat) = (0 : Nat) ∧ (List.getD s x.fst Pl.dY).snd.snd = x_3.snd.snd ∧ True) ∧
 (Is (byts b) (byts x_3.fst) ∧ x_2.snd.snd = x_3.snd.fst ∧ True) ∧ True) ∧
 ∀ (y : Pl.Rt × Int),
 x_3.snd.fst ≤ y.snd ∧ y.snd ≤ x_3.snd.fst + (2 : Int) →
 ((0 : Int) ≤ (↑x.fst : Int) ∧ (↑x.fst : Int) < (↑(List.length s) : Int)) ∧
 x.fst < List.length s ∧
 (Exists fun (x_4 : Nat × List Pl.Rt × Pl.Rt × Int) =>
 (x_4.fst ≤ (List.getD s x.fst Pl.dY).snd.fst.length ∧
 x_4.snd.fst.length = x_4.fst ∧
 p ≤ x_4.snd.snd.snd ∧
 x_4.snd.snd.snd ≤ p + (100 : Int) * (↑x.fst : Int) + (3 : Int) + (30 : Int) * ((3 : Int) - x_2.fst) + (2 : Int) * (↑x_4.fst : Int)) ∧
 ((0 : Nat) = (0 : Nat) ∧
 (0 : Nat) = (0 : Nat) ∧
 (0 : Nat) = (0 : Nat) ∧
 ((0 : Nat) = (0 : Nat) ∧ List.length x_2.snd.fst = List.length x_2.snd.fst) ∧
 (↑x.fst : Int) = (↑x.fst : Int) ∧ x_2.fst = x_2.fst ∧ (0 : Nat) = (0 : Nat) ∧ (0 : Int) = (↑x_4.fst : Int) ∧ True) ∧
 (Is (byts x_3.fst) (byts b) ∧ y.snd = x_4.snd.snd.snd ∧ True) ∧
 (Is (syms s) (syms s) ∧ True) ∧
 (Is (AV.lit (0 : Nat) (1 : Nat) fun (x x_5 : Nat) => AV.any) nilA ∧ True) ∧
 IsO (xrR x_2.snd.fst) (xrR x_2.snd.fst) ∧
 ((List.getD s x.fst Pl.dY).fst = (List.getD s x.fst Pl.dY).fst ∧
 ((0 : Nat) = (0 : Nat) ∧ (0 : Nat) = (0 : Nat) ∧ x_4.snd.fst.length = (0 : Nat)) ∧
 y.fst.fst = x_4.snd.snd.fst.fst ∧ y.fst.snd = x_4.snd.snd.fst.snd ∧ True) ∧
 x_4.snd.fst.length = (0 : Nat) ∧ True) ∧
 ∀ (x_4 : Nat × List Pl.Rt × Pl.Rt × Int),
 x_4.fst ≤ (List.getD s x.fst Pl.dY).snd.fst.length ∧
 x_4.snd.fst.length = x_4.fst ∧
 p ≤ x_4.snd.snd.snd ∧
 x_4.snd.snd.snd ≤ p + (100 : Int) * (↑x.fst : Int) + (3 : Int) + (30 : Int) * ((3 : Int) - x_2.fst) + (2 : Int) * (↑x_4.fst : Int) →
 ((0 : Int) ≤ (↑x.fst : Int) ∧ (↑x.fst : Int) < (↑(List.length s) : Int)) ∧
 x.fst < List.length s ∧
 condP (Decidable.decide ((↑x_4.fst : Int) < (↑(List.getD s x.fst Pl.dY).snd.fst.length : Int)))
 ((((0 : Int) ≤ (↑x.fst : Int) ∧ (↑x.fst : Int) < (↑(List.length s) : Int)) ∧
 x.fst < List.length s ∧
 ((0 : Int) ≤ (↑x_4.fst : Int) ∧ (↑x_4.fst : Int) < (↑(List.getD s x.fst Pl.dY).snd.fst.length : Int)) ∧
 x_4.fst < (List.getD s x.fst Pl.dY).snd.fst.length ∧
 Exists fun (x_5 : List Int × Int × Int) =>
 Rd (549755813888 : Int) x_5.fst x_5.snd.fst ∧
 (((0 : Nat) = (0 : Nat) ∧ (List.getD s x.fst Pl.dY).snd.fst.getD x_4.fst (0 : Int) = x_5.snd.snd ∧ True) ∧
 (Is (byts b) (byts x_5.fst) ∧ x_4.snd.snd.snd = x_5.snd.fst ∧ True) ∧ True) ∧
 ∀ (y : Pl.Rt × Int),
 x_5.snd.fst ≤ y.snd ∧ y.snd ≤ x_5.snd.fst + (2 : Int) →
 (0 : Nat) + x_4.snd.fst.length ≤ x_4.snd.fst.length ∧
 (x_4.snd.fst.length + (1 : Nat)) * (16 : Nat) ≤ (70368744177664 : Nat) ∧
 Exists fun (x' : Nat × List Pl.Rt × Pl.Rt × Int) =>
 (x'.fst ≤ (List.getD s x.fst Pl.dY).snd.fst.length ∧
 x'.snd.fst.length = x'.fst ∧
 p ≤ x'.snd.snd.snd ∧
 x'.snd.snd.snd ≤
 p + (100 : Int) * (↑x.fst : Int) + (3 : Int) + (30 : Int) * ((3 : Int) - x_2.fst) +
 (2 : Int) * (↑x'.fst : Int)) ∧
 (List.getD s x.fst Pl.dY).snd.fst.length - x'.fst < (List.getD s x.fst Pl.dY).snd.fst.length - x_4.fst ∧
 ((0 : Nat) = (0 : Nat) ∧
 (0 : Nat) = (0 : Nat) ∧
 (0 : Nat) = (0 : Nat) ∧
 ((0 : Nat) = (0 : Nat) ∧ List.length x_2.snd.fst = List.length x_2.snd.fst) ∧
 (↑x.fst : Int) = (↑x.fst : Int) ∧
 x_2.fst = x_2.fst ∧
 (0 : Nat) = (0 : Nat) ∧
 IntKind.i64.wrap ((↑x_4.fst : Int) + (1 : Int)) = (↑x'.fst : Int) ∧ True) ∧
 (Is (byts x_5.fst) (byts b) ∧ y.snd = x'.snd.snd.snd ∧ True) ∧
 (Is (syms s) (syms s) ∧ True) ∧
 (Is (AV.lit (0 : Nat) (1 : Nat) fun (x x_6 : Nat) => AV.any) nilA ∧ True) ∧
 IsO (xrR x_2.snd.fst) (xrR x_2.snd.fst) ∧
 ((List.getD s x.fst Pl.dY).fst = (List.getD s x.fst Pl.dY).fst ∧
 ((0 : Nat) = (0 : Nat) ∧ x_4.snd.fst.length + (1 : Nat) = x'.snd.fst.length) ∧
 x_4.snd.snd.fst.fst = x'.snd.snd.fst.fst ∧
 x_4.snd.snd.fst.snd = x'.snd.snd.fst.snd ∧ True) ∧
 IsO
 (AObj.arr (x_4.snd.fst.length + (1 : Nat)) (2 : Nat)
 (joinC x_4.snd.fst.length (cQ x_4.snd.fst)
 (rowsCell [[i64 y.fst.fst, i64 y.fst.snd]])))
 (arQ x'.snd.fst) ∧
 True) ∧
 ((0 : Int) ≤ (↑x.fst : Int) ∧ (↑x.fst : Int) < (↑(List.length s) : Int)) ∧
 x.fst < List.length s ∧
 ((0 : Int) ≤ (↑x_4.fst : Int) ∧ (↑x_4.fst : Int) < (↑(List.getD s x.fst Pl.dY).snd.fst.length : Int)) ∧
 x_4.fst < (List.getD s x.fst Pl.dY).snd.fst.length ∧
 (Exists fun (x_5 : List Int × Int × Int) =>
 Rd (549755813888 : Int) x_5.fst x_5.snd.fst ∧
 (((0 : Nat) = (0 : Nat) ∧ (List.getD s x.fst Pl.dY).snd.fst.getD x_4.fst (0 : Int) = x_5.snd.snd ∧ True) ∧
 (Is (byts b) (byts x_5.fst) ∧ x_4.snd.snd.snd = x_5.snd.fst ∧ True) ∧ True) ∧
 ∀ (y : Pl.Rt × Int),
 x_5.snd.fst ≤ y.snd ∧ y.snd ≤ x_5.snd.fst + (2 : Int) →
 (0 : Nat) + x_4.snd.fst.length ≤ x_4.snd.fst.length ∧
 (x_4.snd.fst.length + (1 : Nat)) * (16 : Nat) ≤ (70368744177664 : Nat) ∧
 Exists fun (x' : Nat × List Pl.Rt × Pl.Rt × Int) =>
 (x'.fst ≤ (List.getD s x.fst Pl.dY).snd.fst.length ∧
 x'.snd.fst.length = x'.fst ∧
 p ≤ x'.snd.snd.snd ∧
 x'.snd.snd.snd ≤
 p + (100 : Int) * (↑x.fst : Int) + (3 : Int) + (30 : Int) * ((3 : Int) - x_2.fst) +
 (2 : Int) * (↑x'.fst : Int)) ∧
 (List.getD s x.fst Pl.dY).snd.fst.length - x'.fst < (List.getD s x.fst Pl.dY).snd.fst.length - x_4.fst ∧
 ((0 : Nat) = (0 : Nat) ∧
 (0 : Nat) = (0 : Nat) ∧
 (0 : Nat) = (0 : Nat) ∧
 ((0 : Nat) = (0 : Nat) ∧ List.length x_2.snd.fst = List.length x_2.snd.fst) ∧
 (↑x.fst : Int) = (↑x.fst : Int) ∧
 x_2.fst = x_2.fst ∧
 (0 : Nat) = (0 : Nat) ∧
 IntKind.i64.wrap ((↑x_4.fst : Int) + (1 : Int)) = (↑x'.fst : Int) ∧ True) ∧
 (Is (byts x_5.fst) (byts b) ∧ y.snd = x'.snd.snd.snd ∧ True) ∧
 (Is (syms s) (syms s) ∧ True) ∧
 (Is (AV.lit (0 : Nat) (1 : Nat) fun (x x_6 : Nat) => AV.any) nilA ∧ True) ∧
 IsO (xrR x_2.snd.fst) (xrR x_2.snd.fst) ∧
 ((List.getD s x.fst Pl.dY).fst = (List.getD s x.fst Pl.dY).fst ∧
 ((0 : Nat) = (0 : Nat) ∧ x_4.snd.fst.length + (1 : Nat) = x'.snd.fst.length) ∧
 x_4.snd.snd.fst.fst = x'.snd.snd.fst.fst ∧
 x_4.snd.snd.fst.snd = x'.snd.snd.fst.snd ∧ True) ∧
 IsO
 (AObj.arr (x_4.snd.fst.length + (1 : Nat)) (2 : Nat)
 (joinC x_4.snd.fst.length (cQ x_4.snd.fst)
 (rowsCell [[i64 y.fst.fst, i64 y.fst.snd]])))
 (arQ x'.snd.fst) ∧
 True) ∧
 Exists fun (x_5 : List Int × Int × Int) =>
 Rd (549755813888 : Int) x_5.fst x_5.snd.fst ∧
 (((0 : Nat) = (0 : Nat) ∧ (List.getD s x.fst Pl.dY).snd.fst.getD x_4.fst (0 : Int) = x_5.snd.snd ∧ True) ∧
 (Is (byts b) (byts x_5.fst) ∧ x_4.snd.snd.snd = x_5.snd.fst ∧ True) ∧ True) ∧
 ∀ (y : Pl.Rt × Int),
 x_5.snd.fst ≤ y.snd ∧ y.snd ≤ x_5.snd.fst + (2 : Int) →
 (0 : Nat) + x_4.snd.fst.length ≤ x_4.snd.fst.length ∧
 (x_4.snd.fst.length + (1 : Nat)) * (16 : Nat) ≤ (70368744177664 : Nat) ∧
 Exists fun (x' : Nat × List Pl.Rt × Pl.Rt × Int) =>
 (x'.fst ≤ (List.getD s x.fst Pl.dY).snd.fst.length ∧
 x'.snd.fst.length = x'.fst ∧
 p ≤ x'.snd.snd.snd ∧
 x'.snd.snd.snd ≤
 p + (100 : Int) * (↑x.fst : Int) + (3 : Int) + (30 : Int) * ((3 : Int) - x_2.fst) +
 (2 : Int) * (↑x'.fst : Int)) ∧
 (List.getD s x.fst Pl.dY).snd.fst.length - x'.fst < (List.getD s x.fst Pl.dY).snd.fst.length - x_4.fst ∧
 ((0 : Nat) = (0 : Nat) ∧
 (0 : Nat) = (0 : Nat) ∧
 (0 : Nat) = (0 : Nat) ∧
 ((0 : Nat) = (0 : Nat) ∧ List.length x_2.snd.fst = List.length x_2.snd.fst) ∧
 (↑x.fst : Int) = (↑x.fst : Int) ∧
 x_2.fst = x_2.fst ∧
 (0 : Nat) = (0 : Nat) ∧
 IntKind.i64.wrap ((↑x_4.fst : Int) + (1 : Int)) = (↑x'.fst : Int) ∧ True) ∧
 (Is (byts x_5.fst) (byts b) ∧ y.snd = x'.snd.snd.snd ∧ True) ∧
 (Is (syms s) (syms s) ∧ True) ∧
 (Is (AV.lit (0 : Nat) (1 : Nat) fun (x x_6 : Nat) => AV.any) nilA ∧ True) ∧
 IsO (xrR x_2.snd.fst) (xrR x_2.snd.fst) ∧
 ((List.getD s x.fst Pl.dY).fst = (List.getD s x.fst Pl.dY).fst ∧
 ((0 : Nat) = (0 : Nat) ∧ x_4.snd.fst.length + (1 : Nat) = x'.snd.fst.length) ∧
 x_4.snd.snd.fst.fst = x'.snd.snd.fst.fst ∧
 x_4.snd.snd.fst.snd = x'.snd.snd.fst.snd ∧ True) ∧
 IsO
 (AObj.arr (x_4.snd.fst.length + (1 : Nat)) (2 : Nat)
 (joinC x_4.snd.fst.length (cQ x_4.snd.fst)
 (rowsCell [[i64 y.fst.fst, i64 y.fst.snd]])))
 (arQ x'.snd.fst) ∧
 True)
 (Exists fun (x_5 : List Pl.Rw × Pl.Rw) =>
 (x_5.fst.length ≤ (1000 : Nat) ∧
 (∀ (y : Pl.Rw), y ∈ x_5.fst → y.snd.fst.length ≤ (1000 : Nat)) ∧ x_5.snd.snd.fst.length ≤ (1000 : Nat)) ∧
 ((((0 : Nat) = (0 : Nat) ∧ List.length x_2.snd.fst = x_5.fst.length) ∧
 ((List.getD s x.fst Pl.dY).fst = x_5.snd.fst ∧
 ((0 : Nat) = (0 : Nat) ∧ x_4.snd.fst.length = x_5.snd.snd.fst.length) ∧
 x_4.snd.snd.fst.fst = x_5.snd.snd.snd.fst ∧ x_4.snd.snd.fst.snd = x_5.snd.snd.snd.snd ∧ True) ∧
 True) ∧
 IsO (xrR x_2.snd.fst) (xrR x_5.fst) ∧ IsO (arQ x_4.snd.fst) (arQ x_5.snd.snd.fst) ∧ True) ∧
 ∀ (y : List Nat),
 HPut x_5.fst.length y →
 Exists fun (x' : Int × Pl.Mdl × Int) =>
 ((0 : Int) ≤ x'.fst ∧
 x'.fst ≤ (3 : Int) ∧
 Pl.MdB ((3 : Nat) * x.fst + (3 : Nat) - x'.fst.toNat) (2 : Nat) x'.snd.fst ∧
 p ≤ x'.snd.snd ∧ x'.snd.snd ≤ p + (100 : Int) * (↑x.fst : Int) + (1 : Int) + (30 : Int) * ((3 : Int) - x'.fst)) ∧
 x'.fst.toNat < x_2.fst.toNat ∧
 ((0 : Nat) = (0 : Nat) ∧
 (0 : Nat) = (0 : Nat) ∧
 (0 : Nat) = (0 : Nat) ∧
 ((0 : Nat) = (0 : Nat) ∧ y.length = List.length x'.snd.fst) ∧
 (↑x.fst : Int) = (↑x.fst : Int) ∧ IntKind.i64.wrap (x_2.fst - (1 : Int)) = x'.fst ∧ True) ∧
 (Is (byts b) (byts b) ∧ x_4.snd.snd.snd = x'.snd.snd ∧ True) ∧
 (Is (syms s) (syms s) ∧ True) ∧
 (Is (AV.lit (0 : Nat) (1 : Nat) fun (x x_6 : Nat) => AV.any) nilA ∧ True) ∧
 IsO (xrR (List.map (fun (i : Nat) => (x_5.fst ++ [x_5.snd]).getD i Pl.dR) y)) (xrR x'.snd.fst) ∧
 True)) ∧
 (((0 : Int) ≤ (↑x.fst : Int) ∧ (↑x.fst : Int) < (↑(List.length s) : Int)) ∧
 x.fst < List.length s ∧
 ((0 : Int) ≤ (↑x.fst : Int) ∧ (↑x.fst : Int) < (↑(List.length s) : Int)) ∧
 x.fst < List.length s ∧
 Exists fun (x_3 : List Int × Int × Int) =>
 Rd (549755813888 : Int) x_3.fst x_3.snd.fst ∧
 (((0 : Nat) = (0 : Nat) ∧ (List.getD s x.fst Pl.dY).snd.snd = x_3.snd.snd ∧ True) ∧
 (Is (byts b) (byts x_3.fst) ∧ x_2.snd.snd = x_3.snd.fst ∧ True) ∧ True) ∧
 ∀ (y : Pl.Rt × Int),
 x_3.snd.fst ≤ y.snd ∧ y.snd ≤ x_3.snd.fst + (2 : Int) →
 (Exists fun (x_4 : Nat × List Pl.Rt × Pl.Rt × Int) =>
 (x_4.fst ≤ (List.getD s x.fst Pl.dY).snd.fst.length ∧
 x_4.snd.fst.length = x_4.fst ∧
 p ≤ x_4.snd.snd.snd ∧
 x_4.snd.snd.snd ≤ p + (100 : Int) * (↑x.fst : Int) + (3 : Int) + (30 : Int) * ((3 : Int) - x_2.fst) + (2 : Int) * (↑x_4.fst : Int)) ∧
 ((0 : Nat) = (0 : Nat) ∧
 (0 : Nat) = (0 : Nat) ∧
 (0 : Nat) = (0 : Nat) ∧
 ((0 : Nat) = (0 : Nat) ∧ List.length x_2.snd.fst = List.length x_2.snd.fst) ∧
 (↑x.fst : Int) = (↑x.fst : Int) ∧ x_2.fst = x_2.fst ∧ (0 : Nat) = (0 : Nat) ∧ (0 : Int) = (↑x_4.fst : Int) ∧ True) ∧
 (Is (byts x_3.fst) (byts b) ∧ y.snd = x_4.snd.snd.snd ∧ True) ∧
 (Is (syms s) (syms s) ∧ True) ∧
 (Is (AV.lit (0 : Nat) (1 : Nat) fun (x x_5 : Nat) => AV.any) nilA ∧ True) ∧
 IsO (xrR x_2.snd.fst) (xrR x_2.snd.fst) ∧
 ((List.getD s x.fst Pl.dY).fst = (List.getD s x.fst Pl.dY).fst ∧
 ((0 : Nat) = (0 : Nat) ∧ (0 : Nat) = (0 : Nat) ∧ x_4.snd.fst.length = (0 : Nat)) ∧
 y.fst.fst = x_4.snd.snd.fst.fst ∧ y.fst.snd = x_4.snd.snd.fst.snd ∧ True) ∧
 x_4.snd.fst.length = (0 : Nat) ∧ True) ∧
 ∀ (x_4 : Nat × List Pl.Rt × Pl.Rt × Int),
 x_4.fst ≤ (List.getD s x.fst Pl.dY).snd.fst.length ∧
 x_4.snd.fst.length = x_4.fst ∧
 p ≤ x_4.snd.snd.snd ∧
 x_4.snd.snd.snd ≤ p + (100 : Int) * (↑x.fst : Int) + (3 : Int) + (30 : Int) * ((3 : Int) - x_2.fst) + (2 : Int) * (↑x_4.fst : Int) →
 ((0 : Int) ≤ (↑x.fst : Int) ∧ (↑x.fst : Int) < (↑(List.length s) : Int)) ∧
 x.fst < List.length s ∧
 condP (Decidable.decide ((↑x_4.fst : Int) < (↑(List.getD s x.fst Pl.dY).snd.fst.length : Int)))
 ((((0 : Int) ≤ (↑x.fst : Int) ∧ (↑x.fst : Int) < (↑(List.length s) : Int)) ∧
 x.fst < List.length s ∧
 ((0 : Int) ≤ (↑x_4.fst : Int) ∧ (↑x_4.fst : Int) < (↑(List.getD s x.fst Pl.dY).snd.fst.length : Int)) ∧
 x_4.fst < (List.getD s x.fst Pl.dY).snd.fst.length ∧
 Exists fun (x_5 : List Int × Int × Int) =>
 Rd (549755813888 : Int) x_5.fst x_5.snd.fst ∧
 (((0 : Nat) = (0 : Nat) ∧ (List.getD s x.fst Pl.dY).snd.fst.getD x_4.fst (0 : Int) = x_5.snd.snd ∧ True) ∧
 (Is (byts b) (byts x_5.fst) ∧ x_4.snd.snd.snd = x_5.snd.fst ∧ True) ∧ True) ∧
 ∀ (y : Pl.Rt × Int),
 x_5.snd.fst ≤ y.snd ∧ y.snd ≤ x_5.snd.fst + (2 : Int) →
 (0 : Nat) + x_4.snd.fst.length ≤ x_4.snd.fst.length ∧
 (x_4.snd.fst.length + (1 : Nat)) * (16 : Nat) ≤ (70368744177664 : Nat) ∧
 Exists fun (x' : Nat × List Pl.Rt × Pl.Rt × Int) =>
 (x'.fst ≤ (List.getD s x.fst Pl.dY).snd.fst.length ∧
 x'.snd.fst.length = x'.fst ∧
 p ≤ x'.snd.snd.snd ∧
 x'.snd.snd.snd ≤
 p + (100 : Int) * (↑x.fst : Int) + (3 : Int) + (30 : Int) * ((3 : Int) - x_2.fst) +
 (2 : Int) * (↑x'.fst : Int)) ∧
 (List.getD s x.fst Pl.dY).snd.fst.length - x'.fst < (List.getD s x.fst Pl.dY).snd.fst.length - x_4.fst ∧
 ((0 : Nat) = (0 : Nat) ∧
 (0 : Nat) = (0 : Nat) ∧
 (0 : Nat) = (0 : Nat) ∧
 ((0 : Nat) = (0 : Nat) ∧ List.length x_2.snd.fst = List.length x_2.snd.fst) ∧
 (↑x.fst : Int) = (↑x.fst : Int) ∧
 x_2.fst = x_2.fst ∧
 (0 : Nat) = (0 : Nat) ∧
 IntKind.i64.wrap ((↑x_4.fst : Int) + (1 : Int)) = (↑x'.fst : Int) ∧ True) ∧
 (Is (byts x_5.fst) (byts b) ∧ y.snd = x'.snd.snd.snd ∧ True) ∧
 (Is (syms s) (syms s) ∧ True) ∧
 (Is (AV.lit (0 : Nat) (1 : Nat) fun (x x_6 : Nat) => AV.any) nilA ∧ True) ∧
 IsO (xrR x_2.snd.fst) (xrR x_2.snd.fst) ∧
 ((List.getD s x.fst Pl.dY).fst = (List.getD s x.fst Pl.dY).fst ∧
 ((0 : Nat) = (0 : Nat) ∧ x_4.snd.fst.length + (1 : Nat) = x'.snd.fst.length) ∧
 x_4.snd.snd.fst.fst = x'.snd.snd.fst.fst ∧
 x_4.snd.snd.fst.snd = x'.snd.snd.fst.snd ∧ True) ∧
 IsO
 (AObj.arr (x_4.snd.fst.length + (1 : Nat)) (2 : Nat)
 (joinC x_4.snd.fst.length (cQ x_4.snd.fst)
 (rowsCell [[i64 y.fst.fst, i64 y.fst.snd]])))
 (arQ x'.snd.fst) ∧
 True) ∧
 ((0 : Int) ≤ (↑x.fst : Int) ∧ (↑x.fst : Int) < (↑(List.length s) : Int)) ∧
 x.fst < List.length s ∧
 ((0 : Int) ≤ (↑x_4.fst : Int) ∧ (↑x_4.fst : Int) < (↑(List.getD s x.fst Pl.dY).snd.fst.length : Int)) ∧
 x_4.fst < (List.getD s x.fst Pl.dY).snd.fst.length ∧
 (Exists fun (x_5 : List Int × Int × Int) =>
 Rd (549755813888 : Int) x_5.fst x_5.snd.fst ∧
 (((0 : Nat) = (0 : Nat) ∧ (List.getD s x.fst Pl.dY).snd.fst.getD x_4.fst (0 : Int) = x_5.snd.snd ∧ True) ∧
 (Is (byts b) (byts x_5.fst) ∧ x_4.snd.snd.snd = x_5.snd.fst ∧ True) ∧ True) ∧
 ∀ (y : Pl.Rt × Int),
 x_5.snd.fst ≤ y.snd ∧ y.snd ≤ x_5.snd.fst + (2 : Int) →
 (0 : Nat) + x_4.snd.fst.length ≤ x_4.snd.fst.length ∧
 (x_4.snd.fst.length + (1 : Nat)) * (16 : Nat) ≤ (70368744177664 : Nat) ∧
 Exists fun (x' : Nat × List Pl.Rt × Pl.Rt × Int) =>
 (x'.fst ≤ (List.getD s x.fst Pl.dY).snd.fst.length ∧
 x'.snd.fst.length = x'.fst ∧
 p ≤ x'.snd.snd.snd ∧
 x'.snd.snd.snd ≤
 p + (100 : Int) * (↑x.fst : Int) + (3 : Int) + (30 : Int) * ((3 : Int) - x_2.fst) +
 (2 : Int) * (↑x'.fst : Int)) ∧
 (List.getD s x.fst Pl.dY).snd.fst.length - x'.fst < (List.getD s x.fst Pl.dY).snd.fst.length - x_4.fst ∧
 ((0 : Nat) = (0 : Nat) ∧
 (0 : Nat) = (0 : Nat) ∧
 (0 : Nat) = (0 : Nat) ∧
 ((0 : Nat) = (0 : Nat) ∧ List.length x_2.snd.fst = List.length x_2.snd.fst) ∧
 (↑x.fst : Int) = (↑x.fst : Int) ∧
 x_2.fst = x_2.fst ∧
 (0 : Nat) = (0 : Nat) ∧
 IntKind.i64.wrap ((↑x_4.fst : Int) + (1 : Int)) = (↑x'.fst : Int) ∧ True) ∧
 (Is (byts x_5.fst) (byts b) ∧ y.snd = x'.snd.snd.snd ∧ True) ∧
 (Is (syms s) (syms s) ∧ True) ∧
 (Is (AV.lit (0 : Nat) (1 : Nat) fun (x x_6 : Nat) => AV.any) nilA ∧ True) ∧
 IsO (xrR x_2.snd.fst) (xrR x_2.snd.fst) ∧
 ((List.getD s x.fst Pl.dY).fst = (List.getD s x.fst Pl.dY).fst ∧
 ((0 : Nat) = (0 : Nat) ∧ x_4.snd.fst.length + (1 : Nat) = x'.snd.fst.length) ∧
 x_4.snd.snd.fst.fst = x'.snd.snd.fst.fst ∧
 x_4.snd.snd.fst.snd = x'.snd.snd.fst.snd ∧ True) ∧
 IsO
 (AObj.arr (x_4.snd.fst.length + (1 : Nat)) (2 : Nat)
 (joinC x_4.snd.fst.length (cQ x_4.snd.fst)
 (rowsCell [[i64 y.fst.fst, i64 y.fst.snd]])))
 (arQ x'.snd.fst) ∧
 True) ∧
 Exists fun (x_5 : List Int × Int × Int) =>
 Rd (549755813888 : Int) x_5.fst x_5.snd.fst ∧
 (((0 : Nat) = (0 : Nat) ∧ (List.getD s x.fst Pl.dY).snd.fst.getD x_4.fst (0 : Int) = x_5.snd.snd ∧ True) ∧
 (Is (byts b) (byts x_5.fst) ∧ x_4.snd.snd.snd = x_5.snd.fst ∧ True) ∧ True) ∧
 ∀ (y : Pl.Rt × Int),
 x_5.snd.fst ≤ y.snd ∧ y.snd ≤ x_5.snd.fst + (2 : Int) →
 (0 : Nat) + x_4.snd.fst.length ≤ x_4.snd.fst.length ∧
 (x_4.snd.fst.length + (1 : Nat)) * (16 : Nat) ≤ (70368744177664 : Nat) ∧
 Exists fun (x' : Nat × List Pl.Rt × Pl.Rt × Int) =>
 (x'.fst ≤ (List.getD s x.fst Pl.dY).snd.fst.length ∧
 x'.snd.fst.length = x'.fst ∧
 p ≤ x'.snd.snd.snd ∧
 x'.snd.snd.snd ≤
 p + (100 : Int) * (↑x.fst : Int) + (3 : Int) + (30 : Int) * ((3 : Int) - x_2.fst) +
 (2 : Int) * (↑x'.fst : Int)) ∧
 (List.getD s x.fst Pl.dY).snd.fst.length - x'.fst < (List.getD s x.fst Pl.dY).snd.fst.length - x_4.fst ∧
 ((0 : Nat) = (0 : Nat) ∧
 (0 : Nat) = (0 : Nat) ∧
 (0 : Nat) = (0 : Nat) ∧
 ((0 : Nat) = (0 : Nat) ∧ List.length x_2.snd.fst = List.length x_2.snd.fst) ∧
 (↑x.fst : Int) = (↑x.fst : Int) ∧
 x_2.fst = x_2.fst ∧
 (0 : Nat) = (0 : Nat) ∧
 IntKind.i64.wrap ((↑x_4.fst : Int) + (1 : Int)) = (↑x'.fst : Int) ∧ True) ∧
 (Is (byts x_5.fst) (byts b) ∧ y.snd = x'.snd.snd.snd ∧ True) ∧
 (Is (syms s) (syms s) ∧ True) ∧
 (Is (AV.lit (0 : Nat) (1 : Nat) fun (x x_6 : Nat) => AV.any) nilA ∧ True) ∧
 IsO (xrR x_2.snd.fst) (xrR x_2.snd.fst) ∧
 ((List.getD s x.fst Pl.dY).fst = (List.getD s x.fst Pl.dY).fst ∧
 ((0 : Nat) = (0 : Nat) ∧ x_4.snd.fst.length + (1 : Nat) = x'.snd.fst.length) ∧
 x_4.snd.snd.fst.fst = x'.snd.snd.fst.fst ∧
 x_4.snd.snd.fst.snd = x'.snd.snd.fst.snd ∧ True) ∧
 IsO
 (AObj.arr (x_4.snd.fst.length + (1 : Nat)) (2 : Nat)
 (joinC x_4.snd.fst.length (cQ x_4.snd.fst)
 (rowsCell [[i64 y.fst.fst, i64 y.fst.snd]])))
 (arQ x'.snd.fst) ∧
 True)
 (Exists fun (x_5 : List Pl.Rw × Pl.Rw) =>
 (x_5.fst.length ≤ (1000 : Nat) ∧
 (∀ (y : Pl.Rw), y ∈ x_5.fst → y.snd.fst.length ≤ (1000 : Nat)) ∧ x_5.snd.snd.fst.length ≤ (1000 : Nat)) ∧
 ((((0 : Nat) = (0 : Nat) ∧ List.length x_2.snd.fst = x_5.fst.length) ∧
 ((List.getD s x.fst Pl.dY).fst = x_5.snd.fst ∧
 ((0 : Nat) = (0 : Nat) ∧ x_4.snd.fst.length = x_5.snd.snd.fst.length) ∧
 x_4.snd.snd.fst.fst = x_5.snd.snd.snd.fst ∧ x_4.snd.snd.fst.snd = x_5.snd.snd.snd.snd ∧ True) ∧
 True) ∧
 IsO (xrR x_2.snd.fst) (xrR x_5.fst) ∧ IsO (arQ x_4.snd.fst) (arQ x_5.snd.snd.fst) ∧ True) ∧
 ∀ (y : List Nat),
 HPut x_5.fst.length y →
 Exists fun (x' : Int × Pl.Mdl × Int) =>
 ((0 : Int) ≤ x'.fst ∧
 x'.fst ≤ (3 : Int) ∧
 Pl.MdB ((3 : Nat) * x.fst + (3 : Nat) - x'.fst.toNat) (2 : Nat) x'.snd.fst ∧
 p ≤ x'.snd.snd ∧ x'.snd.snd ≤ p + (100 : Int) * (↑x.fst : Int) + (1 : Int) + (30 : Int) * ((3 : Int) - x'.fst)) ∧
 x'.fst.toNat < x_2.fst.toNat ∧
 ((0 : Nat) = (0 : Nat) ∧
 (0 : Nat) = (0 : Nat) ∧
 (0 : Nat) = (0 : Nat) ∧
 ((0 : Nat) = (0 : Nat) ∧ y.length = List.length x'.snd.fst) ∧
 (↑x.fst : Int) = (↑x.fst : Int) ∧ IntKind.i64.wrap (x_2.fst - (1 : Int)) = x'.fst ∧ True) ∧
 (Is (byts b) (byts b) ∧ x_4.snd.snd.snd = x'.snd.snd ∧ True) ∧
 (Is (syms s) (syms s) ∧ True) ∧
 (Is (AV.lit (0 : Nat) (1 : Nat) fun (x x_6 : Nat) => AV.any) nilA ∧ True) ∧
 IsO (xrR (List.map (fun (i : Nat) => (x_5.fst ++ [x_5.snd]).getD i Pl.dR) y)) (xrR x'.snd.fst) ∧ True)) ∧
 ((0 : Int) ≤ (↑x.fst : Int) ∧ (↑x.fst : Int) < (↑(List.length s) : Int)) ∧
 x.fst < List.length s ∧
 (((0 : Int) ≤ (↑x.fst : Int) ∧ (↑x.fst : Int) < (↑(List.length s) : Int)) ∧
 x.fst < List.length s ∧
 Exists fun (x_3 : List Int × Int × Int) =>
 Rd (549755813888 : Int) x_3.fst x_3.snd.fst ∧
 (((0 : Nat) = (0 : Nat) ∧ (List.getD s x.fst Pl.dY).snd.snd = x_3.snd.snd ∧ True) ∧
 (Is (byts b) (byts x_3.fst) ∧ x_2.snd.snd = x_3.snd.fst ∧ True) ∧ True) ∧
 ∀ (y : Pl.Rt × Int),
 x_3.snd.fst ≤ y.snd ∧ y.snd ≤ x_3.snd.fst + (2 : Int) →
 (Exists fun (x_4 : Nat × List Pl.Rt × Pl.Rt × Int) =>
 (x_4.fst ≤ (List.getD s x.fst Pl.dY).snd.fst.length ∧
 x_4.snd.fst.length = x_4.fst ∧
 p ≤ x_4.snd.snd.snd ∧
 x_4.snd.snd.snd ≤ p + (100 : Int) * (↑x.fst : Int) + (3 : Int) + (30 : Int) * ((3 : Int) - x_2.fst) + (2 : Int) * (↑x_4.fst : Int)) ∧
 ((0 : Nat) = (0 : Nat) ∧
 (0 : Nat) = (0 : Nat) ∧
 (0 : Nat) = (0 : Nat) ∧
 ((0 : Nat) = (0 : Nat) ∧ List.length x_2.snd.fst = List.length x_2.snd.fst) ∧
 (↑x.fst : Int) = (↑x.fst : Int) ∧ x_2.fst = x_2.fst ∧ (0 : Nat) = (0 : Nat) ∧ (0 : Int) = (↑x_4.fst : Int) ∧ True) ∧
 (Is (byts x_3.fst) (byts b) ∧ y.snd = x_4.snd.snd.snd ∧ True) ∧
 (Is (syms s) (syms s) ∧ True) ∧
 (Is (AV.lit (0 : Nat) (1 : Nat) fun (x x_5 : Nat) => AV.any) nilA ∧ True) ∧
 IsO (xrR x_2.snd.fst) (xrR x_2.snd.fst) ∧
 ((List.getD s x.fst Pl.dY).fst = (List.getD s x.fst Pl.dY).fst ∧
 ((0 : Nat) = (0 : Nat) ∧ (0 : Nat) = (0 : Nat) ∧ x_4.snd.fst.length = (0 : Nat)) ∧
 y.fst.fst = x_4.snd.snd.fst.fst ∧ y.fst.snd = x_4.snd.snd.fst.snd ∧ True) ∧
 x_4.snd.fst.length = (0 : Nat) ∧ True) ∧
 ∀ (x_4 : Nat × List Pl.Rt × Pl.Rt × Int),
 x_4.fst ≤ (List.getD s x.fst Pl.dY).snd.fst.length ∧
 x_4.snd.fst.length = x_4.fst ∧
 p ≤ x_4.snd.snd.snd ∧
 x_4.snd.snd.snd ≤ p + (100 : Int) * (↑x.fst : Int) + (3 : Int) + (30 : Int) * ((3 : Int) - x_2.fst) + (2 : Int) * (↑x_4.fst : Int) →
 ((0 : Int) ≤ (↑x.fst : Int) ∧ (↑x.fst : Int) < (↑(List.length s) : Int)) ∧
 x.fst < List.length s ∧
 condP (Decidable.decide ((↑x_4.fst : Int) < (↑(List.getD s x.fst Pl.dY).snd.fst.length : Int)))
 ((((0 : Int) ≤ (↑x.fst : Int) ∧ (↑x.fst : Int) < (↑(List.length s) : Int)) ∧
 x.fst < List.length s ∧
 ((0 : Int) ≤ (↑x_4.fst : Int) ∧ (↑x_4.fst : Int) < (↑(List.getD s x.fst Pl.dY).snd.fst.length : Int)) ∧
 x_4.fst < (List.getD s x.fst Pl.dY).snd.fst.length ∧
 Exists fun (x_5 : List Int × Int × Int) =>
 Rd (549755813888 : Int) x_5.fst x_5.snd.fst ∧
 (((0 : Nat) = (0 : Nat) ∧ (List.getD s x.fst Pl.dY).snd.fst.getD x_4.fst (0 : Int) = x_5.snd.snd ∧ True) ∧
 (Is (byts b) (byts x_5.fst) ∧ x_4.snd.snd.snd = x_5.snd.fst ∧ True) ∧ True) ∧
 ∀ (y : Pl.Rt × Int),
 x_5.snd.fst ≤ y.snd ∧ y.snd ≤ x_5.snd.fst + (2 : Int) →
 (0 : Nat) + x_4.snd.fst.length ≤ x_4.snd.fst.length ∧
 (x_4.snd.fst.length + (1 : Nat)) * (16 : Nat) ≤ (70368744177664 : Nat) ∧
 Exists fun (x' : Nat × List Pl.Rt × Pl.Rt × Int) =>
 (x'.fst ≤ (List.getD s x.fst Pl.dY).snd.fst.length ∧
 x'.snd.fst.length = x'.fst ∧
 p ≤ x'.snd.snd.snd ∧
 x'.snd.snd.snd ≤
 p + (100 : Int) * (↑x.fst : Int) + (3 : Int) + (30 : Int) * ((3 : Int) - x_2.fst) +
 (2 : Int) * (↑x'.fst : Int)) ∧
 (List.getD s x.fst Pl.dY).snd.fst.length - x'.fst < (List.getD s x.fst Pl.dY).snd.fst.length - x_4.fst ∧
 ((0 : Nat) = (0 : Nat) ∧
 (0 : Nat) = (0 : Nat) ∧
 (0 : Nat) = (0 : Nat) ∧
 ((0 : Nat) = (0 : Nat) ∧ List.length x_2.snd.fst = List.length x_2.snd.fst) ∧
 (↑x.fst : Int) = (↑x.fst : Int) ∧
 x_2.fst = x_2.fst ∧
 (0 : Nat) = (0 : Nat) ∧
 IntKind.i64.wrap ((↑x_4.fst : Int) + (1 : Int)) = (↑x'.fst : Int) ∧ True) ∧
 (Is (byts x_5.fst) (byts b) ∧ y.snd = x'.snd.snd.snd ∧ True) ∧
 (Is (syms s) (syms s) ∧ True) ∧
 (Is (AV.lit (0 : Nat) (1 : Nat) fun (x x_6 : Nat) => AV.any) nilA ∧ True) ∧
 IsO (xrR x_2.snd.fst) (xrR x_2.snd.fst) ∧
 ((List.getD s x.fst Pl.dY).fst = (List.getD s x.fst Pl.dY).fst ∧
 ((0 : Nat) = (0 : Nat) ∧ x_4.snd.fst.length + (1 : Nat) = x'.snd.fst.length) ∧
 x_4.snd.snd.fst.fst = x'.snd.snd.fst.fst ∧
 x_4.snd.snd.fst.snd = x'.snd.snd.fst.snd ∧ True) ∧
 IsO
 (AObj.arr (x_4.snd.fst.length + (1 : Nat)) (2 : Nat)
 (joinC x_4.snd.fst.length (cQ x_4.snd.fst)
 (rowsCell [[i64 y.fst.fst, i64 y.fst.snd]])))
 (arQ x'.snd.fst) ∧
 True) ∧
 ((0 : Int) ≤ (↑x.fst : Int) ∧ (↑x.fst : Int) < (↑(List.length s) : Int)) ∧
 x.fst < List.length s ∧
 ((0 : Int) ≤ (↑x_4.fst : Int) ∧ (↑x_4.fst : Int) < (↑(List.getD s x.fst Pl.dY).snd.fst.length : Int)) ∧
 x_4.fst < (List.getD s x.fst Pl.dY).snd.fst.length ∧
 (Exists fun (x_5 : List Int × Int × Int) =>
 Rd (549755813888 : Int) x_5.fst x_5.snd.fst ∧
 (((0 : Nat) = (0 : Nat) ∧ (List.getD s x.fst Pl.dY).snd.fst.getD x_4.fst (0 : Int) = x_5.snd.snd ∧ True) ∧
 (Is (byts b) (byts x_5.fst) ∧ x_4.snd.snd.snd = x_5.snd.fst ∧ True) ∧ True) ∧
 ∀ (y : Pl.Rt × Int),
 x_5.snd.fst ≤ y.snd ∧ y.snd ≤ x_5.snd.fst + (2 : Int) →
 (0 : Nat) + x_4.snd.fst.length ≤ x_4.snd.fst.length ∧
 (x_4.snd.fst.length + (1 : Nat)) * (16 : Nat) ≤ (70368744177664 : Nat) ∧
 Exists fun (x' : Nat × List Pl.Rt × Pl.Rt × Int) =>
 (x'.fst ≤ (List.getD s x.fst Pl.dY).snd.fst.length ∧
 x'.snd.fst.length = x'.fst ∧
 p ≤ x'.snd.snd.snd ∧
 x'.snd.snd.snd ≤
 p + (100 : Int) * (↑x.fst : Int) + (3 : Int) + (30 : Int) * ((3 : Int) - x_2.fst) +
 (2 : Int) * (↑x'.fst : Int)) ∧
 (List.getD s x.fst Pl.dY).snd.fst.length - x'.fst < (List.getD s x.fst Pl.dY).snd.fst.length - x_4.fst ∧
 ((0 : Nat) = (0 : Nat) ∧
 (0 : Nat) = (0 : Nat) ∧
 (0 : Nat) = (0 : Nat) ∧
 ((0 : Nat) = (0 : Nat) ∧ List.length x_2.snd.fst = List.length x_2.snd.fst) ∧
 (↑x.fst : Int) = (↑x.fst : Int) ∧
 x_2.fst = x_2.fst ∧
 (0 : Nat) = (0 : Nat) ∧
 IntKind.i64.wrap ((↑x_4.fst : Int) + (1 : Int)) = (↑x'.fst : Int) ∧ True) ∧
 (Is (byts x_5.fst) (byts b) ∧ y.snd = x'.snd.snd.snd ∧ True) ∧
 (Is (syms s) (syms s) ∧ True) ∧
 (Is (AV.lit (0 : Nat) (1 : Nat) fun (x x_6 : Nat) => AV.any) nilA ∧ True) ∧
 IsO (xrR x_2.snd.fst) (xrR x_2.snd.fst) ∧
 ((List.getD s x.fst Pl.dY).fst = (List.getD s x.fst Pl.dY).fst ∧
 ((0 : Nat) = (0 : Nat) ∧ x_4.snd.fst.length + (1 : Nat) = x'.snd.fst.length) ∧
 x_4.snd.snd.fst.fst = x'.snd.snd.fst.fst ∧
 x_4.snd.snd.fst.snd = x'.snd.snd.fst.snd ∧ True) ∧
 IsO
 (AObj.arr (x_4.snd.fst.length + (1 : Nat)) (2 : Nat)
 (joinC x_4.snd.fst.length (cQ x_4.snd.fst)
 (rowsCell [[i64 y.fst.fst, i64 y.fst.snd]])))
 (arQ x'.snd.fst) ∧
 True) ∧
 Exists fun (x_5 : List Int × Int × Int) =>
 Rd (549755813888 : Int) x_5.fst x_5.snd.fst ∧
 (((0 : Nat) = (0 : Nat) ∧ (List.getD s x.fst Pl.dY).snd.fst.getD x_4.fst (0 : Int) = x_5.snd.snd ∧ True) ∧
 (Is (byts b) (byts x_5.fst) ∧ x_4.snd.snd.snd = x_5.snd.fst ∧ True) ∧ True) ∧
 ∀ (y : Pl.Rt × Int),
 x_5.snd.fst ≤ y.snd ∧ y.snd ≤ x_5.snd.fst + (2 : Int) →
 (0 : Nat) + x_4.snd.fst.length ≤ x_4.snd.fst.length ∧
 (x_4.snd.fst.length + (1 : Nat)) * (16 : Nat) ≤ (70368744177664 : Nat) ∧
 Exists fun (x' : Nat × List Pl.Rt × Pl.Rt × Int) =>
 (x'.fst ≤ (List.getD s x.fst Pl.dY).snd.fst.length ∧
 x'.snd.fst.length = x'.fst ∧
 p ≤ x'.snd.snd.snd ∧
 x'.snd.snd.snd ≤
 p + (100 : Int) * (↑x.fst : Int) + (3 : Int) + (30 : Int) * ((3 : Int) - x_2.fst) +
 (2 : Int) * (↑x'.fst : Int)) ∧
 (List.getD s x.fst Pl.dY).snd.fst.length - x'.fst < (List.getD s x.fst Pl.dY).snd.fst.length - x_4.fst ∧
 ((0 : Nat) = (0 : Nat) ∧
 (0 : Nat) = (0 : Nat) ∧
 (0 : Nat) = (0 : Nat) ∧
 ((0 : Nat) = (0 : Nat) ∧ List.length x_2.snd.fst = List.length x_2.snd.fst) ∧
 (↑x.fst : Int) = (↑x.fst : Int) ∧
 x_2.fst = x_2.fst ∧
 (0 : Nat) = (0 : Nat) ∧
 IntKind.i64.wrap ((↑x_4.fst : Int) + (1 : Int)) = (↑x'.fst : Int) ∧ True) ∧
 (Is (byts x_5.fst) (byts b) ∧ y.snd = x'.snd.snd.snd ∧ True) ∧
 (Is (syms s) (syms s) ∧ True) ∧
 (Is (AV.lit (0 : Nat) (1 : Nat) fun (x x_6 : Nat) => AV.any) nilA ∧ True) ∧
 IsO (xrR x_2.snd.fst) (xrR x_2.snd.fst) ∧
 ((List.getD s x.fst Pl.dY).fst = (List.getD s x.fst Pl.dY).fst ∧
 ((0 : Nat) = (0 : Nat) ∧ x_4.snd.fst.length + (1 : Nat) = x'.snd.fst.length) ∧
 x_4.snd.snd.fst.fst = x'.snd.snd.fst.fst ∧
 x_4.snd.snd.fst.snd = x'.snd.snd.fst.snd ∧ True) ∧
 IsO
 (AObj.arr (x_4.snd.fst.length + (1 : Nat)) (2 : Nat)
 (joinC x_4.snd.fst.length (cQ x_4.snd.fst)
 (rowsCell [[i64 y.fst.fst, i64 y.fst.snd]])))
 (arQ x'.snd.fst) ∧
 True)
 (Exists fun (x_5 : List Pl.Rw × Pl.Rw) =>
 (x_5.fst.length ≤ (1000 : Nat) ∧
 (∀ (y : Pl.Rw), y ∈ x_5.fst → y.snd.fst.length ≤ (1000 : Nat)) ∧ x_5.snd.snd.fst.length ≤ (1000 : Nat)) ∧
 ((((0 : Nat) = (0 : Nat) ∧ List.length x_2.snd.fst = x_5.fst.length) ∧
 ((List.getD s x.fst Pl.dY).fst = x_5.snd.fst ∧
 ((0 : Nat) = (0 : Nat) ∧ x_4.snd.fst.length = x_5.snd.snd.fst.length) ∧
 x_4.snd.snd.fst.fst = x_5.snd.snd.snd.fst ∧ x_4.snd.snd.fst.snd = x_5.snd.snd.snd.snd ∧ True) ∧
 True) ∧
 IsO (xrR x_2.snd.fst) (xrR x_5.fst) ∧ IsO (arQ x_4.snd.fst) (arQ x_5.snd.snd.fst) ∧ True) ∧
 ∀ (y : List Nat),
 HPut x_5.fst.length y →
 Exists fun (x' : Int × Pl.Mdl × Int) =>
 ((0 : Int) ≤ x'.fst ∧
 x'.fst ≤ (3 : Int) ∧
 Pl.MdB ((3 : Nat) * x.fst + (3 : Nat) - x'.fst.toNat) (2 : Nat) x'.snd.fst ∧
 p ≤ x'.snd.snd ∧ x'.snd.snd ≤ p + (100 : Int) * (↑x.fst : Int) + (1 : Int) + (30 : Int) * ((3 : Int) - x'.fst)) ∧
 x'.fst.toNat < x_2.fst.toNat ∧
 ((0 : Nat) = (0 : Nat) ∧
 (0 : Nat) = (0 : Nat) ∧
 (0 : Nat) = (0 : Nat) ∧
 ((0 : Nat) = (0 : Nat) ∧ y.length = List.length x'.snd.fst) ∧
 (↑x.fst : Int) = (↑x.fst : Int) ∧ IntKind.i64.wrap (x_2.fst - (1 : Int)) = x'.fst ∧ True) ∧
 (Is (byts b) (byts b) ∧ x_4.snd.snd.snd = x'.snd.snd ∧ True) ∧
 (Is (syms s) (syms s) ∧ True) ∧
 (Is (AV.lit (0 : Nat) (1 : Nat) fun (x x_6 : Nat) => AV.any) nilA ∧ True) ∧
 IsO (xrR (List.map (fun (i : Nat) => (x_5.fst ++ [x_5.snd]).getD i Pl.dR) y)) (xrR x'.snd.fst) ∧
 True)) ∧
 Exists fun (x_3 : List Int × Int × Int) =>
 Rd (549755813888 : Int) x_3.fst x_3.snd.fst ∧
 (((0 : Nat) = (0 : Nat) ∧ (List.getD s x.fst Pl.dY).snd.snd = x_3.snd.snd ∧ True) ∧
 (Is (byts b) (byts x_3.fst) ∧ x_2.snd.snd = x_3.snd.fst ∧ True) ∧ True) ∧
 ∀ (y : Pl.Rt × Int),
 x_3.snd.fst ≤ y.snd ∧ y.snd ≤ x_3.snd.fst + (2 : Int) →
 ((0 : Int) ≤ (↑x.fst : Int) ∧ (↑x.fst : Int) < (↑(List.length s) : Int)) ∧
 x.fst < List.length s ∧
 (Exists fun (x_4 : Nat × List Pl.Rt × Pl.Rt × Int) =>
 (x_4.fst ≤ (List.getD s x.fst Pl.dY).snd.fst.length ∧
 x_4.snd.fst.length = x_4.fst ∧
 p ≤ x_4.snd.snd.snd ∧
 x_4.snd.snd.snd ≤ p + (100 : Int) * (↑x.fst : Int) + (3 : Int) + (30 : Int) * ((3 : Int) - x_2.fst) + (2 : Int) * (↑x_4.fst : Int)) ∧
 ((0 : Nat) = (0 : Nat) ∧
 (0 : Nat) = (0 : Nat) ∧
 (0 : Nat) = (0 : Nat) ∧
 ((0 : Nat) = (0 : Nat) ∧ List.length x_2.snd.fst = List.length x_2.snd.fst) ∧
 (↑x.fst : Int) = (↑x.fst : Int) ∧ x_2.fst = x_2.fst ∧ (0 : Nat) = (0 : Nat) ∧ (0 : Int) = (↑x_4.fst : Int) ∧ True) ∧
 (Is (byts x_3.fst) (byts b) ∧ y.snd = x_4.snd.snd.snd ∧ True) ∧
 (Is (syms s) (syms s) ∧ True) ∧
 (Is (AV.lit (0 : Nat) (1 : Nat) fun (x x_5 : Nat) => AV.any) nilA ∧ True) ∧
 IsO (xrR x_2.snd.fst) (xrR x_2.snd.fst) ∧
 ((List.getD s x.fst Pl.dY).fst = (List.getD s x.fst Pl.dY).fst ∧
 ((0 : Nat) = (0 : Nat) ∧ (0 : Nat) = (0 : Nat) ∧ x_4.snd.fst.length = (0 : Nat)) ∧
 y.fst.fst = x_4.snd.snd.fst.fst ∧ y.fst.snd = x_4.snd.snd.fst.snd ∧ True) ∧
 x_4.snd.fst.length = (0 : Nat) ∧ True) ∧
 ∀ (x_4 : Nat × List Pl.Rt × Pl.Rt × Int),
 x_4.fst ≤ (List.getD s x.fst Pl.dY).snd.fst.length ∧
 x_4.snd.fst.length = x_4.fst ∧
 p ≤ x_4.snd.snd.snd ∧
 x_4.snd.snd.snd ≤ p + (100 : Int) * (↑x.fst : Int) + (3 : Int) + (30 : Int) * ((3 : Int) - x_2.fst) + (2 : Int) * (↑x_4.fst : Int) →
 ((0 : Int) ≤ (↑x.fst : Int) ∧ (↑x.fst : Int) < (↑(List.length s) : Int)) ∧
 x.fst < List.length s ∧
 condP (Decidable.decide ((↑x_4.fst : Int) < (↑(List.getD s x.fst Pl.dY).snd.fst.length : Int)))
 ((((0 : Int) ≤ (↑x.fst : Int) ∧ (↑x.fst : Int) < (↑(List.length s) : Int)) ∧
 x.fst < List.length s ∧
 ((0 : Int) ≤ (↑x_4.fst : Int) ∧ (↑x_4.fst : Int) < (↑(List.getD s x.fst Pl.dY).snd.fst.length : Int)) ∧
 x_4.fst < (List.getD s x.fst Pl.dY).snd.fst.length ∧
 Exists fun (x_5 : List Int × Int × Int) =>
 Rd (549755813888 : Int) x_5.fst x_5.snd.fst ∧
 (((0 : Nat) = (0 : Nat) ∧ (List.getD s x.fst Pl.dY).snd.fst.getD x_4.fst (0 : Int) = x_5.snd.snd ∧ True) ∧
 (Is (byts b) (byts x_5.fst) ∧ x_4.snd.snd.snd = x_5.snd.fst ∧ True) ∧ True) ∧
 ∀ (y : Pl.Rt × Int),
 x_5.snd.fst ≤ y.snd ∧ y.snd ≤ x_5.snd.fst + (2 : Int) →
 (0 : Nat) + x_4.snd.fst.length ≤ x_4.snd.fst.length ∧
 (x_4.snd.fst.length + (1 : Nat)) * (16 : Nat) ≤ (70368744177664 : Nat) ∧
 Exists fun (x' : Nat × List Pl.Rt × Pl.Rt × Int) =>
 (x'.fst ≤ (List.getD s x.fst Pl.dY).snd.fst.length ∧
 x'.snd.fst.length = x'.fst ∧
 p ≤ x'.snd.snd.snd ∧
 x'.snd.snd.snd ≤
 p + (100 : Int) * (↑x.fst : Int) + (3 : Int) + (30 : Int) * ((3 : Int) - x_2.fst) +
 (2 : Int) * (↑x'.fst : Int)) ∧
 (List.getD s x.fst Pl.dY).snd.fst.length - x'.fst < (List.getD s x.fst Pl.dY).snd.fst.length - x_4.fst ∧
 ((0 : Nat) = (0 : Nat) ∧
 (0 : Nat) = (0 : Nat) ∧
 (0 : Nat) = (0 : Nat) ∧
 ((0 : Nat) = (0 : Nat) ∧ List.length x_2.snd.fst = List.length x_2.snd.fst) ∧
 (↑x.fst : Int) = (↑x.fst : Int) ∧
 x_2.fst = x_2.fst ∧
 (0 : Nat) = (0 : Nat) ∧
 IntKind.i64.wrap ((↑x_4.fst : Int) + (1 : Int)) = (↑x'.fst : Int) ∧ True) ∧
 (Is (byts x_5.fst) (byts b) ∧ y.snd = x'.snd.snd.snd ∧ True) ∧
 (Is (syms s) (syms s) ∧ True) ∧
 (Is (AV.lit (0 : Nat) (1 : Nat) fun (x x_6 : Nat) => AV.any) nilA ∧ True) ∧
 IsO (xrR x_2.snd.fst) (xrR x_2.snd.fst) ∧
 ((List.getD s x.fst Pl.dY).fst = (List.getD s x.fst Pl.dY).fst ∧
 ((0 : Nat) = (0 : Nat) ∧ x_4.snd.fst.length + (1 : Nat) = x'.snd.fst.length) ∧
 x_4.snd.snd.fst.fst = x'.snd.snd.fst.fst ∧
 x_4.snd.snd.fst.snd = x'.snd.snd.fst.snd ∧ True) ∧
 IsO
 (AObj.arr (x_4.snd.fst.length + (1 : Nat)) (2 : Nat)
 (joinC x_4.snd.fst.length (cQ x_4.snd.fst)
 (rowsCell [[i64 y.fst.fst, i64 y.fst.snd]])))
 (arQ x'.snd.fst) ∧
 True) ∧
 ((0 : Int) ≤ (↑x.fst : Int) ∧ (↑x.fst : Int) < (↑(List.length s) : Int)) ∧
 x.fst < List.length s ∧
 ((0 : Int) ≤ (↑x_4.fst : Int) ∧ (↑x_4.fst : Int) < (↑(List.getD s x.fst Pl.dY).snd.fst.length : Int)) ∧
 x_4.fst < (List.getD s x.fst Pl.dY).snd.fst.length ∧
 (Exists fun (x_5 : List Int × Int × Int) =>
 Rd (549755813888 : Int) x_5.fst x_5.snd.fst ∧
 (((0 : Nat) = (0 : Nat) ∧ (List.getD s x.fst Pl.dY).snd.fst.getD x_4.fst (0 : Int) = x_5.snd.snd ∧ True) ∧
 (Is (byts b) (byts x_5.fst) ∧ x_4.snd.snd.snd = x_5.snd.fst ∧ True) ∧ True) ∧
 ∀ (y : Pl.Rt × Int),
 x_5.snd.fst ≤ y.snd ∧ y.snd ≤ x_5.snd.fst + (2 : Int) →
 (0 : Nat) + x_4.snd.fst.length ≤ x_4.snd.fst.length ∧
 (x_4.snd.fst.length + (1 : Nat)) * (16 : Nat) ≤ (70368744177664 : Nat) ∧
 Exists fun (x' : Nat × List Pl.Rt × Pl.Rt × Int) =>
 (x'.fst ≤ (List.getD s x.fst Pl.dY).snd.fst.length ∧
 x'.snd.fst.length = x'.fst ∧
 p ≤ x'.snd.snd.snd ∧
 x'.snd.snd.snd ≤
 p + (100 : Int) * (↑x.fst : Int) + (3 : Int) + (30 : Int) * ((3 : Int) - x_2.fst) +
 (2 : Int) * (↑x'.fst : Int)) ∧
 (List.getD s x.fst Pl.dY).snd.fst.length - x'.fst < (List.getD s x.fst Pl.dY).snd.fst.length - x_4.fst ∧
 ((0 : Nat) = (0 : Nat) ∧
 (0 : Nat) = (0 : Nat) ∧
 (0 : Nat) = (0 : Nat) ∧
 ((0 : Nat) = (0 : Nat) ∧ List.length x_2.snd.fst = List.length x_2.snd.fst) ∧
 (↑x.fst : Int) = (↑x.fst : Int) ∧
 x_2.fst = x_2.fst ∧
 (0 : Nat) = (0 : Nat) ∧
 IntKind.i64.wrap ((↑x_4.fst : Int) + (1 : Int)) = (↑x'.fst : Int) ∧ True) ∧
 (Is (byts x_5.fst) (byts b) ∧ y.snd = x'.snd.snd.snd ∧ True) ∧
 (Is (syms s) (syms s) ∧ True) ∧
 (Is (AV.lit (0 : Nat) (1 : Nat) fun (x x_6 : Nat) => AV.any) nilA ∧ True) ∧
 IsO (xrR x_2.snd.fst) (xrR x_2.snd.fst) ∧
 ((List.getD s x.fst Pl.dY).fst = (List.getD s x.fst Pl.dY).fst ∧
 ((0 : Nat) = (0 : Nat) ∧ x_4.snd.fst.length + (1 : Nat) = x'.snd.fst.length) ∧
 x_4.snd.snd.fst.fst = x'.snd.snd.fst.fst ∧
 x_4.snd.snd.fst.snd = x'.snd.snd.fst.snd ∧ True) ∧
 IsO
 (AObj.arr (x_4.snd.fst.length + (1 : Nat)) (2 : Nat)
 (joinC x_4.snd.fst.length (cQ x_4.snd.fst)
 (rowsCell [[i64 y.fst.fst, i64 y.fst.snd]])))
 (arQ x'.snd.fst) ∧
 True) ∧
 Exists fun (x_5 : List Int × Int × Int) =>
 Rd (549755813888 : Int) x_5.fst x_5.snd.fst ∧
 (((0 : Nat) = (0 : Nat) ∧ (List.getD s x.fst Pl.dY).snd.fst.getD x_4.fst (0 : Int) = x_5.snd.snd ∧ True) ∧
 (Is (byts b) (byts x_5.fst) ∧ x_4.snd.snd.snd = x_5.snd.fst ∧ True) ∧ True) ∧
 ∀ (y : Pl.Rt × Int),
 x_5.snd.fst ≤ y.snd ∧ y.snd ≤ x_5.snd.fst + (2 : Int) →
 (0 : Nat) + x_4.snd.fst.length ≤ x_4.snd.fst.length ∧
 (x_4.snd.fst.length + (1 : Nat)) * (16 : Nat) ≤ (70368744177664 : Nat) ∧
 Exists fun (x' : Nat × List Pl.Rt × Pl.Rt × Int) =>
 (x'.fst ≤ (List.getD s x.fst Pl.dY).snd.fst.length ∧
 x'.snd.fst.length = x'.fst ∧
 p ≤ x'.snd.snd.snd ∧
 x'.snd.snd.snd ≤
 p + (100 : Int) * (↑x.fst : Int) + (3 : Int) + (30 : Int) * ((3 : Int) - x_2.fst) +
 (2 : Int) * (↑x'.fst : Int)) ∧
 (List.getD s x.fst Pl.dY).snd.fst.length - x'.fst < (List.getD s x.fst Pl.dY).snd.fst.length - x_4.fst ∧
 ((0 : Nat) = (0 : Nat) ∧
 (0 : Nat) = (0 : Nat) ∧
 (0 : Nat) = (0 : Nat) ∧
 ((0 : Nat) = (0 : Nat) ∧ List.length x_2.snd.fst = List.length x_2.snd.fst) ∧
 (↑x.fst : Int) = (↑x.fst : Int) ∧
 x_2.fst = x_2.fst ∧
 (0 : Nat) = (0 : Nat) ∧
 IntKind.i64.wrap ((↑x_4.fst : Int) + (1 : Int)) = (↑x'.fst : Int) ∧ True) ∧
 (Is (byts x_5.fst) (byts b) ∧ y.snd = x'.snd.snd.snd ∧ True) ∧
 (Is (syms s) (syms s) ∧ True) ∧
 (Is (AV.lit (0 : Nat) (1 : Nat) fun (x x_6 : Nat) => AV.any) nilA ∧ True) ∧
 IsO (xrR x_2.snd.fst) (xrR x_2.snd.fst) ∧
 ((List.getD s x.fst Pl.dY).fst = (List.getD s x.fst Pl.dY).fst ∧
 ((0 : Nat) = (0 : Nat) ∧ x_4.snd.fst.length + (1 : Nat) = x'.snd.fst.length) ∧
 x_4.snd.snd.fst.fst = x'.snd.snd.fst.fst ∧
 x_4.snd.snd.fst.snd = x'.snd.snd.fst.snd ∧ True) ∧
 IsO
 (AObj.arr (x_4.snd.fst.length + (1 : Nat)) (2 : Nat)
 (joinC x_4.snd.fst.length (cQ x_4.snd.fst)
 (rowsCell [[i64 y.fst.fst, i64 y.fst.snd]])))
 (arQ x'.snd.fst) ∧
 True)
 (Exists fun (x_5 : List Pl.Rw × Pl.Rw) =>
 (x_5.fst.length ≤ (1000 : Nat) ∧
 (∀ (y : Pl.Rw), y ∈ x_5.fst → y.snd.fst.length ≤ (1000 : Nat)) ∧ x_5.snd.snd.fst.length ≤ (1000 : Nat)) ∧
 ((((0 : Nat) = (0 : Nat) ∧ List.length x_2.snd.fst = x_5.fst.length) ∧
 ((List.getD s x.fst Pl.dY).fst = x_5.snd.fst ∧
 ((0 : Nat) = (0 : Nat) ∧ x_4.snd.fst.length = x_5.snd.snd.fst.length) ∧
 x_4.snd.snd.fst.fst = x_5.snd.snd.snd.fst ∧ x_4.snd.snd.fst.snd = x_5.snd.snd.snd.snd ∧ True) ∧
 True) ∧
 IsO (xrR x_2.snd.fst) (xrR x_5.fst) ∧ IsO (arQ x_4.snd.fst) (arQ x_5.snd.snd.fst) ∧ True) ∧
 ∀ (y : List Nat),
 HPut x_5.fst.length y →
 Exists fun (x' : Int × Pl.Mdl × Int) =>
 ((0 : Int) ≤ x'.fst ∧
 x'.fst ≤ (3 : Int) ∧
 Pl.MdB ((3 : Nat) * x.fst + (3 : Nat) - x'.fst.toNat) (2 : Nat) x'.snd.fst ∧
 p ≤ x'.snd.snd ∧ x'.snd.snd ≤ p + (100 : Int) * (↑x.fst : Int) + (1 : Int) + (30 : Int) * ((3 : Int) - x'.fst)) ∧
 x'.fst.toNat < x_2.fst.toNat ∧
 ((0 : Nat) = (0 : Nat) ∧
 (0 : Nat) = (0 : Nat) ∧
 (0 : Nat) = (0 : Nat) ∧
 ((0 : Nat) = (0 : Nat) ∧ y.length = List.length x'.snd.fst) ∧
 (↑x.fst : Int) = (↑x.fst : Int) ∧ IntKind.i64.wrap (x_2.fst - (1 : Int)) = x'.fst ∧ True) ∧
 (Is (byts b) (byts b) ∧ x_4.snd.snd.snd = x'.snd.snd ∧ True) ∧
 (Is (syms s) (syms s) ∧ True) ∧
 (Is (AV.lit (0 : Nat) (1 : Nat) fun (x x_6 : Nat) => AV.any) nilA ∧ True) ∧
 IsO (xrR (List.map (fun (i : Nat) => (x_5.fst ++ [x_5.snd]).getD i Pl.dR) y)) (xrR x'.snd.fst) ∧ True))
 (Exists fun (x' : Nat × Pl.Mdl × Int) =>
 (x'.fst ≤ List.length s ∧ Pl.MdB ((3 : Nat) * x'.fst) (2 : Nat) x'.snd.fst ∧ p ≤ x'.snd.snd ∧ x'.snd.snd ≤ p + (100 : Int) * (↑x'.fst : Int)) ∧
 List.length s - x'.fst < List.length s - x.fst ∧
 ((0 : Nat) = (0 : Nat) ∧
 (0 : Nat) = (0 : Nat) ∧
 (0 : Nat) = (0 : Nat) ∧
 ((0 : Nat) = (0 : Nat) ∧ List.length x_2.snd.fst = List.length x'.snd.fst) ∧ IntKind.i64.wrap ((↑x.fst : Int) + (1 : Int)) = (↑x'.fst : Int) ∧ True) ∧
 (Is (byts b) (byts b) ∧ x_2.snd.snd = x'.snd.snd ∧ True) ∧
 (Is (syms s) (syms s) ∧ True) ∧
 (Is (AV.lit (0 : Nat) (1 : Nat) fun (x x_3 : Nat) => AV.any) nilA ∧ True) ∧ IsO (xrR x_2.snd.fst) (xrR x'.snd.fst) ∧ True))
 (Exists fun (y : Pl.Mdl × Int) =>
 (Pl.MdB (15 : Nat) (2 : Nat) y.fst ∧ p ≤ y.snd ∧ y.snd ≤ p + (1000 : Int)) ∧
 ((((0 : Nat) = (0 : Nat) ∧ List.length x.snd.fst = List.length y.fst) ∧ True) ∧ True) ∧
 (Is (byts b) (byts b) ∧ x.snd.snd = y.snd ∧ True) ∧ IsO (xrR x.snd.fst) (xrR y.fst) ∧ True)) = Goal Tryz.prog [K_num, K_l7Value, K_l7PutX] (A_l7Any b p s) K_l7Any.1 K_l7Any.2 ((b, p, s)) := by kernel_rfl


theorem vc_l7Some (b : List Int) (p : Int) (s : Pl.Sig) : (Exists fun (x : BX) =>
 (Rd (137438953472 : Int) x.fst x.snd.fst ∧ Pl.SgB (5 : Nat) (2 : Nat) x.snd.snd) ∧
 (((0 : Nat) = (0 : Nat) ∧ (Is (syms s) (syms x.snd.snd) ∧ True) ∧ True) ∧ (Is (byts b) (byts x.fst) ∧ p = x.snd.fst ∧ True) ∧ True) ∧
 ∀ (y : Pl.Mdl × Int),
 Pl.MdB (15 : Nat) (2 : Nat) y.fst ∧ x.snd.fst ≤ y.snd ∧ y.snd ≤ x.snd.fst + (1000 : Int) →
 condP ((↑(List.length y.fst) : Int) == (0 : Int))
 (Exists fun (y_1 : Pl.Mdl × Int) =>
 (Pl.MdB (16 : Nat) (3 : Nat) y_1.fst ∧ p ≤ y_1.snd ∧ y_1.snd ≤ p + (1100 : Int)) ∧
 (0 : Nat) + List.length y.fst ≤ List.length y.fst ∧ ((Is (mrows y.fst) (mrows y_1.fst) ∧ True) ∧ True) ∧ (Is (byts x.fst) (byts b) ∧ y.snd = y_1.snd ∧ True) ∧ True)
 (Exists fun (x_1 : List Int × Int × Int) =>
 Rd (1099511627776 : Int) x_1.fst x_1.snd.fst ∧
 (((0 : Nat) = (0 : Nat) ∧ (10 : Int) = x_1.snd.snd ∧ True) ∧ (Is (byts x.fst) (byts x_1.fst) ∧ y.snd = x_1.snd.fst ∧ True) ∧ True) ∧
 ∀ (y_1 : Int),
 ((1 : Int) ≤ x_1.snd.snd → (0 : Int) ≤ y_1 ∧ y_1 < x_1.snd.snd) ∧ (x_1.snd.snd < (1 : Int) → y_1 = (0 : Int)) →
 condP (Decidable.decide (y_1 > (0 : Int)))
 (Exists fun (y_2 : Pl.Mdl × Int) =>
 (Pl.MdB (16 : Nat) (3 : Nat) y_2.fst ∧ p ≤ y_2.snd ∧ y_2.snd ≤ p + (1100 : Int)) ∧
 (0 : Nat) + List.length y.fst ≤ List.length y.fst ∧
 ((Is (mrows y.fst) (mrows y_2.fst) ∧ True) ∧ True) ∧ (Is (byts x_1.fst) (byts b) ∧ x_1.snd.fst + (1 : Int) = y_2.snd ∧ True) ∧ True)
 (Exists fun (x : List Int × Int × Int) =>
 Rd (1099511627776 : Int) x.fst x.snd.fst ∧
 (((0 : Nat) = (0 : Nat) ∧ (↑(List.length y.fst) : Int) = x.snd.snd ∧ True) ∧
 (Is (byts x_1.fst) (byts x.fst) ∧ x_1.snd.fst + (1 : Int) = x.snd.fst ∧ True) ∧ True) ∧
 ∀ (y_2 : Int),
 ((1 : Int) ≤ x.snd.snd → (0 : Int) ≤ y_2 ∧ y_2 < x.snd.snd) ∧ (x.snd.snd < (1 : Int) → y_2 = (0 : Int)) →
 Exists fun (x_2 : List Int × Int × Int) =>
 Rd (1099511627776 : Int) x_2.fst x_2.snd.fst ∧
 (((0 : Nat) = (0 : Nat) ∧ (5 : Int) = x_2.snd.snd ∧ True) ∧ (Is (byts x.fst) (byts x_2.fst) ∧ x.snd.fst + (1 : Int) = x_2.snd.fst ∧ True) ∧ True) ∧
 ∀ (y_3 : Int),
 ((1 : Int) ≤ x_2.snd.snd → (0 : Int) ≤ y_3 ∧ y_3 < x_2.snd.snd) ∧ (x_2.snd.snd < (1 : Int) → y_3 = (0 : Int)) →
 condP (y_3 == (0 : Int))
 ((Exists fun (x : List Int × Int) =>
 Rd (549755813888 : Int) x.fst x.snd ∧
 (((0 : Nat) = (0 : Nat) ∧ True) ∧ (Is (byts x_2.fst) (byts x.fst) ∧ x_2.snd.fst + (1 : Int) = x.snd ∧ True) ∧ True) ∧
 ∀ (y_4 : Pl.Rt),
 True →
 ((0 : Int) ≤ y_2 ∧ y_2 < (↑(List.length y.fst) : Int)) ∧
 y_2.toNat < List.length y.fst ∧
 Exists fun (y_5 : Pl.Mdl × Int) =>
 (Pl.MdB (16 : Nat) (3 : Nat) y_5.fst ∧ p ≤ y_5.snd ∧ y_5.snd ≤ p + (1100 : Int)) ∧
 (0 : Nat) + List.length y.fst ≤ List.length y.fst ∧
 ((Is
 (AV.sl (List.length y.fst) (4 : Nat) fun (i j : Nat) =>
 storeC (cR y.fst) y_2.toNat ((2 : Nat)) [i64 y_4.fst, i64 y_4.snd] i j)
 (mrows y_5.fst) ∧
 True) ∧
 True) ∧
 (Is (byts x.fst) (byts b) ∧ x.snd + (2 : Int) = y_5.snd ∧ True) ∧ True) ∧
 Exists fun (x : List Int × Int) =>
 Rd (549755813888 : Int) x.fst x.snd ∧
 (((0 : Nat) = (0 : Nat) ∧ True) ∧ (Is (byts x_2.fst) (byts x.fst) ∧ x_2.snd.fst + (1 : Int) = x.snd ∧ True) ∧ True) ∧
 ∀ (y_4 : Pl.Rt),
 True →
 ((0 : Int) ≤ y_2 ∧ y_2 < (↑(List.length y.fst) : Int)) ∧
 y_2.toNat < List.length y.fst ∧
 Exists fun (y_5 : Pl.Mdl × Int) =>
 (Pl.MdB (16 : Nat) (3 : Nat) y_5.fst ∧ p ≤ y_5.snd ∧ y_5.snd ≤ p + (1100 : Int)) ∧
 (0 : Nat) + List.length y.fst ≤ List.length y.fst ∧
 ((Is
 (AV.sl (List.length y.fst) (4 : Nat) fun (i j : Nat) =>
 storeC (cR y.fst) y_2.toNat ((2 : Nat)) [i64 y_4.fst, i64 y_4.snd] i j)
 (mrows y_5.fst) ∧
 True) ∧
 True) ∧
 (Is (byts x.fst) (byts b) ∧ x.snd + (2 : Int) = y_5.snd ∧ True) ∧ True)
 (condP (y_3 == (1 : Int))
 (((0 : Int) ≤ y_2 ∧ y_2 < (↑(List.length y.fst) : Int)) ∧
 y_2.toNat < List.length y.fst ∧
 (List.getD y.fst y_2.toNat Pl.dR).snd.fst.length = (List.getD y.fst y_2.toNat Pl.dR).snd.fst.length ∧
 y_2.toNat < List.length y.fst ∧
 (0 : Nat) + List.length y.fst ≤ List.length y.fst ∧
 (List.length y.fst + (1 : Nat)) * (56 : Nat) ≤ (70368744177664 : Nat) ∧
 Exists fun (y_4 : Pl.Mdl × Int) =>
 (Pl.MdB (16 : Nat) (3 : Nat) y_4.fst ∧ p ≤ y_4.snd ∧ y_4.snd ≤ p + (1100 : Int)) ∧
 (0 : Nat) + (List.length y.fst + (1 : Nat)) ≤ List.length y.fst + (1 : Nat) ∧
 ((Is
 (AV.sl (List.length y.fst + (1 : Nat)) (4 : Nat) fun (i j : Nat) =>
 joinC (List.length y.fst) (cR y.fst)
 (rowsCell
 [[st (List.getD y.fst y_2.toNat Pl.dR).fst, rats (List.getD y.fst y_2.toNat Pl.dR).snd.fst,
 i64 (List.getD y.fst y_2.toNat Pl.dR).snd.snd.fst, i64 (List.getD y.fst y_2.toNat Pl.dR).snd.snd.snd]])
 i j)
 (mrows y_4.fst) ∧
 True) ∧
 True) ∧
 (Is (byts x_2.fst) (byts b) ∧ x_2.snd.fst + (1 : Int) = y_4.snd ∧ True) ∧ True)
 (condP (y_3 == (2 : Int))
 (((0 : Int) ≤ y_2 ∧ y_2 < (↑(List.length y.fst) : Int)) ∧
 y_2.toNat < List.length y.fst ∧
 (List.getD y.fst y_2.toNat Pl.dR).snd.fst.length = (List.getD y.fst y_2.toNat Pl.dR).snd.fst.length ∧
 y_2.toNat < List.length y.fst ∧
 (1 : Nat) < (4 : Nat) ∧
 ((List.getD y.fst y_2.toNat Pl.dR).snd.fst.length + (1 : Nat)) * (16 : Nat) ≤ (70368744177664 : Nat) ∧
 ((0 : Int) ≤ y_2 ∧ y_2 < (↑(List.length y.fst) : Int)) ∧
 y_2.toNat < List.length y.fst ∧
 Exists fun (y_4 : Pl.Mdl × Int) =>
 (Pl.MdB (16 : Nat) (3 : Nat) y_4.fst ∧ p ≤ y_4.snd ∧ y_4.snd ≤ p + (1100 : Int)) ∧
 (0 : Nat) + List.length y.fst ≤ List.length y.fst ∧
 ((Is
 (AV.sl (List.length y.fst) (4 : Nat) fun (i j : Nat) =>
 storeC (cR y.fst) y_2.toNat ((1 : Nat))
 [AV.sl ((List.getD y.fst y_2.toNat Pl.dR).snd.fst.length + (1 : Nat)) (2 : Nat)
 (joinC (List.getD y.fst y_2.toNat Pl.dR).snd.fst.length (cQ (List.getD y.fst y_2.toNat Pl.dR).snd.fst)
 (rowsCell [[i64 (0 : Int), i64 (1 : Int)]]))]
 i j)
 (mrows y_4.fst) ∧
 True) ∧
 True) ∧
 (Is (byts x_2.fst) (byts b) ∧ x_2.snd.fst + (1 : Int) = y_4.snd ∧ True) ∧ True)
 (condP (y_3 == (3 : Int))
 ((Exists fun (x : List Int × Int × List ByteArray) =>
 (Rd (1099511627776 : Int) x.fst x.snd.fst ∧ x.snd.snd ≠ [] ∧ Sz x.snd.snd) ∧
 (((0 : Nat) = (0 : Nat) ∧
 Is
 (AV.lit (3 : Nat) (1 : Nat)
 (rowsCell
 [[st (ByteArray.mk #[])], [st (ByteArray.mk #[(65 : UInt8)])], [st (ByteArray.mk #[(122 : UInt8), (122 : UInt8)])]]))
 (strs x.snd.snd) ∧
 True) ∧
 (Is (byts x_2.fst) (byts x.fst) ∧ x_2.snd.fst + (1 : Int) = x.snd.fst ∧ True) ∧ True) ∧
 ∀ (y_4 : ByteArray),
 y_4 ∈ x.snd.snd →
 ((0 : Int) ≤ y_2 ∧ y_2 < (↑(List.length y.fst) : Int)) ∧
 y_2.toNat < List.length y.fst ∧
 Exists fun (y_5 : Pl.Mdl × Int) =>
 (Pl.MdB (16 : Nat) (3 : Nat) y_5.fst ∧ p ≤ y_5.snd ∧ y_5.snd ≤ p + (1100 : Int)) ∧
 (0 : Nat) + List.length y.fst ≤ List.length y.fst ∧
 ((Is
 (AV.sl (List.length y.fst) (4 : Nat) fun (i j : Nat) =>
 storeC (cR y.fst) y_2.toNat (0 : Nat) [st y_4] i j)
 (mrows y_5.fst) ∧
 True) ∧
 True) ∧
 (Is (byts x.fst) (byts b) ∧ x.snd.fst + (1 : Int) = y_5.snd ∧ True) ∧ True) ∧
 Exists fun (x : List Int × Int × List ByteArray) =>
 (Rd (1099511627776 : Int) x.fst x.snd.fst ∧ x.snd.snd ≠ [] ∧ Sz x.snd.snd) ∧
 (((0 : Nat) = (0 : Nat) ∧
 Is
 (AV.lit (3 : Nat) (1 : Nat)
 (rowsCell
 [[st (ByteArray.mk #[])], [st (ByteArray.mk #[(65 : UInt8)])], [st (ByteArray.mk #[(122 : UInt8), (122 : UInt8)])]]))
 (strs x.snd.snd) ∧
 True) ∧
 (Is (byts x_2.fst) (byts x.fst) ∧ x_2.snd.fst + (1 : Int) = x.snd.fst ∧ True) ∧ True) ∧
 ∀ (y_4 : ByteArray),
 y_4 ∈ x.snd.snd →
 ((0 : Int) ≤ y_2 ∧ y_2 < (↑(List.length y.fst) : Int)) ∧
 y_2.toNat < List.length y.fst ∧
 Exists fun (y_5 : Pl.Mdl × Int) =>
 (Pl.MdB (16 : Nat) (3 : Nat) y_5.fst ∧ p ≤ y_5.snd ∧ y_5.snd ≤ p + (1100 : Int)) ∧
 (0 : Nat) + List.length y.fst ≤ List.length y.fst ∧
 ((Is
 (AV.sl (List.length y.fst) (4 : Nat) fun (i j : Nat) =>
 storeC (cR y.fst) y_2.toNat (0 : Nat) [st y_4] i j)
 (mrows y_5.fst) ∧
 True) ∧
 True) ∧
 (Is (byts x.fst) (byts b) ∧ x.snd.fst + (1 : Int) = y_5.snd ∧ True) ∧ True)
 (((0 : Int) ≤ y_2 ∧ y_2 < (↑(List.length y.fst) : Int)) ∧
 y_2.toNat < List.length y.fst ∧
 (List.getD y.fst y_2.toNat Pl.dR).snd.fst.length = (List.getD y.fst y_2.toNat Pl.dR).snd.fst.length ∧
 y_2.toNat < List.length y.fst ∧
 ((0 : Int) ≤ (0 : Int) ∧ (0 : Int) < (↑(List.length y.fst) : Int)) ∧
 (0 : Nat) < List.length y.fst ∧
 ((0 : Int) ≤ y_2 ∧ y_2 < (↑(List.length y.fst) : Int)) ∧
 y_2.toNat < List.length y.fst ∧
 ((0 : Int) ≤ (0 : Int) ∧ (0 : Int) < (↑(List.length y.fst) : Int)) ∧
 (0 : Nat) < List.length y.fst ∧
 Exists fun (y_4 : Pl.Mdl × Int) =>
 (Pl.MdB (16 : Nat) (3 : Nat) y_4.fst ∧ p ≤ y_4.snd ∧ y_4.snd ≤ p + (1100 : Int)) ∧
 (0 : Nat) + List.length y.fst ≤ List.length y.fst ∧
 ((Is
 (AV.sl (List.length y.fst) (4 : Nat) fun (i j : Nat) =>
 storeC
 (storeC (cR y.fst) y_2.toNat (0 : Nat)
 [st (List.getD y.fst (0 : Nat) Pl.dR).fst, rats (List.getD y.fst (0 : Nat) Pl.dR).snd.fst,
 i64 (List.getD y.fst (0 : Nat) Pl.dR).snd.snd.fst,
 i64 (List.getD y.fst (0 : Nat) Pl.dR).snd.snd.snd])
 (0 : Nat) (0 : Nat)
 [st (List.getD y.fst y_2.toNat Pl.dR).fst, rats (List.getD y.fst y_2.toNat Pl.dR).snd.fst,
 i64 (List.getD y.fst y_2.toNat Pl.dR).snd.snd.fst, i64 (List.getD y.fst y_2.toNat Pl.dR).snd.snd.snd]
 i j)
 (mrows y_4.fst) ∧
 True) ∧
 True) ∧
 (Is (byts x_2.fst) (byts b) ∧ x_2.snd.fst + (1 : Int) = y_4.snd ∧ True) ∧ True))))))) = Goal Tryz.prog [K_l7Any, K_pick, K_rat, K_of] ([]) K_l7Some.1 K_l7Some.2 ((b, p, s)) := by kernel_rfl

end Cg

/-
  What is left to show of each function's code, printed by a program: Mdr. No condition.
-/
set_option maxRecDepth 100000
set_option linter.unusedVariables false
namespace Cg
open Go Go.Proofs
theorem vc_l7Put (L : List Pl.HRw) (r : Pl.HRw) : ((Exists fun (x : Nat) =>
 x ≤ L.length ∧
 (((0 : Nat) = (0 : Nat) ∧ L.length = L.length) ∧ (0 : Nat) = (0 : Nat) ∧ (0 : Int) = (↑x : Int) ∧ True) ∧
 IsO (arRH L) (arRH L) ∧
 (r.snd.fst = r.snd.fst ∧ Is (hdQ r.fst r.snd.snd.fst) (hdQ r.fst r.snd.snd.fst) ∧ r.snd.snd.snd.fst = r.snd.snd.snd.fst ∧ r.snd.snd.snd.snd = r.snd.snd.snd.snd ∧ True) ∧ True) ∧
 ∀ (x : Nat),
 x ≤ L.length →
 condP (Decidable.decide ((↑x : Int) < (↑L.length : Int)))
 (((0 : Int) ≤ (↑x : Int) ∧ (↑x : Int) < (↑L.length : Int)) ∧
 x < L.length ∧
 Exists fun (x_1 : Pl.Rw × Pl.Rw) =>
 (((L.getD x Pl.dH).snd.fst = x_1.fst.fst ∧
 Is (hdQ (L.getD x Pl.dH).fst (L.getD x Pl.dH).snd.snd.fst) (rats x_1.fst.snd.fst) ∧
 (L.getD x Pl.dH).snd.snd.snd.fst = x_1.fst.snd.snd.fst ∧ (L.getD x Pl.dH).snd.snd.snd.snd = x_1.fst.snd.snd.snd ∧ True) ∧
 (r.snd.fst = x_1.snd.fst ∧ Is (hdQ r.fst r.snd.snd.fst) (rats x_1.snd.snd.fst) ∧ r.snd.snd.snd.fst = x_1.snd.snd.snd.fst ∧ r.snd.snd.snd.snd = x_1.snd.snd.snd.snd ∧ True) ∧
 True) ∧
 x_1.fst.snd.fst.length ≤ (1048576 : Nat) ∧
 condP (Pl.rowLess x_1.fst x_1.snd)
 (Exists fun (x' : Nat) =>
 x' ≤ L.length ∧
 L.length - x' < L.length - x ∧
 (((0 : Nat) = (0 : Nat) ∧ L.length = L.length) ∧ (0 : Nat) = (0 : Nat) ∧ IntKind.i64.wrap ((↑x : Int) + (1 : Int)) = (↑x' : Int) ∧ True) ∧
 IsO (arRH L) (arRH L) ∧
 (r.snd.fst = r.snd.fst ∧
 Is (hdQ r.fst r.snd.snd.fst) (hdQ r.fst r.snd.snd.fst) ∧ r.snd.snd.snd.fst = r.snd.snd.snd.fst ∧ r.snd.snd.snd.snd = r.snd.snd.snd.snd ∧ True) ∧
 True)
 (condP (Decidable.decide ((↑x : Int) < (↑L.length : Int)))
 (((0 : Int) ≤ (↑x : Int) ∧ (↑x : Int) < (↑L.length : Int)) ∧
 x < L.length ∧
 condP ((L.getD x Pl.dH).snd.fst.toList == r.snd.fst.toList)
 (((0 : Int) ≤ (↑x : Int) ∧ (↑x : Int) < (↑L.length : Int)) ∧
 x < L.length ∧
 Exists fun (x_2 : List Pl.Rt × List Pl.Rt) =>
 (Is (hdQ (L.getD x Pl.dH).fst (L.getD x Pl.dH).snd.snd.fst) (rats x_2.fst) ∧ Is (hdQ r.fst r.snd.snd.fst) (rats x_2.snd) ∧ True) ∧
 Sz x_2.fst ∧
 condP (Decidable.decide (x_2.fst = x_2.snd))
 (Exists fun (y : List Nat) =>
 HPut L.length y ∧
 (((0 : Nat) = (0 : Nat) ∧ L.length = y.length) ∧ True) ∧ True ∧ IsO (arRH L) (arRH (List.map (fun (i : Nat) => (L ++ [r]).getD i Pl.dH) y)) ∧ True)
 (((0 : Int) ≤ (↑x : Int) ∧ (↑x : Int) ≤ (↑L.length : Int)) ∧
 x + (L.length - x) ≤ L.length ∧
 ((0 : Nat) = (0 : Nat) ∨ (0 : Nat) < L.length - x) ∧
 ((0 : Nat) + (L.length - x)) * (56 : Nat) ≤ (70368744177664 : Nat) ∧
 ((0 : Int) ≤ (↑x : Int) ∧ (↑x : Int) ≤ (↑L.length : Int)) ∧
 (0 : Nat) + x ≤ L.length ∧
 ((0 : Nat) = (0 : Nat) ∨ (0 : Nat) < x) ∧
 ((0 : Nat) + x) * (56 : Nat) ≤ (70368744177664 : Nat) ∧
 (0 : Nat) + ((0 : Nat) + x) ≤ (0 : Nat) + x ∧
 ((0 : Nat) + x + (1 : Nat)) * (56 : Nat) ≤ (70368744177664 : Nat) ∧
 (0 : Nat) + ((0 : Nat) + (L.length - x)) ≤ (0 : Nat) + (L.length - x) ∧
 (0 : Nat) + ((0 : Nat) + x + (1 : Nat)) ≤ (0 : Nat) + x + (1 : Nat) ∧
 ((0 : Nat) + x + (1 : Nat) + ((0 : Nat) + (L.length - x))) * (56 : Nat) ≤ (70368744177664 : Nat) ∧
 Exists fun (y : List Nat) =>
 HPut L.length y ∧
 (((0 : Nat) = (0 : Nat) ∧ (0 : Nat) + x + (1 : Nat) + ((0 : Nat) + (L.length - x)) = y.length) ∧ True) ∧
 True ∧
 IsO
 (AObj.arr ((0 : Nat) + x + (1 : Nat) + ((0 : Nat) + (L.length - x))) (4 : Nat)
 (joinC ((0 : Nat) + x + (1 : Nat))
 (fun (i j : Nat) =>
 joinC ((0 : Nat) + x) (cRH L)
 (rowsCell [[st r.snd.fst, hdQ r.fst r.snd.snd.fst, i64 r.snd.snd.snd.fst, i64 r.snd.snd.snd.snd]])
 i j)
 fun (i j : Nat) => joinC (0 : Nat) (rowsCell []) (fun (i j : Nat) => eRH (L.getD (i + x) Pl.dH) j) i j))
 (arRH (List.map (fun (i : Nat) => (L ++ [r]).getD i Pl.dH) y)) ∧
 True))
 (((0 : Int) ≤ (↑x : Int) ∧ (↑x : Int) ≤ (↑L.length : Int)) ∧
 x + (L.length - x) ≤ L.length ∧
 ((0 : Nat) = (0 : Nat) ∨ (0 : Nat) < L.length - x) ∧
 ((0 : Nat) + (L.length - x)) * (56 : Nat) ≤ (70368744177664 : Nat) ∧
 ((0 : Int) ≤ (↑x : Int) ∧ (↑x : Int) ≤ (↑L.length : Int)) ∧
 (0 : Nat) + x ≤ L.length ∧
 ((0 : Nat) = (0 : Nat) ∨ (0 : Nat) < x) ∧
 ((0 : Nat) + x) * (56 : Nat) ≤ (70368744177664 : Nat) ∧
 (0 : Nat) + ((0 : Nat) + x) ≤ (0 : Nat) + x ∧
 ((0 : Nat) + x + (1 : Nat)) * (56 : Nat) ≤ (70368744177664 : Nat) ∧
 (0 : Nat) + ((0 : Nat) + (L.length - x)) ≤ (0 : Nat) + (L.length - x) ∧
 (0 : Nat) + ((0 : Nat) + x + (1 : Nat)) ≤ (0 : Nat) + x + (1 : Nat) ∧
 ((0 : Nat) + x + (1 : Nat) + ((0 : Nat) + (L.length - x))) * (56 : Nat) ≤ (70368744177664 : Nat) ∧
 Exists fun (y : List Nat) =>
 HPut L.length y ∧
 (((0 : Nat) = (0 : Nat) ∧ (0 : Nat) + x + (1 : Nat) + ((0 : Nat) + (L.length - x)) = y.length) ∧ True) ∧
 True ∧
 IsO
 (AObj.arr ((0 : Nat) + x + (1 : Nat) + ((0 : Nat) + (L.length - x))) (4 : Nat)
 (joinC ((0 : Nat) + x + (1 : Nat))
 (fun (i j : Nat) =>
 joinC ((0 : Nat) + x) (cRH L)
 (rowsCell [[st r.snd.fst, hdQ r.fst r.snd.snd.fst, i64 r.snd.snd.snd.fst, i64 r.snd.snd.snd.snd]]) i j)
 fun (i j : Nat) => joinC (0 : Nat) (rowsCell []) (fun (i j : Nat) => eRH (L.getD (i + x) Pl.dH) j) i j))
 (arRH (List.map (fun (i : Nat) => (L ++ [r]).getD i Pl.dH) y)) ∧
 True))
 (((0 : Int) ≤ (↑x : Int) ∧ (↑x : Int) ≤ (↑L.length : Int)) ∧
 x + (L.length - x) ≤ L.length ∧
 ((0 : Nat) = (0 : Nat) ∨ (0 : Nat) < L.length - x) ∧
 ((0 : Nat) + (L.length - x)) * (56 : Nat) ≤ (70368744177664 : Nat) ∧
 ((0 : Int) ≤ (↑x : Int) ∧ (↑x : Int) ≤ (↑L.length : Int)) ∧
 (0 : Nat) + x ≤ L.length ∧
 ((0 : Nat) = (0 : Nat) ∨ (0 : Nat) < x) ∧
 ((0 : Nat) + x) * (56 : Nat) ≤ (70368744177664 : Nat) ∧
 (0 : Nat) + ((0 : Nat) + x) ≤ (0 : Nat) + x ∧
 ((0 : Nat) + x + (1 : Nat)) * (56 : Nat) ≤ (70368744177664 : Nat) ∧
 (0 : Nat) + ((0 : Nat) + (L.length - x)) ≤ (0 : Nat) + (L.length - x) ∧
 (0 : Nat) + ((0 : Nat) + x + (1 : Nat)) ≤ (0 : Nat) + x + (1 : Nat) ∧
 ((0 : Nat) + x + (1 : Nat) + ((0 : Nat) + (L.length - x))) * (56 : Nat) ≤ (70368744177664 : Nat) ∧
 Exists fun (y : List Nat) =>
 HPut L.length y ∧
 (((0 : Nat) = (0 : Nat) ∧ (0 : Nat) + x + (1 : Nat) + ((0 : Nat) + (L.length - x)) = y.length) ∧ True) ∧
 True ∧
 IsO
 (AObj.arr ((0 : Nat) + x + (1 : Nat) + ((0 : Nat) + (L.length - x))) (4 : Nat)
 (joinC ((0 : Nat) + x + (1 : Nat))
 (fun (i j : Nat) =>
 joinC ((0 : Nat) + x) (cRH L)
 (rowsCell [[st r.snd.fst, hdQ r.fst r.snd.snd.fst, i64 r.snd.snd.snd.fst, i64 r.snd.snd.snd.snd]]) i j)
 fun (i j : Nat) => joinC (0 : Nat) (rowsCell []) (fun (i j : Nat) => eRH (L.getD (i + x) Pl.dH) j) i j))
 (arRH (List.map (fun (i : Nat) => (L ++ [r]).getD i Pl.dH) y)) ∧
 True)))
 (condP (Decidable.decide ((↑x : Int) < (↑L.length : Int)))
 (((0 : Int) ≤ (↑x : Int) ∧ (↑x : Int) < (↑L.length : Int)) ∧
 x < L.length ∧
 condP ((L.getD x Pl.dH).snd.fst.toList == r.snd.fst.toList)
 (((0 : Int) ≤ (↑x : Int) ∧ (↑x : Int) < (↑L.length : Int)) ∧
 x < L.length ∧
 Exists fun (x_1 : List Pl.Rt × List Pl.Rt) =>
 (Is (hdQ (L.getD x Pl.dH).fst (L.getD x Pl.dH).snd.snd.fst) (rats x_1.fst) ∧ Is (hdQ r.fst r.snd.snd.fst) (rats x_1.snd) ∧ True) ∧
 Sz x_1.fst ∧
 condP (Decidable.decide (x_1.fst = x_1.snd))
 (Exists fun (y : List Nat) =>
 HPut L.length y ∧
 (((0 : Nat) = (0 : Nat) ∧ L.length = y.length) ∧ True) ∧ True ∧ IsO (arRH L) (arRH (List.map (fun (i : Nat) => (L ++ [r]).getD i Pl.dH) y)) ∧ True)
 (((0 : Int) ≤ (↑x : Int) ∧ (↑x : Int) ≤ (↑L.length : Int)) ∧
 x + (L.length - x) ≤ L.length ∧
 ((0 : Nat) = (0 : Nat) ∨ (0 : Nat) < L.length - x) ∧
 ((0 : Nat) + (L.length - x)) * (56 : Nat) ≤ (70368744177664 : Nat) ∧
 ((0 : Int) ≤ (↑x : Int) ∧ (↑x : Int) ≤ (↑L.length : Int)) ∧
 (0 : Nat) + x ≤ L.length ∧
 ((0 : Nat) = (0 : Nat) ∨ (0 : Nat) < x) ∧
 ((0 : Nat) + x) * (56 : Nat) ≤ (70368744177664 : Nat) ∧
 (0 : Nat) + ((0 : Nat) + x) ≤ (0 : Nat) + x ∧
 ((0 : Nat) + x + (1 : Nat)) * (56 : Nat) ≤ (70368744177664 : Nat) ∧
 (0 : Nat) + ((0 : Nat) + (L.length - x)) ≤ (0 : Nat) + (L.length - x) ∧
 (0 : Nat) + ((0 : Nat) + x + (1 : Nat)) ≤ (0 : Nat) + x + (1 : Nat) ∧
 ((0 : Nat) + x + (1 : Nat) + ((0 : Nat) + (L.length - x))) * (56 : Nat) ≤ (70368744177664 : Nat) ∧
 Exists fun (y : List Nat) =>
 HPut L.length y ∧
 (((0 : Nat) = (0 : Nat) ∧ (0 : Nat) + x + (1 : Nat) + ((0 : Nat) + (L.length - x)) = y.length) ∧ True) ∧
 True ∧
 IsO
 (AObj.arr ((0 : Nat) + x + (1 : Nat) + ((0 : Nat) + (L.length - x))) (4 : Nat)
 (joinC ((0 : Nat) + x + (1 : Nat))
 (fun (i j : Nat) =>
 joinC ((0 : Nat) + x) (cRH L)
 (rowsCell [[st r.snd.fst, hdQ r.fst r.snd.snd.fst, i64 r.snd.snd.snd.fst, i64 r.snd.snd.snd.snd]]) i j)
 fun (i j : Nat) => joinC (0 : Nat) (rowsCell []) (fun (i j : Nat) => eRH (L.getD (i + x) Pl.dH) j) i j))
 (arRH (List.map (fun (i : Nat) => (L ++ [r]).getD i Pl.dH) y)) ∧
 True))
 (((0 : Int) ≤ (↑x : Int) ∧ (↑x : Int) ≤ (↑L.length : Int)) ∧
 x + (L.length - x) ≤ L.length ∧
 ((0 : Nat) = (0 : Nat) ∨ (0 : Nat) < L.length - x) ∧
 ((0 : Nat) + (L.length - x)) * (56 : Nat) ≤ (70368744177664 : Nat) ∧
 ((0 : Int) ≤ (↑x : Int) ∧ (↑x : Int) ≤ (↑L.length : Int)) ∧
 (0 : Nat) + x ≤ L.length ∧
 ((0 : Nat) = (0 : Nat) ∨ (0 : Nat) < x) ∧
 ((0 : Nat) + x) * (56 : Nat) ≤ (70368744177664 : Nat) ∧
 (0 : Nat) + ((0 : Nat) + x) ≤ (0 : Nat) + x ∧
 ((0 : Nat) + x + (1 : Nat)) * (56 : Nat) ≤ (70368744177664 : Nat) ∧
 (0 : Nat) + ((0 : Nat) + (L.length - x)) ≤ (0 : Nat) + (L.length - x) ∧
 (0 : Nat) + ((0 : Nat) + x + (1 : Nat)) ≤ (0 : Nat) + x + (1 : Nat) ∧
 ((0 : Nat) + x + (1 : Nat) + ((0 : Nat) + (L.length - x))) * (56 : Nat) ≤ (70368744177664 : Nat) ∧
 Exists fun (y : List Nat) =>
 HPut L.length y ∧
 (((0 : Nat) = (0 : Nat) ∧ (0 : Nat) + x + (1 : Nat) + ((0 : Nat) + (L.length - x)) = y.length) ∧ True) ∧
 True ∧
 IsO
 (AObj.arr ((0 : Nat) + x + (1 : Nat) + ((0 : Nat) + (L.length - x))) (4 : Nat)
 (joinC ((0 : Nat) + x + (1 : Nat))
 (fun (i j : Nat) =>
 joinC ((0 : Nat) + x) (cRH L)
 (rowsCell [[st r.snd.fst, hdQ r.fst r.snd.snd.fst, i64 r.snd.snd.snd.fst, i64 r.snd.snd.snd.snd]]) i j)
 fun (i j : Nat) => joinC (0 : Nat) (rowsCell []) (fun (i j : Nat) => eRH (L.getD (i + x) Pl.dH) j) i j))
 (arRH (List.map (fun (i : Nat) => (L ++ [r]).getD i Pl.dH) y)) ∧
 True))
 (((0 : Int) ≤ (↑x : Int) ∧ (↑x : Int) ≤ (↑L.length : Int)) ∧
 x + (L.length - x) ≤ L.length ∧
 ((0 : Nat) = (0 : Nat) ∨ (0 : Nat) < L.length - x) ∧
 ((0 : Nat) + (L.length - x)) * (56 : Nat) ≤ (70368744177664 : Nat) ∧
 ((0 : Int) ≤ (↑x : Int) ∧ (↑x : Int) ≤ (↑L.length : Int)) ∧
 (0 : Nat) + x ≤ L.length ∧
 ((0 : Nat) = (0 : Nat) ∨ (0 : Nat) < x) ∧
 ((0 : Nat) + x) * (56 : Nat) ≤ (70368744177664 : Nat) ∧
 (0 : Nat) + ((0 : Nat) + x) ≤ (0 : Nat) + x ∧
 ((0 : Nat) + x + (1 : Nat)) * (56 : Nat) ≤ (70368744177664 : Nat) ∧
 (0 : Nat) + ((0 : Nat) + (L.length - x)) ≤ (0 : Nat) + (L.length - x) ∧
 (0 : Nat) + ((0 : Nat) + x + (1 : Nat)) ≤ (0 : Nat) + x + (1 : Nat) ∧
 ((0 : Nat) + x + (1 : Nat) + ((0 : Nat) + (L.length - x))) * (56 : Nat) ≤ (70368744177664 : Nat) ∧
 Exists fun (y : List Nat) =>
 HPut L.length y ∧
 (((0 : Nat) = (0 : Nat) ∧ (0 : Nat) + x + (1 : Nat) + ((0 : Nat) + (L.length - x)) = y.length) ∧ True) ∧
 True ∧
 IsO
 (AObj.arr ((0 : Nat) + x + (1 : Nat) + ((0 : Nat) + (L.length - x))) (4 : Nat)
 (joinC ((0 : Nat) + x + (1 : Nat))
 (fun (i j : Nat) =>
 joinC ((0 : Nat) + x) (cRH L)
 (rowsCell [[st r.snd.fst, hdQ r.fst r.snd.snd.fst, i64 r.snd.snd.snd.fst, i64 r.snd.snd.snd.snd]]) i j)
 fun (i j : Nat) => joinC (0 : Nat) (rowsCell []) (fun (i j : Nat) => eRH (L.getD (i + x) Pl.dH) j) i j))
 (arRH (List.map (fun (i : Nat) => (L ++ [r]).getD i Pl.dH) y)) ∧
 True))) = Goal Tryz.prog [K_l7Less, K_l7Rats] (A_l7Put L r) K_l7Put.1 K_l7Put.2 ((L, r)) := by kernel_rfl

end Cg

/-
  A row that owns its values is put among rows that own theirs: from what the code does with the slices themselves. No condition.
-/
set_option linter.unusedVariables false
set_option linter.unusedSimpArgs false
namespace Cg
open Go Pl
theorem RelN_keep {S S' : Nat → Prop} {w w' : World} {q : Option Inn} {n e : Nat} {c : Nat → Nat → AV} {y : Value} (h : RelN S w q n e c y) (hc : ∀ i, i < n → ∀ j, j < e → ∃ v, c i j = .v v)
    (hb : ∀ v, q = some v → w'.heap[v.b]? = w.heap[v.b]?) : RelN S' w' q n e c y := by
  cases q with
  | none => exact h
  | some q =>
    obtain ⟨h1, h2, h3, C, T, h4, h5, h6⟩ := h
    refine ⟨h1, h2, h3, C, T, by rw [hb q rfl]; exact h4, h5, fun i hi j hj => ?_⟩
    obtain ⟨x, h7, h8⟩ := h6 i hi j hj
    obtain ⟨v, hv⟩ := hc i hi j hj
    rw [hv] at h8 ⊢
    exact ⟨x, h7, h8⟩
theorem cQ_plain (l : List Rt) : ∀ i, i < l.length → ∀ j, j < 2 → ∃ v, cQ l i j = .v v := fun i _ j hj => by
  match j, hj with
  | 0, _ => exact ⟨_, rfl⟩
  | 1, _ => exact ⟨_, rfl⟩
/-- An inner slice whose block stays, as one known by its header. -/
theorem RelN_hdr {S S' : Nat → Prop} {w : World} {q : Option Inn} {l : List Rt} {y : Value} (h : RelN S w q l.length 2 (cQ l) y) (hS : ∀ v, q = some v → S' v.b) : RelI S' w (hdQ y l) y := by
  refine ⟨rfl, ?_⟩
  cases q with
  | none =>
    obtain ⟨h1, a, rfl⟩ := h
    exact ⟨a, 0, by rw [h1], by omega, .inl h1⟩
  | some q =>
    obtain ⟨h1, h2, rfl, C, T, h4, h5, h6⟩ := h
    refine ⟨_, q.cap, rfl, by omega, .inr ⟨q.b, q.off, rfl, hS q rfl, C, T, _, h4, fun i hi j hj => ?_⟩⟩
    obtain ⟨x, h7, h8⟩ := h6 i hi j hj
    obtain ⟨v, hv⟩ := cQ_plain l i hi j hj
    rw [hv] at h8 ⊢
    exact ⟨x, h7, h8⟩

section
variable {S : Nat → Prop} {μ : Nat → OI} {w : World} {L : List Rw} {r : Rw}

/-- What is known of the rows' slices: headers, and what they own. -/
structure Hds (S : Nat → Prop) (μ : Nat → OI) (w : World) (L : List Rw) (r : Rw) (hd : Nat → Value) (iq : Nat → Option Inn) : Prop where
  rel : ∀ i, i ≤ L.length → RelN S w (iq i) ((L ++ [r]).getD i dR).2.1.length 2 (cQ ((L ++ [r]).getD i dR).2.1) (hd i)
  own : ∀ i v, iq i = some v → i ≤ L.length ∧ Blk μ [xrR L, arQ r.2.1] v.b ∧ (μ 0).b ≠ some v.b
  dis : ∀ i v i' v', iq i = some v → iq i' = some v' → v'.b = v.b → i' = i

/-- The one slice of an own row. -/
def innOf (q : OI) (n : Nat) : Option Inn := match q.b with
  | none => none
  | some b => if q.cap = 0 then none else some ⟨b, q.base, q.cap, n⟩
theorem innOf_rel {o : Nat} {H : List AObj} {l : List Rt} {a : Value} (hok : HOK S μ w H) (ho : H[o]? = some (arQ l)) (ha : Rel S μ w (.osl o 0 l.length) a) : RelN S w (innOf (μ o) l.length) l.length 2 (cQ l) a := by
  obtain ⟨he, hob⟩ := hok.obj o _ ho
  unfold Rel at ha
  unfold innOf
  cases hb : (μ o).b with
  | none =>
    rw [hb] at ha
    obtain ⟨_, h1, a', rfl⟩ := ha
    exact ⟨h1, a', rfl⟩
  | some b =>
    rw [hb] at ha hob
    obtain ⟨h1, a', rfl, h2⟩ := ha
    obtain ⟨h3, C, T, h4, h5, h6⟩ := hob
    by_cases hc : (μ o).cap = 0
    · simp only [hc, if_true]
      exact ⟨by omega, some a', by rw [show l.length = 0 by omega]⟩
    · simp only [hc, if_false]
      have := h2 (by omega)
      subst this
      refine ⟨rfl, h3, by simp, C, T, h4, by rw [← he]; rw [he]; exact h5, fun i hi j hj => ?_⟩
      exact h6 i hi j hj

theorem getD_left {α : Type} {l : List α} {x : α} {i : Nat} (d : α) (h : i < l.length) : (l ++ [x]).getD i d = l.getD i d := by
  simp only [List.getD_eq_getElem?_getD, List.getElem?_append_left h]
theorem getD_last {α : Type} {l : List α} {x : α} (d : α) : (l ++ [x]).getD l.length d = x := by simp

theorem hds_of {a : Value} (hok : HOK S μ w [xrR L, arQ r.2.1]) (ha : Rel S μ w (.osl 1 0 r.2.1.length) a) : ∃ hd iq, Hds S μ w L r hd iq ∧ hd L.length = a ∧
    (∀ b, (μ 0).b = some b → ∃ C T, w.heap[b]? = some (.cells C T (0, 0)) ∧ ∀ i, i < L.length → C[(μ 0).base + i * 4 + 1]? = some (hd i)) := by
  have h0 : ([xrR L, arQ r.2.1] : List AObj)[0]? = some (xrR L) := rfl
  have h1 : ([xrR L, arQ r.2.1] : List AObj)[1]? = some (arQ r.2.1) := rfl
  obtain ⟨he, hinn, hob⟩ := hok.obj 0 _ h0
  have hla := innOf_rel hok h1 ha
  have own1 : ∀ v, innOf (μ 1) r.2.1.length = some v → (μ 1).b = some v.b := fun v hv => by
    unfold innOf at hv
    cases hb : (μ 1).b with
    | none => rw [hb] at hv; cases hv
    | some b =>
      rw [hb] at hv
      simp only at hv
      split at hv
      · cases hv
      · cases hv; rfl
  have key : ∀ hd0 : Nat → Value, (∀ i, i < L.length → RelN S w ((μ 0).inn i 1) (L.getD i dR).2.1.length 2 (cQ (L.getD i dR).2.1) (hd0 i)) →
      Hds S μ w L r (fun i => if i < L.length then hd0 i else a) (fun i => if i < L.length then (μ 0).inn i 1 else if i = L.length then innOf (μ 1) r.2.1.length else none) := fun hd0 hrel => {
    rel := fun i hi => by
      by_cases h : i < L.length
      · simp only [if_pos h, getD_left dR h]
        exact hrel i h
      · have hi' : i = L.length := by omega
        subst hi'
        simp only [if_neg h, if_true, getD_last dR]
        exact hla
    own := fun i v hv => by
      by_cases h : i < L.length
      · simp only [if_pos h] at hv
        exact ⟨by omega, ⟨0, _, h0, .inr ⟨i, 1, v, hv, rfl⟩⟩, (hinn i 1 v hv).1⟩
      · simp only [if_neg h] at hv
        split at hv
        · rename_i hi
          have hb := own1 v hv
          exact ⟨by omega, ⟨1, _, h1, hb⟩, fun h' => hok.seps 0 1 v.b (by decide) ⟨_, h0, .inl h'⟩ ⟨_, h1, hb⟩⟩
        · cases hv
    dis := fun i v i' v' hv hv' hb => by
      by_cases h : i < L.length
      · by_cases h' : i' < L.length
        · simp only [if_pos h] at hv
          simp only [if_pos h'] at hv'
          exact ((hinn i 1 v hv).2.2.2 i' 1 v' hv' hb).1
        · simp only [if_pos h] at hv
          simp only [if_neg h'] at hv'
          split at hv'
          · exact absurd ⟨_, h1, own1 v' hv'⟩ (hok.seps 0 1 v'.b (by decide) ⟨_, h0, .inr ⟨i, 1, v, hv, hb.symm⟩⟩)
          · cases hv'
      · by_cases h' : i' < L.length
        · simp only [if_neg h] at hv
          simp only [if_pos h'] at hv'
          split at hv
          · exact absurd ⟨_, h1, own1 v hv⟩ (hok.seps 0 1 v.b (by decide) ⟨_, h0, .inr ⟨i', 1, v', hv', hb⟩⟩)
          · cases hv
        · simp only [if_neg h] at hv
          simp only [if_neg h'] at hv'
          split at hv
          · split at hv'
            · omega
            · cases hv'
          · cases hv }
  cases hb0 : (μ 0).b with
  | none =>
    rw [hb0] at hob
    have hn : L.length = 0 := hob
    exact ⟨_, _, key (fun _ => a) fun i hi => by omega, by simp, fun b hb => by cases hb⟩
  | some b0 =>
    rw [hb0] at hob
    obtain ⟨h3, C, T, h4, h5, h6⟩ := hob
    refine ⟨_, _, key (fun i => C.getD ((μ 0).base + i * 4 + 1) undef) fun i hi => ?_, by simp, fun b hb => ?_⟩
    · obtain ⟨x, h7, h8⟩ := h6 i hi 1 (by decide)
      have e : C.getD ((μ 0).base + i * 4 + 1) undef = x := by rw [Array.getD_eq_getD_getElem?, h7]; rfl
      rw [e]
      exact h8
    · cases hb
      refine ⟨C, T, h4, fun i hi => ?_⟩
      obtain ⟨x, h7, h8⟩ := h6 i hi 1 (by decide)
      have e : C.getD ((μ 0).base + i * 4 + 1) undef = x := by rw [Array.getD_eq_getD_getElem?, h7]; rfl
      simp only [if_pos hi, e]
      exact h7

theorem nodup_inj {l : List Nat} (h : l.Nodup) {i j : Nat} (hi : i < l.length) (hj : j < l.length) (e : l[i] = l[j]) : i = j := by
  rcases Nat.lt_trichotomy i j with h1 | h1 | h1
  · exact absurd e (List.pairwise_iff_getElem.1 h i j hi hj h1)
  · exact h1
  · exact absurd e.symm (List.pairwise_iff_getElem.1 h j i hj hi h1)
/-- What stays while the rows are moved: what stays anyhow, and what they own. -/
def SOwn (S : Nat → Prop) (iq : Nat → Option Inn) : Nat → Prop := fun b => S b ∨ ∃ i v, iq i = some v ∧ v.b = b
def hrows (hd : Nat → Value) (L : List Rw) : List HRw := (List.range L.length).map fun i => (hd i, L.getD i dR)
@[simp] theorem hrows_len (hd : Nat → Value) (L : List Rw) : (hrows hd L).length = L.length := by unfold hrows; simp
theorem hrows_get {hd : Nat → Value} {L : List Rw} {i : Nat} (h : i < L.length) : (hrows hd L).getD i dH = (hd i, L.getD i dR) := by unfold hrows; simp [h]

theorem open_hok {hd : Nat → Value} {iq : Nat → Option Inn} (hok : HOK S μ w [xrR L, arQ r.2.1]) (hh : Hds S μ w L r hd iq)
    (hc : ∀ b, (μ 0).b = some b → ∃ C T, w.heap[b]? = some (.cells C T (0, 0)) ∧ ∀ i, i < L.length → C[(μ 0).base + i * 4 + 1]? = some (hd i)) : HOK (SOwn S iq) μ w [arRH (hrows hd L)] := by
  have h0 : ([xrR L, arQ r.2.1] : List AObj)[0]? = some (xrR L) := rfl
  obtain ⟨he, hinn, hob⟩ := hok.obj 0 _ h0
  have only : ∀ o b, Own μ [arRH (hrows hd L)] o b → o = 0 ∧ (μ 0).b = some b := fun o b ⟨x, hx, hb⟩ => by
    cases o with
    | zero => cases hx; exact ⟨rfl, hb⟩
    | succ o => simp at hx
  refine { obj := fun o x hx => ?_, ids := fun o cs hx => ?_, seps := fun o o' b hne h1 h2 => ?_, owns := fun o b h => ?_, inS := fun b hb => ?_ }
  · cases o with
    | succ o => simp at hx
    | zero =>
      cases hx
      refine ⟨he, ?_⟩
      cases hb : (μ 0).b with
      | none =>
        rw [hb] at hob
        show (hrows hd L).length = 0
        rw [hrows_len]; exact hob
      | some b =>
        rw [hb] at hob
        obtain ⟨h3, C, T, h4, h5, h6⟩ := hob
        obtain ⟨C', T', h4', h7⟩ := hc b hb
        rw [h4] at h4'
        cases h4'
        refine ⟨by rw [hrows_len]; exact h3, C, T, h4, h5, fun i hi j hj => ?_⟩
        rw [hrows_len] at hi
        obtain ⟨x, h8, h9⟩ := h6 i hi j hj
        refine ⟨x, h8, ?_⟩
        show RelI (SOwn S iq) w (eRH ((hrows hd L).getD i dH) j) x
        rw [hrows_get hi]
        match j, hj with
        | 0, _ => exact h9
        | 1, _ =>
          have e := h7 i hi
          rw [h8] at e
          cases e
          have hr := hh.rel i (by omega)
          rw [getD_left dR hi] at hr
          exact RelN_hdr hr fun v hv => .inr ⟨i, v, hv, rfl⟩
        | 2, _ => exact h9
        | 3, _ => exact h9
  · cases o with
    | succ o => simp at hx
    | zero => cases hx
  · exact hne ((only o b h1).1.trans (only o' b h2).1.symm)
  · obtain ⟨rfl, hb⟩ := only o b h
    obtain ⟨h1, h2⟩ := hok.owns 0 b ⟨_, h0, .inl hb⟩
    refine ⟨fun hs => ?_, h2⟩
    rcases hs with hs | ⟨i, v, hv, rfl⟩
    · exact h1 hs
    · exact (hh.own i v hv).2.2 hb
  · rcases hb with hb | ⟨i, v, hv, rfl⟩
    · exact hok.inS b hb
    · obtain ⟨o, h⟩ := (hh.own i v hv).2.1
      exact (hok.owns o _ h).2

theorem close_evo {hd : Nat → Value} {iq : Nat → Option Inn} {S' : Nat → Prop} {μ' : Nat → OI} {w' : World} {idx : List Nat} {v : Value} (hok : HOK S μ w [xrR L, arQ r.2.1]) (hh : Hds S μ w L r hd iq)
    (hnd : idx.Nodup) (hle : ∀ i ∈ idx, i ≤ L.length)
    (hev : Evo (SOwn S iq) μ [arRH (hrows hd L)] w S' μ' [.dead, arRH (idx.map fun i => (hrows hd L ++ [(hd L.length, r)]).getD i dH)] w') (hv : Rel S' μ' w' (.osl 1 0 idx.length) v) :
    ∃ S'' μ'', Evo S μ [xrR L, arQ r.2.1] w S'' μ'' [.dead, .dead, xrR (idx.map fun i => (L ++ [r]).getD i dR)] w' ∧ Rel S'' μ'' w' (.osl 2 0 idx.length) v := by
  have h0 : ([xrR L, arQ r.2.1] : List AObj)[0]? = some (xrR L) := rfl
  generalize hidx : (idx.map fun i => (hrows hd L ++ [(hd L.length, r)]).getD i dH) = Y at hev
  have hYl : Y.length = idx.length := by rw [← hidx]; simp
  have hYg : ∀ i, i < idx.length → Y.getD i dH = (hd (idx.getD i 0), (L ++ [r]).getD (idx.getD i 0) dR) := fun i hi => by
    have hm : idx.getD i 0 ≤ L.length := hle _ (getD_mem 0 hi)
    rw [← hidx]
    have e : (idx.map fun i => (hrows hd L ++ [(hd L.length, r)]).getD i dH).getD i dH = (hrows hd L ++ [(hd L.length, r)]).getD (idx.getD i 0) dH := by simp [hi]
    rw [e]
    by_cases h : idx.getD i 0 < L.length
    · rw [getD_left dH (by rw [hrows_len]; exact h), hrows_get h, getD_left dR h]
    · have e2 : idx.getD i 0 = L.length := by omega
      rw [e2, getD_last dR]
      have := getD_last (l := hrows hd L) (x := (hd L.length, r)) dH
      rw [hrows_len] at this
      exact this
  have hA : ([AObj.dead, arRH Y] : List AObj)[1]? = some (arRH Y) := rfl
  have hlt : ∀ i u, iq i = some u → u.b < w.heap.size ∧ ¬ S u.b := fun i u hu => by
    obtain ⟨o, h⟩ := (hh.own i u hu).2.1
    exact ⟨(hok.owns o _ h).2, (hok.owns o _ h).1⟩
  have hkeep : ∀ i u, iq i = some u → w'.heap[u.b]? = w.heap[u.b]? := fun i u hu => hev.kept.block u.b (hlt i u hu).1 fun ⟨o, x, hx, hb⟩ => by
    cases o with
    | zero => cases hx; exact (hh.own i u hu).2.2 hb
    | succ o => simp at hx
  have hb0 : ∀ b, Blk μ [arRH (hrows hd L)] b → (μ 0).b = some b := fun b ⟨o, x, hx, hb⟩ => by
    cases o with
    | zero => cases hx; exact hb
    | succ o => simp at hx
  obtain ⟨he, hob⟩ := hev.hok.obj 1 _ hA
  let inn' : Nat → Nat → Option Inn := fun i j => if j = 1 ∧ i < idx.length then iq (idx.getD i 0) else none
  let μ'' : Nat → OI := fun o => if o < 2 then μ o else { μ' 1 with inn := inn' }
  have m2 : μ'' 2 = { μ' 1 with inn := inn' } := rfl
  have hinn' : ∀ i j u, inn' i j = some u → j = 1 ∧ i < idx.length ∧ iq (idx.getD i 0) = some u := fun i j u hu => by
    by_cases h : j = 1 ∧ i < idx.length
    · have : inn' i j = iq (idx.getD i 0) := if_pos h
      rw [this] at hu
      exact ⟨h.1, h.2, hu⟩
    · have : inn' i j = none := if_neg h
      rw [this] at hu; cases hu
  have outer : ∀ b, (μ' 1).b = some b → (w.heap.size ≤ b ∨ (μ 0).b = some b) ∧ ¬ S b ∧ b < w'.heap.size ∧ ¬ S' b := fun b hb => by
    have ho : Own μ' [AObj.dead, arRH Y] 1 b := ⟨_, hA, hb⟩
    have h1 := hev.mine 1 b ho
    have h2 := hev.hok.owns 1 b ho
    refine ⟨h1.imp id (hb0 b), fun hs => h2.1 (hev.sub b (.inl hs)), h2.2, h2.1⟩
  have own2 : ∀ o b, Own μ'' [AObj.dead, .dead, xrR (idx.map fun i => (L ++ [r]).getD i dR)] o b → o = 2 ∧ ((μ' 1).b = some b ∨ ∃ i j u, inn' i j = some u ∧ u.b = b) := fun o b ⟨x, hx, hb⟩ => by
    match o, hx with
    | 0, hx => cases hx; exact hb.elim
    | 1, hx => cases hx; exact hb.elim
    | 2, hx => cases hx; exact ⟨rfl, hb⟩
    | o + 3, hx => simp at hx
  refine ⟨S, μ'', { sub := fun _ h => h, new := fun _ h => .inl h, mu := fun o ho => if_pos ho, len := by simp, kept := ⟨hev.kept.os, hev.kept.tape, hev.kept.output, hev.kept.size, fun b hb hn => hev.kept.block b hb fun h => hn ⟨0, _, h0, .inl (hb0 b h)⟩⟩, mine := fun o b ho => ?_, hok := ?_ }, ?_⟩
  · obtain ⟨rfl, h⟩ := own2 o b ho
    rcases h with h | ⟨i, j, u, hu, rfl⟩
    · rcases (outer b h).1 with h1 | h1
      · exact .inl h1
      · exact .inr ⟨0, _, h0, .inl h1⟩
    · obtain ⟨_, _, hu⟩ := hinn' i j u hu
      exact .inr (hh.own _ u hu).2.1
  · refine { obj := fun o x hx => ?_, ids := fun o cs hx => ?_, seps := fun o o' b hne h1 h2 => ?_, owns := fun o b ho => ?_, inS := fun b hb => Nat.lt_of_lt_of_le (hok.inS b hb) hev.kept.size }
    · match o, hx with
      | 0, hx => cases hx; trivial
      | 1, hx => cases hx; trivial
      | o + 3, hx => simp at hx
      | 2, hx =>
        cases hx
        refine ⟨he, fun i j u hu => ?_, ?_⟩
        · obtain ⟨rfl, hi, hu⟩ := hinn' i j u hu
          refine ⟨fun hb => (outer u.b hb).2.2.2 (hev.sub _ (.inr ⟨_, u, hu, rfl⟩)), by simpa using hi, by decide, fun i' j' u' hu' hbb => ?_⟩
          obtain ⟨rfl, hi', hu'⟩ := hinn' i' j' u' hu'
          have e := hh.dis _ u _ u' hu hu' hbb
          refine ⟨?_, rfl⟩
          have e1 : idx.getD i 0 = idx[i] := by simp [hi]
          have e2 : idx.getD i' 0 = idx[i'] := by simp [hi']
          rw [e1, e2] at e
          exact nodup_inj hnd hi' hi e
        · show match (μ' 1).b with
            | none => _
            | some b => _
          cases hb : (μ' 1).b with
          | none =>
            rw [hb] at hob
            have : Y.length = 0 := hob
            show (idx.map fun i => (L ++ [r]).getD i dR).length = 0
            simp; rw [← List.length_eq_zero_iff]; omega
          | some b =>
            rw [hb] at hob
            obtain ⟨h3, C, T, h4, h5, h6⟩ := hob
            refine ⟨by simp; rw [← hYl]; exact h3, C, T, h4, h5, fun i hi j hj => ?_⟩
            have hi : i < idx.length := by simpa using hi
            obtain ⟨x, h7, h8⟩ := h6 i (by omega) j hj
            refine ⟨x, h7, ?_⟩
            replace h8 : RelI S' w' (eRH (Y.getD i dH) j) x := h8
            rw [hYg i hi] at h8
            have e : (idx.map fun i => (L ++ [r]).getD i dR).getD i dR = (L ++ [r]).getD (idx.getD i 0) dR := by simp [hi]
            show RelX S inn' w' i j (eR ((idx.map fun i => (L ++ [r]).getD i dR).getD i dR) j) x
            rw [e]
            match j, hj with
            | 0, _ => exact h8
            | 1, _ =>
              have hx : x = hd (idx.getD i 0) := h8.1
              show RelN S w' (inn' i 1) _ 2 _ x
              have hi1 : inn' i 1 = iq (idx.getD i 0) := if_pos ⟨rfl, hi⟩
              rw [hi1, hx]
              exact RelN_keep (hh.rel _ (hle _ (getD_mem 0 hi))) (cQ_plain _) fun u hu => hkeep _ u hu
            | 2, _ => exact h8
            | 3, _ => exact h8
    · match o, hx with
      | 0, hx => cases hx
      | 1, hx => cases hx
      | 2, hx => cases hx
      | o + 3, hx => simp at hx
    · exact hne ((own2 o b h1).1.trans (own2 o' b h2).1.symm)
    · obtain ⟨rfl, h⟩ := own2 o b ho
      rcases h with h | ⟨i, j, u, hu, rfl⟩
      · exact ⟨(outer b h).2.1, (outer b h).2.2.1⟩
      · obtain ⟨_, _, hu⟩ := hinn' i j u hu
        exact ⟨(hlt _ u hu).2, Nat.lt_of_lt_of_le (hlt _ u hu).1 hev.kept.size⟩
  · exact hv
end

/-- From what the code does with the slices themselves to what it does with rows that own theirs. -/
theorem put_own {P : Program} (h : SoundC P K_l7Put.1 K_l7Put.2) : SoundC P K_l7PutX.1 K_l7PutX.2 := by
  refine ⟨h.1, fun x hp S μ w vals hok hrel => ?_⟩
  obtain ⟨L, r⟩ := x
  obtain ⟨p1, p2, p3⟩ : L.length ≤ 1000 ∧ (∀ y ∈ L, y.2.1.length ≤ 1000) ∧ r.2.1.length ≤ 1000 := hp
  obtain ⟨v0, rest, rfl, hv0, v1, rest', rfl, hv1, hre⟩ := hrel
  cases hre
  obtain ⟨vs, rfl, nm, rs, rfl, hnm, a, rs1, rfl, ha, vn, rs2, rfl, hvn, vd, rs3, rfl, hvd, hr3⟩ := hv1
  cases hr3
  obtain ⟨hd, iq, hh, hda, hc⟩ := hds_of hok ha
  have hrel' : RelL (SOwn S iq) μ w [.osl 0 0 (hrows hd L).length, rowB (hdQ (hd L.length) r.2.1) r] [v0, .agg #[nm, a, vn, vd]] := by
    refine ⟨v0, _, rfl, by rw [hrows_len]; exact hv0, _, [], rfl, ⟨[nm, a, vn, vd], rfl, nm, _, rfl, hnm, a, _, rfl, ?_, vn, _, rfl, hvn, vd, _, rfl, hvd, rfl⟩, rfl⟩
    have := hh.rel L.length (Nat.le_refl _)
    rw [getD_last dR, hda] at this
    rw [hda]
    exact RelN_hdr this fun v hv => .inr ⟨_, v, hv, rfl⟩
  have := h.2 (hrows hd L, (hd L.length, r)) ⟨by rw [hrows_len]; exact p1, fun y hy => by
    unfold hrows at hy
    obtain ⟨i, hi, rfl⟩ := List.mem_map.1 hy
    have hi := List.mem_range.1 hi
    exact p2 _ (getD_mem dR hi), p3⟩ (SOwn S iq) μ w _ (open_hok hok hh hc) hrel'
  refine Calls.mono this fun e w' he => ?_
  obtain ⟨v, y, S', μ', rfl, hy, hev, hr⟩ := he
  obtain ⟨y1, y2, y3⟩ : HPut (hrows hd L).length y := hy
  rw [hrows_len] at y1 y3
  obtain ⟨S'', μ'', hev', hr'⟩ := close_evo hok hh y2 y3 hev hr
  exact ⟨v, y, S'', μ'', rfl, ⟨y1, y2, y3⟩, hev', hr'⟩
end Cg

/-
  What is left to show of each function's code, printed by a program: Mok. No condition.
-/
set_option maxRecDepth 100000
set_option linter.unusedVariables false
namespace Cg
open Go Go.Proofs
theorem vc_l1Abs (x : Int) : (condP (Decidable.decide (x < (-1000000000 : Int))) ((1000000001 : Int) = Pl.abs1 x)
 (condP (Decidable.decide (x > (1000000000 : Int))) ((1000000001 : Int) = Pl.abs1 x)
 (condP (Decidable.decide (x < (0 : Int))) (IntKind.i64.wrap ((0 : Int) - x) = Pl.abs1 x) (x = Pl.abs1 x)))) = Goal Tryz.prog [] ([]) K_l1Abs.1 K_l1Abs.2 (x) := by kernel_rfl

theorem vc_l1Gcd (a b : Nat) : ((Exists fun (x : Nat × Nat) =>
 (x.fst ≤ (4611686018427387904 : Nat) ∧ x.snd ≤ (4611686018427387904 : Nat) ∧ x.fst.gcd x.snd = a.gcd b) ∧ ((↑a : Int) = (↑x.fst : Int) ∧ (↑b : Int) = (↑x.snd : Int) ∧ True) ∧ True) ∧
 ∀ (x : Nat × Nat),
 x.fst ≤ (4611686018427387904 : Nat) ∧ x.snd ≤ (4611686018427387904 : Nat) ∧ x.fst.gcd x.snd = a.gcd b →
 condP (Decidable.decide ((↑x.snd : Int) > (0 : Int)))
 ((↑x.snd : Int) ≠ (0 : Int) ∧
 Exists fun (x' : Nat × Nat) =>
 (x'.fst ≤ (4611686018427387904 : Nat) ∧ x'.snd ≤ (4611686018427387904 : Nat) ∧ x'.fst.gcd x'.snd = a.gcd b) ∧
 x'.snd < x.snd ∧ ((↑x.snd : Int) = (↑x'.fst : Int) ∧ (↑x.fst : Int).tmod (↑x.snd : Int) = (↑x'.snd : Int) ∧ True) ∧ True)
 ((↑x.fst : Int) = (↑(a.gcd b) : Int))) = Goal Tryz.prog [] (A_l1Gcd a b) K_l1Gcd.1 K_l1Gcd.2 ((a, b)) := by kernel_rfl

theorem vc_gcd (a b : Int) : ((Exists fun (x : Nat × Nat) =>
 (x.fst ≤ (4611686018427387904 : Nat) ∧ x.snd ≤ (4611686018427387904 : Nat) ∧ x.fst.gcd x.snd = a.natAbs.gcd b.natAbs) ∧
 ((if IntKind.i64.wrap ((0 : Int) - a) > a then IntKind.i64.wrap ((0 : Int) - a) else a) = (↑x.fst : Int) ∧
 (if IntKind.i64.wrap ((0 : Int) - b) > b then IntKind.i64.wrap ((0 : Int) - b) else b) = (↑x.snd : Int) ∧ True) ∧
 True) ∧
 ∀ (x : Nat × Nat),
 x.fst ≤ (4611686018427387904 : Nat) ∧ x.snd ≤ (4611686018427387904 : Nat) ∧ x.fst.gcd x.snd = a.natAbs.gcd b.natAbs →
 condP (Decidable.decide ((↑x.snd : Int) > (0 : Int)))
 ((↑x.snd : Int) ≠ (0 : Int) ∧
 Exists fun (x' : Nat × Nat) =>
 (x'.fst ≤ (4611686018427387904 : Nat) ∧ x'.snd ≤ (4611686018427387904 : Nat) ∧ x'.fst.gcd x'.snd = a.natAbs.gcd b.natAbs) ∧
 x'.snd < x.snd ∧ ((↑x.snd : Int) = (↑x'.fst : Int) ∧ (↑x.fst : Int).tmod (↑x.snd : Int) = (↑x'.snd : Int) ∧ True) ∧ True)
 ((↑x.fst : Int) = (↑(a.natAbs.gcd b.natAbs) : Int))) = Goal Tryz.prog [] (A_gcd a b) K_gcd.1 K_gcd.2 ((a, b)) := by kernel_rfl

theorem vc_sRatOk (x : Pl.Rt) : (Exists fun (x_1 : Int) =>
 (x.fst = x_1 ∧ True) ∧
 True ∧
 condP (Decidable.decide (Pl.abs1 x_1 ≤ (1000000000 : Int)))
 (condP (Decidable.decide (x.snd ≥ (1 : Int)))
 (condP (Decidable.decide (x.snd ≤ (1000000000 : Int)))
 (Exists fun (x_2 : Int) =>
 (x.fst = x_2 ∧ True) ∧
 True ∧
 Exists fun (x_3 : Nat × Nat) =>
 (Pl.abs1 x_2 = (↑x_3.fst : Int) ∧ x.snd = (↑x_3.snd : Int) ∧ True) ∧
 (x_3.fst ≤ (4611686018427387904 : Nat) ∧ x_3.snd ≤ (4611686018427387904 : Nat)) ∧ ((↑(x_3.fst.gcd x_3.snd) : Int) == (1 : Int)) = Pl.ratOk x)
 (Bool.false = Pl.ratOk x))
 (Bool.false = Pl.ratOk x))
 (Bool.false = Pl.ratOk x)) = Goal Tryz.prog [K_l1Abs, K_l1Gcd] ([]) K_sRatOk.1 K_sRatOk.2 (x) := by kernel_rfl

theorem vc_iRatOk (x : Pl.Rt) : (Exists fun (x_1 : Int × Int × Int) =>
 (x.fst = x_1.fst ∧ (-1000000000 : Int) = x_1.snd.fst ∧ (1000000000 : Int) = x_1.snd.snd ∧ True) ∧
 True ∧
 condP (Pl.withinI x_1.fst x_1.snd.fst x_1.snd.snd)
 (Exists fun (x_2 : Int × Int × Int) =>
 (x.snd = x_2.fst ∧ (1 : Int) = x_2.snd.fst ∧ (1000000000 : Int) = x_2.snd.snd ∧ True) ∧
 True ∧
 condP (Pl.withinI x_2.fst x_2.snd.fst x_2.snd.snd)
 (Exists fun (x_3 : Int × Int) =>
 (x.fst = x_3.fst ∧ x.snd = x_3.snd ∧ True) ∧
 (x_3.fst.natAbs ≤ (4611686018427387904 : Nat) ∧ x_3.snd.natAbs ≤ (4611686018427387904 : Nat)) ∧ ((↑(x_3.fst.natAbs.gcd x_3.snd.natAbs) : Int) == (1 : Int)) = Pl.ratOk x)
 (Bool.false = Pl.ratOk x))
 (Bool.false = Pl.ratOk x)) = Goal Tryz.prog [K_within, K_gcd] ([]) K_iRatOk.1 K_iRatOk.2 (x) := by kernel_rfl

theorem vc_sRatLess (x : Pl.Rt × Pl.Rt) : (Exists fun (x_1 : Pl.Rt) =>
 ((x.fst.fst = x_1.fst ∧ x.fst.snd = x_1.snd ∧ True) ∧ True) ∧
 True ∧
 condP (Pl.ratOk x_1)
 (Exists fun (x_2 : Pl.Rt) =>
 ((x.snd.fst = x_2.fst ∧ x.snd.snd = x_2.snd ∧ True) ∧ True) ∧
 True ∧
 condP (Pl.ratOk x_2) (Decidable.decide (IntKind.i64.wrap (x.fst.fst * x.snd.snd) < IntKind.i64.wrap (x.snd.fst * x.fst.snd)) = Pl.ratLess x.fst x.snd)
 (Bool.false = Pl.ratLess x.fst x.snd))
 (Bool.false = Pl.ratLess x.fst x.snd)) = Goal Tryz.prog [K_sRatOk] ([]) K_sRatLess.1 K_sRatLess.2 (x) := by kernel_rfl

theorem vc_iRatLess (x : Pl.Rt × Pl.Rt) : (Exists fun (x_1 : Pl.Rt) =>
 ((x.fst.fst = x_1.fst ∧ x.fst.snd = x_1.snd ∧ True) ∧ True) ∧
 True ∧
 condP (Pl.ratOk x_1)
 (Exists fun (x_2 : Pl.Rt) =>
 ((x.snd.fst = x_2.fst ∧ x.snd.snd = x_2.snd ∧ True) ∧ True) ∧
 True ∧
 condP (Pl.ratOk x_2) (Decidable.decide (IntKind.i64.wrap (x.fst.fst * x.snd.snd) < IntKind.i64.wrap (x.snd.fst * x.fst.snd)) = Pl.ratLess x.fst x.snd)
 (Bool.false = Pl.ratLess x.fst x.snd))
 (Bool.false = Pl.ratLess x.fst x.snd)) = Goal Tryz.prog [K_iRatOk] ([]) K_iRatLess.1 K_iRatLess.2 (x) := by kernel_rfl

theorem vc_compareRats (x : Pl.Rt × Pl.Rt) : (Exists fun (x_1 : Pl.Rt × Pl.Rt) =>
 ((x.fst.fst = x_1.fst.fst ∧ x.fst.snd = x_1.fst.snd ∧ True) ∧ (x.snd.fst = x_1.snd.fst ∧ x.snd.snd = x_1.snd.snd ∧ True) ∧ True) ∧
 True ∧
 condP (Pl.ratLess x_1.fst x_1.snd) ((-1 : Int) = Pl.cmpRat x.fst x.snd)
 (Exists fun (x_2 : Pl.Rt × Pl.Rt) =>
 ((x.snd.fst = x_2.fst.fst ∧ x.snd.snd = x_2.fst.snd ∧ True) ∧ (x.fst.fst = x_2.snd.fst ∧ x.fst.snd = x_2.snd.snd ∧ True) ∧ True) ∧
 True ∧ condP (Pl.ratLess x_2.fst x_2.snd) ((1 : Int) = Pl.cmpRat x.fst x.snd) ((0 : Int) = Pl.cmpRat x.fst x.snd))) = Goal Tryz.prog [K_iRatLess] ([]) K_compareRats.1 K_compareRats.2 (x) := by kernel_rfl

theorem vc_l7Row (x : Pl.Rw) : ((Exists fun (x_1 : Nat) =>
 (x_1 ≤ x.snd.fst.length ∧ x.snd.fst.all Pl.ratOk = (List.drop x_1 x.snd.fst).all Pl.ratOk) ∧
 ((0 : Nat) = (0 : Nat) ∧ (0 : Int) = (↑x_1 : Int) ∧ True) ∧
 (x.fst = x.fst ∧ Is (rats x.snd.fst) (rats x.snd.fst) ∧ x.snd.snd.fst = x.snd.snd.fst ∧ x.snd.snd.snd = x.snd.snd.snd ∧ True) ∧ True) ∧
 ∀ (x_1 : Nat),
 x_1 ≤ x.snd.fst.length ∧ x.snd.fst.all Pl.ratOk = (List.drop x_1 x.snd.fst).all Pl.ratOk →
 condP (Decidable.decide ((↑x_1 : Int) < (↑x.snd.fst.length : Int)))
 (((0 : Int) ≤ (↑x_1 : Int) ∧ (↑x_1 : Int) < (↑x.snd.fst.length : Int)) ∧
 x_1 < x.snd.fst.length ∧
 Exists fun (x_2 : Pl.Rt) =>
 (((x.snd.fst.getD x_1 Pl.dQ).fst = x_2.fst ∧ (x.snd.fst.getD x_1 Pl.dQ).snd = x_2.snd ∧ True) ∧ True) ∧
 True ∧
 condP (!Pl.ratOk x_2) (Bool.false = Pl.rowOk x)
 (Exists fun (x' : Nat) =>
 (x' ≤ x.snd.fst.length ∧ x.snd.fst.all Pl.ratOk = (List.drop x' x.snd.fst).all Pl.ratOk) ∧
 x.snd.fst.length - x' < x.snd.fst.length - x_1 ∧
 ((0 : Nat) = (0 : Nat) ∧ IntKind.i64.wrap ((↑x_1 : Int) + (1 : Int)) = (↑x' : Int) ∧ True) ∧
 (x.fst = x.fst ∧ Is (rats x.snd.fst) (rats x.snd.fst) ∧ x.snd.snd.fst = x.snd.snd.fst ∧ x.snd.snd.snd = x.snd.snd.snd ∧ True) ∧ True))
 (Exists fun (x_2 : ByteArray) =>
 (x.fst = x_2 ∧ True) ∧
 x_2.size ≤ (1048576 : Nat) ∧
 condP (Pl.nameOk x_2)
 (condP (Decidable.decide ((↑x.snd.fst.length : Int) ≤ (2 : Int)))
 (Exists fun (x_3 : Pl.Rt) => ((x.snd.snd.fst = x_3.fst ∧ x.snd.snd.snd = x_3.snd ∧ True) ∧ True) ∧ True ∧ Pl.ratOk x_3 = Pl.rowOk x) (Bool.false = Pl.rowOk x))
 (Bool.false = Pl.rowOk x))) = Goal Tryz.prog [K_sRatOk, K_sNameOk] (A_l7Row x) K_l7Row.1 K_l7Row.2 (x) := by kernel_rfl

theorem vc_l7Less (x : Pl.Rw × Pl.Rw) : (condP (!x.fst.fst.toList == x.snd.fst.toList) (Op.bytesLess x.fst.fst.toList x.snd.fst.toList = Pl.rowLess x.fst x.snd)
 (condP ((↑x.fst.snd.fst.length : Int) != (↑x.snd.snd.fst.length : Int)) (Decidable.decide ((↑x.fst.snd.fst.length : Int) < (↑x.snd.snd.fst.length : Int)) = Pl.rowLess x.fst x.snd)
 ((Exists fun (x_1 : Nat) =>
 (x_1 ≤ x.fst.snd.fst.length ∧ x.fst.snd.fst.length = x.snd.snd.fst.length ∧ Pl.rowLess x.fst x.snd = Pl.argsLess (List.drop x_1 x.fst.snd.fst) (List.drop x_1 x.snd.snd.fst)) ∧
 ((0 : Nat) = (0 : Nat) ∧ (0 : Nat) = (0 : Nat) ∧ (0 : Int) = (↑x_1 : Int) ∧ True) ∧
 (x.fst.fst = x.fst.fst ∧ Is (rats x.fst.snd.fst) (rats x.fst.snd.fst) ∧ x.fst.snd.snd.fst = x.fst.snd.snd.fst ∧ x.fst.snd.snd.snd = x.fst.snd.snd.snd ∧ True) ∧
 (x.snd.fst = x.snd.fst ∧ Is (rats x.snd.snd.fst) (rats x.snd.snd.fst) ∧ x.snd.snd.snd.fst = x.snd.snd.snd.fst ∧ x.snd.snd.snd.snd = x.snd.snd.snd.snd ∧ True) ∧ True) ∧
 ∀ (x_1 : Nat),
 x_1 ≤ x.fst.snd.fst.length ∧ x.fst.snd.fst.length = x.snd.snd.fst.length ∧ Pl.rowLess x.fst x.snd = Pl.argsLess (List.drop x_1 x.fst.snd.fst) (List.drop x_1 x.snd.snd.fst) →
 condP (Decidable.decide ((↑x_1 : Int) < (↑x.fst.snd.fst.length : Int)))
 (((0 : Int) ≤ (↑x_1 : Int) ∧ (↑x_1 : Int) < (↑x.fst.snd.fst.length : Int)) ∧
 x_1 < x.fst.snd.fst.length ∧
 ((0 : Int) ≤ (↑x_1 : Int) ∧ (↑x_1 : Int) < (↑x.snd.snd.fst.length : Int)) ∧
 x_1 < x.snd.snd.fst.length ∧
 condP (!((x.fst.snd.fst.getD x_1 Pl.dQ).fst == (x.snd.snd.fst.getD x_1 Pl.dQ).fst && (x.fst.snd.fst.getD x_1 Pl.dQ).snd == (x.snd.snd.fst.getD x_1 Pl.dQ).snd))
 (((0 : Int) ≤ (↑x_1 : Int) ∧ (↑x_1 : Int) < (↑x.fst.snd.fst.length : Int)) ∧
 x_1 < x.fst.snd.fst.length ∧
 ((0 : Int) ≤ (↑x_1 : Int) ∧ (↑x_1 : Int) < (↑x.snd.snd.fst.length : Int)) ∧
 x_1 < x.snd.snd.fst.length ∧
 Exists fun (x_2 : Pl.Rt × Pl.Rt) =>
 (((x.fst.snd.fst.getD x_1 Pl.dQ).fst = x_2.fst.fst ∧ (x.fst.snd.fst.getD x_1 Pl.dQ).snd = x_2.fst.snd ∧ True) ∧
 ((x.snd.snd.fst.getD x_1 Pl.dQ).fst = x_2.snd.fst ∧ (x.snd.snd.fst.getD x_1 Pl.dQ).snd = x_2.snd.snd ∧ True) ∧ True) ∧
 True ∧ Pl.ratLess x_2.fst x_2.snd = Pl.rowLess x.fst x.snd)
 (Exists fun (x' : Nat) =>
 (x' ≤ x.fst.snd.fst.length ∧ x.fst.snd.fst.length = x.snd.snd.fst.length ∧ Pl.rowLess x.fst x.snd = Pl.argsLess (List.drop x' x.fst.snd.fst) (List.drop x' x.snd.snd.fst)) ∧
 x.fst.snd.fst.length - x' < x.fst.snd.fst.length - x_1 ∧
 ((0 : Nat) = (0 : Nat) ∧ (0 : Nat) = (0 : Nat) ∧ IntKind.i64.wrap ((↑x_1 : Int) + (1 : Int)) = (↑x' : Int) ∧ True) ∧
 (x.fst.fst = x.fst.fst ∧ Is (rats x.fst.snd.fst) (rats x.fst.snd.fst) ∧ x.fst.snd.snd.fst = x.fst.snd.snd.fst ∧ x.fst.snd.snd.snd = x.fst.snd.snd.snd ∧ True) ∧
 (x.snd.fst = x.snd.fst ∧ Is (rats x.snd.snd.fst) (rats x.snd.snd.fst) ∧ x.snd.snd.snd.fst = x.snd.snd.snd.fst ∧ x.snd.snd.snd.snd = x.snd.snd.snd.snd ∧ True) ∧
 True))
 (Bool.false = Pl.rowLess x.fst x.snd)))) = Goal Tryz.prog [K_sRatLess] (A_l7Less x.1 x.2) K_l7Less.1 K_l7Less.2 (x) := by kernel_rfl

theorem vc_l7Right (x : Pl.Mdl) : ((Exists fun (x_1 : Nat) =>
 (x_1 ≤ List.length x ∧ Pl.mL Option.none x = Pl.mL (Pl.prevR x x_1) (List.drop x_1 x)) ∧
 ((0 : Nat) = (0 : Nat) ∧ (0 : Int) = (↑x_1 : Int) ∧ True) ∧ (Is (mrows x) (mrows x) ∧ True) ∧ True) ∧
 ∀ (x_1 : Nat),
 x_1 ≤ List.length x ∧ Pl.mL Option.none x = Pl.mL (Pl.prevR x x_1) (List.drop x_1 x) →
 condP (Decidable.decide ((↑x_1 : Int) < (↑(List.length x) : Int)))
 (((0 : Int) ≤ (↑x_1 : Int) ∧ (↑x_1 : Int) < (↑(List.length x) : Int)) ∧
 x_1 < List.length x ∧
 Exists fun (x_2 : Pl.Rw) =>
 (((List.getD x x_1 Pl.dR).fst = x_2.fst ∧
 Is (rats (List.getD x x_1 Pl.dR).snd.fst) (rats x_2.snd.fst) ∧
 (List.getD x x_1 Pl.dR).snd.snd.fst = x_2.snd.snd.fst ∧ (List.getD x x_1 Pl.dR).snd.snd.snd = x_2.snd.snd.snd ∧ True) ∧
 True) ∧
 (x_2.fst.size ≤ (1048576 : Nat) ∧ x_2.snd.fst.length ≤ (1048576 : Nat)) ∧
 condP (!Pl.rowOk x_2) (Bool.false = Pl.mRight x)
 (condP (Decidable.decide ((↑x_1 : Int) > (0 : Int)))
 (((0 : Int) ≤ IntKind.i64.wrap ((↑x_1 : Int) - (1 : Int)) ∧ IntKind.i64.wrap ((↑x_1 : Int) - (1 : Int)) < (↑(List.length x) : Int)) ∧
 (IntKind.i64.wrap ((↑x_1 : Int) - (1 : Int))).toNat < List.length x ∧
 ((0 : Int) ≤ (↑x_1 : Int) ∧ (↑x_1 : Int) < (↑(List.length x) : Int)) ∧
 x_1 < List.length x ∧
 Exists fun (x_3 : Pl.Rw × Pl.Rw) =>
 (((List.getD x (IntKind.i64.wrap ((↑x_1 : Int) - (1 : Int))).toNat Pl.dR).fst = x_3.fst.fst ∧
 Is (rats (List.getD x (IntKind.i64.wrap ((↑x_1 : Int) - (1 : Int))).toNat Pl.dR).snd.fst) (rats x_3.fst.snd.fst) ∧
 (List.getD x (IntKind.i64.wrap ((↑x_1 : Int) - (1 : Int))).toNat Pl.dR).snd.snd.fst = x_3.fst.snd.snd.fst ∧
 (List.getD x (IntKind.i64.wrap ((↑x_1 : Int) - (1 : Int))).toNat Pl.dR).snd.snd.snd = x_3.fst.snd.snd.snd ∧ True) ∧
 ((List.getD x x_1 Pl.dR).fst = x_3.snd.fst ∧
 Is (rats (List.getD x x_1 Pl.dR).snd.fst) (rats x_3.snd.snd.fst) ∧
 (List.getD x x_1 Pl.dR).snd.snd.fst = x_3.snd.snd.snd.fst ∧ (List.getD x x_1 Pl.dR).snd.snd.snd = x_3.snd.snd.snd.snd ∧ True) ∧
 True) ∧
 x_3.fst.snd.fst.length ≤ (1048576 : Nat) ∧
 condP (!Pl.rowLess x_3.fst x_3.snd) (Bool.false = Pl.mRight x)
 (Exists fun (x' : Nat) =>
 (x' ≤ List.length x ∧ Pl.mL Option.none x = Pl.mL (Pl.prevR x x') (List.drop x' x)) ∧
 List.length x - x' < List.length x - x_1 ∧
 ((0 : Nat) = (0 : Nat) ∧ IntKind.i64.wrap ((↑x_1 : Int) + (1 : Int)) = (↑x' : Int) ∧ True) ∧ (Is (mrows x) (mrows x) ∧ True) ∧ True))
 (Exists fun (x' : Nat) =>
 (x' ≤ List.length x ∧ Pl.mL Option.none x = Pl.mL (Pl.prevR x x') (List.drop x' x)) ∧
 List.length x - x' < List.length x - x_1 ∧
 ((0 : Nat) = (0 : Nat) ∧ IntKind.i64.wrap ((↑x_1 : Int) + (1 : Int)) = (↑x' : Int) ∧ True) ∧ (Is (mrows x) (mrows x) ∧ True) ∧ True)))
 (Decidable.decide ((↑(List.length x) : Int) ≤ (40 : Int)) = Pl.mRight x)) = Goal Tryz.prog [K_l7Row, K_l7Less] (A_l7Right x) K_l7Right.1 K_l7Right.2 (x) := by kernel_rfl

theorem vc_l7Fit (x : Pl.Rt × Int) : (Exists fun (x_1 : Pl.Rt) =>
 ((x.fst.fst = x_1.fst ∧ x.fst.snd = x_1.snd ∧ True) ∧ True) ∧
 True ∧ condP (Pl.ratOk x_1) (condP (x.snd == (1 : Int)) (Bool.true = Pl.fit x.fst x.snd) ((x.fst.snd == (1 : Int)) = Pl.fit x.fst x.snd)) (Bool.false = Pl.fit x.fst x.snd)) = Goal Tryz.prog [K_sRatOk] ([]) K_l7Fit.1 K_l7Fit.2 (x) := by kernel_rfl

theorem vc_sModelOk (x : Pl.Sig × Pl.Mdl) : (Exists fun (x_1 : Pl.Sig) =>
 ((Is (syms x.fst) (syms x_1) ∧ True) ∧ True) ∧
 SmG x_1 ∧
 condP (!Pl.sigOk x_1) (Bool.false = Pl.modelOk x.fst x.snd)
 (Exists fun (x_2 : Pl.Mdl) =>
 ((Is (mrows x.snd) (mrows x_2) ∧ True) ∧ True) ∧
 SmM x_2 ∧
 condP (!Pl.mRight x_2) (Bool.false = Pl.modelOk x.fst x.snd)
 ((Exists fun (x_3 : Nat) =>
 (x_3 ≤ List.length x.snd ∧ Pl.modelOk x.fst x.snd = (List.drop x_3 x.snd).all (Pl.rowFits x.fst)) ∧
 ((0 : Nat) = (0 : Nat) ∧ (0 : Nat) = (0 : Nat) ∧ (0 : Int) = (↑x_3 : Int) ∧ True) ∧
 (Is (syms x.fst) (syms x.fst) ∧ True) ∧ (Is (mrows x.snd) (mrows x.snd) ∧ True) ∧ True) ∧
 ∀ (x_3 : Nat),
 x_3 ≤ List.length x.snd ∧ Pl.modelOk x.fst x.snd = (List.drop x_3 x.snd).all (Pl.rowFits x.fst) →
 condP (Decidable.decide ((↑x_3 : Int) < (↑(List.length x.snd) : Int)))
 (((0 : Int) ≤ (↑x_3 : Int) ∧ (↑x_3 : Int) < (↑(List.length x.snd) : Int)) ∧
 x_3 < List.length x.snd ∧
 Exists fun (x_4 : Pl.Sig × ByteArray) =>
 ((Is (syms x.fst) (syms x_4.fst) ∧ True) ∧ (List.getD x.snd x_3 Pl.dR).fst = x_4.snd ∧ True) ∧
 SmG x_4.fst ∧
 condP (!(Pl.find x_4.fst x_4.snd).isSome) (Bool.false = Pl.modelOk x.fst x.snd)
 (((0 : Int) ≤ (↑x_3 : Int) ∧ (↑x_3 : Int) < (↑(List.length x.snd) : Int)) ∧
 x_3 < List.length x.snd ∧
 condP ((↑(Pl.symOf x_4.fst x_4.snd).snd.fst.length : Int) != (↑(List.getD x.snd x_3 Pl.dR).snd.fst.length : Int)) (Bool.false = Pl.modelOk x.fst x.snd)
 (((0 : Int) ≤ (↑x_3 : Int) ∧ (↑x_3 : Int) < (↑(List.length x.snd) : Int)) ∧
 x_3 < List.length x.snd ∧
 Exists fun (x_5 : Pl.Rt × Int) =>
 (((List.getD x.snd x_3 Pl.dR).snd.snd.fst = x_5.fst.fst ∧ (List.getD x.snd x_3 Pl.dR).snd.snd.snd = x_5.fst.snd ∧ True) ∧
 (Pl.symOf x_4.fst x_4.snd).snd.snd = x_5.snd ∧ True) ∧
 True ∧
 condP (!Pl.fit x_5.fst x_5.snd) (Bool.false = Pl.modelOk x.fst x.snd)
 ((Exists fun (x_6 : Nat) =>
 (x_3 < List.length x.snd ∧
 x_6 ≤ (List.getD x.snd x_3 Pl.dR).snd.fst.length ∧
 (Pl.symOf x.fst (List.getD x.snd x_3 Pl.dR).fst).snd.fst.length = (List.getD x.snd x_3 Pl.dR).snd.fst.length ∧
 Pl.rowFits x.fst (List.getD x.snd x_3 Pl.dR) =
 Pl.fitL (List.drop x_6 (List.getD x.snd x_3 Pl.dR).snd.fst)
 (List.drop x_6 (Pl.symOf x.fst (List.getD x.snd x_3 Pl.dR).fst).snd.fst)) ∧
 ((0 : Nat) = (0 : Nat) ∧ (0 : Nat) = (0 : Nat) ∧ (↑x_3 : Int) = (↑x_3 : Int) ∧ (0 : Nat) = (0 : Nat) ∧ (0 : Int) = (↑x_6 : Int) ∧ True) ∧
 (Is (syms x.fst) (syms x.fst) ∧ True) ∧
 (Is (mrows x.snd) (mrows x.snd) ∧ True) ∧
 ((Pl.symOf x_4.fst x_4.snd).fst = (Pl.symOf x.fst (List.getD x.snd x_3 Pl.dR).fst).fst ∧
 Is (ints (Pl.symOf x_4.fst x_4.snd).snd.fst) (ints (Pl.symOf x.fst (List.getD x.snd x_3 Pl.dR).fst).snd.fst) ∧
 (Pl.symOf x_4.fst x_4.snd).snd.snd = (Pl.symOf x.fst (List.getD x.snd x_3 Pl.dR).fst).snd.snd ∧ True) ∧
 True) ∧
 ∀ (x_6 : Nat),
 x_3 < List.length x.snd ∧
 x_6 ≤ (List.getD x.snd x_3 Pl.dR).snd.fst.length ∧
 (Pl.symOf x.fst (List.getD x.snd x_3 Pl.dR).fst).snd.fst.length = (List.getD x.snd x_3 Pl.dR).snd.fst.length ∧
 Pl.rowFits x.fst (List.getD x.snd x_3 Pl.dR) =
 Pl.fitL (List.drop x_6 (List.getD x.snd x_3 Pl.dR).snd.fst)
 (List.drop x_6 (Pl.symOf x.fst (List.getD x.snd x_3 Pl.dR).fst).snd.fst) →
 condP (Decidable.decide ((↑x_6 : Int) < (↑(Pl.symOf x.fst (List.getD x.snd x_3 Pl.dR).fst).snd.fst.length : Int)))
 (((0 : Int) ≤ (↑x_3 : Int) ∧ (↑x_3 : Int) < (↑(List.length x.snd) : Int)) ∧
 x_3 < List.length x.snd ∧
 ((0 : Int) ≤ (↑x_6 : Int) ∧ (↑x_6 : Int) < (↑(List.getD x.snd x_3 Pl.dR).snd.fst.length : Int)) ∧
 x_6 < (List.getD x.snd x_3 Pl.dR).snd.fst.length ∧
 ((0 : Int) ≤ (↑x_6 : Int) ∧ (↑x_6 : Int) < (↑(Pl.symOf x.fst (List.getD x.snd x_3 Pl.dR).fst).snd.fst.length : Int)) ∧
 x_6 < (Pl.symOf x.fst (List.getD x.snd x_3 Pl.dR).fst).snd.fst.length ∧
 Exists fun (x_7 : Pl.Rt × Int) =>
 ((((List.getD x.snd x_3 Pl.dR).snd.fst.getD x_6 Pl.dQ).fst = x_7.fst.fst ∧
 ((List.getD x.snd x_3 Pl.dR).snd.fst.getD x_6 Pl.dQ).snd = x_7.fst.snd ∧ True) ∧
 (Pl.symOf x.fst (List.getD x.snd x_3 Pl.dR).fst).snd.fst.getD x_6 (0 : Int) = x_7.snd ∧ True) ∧
 True ∧
 condP (!Pl.fit x_7.fst x_7.snd) (Bool.false = Pl.modelOk x.fst x.snd)
 (Exists fun (x' : Nat) =>
 (x_3 < List.length x.snd ∧
 x' ≤ (List.getD x.snd x_3 Pl.dR).snd.fst.length ∧
 (Pl.symOf x.fst (List.getD x.snd x_3 Pl.dR).fst).snd.fst.length = (List.getD x.snd x_3 Pl.dR).snd.fst.length ∧
 Pl.rowFits x.fst (List.getD x.snd x_3 Pl.dR) =
 Pl.fitL (List.drop x' (List.getD x.snd x_3 Pl.dR).snd.fst)
 (List.drop x' (Pl.symOf x.fst (List.getD x.snd x_3 Pl.dR).fst).snd.fst)) ∧
 (List.getD x.snd x_3 Pl.dR).snd.fst.length - x' < (List.getD x.snd x_3 Pl.dR).snd.fst.length - x_6 ∧
 ((0 : Nat) = (0 : Nat) ∧
 (0 : Nat) = (0 : Nat) ∧
 (↑x_3 : Int) = (↑x_3 : Int) ∧
 (0 : Nat) = (0 : Nat) ∧ IntKind.i64.wrap ((↑x_6 : Int) + (1 : Int)) = (↑x' : Int) ∧ True) ∧
 (Is (syms x.fst) (syms x.fst) ∧ True) ∧
 (Is (mrows x.snd) (mrows x.snd) ∧ True) ∧
 ((Pl.symOf x.fst (List.getD x.snd x_3 Pl.dR).fst).fst =
 (Pl.symOf x.fst (List.getD x.snd x_3 Pl.dR).fst).fst ∧
 Is (ints (Pl.symOf x.fst (List.getD x.snd x_3 Pl.dR).fst).snd.fst)
 (ints (Pl.symOf x.fst (List.getD x.snd x_3 Pl.dR).fst).snd.fst) ∧
 (Pl.symOf x.fst (List.getD x.snd x_3 Pl.dR).fst).snd.snd =
 (Pl.symOf x.fst (List.getD x.snd x_3 Pl.dR).fst).snd.snd ∧
 True) ∧
 True))
 (Exists fun (x' : Nat) =>
 (x' ≤ List.length x.snd ∧ Pl.modelOk x.fst x.snd = (List.drop x' x.snd).all (Pl.rowFits x.fst)) ∧
 List.length x.snd - x' < List.length x.snd - x_3 ∧
 ((0 : Nat) = (0 : Nat) ∧ (0 : Nat) = (0 : Nat) ∧ IntKind.i64.wrap ((↑x_3 : Int) + (1 : Int)) = (↑x' : Int) ∧ True) ∧
 (Is (syms x.fst) (syms x.fst) ∧ True) ∧ (Is (mrows x.snd) (mrows x.snd) ∧ True) ∧ True)))))
 (Bool.true = Pl.modelOk x.fst x.snd)))) = Goal Tryz.prog [K_sSigOk, K_l7Right, K_l4Find, K_l7Fit] (A_sModelOk x.1 x.2) K_sModelOk.1 K_sModelOk.2 (x) := by kernel_rfl

theorem vc_RowOk1 (x : Pl.Rt) : (Exists fun (x_1 : Pl.Rt) => ((x.fst = x_1.fst ∧ x.snd = x_1.snd ∧ True) ∧ True) ∧ True ∧ (!Pl.ratOk x_1) = !Pl.ratOk x) = Goal Tryz.prog [K_iRatOk] ([]) K_RowOk1.1 K_RowOk1.2 (x) := by kernel_rfl

theorem vc_IndexRat (x : List Pl.Rt) : ((Exists fun (x_1 : Nat) =>
 (x_1 ≤ x.length ∧
 Pl.idx (fun (y : Pl.Rt) => !Pl.ratOk y) x =
 if Pl.idx (fun (y : Pl.Rt) => !Pl.ratOk y) (List.drop x_1 x) < (0 : Int) then (-1 : Int) else Pl.idx (fun (y : Pl.Rt) => !Pl.ratOk y) (List.drop x_1 x) + (↑x_1 : Int)) ∧
 (Is (rats x) (rats x) ∧ True ∧ (↑x.length : Int) = (↑x.length : Int) ∧ (0 : Int) = (↑x_1 : Int) ∧ True) ∧ True) ∧
 ∀ (x_1 : Nat),
 (x_1 ≤ x.length ∧
 Pl.idx (fun (y : Pl.Rt) => !Pl.ratOk y) x =
 if Pl.idx (fun (y : Pl.Rt) => !Pl.ratOk y) (List.drop x_1 x) < (0 : Int) then (-1 : Int) else Pl.idx (fun (y : Pl.Rt) => !Pl.ratOk y) (List.drop x_1 x) + (↑x_1 : Int)) →
 condP (Decidable.decide ((↑x_1 : Int) < (↑x.length : Int)))
 (((0 : Int) ≤ (↑x_1 : Int) ∧ (↑x_1 : Int) < (↑x.length : Int)) ∧
 x_1 < x.length ∧
 Exists fun (x_2 : Pl.Rt) =>
 (((x.getD x_1 Pl.dQ).fst = x_2.fst ∧ (x.getD x_1 Pl.dQ).snd = x_2.snd ∧ True) ∧ True) ∧
 True ∧
 condP (!Pl.ratOk x_2) ((↑x_1 : Int) = Pl.idx (fun (y : Pl.Rt) => !Pl.ratOk y) x)
 (Exists fun (x' : Nat) =>
 (x' ≤ x.length ∧
 Pl.idx (fun (y : Pl.Rt) => !Pl.ratOk y) x =
 if Pl.idx (fun (y : Pl.Rt) => !Pl.ratOk y) (List.drop x' x) < (0 : Int) then (-1 : Int) else Pl.idx (fun (y : Pl.Rt) => !Pl.ratOk y) (List.drop x' x) + (↑x' : Int)) ∧
 x.length - x' < x.length - x_1 ∧
 (Is (rats x) (rats x) ∧ True ∧ (↑x.length : Int) = (↑x.length : Int) ∧ IntKind.i64.wrap ((↑x_1 : Int) + (1 : Int)) = (↑x' : Int) ∧ True) ∧ True))
 ((-1 : Int) = Pl.idx (fun (y : Pl.Rt) => !Pl.ratOk y) x)) = Goal Tryz.prog [K_RowOk1] (A_IndexRat x) K_IndexRat.1 K_IndexRat.2 (x) := by kernel_rfl

theorem vc_ContainsRat (x : List Pl.Rt) : (Exists fun (x_1 : List Pl.Rt) =>
 (Is (rats x) (rats x_1) ∧ True ∧ True) ∧ Sz x_1 ∧ Decidable.decide (Pl.idx (fun (y : Pl.Rt) => !Pl.ratOk y) x_1 ≥ (0 : Int)) = x.any fun (y : Pl.Rt) => !Pl.ratOk y) = Goal Tryz.prog [K_IndexRat] ([]) K_ContainsRat.1 K_ContainsRat.2 (x) := by kernel_rfl

theorem vc_rowOk (x : Pl.Rw) : (Exists fun (x_1 : ByteArray) =>
 (x.fst = x_1 ∧ True) ∧
 x_1.size ≤ (1048576 : Nat) ∧
 condP (Pl.nameOk x_1)
 (condP (Decidable.decide ((↑x.snd.fst.length : Int) ≤ (2 : Int)))
 (Exists fun (x_2 : Pl.Rt) =>
 ((x.snd.snd.fst = x_2.fst ∧ x.snd.snd.snd = x_2.snd ∧ True) ∧ True) ∧
 True ∧
 condP (Pl.ratOk x_2) (Exists fun (x_3 : List Pl.Rt) => (Is (rats x.snd.fst) (rats x_3) ∧ True ∧ True) ∧ Sz x_3 ∧ (!x_3.any fun (y : Pl.Rt) => !Pl.ratOk y) = Pl.rowOk x)
 (Bool.false = Pl.rowOk x))
 (Bool.false = Pl.rowOk x))
 (Bool.false = Pl.rowOk x)) = Goal Tryz.prog [K_iNameOk, K_iRatOk, K_ContainsRat] ([]) K_rowOk.1 K_rowOk.2 (x) := by kernel_rfl

theorem vc_isNaNS (x : ByteArray) : ((!x.toList == x.toList) = Bool.false) = Goal Tryz.prog [] ([]) K_isNaNS.1 K_isNaNS.2 (x) := by kernel_rfl

theorem vc_isNaNI (x : Int) : ((x != x) = Bool.false) = Goal Tryz.prog [] ([]) K_isNaNI.1 K_isNaNI.2 (x) := by kernel_rfl

theorem vc_CompareS (x : ByteArray × ByteArray) : (Exists fun (x_1 : ByteArray) =>
 (x.fst = x_1 ∧ True) ∧
 True ∧
 Exists fun (x_2 : ByteArray) =>
 (x.snd = x_2 ∧ True) ∧
 True ∧
 condP (Op.bytesLess x.fst.toList x.snd.toList) ((-1 : Int) = Pl.cmpS x.fst x.snd)
 (condP (!(Op.bytesLess x.fst.toList x.snd.toList || x.fst.toList == x.snd.toList)) ((1 : Int) = Pl.cmpS x.fst x.snd) ((0 : Int) = Pl.cmpS x.fst x.snd))) = Goal Tryz.prog [K_isNaNS] ([]) K_CompareS.1 K_CompareS.2 (x) := by kernel_rfl

theorem vc_CompareI (x : Int × Int) : (Exists fun (x_1 : Int) =>
 (x.fst = x_1 ∧ True) ∧
 True ∧
 Exists fun (x_2 : Int) =>
 (x.snd = x_2 ∧ True) ∧
 True ∧
 condP (Decidable.decide (x.fst < x.snd)) ((-1 : Int) = Pl.cmpI x.fst x.snd)
 (condP (Decidable.decide (x.fst > x.snd)) ((1 : Int) = Pl.cmpI x.fst x.snd) ((0 : Int) = Pl.cmpI x.fst x.snd))) = Goal Tryz.prog [K_isNaNI] ([]) K_CompareI.1 K_CompareI.2 (x) := by kernel_rfl

theorem vc_Or (x : List Int) : ((Exists fun (x_1 : Nat) =>
 (x_1 ≤ x.length ∧ Pl.orI x = Pl.orI (List.drop x_1 x)) ∧ ((0 : Int) = (0 : Int) ∧ Is (ints x) (ints x) ∧ (↑x.length : Int) = (↑x.length : Int) ∧ (0 : Int) = (↑x_1 : Int) ∧ True) ∧ True) ∧
 ∀ (x_1 : Nat),
 x_1 ≤ x.length ∧ Pl.orI x = Pl.orI (List.drop x_1 x) →
 condP (Decidable.decide ((↑x_1 : Int) < (↑x.length : Int)))
 (((0 : Int) ≤ (↑x_1 : Int) ∧ (↑x_1 : Int) < (↑x.length : Int)) ∧
 x_1 < x.length ∧
 condP (x.getD x_1 (0 : Int) != (0 : Int)) (x.getD x_1 (0 : Int) = Pl.orI x)
 (Exists fun (x' : Nat) =>
 (x' ≤ x.length ∧ Pl.orI x = Pl.orI (List.drop x' x)) ∧
 x.length - x' < x.length - x_1 ∧
 ((0 : Int) = (0 : Int) ∧ Is (ints x) (ints x) ∧ (↑x.length : Int) = (↑x.length : Int) ∧ IntKind.i64.wrap ((↑x_1 : Int) + (1 : Int)) = (↑x' : Int) ∧ True) ∧ True))
 ((0 : Int) = Pl.orI x)) = Goal Tryz.prog [] (A_Or x) K_Or.1 K_Or.2 (x) := by kernel_rfl

theorem vc_CompareFunc (x : List Pl.Rt × List Pl.Rt) : ((Exists fun (x_1 : Nat) =>
 (x_1 ≤ x.fst.length ∧ x_1 ≤ x.snd.length ∧ Pl.cmpArgs x.fst x.snd = Pl.cmpArgs (List.drop x_1 x.fst) (List.drop x_1 x.snd)) ∧
 (Is (rats x.fst) (rats x.fst) ∧
 Is (rats x.snd) (rats x.snd) ∧ True ∧ Is (rats x.fst) (rats x.fst) ∧ (↑x.fst.length : Int) = (↑x.fst.length : Int) ∧ (0 : Int) = (↑x_1 : Int) ∧ True) ∧
 True) ∧
 ∀ (x_1 : Nat),
 x_1 ≤ x.fst.length ∧ x_1 ≤ x.snd.length ∧ Pl.cmpArgs x.fst x.snd = Pl.cmpArgs (List.drop x_1 x.fst) (List.drop x_1 x.snd) →
 condP (Decidable.decide ((↑x_1 : Int) < (↑x.fst.length : Int)))
 (((0 : Int) ≤ (↑x_1 : Int) ∧ (↑x_1 : Int) < (↑x.fst.length : Int)) ∧
 x_1 < x.fst.length ∧
 condP (Decidable.decide ((↑x_1 : Int) ≥ (↑x.snd.length : Int))) ((1 : Int) = Pl.cmpArgs x.fst x.snd)
 (((0 : Int) ≤ (↑x_1 : Int) ∧ (↑x_1 : Int) < (↑x.snd.length : Int)) ∧
 x_1 < x.snd.length ∧
 Exists fun (x_2 : Pl.Rt × Pl.Rt) =>
 (((x.fst.getD x_1 Pl.dQ).fst = x_2.fst.fst ∧ (x.fst.getD x_1 Pl.dQ).snd = x_2.fst.snd ∧ True) ∧
 ((x.snd.getD x_1 Pl.dQ).fst = x_2.snd.fst ∧ (x.snd.getD x_1 Pl.dQ).snd = x_2.snd.snd ∧ True) ∧ True) ∧
 True ∧
 condP (Pl.cmpRat x_2.fst x_2.snd != (0 : Int)) (Pl.cmpRat x_2.fst x_2.snd = Pl.cmpArgs x.fst x.snd)
 (Exists fun (x' : Nat) =>
 (x' ≤ x.fst.length ∧ x' ≤ x.snd.length ∧ Pl.cmpArgs x.fst x.snd = Pl.cmpArgs (List.drop x' x.fst) (List.drop x' x.snd)) ∧
 x.fst.length - x' < x.fst.length - x_1 ∧
 (Is (rats x.fst) (rats x.fst) ∧
 Is (rats x.snd) (rats x.snd) ∧
 True ∧
 Is (rats x.fst) (rats x.fst) ∧ (↑x.fst.length : Int) = (↑x.fst.length : Int) ∧ IntKind.i64.wrap ((↑x_1 : Int) + (1 : Int)) = (↑x' : Int) ∧ True) ∧
 True)))
 (condP (Decidable.decide ((↑x.fst.length : Int) < (↑x.snd.length : Int))) ((-1 : Int) = Pl.cmpArgs x.fst x.snd) ((0 : Int) = Pl.cmpArgs x.fst x.snd))) = Goal Tryz.prog [K_compareRats] (A_CompareFunc x.1 x.2) K_CompareFunc.1 K_CompareFunc.2 (x) := by kernel_rfl

theorem vc_compareRows (x : Pl.Rw × Pl.Rw) : (Exists fun (x_1 : ByteArray × ByteArray) =>
 (x.fst.fst = x_1.fst ∧ x.snd.fst = x_1.snd ∧ True) ∧
 True ∧
 Exists fun (x_2 : Int × Int) =>
 ((↑x.fst.snd.fst.length : Int) = x_2.fst ∧ (↑x.snd.snd.fst.length : Int) = x_2.snd ∧ True) ∧
 True ∧
 Exists fun (x_3 : List Pl.Rt × List Pl.Rt) =>
 (Is (rats x.fst.snd.fst) (rats x_3.fst) ∧ Is (rats x.snd.snd.fst) (rats x_3.snd) ∧ True ∧ True) ∧
 (Sz x_3.fst ∧ Sz x_3.snd) ∧
 Exists fun (x_4 : List Int) =>
 (Is (AV.lit (3 : Nat) (1 : Nat) (rowsCell [[i64 (Pl.cmpS x_1.fst x_1.snd)], [i64 (Pl.cmpI x_2.fst x_2.snd)], [i64 (Pl.cmpArgs x_3.fst x_3.snd)]])) (ints x_4) ∧
 True) ∧
 Sz x_4 ∧ Pl.orI x_4 = Pl.cmpRows x.fst x.snd) = Goal Tryz.prog [K_CompareS, K_CompareI, K_CompareFunc, K_Or] ([]) K_compareRows.1 K_compareRows.2 (x) := by kernel_rfl

theorem vc_iModel (x : Pl.Mdl) : (condP (Decidable.decide ((↑(List.length x) : Int) > (40 : Int))) (Bool.false = Pl.mRight x)
 ((Exists fun (x_1 : Nat) =>
 (x_1 ≤ List.length x ∧ Pl.mL Option.none x = Pl.mL (Pl.prevR x x_1) (List.drop x_1 x) ∧ (x_1 ≠ (0 : Nat) → Pl.rowOk (List.getD x (x_1 - (1 : Nat)) Pl.dR) = Bool.true)) ∧
 ((0 : Nat) = (0 : Nat) ∧ Is (mrows x) (mrows x) ∧ (↑(List.length x) : Int) = (↑(List.length x) : Int) ∧ (0 : Int) = (↑x_1 : Int) ∧ True) ∧
 (Is (mrows x) (mrows x) ∧ True) ∧ True) ∧
 ∀ (x_1 : Nat),
 x_1 ≤ List.length x ∧ Pl.mL Option.none x = Pl.mL (Pl.prevR x x_1) (List.drop x_1 x) ∧ (x_1 ≠ (0 : Nat) → Pl.rowOk (List.getD x (x_1 - (1 : Nat)) Pl.dR) = Bool.true) →
 condP (Decidable.decide ((↑x_1 : Int) < (↑(List.length x) : Int)))
 (((0 : Int) ≤ (↑x_1 : Int) ∧ (↑x_1 : Int) < (↑(List.length x) : Int)) ∧
 x_1 < List.length x ∧
 Exists fun (x_2 : Pl.Rw) =>
 (((List.getD x x_1 Pl.dR).fst = x_2.fst ∧
 Is (rats (List.getD x x_1 Pl.dR).snd.fst) (rats x_2.snd.fst) ∧
 (List.getD x x_1 Pl.dR).snd.snd.fst = x_2.snd.snd.fst ∧ (List.getD x x_1 Pl.dR).snd.snd.snd = x_2.snd.snd.snd ∧ True) ∧
 True) ∧
 (x_2.fst.size ≤ (1048576 : Nat) ∧ x_2.snd.fst.length ≤ (1048576 : Nat)) ∧
 condP (!Pl.rowOk x_2) (Bool.false = Pl.mRight x)
 (condP (Decidable.decide ((↑x_1 : Int) > (0 : Int)))
 (((0 : Int) ≤ IntKind.i64.wrap ((↑x_1 : Int) - (1 : Int)) ∧ IntKind.i64.wrap ((↑x_1 : Int) - (1 : Int)) < (↑(List.length x) : Int)) ∧
 (IntKind.i64.wrap ((↑x_1 : Int) - (1 : Int))).toNat < List.length x ∧
 Exists fun (x_3 : Pl.Rw × Pl.Rw) =>
 (((List.getD x (IntKind.i64.wrap ((↑x_1 : Int) - (1 : Int))).toNat Pl.dR).fst = x_3.fst.fst ∧
 Is (rats (List.getD x (IntKind.i64.wrap ((↑x_1 : Int) - (1 : Int))).toNat Pl.dR).snd.fst) (rats x_3.fst.snd.fst) ∧
 (List.getD x (IntKind.i64.wrap ((↑x_1 : Int) - (1 : Int))).toNat Pl.dR).snd.snd.fst = x_3.fst.snd.snd.fst ∧
 (List.getD x (IntKind.i64.wrap ((↑x_1 : Int) - (1 : Int))).toNat Pl.dR).snd.snd.snd = x_3.fst.snd.snd.snd ∧ True) ∧
 ((List.getD x x_1 Pl.dR).fst = x_3.snd.fst ∧
 Is (rats (List.getD x x_1 Pl.dR).snd.fst) (rats x_3.snd.snd.fst) ∧
 (List.getD x x_1 Pl.dR).snd.snd.fst = x_3.snd.snd.snd.fst ∧ (List.getD x x_1 Pl.dR).snd.snd.snd = x_3.snd.snd.snd.snd ∧ True) ∧
 True) ∧
 (Sz x_3.fst.snd.fst ∧ Sz x_3.snd.snd.fst) ∧
 condP (Decidable.decide (Pl.cmpRows x_3.fst x_3.snd ≥ (0 : Int))) (Bool.false = Pl.mRight x)
 (Exists fun (x' : Nat) =>
 (x' ≤ List.length x ∧
 Pl.mL Option.none x = Pl.mL (Pl.prevR x x') (List.drop x' x) ∧ (x' ≠ (0 : Nat) → Pl.rowOk (List.getD x (x' - (1 : Nat)) Pl.dR) = Bool.true)) ∧
 List.length x - x' < List.length x - x_1 ∧
 ((0 : Nat) = (0 : Nat) ∧
 Is (mrows x) (mrows x) ∧
 (↑(List.length x) : Int) = (↑(List.length x) : Int) ∧ IntKind.i64.wrap ((↑x_1 : Int) + (1 : Int)) = (↑x' : Int) ∧ True) ∧
 (Is (mrows x) (mrows x) ∧ True) ∧ True))
 (Exists fun (x' : Nat) =>
 (x' ≤ List.length x ∧ Pl.mL Option.none x = Pl.mL (Pl.prevR x x') (List.drop x' x) ∧ (x' ≠ (0 : Nat) → Pl.rowOk (List.getD x (x' - (1 : Nat)) Pl.dR) = Bool.true)) ∧
 List.length x - x' < List.length x - x_1 ∧
 ((0 : Nat) = (0 : Nat) ∧
 Is (mrows x) (mrows x) ∧ (↑(List.length x) : Int) = (↑(List.length x) : Int) ∧ IntKind.i64.wrap ((↑x_1 : Int) + (1 : Int)) = (↑x' : Int) ∧ True) ∧
 (Is (mrows x) (mrows x) ∧ True) ∧ True)))
 (Bool.true = Pl.mRight x))) = Goal Tryz.prog [K_rowOk, K_compareRows] (A_iModel x) K_iModel.1 K_iModel.2 (x) := by kernel_rfl

theorem vc_suits (x : Pl.Rt × Int) : (condP (x.snd == (1 : Int)) (Bool.true = Pl.suit x.fst x.snd) ((x.fst.snd == (1 : Int)) = Pl.suit x.fst x.snd)) = Goal Tryz.prog [] ([]) K_suits.1 K_suits.2 (x) := by kernel_rfl

theorem vc_iModelOk (x : Pl.Sig × Pl.Mdl) : (Exists fun (x_1 : Pl.Sig) =>
 ((Is (syms x.fst) (syms x_1) ∧ True) ∧ True) ∧
 SmG x_1 ∧
 condP (!Pl.sigOk x_1) (Bool.false = Pl.modelOk x.fst x.snd)
 (Exists fun (x_2 : Pl.Mdl) =>
 ((Is (mrows x.snd) (mrows x_2) ∧ True) ∧ True) ∧
 SmM x_2 ∧
 condP (!Pl.mRight x_2) (Bool.false = Pl.modelOk x.fst x.snd)
 ((Exists fun (x_3 : Nat) =>
 (x_3 ≤ List.length x.snd ∧ Pl.modelOk x.fst x.snd = (List.drop x_3 x.snd).all (Pl.rowFits x.fst) ∧ Pl.mL Option.none x.snd = Bool.true) ∧
 ((0 : Nat) = (0 : Nat) ∧
 (0 : Nat) = (0 : Nat) ∧ Is (mrows x.snd) (mrows x.snd) ∧ (↑(List.length x.snd) : Int) = (↑(List.length x.snd) : Int) ∧ (0 : Int) = (↑x_3 : Int) ∧ True) ∧
 (Is (syms x.fst) (syms x.fst) ∧ True) ∧ (Is (mrows x.snd) (mrows x.snd) ∧ True) ∧ True) ∧
 ∀ (x_3 : Nat),
 x_3 ≤ List.length x.snd ∧ Pl.modelOk x.fst x.snd = (List.drop x_3 x.snd).all (Pl.rowFits x.fst) ∧ Pl.mL Option.none x.snd = Bool.true →
 condP (Decidable.decide ((↑x_3 : Int) < (↑(List.length x.snd) : Int)))
 (((0 : Int) ≤ (↑x_3 : Int) ∧ (↑x_3 : Int) < (↑(List.length x.snd) : Int)) ∧
 x_3 < List.length x.snd ∧
 Exists fun (x_4 : Pl.Sig × ByteArray) =>
 ((Is (syms x.fst) (syms x_4.fst) ∧ True) ∧ (List.getD x.snd x_3 Pl.dR).fst = x_4.snd ∧ True) ∧
 SmG x_4.fst ∧
 condP (!(Pl.find x_4.fst x_4.snd).isSome) (Bool.false = Pl.modelOk x.fst x.snd)
 (condP ((↑(Pl.symOf x_4.fst x_4.snd).snd.fst.length : Int) != (↑(List.getD x.snd x_3 Pl.dR).snd.fst.length : Int)) (Bool.false = Pl.modelOk x.fst x.snd)
 (Exists fun (x_5 : Pl.Rt × Int) =>
 (((List.getD x.snd x_3 Pl.dR).snd.snd.fst = x_5.fst.fst ∧ (List.getD x.snd x_3 Pl.dR).snd.snd.snd = x_5.fst.snd ∧ True) ∧
 (Pl.symOf x_4.fst x_4.snd).snd.snd = x_5.snd ∧ True) ∧
 True ∧
 condP (!Pl.suit x_5.fst x_5.snd) (Bool.false = Pl.modelOk x.fst x.snd)
 ((Exists fun (x_6 : Nat) =>
 (x_3 < List.length x.snd ∧
 x_6 ≤ (List.getD x.snd x_3 Pl.dR).snd.fst.length ∧
 (Pl.symOf x.fst (List.getD x.snd x_3 Pl.dR).fst).snd.fst.length = (List.getD x.snd x_3 Pl.dR).snd.fst.length ∧
 Pl.rowFits x.fst (List.getD x.snd x_3 Pl.dR) =
 Pl.fitL (List.drop x_6 (List.getD x.snd x_3 Pl.dR).snd.fst) (List.drop x_6 (Pl.symOf x.fst (List.getD x.snd x_3 Pl.dR).fst).snd.fst)) ∧
 ((0 : Nat) = (0 : Nat) ∧
 (0 : Nat) = (0 : Nat) ∧
 (0 : Nat) = (0 : Nat) ∧
 Is (mrows x.snd) (mrows x.snd) ∧
 (↑(List.length x.snd) : Int) = (↑(List.length x.snd) : Int) ∧
 (↑x_3 : Int) = (↑x_3 : Int) ∧
 Is (rats (List.getD x.snd x_3 Pl.dR).snd.fst) (rats (List.getD x.snd x_3 Pl.dR).snd.fst) ∧
 (↑(List.getD x.snd x_3 Pl.dR).snd.fst.length : Int) = (↑(List.getD x.snd x_3 Pl.dR).snd.fst.length : Int) ∧
 (0 : Int) = (↑x_6 : Int) ∧ True) ∧
 (Is (syms x.fst) (syms x.fst) ∧ True) ∧
 (Is (mrows x.snd) (mrows x.snd) ∧ True) ∧
 ((Pl.symOf x_4.fst x_4.snd).fst = (Pl.symOf x.fst (List.getD x.snd x_3 Pl.dR).fst).fst ∧
 Is (ints (Pl.symOf x_4.fst x_4.snd).snd.fst) (ints (Pl.symOf x.fst (List.getD x.snd x_3 Pl.dR).fst).snd.fst) ∧
 (Pl.symOf x_4.fst x_4.snd).snd.snd = (Pl.symOf x.fst (List.getD x.snd x_3 Pl.dR).fst).snd.snd ∧ True) ∧
 True) ∧
 ∀ (x_6 : Nat),
 x_3 < List.length x.snd ∧
 x_6 ≤ (List.getD x.snd x_3 Pl.dR).snd.fst.length ∧
 (Pl.symOf x.fst (List.getD x.snd x_3 Pl.dR).fst).snd.fst.length = (List.getD x.snd x_3 Pl.dR).snd.fst.length ∧
 Pl.rowFits x.fst (List.getD x.snd x_3 Pl.dR) =
 Pl.fitL (List.drop x_6 (List.getD x.snd x_3 Pl.dR).snd.fst) (List.drop x_6 (Pl.symOf x.fst (List.getD x.snd x_3 Pl.dR).fst).snd.fst) →
 condP (Decidable.decide ((↑x_6 : Int) < (↑(List.getD x.snd x_3 Pl.dR).snd.fst.length : Int)))
 (((0 : Int) ≤ (↑x_6 : Int) ∧ (↑x_6 : Int) < (↑(List.getD x.snd x_3 Pl.dR).snd.fst.length : Int)) ∧
 x_6 < (List.getD x.snd x_3 Pl.dR).snd.fst.length ∧
 ((0 : Int) ≤ (↑x_6 : Int) ∧ (↑x_6 : Int) < (↑(Pl.symOf x.fst (List.getD x.snd x_3 Pl.dR).fst).snd.fst.length : Int)) ∧
 x_6 < (Pl.symOf x.fst (List.getD x.snd x_3 Pl.dR).fst).snd.fst.length ∧
 Exists fun (x_7 : Pl.Rt × Int) =>
 ((((List.getD x.snd x_3 Pl.dR).snd.fst.getD x_6 Pl.dQ).fst = x_7.fst.fst ∧
 ((List.getD x.snd x_3 Pl.dR).snd.fst.getD x_6 Pl.dQ).snd = x_7.fst.snd ∧ True) ∧
 (Pl.symOf x.fst (List.getD x.snd x_3 Pl.dR).fst).snd.fst.getD x_6 (0 : Int) = x_7.snd ∧ True) ∧
 True ∧
 condP (!Pl.suit x_7.fst x_7.snd) (Bool.false = Pl.modelOk x.fst x.snd)
 (Exists fun (x' : Nat) =>
 (x_3 < List.length x.snd ∧
 x' ≤ (List.getD x.snd x_3 Pl.dR).snd.fst.length ∧
 (Pl.symOf x.fst (List.getD x.snd x_3 Pl.dR).fst).snd.fst.length = (List.getD x.snd x_3 Pl.dR).snd.fst.length ∧
 Pl.rowFits x.fst (List.getD x.snd x_3 Pl.dR) =
 Pl.fitL (List.drop x' (List.getD x.snd x_3 Pl.dR).snd.fst)
 (List.drop x' (Pl.symOf x.fst (List.getD x.snd x_3 Pl.dR).fst).snd.fst)) ∧
 (List.getD x.snd x_3 Pl.dR).snd.fst.length - x' < (List.getD x.snd x_3 Pl.dR).snd.fst.length - x_6 ∧
 ((0 : Nat) = (0 : Nat) ∧
 (0 : Nat) = (0 : Nat) ∧
 (0 : Nat) = (0 : Nat) ∧
 Is (mrows x.snd) (mrows x.snd) ∧
 (↑(List.length x.snd) : Int) = (↑(List.length x.snd) : Int) ∧
 (↑x_3 : Int) = (↑x_3 : Int) ∧
 Is (rats (List.getD x.snd x_3 Pl.dR).snd.fst) (rats (List.getD x.snd x_3 Pl.dR).snd.fst) ∧
 (↑(List.getD x.snd x_3 Pl.dR).snd.fst.length : Int) = (↑(List.getD x.snd x_3 Pl.dR).snd.fst.length : Int) ∧
 IntKind.i64.wrap ((↑x_6 : Int) + (1 : Int)) = (↑x' : Int) ∧ True) ∧
 (Is (syms x.fst) (syms x.fst) ∧ True) ∧
 (Is (mrows x.snd) (mrows x.snd) ∧ True) ∧
 ((Pl.symOf x.fst (List.getD x.snd x_3 Pl.dR).fst).fst = (Pl.symOf x.fst (List.getD x.snd x_3 Pl.dR).fst).fst ∧
 Is (ints (Pl.symOf x.fst (List.getD x.snd x_3 Pl.dR).fst).snd.fst)
 (ints (Pl.symOf x.fst (List.getD x.snd x_3 Pl.dR).fst).snd.fst) ∧
 (Pl.symOf x.fst (List.getD x.snd x_3 Pl.dR).fst).snd.snd =
 (Pl.symOf x.fst (List.getD x.snd x_3 Pl.dR).fst).snd.snd ∧
 True) ∧
 True))
 (Exists fun (x' : Nat) =>
 (x' ≤ List.length x.snd ∧ Pl.modelOk x.fst x.snd = (List.drop x' x.snd).all (Pl.rowFits x.fst) ∧ Pl.mL Option.none x.snd = Bool.true) ∧
 List.length x.snd - x' < List.length x.snd - x_3 ∧
 ((0 : Nat) = (0 : Nat) ∧
 (0 : Nat) = (0 : Nat) ∧
 Is (mrows x.snd) (mrows x.snd) ∧
 (↑(List.length x.snd) : Int) = (↑(List.length x.snd) : Int) ∧ IntKind.i64.wrap ((↑x_3 : Int) + (1 : Int)) = (↑x' : Int) ∧ True) ∧
 (Is (syms x.fst) (syms x.fst) ∧ True) ∧ (Is (mrows x.snd) (mrows x.snd) ∧ True) ∧ True)))))
 (Bool.true = Pl.modelOk x.fst x.snd)))) = Goal Tryz.prog [K_iSigOk, K_iModel, K_symbol, K_suits] (A_iModelOk x.1 x.2) K_iModelOk.1 K_iModelOk.2 (x) := by kernel_rfl

end Cg

/-
  What is left to show of each function's code, printed by a program: Model. No condition.
-/
set_option maxRecDepth 100000
set_option linter.unusedVariables false
namespace Cg
open Go Go.Proofs
theorem vc_l7Rats (x : List Pl.Rt × List Pl.Rt) : (condP ((↑x.fst.length : Int) != (↑x.snd.length : Int)) (Bool.false = Decidable.decide (x.fst = x.snd))
 ((Exists fun (x_1 : Nat) =>
 (x_1 ≤ x.fst.length ∧ x.fst.length = x.snd.length ∧ (x.fst = x.snd ↔ List.drop x_1 x.fst = List.drop x_1 x.snd)) ∧
 (Is (rats x.fst) (rats x.fst) ∧ Is (rats x.snd) (rats x.snd) ∧ (0 : Int) = (↑x_1 : Int) ∧ True) ∧ True) ∧
 ∀ (x_1 : Nat),
 x_1 ≤ x.fst.length ∧ x.fst.length = x.snd.length ∧ (x.fst = x.snd ↔ List.drop x_1 x.fst = List.drop x_1 x.snd) →
 condP (Decidable.decide ((↑x_1 : Int) < (↑x.fst.length : Int)))
 (((0 : Int) ≤ (↑x_1 : Int) ∧ (↑x_1 : Int) < (↑x.fst.length : Int)) ∧
 x_1 < x.fst.length ∧
 ((0 : Int) ≤ (↑x_1 : Int) ∧ (↑x_1 : Int) < (↑x.snd.length : Int)) ∧
 x_1 < x.snd.length ∧
 condP (!((x.fst.getD x_1 Pl.dQ).fst == (x.snd.getD x_1 Pl.dQ).fst && (x.fst.getD x_1 Pl.dQ).snd == (x.snd.getD x_1 Pl.dQ).snd)) (Bool.false = Decidable.decide (x.fst = x.snd))
 (Exists fun (x' : Nat) =>
 (x' ≤ x.fst.length ∧ x.fst.length = x.snd.length ∧ (x.fst = x.snd ↔ List.drop x' x.fst = List.drop x' x.snd)) ∧
 x.fst.length - x' < x.fst.length - x_1 ∧
 (Is (rats x.fst) (rats x.fst) ∧ Is (rats x.snd) (rats x.snd) ∧ IntKind.i64.wrap ((↑x_1 : Int) + (1 : Int)) = (↑x' : Int) ∧ True) ∧ True))
 (Bool.true = Decidable.decide (x.fst = x.snd)))) = Goal Tryz.prog [] (A_l7Rats x.1 x.2) K_l7Rats.1 K_l7Rats.2 (x) := by kernel_rfl

end Cg

/-
  What is left to show of each function's code, printed by a program: Tsort. No condition.
-/
set_option maxRecDepth 100000
set_option linter.unusedVariables false
namespace Cg
open Go Go.Proofs
theorem vc_l4Shape0 (x : Pl.TP) : (Bool.false = Pl.shape (0 : Nat) (Pl.Tree.mk x.fst x.snd)) = Goal Tryz.prog [K_sNameOk] ([]) (K_l4Shape 0).1 (K_l4Shape 0).2 (x) := by kernel_rfl

theorem vc_l4Shape (n : Nat) (x : Pl.TP) : (Exists fun (x_1 : ByteArray) =>
 (x.fst = x_1 ∧ True) ∧
 x_1.size ≤ (1048576 : Nat) ∧
 condP (!Pl.nameOk x_1) (Bool.false = Pl.shape (n + (1 : Nat)) (Pl.Tree.mk x.fst x.snd))
 (condP (Decidable.decide ((↑x.snd.length : Int) > (2 : Int))) (Bool.false = Pl.shape (n + (1 : Nat)) (Pl.Tree.mk x.fst x.snd))
 ((Exists fun (x_2 : Nat) =>
 (x_2 ≤ x.snd.length ∧ Pl.shape (n + (1 : Nat)) (Pl.Tree.mk x.fst x.snd) = (List.drop x_2 x.snd).all (Pl.shape n)) ∧
 ((↑(n + (1 : Nat)) : Int) = (↑(n + (1 : Nat)) : Int) ∧ (0 : Nat) = (0 : Nat) ∧ (0 : Int) = (↑x_2 : Int) ∧ True) ∧
 (x.fst = x.fst ∧ Is (terms x.snd) (terms x.snd) ∧ True) ∧ True) ∧
 ∀ (x_2 : Nat),
 x_2 ≤ x.snd.length ∧ Pl.shape (n + (1 : Nat)) (Pl.Tree.mk x.fst x.snd) = (List.drop x_2 x.snd).all (Pl.shape n) →
 condP (Decidable.decide ((↑x_2 : Int) < (↑x.snd.length : Int)))
 (((0 : Int) ≤ (↑x_2 : Int) ∧ (↑x_2 : Int) < (↑x.snd.length : Int)) ∧
 x_2 < x.snd.length ∧
 Exists fun (x_3 : Pl.TP) =>
 ((Pl.Tree.val (x.snd.getD x_2 Pl.dT) = x_3.fst ∧ Is (kidsT (x.snd.getD x_2 Pl.dT)) (terms x_3.snd) ∧ True) ∧
 IntKind.i64.wrap ((↑(n + (1 : Nat)) : Int) - (1 : Int)) = (↑n : Int) ∧ True) ∧
 (SmT (Pl.Tree.mk x_3.fst x_3.snd) ∧ n ≤ (10 : Nat)) ∧
 condP (!Pl.shape n (Pl.Tree.mk x_3.fst x_3.snd)) (Bool.false = Pl.shape (n + (1 : Nat)) (Pl.Tree.mk x.fst x.snd))
 (Exists fun (x' : Nat) =>
 (x' ≤ x.snd.length ∧ Pl.shape (n + (1 : Nat)) (Pl.Tree.mk x.fst x.snd) = (List.drop x' x.snd).all (Pl.shape n)) ∧
 x.snd.length - x' < x.snd.length - x_2 ∧
 ((↑(n + (1 : Nat)) : Int) = (↑(n + (1 : Nat)) : Int) ∧ (0 : Nat) = (0 : Nat) ∧ IntKind.i64.wrap ((↑x_2 : Int) + (1 : Int)) = (↑x' : Int) ∧ True) ∧
 (x.fst = x.fst ∧ Is (terms x.snd) (terms x.snd) ∧ True) ∧ True))
 (Bool.true = Pl.shape (n + (1 : Nat)) (Pl.Tree.mk x.fst x.snd))))) = Goal Tryz.prog [K_sNameOk, (K_l4Shape n)] (A_l4Shape n x.1 x.2) (K_l4Shape (n + 1)).1 (K_l4Shape (n + 1)).2 (x) := by kernel_rfl

theorem vc_l4Many0 (x : Pl.TP) : ((Exists fun (x_1 : Unit) =>
 True ∧ ((↑(0 : Nat) : Int) = (0 : Int) ∧ (0 : Nat) = (0 : Nat) ∧ (1 : Int) = (1 : Int) ∧ (0 : Int) = (0 : Int) ∧ True) ∧ (x.fst = x.fst ∧ Is (terms x.snd) (terms x.snd) ∧ True) ∧ True) ∧
 ∀ (x_1 : Unit),
 True →
 condP (Decidable.decide ((0 : Int) < (↑x.snd.length : Int))) ((1 : Int) = (↑(Pl.manyD (0 : Nat) (Pl.Tree.mk x.fst x.snd)) : Int))
 ((1 : Int) = (↑(Pl.manyD (0 : Nat) (Pl.Tree.mk x.fst x.snd)) : Int))) = Goal Tryz.prog [] (A_l4Many0 x.1 x.2) (K_l4Many 0).1 (K_l4Many 0).2 (x) := by kernel_rfl

theorem vc_l4Many (n : Nat) (x : Pl.TP) : ((Exists fun (x_1 : Nat) =>
 x_1 ≤ x.snd.length ∧
 ((↑(n + (1 : Nat)) : Int) = (↑(n + (1 : Nat)) : Int) ∧ (0 : Nat) = (0 : Nat) ∧ (1 : Int) = (↑((1 : Nat) + Pl.sumN (Pl.manyD n) (List.take x_1 x.snd)) : Int) ∧ (0 : Int) = (↑x_1 : Int) ∧ True) ∧
 (x.fst = x.fst ∧ Is (terms x.snd) (terms x.snd) ∧ True) ∧ True) ∧
 ∀ (x_1 : Nat),
 x_1 ≤ x.snd.length →
 condP (Decidable.decide ((↑x_1 : Int) < (↑x.snd.length : Int)))
 (condP (Decidable.decide ((↑(n + (1 : Nat)) : Int) > (0 : Int)))
 (((0 : Int) ≤ (↑x_1 : Int) ∧ (↑x_1 : Int) < (↑x.snd.length : Int)) ∧
 x_1 < x.snd.length ∧
 Exists fun (x_2 : Pl.TP) =>
 ((Pl.Tree.val (x.snd.getD x_1 Pl.dT) = x_2.fst ∧ Is (kidsT (x.snd.getD x_1 Pl.dT)) (terms x_2.snd) ∧ True) ∧
 IntKind.i64.wrap ((↑(n + (1 : Nat)) : Int) - (1 : Int)) = (↑n : Int) ∧ True) ∧
 (SmT (Pl.Tree.mk x_2.fst x_2.snd) ∧ n ≤ (10 : Nat)) ∧
 Exists fun (x' : Nat) =>
 x' ≤ x.snd.length ∧
 x.snd.length - x' < x.snd.length - x_1 ∧
 ((↑(n + (1 : Nat)) : Int) = (↑(n + (1 : Nat)) : Int) ∧
 (0 : Nat) = (0 : Nat) ∧
 IntKind.i64.wrap ((↑((1 : Nat) + Pl.sumN (Pl.manyD n) (List.take x_1 x.snd)) : Int) + (↑(Pl.manyD n (Pl.Tree.mk x_2.fst x_2.snd)) : Int)) =
 (↑((1 : Nat) + Pl.sumN (Pl.manyD n) (List.take x' x.snd)) : Int) ∧
 IntKind.i64.wrap ((↑x_1 : Int) + (1 : Int)) = (↑x' : Int) ∧ True) ∧
 (x.fst = x.fst ∧ Is (terms x.snd) (terms x.snd) ∧ True) ∧ True)
 ((↑((1 : Nat) + Pl.sumN (Pl.manyD n) (List.take x_1 x.snd)) : Int) = (↑(Pl.manyD (n + (1 : Nat)) (Pl.Tree.mk x.fst x.snd)) : Int)))
 ((↑((1 : Nat) + Pl.sumN (Pl.manyD n) (List.take x_1 x.snd)) : Int) = (↑(Pl.manyD (n + (1 : Nat)) (Pl.Tree.mk x.fst x.snd)) : Int))) = Goal Tryz.prog [(K_l4Many n)] (A_l4Many n x.1 x.2) (K_l4Many (n + 1)).1 (K_l4Many (n + 1)).2 (x) := by kernel_rfl

theorem vc_l4Right (a : ByteArray) (b : List Pl.Tm) : (Exists fun (x : Pl.TP) =>
 ((a = x.fst ∧ Is (terms b) (terms x.snd) ∧ True) ∧ (4 : Int) = (↑(4 : Nat) : Int) ∧ True) ∧
 (SmT (Pl.Tree.mk x.fst x.snd) ∧ (4 : Nat) ≤ (10 : Nat)) ∧
 condP (Pl.shape (4 : Nat) (Pl.Tree.mk x.fst x.snd))
 (Exists fun (x : Pl.TP) =>
 ((a = x.fst ∧ Is (terms b) (terms x.snd) ∧ True) ∧ (4 : Int) = (↑(4 : Nat) : Int) ∧ True) ∧
 (SmT (Pl.Tree.mk x.fst x.snd) ∧ (4 : Nat) ≤ (10 : Nat)) ∧ Decidable.decide ((↑(Pl.manyD (4 : Nat) (Pl.Tree.mk x.fst x.snd)) : Int) ≤ (12 : Int)) = Pl.right (Pl.Tree.mk a b))
 (Bool.false = Pl.right (Pl.Tree.mk a b))) = Goal Tryz.prog [(K_l4Shape 4), (K_l4Many 4)] ([]) K_l4Right.1 K_l4Right.2 ((a, b)) := by kernel_rfl

theorem vc_l4Find (s : Pl.Sig) (nm : ByteArray) : ((Exists fun (x : Nat) =>
 (x ≤ List.length s ∧ Pl.find s nm = Pl.find (List.drop x s) nm) ∧
 (nm = nm ∧ (0 : Nat) = (0 : Nat) ∧ (0 : Nat) = (0 : Nat) ∧ (0 : Int) = (↑x : Int) ∧ True) ∧
 (Is (syms s) (syms s) ∧ True) ∧
 ({ data := #[] } = ByteArray.empty ∧ Is (AV.lit (0 : Nat) (1 : Nat) fun (x x_1 : Nat) => AV.any) nilA ∧ (0 : Int) = (0 : Int) ∧ True) ∧ True) ∧
 ∀ (x : Nat),
 x ≤ List.length s ∧ Pl.find s nm = Pl.find (List.drop x s) nm →
 condP (Decidable.decide ((↑x : Int) < (↑(List.length s) : Int)))
 (((0 : Int) ≤ (↑x : Int) ∧ (↑x : Int) < (↑(List.length s) : Int)) ∧
 x < List.length s ∧
 condP ((List.getD s x Pl.dY).fst.toList == nm.toList)
 (((0 : Int) ≤ (↑x : Int) ∧ (↑x : Int) < (↑(List.length s) : Int)) ∧
 x < List.length s ∧
 ((List.getD s x Pl.dY).fst = (Pl.symOf s nm).fst ∧
 Is (ints (List.getD s x Pl.dY).snd.fst) (ints (Pl.symOf s nm).snd.fst) ∧ (List.getD s x Pl.dY).snd.snd = (Pl.symOf s nm).snd.snd ∧ True) ∧
 Bool.true = (Pl.find s nm).isSome ∧ True)
 (Exists fun (x' : Nat) =>
 (x' ≤ List.length s ∧ Pl.find s nm = Pl.find (List.drop x' s) nm) ∧
 List.length s - x' < List.length s - x ∧
 (nm = nm ∧ (0 : Nat) = (0 : Nat) ∧ (0 : Nat) = (0 : Nat) ∧ IntKind.i64.wrap ((↑x : Int) + (1 : Int)) = (↑x' : Int) ∧ True) ∧
 (Is (syms s) (syms s) ∧ True) ∧
 (ByteArray.empty = ByteArray.empty ∧ Is (AV.lit (0 : Nat) (1 : Nat) fun (x x_1 : Nat) => AV.any) nilA ∧ (0 : Int) = (0 : Int) ∧ True) ∧ True))
 (({ data := #[] } = (Pl.symOf s nm).fst ∧ Is (AV.lit (0 : Nat) (1 : Nat) fun (x x_1 : Nat) => AV.any) (ints (Pl.symOf s nm).snd.fst) ∧ (0 : Int) = (Pl.symOf s nm).snd.snd ∧ True) ∧
 Bool.false = (Pl.find s nm).isSome ∧ True)) = Goal Tryz.prog [] (A_l4Find s nm) K_l4Find.1 K_l4Find.2 ((s, nm)) := by kernel_rfl

theorem vc_symbol (s : Pl.Sig) (nm : ByteArray) : ((Exists fun (x : Nat) =>
 (x ≤ List.length s ∧ Pl.find s nm = Pl.find (List.drop x s) nm) ∧
 (nm = nm ∧ (0 : Nat) = (0 : Nat) ∧ (0 : Nat) = (0 : Nat) ∧ Is (syms s) (syms s) ∧ (↑(List.length s) : Int) = (↑(List.length s) : Int) ∧ (0 : Int) = (↑x : Int) ∧ True) ∧
 (Is (syms s) (syms s) ∧ True) ∧
 ({ data := #[] } = ByteArray.empty ∧ Is (AV.lit (0 : Nat) (1 : Nat) fun (x x_1 : Nat) => AV.any) nilA ∧ (0 : Int) = (0 : Int) ∧ True) ∧ True) ∧
 ∀ (x : Nat),
 x ≤ List.length s ∧ Pl.find s nm = Pl.find (List.drop x s) nm →
 condP (Decidable.decide ((↑x : Int) < (↑(List.length s) : Int)))
 (((0 : Int) ≤ (↑x : Int) ∧ (↑x : Int) < (↑(List.length s) : Int)) ∧
 x < List.length s ∧
 condP ((List.getD s x Pl.dY).fst.toList == nm.toList)
 (((List.getD s x Pl.dY).fst = (Pl.symOf s nm).fst ∧
 Is (ints (List.getD s x Pl.dY).snd.fst) (ints (Pl.symOf s nm).snd.fst) ∧ (List.getD s x Pl.dY).snd.snd = (Pl.symOf s nm).snd.snd ∧ True) ∧
 Bool.true = (Pl.find s nm).isSome ∧ True)
 (Exists fun (x' : Nat) =>
 (x' ≤ List.length s ∧ Pl.find s nm = Pl.find (List.drop x' s) nm) ∧
 List.length s - x' < List.length s - x ∧
 (nm = nm ∧
 (0 : Nat) = (0 : Nat) ∧
 (0 : Nat) = (0 : Nat) ∧
 Is (syms s) (syms s) ∧ (↑(List.length s) : Int) = (↑(List.length s) : Int) ∧ IntKind.i64.wrap ((↑x : Int) + (1 : Int)) = (↑x' : Int) ∧ True) ∧
 (Is (syms s) (syms s) ∧ True) ∧
 (ByteArray.empty = ByteArray.empty ∧ Is (AV.lit (0 : Nat) (1 : Nat) fun (x x_1 : Nat) => AV.any) nilA ∧ (0 : Int) = (0 : Int) ∧ True) ∧ True))
 (({ data := #[] } = (Pl.symOf s nm).fst ∧ Is (AV.lit (0 : Nat) (1 : Nat) fun (x x_1 : Nat) => AV.any) (ints (Pl.symOf s nm).snd.fst) ∧ (0 : Int) = (Pl.symOf s nm).snd.snd ∧ True) ∧
 Bool.false = (Pl.find s nm).isSome ∧ True)) = Goal Tryz.prog [] (A_symbol s nm) K_symbol.1 K_symbol.2 ((s, nm)) := by kernel_rfl

theorem vc_l4Of (n : Nat) (x : Pl.Sig × Pl.TP) : (Exists fun (x_1 : Pl.Sig × ByteArray) =>
 ((Is (syms x.fst) (syms x_1.fst) ∧ True) ∧ x.snd.fst = x_1.snd ∧ True) ∧
 SmG x_1.fst ∧
 condP (!(Pl.find x_1.fst x_1.snd).isSome) ((-1 : Int) = (Pl.sortT x.fst (Pl.Tree.mk x.snd.fst x.snd.snd)).getD (-1 : Int))
 (condP ((↑(Pl.symOf x_1.fst x_1.snd).snd.fst.length : Int) != (↑x.snd.snd.length : Int)) ((-1 : Int) = (Pl.sortT x.fst (Pl.Tree.mk x.snd.fst x.snd.snd)).getD (-1 : Int))
 ((Exists fun (x_2 : Nat) =>
 (x_2 ≤ x.snd.snd.length ∧
 (Pl.symOf x.fst x.snd.fst).snd.fst.length = x.snd.snd.length ∧
 (Pl.find x.fst x.snd.fst).isSome = Bool.true ∧
 Pl.sortL x.fst x.snd.snd (Pl.symOf x.fst x.snd.fst).snd.fst = Pl.sortL x.fst (List.drop x_2 x.snd.snd) (List.drop x_2 (Pl.symOf x.fst x.snd.fst).snd.fst)) ∧
 ((0 : Nat) = (0 : Nat) ∧ (0 : Nat) = (0 : Nat) ∧ (0 : Nat) = (0 : Nat) ∧ (0 : Int) = (↑x_2 : Int) ∧ True) ∧
 (Is (syms x.fst) (syms x.fst) ∧ True) ∧
 (x.snd.fst = x.snd.fst ∧ Is (terms x.snd.snd) (terms x.snd.snd) ∧ True) ∧
 ((Pl.symOf x_1.fst x_1.snd).fst = (Pl.symOf x.fst x.snd.fst).fst ∧
 Is (ints (Pl.symOf x_1.fst x_1.snd).snd.fst) (ints (Pl.symOf x.fst x.snd.fst).snd.fst) ∧
 (Pl.symOf x_1.fst x_1.snd).snd.snd = (Pl.symOf x.fst x.snd.fst).snd.snd ∧ True) ∧
 True) ∧
 ∀ (x_2 : Nat),
 x_2 ≤ x.snd.snd.length ∧
 (Pl.symOf x.fst x.snd.fst).snd.fst.length = x.snd.snd.length ∧
 (Pl.find x.fst x.snd.fst).isSome = Bool.true ∧
 Pl.sortL x.fst x.snd.snd (Pl.symOf x.fst x.snd.fst).snd.fst = Pl.sortL x.fst (List.drop x_2 x.snd.snd) (List.drop x_2 (Pl.symOf x.fst x.snd.fst).snd.fst) →
 condP (Decidable.decide ((↑x_2 : Int) < (↑x.snd.snd.length : Int)))
 (((0 : Int) ≤ (↑x_2 : Int) ∧ (↑x_2 : Int) < (↑x.snd.snd.length : Int)) ∧
 x_2 < x.snd.snd.length ∧
 Exists fun (x_3 : Pl.Sig × Pl.TP) =>
 ((Is (syms x.fst) (syms x_3.fst) ∧ True) ∧
 (Pl.Tree.val (x.snd.snd.getD x_2 Pl.dT) = x_3.snd.fst ∧ Is (kidsT (x.snd.snd.getD x_2 Pl.dT)) (terms x_3.snd.snd) ∧ True) ∧ True) ∧
 ((Pl.sigOk x_3.fst = Bool.true ∧ SmG x_3.fst ∧ SmT (Pl.Tree.mk x_3.snd.fst x_3.snd.snd)) ∧ Pl.manyL x_3.snd.snd < n) ∧
 ((0 : Int) ≤ (↑x_2 : Int) ∧ (↑x_2 : Int) < (↑(Pl.symOf x.fst x.snd.fst).snd.fst.length : Int)) ∧
 x_2 < (Pl.symOf x.fst x.snd.fst).snd.fst.length ∧
 condP ((Pl.sortT x_3.fst (Pl.Tree.mk x_3.snd.fst x_3.snd.snd)).getD (-1 : Int) != (Pl.symOf x.fst x.snd.fst).snd.fst.getD x_2 (0 : Int))
 ((-1 : Int) = (Pl.sortT x.fst (Pl.Tree.mk x.snd.fst x.snd.snd)).getD (-1 : Int))
 (Exists fun (x' : Nat) =>
 (x' ≤ x.snd.snd.length ∧
 (Pl.symOf x.fst x.snd.fst).snd.fst.length = x.snd.snd.length ∧
 (Pl.find x.fst x.snd.fst).isSome = Bool.true ∧
 Pl.sortL x.fst x.snd.snd (Pl.symOf x.fst x.snd.fst).snd.fst = Pl.sortL x.fst (List.drop x' x.snd.snd) (List.drop x' (Pl.symOf x.fst x.snd.fst).snd.fst)) ∧
 x.snd.snd.length - x' < x.snd.snd.length - x_2 ∧
 ((0 : Nat) = (0 : Nat) ∧ (0 : Nat) = (0 : Nat) ∧ (0 : Nat) = (0 : Nat) ∧ IntKind.i64.wrap ((↑x_2 : Int) + (1 : Int)) = (↑x' : Int) ∧ True) ∧
 (Is (syms x.fst) (syms x.fst) ∧ True) ∧
 (x.snd.fst = x.snd.fst ∧ Is (terms x.snd.snd) (terms x.snd.snd) ∧ True) ∧
 ((Pl.symOf x.fst x.snd.fst).fst = (Pl.symOf x.fst x.snd.fst).fst ∧
 Is (ints (Pl.symOf x.fst x.snd.fst).snd.fst) (ints (Pl.symOf x.fst x.snd.fst).snd.fst) ∧
 (Pl.symOf x.fst x.snd.fst).snd.snd = (Pl.symOf x.fst x.snd.fst).snd.snd ∧ True) ∧
 True))
 ((Pl.symOf x.fst x.snd.fst).snd.snd = (Pl.sortT x.fst (Pl.Tree.mk x.snd.fst x.snd.snd)).getD (-1 : Int))))) = Goal Tryz.prog [K_l4Find, (K_l4Of n)] (A_l4Of x.1 x.2.1 x.2.2) (K_l4Of (n + 1)).1 (K_l4Of (n + 1)).2 (x) := by kernel_rfl

theorem vc_sortOf (n : Nat) (x : Pl.Sig × Pl.TP) : (Exists fun (x_1 : Pl.Sig × ByteArray) =>
 ((Is (syms x.fst) (syms x_1.fst) ∧ True) ∧ x.snd.fst = x_1.snd ∧ True) ∧
 SmG x_1.fst ∧
 condP (!(Pl.find x_1.fst x_1.snd).isSome)
 ((0 : Int) = (Pl.sortT x.fst (Pl.Tree.mk x.snd.fst x.snd.snd)).getD (0 : Int) ∧ Bool.false = (Pl.sortT x.fst (Pl.Tree.mk x.snd.fst x.snd.snd)).isSome ∧ True)
 (condP ((↑(Pl.symOf x_1.fst x_1.snd).snd.fst.length : Int) != (↑x.snd.snd.length : Int))
 ((0 : Int) = (Pl.sortT x.fst (Pl.Tree.mk x.snd.fst x.snd.snd)).getD (0 : Int) ∧ Bool.false = (Pl.sortT x.fst (Pl.Tree.mk x.snd.fst x.snd.snd)).isSome ∧ True)
 ((Exists fun (x_2 : Nat) =>
 (x_2 ≤ x.snd.snd.length ∧
 (Pl.symOf x.fst x.snd.fst).snd.fst.length = x.snd.snd.length ∧
 (Pl.find x.fst x.snd.fst).isSome = Bool.true ∧
 Pl.sortL x.fst x.snd.snd (Pl.symOf x.fst x.snd.fst).snd.fst = Pl.sortL x.fst (List.drop x_2 x.snd.snd) (List.drop x_2 (Pl.symOf x.fst x.snd.fst).snd.fst)) ∧
 ((0 : Nat) = (0 : Nat) ∧
 (0 : Nat) = (0 : Nat) ∧
 (0 : Nat) = (0 : Nat) ∧ Is (terms x.snd.snd) (terms x.snd.snd) ∧ (↑x.snd.snd.length : Int) = (↑x.snd.snd.length : Int) ∧ (0 : Int) = (↑x_2 : Int) ∧ True) ∧
 (Is (syms x.fst) (syms x.fst) ∧ True) ∧
 (x.snd.fst = x.snd.fst ∧ Is (terms x.snd.snd) (terms x.snd.snd) ∧ True) ∧
 ((Pl.symOf x_1.fst x_1.snd).fst = (Pl.symOf x.fst x.snd.fst).fst ∧
 Is (ints (Pl.symOf x_1.fst x_1.snd).snd.fst) (ints (Pl.symOf x.fst x.snd.fst).snd.fst) ∧
 (Pl.symOf x_1.fst x_1.snd).snd.snd = (Pl.symOf x.fst x.snd.fst).snd.snd ∧ True) ∧
 True) ∧
 ∀ (x_2 : Nat),
 x_2 ≤ x.snd.snd.length ∧
 (Pl.symOf x.fst x.snd.fst).snd.fst.length = x.snd.snd.length ∧
 (Pl.find x.fst x.snd.fst).isSome = Bool.true ∧
 Pl.sortL x.fst x.snd.snd (Pl.symOf x.fst x.snd.fst).snd.fst = Pl.sortL x.fst (List.drop x_2 x.snd.snd) (List.drop x_2 (Pl.symOf x.fst x.snd.fst).snd.fst) →
 condP (Decidable.decide ((↑x_2 : Int) < (↑x.snd.snd.length : Int)))
 (((0 : Int) ≤ (↑x_2 : Int) ∧ (↑x_2 : Int) < (↑x.snd.snd.length : Int)) ∧
 x_2 < x.snd.snd.length ∧
 Exists fun (x_3 : Pl.Sig × Pl.TP) =>
 ((Is (syms x.fst) (syms x_3.fst) ∧ True) ∧
 (Pl.Tree.val (x.snd.snd.getD x_2 Pl.dT) = x_3.snd.fst ∧ Is (kidsT (x.snd.snd.getD x_2 Pl.dT)) (terms x_3.snd.snd) ∧ True) ∧ True) ∧
 ((Pl.sigOk x_3.fst = Bool.true ∧ SmG x_3.fst ∧ SmT (Pl.Tree.mk x_3.snd.fst x_3.snd.snd)) ∧ Pl.manyL x_3.snd.snd < n) ∧
 condP (!(Pl.sortT x_3.fst (Pl.Tree.mk x_3.snd.fst x_3.snd.snd)).isSome)
 ((0 : Int) = (Pl.sortT x.fst (Pl.Tree.mk x.snd.fst x.snd.snd)).getD (0 : Int) ∧ Bool.false = (Pl.sortT x.fst (Pl.Tree.mk x.snd.fst x.snd.snd)).isSome ∧ True)
 (((0 : Int) ≤ (↑x_2 : Int) ∧ (↑x_2 : Int) < (↑(Pl.symOf x.fst x.snd.fst).snd.fst.length : Int)) ∧
 x_2 < (Pl.symOf x.fst x.snd.fst).snd.fst.length ∧
 condP ((Pl.sortT x_3.fst (Pl.Tree.mk x_3.snd.fst x_3.snd.snd)).getD (0 : Int) != (Pl.symOf x.fst x.snd.fst).snd.fst.getD x_2 (0 : Int))
 ((0 : Int) = (Pl.sortT x.fst (Pl.Tree.mk x.snd.fst x.snd.snd)).getD (0 : Int) ∧ Bool.false = (Pl.sortT x.fst (Pl.Tree.mk x.snd.fst x.snd.snd)).isSome ∧ True)
 (Exists fun (x' : Nat) =>
 (x' ≤ x.snd.snd.length ∧
 (Pl.symOf x.fst x.snd.fst).snd.fst.length = x.snd.snd.length ∧
 (Pl.find x.fst x.snd.fst).isSome = Bool.true ∧
 Pl.sortL x.fst x.snd.snd (Pl.symOf x.fst x.snd.fst).snd.fst = Pl.sortL x.fst (List.drop x' x.snd.snd) (List.drop x' (Pl.symOf x.fst x.snd.fst).snd.fst)) ∧
 x.snd.snd.length - x' < x.snd.snd.length - x_2 ∧
 ((0 : Nat) = (0 : Nat) ∧
 (0 : Nat) = (0 : Nat) ∧
 (0 : Nat) = (0 : Nat) ∧
 Is (terms x.snd.snd) (terms x.snd.snd) ∧
 (↑x.snd.snd.length : Int) = (↑x.snd.snd.length : Int) ∧ IntKind.i64.wrap ((↑x_2 : Int) + (1 : Int)) = (↑x' : Int) ∧ True) ∧
 (Is (syms x.fst) (syms x.fst) ∧ True) ∧
 (x.snd.fst = x.snd.fst ∧ Is (terms x.snd.snd) (terms x.snd.snd) ∧ True) ∧
 ((Pl.symOf x.fst x.snd.fst).fst = (Pl.symOf x.fst x.snd.fst).fst ∧
 Is (ints (Pl.symOf x.fst x.snd.fst).snd.fst) (ints (Pl.symOf x.fst x.snd.fst).snd.fst) ∧
 (Pl.symOf x.fst x.snd.fst).snd.snd = (Pl.symOf x.fst x.snd.fst).snd.snd ∧ True) ∧
 True)))
 ((Pl.symOf x.fst x.snd.fst).snd.snd = (Pl.sortT x.fst (Pl.Tree.mk x.snd.fst x.snd.snd)).getD (0 : Int) ∧
 Bool.true = (Pl.sortT x.fst (Pl.Tree.mk x.snd.fst x.snd.snd)).isSome ∧ True)))) = Goal Tryz.prog [K_symbol, (K_sortOf n)] (A_sortOf x.1 x.2.1 x.2.2) (K_sortOf (n + 1)).1 (K_sortOf (n + 1)).2 (x) := by kernel_rfl

theorem vc_iTermSort (s : Pl.Sig) (a : ByteArray) (b : List Pl.Tm) : (Exists fun (x : Pl.Sig) =>
 ((Is (syms s) (syms x) ∧ True) ∧ True) ∧
 SmG x ∧
 condP (!Pl.sigOk x) ((0 : Int) = (Pl.termSort s (Pl.Tree.mk a b)).fst ∧ Bool.false = (Pl.termSort s (Pl.Tree.mk a b)).snd ∧ True)
 (Exists fun (x : Pl.TP) =>
 ((a = x.fst ∧ Is (terms b) (terms x.snd) ∧ True) ∧ True) ∧
 SmT (Pl.Tree.mk x.fst x.snd) ∧
 condP (!Pl.right (Pl.Tree.mk x.fst x.snd)) ((0 : Int) = (Pl.termSort s (Pl.Tree.mk a b)).fst ∧ Bool.false = (Pl.termSort s (Pl.Tree.mk a b)).snd ∧ True)
 (Exists fun (x : Pl.Sig × Pl.TP) =>
 ((Is (syms s) (syms x.fst) ∧ True) ∧ (a = x.snd.fst ∧ Is (terms b) (terms x.snd.snd) ∧ True) ∧ True) ∧
 (Pl.sigOk x.fst = Bool.true ∧ SmG x.fst ∧ SmT (Pl.Tree.mk x.snd.fst x.snd.snd)) ∧
 (Pl.sortT x.fst (Pl.Tree.mk x.snd.fst x.snd.snd)).getD (0 : Int) = (Pl.termSort s (Pl.Tree.mk a b)).fst ∧
 (Pl.sortT x.fst (Pl.Tree.mk x.snd.fst x.snd.snd)).isSome = (Pl.termSort s (Pl.Tree.mk a b)).snd ∧ True))) = Goal Tryz.prog [K_iSigOk, K_isTerm, K_sOf] ([]) K_iTermSort.1 K_iTermSort.2 ((s, (a, b))) := by kernel_rfl

theorem vc_termSize0 (x : Pl.TP) : (Exists fun (x_1 : ByteArray) =>
 (x.fst = x_1 ∧ True) ∧
 x_1.size ≤ (1048576 : Nat) ∧
 condP (!Pl.nameOk x_1) ((13 : Int) = (↑(Pl.tsz (0 : Nat) (Pl.Tree.mk x.fst x.snd)) : Int))
 (condP (Decidable.decide ((↑x.snd.length : Int) > (2 : Int))) ((13 : Int) = (↑(Pl.tsz (0 : Nat) (Pl.Tree.mk x.fst x.snd)) : Int))
 ((13 : Int) = (↑(Pl.tsz (0 : Nat) (Pl.Tree.mk x.fst x.snd)) : Int)))) = Goal Tryz.prog [K_iNameOk] ([]) (K_termSize 0).1 (K_termSize 0).2 (x) := by kernel_rfl

theorem vc_termSize (n : Nat) (x : Pl.TP) : (Exists fun (x_1 : ByteArray) =>
 (x.fst = x_1 ∧ True) ∧
 x_1.size ≤ (1048576 : Nat) ∧
 condP (!Pl.nameOk x_1) ((13 : Int) = (↑(Pl.tsz (n + (1 : Nat)) (Pl.Tree.mk x.fst x.snd)) : Int))
 (condP (Decidable.decide ((↑x.snd.length : Int) > (2 : Int))) ((13 : Int) = (↑(Pl.tsz (n + (1 : Nat)) (Pl.Tree.mk x.fst x.snd)) : Int))
 (condP (Decidable.decide ((5 : Int) - (↑(n + (1 : Nat)) : Int) > (4 : Int))) ((13 : Int) = (↑(Pl.tsz (n + (1 : Nat)) (Pl.Tree.mk x.fst x.snd)) : Int))
 ((Exists fun (x_2 : Nat) =>
 (x_2 ≤ x.snd.length ∧ x.snd.length ≤ (2 : Nat)) ∧
 ((5 : Int) - (↑(n + (1 : Nat)) : Int) = (5 : Int) - (↑(n + (1 : Nat)) : Int) ∧
 (0 : Nat) = (0 : Nat) ∧
 (1 : Int) = (↑((1 : Nat) + Pl.sumN (Pl.tsz n) (List.take x_2 x.snd)) : Int) ∧
 Is (terms x.snd) (terms x.snd) ∧ (↑x.snd.length : Int) = (↑x.snd.length : Int) ∧ (0 : Int) = (↑x_2 : Int) ∧ True) ∧
 (x.fst = x.fst ∧ Is (terms x.snd) (terms x.snd) ∧ True) ∧ True) ∧
 ∀ (x_2 : Nat),
 x_2 ≤ x.snd.length ∧ x.snd.length ≤ (2 : Nat) →
 condP (Decidable.decide ((↑x_2 : Int) < (↑x.snd.length : Int)))
 (((0 : Int) ≤ (↑x_2 : Int) ∧ (↑x_2 : Int) < (↑x.snd.length : Int)) ∧
 x_2 < x.snd.length ∧
 Exists fun (x_3 : Pl.TP) =>
 ((Pl.Tree.val (x.snd.getD x_2 Pl.dT) = x_3.fst ∧ Is (kidsT (x.snd.getD x_2 Pl.dT)) (terms x_3.snd) ∧ True) ∧
 IntKind.i64.wrap ((5 : Int) - (↑(n + (1 : Nat)) : Int) + (1 : Int)) = (5 : Int) - (↑n : Int) ∧ True) ∧
 (SmT (Pl.Tree.mk x_3.fst x_3.snd) ∧ n ≤ (4 : Nat)) ∧
 Exists fun (x' : Nat) =>
 (x' ≤ x.snd.length ∧ x.snd.length ≤ (2 : Nat)) ∧
 x.snd.length - x' < x.snd.length - x_2 ∧
 ((5 : Int) - (↑(n + (1 : Nat)) : Int) = (5 : Int) - (↑(n + (1 : Nat)) : Int) ∧
 (0 : Nat) = (0 : Nat) ∧
 IntKind.i64.wrap ((↑((1 : Nat) + Pl.sumN (Pl.tsz n) (List.take x_2 x.snd)) : Int) + (↑(Pl.tsz n (Pl.Tree.mk x_3.fst x_3.snd)) : Int)) =
 (↑((1 : Nat) + Pl.sumN (Pl.tsz n) (List.take x' x.snd)) : Int) ∧
 Is (terms x.snd) (terms x.snd) ∧
 (↑x.snd.length : Int) = (↑x.snd.length : Int) ∧ IntKind.i64.wrap ((↑x_2 : Int) + (1 : Int)) = (↑x' : Int) ∧ True) ∧
 (x.fst = x.fst ∧ Is (terms x.snd) (terms x.snd) ∧ True) ∧ True)
 ((↑((1 : Nat) + Pl.sumN (Pl.tsz n) (List.take x_2 x.snd)) : Int) = (↑(Pl.tsz (n + (1 : Nat)) (Pl.Tree.mk x.fst x.snd)) : Int)))))) = Goal Tryz.prog [K_iNameOk, (K_termSize n)] (A_termSize n x.1 x.2) (K_termSize (n + 1)).1 (K_termSize (n + 1)).2 (x) := by kernel_rfl

theorem vc_isTerm (a : ByteArray) (b : List Pl.Tm) : (Exists fun (x : Pl.TP) =>
 ((a = x.fst ∧ Is (terms b) (terms x.snd) ∧ True) ∧ (1 : Int) = (5 : Int) - (↑(4 : Nat) : Int) ∧ True) ∧
 (SmT (Pl.Tree.mk x.fst x.snd) ∧ (4 : Nat) ≤ (4 : Nat)) ∧ Decidable.decide ((↑(Pl.tsz (4 : Nat) (Pl.Tree.mk x.fst x.snd)) : Int) ≤ (12 : Int)) = Pl.right (Pl.Tree.mk a b)) = Goal Tryz.prog [(K_termSize 4)] ([]) K_isTerm.1 K_isTerm.2 ((a, b)) := by kernel_rfl

end Cg

/-
  What is left to show of each function's code, printed by a program: Sort. No condition.
-/
set_option maxRecDepth 100000
set_option linter.unusedVariables false
namespace Cg
open Go Go.Proofs
end Cg

/-
  What is left to show of each function's code, printed by a program: Sig. No condition.
-/
set_option maxRecDepth 100000
set_option linter.unusedVariables false
namespace Cg
open Go Go.Proofs
theorem vc_sNameOk (s : ByteArray) : ((Exists fun (x : Nat) => (x ≤ s.size ∧ (Pl.bs s).all Pl.lower = (List.drop x (Pl.bs s)).all Pl.lower) ∧ (s = s ∧ (0 : Int) = (↑x : Int) ∧ True) ∧ True) ∧
 ∀ (x : Nat),
 x ≤ s.size ∧ (Pl.bs s).all Pl.lower = (List.drop x (Pl.bs s)).all Pl.lower →
 condP (Decidable.decide ((↑x : Int) < (↑s.size : Int)))
 (((0 : Int) ≤ (↑x : Int) ∧ (↑x : Int) < (↑s.size : Int)) ∧
 condP (Decidable.decide ((↑(s.data.getD x (0 : UInt8)).toNat : Int) < (97 : Int))) (Bool.false = Pl.nameOk s)
 (((0 : Int) ≤ (↑x : Int) ∧ (↑x : Int) < (↑s.size : Int)) ∧
 condP (Decidable.decide ((↑(s.data.getD x (0 : UInt8)).toNat : Int) > (122 : Int))) (Bool.false = Pl.nameOk s)
 (Exists fun (x' : Nat) =>
 (x' ≤ s.size ∧ (Pl.bs s).all Pl.lower = (List.drop x' (Pl.bs s)).all Pl.lower) ∧
 s.size - x' < s.size - x ∧ (s = s ∧ IntKind.i64.wrap ((↑x : Int) + (1 : Int)) = (↑x' : Int) ∧ True) ∧ True)))
 (condP (Decidable.decide ((↑s.size : Int) ≥ (1 : Int))) (Decidable.decide ((↑s.size : Int) ≤ (2 : Int)) = Pl.nameOk s) (Bool.false = Pl.nameOk s))) = Goal Tryz.prog [] (A_sNameOk s) K_sNameOk.1 K_sNameOk.2 (s) := by kernel_rfl

theorem vc_iNameOk (s : ByteArray) : (Exists fun (x : Int × Int × Int) =>
 ((↑s.size : Int) = x.fst ∧ (1 : Int) = x.snd.fst ∧ (2 : Int) = x.snd.snd ∧ True) ∧
 True ∧
 condP (!Pl.withinI x.fst x.snd.fst x.snd.snd) (Bool.false = Pl.nameOk s)
 ((Exists fun (x : Nat) => (x ≤ s.size ∧ (Pl.bs s).all Pl.lower = (List.drop x (Pl.bs s)).all Pl.lower) ∧ (s = s ∧ (↑s.size : Int) = (↑s.size : Int) ∧ (0 : Int) = (↑x : Int) ∧ True) ∧ True) ∧
 ∀ (x : Nat),
 x ≤ s.size ∧ (Pl.bs s).all Pl.lower = (List.drop x (Pl.bs s)).all Pl.lower →
 condP (Decidable.decide ((↑x : Int) < (↑s.size : Int)))
 (((0 : Int) ≤ (↑x : Int) ∧ (↑x : Int) < (↑s.size : Int)) ∧
 condP (Decidable.decide ((↑(s.data.getD x (0 : UInt8)).toNat : Int) < (97 : Int))) (Bool.false = Pl.nameOk s)
 (((0 : Int) ≤ (↑x : Int) ∧ (↑x : Int) < (↑s.size : Int)) ∧
 condP (Decidable.decide ((↑(s.data.getD x (0 : UInt8)).toNat : Int) > (122 : Int))) (Bool.false = Pl.nameOk s)
 (Exists fun (x' : Nat) =>
 (x' ≤ s.size ∧ (Pl.bs s).all Pl.lower = (List.drop x' (Pl.bs s)).all Pl.lower) ∧
 s.size - x' < s.size - x ∧ (s = s ∧ (↑s.size : Int) = (↑s.size : Int) ∧ IntKind.i64.wrap ((↑x : Int) + (1 : Int)) = (↑x' : Int) ∧ True) ∧ True)))
 (Bool.true = Pl.nameOk s))) = Goal Tryz.prog [K_within] (A_iNameOk s) K_iNameOk.1 K_iNameOk.2 (s) := by kernel_rfl

theorem vc_l4Sort (x : Int) : (condP (x == (0 : Int)) (Bool.true = Pl.isSort x) ((x == (1 : Int)) = Pl.isSort x)) = Goal Tryz.prog [] ([]) K_l4Sort.1 K_l4Sort.2 (x) := by kernel_rfl

theorem vc_isSort (x : Int) : (condP (x == (0 : Int)) (Bool.true = Pl.isSort x) ((x == (1 : Int)) = Pl.isSort x)) = Goal Tryz.prog [] ([]) K_isSort.1 K_isSort.2 (x) := by kernel_rfl

theorem vc_symok1 (x : Int) : (Exists fun (x_1 : Int) => (x = x_1 ∧ True) ∧ True ∧ (!Pl.isSort x_1) = !Pl.isSort x) = Goal Tryz.prog [K_isSort] ([]) K_symok1.1 K_symok1.2 (x) := by kernel_rfl

theorem vc_IndexSort (l : List Int) : ((Exists fun (x : Nat) =>
 (x ≤ l.length ∧
 Pl.idx (fun (y : Int) => !Pl.isSort y) l =
 if Pl.idx (fun (y : Int) => !Pl.isSort y) (List.drop x l) < (0 : Int) then (-1 : Int) else Pl.idx (fun (y : Int) => !Pl.isSort y) (List.drop x l) + (↑x : Int)) ∧
 (Is (ints l) (ints l) ∧ True ∧ (↑l.length : Int) = (↑l.length : Int) ∧ (0 : Int) = (↑x : Int) ∧ True) ∧ True) ∧
 ∀ (x : Nat),
 (x ≤ l.length ∧
 Pl.idx (fun (y : Int) => !Pl.isSort y) l =
 if Pl.idx (fun (y : Int) => !Pl.isSort y) (List.drop x l) < (0 : Int) then (-1 : Int) else Pl.idx (fun (y : Int) => !Pl.isSort y) (List.drop x l) + (↑x : Int)) →
 condP (Decidable.decide ((↑x : Int) < (↑l.length : Int)))
 (((0 : Int) ≤ (↑x : Int) ∧ (↑x : Int) < (↑l.length : Int)) ∧
 x < l.length ∧
 Exists fun (x_1 : Int) =>
 (l.getD x (0 : Int) = x_1 ∧ True) ∧
 True ∧
 condP (!Pl.isSort x_1) ((↑x : Int) = Pl.idx (fun (y : Int) => !Pl.isSort y) l)
 (Exists fun (x' : Nat) =>
 (x' ≤ l.length ∧
 Pl.idx (fun (y : Int) => !Pl.isSort y) l =
 if Pl.idx (fun (y : Int) => !Pl.isSort y) (List.drop x' l) < (0 : Int) then (-1 : Int) else Pl.idx (fun (y : Int) => !Pl.isSort y) (List.drop x' l) + (↑x' : Int)) ∧
 l.length - x' < l.length - x ∧
 (Is (ints l) (ints l) ∧ True ∧ (↑l.length : Int) = (↑l.length : Int) ∧ IntKind.i64.wrap ((↑x : Int) + (1 : Int)) = (↑x' : Int) ∧ True) ∧ True))
 ((-1 : Int) = Pl.idx (fun (y : Int) => !Pl.isSort y) l)) = Goal Tryz.prog [K_symok1] (A_IndexSort l) K_IndexSort.1 K_IndexSort.2 (l) := by kernel_rfl

theorem vc_ContainsSort (l : List Int) : (Exists fun (x : List Int) => (Is (ints l) (ints x) ∧ True ∧ True) ∧ Sz x ∧ Decidable.decide (Pl.idx (fun (y : Int) => !Pl.isSort y) x ≥ (0 : Int)) = l.any fun (y : Int) => !Pl.isSort y) = Goal Tryz.prog [K_IndexSort] ([]) K_ContainsSort.1 K_ContainsSort.2 (l) := by kernel_rfl

theorem vc_symok (x : Pl.Sym) : (Exists fun (x_1 : ByteArray) =>
 (x.fst = x_1 ∧ True) ∧
 x_1.size ≤ (1048576 : Nat) ∧
 condP (Pl.nameOk x_1)
 (condP (Decidable.decide ((↑x.snd.fst.length : Int) ≤ (2 : Int)))
 (Exists fun (x_2 : Int) =>
 (x.snd.snd = x_2 ∧ True) ∧
 True ∧
 condP (Pl.isSort x_2) (Exists fun (x_3 : List Int) => (Is (ints x.snd.fst) (ints x_3) ∧ True ∧ True) ∧ Sz x_3 ∧ (!x_3.any fun (y : Int) => !Pl.isSort y) = Pl.symOk x)
 (Bool.false = Pl.symOk x))
 (Bool.false = Pl.symOk x))
 (Bool.false = Pl.symOk x)) = Goal Tryz.prog [K_iNameOk, K_isSort, K_ContainsSort] ([]) K_symok.1 K_symok.2 (x) := by kernel_rfl

theorem vc_sSigOk (s : Pl.Sig) : ((Exists fun (x : Nat) =>
 (x ≤ List.length s ∧ Pl.sigL Option.none s = Pl.sigL (Pl.prevS s x) (List.drop x s)) ∧ ((0 : Nat) = (0 : Nat) ∧ (0 : Int) = (↑x : Int) ∧ True) ∧ (Is (syms s) (syms s) ∧ True) ∧ True) ∧
 ∀ (x : Nat),
 x ≤ List.length s ∧ Pl.sigL Option.none s = Pl.sigL (Pl.prevS s x) (List.drop x s) →
 condP (Decidable.decide ((↑x : Int) < (↑(List.length s) : Int)))
 (((0 : Int) ≤ (↑x : Int) ∧ (↑x : Int) < (↑(List.length s) : Int)) ∧
 x < List.length s ∧
 Exists fun (x_1 : ByteArray) =>
 ((List.getD s x Pl.dY).fst = x_1 ∧ True) ∧
 x_1.size ≤ (1048576 : Nat) ∧
 condP (!Pl.nameOk x_1) (Bool.false = Pl.sigOk s)
 (condP (Decidable.decide ((↑(List.getD s x Pl.dY).snd.fst.length : Int) > (2 : Int))) (Bool.false = Pl.sigOk s)
 (Exists fun (x_2 : Int) =>
 ((List.getD s x Pl.dY).snd.snd = x_2 ∧ True) ∧
 True ∧
 condP (!Pl.isSort x_2) (Bool.false = Pl.sigOk s)
 (condP (Decidable.decide ((↑x : Int) > (0 : Int)))
 (((0 : Int) ≤ IntKind.i64.wrap ((↑x : Int) - (1 : Int)) ∧ IntKind.i64.wrap ((↑x : Int) - (1 : Int)) < (↑(List.length s) : Int)) ∧
 (IntKind.i64.wrap ((↑x : Int) - (1 : Int))).toNat < List.length s ∧
 condP (!Op.bytesLess (List.getD s (IntKind.i64.wrap ((↑x : Int) - (1 : Int))).toNat Pl.dY).fst.toList (List.getD s x Pl.dY).fst.toList)
 (Bool.false = Pl.sigOk s)
 ((Exists fun (x_3 : Nat) =>
 (x < List.length s ∧
 x_3 ≤ (List.getD s x Pl.dY).snd.fst.length ∧
 (List.getD s x Pl.dY).snd.fst.all Pl.isSort = (List.drop x_3 (List.getD s x Pl.dY).snd.fst).all Pl.isSort ∧
 (Pl.nameOk (List.getD s x Pl.dY).fst && Decidable.decide ((List.getD s x Pl.dY).snd.fst.length ≤ (2 : Nat)) &&
 Pl.isSort (List.getD s x Pl.dY).snd.snd) =
 Bool.true ∧
 Pl.before (Pl.prevS s x) (List.getD s x Pl.dY).fst = Bool.true) ∧
 ((0 : Nat) = (0 : Nat) ∧ (↑x : Int) = (↑x : Int) ∧ (0 : Nat) = (0 : Nat) ∧ (0 : Int) = (↑x_3 : Int) ∧ True) ∧
 (Is (syms s) (syms s) ∧ True) ∧
 ((List.getD s x Pl.dY).fst = (List.getD s x Pl.dY).fst ∧
 Is (ints (List.getD s x Pl.dY).snd.fst) (ints (List.getD s x Pl.dY).snd.fst) ∧
 (List.getD s x Pl.dY).snd.snd = (List.getD s x Pl.dY).snd.snd ∧ True) ∧
 True) ∧
 ∀ (x_3 : Nat),
 x < List.length s ∧
 x_3 ≤ (List.getD s x Pl.dY).snd.fst.length ∧
 (List.getD s x Pl.dY).snd.fst.all Pl.isSort = (List.drop x_3 (List.getD s x Pl.dY).snd.fst).all Pl.isSort ∧
 (Pl.nameOk (List.getD s x Pl.dY).fst && Decidable.decide ((List.getD s x Pl.dY).snd.fst.length ≤ (2 : Nat)) &&
 Pl.isSort (List.getD s x Pl.dY).snd.snd) =
 Bool.true ∧
 Pl.before (Pl.prevS s x) (List.getD s x Pl.dY).fst = Bool.true →
 condP (Decidable.decide ((↑x_3 : Int) < (↑(List.getD s x Pl.dY).snd.fst.length : Int)))
 (((0 : Int) ≤ (↑x_3 : Int) ∧ (↑x_3 : Int) < (↑(List.getD s x Pl.dY).snd.fst.length : Int)) ∧
 x_3 < (List.getD s x Pl.dY).snd.fst.length ∧
 Exists fun (x_4 : Int) =>
 ((List.getD s x Pl.dY).snd.fst.getD x_3 (0 : Int) = x_4 ∧ True) ∧
 True ∧
 condP (!Pl.isSort x_4) (Bool.false = Pl.sigOk s)
 (Exists fun (x' : Nat) =>
 (x < List.length s ∧
 x' ≤ (List.getD s x Pl.dY).snd.fst.length ∧
 (List.getD s x Pl.dY).snd.fst.all Pl.isSort = (List.drop x' (List.getD s x Pl.dY).snd.fst).all Pl.isSort ∧
 (Pl.nameOk (List.getD s x Pl.dY).fst && Decidable.decide ((List.getD s x Pl.dY).snd.fst.length ≤ (2 : Nat)) &&
 Pl.isSort (List.getD s x Pl.dY).snd.snd) =
 Bool.true ∧
 Pl.before (Pl.prevS s x) (List.getD s x Pl.dY).fst = Bool.true) ∧
 (List.getD s x Pl.dY).snd.fst.length - x' < (List.getD s x Pl.dY).snd.fst.length - x_3 ∧
 ((0 : Nat) = (0 : Nat) ∧
 (↑x : Int) = (↑x : Int) ∧ (0 : Nat) = (0 : Nat) ∧ IntKind.i64.wrap ((↑x_3 : Int) + (1 : Int)) = (↑x' : Int) ∧ True) ∧
 (Is (syms s) (syms s) ∧ True) ∧
 ((List.getD s x Pl.dY).fst = (List.getD s x Pl.dY).fst ∧
 Is (ints (List.getD s x Pl.dY).snd.fst) (ints (List.getD s x Pl.dY).snd.fst) ∧
 (List.getD s x Pl.dY).snd.snd = (List.getD s x Pl.dY).snd.snd ∧ True) ∧
 True))
 (Exists fun (x' : Nat) =>
 (x' ≤ List.length s ∧ Pl.sigL Option.none s = Pl.sigL (Pl.prevS s x') (List.drop x' s)) ∧
 List.length s - x' < List.length s - x ∧
 ((0 : Nat) = (0 : Nat) ∧ IntKind.i64.wrap ((↑x : Int) + (1 : Int)) = (↑x' : Int) ∧ True) ∧ (Is (syms s) (syms s) ∧ True) ∧ True)))
 ((Exists fun (x_3 : Nat) =>
 (x < List.length s ∧
 x_3 ≤ (List.getD s x Pl.dY).snd.fst.length ∧
 (List.getD s x Pl.dY).snd.fst.all Pl.isSort = (List.drop x_3 (List.getD s x Pl.dY).snd.fst).all Pl.isSort ∧
 (Pl.nameOk (List.getD s x Pl.dY).fst && Decidable.decide ((List.getD s x Pl.dY).snd.fst.length ≤ (2 : Nat)) && Pl.isSort (List.getD s x Pl.dY).snd.snd) =
 Bool.true ∧
 Pl.before (Pl.prevS s x) (List.getD s x Pl.dY).fst = Bool.true) ∧
 ((0 : Nat) = (0 : Nat) ∧ (↑x : Int) = (↑x : Int) ∧ (0 : Nat) = (0 : Nat) ∧ (0 : Int) = (↑x_3 : Int) ∧ True) ∧
 (Is (syms s) (syms s) ∧ True) ∧
 ((List.getD s x Pl.dY).fst = (List.getD s x Pl.dY).fst ∧
 Is (ints (List.getD s x Pl.dY).snd.fst) (ints (List.getD s x Pl.dY).snd.fst) ∧
 (List.getD s x Pl.dY).snd.snd = (List.getD s x Pl.dY).snd.snd ∧ True) ∧
 True) ∧
 ∀ (x_3 : Nat),
 x < List.length s ∧
 x_3 ≤ (List.getD s x Pl.dY).snd.fst.length ∧
 (List.getD s x Pl.dY).snd.fst.all Pl.isSort = (List.drop x_3 (List.getD s x Pl.dY).snd.fst).all Pl.isSort ∧
 (Pl.nameOk (List.getD s x Pl.dY).fst && Decidable.decide ((List.getD s x Pl.dY).snd.fst.length ≤ (2 : Nat)) && Pl.isSort (List.getD s x Pl.dY).snd.snd) =
 Bool.true ∧
 Pl.before (Pl.prevS s x) (List.getD s x Pl.dY).fst = Bool.true →
 condP (Decidable.decide ((↑x_3 : Int) < (↑(List.getD s x Pl.dY).snd.fst.length : Int)))
 (((0 : Int) ≤ (↑x_3 : Int) ∧ (↑x_3 : Int) < (↑(List.getD s x Pl.dY).snd.fst.length : Int)) ∧
 x_3 < (List.getD s x Pl.dY).snd.fst.length ∧
 Exists fun (x_4 : Int) =>
 ((List.getD s x Pl.dY).snd.fst.getD x_3 (0 : Int) = x_4 ∧ True) ∧
 True ∧
 condP (!Pl.isSort x_4) (Bool.false = Pl.sigOk s)
 (Exists fun (x' : Nat) =>
 (x < List.length s ∧
 x' ≤ (List.getD s x Pl.dY).snd.fst.length ∧
 (List.getD s x Pl.dY).snd.fst.all Pl.isSort = (List.drop x' (List.getD s x Pl.dY).snd.fst).all Pl.isSort ∧
 (Pl.nameOk (List.getD s x Pl.dY).fst && Decidable.decide ((List.getD s x Pl.dY).snd.fst.length ≤ (2 : Nat)) &&
 Pl.isSort (List.getD s x Pl.dY).snd.snd) =
 Bool.true ∧
 Pl.before (Pl.prevS s x) (List.getD s x Pl.dY).fst = Bool.true) ∧
 (List.getD s x Pl.dY).snd.fst.length - x' < (List.getD s x Pl.dY).snd.fst.length - x_3 ∧
 ((0 : Nat) = (0 : Nat) ∧
 (↑x : Int) = (↑x : Int) ∧ (0 : Nat) = (0 : Nat) ∧ IntKind.i64.wrap ((↑x_3 : Int) + (1 : Int)) = (↑x' : Int) ∧ True) ∧
 (Is (syms s) (syms s) ∧ True) ∧
 ((List.getD s x Pl.dY).fst = (List.getD s x Pl.dY).fst ∧
 Is (ints (List.getD s x Pl.dY).snd.fst) (ints (List.getD s x Pl.dY).snd.fst) ∧
 (List.getD s x Pl.dY).snd.snd = (List.getD s x Pl.dY).snd.snd ∧ True) ∧
 True))
 (Exists fun (x' : Nat) =>
 (x' ≤ List.length s ∧ Pl.sigL Option.none s = Pl.sigL (Pl.prevS s x') (List.drop x' s)) ∧
 List.length s - x' < List.length s - x ∧
 ((0 : Nat) = (0 : Nat) ∧ IntKind.i64.wrap ((↑x : Int) + (1 : Int)) = (↑x' : Int) ∧ True) ∧ (Is (syms s) (syms s) ∧ True) ∧ True))))))
 (Decidable.decide ((↑(List.length s) : Int) ≤ (7 : Int)) = Pl.sigOk s)) = Goal Tryz.prog [K_sNameOk, K_l4Sort] (A_sSigOk s) K_sSigOk.1 K_sSigOk.2 (s) := by kernel_rfl

theorem vc_iSigOk (s : Pl.Sig) : ((Exists fun (x : Nat) =>
 (x ≤ List.length s ∧ Pl.sigL Option.none s = Pl.sigL (Pl.prevS s x) (List.drop x s)) ∧
 ((0 : Nat) = (0 : Nat) ∧ Is (syms s) (syms s) ∧ (↑(List.length s) : Int) = (↑(List.length s) : Int) ∧ (0 : Int) = (↑x : Int) ∧ True) ∧ (Is (syms s) (syms s) ∧ True) ∧ True) ∧
 ∀ (x : Nat),
 x ≤ List.length s ∧ Pl.sigL Option.none s = Pl.sigL (Pl.prevS s x) (List.drop x s) →
 condP (Decidable.decide ((↑x : Int) < (↑(List.length s) : Int)))
 (((0 : Int) ≤ (↑x : Int) ∧ (↑x : Int) < (↑(List.length s) : Int)) ∧
 x < List.length s ∧
 Exists fun (x_1 : Pl.Sym) =>
 (((List.getD s x Pl.dY).fst = x_1.fst ∧ Is (ints (List.getD s x Pl.dY).snd.fst) (ints x_1.snd.fst) ∧ (List.getD s x Pl.dY).snd.snd = x_1.snd.snd ∧ True) ∧ True) ∧
 (x_1.fst.size ≤ (1048576 : Nat) ∧ Sz x_1.snd.fst) ∧
 condP (!Pl.symOk x_1) (Bool.false = Pl.sigOk s)
 (condP (Decidable.decide ((↑x : Int) > (0 : Int)))
 (((0 : Int) ≤ IntKind.i64.wrap ((↑x : Int) - (1 : Int)) ∧ IntKind.i64.wrap ((↑x : Int) - (1 : Int)) < (↑(List.length s) : Int)) ∧
 (IntKind.i64.wrap ((↑x : Int) - (1 : Int))).toNat < List.length s ∧
 condP (!Op.bytesLess (List.getD s (IntKind.i64.wrap ((↑x : Int) - (1 : Int))).toNat Pl.dY).fst.toList (List.getD s x Pl.dY).fst.toList) (Bool.false = Pl.sigOk s)
 (Exists fun (x' : Nat) =>
 (x' ≤ List.length s ∧ Pl.sigL Option.none s = Pl.sigL (Pl.prevS s x') (List.drop x' s)) ∧
 List.length s - x' < List.length s - x ∧
 ((0 : Nat) = (0 : Nat) ∧
 Is (syms s) (syms s) ∧ (↑(List.length s) : Int) = (↑(List.length s) : Int) ∧ IntKind.i64.wrap ((↑x : Int) + (1 : Int)) = (↑x' : Int) ∧ True) ∧
 (Is (syms s) (syms s) ∧ True) ∧ True))
 (Exists fun (x' : Nat) =>
 (x' ≤ List.length s ∧ Pl.sigL Option.none s = Pl.sigL (Pl.prevS s x') (List.drop x' s)) ∧
 List.length s - x' < List.length s - x ∧
 ((0 : Nat) = (0 : Nat) ∧
 Is (syms s) (syms s) ∧ (↑(List.length s) : Int) = (↑(List.length s) : Int) ∧ IntKind.i64.wrap ((↑x : Int) + (1 : Int)) = (↑x' : Int) ∧ True) ∧
 (Is (syms s) (syms s) ∧ True) ∧ True)))
 (Decidable.decide ((↑(List.length s) : Int) ≤ (7 : Int)) = Pl.sigOk s)) = Goal Tryz.prog [K_symok] (A_iSigOk s) K_iSigOk.1 K_iSigOk.2 (s) := by kernel_rfl

end Cg

/-
  What is left to show of each function's code, printed by a program: Rows. No condition.
-/
set_option maxRecDepth 100000
set_option linter.unusedVariables false
namespace Cg
open Go Go.Proofs
end Cg

/-
  What is left to show of each function's code, printed by a program: Clause. No condition.
-/
set_option maxRecDepth 100000
set_option linter.unusedVariables false
namespace Cg
open Go Go.Proofs
theorem vc_within (x y z : Int) : (condP (Decidable.decide (y ≤ x)) (Decidable.decide (x ≤ z) = Pl.withinI x y z) (Bool.false = Pl.withinI x y z)) = Goal Tryz.prog [] ([]) K_within.1 K_within.2 ((x, y, z)) := by kernel_rfl

end Cg

/-
  The codes' contracts: clauses. No condition.
-/
set_option linter.unusedVariables false
set_option linter.unusedSimpArgs false
set_option maxRecDepth 100000
namespace Cg
open Go Go.Proofs

theorem hm : Tryz.prog.follows .mixedOrders = true := by kernel_rfl

theorem k_within : SoundC Tryz.prog K_within.1 K_within.2 := sound_of hm CtxOK.nil (fun _ => []) (by kernel_rfl) fun ((x, y, z) : Int × Int × Int) _ => cast (vc_within x y z) (by
  simp [Pl.withinI]
  omega)

theorem eq_step {α : Type} [DecidableEq α] (d : α) {l m : List α} {k : Nat} (hk : k < l.length) (hm : l.length = m.length) (he : l = m ↔ l.drop k = m.drop k) :
    (¬ l.getD k d = m.getD k d → ¬ l = m) ∧ (l.getD k d = m.getD k d → (l = m ↔ l.drop (k + 1) = m.drop (k + 1))) := by
  rw [drop_get d hk, drop_get (l := m) d (by omega)] at he
  exact ⟨fun h e => h (by have := he.1 e; injection this), fun h => by rw [he, h]; simp⟩

end Cg

/-
  The plain law of clauses: both ways to tell one give the same. No condition.
-/
set_option linter.unusedVariables false
set_option linter.unusedSimpArgs false
namespace Pl
open Go

end Pl

