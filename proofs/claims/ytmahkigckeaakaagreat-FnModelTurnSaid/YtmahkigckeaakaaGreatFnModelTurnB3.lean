/-
  What the law leans on, part 3. No condition.
-/
import Derived.Test.YtmahkigckeaakaaGreatProg
import Derived.Test.YtmahkigckeaakaaGreatFnModelTurnB1
import Derived.Test.YtmahkigckeaakaaGreatFnModelTurnB2
/-
  What is left to show of each function's code, printed by a program: Mds. No condition.
-/
set_option maxRecDepth 100000
set_option linter.unusedVariables false
namespace Cg
open Go Go.Proofs
theorem vc_of (b : List Int) (p : Int) (l : List ByteArray) : (∃ x : List Int × Int × Int,
 Rd (1099511627776 : Int) x.1 x.2.1 ∧ (((0 : Nat) = (0 : Nat) ∧ (↑l.length : Int) = x.2.2 ∧ True) ∧ (Is (byts b) (byts x.1) ∧ p = x.2.1 ∧ True) ∧ True) ∧ ∀ (y : Int),
 ((1 : Int) ≤ x.2.2 → (0 : Int) ≤ y ∧ y < x.2.2) ∧ (x.2.2 < (1 : Int) → y = (0 : Int)) →
 ((0 : Int) ≤ y ∧ y < (↑l.length : Int)) ∧ y.toNat < l.length ∧ ∃ y_1 : ByteArray, y_1 ∈ l ∧ (l.getD y.toNat ByteArray.empty = y_1 ∧ True) ∧ (Is (byts x.1) (byts b) ∧ x.2.1 + (1 : Int) = p + (1 : Int) ∧ True) ∧ True) = Goal Tryz.prog [K_pick] ([]) K_of.1 K_of.2 ((b, p, l)) := by kernel_rfl

theorem vc_rat (b : List Int) (p : Int) : (∃ x : List Int × Int × List Int,
 (Rd (1099511627776 : Int) x.1 x.2.1 ∧ x.2.2 ≠ [] ∧ Sz x.2.2) ∧ (((0 : Nat) = (0 : Nat) ∧ Is (AV.lit (3 : Nat) (1 : Nat) (rowsCell [[i64 (1 : Int)], [i64 (2 : Int)], [i64 (0 : Int)]])) (ints x.2.2) ∧ True) ∧ (Is (byts b) (byts x.1) ∧ p = x.2.1 ∧ True) ∧ True) ∧ ∀ (y : Int),
 y ∈ x.2.2 →
 ∃ x_1 : List Int × Int × List Int,
 (Rd (1099511627776 : Int) x_1.1 x_1.2.1 ∧ x_1.2.2 ≠ [] ∧ Sz x_1.2.2) ∧ (((0 : Nat) = (0 : Nat) ∧ Is (AV.lit (4 : Nat) (1 : Nat) (rowsCell [[i64 (0 : Int)], [i64 (2 : Int)], [i64 (-1 : Int)], [i64 (1 : Int)]])) (ints x_1.2.2) ∧ True) ∧ (Is (byts x.1) (byts x_1.1) ∧ x.2.1 + (1 : Int) = x_1.2.1 ∧ True) ∧ True) ∧ ∀ (y_1 : Int),
 y_1 ∈ x_1.2.2 →
 ∃ y_2 : Pl.Rt, True ∧ ((y = y_2.1 ∧ y_1 = y_2.2 ∧ True) ∧ True) ∧ (Is (byts x_1.1) (byts b) ∧ x_1.2.1 + (1 : Int) = p + (2 : Int) ∧ True) ∧ True) = Goal Tryz.prog [K_num] ([]) K_rat.1 K_rat.2 ((b, p)) := by kernel_rfl

theorem vc_RatOfP (n d : Int) : (condP (d == (0 : Int)) (((0 : Int) = (Pl.ratV (Pl.least n d)).1 ∧ (0 : Int) = (Pl.ratV (Pl.least n d)).2 ∧ True) ∧ false = (Pl.least n d).isSome ∧ True)
 (∃ x : Int,
 (n = x ∧ True) ∧ True ∧ condP (decide (Pl.abs1 x > (1000000000 : Int)))
 (((0 : Int) = (Pl.ratV (Pl.least n d)).1 ∧ (0 : Int) = (Pl.ratV (Pl.least n d)).2 ∧ True) ∧ false = (Pl.least n d).isSome ∧ True)
 (∃ x : Int,
 (d = x ∧ True) ∧ True ∧ condP (decide (Pl.abs1 x > (1000000000 : Int)))
 (((0 : Int) = (Pl.ratV (Pl.least n d)).1 ∧ (0 : Int) = (Pl.ratV (Pl.least n d)).2 ∧ True) ∧ false = (Pl.least n d).isSome ∧ True)
 (condP (decide (d < (0 : Int)))
 (∃ x : Int × Int,
 (IntKind.i64.wrap ((0 : Int) - n) = x.1 ∧ IntKind.i64.wrap ((0 : Int) - d) = x.2 ∧ True) ∧ (x.1.natAbs ≤ (2000000000000000000 : Nat) ∧ (1 : Int) ≤ x.2 ∧ x.2 ≤ (1000000000000000000 : Int)) ∧ ((Pl.ratV (Pl.least x.1 x.2)).1 = (Pl.ratV (Pl.least n d)).1 ∧ (Pl.ratV (Pl.least x.1 x.2)).2 = (Pl.ratV (Pl.least n d)).2 ∧ True) ∧ (Pl.least x.1 x.2).isSome = (Pl.least n d).isSome ∧ True)
 (∃ x : Int × Int,
 (n = x.1 ∧ d = x.2 ∧ True) ∧ (x.1.natAbs ≤ (2000000000000000000 : Nat) ∧ (1 : Int) ≤ x.2 ∧ x.2 ≤ (1000000000000000000 : Int)) ∧ ((Pl.ratV (Pl.least x.1 x.2)).1 = (Pl.ratV (Pl.least n d)).1 ∧ (Pl.ratV (Pl.least x.1 x.2)).2 = (Pl.ratV (Pl.least n d)).2 ∧ True) ∧ (Pl.least x.1 x.2).isSome = (Pl.least n d).isSome ∧ True))))) = Goal Tryz.prog [K_l1Abs, K_l1Least] ([]) K_RatOfP.1 K_RatOfP.2 ((n, d)) := by kernel_rfl

theorem vc_l7Value (b : List Int) (p s : Int) : (condP (s == (0 : Int))
 (∃ x : List Int × Int × Int,
 Rd (1099511627776 : Int) x.1 x.2.1 ∧ (((0 : Nat) = (0 : Nat) ∧ (3 : Int) = x.2.2 ∧ True) ∧ (Is (byts b) (byts x.1) ∧ p = x.2.1 ∧ True) ∧ True) ∧ ∀ (y : Int),
 ((1 : Int) ≤ x.2.2 → (0 : Int) ≤ y ∧ y < x.2.2) ∧ (x.2.2 < (1 : Int) → y = (0 : Int)) →
 ∃ y_1 : Pl.Rt × Int,
 (p ≤ y_1.2 ∧ y_1.2 ≤ p + (2 : Int)) ∧ ((y = y_1.1.1 ∧ (1 : Int) = y_1.1.2 ∧ True) ∧ True) ∧ (Is (byts x.1) (byts b) ∧ x.2.1 + (1 : Int) = y_1.2 ∧ True) ∧ True)
 (∃ x : List Int × Int × List Int,
 (Rd (1099511627776 : Int) x.1 x.2.1 ∧ x.2.2 ≠ [] ∧ Sz x.2.2) ∧ (((0 : Nat) = (0 : Nat) ∧ Is (AV.lit (6 : Nat) (1 : Nat) (rowsCell [[i64 (0 : Int)], [i64 (1 : Int)], [i64 (2 : Int)], [i64 (-1 : Int)], [i64 (3 : Int)], [i64 (5 : Int)]]))
 (ints x.2.2) ∧ True) ∧ (Is (byts b) (byts x.1) ∧ p = x.2.1 ∧ True) ∧ True) ∧ ∀ (y : Int),
 y ∈ x.2.2 →
 ∃ x_1 : List Int × Int × List Int,
 (Rd (1099511627776 : Int) x_1.1 x_1.2.1 ∧ x_1.2.2 ≠ [] ∧ Sz x_1.2.2) ∧ (((0 : Nat) = (0 : Nat) ∧ Is (AV.lit (3 : Nat) (1 : Nat) (rowsCell [[i64 (1 : Int)], [i64 (1 : Int)], [i64 (2 : Int)]])) (ints x_1.2.2) ∧ True) ∧ (Is (byts x.1) (byts x_1.1) ∧ x.2.1 + (1 : Int) = x_1.2.1 ∧ True) ∧ True) ∧ ∀ (y_1 : Int),
 y_1 ∈ x_1.2.2 →
 ∃ x : Int × Int,
 (y = x.1 ∧ y_1 = x.2 ∧ True) ∧ (x.1.natAbs ≤ (1000000000 : Nat) ∧ (1 : Int) ≤ x.2 ∧ x.2 ≤ (1000000000 : Int)) ∧ condP (!(Pl.least x.1 x.2).isSome)
 (∃ y : Pl.Rt × Int,
 (p ≤ y.2 ∧ y.2 ≤ p + (2 : Int)) ∧ (((0 : Int) = y.1.1 ∧ (1 : Int) = y.1.2 ∧ True) ∧ True) ∧ (Is (byts x_1.1) (byts b) ∧ x_1.2.1 + (1 : Int) = y.2 ∧ True) ∧ True)
 (∃ y : Pl.Rt × Int,
 (p ≤ y.2 ∧ y.2 ≤ p + (2 : Int)) ∧ (((Pl.ratV (Pl.least x.1 x.2)).1 = y.1.1 ∧ (Pl.ratV (Pl.least x.1 x.2)).2 = y.1.2 ∧ True) ∧ True) ∧ (Is (byts x_1.1) (byts b) ∧ x_1.2.1 + (1 : Int) = y.2 ∧ True) ∧ True))) = Goal Tryz.prog [K_pick, K_num, K_RatOfP] ([]) K_l7Value.1 K_l7Value.2 ((b, p, s)) := by kernel_rfl

theorem vc_l4Base (k : Int) : (condP (k == (0 : Int))
 (Is
 (AV.lit (5 : Nat) (3 : Nat)
 (rowsCell
 [[st (ByteArray.mk #[(97 : UInt8)]), AV.lit (0 : Nat) (1 : Nat) fun (x x_1 : Nat) => AV.any, i64 (0 : Int)],
 [st (ByteArray.mk #[(98 : UInt8)]), AV.lit (0 : Nat) (1 : Nat) fun (x x_1 : Nat) => AV.any, i64 (0 : Int)],
 [st (ByteArray.mk #[(99 : UInt8)]), AV.lit (0 : Nat) (1 : Nat) fun (x x_1 : Nat) => AV.any, i64 (0 : Int)],
 [st (ByteArray.mk #[(102 : UInt8)]), AV.lit (1 : Nat) (1 : Nat) (rowsCell [[i64 (0 : Int)]]), i64 (0 : Int)],
 [st (ByteArray.mk #[(103 : UInt8)]), AV.lit (2 : Nat) (1 : Nat) (rowsCell [[i64 (0 : Int)], [i64 (0 : Int)]]), i64 (0 : Int)]]))
 (syms (Pl.base k)) ∧ True)
 (condP (k == (1 : Int))
 (Is
 (AV.lit (5 : Nat) (3 : Nat)
 (rowsCell
 [[st (ByteArray.mk #[(97 : UInt8)]), AV.lit (0 : Nat) (1 : Nat) fun (x x_1 : Nat) => AV.any, i64 (0 : Int)],
 [st (ByteArray.mk #[(98 : UInt8)]), AV.lit (0 : Nat) (1 : Nat) fun (x x_1 : Nat) => AV.any, i64 (0 : Int)],
 [st (ByteArray.mk #[(104 : UInt8)]), AV.lit (1 : Nat) (1 : Nat) (rowsCell [[i64 (0 : Int)]]), i64 (1 : Int)],
 [st (ByteArray.mk #[(120 : UInt8)]), AV.lit (0 : Nat) (1 : Nat) fun (x x_1 : Nat) => AV.any, i64 (1 : Int)],
 [st (ByteArray.mk #[(121 : UInt8)]), AV.lit (0 : Nat) (1 : Nat) fun (x x_1 : Nat) => AV.any, i64 (1 : Int)]]))
 (syms (Pl.base k)) ∧ True)
 (condP (k == (2 : Int))
 (Is
 (AV.lit (4 : Nat) (3 : Nat)
 (rowsCell
 [[st (ByteArray.mk #[(107 : UInt8)]), AV.lit (1 : Nat) (1 : Nat) (rowsCell [[i64 (1 : Int)]]), i64 (1 : Int)],
 [st (ByteArray.mk #[(120 : UInt8)]), AV.lit (0 : Nat) (1 : Nat) fun (x x_1 : Nat) => AV.any, i64 (1 : Int)],
 [st (ByteArray.mk #[(121 : UInt8)]), AV.lit (0 : Nat) (1 : Nat) fun (x x_1 : Nat) => AV.any, i64 (1 : Int)],
 [st (ByteArray.mk #[(122 : UInt8)]), AV.lit (0 : Nat) (1 : Nat) fun (x x_1 : Nat) => AV.any, i64 (1 : Int)]]))
 (syms (Pl.base k)) ∧ True)
 (condP (k == (3 : Int))
 (Is
 (AV.lit (5 : Nat) (3 : Nat)
 (rowsCell
 [[st (ByteArray.mk #[(97 : UInt8)]), AV.lit (0 : Nat) (1 : Nat) fun (x x_1 : Nat) => AV.any, i64 (0 : Int)],
 [st (ByteArray.mk #[(117 : UInt8)]), AV.lit (1 : Nat) (1 : Nat) (rowsCell [[i64 (1 : Int)]]), i64 (0 : Int)],
 [st (ByteArray.mk #[(118 : UInt8)]), AV.lit (2 : Nat) (1 : Nat) (rowsCell [[i64 (1 : Int)], [i64 (0 : Int)]]), i64 (1 : Int)],
 [st (ByteArray.mk #[(120 : UInt8)]), AV.lit (0 : Nat) (1 : Nat) fun (x x_1 : Nat) => AV.any, i64 (1 : Int)],
 [st (ByteArray.mk #[(121 : UInt8)]), AV.lit (0 : Nat) (1 : Nat) fun (x x_1 : Nat) => AV.any, i64 (1 : Int)]]))
 (syms (Pl.base k)) ∧ True)
 (Is (AV.lit (0 : Nat) (3 : Nat) (rowsCell [])) (syms (Pl.base k)) ∧ True))))) = Goal Tryz.prog [] ([]) K_l4Base.1 K_l4Base.2 (k) := by kernel_rfl

theorem vc_l4Sig (b : List Int) (p : Int) : (∃ x : List Int × Int × List Int,
 (Rd (1099511627776 : Int) x.1 x.2.1 ∧ x.2.2 ≠ [] ∧ Sz x.2.2) ∧ (((0 : Nat) = (0 : Nat) ∧ Is
 (AV.lit (8 : Nat) (1 : Nat)
 (rowsCell [[i64 (0 : Int)], [i64 (0 : Int)], [i64 (1 : Int)], [i64 (1 : Int)], [i64 (2 : Int)], [i64 (3 : Int)], [i64 (1 : Int)], [i64 (4 : Int)]]))
 (ints x.2.2) ∧ True) ∧ (Is (byts b) (byts x.1) ∧ p = x.2.1 ∧ True) ∧ True) ∧ ∀ (y : Int),
 y ∈ x.2.2 →
 ∃ x_1 : Int,
 (y = x_1 ∧ True) ∧ True ∧ ∃ y : Pl.Sig,
 Pl.SgB (5 : Nat) (2 : Nat) y ∧ ((Is (syms (Pl.base x_1)) (syms y) ∧ True) ∧ True) ∧ (Is (byts x.1) (byts b) ∧ x.2.1 + (1 : Int) = p + (1 : Int) ∧ True) ∧ True) = Goal Tryz.prog [K_num, K_l4Base] ([]) K_l4Sig.1 K_l4Sig.2 ((b, p)) := by kernel_rfl

theorem vc_l7Any (b : List Int) (p : Int) (s : Pl.Sig) : ((∃ x : Nat × Pl.Mdl × Int,
 (x.1 ≤ List.length s ∧ Pl.MdB ((3 : Nat) * x.1) (2 : Nat) x.2.1 ∧ p ≤ x.2.2 ∧ x.2.2 ≤ p + (100 : Int) * (↑x.1 : Int)) ∧ ((0 : Nat) = (0 : Nat) ∧ (0 : Nat) = (0 : Nat) ∧ (0 : Nat) = (0 : Nat) ∧ ((0 : Nat) = (0 : Nat) ∧ (0 : Nat) = (0 : Nat) ∧ List.length x.2.1 = (0 : Nat)) ∧ (0 : Int) = (↑x.1 : Int) ∧ True) ∧ (Is (byts b) (byts b) ∧ p = x.2.2 ∧ True) ∧ (Is (syms s) (syms s) ∧ True) ∧ (Is (AV.lit (0 : Nat) (1 : Nat) fun (x x_1 : Nat) => AV.any) nilA ∧ True) ∧ List.length x.2.1 = (0 : Nat) ∧ True) ∧ ∀ (x : Nat × Pl.Mdl × Int),
 x.1 ≤ List.length s ∧ Pl.MdB ((3 : Nat) * x.1) (2 : Nat) x.2.1 ∧ p ≤ x.2.2 ∧ x.2.2 ≤ p + (100 : Int) * (↑x.1 : Int) →
 condP (decide ((↑x.1 : Int) < (↑(List.length s) : Int)))
 (∃ x_1 : List Int × Int × List Int,
 (Rd (1099511627776 : Int) x_1.1 x_1.2.1 ∧ x_1.2.2 ≠ [] ∧ Sz x_1.2.2) ∧ (((0 : Nat) = (0 : Nat) ∧ Is (AV.lit (3 : Nat) (1 : Nat) (rowsCell [[i64 (1 : Int)], [i64 (2 : Int)], [i64 (3 : Int)]])) (ints x_1.2.2) ∧ True) ∧ (Is (byts b) (byts x_1.1) ∧ x.2.2 = x_1.2.1 ∧ True) ∧ True) ∧ ∀ (y : Int),
 y ∈ x_1.2.2 →
 (∃ x_2 : Int × Pl.Mdl × Int,
 ((0 : Int) ≤ x_2.1 ∧ x_2.1 ≤ (3 : Int) ∧ Pl.MdB ((3 : Nat) * x.1 + (3 : Nat) - x_2.1.toNat) (2 : Nat) x_2.2.1 ∧ p ≤ x_2.2.2 ∧ x_2.2.2 ≤ p + (100 : Int) * (↑x.1 : Int) + (1 : Int) + (30 : Int) * ((3 : Int) - x_2.1)) ∧ ((0 : Nat) = (0 : Nat) ∧ (0 : Nat) = (0 : Nat) ∧ (0 : Nat) = (0 : Nat) ∧ ((0 : Nat) = (0 : Nat) ∧ List.length x.2.1 = List.length x_2.2.1) ∧ (↑x.1 : Int) = (↑x.1 : Int) ∧ y = x_2.1 ∧ True) ∧ (Is (byts x_1.1) (byts b) ∧ x_1.2.1 + (1 : Int) = x_2.2.2 ∧ True) ∧ (Is (syms s) (syms s) ∧ True) ∧ (Is (AV.lit (0 : Nat) (1 : Nat) fun (x x_3 : Nat) => AV.any) nilA ∧ True) ∧ IsO (xrR x.2.1) (xrR x_2.2.1) ∧ True) ∧ ∀ (x_2 : Int × Pl.Mdl × Int),
 (0 : Int) ≤ x_2.1 ∧ x_2.1 ≤ (3 : Int) ∧ Pl.MdB ((3 : Nat) * x.1 + (3 : Nat) - x_2.1.toNat) (2 : Nat) x_2.2.1 ∧ p ≤ x_2.2.2 ∧ x_2.2.2 ≤ p + (100 : Int) * (↑x.1 : Int) + (1 : Int) + (30 : Int) * ((3 : Int) - x_2.1) →
 condP (decide (x_2.1 > (0 : Int)))
 ((((0 : Int) ≤ (↑x.1 : Int) ∧ (↑x.1 : Int) < (↑(List.length s) : Int)) ∧ x.1 < List.length s ∧ (((0 : Int) ≤ (↑x.1 : Int) ∧ (↑x.1 : Int) < (↑(List.length s) : Int)) ∧ x.1 < List.length s ∧ (∃ x_3 : List Int × Int × Int,
 Rd (549755813888 : Int) x_3.1 x_3.2.1 ∧ (((0 : Nat) = (0 : Nat) ∧ (List.getD s x.1 Pl.dY).2.2 = x_3.2.2 ∧ True) ∧ (Is (byts b) (byts x_3.1) ∧ x_2.2.2 = x_3.2.1 ∧ True) ∧ True) ∧ ∀ (y : Pl.Rt × Int),
 x_3.2.1 ≤ y.2 ∧ y.2 ≤ x_3.2.1 + (2 : Int) →
 (∃ x_4 : Nat × List Pl.Rt × Pl.Rt × Int,
 (x_4.1 ≤ (List.getD s x.1 Pl.dY).2.1.length ∧ x_4.2.1.length = x_4.1 ∧ p ≤ x_4.2.2.2 ∧ x_4.2.2.2 ≤ p + (100 : Int) * (↑x.1 : Int) + (3 : Int) + (30 : Int) * ((3 : Int) - x_2.1) + (2 : Int) * (↑x_4.1 : Int)) ∧ ((0 : Nat) = (0 : Nat) ∧ (0 : Nat) = (0 : Nat) ∧ (0 : Nat) = (0 : Nat) ∧ ((0 : Nat) = (0 : Nat) ∧ List.length x_2.2.1 = List.length x_2.2.1) ∧ (↑x.1 : Int) = (↑x.1 : Int) ∧ x_2.1 = x_2.1 ∧ (0 : Nat) = (0 : Nat) ∧ (0 : Int) = (↑x_4.1 : Int) ∧ True) ∧ (Is (byts x_3.1) (byts b) ∧ y.2 = x_4.2.2.2 ∧ True) ∧ (Is (syms s) (syms s) ∧ True) ∧ (Is (AV.lit (0 : Nat) (1 : Nat) fun (x x_5 : Nat) => AV.any) nilA ∧ True) ∧ IsO (xrR x_2.2.1) (xrR x_2.2.1) ∧ ((List.getD s x.1 Pl.dY).1 = (List.getD s x.1 Pl.dY).1 ∧ ((0 : Nat) = (0 : Nat) ∧ (0 : Nat) = (0 : Nat) ∧ x_4.2.1.length = (0 : Nat)) ∧ y.1.1 = x_4.2.2.1.1 ∧ y.1.2 = x_4.2.2.1.2 ∧ True) ∧ x_4.2.1.length = (0 : Nat) ∧ True) ∧ ∀ (x_4 : Nat × List Pl.Rt × Pl.Rt × Int),
 x_4.1 ≤ (List.getD s x.1 Pl.dY).2.1.length ∧ x_4.2.1.length = x_4.1 ∧ p ≤ x_4.2.2.2 ∧ x_4.2.2.2 ≤ p + (100 : Int) * (↑x.1 : Int) + (3 : Int) + (30 : Int) * ((3 : Int) - x_2.1) + (2 : Int) * (↑x_4.1 : Int) →
 ((0 : Int) ≤ (↑x.1 : Int) ∧ (↑x.1 : Int) < (↑(List.length s) : Int)) ∧ x.1 < List.length s ∧ condP (decide ((↑x_4.1 : Int) < (↑(List.getD s x.1 Pl.dY).2.1.length : Int)))
 ((((0 : Int) ≤ (↑x.1 : Int) ∧ (↑x.1 : Int) < (↑(List.length s) : Int)) ∧ x.1 < List.length s ∧ ((0 : Int) ≤ (↑x_4.1 : Int) ∧ (↑x_4.1 : Int) < (↑(List.getD s x.1 Pl.dY).2.1.length : Int)) ∧ x_4.1 < (List.getD s x.1 Pl.dY).2.1.length ∧ ∃ x_5 : List Int × Int × Int,
 Rd (549755813888 : Int) x_5.1 x_5.2.1 ∧ (((0 : Nat) = (0 : Nat) ∧ (List.getD s x.1 Pl.dY).2.1.getD x_4.1 (0 : Int) = x_5.2.2 ∧ True) ∧ (Is (byts b) (byts x_5.1) ∧ x_4.2.2.2 = x_5.2.1 ∧ True) ∧ True) ∧ ∀ (y : Pl.Rt × Int),
 x_5.2.1 ≤ y.2 ∧ y.2 ≤ x_5.2.1 + (2 : Int) →
 (0 : Nat) + x_4.2.1.length ≤ x_4.2.1.length ∧ (x_4.2.1.length + (1 : Nat)) * (16 : Nat) ≤ (70368744177664 : Nat) ∧ Exists fun (x' : Nat × List Pl.Rt × Pl.Rt × Int) =>
 (x'.1 ≤ (List.getD s x.1 Pl.dY).2.1.length ∧ x'.2.1.length = x'.1 ∧ p ≤ x'.2.2.2 ∧ x'.2.2.2 ≤
 p + (100 : Int) * (↑x.1 : Int) + (3 : Int) + (30 : Int) * ((3 : Int) - x_2.1) +
 (2 : Int) * (↑x'.1 : Int)) ∧ (List.getD s x.1 Pl.dY).2.1.length - x'.1 < (List.getD s x.1 Pl.dY).2.1.length - x_4.1 ∧ ((0 : Nat) = (0 : Nat) ∧ (0 : Nat) = (0 : Nat) ∧ (0 : Nat) = (0 : Nat) ∧ ((0 : Nat) = (0 : Nat) ∧ List.length x_2.2.1 = List.length x_2.2.1) ∧ (↑x.1 : Int) = (↑x.1 : Int) ∧ x_2.1 = x_2.1 ∧ (0 : Nat) = (0 : Nat) ∧ IntKind.i64.wrap ((↑x_4.1 : Int) + (1 : Int)) = (↑x'.1 : Int) ∧ True) ∧ (Is (byts x_5.1) (byts b) ∧ y.2 = x'.2.2.2 ∧ True) ∧ (Is (syms s) (syms s) ∧ True) ∧ (Is (AV.lit (0 : Nat) (1 : Nat) fun (x x_6 : Nat) => AV.any) nilA ∧ True) ∧ IsO (xrR x_2.2.1) (xrR x_2.2.1) ∧ ((List.getD s x.1 Pl.dY).1 = (List.getD s x.1 Pl.dY).1 ∧ ((0 : Nat) = (0 : Nat) ∧ x_4.2.1.length + (1 : Nat) = x'.2.1.length) ∧ x_4.2.2.1.1 = x'.2.2.1.1 ∧ x_4.2.2.1.2 = x'.2.2.1.2 ∧ True) ∧ IsO
 (AObj.arr (x_4.2.1.length + (1 : Nat)) (2 : Nat)
 (joinC x_4.2.1.length (cQ x_4.2.1)
 (rowsCell [[i64 y.1.1, i64 y.1.2]])))
 (arQ x'.2.1) ∧ True) ∧ ((0 : Int) ≤ (↑x.1 : Int) ∧ (↑x.1 : Int) < (↑(List.length s) : Int)) ∧ x.1 < List.length s ∧ ((0 : Int) ≤ (↑x_4.1 : Int) ∧ (↑x_4.1 : Int) < (↑(List.getD s x.1 Pl.dY).2.1.length : Int)) ∧ x_4.1 < (List.getD s x.1 Pl.dY).2.1.length ∧ (∃ x_5 : List Int × Int × Int,
 Rd (549755813888 : Int) x_5.1 x_5.2.1 ∧ (((0 : Nat) = (0 : Nat) ∧ (List.getD s x.1 Pl.dY).2.1.getD x_4.1 (0 : Int) = x_5.2.2 ∧ True) ∧ (Is (byts b) (byts x_5.1) ∧ x_4.2.2.2 = x_5.2.1 ∧ True) ∧ True) ∧ ∀ (y : Pl.Rt × Int),
 x_5.2.1 ≤ y.2 ∧ y.2 ≤ x_5.2.1 + (2 : Int) →
 (0 : Nat) + x_4.2.1.length ≤ x_4.2.1.length ∧ (x_4.2.1.length + (1 : Nat)) * (16 : Nat) ≤ (70368744177664 : Nat) ∧ Exists fun (x' : Nat × List Pl.Rt × Pl.Rt × Int) =>
 (x'.1 ≤ (List.getD s x.1 Pl.dY).2.1.length ∧ x'.2.1.length = x'.1 ∧ p ≤ x'.2.2.2 ∧ x'.2.2.2 ≤
 p + (100 : Int) * (↑x.1 : Int) + (3 : Int) + (30 : Int) * ((3 : Int) - x_2.1) +
 (2 : Int) * (↑x'.1 : Int)) ∧ (List.getD s x.1 Pl.dY).2.1.length - x'.1 < (List.getD s x.1 Pl.dY).2.1.length - x_4.1 ∧ ((0 : Nat) = (0 : Nat) ∧ (0 : Nat) = (0 : Nat) ∧ (0 : Nat) = (0 : Nat) ∧ ((0 : Nat) = (0 : Nat) ∧ List.length x_2.2.1 = List.length x_2.2.1) ∧ (↑x.1 : Int) = (↑x.1 : Int) ∧ x_2.1 = x_2.1 ∧ (0 : Nat) = (0 : Nat) ∧ IntKind.i64.wrap ((↑x_4.1 : Int) + (1 : Int)) = (↑x'.1 : Int) ∧ True) ∧ (Is (byts x_5.1) (byts b) ∧ y.2 = x'.2.2.2 ∧ True) ∧ (Is (syms s) (syms s) ∧ True) ∧ (Is (AV.lit (0 : Nat) (1 : Nat) fun (x x_6 : Nat) => AV.any) nilA ∧ True) ∧ IsO (xrR x_2.2.1) (xrR x_2.2.1) ∧ ((List.getD s x.1 Pl.dY).1 = (List.getD s x.1 Pl.dY).1 ∧ ((0 : Nat) = (0 : Nat) ∧ x_4.2.1.length + (1 : Nat) = x'.2.1.length) ∧ x_4.2.2.1.1 = x'.2.2.1.1 ∧ x_4.2.2.1.2 = x'.2.2.1.2 ∧ True) ∧ IsO
 (AObj.arr (x_4.2.1.length + (1 : Nat)) (2 : Nat)
 (joinC x_4.2.1.length (cQ x_4.2.1)
 (rowsCell [[i64 y.1.1, i64 y.1.2]])))
 (arQ x'.2.1) ∧ True) ∧ ∃ x_5 : List Int × Int × Int,
 Rd (549755813888 : Int) x_5.1 x_5.2.1 ∧ (((0 : Nat) = (0 : Nat) ∧ (List.getD s x.1 Pl.dY).2.1.getD x_4.1 (0 : Int) = x_5.2.2 ∧ True) ∧ (Is (byts b) (byts x_5.1) ∧ x_4.2.2.2 = x_5.2.1 ∧ True) ∧ True) ∧ ∀ (y : Pl.Rt × Int),
 x_5.2.1 ≤ y.2 ∧ y.2 ≤ x_5.2.1 + (2 : Int) →
 (0 : Nat) + x_4.2.1.length ≤ x_4.2.1.length ∧ (x_4.2.1.length + (1 : Nat)) * (16 : Nat) ≤ (70368744177664 : Nat) ∧ Exists fun (x' : Nat × List Pl.Rt × Pl.Rt × Int) =>
 (x'.1 ≤ (List.getD s x.1 Pl.dY).2.1.length ∧ x'.2.1.length = x'.1 ∧ p ≤ x'.2.2.2 ∧ x'.2.2.2 ≤
 p + (100 : Int) * (↑x.1 : Int) + (3 : Int) + (30 : Int) * ((3 : Int) - x_2.1) +
 (2 : Int) * (↑x'.1 : Int)) ∧ (List.getD s x.1 Pl.dY).2.1.length - x'.1 < (List.getD s x.1 Pl.dY).2.1.length - x_4.1 ∧ ((0 : Nat) = (0 : Nat) ∧ (0 : Nat) = (0 : Nat) ∧ (0 : Nat) = (0 : Nat) ∧ ((0 : Nat) = (0 : Nat) ∧ List.length x_2.2.1 = List.length x_2.2.1) ∧ (↑x.1 : Int) = (↑x.1 : Int) ∧ x_2.1 = x_2.1 ∧ (0 : Nat) = (0 : Nat) ∧ IntKind.i64.wrap ((↑x_4.1 : Int) + (1 : Int)) = (↑x'.1 : Int) ∧ True) ∧ (Is (byts x_5.1) (byts b) ∧ y.2 = x'.2.2.2 ∧ True) ∧ (Is (syms s) (syms s) ∧ True) ∧ (Is (AV.lit (0 : Nat) (1 : Nat) fun (x x_6 : Nat) => AV.any) nilA ∧ True) ∧ IsO (xrR x_2.2.1) (xrR x_2.2.1) ∧ ((List.getD s x.1 Pl.dY).1 = (List.getD s x.1 Pl.dY).1 ∧ ((0 : Nat) = (0 : Nat) ∧ x_4.2.1.length + (1 : Nat) = x'.2.1.length) ∧ x_4.2.2.1.1 = x'.2.2.1.1 ∧ x_4.2.2.1.2 = x'.2.2.1.2 ∧ True) ∧ IsO
 (AObj.arr (x_4.2.1.length + (1 : Nat)) (2 : Nat)
 (joinC x_4.2.1.length (cQ x_4.2.1)
 (rowsCell [[i64 y.1.1, i64 y.1.2]])))
 (arQ x'.2.1) ∧ True)
 (∃ x_5 : List Pl.Rw × Pl.Rw,
 (x_5.1.length ≤ (1000 : Nat) ∧ (∀ (y : Pl.Rw), y ∈ x_5.1 → y.2.1.length ≤ (1000 : Nat)) ∧ x_5.2.2.1.length ≤ (1000 : Nat)) ∧ ((((0 : Nat) = (0 : Nat) ∧ List.length x_2.2.1 = x_5.1.length) ∧ ((List.getD s x.1 Pl.dY).1 = x_5.2.1 ∧ ((0 : Nat) = (0 : Nat) ∧ x_4.2.1.length = x_5.2.2.1.length) ∧ x_4.2.2.1.1 = x_5.2.2.2.1 ∧ x_4.2.2.1.2 = x_5.2.2.2.2 ∧ True) ∧ True) ∧ IsO (xrR x_2.2.1) (xrR x_5.1) ∧ IsO (arQ x_4.2.1) (arQ x_5.2.2.1) ∧ True) ∧ ∀ (y : List Nat),
 HPut x_5.1.length y →
 Exists fun (x' : Int × Pl.Mdl × Int) =>
 ((0 : Int) ≤ x'.1 ∧ x'.1 ≤ (3 : Int) ∧ Pl.MdB ((3 : Nat) * x.1 + (3 : Nat) - x'.1.toNat) (2 : Nat) x'.2.1 ∧ p ≤ x'.2.2 ∧ x'.2.2 ≤ p + (100 : Int) * (↑x.1 : Int) + (1 : Int) + (30 : Int) * ((3 : Int) - x'.1)) ∧ x'.1.toNat < x_2.1.toNat ∧ ((0 : Nat) = (0 : Nat) ∧ (0 : Nat) = (0 : Nat) ∧ (0 : Nat) = (0 : Nat) ∧ ((0 : Nat) = (0 : Nat) ∧ y.length = List.length x'.2.1) ∧ (↑x.1 : Int) = (↑x.1 : Int) ∧ IntKind.i64.wrap (x_2.1 - (1 : Int)) = x'.1 ∧ True) ∧ (Is (byts b) (byts b) ∧ x_4.2.2.2 = x'.2.2 ∧ True) ∧ (Is (syms s) (syms s) ∧ True) ∧ (Is (AV.lit (0 : Nat) (1 : Nat) fun (x x_6 : Nat) => AV.any) nilA ∧ True) ∧ IsO (xrR (List.map (fun (i : Nat) => (x_5.1 ++ [x_5.2]).getD i Pl.dR) y)) (xrR x'.2.1) ∧ True)) ∧ ∃ x_3 : List Int × Int × Int,
 Rd (549755813888 : Int) x_3.1 x_3.2.1 ∧ (((0 : Nat) = (0 : Nat) ∧ (List.getD s x.1 Pl.dY).2.2 = x_3.2.2 ∧ True) ∧ (Is (byts b) (byts x_3.1) ∧ x_2.2.2 = x_3.2.1 ∧ True) ∧ True) ∧ ∀ (y : Pl.Rt × Int),
 x_3.2.1 ≤ y.2 ∧ y.2 ≤ x_3.2.1 + (2 : Int) →
 (∃ x_4 : Nat × List Pl.Rt × Pl.Rt × Int,
 (x_4.1 ≤ (List.getD s x.1 Pl.dY).2.1.length ∧ x_4.2.1.length = x_4.1 ∧ p ≤ x_4.2.2.2 ∧ x_4.2.2.2 ≤ p + (100 : Int) * (↑x.1 : Int) + (3 : Int) + (30 : Int) * ((3 : Int) - x_2.1) + (2 : Int) * (↑x_4.1 : Int)) ∧ ((0 : Nat) = (0 : Nat) ∧ (0 : Nat) = (0 : Nat) ∧ (0 : Nat) = (0 : Nat) ∧ ((0 : Nat) = (0 : Nat) ∧ List.length x_2.2.1 = List.length x_2.2.1) ∧ (↑x.1 : Int) = (↑x.1 : Int) ∧ x_2.1 = x_2.1 ∧ (0 : Nat) = (0 : Nat) ∧ (0 : Int) = (↑x_4.1 : Int) ∧ True) ∧ (Is (byts x_3.1) (byts b) ∧ y.2 = x_4.2.2.2 ∧ True) ∧ (Is (syms s) (syms s) ∧ True) ∧ (Is (AV.lit (0 : Nat) (1 : Nat) fun (x x_5 : Nat) => AV.any) nilA ∧ True) ∧ IsO (xrR x_2.2.1) (xrR x_2.2.1) ∧ ((List.getD s x.1 Pl.dY).1 = (List.getD s x.1 Pl.dY).1 ∧ ((0 : Nat) = (0 : Nat) ∧ (0 : Nat) = (0 : Nat) ∧ x_4.2.1.length = (0 : Nat)) ∧ y.1.1 = x_4.2.2.1.1 ∧ y.1.2 = x_4.2.2.1.2 ∧ True) ∧ x_4.2.1.length = (0 : Nat) ∧ True) ∧ ∀ (x_4 : Nat × List Pl.Rt × Pl.Rt × Int),
 x_4.1 ≤ (List.getD s x.1 Pl.dY).2.1.length ∧ x_4.2.1.length = x_4.1 ∧ p ≤ x_4.2.2.2 ∧ x_4.2.2.2 ≤ p + (100 : Int) * (↑x.1 : Int) + (3 : Int) + (30 : Int) * ((3 : Int) - x_2.1) + (2 : Int) * (↑x_4.1 : Int) →
 ((0 : Int) ≤ (↑x.1 : Int) ∧ (↑x.1 : Int) < (↑(List.length s) : Int)) ∧ x.1 < List.length s ∧ condP (decide ((↑x_4.1 : Int) < (↑(List.getD s x.1 Pl.dY).2.1.length : Int)))
 ((((0 : Int) ≤ (↑x.1 : Int) ∧ (↑x.1 : Int) < (↑(List.length s) : Int)) ∧ x.1 < List.length s ∧ ((0 : Int) ≤ (↑x_4.1 : Int) ∧ (↑x_4.1 : Int) < (↑(List.getD s x.1 Pl.dY).2.1.length : Int)) ∧ x_4.1 < (List.getD s x.1 Pl.dY).2.1.length ∧ ∃ x_5 : List Int × Int × Int,
 Rd (549755813888 : Int) x_5.1 x_5.2.1 ∧ (((0 : Nat) = (0 : Nat) ∧ (List.getD s x.1 Pl.dY).2.1.getD x_4.1 (0 : Int) = x_5.2.2 ∧ True) ∧ (Is (byts b) (byts x_5.1) ∧ x_4.2.2.2 = x_5.2.1 ∧ True) ∧ True) ∧ ∀ (y : Pl.Rt × Int),
 x_5.2.1 ≤ y.2 ∧ y.2 ≤ x_5.2.1 + (2 : Int) →
 (0 : Nat) + x_4.2.1.length ≤ x_4.2.1.length ∧ (x_4.2.1.length + (1 : Nat)) * (16 : Nat) ≤ (70368744177664 : Nat) ∧ Exists fun (x' : Nat × List Pl.Rt × Pl.Rt × Int) =>
 (x'.1 ≤ (List.getD s x.1 Pl.dY).2.1.length ∧ x'.2.1.length = x'.1 ∧ p ≤ x'.2.2.2 ∧ x'.2.2.2 ≤
 p + (100 : Int) * (↑x.1 : Int) + (3 : Int) + (30 : Int) * ((3 : Int) - x_2.1) +
 (2 : Int) * (↑x'.1 : Int)) ∧ (List.getD s x.1 Pl.dY).2.1.length - x'.1 < (List.getD s x.1 Pl.dY).2.1.length - x_4.1 ∧ ((0 : Nat) = (0 : Nat) ∧ (0 : Nat) = (0 : Nat) ∧ (0 : Nat) = (0 : Nat) ∧ ((0 : Nat) = (0 : Nat) ∧ List.length x_2.2.1 = List.length x_2.2.1) ∧ (↑x.1 : Int) = (↑x.1 : Int) ∧ x_2.1 = x_2.1 ∧ (0 : Nat) = (0 : Nat) ∧ IntKind.i64.wrap ((↑x_4.1 : Int) + (1 : Int)) = (↑x'.1 : Int) ∧ True) ∧ (Is (byts x_5.1) (byts b) ∧ y.2 = x'.2.2.2 ∧ True) ∧ (Is (syms s) (syms s) ∧ True) ∧ (Is (AV.lit (0 : Nat) (1 : Nat) fun (x x_6 : Nat) => AV.any) nilA ∧ True) ∧ IsO (xrR x_2.2.1) (xrR x_2.2.1) ∧ ((List.getD s x.1 Pl.dY).1 = (List.getD s x.1 Pl.dY).1 ∧ ((0 : Nat) = (0 : Nat) ∧ x_4.2.1.length + (1 : Nat) = x'.2.1.length) ∧ x_4.2.2.1.1 = x'.2.2.1.1 ∧ x_4.2.2.1.2 = x'.2.2.1.2 ∧ True) ∧ IsO
 (AObj.arr (x_4.2.1.length + (1 : Nat)) (2 : Nat)
 (joinC x_4.2.1.length (cQ x_4.2.1)
 (rowsCell [[i64 y.1.1, i64 y.1.2]])))
 (arQ x'.2.1) ∧ True) ∧ ((0 : Int) ≤ (↑x.1 : Int) ∧ (↑x.1 : Int) < (↑(List.length s) : Int)) ∧ x.1 < List.length s ∧ ((0 : Int) ≤ (↑x_4.1 : Int) ∧ (↑x_4.1 : Int) < (↑(List.getD s x.1 Pl.dY).2.1.length : Int)) ∧ x_4.1 < (List.getD s x.1 Pl.dY).2.1.length ∧ (∃ x_5 : List Int × Int × Int,
 Rd (549755813888 : Int) x_5.1 x_5.2.1 ∧ (((0 : Nat) = (0 : Nat) ∧ (List.getD s x.1 Pl.dY).2.1.getD x_4.1 (0 : Int) = x_5.2.2 ∧ True) ∧ (Is (byts b) (byts x_5.1) ∧ x_4.2.2.2 = x_5.2.1 ∧ True) ∧ True) ∧ ∀ (y : Pl.Rt × Int),
 x_5.2.1 ≤ y.2 ∧ y.2 ≤ x_5.2.1 + (2 : Int) →
 (0 : Nat) + x_4.2.1.length ≤ x_4.2.1.length ∧ (x_4.2.1.length + (1 : Nat)) * (16 : Nat) ≤ (70368744177664 : Nat) ∧ Exists fun (x' : Nat × List Pl.Rt × Pl.Rt × Int) =>
 (x'.1 ≤ (List.getD s x.1 Pl.dY).2.1.length ∧ x'.2.1.length = x'.1 ∧ p ≤ x'.2.2.2 ∧ x'.2.2.2 ≤
 p + (100 : Int) * (↑x.1 : Int) + (3 : Int) + (30 : Int) * ((3 : Int) - x_2.1) +
 (2 : Int) * (↑x'.1 : Int)) ∧ (List.getD s x.1 Pl.dY).2.1.length - x'.1 < (List.getD s x.1 Pl.dY).2.1.length - x_4.1 ∧ ((0 : Nat) = (0 : Nat) ∧ (0 : Nat) = (0 : Nat) ∧ (0 : Nat) = (0 : Nat) ∧ ((0 : Nat) = (0 : Nat) ∧ List.length x_2.2.1 = List.length x_2.2.1) ∧ (↑x.1 : Int) = (↑x.1 : Int) ∧ x_2.1 = x_2.1 ∧ (0 : Nat) = (0 : Nat) ∧ IntKind.i64.wrap ((↑x_4.1 : Int) + (1 : Int)) = (↑x'.1 : Int) ∧ True) ∧ (Is (byts x_5.1) (byts b) ∧ y.2 = x'.2.2.2 ∧ True) ∧ (Is (syms s) (syms s) ∧ True) ∧ (Is (AV.lit (0 : Nat) (1 : Nat) fun (x x_6 : Nat) => AV.any) nilA ∧ True) ∧ IsO (xrR x_2.2.1) (xrR x_2.2.1) ∧ ((List.getD s x.1 Pl.dY).1 = (List.getD s x.1 Pl.dY).1 ∧ ((0 : Nat) = (0 : Nat) ∧ x_4.2.1.length + (1 : Nat) = x'.2.1.length) ∧ x_4.2.2.1.1 = x'.2.2.1.1 ∧ x_4.2.2.1.2 = x'.2.2.1.2 ∧ True) ∧ IsO
 (AObj.arr (x_4.2.1.length + (1 : Nat)) (2 : Nat)
 (joinC x_4.2.1.length (cQ x_4.2.1)
 (rowsCell [[i64 y.1.1, i64 y.1.2]])))
 (arQ x'.2.1) ∧ True) ∧ ∃ x_5 : List Int × Int × Int,
 Rd (549755813888 : Int) x_5.1 x_5.2.1 ∧ (((0 : Nat) = (0 : Nat) ∧ (List.getD s x.1 Pl.dY).2.1.getD x_4.1 (0 : Int) = x_5.2.2 ∧ True) ∧ (Is (byts b) (byts x_5.1) ∧ x_4.2.2.2 = x_5.2.1 ∧ True) ∧ True) ∧ ∀ (y : Pl.Rt × Int),
 x_5.2.1 ≤ y.2 ∧ y.2 ≤ x_5.2.1 + (2 : Int) →
 (0 : Nat) + x_4.2.1.length ≤ x_4.2.1.length ∧ (x_4.2.1.length + (1 : Nat)) * (16 : Nat) ≤ (70368744177664 : Nat) ∧ Exists fun (x' : Nat × List Pl.Rt × Pl.Rt × Int) =>
 (x'.1 ≤ (List.getD s x.1 Pl.dY).2.1.length ∧ x'.2.1.length = x'.1 ∧ p ≤ x'.2.2.2 ∧ x'.2.2.2 ≤
 p + (100 : Int) * (↑x.1 : Int) + (3 : Int) + (30 : Int) * ((3 : Int) - x_2.1) +
 (2 : Int) * (↑x'.1 : Int)) ∧ (List.getD s x.1 Pl.dY).2.1.length - x'.1 < (List.getD s x.1 Pl.dY).2.1.length - x_4.1 ∧ ((0 : Nat) = (0 : Nat) ∧ (0 : Nat) = (0 : Nat) ∧ (0 : Nat) = (0 : Nat) ∧ ((0 : Nat) = (0 : Nat) ∧ List.length x_2.2.1 = List.length x_2.2.1) ∧ (↑x.1 : Int) = (↑x.1 : Int) ∧ x_2.1 = x_2.1 ∧ (0 : Nat) = (0 : Nat) ∧ IntKind.i64.wrap ((↑x_4.1 : Int) + (1 : Int)) = (↑x'.1 : Int) ∧ True) ∧ (Is (byts x_5.1) (byts b) ∧ y.2 = x'.2.2.2 ∧ True) ∧ (Is (syms s) (syms s) ∧ True) ∧ (Is (AV.lit (0 : Nat) (1 : Nat) fun (x x_6 : Nat) => AV.any) nilA ∧ True) ∧ IsO (xrR x_2.2.1) (xrR x_2.2.1) ∧ ((List.getD s x.1 Pl.dY).1 = (List.getD s x.1 Pl.dY).1 ∧ ((0 : Nat) = (0 : Nat) ∧ x_4.2.1.length + (1 : Nat) = x'.2.1.length) ∧ x_4.2.2.1.1 = x'.2.2.1.1 ∧ x_4.2.2.1.2 = x'.2.2.1.2 ∧ True) ∧ IsO
 (AObj.arr (x_4.2.1.length + (1 : Nat)) (2 : Nat)
 (joinC x_4.2.1.length (cQ x_4.2.1)
 (rowsCell [[i64 y.1.1, i64 y.1.2]])))
 (arQ x'.2.1) ∧ True)
 (∃ x_5 : List Pl.Rw × Pl.Rw,
 (x_5.1.length ≤ (1000 : Nat) ∧ (∀ (y : Pl.Rw), y ∈ x_5.1 → y.2.1.length ≤ (1000 : Nat)) ∧ x_5.2.2.1.length ≤ (1000 : Nat)) ∧ ((((0 : Nat) = (0 : Nat) ∧ List.length x_2.2.1 = x_5.1.length) ∧ ((List.getD s x.1 Pl.dY).1 = x_5.2.1 ∧ ((0 : Nat) = (0 : Nat) ∧ x_4.2.1.length = x_5.2.2.1.length) ∧ x_4.2.2.1.1 = x_5.2.2.2.1 ∧ x_4.2.2.1.2 = x_5.2.2.2.2 ∧ True) ∧ True) ∧ IsO (xrR x_2.2.1) (xrR x_5.1) ∧ IsO (arQ x_4.2.1) (arQ x_5.2.2.1) ∧ True) ∧ ∀ (y : List Nat),
 HPut x_5.1.length y →
 Exists fun (x' : Int × Pl.Mdl × Int) =>
 ((0 : Int) ≤ x'.1 ∧ x'.1 ≤ (3 : Int) ∧ Pl.MdB ((3 : Nat) * x.1 + (3 : Nat) - x'.1.toNat) (2 : Nat) x'.2.1 ∧ p ≤ x'.2.2 ∧ x'.2.2 ≤ p + (100 : Int) * (↑x.1 : Int) + (1 : Int) + (30 : Int) * ((3 : Int) - x'.1)) ∧ x'.1.toNat < x_2.1.toNat ∧ ((0 : Nat) = (0 : Nat) ∧ (0 : Nat) = (0 : Nat) ∧ (0 : Nat) = (0 : Nat) ∧ ((0 : Nat) = (0 : Nat) ∧ y.length = List.length x'.2.1) ∧ (↑x.1 : Int) = (↑x.1 : Int) ∧ IntKind.i64.wrap (x_2.1 - (1 : Int)) = x'.1 ∧ True) ∧ (Is (byts b) (byts b) ∧ x_4.2.2.2 = x'.2.2 ∧ True) ∧ (Is (syms s) (syms s) ∧ True) ∧ (Is (AV.lit (0 : Nat) (1 : Nat) fun (x x_6 : Nat) => AV.any) nilA ∧ True) ∧ IsO (xrR (List.map (fun (i : Nat) => (x_5.1 ++ [x_5.2]).getD i Pl.dR) y)) (xrR x'.2.1) ∧ True)) ∧ ((0 : Int) ≤ (↑x.1 : Int) ∧ (↑x.1 : Int) < (↑(List.length s) : Int)) ∧ x.1 < List.length s ∧ ∃ x_3 : List Int × Int × Int,
 Rd (549755813888 : Int) x_3.1 x_3.2.1 ∧ (((0 : Nat) = (0 : Nat) ∧ (List.getD s x.1 Pl.dY).2.2 = x_3.2.2 ∧ True) ∧ (Is (byts b) (byts x_3.1) ∧ x_2.2.2 = x_3.2.1 ∧ True) ∧ True) ∧ ∀ (y : Pl.Rt × Int),
 x_3.2.1 ≤ y.2 ∧ y.2 ≤ x_3.2.1 + (2 : Int) →
 (∃ x_4 : Nat × List Pl.Rt × Pl.Rt × Int,
 (x_4.1 ≤ (List.getD s x.1 Pl.dY).2.1.length ∧ x_4.2.1.length = x_4.1 ∧ p ≤ x_4.2.2.2 ∧ x_4.2.2.2 ≤ p + (100 : Int) * (↑x.1 : Int) + (3 : Int) + (30 : Int) * ((3 : Int) - x_2.1) + (2 : Int) * (↑x_4.1 : Int)) ∧ ((0 : Nat) = (0 : Nat) ∧ (0 : Nat) = (0 : Nat) ∧ (0 : Nat) = (0 : Nat) ∧ ((0 : Nat) = (0 : Nat) ∧ List.length x_2.2.1 = List.length x_2.2.1) ∧ (↑x.1 : Int) = (↑x.1 : Int) ∧ x_2.1 = x_2.1 ∧ (0 : Nat) = (0 : Nat) ∧ (0 : Int) = (↑x_4.1 : Int) ∧ True) ∧ (Is (byts x_3.1) (byts b) ∧ y.2 = x_4.2.2.2 ∧ True) ∧ (Is (syms s) (syms s) ∧ True) ∧ (Is (AV.lit (0 : Nat) (1 : Nat) fun (x x_5 : Nat) => AV.any) nilA ∧ True) ∧ IsO (xrR x_2.2.1) (xrR x_2.2.1) ∧ ((List.getD s x.1 Pl.dY).1 = (List.getD s x.1 Pl.dY).1 ∧ ((0 : Nat) = (0 : Nat) ∧ (0 : Nat) = (0 : Nat) ∧ x_4.2.1.length = (0 : Nat)) ∧ y.1.1 = x_4.2.2.1.1 ∧ y.1.2 = x_4.2.2.1.2 ∧ True) ∧ x_4.2.1.length = (0 : Nat) ∧ True) ∧ ∀ (x_4 : Nat × List Pl.Rt × Pl.Rt × Int),
 x_4.1 ≤ (List.getD s x.1 Pl.dY).2.1.length ∧ x_4.2.1.length = x_4.1 ∧ p ≤ x_4.2.2.2 ∧ x_4.2.2.2 ≤ p + (100 : Int) * (↑x.1 : Int) + (3 : Int) + (30 : Int) * ((3 : Int) - x_2.1) + (2 : Int) * (↑x_4.1 : Int) →
 ((0 : Int) ≤ (↑x.1 : Int) ∧ (↑x.1 : Int) < (↑(List.length s) : Int)) ∧ x.1 < List.length s ∧ condP (decide ((↑x_4.1 : Int) < (↑(List.getD s x.1 Pl.dY).2.1.length : Int)))
 ((((0 : Int) ≤ (↑x.1 : Int) ∧ (↑x.1 : Int) < (↑(List.length s) : Int)) ∧ x.1 < List.length s ∧ ((0 : Int) ≤ (↑x_4.1 : Int) ∧ (↑x_4.1 : Int) < (↑(List.getD s x.1 Pl.dY).2.1.length : Int)) ∧ x_4.1 < (List.getD s x.1 Pl.dY).2.1.length ∧ ∃ x_5 : List Int × Int × Int,
 Rd (549755813888 : Int) x_5.1 x_5.2.1 ∧ (((0 : Nat) = (0 : Nat) ∧ (List.getD s x.1 Pl.dY).2.1.getD x_4.1 (0 : Int) = x_5.2.2 ∧ True) ∧ (Is (byts b) (byts x_5.1) ∧ x_4.2.2.2 = x_5.2.1 ∧ True) ∧ True) ∧ ∀ (y : Pl.Rt × Int),
 x_5.2.1 ≤ y.2 ∧ y.2 ≤ x_5.2.1 + (2 : Int) →
 (0 : Nat) + x_4.2.1.length ≤ x_4.2.1.length ∧ (x_4.2.1.length + (1 : Nat)) * (16 : Nat) ≤ (70368744177664 : Nat) ∧ Exists fun (x' : Nat × List Pl.Rt × Pl.Rt × Int) =>
 (x'.1 ≤ (List.getD s x.1 Pl.dY).2.1.length ∧ x'.2.1.length = x'.1 ∧ p ≤ x'.2.2.2 ∧ x'.2.2.2 ≤
 p + (100 : Int) * (↑x.1 : Int) + (3 : Int) + (30 : Int) * ((3 : Int) - x_2.1) +
 (2 : Int) * (↑x'.1 : Int)) ∧ (List.getD s x.1 Pl.dY).2.1.length - x'.1 < (List.getD s x.1 Pl.dY).2.1.length - x_4.1 ∧ ((0 : Nat) = (0 : Nat) ∧ (0 : Nat) = (0 : Nat) ∧ (0 : Nat) = (0 : Nat) ∧ ((0 : Nat) = (0 : Nat) ∧ List.length x_2.2.1 = List.length x_2.2.1) ∧ (↑x.1 : Int) = (↑x.1 : Int) ∧ x_2.1 = x_2.1 ∧ (0 : Nat) = (0 : Nat) ∧ IntKind.i64.wrap ((↑x_4.1 : Int) + (1 : Int)) = (↑x'.1 : Int) ∧ True) ∧ (Is (byts x_5.1) (byts b) ∧ y.2 = x'.2.2.2 ∧ True) ∧ (Is (syms s) (syms s) ∧ True) ∧ (Is (AV.lit (0 : Nat) (1 : Nat) fun (x x_6 : Nat) => AV.any) nilA ∧ True) ∧ IsO (xrR x_2.2.1) (xrR x_2.2.1) ∧ ((List.getD s x.1 Pl.dY).1 = (List.getD s x.1 Pl.dY).1 ∧ ((0 : Nat) = (0 : Nat) ∧ x_4.2.1.length + (1 : Nat) = x'.2.1.length) ∧ x_4.2.2.1.1 = x'.2.2.1.1 ∧ x_4.2.2.1.2 = x'.2.2.1.2 ∧ True) ∧ IsO
 (AObj.arr (x_4.2.1.length + (1 : Nat)) (2 : Nat)
 (joinC x_4.2.1.length (cQ x_4.2.1)
 (rowsCell [[i64 y.1.1, i64 y.1.2]])))
 (arQ x'.2.1) ∧ True) ∧ ((0 : Int) ≤ (↑x.1 : Int) ∧ (↑x.1 : Int) < (↑(List.length s) : Int)) ∧ x.1 < List.length s ∧ ((0 : Int) ≤ (↑x_4.1 : Int) ∧ (↑x_4.1 : Int) < (↑(List.getD s x.1 Pl.dY).2.1.length : Int)) ∧ x_4.1 < (List.getD s x.1 Pl.dY).2.1.length ∧ (∃ x_5 : List Int × Int × Int,
 Rd (549755813888 : Int) x_5.1 x_5.2.1 ∧ (((0 : Nat) = (0 : Nat) ∧ (List.getD s x.1 Pl.dY).2.1.getD x_4.1 (0 : Int) = x_5.2.2 ∧ True) ∧ (Is (byts b) (byts x_5.1) ∧ x_4.2.2.2 = x_5.2.1 ∧ True) ∧ True) ∧ ∀ (y : Pl.Rt × Int),
 x_5.2.1 ≤ y.2 ∧ y.2 ≤ x_5.2.1 + (2 : Int) →
 (0 : Nat) + x_4.2.1.length ≤ x_4.2.1.length ∧ (x_4.2.1.length + (1 : Nat)) * (16 : Nat) ≤ (70368744177664 : Nat) ∧ Exists fun (x' : Nat × List Pl.Rt × Pl.Rt × Int) =>
 (x'.1 ≤ (List.getD s x.1 Pl.dY).2.1.length ∧ x'.2.1.length = x'.1 ∧ p ≤ x'.2.2.2 ∧ x'.2.2.2 ≤
 p + (100 : Int) * (↑x.1 : Int) + (3 : Int) + (30 : Int) * ((3 : Int) - x_2.1) +
 (2 : Int) * (↑x'.1 : Int)) ∧ (List.getD s x.1 Pl.dY).2.1.length - x'.1 < (List.getD s x.1 Pl.dY).2.1.length - x_4.1 ∧ ((0 : Nat) = (0 : Nat) ∧ (0 : Nat) = (0 : Nat) ∧ (0 : Nat) = (0 : Nat) ∧ ((0 : Nat) = (0 : Nat) ∧ List.length x_2.2.1 = List.length x_2.2.1) ∧ (↑x.1 : Int) = (↑x.1 : Int) ∧ x_2.1 = x_2.1 ∧ (0 : Nat) = (0 : Nat) ∧ IntKind.i64.wrap ((↑x_4.1 : Int) + (1 : Int)) = (↑x'.1 : Int) ∧ True) ∧ (Is (byts x_5.1) (byts b) ∧ y.2 = x'.2.2.2 ∧ True) ∧ (Is (syms s) (syms s) ∧ True) ∧ (Is (AV.lit (0 : Nat) (1 : Nat) fun (x x_6 : Nat) => AV.any) nilA ∧ True) ∧ IsO (xrR x_2.2.1) (xrR x_2.2.1) ∧ ((List.getD s x.1 Pl.dY).1 = (List.getD s x.1 Pl.dY).1 ∧ ((0 : Nat) = (0 : Nat) ∧ x_4.2.1.length + (1 : Nat) = x'.2.1.length) ∧ x_4.2.2.1.1 = x'.2.2.1.1 ∧ x_4.2.2.1.2 = x'.2.2.1.2 ∧ True) ∧ IsO
 (AObj.arr (x_4.2.1.length + (1 : Nat)) (2 : Nat)
 (joinC x_4.2.1.length (cQ x_4.2.1)
 (rowsCell [[i64 y.1.1, i64 y.1.2]])))
 (arQ x'.2.1) ∧ True) ∧ ∃ x_5 : List Int × Int × Int,
 Rd (549755813888 : Int) x_5.1 x_5.2.1 ∧ (((0 : Nat) = (0 : Nat) ∧ (List.getD s x.1 Pl.dY).2.1.getD x_4.1 (0 : Int) = x_5.2.2 ∧ True) ∧ (Is (byts b) (byts x_5.1) ∧ x_4.2.2.2 = x_5.2.1 ∧ True) ∧ True) ∧ ∀ (y : Pl.Rt × Int),
 x_5.2.1 ≤ y.2 ∧ y.2 ≤ x_5.2.1 + (2 : Int) →
 (0 : Nat) + x_4.2.1.length ≤ x_4.2.1.length ∧ (x_4.2.1.length + (1 : Nat)) * (16 : Nat) ≤ (70368744177664 : Nat) ∧ Exists fun (x' : Nat × List Pl.Rt × Pl.Rt × Int) =>
 (x'.1 ≤ (List.getD s x.1 Pl.dY).2.1.length ∧ x'.2.1.length = x'.1 ∧ p ≤ x'.2.2.2 ∧ x'.2.2.2 ≤
 p + (100 : Int) * (↑x.1 : Int) + (3 : Int) + (30 : Int) * ((3 : Int) - x_2.1) +
 (2 : Int) * (↑x'.1 : Int)) ∧ (List.getD s x.1 Pl.dY).2.1.length - x'.1 < (List.getD s x.1 Pl.dY).2.1.length - x_4.1 ∧ ((0 : Nat) = (0 : Nat) ∧ (0 : Nat) = (0 : Nat) ∧ (0 : Nat) = (0 : Nat) ∧ ((0 : Nat) = (0 : Nat) ∧ List.length x_2.2.1 = List.length x_2.2.1) ∧ (↑x.1 : Int) = (↑x.1 : Int) ∧ x_2.1 = x_2.1 ∧ (0 : Nat) = (0 : Nat) ∧ IntKind.i64.wrap ((↑x_4.1 : Int) + (1 : Int)) = (↑x'.1 : Int) ∧ True) ∧ (Is (byts x_5.1) (byts b) ∧ y.2 = x'.2.2.2 ∧ True) ∧ (Is (syms s) (syms s) ∧ True) ∧ (Is (AV.lit (0 : Nat) (1 : Nat) fun (x x_6 : Nat) => AV.any) nilA ∧ True) ∧ IsO (xrR x_2.2.1) (xrR x_2.2.1) ∧ ((List.getD s x.1 Pl.dY).1 = (List.getD s x.1 Pl.dY).1 ∧ ((0 : Nat) = (0 : Nat) ∧ x_4.2.1.length + (1 : Nat) = x'.2.1.length) ∧ x_4.2.2.1.1 = x'.2.2.1.1 ∧ x_4.2.2.1.2 = x'.2.2.1.2 ∧ True) ∧ IsO
 (AObj.arr (x_4.2.1.length + (1 : Nat)) (2 : Nat)
 (joinC x_4.2.1.length (cQ x_4.2.1)
 (rowsCell [[i64 y.1.1, i64 y.1.2]])))
 (arQ x'.2.1) ∧ True)
 (∃ x_5 : List Pl.Rw × Pl.Rw,
 (x_5.1.length ≤ (1000 : Nat) ∧ (∀ (y : Pl.Rw), y ∈ x_5.1 → y.2.1.length ≤ (1000 : Nat)) ∧ x_5.2.2.1.length ≤ (1000 : Nat)) ∧ ((((0 : Nat) = (0 : Nat) ∧ List.length x_2.2.1 = x_5.1.length) ∧ ((List.getD s x.1 Pl.dY).1 = x_5.2.1 ∧ ((0 : Nat) = (0 : Nat) ∧ x_4.2.1.length = x_5.2.2.1.length) ∧ x_4.2.2.1.1 = x_5.2.2.2.1 ∧ x_4.2.2.1.2 = x_5.2.2.2.2 ∧ True) ∧ True) ∧ IsO (xrR x_2.2.1) (xrR x_5.1) ∧ IsO (arQ x_4.2.1) (arQ x_5.2.2.1) ∧ True) ∧ ∀ (y : List Nat),
 HPut x_5.1.length y →
 Exists fun (x' : Int × Pl.Mdl × Int) =>
 ((0 : Int) ≤ x'.1 ∧ x'.1 ≤ (3 : Int) ∧ Pl.MdB ((3 : Nat) * x.1 + (3 : Nat) - x'.1.toNat) (2 : Nat) x'.2.1 ∧ p ≤ x'.2.2 ∧ x'.2.2 ≤ p + (100 : Int) * (↑x.1 : Int) + (1 : Int) + (30 : Int) * ((3 : Int) - x'.1)) ∧ x'.1.toNat < x_2.1.toNat ∧ ((0 : Nat) = (0 : Nat) ∧ (0 : Nat) = (0 : Nat) ∧ (0 : Nat) = (0 : Nat) ∧ ((0 : Nat) = (0 : Nat) ∧ y.length = List.length x'.2.1) ∧ (↑x.1 : Int) = (↑x.1 : Int) ∧ IntKind.i64.wrap (x_2.1 - (1 : Int)) = x'.1 ∧ True) ∧ (Is (byts b) (byts b) ∧ x_4.2.2.2 = x'.2.2 ∧ True) ∧ (Is (syms s) (syms s) ∧ True) ∧ (Is (AV.lit (0 : Nat) (1 : Nat) fun (x x_6 : Nat) => AV.any) nilA ∧ True) ∧ IsO (xrR (List.map (fun (i : Nat) => (x_5.1 ++ [x_5.2]).getD i Pl.dR) y)) (xrR x'.2.1) ∧ True)) ∧ (((0 : Int) ≤ (↑x.1 : Int) ∧ (↑x.1 : Int) < (↑(List.length s) : Int)) ∧ x.1 < List.length s ∧ (((0 : Int) ≤ (↑x.1 : Int) ∧ (↑x.1 : Int) < (↑(List.length s) : Int)) ∧ x.1 < List.length s ∧ (∃ x_3 : List Int × Int × Int,
 Rd (549755813888 : Int) x_3.1 x_3.2.1 ∧ (((0 : Nat) = (0 : Nat) ∧ (List.getD s x.1 Pl.dY).2.2 = x_3.2.2 ∧ True) ∧ (Is (byts b) (byts x_3.1) ∧ x_2.2.2 = x_3.2.1 ∧ True) ∧ True) ∧ ∀ (y : Pl.Rt × Int),
 x_3.2.1 ≤ y.2 ∧ y.2 ≤ x_3.2.1 + (2 : Int) →
 (∃ x_4 : Nat × List Pl.Rt × Pl.Rt × Int,
 (x_4.1 ≤ (List.getD s x.1 Pl.dY).2.1.length ∧ x_4.2.1.length = x_4.1 ∧ p ≤ x_4.2.2.2 ∧ x_4.2.2.2 ≤ p + (100 : Int) * (↑x.1 : Int) + (3 : Int) + (30 : Int) * ((3 : Int) - x_2.1) + (2 : Int) * (↑x_4.1 : Int)) ∧ ((0 : Nat) = (0 : Nat) ∧ (0 : Nat) = (0 : Nat) ∧ (0 : Nat) = (0 : Nat) ∧ ((0 : Nat) = (0 : Nat) ∧ List.length x_2.2.1 = List.length x_2.2.1) ∧ (↑x.1 : Int) = (↑x.1 : Int) ∧ x_2.1 = x_2.1 ∧ (0 : Nat) = (0 : Nat) ∧ (0 : Int) = (↑x_4.1 : Int) ∧ True) ∧ (Is (byts x_3.1) (byts b) ∧ y.2 = x_4.2.2.2 ∧ True) ∧ (Is (syms s) (syms s) ∧ True) ∧ (Is (AV.lit (0 : Nat) (1 : Nat) fun (x x_5 : Nat) => AV.any) nilA ∧ True) ∧ IsO (xrR x_2.2.1) (xrR x_2.2.1) ∧ ((List.getD s x.1 Pl.dY).1 = (List.getD s x.1 Pl.dY).1 ∧ ((0 : Nat) = (0 : Nat) ∧ (0 : Nat) = (0 : Nat) ∧ x_4.2.1.length = (0 : Nat)) ∧ y.1.1 = x_4.2.2.1.1 ∧ y.1.2 = x_4.2.2.1.2 ∧ True) ∧ x_4.2.1.length = (0 : Nat) ∧ True) ∧ ∀ (x_4 : Nat × List Pl.Rt × Pl.Rt × Int),
 x_4.1 ≤ (List.getD s x.1 Pl.dY).2.1.length ∧ x_4.2.1.length = x_4.1 ∧ p ≤ x_4.2.2.2 ∧ x_4.2.2.2 ≤ p + (100 : Int) * (↑x.1 : Int) + (3 : Int) + (30 : Int) * ((3 : Int) - x_2.1) + (2 : Int) * (↑x_4.1 : Int) →
 ((0 : Int) ≤ (↑x.1 : Int) ∧ (↑x.1 : Int) < (↑(List.length s) : Int)) ∧ x.1 < List.length s ∧ condP (decide ((↑x_4.1 : Int) < (↑(List.getD s x.1 Pl.dY).2.1.length : Int)))
 ((((0 : Int) ≤ (↑x.1 : Int) ∧ (↑x.1 : Int) < (↑(List.length s) : Int)) ∧ x.1 < List.length s ∧ ((0 : Int) ≤ (↑x_4.1 : Int) ∧ (↑x_4.1 : Int) < (↑(List.getD s x.1 Pl.dY).2.1.length : Int)) ∧ x_4.1 < (List.getD s x.1 Pl.dY).2.1.length ∧ ∃ x_5 : List Int × Int × Int,
 Rd (549755813888 : Int) x_5.1 x_5.2.1 ∧ (((0 : Nat) = (0 : Nat) ∧ (List.getD s x.1 Pl.dY).2.1.getD x_4.1 (0 : Int) = x_5.2.2 ∧ True) ∧ (Is (byts b) (byts x_5.1) ∧ x_4.2.2.2 = x_5.2.1 ∧ True) ∧ True) ∧ ∀ (y : Pl.Rt × Int),
 x_5.2.1 ≤ y.2 ∧ y.2 ≤ x_5.2.1 + (2 : Int) →
 (0 : Nat) + x_4.2.1.length ≤ x_4.2.1.length ∧ (x_4.2.1.length + (1 : Nat)) * (16 : Nat) ≤ (70368744177664 : Nat) ∧ Exists fun (x' : Nat × List Pl.Rt × Pl.Rt × Int) =>
 (x'.1 ≤ (List.getD s x.1 Pl.dY).2.1.length ∧ x'.2.1.length = x'.1 ∧ p ≤ x'.2.2.2 ∧ x'.2.2.2 ≤
 p + (100 : Int) * (↑x.1 : Int) + (3 : Int) + (30 : Int) * ((3 : Int) - x_2.1) +
 (2 : Int) * (↑x'.1 : Int)) ∧ (List.getD s x.1 Pl.dY).2.1.length - x'.1 < (List.getD s x.1 Pl.dY).2.1.length - x_4.1 ∧ ((0 : Nat) = (0 : Nat) ∧ (0 : Nat) = (0 : Nat) ∧ (0 : Nat) = (0 : Nat) ∧ ((0 : Nat) = (0 : Nat) ∧ List.length x_2.2.1 = List.length x_2.2.1) ∧ (↑x.1 : Int) = (↑x.1 : Int) ∧ x_2.1 = x_2.1 ∧ (0 : Nat) = (0 : Nat) ∧ IntKind.i64.wrap ((↑x_4.1 : Int) + (1 : Int)) = (↑x'.1 : Int) ∧ True) ∧ (Is (byts x_5.1) (byts b) ∧ y.2 = x'.2.2.2 ∧ True) ∧ (Is (syms s) (syms s) ∧ True) ∧ (Is (AV.lit (0 : Nat) (1 : Nat) fun (x x_6 : Nat) => AV.any) nilA ∧ True) ∧ IsO (xrR x_2.2.1) (xrR x_2.2.1) ∧ ((List.getD s x.1 Pl.dY).1 = (List.getD s x.1 Pl.dY).1 ∧ ((0 : Nat) = (0 : Nat) ∧ x_4.2.1.length + (1 : Nat) = x'.2.1.length) ∧ x_4.2.2.1.1 = x'.2.2.1.1 ∧ x_4.2.2.1.2 = x'.2.2.1.2 ∧ True) ∧ IsO
 (AObj.arr (x_4.2.1.length + (1 : Nat)) (2 : Nat)
 (joinC x_4.2.1.length (cQ x_4.2.1)
 (rowsCell [[i64 y.1.1, i64 y.1.2]])))
 (arQ x'.2.1) ∧ True) ∧ ((0 : Int) ≤ (↑x.1 : Int) ∧ (↑x.1 : Int) < (↑(List.length s) : Int)) ∧ x.1 < List.length s ∧ ((0 : Int) ≤ (↑x_4.1 : Int) ∧ (↑x_4.1 : Int) < (↑(List.getD s x.1 Pl.dY).2.1.length : Int)) ∧ x_4.1 < (List.getD s x.1 Pl.dY).2.1.length ∧ (∃ x_5 : List Int × Int × Int,
 Rd (549755813888 : Int) x_5.1 x_5.2.1 ∧ (((0 : Nat) = (0 : Nat) ∧ (List.getD s x.1 Pl.dY).2.1.getD x_4.1 (0 : Int) = x_5.2.2 ∧ True) ∧ (Is (byts b) (byts x_5.1) ∧ x_4.2.2.2 = x_5.2.1 ∧ True) ∧ True) ∧ ∀ (y : Pl.Rt × Int),
 x_5.2.1 ≤ y.2 ∧ y.2 ≤ x_5.2.1 + (2 : Int) →
 (0 : Nat) + x_4.2.1.length ≤ x_4.2.1.length ∧ (x_4.2.1.length + (1 : Nat)) * (16 : Nat) ≤ (70368744177664 : Nat) ∧ Exists fun (x' : Nat × List Pl.Rt × Pl.Rt × Int) =>
 (x'.1 ≤ (List.getD s x.1 Pl.dY).2.1.length ∧ x'.2.1.length = x'.1 ∧ p ≤ x'.2.2.2 ∧ x'.2.2.2 ≤
 p + (100 : Int) * (↑x.1 : Int) + (3 : Int) + (30 : Int) * ((3 : Int) - x_2.1) +
 (2 : Int) * (↑x'.1 : Int)) ∧ (List.getD s x.1 Pl.dY).2.1.length - x'.1 < (List.getD s x.1 Pl.dY).2.1.length - x_4.1 ∧ ((0 : Nat) = (0 : Nat) ∧ (0 : Nat) = (0 : Nat) ∧ (0 : Nat) = (0 : Nat) ∧ ((0 : Nat) = (0 : Nat) ∧ List.length x_2.2.1 = List.length x_2.2.1) ∧ (↑x.1 : Int) = (↑x.1 : Int) ∧ x_2.1 = x_2.1 ∧ (0 : Nat) = (0 : Nat) ∧ IntKind.i64.wrap ((↑x_4.1 : Int) + (1 : Int)) = (↑x'.1 : Int) ∧ True) ∧ (Is (byts x_5.1) (byts b) ∧ y.2 = x'.2.2.2 ∧ True) ∧ (Is (syms s) (syms s) ∧ True) ∧ (Is (AV.lit (0 : Nat) (1 : Nat) fun (x x_6 : Nat) => AV.any) nilA ∧ True) ∧ IsO (xrR x_2.2.1) (xrR x_2.2.1) ∧ ((List.getD s x.1 Pl.dY).1 = (List.getD s x.1 Pl.dY).1 ∧ ((0 : Nat) = (0 : Nat) ∧ x_4.2.1.length + (1 : Nat) = x'.2.1.length) ∧ x_4.2.2.1.1 = x'.2.2.1.1 ∧ x_4.2.2.1.2 = x'.2.2.1.2 ∧ True) ∧ IsO
 (AObj.arr (x_4.2.1.length + (1 : Nat)) (2 : Nat)
 (joinC x_4.2.1.length (cQ x_4.2.1)
 (rowsCell [[i64 y.1.1, i64 y.1.2]])))
 (arQ x'.2.1) ∧ True) ∧ ∃ x_5 : List Int × Int × Int,
 Rd (549755813888 : Int) x_5.1 x_5.2.1 ∧ (((0 : Nat) = (0 : Nat) ∧ (List.getD s x.1 Pl.dY).2.1.getD x_4.1 (0 : Int) = x_5.2.2 ∧ True) ∧ (Is (byts b) (byts x_5.1) ∧ x_4.2.2.2 = x_5.2.1 ∧ True) ∧ True) ∧ ∀ (y : Pl.Rt × Int),
 x_5.2.1 ≤ y.2 ∧ y.2 ≤ x_5.2.1 + (2 : Int) →
 (0 : Nat) + x_4.2.1.length ≤ x_4.2.1.length ∧ (x_4.2.1.length + (1 : Nat)) * (16 : Nat) ≤ (70368744177664 : Nat) ∧ Exists fun (x' : Nat × List Pl.Rt × Pl.Rt × Int) =>
 (x'.1 ≤ (List.getD s x.1 Pl.dY).2.1.length ∧ x'.2.1.length = x'.1 ∧ p ≤ x'.2.2.2 ∧ x'.2.2.2 ≤
 p + (100 : Int) * (↑x.1 : Int) + (3 : Int) + (30 : Int) * ((3 : Int) - x_2.1) +
 (2 : Int) * (↑x'.1 : Int)) ∧ (List.getD s x.1 Pl.dY).2.1.length - x'.1 < (List.getD s x.1 Pl.dY).2.1.length - x_4.1 ∧ ((0 : Nat) = (0 : Nat) ∧ (0 : Nat) = (0 : Nat) ∧ (0 : Nat) = (0 : Nat) ∧ ((0 : Nat) = (0 : Nat) ∧ List.length x_2.2.1 = List.length x_2.2.1) ∧ (↑x.1 : Int) = (↑x.1 : Int) ∧ x_2.1 = x_2.1 ∧ (0 : Nat) = (0 : Nat) ∧ IntKind.i64.wrap ((↑x_4.1 : Int) + (1 : Int)) = (↑x'.1 : Int) ∧ True) ∧ (Is (byts x_5.1) (byts b) ∧ y.2 = x'.2.2.2 ∧ True) ∧ (Is (syms s) (syms s) ∧ True) ∧ (Is (AV.lit (0 : Nat) (1 : Nat) fun (x x_6 : Nat) => AV.any) nilA ∧ True) ∧ IsO (xrR x_2.2.1) (xrR x_2.2.1) ∧ ((List.getD s x.1 Pl.dY).1 = (List.getD s x.1 Pl.dY).1 ∧ ((0 : Nat) = (0 : Nat) ∧ x_4.2.1.length + (1 : Nat) = x'.2.1.length) ∧ x_4.2.2.1.1 = x'.2.2.1.1 ∧ x_4.2.2.1.2 = x'.2.2.1.2 ∧ True) ∧ IsO
 (AObj.arr (x_4.2.1.length + (1 : Nat)) (2 : Nat)
 (joinC x_4.2.1.length (cQ x_4.2.1)
 (rowsCell [[i64 y.1.1, i64 y.1.2]])))
 (arQ x'.2.1) ∧ True)
 (∃ x_5 : List Pl.Rw × Pl.Rw,
 (x_5.1.length ≤ (1000 : Nat) ∧ (∀ (y : Pl.Rw), y ∈ x_5.1 → y.2.1.length ≤ (1000 : Nat)) ∧ x_5.2.2.1.length ≤ (1000 : Nat)) ∧ ((((0 : Nat) = (0 : Nat) ∧ List.length x_2.2.1 = x_5.1.length) ∧ ((List.getD s x.1 Pl.dY).1 = x_5.2.1 ∧ ((0 : Nat) = (0 : Nat) ∧ x_4.2.1.length = x_5.2.2.1.length) ∧ x_4.2.2.1.1 = x_5.2.2.2.1 ∧ x_4.2.2.1.2 = x_5.2.2.2.2 ∧ True) ∧ True) ∧ IsO (xrR x_2.2.1) (xrR x_5.1) ∧ IsO (arQ x_4.2.1) (arQ x_5.2.2.1) ∧ True) ∧ ∀ (y : List Nat),
 HPut x_5.1.length y →
 Exists fun (x' : Int × Pl.Mdl × Int) =>
 ((0 : Int) ≤ x'.1 ∧ x'.1 ≤ (3 : Int) ∧ Pl.MdB ((3 : Nat) * x.1 + (3 : Nat) - x'.1.toNat) (2 : Nat) x'.2.1 ∧ p ≤ x'.2.2 ∧ x'.2.2 ≤ p + (100 : Int) * (↑x.1 : Int) + (1 : Int) + (30 : Int) * ((3 : Int) - x'.1)) ∧ x'.1.toNat < x_2.1.toNat ∧ ((0 : Nat) = (0 : Nat) ∧ (0 : Nat) = (0 : Nat) ∧ (0 : Nat) = (0 : Nat) ∧ ((0 : Nat) = (0 : Nat) ∧ y.length = List.length x'.2.1) ∧ (↑x.1 : Int) = (↑x.1 : Int) ∧ IntKind.i64.wrap (x_2.1 - (1 : Int)) = x'.1 ∧ True) ∧ (Is (byts b) (byts b) ∧ x_4.2.2.2 = x'.2.2 ∧ True) ∧ (Is (syms s) (syms s) ∧ True) ∧ (Is (AV.lit (0 : Nat) (1 : Nat) fun (x x_6 : Nat) => AV.any) nilA ∧ True) ∧ IsO (xrR (List.map (fun (i : Nat) => (x_5.1 ++ [x_5.2]).getD i Pl.dR) y)) (xrR x'.2.1) ∧ True)) ∧ ∃ x_3 : List Int × Int × Int,
 Rd (549755813888 : Int) x_3.1 x_3.2.1 ∧ (((0 : Nat) = (0 : Nat) ∧ (List.getD s x.1 Pl.dY).2.2 = x_3.2.2 ∧ True) ∧ (Is (byts b) (byts x_3.1) ∧ x_2.2.2 = x_3.2.1 ∧ True) ∧ True) ∧ ∀ (y : Pl.Rt × Int),
 x_3.2.1 ≤ y.2 ∧ y.2 ≤ x_3.2.1 + (2 : Int) →
 (∃ x_4 : Nat × List Pl.Rt × Pl.Rt × Int,
 (x_4.1 ≤ (List.getD s x.1 Pl.dY).2.1.length ∧ x_4.2.1.length = x_4.1 ∧ p ≤ x_4.2.2.2 ∧ x_4.2.2.2 ≤ p + (100 : Int) * (↑x.1 : Int) + (3 : Int) + (30 : Int) * ((3 : Int) - x_2.1) + (2 : Int) * (↑x_4.1 : Int)) ∧ ((0 : Nat) = (0 : Nat) ∧ (0 : Nat) = (0 : Nat) ∧ (0 : Nat) = (0 : Nat) ∧ ((0 : Nat) = (0 : Nat) ∧ List.length x_2.2.1 = List.length x_2.2.1) ∧ (↑x.1 : Int) = (↑x.1 : Int) ∧ x_2.1 = x_2.1 ∧ (0 : Nat) = (0 : Nat) ∧ (0 : Int) = (↑x_4.1 : Int) ∧ True) ∧ (Is (byts x_3.1) (byts b) ∧ y.2 = x_4.2.2.2 ∧ True) ∧ (Is (syms s) (syms s) ∧ True) ∧ (Is (AV.lit (0 : Nat) (1 : Nat) fun (x x_5 : Nat) => AV.any) nilA ∧ True) ∧ IsO (xrR x_2.2.1) (xrR x_2.2.1) ∧ ((List.getD s x.1 Pl.dY).1 = (List.getD s x.1 Pl.dY).1 ∧ ((0 : Nat) = (0 : Nat) ∧ (0 : Nat) = (0 : Nat) ∧ x_4.2.1.length = (0 : Nat)) ∧ y.1.1 = x_4.2.2.1.1 ∧ y.1.2 = x_4.2.2.1.2 ∧ True) ∧ x_4.2.1.length = (0 : Nat) ∧ True) ∧ ∀ (x_4 : Nat × List Pl.Rt × Pl.Rt × Int),
 x_4.1 ≤ (List.getD s x.1 Pl.dY).2.1.length ∧ x_4.2.1.length = x_4.1 ∧ p ≤ x_4.2.2.2 ∧ x_4.2.2.2 ≤ p + (100 : Int) * (↑x.1 : Int) + (3 : Int) + (30 : Int) * ((3 : Int) - x_2.1) + (2 : Int) * (↑x_4.1 : Int) →
 ((0 : Int) ≤ (↑x.1 : Int) ∧ (↑x.1 : Int) < (↑(List.length s) : Int)) ∧ x.1 < List.length s ∧ condP (decide ((↑x_4.1 : Int) < (↑(List.getD s x.1 Pl.dY).2.1.length : Int)))
 ((((0 : Int) ≤ (↑x.1 : Int) ∧ (↑x.1 : Int) < (↑(List.length s) : Int)) ∧ x.1 < List.length s ∧ ((0 : Int) ≤ (↑x_4.1 : Int) ∧ (↑x_4.1 : Int) < (↑(List.getD s x.1 Pl.dY).2.1.length : Int)) ∧ x_4.1 < (List.getD s x.1 Pl.dY).2.1.length ∧ ∃ x_5 : List Int × Int × Int,
 Rd (549755813888 : Int) x_5.1 x_5.2.1 ∧ (((0 : Nat) = (0 : Nat) ∧ (List.getD s x.1 Pl.dY).2.1.getD x_4.1 (0 : Int) = x_5.2.2 ∧ True) ∧ (Is (byts b) (byts x_5.1) ∧ x_4.2.2.2 = x_5.2.1 ∧ True) ∧ True) ∧ ∀ (y : Pl.Rt × Int),
 x_5.2.1 ≤ y.2 ∧ y.2 ≤ x_5.2.1 + (2 : Int) →
 (0 : Nat) + x_4.2.1.length ≤ x_4.2.1.length ∧ (x_4.2.1.length + (1 : Nat)) * (16 : Nat) ≤ (70368744177664 : Nat) ∧ Exists fun (x' : Nat × List Pl.Rt × Pl.Rt × Int) =>
 (x'.1 ≤ (List.getD s x.1 Pl.dY).2.1.length ∧ x'.2.1.length = x'.1 ∧ p ≤ x'.2.2.2 ∧ x'.2.2.2 ≤
 p + (100 : Int) * (↑x.1 : Int) + (3 : Int) + (30 : Int) * ((3 : Int) - x_2.1) +
 (2 : Int) * (↑x'.1 : Int)) ∧ (List.getD s x.1 Pl.dY).2.1.length - x'.1 < (List.getD s x.1 Pl.dY).2.1.length - x_4.1 ∧ ((0 : Nat) = (0 : Nat) ∧ (0 : Nat) = (0 : Nat) ∧ (0 : Nat) = (0 : Nat) ∧ ((0 : Nat) = (0 : Nat) ∧ List.length x_2.2.1 = List.length x_2.2.1) ∧ (↑x.1 : Int) = (↑x.1 : Int) ∧ x_2.1 = x_2.1 ∧ (0 : Nat) = (0 : Nat) ∧ IntKind.i64.wrap ((↑x_4.1 : Int) + (1 : Int)) = (↑x'.1 : Int) ∧ True) ∧ (Is (byts x_5.1) (byts b) ∧ y.2 = x'.2.2.2 ∧ True) ∧ (Is (syms s) (syms s) ∧ True) ∧ (Is (AV.lit (0 : Nat) (1 : Nat) fun (x x_6 : Nat) => AV.any) nilA ∧ True) ∧ IsO (xrR x_2.2.1) (xrR x_2.2.1) ∧ ((List.getD s x.1 Pl.dY).1 = (List.getD s x.1 Pl.dY).1 ∧ ((0 : Nat) = (0 : Nat) ∧ x_4.2.1.length + (1 : Nat) = x'.2.1.length) ∧ x_4.2.2.1.1 = x'.2.2.1.1 ∧ x_4.2.2.1.2 = x'.2.2.1.2 ∧ True) ∧ IsO
 (AObj.arr (x_4.2.1.length + (1 : Nat)) (2 : Nat)
 (joinC x_4.2.1.length (cQ x_4.2.1)
 (rowsCell [[i64 y.1.1, i64 y.1.2]])))
 (arQ x'.2.1) ∧ True) ∧ ((0 : Int) ≤ (↑x.1 : Int) ∧ (↑x.1 : Int) < (↑(List.length s) : Int)) ∧ x.1 < List.length s ∧ ((0 : Int) ≤ (↑x_4.1 : Int) ∧ (↑x_4.1 : Int) < (↑(List.getD s x.1 Pl.dY).2.1.length : Int)) ∧ x_4.1 < (List.getD s x.1 Pl.dY).2.1.length ∧ (∃ x_5 : List Int × Int × Int,
 Rd (549755813888 : Int) x_5.1 x_5.2.1 ∧ (((0 : Nat) = (0 : Nat) ∧ (List.getD s x.1 Pl.dY).2.1.getD x_4.1 (0 : Int) = x_5.2.2 ∧ True) ∧ (Is (byts b) (byts x_5.1) ∧ x_4.2.2.2 = x_5.2.1 ∧ True) ∧ True) ∧ ∀ (y : Pl.Rt × Int),
 x_5.2.1 ≤ y.2 ∧ y.2 ≤ x_5.2.1 + (2 : Int) →
 (0 : Nat) + x_4.2.1.length ≤ x_4.2.1.length ∧ (x_4.2.1.length + (1 : Nat)) * (16 : Nat) ≤ (70368744177664 : Nat) ∧ Exists fun (x' : Nat × List Pl.Rt × Pl.Rt × Int) =>
 (x'.1 ≤ (List.getD s x.1 Pl.dY).2.1.length ∧ x'.2.1.length = x'.1 ∧ p ≤ x'.2.2.2 ∧ x'.2.2.2 ≤
 p + (100 : Int) * (↑x.1 : Int) + (3 : Int) + (30 : Int) * ((3 : Int) - x_2.1) +
 (2 : Int) * (↑x'.1 : Int)) ∧ (List.getD s x.1 Pl.dY).2.1.length - x'.1 < (List.getD s x.1 Pl.dY).2.1.length - x_4.1 ∧ ((0 : Nat) = (0 : Nat) ∧ (0 : Nat) = (0 : Nat) ∧ (0 : Nat) = (0 : Nat) ∧ ((0 : Nat) = (0 : Nat) ∧ List.length x_2.2.1 = List.length x_2.2.1) ∧ (↑x.1 : Int) = (↑x.1 : Int) ∧ x_2.1 = x_2.1 ∧ (0 : Nat) = (0 : Nat) ∧ IntKind.i64.wrap ((↑x_4.1 : Int) + (1 : Int)) = (↑x'.1 : Int) ∧ True) ∧ (Is (byts x_5.1) (byts b) ∧ y.2 = x'.2.2.2 ∧ True) ∧ (Is (syms s) (syms s) ∧ True) ∧ (Is (AV.lit (0 : Nat) (1 : Nat) fun (x x_6 : Nat) => AV.any) nilA ∧ True) ∧ IsO (xrR x_2.2.1) (xrR x_2.2.1) ∧ ((List.getD s x.1 Pl.dY).1 = (List.getD s x.1 Pl.dY).1 ∧ ((0 : Nat) = (0 : Nat) ∧ x_4.2.1.length + (1 : Nat) = x'.2.1.length) ∧ x_4.2.2.1.1 = x'.2.2.1.1 ∧ x_4.2.2.1.2 = x'.2.2.1.2 ∧ True) ∧ IsO
 (AObj.arr (x_4.2.1.length + (1 : Nat)) (2 : Nat)
 (joinC x_4.2.1.length (cQ x_4.2.1)
 (rowsCell [[i64 y.1.1, i64 y.1.2]])))
 (arQ x'.2.1) ∧ True) ∧ ∃ x_5 : List Int × Int × Int,
 Rd (549755813888 : Int) x_5.1 x_5.2.1 ∧ (((0 : Nat) = (0 : Nat) ∧ (List.getD s x.1 Pl.dY).2.1.getD x_4.1 (0 : Int) = x_5.2.2 ∧ True) ∧ (Is (byts b) (byts x_5.1) ∧ x_4.2.2.2 = x_5.2.1 ∧ True) ∧ True) ∧ ∀ (y : Pl.Rt × Int),
 x_5.2.1 ≤ y.2 ∧ y.2 ≤ x_5.2.1 + (2 : Int) →
 (0 : Nat) + x_4.2.1.length ≤ x_4.2.1.length ∧ (x_4.2.1.length + (1 : Nat)) * (16 : Nat) ≤ (70368744177664 : Nat) ∧ Exists fun (x' : Nat × List Pl.Rt × Pl.Rt × Int) =>
 (x'.1 ≤ (List.getD s x.1 Pl.dY).2.1.length ∧ x'.2.1.length = x'.1 ∧ p ≤ x'.2.2.2 ∧ x'.2.2.2 ≤
 p + (100 : Int) * (↑x.1 : Int) + (3 : Int) + (30 : Int) * ((3 : Int) - x_2.1) +
 (2 : Int) * (↑x'.1 : Int)) ∧ (List.getD s x.1 Pl.dY).2.1.length - x'.1 < (List.getD s x.1 Pl.dY).2.1.length - x_4.1 ∧ ((0 : Nat) = (0 : Nat) ∧ (0 : Nat) = (0 : Nat) ∧ (0 : Nat) = (0 : Nat) ∧ ((0 : Nat) = (0 : Nat) ∧ List.length x_2.2.1 = List.length x_2.2.1) ∧ (↑x.1 : Int) = (↑x.1 : Int) ∧ x_2.1 = x_2.1 ∧ (0 : Nat) = (0 : Nat) ∧ IntKind.i64.wrap ((↑x_4.1 : Int) + (1 : Int)) = (↑x'.1 : Int) ∧ True) ∧ (Is (byts x_5.1) (byts b) ∧ y.2 = x'.2.2.2 ∧ True) ∧ (Is (syms s) (syms s) ∧ True) ∧ (Is (AV.lit (0 : Nat) (1 : Nat) fun (x x_6 : Nat) => AV.any) nilA ∧ True) ∧ IsO (xrR x_2.2.1) (xrR x_2.2.1) ∧ ((List.getD s x.1 Pl.dY).1 = (List.getD s x.1 Pl.dY).1 ∧ ((0 : Nat) = (0 : Nat) ∧ x_4.2.1.length + (1 : Nat) = x'.2.1.length) ∧ x_4.2.2.1.1 = x'.2.2.1.1 ∧ x_4.2.2.1.2 = x'.2.2.1.2 ∧ True) ∧ IsO
 (AObj.arr (x_4.2.1.length + (1 : Nat)) (2 : Nat)
 (joinC x_4.2.1.length (cQ x_4.2.1)
 (rowsCell [[i64 y.1.1, i64 y.1.2]])))
 (arQ x'.2.1) ∧ True)
 (∃ x_5 : List Pl.Rw × Pl.Rw,
 (x_5.1.length ≤ (1000 : Nat) ∧ (∀ (y : Pl.Rw), y ∈ x_5.1 → y.2.1.length ≤ (1000 : Nat)) ∧ x_5.2.2.1.length ≤ (1000 : Nat)) ∧ ((((0 : Nat) = (0 : Nat) ∧ List.length x_2.2.1 = x_5.1.length) ∧ ((List.getD s x.1 Pl.dY).1 = x_5.2.1 ∧ ((0 : Nat) = (0 : Nat) ∧ x_4.2.1.length = x_5.2.2.1.length) ∧ x_4.2.2.1.1 = x_5.2.2.2.1 ∧ x_4.2.2.1.2 = x_5.2.2.2.2 ∧ True) ∧ True) ∧ IsO (xrR x_2.2.1) (xrR x_5.1) ∧ IsO (arQ x_4.2.1) (arQ x_5.2.2.1) ∧ True) ∧ ∀ (y : List Nat),
 HPut x_5.1.length y →
 Exists fun (x' : Int × Pl.Mdl × Int) =>
 ((0 : Int) ≤ x'.1 ∧ x'.1 ≤ (3 : Int) ∧ Pl.MdB ((3 : Nat) * x.1 + (3 : Nat) - x'.1.toNat) (2 : Nat) x'.2.1 ∧ p ≤ x'.2.2 ∧ x'.2.2 ≤ p + (100 : Int) * (↑x.1 : Int) + (1 : Int) + (30 : Int) * ((3 : Int) - x'.1)) ∧ x'.1.toNat < x_2.1.toNat ∧ ((0 : Nat) = (0 : Nat) ∧ (0 : Nat) = (0 : Nat) ∧ (0 : Nat) = (0 : Nat) ∧ ((0 : Nat) = (0 : Nat) ∧ y.length = List.length x'.2.1) ∧ (↑x.1 : Int) = (↑x.1 : Int) ∧ IntKind.i64.wrap (x_2.1 - (1 : Int)) = x'.1 ∧ True) ∧ (Is (byts b) (byts b) ∧ x_4.2.2.2 = x'.2.2 ∧ True) ∧ (Is (syms s) (syms s) ∧ True) ∧ (Is (AV.lit (0 : Nat) (1 : Nat) fun (x x_6 : Nat) => AV.any) nilA ∧ True) ∧ IsO (xrR (List.map (fun (i : Nat) => (x_5.1 ++ [x_5.2]).getD i Pl.dR) y)) (xrR x'.2.1) ∧ True)) ∧ (∃ x_3 : List Int × Int × Int,
 Rd (549755813888 : Int) x_3.1 x_3.2.1 ∧ (((0 : Nat) = (0 : Nat) ∧ (List.getD s x.1 Pl.dY).2.2 = x_3.2.2 ∧ True) ∧ (Is (byts b) (byts x_3.1) ∧ x_2.2.2 = x_3.2.1 ∧ True) ∧ True) ∧ ∀ (y : Pl.Rt × Int),
 x_3.2.1 ≤ y.2 ∧ y.2 ≤ x_3.2.1 + (2 : Int) →
 ((0 : Int) ≤ (↑x.1 : Int) ∧ (↑x.1 : Int) < (↑(List.length s) : Int)) ∧ x.1 < List.length s ∧ (∃ x_4 : Nat × List Pl.Rt × Pl.Rt × Int,
 (x_4.1 ≤ (List.getD s x.1 Pl.dY).2.1.length ∧ x_4.2.1.length = x_4.1 ∧ p ≤ x_4.2.2.2 ∧ x_4.2.2.2 ≤ p + (100 : Int) * (↑x.1 : Int) + (3 : Int) + (30 : Int) * ((3 : Int) - x_2.1) + (2 : Int) * (↑x_4.1 : Int)) ∧ ((0 : Nat) = (0 : Nat) ∧ (0 : Nat) = (0 : Nat) ∧ (0 : Nat) = (0 : Nat) ∧ ((0 : Nat) = (0 : Nat) ∧ List.length x_2.2.1 = List.length x_2.2.1) ∧ (↑x.1 : Int) = (↑x.1 : Int) ∧ x_2.1 = x_2.1 ∧ (0 : Nat) = (0 : Nat) ∧ (0 : Int) = (↑x_4.1 : Int) ∧ True) ∧ (Is (byts x_3.1) (byts b) ∧ y.2 = x_4.2.2.2 ∧ True) ∧ (Is (syms s) (syms s) ∧ True) ∧ (Is (AV.lit (0 : Nat) (1 : Nat) fun (x x_5 : Nat) => AV.any) nilA ∧ True) ∧ IsO (xrR x_2.2.1) (xrR x_2.2.1) ∧ ((List.getD s x.1 Pl.dY).1 = (List.getD s x.1 Pl.dY).1 ∧ ((0 : Nat) = (0 : Nat) ∧ (0 : Nat) = (0 : Nat) ∧ x_4.2.1.length = (0 : Nat)) ∧ y.1.1 = x_4.2.2.1.1 ∧ y.1.2 = x_4.2.2.1.2 ∧ True) ∧ x_4.2.1.length = (0 : Nat) ∧ True) ∧ ∀ (x_4 : Nat × List Pl.Rt × Pl.Rt × Int),
 x_4.1 ≤ (List.getD s x.1 Pl.dY).2.1.length ∧ x_4.2.1.length = x_4.1 ∧ p ≤ x_4.2.2.2 ∧ x_4.2.2.2 ≤ p + (100 : Int) * (↑x.1 : Int) + (3 : Int) + (30 : Int) * ((3 : Int) - x_2.1) + (2 : Int) * (↑x_4.1 : Int) →
 ((0 : Int) ≤ (↑x.1 : Int) ∧ (↑x.1 : Int) < (↑(List.length s) : Int)) ∧ x.1 < List.length s ∧ condP (decide ((↑x_4.1 : Int) < (↑(List.getD s x.1 Pl.dY).2.1.length : Int)))
 ((((0 : Int) ≤ (↑x.1 : Int) ∧ (↑x.1 : Int) < (↑(List.length s) : Int)) ∧ x.1 < List.length s ∧ ((0 : Int) ≤ (↑x_4.1 : Int) ∧ (↑x_4.1 : Int) < (↑(List.getD s x.1 Pl.dY).2.1.length : Int)) ∧ x_4.1 < (List.getD s x.1 Pl.dY).2.1.length ∧ ∃ x_5 : List Int × Int × Int,
 Rd (549755813888 : Int) x_5.1 x_5.2.1 ∧ (((0 : Nat) = (0 : Nat) ∧ (List.getD s x.1 Pl.dY).2.1.getD x_4.1 (0 : Int) = x_5.2.2 ∧ True) ∧ (Is (byts b) (byts x_5.1) ∧ x_4.2.2.2 = x_5.2.1 ∧ True) ∧ True) ∧ ∀ (y : Pl.Rt × Int),
 x_5.2.1 ≤ y.2 ∧ y.2 ≤ x_5.2.1 + (2 : Int) →
 (0 : Nat) + x_4.2.1.length ≤ x_4.2.1.length ∧ (x_4.2.1.length + (1 : Nat)) * (16 : Nat) ≤ (70368744177664 : Nat) ∧ Exists fun (x' : Nat × List Pl.Rt × Pl.Rt × Int) =>
 (x'.1 ≤ (List.getD s x.1 Pl.dY).2.1.length ∧ x'.2.1.length = x'.1 ∧ p ≤ x'.2.2.2 ∧ x'.2.2.2 ≤
 p + (100 : Int) * (↑x.1 : Int) + (3 : Int) + (30 : Int) * ((3 : Int) - x_2.1) +
 (2 : Int) * (↑x'.1 : Int)) ∧ (List.getD s x.1 Pl.dY).2.1.length - x'.1 < (List.getD s x.1 Pl.dY).2.1.length - x_4.1 ∧ ((0 : Nat) = (0 : Nat) ∧ (0 : Nat) = (0 : Nat) ∧ (0 : Nat) = (0 : Nat) ∧ ((0 : Nat) = (0 : Nat) ∧ List.length x_2.2.1 = List.length x_2.2.1) ∧ (↑x.1 : Int) = (↑x.1 : Int) ∧ x_2.1 = x_2.1 ∧ (0 : Nat) = (0 : Nat) ∧ IntKind.i64.wrap ((↑x_4.1 : Int) + (1 : Int)) = (↑x'.1 : Int) ∧ True) ∧ (Is (byts x_5.1) (byts b) ∧ y.2 = x'.2.2.2 ∧ True) ∧ (Is (syms s) (syms s) ∧ True) ∧ (Is (AV.lit (0 : Nat) (1 : Nat) fun (x x_6 : Nat) => AV.any) nilA ∧ True) ∧ IsO (xrR x_2.2.1) (xrR x_2.2.1) ∧ ((List.getD s x.1 Pl.dY).1 = (List.getD s x.1 Pl.dY).1 ∧ ((0 : Nat) = (0 : Nat) ∧ x_4.2.1.length + (1 : Nat) = x'.2.1.length) ∧ x_4.2.2.1.1 = x'.2.2.1.1 ∧ x_4.2.2.1.2 = x'.2.2.1.2 ∧ True) ∧ IsO
 (AObj.arr (x_4.2.1.length + (1 : Nat)) (2 : Nat)
 (joinC x_4.2.1.length (cQ x_4.2.1)
 (rowsCell [[i64 y.1.1, i64 y.1.2]])))
 (arQ x'.2.1) ∧ True) ∧ ((0 : Int) ≤ (↑x.1 : Int) ∧ (↑x.1 : Int) < (↑(List.length s) : Int)) ∧ x.1 < List.length s ∧ ((0 : Int) ≤ (↑x_4.1 : Int) ∧ (↑x_4.1 : Int) < (↑(List.getD s x.1 Pl.dY).2.1.length : Int)) ∧ x_4.1 < (List.getD s x.1 Pl.dY).2.1.length ∧ (∃ x_5 : List Int × Int × Int,
 Rd (549755813888 : Int) x_5.1 x_5.2.1 ∧ (((0 : Nat) = (0 : Nat) ∧ (List.getD s x.1 Pl.dY).2.1.getD x_4.1 (0 : Int) = x_5.2.2 ∧ True) ∧ (Is (byts b) (byts x_5.1) ∧ x_4.2.2.2 = x_5.2.1 ∧ True) ∧ True) ∧ ∀ (y : Pl.Rt × Int),
 x_5.2.1 ≤ y.2 ∧ y.2 ≤ x_5.2.1 + (2 : Int) →
 (0 : Nat) + x_4.2.1.length ≤ x_4.2.1.length ∧ (x_4.2.1.length + (1 : Nat)) * (16 : Nat) ≤ (70368744177664 : Nat) ∧ Exists fun (x' : Nat × List Pl.Rt × Pl.Rt × Int) =>
 (x'.1 ≤ (List.getD s x.1 Pl.dY).2.1.length ∧ x'.2.1.length = x'.1 ∧ p ≤ x'.2.2.2 ∧ x'.2.2.2 ≤
 p + (100 : Int) * (↑x.1 : Int) + (3 : Int) + (30 : Int) * ((3 : Int) - x_2.1) +
 (2 : Int) * (↑x'.1 : Int)) ∧ (List.getD s x.1 Pl.dY).2.1.length - x'.1 < (List.getD s x.1 Pl.dY).2.1.length - x_4.1 ∧ ((0 : Nat) = (0 : Nat) ∧ (0 : Nat) = (0 : Nat) ∧ (0 : Nat) = (0 : Nat) ∧ ((0 : Nat) = (0 : Nat) ∧ List.length x_2.2.1 = List.length x_2.2.1) ∧ (↑x.1 : Int) = (↑x.1 : Int) ∧ x_2.1 = x_2.1 ∧ (0 : Nat) = (0 : Nat) ∧ IntKind.i64.wrap ((↑x_4.1 : Int) + (1 : Int)) = (↑x'.1 : Int) ∧ True) ∧ (Is (byts x_5.1) (byts b) ∧ y.2 = x'.2.2.2 ∧ True) ∧ (Is (syms s) (syms s) ∧ True) ∧ (Is (AV.lit (0 : Nat) (1 : Nat) fun (x x_6 : Nat) => AV.any) nilA ∧ True) ∧ IsO (xrR x_2.2.1) (xrR x_2.2.1) ∧ ((List.getD s x.1 Pl.dY).1 = (List.getD s x.1 Pl.dY).1 ∧ ((0 : Nat) = (0 : Nat) ∧ x_4.2.1.length + (1 : Nat) = x'.2.1.length) ∧ x_4.2.2.1.1 = x'.2.2.1.1 ∧ x_4.2.2.1.2 = x'.2.2.1.2 ∧ True) ∧ IsO
 (AObj.arr (x_4.2.1.length + (1 : Nat)) (2 : Nat)
 (joinC x_4.2.1.length (cQ x_4.2.1)
 (rowsCell [[i64 y.1.1, i64 y.1.2]])))
 (arQ x'.2.1) ∧ True) ∧ ∃ x_5 : List Int × Int × Int,
 Rd (549755813888 : Int) x_5.1 x_5.2.1 ∧ (((0 : Nat) = (0 : Nat) ∧ (List.getD s x.1 Pl.dY).2.1.getD x_4.1 (0 : Int) = x_5.2.2 ∧ True) ∧ (Is (byts b) (byts x_5.1) ∧ x_4.2.2.2 = x_5.2.1 ∧ True) ∧ True) ∧ ∀ (y : Pl.Rt × Int),
 x_5.2.1 ≤ y.2 ∧ y.2 ≤ x_5.2.1 + (2 : Int) →
 (0 : Nat) + x_4.2.1.length ≤ x_4.2.1.length ∧ (x_4.2.1.length + (1 : Nat)) * (16 : Nat) ≤ (70368744177664 : Nat) ∧ Exists fun (x' : Nat × List Pl.Rt × Pl.Rt × Int) =>
 (x'.1 ≤ (List.getD s x.1 Pl.dY).2.1.length ∧ x'.2.1.length = x'.1 ∧ p ≤ x'.2.2.2 ∧ x'.2.2.2 ≤
 p + (100 : Int) * (↑x.1 : Int) + (3 : Int) + (30 : Int) * ((3 : Int) - x_2.1) +
 (2 : Int) * (↑x'.1 : Int)) ∧ (List.getD s x.1 Pl.dY).2.1.length - x'.1 < (List.getD s x.1 Pl.dY).2.1.length - x_4.1 ∧ ((0 : Nat) = (0 : Nat) ∧ (0 : Nat) = (0 : Nat) ∧ (0 : Nat) = (0 : Nat) ∧ ((0 : Nat) = (0 : Nat) ∧ List.length x_2.2.1 = List.length x_2.2.1) ∧ (↑x.1 : Int) = (↑x.1 : Int) ∧ x_2.1 = x_2.1 ∧ (0 : Nat) = (0 : Nat) ∧ IntKind.i64.wrap ((↑x_4.1 : Int) + (1 : Int)) = (↑x'.1 : Int) ∧ True) ∧ (Is (byts x_5.1) (byts b) ∧ y.2 = x'.2.2.2 ∧ True) ∧ (Is (syms s) (syms s) ∧ True) ∧ (Is (AV.lit (0 : Nat) (1 : Nat) fun (x x_6 : Nat) => AV.any) nilA ∧ True) ∧ IsO (xrR x_2.2.1) (xrR x_2.2.1) ∧ ((List.getD s x.1 Pl.dY).1 = (List.getD s x.1 Pl.dY).1 ∧ ((0 : Nat) = (0 : Nat) ∧ x_4.2.1.length + (1 : Nat) = x'.2.1.length) ∧ x_4.2.2.1.1 = x'.2.2.1.1 ∧ x_4.2.2.1.2 = x'.2.2.1.2 ∧ True) ∧ IsO
 (AObj.arr (x_4.2.1.length + (1 : Nat)) (2 : Nat)
 (joinC x_4.2.1.length (cQ x_4.2.1)
 (rowsCell [[i64 y.1.1, i64 y.1.2]])))
 (arQ x'.2.1) ∧ True)
 (∃ x_5 : List Pl.Rw × Pl.Rw,
 (x_5.1.length ≤ (1000 : Nat) ∧ (∀ (y : Pl.Rw), y ∈ x_5.1 → y.2.1.length ≤ (1000 : Nat)) ∧ x_5.2.2.1.length ≤ (1000 : Nat)) ∧ ((((0 : Nat) = (0 : Nat) ∧ List.length x_2.2.1 = x_5.1.length) ∧ ((List.getD s x.1 Pl.dY).1 = x_5.2.1 ∧ ((0 : Nat) = (0 : Nat) ∧ x_4.2.1.length = x_5.2.2.1.length) ∧ x_4.2.2.1.1 = x_5.2.2.2.1 ∧ x_4.2.2.1.2 = x_5.2.2.2.2 ∧ True) ∧ True) ∧ IsO (xrR x_2.2.1) (xrR x_5.1) ∧ IsO (arQ x_4.2.1) (arQ x_5.2.2.1) ∧ True) ∧ ∀ (y : List Nat),
 HPut x_5.1.length y →
 Exists fun (x' : Int × Pl.Mdl × Int) =>
 ((0 : Int) ≤ x'.1 ∧ x'.1 ≤ (3 : Int) ∧ Pl.MdB ((3 : Nat) * x.1 + (3 : Nat) - x'.1.toNat) (2 : Nat) x'.2.1 ∧ p ≤ x'.2.2 ∧ x'.2.2 ≤ p + (100 : Int) * (↑x.1 : Int) + (1 : Int) + (30 : Int) * ((3 : Int) - x'.1)) ∧ x'.1.toNat < x_2.1.toNat ∧ ((0 : Nat) = (0 : Nat) ∧ (0 : Nat) = (0 : Nat) ∧ (0 : Nat) = (0 : Nat) ∧ ((0 : Nat) = (0 : Nat) ∧ y.length = List.length x'.2.1) ∧ (↑x.1 : Int) = (↑x.1 : Int) ∧ IntKind.i64.wrap (x_2.1 - (1 : Int)) = x'.1 ∧ True) ∧ (Is (byts b) (byts b) ∧ x_4.2.2.2 = x'.2.2 ∧ True) ∧ (Is (syms s) (syms s) ∧ True) ∧ (Is (AV.lit (0 : Nat) (1 : Nat) fun (x x_6 : Nat) => AV.any) nilA ∧ True) ∧ IsO (xrR (List.map (fun (i : Nat) => (x_5.1 ++ [x_5.2]).getD i Pl.dR) y)) (xrR x'.2.1) ∧ True)) ∧ (((0 : Int) ≤ (↑x.1 : Int) ∧ (↑x.1 : Int) < (↑(List.length s) : Int)) ∧ x.1 < List.length s ∧ ∃ x_3 : List Int × Int × Int,
 Rd (549755813888 : Int) x_3.1 x_3.2.1 ∧ (((0 : Nat) = (0 : Nat) ∧ (List.getD s x.1 Pl.dY).2.2 = x_3.2.2 ∧ True) ∧ (Is (byts b) (byts x_3.1) ∧ x_2.2.2 = x_3.2.1 ∧ True) ∧ True) ∧ ∀ (y : Pl.Rt × Int),
 x_3.2.1 ≤ y.2 ∧ y.2 ≤ x_3.2.1 + (2 : Int) →
 (∃ x_4 : Nat × List Pl.Rt × Pl.Rt × Int,
 (x_4.1 ≤ (List.getD s x.1 Pl.dY).2.1.length ∧ x_4.2.1.length = x_4.1 ∧ p ≤ x_4.2.2.2 ∧ x_4.2.2.2 ≤ p + (100 : Int) * (↑x.1 : Int) + (3 : Int) + (30 : Int) * ((3 : Int) - x_2.1) + (2 : Int) * (↑x_4.1 : Int)) ∧ ((0 : Nat) = (0 : Nat) ∧ (0 : Nat) = (0 : Nat) ∧ (0 : Nat) = (0 : Nat) ∧ ((0 : Nat) = (0 : Nat) ∧ List.length x_2.2.1 = List.length x_2.2.1) ∧ (↑x.1 : Int) = (↑x.1 : Int) ∧ x_2.1 = x_2.1 ∧ (0 : Nat) = (0 : Nat) ∧ (0 : Int) = (↑x_4.1 : Int) ∧ True) ∧ (Is (byts x_3.1) (byts b) ∧ y.2 = x_4.2.2.2 ∧ True) ∧ (Is (syms s) (syms s) ∧ True) ∧ (Is (AV.lit (0 : Nat) (1 : Nat) fun (x x_5 : Nat) => AV.any) nilA ∧ True) ∧ IsO (xrR x_2.2.1) (xrR x_2.2.1) ∧ ((List.getD s x.1 Pl.dY).1 = (List.getD s x.1 Pl.dY).1 ∧ ((0 : Nat) = (0 : Nat) ∧ (0 : Nat) = (0 : Nat) ∧ x_4.2.1.length = (0 : Nat)) ∧ y.1.1 = x_4.2.2.1.1 ∧ y.1.2 = x_4.2.2.1.2 ∧ True) ∧ x_4.2.1.length = (0 : Nat) ∧ True) ∧ ∀ (x_4 : Nat × List Pl.Rt × Pl.Rt × Int),
 x_4.1 ≤ (List.getD s x.1 Pl.dY).2.1.length ∧ x_4.2.1.length = x_4.1 ∧ p ≤ x_4.2.2.2 ∧ x_4.2.2.2 ≤ p + (100 : Int) * (↑x.1 : Int) + (3 : Int) + (30 : Int) * ((3 : Int) - x_2.1) + (2 : Int) * (↑x_4.1 : Int) →
 ((0 : Int) ≤ (↑x.1 : Int) ∧ (↑x.1 : Int) < (↑(List.length s) : Int)) ∧ x.1 < List.length s ∧ condP (decide ((↑x_4.1 : Int) < (↑(List.getD s x.1 Pl.dY).2.1.length : Int)))
 ((((0 : Int) ≤ (↑x.1 : Int) ∧ (↑x.1 : Int) < (↑(List.length s) : Int)) ∧ x.1 < List.length s ∧ ((0 : Int) ≤ (↑x_4.1 : Int) ∧ (↑x_4.1 : Int) < (↑(List.getD s x.1 Pl.dY).2.1.length : Int)) ∧ x_4.1 < (List.getD s x.1 Pl.dY).2.1.length ∧ ∃ x_5 : List Int × Int × Int,
 Rd (549755813888 : Int) x_5.1 x_5.2.1 ∧ (((0 : Nat) = (0 : Nat) ∧ (List.getD s x.1 Pl.dY).2.1.getD x_4.1 (0 : Int) = x_5.2.2 ∧ True) ∧ (Is (byts b) (byts x_5.1) ∧ x_4.2.2.2 = x_5.2.1 ∧ True) ∧ True) ∧ ∀ (y : Pl.Rt × Int),
 x_5.2.1 ≤ y.2 ∧ y.2 ≤ x_5.2.1 + (2 : Int) →
 (0 : Nat) + x_4.2.1.length ≤ x_4.2.1.length ∧ (x_4.2.1.length + (1 : Nat)) * (16 : Nat) ≤ (70368744177664 : Nat) ∧ Exists fun (x' : Nat × List Pl.Rt × Pl.Rt × Int) =>
 (x'.1 ≤ (List.getD s x.1 Pl.dY).2.1.length ∧ x'.2.1.length = x'.1 ∧ p ≤ x'.2.2.2 ∧ x'.2.2.2 ≤
 p + (100 : Int) * (↑x.1 : Int) + (3 : Int) + (30 : Int) * ((3 : Int) - x_2.1) +
 (2 : Int) * (↑x'.1 : Int)) ∧ (List.getD s x.1 Pl.dY).2.1.length - x'.1 < (List.getD s x.1 Pl.dY).2.1.length - x_4.1 ∧ ((0 : Nat) = (0 : Nat) ∧ (0 : Nat) = (0 : Nat) ∧ (0 : Nat) = (0 : Nat) ∧ ((0 : Nat) = (0 : Nat) ∧ List.length x_2.2.1 = List.length x_2.2.1) ∧ (↑x.1 : Int) = (↑x.1 : Int) ∧ x_2.1 = x_2.1 ∧ (0 : Nat) = (0 : Nat) ∧ IntKind.i64.wrap ((↑x_4.1 : Int) + (1 : Int)) = (↑x'.1 : Int) ∧ True) ∧ (Is (byts x_5.1) (byts b) ∧ y.2 = x'.2.2.2 ∧ True) ∧ (Is (syms s) (syms s) ∧ True) ∧ (Is (AV.lit (0 : Nat) (1 : Nat) fun (x x_6 : Nat) => AV.any) nilA ∧ True) ∧ IsO (xrR x_2.2.1) (xrR x_2.2.1) ∧ ((List.getD s x.1 Pl.dY).1 = (List.getD s x.1 Pl.dY).1 ∧ ((0 : Nat) = (0 : Nat) ∧ x_4.2.1.length + (1 : Nat) = x'.2.1.length) ∧ x_4.2.2.1.1 = x'.2.2.1.1 ∧ x_4.2.2.1.2 = x'.2.2.1.2 ∧ True) ∧ IsO
 (AObj.arr (x_4.2.1.length + (1 : Nat)) (2 : Nat)
 (joinC x_4.2.1.length (cQ x_4.2.1)
 (rowsCell [[i64 y.1.1, i64 y.1.2]])))
 (arQ x'.2.1) ∧ True) ∧ ((0 : Int) ≤ (↑x.1 : Int) ∧ (↑x.1 : Int) < (↑(List.length s) : Int)) ∧ x.1 < List.length s ∧ ((0 : Int) ≤ (↑x_4.1 : Int) ∧ (↑x_4.1 : Int) < (↑(List.getD s x.1 Pl.dY).2.1.length : Int)) ∧ x_4.1 < (List.getD s x.1 Pl.dY).2.1.length ∧ (∃ x_5 : List Int × Int × Int,
 Rd (549755813888 : Int) x_5.1 x_5.2.1 ∧ (((0 : Nat) = (0 : Nat) ∧ (List.getD s x.1 Pl.dY).2.1.getD x_4.1 (0 : Int) = x_5.2.2 ∧ True) ∧ (Is (byts b) (byts x_5.1) ∧ x_4.2.2.2 = x_5.2.1 ∧ True) ∧ True) ∧ ∀ (y : Pl.Rt × Int),
 x_5.2.1 ≤ y.2 ∧ y.2 ≤ x_5.2.1 + (2 : Int) →
 (0 : Nat) + x_4.2.1.length ≤ x_4.2.1.length ∧ (x_4.2.1.length + (1 : Nat)) * (16 : Nat) ≤ (70368744177664 : Nat) ∧ Exists fun (x' : Nat × List Pl.Rt × Pl.Rt × Int) =>
 (x'.1 ≤ (List.getD s x.1 Pl.dY).2.1.length ∧ x'.2.1.length = x'.1 ∧ p ≤ x'.2.2.2 ∧ x'.2.2.2 ≤
 p + (100 : Int) * (↑x.1 : Int) + (3 : Int) + (30 : Int) * ((3 : Int) - x_2.1) +
 (2 : Int) * (↑x'.1 : Int)) ∧ (List.getD s x.1 Pl.dY).2.1.length - x'.1 < (List.getD s x.1 Pl.dY).2.1.length - x_4.1 ∧ ((0 : Nat) = (0 : Nat) ∧ (0 : Nat) = (0 : Nat) ∧ (0 : Nat) = (0 : Nat) ∧ ((0 : Nat) = (0 : Nat) ∧ List.length x_2.2.1 = List.length x_2.2.1) ∧ (↑x.1 : Int) = (↑x.1 : Int) ∧ x_2.1 = x_2.1 ∧ (0 : Nat) = (0 : Nat) ∧ IntKind.i64.wrap ((↑x_4.1 : Int) + (1 : Int)) = (↑x'.1 : Int) ∧ True) ∧ (Is (byts x_5.1) (byts b) ∧ y.2 = x'.2.2.2 ∧ True) ∧ (Is (syms s) (syms s) ∧ True) ∧ (Is (AV.lit (0 : Nat) (1 : Nat) fun (x x_6 : Nat) => AV.any) nilA ∧ True) ∧ IsO (xrR x_2.2.1) (xrR x_2.2.1) ∧ ((List.getD s x.1 Pl.dY).1 = (List.getD s x.1 Pl.dY).1 ∧ ((0 : Nat) = (0 : Nat) ∧ x_4.2.1.length + (1 : Nat) = x'.2.1.length) ∧ x_4.2.2.1.1 = x'.2.2.1.1 ∧ x_4.2.2.1.2 = x'.2.2.1.2 ∧ True) ∧ IsO
 (AObj.arr (x_4.2.1.length + (1 : Nat)) (2 : Nat)
 (joinC x_4.2.1.length (cQ x_4.2.1)
 (rowsCell [[i64 y.1.1, i64 y.1.2]])))
 (arQ x'.2.1) ∧ True) ∧ ∃ x_5 : List Int × Int × Int,
 Rd (549755813888 : Int) x_5.1 x_5.2.1 ∧ (((0 : Nat) = (0 : Nat) ∧ (List.getD s x.1 Pl.dY).2.1.getD x_4.1 (0 : Int) = x_5.2.2 ∧ True) ∧ (Is (byts b) (byts x_5.1) ∧ x_4.2.2.2 = x_5.2.1 ∧ True) ∧ True) ∧ ∀ (y : Pl.Rt × Int),
 x_5.2.1 ≤ y.2 ∧ y.2 ≤ x_5.2.1 + (2 : Int) →
 (0 : Nat) + x_4.2.1.length ≤ x_4.2.1.length ∧ (x_4.2.1.length + (1 : Nat)) * (16 : Nat) ≤ (70368744177664 : Nat) ∧ Exists fun (x' : Nat × List Pl.Rt × Pl.Rt × Int) =>
 (x'.1 ≤ (List.getD s x.1 Pl.dY).2.1.length ∧ x'.2.1.length = x'.1 ∧ p ≤ x'.2.2.2 ∧ x'.2.2.2 ≤
 p + (100 : Int) * (↑x.1 : Int) + (3 : Int) + (30 : Int) * ((3 : Int) - x_2.1) +
 (2 : Int) * (↑x'.1 : Int)) ∧ (List.getD s x.1 Pl.dY).2.1.length - x'.1 < (List.getD s x.1 Pl.dY).2.1.length - x_4.1 ∧ ((0 : Nat) = (0 : Nat) ∧ (0 : Nat) = (0 : Nat) ∧ (0 : Nat) = (0 : Nat) ∧ ((0 : Nat) = (0 : Nat) ∧ List.length x_2.2.1 = List.length x_2.2.1) ∧ (↑x.1 : Int) = (↑x.1 : Int) ∧ x_2.1 = x_2.1 ∧ (0 : Nat) = (0 : Nat) ∧ IntKind.i64.wrap ((↑x_4.1 : Int) + (1 : Int)) = (↑x'.1 : Int) ∧ True) ∧ (Is (byts x_5.1) (byts b) ∧ y.2 = x'.2.2.2 ∧ True) ∧ (Is (syms s) (syms s) ∧ True) ∧ (Is (AV.lit (0 : Nat) (1 : Nat) fun (x x_6 : Nat) => AV.any) nilA ∧ True) ∧ IsO (xrR x_2.2.1) (xrR x_2.2.1) ∧ ((List.getD s x.1 Pl.dY).1 = (List.getD s x.1 Pl.dY).1 ∧ ((0 : Nat) = (0 : Nat) ∧ x_4.2.1.length + (1 : Nat) = x'.2.1.length) ∧ x_4.2.2.1.1 = x'.2.2.1.1 ∧ x_4.2.2.1.2 = x'.2.2.1.2 ∧ True) ∧ IsO
 (AObj.arr (x_4.2.1.length + (1 : Nat)) (2 : Nat)
 (joinC x_4.2.1.length (cQ x_4.2.1)
 (rowsCell [[i64 y.1.1, i64 y.1.2]])))
 (arQ x'.2.1) ∧ True)
 (∃ x_5 : List Pl.Rw × Pl.Rw,
 (x_5.1.length ≤ (1000 : Nat) ∧ (∀ (y : Pl.Rw), y ∈ x_5.1 → y.2.1.length ≤ (1000 : Nat)) ∧ x_5.2.2.1.length ≤ (1000 : Nat)) ∧ ((((0 : Nat) = (0 : Nat) ∧ List.length x_2.2.1 = x_5.1.length) ∧ ((List.getD s x.1 Pl.dY).1 = x_5.2.1 ∧ ((0 : Nat) = (0 : Nat) ∧ x_4.2.1.length = x_5.2.2.1.length) ∧ x_4.2.2.1.1 = x_5.2.2.2.1 ∧ x_4.2.2.1.2 = x_5.2.2.2.2 ∧ True) ∧ True) ∧ IsO (xrR x_2.2.1) (xrR x_5.1) ∧ IsO (arQ x_4.2.1) (arQ x_5.2.2.1) ∧ True) ∧ ∀ (y : List Nat),
 HPut x_5.1.length y →
 Exists fun (x' : Int × Pl.Mdl × Int) =>
 ((0 : Int) ≤ x'.1 ∧ x'.1 ≤ (3 : Int) ∧ Pl.MdB ((3 : Nat) * x.1 + (3 : Nat) - x'.1.toNat) (2 : Nat) x'.2.1 ∧ p ≤ x'.2.2 ∧ x'.2.2 ≤ p + (100 : Int) * (↑x.1 : Int) + (1 : Int) + (30 : Int) * ((3 : Int) - x'.1)) ∧ x'.1.toNat < x_2.1.toNat ∧ ((0 : Nat) = (0 : Nat) ∧ (0 : Nat) = (0 : Nat) ∧ (0 : Nat) = (0 : Nat) ∧ ((0 : Nat) = (0 : Nat) ∧ y.length = List.length x'.2.1) ∧ (↑x.1 : Int) = (↑x.1 : Int) ∧ IntKind.i64.wrap (x_2.1 - (1 : Int)) = x'.1 ∧ True) ∧ (Is (byts b) (byts b) ∧ x_4.2.2.2 = x'.2.2 ∧ True) ∧ (Is (syms s) (syms s) ∧ True) ∧ (Is (AV.lit (0 : Nat) (1 : Nat) fun (x x_6 : Nat) => AV.any) nilA ∧ True) ∧ IsO (xrR (List.map (fun (i : Nat) => (x_5.1 ++ [x_5.2]).getD i Pl.dR) y)) (xrR x'.2.1) ∧ True)) ∧ ∃ x_3 : List Int × Int × Int,
 Rd (549755813888 : Int) x_3.1 x_3.2.1 ∧ (((0 : Nat) = (0 : Nat) ∧ (List.getD s x.1 Pl.dY).2.2 = x_3.2.2 ∧ True) ∧ (Is (byts b) (byts x_3.1) ∧ x_2.2.2 = x_3.2.1 ∧ True) ∧ True) ∧ ∀ (y : Pl.Rt × Int),
 x_3.2.1 ≤ y.2 ∧ y.2 ≤ x_3.2.1 + (2 : Int) →
 ((0 : Int) ≤ (↑x.1 : Int) ∧ (↑x.1 : Int) < (↑(List.length s) : Int)) ∧ x.1 < List.length s ∧ (∃ x_4 : Nat × List Pl.Rt × Pl.Rt × Int,
 (x_4.1 ≤ (List.getD s x.1 Pl.dY).2.1.length ∧ x_4.2.1.length = x_4.1 ∧ p ≤ x_4.2.2.2 ∧ x_4.2.2.2 ≤ p + (100 : Int) * (↑x.1 : Int) + (3 : Int) + (30 : Int) * ((3 : Int) - x_2.1) + (2 : Int) * (↑x_4.1 : Int)) ∧ ((0 : Nat) = (0 : Nat) ∧ (0 : Nat) = (0 : Nat) ∧ (0 : Nat) = (0 : Nat) ∧ ((0 : Nat) = (0 : Nat) ∧ List.length x_2.2.1 = List.length x_2.2.1) ∧ (↑x.1 : Int) = (↑x.1 : Int) ∧ x_2.1 = x_2.1 ∧ (0 : Nat) = (0 : Nat) ∧ (0 : Int) = (↑x_4.1 : Int) ∧ True) ∧ (Is (byts x_3.1) (byts b) ∧ y.2 = x_4.2.2.2 ∧ True) ∧ (Is (syms s) (syms s) ∧ True) ∧ (Is (AV.lit (0 : Nat) (1 : Nat) fun (x x_5 : Nat) => AV.any) nilA ∧ True) ∧ IsO (xrR x_2.2.1) (xrR x_2.2.1) ∧ ((List.getD s x.1 Pl.dY).1 = (List.getD s x.1 Pl.dY).1 ∧ ((0 : Nat) = (0 : Nat) ∧ (0 : Nat) = (0 : Nat) ∧ x_4.2.1.length = (0 : Nat)) ∧ y.1.1 = x_4.2.2.1.1 ∧ y.1.2 = x_4.2.2.1.2 ∧ True) ∧ x_4.2.1.length = (0 : Nat) ∧ True) ∧ ∀ (x_4 : Nat × List Pl.Rt × Pl.Rt × Int),
 x_4.1 ≤ (List.getD s x.1 Pl.dY).2.1.length ∧ x_4.2.1.length = x_4.1 ∧ p ≤ x_4.2.2.2 ∧ x_4.2.2.2 ≤ p + (100 : Int) * (↑x.1 : Int) + (3 : Int) + (30 : Int) * ((3 : Int) - x_2.1) + (2 : Int) * (↑x_4.1 : Int) →
 ((0 : Int) ≤ (↑x.1 : Int) ∧ (↑x.1 : Int) < (↑(List.length s) : Int)) ∧ x.1 < List.length s ∧ condP (decide ((↑x_4.1 : Int) < (↑(List.getD s x.1 Pl.dY).2.1.length : Int)))
 ((((0 : Int) ≤ (↑x.1 : Int) ∧ (↑x.1 : Int) < (↑(List.length s) : Int)) ∧ x.1 < List.length s ∧ ((0 : Int) ≤ (↑x_4.1 : Int) ∧ (↑x_4.1 : Int) < (↑(List.getD s x.1 Pl.dY).2.1.length : Int)) ∧ x_4.1 < (List.getD s x.1 Pl.dY).2.1.length ∧ ∃ x_5 : List Int × Int × Int,
 Rd (549755813888 : Int) x_5.1 x_5.2.1 ∧ (((0 : Nat) = (0 : Nat) ∧ (List.getD s x.1 Pl.dY).2.1.getD x_4.1 (0 : Int) = x_5.2.2 ∧ True) ∧ (Is (byts b) (byts x_5.1) ∧ x_4.2.2.2 = x_5.2.1 ∧ True) ∧ True) ∧ ∀ (y : Pl.Rt × Int),
 x_5.2.1 ≤ y.2 ∧ y.2 ≤ x_5.2.1 + (2 : Int) →
 (0 : Nat) + x_4.2.1.length ≤ x_4.2.1.length ∧ (x_4.2.1.length + (1 : Nat)) * (16 : Nat) ≤ (70368744177664 : Nat) ∧ Exists fun (x' : Nat × List Pl.Rt × Pl.Rt × Int) =>
 (x'.1 ≤ (List.getD s x.1 Pl.dY).2.1.length ∧ x'.2.1.length = x'.1 ∧ p ≤ x'.2.2.2 ∧ x'.2.2.2 ≤
 p + (100 : Int) * (↑x.1 : Int) + (3 : Int) + (30 : Int) * ((3 : Int) - x_2.1) +
 (2 : Int) * (↑x'.1 : Int)) ∧ (List.getD s x.1 Pl.dY).2.1.length - x'.1 < (List.getD s x.1 Pl.dY).2.1.length - x_4.1 ∧ ((0 : Nat) = (0 : Nat) ∧ (0 : Nat) = (0 : Nat) ∧ (0 : Nat) = (0 : Nat) ∧ ((0 : Nat) = (0 : Nat) ∧ List.length x_2.2.1 = List.length x_2.2.1) ∧ (↑x.1 : Int) = (↑x.1 : Int) ∧ x_2.1 = x_2.1 ∧ (0 : Nat) = (0 : Nat) ∧ IntKind.i64.wrap ((↑x_4.1 : Int) + (1 : Int)) = (↑x'.1 : Int) ∧ True) ∧ (Is (byts x_5.1) (byts b) ∧ y.2 = x'.2.2.2 ∧ True) ∧ (Is (syms s) (syms s) ∧ True) ∧ (Is (AV.lit (0 : Nat) (1 : Nat) fun (x x_6 : Nat) => AV.any) nilA ∧ True) ∧ IsO (xrR x_2.2.1) (xrR x_2.2.1) ∧ ((List.getD s x.1 Pl.dY).1 = (List.getD s x.1 Pl.dY).1 ∧ ((0 : Nat) = (0 : Nat) ∧ x_4.2.1.length + (1 : Nat) = x'.2.1.length) ∧ x_4.2.2.1.1 = x'.2.2.1.1 ∧ x_4.2.2.1.2 = x'.2.2.1.2 ∧ True) ∧ IsO
 (AObj.arr (x_4.2.1.length + (1 : Nat)) (2 : Nat)
 (joinC x_4.2.1.length (cQ x_4.2.1)
 (rowsCell [[i64 y.1.1, i64 y.1.2]])))
 (arQ x'.2.1) ∧ True) ∧ ((0 : Int) ≤ (↑x.1 : Int) ∧ (↑x.1 : Int) < (↑(List.length s) : Int)) ∧ x.1 < List.length s ∧ ((0 : Int) ≤ (↑x_4.1 : Int) ∧ (↑x_4.1 : Int) < (↑(List.getD s x.1 Pl.dY).2.1.length : Int)) ∧ x_4.1 < (List.getD s x.1 Pl.dY).2.1.length ∧ (∃ x_5 : List Int × Int × Int,
 Rd (549755813888 : Int) x_5.1 x_5.2.1 ∧ (((0 : Nat) = (0 : Nat) ∧ (List.getD s x.1 Pl.dY).2.1.getD x_4.1 (0 : Int) = x_5.2.2 ∧ True) ∧ (Is (byts b) (byts x_5.1) ∧ x_4.2.2.2 = x_5.2.1 ∧ True) ∧ True) ∧ ∀ (y : Pl.Rt × Int),
 x_5.2.1 ≤ y.2 ∧ y.2 ≤ x_5.2.1 + (2 : Int) →
 (0 : Nat) + x_4.2.1.length ≤ x_4.2.1.length ∧ (x_4.2.1.length + (1 : Nat)) * (16 : Nat) ≤ (70368744177664 : Nat) ∧ Exists fun (x' : Nat × List Pl.Rt × Pl.Rt × Int) =>
 (x'.1 ≤ (List.getD s x.1 Pl.dY).2.1.length ∧ x'.2.1.length = x'.1 ∧ p ≤ x'.2.2.2 ∧ x'.2.2.2 ≤
 p + (100 : Int) * (↑x.1 : Int) + (3 : Int) + (30 : Int) * ((3 : Int) - x_2.1) +
 (2 : Int) * (↑x'.1 : Int)) ∧ (List.getD s x.1 Pl.dY).2.1.length - x'.1 < (List.getD s x.1 Pl.dY).2.1.length - x_4.1 ∧ ((0 : Nat) = (0 : Nat) ∧ (0 : Nat) = (0 : Nat) ∧ (0 : Nat) = (0 : Nat) ∧ ((0 : Nat) = (0 : Nat) ∧ List.length x_2.2.1 = List.length x_2.2.1) ∧ (↑x.1 : Int) = (↑x.1 : Int) ∧ x_2.1 = x_2.1 ∧ (0 : Nat) = (0 : Nat) ∧ IntKind.i64.wrap ((↑x_4.1 : Int) + (1 : Int)) = (↑x'.1 : Int) ∧ True) ∧ (Is (byts x_5.1) (byts b) ∧ y.2 = x'.2.2.2 ∧ True) ∧ (Is (syms s) (syms s) ∧ True) ∧ (Is (AV.lit (0 : Nat) (1 : Nat) fun (x x_6 : Nat) => AV.any) nilA ∧ True) ∧ IsO (xrR x_2.2.1) (xrR x_2.2.1) ∧ ((List.getD s x.1 Pl.dY).1 = (List.getD s x.1 Pl.dY).1 ∧ ((0 : Nat) = (0 : Nat) ∧ x_4.2.1.length + (1 : Nat) = x'.2.1.length) ∧ x_4.2.2.1.1 = x'.2.2.1.1 ∧ x_4.2.2.1.2 = x'.2.2.1.2 ∧ True) ∧ IsO
 (AObj.arr (x_4.2.1.length + (1 : Nat)) (2 : Nat)
 (joinC x_4.2.1.length (cQ x_4.2.1)
 (rowsCell [[i64 y.1.1, i64 y.1.2]])))
 (arQ x'.2.1) ∧ True) ∧ ∃ x_5 : List Int × Int × Int,
 Rd (549755813888 : Int) x_5.1 x_5.2.1 ∧ (((0 : Nat) = (0 : Nat) ∧ (List.getD s x.1 Pl.dY).2.1.getD x_4.1 (0 : Int) = x_5.2.2 ∧ True) ∧ (Is (byts b) (byts x_5.1) ∧ x_4.2.2.2 = x_5.2.1 ∧ True) ∧ True) ∧ ∀ (y : Pl.Rt × Int),
 x_5.2.1 ≤ y.2 ∧ y.2 ≤ x_5.2.1 + (2 : Int) →
 (0 : Nat) + x_4.2.1.length ≤ x_4.2.1.length ∧ (x_4.2.1.length + (1 : Nat)) * (16 : Nat) ≤ (70368744177664 : Nat) ∧ Exists fun (x' : Nat × List Pl.Rt × Pl.Rt × Int) =>
 (x'.1 ≤ (List.getD s x.1 Pl.dY).2.1.length ∧ x'.2.1.length = x'.1 ∧ p ≤ x'.2.2.2 ∧ x'.2.2.2 ≤
 p + (100 : Int) * (↑x.1 : Int) + (3 : Int) + (30 : Int) * ((3 : Int) - x_2.1) +
 (2 : Int) * (↑x'.1 : Int)) ∧ (List.getD s x.1 Pl.dY).2.1.length - x'.1 < (List.getD s x.1 Pl.dY).2.1.length - x_4.1 ∧ ((0 : Nat) = (0 : Nat) ∧ (0 : Nat) = (0 : Nat) ∧ (0 : Nat) = (0 : Nat) ∧ ((0 : Nat) = (0 : Nat) ∧ List.length x_2.2.1 = List.length x_2.2.1) ∧ (↑x.1 : Int) = (↑x.1 : Int) ∧ x_2.1 = x_2.1 ∧ (0 : Nat) = (0 : Nat) ∧ IntKind.i64.wrap ((↑x_4.1 : Int) + (1 : Int)) = (↑x'.1 : Int) ∧ True) ∧ (Is (byts x_5.1) (byts b) ∧ y.2 = x'.2.2.2 ∧ True) ∧ (Is (syms s) (syms s) ∧ True) ∧ (Is (AV.lit (0 : Nat) (1 : Nat) fun (x x_6 : Nat) => AV.any) nilA ∧ True) ∧ IsO (xrR x_2.2.1) (xrR x_2.2.1) ∧ ((List.getD s x.1 Pl.dY).1 = (List.getD s x.1 Pl.dY).1 ∧ ((0 : Nat) = (0 : Nat) ∧ x_4.2.1.length + (1 : Nat) = x'.2.1.length) ∧ x_4.2.2.1.1 = x'.2.2.1.1 ∧ x_4.2.2.1.2 = x'.2.2.1.2 ∧ True) ∧ IsO
 (AObj.arr (x_4.2.1.length + (1 : Nat)) (2 : Nat)
 (joinC x_4.2.1.length (cQ x_4.2.1)
 (rowsCell [[i64 y.1.1, i64 y.1.2]])))
 (arQ x'.2.1) ∧ True)
 (∃ x_5 : List Pl.Rw × Pl.Rw,
 (x_5.1.length ≤ (1000 : Nat) ∧ (∀ (y : Pl.Rw), y ∈ x_5.1 → y.2.1.length ≤ (1000 : Nat)) ∧ x_5.2.2.1.length ≤ (1000 : Nat)) ∧ ((((0 : Nat) = (0 : Nat) ∧ List.length x_2.2.1 = x_5.1.length) ∧ ((List.getD s x.1 Pl.dY).1 = x_5.2.1 ∧ ((0 : Nat) = (0 : Nat) ∧ x_4.2.1.length = x_5.2.2.1.length) ∧ x_4.2.2.1.1 = x_5.2.2.2.1 ∧ x_4.2.2.1.2 = x_5.2.2.2.2 ∧ True) ∧ True) ∧ IsO (xrR x_2.2.1) (xrR x_5.1) ∧ IsO (arQ x_4.2.1) (arQ x_5.2.2.1) ∧ True) ∧ ∀ (y : List Nat),
 HPut x_5.1.length y →
 Exists fun (x' : Int × Pl.Mdl × Int) =>
 ((0 : Int) ≤ x'.1 ∧ x'.1 ≤ (3 : Int) ∧ Pl.MdB ((3 : Nat) * x.1 + (3 : Nat) - x'.1.toNat) (2 : Nat) x'.2.1 ∧ p ≤ x'.2.2 ∧ x'.2.2 ≤ p + (100 : Int) * (↑x.1 : Int) + (1 : Int) + (30 : Int) * ((3 : Int) - x'.1)) ∧ x'.1.toNat < x_2.1.toNat ∧ ((0 : Nat) = (0 : Nat) ∧ (0 : Nat) = (0 : Nat) ∧ (0 : Nat) = (0 : Nat) ∧ ((0 : Nat) = (0 : Nat) ∧ y.length = List.length x'.2.1) ∧ (↑x.1 : Int) = (↑x.1 : Int) ∧ IntKind.i64.wrap (x_2.1 - (1 : Int)) = x'.1 ∧ True) ∧ (Is (byts b) (byts b) ∧ x_4.2.2.2 = x'.2.2 ∧ True) ∧ (Is (syms s) (syms s) ∧ True) ∧ (Is (AV.lit (0 : Nat) (1 : Nat) fun (x x_6 : Nat) => AV.any) nilA ∧ True) ∧ IsO (xrR (List.map (fun (i : Nat) => (x_5.1 ++ [x_5.2]).getD i Pl.dR) y)) (xrR x'.2.1) ∧ True)) ∧ (((0 : Int) ≤ (↑x.1 : Int) ∧ (↑x.1 : Int) < (↑(List.length s) : Int)) ∧ x.1 < List.length s ∧ ((0 : Int) ≤ (↑x.1 : Int) ∧ (↑x.1 : Int) < (↑(List.length s) : Int)) ∧ x.1 < List.length s ∧ ∃ x_3 : List Int × Int × Int,
 Rd (549755813888 : Int) x_3.1 x_3.2.1 ∧ (((0 : Nat) = (0 : Nat) ∧ (List.getD s x.1 Pl.dY).2.2 = x_3.2.2 ∧ True) ∧ (Is (byts b) (byts x_3.1) ∧ x_2.2.2 = x_3.2.1 ∧ True) ∧ True) ∧ ∀ (y : Pl.Rt × Int),
 x_3.2.1 ≤ y.2 ∧ y.2 ≤ x_3.2.1 + (2 : Int) →
 (∃ x_4 : Nat × List Pl.Rt × Pl.Rt × Int,
 (x_4.1 ≤ (List.getD s x.1 Pl.dY).2.1.length ∧ x_4.2.1.length = x_4.1 ∧ p ≤ x_4.2.2.2 ∧ x_4.2.2.2 ≤ p + (100 : Int) * (↑x.1 : Int) + (3 : Int) + (30 : Int) * ((3 : Int) - x_2.1) + (2 : Int) * (↑x_4.1 : Int)) ∧ ((0 : Nat) = (0 : Nat) ∧ (0 : Nat) = (0 : Nat) ∧ (0 : Nat) = (0 : Nat) ∧ ((0 : Nat) = (0 : Nat) ∧ List.length x_2.2.1 = List.length x_2.2.1) ∧ (↑x.1 : Int) = (↑x.1 : Int) ∧ x_2.1 = x_2.1 ∧ (0 : Nat) = (0 : Nat) ∧ (0 : Int) = (↑x_4.1 : Int) ∧ True) ∧ (Is (byts x_3.1) (byts b) ∧ y.2 = x_4.2.2.2 ∧ True) ∧ (Is (syms s) (syms s) ∧ True) ∧ (Is (AV.lit (0 : Nat) (1 : Nat) fun (x x_5 : Nat) => AV.any) nilA ∧ True) ∧ IsO (xrR x_2.2.1) (xrR x_2.2.1) ∧ ((List.getD s x.1 Pl.dY).1 = (List.getD s x.1 Pl.dY).1 ∧ ((0 : Nat) = (0 : Nat) ∧ (0 : Nat) = (0 : Nat) ∧ x_4.2.1.length = (0 : Nat)) ∧ y.1.1 = x_4.2.2.1.1 ∧ y.1.2 = x_4.2.2.1.2 ∧ True) ∧ x_4.2.1.length = (0 : Nat) ∧ True) ∧ ∀ (x_4 : Nat × List Pl.Rt × Pl.Rt × Int),
 x_4.1 ≤ (List.getD s x.1 Pl.dY).2.1.length ∧ x_4.2.1.length = x_4.1 ∧ p ≤ x_4.2.2.2 ∧ x_4.2.2.2 ≤ p + (100 : Int) * (↑x.1 : Int) + (3 : Int) + (30 : Int) * ((3 : Int) - x_2.1) + (2 : Int) * (↑x_4.1 : Int) →
 ((0 : Int) ≤ (↑x.1 : Int) ∧ (↑x.1 : Int) < (↑(List.length s) : Int)) ∧ x.1 < List.length s ∧ condP (decide ((↑x_4.1 : Int) < (↑(List.getD s x.1 Pl.dY).2.1.length : Int)))
 ((((0 : Int) ≤ (↑x.1 : Int) ∧ (↑x.1 : Int) < (↑(List.length s) : Int)) ∧ x.1 < List.length s ∧ ((0 : Int) ≤ (↑x_4.1 : Int) ∧ (↑x_4.1 : Int) < (↑(List.getD s x.1 Pl.dY).2.1.length : Int)) ∧ x_4.1 < (List.getD s x.1 Pl.dY).2.1.length ∧ ∃ x_5 : List Int × Int × Int,
 Rd (549755813888 : Int) x_5.1 x_5.2.1 ∧ (((0 : Nat) = (0 : Nat) ∧ (List.getD s x.1 Pl.dY).2.1.getD x_4.1 (0 : Int) = x_5.2.2 ∧ True) ∧ (Is (byts b) (byts x_5.1) ∧ x_4.2.2.2 = x_5.2.1 ∧ True) ∧ True) ∧ ∀ (y : Pl.Rt × Int),
 x_5.2.1 ≤ y.2 ∧ y.2 ≤ x_5.2.1 + (2 : Int) →
 (0 : Nat) + x_4.2.1.length ≤ x_4.2.1.length ∧ (x_4.2.1.length + (1 : Nat)) * (16 : Nat) ≤ (70368744177664 : Nat) ∧ Exists fun (x' : Nat × List Pl.Rt × Pl.Rt × Int) =>
 (x'.1 ≤ (List.getD s x.1 Pl.dY).2.1.length ∧ x'.2.1.length = x'.1 ∧ p ≤ x'.2.2.2 ∧ x'.2.2.2 ≤
 p + (100 : Int) * (↑x.1 : Int) + (3 : Int) + (30 : Int) * ((3 : Int) - x_2.1) +
 (2 : Int) * (↑x'.1 : Int)) ∧ (List.getD s x.1 Pl.dY).2.1.length - x'.1 < (List.getD s x.1 Pl.dY).2.1.length - x_4.1 ∧ ((0 : Nat) = (0 : Nat) ∧ (0 : Nat) = (0 : Nat) ∧ (0 : Nat) = (0 : Nat) ∧ ((0 : Nat) = (0 : Nat) ∧ List.length x_2.2.1 = List.length x_2.2.1) ∧ (↑x.1 : Int) = (↑x.1 : Int) ∧ x_2.1 = x_2.1 ∧ (0 : Nat) = (0 : Nat) ∧ IntKind.i64.wrap ((↑x_4.1 : Int) + (1 : Int)) = (↑x'.1 : Int) ∧ True) ∧ (Is (byts x_5.1) (byts b) ∧ y.2 = x'.2.2.2 ∧ True) ∧ (Is (syms s) (syms s) ∧ True) ∧ (Is (AV.lit (0 : Nat) (1 : Nat) fun (x x_6 : Nat) => AV.any) nilA ∧ True) ∧ IsO (xrR x_2.2.1) (xrR x_2.2.1) ∧ ((List.getD s x.1 Pl.dY).1 = (List.getD s x.1 Pl.dY).1 ∧ ((0 : Nat) = (0 : Nat) ∧ x_4.2.1.length + (1 : Nat) = x'.2.1.length) ∧ x_4.2.2.1.1 = x'.2.2.1.1 ∧ x_4.2.2.1.2 = x'.2.2.1.2 ∧ True) ∧ IsO
 (AObj.arr (x_4.2.1.length + (1 : Nat)) (2 : Nat)
 (joinC x_4.2.1.length (cQ x_4.2.1)
 (rowsCell [[i64 y.1.1, i64 y.1.2]])))
 (arQ x'.2.1) ∧ True) ∧ ((0 : Int) ≤ (↑x.1 : Int) ∧ (↑x.1 : Int) < (↑(List.length s) : Int)) ∧ x.1 < List.length s ∧ ((0 : Int) ≤ (↑x_4.1 : Int) ∧ (↑x_4.1 : Int) < (↑(List.getD s x.1 Pl.dY).2.1.length : Int)) ∧ x_4.1 < (List.getD s x.1 Pl.dY).2.1.length ∧ (∃ x_5 : List Int × Int × Int,
 Rd (549755813888 : Int) x_5.1 x_5.2.1 ∧ (((0 : Nat) = (0 : Nat) ∧ (List.getD s x.1 Pl.dY).2.1.getD x_4.1 (0 : Int) = x_5.2.2 ∧ True) ∧ (Is (byts b) (byts x_5.1) ∧ x_4.2.2.2 = x_5.2.1 ∧ True) ∧ True) ∧ ∀ (y : Pl.Rt × Int),
 x_5.2.1 ≤ y.2 ∧ y.2 ≤ x_5.2.1 + (2 : Int) →
 (0 : Nat) + x_4.2.1.length ≤ x_4.2.1.length ∧ (x_4.2.1.length + (1 : Nat)) * (16 : Nat) ≤ (70368744177664 : Nat) ∧ Exists fun (x' : Nat × List Pl.Rt × Pl.Rt × Int) =>
 (x'.1 ≤ (List.getD s x.1 Pl.dY).2.1.length ∧ x'.2.1.length = x'.1 ∧ p ≤ x'.2.2.2 ∧ x'.2.2.2 ≤
 p + (100 : Int) * (↑x.1 : Int) + (3 : Int) + (30 : Int) * ((3 : Int) - x_2.1) +
 (2 : Int) * (↑x'.1 : Int)) ∧ (List.getD s x.1 Pl.dY).2.1.length - x'.1 < (List.getD s x.1 Pl.dY).2.1.length - x_4.1 ∧ ((0 : Nat) = (0 : Nat) ∧ (0 : Nat) = (0 : Nat) ∧ (0 : Nat) = (0 : Nat) ∧ ((0 : Nat) = (0 : Nat) ∧ List.length x_2.2.1 = List.length x_2.2.1) ∧ (↑x.1 : Int) = (↑x.1 : Int) ∧ x_2.1 = x_2.1 ∧ (0 : Nat) = (0 : Nat) ∧ IntKind.i64.wrap ((↑x_4.1 : Int) + (1 : Int)) = (↑x'.1 : Int) ∧ True) ∧ (Is (byts x_5.1) (byts b) ∧ y.2 = x'.2.2.2 ∧ True) ∧ (Is (syms s) (syms s) ∧ True) ∧ (Is (AV.lit (0 : Nat) (1 : Nat) fun (x x_6 : Nat) => AV.any) nilA ∧ True) ∧ IsO (xrR x_2.2.1) (xrR x_2.2.1) ∧ ((List.getD s x.1 Pl.dY).1 = (List.getD s x.1 Pl.dY).1 ∧ ((0 : Nat) = (0 : Nat) ∧ x_4.2.1.length + (1 : Nat) = x'.2.1.length) ∧ x_4.2.2.1.1 = x'.2.2.1.1 ∧ x_4.2.2.1.2 = x'.2.2.1.2 ∧ True) ∧ IsO
 (AObj.arr (x_4.2.1.length + (1 : Nat)) (2 : Nat)
 (joinC x_4.2.1.length (cQ x_4.2.1)
 (rowsCell [[i64 y.1.1, i64 y.1.2]])))
 (arQ x'.2.1) ∧ True) ∧ ∃ x_5 : List Int × Int × Int,
 Rd (549755813888 : Int) x_5.1 x_5.2.1 ∧ (((0 : Nat) = (0 : Nat) ∧ (List.getD s x.1 Pl.dY).2.1.getD x_4.1 (0 : Int) = x_5.2.2 ∧ True) ∧ (Is (byts b) (byts x_5.1) ∧ x_4.2.2.2 = x_5.2.1 ∧ True) ∧ True) ∧ ∀ (y : Pl.Rt × Int),
 x_5.2.1 ≤ y.2 ∧ y.2 ≤ x_5.2.1 + (2 : Int) →
 (0 : Nat) + x_4.2.1.length ≤ x_4.2.1.length ∧ (x_4.2.1.length + (1 : Nat)) * (16 : Nat) ≤ (70368744177664 : Nat) ∧ Exists fun (x' : Nat × List Pl.Rt × Pl.Rt × Int) =>
 (x'.1 ≤ (List.getD s x.1 Pl.dY).2.1.length ∧ x'.2.1.length = x'.1 ∧ p ≤ x'.2.2.2 ∧ x'.2.2.2 ≤
 p + (100 : Int) * (↑x.1 : Int) + (3 : Int) + (30 : Int) * ((3 : Int) - x_2.1) +
 (2 : Int) * (↑x'.1 : Int)) ∧ (List.getD s x.1 Pl.dY).2.1.length - x'.1 < (List.getD s x.1 Pl.dY).2.1.length - x_4.1 ∧ ((0 : Nat) = (0 : Nat) ∧ (0 : Nat) = (0 : Nat) ∧ (0 : Nat) = (0 : Nat) ∧ ((0 : Nat) = (0 : Nat) ∧ List.length x_2.2.1 = List.length x_2.2.1) ∧ (↑x.1 : Int) = (↑x.1 : Int) ∧ x_2.1 = x_2.1 ∧ (0 : Nat) = (0 : Nat) ∧ IntKind.i64.wrap ((↑x_4.1 : Int) + (1 : Int)) = (↑x'.1 : Int) ∧ True) ∧ (Is (byts x_5.1) (byts b) ∧ y.2 = x'.2.2.2 ∧ True) ∧ (Is (syms s) (syms s) ∧ True) ∧ (Is (AV.lit (0 : Nat) (1 : Nat) fun (x x_6 : Nat) => AV.any) nilA ∧ True) ∧ IsO (xrR x_2.2.1) (xrR x_2.2.1) ∧ ((List.getD s x.1 Pl.dY).1 = (List.getD s x.1 Pl.dY).1 ∧ ((0 : Nat) = (0 : Nat) ∧ x_4.2.1.length + (1 : Nat) = x'.2.1.length) ∧ x_4.2.2.1.1 = x'.2.2.1.1 ∧ x_4.2.2.1.2 = x'.2.2.1.2 ∧ True) ∧ IsO
 (AObj.arr (x_4.2.1.length + (1 : Nat)) (2 : Nat)
 (joinC x_4.2.1.length (cQ x_4.2.1)
 (rowsCell [[i64 y.1.1, i64 y.1.2]])))
 (arQ x'.2.1) ∧ True)
 (∃ x_5 : List Pl.Rw × Pl.Rw,
 (x_5.1.length ≤ (1000 : Nat) ∧ (∀ (y : Pl.Rw), y ∈ x_5.1 → y.2.1.length ≤ (1000 : Nat)) ∧ x_5.2.2.1.length ≤ (1000 : Nat)) ∧ ((((0 : Nat) = (0 : Nat) ∧ List.length x_2.2.1 = x_5.1.length) ∧ ((List.getD s x.1 Pl.dY).1 = x_5.2.1 ∧ ((0 : Nat) = (0 : Nat) ∧ x_4.2.1.length = x_5.2.2.1.length) ∧ x_4.2.2.1.1 = x_5.2.2.2.1 ∧ x_4.2.2.1.2 = x_5.2.2.2.2 ∧ True) ∧ True) ∧ IsO (xrR x_2.2.1) (xrR x_5.1) ∧ IsO (arQ x_4.2.1) (arQ x_5.2.2.1) ∧ True) ∧ ∀ (y : List Nat),
 HPut x_5.1.length y →
 Exists fun (x' : Int × Pl.Mdl × Int) =>
 ((0 : Int) ≤ x'.1 ∧ x'.1 ≤ (3 : Int) ∧ Pl.MdB ((3 : Nat) * x.1 + (3 : Nat) - x'.1.toNat) (2 : Nat) x'.2.1 ∧ p ≤ x'.2.2 ∧ x'.2.2 ≤ p + (100 : Int) * (↑x.1 : Int) + (1 : Int) + (30 : Int) * ((3 : Int) - x'.1)) ∧ x'.1.toNat < x_2.1.toNat ∧ ((0 : Nat) = (0 : Nat) ∧ (0 : Nat) = (0 : Nat) ∧ (0 : Nat) = (0 : Nat) ∧ ((0 : Nat) = (0 : Nat) ∧ y.length = List.length x'.2.1) ∧ (↑x.1 : Int) = (↑x.1 : Int) ∧ IntKind.i64.wrap (x_2.1 - (1 : Int)) = x'.1 ∧ True) ∧ (Is (byts b) (byts b) ∧ x_4.2.2.2 = x'.2.2 ∧ True) ∧ (Is (syms s) (syms s) ∧ True) ∧ (Is (AV.lit (0 : Nat) (1 : Nat) fun (x x_6 : Nat) => AV.any) nilA ∧ True) ∧ IsO (xrR (List.map (fun (i : Nat) => (x_5.1 ++ [x_5.2]).getD i Pl.dR) y)) (xrR x'.2.1) ∧ True)) ∧ ((0 : Int) ≤ (↑x.1 : Int) ∧ (↑x.1 : Int) < (↑(List.length s) : Int)) ∧ x.1 < List.length s ∧ (((0 : Int) ≤ (↑x.1 : Int) ∧ (↑x.1 : Int) < (↑(List.length s) : Int)) ∧ x.1 < List.length s ∧ ∃ x_3 : List Int × Int × Int,
 Rd (549755813888 : Int) x_3.1 x_3.2.1 ∧ (((0 : Nat) = (0 : Nat) ∧ (List.getD s x.1 Pl.dY).2.2 = x_3.2.2 ∧ True) ∧ (Is (byts b) (byts x_3.1) ∧ x_2.2.2 = x_3.2.1 ∧ True) ∧ True) ∧ ∀ (y : Pl.Rt × Int),
 x_3.2.1 ≤ y.2 ∧ y.2 ≤ x_3.2.1 + (2 : Int) →
 (∃ x_4 : Nat × List Pl.Rt × Pl.Rt × Int,
 (x_4.1 ≤ (List.getD s x.1 Pl.dY).2.1.length ∧ x_4.2.1.length = x_4.1 ∧ p ≤ x_4.2.2.2 ∧ x_4.2.2.2 ≤ p + (100 : Int) * (↑x.1 : Int) + (3 : Int) + (30 : Int) * ((3 : Int) - x_2.1) + (2 : Int) * (↑x_4.1 : Int)) ∧ ((0 : Nat) = (0 : Nat) ∧ (0 : Nat) = (0 : Nat) ∧ (0 : Nat) = (0 : Nat) ∧ ((0 : Nat) = (0 : Nat) ∧ List.length x_2.2.1 = List.length x_2.2.1) ∧ (↑x.1 : Int) = (↑x.1 : Int) ∧ x_2.1 = x_2.1 ∧ (0 : Nat) = (0 : Nat) ∧ (0 : Int) = (↑x_4.1 : Int) ∧ True) ∧ (Is (byts x_3.1) (byts b) ∧ y.2 = x_4.2.2.2 ∧ True) ∧ (Is (syms s) (syms s) ∧ True) ∧ (Is (AV.lit (0 : Nat) (1 : Nat) fun (x x_5 : Nat) => AV.any) nilA ∧ True) ∧ IsO (xrR x_2.2.1) (xrR x_2.2.1) ∧ ((List.getD s x.1 Pl.dY).1 = (List.getD s x.1 Pl.dY).1 ∧ ((0 : Nat) = (0 : Nat) ∧ (0 : Nat) = (0 : Nat) ∧ x_4.2.1.length = (0 : Nat)) ∧ y.1.1 = x_4.2.2.1.1 ∧ y.1.2 = x_4.2.2.1.2 ∧ True) ∧ x_4.2.1.length = (0 : Nat) ∧ True) ∧ ∀ (x_4 : Nat × List Pl.Rt × Pl.Rt × Int),
 x_4.1 ≤ (List.getD s x.1 Pl.dY).2.1.length ∧ x_4.2.1.length = x_4.1 ∧ p ≤ x_4.2.2.2 ∧ x_4.2.2.2 ≤ p + (100 : Int) * (↑x.1 : Int) + (3 : Int) + (30 : Int) * ((3 : Int) - x_2.1) + (2 : Int) * (↑x_4.1 : Int) →
 ((0 : Int) ≤ (↑x.1 : Int) ∧ (↑x.1 : Int) < (↑(List.length s) : Int)) ∧ x.1 < List.length s ∧ condP (decide ((↑x_4.1 : Int) < (↑(List.getD s x.1 Pl.dY).2.1.length : Int)))
 ((((0 : Int) ≤ (↑x.1 : Int) ∧ (↑x.1 : Int) < (↑(List.length s) : Int)) ∧ x.1 < List.length s ∧ ((0 : Int) ≤ (↑x_4.1 : Int) ∧ (↑x_4.1 : Int) < (↑(List.getD s x.1 Pl.dY).2.1.length : Int)) ∧ x_4.1 < (List.getD s x.1 Pl.dY).2.1.length ∧ ∃ x_5 : List Int × Int × Int,
 Rd (549755813888 : Int) x_5.1 x_5.2.1 ∧ (((0 : Nat) = (0 : Nat) ∧ (List.getD s x.1 Pl.dY).2.1.getD x_4.1 (0 : Int) = x_5.2.2 ∧ True) ∧ (Is (byts b) (byts x_5.1) ∧ x_4.2.2.2 = x_5.2.1 ∧ True) ∧ True) ∧ ∀ (y : Pl.Rt × Int),
 x_5.2.1 ≤ y.2 ∧ y.2 ≤ x_5.2.1 + (2 : Int) →
 (0 : Nat) + x_4.2.1.length ≤ x_4.2.1.length ∧ (x_4.2.1.length + (1 : Nat)) * (16 : Nat) ≤ (70368744177664 : Nat) ∧ Exists fun (x' : Nat × List Pl.Rt × Pl.Rt × Int) =>
 (x'.1 ≤ (List.getD s x.1 Pl.dY).2.1.length ∧ x'.2.1.length = x'.1 ∧ p ≤ x'.2.2.2 ∧ x'.2.2.2 ≤
 p + (100 : Int) * (↑x.1 : Int) + (3 : Int) + (30 : Int) * ((3 : Int) - x_2.1) +
 (2 : Int) * (↑x'.1 : Int)) ∧ (List.getD s x.1 Pl.dY).2.1.length - x'.1 < (List.getD s x.1 Pl.dY).2.1.length - x_4.1 ∧ ((0 : Nat) = (0 : Nat) ∧ (0 : Nat) = (0 : Nat) ∧ (0 : Nat) = (0 : Nat) ∧ ((0 : Nat) = (0 : Nat) ∧ List.length x_2.2.1 = List.length x_2.2.1) ∧ (↑x.1 : Int) = (↑x.1 : Int) ∧ x_2.1 = x_2.1 ∧ (0 : Nat) = (0 : Nat) ∧ IntKind.i64.wrap ((↑x_4.1 : Int) + (1 : Int)) = (↑x'.1 : Int) ∧ True) ∧ (Is (byts x_5.1) (byts b) ∧ y.2 = x'.2.2.2 ∧ True) ∧ (Is (syms s) (syms s) ∧ True) ∧ (Is (AV.lit (0 : Nat) (1 : Nat) fun (x x_6 : Nat) => AV.any) nilA ∧ True) ∧ IsO (xrR x_2.2.1) (xrR x_2.2.1) ∧ ((List.getD s x.1 Pl.dY).1 = (List.getD s x.1 Pl.dY).1 ∧ ((0 : Nat) = (0 : Nat) ∧ x_4.2.1.length + (1 : Nat) = x'.2.1.length) ∧ x_4.2.2.1.1 = x'.2.2.1.1 ∧ x_4.2.2.1.2 = x'.2.2.1.2 ∧ True) ∧ IsO
 (AObj.arr (x_4.2.1.length + (1 : Nat)) (2 : Nat)
 (joinC x_4.2.1.length (cQ x_4.2.1)
 (rowsCell [[i64 y.1.1, i64 y.1.2]])))
 (arQ x'.2.1) ∧ True) ∧ ((0 : Int) ≤ (↑x.1 : Int) ∧ (↑x.1 : Int) < (↑(List.length s) : Int)) ∧ x.1 < List.length s ∧ ((0 : Int) ≤ (↑x_4.1 : Int) ∧ (↑x_4.1 : Int) < (↑(List.getD s x.1 Pl.dY).2.1.length : Int)) ∧ x_4.1 < (List.getD s x.1 Pl.dY).2.1.length ∧ (∃ x_5 : List Int × Int × Int,
 Rd (549755813888 : Int) x_5.1 x_5.2.1 ∧ (((0 : Nat) = (0 : Nat) ∧ (List.getD s x.1 Pl.dY).2.1.getD x_4.1 (0 : Int) = x_5.2.2 ∧ True) ∧ (Is (byts b) (byts x_5.1) ∧ x_4.2.2.2 = x_5.2.1 ∧ True) ∧ True) ∧ ∀ (y : Pl.Rt × Int),
 x_5.2.1 ≤ y.2 ∧ y.2 ≤ x_5.2.1 + (2 : Int) →
 (0 : Nat) + x_4.2.1.length ≤ x_4.2.1.length ∧ (x_4.2.1.length + (1 : Nat)) * (16 : Nat) ≤ (70368744177664 : Nat) ∧ Exists fun (x' : Nat × List Pl.Rt × Pl.Rt × Int) =>
 (x'.1 ≤ (List.getD s x.1 Pl.dY).2.1.length ∧ x'.2.1.length = x'.1 ∧ p ≤ x'.2.2.2 ∧ x'.2.2.2 ≤
 p + (100 : Int) * (↑x.1 : Int) + (3 : Int) + (30 : Int) * ((3 : Int) - x_2.1) +
 (2 : Int) * (↑x'.1 : Int)) ∧ (List.getD s x.1 Pl.dY).2.1.length - x'.1 < (List.getD s x.1 Pl.dY).2.1.length - x_4.1 ∧ ((0 : Nat) = (0 : Nat) ∧ (0 : Nat) = (0 : Nat) ∧ (0 : Nat) = (0 : Nat) ∧ ((0 : Nat) = (0 : Nat) ∧ List.length x_2.2.1 = List.length x_2.2.1) ∧ (↑x.1 : Int) = (↑x.1 : Int) ∧ x_2.1 = x_2.1 ∧ (0 : Nat) = (0 : Nat) ∧ IntKind.i64.wrap ((↑x_4.1 : Int) + (1 : Int)) = (↑x'.1 : Int) ∧ True) ∧ (Is (byts x_5.1) (byts b) ∧ y.2 = x'.2.2.2 ∧ True) ∧ (Is (syms s) (syms s) ∧ True) ∧ (Is (AV.lit (0 : Nat) (1 : Nat) fun (x x_6 : Nat) => AV.any) nilA ∧ True) ∧ IsO (xrR x_2.2.1) (xrR x_2.2.1) ∧ ((List.getD s x.1 Pl.dY).1 = (List.getD s x.1 Pl.dY).1 ∧ ((0 : Nat) = (0 : Nat) ∧ x_4.2.1.length + (1 : Nat) = x'.2.1.length) ∧ x_4.2.2.1.1 = x'.2.2.1.1 ∧ x_4.2.2.1.2 = x'.2.2.1.2 ∧ True) ∧ IsO
 (AObj.arr (x_4.2.1.length + (1 : Nat)) (2 : Nat)
 (joinC x_4.2.1.length (cQ x_4.2.1)
 (rowsCell [[i64 y.1.1, i64 y.1.2]])))
 (arQ x'.2.1) ∧ True) ∧ ∃ x_5 : List Int × Int × Int,
 Rd (549755813888 : Int) x_5.1 x_5.2.1 ∧ (((0 : Nat) = (0 : Nat) ∧ (List.getD s x.1 Pl.dY).2.1.getD x_4.1 (0 : Int) = x_5.2.2 ∧ True) ∧ (Is (byts b) (byts x_5.1) ∧ x_4.2.2.2 = x_5.2.1 ∧ True) ∧ True) ∧ ∀ (y : Pl.Rt × Int),
 x_5.2.1 ≤ y.2 ∧ y.2 ≤ x_5.2.1 + (2 : Int) →
 (0 : Nat) + x_4.2.1.length ≤ x_4.2.1.length ∧ (x_4.2.1.length + (1 : Nat)) * (16 : Nat) ≤ (70368744177664 : Nat) ∧ Exists fun (x' : Nat × List Pl.Rt × Pl.Rt × Int) =>
 (x'.1 ≤ (List.getD s x.1 Pl.dY).2.1.length ∧ x'.2.1.length = x'.1 ∧ p ≤ x'.2.2.2 ∧ x'.2.2.2 ≤
 p + (100 : Int) * (↑x.1 : Int) + (3 : Int) + (30 : Int) * ((3 : Int) - x_2.1) +
 (2 : Int) * (↑x'.1 : Int)) ∧ (List.getD s x.1 Pl.dY).2.1.length - x'.1 < (List.getD s x.1 Pl.dY).2.1.length - x_4.1 ∧ ((0 : Nat) = (0 : Nat) ∧ (0 : Nat) = (0 : Nat) ∧ (0 : Nat) = (0 : Nat) ∧ ((0 : Nat) = (0 : Nat) ∧ List.length x_2.2.1 = List.length x_2.2.1) ∧ (↑x.1 : Int) = (↑x.1 : Int) ∧ x_2.1 = x_2.1 ∧ (0 : Nat) = (0 : Nat) ∧ IntKind.i64.wrap ((↑x_4.1 : Int) + (1 : Int)) = (↑x'.1 : Int) ∧ True) ∧ (Is (byts x_5.1) (byts b) ∧ y.2 = x'.2.2.2 ∧ True) ∧ (Is (syms s) (syms s) ∧ True) ∧ (Is (AV.lit (0 : Nat) (1 : Nat) fun (x x_6 : Nat) => AV.any) nilA ∧ True) ∧ IsO (xrR x_2.2.1) (xrR x_2.2.1) ∧ ((List.getD s x.1 Pl.dY).1 = (List.getD s x.1 Pl.dY).1 ∧ ((0 : Nat) = (0 : Nat) ∧ x_4.2.1.length + (1 : Nat) = x'.2.1.length) ∧ x_4.2.2.1.1 = x'.2.2.1.1 ∧ x_4.2.2.1.2 = x'.2.2.1.2 ∧ True) ∧ IsO
 (AObj.arr (x_4.2.1.length + (1 : Nat)) (2 : Nat)
 (joinC x_4.2.1.length (cQ x_4.2.1)
 (rowsCell [[i64 y.1.1, i64 y.1.2]])))
 (arQ x'.2.1) ∧ True)
 (∃ x_5 : List Pl.Rw × Pl.Rw,
 (x_5.1.length ≤ (1000 : Nat) ∧ (∀ (y : Pl.Rw), y ∈ x_5.1 → y.2.1.length ≤ (1000 : Nat)) ∧ x_5.2.2.1.length ≤ (1000 : Nat)) ∧ ((((0 : Nat) = (0 : Nat) ∧ List.length x_2.2.1 = x_5.1.length) ∧ ((List.getD s x.1 Pl.dY).1 = x_5.2.1 ∧ ((0 : Nat) = (0 : Nat) ∧ x_4.2.1.length = x_5.2.2.1.length) ∧ x_4.2.2.1.1 = x_5.2.2.2.1 ∧ x_4.2.2.1.2 = x_5.2.2.2.2 ∧ True) ∧ True) ∧ IsO (xrR x_2.2.1) (xrR x_5.1) ∧ IsO (arQ x_4.2.1) (arQ x_5.2.2.1) ∧ True) ∧ ∀ (y : List Nat),
 HPut x_5.1.length y →
 Exists fun (x' : Int × Pl.Mdl × Int) =>
 ((0 : Int) ≤ x'.1 ∧ x'.1 ≤ (3 : Int) ∧ Pl.MdB ((3 : Nat) * x.1 + (3 : Nat) - x'.1.toNat) (2 : Nat) x'.2.1 ∧ p ≤ x'.2.2 ∧ x'.2.2 ≤ p + (100 : Int) * (↑x.1 : Int) + (1 : Int) + (30 : Int) * ((3 : Int) - x'.1)) ∧ x'.1.toNat < x_2.1.toNat ∧ ((0 : Nat) = (0 : Nat) ∧ (0 : Nat) = (0 : Nat) ∧ (0 : Nat) = (0 : Nat) ∧ ((0 : Nat) = (0 : Nat) ∧ y.length = List.length x'.2.1) ∧ (↑x.1 : Int) = (↑x.1 : Int) ∧ IntKind.i64.wrap (x_2.1 - (1 : Int)) = x'.1 ∧ True) ∧ (Is (byts b) (byts b) ∧ x_4.2.2.2 = x'.2.2 ∧ True) ∧ (Is (syms s) (syms s) ∧ True) ∧ (Is (AV.lit (0 : Nat) (1 : Nat) fun (x x_6 : Nat) => AV.any) nilA ∧ True) ∧ IsO (xrR (List.map (fun (i : Nat) => (x_5.1 ++ [x_5.2]).getD i Pl.dR) y)) (xrR x'.2.1) ∧ True)) ∧ ∃ x_3 : List Int × Int × Int,
 Rd (549755813888 : Int) x_3.1 x_3.2.1 ∧ (((0 : Nat) = (0 : Nat) ∧ (List.getD s x.1 Pl.dY).2.2 = x_3.2.2 ∧ True) ∧ (Is (byts b) (byts x_3.1) ∧ x_2.2.2 = x_3.2.1 ∧ True) ∧ True) ∧ ∀ (y : Pl.Rt × Int),
 x_3.2.1 ≤ y.2 ∧ y.2 ≤ x_3.2.1 + (2 : Int) →
 ((0 : Int) ≤ (↑x.1 : Int) ∧ (↑x.1 : Int) < (↑(List.length s) : Int)) ∧ x.1 < List.length s ∧ (∃ x_4 : Nat × List Pl.Rt × Pl.Rt × Int,
 (x_4.1 ≤ (List.getD s x.1 Pl.dY).2.1.length ∧ x_4.2.1.length = x_4.1 ∧ p ≤ x_4.2.2.2 ∧ x_4.2.2.2 ≤ p + (100 : Int) * (↑x.1 : Int) + (3 : Int) + (30 : Int) * ((3 : Int) - x_2.1) + (2 : Int) * (↑x_4.1 : Int)) ∧ ((0 : Nat) = (0 : Nat) ∧ (0 : Nat) = (0 : Nat) ∧ (0 : Nat) = (0 : Nat) ∧ ((0 : Nat) = (0 : Nat) ∧ List.length x_2.2.1 = List.length x_2.2.1) ∧ (↑x.1 : Int) = (↑x.1 : Int) ∧ x_2.1 = x_2.1 ∧ (0 : Nat) = (0 : Nat) ∧ (0 : Int) = (↑x_4.1 : Int) ∧ True) ∧ (Is (byts x_3.1) (byts b) ∧ y.2 = x_4.2.2.2 ∧ True) ∧ (Is (syms s) (syms s) ∧ True) ∧ (Is (AV.lit (0 : Nat) (1 : Nat) fun (x x_5 : Nat) => AV.any) nilA ∧ True) ∧ IsO (xrR x_2.2.1) (xrR x_2.2.1) ∧ ((List.getD s x.1 Pl.dY).1 = (List.getD s x.1 Pl.dY).1 ∧ ((0 : Nat) = (0 : Nat) ∧ (0 : Nat) = (0 : Nat) ∧ x_4.2.1.length = (0 : Nat)) ∧ y.1.1 = x_4.2.2.1.1 ∧ y.1.2 = x_4.2.2.1.2 ∧ True) ∧ x_4.2.1.length = (0 : Nat) ∧ True) ∧ ∀ (x_4 : Nat × List Pl.Rt × Pl.Rt × Int),
 x_4.1 ≤ (List.getD s x.1 Pl.dY).2.1.length ∧ x_4.2.1.length = x_4.1 ∧ p ≤ x_4.2.2.2 ∧ x_4.2.2.2 ≤ p + (100 : Int) * (↑x.1 : Int) + (3 : Int) + (30 : Int) * ((3 : Int) - x_2.1) + (2 : Int) * (↑x_4.1 : Int) →
 ((0 : Int) ≤ (↑x.1 : Int) ∧ (↑x.1 : Int) < (↑(List.length s) : Int)) ∧ x.1 < List.length s ∧ condP (decide ((↑x_4.1 : Int) < (↑(List.getD s x.1 Pl.dY).2.1.length : Int)))
 ((((0 : Int) ≤ (↑x.1 : Int) ∧ (↑x.1 : Int) < (↑(List.length s) : Int)) ∧ x.1 < List.length s ∧ ((0 : Int) ≤ (↑x_4.1 : Int) ∧ (↑x_4.1 : Int) < (↑(List.getD s x.1 Pl.dY).2.1.length : Int)) ∧ x_4.1 < (List.getD s x.1 Pl.dY).2.1.length ∧ ∃ x_5 : List Int × Int × Int,
 Rd (549755813888 : Int) x_5.1 x_5.2.1 ∧ (((0 : Nat) = (0 : Nat) ∧ (List.getD s x.1 Pl.dY).2.1.getD x_4.1 (0 : Int) = x_5.2.2 ∧ True) ∧ (Is (byts b) (byts x_5.1) ∧ x_4.2.2.2 = x_5.2.1 ∧ True) ∧ True) ∧ ∀ (y : Pl.Rt × Int),
 x_5.2.1 ≤ y.2 ∧ y.2 ≤ x_5.2.1 + (2 : Int) →
 (0 : Nat) + x_4.2.1.length ≤ x_4.2.1.length ∧ (x_4.2.1.length + (1 : Nat)) * (16 : Nat) ≤ (70368744177664 : Nat) ∧ Exists fun (x' : Nat × List Pl.Rt × Pl.Rt × Int) =>
 (x'.1 ≤ (List.getD s x.1 Pl.dY).2.1.length ∧ x'.2.1.length = x'.1 ∧ p ≤ x'.2.2.2 ∧ x'.2.2.2 ≤
 p + (100 : Int) * (↑x.1 : Int) + (3 : Int) + (30 : Int) * ((3 : Int) - x_2.1) +
 (2 : Int) * (↑x'.1 : Int)) ∧ (List.getD s x.1 Pl.dY).2.1.length - x'.1 < (List.getD s x.1 Pl.dY).2.1.length - x_4.1 ∧ ((0 : Nat) = (0 : Nat) ∧ (0 : Nat) = (0 : Nat) ∧ (0 : Nat) = (0 : Nat) ∧ ((0 : Nat) = (0 : Nat) ∧ List.length x_2.2.1 = List.length x_2.2.1) ∧ (↑x.1 : Int) = (↑x.1 : Int) ∧ x_2.1 = x_2.1 ∧ (0 : Nat) = (0 : Nat) ∧ IntKind.i64.wrap ((↑x_4.1 : Int) + (1 : Int)) = (↑x'.1 : Int) ∧ True) ∧ (Is (byts x_5.1) (byts b) ∧ y.2 = x'.2.2.2 ∧ True) ∧ (Is (syms s) (syms s) ∧ True) ∧ (Is (AV.lit (0 : Nat) (1 : Nat) fun (x x_6 : Nat) => AV.any) nilA ∧ True) ∧ IsO (xrR x_2.2.1) (xrR x_2.2.1) ∧ ((List.getD s x.1 Pl.dY).1 = (List.getD s x.1 Pl.dY).1 ∧ ((0 : Nat) = (0 : Nat) ∧ x_4.2.1.length + (1 : Nat) = x'.2.1.length) ∧ x_4.2.2.1.1 = x'.2.2.1.1 ∧ x_4.2.2.1.2 = x'.2.2.1.2 ∧ True) ∧ IsO
 (AObj.arr (x_4.2.1.length + (1 : Nat)) (2 : Nat)
 (joinC x_4.2.1.length (cQ x_4.2.1)
 (rowsCell [[i64 y.1.1, i64 y.1.2]])))
 (arQ x'.2.1) ∧ True) ∧ ((0 : Int) ≤ (↑x.1 : Int) ∧ (↑x.1 : Int) < (↑(List.length s) : Int)) ∧ x.1 < List.length s ∧ ((0 : Int) ≤ (↑x_4.1 : Int) ∧ (↑x_4.1 : Int) < (↑(List.getD s x.1 Pl.dY).2.1.length : Int)) ∧ x_4.1 < (List.getD s x.1 Pl.dY).2.1.length ∧ (∃ x_5 : List Int × Int × Int,
 Rd (549755813888 : Int) x_5.1 x_5.2.1 ∧ (((0 : Nat) = (0 : Nat) ∧ (List.getD s x.1 Pl.dY).2.1.getD x_4.1 (0 : Int) = x_5.2.2 ∧ True) ∧ (Is (byts b) (byts x_5.1) ∧ x_4.2.2.2 = x_5.2.1 ∧ True) ∧ True) ∧ ∀ (y : Pl.Rt × Int),
 x_5.2.1 ≤ y.2 ∧ y.2 ≤ x_5.2.1 + (2 : Int) →
 (0 : Nat) + x_4.2.1.length ≤ x_4.2.1.length ∧ (x_4.2.1.length + (1 : Nat)) * (16 : Nat) ≤ (70368744177664 : Nat) ∧ Exists fun (x' : Nat × List Pl.Rt × Pl.Rt × Int) =>
 (x'.1 ≤ (List.getD s x.1 Pl.dY).2.1.length ∧ x'.2.1.length = x'.1 ∧ p ≤ x'.2.2.2 ∧ x'.2.2.2 ≤
 p + (100 : Int) * (↑x.1 : Int) + (3 : Int) + (30 : Int) * ((3 : Int) - x_2.1) +
 (2 : Int) * (↑x'.1 : Int)) ∧ (List.getD s x.1 Pl.dY).2.1.length - x'.1 < (List.getD s x.1 Pl.dY).2.1.length - x_4.1 ∧ ((0 : Nat) = (0 : Nat) ∧ (0 : Nat) = (0 : Nat) ∧ (0 : Nat) = (0 : Nat) ∧ ((0 : Nat) = (0 : Nat) ∧ List.length x_2.2.1 = List.length x_2.2.1) ∧ (↑x.1 : Int) = (↑x.1 : Int) ∧ x_2.1 = x_2.1 ∧ (0 : Nat) = (0 : Nat) ∧ IntKind.i64.wrap ((↑x_4.1 : Int) + (1 : Int)) = (↑x'.1 : Int) ∧ True) ∧ (Is (byts x_5.1) (byts b) ∧ y.2 = x'.2.2.2 ∧ True) ∧ (Is (syms s) (syms s) ∧ True) ∧ (Is (AV.lit (0 : Nat) (1 : Nat) fun (x x_6 : Nat) => AV.any) nilA ∧ True) ∧ IsO (xrR x_2.2.1) (xrR x_2.2.1) ∧ ((List.getD s x.1 Pl.dY).1 = (List.getD s x.1 Pl.dY).1 ∧ ((0 : Nat) = (0 : Nat) ∧ x_4.2.1.length + (1 : Nat) = x'.2.1.length) ∧ x_4.2.2.1.1 = x'.2.2.1.1 ∧ x_4.2.2.1.2 = x'.2.2.1.2 ∧ True) ∧ IsO
 (AObj.arr (x_4.2.1.length + (1 : Nat)) (2 : Nat)
 (joinC x_4.2.1.length (cQ x_4.2.1)
 (rowsCell [[i64 y.1.1, i64 y.1.2]])))
 (arQ x'.2.1) ∧ True) ∧ ∃ x_5 : List Int × Int × Int,
 Rd (549755813888 : Int) x_5.1 x_5.2.1 ∧ (((0 : Nat) = (0 : Nat) ∧ (List.getD s x.1 Pl.dY).2.1.getD x_4.1 (0 : Int) = x_5.2.2 ∧ True) ∧ (Is (byts b) (byts x_5.1) ∧ x_4.2.2.2 = x_5.2.1 ∧ True) ∧ True) ∧ ∀ (y : Pl.Rt × Int),
 x_5.2.1 ≤ y.2 ∧ y.2 ≤ x_5.2.1 + (2 : Int) →
 (0 : Nat) + x_4.2.1.length ≤ x_4.2.1.length ∧ (x_4.2.1.length + (1 : Nat)) * (16 : Nat) ≤ (70368744177664 : Nat) ∧ Exists fun (x' : Nat × List Pl.Rt × Pl.Rt × Int) =>
 (x'.1 ≤ (List.getD s x.1 Pl.dY).2.1.length ∧ x'.2.1.length = x'.1 ∧ p ≤ x'.2.2.2 ∧ x'.2.2.2 ≤
 p + (100 : Int) * (↑x.1 : Int) + (3 : Int) + (30 : Int) * ((3 : Int) - x_2.1) +
 (2 : Int) * (↑x'.1 : Int)) ∧ (List.getD s x.1 Pl.dY).2.1.length - x'.1 < (List.getD s x.1 Pl.dY).2.1.length - x_4.1 ∧ ((0 : Nat) = (0 : Nat) ∧ (0 : Nat) = (0 : Nat) ∧ (0 : Nat) = (0 : Nat) ∧ ((0 : Nat) = (0 : Nat) ∧ List.length x_2.2.1 = List.length x_2.2.1) ∧ (↑x.1 : Int) = (↑x.1 : Int) ∧ x_2.1 = x_2.1 ∧ (0 : Nat) = (0 : Nat) ∧ IntKind.i64.wrap ((↑x_4.1 : Int) + (1 : Int)) = (↑x'.1 : Int) ∧ True) ∧ (Is (byts x_5.1) (byts b) ∧ y.2 = x'.2.2.2 ∧ True) ∧ (Is (syms s) (syms s) ∧ True) ∧ (Is (AV.lit (0 : Nat) (1 : Nat) fun (x x_6 : Nat) => AV.any) nilA ∧ True) ∧ IsO (xrR x_2.2.1) (xrR x_2.2.1) ∧ ((List.getD s x.1 Pl.dY).1 = (List.getD s x.1 Pl.dY).1 ∧ ((0 : Nat) = (0 : Nat) ∧ x_4.2.1.length + (1 : Nat) = x'.2.1.length) ∧ x_4.2.2.1.1 = x'.2.2.1.1 ∧ x_4.2.2.1.2 = x'.2.2.1.2 ∧ True) ∧ IsO
 (AObj.arr (x_4.2.1.length + (1 : Nat)) (2 : Nat)
 (joinC x_4.2.1.length (cQ x_4.2.1)
 (rowsCell [[i64 y.1.1, i64 y.1.2]])))
 (arQ x'.2.1) ∧ True)
 (∃ x_5 : List Pl.Rw × Pl.Rw,
 (x_5.1.length ≤ (1000 : Nat) ∧ (∀ (y : Pl.Rw), y ∈ x_5.1 → y.2.1.length ≤ (1000 : Nat)) ∧ x_5.2.2.1.length ≤ (1000 : Nat)) ∧ ((((0 : Nat) = (0 : Nat) ∧ List.length x_2.2.1 = x_5.1.length) ∧ ((List.getD s x.1 Pl.dY).1 = x_5.2.1 ∧ ((0 : Nat) = (0 : Nat) ∧ x_4.2.1.length = x_5.2.2.1.length) ∧ x_4.2.2.1.1 = x_5.2.2.2.1 ∧ x_4.2.2.1.2 = x_5.2.2.2.2 ∧ True) ∧ True) ∧ IsO (xrR x_2.2.1) (xrR x_5.1) ∧ IsO (arQ x_4.2.1) (arQ x_5.2.2.1) ∧ True) ∧ ∀ (y : List Nat),
 HPut x_5.1.length y →
 Exists fun (x' : Int × Pl.Mdl × Int) =>
 ((0 : Int) ≤ x'.1 ∧ x'.1 ≤ (3 : Int) ∧ Pl.MdB ((3 : Nat) * x.1 + (3 : Nat) - x'.1.toNat) (2 : Nat) x'.2.1 ∧ p ≤ x'.2.2 ∧ x'.2.2 ≤ p + (100 : Int) * (↑x.1 : Int) + (1 : Int) + (30 : Int) * ((3 : Int) - x'.1)) ∧ x'.1.toNat < x_2.1.toNat ∧ ((0 : Nat) = (0 : Nat) ∧ (0 : Nat) = (0 : Nat) ∧ (0 : Nat) = (0 : Nat) ∧ ((0 : Nat) = (0 : Nat) ∧ y.length = List.length x'.2.1) ∧ (↑x.1 : Int) = (↑x.1 : Int) ∧ IntKind.i64.wrap (x_2.1 - (1 : Int)) = x'.1 ∧ True) ∧ (Is (byts b) (byts b) ∧ x_4.2.2.2 = x'.2.2 ∧ True) ∧ (Is (syms s) (syms s) ∧ True) ∧ (Is (AV.lit (0 : Nat) (1 : Nat) fun (x x_6 : Nat) => AV.any) nilA ∧ True) ∧ IsO (xrR (List.map (fun (i : Nat) => (x_5.1 ++ [x_5.2]).getD i Pl.dR) y)) (xrR x'.2.1) ∧ True))
 (Exists fun (x' : Nat × Pl.Mdl × Int) =>
 (x'.1 ≤ List.length s ∧ Pl.MdB ((3 : Nat) * x'.1) (2 : Nat) x'.2.1 ∧ p ≤ x'.2.2 ∧ x'.2.2 ≤ p + (100 : Int) * (↑x'.1 : Int)) ∧ List.length s - x'.1 < List.length s - x.1 ∧ ((0 : Nat) = (0 : Nat) ∧ (0 : Nat) = (0 : Nat) ∧ (0 : Nat) = (0 : Nat) ∧ ((0 : Nat) = (0 : Nat) ∧ List.length x_2.2.1 = List.length x'.2.1) ∧ IntKind.i64.wrap ((↑x.1 : Int) + (1 : Int)) = (↑x'.1 : Int) ∧ True) ∧ (Is (byts b) (byts b) ∧ x_2.2.2 = x'.2.2 ∧ True) ∧ (Is (syms s) (syms s) ∧ True) ∧ (Is (AV.lit (0 : Nat) (1 : Nat) fun (x x_3 : Nat) => AV.any) nilA ∧ True) ∧ IsO (xrR x_2.2.1) (xrR x'.2.1) ∧ True))
 (∃ y : Pl.Mdl × Int,
 (Pl.MdB (15 : Nat) (2 : Nat) y.1 ∧ p ≤ y.2 ∧ y.2 ≤ p + (1000 : Int)) ∧ ((((0 : Nat) = (0 : Nat) ∧ List.length x.2.1 = List.length y.1) ∧ True) ∧ True) ∧ (Is (byts b) (byts b) ∧ x.2.2 = y.2 ∧ True) ∧ IsO (xrR x.2.1) (xrR y.1) ∧ True)) = Goal Tryz.prog [K_num, K_l7Value, K_l7PutX] (A_l7Any b p s) K_l7Any.1 K_l7Any.2 ((b, p, s)) := by kernel_rfl


theorem vc_l7Some (b : List Int) (p : Int) (s : Pl.Sig) : (∃ x : BX,
 (Rd (137438953472 : Int) x.1 x.2.1 ∧ Pl.SgB (5 : Nat) (2 : Nat) x.2.2) ∧ (((0 : Nat) = (0 : Nat) ∧ (Is (syms s) (syms x.2.2) ∧ True) ∧ True) ∧ (Is (byts b) (byts x.1) ∧ p = x.2.1 ∧ True) ∧ True) ∧ ∀ (y : Pl.Mdl × Int),
 Pl.MdB (15 : Nat) (2 : Nat) y.1 ∧ x.2.1 ≤ y.2 ∧ y.2 ≤ x.2.1 + (1000 : Int) →
 condP ((↑(List.length y.1) : Int) == (0 : Int))
 (∃ y_1 : Pl.Mdl × Int,
 (Pl.MdB (16 : Nat) (3 : Nat) y_1.1 ∧ p ≤ y_1.2 ∧ y_1.2 ≤ p + (1100 : Int)) ∧ (0 : Nat) + List.length y.1 ≤ List.length y.1 ∧ ((Is (mrows y.1) (mrows y_1.1) ∧ True) ∧ True) ∧ (Is (byts x.1) (byts b) ∧ y.2 = y_1.2 ∧ True) ∧ True)
 (∃ x_1 : List Int × Int × Int,
 Rd (1099511627776 : Int) x_1.1 x_1.2.1 ∧ (((0 : Nat) = (0 : Nat) ∧ (10 : Int) = x_1.2.2 ∧ True) ∧ (Is (byts x.1) (byts x_1.1) ∧ y.2 = x_1.2.1 ∧ True) ∧ True) ∧ ∀ (y_1 : Int),
 ((1 : Int) ≤ x_1.2.2 → (0 : Int) ≤ y_1 ∧ y_1 < x_1.2.2) ∧ (x_1.2.2 < (1 : Int) → y_1 = (0 : Int)) →
 condP (decide (y_1 > (0 : Int)))
 (∃ y_2 : Pl.Mdl × Int,
 (Pl.MdB (16 : Nat) (3 : Nat) y_2.1 ∧ p ≤ y_2.2 ∧ y_2.2 ≤ p + (1100 : Int)) ∧ (0 : Nat) + List.length y.1 ≤ List.length y.1 ∧ ((Is (mrows y.1) (mrows y_2.1) ∧ True) ∧ True) ∧ (Is (byts x_1.1) (byts b) ∧ x_1.2.1 + (1 : Int) = y_2.2 ∧ True) ∧ True)
 (∃ x : List Int × Int × Int,
 Rd (1099511627776 : Int) x.1 x.2.1 ∧ (((0 : Nat) = (0 : Nat) ∧ (↑(List.length y.1) : Int) = x.2.2 ∧ True) ∧ (Is (byts x_1.1) (byts x.1) ∧ x_1.2.1 + (1 : Int) = x.2.1 ∧ True) ∧ True) ∧ ∀ (y_2 : Int),
 ((1 : Int) ≤ x.2.2 → (0 : Int) ≤ y_2 ∧ y_2 < x.2.2) ∧ (x.2.2 < (1 : Int) → y_2 = (0 : Int)) →
 ∃ x_2 : List Int × Int × Int,
 Rd (1099511627776 : Int) x_2.1 x_2.2.1 ∧ (((0 : Nat) = (0 : Nat) ∧ (5 : Int) = x_2.2.2 ∧ True) ∧ (Is (byts x.1) (byts x_2.1) ∧ x.2.1 + (1 : Int) = x_2.2.1 ∧ True) ∧ True) ∧ ∀ (y_3 : Int),
 ((1 : Int) ≤ x_2.2.2 → (0 : Int) ≤ y_3 ∧ y_3 < x_2.2.2) ∧ (x_2.2.2 < (1 : Int) → y_3 = (0 : Int)) →
 condP (y_3 == (0 : Int))
 ((∃ x : List Int × Int,
 Rd (549755813888 : Int) x.1 x.2 ∧ (((0 : Nat) = (0 : Nat) ∧ True) ∧ (Is (byts x_2.1) (byts x.1) ∧ x_2.2.1 + (1 : Int) = x.2 ∧ True) ∧ True) ∧ ∀ (y_4 : Pl.Rt),
 True →
 ((0 : Int) ≤ y_2 ∧ y_2 < (↑(List.length y.1) : Int)) ∧ y_2.toNat < List.length y.1 ∧ ∃ y_5 : Pl.Mdl × Int,
 (Pl.MdB (16 : Nat) (3 : Nat) y_5.1 ∧ p ≤ y_5.2 ∧ y_5.2 ≤ p + (1100 : Int)) ∧ (0 : Nat) + List.length y.1 ≤ List.length y.1 ∧ ((Is
 (AV.sl (List.length y.1) (4 : Nat) fun (i j : Nat) =>
 storeC (cR y.1) y_2.toNat ((2 : Nat)) [i64 y_4.1, i64 y_4.2] i j)
 (mrows y_5.1) ∧ True) ∧ True) ∧ (Is (byts x.1) (byts b) ∧ x.2 + (2 : Int) = y_5.2 ∧ True) ∧ True) ∧ ∃ x : List Int × Int,
 Rd (549755813888 : Int) x.1 x.2 ∧ (((0 : Nat) = (0 : Nat) ∧ True) ∧ (Is (byts x_2.1) (byts x.1) ∧ x_2.2.1 + (1 : Int) = x.2 ∧ True) ∧ True) ∧ ∀ (y_4 : Pl.Rt),
 True →
 ((0 : Int) ≤ y_2 ∧ y_2 < (↑(List.length y.1) : Int)) ∧ y_2.toNat < List.length y.1 ∧ ∃ y_5 : Pl.Mdl × Int,
 (Pl.MdB (16 : Nat) (3 : Nat) y_5.1 ∧ p ≤ y_5.2 ∧ y_5.2 ≤ p + (1100 : Int)) ∧ (0 : Nat) + List.length y.1 ≤ List.length y.1 ∧ ((Is
 (AV.sl (List.length y.1) (4 : Nat) fun (i j : Nat) =>
 storeC (cR y.1) y_2.toNat ((2 : Nat)) [i64 y_4.1, i64 y_4.2] i j)
 (mrows y_5.1) ∧ True) ∧ True) ∧ (Is (byts x.1) (byts b) ∧ x.2 + (2 : Int) = y_5.2 ∧ True) ∧ True)
 (condP (y_3 == (1 : Int))
 (((0 : Int) ≤ y_2 ∧ y_2 < (↑(List.length y.1) : Int)) ∧ y_2.toNat < List.length y.1 ∧ (List.getD y.1 y_2.toNat Pl.dR).2.1.length = (List.getD y.1 y_2.toNat Pl.dR).2.1.length ∧ y_2.toNat < List.length y.1 ∧ (0 : Nat) + List.length y.1 ≤ List.length y.1 ∧ (List.length y.1 + (1 : Nat)) * (56 : Nat) ≤ (70368744177664 : Nat) ∧ ∃ y_4 : Pl.Mdl × Int,
 (Pl.MdB (16 : Nat) (3 : Nat) y_4.1 ∧ p ≤ y_4.2 ∧ y_4.2 ≤ p + (1100 : Int)) ∧ (0 : Nat) + (List.length y.1 + (1 : Nat)) ≤ List.length y.1 + (1 : Nat) ∧ ((Is
 (AV.sl (List.length y.1 + (1 : Nat)) (4 : Nat) fun (i j : Nat) =>
 joinC (List.length y.1) (cR y.1)
 (rowsCell
 [[st (List.getD y.1 y_2.toNat Pl.dR).1, rats (List.getD y.1 y_2.toNat Pl.dR).2.1,
 i64 (List.getD y.1 y_2.toNat Pl.dR).2.2.1, i64 (List.getD y.1 y_2.toNat Pl.dR).2.2.2]])
 i j)
 (mrows y_4.1) ∧ True) ∧ True) ∧ (Is (byts x_2.1) (byts b) ∧ x_2.2.1 + (1 : Int) = y_4.2 ∧ True) ∧ True)
 (condP (y_3 == (2 : Int))
 (((0 : Int) ≤ y_2 ∧ y_2 < (↑(List.length y.1) : Int)) ∧ y_2.toNat < List.length y.1 ∧ (List.getD y.1 y_2.toNat Pl.dR).2.1.length = (List.getD y.1 y_2.toNat Pl.dR).2.1.length ∧ y_2.toNat < List.length y.1 ∧ (1 : Nat) < (4 : Nat) ∧ ((List.getD y.1 y_2.toNat Pl.dR).2.1.length + (1 : Nat)) * (16 : Nat) ≤ (70368744177664 : Nat) ∧ ((0 : Int) ≤ y_2 ∧ y_2 < (↑(List.length y.1) : Int)) ∧ y_2.toNat < List.length y.1 ∧ ∃ y_4 : Pl.Mdl × Int,
 (Pl.MdB (16 : Nat) (3 : Nat) y_4.1 ∧ p ≤ y_4.2 ∧ y_4.2 ≤ p + (1100 : Int)) ∧ (0 : Nat) + List.length y.1 ≤ List.length y.1 ∧ ((Is
 (AV.sl (List.length y.1) (4 : Nat) fun (i j : Nat) =>
 storeC (cR y.1) y_2.toNat ((1 : Nat))
 [AV.sl ((List.getD y.1 y_2.toNat Pl.dR).2.1.length + (1 : Nat)) (2 : Nat)
 (joinC (List.getD y.1 y_2.toNat Pl.dR).2.1.length (cQ (List.getD y.1 y_2.toNat Pl.dR).2.1)
 (rowsCell [[i64 (0 : Int), i64 (1 : Int)]]))]
 i j)
 (mrows y_4.1) ∧ True) ∧ True) ∧ (Is (byts x_2.1) (byts b) ∧ x_2.2.1 + (1 : Int) = y_4.2 ∧ True) ∧ True)
 (condP (y_3 == (3 : Int))
 ((∃ x : List Int × Int × List ByteArray,
 (Rd (1099511627776 : Int) x.1 x.2.1 ∧ x.2.2 ≠ [] ∧ Sz x.2.2) ∧ (((0 : Nat) = (0 : Nat) ∧ Is
 (AV.lit (3 : Nat) (1 : Nat)
 (rowsCell
 [[st (ByteArray.mk #[])], [st (ByteArray.mk #[(65 : UInt8)])], [st (ByteArray.mk #[(122 : UInt8), (122 : UInt8)])]]))
 (strs x.2.2) ∧ True) ∧ (Is (byts x_2.1) (byts x.1) ∧ x_2.2.1 + (1 : Int) = x.2.1 ∧ True) ∧ True) ∧ ∀ (y_4 : ByteArray),
 y_4 ∈ x.2.2 →
 ((0 : Int) ≤ y_2 ∧ y_2 < (↑(List.length y.1) : Int)) ∧ y_2.toNat < List.length y.1 ∧ ∃ y_5 : Pl.Mdl × Int,
 (Pl.MdB (16 : Nat) (3 : Nat) y_5.1 ∧ p ≤ y_5.2 ∧ y_5.2 ≤ p + (1100 : Int)) ∧ (0 : Nat) + List.length y.1 ≤ List.length y.1 ∧ ((Is
 (AV.sl (List.length y.1) (4 : Nat) fun (i j : Nat) =>
 storeC (cR y.1) y_2.toNat (0 : Nat) [st y_4] i j)
 (mrows y_5.1) ∧ True) ∧ True) ∧ (Is (byts x.1) (byts b) ∧ x.2.1 + (1 : Int) = y_5.2 ∧ True) ∧ True) ∧ ∃ x : List Int × Int × List ByteArray,
 (Rd (1099511627776 : Int) x.1 x.2.1 ∧ x.2.2 ≠ [] ∧ Sz x.2.2) ∧ (((0 : Nat) = (0 : Nat) ∧ Is
 (AV.lit (3 : Nat) (1 : Nat)
 (rowsCell
 [[st (ByteArray.mk #[])], [st (ByteArray.mk #[(65 : UInt8)])], [st (ByteArray.mk #[(122 : UInt8), (122 : UInt8)])]]))
 (strs x.2.2) ∧ True) ∧ (Is (byts x_2.1) (byts x.1) ∧ x_2.2.1 + (1 : Int) = x.2.1 ∧ True) ∧ True) ∧ ∀ (y_4 : ByteArray),
 y_4 ∈ x.2.2 →
 ((0 : Int) ≤ y_2 ∧ y_2 < (↑(List.length y.1) : Int)) ∧ y_2.toNat < List.length y.1 ∧ ∃ y_5 : Pl.Mdl × Int,
 (Pl.MdB (16 : Nat) (3 : Nat) y_5.1 ∧ p ≤ y_5.2 ∧ y_5.2 ≤ p + (1100 : Int)) ∧ (0 : Nat) + List.length y.1 ≤ List.length y.1 ∧ ((Is
 (AV.sl (List.length y.1) (4 : Nat) fun (i j : Nat) =>
 storeC (cR y.1) y_2.toNat (0 : Nat) [st y_4] i j)
 (mrows y_5.1) ∧ True) ∧ True) ∧ (Is (byts x.1) (byts b) ∧ x.2.1 + (1 : Int) = y_5.2 ∧ True) ∧ True)
 (((0 : Int) ≤ y_2 ∧ y_2 < (↑(List.length y.1) : Int)) ∧ y_2.toNat < List.length y.1 ∧ (List.getD y.1 y_2.toNat Pl.dR).2.1.length = (List.getD y.1 y_2.toNat Pl.dR).2.1.length ∧ y_2.toNat < List.length y.1 ∧ ((0 : Int) ≤ (0 : Int) ∧ (0 : Int) < (↑(List.length y.1) : Int)) ∧ (0 : Nat) < List.length y.1 ∧ ((0 : Int) ≤ y_2 ∧ y_2 < (↑(List.length y.1) : Int)) ∧ y_2.toNat < List.length y.1 ∧ ((0 : Int) ≤ (0 : Int) ∧ (0 : Int) < (↑(List.length y.1) : Int)) ∧ (0 : Nat) < List.length y.1 ∧ ∃ y_4 : Pl.Mdl × Int,
 (Pl.MdB (16 : Nat) (3 : Nat) y_4.1 ∧ p ≤ y_4.2 ∧ y_4.2 ≤ p + (1100 : Int)) ∧ (0 : Nat) + List.length y.1 ≤ List.length y.1 ∧ ((Is
 (AV.sl (List.length y.1) (4 : Nat) fun (i j : Nat) =>
 storeC
 (storeC (cR y.1) y_2.toNat (0 : Nat)
 [st (List.getD y.1 (0 : Nat) Pl.dR).1, rats (List.getD y.1 (0 : Nat) Pl.dR).2.1,
 i64 (List.getD y.1 (0 : Nat) Pl.dR).2.2.1,
 i64 (List.getD y.1 (0 : Nat) Pl.dR).2.2.2])
 (0 : Nat) (0 : Nat)
 [st (List.getD y.1 y_2.toNat Pl.dR).1, rats (List.getD y.1 y_2.toNat Pl.dR).2.1,
 i64 (List.getD y.1 y_2.toNat Pl.dR).2.2.1, i64 (List.getD y.1 y_2.toNat Pl.dR).2.2.2]
 i j)
 (mrows y_4.1) ∧ True) ∧ True) ∧ (Is (byts x_2.1) (byts b) ∧ x_2.2.1 + (1 : Int) = y_4.2 ∧ True) ∧ True))))))) = Goal Tryz.prog [K_l7Any, K_pick, K_rat, K_of] ([]) K_l7Some.1 K_l7Some.2 ((b, p, s)) := by kernel_rfl

end Cg

/-
  What is left to show of each function's code, printed by a program: Mdr. No condition.
-/
set_option maxRecDepth 100000
set_option linter.unusedVariables false
namespace Cg
open Go Go.Proofs
theorem vc_l7Put (L : List Pl.HRw) (r : Pl.HRw) : ((∃ x : Nat,
 x ≤ L.length ∧ (((0 : Nat) = (0 : Nat) ∧ L.length = L.length) ∧ (0 : Nat) = (0 : Nat) ∧ (0 : Int) = (↑x : Int) ∧ True) ∧ IsO (arRH L) (arRH L) ∧ (r.2.1 = r.2.1 ∧ Is (hdQ r.1 r.2.2.1) (hdQ r.1 r.2.2.1) ∧ r.2.2.2.1 = r.2.2.2.1 ∧ r.2.2.2.2 = r.2.2.2.2 ∧ True) ∧ True) ∧ ∀ (x : Nat),
 x ≤ L.length →
 condP (decide ((↑x : Int) < (↑L.length : Int)))
 (((0 : Int) ≤ (↑x : Int) ∧ (↑x : Int) < (↑L.length : Int)) ∧ x < L.length ∧ ∃ x_1 : Pl.Rw × Pl.Rw,
 (((L.getD x Pl.dH).2.1 = x_1.1.1 ∧ Is (hdQ (L.getD x Pl.dH).1 (L.getD x Pl.dH).2.2.1) (rats x_1.1.2.1) ∧ (L.getD x Pl.dH).2.2.2.1 = x_1.1.2.2.1 ∧ (L.getD x Pl.dH).2.2.2.2 = x_1.1.2.2.2 ∧ True) ∧ (r.2.1 = x_1.2.1 ∧ Is (hdQ r.1 r.2.2.1) (rats x_1.2.2.1) ∧ r.2.2.2.1 = x_1.2.2.2.1 ∧ r.2.2.2.2 = x_1.2.2.2.2 ∧ True) ∧ True) ∧ x_1.1.2.1.length ≤ (1048576 : Nat) ∧ condP (Pl.rowLess x_1.1 x_1.2)
 (Exists fun (x' : Nat) =>
 x' ≤ L.length ∧ L.length - x' < L.length - x ∧ (((0 : Nat) = (0 : Nat) ∧ L.length = L.length) ∧ (0 : Nat) = (0 : Nat) ∧ IntKind.i64.wrap ((↑x : Int) + (1 : Int)) = (↑x' : Int) ∧ True) ∧ IsO (arRH L) (arRH L) ∧ (r.2.1 = r.2.1 ∧ Is (hdQ r.1 r.2.2.1) (hdQ r.1 r.2.2.1) ∧ r.2.2.2.1 = r.2.2.2.1 ∧ r.2.2.2.2 = r.2.2.2.2 ∧ True) ∧ True)
 (condP (decide ((↑x : Int) < (↑L.length : Int)))
 (((0 : Int) ≤ (↑x : Int) ∧ (↑x : Int) < (↑L.length : Int)) ∧ x < L.length ∧ condP ((L.getD x Pl.dH).2.1.toList == r.2.1.toList)
 (((0 : Int) ≤ (↑x : Int) ∧ (↑x : Int) < (↑L.length : Int)) ∧ x < L.length ∧ ∃ x_2 : List Pl.Rt × List Pl.Rt,
 (Is (hdQ (L.getD x Pl.dH).1 (L.getD x Pl.dH).2.2.1) (rats x_2.1) ∧ Is (hdQ r.1 r.2.2.1) (rats x_2.2) ∧ True) ∧ Sz x_2.1 ∧ condP (decide (x_2.1 = x_2.2))
 (∃ y : List Nat,
 HPut L.length y ∧ (((0 : Nat) = (0 : Nat) ∧ L.length = y.length) ∧ True) ∧ True ∧ IsO (arRH L) (arRH (List.map (fun (i : Nat) => (L ++ [r]).getD i Pl.dH) y)) ∧ True)
 (((0 : Int) ≤ (↑x : Int) ∧ (↑x : Int) ≤ (↑L.length : Int)) ∧ x + (L.length - x) ≤ L.length ∧ ((0 : Nat) = (0 : Nat) ∨ (0 : Nat) < L.length - x) ∧ ((0 : Nat) + (L.length - x)) * (56 : Nat) ≤ (70368744177664 : Nat) ∧ ((0 : Int) ≤ (↑x : Int) ∧ (↑x : Int) ≤ (↑L.length : Int)) ∧ (0 : Nat) + x ≤ L.length ∧ ((0 : Nat) = (0 : Nat) ∨ (0 : Nat) < x) ∧ ((0 : Nat) + x) * (56 : Nat) ≤ (70368744177664 : Nat) ∧ (0 : Nat) + ((0 : Nat) + x) ≤ (0 : Nat) + x ∧ ((0 : Nat) + x + (1 : Nat)) * (56 : Nat) ≤ (70368744177664 : Nat) ∧ (0 : Nat) + ((0 : Nat) + (L.length - x)) ≤ (0 : Nat) + (L.length - x) ∧ (0 : Nat) + ((0 : Nat) + x + (1 : Nat)) ≤ (0 : Nat) + x + (1 : Nat) ∧ ((0 : Nat) + x + (1 : Nat) + ((0 : Nat) + (L.length - x))) * (56 : Nat) ≤ (70368744177664 : Nat) ∧ ∃ y : List Nat,
 HPut L.length y ∧ (((0 : Nat) = (0 : Nat) ∧ (0 : Nat) + x + (1 : Nat) + ((0 : Nat) + (L.length - x)) = y.length) ∧ True) ∧ True ∧ IsO
 (AObj.arr ((0 : Nat) + x + (1 : Nat) + ((0 : Nat) + (L.length - x))) (4 : Nat)
 (joinC ((0 : Nat) + x + (1 : Nat))
 (fun (i j : Nat) =>
 joinC ((0 : Nat) + x) (cRH L)
 (rowsCell [[st r.2.1, hdQ r.1 r.2.2.1, i64 r.2.2.2.1, i64 r.2.2.2.2]])
 i j)
 fun (i j : Nat) => joinC (0 : Nat) (rowsCell []) (fun (i j : Nat) => eRH (L.getD (i + x) Pl.dH) j) i j))
 (arRH (List.map (fun (i : Nat) => (L ++ [r]).getD i Pl.dH) y)) ∧ True))
 (((0 : Int) ≤ (↑x : Int) ∧ (↑x : Int) ≤ (↑L.length : Int)) ∧ x + (L.length - x) ≤ L.length ∧ ((0 : Nat) = (0 : Nat) ∨ (0 : Nat) < L.length - x) ∧ ((0 : Nat) + (L.length - x)) * (56 : Nat) ≤ (70368744177664 : Nat) ∧ ((0 : Int) ≤ (↑x : Int) ∧ (↑x : Int) ≤ (↑L.length : Int)) ∧ (0 : Nat) + x ≤ L.length ∧ ((0 : Nat) = (0 : Nat) ∨ (0 : Nat) < x) ∧ ((0 : Nat) + x) * (56 : Nat) ≤ (70368744177664 : Nat) ∧ (0 : Nat) + ((0 : Nat) + x) ≤ (0 : Nat) + x ∧ ((0 : Nat) + x + (1 : Nat)) * (56 : Nat) ≤ (70368744177664 : Nat) ∧ (0 : Nat) + ((0 : Nat) + (L.length - x)) ≤ (0 : Nat) + (L.length - x) ∧ (0 : Nat) + ((0 : Nat) + x + (1 : Nat)) ≤ (0 : Nat) + x + (1 : Nat) ∧ ((0 : Nat) + x + (1 : Nat) + ((0 : Nat) + (L.length - x))) * (56 : Nat) ≤ (70368744177664 : Nat) ∧ ∃ y : List Nat,
 HPut L.length y ∧ (((0 : Nat) = (0 : Nat) ∧ (0 : Nat) + x + (1 : Nat) + ((0 : Nat) + (L.length - x)) = y.length) ∧ True) ∧ True ∧ IsO
 (AObj.arr ((0 : Nat) + x + (1 : Nat) + ((0 : Nat) + (L.length - x))) (4 : Nat)
 (joinC ((0 : Nat) + x + (1 : Nat))
 (fun (i j : Nat) =>
 joinC ((0 : Nat) + x) (cRH L)
 (rowsCell [[st r.2.1, hdQ r.1 r.2.2.1, i64 r.2.2.2.1, i64 r.2.2.2.2]]) i j)
 fun (i j : Nat) => joinC (0 : Nat) (rowsCell []) (fun (i j : Nat) => eRH (L.getD (i + x) Pl.dH) j) i j))
 (arRH (List.map (fun (i : Nat) => (L ++ [r]).getD i Pl.dH) y)) ∧ True))
 (((0 : Int) ≤ (↑x : Int) ∧ (↑x : Int) ≤ (↑L.length : Int)) ∧ x + (L.length - x) ≤ L.length ∧ ((0 : Nat) = (0 : Nat) ∨ (0 : Nat) < L.length - x) ∧ ((0 : Nat) + (L.length - x)) * (56 : Nat) ≤ (70368744177664 : Nat) ∧ ((0 : Int) ≤ (↑x : Int) ∧ (↑x : Int) ≤ (↑L.length : Int)) ∧ (0 : Nat) + x ≤ L.length ∧ ((0 : Nat) = (0 : Nat) ∨ (0 : Nat) < x) ∧ ((0 : Nat) + x) * (56 : Nat) ≤ (70368744177664 : Nat) ∧ (0 : Nat) + ((0 : Nat) + x) ≤ (0 : Nat) + x ∧ ((0 : Nat) + x + (1 : Nat)) * (56 : Nat) ≤ (70368744177664 : Nat) ∧ (0 : Nat) + ((0 : Nat) + (L.length - x)) ≤ (0 : Nat) + (L.length - x) ∧ (0 : Nat) + ((0 : Nat) + x + (1 : Nat)) ≤ (0 : Nat) + x + (1 : Nat) ∧ ((0 : Nat) + x + (1 : Nat) + ((0 : Nat) + (L.length - x))) * (56 : Nat) ≤ (70368744177664 : Nat) ∧ ∃ y : List Nat,
 HPut L.length y ∧ (((0 : Nat) = (0 : Nat) ∧ (0 : Nat) + x + (1 : Nat) + ((0 : Nat) + (L.length - x)) = y.length) ∧ True) ∧ True ∧ IsO
 (AObj.arr ((0 : Nat) + x + (1 : Nat) + ((0 : Nat) + (L.length - x))) (4 : Nat)
 (joinC ((0 : Nat) + x + (1 : Nat))
 (fun (i j : Nat) =>
 joinC ((0 : Nat) + x) (cRH L)
 (rowsCell [[st r.2.1, hdQ r.1 r.2.2.1, i64 r.2.2.2.1, i64 r.2.2.2.2]]) i j)
 fun (i j : Nat) => joinC (0 : Nat) (rowsCell []) (fun (i j : Nat) => eRH (L.getD (i + x) Pl.dH) j) i j))
 (arRH (List.map (fun (i : Nat) => (L ++ [r]).getD i Pl.dH) y)) ∧ True)))
 (condP (decide ((↑x : Int) < (↑L.length : Int)))
 (((0 : Int) ≤ (↑x : Int) ∧ (↑x : Int) < (↑L.length : Int)) ∧ x < L.length ∧ condP ((L.getD x Pl.dH).2.1.toList == r.2.1.toList)
 (((0 : Int) ≤ (↑x : Int) ∧ (↑x : Int) < (↑L.length : Int)) ∧ x < L.length ∧ ∃ x_1 : List Pl.Rt × List Pl.Rt,
 (Is (hdQ (L.getD x Pl.dH).1 (L.getD x Pl.dH).2.2.1) (rats x_1.1) ∧ Is (hdQ r.1 r.2.2.1) (rats x_1.2) ∧ True) ∧ Sz x_1.1 ∧ condP (decide (x_1.1 = x_1.2))
 (∃ y : List Nat,
 HPut L.length y ∧ (((0 : Nat) = (0 : Nat) ∧ L.length = y.length) ∧ True) ∧ True ∧ IsO (arRH L) (arRH (List.map (fun (i : Nat) => (L ++ [r]).getD i Pl.dH) y)) ∧ True)
 (((0 : Int) ≤ (↑x : Int) ∧ (↑x : Int) ≤ (↑L.length : Int)) ∧ x + (L.length - x) ≤ L.length ∧ ((0 : Nat) = (0 : Nat) ∨ (0 : Nat) < L.length - x) ∧ ((0 : Nat) + (L.length - x)) * (56 : Nat) ≤ (70368744177664 : Nat) ∧ ((0 : Int) ≤ (↑x : Int) ∧ (↑x : Int) ≤ (↑L.length : Int)) ∧ (0 : Nat) + x ≤ L.length ∧ ((0 : Nat) = (0 : Nat) ∨ (0 : Nat) < x) ∧ ((0 : Nat) + x) * (56 : Nat) ≤ (70368744177664 : Nat) ∧ (0 : Nat) + ((0 : Nat) + x) ≤ (0 : Nat) + x ∧ ((0 : Nat) + x + (1 : Nat)) * (56 : Nat) ≤ (70368744177664 : Nat) ∧ (0 : Nat) + ((0 : Nat) + (L.length - x)) ≤ (0 : Nat) + (L.length - x) ∧ (0 : Nat) + ((0 : Nat) + x + (1 : Nat)) ≤ (0 : Nat) + x + (1 : Nat) ∧ ((0 : Nat) + x + (1 : Nat) + ((0 : Nat) + (L.length - x))) * (56 : Nat) ≤ (70368744177664 : Nat) ∧ ∃ y : List Nat,
 HPut L.length y ∧ (((0 : Nat) = (0 : Nat) ∧ (0 : Nat) + x + (1 : Nat) + ((0 : Nat) + (L.length - x)) = y.length) ∧ True) ∧ True ∧ IsO
 (AObj.arr ((0 : Nat) + x + (1 : Nat) + ((0 : Nat) + (L.length - x))) (4 : Nat)
 (joinC ((0 : Nat) + x + (1 : Nat))
 (fun (i j : Nat) =>
 joinC ((0 : Nat) + x) (cRH L)
 (rowsCell [[st r.2.1, hdQ r.1 r.2.2.1, i64 r.2.2.2.1, i64 r.2.2.2.2]]) i j)
 fun (i j : Nat) => joinC (0 : Nat) (rowsCell []) (fun (i j : Nat) => eRH (L.getD (i + x) Pl.dH) j) i j))
 (arRH (List.map (fun (i : Nat) => (L ++ [r]).getD i Pl.dH) y)) ∧ True))
 (((0 : Int) ≤ (↑x : Int) ∧ (↑x : Int) ≤ (↑L.length : Int)) ∧ x + (L.length - x) ≤ L.length ∧ ((0 : Nat) = (0 : Nat) ∨ (0 : Nat) < L.length - x) ∧ ((0 : Nat) + (L.length - x)) * (56 : Nat) ≤ (70368744177664 : Nat) ∧ ((0 : Int) ≤ (↑x : Int) ∧ (↑x : Int) ≤ (↑L.length : Int)) ∧ (0 : Nat) + x ≤ L.length ∧ ((0 : Nat) = (0 : Nat) ∨ (0 : Nat) < x) ∧ ((0 : Nat) + x) * (56 : Nat) ≤ (70368744177664 : Nat) ∧ (0 : Nat) + ((0 : Nat) + x) ≤ (0 : Nat) + x ∧ ((0 : Nat) + x + (1 : Nat)) * (56 : Nat) ≤ (70368744177664 : Nat) ∧ (0 : Nat) + ((0 : Nat) + (L.length - x)) ≤ (0 : Nat) + (L.length - x) ∧ (0 : Nat) + ((0 : Nat) + x + (1 : Nat)) ≤ (0 : Nat) + x + (1 : Nat) ∧ ((0 : Nat) + x + (1 : Nat) + ((0 : Nat) + (L.length - x))) * (56 : Nat) ≤ (70368744177664 : Nat) ∧ ∃ y : List Nat,
 HPut L.length y ∧ (((0 : Nat) = (0 : Nat) ∧ (0 : Nat) + x + (1 : Nat) + ((0 : Nat) + (L.length - x)) = y.length) ∧ True) ∧ True ∧ IsO
 (AObj.arr ((0 : Nat) + x + (1 : Nat) + ((0 : Nat) + (L.length - x))) (4 : Nat)
 (joinC ((0 : Nat) + x + (1 : Nat))
 (fun (i j : Nat) =>
 joinC ((0 : Nat) + x) (cRH L)
 (rowsCell [[st r.2.1, hdQ r.1 r.2.2.1, i64 r.2.2.2.1, i64 r.2.2.2.2]]) i j)
 fun (i j : Nat) => joinC (0 : Nat) (rowsCell []) (fun (i j : Nat) => eRH (L.getD (i + x) Pl.dH) j) i j))
 (arRH (List.map (fun (i : Nat) => (L ++ [r]).getD i Pl.dH) y)) ∧ True))
 (((0 : Int) ≤ (↑x : Int) ∧ (↑x : Int) ≤ (↑L.length : Int)) ∧ x + (L.length - x) ≤ L.length ∧ ((0 : Nat) = (0 : Nat) ∨ (0 : Nat) < L.length - x) ∧ ((0 : Nat) + (L.length - x)) * (56 : Nat) ≤ (70368744177664 : Nat) ∧ ((0 : Int) ≤ (↑x : Int) ∧ (↑x : Int) ≤ (↑L.length : Int)) ∧ (0 : Nat) + x ≤ L.length ∧ ((0 : Nat) = (0 : Nat) ∨ (0 : Nat) < x) ∧ ((0 : Nat) + x) * (56 : Nat) ≤ (70368744177664 : Nat) ∧ (0 : Nat) + ((0 : Nat) + x) ≤ (0 : Nat) + x ∧ ((0 : Nat) + x + (1 : Nat)) * (56 : Nat) ≤ (70368744177664 : Nat) ∧ (0 : Nat) + ((0 : Nat) + (L.length - x)) ≤ (0 : Nat) + (L.length - x) ∧ (0 : Nat) + ((0 : Nat) + x + (1 : Nat)) ≤ (0 : Nat) + x + (1 : Nat) ∧ ((0 : Nat) + x + (1 : Nat) + ((0 : Nat) + (L.length - x))) * (56 : Nat) ≤ (70368744177664 : Nat) ∧ ∃ y : List Nat,
 HPut L.length y ∧ (((0 : Nat) = (0 : Nat) ∧ (0 : Nat) + x + (1 : Nat) + ((0 : Nat) + (L.length - x)) = y.length) ∧ True) ∧ True ∧ IsO
 (AObj.arr ((0 : Nat) + x + (1 : Nat) + ((0 : Nat) + (L.length - x))) (4 : Nat)
 (joinC ((0 : Nat) + x + (1 : Nat))
 (fun (i j : Nat) =>
 joinC ((0 : Nat) + x) (cRH L)
 (rowsCell [[st r.2.1, hdQ r.1 r.2.2.1, i64 r.2.2.2.1, i64 r.2.2.2.2]]) i j)
 fun (i j : Nat) => joinC (0 : Nat) (rowsCell []) (fun (i j : Nat) => eRH (L.getD (i + x) Pl.dH) j) i j))
 (arRH (List.map (fun (i : Nat) => (L ++ [r]).getD i Pl.dH) y)) ∧ True))) = Goal Tryz.prog [K_l7Less, K_l7Rats] (A_l7Put L r) K_l7Put.1 K_l7Put.2 ((L, r)) := by kernel_rfl

end Cg

/-
  A row that owns its values is put among rows that own theirs: from what the code does with the slices themselves. No condition.
-/
set_option linter.unusedVariables false
set_option linter.unusedSimpArgs false
namespace Cg
open Go Pl
theorem RelN_keep {S S' : Nat → Prop} {w w' : World} {q : Option Inn} {n e : Nat} {c : Nat → Nat → AV} {y : Value} (h : RelN S w q n e c y) (hc : ∀ i, i < n → ∀ j, j < e → ∃ v, c i j = .v v)
    (hb : ∀ v, q = some v → w'.heap[v.b]? = w.heap[v.b]?) : RelN S' w' q n e c y := by
  cases q with
  | none => exact h
  | some q =>
    obtain ⟨h1, h2, h3, C, T, h4, h5, h6⟩ := h
    refine ⟨h1, h2, h3, C, T, by rw [hb q rfl]; exact h4, h5, fun i hi j hj => ?_⟩
    obtain ⟨x, h7, h8⟩ := h6 i hi j hj
    obtain ⟨v, hv⟩ := hc i hi j hj
    rw [hv] at h8 ⊢
    exact ⟨x, h7, h8⟩
theorem cQ_plain (l : List Rt) : ∀ i, i < l.length → ∀ j, j < 2 → ∃ v, cQ l i j = .v v := fun i _ j hj => by
  match j, hj with
  | 0, _ => exact ⟨_, rfl⟩
  | 1, _ => exact ⟨_, rfl⟩
/-- An inner slice whose block stays, as one known by its header. -/
theorem RelN_hdr {S S' : Nat → Prop} {w : World} {q : Option Inn} {l : List Rt} {y : Value} (h : RelN S w q l.length 2 (cQ l) y) (hS : ∀ v, q = some v → S' v.b) : RelI S' w (hdQ y l) y := by
  refine ⟨rfl, ?_⟩
  cases q with
  | none =>
    obtain ⟨h1, a, rfl⟩ := h
    exact ⟨a, 0, by rw [h1], by omega, .inl h1⟩
  | some q =>
    obtain ⟨h1, h2, rfl, C, T, h4, h5, h6⟩ := h
    refine ⟨_, q.cap, rfl, by omega, .inr ⟨q.b, q.off, rfl, hS q rfl, C, T, _, h4, fun i hi j hj => ?_⟩⟩
    obtain ⟨x, h7, h8⟩ := h6 i hi j hj
    obtain ⟨v, hv⟩ := cQ_plain l i hi j hj
    rw [hv] at h8 ⊢
    exact ⟨x, h7, h8⟩

section
variable {S : Nat → Prop} {μ : Nat → OI} {w : World} {L : List Rw} {r : Rw}

/-- What is known of the rows' slices: headers, and what they own. -/
structure Hds (S : Nat → Prop) (μ : Nat → OI) (w : World) (L : List Rw) (r : Rw) (hd : Nat → Value) (iq : Nat → Option Inn) : Prop where
  rel : ∀ i, i ≤ L.length → RelN S w (iq i) ((L ++ [r]).getD i dR).2.1.length 2 (cQ ((L ++ [r]).getD i dR).2.1) (hd i)
  own : ∀ i v, iq i = some v → i ≤ L.length ∧ Blk μ [xrR L, arQ r.2.1] v.b ∧ (μ 0).b ≠ some v.b
  dis : ∀ i v i' v', iq i = some v → iq i' = some v' → v'.b = v.b → i' = i

/-- The one slice of an own row. -/
def innOf (q : OI) (n : Nat) : Option Inn := match q.b with
  | none => none
  | some b => if q.cap = 0 then none else some ⟨b, q.base, q.cap, n⟩
theorem innOf_rel {o : Nat} {H : List AObj} {l : List Rt} {a : Value} (hok : HOK S μ w H) (ho : H[o]? = some (arQ l)) (ha : Rel S μ w (.osl o 0 l.length) a) : RelN S w (innOf (μ o) l.length) l.length 2 (cQ l) a := by
  obtain ⟨he, hob⟩ := hok.obj o _ ho
  unfold Rel at ha
  unfold innOf
  cases hb : (μ o).b with
  | none =>
    rw [hb] at ha
    obtain ⟨_, h1, a', rfl⟩ := ha
    exact ⟨h1, a', rfl⟩
  | some b =>
    rw [hb] at ha hob
    obtain ⟨h1, a', rfl, h2⟩ := ha
    obtain ⟨h3, C, T, h4, h5, h6⟩ := hob
    by_cases hc : (μ o).cap = 0
    · simp only [hc, if_true]
      exact ⟨by omega, some a', by rw [show l.length = 0 by omega]⟩
    · simp only [hc, if_false]
      have := h2 (by omega)
      subst this
      refine ⟨rfl, h3, by simp, C, T, h4, by rw [← he]; rw [he]; exact h5, fun i hi j hj => ?_⟩
      exact h6 i hi j hj

theorem getD_left {α : Type} {l : List α} {x : α} {i : Nat} (d : α) (h : i < l.length) : (l ++ [x]).getD i d = l.getD i d := by
  simp only [List.getD_eq_getElem?_getD, List.getElem?_append_left h]
theorem getD_last {α : Type} {l : List α} {x : α} (d : α) : (l ++ [x]).getD l.length d = x := by simp

theorem hds_of {a : Value} (hok : HOK S μ w [xrR L, arQ r.2.1]) (ha : Rel S μ w (.osl 1 0 r.2.1.length) a) : ∃ hd iq, Hds S μ w L r hd iq ∧ hd L.length = a ∧
    (∀ b, (μ 0).b = some b → ∃ C T, w.heap[b]? = some (.cells C T (0, 0)) ∧ ∀ i, i < L.length → C[(μ 0).base + i * 4 + 1]? = some (hd i)) := by
  have h0 : ([xrR L, arQ r.2.1] : List AObj)[0]? = some (xrR L) := rfl
  have h1 : ([xrR L, arQ r.2.1] : List AObj)[1]? = some (arQ r.2.1) := rfl
  obtain ⟨he, hinn, hob⟩ := hok.obj 0 _ h0
  have hla := innOf_rel hok h1 ha
  have own1 : ∀ v, innOf (μ 1) r.2.1.length = some v → (μ 1).b = some v.b := fun v hv => by
    unfold innOf at hv
    cases hb : (μ 1).b with
    | none => rw [hb] at hv; cases hv
    | some b =>
      rw [hb] at hv
      simp only at hv
      split at hv
      · cases hv
      · cases hv; rfl
  have key : ∀ hd0 : Nat → Value, (∀ i, i < L.length → RelN S w ((μ 0).inn i 1) (L.getD i dR).2.1.length 2 (cQ (L.getD i dR).2.1) (hd0 i)) →
      Hds S μ w L r (fun i => if i < L.length then hd0 i else a) (fun i => if i < L.length then (μ 0).inn i 1 else if i = L.length then innOf (μ 1) r.2.1.length else none) := fun hd0 hrel => {
    rel := fun i hi => by
      by_cases h : i < L.length
      · simp only [if_pos h, getD_left dR h]
        exact hrel i h
      · have hi' : i = L.length := by omega
        subst hi'
        simp only [if_neg h, if_true, getD_last dR]
        exact hla
    own := fun i v hv => by
      by_cases h : i < L.length
      · simp only [if_pos h] at hv
        exact ⟨by omega, ⟨0, _, h0, .inr ⟨i, 1, v, hv, rfl⟩⟩, (hinn i 1 v hv).1⟩
      · simp only [if_neg h] at hv
        split at hv
        · rename_i hi
          have hb := own1 v hv
          exact ⟨by omega, ⟨1, _, h1, hb⟩, fun h' => hok.seps 0 1 v.b (by decide) ⟨_, h0, .inl h'⟩ ⟨_, h1, hb⟩⟩
        · cases hv
    dis := fun i v i' v' hv hv' hb => by
      by_cases h : i < L.length
      · by_cases h' : i' < L.length
        · simp only [if_pos h] at hv
          simp only [if_pos h'] at hv'
          exact ((hinn i 1 v hv).2.2.2 i' 1 v' hv' hb).1
        · simp only [if_pos h] at hv
          simp only [if_neg h'] at hv'
          split at hv'
          · exact absurd ⟨_, h1, own1 v' hv'⟩ (hok.seps 0 1 v'.b (by decide) ⟨_, h0, .inr ⟨i, 1, v, hv, hb.symm⟩⟩)
          · cases hv'
      · by_cases h' : i' < L.length
        · simp only [if_neg h] at hv
          simp only [if_pos h'] at hv'
          split at hv
          · exact absurd ⟨_, h1, own1 v hv⟩ (hok.seps 0 1 v.b (by decide) ⟨_, h0, .inr ⟨i', 1, v', hv', hb⟩⟩)
          · cases hv
        · simp only [if_neg h] at hv
          simp only [if_neg h'] at hv'
          split at hv
          · split at hv'
            · omega
            · cases hv'
          · cases hv }
  cases hb0 : (μ 0).b with
  | none =>
    rw [hb0] at hob
    have hn : L.length = 0 := hob
    exact ⟨_, _, key (fun _ => a) fun i hi => by omega, by simp, fun b hb => by cases hb⟩
  | some b0 =>
    rw [hb0] at hob
    obtain ⟨h3, C, T, h4, h5, h6⟩ := hob
    refine ⟨_, _, key (fun i => C.getD ((μ 0).base + i * 4 + 1) undef) fun i hi => ?_, by simp, fun b hb => ?_⟩
    · obtain ⟨x, h7, h8⟩ := h6 i hi 1 (by decide)
      have e : C.getD ((μ 0).base + i * 4 + 1) undef = x := by rw [Array.getD_eq_getD_getElem?, h7]; rfl
      rw [e]
      exact h8
    · cases hb
      refine ⟨C, T, h4, fun i hi => ?_⟩
      obtain ⟨x, h7, h8⟩ := h6 i hi 1 (by decide)
      have e : C.getD ((μ 0).base + i * 4 + 1) undef = x := by rw [Array.getD_eq_getD_getElem?, h7]; rfl
      simp only [if_pos hi, e]
      exact h7

theorem nodup_inj {l : List Nat} (h : l.Nodup) {i j : Nat} (hi : i < l.length) (hj : j < l.length) (e : l[i] = l[j]) : i = j := by
  rcases Nat.lt_trichotomy i j with h1 | h1 | h1
  · exact absurd e (List.pairwise_iff_getElem.1 h i j hi hj h1)
  · exact h1
  · exact absurd e.symm (List.pairwise_iff_getElem.1 h j i hj hi h1)
/-- What stays while the rows are moved: what stays anyhow, and what they own. -/
def SOwn (S : Nat → Prop) (iq : Nat → Option Inn) : Nat → Prop := fun b => S b ∨ ∃ i v, iq i = some v ∧ v.b = b
def hrows (hd : Nat → Value) (L : List Rw) : List HRw := (List.range L.length).map fun i => (hd i, L.getD i dR)
@[simp] theorem hrows_len (hd : Nat → Value) (L : List Rw) : (hrows hd L).length = L.length := by unfold hrows; simp
theorem hrows_get {hd : Nat → Value} {L : List Rw} {i : Nat} (h : i < L.length) : (hrows hd L).getD i dH = (hd i, L.getD i dR) := by unfold hrows; simp [h]

theorem open_hok {hd : Nat → Value} {iq : Nat → Option Inn} (hok : HOK S μ w [xrR L, arQ r.2.1]) (hh : Hds S μ w L r hd iq)
    (hc : ∀ b, (μ 0).b = some b → ∃ C T, w.heap[b]? = some (.cells C T (0, 0)) ∧ ∀ i, i < L.length → C[(μ 0).base + i * 4 + 1]? = some (hd i)) : HOK (SOwn S iq) μ w [arRH (hrows hd L)] := by
  have h0 : ([xrR L, arQ r.2.1] : List AObj)[0]? = some (xrR L) := rfl
  obtain ⟨he, hinn, hob⟩ := hok.obj 0 _ h0
  have only : ∀ o b, Own μ [arRH (hrows hd L)] o b → o = 0 ∧ (μ 0).b = some b := fun o b ⟨x, hx, hb⟩ => by
    cases o with
    | zero => cases hx; exact ⟨rfl, hb⟩
    | succ o => simp at hx
  refine { obj := fun o x hx => ?_, ids := fun o cs hx => ?_, seps := fun o o' b hne h1 h2 => ?_, owns := fun o b h => ?_, inS := fun b hb => ?_ }
  · cases o with
    | succ o => simp at hx
    | zero =>
      cases hx
      refine ⟨he, ?_⟩
      cases hb : (μ 0).b with
      | none =>
        rw [hb] at hob
        show (hrows hd L).length = 0
        rw [hrows_len]; exact hob
      | some b =>
        rw [hb] at hob
        obtain ⟨h3, C, T, h4, h5, h6⟩ := hob
        obtain ⟨C', T', h4', h7⟩ := hc b hb
        rw [h4] at h4'
        cases h4'
        refine ⟨by rw [hrows_len]; exact h3, C, T, h4, h5, fun i hi j hj => ?_⟩
        rw [hrows_len] at hi
        obtain ⟨x, h8, h9⟩ := h6 i hi j hj
        refine ⟨x, h8, ?_⟩
        show RelI (SOwn S iq) w (eRH ((hrows hd L).getD i dH) j) x
        rw [hrows_get hi]
        match j, hj with
        | 0, _ => exact h9
        | 1, _ =>
          have e := h7 i hi
          rw [h8] at e
          cases e
          have hr := hh.rel i (by omega)
          rw [getD_left dR hi] at hr
          exact RelN_hdr hr fun v hv => .inr ⟨i, v, hv, rfl⟩
        | 2, _ => exact h9
        | 3, _ => exact h9
  · cases o with
    | succ o => simp at hx
    | zero => cases hx
  · exact hne ((only o b h1).1.trans (only o' b h2).1.symm)
  · obtain ⟨rfl, hb⟩ := only o b h
    obtain ⟨h1, h2⟩ := hok.owns 0 b ⟨_, h0, .inl hb⟩
    refine ⟨fun hs => ?_, h2⟩
    rcases hs with hs | ⟨i, v, hv, rfl⟩
    · exact h1 hs
    · exact (hh.own i v hv).2.2 hb
  · rcases hb with hb | ⟨i, v, hv, rfl⟩
    · exact hok.inS b hb
    · obtain ⟨o, h⟩ := (hh.own i v hv).2.1
      exact (hok.owns o _ h).2

theorem close_evo {hd : Nat → Value} {iq : Nat → Option Inn} {S' : Nat → Prop} {μ' : Nat → OI} {w' : World} {idx : List Nat} {v : Value} (hok : HOK S μ w [xrR L, arQ r.2.1]) (hh : Hds S μ w L r hd iq)
    (hnd : idx.Nodup) (hle : ∀ i ∈ idx, i ≤ L.length)
    (hev : Evo (SOwn S iq) μ [arRH (hrows hd L)] w S' μ' [.dead, arRH (idx.map fun i => (hrows hd L ++ [(hd L.length, r)]).getD i dH)] w') (hv : Rel S' μ' w' (.osl 1 0 idx.length) v) :
    ∃ S'' μ'', Evo S μ [xrR L, arQ r.2.1] w S'' μ'' [.dead, .dead, xrR (idx.map fun i => (L ++ [r]).getD i dR)] w' ∧ Rel S'' μ'' w' (.osl 2 0 idx.length) v := by
  have h0 : ([xrR L, arQ r.2.1] : List AObj)[0]? = some (xrR L) := rfl
  generalize hidx : (idx.map fun i => (hrows hd L ++ [(hd L.length, r)]).getD i dH) = Y at hev
  have hYl : Y.length = idx.length := by rw [← hidx]; simp
  have hYg : ∀ i, i < idx.length → Y.getD i dH = (hd (idx.getD i 0), (L ++ [r]).getD (idx.getD i 0) dR) := fun i hi => by
    have hm : idx.getD i 0 ≤ L.length := hle _ (getD_mem 0 hi)
    rw [← hidx]
    have e : (idx.map fun i => (hrows hd L ++ [(hd L.length, r)]).getD i dH).getD i dH = (hrows hd L ++ [(hd L.length, r)]).getD (idx.getD i 0) dH := by simp [hi]
    rw [e]
    by_cases h : idx.getD i 0 < L.length
    · rw [getD_left dH (by rw [hrows_len]; exact h), hrows_get h, getD_left dR h]
    · have e2 : idx.getD i 0 = L.length := by omega
      rw [e2, getD_last dR]
      have := getD_last (l := hrows hd L) (x := (hd L.length, r)) dH
      rw [hrows_len] at this
      exact this
  have hA : ([AObj.dead, arRH Y] : List AObj)[1]? = some (arRH Y) := rfl
  have hlt : ∀ i u, iq i = some u → u.b < w.heap.size ∧ ¬ S u.b := fun i u hu => by
    obtain ⟨o, h⟩ := (hh.own i u hu).2.1
    exact ⟨(hok.owns o _ h).2, (hok.owns o _ h).1⟩
  have hkeep : ∀ i u, iq i = some u → w'.heap[u.b]? = w.heap[u.b]? := fun i u hu => hev.kept.block u.b (hlt i u hu).1 fun ⟨o, x, hx, hb⟩ => by
    cases o with
    | zero => cases hx; exact (hh.own i u hu).2.2 hb
    | succ o => simp at hx
  have hb0 : ∀ b, Blk μ [arRH (hrows hd L)] b → (μ 0).b = some b := fun b ⟨o, x, hx, hb⟩ => by
    cases o with
    | zero => cases hx; exact hb
    | succ o => simp at hx
  obtain ⟨he, hob⟩ := hev.hok.obj 1 _ hA
  let inn' : Nat → Nat → Option Inn := fun i j => if j = 1 ∧ i < idx.length then iq (idx.getD i 0) else none
  let μ'' : Nat → OI := fun o => if o < 2 then μ o else { μ' 1 with inn := inn' }
  have m2 : μ'' 2 = { μ' 1 with inn := inn' } := rfl
  have hinn' : ∀ i j u, inn' i j = some u → j = 1 ∧ i < idx.length ∧ iq (idx.getD i 0) = some u := fun i j u hu => by
    by_cases h : j = 1 ∧ i < idx.length
    · have : inn' i j = iq (idx.getD i 0) := if_pos h
      rw [this] at hu
      exact ⟨h.1, h.2, hu⟩
    · have : inn' i j = none := if_neg h
      rw [this] at hu; cases hu
  have outer : ∀ b, (μ' 1).b = some b → (w.heap.size ≤ b ∨ (μ 0).b = some b) ∧ ¬ S b ∧ b < w'.heap.size ∧ ¬ S' b := fun b hb => by
    have ho : Own μ' [AObj.dead, arRH Y] 1 b := ⟨_, hA, hb⟩
    have h1 := hev.mine 1 b ho
    have h2 := hev.hok.owns 1 b ho
    refine ⟨h1.imp id (hb0 b), fun hs => h2.1 (hev.sub b (.inl hs)), h2.2, h2.1⟩
  have own2 : ∀ o b, Own μ'' [AObj.dead, .dead, xrR (idx.map fun i => (L ++ [r]).getD i dR)] o b → o = 2 ∧ ((μ' 1).b = some b ∨ ∃ i j u, inn' i j = some u ∧ u.b = b) := fun o b ⟨x, hx, hb⟩ => by
    match o, hx with
    | 0, hx => cases hx; exact hb.elim
    | 1, hx => cases hx; exact hb.elim
    | 2, hx => cases hx; exact ⟨rfl, hb⟩
    | o + 3, hx => simp at hx
  refine ⟨S, μ'', { sub := fun _ h => h, new := fun _ h => .inl h, mu := fun o ho => if_pos ho, len := by simp, kept := ⟨hev.kept.os, hev.kept.tape, hev.kept.output, hev.kept.size, fun b hb hn => hev.kept.block b hb fun h => hn ⟨0, _, h0, .inl (hb0 b h)⟩⟩, mine := fun o b ho => ?_, hok := ?_ }, ?_⟩
  · obtain ⟨rfl, h⟩ := own2 o b ho
    rcases h with h | ⟨i, j, u, hu, rfl⟩
    · rcases (outer b h).1 with h1 | h1
      · exact .inl h1
      · exact .inr ⟨0, _, h0, .inl h1⟩
    · obtain ⟨_, _, hu⟩ := hinn' i j u hu
      exact .inr (hh.own _ u hu).2.1
  · refine { obj := fun o x hx => ?_, ids := fun o cs hx => ?_, seps := fun o o' b hne h1 h2 => ?_, owns := fun o b ho => ?_, inS := fun b hb => Nat.lt_of_lt_of_le (hok.inS b hb) hev.kept.size }
    · match o, hx with
      | 0, hx => cases hx; trivial
      | 1, hx => cases hx; trivial
      | o + 3, hx => simp at hx
      | 2, hx =>
        cases hx
        refine ⟨he, fun i j u hu => ?_, ?_⟩
        · obtain ⟨rfl, hi, hu⟩ := hinn' i j u hu
          refine ⟨fun hb => (outer u.b hb).2.2.2 (hev.sub _ (.inr ⟨_, u, hu, rfl⟩)), by simpa using hi, by decide, fun i' j' u' hu' hbb => ?_⟩
          obtain ⟨rfl, hi', hu'⟩ := hinn' i' j' u' hu'
          have e := hh.dis _ u _ u' hu hu' hbb
          refine ⟨?_, rfl⟩
          have e1 : idx.getD i 0 = idx[i] := by simp [hi]
          have e2 : idx.getD i' 0 = idx[i'] := by simp [hi']
          rw [e1, e2] at e
          exact nodup_inj hnd hi' hi e
        · show match (μ' 1).b with
            | none => _
            | some b => _
          cases hb : (μ' 1).b with
          | none =>
            rw [hb] at hob
            have : Y.length = 0 := hob
            show (idx.map fun i => (L ++ [r]).getD i dR).length = 0
            simp; rw [← List.length_eq_zero_iff]; omega
          | some b =>
            rw [hb] at hob
            obtain ⟨h3, C, T, h4, h5, h6⟩ := hob
            refine ⟨by simp; rw [← hYl]; exact h3, C, T, h4, h5, fun i hi j hj => ?_⟩
            have hi : i < idx.length := by simpa using hi
            obtain ⟨x, h7, h8⟩ := h6 i (by omega) j hj
            refine ⟨x, h7, ?_⟩
            replace h8 : RelI S' w' (eRH (Y.getD i dH) j) x := h8
            rw [hYg i hi] at h8
            have e : (idx.map fun i => (L ++ [r]).getD i dR).getD i dR = (L ++ [r]).getD (idx.getD i 0) dR := by simp [hi]
            show RelX S inn' w' i j (eR ((idx.map fun i => (L ++ [r]).getD i dR).getD i dR) j) x
            rw [e]
            match j, hj with
            | 0, _ => exact h8
            | 1, _ =>
              have hx : x = hd (idx.getD i 0) := h8.1
              show RelN S w' (inn' i 1) _ 2 _ x
              have hi1 : inn' i 1 = iq (idx.getD i 0) := if_pos ⟨rfl, hi⟩
              rw [hi1, hx]
              exact RelN_keep (hh.rel _ (hle _ (getD_mem 0 hi))) (cQ_plain _) fun u hu => hkeep _ u hu
            | 2, _ => exact h8
            | 3, _ => exact h8
    · match o, hx with
      | 0, hx => cases hx
      | 1, hx => cases hx
      | 2, hx => cases hx
      | o + 3, hx => simp at hx
    · exact hne ((own2 o b h1).1.trans (own2 o' b h2).1.symm)
    · obtain ⟨rfl, h⟩ := own2 o b ho
      rcases h with h | ⟨i, j, u, hu, rfl⟩
      · exact ⟨(outer b h).2.1, (outer b h).2.2.1⟩
      · obtain ⟨_, _, hu⟩ := hinn' i j u hu
        exact ⟨(hlt _ u hu).2, Nat.lt_of_lt_of_le (hlt _ u hu).1 hev.kept.size⟩
  · exact hv
end

/-- From what the code does with the slices themselves to what it does with rows that own theirs. -/
theorem put_own {P : Program} (h : SoundC P K_l7Put.1 K_l7Put.2) : SoundC P K_l7PutX.1 K_l7PutX.2 := by
  refine ⟨h.1, fun x hp S μ w vals hok hrel => ?_⟩
  obtain ⟨L, r⟩ := x
  obtain ⟨p1, p2, p3⟩ : L.length ≤ 1000 ∧ (∀ y ∈ L, y.2.1.length ≤ 1000) ∧ r.2.1.length ≤ 1000 := hp
  obtain ⟨v0, rest, rfl, hv0, v1, rest', rfl, hv1, hre⟩ := hrel
  cases hre
  obtain ⟨vs, rfl, nm, rs, rfl, hnm, a, rs1, rfl, ha, vn, rs2, rfl, hvn, vd, rs3, rfl, hvd, hr3⟩ := hv1
  cases hr3
  obtain ⟨hd, iq, hh, hda, hc⟩ := hds_of hok ha
  have hrel' : RelL (SOwn S iq) μ w [.osl 0 0 (hrows hd L).length, rowB (hdQ (hd L.length) r.2.1) r] [v0, .agg #[nm, a, vn, vd]] := by
    refine ⟨v0, _, rfl, by rw [hrows_len]; exact hv0, _, [], rfl, ⟨[nm, a, vn, vd], rfl, nm, _, rfl, hnm, a, _, rfl, ?_, vn, _, rfl, hvn, vd, _, rfl, hvd, rfl⟩, rfl⟩
    have := hh.rel L.length (Nat.le_refl _)
    rw [getD_last dR, hda] at this
    rw [hda]
    exact RelN_hdr this fun v hv => .inr ⟨_, v, hv, rfl⟩
  have := h.2 (hrows hd L, (hd L.length, r)) ⟨by rw [hrows_len]; exact p1, fun y hy => by
    unfold hrows at hy
    obtain ⟨i, hi, rfl⟩ := List.mem_map.1 hy
    have hi := List.mem_range.1 hi
    exact p2 _ (getD_mem dR hi), p3⟩ (SOwn S iq) μ w _ (open_hok hok hh hc) hrel'
  refine Calls.mono this fun e w' he => ?_
  obtain ⟨v, y, S', μ', rfl, hy, hev, hr⟩ := he
  obtain ⟨y1, y2, y3⟩ : HPut (hrows hd L).length y := hy
  rw [hrows_len] at y1 y3
  obtain ⟨S'', μ'', hev', hr'⟩ := close_evo hok hh y2 y3 hev hr
  exact ⟨v, y, S'', μ'', rfl, ⟨y1, y2, y3⟩, hev', hr'⟩
end Cg

/-
  What is left to show of each function's code, printed by a program: Mok. No condition.
-/
set_option maxRecDepth 100000
set_option linter.unusedVariables false
namespace Cg
open Go Go.Proofs
theorem vc_l1Abs (x : Int) : (condP (decide (x < (-1000000000 : Int))) ((1000000001 : Int) = Pl.abs1 x)
 (condP (decide (x > (1000000000 : Int))) ((1000000001 : Int) = Pl.abs1 x)
 (condP (decide (x < (0 : Int))) (IntKind.i64.wrap ((0 : Int) - x) = Pl.abs1 x) (x = Pl.abs1 x)))) = Goal Tryz.prog [] ([]) K_l1Abs.1 K_l1Abs.2 (x) := by kernel_rfl

theorem vc_l1Gcd (a b : Nat) : ((∃ x : Nat × Nat,
 (x.1 ≤ (4611686018427387904 : Nat) ∧ x.2 ≤ (4611686018427387904 : Nat) ∧ x.1.gcd x.2 = a.gcd b) ∧ ((↑a : Int) = (↑x.1 : Int) ∧ (↑b : Int) = (↑x.2 : Int) ∧ True) ∧ True) ∧ ∀ (x : Nat × Nat),
 x.1 ≤ (4611686018427387904 : Nat) ∧ x.2 ≤ (4611686018427387904 : Nat) ∧ x.1.gcd x.2 = a.gcd b →
 condP (decide ((↑x.2 : Int) > (0 : Int)))
 ((↑x.2 : Int) ≠ (0 : Int) ∧ Exists fun (x' : Nat × Nat) =>
 (x'.1 ≤ (4611686018427387904 : Nat) ∧ x'.2 ≤ (4611686018427387904 : Nat) ∧ x'.1.gcd x'.2 = a.gcd b) ∧ x'.2 < x.2 ∧ ((↑x.2 : Int) = (↑x'.1 : Int) ∧ (↑x.1 : Int).tmod (↑x.2 : Int) = (↑x'.2 : Int) ∧ True) ∧ True)
 ((↑x.1 : Int) = (↑(a.gcd b) : Int))) = Goal Tryz.prog [] (A_l1Gcd a b) K_l1Gcd.1 K_l1Gcd.2 ((a, b)) := by kernel_rfl

theorem vc_gcd (a b : Int) : ((∃ x : Nat × Nat,
 (x.1 ≤ (4611686018427387904 : Nat) ∧ x.2 ≤ (4611686018427387904 : Nat) ∧ x.1.gcd x.2 = a.natAbs.gcd b.natAbs) ∧ ((if IntKind.i64.wrap ((0 : Int) - a) > a then IntKind.i64.wrap ((0 : Int) - a) else a) = (↑x.1 : Int) ∧ (if IntKind.i64.wrap ((0 : Int) - b) > b then IntKind.i64.wrap ((0 : Int) - b) else b) = (↑x.2 : Int) ∧ True) ∧ True) ∧ ∀ (x : Nat × Nat),
 x.1 ≤ (4611686018427387904 : Nat) ∧ x.2 ≤ (4611686018427387904 : Nat) ∧ x.1.gcd x.2 = a.natAbs.gcd b.natAbs →
 condP (decide ((↑x.2 : Int) > (0 : Int)))
 ((↑x.2 : Int) ≠ (0 : Int) ∧ Exists fun (x' : Nat × Nat) =>
 (x'.1 ≤ (4611686018427387904 : Nat) ∧ x'.2 ≤ (4611686018427387904 : Nat) ∧ x'.1.gcd x'.2 = a.natAbs.gcd b.natAbs) ∧ x'.2 < x.2 ∧ ((↑x.2 : Int) = (↑x'.1 : Int) ∧ (↑x.1 : Int).tmod (↑x.2 : Int) = (↑x'.2 : Int) ∧ True) ∧ True)
 ((↑x.1 : Int) = (↑(a.natAbs.gcd b.natAbs) : Int))) = Goal Tryz.prog [] (A_gcd a b) K_gcd.1 K_gcd.2 ((a, b)) := by kernel_rfl

theorem vc_sRatOk (x : Pl.Rt) : (∃ x_1 : Int,
 (x.1 = x_1 ∧ True) ∧ True ∧ condP (decide (Pl.abs1 x_1 ≤ (1000000000 : Int)))
 (condP (decide (x.2 ≥ (1 : Int)))
 (condP (decide (x.2 ≤ (1000000000 : Int)))
 (∃ x_2 : Int,
 (x.1 = x_2 ∧ True) ∧ True ∧ ∃ x_3 : Nat × Nat,
 (Pl.abs1 x_2 = (↑x_3.1 : Int) ∧ x.2 = (↑x_3.2 : Int) ∧ True) ∧ (x_3.1 ≤ (4611686018427387904 : Nat) ∧ x_3.2 ≤ (4611686018427387904 : Nat)) ∧ ((↑(x_3.1.gcd x_3.2) : Int) == (1 : Int)) = Pl.ratOk x)
 (false = Pl.ratOk x))
 (false = Pl.ratOk x))
 (false = Pl.ratOk x)) = Goal Tryz.prog [K_l1Abs, K_l1Gcd] ([]) K_sRatOk.1 K_sRatOk.2 (x) := by kernel_rfl

theorem vc_iRatOk (x : Pl.Rt) : (∃ x_1 : Int × Int × Int,
 (x.1 = x_1.1 ∧ (-1000000000 : Int) = x_1.2.1 ∧ (1000000000 : Int) = x_1.2.2 ∧ True) ∧ True ∧ condP (Pl.withinI x_1.1 x_1.2.1 x_1.2.2)
 (∃ x_2 : Int × Int × Int,
 (x.2 = x_2.1 ∧ (1 : Int) = x_2.2.1 ∧ (1000000000 : Int) = x_2.2.2 ∧ True) ∧ True ∧ condP (Pl.withinI x_2.1 x_2.2.1 x_2.2.2)
 (∃ x_3 : Int × Int,
 (x.1 = x_3.1 ∧ x.2 = x_3.2 ∧ True) ∧ (x_3.1.natAbs ≤ (4611686018427387904 : Nat) ∧ x_3.2.natAbs ≤ (4611686018427387904 : Nat)) ∧ ((↑(x_3.1.natAbs.gcd x_3.2.natAbs) : Int) == (1 : Int)) = Pl.ratOk x)
 (false = Pl.ratOk x))
 (false = Pl.ratOk x)) = Goal Tryz.prog [K_within, K_gcd] ([]) K_iRatOk.1 K_iRatOk.2 (x) := by kernel_rfl

theorem vc_sRatLess (x : Pl.Rt × Pl.Rt) : (∃ x_1 : Pl.Rt,
 ((x.1.1 = x_1.1 ∧ x.1.2 = x_1.2 ∧ True) ∧ True) ∧ True ∧ condP (Pl.ratOk x_1)
 (∃ x_2 : Pl.Rt,
 ((x.2.1 = x_2.1 ∧ x.2.2 = x_2.2 ∧ True) ∧ True) ∧ True ∧ condP (Pl.ratOk x_2) (decide (IntKind.i64.wrap (x.1.1 * x.2.2) < IntKind.i64.wrap (x.2.1 * x.1.2)) = Pl.ratLess x.1 x.2)
 (false = Pl.ratLess x.1 x.2))
 (false = Pl.ratLess x.1 x.2)) = Goal Tryz.prog [K_sRatOk] ([]) K_sRatLess.1 K_sRatLess.2 (x) := by kernel_rfl

theorem vc_iRatLess (x : Pl.Rt × Pl.Rt) : (∃ x_1 : Pl.Rt,
 ((x.1.1 = x_1.1 ∧ x.1.2 = x_1.2 ∧ True) ∧ True) ∧ True ∧ condP (Pl.ratOk x_1)
 (∃ x_2 : Pl.Rt,
 ((x.2.1 = x_2.1 ∧ x.2.2 = x_2.2 ∧ True) ∧ True) ∧ True ∧ condP (Pl.ratOk x_2) (decide (IntKind.i64.wrap (x.1.1 * x.2.2) < IntKind.i64.wrap (x.2.1 * x.1.2)) = Pl.ratLess x.1 x.2)
 (false = Pl.ratLess x.1 x.2))
 (false = Pl.ratLess x.1 x.2)) = Goal Tryz.prog [K_iRatOk] ([]) K_iRatLess.1 K_iRatLess.2 (x) := by kernel_rfl

theorem vc_compareRats (x : Pl.Rt × Pl.Rt) : (∃ x_1 : Pl.Rt × Pl.Rt,
 ((x.1.1 = x_1.1.1 ∧ x.1.2 = x_1.1.2 ∧ True) ∧ (x.2.1 = x_1.2.1 ∧ x.2.2 = x_1.2.2 ∧ True) ∧ True) ∧ True ∧ condP (Pl.ratLess x_1.1 x_1.2) ((-1 : Int) = Pl.cmpRat x.1 x.2)
 (∃ x_2 : Pl.Rt × Pl.Rt,
 ((x.2.1 = x_2.1.1 ∧ x.2.2 = x_2.1.2 ∧ True) ∧ (x.1.1 = x_2.2.1 ∧ x.1.2 = x_2.2.2 ∧ True) ∧ True) ∧ True ∧ condP (Pl.ratLess x_2.1 x_2.2) ((1 : Int) = Pl.cmpRat x.1 x.2) ((0 : Int) = Pl.cmpRat x.1 x.2))) = Goal Tryz.prog [K_iRatLess] ([]) K_compareRats.1 K_compareRats.2 (x) := by kernel_rfl

theorem vc_l7Row (x : Pl.Rw) : ((∃ x_1 : Nat,
 (x_1 ≤ x.2.1.length ∧ x.2.1.all Pl.ratOk = (List.drop x_1 x.2.1).all Pl.ratOk) ∧ ((0 : Nat) = (0 : Nat) ∧ (0 : Int) = (↑x_1 : Int) ∧ True) ∧ (x.1 = x.1 ∧ Is (rats x.2.1) (rats x.2.1) ∧ x.2.2.1 = x.2.2.1 ∧ x.2.2.2 = x.2.2.2 ∧ True) ∧ True) ∧ ∀ (x_1 : Nat),
 x_1 ≤ x.2.1.length ∧ x.2.1.all Pl.ratOk = (List.drop x_1 x.2.1).all Pl.ratOk →
 condP (decide ((↑x_1 : Int) < (↑x.2.1.length : Int)))
 (((0 : Int) ≤ (↑x_1 : Int) ∧ (↑x_1 : Int) < (↑x.2.1.length : Int)) ∧ x_1 < x.2.1.length ∧ ∃ x_2 : Pl.Rt,
 (((x.2.1.getD x_1 Pl.dQ).1 = x_2.1 ∧ (x.2.1.getD x_1 Pl.dQ).2 = x_2.2 ∧ True) ∧ True) ∧ True ∧ condP (!Pl.ratOk x_2) (false = Pl.rowOk x)
 (Exists fun (x' : Nat) =>
 (x' ≤ x.2.1.length ∧ x.2.1.all Pl.ratOk = (List.drop x' x.2.1).all Pl.ratOk) ∧ x.2.1.length - x' < x.2.1.length - x_1 ∧ ((0 : Nat) = (0 : Nat) ∧ IntKind.i64.wrap ((↑x_1 : Int) + (1 : Int)) = (↑x' : Int) ∧ True) ∧ (x.1 = x.1 ∧ Is (rats x.2.1) (rats x.2.1) ∧ x.2.2.1 = x.2.2.1 ∧ x.2.2.2 = x.2.2.2 ∧ True) ∧ True))
 (∃ x_2 : ByteArray,
 (x.1 = x_2 ∧ True) ∧ x_2.size ≤ (1048576 : Nat) ∧ condP (Pl.nameOk x_2)
 (condP (decide ((↑x.2.1.length : Int) ≤ (2 : Int)))
 (∃ x_3 : Pl.Rt, ((x.2.2.1 = x_3.1 ∧ x.2.2.2 = x_3.2 ∧ True) ∧ True) ∧ True ∧ Pl.ratOk x_3 = Pl.rowOk x) (false = Pl.rowOk x))
 (false = Pl.rowOk x))) = Goal Tryz.prog [K_sRatOk, K_sNameOk] (A_l7Row x) K_l7Row.1 K_l7Row.2 (x) := by kernel_rfl

theorem vc_l7Less (x : Pl.Rw × Pl.Rw) : (condP (!x.1.1.toList == x.2.1.toList) (Op.bytesLess x.1.1.toList x.2.1.toList = Pl.rowLess x.1 x.2)
 (condP ((↑x.1.2.1.length : Int) != (↑x.2.2.1.length : Int)) (decide ((↑x.1.2.1.length : Int) < (↑x.2.2.1.length : Int)) = Pl.rowLess x.1 x.2)
 ((∃ x_1 : Nat,
 (x_1 ≤ x.1.2.1.length ∧ x.1.2.1.length = x.2.2.1.length ∧ Pl.rowLess x.1 x.2 = Pl.argsLess (List.drop x_1 x.1.2.1) (List.drop x_1 x.2.2.1)) ∧ ((0 : Nat) = (0 : Nat) ∧ (0 : Nat) = (0 : Nat) ∧ (0 : Int) = (↑x_1 : Int) ∧ True) ∧ (x.1.1 = x.1.1 ∧ Is (rats x.1.2.1) (rats x.1.2.1) ∧ x.1.2.2.1 = x.1.2.2.1 ∧ x.1.2.2.2 = x.1.2.2.2 ∧ True) ∧ (x.2.1 = x.2.1 ∧ Is (rats x.2.2.1) (rats x.2.2.1) ∧ x.2.2.2.1 = x.2.2.2.1 ∧ x.2.2.2.2 = x.2.2.2.2 ∧ True) ∧ True) ∧ ∀ (x_1 : Nat),
 x_1 ≤ x.1.2.1.length ∧ x.1.2.1.length = x.2.2.1.length ∧ Pl.rowLess x.1 x.2 = Pl.argsLess (List.drop x_1 x.1.2.1) (List.drop x_1 x.2.2.1) →
 condP (decide ((↑x_1 : Int) < (↑x.1.2.1.length : Int)))
 (((0 : Int) ≤ (↑x_1 : Int) ∧ (↑x_1 : Int) < (↑x.1.2.1.length : Int)) ∧ x_1 < x.1.2.1.length ∧ ((0 : Int) ≤ (↑x_1 : Int) ∧ (↑x_1 : Int) < (↑x.2.2.1.length : Int)) ∧ x_1 < x.2.2.1.length ∧ condP (!((x.1.2.1.getD x_1 Pl.dQ).1 == (x.2.2.1.getD x_1 Pl.dQ).1 && (x.1.2.1.getD x_1 Pl.dQ).2 == (x.2.2.1.getD x_1 Pl.dQ).2))
 (((0 : Int) ≤ (↑x_1 : Int) ∧ (↑x_1 : Int) < (↑x.1.2.1.length : Int)) ∧ x_1 < x.1.2.1.length ∧ ((0 : Int) ≤ (↑x_1 : Int) ∧ (↑x_1 : Int) < (↑x.2.2.1.length : Int)) ∧ x_1 < x.2.2.1.length ∧ ∃ x_2 : Pl.Rt × Pl.Rt,
 (((x.1.2.1.getD x_1 Pl.dQ).1 = x_2.1.1 ∧ (x.1.2.1.getD x_1 Pl.dQ).2 = x_2.1.2 ∧ True) ∧ ((x.2.2.1.getD x_1 Pl.dQ).1 = x_2.2.1 ∧ (x.2.2.1.getD x_1 Pl.dQ).2 = x_2.2.2 ∧ True) ∧ True) ∧ True ∧ Pl.ratLess x_2.1 x_2.2 = Pl.rowLess x.1 x.2)
 (Exists fun (x' : Nat) =>
 (x' ≤ x.1.2.1.length ∧ x.1.2.1.length = x.2.2.1.length ∧ Pl.rowLess x.1 x.2 = Pl.argsLess (List.drop x' x.1.2.1) (List.drop x' x.2.2.1)) ∧ x.1.2.1.length - x' < x.1.2.1.length - x_1 ∧ ((0 : Nat) = (0 : Nat) ∧ (0 : Nat) = (0 : Nat) ∧ IntKind.i64.wrap ((↑x_1 : Int) + (1 : Int)) = (↑x' : Int) ∧ True) ∧ (x.1.1 = x.1.1 ∧ Is (rats x.1.2.1) (rats x.1.2.1) ∧ x.1.2.2.1 = x.1.2.2.1 ∧ x.1.2.2.2 = x.1.2.2.2 ∧ True) ∧ (x.2.1 = x.2.1 ∧ Is (rats x.2.2.1) (rats x.2.2.1) ∧ x.2.2.2.1 = x.2.2.2.1 ∧ x.2.2.2.2 = x.2.2.2.2 ∧ True) ∧ True))
 (false = Pl.rowLess x.1 x.2)))) = Goal Tryz.prog [K_sRatLess] (A_l7Less x.1 x.2) K_l7Less.1 K_l7Less.2 (x) := by kernel_rfl

theorem vc_l7Right (x : Pl.Mdl) : ((∃ x_1 : Nat,
 (x_1 ≤ List.length x ∧ Pl.mL Option.none x = Pl.mL (Pl.prevR x x_1) (List.drop x_1 x)) ∧ ((0 : Nat) = (0 : Nat) ∧ (0 : Int) = (↑x_1 : Int) ∧ True) ∧ (Is (mrows x) (mrows x) ∧ True) ∧ True) ∧ ∀ (x_1 : Nat),
 x_1 ≤ List.length x ∧ Pl.mL Option.none x = Pl.mL (Pl.prevR x x_1) (List.drop x_1 x) →
 condP (decide ((↑x_1 : Int) < (↑(List.length x) : Int)))
 (((0 : Int) ≤ (↑x_1 : Int) ∧ (↑x_1 : Int) < (↑(List.length x) : Int)) ∧ x_1 < List.length x ∧ ∃ x_2 : Pl.Rw,
 (((List.getD x x_1 Pl.dR).1 = x_2.1 ∧ Is (rats (List.getD x x_1 Pl.dR).2.1) (rats x_2.2.1) ∧ (List.getD x x_1 Pl.dR).2.2.1 = x_2.2.2.1 ∧ (List.getD x x_1 Pl.dR).2.2.2 = x_2.2.2.2 ∧ True) ∧ True) ∧ (x_2.1.size ≤ (1048576 : Nat) ∧ x_2.2.1.length ≤ (1048576 : Nat)) ∧ condP (!Pl.rowOk x_2) (false = Pl.mRight x)
 (condP (decide ((↑x_1 : Int) > (0 : Int)))
 (((0 : Int) ≤ IntKind.i64.wrap ((↑x_1 : Int) - (1 : Int)) ∧ IntKind.i64.wrap ((↑x_1 : Int) - (1 : Int)) < (↑(List.length x) : Int)) ∧ (IntKind.i64.wrap ((↑x_1 : Int) - (1 : Int))).toNat < List.length x ∧ ((0 : Int) ≤ (↑x_1 : Int) ∧ (↑x_1 : Int) < (↑(List.length x) : Int)) ∧ x_1 < List.length x ∧ ∃ x_3 : Pl.Rw × Pl.Rw,
 (((List.getD x (IntKind.i64.wrap ((↑x_1 : Int) - (1 : Int))).toNat Pl.dR).1 = x_3.1.1 ∧ Is (rats (List.getD x (IntKind.i64.wrap ((↑x_1 : Int) - (1 : Int))).toNat Pl.dR).2.1) (rats x_3.1.2.1) ∧ (List.getD x (IntKind.i64.wrap ((↑x_1 : Int) - (1 : Int))).toNat Pl.dR).2.2.1 = x_3.1.2.2.1 ∧ (List.getD x (IntKind.i64.wrap ((↑x_1 : Int) - (1 : Int))).toNat Pl.dR).2.2.2 = x_3.1.2.2.2 ∧ True) ∧ ((List.getD x x_1 Pl.dR).1 = x_3.2.1 ∧ Is (rats (List.getD x x_1 Pl.dR).2.1) (rats x_3.2.2.1) ∧ (List.getD x x_1 Pl.dR).2.2.1 = x_3.2.2.2.1 ∧ (List.getD x x_1 Pl.dR).2.2.2 = x_3.2.2.2.2 ∧ True) ∧ True) ∧ x_3.1.2.1.length ≤ (1048576 : Nat) ∧ condP (!Pl.rowLess x_3.1 x_3.2) (false = Pl.mRight x)
 (Exists fun (x' : Nat) =>
 (x' ≤ List.length x ∧ Pl.mL Option.none x = Pl.mL (Pl.prevR x x') (List.drop x' x)) ∧ List.length x - x' < List.length x - x_1 ∧ ((0 : Nat) = (0 : Nat) ∧ IntKind.i64.wrap ((↑x_1 : Int) + (1 : Int)) = (↑x' : Int) ∧ True) ∧ (Is (mrows x) (mrows x) ∧ True) ∧ True))
 (Exists fun (x' : Nat) =>
 (x' ≤ List.length x ∧ Pl.mL Option.none x = Pl.mL (Pl.prevR x x') (List.drop x' x)) ∧ List.length x - x' < List.length x - x_1 ∧ ((0 : Nat) = (0 : Nat) ∧ IntKind.i64.wrap ((↑x_1 : Int) + (1 : Int)) = (↑x' : Int) ∧ True) ∧ (Is (mrows x) (mrows x) ∧ True) ∧ True)))
 (decide ((↑(List.length x) : Int) ≤ (40 : Int)) = Pl.mRight x)) = Goal Tryz.prog [K_l7Row, K_l7Less] (A_l7Right x) K_l7Right.1 K_l7Right.2 (x) := by kernel_rfl

theorem vc_l7Fit (x : Pl.Rt × Int) : (∃ x_1 : Pl.Rt,
 ((x.1.1 = x_1.1 ∧ x.1.2 = x_1.2 ∧ True) ∧ True) ∧ True ∧ condP (Pl.ratOk x_1) (condP (x.2 == (1 : Int)) (true = Pl.fit x.1 x.2) ((x.1.2 == (1 : Int)) = Pl.fit x.1 x.2)) (false = Pl.fit x.1 x.2)) = Goal Tryz.prog [K_sRatOk] ([]) K_l7Fit.1 K_l7Fit.2 (x) := by kernel_rfl

theorem vc_sModelOk (x : Pl.Sig × Pl.Mdl) : (∃ x_1 : Pl.Sig,
 ((Is (syms x.1) (syms x_1) ∧ True) ∧ True) ∧ SmG x_1 ∧ condP (!Pl.sigOk x_1) (false = Pl.modelOk x.1 x.2)
 (∃ x_2 : Pl.Mdl,
 ((Is (mrows x.2) (mrows x_2) ∧ True) ∧ True) ∧ SmM x_2 ∧ condP (!Pl.mRight x_2) (false = Pl.modelOk x.1 x.2)
 ((∃ x_3 : Nat,
 (x_3 ≤ List.length x.2 ∧ Pl.modelOk x.1 x.2 = (List.drop x_3 x.2).all (Pl.rowFits x.1)) ∧ ((0 : Nat) = (0 : Nat) ∧ (0 : Nat) = (0 : Nat) ∧ (0 : Int) = (↑x_3 : Int) ∧ True) ∧ (Is (syms x.1) (syms x.1) ∧ True) ∧ (Is (mrows x.2) (mrows x.2) ∧ True) ∧ True) ∧ ∀ (x_3 : Nat),
 x_3 ≤ List.length x.2 ∧ Pl.modelOk x.1 x.2 = (List.drop x_3 x.2).all (Pl.rowFits x.1) →
 condP (decide ((↑x_3 : Int) < (↑(List.length x.2) : Int)))
 (((0 : Int) ≤ (↑x_3 : Int) ∧ (↑x_3 : Int) < (↑(List.length x.2) : Int)) ∧ x_3 < List.length x.2 ∧ ∃ x_4 : Pl.Sig × ByteArray,
 ((Is (syms x.1) (syms x_4.1) ∧ True) ∧ (List.getD x.2 x_3 Pl.dR).1 = x_4.2 ∧ True) ∧ SmG x_4.1 ∧ condP (!(Pl.find x_4.1 x_4.2).isSome) (false = Pl.modelOk x.1 x.2)
 (((0 : Int) ≤ (↑x_3 : Int) ∧ (↑x_3 : Int) < (↑(List.length x.2) : Int)) ∧ x_3 < List.length x.2 ∧ condP ((↑(Pl.symOf x_4.1 x_4.2).2.1.length : Int) != (↑(List.getD x.2 x_3 Pl.dR).2.1.length : Int)) (false = Pl.modelOk x.1 x.2)
 (((0 : Int) ≤ (↑x_3 : Int) ∧ (↑x_3 : Int) < (↑(List.length x.2) : Int)) ∧ x_3 < List.length x.2 ∧ ∃ x_5 : Pl.Rt × Int,
 (((List.getD x.2 x_3 Pl.dR).2.2.1 = x_5.1.1 ∧ (List.getD x.2 x_3 Pl.dR).2.2.2 = x_5.1.2 ∧ True) ∧ (Pl.symOf x_4.1 x_4.2).2.2 = x_5.2 ∧ True) ∧ True ∧ condP (!Pl.fit x_5.1 x_5.2) (false = Pl.modelOk x.1 x.2)
 ((∃ x_6 : Nat,
 (x_3 < List.length x.2 ∧ x_6 ≤ (List.getD x.2 x_3 Pl.dR).2.1.length ∧ (Pl.symOf x.1 (List.getD x.2 x_3 Pl.dR).1).2.1.length = (List.getD x.2 x_3 Pl.dR).2.1.length ∧ Pl.rowFits x.1 (List.getD x.2 x_3 Pl.dR) =
 Pl.fitL (List.drop x_6 (List.getD x.2 x_3 Pl.dR).2.1)
 (List.drop x_6 (Pl.symOf x.1 (List.getD x.2 x_3 Pl.dR).1).2.1)) ∧ ((0 : Nat) = (0 : Nat) ∧ (0 : Nat) = (0 : Nat) ∧ (↑x_3 : Int) = (↑x_3 : Int) ∧ (0 : Nat) = (0 : Nat) ∧ (0 : Int) = (↑x_6 : Int) ∧ True) ∧ (Is (syms x.1) (syms x.1) ∧ True) ∧ (Is (mrows x.2) (mrows x.2) ∧ True) ∧ ((Pl.symOf x_4.1 x_4.2).1 = (Pl.symOf x.1 (List.getD x.2 x_3 Pl.dR).1).1 ∧ Is (ints (Pl.symOf x_4.1 x_4.2).2.1) (ints (Pl.symOf x.1 (List.getD x.2 x_3 Pl.dR).1).2.1) ∧ (Pl.symOf x_4.1 x_4.2).2.2 = (Pl.symOf x.1 (List.getD x.2 x_3 Pl.dR).1).2.2 ∧ True) ∧ True) ∧ ∀ (x_6 : Nat),
 x_3 < List.length x.2 ∧ x_6 ≤ (List.getD x.2 x_3 Pl.dR).2.1.length ∧ (Pl.symOf x.1 (List.getD x.2 x_3 Pl.dR).1).2.1.length = (List.getD x.2 x_3 Pl.dR).2.1.length ∧ Pl.rowFits x.1 (List.getD x.2 x_3 Pl.dR) =
 Pl.fitL (List.drop x_6 (List.getD x.2 x_3 Pl.dR).2.1)
 (List.drop x_6 (Pl.symOf x.1 (List.getD x.2 x_3 Pl.dR).1).2.1) →
 condP (decide ((↑x_6 : Int) < (↑(Pl.symOf x.1 (List.getD x.2 x_3 Pl.dR).1).2.1.length : Int)))
 (((0 : Int) ≤ (↑x_3 : Int) ∧ (↑x_3 : Int) < (↑(List.length x.2) : Int)) ∧ x_3 < List.length x.2 ∧ ((0 : Int) ≤ (↑x_6 : Int) ∧ (↑x_6 : Int) < (↑(List.getD x.2 x_3 Pl.dR).2.1.length : Int)) ∧ x_6 < (List.getD x.2 x_3 Pl.dR).2.1.length ∧ ((0 : Int) ≤ (↑x_6 : Int) ∧ (↑x_6 : Int) < (↑(Pl.symOf x.1 (List.getD x.2 x_3 Pl.dR).1).2.1.length : Int)) ∧ x_6 < (Pl.symOf x.1 (List.getD x.2 x_3 Pl.dR).1).2.1.length ∧ ∃ x_7 : Pl.Rt × Int,
 ((((List.getD x.2 x_3 Pl.dR).2.1.getD x_6 Pl.dQ).1 = x_7.1.1 ∧ ((List.getD x.2 x_3 Pl.dR).2.1.getD x_6 Pl.dQ).2 = x_7.1.2 ∧ True) ∧ (Pl.symOf x.1 (List.getD x.2 x_3 Pl.dR).1).2.1.getD x_6 (0 : Int) = x_7.2 ∧ True) ∧ True ∧ condP (!Pl.fit x_7.1 x_7.2) (false = Pl.modelOk x.1 x.2)
 (Exists fun (x' : Nat) =>
 (x_3 < List.length x.2 ∧ x' ≤ (List.getD x.2 x_3 Pl.dR).2.1.length ∧ (Pl.symOf x.1 (List.getD x.2 x_3 Pl.dR).1).2.1.length = (List.getD x.2 x_3 Pl.dR).2.1.length ∧ Pl.rowFits x.1 (List.getD x.2 x_3 Pl.dR) =
 Pl.fitL (List.drop x' (List.getD x.2 x_3 Pl.dR).2.1)
 (List.drop x' (Pl.symOf x.1 (List.getD x.2 x_3 Pl.dR).1).2.1)) ∧ (List.getD x.2 x_3 Pl.dR).2.1.length - x' < (List.getD x.2 x_3 Pl.dR).2.1.length - x_6 ∧ ((0 : Nat) = (0 : Nat) ∧ (0 : Nat) = (0 : Nat) ∧ (↑x_3 : Int) = (↑x_3 : Int) ∧ (0 : Nat) = (0 : Nat) ∧ IntKind.i64.wrap ((↑x_6 : Int) + (1 : Int)) = (↑x' : Int) ∧ True) ∧ (Is (syms x.1) (syms x.1) ∧ True) ∧ (Is (mrows x.2) (mrows x.2) ∧ True) ∧ ((Pl.symOf x.1 (List.getD x.2 x_3 Pl.dR).1).1 =
 (Pl.symOf x.1 (List.getD x.2 x_3 Pl.dR).1).1 ∧ Is (ints (Pl.symOf x.1 (List.getD x.2 x_3 Pl.dR).1).2.1)
 (ints (Pl.symOf x.1 (List.getD x.2 x_3 Pl.dR).1).2.1) ∧ (Pl.symOf x.1 (List.getD x.2 x_3 Pl.dR).1).2.2 =
 (Pl.symOf x.1 (List.getD x.2 x_3 Pl.dR).1).2.2 ∧ True) ∧ True))
 (Exists fun (x' : Nat) =>
 (x' ≤ List.length x.2 ∧ Pl.modelOk x.1 x.2 = (List.drop x' x.2).all (Pl.rowFits x.1)) ∧ List.length x.2 - x' < List.length x.2 - x_3 ∧ ((0 : Nat) = (0 : Nat) ∧ (0 : Nat) = (0 : Nat) ∧ IntKind.i64.wrap ((↑x_3 : Int) + (1 : Int)) = (↑x' : Int) ∧ True) ∧ (Is (syms x.1) (syms x.1) ∧ True) ∧ (Is (mrows x.2) (mrows x.2) ∧ True) ∧ True)))))
 (true = Pl.modelOk x.1 x.2)))) = Goal Tryz.prog [K_sSigOk, K_l7Right, K_l4Find, K_l7Fit] (A_sModelOk x.1 x.2) K_sModelOk.1 K_sModelOk.2 (x) := by kernel_rfl

theorem vc_RowOk1 (x : Pl.Rt) : (∃ x_1 : Pl.Rt, ((x.1 = x_1.1 ∧ x.2 = x_1.2 ∧ True) ∧ True) ∧ True ∧ (!Pl.ratOk x_1) = !Pl.ratOk x) = Goal Tryz.prog [K_iRatOk] ([]) K_RowOk1.1 K_RowOk1.2 (x) := by kernel_rfl

theorem vc_IndexRat (x : List Pl.Rt) : ((∃ x_1 : Nat,
 (x_1 ≤ x.length ∧ Pl.idx (fun (y : Pl.Rt) => !Pl.ratOk y) x =
 if Pl.idx (fun (y : Pl.Rt) => !Pl.ratOk y) (List.drop x_1 x) < (0 : Int) then (-1 : Int) else Pl.idx (fun (y : Pl.Rt) => !Pl.ratOk y) (List.drop x_1 x) + (↑x_1 : Int)) ∧ (Is (rats x) (rats x) ∧ True ∧ (↑x.length : Int) = (↑x.length : Int) ∧ (0 : Int) = (↑x_1 : Int) ∧ True) ∧ True) ∧ ∀ (x_1 : Nat),
 (x_1 ≤ x.length ∧ Pl.idx (fun (y : Pl.Rt) => !Pl.ratOk y) x =
 if Pl.idx (fun (y : Pl.Rt) => !Pl.ratOk y) (List.drop x_1 x) < (0 : Int) then (-1 : Int) else Pl.idx (fun (y : Pl.Rt) => !Pl.ratOk y) (List.drop x_1 x) + (↑x_1 : Int)) →
 condP (decide ((↑x_1 : Int) < (↑x.length : Int)))
 (((0 : Int) ≤ (↑x_1 : Int) ∧ (↑x_1 : Int) < (↑x.length : Int)) ∧ x_1 < x.length ∧ ∃ x_2 : Pl.Rt,
 (((x.getD x_1 Pl.dQ).1 = x_2.1 ∧ (x.getD x_1 Pl.dQ).2 = x_2.2 ∧ True) ∧ True) ∧ True ∧ condP (!Pl.ratOk x_2) ((↑x_1 : Int) = Pl.idx (fun (y : Pl.Rt) => !Pl.ratOk y) x)
 (Exists fun (x' : Nat) =>
 (x' ≤ x.length ∧ Pl.idx (fun (y : Pl.Rt) => !Pl.ratOk y) x =
 if Pl.idx (fun (y : Pl.Rt) => !Pl.ratOk y) (List.drop x' x) < (0 : Int) then (-1 : Int) else Pl.idx (fun (y : Pl.Rt) => !Pl.ratOk y) (List.drop x' x) + (↑x' : Int)) ∧ x.length - x' < x.length - x_1 ∧ (Is (rats x) (rats x) ∧ True ∧ (↑x.length : Int) = (↑x.length : Int) ∧ IntKind.i64.wrap ((↑x_1 : Int) + (1 : Int)) = (↑x' : Int) ∧ True) ∧ True))
 ((-1 : Int) = Pl.idx (fun (y : Pl.Rt) => !Pl.ratOk y) x)) = Goal Tryz.prog [K_RowOk1] (A_IndexRat x) K_IndexRat.1 K_IndexRat.2 (x) := by kernel_rfl

theorem vc_ContainsRat (x : List Pl.Rt) : (∃ x_1 : List Pl.Rt,
 (Is (rats x) (rats x_1) ∧ True ∧ True) ∧ Sz x_1 ∧ decide (Pl.idx (fun (y : Pl.Rt) => !Pl.ratOk y) x_1 ≥ (0 : Int)) = x.any fun (y : Pl.Rt) => !Pl.ratOk y) = Goal Tryz.prog [K_IndexRat] ([]) K_ContainsRat.1 K_ContainsRat.2 (x) := by kernel_rfl

theorem vc_rowOk (x : Pl.Rw) : (∃ x_1 : ByteArray,
 (x.1 = x_1 ∧ True) ∧ x_1.size ≤ (1048576 : Nat) ∧ condP (Pl.nameOk x_1)
 (condP (decide ((↑x.2.1.length : Int) ≤ (2 : Int)))
 (∃ x_2 : Pl.Rt,
 ((x.2.2.1 = x_2.1 ∧ x.2.2.2 = x_2.2 ∧ True) ∧ True) ∧ True ∧ condP (Pl.ratOk x_2) (∃ x_3 : List Pl.Rt, (Is (rats x.2.1) (rats x_3) ∧ True ∧ True) ∧ Sz x_3 ∧ (!x_3.any fun (y : Pl.Rt) => !Pl.ratOk y) = Pl.rowOk x)
 (false = Pl.rowOk x))
 (false = Pl.rowOk x))
 (false = Pl.rowOk x)) = Goal Tryz.prog [K_iNameOk, K_iRatOk, K_ContainsRat] ([]) K_rowOk.1 K_rowOk.2 (x) := by kernel_rfl

theorem vc_isNaNS (x : ByteArray) : ((!x.toList == x.toList) = false) = Goal Tryz.prog [] ([]) K_isNaNS.1 K_isNaNS.2 (x) := by kernel_rfl

theorem vc_isNaNI (x : Int) : ((x != x) = false) = Goal Tryz.prog [] ([]) K_isNaNI.1 K_isNaNI.2 (x) := by kernel_rfl

theorem vc_CompareS (x : ByteArray × ByteArray) : (∃ x_1 : ByteArray,
 (x.1 = x_1 ∧ True) ∧ True ∧ ∃ x_2 : ByteArray,
 (x.2 = x_2 ∧ True) ∧ True ∧ condP (Op.bytesLess x.1.toList x.2.toList) ((-1 : Int) = Pl.cmpS x.1 x.2)
 (condP (!(Op.bytesLess x.1.toList x.2.toList || x.1.toList == x.2.toList)) ((1 : Int) = Pl.cmpS x.1 x.2) ((0 : Int) = Pl.cmpS x.1 x.2))) = Goal Tryz.prog [K_isNaNS] ([]) K_CompareS.1 K_CompareS.2 (x) := by kernel_rfl

theorem vc_CompareI (x : Int × Int) : (∃ x_1 : Int,
 (x.1 = x_1 ∧ True) ∧ True ∧ ∃ x_2 : Int,
 (x.2 = x_2 ∧ True) ∧ True ∧ condP (decide (x.1 < x.2)) ((-1 : Int) = Pl.cmpI x.1 x.2)
 (condP (decide (x.1 > x.2)) ((1 : Int) = Pl.cmpI x.1 x.2) ((0 : Int) = Pl.cmpI x.1 x.2))) = Goal Tryz.prog [K_isNaNI] ([]) K_CompareI.1 K_CompareI.2 (x) := by kernel_rfl

theorem vc_Or (x : List Int) : ((∃ x_1 : Nat,
 (x_1 ≤ x.length ∧ Pl.orI x = Pl.orI (List.drop x_1 x)) ∧ ((0 : Int) = (0 : Int) ∧ Is (ints x) (ints x) ∧ (↑x.length : Int) = (↑x.length : Int) ∧ (0 : Int) = (↑x_1 : Int) ∧ True) ∧ True) ∧ ∀ (x_1 : Nat),
 x_1 ≤ x.length ∧ Pl.orI x = Pl.orI (List.drop x_1 x) →
 condP (decide ((↑x_1 : Int) < (↑x.length : Int)))
 (((0 : Int) ≤ (↑x_1 : Int) ∧ (↑x_1 : Int) < (↑x.length : Int)) ∧ x_1 < x.length ∧ condP (x.getD x_1 (0 : Int) != (0 : Int)) (x.getD x_1 (0 : Int) = Pl.orI x)
 (Exists fun (x' : Nat) =>
 (x' ≤ x.length ∧ Pl.orI x = Pl.orI (List.drop x' x)) ∧ x.length - x' < x.length - x_1 ∧ ((0 : Int) = (0 : Int) ∧ Is (ints x) (ints x) ∧ (↑x.length : Int) = (↑x.length : Int) ∧ IntKind.i64.wrap ((↑x_1 : Int) + (1 : Int)) = (↑x' : Int) ∧ True) ∧ True))
 ((0 : Int) = Pl.orI x)) = Goal Tryz.prog [] (A_Or x) K_Or.1 K_Or.2 (x) := by kernel_rfl

theorem vc_CompareFunc (x : List Pl.Rt × List Pl.Rt) : ((∃ x_1 : Nat,
 (x_1 ≤ x.1.length ∧ x_1 ≤ x.2.length ∧ Pl.cmpArgs x.1 x.2 = Pl.cmpArgs (List.drop x_1 x.1) (List.drop x_1 x.2)) ∧ (Is (rats x.1) (rats x.1) ∧ Is (rats x.2) (rats x.2) ∧ True ∧ Is (rats x.1) (rats x.1) ∧ (↑x.1.length : Int) = (↑x.1.length : Int) ∧ (0 : Int) = (↑x_1 : Int) ∧ True) ∧ True) ∧ ∀ (x_1 : Nat),
 x_1 ≤ x.1.length ∧ x_1 ≤ x.2.length ∧ Pl.cmpArgs x.1 x.2 = Pl.cmpArgs (List.drop x_1 x.1) (List.drop x_1 x.2) →
 condP (decide ((↑x_1 : Int) < (↑x.1.length : Int)))
 (((0 : Int) ≤ (↑x_1 : Int) ∧ (↑x_1 : Int) < (↑x.1.length : Int)) ∧ x_1 < x.1.length ∧ condP (decide ((↑x_1 : Int) ≥ (↑x.2.length : Int))) ((1 : Int) = Pl.cmpArgs x.1 x.2)
 (((0 : Int) ≤ (↑x_1 : Int) ∧ (↑x_1 : Int) < (↑x.2.length : Int)) ∧ x_1 < x.2.length ∧ ∃ x_2 : Pl.Rt × Pl.Rt,
 (((x.1.getD x_1 Pl.dQ).1 = x_2.1.1 ∧ (x.1.getD x_1 Pl.dQ).2 = x_2.1.2 ∧ True) ∧ ((x.2.getD x_1 Pl.dQ).1 = x_2.2.1 ∧ (x.2.getD x_1 Pl.dQ).2 = x_2.2.2 ∧ True) ∧ True) ∧ True ∧ condP (Pl.cmpRat x_2.1 x_2.2 != (0 : Int)) (Pl.cmpRat x_2.1 x_2.2 = Pl.cmpArgs x.1 x.2)
 (Exists fun (x' : Nat) =>
 (x' ≤ x.1.length ∧ x' ≤ x.2.length ∧ Pl.cmpArgs x.1 x.2 = Pl.cmpArgs (List.drop x' x.1) (List.drop x' x.2)) ∧ x.1.length - x' < x.1.length - x_1 ∧ (Is (rats x.1) (rats x.1) ∧ Is (rats x.2) (rats x.2) ∧ True ∧ Is (rats x.1) (rats x.1) ∧ (↑x.1.length : Int) = (↑x.1.length : Int) ∧ IntKind.i64.wrap ((↑x_1 : Int) + (1 : Int)) = (↑x' : Int) ∧ True) ∧ True)))
 (condP (decide ((↑x.1.length : Int) < (↑x.2.length : Int))) ((-1 : Int) = Pl.cmpArgs x.1 x.2) ((0 : Int) = Pl.cmpArgs x.1 x.2))) = Goal Tryz.prog [K_compareRats] (A_CompareFunc x.1 x.2) K_CompareFunc.1 K_CompareFunc.2 (x) := by kernel_rfl

theorem vc_compareRows (x : Pl.Rw × Pl.Rw) : (∃ x_1 : ByteArray × ByteArray,
 (x.1.1 = x_1.1 ∧ x.2.1 = x_1.2 ∧ True) ∧ True ∧ ∃ x_2 : Int × Int,
 ((↑x.1.2.1.length : Int) = x_2.1 ∧ (↑x.2.2.1.length : Int) = x_2.2 ∧ True) ∧ True ∧ ∃ x_3 : List Pl.Rt × List Pl.Rt,
 (Is (rats x.1.2.1) (rats x_3.1) ∧ Is (rats x.2.2.1) (rats x_3.2) ∧ True ∧ True) ∧ (Sz x_3.1 ∧ Sz x_3.2) ∧ ∃ x_4 : List Int,
 (Is (AV.lit (3 : Nat) (1 : Nat) (rowsCell [[i64 (Pl.cmpS x_1.1 x_1.2)], [i64 (Pl.cmpI x_2.1 x_2.2)], [i64 (Pl.cmpArgs x_3.1 x_3.2)]])) (ints x_4) ∧ True) ∧ Sz x_4 ∧ Pl.orI x_4 = Pl.cmpRows x.1 x.2) = Goal Tryz.prog [K_CompareS, K_CompareI, K_CompareFunc, K_Or] ([]) K_compareRows.1 K_compareRows.2 (x) := by kernel_rfl

theorem vc_iModel (x : Pl.Mdl) : (condP (decide ((↑(List.length x) : Int) > (40 : Int))) (false = Pl.mRight x)
 ((∃ x_1 : Nat,
 (x_1 ≤ List.length x ∧ Pl.mL Option.none x = Pl.mL (Pl.prevR x x_1) (List.drop x_1 x) ∧ (x_1 ≠ (0 : Nat) → Pl.rowOk (List.getD x (x_1 - (1 : Nat)) Pl.dR) = true)) ∧ ((0 : Nat) = (0 : Nat) ∧ Is (mrows x) (mrows x) ∧ (↑(List.length x) : Int) = (↑(List.length x) : Int) ∧ (0 : Int) = (↑x_1 : Int) ∧ True) ∧ (Is (mrows x) (mrows x) ∧ True) ∧ True) ∧ ∀ (x_1 : Nat),
 x_1 ≤ List.length x ∧ Pl.mL Option.none x = Pl.mL (Pl.prevR x x_1) (List.drop x_1 x) ∧ (x_1 ≠ (0 : Nat) → Pl.rowOk (List.getD x (x_1 - (1 : Nat)) Pl.dR) = true) →
 condP (decide ((↑x_1 : Int) < (↑(List.length x) : Int)))
 (((0 : Int) ≤ (↑x_1 : Int) ∧ (↑x_1 : Int) < (↑(List.length x) : Int)) ∧ x_1 < List.length x ∧ ∃ x_2 : Pl.Rw,
 (((List.getD x x_1 Pl.dR).1 = x_2.1 ∧ Is (rats (List.getD x x_1 Pl.dR).2.1) (rats x_2.2.1) ∧ (List.getD x x_1 Pl.dR).2.2.1 = x_2.2.2.1 ∧ (List.getD x x_1 Pl.dR).2.2.2 = x_2.2.2.2 ∧ True) ∧ True) ∧ (x_2.1.size ≤ (1048576 : Nat) ∧ x_2.2.1.length ≤ (1048576 : Nat)) ∧ condP (!Pl.rowOk x_2) (false = Pl.mRight x)
 (condP (decide ((↑x_1 : Int) > (0 : Int)))
 (((0 : Int) ≤ IntKind.i64.wrap ((↑x_1 : Int) - (1 : Int)) ∧ IntKind.i64.wrap ((↑x_1 : Int) - (1 : Int)) < (↑(List.length x) : Int)) ∧ (IntKind.i64.wrap ((↑x_1 : Int) - (1 : Int))).toNat < List.length x ∧ ∃ x_3 : Pl.Rw × Pl.Rw,
 (((List.getD x (IntKind.i64.wrap ((↑x_1 : Int) - (1 : Int))).toNat Pl.dR).1 = x_3.1.1 ∧ Is (rats (List.getD x (IntKind.i64.wrap ((↑x_1 : Int) - (1 : Int))).toNat Pl.dR).2.1) (rats x_3.1.2.1) ∧ (List.getD x (IntKind.i64.wrap ((↑x_1 : Int) - (1 : Int))).toNat Pl.dR).2.2.1 = x_3.1.2.2.1 ∧ (List.getD x (IntKind.i64.wrap ((↑x_1 : Int) - (1 : Int))).toNat Pl.dR).2.2.2 = x_3.1.2.2.2 ∧ True) ∧ ((List.getD x x_1 Pl.dR).1 = x_3.2.1 ∧ Is (rats (List.getD x x_1 Pl.dR).2.1) (rats x_3.2.2.1) ∧ (List.getD x x_1 Pl.dR).2.2.1 = x_3.2.2.2.1 ∧ (List.getD x x_1 Pl.dR).2.2.2 = x_3.2.2.2.2 ∧ True) ∧ True) ∧ (Sz x_3.1.2.1 ∧ Sz x_3.2.2.1) ∧ condP (decide (Pl.cmpRows x_3.1 x_3.2 ≥ (0 : Int))) (false = Pl.mRight x)
 (Exists fun (x' : Nat) =>
 (x' ≤ List.length x ∧ Pl.mL Option.none x = Pl.mL (Pl.prevR x x') (List.drop x' x) ∧ (x' ≠ (0 : Nat) → Pl.rowOk (List.getD x (x' - (1 : Nat)) Pl.dR) = true)) ∧ List.length x - x' < List.length x - x_1 ∧ ((0 : Nat) = (0 : Nat) ∧ Is (mrows x) (mrows x) ∧ (↑(List.length x) : Int) = (↑(List.length x) : Int) ∧ IntKind.i64.wrap ((↑x_1 : Int) + (1 : Int)) = (↑x' : Int) ∧ True) ∧ (Is (mrows x) (mrows x) ∧ True) ∧ True))
 (Exists fun (x' : Nat) =>
 (x' ≤ List.length x ∧ Pl.mL Option.none x = Pl.mL (Pl.prevR x x') (List.drop x' x) ∧ (x' ≠ (0 : Nat) → Pl.rowOk (List.getD x (x' - (1 : Nat)) Pl.dR) = true)) ∧ List.length x - x' < List.length x - x_1 ∧ ((0 : Nat) = (0 : Nat) ∧ Is (mrows x) (mrows x) ∧ (↑(List.length x) : Int) = (↑(List.length x) : Int) ∧ IntKind.i64.wrap ((↑x_1 : Int) + (1 : Int)) = (↑x' : Int) ∧ True) ∧ (Is (mrows x) (mrows x) ∧ True) ∧ True)))
 (true = Pl.mRight x))) = Goal Tryz.prog [K_rowOk, K_compareRows] (A_iModel x) K_iModel.1 K_iModel.2 (x) := by kernel_rfl

theorem vc_suits (x : Pl.Rt × Int) : (condP (x.2 == (1 : Int)) (true = Pl.suit x.1 x.2) ((x.1.2 == (1 : Int)) = Pl.suit x.1 x.2)) = Goal Tryz.prog [] ([]) K_suits.1 K_suits.2 (x) := by kernel_rfl

theorem vc_iModelOk (x : Pl.Sig × Pl.Mdl) : (∃ x_1 : Pl.Sig,
 ((Is (syms x.1) (syms x_1) ∧ True) ∧ True) ∧ SmG x_1 ∧ condP (!Pl.sigOk x_1) (false = Pl.modelOk x.1 x.2)
 (∃ x_2 : Pl.Mdl,
 ((Is (mrows x.2) (mrows x_2) ∧ True) ∧ True) ∧ SmM x_2 ∧ condP (!Pl.mRight x_2) (false = Pl.modelOk x.1 x.2)
 ((∃ x_3 : Nat,
 (x_3 ≤ List.length x.2 ∧ Pl.modelOk x.1 x.2 = (List.drop x_3 x.2).all (Pl.rowFits x.1) ∧ Pl.mL Option.none x.2 = true) ∧ ((0 : Nat) = (0 : Nat) ∧ (0 : Nat) = (0 : Nat) ∧ Is (mrows x.2) (mrows x.2) ∧ (↑(List.length x.2) : Int) = (↑(List.length x.2) : Int) ∧ (0 : Int) = (↑x_3 : Int) ∧ True) ∧ (Is (syms x.1) (syms x.1) ∧ True) ∧ (Is (mrows x.2) (mrows x.2) ∧ True) ∧ True) ∧ ∀ (x_3 : Nat),
 x_3 ≤ List.length x.2 ∧ Pl.modelOk x.1 x.2 = (List.drop x_3 x.2).all (Pl.rowFits x.1) ∧ Pl.mL Option.none x.2 = true →
 condP (decide ((↑x_3 : Int) < (↑(List.length x.2) : Int)))
 (((0 : Int) ≤ (↑x_3 : Int) ∧ (↑x_3 : Int) < (↑(List.length x.2) : Int)) ∧ x_3 < List.length x.2 ∧ ∃ x_4 : Pl.Sig × ByteArray,
 ((Is (syms x.1) (syms x_4.1) ∧ True) ∧ (List.getD x.2 x_3 Pl.dR).1 = x_4.2 ∧ True) ∧ SmG x_4.1 ∧ condP (!(Pl.find x_4.1 x_4.2).isSome) (false = Pl.modelOk x.1 x.2)
 (condP ((↑(Pl.symOf x_4.1 x_4.2).2.1.length : Int) != (↑(List.getD x.2 x_3 Pl.dR).2.1.length : Int)) (false = Pl.modelOk x.1 x.2)
 (∃ x_5 : Pl.Rt × Int,
 (((List.getD x.2 x_3 Pl.dR).2.2.1 = x_5.1.1 ∧ (List.getD x.2 x_3 Pl.dR).2.2.2 = x_5.1.2 ∧ True) ∧ (Pl.symOf x_4.1 x_4.2).2.2 = x_5.2 ∧ True) ∧ True ∧ condP (!Pl.suit x_5.1 x_5.2) (false = Pl.modelOk x.1 x.2)
 ((∃ x_6 : Nat,
 (x_3 < List.length x.2 ∧ x_6 ≤ (List.getD x.2 x_3 Pl.dR).2.1.length ∧ (Pl.symOf x.1 (List.getD x.2 x_3 Pl.dR).1).2.1.length = (List.getD x.2 x_3 Pl.dR).2.1.length ∧ Pl.rowFits x.1 (List.getD x.2 x_3 Pl.dR) =
 Pl.fitL (List.drop x_6 (List.getD x.2 x_3 Pl.dR).2.1) (List.drop x_6 (Pl.symOf x.1 (List.getD x.2 x_3 Pl.dR).1).2.1)) ∧ ((0 : Nat) = (0 : Nat) ∧ (0 : Nat) = (0 : Nat) ∧ (0 : Nat) = (0 : Nat) ∧ Is (mrows x.2) (mrows x.2) ∧ (↑(List.length x.2) : Int) = (↑(List.length x.2) : Int) ∧ (↑x_3 : Int) = (↑x_3 : Int) ∧ Is (rats (List.getD x.2 x_3 Pl.dR).2.1) (rats (List.getD x.2 x_3 Pl.dR).2.1) ∧ (↑(List.getD x.2 x_3 Pl.dR).2.1.length : Int) = (↑(List.getD x.2 x_3 Pl.dR).2.1.length : Int) ∧ (0 : Int) = (↑x_6 : Int) ∧ True) ∧ (Is (syms x.1) (syms x.1) ∧ True) ∧ (Is (mrows x.2) (mrows x.2) ∧ True) ∧ ((Pl.symOf x_4.1 x_4.2).1 = (Pl.symOf x.1 (List.getD x.2 x_3 Pl.dR).1).1 ∧ Is (ints (Pl.symOf x_4.1 x_4.2).2.1) (ints (Pl.symOf x.1 (List.getD x.2 x_3 Pl.dR).1).2.1) ∧ (Pl.symOf x_4.1 x_4.2).2.2 = (Pl.symOf x.1 (List.getD x.2 x_3 Pl.dR).1).2.2 ∧ True) ∧ True) ∧ ∀ (x_6 : Nat),
 x_3 < List.length x.2 ∧ x_6 ≤ (List.getD x.2 x_3 Pl.dR).2.1.length ∧ (Pl.symOf x.1 (List.getD x.2 x_3 Pl.dR).1).2.1.length = (List.getD x.2 x_3 Pl.dR).2.1.length ∧ Pl.rowFits x.1 (List.getD x.2 x_3 Pl.dR) =
 Pl.fitL (List.drop x_6 (List.getD x.2 x_3 Pl.dR).2.1) (List.drop x_6 (Pl.symOf x.1 (List.getD x.2 x_3 Pl.dR).1).2.1) →
 condP (decide ((↑x_6 : Int) < (↑(List.getD x.2 x_3 Pl.dR).2.1.length : Int)))
 (((0 : Int) ≤ (↑x_6 : Int) ∧ (↑x_6 : Int) < (↑(List.getD x.2 x_3 Pl.dR).2.1.length : Int)) ∧ x_6 < (List.getD x.2 x_3 Pl.dR).2.1.length ∧ ((0 : Int) ≤ (↑x_6 : Int) ∧ (↑x_6 : Int) < (↑(Pl.symOf x.1 (List.getD x.2 x_3 Pl.dR).1).2.1.length : Int)) ∧ x_6 < (Pl.symOf x.1 (List.getD x.2 x_3 Pl.dR).1).2.1.length ∧ ∃ x_7 : Pl.Rt × Int,
 ((((List.getD x.2 x_3 Pl.dR).2.1.getD x_6 Pl.dQ).1 = x_7.1.1 ∧ ((List.getD x.2 x_3 Pl.dR).2.1.getD x_6 Pl.dQ).2 = x_7.1.2 ∧ True) ∧ (Pl.symOf x.1 (List.getD x.2 x_3 Pl.dR).1).2.1.getD x_6 (0 : Int) = x_7.2 ∧ True) ∧ True ∧ condP (!Pl.suit x_7.1 x_7.2) (false = Pl.modelOk x.1 x.2)
 (Exists fun (x' : Nat) =>
 (x_3 < List.length x.2 ∧ x' ≤ (List.getD x.2 x_3 Pl.dR).2.1.length ∧ (Pl.symOf x.1 (List.getD x.2 x_3 Pl.dR).1).2.1.length = (List.getD x.2 x_3 Pl.dR).2.1.length ∧ Pl.rowFits x.1 (List.getD x.2 x_3 Pl.dR) =
 Pl.fitL (List.drop x' (List.getD x.2 x_3 Pl.dR).2.1)
 (List.drop x' (Pl.symOf x.1 (List.getD x.2 x_3 Pl.dR).1).2.1)) ∧ (List.getD x.2 x_3 Pl.dR).2.1.length - x' < (List.getD x.2 x_3 Pl.dR).2.1.length - x_6 ∧ ((0 : Nat) = (0 : Nat) ∧ (0 : Nat) = (0 : Nat) ∧ (0 : Nat) = (0 : Nat) ∧ Is (mrows x.2) (mrows x.2) ∧ (↑(List.length x.2) : Int) = (↑(List.length x.2) : Int) ∧ (↑x_3 : Int) = (↑x_3 : Int) ∧ Is (rats (List.getD x.2 x_3 Pl.dR).2.1) (rats (List.getD x.2 x_3 Pl.dR).2.1) ∧ (↑(List.getD x.2 x_3 Pl.dR).2.1.length : Int) = (↑(List.getD x.2 x_3 Pl.dR).2.1.length : Int) ∧ IntKind.i64.wrap ((↑x_6 : Int) + (1 : Int)) = (↑x' : Int) ∧ True) ∧ (Is (syms x.1) (syms x.1) ∧ True) ∧ (Is (mrows x.2) (mrows x.2) ∧ True) ∧ ((Pl.symOf x.1 (List.getD x.2 x_3 Pl.dR).1).1 = (Pl.symOf x.1 (List.getD x.2 x_3 Pl.dR).1).1 ∧ Is (ints (Pl.symOf x.1 (List.getD x.2 x_3 Pl.dR).1).2.1)
 (ints (Pl.symOf x.1 (List.getD x.2 x_3 Pl.dR).1).2.1) ∧ (Pl.symOf x.1 (List.getD x.2 x_3 Pl.dR).1).2.2 =
 (Pl.symOf x.1 (List.getD x.2 x_3 Pl.dR).1).2.2 ∧ True) ∧ True))
 (Exists fun (x' : Nat) =>
 (x' ≤ List.length x.2 ∧ Pl.modelOk x.1 x.2 = (List.drop x' x.2).all (Pl.rowFits x.1) ∧ Pl.mL Option.none x.2 = true) ∧ List.length x.2 - x' < List.length x.2 - x_3 ∧ ((0 : Nat) = (0 : Nat) ∧ (0 : Nat) = (0 : Nat) ∧ Is (mrows x.2) (mrows x.2) ∧ (↑(List.length x.2) : Int) = (↑(List.length x.2) : Int) ∧ IntKind.i64.wrap ((↑x_3 : Int) + (1 : Int)) = (↑x' : Int) ∧ True) ∧ (Is (syms x.1) (syms x.1) ∧ True) ∧ (Is (mrows x.2) (mrows x.2) ∧ True) ∧ True)))))
 (true = Pl.modelOk x.1 x.2)))) = Goal Tryz.prog [K_iSigOk, K_iModel, K_symbol, K_suits] (A_iModelOk x.1 x.2) K_iModelOk.1 K_iModelOk.2 (x) := by kernel_rfl

end Cg

/-
  What is left to show of each function's code, printed by a program: Model. No condition.
-/
set_option maxRecDepth 100000
set_option linter.unusedVariables false
namespace Cg
open Go Go.Proofs
theorem vc_l7Rats (x : List Pl.Rt × List Pl.Rt) : (condP ((↑x.1.length : Int) != (↑x.2.length : Int)) (false = decide (x.1 = x.2))
 ((∃ x_1 : Nat,
 (x_1 ≤ x.1.length ∧ x.1.length = x.2.length ∧ (x.1 = x.2 ↔ List.drop x_1 x.1 = List.drop x_1 x.2)) ∧ (Is (rats x.1) (rats x.1) ∧ Is (rats x.2) (rats x.2) ∧ (0 : Int) = (↑x_1 : Int) ∧ True) ∧ True) ∧ ∀ (x_1 : Nat),
 x_1 ≤ x.1.length ∧ x.1.length = x.2.length ∧ (x.1 = x.2 ↔ List.drop x_1 x.1 = List.drop x_1 x.2) →
 condP (decide ((↑x_1 : Int) < (↑x.1.length : Int)))
 (((0 : Int) ≤ (↑x_1 : Int) ∧ (↑x_1 : Int) < (↑x.1.length : Int)) ∧ x_1 < x.1.length ∧ ((0 : Int) ≤ (↑x_1 : Int) ∧ (↑x_1 : Int) < (↑x.2.length : Int)) ∧ x_1 < x.2.length ∧ condP (!((x.1.getD x_1 Pl.dQ).1 == (x.2.getD x_1 Pl.dQ).1 && (x.1.getD x_1 Pl.dQ).2 == (x.2.getD x_1 Pl.dQ).2)) (false = decide (x.1 = x.2))
 (Exists fun (x' : Nat) =>
 (x' ≤ x.1.length ∧ x.1.length = x.2.length ∧ (x.1 = x.2 ↔ List.drop x' x.1 = List.drop x' x.2)) ∧ x.1.length - x' < x.1.length - x_1 ∧ (Is (rats x.1) (rats x.1) ∧ Is (rats x.2) (rats x.2) ∧ IntKind.i64.wrap ((↑x_1 : Int) + (1 : Int)) = (↑x' : Int) ∧ True) ∧ True))
 (true = decide (x.1 = x.2)))) = Goal Tryz.prog [] (A_l7Rats x.1 x.2) K_l7Rats.1 K_l7Rats.2 (x) := by kernel_rfl

end Cg

/-
  What is left to show of each function's code, printed by a program: Tsort. No condition.
-/
set_option maxRecDepth 100000
set_option linter.unusedVariables false
namespace Cg
open Go Go.Proofs
theorem vc_l4Shape0 (x : Pl.TP) : (false = Pl.shape (0 : Nat) (Pl.Tree.mk x.1 x.2)) = Goal Tryz.prog [K_sNameOk] ([]) (K_l4Shape 0).1 (K_l4Shape 0).2 (x) := by kernel_rfl

theorem vc_l4Shape (n : Nat) (x : Pl.TP) : (∃ x_1 : ByteArray,
 (x.1 = x_1 ∧ True) ∧ x_1.size ≤ (1048576 : Nat) ∧ condP (!Pl.nameOk x_1) (false = Pl.shape (n + (1 : Nat)) (Pl.Tree.mk x.1 x.2))
 (condP (decide ((↑x.2.length : Int) > (2 : Int))) (false = Pl.shape (n + (1 : Nat)) (Pl.Tree.mk x.1 x.2))
 ((∃ x_2 : Nat,
 (x_2 ≤ x.2.length ∧ Pl.shape (n + (1 : Nat)) (Pl.Tree.mk x.1 x.2) = (List.drop x_2 x.2).all (Pl.shape n)) ∧ ((↑(n + (1 : Nat)) : Int) = (↑(n + (1 : Nat)) : Int) ∧ (0 : Nat) = (0 : Nat) ∧ (0 : Int) = (↑x_2 : Int) ∧ True) ∧ (x.1 = x.1 ∧ Is (terms x.2) (terms x.2) ∧ True) ∧ True) ∧ ∀ (x_2 : Nat),
 x_2 ≤ x.2.length ∧ Pl.shape (n + (1 : Nat)) (Pl.Tree.mk x.1 x.2) = (List.drop x_2 x.2).all (Pl.shape n) →
 condP (decide ((↑x_2 : Int) < (↑x.2.length : Int)))
 (((0 : Int) ≤ (↑x_2 : Int) ∧ (↑x_2 : Int) < (↑x.2.length : Int)) ∧ x_2 < x.2.length ∧ ∃ x_3 : Pl.TP,
 ((Pl.Tree.val (x.2.getD x_2 Pl.dT) = x_3.1 ∧ Is (kidsT (x.2.getD x_2 Pl.dT)) (terms x_3.2) ∧ True) ∧ IntKind.i64.wrap ((↑(n + (1 : Nat)) : Int) - (1 : Int)) = (↑n : Int) ∧ True) ∧ (SmT (Pl.Tree.mk x_3.1 x_3.2) ∧ n ≤ (10 : Nat)) ∧ condP (!Pl.shape n (Pl.Tree.mk x_3.1 x_3.2)) (false = Pl.shape (n + (1 : Nat)) (Pl.Tree.mk x.1 x.2))
 (Exists fun (x' : Nat) =>
 (x' ≤ x.2.length ∧ Pl.shape (n + (1 : Nat)) (Pl.Tree.mk x.1 x.2) = (List.drop x' x.2).all (Pl.shape n)) ∧ x.2.length - x' < x.2.length - x_2 ∧ ((↑(n + (1 : Nat)) : Int) = (↑(n + (1 : Nat)) : Int) ∧ (0 : Nat) = (0 : Nat) ∧ IntKind.i64.wrap ((↑x_2 : Int) + (1 : Int)) = (↑x' : Int) ∧ True) ∧ (x.1 = x.1 ∧ Is (terms x.2) (terms x.2) ∧ True) ∧ True))
 (true = Pl.shape (n + (1 : Nat)) (Pl.Tree.mk x.1 x.2))))) = Goal Tryz.prog [K_sNameOk, (K_l4Shape n)] (A_l4Shape n x.1 x.2) (K_l4Shape (n + 1)).1 (K_l4Shape (n + 1)).2 (x) := by kernel_rfl

theorem vc_l4Many0 (x : Pl.TP) : ((∃ x_1 : Unit,
 True ∧ ((↑(0 : Nat) : Int) = (0 : Int) ∧ (0 : Nat) = (0 : Nat) ∧ (1 : Int) = (1 : Int) ∧ (0 : Int) = (0 : Int) ∧ True) ∧ (x.1 = x.1 ∧ Is (terms x.2) (terms x.2) ∧ True) ∧ True) ∧ ∀ (x_1 : Unit),
 True →
 condP (decide ((0 : Int) < (↑x.2.length : Int))) ((1 : Int) = (↑(Pl.manyD (0 : Nat) (Pl.Tree.mk x.1 x.2)) : Int))
 ((1 : Int) = (↑(Pl.manyD (0 : Nat) (Pl.Tree.mk x.1 x.2)) : Int))) = Goal Tryz.prog [] (A_l4Many0 x.1 x.2) (K_l4Many 0).1 (K_l4Many 0).2 (x) := by kernel_rfl

theorem vc_l4Many (n : Nat) (x : Pl.TP) : ((∃ x_1 : Nat,
 x_1 ≤ x.2.length ∧ ((↑(n + (1 : Nat)) : Int) = (↑(n + (1 : Nat)) : Int) ∧ (0 : Nat) = (0 : Nat) ∧ (1 : Int) = (↑((1 : Nat) + Pl.sumN (Pl.manyD n) (List.take x_1 x.2)) : Int) ∧ (0 : Int) = (↑x_1 : Int) ∧ True) ∧ (x.1 = x.1 ∧ Is (terms x.2) (terms x.2) ∧ True) ∧ True) ∧ ∀ (x_1 : Nat),
 x_1 ≤ x.2.length →
 condP (decide ((↑x_1 : Int) < (↑x.2.length : Int)))
 (condP (decide ((↑(n + (1 : Nat)) : Int) > (0 : Int)))
 (((0 : Int) ≤ (↑x_1 : Int) ∧ (↑x_1 : Int) < (↑x.2.length : Int)) ∧ x_1 < x.2.length ∧ ∃ x_2 : Pl.TP,
 ((Pl.Tree.val (x.2.getD x_1 Pl.dT) = x_2.1 ∧ Is (kidsT (x.2.getD x_1 Pl.dT)) (terms x_2.2) ∧ True) ∧ IntKind.i64.wrap ((↑(n + (1 : Nat)) : Int) - (1 : Int)) = (↑n : Int) ∧ True) ∧ (SmT (Pl.Tree.mk x_2.1 x_2.2) ∧ n ≤ (10 : Nat)) ∧ Exists fun (x' : Nat) =>
 x' ≤ x.2.length ∧ x.2.length - x' < x.2.length - x_1 ∧ ((↑(n + (1 : Nat)) : Int) = (↑(n + (1 : Nat)) : Int) ∧ (0 : Nat) = (0 : Nat) ∧ IntKind.i64.wrap ((↑((1 : Nat) + Pl.sumN (Pl.manyD n) (List.take x_1 x.2)) : Int) + (↑(Pl.manyD n (Pl.Tree.mk x_2.1 x_2.2)) : Int)) =
 (↑((1 : Nat) + Pl.sumN (Pl.manyD n) (List.take x' x.2)) : Int) ∧ IntKind.i64.wrap ((↑x_1 : Int) + (1 : Int)) = (↑x' : Int) ∧ True) ∧ (x.1 = x.1 ∧ Is (terms x.2) (terms x.2) ∧ True) ∧ True)
 ((↑((1 : Nat) + Pl.sumN (Pl.manyD n) (List.take x_1 x.2)) : Int) = (↑(Pl.manyD (n + (1 : Nat)) (Pl.Tree.mk x.1 x.2)) : Int)))
 ((↑((1 : Nat) + Pl.sumN (Pl.manyD n) (List.take x_1 x.2)) : Int) = (↑(Pl.manyD (n + (1 : Nat)) (Pl.Tree.mk x.1 x.2)) : Int))) = Goal Tryz.prog [(K_l4Many n)] (A_l4Many n x.1 x.2) (K_l4Many (n + 1)).1 (K_l4Many (n + 1)).2 (x) := by kernel_rfl

theorem vc_l4Right (a : ByteArray) (b : List Pl.Tm) : (∃ x : Pl.TP,
 ((a = x.1 ∧ Is (terms b) (terms x.2) ∧ True) ∧ (4 : Int) = (↑(4 : Nat) : Int) ∧ True) ∧ (SmT (Pl.Tree.mk x.1 x.2) ∧ (4 : Nat) ≤ (10 : Nat)) ∧ condP (Pl.shape (4 : Nat) (Pl.Tree.mk x.1 x.2))
 (∃ x : Pl.TP,
 ((a = x.1 ∧ Is (terms b) (terms x.2) ∧ True) ∧ (4 : Int) = (↑(4 : Nat) : Int) ∧ True) ∧ (SmT (Pl.Tree.mk x.1 x.2) ∧ (4 : Nat) ≤ (10 : Nat)) ∧ decide ((↑(Pl.manyD (4 : Nat) (Pl.Tree.mk x.1 x.2)) : Int) ≤ (12 : Int)) = Pl.right (Pl.Tree.mk a b))
 (false = Pl.right (Pl.Tree.mk a b))) = Goal Tryz.prog [(K_l4Shape 4), (K_l4Many 4)] ([]) K_l4Right.1 K_l4Right.2 ((a, b)) := by kernel_rfl

theorem vc_l4Find (s : Pl.Sig) (nm : ByteArray) : ((∃ x : Nat,
 (x ≤ List.length s ∧ Pl.find s nm = Pl.find (List.drop x s) nm) ∧ (nm = nm ∧ (0 : Nat) = (0 : Nat) ∧ (0 : Nat) = (0 : Nat) ∧ (0 : Int) = (↑x : Int) ∧ True) ∧ (Is (syms s) (syms s) ∧ True) ∧ ({ data := #[] } = ByteArray.empty ∧ Is (AV.lit (0 : Nat) (1 : Nat) fun (x x_1 : Nat) => AV.any) nilA ∧ (0 : Int) = (0 : Int) ∧ True) ∧ True) ∧ ∀ (x : Nat),
 x ≤ List.length s ∧ Pl.find s nm = Pl.find (List.drop x s) nm →
 condP (decide ((↑x : Int) < (↑(List.length s) : Int)))
 (((0 : Int) ≤ (↑x : Int) ∧ (↑x : Int) < (↑(List.length s) : Int)) ∧ x < List.length s ∧ condP ((List.getD s x Pl.dY).1.toList == nm.toList)
 (((0 : Int) ≤ (↑x : Int) ∧ (↑x : Int) < (↑(List.length s) : Int)) ∧ x < List.length s ∧ ((List.getD s x Pl.dY).1 = (Pl.symOf s nm).1 ∧ Is (ints (List.getD s x Pl.dY).2.1) (ints (Pl.symOf s nm).2.1) ∧ (List.getD s x Pl.dY).2.2 = (Pl.symOf s nm).2.2 ∧ True) ∧ true = (Pl.find s nm).isSome ∧ True)
 (Exists fun (x' : Nat) =>
 (x' ≤ List.length s ∧ Pl.find s nm = Pl.find (List.drop x' s) nm) ∧ List.length s - x' < List.length s - x ∧ (nm = nm ∧ (0 : Nat) = (0 : Nat) ∧ (0 : Nat) = (0 : Nat) ∧ IntKind.i64.wrap ((↑x : Int) + (1 : Int)) = (↑x' : Int) ∧ True) ∧ (Is (syms s) (syms s) ∧ True) ∧ (ByteArray.empty = ByteArray.empty ∧ Is (AV.lit (0 : Nat) (1 : Nat) fun (x x_1 : Nat) => AV.any) nilA ∧ (0 : Int) = (0 : Int) ∧ True) ∧ True))
 (({ data := #[] } = (Pl.symOf s nm).1 ∧ Is (AV.lit (0 : Nat) (1 : Nat) fun (x x_1 : Nat) => AV.any) (ints (Pl.symOf s nm).2.1) ∧ (0 : Int) = (Pl.symOf s nm).2.2 ∧ True) ∧ false = (Pl.find s nm).isSome ∧ True)) = Goal Tryz.prog [] (A_l4Find s nm) K_l4Find.1 K_l4Find.2 ((s, nm)) := by kernel_rfl

theorem vc_symbol (s : Pl.Sig) (nm : ByteArray) : ((∃ x : Nat,
 (x ≤ List.length s ∧ Pl.find s nm = Pl.find (List.drop x s) nm) ∧ (nm = nm ∧ (0 : Nat) = (0 : Nat) ∧ (0 : Nat) = (0 : Nat) ∧ Is (syms s) (syms s) ∧ (↑(List.length s) : Int) = (↑(List.length s) : Int) ∧ (0 : Int) = (↑x : Int) ∧ True) ∧ (Is (syms s) (syms s) ∧ True) ∧ ({ data := #[] } = ByteArray.empty ∧ Is (AV.lit (0 : Nat) (1 : Nat) fun (x x_1 : Nat) => AV.any) nilA ∧ (0 : Int) = (0 : Int) ∧ True) ∧ True) ∧ ∀ (x : Nat),
 x ≤ List.length s ∧ Pl.find s nm = Pl.find (List.drop x s) nm →
 condP (decide ((↑x : Int) < (↑(List.length s) : Int)))
 (((0 : Int) ≤ (↑x : Int) ∧ (↑x : Int) < (↑(List.length s) : Int)) ∧ x < List.length s ∧ condP ((List.getD s x Pl.dY).1.toList == nm.toList)
 (((List.getD s x Pl.dY).1 = (Pl.symOf s nm).1 ∧ Is (ints (List.getD s x Pl.dY).2.1) (ints (Pl.symOf s nm).2.1) ∧ (List.getD s x Pl.dY).2.2 = (Pl.symOf s nm).2.2 ∧ True) ∧ true = (Pl.find s nm).isSome ∧ True)
 (Exists fun (x' : Nat) =>
 (x' ≤ List.length s ∧ Pl.find s nm = Pl.find (List.drop x' s) nm) ∧ List.length s - x' < List.length s - x ∧ (nm = nm ∧ (0 : Nat) = (0 : Nat) ∧ (0 : Nat) = (0 : Nat) ∧ Is (syms s) (syms s) ∧ (↑(List.length s) : Int) = (↑(List.length s) : Int) ∧ IntKind.i64.wrap ((↑x : Int) + (1 : Int)) = (↑x' : Int) ∧ True) ∧ (Is (syms s) (syms s) ∧ True) ∧ (ByteArray.empty = ByteArray.empty ∧ Is (AV.lit (0 : Nat) (1 : Nat) fun (x x_1 : Nat) => AV.any) nilA ∧ (0 : Int) = (0 : Int) ∧ True) ∧ True))
 (({ data := #[] } = (Pl.symOf s nm).1 ∧ Is (AV.lit (0 : Nat) (1 : Nat) fun (x x_1 : Nat) => AV.any) (ints (Pl.symOf s nm).2.1) ∧ (0 : Int) = (Pl.symOf s nm).2.2 ∧ True) ∧ false = (Pl.find s nm).isSome ∧ True)) = Goal Tryz.prog [] (A_symbol s nm) K_symbol.1 K_symbol.2 ((s, nm)) := by kernel_rfl

theorem vc_l4Of (n : Nat) (x : Pl.Sig × Pl.TP) : (∃ x_1 : Pl.Sig × ByteArray,
 ((Is (syms x.1) (syms x_1.1) ∧ True) ∧ x.2.1 = x_1.2 ∧ True) ∧ SmG x_1.1 ∧ condP (!(Pl.find x_1.1 x_1.2).isSome) ((-1 : Int) = (Pl.sortT x.1 (Pl.Tree.mk x.2.1 x.2.2)).getD (-1 : Int))
 (condP ((↑(Pl.symOf x_1.1 x_1.2).2.1.length : Int) != (↑x.2.2.length : Int)) ((-1 : Int) = (Pl.sortT x.1 (Pl.Tree.mk x.2.1 x.2.2)).getD (-1 : Int))
 ((∃ x_2 : Nat,
 (x_2 ≤ x.2.2.length ∧ (Pl.symOf x.1 x.2.1).2.1.length = x.2.2.length ∧ (Pl.find x.1 x.2.1).isSome = true ∧ Pl.sortL x.1 x.2.2 (Pl.symOf x.1 x.2.1).2.1 = Pl.sortL x.1 (List.drop x_2 x.2.2) (List.drop x_2 (Pl.symOf x.1 x.2.1).2.1)) ∧ ((0 : Nat) = (0 : Nat) ∧ (0 : Nat) = (0 : Nat) ∧ (0 : Nat) = (0 : Nat) ∧ (0 : Int) = (↑x_2 : Int) ∧ True) ∧ (Is (syms x.1) (syms x.1) ∧ True) ∧ (x.2.1 = x.2.1 ∧ Is (terms x.2.2) (terms x.2.2) ∧ True) ∧ ((Pl.symOf x_1.1 x_1.2).1 = (Pl.symOf x.1 x.2.1).1 ∧ Is (ints (Pl.symOf x_1.1 x_1.2).2.1) (ints (Pl.symOf x.1 x.2.1).2.1) ∧ (Pl.symOf x_1.1 x_1.2).2.2 = (Pl.symOf x.1 x.2.1).2.2 ∧ True) ∧ True) ∧ ∀ (x_2 : Nat),
 x_2 ≤ x.2.2.length ∧ (Pl.symOf x.1 x.2.1).2.1.length = x.2.2.length ∧ (Pl.find x.1 x.2.1).isSome = true ∧ Pl.sortL x.1 x.2.2 (Pl.symOf x.1 x.2.1).2.1 = Pl.sortL x.1 (List.drop x_2 x.2.2) (List.drop x_2 (Pl.symOf x.1 x.2.1).2.1) →
 condP (decide ((↑x_2 : Int) < (↑x.2.2.length : Int)))
 (((0 : Int) ≤ (↑x_2 : Int) ∧ (↑x_2 : Int) < (↑x.2.2.length : Int)) ∧ x_2 < x.2.2.length ∧ ∃ x_3 : Pl.Sig × Pl.TP,
 ((Is (syms x.1) (syms x_3.1) ∧ True) ∧ (Pl.Tree.val (x.2.2.getD x_2 Pl.dT) = x_3.2.1 ∧ Is (kidsT (x.2.2.getD x_2 Pl.dT)) (terms x_3.2.2) ∧ True) ∧ True) ∧ ((Pl.sigOk x_3.1 = true ∧ SmG x_3.1 ∧ SmT (Pl.Tree.mk x_3.2.1 x_3.2.2)) ∧ Pl.manyL x_3.2.2 < n) ∧ ((0 : Int) ≤ (↑x_2 : Int) ∧ (↑x_2 : Int) < (↑(Pl.symOf x.1 x.2.1).2.1.length : Int)) ∧ x_2 < (Pl.symOf x.1 x.2.1).2.1.length ∧ condP ((Pl.sortT x_3.1 (Pl.Tree.mk x_3.2.1 x_3.2.2)).getD (-1 : Int) != (Pl.symOf x.1 x.2.1).2.1.getD x_2 (0 : Int))
 ((-1 : Int) = (Pl.sortT x.1 (Pl.Tree.mk x.2.1 x.2.2)).getD (-1 : Int))
 (Exists fun (x' : Nat) =>
 (x' ≤ x.2.2.length ∧ (Pl.symOf x.1 x.2.1).2.1.length = x.2.2.length ∧ (Pl.find x.1 x.2.1).isSome = true ∧ Pl.sortL x.1 x.2.2 (Pl.symOf x.1 x.2.1).2.1 = Pl.sortL x.1 (List.drop x' x.2.2) (List.drop x' (Pl.symOf x.1 x.2.1).2.1)) ∧ x.2.2.length - x' < x.2.2.length - x_2 ∧ ((0 : Nat) = (0 : Nat) ∧ (0 : Nat) = (0 : Nat) ∧ (0 : Nat) = (0 : Nat) ∧ IntKind.i64.wrap ((↑x_2 : Int) + (1 : Int)) = (↑x' : Int) ∧ True) ∧ (Is (syms x.1) (syms x.1) ∧ True) ∧ (x.2.1 = x.2.1 ∧ Is (terms x.2.2) (terms x.2.2) ∧ True) ∧ ((Pl.symOf x.1 x.2.1).1 = (Pl.symOf x.1 x.2.1).1 ∧ Is (ints (Pl.symOf x.1 x.2.1).2.1) (ints (Pl.symOf x.1 x.2.1).2.1) ∧ (Pl.symOf x.1 x.2.1).2.2 = (Pl.symOf x.1 x.2.1).2.2 ∧ True) ∧ True))
 ((Pl.symOf x.1 x.2.1).2.2 = (Pl.sortT x.1 (Pl.Tree.mk x.2.1 x.2.2)).getD (-1 : Int))))) = Goal Tryz.prog [K_l4Find, (K_l4Of n)] (A_l4Of x.1 x.2.1 x.2.2) (K_l4Of (n + 1)).1 (K_l4Of (n + 1)).2 (x) := by kernel_rfl

theorem vc_sortOf (n : Nat) (x : Pl.Sig × Pl.TP) : (∃ x_1 : Pl.Sig × ByteArray,
 ((Is (syms x.1) (syms x_1.1) ∧ True) ∧ x.2.1 = x_1.2 ∧ True) ∧ SmG x_1.1 ∧ condP (!(Pl.find x_1.1 x_1.2).isSome)
 ((0 : Int) = (Pl.sortT x.1 (Pl.Tree.mk x.2.1 x.2.2)).getD (0 : Int) ∧ false = (Pl.sortT x.1 (Pl.Tree.mk x.2.1 x.2.2)).isSome ∧ True)
 (condP ((↑(Pl.symOf x_1.1 x_1.2).2.1.length : Int) != (↑x.2.2.length : Int))
 ((0 : Int) = (Pl.sortT x.1 (Pl.Tree.mk x.2.1 x.2.2)).getD (0 : Int) ∧ false = (Pl.sortT x.1 (Pl.Tree.mk x.2.1 x.2.2)).isSome ∧ True)
 ((∃ x_2 : Nat,
 (x_2 ≤ x.2.2.length ∧ (Pl.symOf x.1 x.2.1).2.1.length = x.2.2.length ∧ (Pl.find x.1 x.2.1).isSome = true ∧ Pl.sortL x.1 x.2.2 (Pl.symOf x.1 x.2.1).2.1 = Pl.sortL x.1 (List.drop x_2 x.2.2) (List.drop x_2 (Pl.symOf x.1 x.2.1).2.1)) ∧ ((0 : Nat) = (0 : Nat) ∧ (0 : Nat) = (0 : Nat) ∧ (0 : Nat) = (0 : Nat) ∧ Is (terms x.2.2) (terms x.2.2) ∧ (↑x.2.2.length : Int) = (↑x.2.2.length : Int) ∧ (0 : Int) = (↑x_2 : Int) ∧ True) ∧ (Is (syms x.1) (syms x.1) ∧ True) ∧ (x.2.1 = x.2.1 ∧ Is (terms x.2.2) (terms x.2.2) ∧ True) ∧ ((Pl.symOf x_1.1 x_1.2).1 = (Pl.symOf x.1 x.2.1).1 ∧ Is (ints (Pl.symOf x_1.1 x_1.2).2.1) (ints (Pl.symOf x.1 x.2.1).2.1) ∧ (Pl.symOf x_1.1 x_1.2).2.2 = (Pl.symOf x.1 x.2.1).2.2 ∧ True) ∧ True) ∧ ∀ (x_2 : Nat),
 x_2 ≤ x.2.2.length ∧ (Pl.symOf x.1 x.2.1).2.1.length = x.2.2.length ∧ (Pl.find x.1 x.2.1).isSome = true ∧ Pl.sortL x.1 x.2.2 (Pl.symOf x.1 x.2.1).2.1 = Pl.sortL x.1 (List.drop x_2 x.2.2) (List.drop x_2 (Pl.symOf x.1 x.2.1).2.1) →
 condP (decide ((↑x_2 : Int) < (↑x.2.2.length : Int)))
 (((0 : Int) ≤ (↑x_2 : Int) ∧ (↑x_2 : Int) < (↑x.2.2.length : Int)) ∧ x_2 < x.2.2.length ∧ ∃ x_3 : Pl.Sig × Pl.TP,
 ((Is (syms x.1) (syms x_3.1) ∧ True) ∧ (Pl.Tree.val (x.2.2.getD x_2 Pl.dT) = x_3.2.1 ∧ Is (kidsT (x.2.2.getD x_2 Pl.dT)) (terms x_3.2.2) ∧ True) ∧ True) ∧ ((Pl.sigOk x_3.1 = true ∧ SmG x_3.1 ∧ SmT (Pl.Tree.mk x_3.2.1 x_3.2.2)) ∧ Pl.manyL x_3.2.2 < n) ∧ condP (!(Pl.sortT x_3.1 (Pl.Tree.mk x_3.2.1 x_3.2.2)).isSome)
 ((0 : Int) = (Pl.sortT x.1 (Pl.Tree.mk x.2.1 x.2.2)).getD (0 : Int) ∧ false = (Pl.sortT x.1 (Pl.Tree.mk x.2.1 x.2.2)).isSome ∧ True)
 (((0 : Int) ≤ (↑x_2 : Int) ∧ (↑x_2 : Int) < (↑(Pl.symOf x.1 x.2.1).2.1.length : Int)) ∧ x_2 < (Pl.symOf x.1 x.2.1).2.1.length ∧ condP ((Pl.sortT x_3.1 (Pl.Tree.mk x_3.2.1 x_3.2.2)).getD (0 : Int) != (Pl.symOf x.1 x.2.1).2.1.getD x_2 (0 : Int))
 ((0 : Int) = (Pl.sortT x.1 (Pl.Tree.mk x.2.1 x.2.2)).getD (0 : Int) ∧ false = (Pl.sortT x.1 (Pl.Tree.mk x.2.1 x.2.2)).isSome ∧ True)
 (Exists fun (x' : Nat) =>
 (x' ≤ x.2.2.length ∧ (Pl.symOf x.1 x.2.1).2.1.length = x.2.2.length ∧ (Pl.find x.1 x.2.1).isSome = true ∧ Pl.sortL x.1 x.2.2 (Pl.symOf x.1 x.2.1).2.1 = Pl.sortL x.1 (List.drop x' x.2.2) (List.drop x' (Pl.symOf x.1 x.2.1).2.1)) ∧ x.2.2.length - x' < x.2.2.length - x_2 ∧ ((0 : Nat) = (0 : Nat) ∧ (0 : Nat) = (0 : Nat) ∧ (0 : Nat) = (0 : Nat) ∧ Is (terms x.2.2) (terms x.2.2) ∧ (↑x.2.2.length : Int) = (↑x.2.2.length : Int) ∧ IntKind.i64.wrap ((↑x_2 : Int) + (1 : Int)) = (↑x' : Int) ∧ True) ∧ (Is (syms x.1) (syms x.1) ∧ True) ∧ (x.2.1 = x.2.1 ∧ Is (terms x.2.2) (terms x.2.2) ∧ True) ∧ ((Pl.symOf x.1 x.2.1).1 = (Pl.symOf x.1 x.2.1).1 ∧ Is (ints (Pl.symOf x.1 x.2.1).2.1) (ints (Pl.symOf x.1 x.2.1).2.1) ∧ (Pl.symOf x.1 x.2.1).2.2 = (Pl.symOf x.1 x.2.1).2.2 ∧ True) ∧ True)))
 ((Pl.symOf x.1 x.2.1).2.2 = (Pl.sortT x.1 (Pl.Tree.mk x.2.1 x.2.2)).getD (0 : Int) ∧ true = (Pl.sortT x.1 (Pl.Tree.mk x.2.1 x.2.2)).isSome ∧ True)))) = Goal Tryz.prog [K_symbol, (K_sortOf n)] (A_sortOf x.1 x.2.1 x.2.2) (K_sortOf (n + 1)).1 (K_sortOf (n + 1)).2 (x) := by kernel_rfl

theorem vc_iTermSort (s : Pl.Sig) (a : ByteArray) (b : List Pl.Tm) : (∃ x : Pl.Sig,
 ((Is (syms s) (syms x) ∧ True) ∧ True) ∧ SmG x ∧ condP (!Pl.sigOk x) ((0 : Int) = (Pl.termSort s (Pl.Tree.mk a b)).1 ∧ false = (Pl.termSort s (Pl.Tree.mk a b)).2 ∧ True)
 (∃ x : Pl.TP,
 ((a = x.1 ∧ Is (terms b) (terms x.2) ∧ True) ∧ True) ∧ SmT (Pl.Tree.mk x.1 x.2) ∧ condP (!Pl.right (Pl.Tree.mk x.1 x.2)) ((0 : Int) = (Pl.termSort s (Pl.Tree.mk a b)).1 ∧ false = (Pl.termSort s (Pl.Tree.mk a b)).2 ∧ True)
 (∃ x : Pl.Sig × Pl.TP,
 ((Is (syms s) (syms x.1) ∧ True) ∧ (a = x.2.1 ∧ Is (terms b) (terms x.2.2) ∧ True) ∧ True) ∧ (Pl.sigOk x.1 = true ∧ SmG x.1 ∧ SmT (Pl.Tree.mk x.2.1 x.2.2)) ∧ (Pl.sortT x.1 (Pl.Tree.mk x.2.1 x.2.2)).getD (0 : Int) = (Pl.termSort s (Pl.Tree.mk a b)).1 ∧ (Pl.sortT x.1 (Pl.Tree.mk x.2.1 x.2.2)).isSome = (Pl.termSort s (Pl.Tree.mk a b)).2 ∧ True))) = Goal Tryz.prog [K_iSigOk, K_isTerm, K_sOf] ([]) K_iTermSort.1 K_iTermSort.2 ((s, (a, b))) := by kernel_rfl

theorem vc_termSize0 (x : Pl.TP) : (∃ x_1 : ByteArray,
 (x.1 = x_1 ∧ True) ∧ x_1.size ≤ (1048576 : Nat) ∧ condP (!Pl.nameOk x_1) ((13 : Int) = (↑(Pl.tsz (0 : Nat) (Pl.Tree.mk x.1 x.2)) : Int))
 (condP (decide ((↑x.2.length : Int) > (2 : Int))) ((13 : Int) = (↑(Pl.tsz (0 : Nat) (Pl.Tree.mk x.1 x.2)) : Int))
 ((13 : Int) = (↑(Pl.tsz (0 : Nat) (Pl.Tree.mk x.1 x.2)) : Int)))) = Goal Tryz.prog [K_iNameOk] ([]) (K_termSize 0).1 (K_termSize 0).2 (x) := by kernel_rfl

theorem vc_termSize (n : Nat) (x : Pl.TP) : (∃ x_1 : ByteArray,
 (x.1 = x_1 ∧ True) ∧ x_1.size ≤ (1048576 : Nat) ∧ condP (!Pl.nameOk x_1) ((13 : Int) = (↑(Pl.tsz (n + (1 : Nat)) (Pl.Tree.mk x.1 x.2)) : Int))
 (condP (decide ((↑x.2.length : Int) > (2 : Int))) ((13 : Int) = (↑(Pl.tsz (n + (1 : Nat)) (Pl.Tree.mk x.1 x.2)) : Int))
 (condP (decide ((5 : Int) - (↑(n + (1 : Nat)) : Int) > (4 : Int))) ((13 : Int) = (↑(Pl.tsz (n + (1 : Nat)) (Pl.Tree.mk x.1 x.2)) : Int))
 ((∃ x_2 : Nat,
 (x_2 ≤ x.2.length ∧ x.2.length ≤ (2 : Nat)) ∧ ((5 : Int) - (↑(n + (1 : Nat)) : Int) = (5 : Int) - (↑(n + (1 : Nat)) : Int) ∧ (0 : Nat) = (0 : Nat) ∧ (1 : Int) = (↑((1 : Nat) + Pl.sumN (Pl.tsz n) (List.take x_2 x.2)) : Int) ∧ Is (terms x.2) (terms x.2) ∧ (↑x.2.length : Int) = (↑x.2.length : Int) ∧ (0 : Int) = (↑x_2 : Int) ∧ True) ∧ (x.1 = x.1 ∧ Is (terms x.2) (terms x.2) ∧ True) ∧ True) ∧ ∀ (x_2 : Nat),
 x_2 ≤ x.2.length ∧ x.2.length ≤ (2 : Nat) →
 condP (decide ((↑x_2 : Int) < (↑x.2.length : Int)))
 (((0 : Int) ≤ (↑x_2 : Int) ∧ (↑x_2 : Int) < (↑x.2.length : Int)) ∧ x_2 < x.2.length ∧ ∃ x_3 : Pl.TP,
 ((Pl.Tree.val (x.2.getD x_2 Pl.dT) = x_3.1 ∧ Is (kidsT (x.2.getD x_2 Pl.dT)) (terms x_3.2) ∧ True) ∧ IntKind.i64.wrap ((5 : Int) - (↑(n + (1 : Nat)) : Int) + (1 : Int)) = (5 : Int) - (↑n : Int) ∧ True) ∧ (SmT (Pl.Tree.mk x_3.1 x_3.2) ∧ n ≤ (4 : Nat)) ∧ Exists fun (x' : Nat) =>
 (x' ≤ x.2.length ∧ x.2.length ≤ (2 : Nat)) ∧ x.2.length - x' < x.2.length - x_2 ∧ ((5 : Int) - (↑(n + (1 : Nat)) : Int) = (5 : Int) - (↑(n + (1 : Nat)) : Int) ∧ (0 : Nat) = (0 : Nat) ∧ IntKind.i64.wrap ((↑((1 : Nat) + Pl.sumN (Pl.tsz n) (List.take x_2 x.2)) : Int) + (↑(Pl.tsz n (Pl.Tree.mk x_3.1 x_3.2)) : Int)) =
 (↑((1 : Nat) + Pl.sumN (Pl.tsz n) (List.take x' x.2)) : Int) ∧ Is (terms x.2) (terms x.2) ∧ (↑x.2.length : Int) = (↑x.2.length : Int) ∧ IntKind.i64.wrap ((↑x_2 : Int) + (1 : Int)) = (↑x' : Int) ∧ True) ∧ (x.1 = x.1 ∧ Is (terms x.2) (terms x.2) ∧ True) ∧ True)
 ((↑((1 : Nat) + Pl.sumN (Pl.tsz n) (List.take x_2 x.2)) : Int) = (↑(Pl.tsz (n + (1 : Nat)) (Pl.Tree.mk x.1 x.2)) : Int)))))) = Goal Tryz.prog [K_iNameOk, (K_termSize n)] (A_termSize n x.1 x.2) (K_termSize (n + 1)).1 (K_termSize (n + 1)).2 (x) := by kernel_rfl

theorem vc_isTerm (a : ByteArray) (b : List Pl.Tm) : (∃ x : Pl.TP,
 ((a = x.1 ∧ Is (terms b) (terms x.2) ∧ True) ∧ (1 : Int) = (5 : Int) - (↑(4 : Nat) : Int) ∧ True) ∧ (SmT (Pl.Tree.mk x.1 x.2) ∧ (4 : Nat) ≤ (4 : Nat)) ∧ decide ((↑(Pl.tsz (4 : Nat) (Pl.Tree.mk x.1 x.2)) : Int) ≤ (12 : Int)) = Pl.right (Pl.Tree.mk a b)) = Goal Tryz.prog [(K_termSize 4)] ([]) K_isTerm.1 K_isTerm.2 ((a, b)) := by kernel_rfl

end Cg

/-
  What is left to show of each function's code, printed by a program: Sort. No condition.
-/
set_option maxRecDepth 100000
set_option linter.unusedVariables false
namespace Cg
open Go Go.Proofs
end Cg

/-
  What is left to show of each function's code, printed by a program: Sig. No condition.
-/
set_option maxRecDepth 100000
set_option linter.unusedVariables false
namespace Cg
open Go Go.Proofs
theorem vc_sNameOk (s : ByteArray) : ((∃ x : Nat, (x ≤ s.size ∧ (Pl.bs s).all Pl.lower = (List.drop x (Pl.bs s)).all Pl.lower) ∧ (s = s ∧ (0 : Int) = (↑x : Int) ∧ True) ∧ True) ∧ ∀ (x : Nat),
 x ≤ s.size ∧ (Pl.bs s).all Pl.lower = (List.drop x (Pl.bs s)).all Pl.lower →
 condP (decide ((↑x : Int) < (↑s.size : Int)))
 (((0 : Int) ≤ (↑x : Int) ∧ (↑x : Int) < (↑s.size : Int)) ∧ condP (decide ((↑(s.data.getD x (0 : UInt8)).toNat : Int) < (97 : Int))) (false = Pl.nameOk s)
 (((0 : Int) ≤ (↑x : Int) ∧ (↑x : Int) < (↑s.size : Int)) ∧ condP (decide ((↑(s.data.getD x (0 : UInt8)).toNat : Int) > (122 : Int))) (false = Pl.nameOk s)
 (Exists fun (x' : Nat) =>
 (x' ≤ s.size ∧ (Pl.bs s).all Pl.lower = (List.drop x' (Pl.bs s)).all Pl.lower) ∧ s.size - x' < s.size - x ∧ (s = s ∧ IntKind.i64.wrap ((↑x : Int) + (1 : Int)) = (↑x' : Int) ∧ True) ∧ True)))
 (condP (decide ((↑s.size : Int) ≥ (1 : Int))) (decide ((↑s.size : Int) ≤ (2 : Int)) = Pl.nameOk s) (false = Pl.nameOk s))) = Goal Tryz.prog [] (A_sNameOk s) K_sNameOk.1 K_sNameOk.2 (s) := by kernel_rfl

theorem vc_iNameOk (s : ByteArray) : (∃ x : Int × Int × Int,
 ((↑s.size : Int) = x.1 ∧ (1 : Int) = x.2.1 ∧ (2 : Int) = x.2.2 ∧ True) ∧ True ∧ condP (!Pl.withinI x.1 x.2.1 x.2.2) (false = Pl.nameOk s)
 ((∃ x : Nat, (x ≤ s.size ∧ (Pl.bs s).all Pl.lower = (List.drop x (Pl.bs s)).all Pl.lower) ∧ (s = s ∧ (↑s.size : Int) = (↑s.size : Int) ∧ (0 : Int) = (↑x : Int) ∧ True) ∧ True) ∧ ∀ (x : Nat),
 x ≤ s.size ∧ (Pl.bs s).all Pl.lower = (List.drop x (Pl.bs s)).all Pl.lower →
 condP (decide ((↑x : Int) < (↑s.size : Int)))
 (((0 : Int) ≤ (↑x : Int) ∧ (↑x : Int) < (↑s.size : Int)) ∧ condP (decide ((↑(s.data.getD x (0 : UInt8)).toNat : Int) < (97 : Int))) (false = Pl.nameOk s)
 (((0 : Int) ≤ (↑x : Int) ∧ (↑x : Int) < (↑s.size : Int)) ∧ condP (decide ((↑(s.data.getD x (0 : UInt8)).toNat : Int) > (122 : Int))) (false = Pl.nameOk s)
 (Exists fun (x' : Nat) =>
 (x' ≤ s.size ∧ (Pl.bs s).all Pl.lower = (List.drop x' (Pl.bs s)).all Pl.lower) ∧ s.size - x' < s.size - x ∧ (s = s ∧ (↑s.size : Int) = (↑s.size : Int) ∧ IntKind.i64.wrap ((↑x : Int) + (1 : Int)) = (↑x' : Int) ∧ True) ∧ True)))
 (true = Pl.nameOk s))) = Goal Tryz.prog [K_within] (A_iNameOk s) K_iNameOk.1 K_iNameOk.2 (s) := by kernel_rfl

theorem vc_l4Sort (x : Int) : (condP (x == (0 : Int)) (true = Pl.isSort x) ((x == (1 : Int)) = Pl.isSort x)) = Goal Tryz.prog [] ([]) K_l4Sort.1 K_l4Sort.2 (x) := by kernel_rfl

theorem vc_isSort (x : Int) : (condP (x == (0 : Int)) (true = Pl.isSort x) ((x == (1 : Int)) = Pl.isSort x)) = Goal Tryz.prog [] ([]) K_isSort.1 K_isSort.2 (x) := by kernel_rfl

theorem vc_symok1 (x : Int) : (∃ x_1 : Int, (x = x_1 ∧ True) ∧ True ∧ (!Pl.isSort x_1) = !Pl.isSort x) = Goal Tryz.prog [K_isSort] ([]) K_symok1.1 K_symok1.2 (x) := by kernel_rfl

theorem vc_IndexSort (l : List Int) : ((∃ x : Nat,
 (x ≤ l.length ∧ Pl.idx (fun (y : Int) => !Pl.isSort y) l =
 if Pl.idx (fun (y : Int) => !Pl.isSort y) (List.drop x l) < (0 : Int) then (-1 : Int) else Pl.idx (fun (y : Int) => !Pl.isSort y) (List.drop x l) + (↑x : Int)) ∧ (Is (ints l) (ints l) ∧ True ∧ (↑l.length : Int) = (↑l.length : Int) ∧ (0 : Int) = (↑x : Int) ∧ True) ∧ True) ∧ ∀ (x : Nat),
 (x ≤ l.length ∧ Pl.idx (fun (y : Int) => !Pl.isSort y) l =
 if Pl.idx (fun (y : Int) => !Pl.isSort y) (List.drop x l) < (0 : Int) then (-1 : Int) else Pl.idx (fun (y : Int) => !Pl.isSort y) (List.drop x l) + (↑x : Int)) →
 condP (decide ((↑x : Int) < (↑l.length : Int)))
 (((0 : Int) ≤ (↑x : Int) ∧ (↑x : Int) < (↑l.length : Int)) ∧ x < l.length ∧ ∃ x_1 : Int,
 (l.getD x (0 : Int) = x_1 ∧ True) ∧ True ∧ condP (!Pl.isSort x_1) ((↑x : Int) = Pl.idx (fun (y : Int) => !Pl.isSort y) l)
 (Exists fun (x' : Nat) =>
 (x' ≤ l.length ∧ Pl.idx (fun (y : Int) => !Pl.isSort y) l =
 if Pl.idx (fun (y : Int) => !Pl.isSort y) (List.drop x' l) < (0 : Int) then (-1 : Int) else Pl.idx (fun (y : Int) => !Pl.isSort y) (List.drop x' l) + (↑x' : Int)) ∧ l.length - x' < l.length - x ∧ (Is (ints l) (ints l) ∧ True ∧ (↑l.length : Int) = (↑l.length : Int) ∧ IntKind.i64.wrap ((↑x : Int) + (1 : Int)) = (↑x' : Int) ∧ True) ∧ True))
 ((-1 : Int) = Pl.idx (fun (y : Int) => !Pl.isSort y) l)) = Goal Tryz.prog [K_symok1] (A_IndexSort l) K_IndexSort.1 K_IndexSort.2 (l) := by kernel_rfl

theorem vc_ContainsSort (l : List Int) : (∃ x : List Int, (Is (ints l) (ints x) ∧ True ∧ True) ∧ Sz x ∧ decide (Pl.idx (fun (y : Int) => !Pl.isSort y) x ≥ (0 : Int)) = l.any fun (y : Int) => !Pl.isSort y) = Goal Tryz.prog [K_IndexSort] ([]) K_ContainsSort.1 K_ContainsSort.2 (l) := by kernel_rfl

theorem vc_symok (x : Pl.Sym) : (∃ x_1 : ByteArray,
 (x.1 = x_1 ∧ True) ∧ x_1.size ≤ (1048576 : Nat) ∧ condP (Pl.nameOk x_1)
 (condP (decide ((↑x.2.1.length : Int) ≤ (2 : Int)))
 (∃ x_2 : Int,
 (x.2.2 = x_2 ∧ True) ∧ True ∧ condP (Pl.isSort x_2) (∃ x_3 : List Int, (Is (ints x.2.1) (ints x_3) ∧ True ∧ True) ∧ Sz x_3 ∧ (!x_3.any fun (y : Int) => !Pl.isSort y) = Pl.symOk x)
 (false = Pl.symOk x))
 (false = Pl.symOk x))
 (false = Pl.symOk x)) = Goal Tryz.prog [K_iNameOk, K_isSort, K_ContainsSort] ([]) K_symok.1 K_symok.2 (x) := by kernel_rfl

theorem vc_sSigOk (s : Pl.Sig) : ((∃ x : Nat,
 (x ≤ List.length s ∧ Pl.sigL Option.none s = Pl.sigL (Pl.prevS s x) (List.drop x s)) ∧ ((0 : Nat) = (0 : Nat) ∧ (0 : Int) = (↑x : Int) ∧ True) ∧ (Is (syms s) (syms s) ∧ True) ∧ True) ∧ ∀ (x : Nat),
 x ≤ List.length s ∧ Pl.sigL Option.none s = Pl.sigL (Pl.prevS s x) (List.drop x s) →
 condP (decide ((↑x : Int) < (↑(List.length s) : Int)))
 (((0 : Int) ≤ (↑x : Int) ∧ (↑x : Int) < (↑(List.length s) : Int)) ∧ x < List.length s ∧ ∃ x_1 : ByteArray,
 ((List.getD s x Pl.dY).1 = x_1 ∧ True) ∧ x_1.size ≤ (1048576 : Nat) ∧ condP (!Pl.nameOk x_1) (false = Pl.sigOk s)
 (condP (decide ((↑(List.getD s x Pl.dY).2.1.length : Int) > (2 : Int))) (false = Pl.sigOk s)
 (∃ x_2 : Int,
 ((List.getD s x Pl.dY).2.2 = x_2 ∧ True) ∧ True ∧ condP (!Pl.isSort x_2) (false = Pl.sigOk s)
 (condP (decide ((↑x : Int) > (0 : Int)))
 (((0 : Int) ≤ IntKind.i64.wrap ((↑x : Int) - (1 : Int)) ∧ IntKind.i64.wrap ((↑x : Int) - (1 : Int)) < (↑(List.length s) : Int)) ∧ (IntKind.i64.wrap ((↑x : Int) - (1 : Int))).toNat < List.length s ∧ condP (!Op.bytesLess (List.getD s (IntKind.i64.wrap ((↑x : Int) - (1 : Int))).toNat Pl.dY).1.toList (List.getD s x Pl.dY).1.toList)
 (false = Pl.sigOk s)
 ((∃ x_3 : Nat,
 (x < List.length s ∧ x_3 ≤ (List.getD s x Pl.dY).2.1.length ∧ (List.getD s x Pl.dY).2.1.all Pl.isSort = (List.drop x_3 (List.getD s x Pl.dY).2.1).all Pl.isSort ∧ (Pl.nameOk (List.getD s x Pl.dY).1 && decide ((List.getD s x Pl.dY).2.1.length ≤ (2 : Nat)) &&
 Pl.isSort (List.getD s x Pl.dY).2.2) =
 true ∧ Pl.before (Pl.prevS s x) (List.getD s x Pl.dY).1 = true) ∧ ((0 : Nat) = (0 : Nat) ∧ (↑x : Int) = (↑x : Int) ∧ (0 : Nat) = (0 : Nat) ∧ (0 : Int) = (↑x_3 : Int) ∧ True) ∧ (Is (syms s) (syms s) ∧ True) ∧ ((List.getD s x Pl.dY).1 = (List.getD s x Pl.dY).1 ∧ Is (ints (List.getD s x Pl.dY).2.1) (ints (List.getD s x Pl.dY).2.1) ∧ (List.getD s x Pl.dY).2.2 = (List.getD s x Pl.dY).2.2 ∧ True) ∧ True) ∧ ∀ (x_3 : Nat),
 x < List.length s ∧ x_3 ≤ (List.getD s x Pl.dY).2.1.length ∧ (List.getD s x Pl.dY).2.1.all Pl.isSort = (List.drop x_3 (List.getD s x Pl.dY).2.1).all Pl.isSort ∧ (Pl.nameOk (List.getD s x Pl.dY).1 && decide ((List.getD s x Pl.dY).2.1.length ≤ (2 : Nat)) &&
 Pl.isSort (List.getD s x Pl.dY).2.2) =
 true ∧ Pl.before (Pl.prevS s x) (List.getD s x Pl.dY).1 = true →
 condP (decide ((↑x_3 : Int) < (↑(List.getD s x Pl.dY).2.1.length : Int)))
 (((0 : Int) ≤ (↑x_3 : Int) ∧ (↑x_3 : Int) < (↑(List.getD s x Pl.dY).2.1.length : Int)) ∧ x_3 < (List.getD s x Pl.dY).2.1.length ∧ ∃ x_4 : Int,
 ((List.getD s x Pl.dY).2.1.getD x_3 (0 : Int) = x_4 ∧ True) ∧ True ∧ condP (!Pl.isSort x_4) (false = Pl.sigOk s)
 (Exists fun (x' : Nat) =>
 (x < List.length s ∧ x' ≤ (List.getD s x Pl.dY).2.1.length ∧ (List.getD s x Pl.dY).2.1.all Pl.isSort = (List.drop x' (List.getD s x Pl.dY).2.1).all Pl.isSort ∧ (Pl.nameOk (List.getD s x Pl.dY).1 && decide ((List.getD s x Pl.dY).2.1.length ≤ (2 : Nat)) &&
 Pl.isSort (List.getD s x Pl.dY).2.2) =
 true ∧ Pl.before (Pl.prevS s x) (List.getD s x Pl.dY).1 = true) ∧ (List.getD s x Pl.dY).2.1.length - x' < (List.getD s x Pl.dY).2.1.length - x_3 ∧ ((0 : Nat) = (0 : Nat) ∧ (↑x : Int) = (↑x : Int) ∧ (0 : Nat) = (0 : Nat) ∧ IntKind.i64.wrap ((↑x_3 : Int) + (1 : Int)) = (↑x' : Int) ∧ True) ∧ (Is (syms s) (syms s) ∧ True) ∧ ((List.getD s x Pl.dY).1 = (List.getD s x Pl.dY).1 ∧ Is (ints (List.getD s x Pl.dY).2.1) (ints (List.getD s x Pl.dY).2.1) ∧ (List.getD s x Pl.dY).2.2 = (List.getD s x Pl.dY).2.2 ∧ True) ∧ True))
 (Exists fun (x' : Nat) =>
 (x' ≤ List.length s ∧ Pl.sigL Option.none s = Pl.sigL (Pl.prevS s x') (List.drop x' s)) ∧ List.length s - x' < List.length s - x ∧ ((0 : Nat) = (0 : Nat) ∧ IntKind.i64.wrap ((↑x : Int) + (1 : Int)) = (↑x' : Int) ∧ True) ∧ (Is (syms s) (syms s) ∧ True) ∧ True)))
 ((∃ x_3 : Nat,
 (x < List.length s ∧ x_3 ≤ (List.getD s x Pl.dY).2.1.length ∧ (List.getD s x Pl.dY).2.1.all Pl.isSort = (List.drop x_3 (List.getD s x Pl.dY).2.1).all Pl.isSort ∧ (Pl.nameOk (List.getD s x Pl.dY).1 && decide ((List.getD s x Pl.dY).2.1.length ≤ (2 : Nat)) && Pl.isSort (List.getD s x Pl.dY).2.2) =
 true ∧ Pl.before (Pl.prevS s x) (List.getD s x Pl.dY).1 = true) ∧ ((0 : Nat) = (0 : Nat) ∧ (↑x : Int) = (↑x : Int) ∧ (0 : Nat) = (0 : Nat) ∧ (0 : Int) = (↑x_3 : Int) ∧ True) ∧ (Is (syms s) (syms s) ∧ True) ∧ ((List.getD s x Pl.dY).1 = (List.getD s x Pl.dY).1 ∧ Is (ints (List.getD s x Pl.dY).2.1) (ints (List.getD s x Pl.dY).2.1) ∧ (List.getD s x Pl.dY).2.2 = (List.getD s x Pl.dY).2.2 ∧ True) ∧ True) ∧ ∀ (x_3 : Nat),
 x < List.length s ∧ x_3 ≤ (List.getD s x Pl.dY).2.1.length ∧ (List.getD s x Pl.dY).2.1.all Pl.isSort = (List.drop x_3 (List.getD s x Pl.dY).2.1).all Pl.isSort ∧ (Pl.nameOk (List.getD s x Pl.dY).1 && decide ((List.getD s x Pl.dY).2.1.length ≤ (2 : Nat)) && Pl.isSort (List.getD s x Pl.dY).2.2) =
 true ∧ Pl.before (Pl.prevS s x) (List.getD s x Pl.dY).1 = true →
 condP (decide ((↑x_3 : Int) < (↑(List.getD s x Pl.dY).2.1.length : Int)))
 (((0 : Int) ≤ (↑x_3 : Int) ∧ (↑x_3 : Int) < (↑(List.getD s x Pl.dY).2.1.length : Int)) ∧ x_3 < (List.getD s x Pl.dY).2.1.length ∧ ∃ x_4 : Int,
 ((List.getD s x Pl.dY).2.1.getD x_3 (0 : Int) = x_4 ∧ True) ∧ True ∧ condP (!Pl.isSort x_4) (false = Pl.sigOk s)
 (Exists fun (x' : Nat) =>
 (x < List.length s ∧ x' ≤ (List.getD s x Pl.dY).2.1.length ∧ (List.getD s x Pl.dY).2.1.all Pl.isSort = (List.drop x' (List.getD s x Pl.dY).2.1).all Pl.isSort ∧ (Pl.nameOk (List.getD s x Pl.dY).1 && decide ((List.getD s x Pl.dY).2.1.length ≤ (2 : Nat)) &&
 Pl.isSort (List.getD s x Pl.dY).2.2) =
 true ∧ Pl.before (Pl.prevS s x) (List.getD s x Pl.dY).1 = true) ∧ (List.getD s x Pl.dY).2.1.length - x' < (List.getD s x Pl.dY).2.1.length - x_3 ∧ ((0 : Nat) = (0 : Nat) ∧ (↑x : Int) = (↑x : Int) ∧ (0 : Nat) = (0 : Nat) ∧ IntKind.i64.wrap ((↑x_3 : Int) + (1 : Int)) = (↑x' : Int) ∧ True) ∧ (Is (syms s) (syms s) ∧ True) ∧ ((List.getD s x Pl.dY).1 = (List.getD s x Pl.dY).1 ∧ Is (ints (List.getD s x Pl.dY).2.1) (ints (List.getD s x Pl.dY).2.1) ∧ (List.getD s x Pl.dY).2.2 = (List.getD s x Pl.dY).2.2 ∧ True) ∧ True))
 (Exists fun (x' : Nat) =>
 (x' ≤ List.length s ∧ Pl.sigL Option.none s = Pl.sigL (Pl.prevS s x') (List.drop x' s)) ∧ List.length s - x' < List.length s - x ∧ ((0 : Nat) = (0 : Nat) ∧ IntKind.i64.wrap ((↑x : Int) + (1 : Int)) = (↑x' : Int) ∧ True) ∧ (Is (syms s) (syms s) ∧ True) ∧ True))))))
 (decide ((↑(List.length s) : Int) ≤ (7 : Int)) = Pl.sigOk s)) = Goal Tryz.prog [K_sNameOk, K_l4Sort] (A_sSigOk s) K_sSigOk.1 K_sSigOk.2 (s) := by kernel_rfl

theorem vc_iSigOk (s : Pl.Sig) : ((∃ x : Nat,
 (x ≤ List.length s ∧ Pl.sigL Option.none s = Pl.sigL (Pl.prevS s x) (List.drop x s)) ∧ ((0 : Nat) = (0 : Nat) ∧ Is (syms s) (syms s) ∧ (↑(List.length s) : Int) = (↑(List.length s) : Int) ∧ (0 : Int) = (↑x : Int) ∧ True) ∧ (Is (syms s) (syms s) ∧ True) ∧ True) ∧ ∀ (x : Nat),
 x ≤ List.length s ∧ Pl.sigL Option.none s = Pl.sigL (Pl.prevS s x) (List.drop x s) →
 condP (decide ((↑x : Int) < (↑(List.length s) : Int)))
 (((0 : Int) ≤ (↑x : Int) ∧ (↑x : Int) < (↑(List.length s) : Int)) ∧ x < List.length s ∧ ∃ x_1 : Pl.Sym,
 (((List.getD s x Pl.dY).1 = x_1.1 ∧ Is (ints (List.getD s x Pl.dY).2.1) (ints x_1.2.1) ∧ (List.getD s x Pl.dY).2.2 = x_1.2.2 ∧ True) ∧ True) ∧ (x_1.1.size ≤ (1048576 : Nat) ∧ Sz x_1.2.1) ∧ condP (!Pl.symOk x_1) (false = Pl.sigOk s)
 (condP (decide ((↑x : Int) > (0 : Int)))
 (((0 : Int) ≤ IntKind.i64.wrap ((↑x : Int) - (1 : Int)) ∧ IntKind.i64.wrap ((↑x : Int) - (1 : Int)) < (↑(List.length s) : Int)) ∧ (IntKind.i64.wrap ((↑x : Int) - (1 : Int))).toNat < List.length s ∧ condP (!Op.bytesLess (List.getD s (IntKind.i64.wrap ((↑x : Int) - (1 : Int))).toNat Pl.dY).1.toList (List.getD s x Pl.dY).1.toList) (false = Pl.sigOk s)
 (Exists fun (x' : Nat) =>
 (x' ≤ List.length s ∧ Pl.sigL Option.none s = Pl.sigL (Pl.prevS s x') (List.drop x' s)) ∧ List.length s - x' < List.length s - x ∧ ((0 : Nat) = (0 : Nat) ∧ Is (syms s) (syms s) ∧ (↑(List.length s) : Int) = (↑(List.length s) : Int) ∧ IntKind.i64.wrap ((↑x : Int) + (1 : Int)) = (↑x' : Int) ∧ True) ∧ (Is (syms s) (syms s) ∧ True) ∧ True))
 (Exists fun (x' : Nat) =>
 (x' ≤ List.length s ∧ Pl.sigL Option.none s = Pl.sigL (Pl.prevS s x') (List.drop x' s)) ∧ List.length s - x' < List.length s - x ∧ ((0 : Nat) = (0 : Nat) ∧ Is (syms s) (syms s) ∧ (↑(List.length s) : Int) = (↑(List.length s) : Int) ∧ IntKind.i64.wrap ((↑x : Int) + (1 : Int)) = (↑x' : Int) ∧ True) ∧ (Is (syms s) (syms s) ∧ True) ∧ True)))
 (decide ((↑(List.length s) : Int) ≤ (7 : Int)) = Pl.sigOk s)) = Goal Tryz.prog [K_symok] (A_iSigOk s) K_iSigOk.1 K_iSigOk.2 (s) := by kernel_rfl

end Cg

/-
  What is left to show of each function's code, printed by a program: Rows. No condition.
-/
set_option maxRecDepth 100000
set_option linter.unusedVariables false
namespace Cg
open Go Go.Proofs
end Cg

/-
  What is left to show of each function's code, printed by a program: Clause. No condition.
-/
set_option maxRecDepth 100000
set_option linter.unusedVariables false
namespace Cg
open Go Go.Proofs
theorem vc_within (x y z : Int) : (condP (decide (y ≤ x)) (decide (x ≤ z) = Pl.withinI x y z) (false = Pl.withinI x y z)) = Goal Tryz.prog [] ([]) K_within.1 K_within.2 ((x, y, z)) := by kernel_rfl

end Cg

/-
  The codes' contracts: clauses. No condition.
-/
set_option linter.unusedVariables false
set_option linter.unusedSimpArgs false
set_option maxRecDepth 100000
namespace Cg
open Go Go.Proofs

theorem hm : Tryz.prog.follows .mixedOrders = true := by kernel_rfl

theorem k_within : SoundC Tryz.prog K_within.1 K_within.2 := sound_of hm CtxOK.nil (fun _ => []) (by kernel_rfl) fun ((x, y, z) : Int × Int × Int) _ => cast (vc_within x y z) (by
  simp [Pl.withinI]
  omega)

theorem eq_step {α : Type} [DecidableEq α] (d : α) {l m : List α} {k : Nat} (hk : k < l.length) (hm : l.length = m.length) (he : l = m ↔ l.drop k = m.drop k) :
    (¬ l.getD k d = m.getD k d → ¬ l = m) ∧ (l.getD k d = m.getD k d → (l = m ↔ l.drop (k + 1) = m.drop (k + 1))) := by
  rw [drop_get d hk, drop_get (l := m) d (by omega)] at he
  exact ⟨fun h e => h (by have := he.1 e; injection this), fun h => by rw [he, h]; simp⟩

end Cg

/-
  The plain law of clauses: both ways to tell one give the same. No condition.
-/
set_option linter.unusedVariables false
set_option linter.unusedSimpArgs false
namespace Pl
open Go

end Pl


/-
  The codes' contracts: rows of rows, values of marks. No condition.
-/
set_option linter.unusedVariables false
set_option linter.unusedSimpArgs false
set_option maxRecDepth 100000
namespace Cg
open Go Go.Proofs

theorem idx_lt {α : Type} (p : α → Bool) : ∀ l : List α, -1 ≤ Pl.idx p l
  | [] => by simp [Pl.idx]
  | x :: l => by have := idx_lt p l; simp only [Pl.idx]; split <;> (try split) <;> omega

/-- One round of slices.IndexFunc. -/
theorem idx_step {α : Type} (d : α) (p : α → Bool) {l : List α} {k : Nat} (hk : k < l.length) (he : Pl.idx p l = if Pl.idx p (l.drop k) < 0 then -1 else Pl.idx p (l.drop k) + k) :
    (p (l.getD k d) = true → (k : Int) = Pl.idx p l) ∧ (p (l.getD k d) = false → Pl.idx p l = if Pl.idx p (l.drop (k + 1)) < 0 then -1 else Pl.idx p (l.drop (k + 1)) + ((k + 1 : Nat) : Int)) := by
  rw [drop_get d hk] at he
  have := idx_lt p (l.drop (k + 1))
  refine ⟨fun h => ?_, fun h => ?_⟩
  · rw [he]; simp only [Pl.idx, h, if_true]; simp
  · rw [he]
    simp only [Pl.idx, h, Bool.false_eq_true, if_false]
    split
    · simp
    · split <;> omega
theorem idx_init {α : Type} (p : α → Bool) (l : List α) : Pl.idx p l = if Pl.idx p (l.drop 0) < 0 then -1 else Pl.idx p (l.drop 0) + ((0 : Nat) : Int) := by
  have := idx_lt p l
  simp only [List.drop_zero]
  split <;> omega
theorem idx_end {α : Type} (p : α → Bool) {l : List α} {k : Nat} (hk : l.length ≤ k) (he : Pl.idx p l = if Pl.idx p (l.drop k) < 0 then -1 else Pl.idx p (l.drop k) + k) : -1 = Pl.idx p l := by
  rw [he, drop_end (by omega)]; simp [Pl.idx]

theorem idx_any {α : Type} (p : α → Bool) : ∀ l : List α, decide (Pl.idx p l ≥ 0) = l.any p
  | [] => by simp [Pl.idx]
  | x :: l => by
    have h := idx_any p l
    have := idx_lt p l
    simp only [Pl.idx, List.any_cons]
    by_cases hp : p x = true
    · simp [hp]
    · simp only [hp, Bool.false_eq_true, if_false, Bool.false_or]
      rw [← h]
      by_cases hq : Pl.idx p l < 0
      · rw [if_pos hq, decide_eq_false (by omega), decide_eq_false (by omega)]
      · rw [if_neg hq, decide_eq_true (by omega), decide_eq_true (by omega)]

end Cg

/-
  The codes' contracts: words. No condition.
-/
set_option linter.unusedVariables false
set_option linter.unusedSimpArgs false
set_option maxRecDepth 100000
namespace Pl
open Go Cg
theorem bs_len (s : ByteArray) : (bs s).length = s.size := rfl
theorem data_getD (s : ByteArray) (k : Nat) : s.data.getD k 0 = (bs s).getD k 0 := by
  unfold bs
  rw [Array.getD_eq_getD_getElem?, List.getD_eq_getElem?_getD, Array.getElem?_toList]
theorem data_getE (s : ByteArray) (k : Nat) : s.data[k]?.getD 0 = (bs s).getD k 0 := by
  rw [← data_getD, Array.getD_eq_getD_getElem?]
theorem sumN_take {α : Type} (f : α → Nat) (d : α) {l : List α} {k : Nat} (h : k < l.length) : sumN f (l.take (k + 1)) = sumN f (l.take k) + f (l.getD k d) := by
  rw [List.take_succ_eq_append_getElem h]
  have : ∀ (m : List α) (x : α), sumN f (m ++ [x]) = sumN f m + f x := by
    intro m x
    induction m with
    | nil => simp [sumN]
    | cons y r ih => simp only [List.cons_append, sumN, ih]; omega
  rw [this]; simp [h]
theorem sumN_take_le {α : Type} (f : α → Nat) (l : List α) (k : Nat) : sumN f (l.take k) ≤ sumN f l := by
  induction l generalizing k with
  | nil => simp
  | cons x r ih =>
    cases k with
    | zero => simp [sumN]
    | succ k => simp only [List.take_succ_cons, sumN]; have := ih k; omega
theorem sumN_mem {α : Type} (f : α → Nat) {x : α} : ∀ {l : List α}, x ∈ l → f x ≤ sumN f l
  | y :: r, h => by
    simp only [sumN]
    cases List.mem_cons.1 h with
    | inl e => subst e; omega
    | inr e => have := sumN_mem f e; omega
end Pl
namespace Cg
open Go Go.Proofs Pl

theorem SmG.mem {s : Sig} (h : SmG s) {x : Sym} (hx : x ∈ s) : x.1.size ≤ 1048576 ∧ x.2.1.length ≤ 1048576 := by
  have h1 : s.length + sumN costY s ≤ 1048576 := h
  have h2 := sumN_mem costY hx
  have h3 : costY x = x.1.size + x.2.1.length := rfl
  omega
theorem SmG.len {s : Sig} (h : SmG s) : s.length ≤ 1048576 := by
  have h1 : s.length + sumN costY s ≤ 1048576 := h
  omega

theorem name_step {s : ByteArray} {k : Nat} (hk : k < s.size) (he : (bs s).all lower = ((bs s).drop k).all lower) :
    ((((bs s).getD k 0).toNat : Int) < 97 → nameOk s = false) ∧ (122 < (((bs s).getD k 0).toNat : Int) → nameOk s = false) ∧ (97 ≤ (((bs s).getD k 0).toNat : Int) → (((bs s).getD k 0).toNat : Int) ≤ 122 → (bs s).all lower = ((bs s).drop (k + 1)).all lower) := by
  rw [drop_get 0 (by rw [bs_len]; exact hk), List.all_cons] at he
  have no : lower ((bs s).getD k 0) = false → nameOk s = false := fun h => by
    unfold nameOk; rw [he, h]; simp
  refine ⟨fun h => no (by simp [lower, h, -List.getD_eq_getElem?_getD]), fun h => no (by simp [lower, h, -List.getD_eq_getElem?_getD]), fun h1 h2 => ?_⟩
  have : lower ((bs s).getD k 0) = true := by
    unfold lower; rw [decide_eq_false (by omega), decide_eq_false (by omega)]; rfl
  rw [he, this, Bool.true_and]

theorem k_sNameOk : SoundC Tryz.prog K_sNameOk.1 K_sNameOk.2 := sound_of hm CtxOK.nil A_sNameOk (by kernel_rfl) fun (s : ByteArray) hl => cast (vc_sNameOk s) (by
  replace hl : s.size ≤ 1048576 := hl
  simp [-List.getD_eq_getElem?_getD, -List.mem_cons, -Bool.forall_bool, -Bool.exists_bool, and_assoc, peta, tl_inj, ex_1, ex_2, ex_3, ex_4, ex_5, ex_6, ex_7, ex_8, ex_9, ey_2, ey_3, ey_4, ey_5, ey_6, ey_7, ey_8, ey_9]
  simp only [data_getE]
  refine ⟨⟨0, by simp, by simp, rfl⟩, fun k hk he => ⟨fun hlt => ?_, fun hge => ?_⟩⟩
  · obtain ⟨h1, h2, h3⟩ := name_step hlt he
    exact ⟨hlt, h1, fun h4 => ⟨hlt, h2, fun h5 => ⟨k + 1, hlt, h3 h4 h5, by omega, wrap_small (by omega) (by omega)⟩⟩⟩
  · rw [drop_end (by rw [bs_len]; omega)] at he
    unfold nameOk
    rw [he]
    refine ⟨fun h => ?_, fun h => ?_⟩
    · rw [decide_eq_true (by omega : 1 ≤ s.size)]; simp; omega
    · rw [decide_eq_false (by omega : ¬ 1 ≤ s.size)]; rfl)

theorem k_iNameOk : SoundC Tryz.prog K_iNameOk.1 K_iNameOk.2 := sound_of hm (CtxOK.nil.and k_within) A_iNameOk (by kernel_rfl) fun (s : ByteArray) hl => cast (vc_iNameOk s) (by
  replace hl : s.size ≤ 1048576 := hl
  simp [-List.getD_eq_getElem?_getD, -List.mem_cons, -Bool.forall_bool, -Bool.exists_bool, and_assoc, peta, tl_inj, ex_1, ex_2, ex_3, ex_4, ex_5, ex_6, ex_7, ex_8, ex_9, ey_2, ey_3, ey_4, ey_5, ey_6, ey_7, ey_8, ey_9]
  simp only [data_getE]
  refine ⟨fun h => ?_, fun h => ?_⟩
  · simp only [withinI, Bool.and_eq_false_iff, decide_eq_false_iff_not] at h
    unfold nameOk
    rcases h with h | h
    · rw [decide_eq_false (by omega : ¬ 1 ≤ s.size)]; rfl
    · rw [decide_eq_false (by omega : ¬ s.size ≤ 2)]; simp
  · simp only [withinI, Bool.and_eq_true, decide_eq_true_eq] at h
    refine ⟨⟨0, by simp, by simp, rfl⟩, fun k hk he => ⟨fun hlt => ?_, fun hge => ?_⟩⟩
    · obtain ⟨h1, h2, h3⟩ := name_step hlt he
      exact ⟨hlt, h1, fun h4 => ⟨hlt, h2, fun h5 => ⟨k + 1, hlt, h3 h4 h5, by omega, wrap_small (by omega) (by omega)⟩⟩⟩
    · rw [drop_end (by rw [bs_len]; omega)] at he
      unfold nameOk
      rw [he, decide_eq_true (by omega : 1 ≤ s.size), decide_eq_true (by omega : s.size ≤ 2)]
      rfl)

theorem k_l4Sort : SoundC Tryz.prog K_l4Sort.1 K_l4Sort.2 := sound_of hm CtxOK.nil (fun _ => []) (by kernel_rfl) fun (x : Int) _ => cast (vc_l4Sort x) (by
  simp [-List.getD_eq_getElem?_getD, -List.mem_cons, -Bool.forall_bool, -Bool.exists_bool, and_assoc, peta, tl_inj, ex_1, ex_2, ex_3, ex_4, ex_5, ex_6, ex_7, ex_8, ex_9, ey_2, ey_3, ey_4, ey_5, ey_6, ey_7, ey_8, ey_9]
  exact ⟨fun h => by simp [isSort, h], fun h => by simp [isSort, h, Bool.beq_eq_decide_eq]⟩)
theorem k_isSort : SoundC Tryz.prog K_isSort.1 K_isSort.2 := sound_of hm CtxOK.nil (fun _ => []) (by kernel_rfl) fun (x : Int) _ => cast (vc_isSort x) (by
  simp [-List.getD_eq_getElem?_getD, -List.mem_cons, -Bool.forall_bool, -Bool.exists_bool, and_assoc, peta, tl_inj, ex_1, ex_2, ex_3, ex_4, ex_5, ex_6, ex_7, ex_8, ex_9, ey_2, ey_3, ey_4, ey_5, ey_6, ey_7, ey_8, ey_9]
  exact ⟨fun h => by simp [isSort, h], fun h => by simp [isSort, h, Bool.beq_eq_decide_eq]⟩)
theorem k_symok1 : SoundC Tryz.prog K_symok1.1 K_symok1.2 := sound_of hm (CtxOK.nil.and k_isSort) (fun _ => []) (by kernel_rfl) fun (x : Int) _ => cast (vc_symok1 x) (by
  simp [-List.getD_eq_getElem?_getD, -List.mem_cons, -Bool.forall_bool, -Bool.exists_bool, and_assoc, peta, tl_inj, ex_1, ex_2, ex_3, ex_4, ex_5, ex_6, ex_7, ex_8, ex_9, ey_2, ey_3, ey_4, ey_5, ey_6, ey_7, ey_8, ey_9])
theorem k_IndexSort : SoundC Tryz.prog K_IndexSort.1 K_IndexSort.2 := sound_of hm (CtxOK.nil.and k_symok1) A_IndexSort (by kernel_rfl) fun (l : List Int) hl => cast (vc_IndexSort l) (by
  replace hl : Sz l := hl
  simp [-List.getD_eq_getElem?_getD, -List.mem_cons, -Bool.forall_bool, -Bool.exists_bool, and_assoc, peta, tl_inj, ex_1, ex_2, ex_3, ex_4, ex_5, ex_6, ex_7, ex_8, ex_9, ey_2, ey_3, ey_4, ey_5, ey_6, ey_7, ey_8, ey_9]
  exact ⟨⟨0, by simp, idx_init _ _, rfl⟩, fun k hk he => ⟨fun hlt => ⟨hlt, fun h => (idx_step 0 _ hlt he).1 (by simp [h, -List.getD_eq_getElem?_getD]), fun h => ⟨k + 1, hlt, (idx_step 0 _ hlt he).2 (by simp [h, -List.getD_eq_getElem?_getD]), by omega, wrap_succ hlt hl⟩⟩, fun hge => idx_end _ hge he⟩⟩)
theorem k_ContainsSort : SoundC Tryz.prog K_ContainsSort.1 K_ContainsSort.2 := sound_of hm (CtxOK.nil.and k_IndexSort) (fun _ => []) (by kernel_rfl) fun (l : List Int) hl => cast (vc_ContainsSort l) (by
  replace hl : Sz l := hl
  simp only [idx_any]
  simp [-List.getD_eq_getElem?_getD, -List.mem_cons, -Bool.forall_bool, -Bool.exists_bool, and_assoc, peta, tl_inj, ex_1, ex_2, ex_3, ex_4, ex_5, ex_6, ex_7, ex_8, ex_9, ey_2, ey_3, ey_4, ey_5, ey_6, ey_7, ey_8, ey_9]
  exact hl)
theorem all_any {α : Type} (p : α → Bool) (l : List α) : l.all p = !(l.any fun y => !p y) := by
  induction l with
  | nil => rfl
  | cons x r ih => simp only [List.all_cons, List.any_cons, ih]; cases p x <;> rfl

theorem k_symok : SoundC Tryz.prog K_symok.1 K_symok.2 := sound_of hm (((CtxOK.nil.and k_ContainsSort).and k_isSort).and k_iNameOk) (fun _ => []) (by kernel_rfl) fun (x : Sym) hl => cast (vc_symok x) (by
  obtain ⟨h1, h2⟩ : x.1.size ≤ 1048576 ∧ Sz x.2.1 := hl
  simp [-List.getD_eq_getElem?_getD, -List.mem_cons, -Bool.forall_bool, -Bool.exists_bool, and_assoc, peta, tl_inj, ex_1, ex_2, ex_3, ex_4, ex_5, ex_6, ex_7, ex_8, ex_9, ey_2, ey_3, ey_4, ey_5, ey_6, ey_7, ey_8, ey_9]
  refine ⟨h1, fun h3 => ⟨fun h4 => ⟨fun h5 => ⟨h2, ?_⟩, fun h5 => by simp [symOk, h5]⟩, fun h4 => ?_⟩, fun h3 => by simp [symOk, h3]⟩
  · unfold symOk
    rw [h3, h5, decide_eq_true (by omega : x.2.1.length ≤ 2), all_any]; simp
  · unfold symOk
    rw [decide_eq_false (by omega : ¬ x.2.1.length ≤ 2)]; simp)

theorem sig_step {s : Sig} {k : Nat} (hk : k < s.length) (he : sigL none s = sigL (prevS s k) (s.drop k)) :
    (symOk (s.getD k dY) = false → sigOk s = false) ∧ (before (prevS s k) (s.getD k dY).1 = false → sigOk s = false) ∧ (symOk (s.getD k dY) = true → before (prevS s k) (s.getD k dY).1 = true → sigL none s = sigL (prevS s (k + 1)) (s.drop (k + 1))) := by
  rw [drop_get dY hk] at he
  simp only [sigL] at he
  refine ⟨fun h => ?_, fun h => ?_, fun h1 h2 => ?_⟩
  · unfold sigOk; rw [he, h]; simp
  · unfold sigOk; rw [he, h]; simp
  · rw [he, h1, h2]
    simp [prevS, -List.getD_eq_getElem?_getD]
theorem sig_end {s : Sig} {k : Nat} (hk : s.length ≤ k) (he : sigL none s = sigL (prevS s k) (s.drop k)) : sigOk s = decide ((s.length : Int) ≤ 7) := by
  rw [drop_end (by omega)] at he
  unfold sigOk
  rw [he]
  simp only [sigL, Bool.true_and]
  congr 1
  simp only [eq_iff_iff]; omega

theorem sSigOk_inner {s : Sig} (hl : SmG s) {k : Nat} (hlt : k < s.length) (he : sigL none s = sigL (prevS s k) (s.drop k)) (h1 : nameOk (s.getD k dY).1 = true) (h2 : (s.getD k dY).2.1.length ≤ 2) (h3 : isSort (s.getD k dY).2.2 = true) (h4 : before (prevS s k) (s.getD k dY).1 = true) :
    k < s.length ∧
      (∃ x_1, x_1 ≤ (s.getD k dY).2.1.length ∧ (s.getD k dY).2.1.all isSort = ((s.getD k dY).2.1.drop x_1).all isSort ∧ nameOk (s.getD k dY).1 = true ∧ (s.getD k dY).2.1.length ≤ 2 ∧ isSort (s.getD k dY).2.2 = true ∧ before (prevS s k) (s.getD k dY).1 = true ∧ (0 : Int) = (x_1 : Int)) ∧
      ∀ (j : Nat), k < s.length → j ≤ (s.getD k dY).2.1.length → (s.getD k dY).2.1.all isSort = ((s.getD k dY).2.1.drop j).all isSort → nameOk (s.getD k dY).1 = true → (s.getD k dY).2.1.length ≤ 2 → isSort (s.getD k dY).2.2 = true → before (prevS s k) (s.getD k dY).1 = true →
        (j < (s.getD k dY).2.1.length → j < (s.getD k dY).2.1.length ∧ (isSort ((s.getD k dY).2.1.getD j 0) = false → sigOk s = false) ∧
          (isSort ((s.getD k dY).2.1.getD j 0) = true → k < s.length ∧ ∃ x_1, x_1 ≤ (s.getD k dY).2.1.length ∧ (s.getD k dY).2.1.all isSort = ((s.getD k dY).2.1.drop x_1).all isSort ∧ nameOk (s.getD k dY).1 = true ∧ (s.getD k dY).2.1.length ≤ 2 ∧ isSort (s.getD k dY).2.2 = true ∧ before (prevS s k) (s.getD k dY).1 = true ∧ (s.getD k dY).2.1.length - x_1 < (s.getD k dY).2.1.length - j ∧ IntKind.i64.wrap ((j : Int) + 1) = (x_1 : Int))) ∧
        ((s.getD k dY).2.1.length ≤ j → ∃ x', x' ≤ s.length ∧ sigL none s = sigL (prevS s x') (s.drop x') ∧ s.length - x' < s.length - k ∧ IntKind.i64.wrap ((k : Int) + 1) = (x' : Int)) := by
  have hlen := hl.len
  obtain ⟨e1, e2, e3⟩ := sig_step hlt he
  refine ⟨hlt, ⟨0, by simp, by simp, h1, h2, h3, h4, rfl⟩, fun j _ hj hj2 _ _ _ _ => ⟨fun hjl => ⟨hjl, fun h => ?_, fun h => ⟨hlt, j + 1, hjl, ?_, h1, h2, h3, h4, by omega, wrap_small (by omega) (by omega)⟩⟩, fun hge => ⟨k + 1, hlt, e3 ?_ h4, by omega, wrap_small (by omega) (by omega)⟩⟩⟩
  · rw [drop_get 0 hjl, List.all_cons, h, Bool.false_and] at hj2
    exact e1 (by unfold symOk; rw [hj2]; simp)
  · rw [hj2, drop_get 0 hjl, List.all_cons, h, Bool.true_and]
  · rw [drop_end (by omega)] at hj2
    unfold symOk
    rw [hj2, h1, h3, decide_eq_true h2]; rfl

theorem k_sSigOk : SoundC Tryz.prog K_sSigOk.1 K_sSigOk.2 := sound_of hm ((CtxOK.nil.and k_l4Sort).and k_sNameOk) A_sSigOk (by kernel_rfl) fun (s : Sig) hl => cast (vc_sSigOk s) (by
  replace hl : SmG s := hl
  simp [-List.getD_eq_getElem?_getD, -List.mem_cons, -Bool.forall_bool, -Bool.exists_bool, and_assoc, peta, tl_inj, ex_1, ex_2, ex_3, ex_4, ex_5, ex_6, ex_7, ex_8, ex_9, ey_2, ey_3, ey_4, ey_5, ey_6, ey_7, ey_8, ey_9]
  have hlen := hl.len
  refine ⟨⟨0, by simp, by simp [prevS], rfl⟩, fun k hk he => ⟨fun hlt => ?_, fun hge => (sig_end hge he).symm⟩⟩
  obtain ⟨m1, m2⟩ := hl.mem (getD_mem dY hlt)
  obtain ⟨e1, e2, e3⟩ := sig_step hlt he
  have inner : nameOk (s.getD k dY).1 = true → (s.getD k dY).2.1.length ≤ 2 → isSort (s.getD k dY).2.2 = true → before (prevS s k) (s.getD k dY).1 = true → _ := sSigOk_inner hl hlt he
  refine ⟨hlt, m1, fun h => e1 (by unfold symOk; rw [h]; rfl), fun h1 => ⟨fun h => e1 ?_, fun h2 => ⟨fun h => e1 (by unfold symOk; rw [h]; simp), fun h3 => ⟨fun h4 => ?_, fun h4 => inner h1 (by omega) h3 (by rw [h4]; rfl)⟩⟩⟩⟩
  · unfold symOk; rw [decide_eq_false (by omega : ¬ (s.getD k dY).2.1.length ≤ 2)]; simp
  · rw [wrap_small (by omega) (by omega)]
    have e : ((k : Int) - 1).toNat = k - 1 := by omega
    rw [e]
    have hb : before (prevS s k) (s.getD k dY).1 = Op.bytesLess (s.getD (k - 1) dY).1.toList (s.getD k dY).1.toList := by
      unfold prevS; rw [if_neg (by omega)]; rfl
    exact ⟨by omega, by omega, by omega, fun h => e2 (by rw [hb, h]), fun h => inner h1 (by omega) h3 (by rw [hb, h])⟩)

theorem k_iSigOk : SoundC Tryz.prog K_iSigOk.1 K_iSigOk.2 := sound_of hm (CtxOK.nil.and k_symok) A_iSigOk (by kernel_rfl) fun (s : Sig) hl => cast (vc_iSigOk s) (by
  replace hl : SmG s := hl
  simp [-List.getD_eq_getElem?_getD, -List.mem_cons, -Bool.forall_bool, -Bool.exists_bool, and_assoc, peta, tl_inj, ex_1, ex_2, ex_3, ex_4, ex_5, ex_6, ex_7, ex_8, ex_9, ey_2, ey_3, ey_4, ey_5, ey_6, ey_7, ey_8, ey_9]
  have hlen := hl.len
  refine ⟨⟨0, by simp, by simp [prevS], rfl⟩, fun k hk he => ⟨fun hlt => ?_, fun hge => (sig_end hge he).symm⟩⟩
  obtain ⟨m1, m2⟩ := hl.mem (getD_mem dY hlt)
  obtain ⟨e1, e2, e3⟩ := sig_step hlt he
  refine ⟨hlt, m1, by omega, e1, fun h1 => ⟨fun h4 => ?_, fun h4 => ⟨k + 1, hlt, e3 h1 (by rw [h4]; rfl), by omega, wrap_small (by omega) (by omega)⟩⟩⟩
  rw [wrap_small (by omega) (by omega)]
  have e : ((k : Int) - 1).toNat = k - 1 := by omega
  rw [e]
  have hb : before (prevS s k) (s.getD k dY).1 = Op.bytesLess (s.getD (k - 1) dY).1.toList (s.getD k dY).1.toList := by
    unfold prevS; rw [if_neg (by omega)]; rfl
  exact ⟨by omega, by omega, by omega, fun h => e2 (by rw [hb, h]), fun h => ⟨k + 1, hlt, e3 h1 (by rw [hb, h]), by omega, wrap_small (by omega) (by omega)⟩⟩)

end Cg

/-
  The codes' contracts: terms. No condition.
-/
set_option linter.unusedVariables false
set_option linter.unusedSimpArgs false
set_option maxRecDepth 100000
set_option maxHeartbeats 4000000
namespace Pl
open Go Cg
theorem manyL_kids {l : List Tm} {t : Tm} (h : t ∈ l) : manyL t.kids < manyL l := by
  have := many_mem h
  have := t.many_eq
  omega
end Pl
namespace Cg
open Go Go.Proofs Pl
theorem SmTs.mem {l : List Tm} (h : SmTs l) {t : Tm} (ht : t ∈ l) : SmT t := by
  have := costT_mem ht
  have h1 : l.length + costTs l ≤ 1048576 := h
  show costT t ≤ 1048576
  omega
theorem SmTs.len {l : List Tm} (h : SmTs l) : l.length ≤ 1048576 := by
  have h1 : l.length + costTs l ≤ 1048576 := h
  omega
theorem SmT.kids {v : ByteArray} {ks : List Tm} (h : SmT (.mk v ks)) : SmTs ks := by
  have h1 : costT (.mk v ks) ≤ 1048576 := h
  rw [costT_eq] at h1
  simp only [Tree.val, Tree.kids] at h1
  show ks.length + costTs ks ≤ 1048576
  omega

end Cg
