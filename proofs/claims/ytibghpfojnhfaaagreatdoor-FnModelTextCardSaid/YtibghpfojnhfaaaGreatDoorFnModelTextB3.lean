/-
  What the law leans on, part 3. No condition.
-/
import Derived.Test.YtibghpfojnhfaaaGreatDoorProg
import Derived.Test.YtibghpfojnhfaaaGreatDoorFnModelTextB1
import Derived.Test.YtibghpfojnhfaaaGreatDoorFnModelTextB2
/-
  What is left to show of each function's code, printed by a program: Mds. No condition.
-/
set_option maxRecDepth 100000
set_option linter.unusedVariables false
namespace Cg
open Go Go.Proofs
theorem vc_of (b : List Int) (p : Int) (l : List ByteArray) : (∃ x : List Int × Int × Int,
 Rd (1099511627776 : Int) x.1 x.2.1 ∧ (((0 : Nat) = (0 : Nat) ∧ (↑l.length : Int) = x.2.2 ∧ True) ∧ (Is (byts b) (byts x.1) ∧ p = x.2.1 ∧ True) ∧ True) ∧ ∀ (y : Int),
 ((1 : Int) ≤ x.2.2 → (0 : Int) ≤ y ∧ y < x.2.2) ∧ (x.2.2 < (1 : Int) → y = (0 : Int)) →
 ((0 : Int) ≤ y ∧ y < (↑l.length : Int)) ∧ y.toNat < l.length ∧ ∃ y_1 : ByteArray, y_1 ∈ l ∧ (l.getD y.toNat ByteArray.empty = y_1 ∧ True) ∧ (Is (byts x.1) (byts b) ∧ x.2.1 + (1 : Int) = p + (1 : Int) ∧ True) ∧ True) = Goal Tryz.prog [K_pick] ([]) K_of.1 K_of.2 ((b, p, l)) := by kernel_rfl

theorem vc_rat (b : List Int) (p : Int) : (∃ x : List Int × Int × List Int,
 (Rd (1099511627776 : Int) x.1 x.2.1 ∧ x.2.2 ≠ [] ∧ Sz x.2.2) ∧ (((0 : Nat) = (0 : Nat) ∧ Is (AV.lit (3 : Nat) (1 : Nat) (rowsCell [[i64 (1 : Int)], [i64 (2 : Int)], [i64 (0 : Int)]])) (ints x.2.2) ∧ True) ∧ (Is (byts b) (byts x.1) ∧ p = x.2.1 ∧ True) ∧ True) ∧ ∀ (y : Int),
 y ∈ x.2.2 →
 ∃ x_1 : List Int × Int × List Int,
 (Rd (1099511627776 : Int) x_1.1 x_1.2.1 ∧ x_1.2.2 ≠ [] ∧ Sz x_1.2.2) ∧ (((0 : Nat) = (0 : Nat) ∧ Is (AV.lit (4 : Nat) (1 : Nat) (rowsCell [[i64 (0 : Int)], [i64 (2 : Int)], [i64 (-1 : Int)], [i64 (1 : Int)]])) (ints x_1.2.2) ∧ True) ∧ (Is (byts x.1) (byts x_1.1) ∧ x.2.1 + (1 : Int) = x_1.2.1 ∧ True) ∧ True) ∧ ∀ (y_1 : Int),
 y_1 ∈ x_1.2.2 →
 ∃ y_2 : Pl.Rt, True ∧ ((y = y_2.1 ∧ y_1 = y_2.2 ∧ True) ∧ True) ∧ (Is (byts x_1.1) (byts b) ∧ x_1.2.1 + (1 : Int) = p + (2 : Int) ∧ True) ∧ True) = Goal Tryz.prog [K_num] ([]) K_rat.1 K_rat.2 ((b, p)) := by kernel_rfl

theorem vc_RatOfP (n d : Int) : (condP (d == (0 : Int)) (((0 : Int) = (Pl.ratV (Pl.least n d)).1 ∧ (0 : Int) = (Pl.ratV (Pl.least n d)).2 ∧ True) ∧ false = (Pl.least n d).isSome ∧ True)
 (∃ x : Int,
 (n = x ∧ True) ∧ True ∧ condP (decide (Pl.abs1 x > (1000000000 : Int)))
 (((0 : Int) = (Pl.ratV (Pl.least n d)).1 ∧ (0 : Int) = (Pl.ratV (Pl.least n d)).2 ∧ True) ∧ false = (Pl.least n d).isSome ∧ True)
 (∃ x : Int,
 (d = x ∧ True) ∧ True ∧ condP (decide (Pl.abs1 x > (1000000000 : Int)))
 (((0 : Int) = (Pl.ratV (Pl.least n d)).1 ∧ (0 : Int) = (Pl.ratV (Pl.least n d)).2 ∧ True) ∧ false = (Pl.least n d).isSome ∧ True)
 (condP (decide (d < (0 : Int)))
 (∃ x : Int × Int,
 (IntKind.i64.wrap ((0 : Int) - n) = x.1 ∧ IntKind.i64.wrap ((0 : Int) - d) = x.2 ∧ True) ∧ (x.1.natAbs ≤ (2000000000000000000 : Nat) ∧ (1 : Int) ≤ x.2 ∧ x.2 ≤ (1000000000000000000 : Int)) ∧ ((Pl.ratV (Pl.least x.1 x.2)).1 = (Pl.ratV (Pl.least n d)).1 ∧ (Pl.ratV (Pl.least x.1 x.2)).2 = (Pl.ratV (Pl.least n d)).2 ∧ True) ∧ (Pl.least x.1 x.2).isSome = (Pl.least n d).isSome ∧ True)
 (∃ x : Int × Int,
 (n = x.1 ∧ d = x.2 ∧ True) ∧ (x.1.natAbs ≤ (2000000000000000000 : Nat) ∧ (1 : Int) ≤ x.2 ∧ x.2 ≤ (1000000000000000000 : Int)) ∧ ((Pl.ratV (Pl.least x.1 x.2)).1 = (Pl.ratV (Pl.least n d)).1 ∧ (Pl.ratV (Pl.least x.1 x.2)).2 = (Pl.ratV (Pl.least n d)).2 ∧ True) ∧ (Pl.least x.1 x.2).isSome = (Pl.least n d).isSome ∧ True))))) = Goal Tryz.prog [K_l1Abs, K_l1Least] ([]) K_RatOfP.1 K_RatOfP.2 ((n, d)) := by kernel_rfl

theorem vc_l7Value (b : List Int) (p s : Int) : (condP (s == (0 : Int))
 (∃ x : List Int × Int × Int,
 Rd (1099511627776 : Int) x.1 x.2.1 ∧ (((0 : Nat) = (0 : Nat) ∧ (3 : Int) = x.2.2 ∧ True) ∧ (Is (byts b) (byts x.1) ∧ p = x.2.1 ∧ True) ∧ True) ∧ ∀ (y : Int),
 ((1 : Int) ≤ x.2.2 → (0 : Int) ≤ y ∧ y < x.2.2) ∧ (x.2.2 < (1 : Int) → y = (0 : Int)) →
 ∃ y_1 : Pl.Rt × Int,
 (p ≤ y_1.2 ∧ y_1.2 ≤ p + (2 : Int)) ∧ ((y = y_1.1.1 ∧ (1 : Int) = y_1.1.2 ∧ True) ∧ True) ∧ (Is (byts x.1) (byts b) ∧ x.2.1 + (1 : Int) = y_1.2 ∧ True) ∧ True)
 (∃ x : List Int × Int × List Int,
 (Rd (1099511627776 : Int) x.1 x.2.1 ∧ x.2.2 ≠ [] ∧ Sz x.2.2) ∧ (((0 : Nat) = (0 : Nat) ∧ Is (AV.lit (6 : Nat) (1 : Nat) (rowsCell [[i64 (0 : Int)], [i64 (1 : Int)], [i64 (2 : Int)], [i64 (-1 : Int)], [i64 (3 : Int)], [i64 (5 : Int)]]))
 (ints x.2.2) ∧ True) ∧ (Is (byts b) (byts x.1) ∧ p = x.2.1 ∧ True) ∧ True) ∧ ∀ (y : Int),
 y ∈ x.2.2 →
 ∃ x_1 : List Int × Int × List Int,
 (Rd (1099511627776 : Int) x_1.1 x_1.2.1 ∧ x_1.2.2 ≠ [] ∧ Sz x_1.2.2) ∧ (((0 : Nat) = (0 : Nat) ∧ Is (AV.lit (3 : Nat) (1 : Nat) (rowsCell [[i64 (1 : Int)], [i64 (1 : Int)], [i64 (2 : Int)]])) (ints x_1.2.2) ∧ True) ∧ (Is (byts x.1) (byts x_1.1) ∧ x.2.1 + (1 : Int) = x_1.2.1 ∧ True) ∧ True) ∧ ∀ (y_1 : Int),
 y_1 ∈ x_1.2.2 →
 ∃ x : Int × Int,
 (y = x.1 ∧ y_1 = x.2 ∧ True) ∧ (x.1.natAbs ≤ (1000000000 : Nat) ∧ (1 : Int) ≤ x.2 ∧ x.2 ≤ (1000000000 : Int)) ∧ condP (!(Pl.least x.1 x.2).isSome)
 (∃ y : Pl.Rt × Int,
 (p ≤ y.2 ∧ y.2 ≤ p + (2 : Int)) ∧ (((0 : Int) = y.1.1 ∧ (1 : Int) = y.1.2 ∧ True) ∧ True) ∧ (Is (byts x_1.1) (byts b) ∧ x_1.2.1 + (1 : Int) = y.2 ∧ True) ∧ True)
 (∃ y : Pl.Rt × Int,
 (p ≤ y.2 ∧ y.2 ≤ p + (2 : Int)) ∧ (((Pl.ratV (Pl.least x.1 x.2)).1 = y.1.1 ∧ (Pl.ratV (Pl.least x.1 x.2)).2 = y.1.2 ∧ True) ∧ True) ∧ (Is (byts x_1.1) (byts b) ∧ x_1.2.1 + (1 : Int) = y.2 ∧ True) ∧ True))) = Goal Tryz.prog [K_pick, K_num, K_RatOfP] ([]) K_l7Value.1 K_l7Value.2 ((b, p, s)) := by kernel_rfl

theorem vc_l4Base (k : Int) : (condP (k == (0 : Int))
 (Is
 (AV.lit (5 : Nat) (3 : Nat)
 (rowsCell
 [[st (ByteArray.mk #[(97 : UInt8)]), AV.lit (0 : Nat) (1 : Nat) fun (x x_1 : Nat) => AV.any, i64 (0 : Int)],
 [st (ByteArray.mk #[(98 : UInt8)]), AV.lit (0 : Nat) (1 : Nat) fun (x x_1 : Nat) => AV.any, i64 (0 : Int)],
 [st (ByteArray.mk #[(99 : UInt8)]), AV.lit (0 : Nat) (1 : Nat) fun (x x_1 : Nat) => AV.any, i64 (0 : Int)],
 [st (ByteArray.mk #[(102 : UInt8)]), AV.lit (1 : Nat) (1 : Nat) (rowsCell [[i64 (0 : Int)]]), i64 (0 : Int)],
 [st (ByteArray.mk #[(103 : UInt8)]), AV.lit (2 : Nat) (1 : Nat) (rowsCell [[i64 (0 : Int)], [i64 (0 : Int)]]), i64 (0 : Int)]]))
 (syms (Pl.base k)) ∧ True)
 (condP (k == (1 : Int))
 (Is
 (AV.lit (5 : Nat) (3 : Nat)
 (rowsCell
 [[st (ByteArray.mk #[(97 : UInt8)]), AV.lit (0 : Nat) (1 : Nat) fun (x x_1 : Nat) => AV.any, i64 (0 : Int)],
 [st (ByteArray.mk #[(98 : UInt8)]), AV.lit (0 : Nat) (1 : Nat) fun (x x_1 : Nat) => AV.any, i64 (0 : Int)],
 [st (ByteArray.mk #[(104 : UInt8)]), AV.lit (1 : Nat) (1 : Nat) (rowsCell [[i64 (0 : Int)]]), i64 (1 : Int)],
 [st (ByteArray.mk #[(120 : UInt8)]), AV.lit (0 : Nat) (1 : Nat) fun (x x_1 : Nat) => AV.any, i64 (1 : Int)],
 [st (ByteArray.mk #[(121 : UInt8)]), AV.lit (0 : Nat) (1 : Nat) fun (x x_1 : Nat) => AV.any, i64 (1 : Int)]]))
 (syms (Pl.base k)) ∧ True)
 (condP (k == (2 : Int))
 (Is
 (AV.lit (4 : Nat) (3 : Nat)
 (rowsCell
 [[st (ByteArray.mk #[(107 : UInt8)]), AV.lit (1 : Nat) (1 : Nat) (rowsCell [[i64 (1 : Int)]]), i64 (1 : Int)],
 [st (ByteArray.mk #[(120 : UInt8)]), AV.lit (0 : Nat) (1 : Nat) fun (x x_1 : Nat) => AV.any, i64 (1 : Int)],
 [st (ByteArray.mk #[(121 : UInt8)]), AV.lit (0 : Nat) (1 : Nat) fun (x x_1 : Nat) => AV.any, i64 (1 : Int)],
 [st (ByteArray.mk #[(122 : UInt8)]), AV.lit (0 : Nat) (1 : Nat) fun (x x_1 : Nat) => AV.any, i64 (1 : Int)]]))
 (syms (Pl.base k)) ∧ True)
 (condP (k == (3 : Int))
 (Is
 (AV.lit (5 : Nat) (3 : Nat)
 (rowsCell
 [[st (ByteArray.mk #[(97 : UInt8)]), AV.lit (0 : Nat) (1 : Nat) fun (x x_1 : Nat) => AV.any, i64 (0 : Int)],
 [st (ByteArray.mk #[(117 : UInt8)]), AV.lit (1 : Nat) (1 : Nat) (rowsCell [[i64 (1 : Int)]]), i64 (0 : Int)],
 [st (ByteArray.mk #[(118 : UInt8)]), AV.lit (2 : Nat) (1 : Nat) (rowsCell [[i64 (1 : Int)], [i64 (0 : Int)]]), i64 (1 : Int)],
 [st (ByteArray.mk #[(120 : UInt8)]), AV.lit (0 : Nat) (1 : Nat) fun (x x_1 : Nat) => AV.any, i64 (1 : Int)],
 [st (ByteArray.mk #[(121 : UInt8)]), AV.lit (0 : Nat) (1 : Nat) fun (x x_1 : Nat) => AV.any, i64 (1 : Int)]]))
 (syms (Pl.base k)) ∧ True)
 (Is (AV.lit (0 : Nat) (3 : Nat) (rowsCell [])) (syms (Pl.base k)) ∧ True))))) = Goal Tryz.prog [] ([]) K_l4Base.1 K_l4Base.2 (k) := by kernel_rfl

theorem vc_l4Sig (b : List Int) (p : Int) : (∃ x : List Int × Int × List Int,
 (Rd (1099511627776 : Int) x.1 x.2.1 ∧ x.2.2 ≠ [] ∧ Sz x.2.2) ∧ (((0 : Nat) = (0 : Nat) ∧ Is
 (AV.lit (8 : Nat) (1 : Nat)
 (rowsCell [[i64 (0 : Int)], [i64 (0 : Int)], [i64 (1 : Int)], [i64 (1 : Int)], [i64 (2 : Int)], [i64 (3 : Int)], [i64 (1 : Int)], [i64 (4 : Int)]]))
 (ints x.2.2) ∧ True) ∧ (Is (byts b) (byts x.1) ∧ p = x.2.1 ∧ True) ∧ True) ∧ ∀ (y : Int),
 y ∈ x.2.2 →
 ∃ x_1 : Int,
 (y = x_1 ∧ True) ∧ True ∧ ∃ y : Pl.Sig,
 Pl.SgB (5 : Nat) (2 : Nat) y ∧ ((Is (syms (Pl.base x_1)) (syms y) ∧ True) ∧ True) ∧ (Is (byts x.1) (byts b) ∧ x.2.1 + (1 : Int) = p + (1 : Int) ∧ True) ∧ True) = Goal Tryz.prog [K_num, K_l4Base] ([]) K_l4Sig.1 K_l4Sig.2 ((b, p)) := by kernel_rfl

theorem vc_l4Bent (b : List Int) (p : Int) (s : Pl.Sig) (n k : Nat) : ((∃ x : Nat,
 x ≤ List.length s ∧ ((0 : Nat) = (0 : Nat) ∧ (0 : Nat) = (0 : Nat) ∧ (0 : Nat) = (0 : Nat) ∧ (0 : Nat) = (0 : Nat) ∧ (0 : Int) = (↑x : Int) ∧ True) ∧ (Is (byts b) (byts b) ∧ p = p ∧ True) ∧ (Is (syms s) (syms s) ∧ True) ∧ (Is (AV.lit (0 : Nat) (1 : Nat) fun (x x_1 : Nat) => AV.any) nilA ∧ True) ∧ (((0 : Nat) = (0 : Nat) ∧ (0 : Nat) = (0 : Nat) ∧ x = (0 : Nat)) ∧ True) ∧ (List.take x s).length = (0 : Nat) ∧ True) ∧ ∀ (x : Nat),
 x ≤ List.length s →
 condP (decide ((↑x : Int) < (↑(List.length s) : Int)))
 (((0 : Int) ≤ (↑x : Int) ∧ (↑x : Int) < (↑(List.length s) : Int)) ∧ x < List.length s ∧ ((0 : Nat) = (0 : Nat) ∨ (0 : Nat) < (List.getD s x Pl.dY).2.1.length) ∧ ((0 : Nat) + (List.getD s x Pl.dY).2.1.length) * (8 : Nat) ≤ (70368744177664 : Nat) ∧ x = (List.take x s).length ∧ (0 : Nat) + ((0 : Nat) + (List.getD s x Pl.dY).2.1.length) ≤ (0 : Nat) + (List.getD s x Pl.dY).2.1.length ∧ (x + (1 : Nat)) * (48 : Nat) ≤ (70368744177664 : Nat) ∧ Exists fun (x' : Nat) =>
 x' ≤ List.length s ∧ List.length s - x' < List.length s - x ∧ ((0 : Nat) = (0 : Nat) ∧ (0 : Nat) = (0 : Nat) ∧ (0 : Nat) = (0 : Nat) ∧ (0 : Nat) = (0 : Nat) ∧ IntKind.i64.wrap ((↑x : Int) + (1 : Int)) = (↑x' : Int) ∧ True) ∧ (Is (byts b) (byts b) ∧ p = p ∧ True) ∧ (Is (syms s) (syms s) ∧ True) ∧ (Is (AV.lit (0 : Nat) (1 : Nat) fun (x x_1 : Nat) => AV.any) nilA ∧ True) ∧ (((0 : Nat) = (0 : Nat) ∧ x + (1 : Nat) = x') ∧ True) ∧ IsO
 (AObj.xarr (x + (1 : Nat)) (3 : Nat)
 (joinC x (cY (List.take x s))
 (rowsCell
 [[st (List.getD s x Pl.dY).1, AV.sl ((0 : Nat) + (List.getD s x Pl.dY).2.1.length) (1 : Nat) (cI (List.getD s x Pl.dY).2.1),
 i64 (List.getD s x Pl.dY).2.2]])))
 (xrY (List.take x' s)) ∧ True)
 (condP ((↑x : Int) == (0 : Int))
 (∃ y : Pl.Sig × Int,
 (Pl.SgB (n + (1 : Nat)) (k + (1 : Nat)) y.1 ∧ p ≤ y.2 ∧ y.2 ≤ p + (100 : Int)) ∧ (0 : Nat) + x ≤ (List.take x s).length ∧ ((Is (AV.sl x (3 : Nat) (cY (List.take x s))) (syms y.1) ∧ True) ∧ True) ∧ (Is (byts b) (byts b) ∧ p = y.2 ∧ True) ∧ True)
 (∃ x_1 : List Int × Int × Int,
 Rd (1099511627776 : Int) x_1.1 x_1.2.1 ∧ (((0 : Nat) = (0 : Nat) ∧ (8 : Int) = x_1.2.2 ∧ True) ∧ (Is (byts b) (byts x_1.1) ∧ p = x_1.2.1 ∧ True) ∧ True) ∧ ∀ (y : Int),
 ((1 : Int) ≤ x_1.2.2 → (0 : Int) ≤ y ∧ y < x_1.2.2) ∧ (x_1.2.2 < (1 : Int) → y = (0 : Int)) →
 condP (decide (y > (0 : Int)))
 (∃ y : Pl.Sig × Int,
 (Pl.SgB (n + (1 : Nat)) (k + (1 : Nat)) y.1 ∧ p ≤ y.2 ∧ y.2 ≤ p + (100 : Int)) ∧ (0 : Nat) + x ≤ (List.take x s).length ∧ ((Is (AV.sl x (3 : Nat) (cY (List.take x s))) (syms y.1) ∧ True) ∧ True) ∧ (Is (byts x_1.1) (byts b) ∧ x_1.2.1 + (1 : Int) = y.2 ∧ True) ∧ True)
 (∃ x_2 : List Int × Int × Int,
 Rd (1099511627776 : Int) x_2.1 x_2.2.1 ∧ (((0 : Nat) = (0 : Nat) ∧ (↑x : Int) = x_2.2.2 ∧ True) ∧ (Is (byts x_1.1) (byts x_2.1) ∧ x_1.2.1 + (1 : Int) = x_2.2.1 ∧ True) ∧ True) ∧ ∀ (y : Int),
 ((1 : Int) ≤ x_2.2.2 → (0 : Int) ≤ y ∧ y < x_2.2.2) ∧ (x_2.2.2 < (1 : Int) → y = (0 : Int)) →
 ∃ x_3 : List Int × Int × Int,
 Rd (1099511627776 : Int) x_3.1 x_3.2.1 ∧ (((0 : Nat) = (0 : Nat) ∧ (5 : Int) = x_3.2.2 ∧ True) ∧ (Is (byts x_2.1) (byts x_3.1) ∧ x_2.2.1 + (1 : Int) = x_3.2.1 ∧ True) ∧ True) ∧ ∀ (y_1 : Int),
 ((1 : Int) ≤ x_3.2.2 → (0 : Int) ≤ y_1 ∧ y_1 < x_3.2.2) ∧ (x_3.2.2 < (1 : Int) → y_1 = (0 : Int)) →
 condP (y_1 == (0 : Int))
 ((∃ x_4 : List Int × Int × List ByteArray,
 (Rd (1099511627776 : Int) x_4.1 x_4.2.1 ∧ x_4.2.2 ≠ [] ∧ Sz x_4.2.2) ∧ (((0 : Nat) = (0 : Nat) ∧ Is
 (AV.lit (5 : Nat) (1 : Nat)
 (rowsCell
 [[st (ByteArray.mk #[])], [st (ByteArray.mk #[(65 : UInt8)])], [st (ByteArray.mk #[(97 : UInt8), (98 : UInt8), (99 : UInt8)])],
 [st (ByteArray.mk #[(122 : UInt8), (122 : UInt8)])], [st (ByteArray.mk #[(97 : UInt8)])]]))
 (strs x_4.2.2) ∧ True) ∧ (Is (byts x_3.1) (byts x_4.1) ∧ x_3.2.1 + (1 : Int) = x_4.2.1 ∧ True) ∧ True) ∧ ∀ (y_2 : ByteArray),
 y_2 ∈ x_4.2.2 →
 ((0 : Int) ≤ y ∧ y < (↑x : Int)) ∧ y.toNat < (List.take x s).length ∧ ∃ y_3 : Pl.Sig × Int,
 (Pl.SgB (n + (1 : Nat)) (k + (1 : Nat)) y_3.1 ∧ p ≤ y_3.2 ∧ y_3.2 ≤ p + (100 : Int)) ∧ (0 : Nat) + x ≤ (List.take x s).length ∧ ((Is (AV.sl x (3 : Nat) fun (i j : Nat) => storeC (cY (List.take x s)) y.toNat (0 : Nat) [st y_2] i j)
 (syms y_3.1) ∧ True) ∧ True) ∧ (Is (byts x_4.1) (byts b) ∧ x_4.2.1 + (1 : Int) = y_3.2 ∧ True) ∧ True) ∧ ∃ x_4 : List Int × Int × List ByteArray,
 (Rd (1099511627776 : Int) x_4.1 x_4.2.1 ∧ x_4.2.2 ≠ [] ∧ Sz x_4.2.2) ∧ (((0 : Nat) = (0 : Nat) ∧ Is
 (AV.lit (5 : Nat) (1 : Nat)
 (rowsCell
 [[st (ByteArray.mk #[])], [st (ByteArray.mk #[(65 : UInt8)])], [st (ByteArray.mk #[(97 : UInt8), (98 : UInt8), (99 : UInt8)])],
 [st (ByteArray.mk #[(122 : UInt8), (122 : UInt8)])], [st (ByteArray.mk #[(97 : UInt8)])]]))
 (strs x_4.2.2) ∧ True) ∧ (Is (byts x_3.1) (byts x_4.1) ∧ x_3.2.1 + (1 : Int) = x_4.2.1 ∧ True) ∧ True) ∧ ∀ (y_2 : ByteArray),
 y_2 ∈ x_4.2.2 →
 ((0 : Int) ≤ y ∧ y < (↑x : Int)) ∧ y.toNat < (List.take x s).length ∧ ∃ y_3 : Pl.Sig × Int,
 (Pl.SgB (n + (1 : Nat)) (k + (1 : Nat)) y_3.1 ∧ p ≤ y_3.2 ∧ y_3.2 ≤ p + (100 : Int)) ∧ (0 : Nat) + x ≤ (List.take x s).length ∧ ((Is (AV.sl x (3 : Nat) fun (i j : Nat) => storeC (cY (List.take x s)) y.toNat (0 : Nat) [st y_2] i j)
 (syms y_3.1) ∧ True) ∧ True) ∧ (Is (byts x_4.1) (byts b) ∧ x_4.2.1 + (1 : Int) = y_3.2 ∧ True) ∧ True)
 (condP (y_1 == (1 : Int))
 ((((((0 : Int) ≤ y ∧ y < (↑x : Int)) ∧ (y.toNat < (List.take x s).length ∧ ∃ x_4 : List Int × Int × List Int,
 (Rd (1099511627776 : Int) x_4.1 x_4.2.1 ∧ x_4.2.2 ≠ [] ∧ Sz x_4.2.2) ∧ (((0 : Nat) = (0 : Nat) ∧ Is
 (AV.lit (4 : Nat) (1 : Nat) (rowsCell [[i64 (0 : Int)], [i64 (2 : Int)], [i64 (-1 : Int)], [i64 (1 : Int)]]))
 (ints x_4.2.2) ∧ True) ∧ (Is (byts x_3.1) (byts x_4.1) ∧ x_3.2.1 + (1 : Int) = x_4.2.1 ∧ True) ∧ True) ∧ ∀ (y_2 : Int),
 y_2 ∈ x_4.2.2 →
 ((List.take x s).getD y.toNat Pl.dY).2.1.length = ((List.take x s).getD y.toNat Pl.dY).2.1.length ∧ y.toNat < (List.take x s).length ∧ (1 : Nat) < (3 : Nat) ∧ (((List.take x s).getD y.toNat Pl.dY).2.1.length + (1 : Nat)) * (8 : Nat) ≤ (70368744177664 : Nat) ∧ ((0 : Int) ≤ y ∧ y < (↑x : Int)) ∧ y.toNat < (List.take x s).length ∧ ∃ y_3 : Pl.Sig × Int,
 (Pl.SgB (n + (1 : Nat)) (k + (1 : Nat)) y_3.1 ∧ p ≤ y_3.2 ∧ y_3.2 ≤ p + (100 : Int)) ∧ (0 : Nat) + x ≤ (List.take x s).length ∧ ((Is
 (AV.sl x (3 : Nat) fun (i j : Nat) =>
 storeC (cY (List.take x s)) y.toNat ((1 : Nat))
 [AV.sl (((List.take x s).getD y.toNat Pl.dY).2.1.length + (1 : Nat)) (1 : Nat)
 (joinC ((List.take x s).getD y.toNat Pl.dY).2.1.length
 (cI ((List.take x s).getD y.toNat Pl.dY).2.1) (rowsCell [[i64 y_2]]))]
 i j)
 (syms y_3.1) ∧ True) ∧ True) ∧ (Is (byts x_4.1) (byts b) ∧ x_4.2.1 + (1 : Int) = y_3.2 ∧ True) ∧ True) ∧ ∃ x_4 : List Int × Int × List Int,
 (Rd (1099511627776 : Int) x_4.1 x_4.2.1 ∧ x_4.2.2 ≠ [] ∧ Sz x_4.2.2) ∧ (((0 : Nat) = (0 : Nat) ∧ Is (AV.lit (4 : Nat) (1 : Nat) (rowsCell [[i64 (0 : Int)], [i64 (2 : Int)], [i64 (-1 : Int)], [i64 (1 : Int)]]))
 (ints x_4.2.2) ∧ True) ∧ (Is (byts x_3.1) (byts x_4.1) ∧ x_3.2.1 + (1 : Int) = x_4.2.1 ∧ True) ∧ True) ∧ ∀ (y_2 : Int),
 y_2 ∈ x_4.2.2 →
 y.toNat < (List.take x s).length ∧ ((List.take x s).getD y.toNat Pl.dY).2.1.length = ((List.take x s).getD y.toNat Pl.dY).2.1.length ∧ y.toNat < (List.take x s).length ∧ (1 : Nat) < (3 : Nat) ∧ (((List.take x s).getD y.toNat Pl.dY).2.1.length + (1 : Nat)) * (8 : Nat) ≤ (70368744177664 : Nat) ∧ ((0 : Int) ≤ y ∧ y < (↑x : Int)) ∧ y.toNat < (List.take x s).length ∧ ∃ y_3 : Pl.Sig × Int,
 (Pl.SgB (n + (1 : Nat)) (k + (1 : Nat)) y_3.1 ∧ p ≤ y_3.2 ∧ y_3.2 ≤ p + (100 : Int)) ∧ (0 : Nat) + x ≤ (List.take x s).length ∧ ((Is
 (AV.sl x (3 : Nat) fun (i j : Nat) =>
 storeC (cY (List.take x s)) y.toNat ((1 : Nat))
 [AV.sl (((List.take x s).getD y.toNat Pl.dY).2.1.length + (1 : Nat)) (1 : Nat)
 (joinC ((List.take x s).getD y.toNat Pl.dY).2.1.length
 (cI ((List.take x s).getD y.toNat Pl.dY).2.1) (rowsCell [[i64 y_2]]))]
 i j)
 (syms y_3.1) ∧ True) ∧ True) ∧ (Is (byts x_4.1) (byts b) ∧ x_4.2.1 + (1 : Int) = y_3.2 ∧ True) ∧ True) ∧ ∃ x_4 : List Int × Int × List Int,
 (Rd (1099511627776 : Int) x_4.1 x_4.2.1 ∧ x_4.2.2 ≠ [] ∧ Sz x_4.2.2) ∧ (((0 : Nat) = (0 : Nat) ∧ Is (AV.lit (4 : Nat) (1 : Nat) (rowsCell [[i64 (0 : Int)], [i64 (2 : Int)], [i64 (-1 : Int)], [i64 (1 : Int)]]))
 (ints x_4.2.2) ∧ True) ∧ (Is (byts x_3.1) (byts x_4.1) ∧ x_3.2.1 + (1 : Int) = x_4.2.1 ∧ True) ∧ True) ∧ ∀ (y_2 : Int),
 y_2 ∈ x_4.2.2 →
 ((0 : Int) ≤ y ∧ y < (↑x : Int)) ∧ y.toNat < (List.take x s).length ∧ ((List.take x s).getD y.toNat Pl.dY).2.1.length = ((List.take x s).getD y.toNat Pl.dY).2.1.length ∧ y.toNat < (List.take x s).length ∧ (1 : Nat) < (3 : Nat) ∧ (((List.take x s).getD y.toNat Pl.dY).2.1.length + (1 : Nat)) * (8 : Nat) ≤ (70368744177664 : Nat) ∧ ((0 : Int) ≤ y ∧ y < (↑x : Int)) ∧ y.toNat < (List.take x s).length ∧ ∃ y_3 : Pl.Sig × Int,
 (Pl.SgB (n + (1 : Nat)) (k + (1 : Nat)) y_3.1 ∧ p ≤ y_3.2 ∧ y_3.2 ≤ p + (100 : Int)) ∧ (0 : Nat) + x ≤ (List.take x s).length ∧ ((Is
 (AV.sl x (3 : Nat) fun (i j : Nat) =>
 storeC (cY (List.take x s)) y.toNat ((1 : Nat))
 [AV.sl (((List.take x s).getD y.toNat Pl.dY).2.1.length + (1 : Nat)) (1 : Nat)
 (joinC ((List.take x s).getD y.toNat Pl.dY).2.1.length
 (cI ((List.take x s).getD y.toNat Pl.dY).2.1) (rowsCell [[i64 y_2]]))]
 i j)
 (syms y_3.1) ∧ True) ∧ True) ∧ (Is (byts x_4.1) (byts b) ∧ x_4.2.1 + (1 : Int) = y_3.2 ∧ True) ∧ True) ∧ ∃ x_4 : List Int × Int × List Int,
 (Rd (1099511627776 : Int) x_4.1 x_4.2.1 ∧ x_4.2.2 ≠ [] ∧ Sz x_4.2.2) ∧ (((0 : Nat) = (0 : Nat) ∧ Is (AV.lit (4 : Nat) (1 : Nat) (rowsCell [[i64 (0 : Int)], [i64 (2 : Int)], [i64 (-1 : Int)], [i64 (1 : Int)]]))
 (ints x_4.2.2) ∧ True) ∧ (Is (byts x_3.1) (byts x_4.1) ∧ x_3.2.1 + (1 : Int) = x_4.2.1 ∧ True) ∧ True) ∧ ∀ (y_2 : Int),
 y_2 ∈ x_4.2.2 →
 ((0 : Int) ≤ y ∧ y < (↑x : Int)) ∧ y.toNat < (List.take x s).length ∧ ((List.take x s).getD y.toNat Pl.dY).2.1.length = ((List.take x s).getD y.toNat Pl.dY).2.1.length ∧ y.toNat < (List.take x s).length ∧ (1 : Nat) < (3 : Nat) ∧ (((List.take x s).getD y.toNat Pl.dY).2.1.length + (1 : Nat)) * (8 : Nat) ≤ (70368744177664 : Nat) ∧ ((0 : Int) ≤ y ∧ y < (↑x : Int)) ∧ y.toNat < (List.take x s).length ∧ ∃ y_3 : Pl.Sig × Int,
 (Pl.SgB (n + (1 : Nat)) (k + (1 : Nat)) y_3.1 ∧ p ≤ y_3.2 ∧ y_3.2 ≤ p + (100 : Int)) ∧ (0 : Nat) + x ≤ (List.take x s).length ∧ ((Is
 (AV.sl x (3 : Nat) fun (i j : Nat) =>
 storeC (cY (List.take x s)) y.toNat ((1 : Nat))
 [AV.sl (((List.take x s).getD y.toNat Pl.dY).2.1.length + (1 : Nat)) (1 : Nat)
 (joinC ((List.take x s).getD y.toNat Pl.dY).2.1.length
 (cI ((List.take x s).getD y.toNat Pl.dY).2.1) (rowsCell [[i64 y_2]]))]
 i j)
 (syms y_3.1) ∧ True) ∧ True) ∧ (Is (byts x_4.1) (byts b) ∧ x_4.2.1 + (1 : Int) = y_3.2 ∧ True) ∧ True) ∧ (((((0 : Int) ≤ y ∧ y < (↑x : Int)) ∧ (y.toNat < (List.take x s).length ∧ ∃ x_4 : List Int × Int × List Int,
 (Rd (1099511627776 : Int) x_4.1 x_4.2.1 ∧ x_4.2.2 ≠ [] ∧ Sz x_4.2.2) ∧ (((0 : Nat) = (0 : Nat) ∧ Is
 (AV.lit (4 : Nat) (1 : Nat)
 (rowsCell [[i64 (0 : Int)], [i64 (2 : Int)], [i64 (-1 : Int)], [i64 (1 : Int)]]))
 (ints x_4.2.2) ∧ True) ∧ (Is (byts x_3.1) (byts x_4.1) ∧ x_3.2.1 + (1 : Int) = x_4.2.1 ∧ True) ∧ True) ∧ ∀ (y_2 : Int),
 y_2 ∈ x_4.2.2 →
 ((List.take x s).getD y.toNat Pl.dY).2.1.length = ((List.take x s).getD y.toNat Pl.dY).2.1.length ∧ y.toNat < (List.take x s).length ∧ (1 : Nat) < (3 : Nat) ∧ (((List.take x s).getD y.toNat Pl.dY).2.1.length + (1 : Nat)) * (8 : Nat) ≤ (70368744177664 : Nat) ∧ ((0 : Int) ≤ y ∧ y < (↑x : Int)) ∧ y.toNat < (List.take x s).length ∧ ∃ y_3 : Pl.Sig × Int,
 (Pl.SgB (n + (1 : Nat)) (k + (1 : Nat)) y_3.1 ∧ p ≤ y_3.2 ∧ y_3.2 ≤ p + (100 : Int)) ∧ (0 : Nat) + x ≤ (List.take x s).length ∧ ((Is
 (AV.sl x (3 : Nat) fun (i j : Nat) =>
 storeC (cY (List.take x s)) y.toNat ((1 : Nat))
 [AV.sl (((List.take x s).getD y.toNat Pl.dY).2.1.length + (1 : Nat)) (1 : Nat)
 (joinC ((List.take x s).getD y.toNat Pl.dY).2.1.length
 (cI ((List.take x s).getD y.toNat Pl.dY).2.1) (rowsCell [[i64 y_2]]))]
 i j)
 (syms y_3.1) ∧ True) ∧ True) ∧ (Is (byts x_4.1) (byts b) ∧ x_4.2.1 + (1 : Int) = y_3.2 ∧ True) ∧ True) ∧ ∃ x_4 : List Int × Int × List Int,
 (Rd (1099511627776 : Int) x_4.1 x_4.2.1 ∧ x_4.2.2 ≠ [] ∧ Sz x_4.2.2) ∧ (((0 : Nat) = (0 : Nat) ∧ Is
 (AV.lit (4 : Nat) (1 : Nat) (rowsCell [[i64 (0 : Int)], [i64 (2 : Int)], [i64 (-1 : Int)], [i64 (1 : Int)]]))
 (ints x_4.2.2) ∧ True) ∧ (Is (byts x_3.1) (byts x_4.1) ∧ x_3.2.1 + (1 : Int) = x_4.2.1 ∧ True) ∧ True) ∧ ∀ (y_2 : Int),
 y_2 ∈ x_4.2.2 →
 y.toNat < (List.take x s).length ∧ ((List.take x s).getD y.toNat Pl.dY).2.1.length = ((List.take x s).getD y.toNat Pl.dY).2.1.length ∧ y.toNat < (List.take x s).length ∧ (1 : Nat) < (3 : Nat) ∧ (((List.take x s).getD y.toNat Pl.dY).2.1.length + (1 : Nat)) * (8 : Nat) ≤ (70368744177664 : Nat) ∧ ((0 : Int) ≤ y ∧ y < (↑x : Int)) ∧ y.toNat < (List.take x s).length ∧ ∃ y_3 : Pl.Sig × Int,
 (Pl.SgB (n + (1 : Nat)) (k + (1 : Nat)) y_3.1 ∧ p ≤ y_3.2 ∧ y_3.2 ≤ p + (100 : Int)) ∧ (0 : Nat) + x ≤ (List.take x s).length ∧ ((Is
 (AV.sl x (3 : Nat) fun (i j : Nat) =>
 storeC (cY (List.take x s)) y.toNat ((1 : Nat))
 [AV.sl (((List.take x s).getD y.toNat Pl.dY).2.1.length + (1 : Nat)) (1 : Nat)
 (joinC ((List.take x s).getD y.toNat Pl.dY).2.1.length
 (cI ((List.take x s).getD y.toNat Pl.dY).2.1) (rowsCell [[i64 y_2]]))]
 i j)
 (syms y_3.1) ∧ True) ∧ True) ∧ (Is (byts x_4.1) (byts b) ∧ x_4.2.1 + (1 : Int) = y_3.2 ∧ True) ∧ True) ∧ ∃ x_4 : List Int × Int × List Int,
 (Rd (1099511627776 : Int) x_4.1 x_4.2.1 ∧ x_4.2.2 ≠ [] ∧ Sz x_4.2.2) ∧ (((0 : Nat) = (0 : Nat) ∧ Is (AV.lit (4 : Nat) (1 : Nat) (rowsCell [[i64 (0 : Int)], [i64 (2 : Int)], [i64 (-1 : Int)], [i64 (1 : Int)]]))
 (ints x_4.2.2) ∧ True) ∧ (Is (byts x_3.1) (byts x_4.1) ∧ x_3.2.1 + (1 : Int) = x_4.2.1 ∧ True) ∧ True) ∧ ∀ (y_2 : Int),
 y_2 ∈ x_4.2.2 →
 ((0 : Int) ≤ y ∧ y < (↑x : Int)) ∧ y.toNat < (List.take x s).length ∧ ((List.take x s).getD y.toNat Pl.dY).2.1.length = ((List.take x s).getD y.toNat Pl.dY).2.1.length ∧ y.toNat < (List.take x s).length ∧ (1 : Nat) < (3 : Nat) ∧ (((List.take x s).getD y.toNat Pl.dY).2.1.length + (1 : Nat)) * (8 : Nat) ≤ (70368744177664 : Nat) ∧ ((0 : Int) ≤ y ∧ y < (↑x : Int)) ∧ y.toNat < (List.take x s).length ∧ ∃ y_3 : Pl.Sig × Int,
 (Pl.SgB (n + (1 : Nat)) (k + (1 : Nat)) y_3.1 ∧ p ≤ y_3.2 ∧ y_3.2 ≤ p + (100 : Int)) ∧ (0 : Nat) + x ≤ (List.take x s).length ∧ ((Is
 (AV.sl x (3 : Nat) fun (i j : Nat) =>
 storeC (cY (List.take x s)) y.toNat ((1 : Nat))
 [AV.sl (((List.take x s).getD y.toNat Pl.dY).2.1.length + (1 : Nat)) (1 : Nat)
 (joinC ((List.take x s).getD y.toNat Pl.dY).2.1.length
 (cI ((List.take x s).getD y.toNat Pl.dY).2.1) (rowsCell [[i64 y_2]]))]
 i j)
 (syms y_3.1) ∧ True) ∧ True) ∧ (Is (byts x_4.1) (byts b) ∧ x_4.2.1 + (1 : Int) = y_3.2 ∧ True) ∧ True) ∧ (((0 : Int) ≤ y ∧ y < (↑x : Int)) ∧ ((y.toNat < (List.take x s).length ∧ ∃ x_4 : List Int × Int × List Int,
 (Rd (1099511627776 : Int) x_4.1 x_4.2.1 ∧ x_4.2.2 ≠ [] ∧ Sz x_4.2.2) ∧ (((0 : Nat) = (0 : Nat) ∧ Is
 (AV.lit (4 : Nat) (1 : Nat)
 (rowsCell [[i64 (0 : Int)], [i64 (2 : Int)], [i64 (-1 : Int)], [i64 (1 : Int)]]))
 (ints x_4.2.2) ∧ True) ∧ (Is (byts x_3.1) (byts x_4.1) ∧ x_3.2.1 + (1 : Int) = x_4.2.1 ∧ True) ∧ True) ∧ ∀ (y_2 : Int),
 y_2 ∈ x_4.2.2 →
 ((List.take x s).getD y.toNat Pl.dY).2.1.length = ((List.take x s).getD y.toNat Pl.dY).2.1.length ∧ y.toNat < (List.take x s).length ∧ (1 : Nat) < (3 : Nat) ∧ (((List.take x s).getD y.toNat Pl.dY).2.1.length + (1 : Nat)) * (8 : Nat) ≤ (70368744177664 : Nat) ∧ ((0 : Int) ≤ y ∧ y < (↑x : Int)) ∧ y.toNat < (List.take x s).length ∧ ∃ y_3 : Pl.Sig × Int,
 (Pl.SgB (n + (1 : Nat)) (k + (1 : Nat)) y_3.1 ∧ p ≤ y_3.2 ∧ y_3.2 ≤ p + (100 : Int)) ∧ (0 : Nat) + x ≤ (List.take x s).length ∧ ((Is
 (AV.sl x (3 : Nat) fun (i j : Nat) =>
 storeC (cY (List.take x s)) y.toNat ((1 : Nat))
 [AV.sl (((List.take x s).getD y.toNat Pl.dY).2.1.length + (1 : Nat)) (1 : Nat)
 (joinC ((List.take x s).getD y.toNat Pl.dY).2.1.length
 (cI ((List.take x s).getD y.toNat Pl.dY).2.1) (rowsCell [[i64 y_2]]))]
 i j)
 (syms y_3.1) ∧ True) ∧ True) ∧ (Is (byts x_4.1) (byts b) ∧ x_4.2.1 + (1 : Int) = y_3.2 ∧ True) ∧ True) ∧ ∃ x_4 : List Int × Int × List Int,
 (Rd (1099511627776 : Int) x_4.1 x_4.2.1 ∧ x_4.2.2 ≠ [] ∧ Sz x_4.2.2) ∧ (((0 : Nat) = (0 : Nat) ∧ Is
 (AV.lit (4 : Nat) (1 : Nat)
 (rowsCell [[i64 (0 : Int)], [i64 (2 : Int)], [i64 (-1 : Int)], [i64 (1 : Int)]]))
 (ints x_4.2.2) ∧ True) ∧ (Is (byts x_3.1) (byts x_4.1) ∧ x_3.2.1 + (1 : Int) = x_4.2.1 ∧ True) ∧ True) ∧ ∀ (y_2 : Int),
 y_2 ∈ x_4.2.2 →
 y.toNat < (List.take x s).length ∧ ((List.take x s).getD y.toNat Pl.dY).2.1.length = ((List.take x s).getD y.toNat Pl.dY).2.1.length ∧ y.toNat < (List.take x s).length ∧ (1 : Nat) < (3 : Nat) ∧ (((List.take x s).getD y.toNat Pl.dY).2.1.length + (1 : Nat)) * (8 : Nat) ≤ (70368744177664 : Nat) ∧ ((0 : Int) ≤ y ∧ y < (↑x : Int)) ∧ y.toNat < (List.take x s).length ∧ ∃ y_3 : Pl.Sig × Int,
 (Pl.SgB (n + (1 : Nat)) (k + (1 : Nat)) y_3.1 ∧ p ≤ y_3.2 ∧ y_3.2 ≤ p + (100 : Int)) ∧ (0 : Nat) + x ≤ (List.take x s).length ∧ ((Is
 (AV.sl x (3 : Nat) fun (i j : Nat) =>
 storeC (cY (List.take x s)) y.toNat ((1 : Nat))
 [AV.sl (((List.take x s).getD y.toNat Pl.dY).2.1.length + (1 : Nat)) (1 : Nat)
 (joinC ((List.take x s).getD y.toNat Pl.dY).2.1.length
 (cI ((List.take x s).getD y.toNat Pl.dY).2.1) (rowsCell [[i64 y_2]]))]
 i j)
 (syms y_3.1) ∧ True) ∧ True) ∧ (Is (byts x_4.1) (byts b) ∧ x_4.2.1 + (1 : Int) = y_3.2 ∧ True) ∧ True) ∧ (y.toNat < (List.take x s).length ∧ (∃ x_4 : List Int × Int × List Int,
 (Rd (1099511627776 : Int) x_4.1 x_4.2.1 ∧ x_4.2.2 ≠ [] ∧ Sz x_4.2.2) ∧ (((0 : Nat) = (0 : Nat) ∧ Is
 (AV.lit (4 : Nat) (1 : Nat)
 (rowsCell [[i64 (0 : Int)], [i64 (2 : Int)], [i64 (-1 : Int)], [i64 (1 : Int)]]))
 (ints x_4.2.2) ∧ True) ∧ (Is (byts x_3.1) (byts x_4.1) ∧ x_3.2.1 + (1 : Int) = x_4.2.1 ∧ True) ∧ True) ∧ ∀ (y_2 : Int),
 y_2 ∈ x_4.2.2 →
 ((List.take x s).getD y.toNat Pl.dY).2.1.length = ((List.take x s).getD y.toNat Pl.dY).2.1.length ∧ y.toNat < (List.take x s).length ∧ (1 : Nat) < (3 : Nat) ∧ (((List.take x s).getD y.toNat Pl.dY).2.1.length + (1 : Nat)) * (8 : Nat) ≤ (70368744177664 : Nat) ∧ ((0 : Int) ≤ y ∧ y < (↑x : Int)) ∧ y.toNat < (List.take x s).length ∧ ∃ y_3 : Pl.Sig × Int,
 (Pl.SgB (n + (1 : Nat)) (k + (1 : Nat)) y_3.1 ∧ p ≤ y_3.2 ∧ y_3.2 ≤ p + (100 : Int)) ∧ (0 : Nat) + x ≤ (List.take x s).length ∧ ((Is
 (AV.sl x (3 : Nat) fun (i j : Nat) =>
 storeC (cY (List.take x s)) y.toNat ((1 : Nat))
 [AV.sl (((List.take x s).getD y.toNat Pl.dY).2.1.length + (1 : Nat)) (1 : Nat)
 (joinC ((List.take x s).getD y.toNat Pl.dY).2.1.length
 (cI ((List.take x s).getD y.toNat Pl.dY).2.1) (rowsCell [[i64 y_2]]))]
 i j)
 (syms y_3.1) ∧ True) ∧ True) ∧ (Is (byts x_4.1) (byts b) ∧ x_4.2.1 + (1 : Int) = y_3.2 ∧ True) ∧ True) ∧ ∃ x_4 : List Int × Int × List Int,
 (Rd (1099511627776 : Int) x_4.1 x_4.2.1 ∧ x_4.2.2 ≠ [] ∧ Sz x_4.2.2) ∧ (((0 : Nat) = (0 : Nat) ∧ Is
 (AV.lit (4 : Nat) (1 : Nat)
 (rowsCell [[i64 (0 : Int)], [i64 (2 : Int)], [i64 (-1 : Int)], [i64 (1 : Int)]]))
 (ints x_4.2.2) ∧ True) ∧ (Is (byts x_3.1) (byts x_4.1) ∧ x_3.2.1 + (1 : Int) = x_4.2.1 ∧ True) ∧ True) ∧ ∀ (y_2 : Int),
 y_2 ∈ x_4.2.2 →
 ((List.take x s).getD y.toNat Pl.dY).2.1.length = ((List.take x s).getD y.toNat Pl.dY).2.1.length ∧ y.toNat < (List.take x s).length ∧ (1 : Nat) < (3 : Nat) ∧ (((List.take x s).getD y.toNat Pl.dY).2.1.length + (1 : Nat)) * (8 : Nat) ≤ (70368744177664 : Nat) ∧ ((0 : Int) ≤ y ∧ y < (↑x : Int)) ∧ y.toNat < (List.take x s).length ∧ ∃ y_3 : Pl.Sig × Int,
 (Pl.SgB (n + (1 : Nat)) (k + (1 : Nat)) y_3.1 ∧ p ≤ y_3.2 ∧ y_3.2 ≤ p + (100 : Int)) ∧ (0 : Nat) + x ≤ (List.take x s).length ∧ ((Is
 (AV.sl x (3 : Nat) fun (i j : Nat) =>
 storeC (cY (List.take x s)) y.toNat ((1 : Nat))
 [AV.sl (((List.take x s).getD y.toNat Pl.dY).2.1.length + (1 : Nat)) (1 : Nat)
 (joinC ((List.take x s).getD y.toNat Pl.dY).2.1.length
 (cI ((List.take x s).getD y.toNat Pl.dY).2.1) (rowsCell [[i64 y_2]]))]
 i j)
 (syms y_3.1) ∧ True) ∧ True) ∧ (Is (byts x_4.1) (byts b) ∧ x_4.2.1 + (1 : Int) = y_3.2 ∧ True) ∧ True) ∧ ∃ x_4 : List Int × Int × List Int,
 (Rd (1099511627776 : Int) x_4.1 x_4.2.1 ∧ x_4.2.2 ≠ [] ∧ Sz x_4.2.2) ∧ (((0 : Nat) = (0 : Nat) ∧ Is
 (AV.lit (4 : Nat) (1 : Nat)
 (rowsCell [[i64 (0 : Int)], [i64 (2 : Int)], [i64 (-1 : Int)], [i64 (1 : Int)]]))
 (ints x_4.2.2) ∧ True) ∧ (Is (byts x_3.1) (byts x_4.1) ∧ x_3.2.1 + (1 : Int) = x_4.2.1 ∧ True) ∧ True) ∧ ∀ (y_2 : Int),
 y_2 ∈ x_4.2.2 →
 y.toNat < (List.take x s).length ∧ ((List.take x s).getD y.toNat Pl.dY).2.1.length = ((List.take x s).getD y.toNat Pl.dY).2.1.length ∧ y.toNat < (List.take x s).length ∧ (1 : Nat) < (3 : Nat) ∧ (((List.take x s).getD y.toNat Pl.dY).2.1.length + (1 : Nat)) * (8 : Nat) ≤ (70368744177664 : Nat) ∧ ((0 : Int) ≤ y ∧ y < (↑x : Int)) ∧ y.toNat < (List.take x s).length ∧ ∃ y_3 : Pl.Sig × Int,
 (Pl.SgB (n + (1 : Nat)) (k + (1 : Nat)) y_3.1 ∧ p ≤ y_3.2 ∧ y_3.2 ≤ p + (100 : Int)) ∧ (0 : Nat) + x ≤ (List.take x s).length ∧ ((Is
 (AV.sl x (3 : Nat) fun (i j : Nat) =>
 storeC (cY (List.take x s)) y.toNat ((1 : Nat))
 [AV.sl (((List.take x s).getD y.toNat Pl.dY).2.1.length + (1 : Nat)) (1 : Nat)
 (joinC ((List.take x s).getD y.toNat Pl.dY).2.1.length
 (cI ((List.take x s).getD y.toNat Pl.dY).2.1) (rowsCell [[i64 y_2]]))]
 i j)
 (syms y_3.1) ∧ True) ∧ True) ∧ (Is (byts x_4.1) (byts b) ∧ x_4.2.1 + (1 : Int) = y_3.2 ∧ True) ∧ True) ∧ ∃ x_4 : List Int × Int × List Int,
 (Rd (1099511627776 : Int) x_4.1 x_4.2.1 ∧ x_4.2.2 ≠ [] ∧ Sz x_4.2.2) ∧ (((0 : Nat) = (0 : Nat) ∧ Is (AV.lit (4 : Nat) (1 : Nat) (rowsCell [[i64 (0 : Int)], [i64 (2 : Int)], [i64 (-1 : Int)], [i64 (1 : Int)]]))
 (ints x_4.2.2) ∧ True) ∧ (Is (byts x_3.1) (byts x_4.1) ∧ x_3.2.1 + (1 : Int) = x_4.2.1 ∧ True) ∧ True) ∧ ∀ (y_2 : Int),
 y_2 ∈ x_4.2.2 →
 ((0 : Int) ≤ y ∧ y < (↑x : Int)) ∧ y.toNat < (List.take x s).length ∧ ((List.take x s).getD y.toNat Pl.dY).2.1.length = ((List.take x s).getD y.toNat Pl.dY).2.1.length ∧ y.toNat < (List.take x s).length ∧ (1 : Nat) < (3 : Nat) ∧ (((List.take x s).getD y.toNat Pl.dY).2.1.length + (1 : Nat)) * (8 : Nat) ≤ (70368744177664 : Nat) ∧ ((0 : Int) ≤ y ∧ y < (↑x : Int)) ∧ y.toNat < (List.take x s).length ∧ ∃ y_3 : Pl.Sig × Int,
 (Pl.SgB (n + (1 : Nat)) (k + (1 : Nat)) y_3.1 ∧ p ≤ y_3.2 ∧ y_3.2 ≤ p + (100 : Int)) ∧ (0 : Nat) + x ≤ (List.take x s).length ∧ ((Is
 (AV.sl x (3 : Nat) fun (i j : Nat) =>
 storeC (cY (List.take x s)) y.toNat ((1 : Nat))
 [AV.sl (((List.take x s).getD y.toNat Pl.dY).2.1.length + (1 : Nat)) (1 : Nat)
 (joinC ((List.take x s).getD y.toNat Pl.dY).2.1.length
 (cI ((List.take x s).getD y.toNat Pl.dY).2.1) (rowsCell [[i64 y_2]]))]
 i j)
 (syms y_3.1) ∧ True) ∧ True) ∧ (Is (byts x_4.1) (byts b) ∧ x_4.2.1 + (1 : Int) = y_3.2 ∧ True) ∧ True) ∧ ∃ x_4 : List Int × Int × List Int,
 (Rd (1099511627776 : Int) x_4.1 x_4.2.1 ∧ x_4.2.2 ≠ [] ∧ Sz x_4.2.2) ∧ (((0 : Nat) = (0 : Nat) ∧ Is (AV.lit (4 : Nat) (1 : Nat) (rowsCell [[i64 (0 : Int)], [i64 (2 : Int)], [i64 (-1 : Int)], [i64 (1 : Int)]]))
 (ints x_4.2.2) ∧ True) ∧ (Is (byts x_3.1) (byts x_4.1) ∧ x_3.2.1 + (1 : Int) = x_4.2.1 ∧ True) ∧ True) ∧ ∀ (y_2 : Int),
 y_2 ∈ x_4.2.2 →
 ((0 : Int) ≤ y ∧ y < (↑x : Int)) ∧ y.toNat < (List.take x s).length ∧ ((List.take x s).getD y.toNat Pl.dY).2.1.length = ((List.take x s).getD y.toNat Pl.dY).2.1.length ∧ y.toNat < (List.take x s).length ∧ (1 : Nat) < (3 : Nat) ∧ (((List.take x s).getD y.toNat Pl.dY).2.1.length + (1 : Nat)) * (8 : Nat) ≤ (70368744177664 : Nat) ∧ ((0 : Int) ≤ y ∧ y < (↑x : Int)) ∧ y.toNat < (List.take x s).length ∧ ∃ y_3 : Pl.Sig × Int,
 (Pl.SgB (n + (1 : Nat)) (k + (1 : Nat)) y_3.1 ∧ p ≤ y_3.2 ∧ y_3.2 ≤ p + (100 : Int)) ∧ (0 : Nat) + x ≤ (List.take x s).length ∧ ((Is
 (AV.sl x (3 : Nat) fun (i j : Nat) =>
 storeC (cY (List.take x s)) y.toNat ((1 : Nat))
 [AV.sl (((List.take x s).getD y.toNat Pl.dY).2.1.length + (1 : Nat)) (1 : Nat)
 (joinC ((List.take x s).getD y.toNat Pl.dY).2.1.length
 (cI ((List.take x s).getD y.toNat Pl.dY).2.1) (rowsCell [[i64 y_2]]))]
 i j)
 (syms y_3.1) ∧ True) ∧ True) ∧ (Is (byts x_4.1) (byts b) ∧ x_4.2.1 + (1 : Int) = y_3.2 ∧ True) ∧ True)
 (condP (y_1 == (2 : Int))
 ((∃ x_4 : List Int × Int × List Int,
 (Rd (1099511627776 : Int) x_4.1 x_4.2.1 ∧ x_4.2.2 ≠ [] ∧ Sz x_4.2.2) ∧ (((0 : Nat) = (0 : Nat) ∧ Is (AV.lit (4 : Nat) (1 : Nat) (rowsCell [[i64 (1 : Int)], [i64 (2 : Int)], [i64 (-1 : Int)], [i64 (0 : Int)]]))
 (ints x_4.2.2) ∧ True) ∧ (Is (byts x_3.1) (byts x_4.1) ∧ x_3.2.1 + (1 : Int) = x_4.2.1 ∧ True) ∧ True) ∧ ∀ (y_2 : Int),
 y_2 ∈ x_4.2.2 →
 ((0 : Int) ≤ y ∧ y < (↑x : Int)) ∧ y.toNat < (List.take x s).length ∧ ∃ y_3 : Pl.Sig × Int,
 (Pl.SgB (n + (1 : Nat)) (k + (1 : Nat)) y_3.1 ∧ p ≤ y_3.2 ∧ y_3.2 ≤ p + (100 : Int)) ∧ (0 : Nat) + x ≤ (List.take x s).length ∧ ((Is (AV.sl x (3 : Nat) fun (i j : Nat) => storeC (cY (List.take x s)) y.toNat ((2 : Nat)) [i64 y_2] i j)
 (syms y_3.1) ∧ True) ∧ True) ∧ (Is (byts x_4.1) (byts b) ∧ x_4.2.1 + (1 : Int) = y_3.2 ∧ True) ∧ True) ∧ ∃ x_4 : List Int × Int × List Int,
 (Rd (1099511627776 : Int) x_4.1 x_4.2.1 ∧ x_4.2.2 ≠ [] ∧ Sz x_4.2.2) ∧ (((0 : Nat) = (0 : Nat) ∧ Is (AV.lit (4 : Nat) (1 : Nat) (rowsCell [[i64 (1 : Int)], [i64 (2 : Int)], [i64 (-1 : Int)], [i64 (0 : Int)]]))
 (ints x_4.2.2) ∧ True) ∧ (Is (byts x_3.1) (byts x_4.1) ∧ x_3.2.1 + (1 : Int) = x_4.2.1 ∧ True) ∧ True) ∧ ∀ (y_2 : Int),
 y_2 ∈ x_4.2.2 →
 ((0 : Int) ≤ y ∧ y < (↑x : Int)) ∧ y.toNat < (List.take x s).length ∧ ∃ y_3 : Pl.Sig × Int,
 (Pl.SgB (n + (1 : Nat)) (k + (1 : Nat)) y_3.1 ∧ p ≤ y_3.2 ∧ y_3.2 ≤ p + (100 : Int)) ∧ (0 : Nat) + x ≤ (List.take x s).length ∧ ((Is (AV.sl x (3 : Nat) fun (i j : Nat) => storeC (cY (List.take x s)) y.toNat ((2 : Nat)) [i64 y_2] i j)
 (syms y_3.1) ∧ True) ∧ True) ∧ (Is (byts x_4.1) (byts b) ∧ x_4.2.1 + (1 : Int) = y_3.2 ∧ True) ∧ True)
 (condP (y_1 == (3 : Int))
 (((0 : Int) ≤ y ∧ y < (↑x : Int)) ∧ y.toNat < (List.take x s).length ∧ ((List.take x s).getD y.toNat Pl.dY).2.1.length = ((List.take x s).getD y.toNat Pl.dY).2.1.length ∧ y.toNat < (List.take x s).length ∧ (0 : Nat) + x ≤ (List.take x s).length ∧ (x + (1 : Nat)) * (48 : Nat) ≤ (70368744177664 : Nat) ∧ ∃ y_2 : Pl.Sig × Int,
 (Pl.SgB (n + (1 : Nat)) (k + (1 : Nat)) y_2.1 ∧ p ≤ y_2.2 ∧ y_2.2 ≤ p + (100 : Int)) ∧ (0 : Nat) + (x + (1 : Nat)) ≤ x + (1 : Nat) ∧ ((Is
 (AV.sl (x + (1 : Nat)) (3 : Nat) fun (i j : Nat) =>
 joinC x (cY (List.take x s))
 (rowsCell
 [[st ((List.take x s).getD y.toNat Pl.dY).1, ints ((List.take x s).getD y.toNat Pl.dY).2.1,
 i64 ((List.take x s).getD y.toNat Pl.dY).2.2]])
 i j)
 (syms y_2.1) ∧ True) ∧ True) ∧ (Is (byts x_3.1) (byts b) ∧ x_3.2.1 + (1 : Int) = y_2.2 ∧ True) ∧ True)
 ((∃ x_4 : Pl.Sig × Int,
 (Pl.SgB (n + (1 : Nat)) (k + (1 : Nat)) x_4.1 ∧ p ≤ x_4.2 ∧ x_4.2 ≤ p + (50 : Int) + (↑(List.length x_4.1) : Int)) ∧ ((0 : Nat) = (0 : Nat) ∧ (0 : Nat) = (0 : Nat) ∧ (0 : Nat) = (0 : Nat) ∧ True) ∧ (Is (byts x_3.1) (byts b) ∧ x_3.2.1 + (1 : Int) = x_4.2 ∧ True) ∧ True ∧ (Is (AV.lit (0 : Nat) (1 : Nat) fun (x x_5 : Nat) => AV.any) nilA ∧ True) ∧ (((0 : Nat) = (0 : Nat) ∧ x = List.length x_4.1) ∧ True) ∧ IsO (arY (List.take x s)) (arY x_4.1) ∧ True) ∧ ∀ (x : Pl.Sig × Int),
 Pl.SgB (n + (1 : Nat)) (k + (1 : Nat)) x.1 ∧ p ≤ x.2 ∧ x.2 ≤ p + (50 : Int) + (↑(List.length x.1) : Int) →
 condP (decide ((↑(List.length x.1) : Int) ≤ (7 : Int)))
 ((∃ x_4 : List Int × Int × List ByteArray,
 (Rd (1099511627776 : Int) x_4.1 x_4.2.1 ∧ x_4.2.2 ≠ [] ∧ Sz x_4.2.2) ∧ (((0 : Nat) = (0 : Nat) ∧ Is
 (AV.lit (3 : Nat) (1 : Nat)
 (rowsCell
 [[st (ByteArray.mk #[(97 : UInt8)])], [st (ByteArray.mk #[(98 : UInt8)])],
 [st (ByteArray.mk #[(122 : UInt8)])]]))
 (strs x_4.2.2) ∧ True) ∧ (Is (byts b) (byts x_4.1) ∧ x.2 = x_4.2.1 ∧ True) ∧ True) ∧ ∀ (y : ByteArray),
 y ∈ x_4.2.2 →
 (↑((1 : Nat) + y.size) : Int) ≤ (9223372036854775807 : Int) ∧ (0 : Nat) + List.length x.1 ≤ List.length x.1 ∧ (List.length x.1 + (1 : Nat)) * (48 : Nat) ≤ (70368744177664 : Nat) ∧ Exists fun (x' : Pl.Sig × Int) =>
 (Pl.SgB (n + (1 : Nat)) (k + (1 : Nat)) x'.1 ∧ p ≤ x'.2 ∧ x'.2 ≤ p + (50 : Int) + (↑(List.length x'.1) : Int)) ∧ (15 : Nat) - List.length x'.1 < (15 : Nat) - List.length x.1 ∧ ((0 : Nat) = (0 : Nat) ∧ (0 : Nat) = (0 : Nat) ∧ (0 : Nat) = (0 : Nat) ∧ True) ∧ (Is (byts x_4.1) (byts b) ∧ x_4.2.1 + (1 : Int) = x'.2 ∧ True) ∧ True ∧ (Is (AV.lit (0 : Nat) (1 : Nat) fun (x x_5 : Nat) => AV.any) nilA ∧ True) ∧ (((0 : Nat) = (0 : Nat) ∧ List.length x.1 + (1 : Nat) = List.length x'.1) ∧ True) ∧ IsO
 (AObj.arr (List.length x.1 + (1 : Nat)) (3 : Nat)
 (joinC (List.length x.1) (cY x.1)
 (rowsCell
 [[st (ByteArray.mk #[(122 : UInt8)] ++ y),
 AV.lit (0 : Nat) (1 : Nat) fun (x x_5 : Nat) => AV.any, i64 (0 : Int)]])))
 (arY x'.1) ∧ True) ∧ ∃ x_4 : List Int × Int × List ByteArray,
 (Rd (1099511627776 : Int) x_4.1 x_4.2.1 ∧ x_4.2.2 ≠ [] ∧ Sz x_4.2.2) ∧ (((0 : Nat) = (0 : Nat) ∧ Is
 (AV.lit (3 : Nat) (1 : Nat)
 (rowsCell
 [[st (ByteArray.mk #[(97 : UInt8)])], [st (ByteArray.mk #[(98 : UInt8)])],
 [st (ByteArray.mk #[(122 : UInt8)])]]))
 (strs x_4.2.2) ∧ True) ∧ (Is (byts b) (byts x_4.1) ∧ x.2 = x_4.2.1 ∧ True) ∧ True) ∧ ∀ (y : ByteArray),
 y ∈ x_4.2.2 →
 (↑((1 : Nat) + y.size) : Int) ≤ (9223372036854775807 : Int) ∧ (0 : Nat) + List.length x.1 ≤ List.length x.1 ∧ (List.length x.1 + (1 : Nat)) * (48 : Nat) ≤ (70368744177664 : Nat) ∧ Exists fun (x' : Pl.Sig × Int) =>
 (Pl.SgB (n + (1 : Nat)) (k + (1 : Nat)) x'.1 ∧ p ≤ x'.2 ∧ x'.2 ≤ p + (50 : Int) + (↑(List.length x'.1) : Int)) ∧ (15 : Nat) - List.length x'.1 < (15 : Nat) - List.length x.1 ∧ ((0 : Nat) = (0 : Nat) ∧ (0 : Nat) = (0 : Nat) ∧ (0 : Nat) = (0 : Nat) ∧ True) ∧ (Is (byts x_4.1) (byts b) ∧ x_4.2.1 + (1 : Int) = x'.2 ∧ True) ∧ True ∧ (Is (AV.lit (0 : Nat) (1 : Nat) fun (x x_5 : Nat) => AV.any) nilA ∧ True) ∧ (((0 : Nat) = (0 : Nat) ∧ List.length x.1 + (1 : Nat) = List.length x'.1) ∧ True) ∧ IsO
 (AObj.arr (List.length x.1 + (1 : Nat)) (3 : Nat)
 (joinC (List.length x.1) (cY x.1)
 (rowsCell
 [[st (ByteArray.mk #[(122 : UInt8)] ++ y),
 AV.lit (0 : Nat) (1 : Nat) fun (x x_5 : Nat) => AV.any, i64 (0 : Int)]])))
 (arY x'.1) ∧ True)
 (∃ y : Pl.Sig × Int,
 (Pl.SgB (n + (1 : Nat)) (k + (1 : Nat)) y.1 ∧ p ≤ y.2 ∧ y.2 ≤ p + (100 : Int)) ∧ (0 : Nat) + List.length x.1 ≤ List.length x.1 ∧ ((Is (syms x.1) (syms y.1) ∧ True) ∧ True) ∧ (Is (byts b) (byts b) ∧ x.2 = y.2 ∧ True) ∧ True))))))))) = Goal Tryz.prog [K_pick, K_num, K_of] (A_l4Bent b p s n k) K_l4Bent.1 K_l4Bent.2 ((b, p, s, n, k)) := by kernel_rfl

theorem vc_l7Any (b : List Int) (p : Int) (s : Pl.Sig) : ((∃ x : Nat × Pl.Mdl × Int,
 (x.1 ≤ List.length s ∧ Pl.MdB ((3 : Nat) * x.1) (2 : Nat) x.2.1 ∧ p ≤ x.2.2 ∧ x.2.2 ≤ p + (100 : Int) * (↑x.1 : Int)) ∧ ((0 : Nat) = (0 : Nat) ∧ (0 : Nat) = (0 : Nat) ∧ (0 : Nat) = (0 : Nat) ∧ ((0 : Nat) = (0 : Nat) ∧ (0 : Nat) = (0 : Nat) ∧ List.length x.2.1 = (0 : Nat)) ∧ (0 : Int) = (↑x.1 : Int) ∧ True) ∧ (Is (byts b) (byts b) ∧ p = x.2.2 ∧ True) ∧ (Is (syms s) (syms s) ∧ True) ∧ (Is (AV.lit (0 : Nat) (1 : Nat) fun (x x_1 : Nat) => AV.any) nilA ∧ True) ∧ List.length x.2.1 = (0 : Nat) ∧ True) ∧ ∀ (x : Nat × Pl.Mdl × Int),
 x.1 ≤ List.length s ∧ Pl.MdB ((3 : Nat) * x.1) (2 : Nat) x.2.1 ∧ p ≤ x.2.2 ∧ x.2.2 ≤ p + (100 : Int) * (↑x.1 : Int) →
 condP (decide ((↑x.1 : Int) < (↑(List.length s) : Int)))
 (∃ x_1 : List Int × Int × List Int,
 (Rd (1099511627776 : Int) x_1.1 x_1.2.1 ∧ x_1.2.2 ≠ [] ∧ Sz x_1.2.2) ∧ (((0 : Nat) = (0 : Nat) ∧ Is (AV.lit (3 : Nat) (1 : Nat) (rowsCell [[i64 (1 : Int)], [i64 (2 : Int)], [i64 (3 : Int)]])) (ints x_1.2.2) ∧ True) ∧ (Is (byts b) (byts x_1.1) ∧ x.2.2 = x_1.2.1 ∧ True) ∧ True) ∧ ∀ (y : Int),
 y ∈ x_1.2.2 →
 (∃ x_2 : Int × Pl.Mdl × Int,
 ((0 : Int) ≤ x_2.1 ∧ x_2.1 ≤ (3 : Int) ∧ Pl.MdB ((3 : Nat) * x.1 + (3 : Nat) - x_2.1.toNat) (2 : Nat) x_2.2.1 ∧ p ≤ x_2.2.2 ∧ x_2.2.2 ≤ p + (100 : Int) * (↑x.1 : Int) + (1 : Int) + (30 : Int) * ((3 : Int) - x_2.1)) ∧ ((0 : Nat) = (0 : Nat) ∧ (0 : Nat) = (0 : Nat) ∧ (0 : Nat) = (0 : Nat) ∧ ((0 : Nat) = (0 : Nat) ∧ List.length x.2.1 = List.length x_2.2.1) ∧ (↑x.1 : Int) = (↑x.1 : Int) ∧ y = x_2.1 ∧ True) ∧ (Is (byts x_1.1) (byts b) ∧ x_1.2.1 + (1 : Int) = x_2.2.2 ∧ True) ∧ (Is (syms s) (syms s) ∧ True) ∧ (Is (AV.lit (0 : Nat) (1 : Nat) fun (x x_3 : Nat) => AV.any) nilA ∧ True) ∧ IsO (xrR x.2.1) (xrR x_2.2.1) ∧ True) ∧ ∀ (x_2 : Int × Pl.Mdl × Int),
 (0 : Int) ≤ x_2.1 ∧ x_2.1 ≤ (3 : Int) ∧ Pl.MdB ((3 : Nat) * x.1 + (3 : Nat) - x_2.1.toNat) (2 : Nat) x_2.2.1 ∧ p ≤ x_2.2.2 ∧ x_2.2.2 ≤ p + (100 : Int) * (↑x.1 : Int) + (1 : Int) + (30 : Int) * ((3 : Int) - x_2.1) →
 condP (decide (x_2.1 > (0 : Int)))
 ((((0 : Int) ≤ (↑x.1 : Int) ∧ (↑x.1 : Int) < (↑(List.length s) : Int)) ∧ x.1 < List.length s ∧ (((0 : Int) ≤ (↑x.1 : Int) ∧ (↑x.1 : Int) < (↑(List.length s) : Int)) ∧ x.1 < List.length s ∧ (∃ x_3 : List Int × Int × Int,
 Rd (549755813888 : Int) x_3.1 x_3.2.1 ∧ (((0 : Nat) = (0 : Nat) ∧ (List.getD s x.1 Pl.dY).2.2 = x_3.2.2 ∧ True) ∧ (Is (byts b) (byts x_3.1) ∧ x_2.2.2 = x_3.2.1 ∧ True) ∧ True) ∧ ∀ (y : Pl.Rt × Int),
 x_3.2.1 ≤ y.2 ∧ y.2 ≤ x_3.2.1 + (2 : Int) →
 (∃ x_4 : Nat × List Pl.Rt × Pl.Rt × Int,
 (x_4.1 ≤ (List.getD s x.1 Pl.dY).2.1.length ∧ x_4.2.1.length = x_4.1 ∧ p ≤ x_4.2.2.2 ∧ x_4.2.2.2 ≤ p + (100 : Int) * (↑x.1 : Int) + (3 : Int) + (30 : Int) * ((3 : Int) - x_2.1) + (2 : Int) * (↑x_4.1 : Int)) ∧ ((0 : Nat) = (0 : Nat) ∧ (0 : Nat) = (0 : Nat) ∧ (0 : Nat) = (0 : Nat) ∧ ((0 : Nat) = (0 : Nat) ∧ List.length x_2.2.1 = List.length x_2.2.1) ∧ (↑x.1 : Int) = (↑x.1 : Int) ∧ x_2.1 = x_2.1 ∧ (0 : Nat) = (0 : Nat) ∧ (0 : Int) = (↑x_4.1 : Int) ∧ True) ∧ (Is (byts x_3.1) (byts b) ∧ y.2 = x_4.2.2.2 ∧ True) ∧ (Is (syms s) (syms s) ∧ True) ∧ (Is (AV.lit (0 : Nat) (1 : Nat) fun (x x_5 : Nat) => AV.any) nilA ∧ True) ∧ IsO (xrR x_2.2.1) (xrR x_2.2.1) ∧ ((List.getD s x.1 Pl.dY).1 = (List.getD s x.1 Pl.dY).1 ∧ ((0 : Nat) = (0 : Nat) ∧ (0 : Nat) = (0 : Nat) ∧ x_4.2.1.length = (0 : Nat)) ∧ y.1.1 = x_4.2.2.1.1 ∧ y.1.2 = x_4.2.2.1.2 ∧ True) ∧ x_4.2.1.length = (0 : Nat) ∧ True) ∧ ∀ (x_4 : Nat × List Pl.Rt × Pl.Rt × Int),
 x_4.1 ≤ (List.getD s x.1 Pl.dY).2.1.length ∧ x_4.2.1.length = x_4.1 ∧ p ≤ x_4.2.2.2 ∧ x_4.2.2.2 ≤ p + (100 : Int) * (↑x.1 : Int) + (3 : Int) + (30 : Int) * ((3 : Int) - x_2.1) + (2 : Int) * (↑x_4.1 : Int) →
 ((0 : Int) ≤ (↑x.1 : Int) ∧ (↑x.1 : Int) < (↑(List.length s) : Int)) ∧ x.1 < List.length s ∧ condP (decide ((↑x_4.1 : Int) < (↑(List.getD s x.1 Pl.dY).2.1.length : Int)))
 ((((0 : Int) ≤ (↑x.1 : Int) ∧ (↑x.1 : Int) < (↑(List.length s) : Int)) ∧ x.1 < List.length s ∧ ((0 : Int) ≤ (↑x_4.1 : Int) ∧ (↑x_4.1 : Int) < (↑(List.getD s x.1 Pl.dY).2.1.length : Int)) ∧ x_4.1 < (List.getD s x.1 Pl.dY).2.1.length ∧ ∃ x_5 : List Int × Int × Int,
 Rd (549755813888 : Int) x_5.1 x_5.2.1 ∧ (((0 : Nat) = (0 : Nat) ∧ (List.getD s x.1 Pl.dY).2.1.getD x_4.1 (0 : Int) = x_5.2.2 ∧ True) ∧ (Is (byts b) (byts x_5.1) ∧ x_4.2.2.2 = x_5.2.1 ∧ True) ∧ True) ∧ ∀ (y : Pl.Rt × Int),
 x_5.2.1 ≤ y.2 ∧ y.2 ≤ x_5.2.1 + (2 : Int) →
 (0 : Nat) + x_4.2.1.length ≤ x_4.2.1.length ∧ (x_4.2.1.length + (1 : Nat)) * (16 : Nat) ≤ (70368744177664 : Nat) ∧ Exists fun (x' : Nat × List Pl.Rt × Pl.Rt × Int) =>
 (x'.1 ≤ (List.getD s x.1 Pl.dY).2.1.length ∧ x'.2.1.length = x'.1 ∧ p ≤ x'.2.2.2 ∧ x'.2.2.2 ≤
 p + (100 : Int) * (↑x.1 : Int) + (3 : Int) + (30 : Int) * ((3 : Int) - x_2.1) +
 (2 : Int) * (↑x'.1 : Int)) ∧ (List.getD s x.1 Pl.dY).2.1.length - x'.1 < (List.getD s x.1 Pl.dY).2.1.length - x_4.1 ∧ ((0 : Nat) = (0 : Nat) ∧ (0 : Nat) = (0 : Nat) ∧ (0 : Nat) = (0 : Nat) ∧ ((0 : Nat) = (0 : Nat) ∧ List.length x_2.2.1 = List.length x_2.2.1) ∧ (↑x.1 : Int) = (↑x.1 : Int) ∧ x_2.1 = x_2.1 ∧ (0 : Nat) = (0 : Nat) ∧ IntKind.i64.wrap ((↑x_4.1 : Int) + (1 : Int)) = (↑x'.1 : Int) ∧ True) ∧ (Is (byts x_5.1) (byts b) ∧ y.2 = x'.2.2.2 ∧ True) ∧ (Is (syms s) (syms s) ∧ True) ∧ (Is (AV.lit (0 : Nat) (1 : Nat) fun (x x_6 : Nat) => AV.any) nilA ∧ True) ∧ IsO (xrR x_2.2.1) (xrR x_2.2.1) ∧ ((List.getD s x.1 Pl.dY).1 = (List.getD s x.1 Pl.dY).1 ∧ ((0 : Nat) = (0 : Nat) ∧ x_4.2.1.length + (1 : Nat) = x'.2.1.length) ∧ x_4.2.2.1.1 = x'.2.2.1.1 ∧ x_4.2.2.1.2 = x'.2.2.1.2 ∧ True) ∧ IsO
 (AObj.arr (x_4.2.1.length + (1 : Nat)) (2 : Nat)
 (joinC x_4.2.1.length (cQ x_4.2.1)
 (rowsCell [[i64 y.1.1, i64 y.1.2]])))
 (arQ x'.2.1) ∧ True) ∧ ((0 : Int) ≤ (↑x.1 : Int) ∧ (↑x.1 : Int) < (↑(List.length s) : Int)) ∧ x.1 < List.length s ∧ ((0 : Int) ≤ (↑x_4.1 : Int) ∧ (↑x_4.1 : Int) < (↑(List.getD s x.1 Pl.dY).2.1.length : Int)) ∧ x_4.1 < (List.getD s x.1 Pl.dY).2.1.length ∧ (∃ x_5 : List Int × Int × Int,
 Rd (549755813888 : Int) x_5.1 x_5.2.1 ∧ (((0 : Nat) = (0 : Nat) ∧ (List.getD s x.1 Pl.dY).2.1.getD x_4.1 (0 : Int) = x_5.2.2 ∧ True) ∧ (Is (byts b) (byts x_5.1) ∧ x_4.2.2.2 = x_5.2.1 ∧ True) ∧ True) ∧ ∀ (y : Pl.Rt × Int),
 x_5.2.1 ≤ y.2 ∧ y.2 ≤ x_5.2.1 + (2 : Int) →
 (0 : Nat) + x_4.2.1.length ≤ x_4.2.1.length ∧ (x_4.2.1.length + (1 : Nat)) * (16 : Nat) ≤ (70368744177664 : Nat) ∧ Exists fun (x' : Nat × List Pl.Rt × Pl.Rt × Int) =>
 (x'.1 ≤ (List.getD s x.1 Pl.dY).2.1.length ∧ x'.2.1.length = x'.1 ∧ p ≤ x'.2.2.2 ∧ x'.2.2.2 ≤
 p + (100 : Int) * (↑x.1 : Int) + (3 : Int) + (30 : Int) * ((3 : Int) - x_2.1) +
 (2 : Int) * (↑x'.1 : Int)) ∧ (List.getD s x.1 Pl.dY).2.1.length - x'.1 < (List.getD s x.1 Pl.dY).2.1.length - x_4.1 ∧ ((0 : Nat) = (0 : Nat) ∧ (0 : Nat) = (0 : Nat) ∧ (0 : Nat) = (0 : Nat) ∧ ((0 : Nat) = (0 : Nat) ∧ List.length x_2.2.1 = List.length x_2.2.1) ∧ (↑x.1 : Int) = (↑x.1 : Int) ∧ x_2.1 = x_2.1 ∧ (0 : Nat) = (0 : Nat) ∧ IntKind.i64.wrap ((↑x_4.1 : Int) + (1 : Int)) = (↑x'.1 : Int) ∧ True) ∧ (Is (byts x_5.1) (byts b) ∧ y.2 = x'.2.2.2 ∧ True) ∧ (Is (syms s) (syms s) ∧ True) ∧ (Is (AV.lit (0 : Nat) (1 : Nat) fun (x x_6 : Nat) => AV.any) nilA ∧ True) ∧ IsO (xrR x_2.2.1) (xrR x_2.2.1) ∧ ((List.getD s x.1 Pl.dY).1 = (List.getD s x.1 Pl.dY).1 ∧ ((0 : Nat) = (0 : Nat) ∧ x_4.2.1.length + (1 : Nat) = x'.2.1.length) ∧ x_4.2.2.1.1 = x'.2.2.1.1 ∧ x_4.2.2.1.2 = x'.2.2.1.2 ∧ True) ∧ IsO
 (AObj.arr (x_4.2.1.length + (1 : Nat)) (2 : Nat)
 (joinC x_4.2.1.length (cQ x_4.2.1)
 (rowsCell [[i64 y.1.1, i64 y.1.2]])))
 (arQ x'.2.1) ∧ True) ∧ ∃ x_5 : List Int × Int × Int,
 Rd (549755813888 : Int) x_5.1 x_5.2.1 ∧ (((0 : Nat) = (0 : Nat) ∧ (List.getD s x.1 Pl.dY).2.1.getD x_4.1 (0 : Int) = x_5.2.2 ∧ True) ∧ (Is (byts b) (byts x_5.1) ∧ x_4.2.2.2 = x_5.2.1 ∧ True) ∧ True) ∧ ∀ (y : Pl.Rt × Int),
 x_5.2.1 ≤ y.2 ∧ y.2 ≤ x_5.2.1 + (2 : Int) →
 (0 : Nat) + x_4.2.1.length ≤ x_4.2.1.length ∧ (x_4.2.1.length + (1 : Nat)) * (16 : Nat) ≤ (70368744177664 : Nat) ∧ Exists fun (x' : Nat × List Pl.Rt × Pl.Rt × Int) =>
 (x'.1 ≤ (List.getD s x.1 Pl.dY).2.1.length ∧ x'.2.1.length = x'.1 ∧ p ≤ x'.2.2.2 ∧ x'.2.2.2 ≤
 p + (100 : Int) * (↑x.1 : Int) + (3 : Int) + (30 : Int) * ((3 : Int) - x_2.1) +
 (2 : Int) * (↑x'.1 : Int)) ∧ (List.getD s x.1 Pl.dY).2.1.length - x'.1 < (List.getD s x.1 Pl.dY).2.1.length - x_4.1 ∧ ((0 : Nat) = (0 : Nat) ∧ (0 : Nat) = (0 : Nat) ∧ (0 : Nat) = (0 : Nat) ∧ ((0 : Nat) = (0 : Nat) ∧ List.length x_2.2.1 = List.length x_2.2.1) ∧ (↑x.1 : Int) = (↑x.1 : Int) ∧ x_2.1 = x_2.1 ∧ (0 : Nat) = (0 : Nat) ∧ IntKind.i64.wrap ((↑x_4.1 : Int) + (1 : Int)) = (↑x'.1 : Int) ∧ True) ∧ (Is (byts x_5.1) (byts b) ∧ y.2 = x'.2.2.2 ∧ True) ∧ (Is (syms s) (syms s) ∧ True) ∧ (Is (AV.lit (0 : Nat) (1 : Nat) fun (x x_6 : Nat) => AV.any) nilA ∧ True) ∧ IsO (xrR x_2.2.1) (xrR x_2.2.1) ∧ ((List.getD s x.1 Pl.dY).1 = (List.getD s x.1 Pl.dY).1 ∧ ((0 : Nat) = (0 : Nat) ∧ x_4.2.1.length + (1 : Nat) = x'.2.1.length) ∧ x_4.2.2.1.1 = x'.2.2.1.1 ∧ x_4.2.2.1.2 = x'.2.2.1.2 ∧ True) ∧ IsO
 (AObj.arr (x_4.2.1.length + (1 : Nat)) (2 : Nat)
 (joinC x_4.2.1.length (cQ x_4.2.1)
 (rowsCell [[i64 y.1.1, i64 y.1.2]])))
 (arQ x'.2.1) ∧ True)
 (∃ x_5 : List Pl.Rw × Pl.Rw,
 (x_5.1.length ≤ (1000 : Nat) ∧ (∀ (y : Pl.Rw), y ∈ x_5.1 → y.2.1.length ≤ (1000 : Nat)) ∧ x_5.2.2.1.length ≤ (1000 : Nat)) ∧ ((((0 : Nat) = (0 : Nat) ∧ List.length x_2.2.1 = x_5.1.length) ∧ ((List.getD s x.1 Pl.dY).1 = x_5.2.1 ∧ ((0 : Nat) = (0 : Nat) ∧ x_4.2.1.length = x_5.2.2.1.length) ∧ x_4.2.2.1.1 = x_5.2.2.2.1 ∧ x_4.2.2.1.2 = x_5.2.2.2.2 ∧ True) ∧ True) ∧ IsO (xrR x_2.2.1) (xrR x_5.1) ∧ IsO (arQ x_4.2.1) (arQ x_5.2.2.1) ∧ True) ∧ ∀ (y : List Nat),
 HPut x_5.1.length y →
 Exists fun (x' : Int × Pl.Mdl × Int) =>
 ((0 : Int) ≤ x'.1 ∧ x'.1 ≤ (3 : Int) ∧ Pl.MdB ((3 : Nat) * x.1 + (3 : Nat) - x'.1.toNat) (2 : Nat) x'.2.1 ∧ p ≤ x'.2.2 ∧ x'.2.2 ≤ p + (100 : Int) * (↑x.1 : Int) + (1 : Int) + (30 : Int) * ((3 : Int) - x'.1)) ∧ x'.1.toNat < x_2.1.toNat ∧ ((0 : Nat) = (0 : Nat) ∧ (0 : Nat) = (0 : Nat) ∧ (0 : Nat) = (0 : Nat) ∧ ((0 : Nat) = (0 : Nat) ∧ y.length = List.length x'.2.1) ∧ (↑x.1 : Int) = (↑x.1 : Int) ∧ IntKind.i64.wrap (x_2.1 - (1 : Int)) = x'.1 ∧ True) ∧ (Is (byts b) (byts b) ∧ x_4.2.2.2 = x'.2.2 ∧ True) ∧ (Is (syms s) (syms s) ∧ True) ∧ (Is (AV.lit (0 : Nat) (1 : Nat) fun (x x_6 : Nat) => AV.any) nilA ∧ True) ∧ IsO (xrR (List.map (fun (i : Nat) => (x_5.1 ++ [x_5.2]).getD i Pl.dR) y)) (xrR x'.2.1) ∧ True)) ∧ ∃ x_3 : List Int × Int × Int,
 Rd (549755813888 : Int) x_3.1 x_3.2.1 ∧ (((0 : Nat) = (0 : Nat) ∧ (List.getD s x.1 Pl.dY).2.2 = x_3.2.2 ∧ True) ∧ (Is (byts b) (byts x_3.1) ∧ x_2.2.2 = x_3.2.1 ∧ True) ∧ True) ∧ ∀ (y : Pl.Rt × Int),
 x_3.2.1 ≤ y.2 ∧ y.2 ≤ x_3.2.1 + (2 : Int) →
 (∃ x_4 : Nat × List Pl.Rt × Pl.Rt × Int,
 (x_4.1 ≤ (List.getD s x.1 Pl.dY).2.1.length ∧ x_4.2.1.length = x_4.1 ∧ p ≤ x_4.2.2.2 ∧ x_4.2.2.2 ≤ p + (100 : Int) * (↑x.1 : Int) + (3 : Int) + (30 : Int) * ((3 : Int) - x_2.1) + (2 : Int) * (↑x_4.1 : Int)) ∧ ((0 : Nat) = (0 : Nat) ∧ (0 : Nat) = (0 : Nat) ∧ (0 : Nat) = (0 : Nat) ∧ ((0 : Nat) = (0 : Nat) ∧ List.length x_2.2.1 = List.length x_2.2.1) ∧ (↑x.1 : Int) = (↑x.1 : Int) ∧ x_2.1 = x_2.1 ∧ (0 : Nat) = (0 : Nat) ∧ (0 : Int) = (↑x_4.1 : Int) ∧ True) ∧ (Is (byts x_3.1) (byts b) ∧ y.2 = x_4.2.2.2 ∧ True) ∧ (Is (syms s) (syms s) ∧ True) ∧ (Is (AV.lit (0 : Nat) (1 : Nat) fun (x x_5 : Nat) => AV.any) nilA ∧ True) ∧ IsO (xrR x_2.2.1) (xrR x_2.2.1) ∧ ((List.getD s x.1 Pl.dY).1 = (List.getD s x.1 Pl.dY).1 ∧ ((0 : Nat) = (0 : Nat) ∧ (0 : Nat) = (0 : Nat) ∧ x_4.2.1.length = (0 : Nat)) ∧ y.1.1 = x_4.2.2.1.1 ∧ y.1.2 = x_4.2.2.1.2 ∧ True) ∧ x_4.2.1.length = (0 : Nat) ∧ True) ∧ ∀ (x_4 : Nat × List Pl.Rt × Pl.Rt × Int),
 x_4.1 ≤ (List.getD s x.1 Pl.dY).2.1.length ∧ x_4.2.1.length = x_4.1 ∧ p ≤ x_4.2.2.2 ∧ x_4.2.2.2 ≤ p + (100 : Int) * (↑x.1 : Int) + (3 : Int) + (30 : Int) * ((3 : Int) - x_2.1) + (2 : Int) * (↑x_4.1 : Int) →
 ((0 : Int) ≤ (↑x.1 : Int) ∧ (↑x.1 : Int) < (↑(List.length s) : Int)) ∧ x.1 < List.length s ∧ condP (decide ((↑x_4.1 : Int) < (↑(List.getD s x.1 Pl.dY).2.1.length : Int)))
 ((((0 : Int) ≤ (↑x.1 : Int) ∧ (↑x.1 : Int) < (↑(List.length s) : Int)) ∧ x.1 < List.length s ∧ ((0 : Int) ≤ (↑x_4.1 : Int) ∧ (↑x_4.1 : Int) < (↑(List.getD s x.1 Pl.dY).2.1.length : Int)) ∧ x_4.1 < (List.getD s x.1 Pl.dY).2.1.length ∧ ∃ x_5 : List Int × Int × Int,
 Rd (549755813888 : Int) x_5.1 x_5.2.1 ∧ (((0 : Nat) = (0 : Nat) ∧ (List.getD s x.1 Pl.dY).2.1.getD x_4.1 (0 : Int) = x_5.2.2 ∧ True) ∧ (Is (byts b) (byts x_5.1) ∧ x_4.2.2.2 = x_5.2.1 ∧ True) ∧ True) ∧ ∀ (y : Pl.Rt × Int),
 x_5.2.1 ≤ y.2 ∧ y.2 ≤ x_5.2.1 + (2 : Int) →
 (0 : Nat) + x_4.2.1.length ≤ x_4.2.1.length ∧ (x_4.2.1.length + (1 : Nat)) * (16 : Nat) ≤ (70368744177664 : Nat) ∧ Exists fun (x' : Nat × List Pl.Rt × Pl.Rt × Int) =>
 (x'.1 ≤ (List.getD s x.1 Pl.dY).2.1.length ∧ x'.2.1.length = x'.1 ∧ p ≤ x'.2.2.2 ∧ x'.2.2.2 ≤
 p + (100 : Int) * (↑x.1 : Int) + (3 : Int) + (30 : Int) * ((3 : Int) - x_2.1) +
 (2 : Int) * (↑x'.1 : Int)) ∧ (List.getD s x.1 Pl.dY).2.1.length - x'.1 < (List.getD s x.1 Pl.dY).2.1.length - x_4.1 ∧ ((0 : Nat) = (0 : Nat) ∧ (0 : Nat) = (0 : Nat) ∧ (0 : Nat) = (0 : Nat) ∧ ((0 : Nat) = (0 : Nat) ∧ List.length x_2.2.1 = List.length x_2.2.1) ∧ (↑x.1 : Int) = (↑x.1 : Int) ∧ x_2.1 = x_2.1 ∧ (0 : Nat) = (0 : Nat) ∧ IntKind.i64.wrap ((↑x_4.1 : Int) + (1 : Int)) = (↑x'.1 : Int) ∧ True) ∧ (Is (byts x_5.1) (byts b) ∧ y.2 = x'.2.2.2 ∧ True) ∧ (Is (syms s) (syms s) ∧ True) ∧ (Is (AV.lit (0 : Nat) (1 : Nat) fun (x x_6 : Nat) => AV.any) nilA ∧ True) ∧ IsO (xrR x_2.2.1) (xrR x_2.2.1) ∧ ((List.getD s x.1 Pl.dY).1 = (List.getD s x.1 Pl.dY).1 ∧ ((0 : Nat) = (0 : Nat) ∧ x_4.2.1.length + (1 : Nat) = x'.2.1.length) ∧ x_4.2.2.1.1 = x'.2.2.1.1 ∧ x_4.2.2.1.2 = x'.2.2.1.2 ∧ True) ∧ IsO
 (AObj.arr (x_4.2.1.length + (1 : Nat)) (2 : Nat)
 (joinC x_4.2.1.length (cQ x_4.2.1)
 (rowsCell [[i64 y.1.1, i64 y.1.2]])))
 (arQ x'.2.1) ∧ True) ∧ ((0 : Int) ≤ (↑x.1 : Int) ∧ (↑x.1 : Int) < (↑(List.length s) : Int)) ∧ x.1 < List.length s ∧ ((0 : Int) ≤ (↑x_4.1 : Int) ∧ (↑x_4.1 : Int) < (↑(List.getD s x.1 Pl.dY).2.1.length : Int)) ∧ x_4.1 < (List.getD s x.1 Pl.dY).2.1.length ∧ (∃ x_5 : List Int × Int × Int,
 Rd (549755813888 : Int) x_5.1 x_5.2.1 ∧ (((0 : Nat) = (0 : Nat) ∧ (List.getD s x.1 Pl.dY).2.1.getD x_4.1 (0 : Int) = x_5.2.2 ∧ True) ∧ (Is (byts b) (byts x_5.1) ∧ x_4.2.2.2 = x_5.2.1 ∧ True) ∧ True) ∧ ∀ (y : Pl.Rt × Int),
 x_5.2.1 ≤ y.2 ∧ y.2 ≤ x_5.2.1 + (2 : Int) →
 (0 : Nat) + x_4.2.1.length ≤ x_4.2.1.length ∧ (x_4.2.1.length + (1 : Nat)) * (16 : Nat) ≤ (70368744177664 : Nat) ∧ Exists fun (x' : Nat × List Pl.Rt × Pl.Rt × Int) =>
 (x'.1 ≤ (List.getD s x.1 Pl.dY).2.1.length ∧ x'.2.1.length = x'.1 ∧ p ≤ x'.2.2.2 ∧ x'.2.2.2 ≤
 p + (100 : Int) * (↑x.1 : Int) + (3 : Int) + (30 : Int) * ((3 : Int) - x_2.1) +
 (2 : Int) * (↑x'.1 : Int)) ∧ (List.getD s x.1 Pl.dY).2.1.length - x'.1 < (List.getD s x.1 Pl.dY).2.1.length - x_4.1 ∧ ((0 : Nat) = (0 : Nat) ∧ (0 : Nat) = (0 : Nat) ∧ (0 : Nat) = (0 : Nat) ∧ ((0 : Nat) = (0 : Nat) ∧ List.length x_2.2.1 = List.length x_2.2.1) ∧ (↑x.1 : Int) = (↑x.1 : Int) ∧ x_2.1 = x_2.1 ∧ (0 : Nat) = (0 : Nat) ∧ IntKind.i64.wrap ((↑x_4.1 : Int) + (1 : Int)) = (↑x'.1 : Int) ∧ True) ∧ (Is (byts x_5.1) (byts b) ∧ y.2 = x'.2.2.2 ∧ True) ∧ (Is (syms s) (syms s) ∧ True) ∧ (Is (AV.lit (0 : Nat) (1 : Nat) fun (x x_6 : Nat) => AV.any) nilA ∧ True) ∧ IsO (xrR x_2.2.1) (xrR x_2.2.1) ∧ ((List.getD s x.1 Pl.dY).1 = (List.getD s x.1 Pl.dY).1 ∧ ((0 : Nat) = (0 : Nat) ∧ x_4.2.1.length + (1 : Nat) = x'.2.1.length) ∧ x_4.2.2.1.1 = x'.2.2.1.1 ∧ x_4.2.2.1.2 = x'.2.2.1.2 ∧ True) ∧ IsO
 (AObj.arr (x_4.2.1.length + (1 : Nat)) (2 : Nat)
 (joinC x_4.2.1.length (cQ x_4.2.1)
 (rowsCell [[i64 y.1.1, i64 y.1.2]])))
 (arQ x'.2.1) ∧ True) ∧ ∃ x_5 : List Int × Int × Int,
 Rd (549755813888 : Int) x_5.1 x_5.2.1 ∧ (((0 : Nat) = (0 : Nat) ∧ (List.getD s x.1 Pl.dY).2.1.getD x_4.1 (0 : Int) = x_5.2.2 ∧ True) ∧ (Is (byts b) (byts x_5.1) ∧ x_4.2.2.2 = x_5.2.1 ∧ True) ∧ True) ∧ ∀ (y : Pl.Rt × Int),
 x_5.2.1 ≤ y.2 ∧ y.2 ≤ x_5.2.1 + (2 : Int) →
 (0 : Nat) + x_4.2.1.length ≤ x_4.2.1.length ∧ (x_4.2.1.length + (1 : Nat)) * (16 : Nat) ≤ (70368744177664 : Nat) ∧ Exists fun (x' : Nat × List Pl.Rt × Pl.Rt × Int) =>
 (x'.1 ≤ (List.getD s x.1 Pl.dY).2.1.length ∧ x'.2.1.length = x'.1 ∧ p ≤ x'.2.2.2 ∧ x'.2.2.2 ≤
 p + (100 : Int) * (↑x.1 : Int) + (3 : Int) + (30 : Int) * ((3 : Int) - x_2.1) +
 (2 : Int) * (↑x'.1 : Int)) ∧ (List.getD s x.1 Pl.dY).2.1.length - x'.1 < (List.getD s x.1 Pl.dY).2.1.length - x_4.1 ∧ ((0 : Nat) = (0 : Nat) ∧ (0 : Nat) = (0 : Nat) ∧ (0 : Nat) = (0 : Nat) ∧ ((0 : Nat) = (0 : Nat) ∧ List.length x_2.2.1 = List.length x_2.2.1) ∧ (↑x.1 : Int) = (↑x.1 : Int) ∧ x_2.1 = x_2.1 ∧ (0 : Nat) = (0 : Nat) ∧ IntKind.i64.wrap ((↑x_4.1 : Int) + (1 : Int)) = (↑x'.1 : Int) ∧ True) ∧ (Is (byts x_5.1) (byts b) ∧ y.2 = x'.2.2.2 ∧ True) ∧ (Is (syms s) (syms s) ∧ True) ∧ (Is (AV.lit (0 : Nat) (1 : Nat) fun (x x_6 : Nat) => AV.any) nilA ∧ True) ∧ IsO (xrR x_2.2.1) (xrR x_2.2.1) ∧ ((List.getD s x.1 Pl.dY).1 = (List.getD s x.1 Pl.dY).1 ∧ ((0 : Nat) = (0 : Nat) ∧ x_4.2.1.length + (1 : Nat) = x'.2.1.length) ∧ x_4.2.2.1.1 = x'.2.2.1.1 ∧ x_4.2.2.1.2 = x'.2.2.1.2 ∧ True) ∧ IsO
 (AObj.arr (x_4.2.1.length + (1 : Nat)) (2 : Nat)
 (joinC x_4.2.1.length (cQ x_4.2.1)
 (rowsCell [[i64 y.1.1, i64 y.1.2]])))
 (arQ x'.2.1) ∧ True)
 (∃ x_5 : List Pl.Rw × Pl.Rw,
 (x_5.1.length ≤ (1000 : Nat) ∧ (∀ (y : Pl.Rw), y ∈ x_5.1 → y.2.1.length ≤ (1000 : Nat)) ∧ x_5.2.2.1.length ≤ (1000 : Nat)) ∧ ((((0 : Nat) = (0 : Nat) ∧ List.length x_2.2.1 = x_5.1.length) ∧ ((List.getD s x.1 Pl.dY).1 = x_5.2.1 ∧ ((0 : Nat) = (0 : Nat) ∧ x_4.2.1.length = x_5.2.2.1.length) ∧ x_4.2.2.1.1 = x_5.2.2.2.1 ∧ x_4.2.2.1.2 = x_5.2.2.2.2 ∧ True) ∧ True) ∧ IsO (xrR x_2.2.1) (xrR x_5.1) ∧ IsO (arQ x_4.2.1) (arQ x_5.2.2.1) ∧ True) ∧ ∀ (y : List Nat),
 HPut x_5.1.length y →
 Exists fun (x' : Int × Pl.Mdl × Int) =>
 ((0 : Int) ≤ x'.1 ∧ x'.1 ≤ (3 : Int) ∧ Pl.MdB ((3 : Nat) * x.1 + (3 : Nat) - x'.1.toNat) (2 : Nat) x'.2.1 ∧ p ≤ x'.2.2 ∧ x'.2.2 ≤ p + (100 : Int) * (↑x.1 : Int) + (1 : Int) + (30 : Int) * ((3 : Int) - x'.1)) ∧ x'.1.toNat < x_2.1.toNat ∧ ((0 : Nat) = (0 : Nat) ∧ (0 : Nat) = (0 : Nat) ∧ (0 : Nat) = (0 : Nat) ∧ ((0 : Nat) = (0 : Nat) ∧ y.length = List.length x'.2.1) ∧ (↑x.1 : Int) = (↑x.1 : Int) ∧ IntKind.i64.wrap (x_2.1 - (1 : Int)) = x'.1 ∧ True) ∧ (Is (byts b) (byts b) ∧ x_4.2.2.2 = x'.2.2 ∧ True) ∧ (Is (syms s) (syms s) ∧ True) ∧ (Is (AV.lit (0 : Nat) (1 : Nat) fun (x x_6 : Nat) => AV.any) nilA ∧ True) ∧ IsO (xrR (List.map (fun (i : Nat) => (x_5.1 ++ [x_5.2]).getD i Pl.dR) y)) (xrR x'.2.1) ∧ True)) ∧ ((0 : Int) ≤ (↑x.1 : Int) ∧ (↑x.1 : Int) < (↑(List.length s) : Int)) ∧ x.1 < List.length s ∧ ∃ x_3 : List Int × Int × Int,
 Rd (549755813888 : Int) x_3.1 x_3.2.1 ∧ (((0 : Nat) = (0 : Nat) ∧ (List.getD s x.1 Pl.dY).2.2 = x_3.2.2 ∧ True) ∧ (Is (byts b) (byts x_3.1) ∧ x_2.2.2 = x_3.2.1 ∧ True) ∧ True) ∧ ∀ (y : Pl.Rt × Int),
 x_3.2.1 ≤ y.2 ∧ y.2 ≤ x_3.2.1 + (2 : Int) →
 (∃ x_4 : Nat × List Pl.Rt × Pl.Rt × Int,
 (x_4.1 ≤ (List.getD s x.1 Pl.dY).2.1.length ∧ x_4.2.1.length = x_4.1 ∧ p ≤ x_4.2.2.2 ∧ x_4.2.2.2 ≤ p + (100 : Int) * (↑x.1 : Int) + (3 : Int) + (30 : Int) * ((3 : Int) - x_2.1) + (2 : Int) * (↑x_4.1 : Int)) ∧ ((0 : Nat) = (0 : Nat) ∧ (0 : Nat) = (0 : Nat) ∧ (0 : Nat) = (0 : Nat) ∧ ((0 : Nat) = (0 : Nat) ∧ List.length x_2.2.1 = List.length x_2.2.1) ∧ (↑x.1 : Int) = (↑x.1 : Int) ∧ x_2.1 = x_2.1 ∧ (0 : Nat) = (0 : Nat) ∧ (0 : Int) = (↑x_4.1 : Int) ∧ True) ∧ (Is (byts x_3.1) (byts b) ∧ y.2 = x_4.2.2.2 ∧ True) ∧ (Is (syms s) (syms s) ∧ True) ∧ (Is (AV.lit (0 : Nat) (1 : Nat) fun (x x_5 : Nat) => AV.any) nilA ∧ True) ∧ IsO (xrR x_2.2.1) (xrR x_2.2.1) ∧ ((List.getD s x.1 Pl.dY).1 = (List.getD s x.1 Pl.dY).1 ∧ ((0 : Nat) = (0 : Nat) ∧ (0 : Nat) = (0 : Nat) ∧ x_4.2.1.length = (0 : Nat)) ∧ y.1.1 = x_4.2.2.1.1 ∧ y.1.2 = x_4.2.2.1.2 ∧ True) ∧ x_4.2.1.length = (0 : Nat) ∧ True) ∧ ∀ (x_4 : Nat × List Pl.Rt × Pl.Rt × Int),
 x_4.1 ≤ (List.getD s x.1 Pl.dY).2.1.length ∧ x_4.2.1.length = x_4.1 ∧ p ≤ x_4.2.2.2 ∧ x_4.2.2.2 ≤ p + (100 : Int) * (↑x.1 : Int) + (3 : Int) + (30 : Int) * ((3 : Int) - x_2.1) + (2 : Int) * (↑x_4.1 : Int) →
 ((0 : Int) ≤ (↑x.1 : Int) ∧ (↑x.1 : Int) < (↑(List.length s) : Int)) ∧ x.1 < List.length s ∧ condP (decide ((↑x_4.1 : Int) < (↑(List.getD s x.1 Pl.dY).2.1.length : Int)))
 ((((0 : Int) ≤ (↑x.1 : Int) ∧ (↑x.1 : Int) < (↑(List.length s) : Int)) ∧ x.1 < List.length s ∧ ((0 : Int) ≤ (↑x_4.1 : Int) ∧ (↑x_4.1 : Int) < (↑(List.getD s x.1 Pl.dY).2.1.length : Int)) ∧ x_4.1 < (List.getD s x.1 Pl.dY).2.1.length ∧ ∃ x_5 : List Int × Int × Int,
 Rd (549755813888 : Int) x_5.1 x_5.2.1 ∧ (((0 : Nat) = (0 : Nat) ∧ (List.getD s x.1 Pl.dY).2.1.getD x_4.1 (0 : Int) = x_5.2.2 ∧ True) ∧ (Is (byts b) (byts x_5.1) ∧ x_4.2.2.2 = x_5.2.1 ∧ True) ∧ True) ∧ ∀ (y : Pl.Rt × Int),
 x_5.2.1 ≤ y.2 ∧ y.2 ≤ x_5.2.1 + (2 : Int) →
 (0 : Nat) + x_4.2.1.length ≤ x_4.2.1.length ∧ (x_4.2.1.length + (1 : Nat)) * (16 : Nat) ≤ (70368744177664 : Nat) ∧ Exists fun (x' : Nat × List Pl.Rt × Pl.Rt × Int) =>
 (x'.1 ≤ (List.getD s x.1 Pl.dY).2.1.length ∧ x'.2.1.length = x'.1 ∧ p ≤ x'.2.2.2 ∧ x'.2.2.2 ≤
 p + (100 : Int) * (↑x.1 : Int) + (3 : Int) + (30 : Int) * ((3 : Int) - x_2.1) +
 (2 : Int) * (↑x'.1 : Int)) ∧ (List.getD s x.1 Pl.dY).2.1.length - x'.1 < (List.getD s x.1 Pl.dY).2.1.length - x_4.1 ∧ ((0 : Nat) = (0 : Nat) ∧ (0 : Nat) = (0 : Nat) ∧ (0 : Nat) = (0 : Nat) ∧ ((0 : Nat) = (0 : Nat) ∧ List.length x_2.2.1 = List.length x_2.2.1) ∧ (↑x.1 : Int) = (↑x.1 : Int) ∧ x_2.1 = x_2.1 ∧ (0 : Nat) = (0 : Nat) ∧ IntKind.i64.wrap ((↑x_4.1 : Int) + (1 : Int)) = (↑x'.1 : Int) ∧ True) ∧ (Is (byts x_5.1) (byts b) ∧ y.2 = x'.2.2.2 ∧ True) ∧ (Is (syms s) (syms s) ∧ True) ∧ (Is (AV.lit (0 : Nat) (1 : Nat) fun (x x_6 : Nat) => AV.any) nilA ∧ True) ∧ IsO (xrR x_2.2.1) (xrR x_2.2.1) ∧ ((List.getD s x.1 Pl.dY).1 = (List.getD s x.1 Pl.dY).1 ∧ ((0 : Nat) = (0 : Nat) ∧ x_4.2.1.length + (1 : Nat) = x'.2.1.length) ∧ x_4.2.2.1.1 = x'.2.2.1.1 ∧ x_4.2.2.1.2 = x'.2.2.1.2 ∧ True) ∧ IsO
 (AObj.arr (x_4.2.1.length + (1 : Nat)) (2 : Nat)
 (joinC x_4.2.1.length (cQ x_4.2.1)
 (rowsCell [[i64 y.1.1, i64 y.1.2]])))
 (arQ x'.2.1) ∧ True) ∧ ((0 : Int) ≤ (↑x.1 : Int) ∧ (↑x.1 : Int) < (↑(List.length s) : Int)) ∧ x.1 < List.length s ∧ ((0 : Int) ≤ (↑x_4.1 : Int) ∧ (↑x_4.1 : Int) < (↑(List.getD s x.1 Pl.dY).2.1.length : Int)) ∧ x_4.1 < (List.getD s x.1 Pl.dY).2.1.length ∧ (∃ x_5 : List Int × Int × Int,
 Rd (549755813888 : Int) x_5.1 x_5.2.1 ∧ (((0 : Nat) = (0 : Nat) ∧ (List.getD s x.1 Pl.dY).2.1.getD x_4.1 (0 : Int) = x_5.2.2 ∧ True) ∧ (Is (byts b) (byts x_5.1) ∧ x_4.2.2.2 = x_5.2.1 ∧ True) ∧ True) ∧ ∀ (y : Pl.Rt × Int),
 x_5.2.1 ≤ y.2 ∧ y.2 ≤ x_5.2.1 + (2 : Int) →
 (0 : Nat) + x_4.2.1.length ≤ x_4.2.1.length ∧ (x_4.2.1.length + (1 : Nat)) * (16 : Nat) ≤ (70368744177664 : Nat) ∧ Exists fun (x' : Nat × List Pl.Rt × Pl.Rt × Int) =>
 (x'.1 ≤ (List.getD s x.1 Pl.dY).2.1.length ∧ x'.2.1.length = x'.1 ∧ p ≤ x'.2.2.2 ∧ x'.2.2.2 ≤
 p + (100 : Int) * (↑x.1 : Int) + (3 : Int) + (30 : Int) * ((3 : Int) - x_2.1) +
 (2 : Int) * (↑x'.1 : Int)) ∧ (List.getD s x.1 Pl.dY).2.1.length - x'.1 < (List.getD s x.1 Pl.dY).2.1.length - x_4.1 ∧ ((0 : Nat) = (0 : Nat) ∧ (0 : Nat) = (0 : Nat) ∧ (0 : Nat) = (0 : Nat) ∧ ((0 : Nat) = (0 : Nat) ∧ List.length x_2.2.1 = List.length x_2.2.1) ∧ (↑x.1 : Int) = (↑x.1 : Int) ∧ x_2.1 = x_2.1 ∧ (0 : Nat) = (0 : Nat) ∧ IntKind.i64.wrap ((↑x_4.1 : Int) + (1 : Int)) = (↑x'.1 : Int) ∧ True) ∧ (Is (byts x_5.1) (byts b) ∧ y.2 = x'.2.2.2 ∧ True) ∧ (Is (syms s) (syms s) ∧ True) ∧ (Is (AV.lit (0 : Nat) (1 : Nat) fun (x x_6 : Nat) => AV.any) nilA ∧ True) ∧ IsO (xrR x_2.2.1) (xrR x_2.2.1) ∧ ((List.getD s x.1 Pl.dY).1 = (List.getD s x.1 Pl.dY).1 ∧ ((0 : Nat) = (0 : Nat) ∧ x_4.2.1.length + (1 : Nat) = x'.2.1.length) ∧ x_4.2.2.1.1 = x'.2.2.1.1 ∧ x_4.2.2.1.2 = x'.2.2.1.2 ∧ True) ∧ IsO
 (AObj.arr (x_4.2.1.length + (1 : Nat)) (2 : Nat)
 (joinC x_4.2.1.length (cQ x_4.2.1)
 (rowsCell [[i64 y.1.1, i64 y.1.2]])))
 (arQ x'.2.1) ∧ True) ∧ ∃ x_5 : List Int × Int × Int,
 Rd (549755813888 : Int) x_5.1 x_5.2.1 ∧ (((0 : Nat) = (0 : Nat) ∧ (List.getD s x.1 Pl.dY).2.1.getD x_4.1 (0 : Int) = x_5.2.2 ∧ True) ∧ (Is (byts b) (byts x_5.1) ∧ x_4.2.2.2 = x_5.2.1 ∧ True) ∧ True) ∧ ∀ (y : Pl.Rt × Int),
 x_5.2.1 ≤ y.2 ∧ y.2 ≤ x_5.2.1 + (2 : Int) →
 (0 : Nat) + x_4.2.1.length ≤ x_4.2.1.length ∧ (x_4.2.1.length + (1 : Nat)) * (16 : Nat) ≤ (70368744177664 : Nat) ∧ Exists fun (x' : Nat × List Pl.Rt × Pl.Rt × Int) =>
 (x'.1 ≤ (List.getD s x.1 Pl.dY).2.1.length ∧ x'.2.1.length = x'.1 ∧ p ≤ x'.2.2.2 ∧ x'.2.2.2 ≤
 p + (100 : Int) * (↑x.1 : Int) + (3 : Int) + (30 : Int) * ((3 : Int) - x_2.1) +
 (2 : Int) * (↑x'.1 : Int)) ∧ (List.getD s x.1 Pl.dY).2.1.length - x'.1 < (List.getD s x.1 Pl.dY).2.1.length - x_4.1 ∧ ((0 : Nat) = (0 : Nat) ∧ (0 : Nat) = (0 : Nat) ∧ (0 : Nat) = (0 : Nat) ∧ ((0 : Nat) = (0 : Nat) ∧ List.length x_2.2.1 = List.length x_2.2.1) ∧ (↑x.1 : Int) = (↑x.1 : Int) ∧ x_2.1 = x_2.1 ∧ (0 : Nat) = (0 : Nat) ∧ IntKind.i64.wrap ((↑x_4.1 : Int) + (1 : Int)) = (↑x'.1 : Int) ∧ True) ∧ (Is (byts x_5.1) (byts b) ∧ y.2 = x'.2.2.2 ∧ True) ∧ (Is (syms s) (syms s) ∧ True) ∧ (Is (AV.lit (0 : Nat) (1 : Nat) fun (x x_6 : Nat) => AV.any) nilA ∧ True) ∧ IsO (xrR x_2.2.1) (xrR x_2.2.1) ∧ ((List.getD s x.1 Pl.dY).1 = (List.getD s x.1 Pl.dY).1 ∧ ((0 : Nat) = (0 : Nat) ∧ x_4.2.1.length + (1 : Nat) = x'.2.1.length) ∧ x_4.2.2.1.1 = x'.2.2.1.1 ∧ x_4.2.2.1.2 = x'.2.2.1.2 ∧ True) ∧ IsO
 (AObj.arr (x_4.2.1.length + (1 : Nat)) (2 : Nat)
 (joinC x_4.2.1.length (cQ x_4.2.1)
 (rowsCell [[i64 y.1.1, i64 y.1.2]])))
 (arQ x'.2.1) ∧ True)
 (∃ x_5 : List Pl.Rw × Pl.Rw,
 (x_5.1.length ≤ (1000 : Nat) ∧ (∀ (y : Pl.Rw), y ∈ x_5.1 → y.2.1.length ≤ (1000 : Nat)) ∧ x_5.2.2.1.length ≤ (1000 : Nat)) ∧ ((((0 : Nat) = (0 : Nat) ∧ List.length x_2.2.1 = x_5.1.length) ∧ ((List.getD s x.1 Pl.dY).1 = x_5.2.1 ∧ ((0 : Nat) = (0 : Nat) ∧ x_4.2.1.length = x_5.2.2.1.length) ∧ x_4.2.2.1.1 = x_5.2.2.2.1 ∧ x_4.2.2.1.2 = x_5.2.2.2.2 ∧ True) ∧ True) ∧ IsO (xrR x_2.2.1) (xrR x_5.1) ∧ IsO (arQ x_4.2.1) (arQ x_5.2.2.1) ∧ True) ∧ ∀ (y : List Nat),
 HPut x_5.1.length y →
 Exists fun (x' : Int × Pl.Mdl × Int) =>
 ((0 : Int) ≤ x'.1 ∧ x'.1 ≤ (3 : Int) ∧ Pl.MdB ((3 : Nat) * x.1 + (3 : Nat) - x'.1.toNat) (2 : Nat) x'.2.1 ∧ p ≤ x'.2.2 ∧ x'.2.2 ≤ p + (100 : Int) * (↑x.1 : Int) + (1 : Int) + (30 : Int) * ((3 : Int) - x'.1)) ∧ x'.1.toNat < x_2.1.toNat ∧ ((0 : Nat) = (0 : Nat) ∧ (0 : Nat) = (0 : Nat) ∧ (0 : Nat) = (0 : Nat) ∧ ((0 : Nat) = (0 : Nat) ∧ y.length = List.length x'.2.1) ∧ (↑x.1 : Int) = (↑x.1 : Int) ∧ IntKind.i64.wrap (x_2.1 - (1 : Int)) = x'.1 ∧ True) ∧ (Is (byts b) (byts b) ∧ x_4.2.2.2 = x'.2.2 ∧ True) ∧ (Is (syms s) (syms s) ∧ True) ∧ (Is (AV.lit (0 : Nat) (1 : Nat) fun (x x_6 : Nat) => AV.any) nilA ∧ True) ∧ IsO (xrR (List.map (fun (i : Nat) => (x_5.1 ++ [x_5.2]).getD i Pl.dR) y)) (xrR x'.2.1) ∧ True)) ∧ (((0 : Int) ≤ (↑x.1 : Int) ∧ (↑x.1 : Int) < (↑(List.length s) : Int)) ∧ x.1 < List.length s ∧ (((0 : Int) ≤ (↑x.1 : Int) ∧ (↑x.1 : Int) < (↑(List.length s) : Int)) ∧ x.1 < List.length s ∧ (∃ x_3 : List Int × Int × Int,
 Rd (549755813888 : Int) x_3.1 x_3.2.1 ∧ (((0 : Nat) = (0 : Nat) ∧ (List.getD s x.1 Pl.dY).2.2 = x_3.2.2 ∧ True) ∧ (Is (byts b) (byts x_3.1) ∧ x_2.2.2 = x_3.2.1 ∧ True) ∧ True) ∧ ∀ (y : Pl.Rt × Int),
 x_3.2.1 ≤ y.2 ∧ y.2 ≤ x_3.2.1 + (2 : Int) →
 (∃ x_4 : Nat × List Pl.Rt × Pl.Rt × Int,
 (x_4.1 ≤ (List.getD s x.1 Pl.dY).2.1.length ∧ x_4.2.1.length = x_4.1 ∧ p ≤ x_4.2.2.2 ∧ x_4.2.2.2 ≤ p + (100 : Int) * (↑x.1 : Int) + (3 : Int) + (30 : Int) * ((3 : Int) - x_2.1) + (2 : Int) * (↑x_4.1 : Int)) ∧ ((0 : Nat) = (0 : Nat) ∧ (0 : Nat) = (0 : Nat) ∧ (0 : Nat) = (0 : Nat) ∧ ((0 : Nat) = (0 : Nat) ∧ List.length x_2.2.1 = List.length x_2.2.1) ∧ (↑x.1 : Int) = (↑x.1 : Int) ∧ x_2.1 = x_2.1 ∧ (0 : Nat) = (0 : Nat) ∧ (0 : Int) = (↑x_4.1 : Int) ∧ True) ∧ (Is (byts x_3.1) (byts b) ∧ y.2 = x_4.2.2.2 ∧ True) ∧ (Is (syms s) (syms s) ∧ True) ∧ (Is (AV.lit (0 : Nat) (1 : Nat) fun (x x_5 : Nat) => AV.any) nilA ∧ True) ∧ IsO (xrR x_2.2.1) (xrR x_2.2.1) ∧ ((List.getD s x.1 Pl.dY).1 = (List.getD s x.1 Pl.dY).1 ∧ ((0 : Nat) = (0 : Nat) ∧ (0 : Nat) = (0 : Nat) ∧ x_4.2.1.length = (0 : Nat)) ∧ y.1.1 = x_4.2.2.1.1 ∧ y.1.2 = x_4.2.2.1.2 ∧ True) ∧ x_4.2.1.length = (0 : Nat) ∧ True) ∧ ∀ (x_4 : Nat × List Pl.Rt × Pl.Rt × Int),
 x_4.1 ≤ (List.getD s x.1 Pl.dY).2.1.length ∧ x_4.2.1.length = x_4.1 ∧ p ≤ x_4.2.2.2 ∧ x_4.2.2.2 ≤ p + (100 : Int) * (↑x.1 : Int) + (3 : Int) + (30 : Int) * ((3 : Int) - x_2.1) + (2 : Int) * (↑x_4.1 : Int) →
 ((0 : Int) ≤ (↑x.1 : Int) ∧ (↑x.1 : Int) < (↑(List.length s) : Int)) ∧ x.1 < List.length s ∧ condP (decide ((↑x_4.1 : Int) < (↑(List.getD s x.1 Pl.dY).2.1.length : Int)))
 ((((0 : Int) ≤ (↑x.1 : Int) ∧ (↑x.1 : Int) < (↑(List.length s) : Int)) ∧ x.1 < List.length s ∧ ((0 : Int) ≤ (↑x_4.1 : Int) ∧ (↑x_4.1 : Int) < (↑(List.getD s x.1 Pl.dY).2.1.length : Int)) ∧ x_4.1 < (List.getD s x.1 Pl.dY).2.1.length ∧ ∃ x_5 : List Int × Int × Int,
 Rd (549755813888 : Int) x_5.1 x_5.2.1 ∧ (((0 : Nat) = (0 : Nat) ∧ (List.getD s x.1 Pl.dY).2.1.getD x_4.1 (0 : Int) = x_5.2.2 ∧ True) ∧ (Is (byts b) (byts x_5.1) ∧ x_4.2.2.2 = x_5.2.1 ∧ True) ∧ True) ∧ ∀ (y : Pl.Rt × Int),
 x_5.2.1 ≤ y.2 ∧ y.2 ≤ x_5.2.1 + (2 : Int) →
 (0 : Nat) + x_4.2.1.length ≤ x_4.2.1.length ∧ (x_4.2.1.length + (1 : Nat)) * (16 : Nat) ≤ (70368744177664 : Nat) ∧ Exists fun (x' : Nat × List Pl.Rt × Pl.Rt × Int) =>
 (x'.1 ≤ (List.getD s x.1 Pl.dY).2.1.length ∧ x'.2.1.length = x'.1 ∧ p ≤ x'.2.2.2 ∧ x'.2.2.2 ≤
 p + (100 : Int) * (↑x.1 : Int) + (3 : Int) + (30 : Int) * ((3 : Int) - x_2.1) +
 (2 : Int) * (↑x'.1 : Int)) ∧ (List.getD s x.1 Pl.dY).2.1.length - x'.1 < (List.getD s x.1 Pl.dY).2.1.length - x_4.1 ∧ ((0 : Nat) = (0 : Nat) ∧ (0 : Nat) = (0 : Nat) ∧ (0 : Nat) = (0 : Nat) ∧ ((0 : Nat) = (0 : Nat) ∧ List.length x_2.2.1 = List.length x_2.2.1) ∧ (↑x.1 : Int) = (↑x.1 : Int) ∧ x_2.1 = x_2.1 ∧ (0 : Nat) = (0 : Nat) ∧ IntKind.i64.wrap ((↑x_4.1 : Int) + (1 : Int)) = (↑x'.1 : Int) ∧ True) ∧ (Is (byts x_5.1) (byts b) ∧ y.2 = x'.2.2.2 ∧ True) ∧ (Is (syms s) (syms s) ∧ True) ∧ (Is (AV.lit (0 : Nat) (1 : Nat) fun (x x_6 : Nat) => AV.any) nilA ∧ True) ∧ IsO (xrR x_2.2.1) (xrR x_2.2.1) ∧ ((List.getD s x.1 Pl.dY).1 = (List.getD s x.1 Pl.dY).1 ∧ ((0 : Nat) = (0 : Nat) ∧ x_4.2.1.length + (1 : Nat) = x'.2.1.length) ∧ x_4.2.2.1.1 = x'.2.2.1.1 ∧ x_4.2.2.1.2 = x'.2.2.1.2 ∧ True) ∧ IsO
 (AObj.arr (x_4.2.1.length + (1 : Nat)) (2 : Nat)
 (joinC x_4.2.1.length (cQ x_4.2.1)
 (rowsCell [[i64 y.1.1, i64 y.1.2]])))
 (arQ x'.2.1) ∧ True) ∧ ((0 : Int) ≤ (↑x.1 : Int) ∧ (↑x.1 : Int) < (↑(List.length s) : Int)) ∧ x.1 < List.length s ∧ ((0 : Int) ≤ (↑x_4.1 : Int) ∧ (↑x_4.1 : Int) < (↑(List.getD s x.1 Pl.dY).2.1.length : Int)) ∧ x_4.1 < (List.getD s x.1 Pl.dY).2.1.length ∧ (∃ x_5 : List Int × Int × Int,
 Rd (549755813888 : Int) x_5.1 x_5.2.1 ∧ (((0 : Nat) = (0 : Nat) ∧ (List.getD s x.1 Pl.dY).2.1.getD x_4.1 (0 : Int) = x_5.2.2 ∧ True) ∧ (Is (byts b) (byts x_5.1) ∧ x_4.2.2.2 = x_5.2.1 ∧ True) ∧ True) ∧ ∀ (y : Pl.Rt × Int),
 x_5.2.1 ≤ y.2 ∧ y.2 ≤ x_5.2.1 + (2 : Int) →
 (0 : Nat) + x_4.2.1.length ≤ x_4.2.1.length ∧ (x_4.2.1.length + (1 : Nat)) * (16 : Nat) ≤ (70368744177664 : Nat) ∧ Exists fun (x' : Nat × List Pl.Rt × Pl.Rt × Int) =>
 (x'.1 ≤ (List.getD s x.1 Pl.dY).2.1.length ∧ x'.2.1.length = x'.1 ∧ p ≤ x'.2.2.2 ∧ x'.2.2.2 ≤
 p + (100 : Int) * (↑x.1 : Int) + (3 : Int) + (30 : Int) * ((3 : Int) - x_2.1) +
 (2 : Int) * (↑x'.1 : Int)) ∧ (List.getD s x.1 Pl.dY).2.1.length - x'.1 < (List.getD s x.1 Pl.dY).2.1.length - x_4.1 ∧ ((0 : Nat) = (0 : Nat) ∧ (0 : Nat) = (0 : Nat) ∧ (0 : Nat) = (0 : Nat) ∧ ((0 : Nat) = (0 : Nat) ∧ List.length x_2.2.1 = List.length x_2.2.1) ∧ (↑x.1 : Int) = (↑x.1 : Int) ∧ x_2.1 = x_2.1 ∧ (0 : Nat) = (0 : Nat) ∧ IntKind.i64.wrap ((↑x_4.1 : Int) + (1 : Int)) = (↑x'.1 : Int) ∧ True) ∧ (Is (byts x_5.1) (byts b) ∧ y.2 = x'.2.2.2 ∧ True) ∧ (Is (syms s) (syms s) ∧ True) ∧ (Is (AV.lit (0 : Nat) (1 : Nat) fun (x x_6 : Nat) => AV.any) nilA ∧ True) ∧ IsO (xrR x_2.2.1) (xrR x_2.2.1) ∧ ((List.getD s x.1 Pl.dY).1 = (List.getD s x.1 Pl.dY).1 ∧ ((0 : Nat) = (0 : Nat) ∧ x_4.2.1.length + (1 : Nat) = x'.2.1.length) ∧ x_4.2.2.1.1 = x'.2.2.1.1 ∧ x_4.2.2.1.2 = x'.2.2.1.2 ∧ True) ∧ IsO
 (AObj.arr (x_4.2.1.length + (1 : Nat)) (2 : Nat)
 (joinC x_4.2.1.length (cQ x_4.2.1)
 (rowsCell [[i64 y.1.1, i64 y.1.2]])))
 (arQ x'.2.1) ∧ True) ∧ ∃ x_5 : List Int × Int × Int,
 Rd (549755813888 : Int) x_5.1 x_5.2.1 ∧ (((0 : Nat) = (0 : Nat) ∧ (List.getD s x.1 Pl.dY).2.1.getD x_4.1 (0 : Int) = x_5.2.2 ∧ True) ∧ (Is (byts b) (byts x_5.1) ∧ x_4.2.2.2 = x_5.2.1 ∧ True) ∧ True) ∧ ∀ (y : Pl.Rt × Int),
 x_5.2.1 ≤ y.2 ∧ y.2 ≤ x_5.2.1 + (2 : Int) →
 (0 : Nat) + x_4.2.1.length ≤ x_4.2.1.length ∧ (x_4.2.1.length + (1 : Nat)) * (16 : Nat) ≤ (70368744177664 : Nat) ∧ Exists fun (x' : Nat × List Pl.Rt × Pl.Rt × Int) =>
 (x'.1 ≤ (List.getD s x.1 Pl.dY).2.1.length ∧ x'.2.1.length = x'.1 ∧ p ≤ x'.2.2.2 ∧ x'.2.2.2 ≤
 p + (100 : Int) * (↑x.1 : Int) + (3 : Int) + (30 : Int) * ((3 : Int) - x_2.1) +
 (2 : Int) * (↑x'.1 : Int)) ∧ (List.getD s x.1 Pl.dY).2.1.length - x'.1 < (List.getD s x.1 Pl.dY).2.1.length - x_4.1 ∧ ((0 : Nat) = (0 : Nat) ∧ (0 : Nat) = (0 : Nat) ∧ (0 : Nat) = (0 : Nat) ∧ ((0 : Nat) = (0 : Nat) ∧ List.length x_2.2.1 = List.length x_2.2.1) ∧ (↑x.1 : Int) = (↑x.1 : Int) ∧ x_2.1 = x_2.1 ∧ (0 : Nat) = (0 : Nat) ∧ IntKind.i64.wrap ((↑x_4.1 : Int) + (1 : Int)) = (↑x'.1 : Int) ∧ True) ∧ (Is (byts x_5.1) (byts b) ∧ y.2 = x'.2.2.2 ∧ True) ∧ (Is (syms s) (syms s) ∧ True) ∧ (Is (AV.lit (0 : Nat) (1 : Nat) fun (x x_6 : Nat) => AV.any) nilA ∧ True) ∧ IsO (xrR x_2.2.1) (xrR x_2.2.1) ∧ ((List.getD s x.1 Pl.dY).1 = (List.getD s x.1 Pl.dY).1 ∧ ((0 : Nat) = (0 : Nat) ∧ x_4.2.1.length + (1 : Nat) = x'.2.1.length) ∧ x_4.2.2.1.1 = x'.2.2.1.1 ∧ x_4.2.2.1.2 = x'.2.2.1.2 ∧ True) ∧ IsO
 (AObj.arr (x_4.2.1.length + (1 : Nat)) (2 : Nat)
 (joinC x_4.2.1.length (cQ x_4.2.1)
 (rowsCell [[i64 y.1.1, i64 y.1.2]])))
 (arQ x'.2.1) ∧ True)
 (∃ x_5 : List Pl.Rw × Pl.Rw,
 (x_5.1.length ≤ (1000 : Nat) ∧ (∀ (y : Pl.Rw), y ∈ x_5.1 → y.2.1.length ≤ (1000 : Nat)) ∧ x_5.2.2.1.length ≤ (1000 : Nat)) ∧ ((((0 : Nat) = (0 : Nat) ∧ List.length x_2.2.1 = x_5.1.length) ∧ ((List.getD s x.1 Pl.dY).1 = x_5.2.1 ∧ ((0 : Nat) = (0 : Nat) ∧ x_4.2.1.length = x_5.2.2.1.length) ∧ x_4.2.2.1.1 = x_5.2.2.2.1 ∧ x_4.2.2.1.2 = x_5.2.2.2.2 ∧ True) ∧ True) ∧ IsO (xrR x_2.2.1) (xrR x_5.1) ∧ IsO (arQ x_4.2.1) (arQ x_5.2.2.1) ∧ True) ∧ ∀ (y : List Nat),
 HPut x_5.1.length y →
 Exists fun (x' : Int × Pl.Mdl × Int) =>
 ((0 : Int) ≤ x'.1 ∧ x'.1 ≤ (3 : Int) ∧ Pl.MdB ((3 : Nat) * x.1 + (3 : Nat) - x'.1.toNat) (2 : Nat) x'.2.1 ∧ p ≤ x'.2.2 ∧ x'.2.2 ≤ p + (100 : Int) * (↑x.1 : Int) + (1 : Int) + (30 : Int) * ((3 : Int) - x'.1)) ∧ x'.1.toNat < x_2.1.toNat ∧ ((0 : Nat) = (0 : Nat) ∧ (0 : Nat) = (0 : Nat) ∧ (0 : Nat) = (0 : Nat) ∧ ((0 : Nat) = (0 : Nat) ∧ y.length = List.length x'.2.1) ∧ (↑x.1 : Int) = (↑x.1 : Int) ∧ IntKind.i64.wrap (x_2.1 - (1 : Int)) = x'.1 ∧ True) ∧ (Is (byts b) (byts b) ∧ x_4.2.2.2 = x'.2.2 ∧ True) ∧ (Is (syms s) (syms s) ∧ True) ∧ (Is (AV.lit (0 : Nat) (1 : Nat) fun (x x_6 : Nat) => AV.any) nilA ∧ True) ∧ IsO (xrR (List.map (fun (i : Nat) => (x_5.1 ++ [x_5.2]).getD i Pl.dR) y)) (xrR x'.2.1) ∧ True)) ∧ ∃ x_3 : List Int × Int × Int,
 Rd (549755813888 : Int) x_3.1 x_3.2.1 ∧ (((0 : Nat) = (0 : Nat) ∧ (List.getD s x.1 Pl.dY).2.2 = x_3.2.2 ∧ True) ∧ (Is (byts b) (byts x_3.1) ∧ x_2.2.2 = x_3.2.1 ∧ True) ∧ True) ∧ ∀ (y : Pl.Rt × Int),
 x_3.2.1 ≤ y.2 ∧ y.2 ≤ x_3.2.1 + (2 : Int) →
 (∃ x_4 : Nat × List Pl.Rt × Pl.Rt × Int,
 (x_4.1 ≤ (List.getD s x.1 Pl.dY).2.1.length ∧ x_4.2.1.length = x_4.1 ∧ p ≤ x_4.2.2.2 ∧ x_4.2.2.2 ≤ p + (100 : Int) * (↑x.1 : Int) + (3 : Int) + (30 : Int) * ((3 : Int) - x_2.1) + (2 : Int) * (↑x_4.1 : Int)) ∧ ((0 : Nat) = (0 : Nat) ∧ (0 : Nat) = (0 : Nat) ∧ (0 : Nat) = (0 : Nat) ∧ ((0 : Nat) = (0 : Nat) ∧ List.length x_2.2.1 = List.length x_2.2.1) ∧ (↑x.1 : Int) = (↑x.1 : Int) ∧ x_2.1 = x_2.1 ∧ (0 : Nat) = (0 : Nat) ∧ (0 : Int) = (↑x_4.1 : Int) ∧ True) ∧ (Is (byts x_3.1) (byts b) ∧ y.2 = x_4.2.2.2 ∧ True) ∧ (Is (syms s) (syms s) ∧ True) ∧ (Is (AV.lit (0 : Nat) (1 : Nat) fun (x x_5 : Nat) => AV.any) nilA ∧ True) ∧ IsO (xrR x_2.2.1) (xrR x_2.2.1) ∧ ((List.getD s x.1 Pl.dY).1 = (List.getD s x.1 Pl.dY).1 ∧ ((0 : Nat) = (0 : Nat) ∧ (0 : Nat) = (0 : Nat) ∧ x_4.2.1.length = (0 : Nat)) ∧ y.1.1 = x_4.2.2.1.1 ∧ y.1.2 = x_4.2.2.1.2 ∧ True) ∧ x_4.2.1.length = (0 : Nat) ∧ True) ∧ ∀ (x_4 : Nat × List Pl.Rt × Pl.Rt × Int),
 x_4.1 ≤ (List.getD s x.1 Pl.dY).2.1.length ∧ x_4.2.1.length = x_4.1 ∧ p ≤ x_4.2.2.2 ∧ x_4.2.2.2 ≤ p + (100 : Int) * (↑x.1 : Int) + (3 : Int) + (30 : Int) * ((3 : Int) - x_2.1) + (2 : Int) * (↑x_4.1 : Int) →
 ((0 : Int) ≤ (↑x.1 : Int) ∧ (↑x.1 : Int) < (↑(List.length s) : Int)) ∧ x.1 < List.length s ∧ condP (decide ((↑x_4.1 : Int) < (↑(List.getD s x.1 Pl.dY).2.1.length : Int)))
 ((((0 : Int) ≤ (↑x.1 : Int) ∧ (↑x.1 : Int) < (↑(List.length s) : Int)) ∧ x.1 < List.length s ∧ ((0 : Int) ≤ (↑x_4.1 : Int) ∧ (↑x_4.1 : Int) < (↑(List.getD s x.1 Pl.dY).2.1.length : Int)) ∧ x_4.1 < (List.getD s x.1 Pl.dY).2.1.length ∧ ∃ x_5 : List Int × Int × Int,
 Rd (549755813888 : Int) x_5.1 x_5.2.1 ∧ (((0 : Nat) = (0 : Nat) ∧ (List.getD s x.1 Pl.dY).2.1.getD x_4.1 (0 : Int) = x_5.2.2 ∧ True) ∧ (Is (byts b) (byts x_5.1) ∧ x_4.2.2.2 = x_5.2.1 ∧ True) ∧ True) ∧ ∀ (y : Pl.Rt × Int),
 x_5.2.1 ≤ y.2 ∧ y.2 ≤ x_5.2.1 + (2 : Int) →
 (0 : Nat) + x_4.2.1.length ≤ x_4.2.1.length ∧ (x_4.2.1.length + (1 : Nat)) * (16 : Nat) ≤ (70368744177664 : Nat) ∧ Exists fun (x' : Nat × List Pl.Rt × Pl.Rt × Int) =>
 (x'.1 ≤ (List.getD s x.1 Pl.dY).2.1.length ∧ x'.2.1.length = x'.1 ∧ p ≤ x'.2.2.2 ∧ x'.2.2.2 ≤
 p + (100 : Int) * (↑x.1 : Int) + (3 : Int) + (30 : Int) * ((3 : Int) - x_2.1) +
 (2 : Int) * (↑x'.1 : Int)) ∧ (List.getD s x.1 Pl.dY).2.1.length - x'.1 < (List.getD s x.1 Pl.dY).2.1.length - x_4.1 ∧ ((0 : Nat) = (0 : Nat) ∧ (0 : Nat) = (0 : Nat) ∧ (0 : Nat) = (0 : Nat) ∧ ((0 : Nat) = (0 : Nat) ∧ List.length x_2.2.1 = List.length x_2.2.1) ∧ (↑x.1 : Int) = (↑x.1 : Int) ∧ x_2.1 = x_2.1 ∧ (0 : Nat) = (0 : Nat) ∧ IntKind.i64.wrap ((↑x_4.1 : Int) + (1 : Int)) = (↑x'.1 : Int) ∧ True) ∧ (Is (byts x_5.1) (byts b) ∧ y.2 = x'.2.2.2 ∧ True) ∧ (Is (syms s) (syms s) ∧ True) ∧ (Is (AV.lit (0 : Nat) (1 : Nat) fun (x x_6 : Nat) => AV.any) nilA ∧ True) ∧ IsO (xrR x_2.2.1) (xrR x_2.2.1) ∧ ((List.getD s x.1 Pl.dY).1 = (List.getD s x.1 Pl.dY).1 ∧ ((0 : Nat) = (0 : Nat) ∧ x_4.2.1.length + (1 : Nat) = x'.2.1.length) ∧ x_4.2.2.1.1 = x'.2.2.1.1 ∧ x_4.2.2.1.2 = x'.2.2.1.2 ∧ True) ∧ IsO
 (AObj.arr (x_4.2.1.length + (1 : Nat)) (2 : Nat)
 (joinC x_4.2.1.length (cQ x_4.2.1)
 (rowsCell [[i64 y.1.1, i64 y.1.2]])))
 (arQ x'.2.1) ∧ True) ∧ ((0 : Int) ≤ (↑x.1 : Int) ∧ (↑x.1 : Int) < (↑(List.length s) : Int)) ∧ x.1 < List.length s ∧ ((0 : Int) ≤ (↑x_4.1 : Int) ∧ (↑x_4.1 : Int) < (↑(List.getD s x.1 Pl.dY).2.1.length : Int)) ∧ x_4.1 < (List.getD s x.1 Pl.dY).2.1.length ∧ (∃ x_5 : List Int × Int × Int,
 Rd (549755813888 : Int) x_5.1 x_5.2.1 ∧ (((0 : Nat) = (0 : Nat) ∧ (List.getD s x.1 Pl.dY).2.1.getD x_4.1 (0 : Int) = x_5.2.2 ∧ True) ∧ (Is (byts b) (byts x_5.1) ∧ x_4.2.2.2 = x_5.2.1 ∧ True) ∧ True) ∧ ∀ (y : Pl.Rt × Int),
 x_5.2.1 ≤ y.2 ∧ y.2 ≤ x_5.2.1 + (2 : Int) →
 (0 : Nat) + x_4.2.1.length ≤ x_4.2.1.length ∧ (x_4.2.1.length + (1 : Nat)) * (16 : Nat) ≤ (70368744177664 : Nat) ∧ Exists fun (x' : Nat × List Pl.Rt × Pl.Rt × Int) =>
 (x'.1 ≤ (List.getD s x.1 Pl.dY).2.1.length ∧ x'.2.1.length = x'.1 ∧ p ≤ x'.2.2.2 ∧ x'.2.2.2 ≤
 p + (100 : Int) * (↑x.1 : Int) + (3 : Int) + (30 : Int) * ((3 : Int) - x_2.1) +
 (2 : Int) * (↑x'.1 : Int)) ∧ (List.getD s x.1 Pl.dY).2.1.length - x'.1 < (List.getD s x.1 Pl.dY).2.1.length - x_4.1 ∧ ((0 : Nat) = (0 : Nat) ∧ (0 : Nat) = (0 : Nat) ∧ (0 : Nat) = (0 : Nat) ∧ ((0 : Nat) = (0 : Nat) ∧ List.length x_2.2.1 = List.length x_2.2.1) ∧ (↑x.1 : Int) = (↑x.1 : Int) ∧ x_2.1 = x_2.1 ∧ (0 : Nat) = (0 : Nat) ∧ IntKind.i64.wrap ((↑x_4.1 : Int) + (1 : Int)) = (↑x'.1 : Int) ∧ True) ∧ (Is (byts x_5.1) (byts b) ∧ y.2 = x'.2.2.2 ∧ True) ∧ (Is (syms s) (syms s) ∧ True) ∧ (Is (AV.lit (0 : Nat) (1 : Nat) fun (x x_6 : Nat) => AV.any) nilA ∧ True) ∧ IsO (xrR x_2.2.1) (xrR x_2.2.1) ∧ ((List.getD s x.1 Pl.dY).1 = (List.getD s x.1 Pl.dY).1 ∧ ((0 : Nat) = (0 : Nat) ∧ x_4.2.1.length + (1 : Nat) = x'.2.1.length) ∧ x_4.2.2.1.1 = x'.2.2.1.1 ∧ x_4.2.2.1.2 = x'.2.2.1.2 ∧ True) ∧ IsO
 (AObj.arr (x_4.2.1.length + (1 : Nat)) (2 : Nat)
 (joinC x_4.2.1.length (cQ x_4.2.1)
 (rowsCell [[i64 y.1.1, i64 y.1.2]])))
 (arQ x'.2.1) ∧ True) ∧ ∃ x_5 : List Int × Int × Int,
 Rd (549755813888 : Int) x_5.1 x_5.2.1 ∧ (((0 : Nat) = (0 : Nat) ∧ (List.getD s x.1 Pl.dY).2.1.getD x_4.1 (0 : Int) = x_5.2.2 ∧ True) ∧ (Is (byts b) (byts x_5.1) ∧ x_4.2.2.2 = x_5.2.1 ∧ True) ∧ True) ∧ ∀ (y : Pl.Rt × Int),
 x_5.2.1 ≤ y.2 ∧ y.2 ≤ x_5.2.1 + (2 : Int) →
 (0 : Nat) + x_4.2.1.length ≤ x_4.2.1.length ∧ (x_4.2.1.length + (1 : Nat)) * (16 : Nat) ≤ (70368744177664 : Nat) ∧ Exists fun (x' : Nat × List Pl.Rt × Pl.Rt × Int) =>
 (x'.1 ≤ (List.getD s x.1 Pl.dY).2.1.length ∧ x'.2.1.length = x'.1 ∧ p ≤ x'.2.2.2 ∧ x'.2.2.2 ≤
 p + (100 : Int) * (↑x.1 : Int) + (3 : Int) + (30 : Int) * ((3 : Int) - x_2.1) +
 (2 : Int) * (↑x'.1 : Int)) ∧ (List.getD s x.1 Pl.dY).2.1.length - x'.1 < (List.getD s x.1 Pl.dY).2.1.length - x_4.1 ∧ ((0 : Nat) = (0 : Nat) ∧ (0 : Nat) = (0 : Nat) ∧ (0 : Nat) = (0 : Nat) ∧ ((0 : Nat) = (0 : Nat) ∧ List.length x_2.2.1 = List.length x_2.2.1) ∧ (↑x.1 : Int) = (↑x.1 : Int) ∧ x_2.1 = x_2.1 ∧ (0 : Nat) = (0 : Nat) ∧ IntKind.i64.wrap ((↑x_4.1 : Int) + (1 : Int)) = (↑x'.1 : Int) ∧ True) ∧ (Is (byts x_5.1) (byts b) ∧ y.2 = x'.2.2.2 ∧ True) ∧ (Is (syms s) (syms s) ∧ True) ∧ (Is (AV.lit (0 : Nat) (1 : Nat) fun (x x_6 : Nat) => AV.any) nilA ∧ True) ∧ IsO (xrR x_2.2.1) (xrR x_2.2.1) ∧ ((List.getD s x.1 Pl.dY).1 = (List.getD s x.1 Pl.dY).1 ∧ ((0 : Nat) = (0 : Nat) ∧ x_4.2.1.length + (1 : Nat) = x'.2.1.length) ∧ x_4.2.2.1.1 = x'.2.2.1.1 ∧ x_4.2.2.1.2 = x'.2.2.1.2 ∧ True) ∧ IsO
 (AObj.arr (x_4.2.1.length + (1 : Nat)) (2 : Nat)
 (joinC x_4.2.1.length (cQ x_4.2.1)
 (rowsCell [[i64 y.1.1, i64 y.1.2]])))
 (arQ x'.2.1) ∧ True)
 (∃ x_5 : List Pl.Rw × Pl.Rw,
 (x_5.1.length ≤ (1000 : Nat) ∧ (∀ (y : Pl.Rw), y ∈ x_5.1 → y.2.1.length ≤ (1000 : Nat)) ∧ x_5.2.2.1.length ≤ (1000 : Nat)) ∧ ((((0 : Nat) = (0 : Nat) ∧ List.length x_2.2.1 = x_5.1.length) ∧ ((List.getD s x.1 Pl.dY).1 = x_5.2.1 ∧ ((0 : Nat) = (0 : Nat) ∧ x_4.2.1.length = x_5.2.2.1.length) ∧ x_4.2.2.1.1 = x_5.2.2.2.1 ∧ x_4.2.2.1.2 = x_5.2.2.2.2 ∧ True) ∧ True) ∧ IsO (xrR x_2.2.1) (xrR x_5.1) ∧ IsO (arQ x_4.2.1) (arQ x_5.2.2.1) ∧ True) ∧ ∀ (y : List Nat),
 HPut x_5.1.length y →
 Exists fun (x' : Int × Pl.Mdl × Int) =>
 ((0 : Int) ≤ x'.1 ∧ x'.1 ≤ (3 : Int) ∧ Pl.MdB ((3 : Nat) * x.1 + (3 : Nat) - x'.1.toNat) (2 : Nat) x'.2.1 ∧ p ≤ x'.2.2 ∧ x'.2.2 ≤ p + (100 : Int) * (↑x.1 : Int) + (1 : Int) + (30 : Int) * ((3 : Int) - x'.1)) ∧ x'.1.toNat < x_2.1.toNat ∧ ((0 : Nat) = (0 : Nat) ∧ (0 : Nat) = (0 : Nat) ∧ (0 : Nat) = (0 : Nat) ∧ ((0 : Nat) = (0 : Nat) ∧ y.length = List.length x'.2.1) ∧ (↑x.1 : Int) = (↑x.1 : Int) ∧ IntKind.i64.wrap (x_2.1 - (1 : Int)) = x'.1 ∧ True) ∧ (Is (byts b) (byts b) ∧ x_4.2.2.2 = x'.2.2 ∧ True) ∧ (Is (syms s) (syms s) ∧ True) ∧ (Is (AV.lit (0 : Nat) (1 : Nat) fun (x x_6 : Nat) => AV.any) nilA ∧ True) ∧ IsO (xrR (List.map (fun (i : Nat) => (x_5.1 ++ [x_5.2]).getD i Pl.dR) y)) (xrR x'.2.1) ∧ True)) ∧ (∃ x_3 : List Int × Int × Int,
 Rd (549755813888 : Int) x_3.1 x_3.2.1 ∧ (((0 : Nat) = (0 : Nat) ∧ (List.getD s x.1 Pl.dY).2.2 = x_3.2.2 ∧ True) ∧ (Is (byts b) (byts x_3.1) ∧ x_2.2.2 = x_3.2.1 ∧ True) ∧ True) ∧ ∀ (y : Pl.Rt × Int),
 x_3.2.1 ≤ y.2 ∧ y.2 ≤ x_3.2.1 + (2 : Int) →
 ((0 : Int) ≤ (↑x.1 : Int) ∧ (↑x.1 : Int) < (↑(List.length s) : Int)) ∧ x.1 < List.length s ∧ (∃ x_4 : Nat × List Pl.Rt × Pl.Rt × Int,
 (x_4.1 ≤ (List.getD s x.1 Pl.dY).2.1.length ∧ x_4.2.1.length = x_4.1 ∧ p ≤ x_4.2.2.2 ∧ x_4.2.2.2 ≤ p + (100 : Int) * (↑x.1 : Int) + (3 : Int) + (30 : Int) * ((3 : Int) - x_2.1) + (2 : Int) * (↑x_4.1 : Int)) ∧ ((0 : Nat) = (0 : Nat) ∧ (0 : Nat) = (0 : Nat) ∧ (0 : Nat) = (0 : Nat) ∧ ((0 : Nat) = (0 : Nat) ∧ List.length x_2.2.1 = List.length x_2.2.1) ∧ (↑x.1 : Int) = (↑x.1 : Int) ∧ x_2.1 = x_2.1 ∧ (0 : Nat) = (0 : Nat) ∧ (0 : Int) = (↑x_4.1 : Int) ∧ True) ∧ (Is (byts x_3.1) (byts b) ∧ y.2 = x_4.2.2.2 ∧ True) ∧ (Is (syms s) (syms s) ∧ True) ∧ (Is (AV.lit (0 : Nat) (1 : Nat) fun (x x_5 : Nat) => AV.any) nilA ∧ True) ∧ IsO (xrR x_2.2.1) (xrR x_2.2.1) ∧ ((List.getD s x.1 Pl.dY).1 = (List.getD s x.1 Pl.dY).1 ∧ ((0 : Nat) = (0 : Nat) ∧ (0 : Nat) = (0 : Nat) ∧ x_4.2.1.length = (0 : Nat)) ∧ y.1.1 = x_4.2.2.1.1 ∧ y.1.2 = x_4.2.2.1.2 ∧ True) ∧ x_4.2.1.length = (0 : Nat) ∧ True) ∧ ∀ (x_4 : Nat × List Pl.Rt × Pl.Rt × Int),
 x_4.1 ≤ (List.getD s x.1 Pl.dY).2.1.length ∧ x_4.2.1.length = x_4.1 ∧ p ≤ x_4.2.2.2 ∧ x_4.2.2.2 ≤ p + (100 : Int) * (↑x.1 : Int) + (3 : Int) + (30 : Int) * ((3 : Int) - x_2.1) + (2 : Int) * (↑x_4.1 : Int) →
 ((0 : Int) ≤ (↑x.1 : Int) ∧ (↑x.1 : Int) < (↑(List.length s) : Int)) ∧ x.1 < List.length s ∧ condP (decide ((↑x_4.1 : Int) < (↑(List.getD s x.1 Pl.dY).2.1.length : Int)))
 ((((0 : Int) ≤ (↑x.1 : Int) ∧ (↑x.1 : Int) < (↑(List.length s) : Int)) ∧ x.1 < List.length s ∧ ((0 : Int) ≤ (↑x_4.1 : Int) ∧ (↑x_4.1 : Int) < (↑(List.getD s x.1 Pl.dY).2.1.length : Int)) ∧ x_4.1 < (List.getD s x.1 Pl.dY).2.1.length ∧ ∃ x_5 : List Int × Int × Int,
 Rd (549755813888 : Int) x_5.1 x_5.2.1 ∧ (((0 : Nat) = (0 : Nat) ∧ (List.getD s x.1 Pl.dY).2.1.getD x_4.1 (0 : Int) = x_5.2.2 ∧ True) ∧ (Is (byts b) (byts x_5.1) ∧ x_4.2.2.2 = x_5.2.1 ∧ True) ∧ True) ∧ ∀ (y : Pl.Rt × Int),
 x_5.2.1 ≤ y.2 ∧ y.2 ≤ x_5.2.1 + (2 : Int) →
 (0 : Nat) + x_4.2.1.length ≤ x_4.2.1.length ∧ (x_4.2.1.length + (1 : Nat)) * (16 : Nat) ≤ (70368744177664 : Nat) ∧ Exists fun (x' : Nat × List Pl.Rt × Pl.Rt × Int) =>
 (x'.1 ≤ (List.getD s x.1 Pl.dY).2.1.length ∧ x'.2.1.length = x'.1 ∧ p ≤ x'.2.2.2 ∧ x'.2.2.2 ≤
 p + (100 : Int) * (↑x.1 : Int) + (3 : Int) + (30 : Int) * ((3 : Int) - x_2.1) +
 (2 : Int) * (↑x'.1 : Int)) ∧ (List.getD s x.1 Pl.dY).2.1.length - x'.1 < (List.getD s x.1 Pl.dY).2.1.length - x_4.1 ∧ ((0 : Nat) = (0 : Nat) ∧ (0 : Nat) = (0 : Nat) ∧ (0 : Nat) = (0 : Nat) ∧ ((0 : Nat) = (0 : Nat) ∧ List.length x_2.2.1 = List.length x_2.2.1) ∧ (↑x.1 : Int) = (↑x.1 : Int) ∧ x_2.1 = x_2.1 ∧ (0 : Nat) = (0 : Nat) ∧ IntKind.i64.wrap ((↑x_4.1 : Int) + (1 : Int)) = (↑x'.1 : Int) ∧ True) ∧ (Is (byts x_5.1) (byts b) ∧ y.2 = x'.2.2.2 ∧ True) ∧ (Is (syms s) (syms s) ∧ True) ∧ (Is (AV.lit (0 : Nat) (1 : Nat) fun (x x_6 : Nat) => AV.any) nilA ∧ True) ∧ IsO (xrR x_2.2.1) (xrR x_2.2.1) ∧ ((List.getD s x.1 Pl.dY).1 = (List.getD s x.1 Pl.dY).1 ∧ ((0 : Nat) = (0 : Nat) ∧ x_4.2.1.length + (1 : Nat) = x'.2.1.length) ∧ x_4.2.2.1.1 = x'.2.2.1.1 ∧ x_4.2.2.1.2 = x'.2.2.1.2 ∧ True) ∧ IsO
 (AObj.arr (x_4.2.1.length + (1 : Nat)) (2 : Nat)
 (joinC x_4.2.1.length (cQ x_4.2.1)
 (rowsCell [[i64 y.1.1, i64 y.1.2]])))
 (arQ x'.2.1) ∧ True) ∧ ((0 : Int) ≤ (↑x.1 : Int) ∧ (↑x.1 : Int) < (↑(List.length s) : Int)) ∧ x.1 < List.length s ∧ ((0 : Int) ≤ (↑x_4.1 : Int) ∧ (↑x_4.1 : Int) < (↑(List.getD s x.1 Pl.dY).2.1.length : Int)) ∧ x_4.1 < (List.getD s x.1 Pl.dY).2.1.length ∧ (∃ x_5 : List Int × Int × Int,
 Rd (549755813888 : Int) x_5.1 x_5.2.1 ∧ (((0 : Nat) = (0 : Nat) ∧ (List.getD s x.1 Pl.dY).2.1.getD x_4.1 (0 : Int) = x_5.2.2 ∧ True) ∧ (Is (byts b) (byts x_5.1) ∧ x_4.2.2.2 = x_5.2.1 ∧ True) ∧ True) ∧ ∀ (y : Pl.Rt × Int),
 x_5.2.1 ≤ y.2 ∧ y.2 ≤ x_5.2.1 + (2 : Int) →
 (0 : Nat) + x_4.2.1.length ≤ x_4.2.1.length ∧ (x_4.2.1.length + (1 : Nat)) * (16 : Nat) ≤ (70368744177664 : Nat) ∧ Exists fun (x' : Nat × List Pl.Rt × Pl.Rt × Int) =>
 (x'.1 ≤ (List.getD s x.1 Pl.dY).2.1.length ∧ x'.2.1.length = x'.1 ∧ p ≤ x'.2.2.2 ∧ x'.2.2.2 ≤
 p + (100 : Int) * (↑x.1 : Int) + (3 : Int) + (30 : Int) * ((3 : Int) - x_2.1) +
 (2 : Int) * (↑x'.1 : Int)) ∧ (List.getD s x.1 Pl.dY).2.1.length - x'.1 < (List.getD s x.1 Pl.dY).2.1.length - x_4.1 ∧ ((0 : Nat) = (0 : Nat) ∧ (0 : Nat) = (0 : Nat) ∧ (0 : Nat) = (0 : Nat) ∧ ((0 : Nat) = (0 : Nat) ∧ List.length x_2.2.1 = List.length x_2.2.1) ∧ (↑x.1 : Int) = (↑x.1 : Int) ∧ x_2.1 = x_2.1 ∧ (0 : Nat) = (0 : Nat) ∧ IntKind.i64.wrap ((↑x_4.1 : Int) + (1 : Int)) = (↑x'.1 : Int) ∧ True) ∧ (Is (byts x_5.1) (byts b) ∧ y.2 = x'.2.2.2 ∧ True) ∧ (Is (syms s) (syms s) ∧ True) ∧ (Is (AV.lit (0 : Nat) (1 : Nat) fun (x x_6 : Nat) => AV.any) nilA ∧ True) ∧ IsO (xrR x_2.2.1) (xrR x_2.2.1) ∧ ((List.getD s x.1 Pl.dY).1 = (List.getD s x.1 Pl.dY).1 ∧ ((0 : Nat) = (0 : Nat) ∧ x_4.2.1.length + (1 : Nat) = x'.2.1.length) ∧ x_4.2.2.1.1 = x'.2.2.1.1 ∧ x_4.2.2.1.2 = x'.2.2.1.2 ∧ True) ∧ IsO
 (AObj.arr (x_4.2.1.length + (1 : Nat)) (2 : Nat)
 (joinC x_4.2.1.length (cQ x_4.2.1)
 (rowsCell [[i64 y.1.1, i64 y.1.2]])))
 (arQ x'.2.1) ∧ True) ∧ ∃ x_5 : List Int × Int × Int,
 Rd (549755813888 : Int) x_5.1 x_5.2.1 ∧ (((0 : Nat) = (0 : Nat) ∧ (List.getD s x.1 Pl.dY).2.1.getD x_4.1 (0 : Int) = x_5.2.2 ∧ True) ∧ (Is (byts b) (byts x_5.1) ∧ x_4.2.2.2 = x_5.2.1 ∧ True) ∧ True) ∧ ∀ (y : Pl.Rt × Int),
 x_5.2.1 ≤ y.2 ∧ y.2 ≤ x_5.2.1 + (2 : Int) →
 (0 : Nat) + x_4.2.1.length ≤ x_4.2.1.length ∧ (x_4.2.1.length + (1 : Nat)) * (16 : Nat) ≤ (70368744177664 : Nat) ∧ Exists fun (x' : Nat × List Pl.Rt × Pl.Rt × Int) =>
 (x'.1 ≤ (List.getD s x.1 Pl.dY).2.1.length ∧ x'.2.1.length = x'.1 ∧ p ≤ x'.2.2.2 ∧ x'.2.2.2 ≤
 p + (100 : Int) * (↑x.1 : Int) + (3 : Int) + (30 : Int) * ((3 : Int) - x_2.1) +
 (2 : Int) * (↑x'.1 : Int)) ∧ (List.getD s x.1 Pl.dY).2.1.length - x'.1 < (List.getD s x.1 Pl.dY).2.1.length - x_4.1 ∧ ((0 : Nat) = (0 : Nat) ∧ (0 : Nat) = (0 : Nat) ∧ (0 : Nat) = (0 : Nat) ∧ ((0 : Nat) = (0 : Nat) ∧ List.length x_2.2.1 = List.length x_2.2.1) ∧ (↑x.1 : Int) = (↑x.1 : Int) ∧ x_2.1 = x_2.1 ∧ (0 : Nat) = (0 : Nat) ∧ IntKind.i64.wrap ((↑x_4.1 : Int) + (1 : Int)) = (↑x'.1 : Int) ∧ True) ∧ (Is (byts x_5.1) (byts b) ∧ y.2 = x'.2.2.2 ∧ True) ∧ (Is (syms s) (syms s) ∧ True) ∧ (Is (AV.lit (0 : Nat) (1 : Nat) fun (x x_6 : Nat) => AV.any) nilA ∧ True) ∧ IsO (xrR x_2.2.1) (xrR x_2.2.1) ∧ ((List.getD s x.1 Pl.dY).1 = (List.getD s x.1 Pl.dY).1 ∧ ((0 : Nat) = (0 : Nat) ∧ x_4.2.1.length + (1 : Nat) = x'.2.1.length) ∧ x_4.2.2.1.1 = x'.2.2.1.1 ∧ x_4.2.2.1.2 = x'.2.2.1.2 ∧ True) ∧ IsO
 (AObj.arr (x_4.2.1.length + (1 : Nat)) (2 : Nat)
 (joinC x_4.2.1.length (cQ x_4.2.1)
 (rowsCell [[i64 y.1.1, i64 y.1.2]])))
 (arQ x'.2.1) ∧ True)
 (∃ x_5 : List Pl.Rw × Pl.Rw,
 (x_5.1.length ≤ (1000 : Nat) ∧ (∀ (y : Pl.Rw), y ∈ x_5.1 → y.2.1.length ≤ (1000 : Nat)) ∧ x_5.2.2.1.length ≤ (1000 : Nat)) ∧ ((((0 : Nat) = (0 : Nat) ∧ List.length x_2.2.1 = x_5.1.length) ∧ ((List.getD s x.1 Pl.dY).1 = x_5.2.1 ∧ ((0 : Nat) = (0 : Nat) ∧ x_4.2.1.length = x_5.2.2.1.length) ∧ x_4.2.2.1.1 = x_5.2.2.2.1 ∧ x_4.2.2.1.2 = x_5.2.2.2.2 ∧ True) ∧ True) ∧ IsO (xrR x_2.2.1) (xrR x_5.1) ∧ IsO (arQ x_4.2.1) (arQ x_5.2.2.1) ∧ True) ∧ ∀ (y : List Nat),
 HPut x_5.1.length y →
 Exists fun (x' : Int × Pl.Mdl × Int) =>
 ((0 : Int) ≤ x'.1 ∧ x'.1 ≤ (3 : Int) ∧ Pl.MdB ((3 : Nat) * x.1 + (3 : Nat) - x'.1.toNat) (2 : Nat) x'.2.1 ∧ p ≤ x'.2.2 ∧ x'.2.2 ≤ p + (100 : Int) * (↑x.1 : Int) + (1 : Int) + (30 : Int) * ((3 : Int) - x'.1)) ∧ x'.1.toNat < x_2.1.toNat ∧ ((0 : Nat) = (0 : Nat) ∧ (0 : Nat) = (0 : Nat) ∧ (0 : Nat) = (0 : Nat) ∧ ((0 : Nat) = (0 : Nat) ∧ y.length = List.length x'.2.1) ∧ (↑x.1 : Int) = (↑x.1 : Int) ∧ IntKind.i64.wrap (x_2.1 - (1 : Int)) = x'.1 ∧ True) ∧ (Is (byts b) (byts b) ∧ x_4.2.2.2 = x'.2.2 ∧ True) ∧ (Is (syms s) (syms s) ∧ True) ∧ (Is (AV.lit (0 : Nat) (1 : Nat) fun (x x_6 : Nat) => AV.any) nilA ∧ True) ∧ IsO (xrR (List.map (fun (i : Nat) => (x_5.1 ++ [x_5.2]).getD i Pl.dR) y)) (xrR x'.2.1) ∧ True)) ∧ (((0 : Int) ≤ (↑x.1 : Int) ∧ (↑x.1 : Int) < (↑(List.length s) : Int)) ∧ x.1 < List.length s ∧ ∃ x_3 : List Int × Int × Int,
 Rd (549755813888 : Int) x_3.1 x_3.2.1 ∧ (((0 : Nat) = (0 : Nat) ∧ (List.getD s x.1 Pl.dY).2.2 = x_3.2.2 ∧ True) ∧ (Is (byts b) (byts x_3.1) ∧ x_2.2.2 = x_3.2.1 ∧ True) ∧ True) ∧ ∀ (y : Pl.Rt × Int),
 x_3.2.1 ≤ y.2 ∧ y.2 ≤ x_3.2.1 + (2 : Int) →
 (∃ x_4 : Nat × List Pl.Rt × Pl.Rt × Int,
 (x_4.1 ≤ (List.getD s x.1 Pl.dY).2.1.length ∧ x_4.2.1.length = x_4.1 ∧ p ≤ x_4.2.2.2 ∧ x_4.2.2.2 ≤ p + (100 : Int) * (↑x.1 : Int) + (3 : Int) + (30 : Int) * ((3 : Int) - x_2.1) + (2 : Int) * (↑x_4.1 : Int)) ∧ ((0 : Nat) = (0 : Nat) ∧ (0 : Nat) = (0 : Nat) ∧ (0 : Nat) = (0 : Nat) ∧ ((0 : Nat) = (0 : Nat) ∧ List.length x_2.2.1 = List.length x_2.2.1) ∧ (↑x.1 : Int) = (↑x.1 : Int) ∧ x_2.1 = x_2.1 ∧ (0 : Nat) = (0 : Nat) ∧ (0 : Int) = (↑x_4.1 : Int) ∧ True) ∧ (Is (byts x_3.1) (byts b) ∧ y.2 = x_4.2.2.2 ∧ True) ∧ (Is (syms s) (syms s) ∧ True) ∧ (Is (AV.lit (0 : Nat) (1 : Nat) fun (x x_5 : Nat) => AV.any) nilA ∧ True) ∧ IsO (xrR x_2.2.1) (xrR x_2.2.1) ∧ ((List.getD s x.1 Pl.dY).1 = (List.getD s x.1 Pl.dY).1 ∧ ((0 : Nat) = (0 : Nat) ∧ (0 : Nat) = (0 : Nat) ∧ x_4.2.1.length = (0 : Nat)) ∧ y.1.1 = x_4.2.2.1.1 ∧ y.1.2 = x_4.2.2.1.2 ∧ True) ∧ x_4.2.1.length = (0 : Nat) ∧ True) ∧ ∀ (x_4 : Nat × List Pl.Rt × Pl.Rt × Int),
 x_4.1 ≤ (List.getD s x.1 Pl.dY).2.1.length ∧ x_4.2.1.length = x_4.1 ∧ p ≤ x_4.2.2.2 ∧ x_4.2.2.2 ≤ p + (100 : Int) * (↑x.1 : Int) + (3 : Int) + (30 : Int) * ((3 : Int) - x_2.1) + (2 : Int) * (↑x_4.1 : Int) →
 ((0 : Int) ≤ (↑x.1 : Int) ∧ (↑x.1 : Int) < (↑(List.length s) : Int)) ∧ x.1 < List.length s ∧ condP (decide ((↑x_4.1 : Int) < (↑(List.getD s x.1 Pl.dY).2.1.length : Int)))
 ((((0 : Int) ≤ (↑x.1 : Int) ∧ (↑x.1 : Int) < (↑(List.length s) : Int)) ∧ x.1 < List.length s ∧ ((0 : Int) ≤ (↑x_4.1 : Int) ∧ (↑x_4.1 : Int) < (↑(List.getD s x.1 Pl.dY).2.1.length : Int)) ∧ x_4.1 < (List.getD s x.1 Pl.dY).2.1.length ∧ ∃ x_5 : List Int × Int × Int,
 Rd (549755813888 : Int) x_5.1 x_5.2.1 ∧ (((0 : Nat) = (0 : Nat) ∧ (List.getD s x.1 Pl.dY).2.1.getD x_4.1 (0 : Int) = x_5.2.2 ∧ True) ∧ (Is (byts b) (byts x_5.1) ∧ x_4.2.2.2 = x_5.2.1 ∧ True) ∧ True) ∧ ∀ (y : Pl.Rt × Int),
 x_5.2.1 ≤ y.2 ∧ y.2 ≤ x_5.2.1 + (2 : Int) →
 (0 : Nat) + x_4.2.1.length ≤ x_4.2.1.length ∧ (x_4.2.1.length + (1 : Nat)) * (16 : Nat) ≤ (70368744177664 : Nat) ∧ Exists fun (x' : Nat × List Pl.Rt × Pl.Rt × Int) =>
 (x'.1 ≤ (List.getD s x.1 Pl.dY).2.1.length ∧ x'.2.1.length = x'.1 ∧ p ≤ x'.2.2.2 ∧ x'.2.2.2 ≤
 p + (100 : Int) * (↑x.1 : Int) + (3 : Int) + (30 : Int) * ((3 : Int) - x_2.1) +
 (2 : Int) * (↑x'.1 : Int)) ∧ (List.getD s x.1 Pl.dY).2.1.length - x'.1 < (List.getD s x.1 Pl.dY).2.1.length - x_4.1 ∧ ((0 : Nat) = (0 : Nat) ∧ (0 : Nat) = (0 : Nat) ∧ (0 : Nat) = (0 : Nat) ∧ ((0 : Nat) = (0 : Nat) ∧ List.length x_2.2.1 = List.length x_2.2.1) ∧ (↑x.1 : Int) = (↑x.1 : Int) ∧ x_2.1 = x_2.1 ∧ (0 : Nat) = (0 : Nat) ∧ IntKind.i64.wrap ((↑x_4.1 : Int) + (1 : Int)) = (↑x'.1 : Int) ∧ True) ∧ (Is (byts x_5.1) (byts b) ∧ y.2 = x'.2.2.2 ∧ True) ∧ (Is (syms s) (syms s) ∧ True) ∧ (Is (AV.lit (0 : Nat) (1 : Nat) fun (x x_6 : Nat) => AV.any) nilA ∧ True) ∧ IsO (xrR x_2.2.1) (xrR x_2.2.1) ∧ ((List.getD s x.1 Pl.dY).1 = (List.getD s x.1 Pl.dY).1 ∧ ((0 : Nat) = (0 : Nat) ∧ x_4.2.1.length + (1 : Nat) = x'.2.1.length) ∧ x_4.2.2.1.1 = x'.2.2.1.1 ∧ x_4.2.2.1.2 = x'.2.2.1.2 ∧ True) ∧ IsO
 (AObj.arr (x_4.2.1.length + (1 : Nat)) (2 : Nat)
 (joinC x_4.2.1.length (cQ x_4.2.1)
 (rowsCell [[i64 y.1.1, i64 y.1.2]])))
 (arQ x'.2.1) ∧ True) ∧ ((0 : Int) ≤ (↑x.1 : Int) ∧ (↑x.1 : Int) < (↑(List.length s) : Int)) ∧ x.1 < List.length s ∧ ((0 : Int) ≤ (↑x_4.1 : Int) ∧ (↑x_4.1 : Int) < (↑(List.getD s x.1 Pl.dY).2.1.length : Int)) ∧ x_4.1 < (List.getD s x.1 Pl.dY).2.1.length ∧ (∃ x_5 : List Int × Int × Int,
 Rd (549755813888 : Int) x_5.1 x_5.2.1 ∧ (((0 : Nat) = (0 : Nat) ∧ (List.getD s x.1 Pl.dY).2.1.getD x_4.1 (0 : Int) = x_5.2.2 ∧ True) ∧ (Is (byts b) (byts x_5.1) ∧ x_4.2.2.2 = x_5.2.1 ∧ True) ∧ True) ∧ ∀ (y : Pl.Rt × Int),
 x_5.2.1 ≤ y.2 ∧ y.2 ≤ x_5.2.1 + (2 : Int) →
 (0 : Nat) + x_4.2.1.length ≤ x_4.2.1.length ∧ (x_4.2.1.length + (1 : Nat)) * (16 : Nat) ≤ (70368744177664 : Nat) ∧ Exists fun (x' : Nat × List Pl.Rt × Pl.Rt × Int) =>
 (x'.1 ≤ (List.getD s x.1 Pl.dY).2.1.length ∧ x'.2.1.length = x'.1 ∧ p ≤ x'.2.2.2 ∧ x'.2.2.2 ≤
 p + (100 : Int) * (↑x.1 : Int) + (3 : Int) + (30 : Int) * ((3 : Int) - x_2.1) +
 (2 : Int) * (↑x'.1 : Int)) ∧ (List.getD s x.1 Pl.dY).2.1.length - x'.1 < (List.getD s x.1 Pl.dY).2.1.length - x_4.1 ∧ ((0 : Nat) = (0 : Nat) ∧ (0 : Nat) = (0 : Nat) ∧ (0 : Nat) = (0 : Nat) ∧ ((0 : Nat) = (0 : Nat) ∧ List.length x_2.2.1 = List.length x_2.2.1) ∧ (↑x.1 : Int) = (↑x.1 : Int) ∧ x_2.1 = x_2.1 ∧ (0 : Nat) = (0 : Nat) ∧ IntKind.i64.wrap ((↑x_4.1 : Int) + (1 : Int)) = (↑x'.1 : Int) ∧ True) ∧ (Is (byts x_5.1) (byts b) ∧ y.2 = x'.2.2.2 ∧ True) ∧ (Is (syms s) (syms s) ∧ True) ∧ (Is (AV.lit (0 : Nat) (1 : Nat) fun (x x_6 : Nat) => AV.any) nilA ∧ True) ∧ IsO (xrR x_2.2.1) (xrR x_2.2.1) ∧ ((List.getD s x.1 Pl.dY).1 = (List.getD s x.1 Pl.dY).1 ∧ ((0 : Nat) = (0 : Nat) ∧ x_4.2.1.length + (1 : Nat) = x'.2.1.length) ∧ x_4.2.2.1.1 = x'.2.2.1.1 ∧ x_4.2.2.1.2 = x'.2.2.1.2 ∧ True) ∧ IsO
 (AObj.arr (x_4.2.1.length + (1 : Nat)) (2 : Nat)
 (joinC x_4.2.1.length (cQ x_4.2.1)
 (rowsCell [[i64 y.1.1, i64 y.1.2]])))
 (arQ x'.2.1) ∧ True) ∧ ∃ x_5 : List Int × Int × Int,
 Rd (549755813888 : Int) x_5.1 x_5.2.1 ∧ (((0 : Nat) = (0 : Nat) ∧ (List.getD s x.1 Pl.dY).2.1.getD x_4.1 (0 : Int) = x_5.2.2 ∧ True) ∧ (Is (byts b) (byts x_5.1) ∧ x_4.2.2.2 = x_5.2.1 ∧ True) ∧ True) ∧ ∀ (y : Pl.Rt × Int),
 x_5.2.1 ≤ y.2 ∧ y.2 ≤ x_5.2.1 + (2 : Int) →
 (0 : Nat) + x_4.2.1.length ≤ x_4.2.1.length ∧ (x_4.2.1.length + (1 : Nat)) * (16 : Nat) ≤ (70368744177664 : Nat) ∧ Exists fun (x' : Nat × List Pl.Rt × Pl.Rt × Int) =>
 (x'.1 ≤ (List.getD s x.1 Pl.dY).2.1.length ∧ x'.2.1.length = x'.1 ∧ p ≤ x'.2.2.2 ∧ x'.2.2.2 ≤
 p + (100 : Int) * (↑x.1 : Int) + (3 : Int) + (30 : Int) * ((3 : Int) - x_2.1) +
 (2 : Int) * (↑x'.1 : Int)) ∧ (List.getD s x.1 Pl.dY).2.1.length - x'.1 < (List.getD s x.1 Pl.dY).2.1.length - x_4.1 ∧ ((0 : Nat) = (0 : Nat) ∧ (0 : Nat) = (0 : Nat) ∧ (0 : Nat) = (0 : Nat) ∧ ((0 : Nat) = (0 : Nat) ∧ List.length x_2.2.1 = List.length x_2.2.1) ∧ (↑x.1 : Int) = (↑x.1 : Int) ∧ x_2.1 = x_2.1 ∧ (0 : Nat) = (0 : Nat) ∧ IntKind.i64.wrap ((↑x_4.1 : Int) + (1 : Int)) = (↑x'.1 : Int) ∧ True) ∧ (Is (byts x_5.1) (byts b) ∧ y.2 = x'.2.2.2 ∧ True) ∧ (Is (syms s) (syms s) ∧ True) ∧ (Is (AV.lit (0 : Nat) (1 : Nat) fun (x x_6 : Nat) => AV.any) nilA ∧ True) ∧ IsO (xrR x_2.2.1) (xrR x_2.2.1) ∧ ((List.getD s x.1 Pl.dY).1 = (List.getD s x.1 Pl.dY).1 ∧ ((0 : Nat) = (0 : Nat) ∧ x_4.2.1.length + (1 : Nat) = x'.2.1.length) ∧ x_4.2.2.1.1 = x'.2.2.1.1 ∧ x_4.2.2.1.2 = x'.2.2.1.2 ∧ True) ∧ IsO
 (AObj.arr (x_4.2.1.length + (1 : Nat)) (2 : Nat)
 (joinC x_4.2.1.length (cQ x_4.2.1)
 (rowsCell [[i64 y.1.1, i64 y.1.2]])))
 (arQ x'.2.1) ∧ True)
 (∃ x_5 : List Pl.Rw × Pl.Rw,
 (x_5.1.length ≤ (1000 : Nat) ∧ (∀ (y : Pl.Rw), y ∈ x_5.1 → y.2.1.length ≤ (1000 : Nat)) ∧ x_5.2.2.1.length ≤ (1000 : Nat)) ∧ ((((0 : Nat) = (0 : Nat) ∧ List.length x_2.2.1 = x_5.1.length) ∧ ((List.getD s x.1 Pl.dY).1 = x_5.2.1 ∧ ((0 : Nat) = (0 : Nat) ∧ x_4.2.1.length = x_5.2.2.1.length) ∧ x_4.2.2.1.1 = x_5.2.2.2.1 ∧ x_4.2.2.1.2 = x_5.2.2.2.2 ∧ True) ∧ True) ∧ IsO (xrR x_2.2.1) (xrR x_5.1) ∧ IsO (arQ x_4.2.1) (arQ x_5.2.2.1) ∧ True) ∧ ∀ (y : List Nat),
 HPut x_5.1.length y →
 Exists fun (x' : Int × Pl.Mdl × Int) =>
 ((0 : Int) ≤ x'.1 ∧ x'.1 ≤ (3 : Int) ∧ Pl.MdB ((3 : Nat) * x.1 + (3 : Nat) - x'.1.toNat) (2 : Nat) x'.2.1 ∧ p ≤ x'.2.2 ∧ x'.2.2 ≤ p + (100 : Int) * (↑x.1 : Int) + (1 : Int) + (30 : Int) * ((3 : Int) - x'.1)) ∧ x'.1.toNat < x_2.1.toNat ∧ ((0 : Nat) = (0 : Nat) ∧ (0 : Nat) = (0 : Nat) ∧ (0 : Nat) = (0 : Nat) ∧ ((0 : Nat) = (0 : Nat) ∧ y.length = List.length x'.2.1) ∧ (↑x.1 : Int) = (↑x.1 : Int) ∧ IntKind.i64.wrap (x_2.1 - (1 : Int)) = x'.1 ∧ True) ∧ (Is (byts b) (byts b) ∧ x_4.2.2.2 = x'.2.2 ∧ True) ∧ (Is (syms s) (syms s) ∧ True) ∧ (Is (AV.lit (0 : Nat) (1 : Nat) fun (x x_6 : Nat) => AV.any) nilA ∧ True) ∧ IsO (xrR (List.map (fun (i : Nat) => (x_5.1 ++ [x_5.2]).getD i Pl.dR) y)) (xrR x'.2.1) ∧ True)) ∧ ∃ x_3 : List Int × Int × Int,
 Rd (549755813888 : Int) x_3.1 x_3.2.1 ∧ (((0 : Nat) = (0 : Nat) ∧ (List.getD s x.1 Pl.dY).2.2 = x_3.2.2 ∧ True) ∧ (Is (byts b) (byts x_3.1) ∧ x_2.2.2 = x_3.2.1 ∧ True) ∧ True) ∧ ∀ (y : Pl.Rt × Int),
 x_3.2.1 ≤ y.2 ∧ y.2 ≤ x_3.2.1 + (2 : Int) →
 ((0 : Int) ≤ (↑x.1 : Int) ∧ (↑x.1 : Int) < (↑(List.length s) : Int)) ∧ x.1 < List.length s ∧ (∃ x_4 : Nat × List Pl.Rt × Pl.Rt × Int,
 (x_4.1 ≤ (List.getD s x.1 Pl.dY).2.1.length ∧ x_4.2.1.length = x_4.1 ∧ p ≤ x_4.2.2.2 ∧ x_4.2.2.2 ≤ p + (100 : Int) * (↑x.1 : Int) + (3 : Int) + (30 : Int) * ((3 : Int) - x_2.1) + (2 : Int) * (↑x_4.1 : Int)) ∧ ((0 : Nat) = (0 : Nat) ∧ (0 : Nat) = (0 : Nat) ∧ (0 : Nat) = (0 : Nat) ∧ ((0 : Nat) = (0 : Nat) ∧ List.length x_2.2.1 = List.length x_2.2.1) ∧ (↑x.1 : Int) = (↑x.1 : Int) ∧ x_2.1 = x_2.1 ∧ (0 : Nat) = (0 : Nat) ∧ (0 : Int) = (↑x_4.1 : Int) ∧ True) ∧ (Is (byts x_3.1) (byts b) ∧ y.2 = x_4.2.2.2 ∧ True) ∧ (Is (syms s) (syms s) ∧ True) ∧ (Is (AV.lit (0 : Nat) (1 : Nat) fun (x x_5 : Nat) => AV.any) nilA ∧ True) ∧ IsO (xrR x_2.2.1) (xrR x_2.2.1) ∧ ((List.getD s x.1 Pl.dY).1 = (List.getD s x.1 Pl.dY).1 ∧ ((0 : Nat) = (0 : Nat) ∧ (0 : Nat) = (0 : Nat) ∧ x_4.2.1.length = (0 : Nat)) ∧ y.1.1 = x_4.2.2.1.1 ∧ y.1.2 = x_4.2.2.1.2 ∧ True) ∧ x_4.2.1.length = (0 : Nat) ∧ True) ∧ ∀ (x_4 : Nat × List Pl.Rt × Pl.Rt × Int),
 x_4.1 ≤ (List.getD s x.1 Pl.dY).2.1.length ∧ x_4.2.1.length = x_4.1 ∧ p ≤ x_4.2.2.2 ∧ x_4.2.2.2 ≤ p + (100 : Int) * (↑x.1 : Int) + (3 : Int) + (30 : Int) * ((3 : Int) - x_2.1) + (2 : Int) * (↑x_4.1 : Int) →
 ((0 : Int) ≤ (↑x.1 : Int) ∧ (↑x.1 : Int) < (↑(List.length s) : Int)) ∧ x.1 < List.length s ∧ condP (decide ((↑x_4.1 : Int) < (↑(List.getD s x.1 Pl.dY).2.1.length : Int)))
 ((((0 : Int) ≤ (↑x.1 : Int) ∧ (↑x.1 : Int) < (↑(List.length s) : Int)) ∧ x.1 < List.length s ∧ ((0 : Int) ≤ (↑x_4.1 : Int) ∧ (↑x_4.1 : Int) < (↑(List.getD s x.1 Pl.dY).2.1.length : Int)) ∧ x_4.1 < (List.getD s x.1 Pl.dY).2.1.length ∧ ∃ x_5 : List Int × Int × Int,
 Rd (549755813888 : Int) x_5.1 x_5.2.1 ∧ (((0 : Nat) = (0 : Nat) ∧ (List.getD s x.1 Pl.dY).2.1.getD x_4.1 (0 : Int) = x_5.2.2 ∧ True) ∧ (Is (byts b) (byts x_5.1) ∧ x_4.2.2.2 = x_5.2.1 ∧ True) ∧ True) ∧ ∀ (y : Pl.Rt × Int),
 x_5.2.1 ≤ y.2 ∧ y.2 ≤ x_5.2.1 + (2 : Int) →
 (0 : Nat) + x_4.2.1.length ≤ x_4.2.1.length ∧ (x_4.2.1.length + (1 : Nat)) * (16 : Nat) ≤ (70368744177664 : Nat) ∧ Exists fun (x' : Nat × List Pl.Rt × Pl.Rt × Int) =>
 (x'.1 ≤ (List.getD s x.1 Pl.dY).2.1.length ∧ x'.2.1.length = x'.1 ∧ p ≤ x'.2.2.2 ∧ x'.2.2.2 ≤
 p + (100 : Int) * (↑x.1 : Int) + (3 : Int) + (30 : Int) * ((3 : Int) - x_2.1) +
 (2 : Int) * (↑x'.1 : Int)) ∧ (List.getD s x.1 Pl.dY).2.1.length - x'.1 < (List.getD s x.1 Pl.dY).2.1.length - x_4.1 ∧ ((0 : Nat) = (0 : Nat) ∧ (0 : Nat) = (0 : Nat) ∧ (0 : Nat) = (0 : Nat) ∧ ((0 : Nat) = (0 : Nat) ∧ List.length x_2.2.1 = List.length x_2.2.1) ∧ (↑x.1 : Int) = (↑x.1 : Int) ∧ x_2.1 = x_2.1 ∧ (0 : Nat) = (0 : Nat) ∧ IntKind.i64.wrap ((↑x_4.1 : Int) + (1 : Int)) = (↑x'.1 : Int) ∧ True) ∧ (Is (byts x_5.1) (byts b) ∧ y.2 = x'.2.2.2 ∧ True) ∧ (Is (syms s) (syms s) ∧ True) ∧ (Is (AV.lit (0 : Nat) (1 : Nat) fun (x x_6 : Nat) => AV.any) nilA ∧ True) ∧ IsO (xrR x_2.2.1) (xrR x_2.2.1) ∧ ((List.getD s x.1 Pl.dY).1 = (List.getD s x.1 Pl.dY).1 ∧ ((0 : Nat) = (0 : Nat) ∧ x_4.2.1.length + (1 : Nat) = x'.2.1.length) ∧ x_4.2.2.1.1 = x'.2.2.1.1 ∧ x_4.2.2.1.2 = x'.2.2.1.2 ∧ True) ∧ IsO
 (AObj.arr (x_4.2.1.length + (1 : Nat)) (2 : Nat)
 (joinC x_4.2.1.length (cQ x_4.2.1)
 (rowsCell [[i64 y.1.1, i64 y.1.2]])))
 (arQ x'.2.1) ∧ True) ∧ ((0 : Int) ≤ (↑x.1 : Int) ∧ (↑x.1 : Int) < (↑(List.length s) : Int)) ∧ x.1 < List.length s ∧ ((0 : Int) ≤ (↑x_4.1 : Int) ∧ (↑x_4.1 : Int) < (↑(List.getD s x.1 Pl.dY).2.1.length : Int)) ∧ x_4.1 < (List.getD s x.1 Pl.dY).2.1.length ∧ (∃ x_5 : List Int × Int × Int,
 Rd (549755813888 : Int) x_5.1 x_5.2.1 ∧ (((0 : Nat) = (0 : Nat) ∧ (List.getD s x.1 Pl.dY).2.1.getD x_4.1 (0 : Int) = x_5.2.2 ∧ True) ∧ (Is (byts b) (byts x_5.1) ∧ x_4.2.2.2 = x_5.2.1 ∧ True) ∧ True) ∧ ∀ (y : Pl.Rt × Int),
 x_5.2.1 ≤ y.2 ∧ y.2 ≤ x_5.2.1 + (2 : Int) →
 (0 : Nat) + x_4.2.1.length ≤ x_4.2.1.length ∧ (x_4.2.1.length + (1 : Nat)) * (16 : Nat) ≤ (70368744177664 : Nat) ∧ Exists fun (x' : Nat × List Pl.Rt × Pl.Rt × Int) =>
 (x'.1 ≤ (List.getD s x.1 Pl.dY).2.1.length ∧ x'.2.1.length = x'.1 ∧ p ≤ x'.2.2.2 ∧ x'.2.2.2 ≤
 p + (100 : Int) * (↑x.1 : Int) + (3 : Int) + (30 : Int) * ((3 : Int) - x_2.1) +
 (2 : Int) * (↑x'.1 : Int)) ∧ (List.getD s x.1 Pl.dY).2.1.length - x'.1 < (List.getD s x.1 Pl.dY).2.1.length - x_4.1 ∧ ((0 : Nat) = (0 : Nat) ∧ (0 : Nat) = (0 : Nat) ∧ (0 : Nat) = (0 : Nat) ∧ ((0 : Nat) = (0 : Nat) ∧ List.length x_2.2.1 = List.length x_2.2.1) ∧ (↑x.1 : Int) = (↑x.1 : Int) ∧ x_2.1 = x_2.1 ∧ (0 : Nat) = (0 : Nat) ∧ IntKind.i64.wrap ((↑x_4.1 : Int) + (1 : Int)) = (↑x'.1 : Int) ∧ True) ∧ (Is (byts x_5.1) (byts b) ∧ y.2 = x'.2.2.2 ∧ True) ∧ (Is (syms s) (syms s) ∧ True) ∧ (Is (AV.lit (0 : Nat) (1 : Nat) fun (x x_6 : Nat) => AV.any) nilA ∧ True) ∧ IsO (xrR x_2.2.1) (xrR x_2.2.1) ∧ ((List.getD s x.1 Pl.dY).1 = (List.getD s x.1 Pl.dY).1 ∧ ((0 : Nat) = (0 : Nat) ∧ x_4.2.1.length + (1 : Nat) = x'.2.1.length) ∧ x_4.2.2.1.1 = x'.2.2.1.1 ∧ x_4.2.2.1.2 = x'.2.2.1.2 ∧ True) ∧ IsO
 (AObj.arr (x_4.2.1.length + (1 : Nat)) (2 : Nat)
 (joinC x_4.2.1.length (cQ x_4.2.1)
 (rowsCell [[i64 y.1.1, i64 y.1.2]])))
 (arQ x'.2.1) ∧ True) ∧ ∃ x_5 : List Int × Int × Int,
 Rd (549755813888 : Int) x_5.1 x_5.2.1 ∧ (((0 : Nat) = (0 : Nat) ∧ (List.getD s x.1 Pl.dY).2.1.getD x_4.1 (0 : Int) = x_5.2.2 ∧ True) ∧ (Is (byts b) (byts x_5.1) ∧ x_4.2.2.2 = x_5.2.1 ∧ True) ∧ True) ∧ ∀ (y : Pl.Rt × Int),
 x_5.2.1 ≤ y.2 ∧ y.2 ≤ x_5.2.1 + (2 : Int) →
 (0 : Nat) + x_4.2.1.length ≤ x_4.2.1.length ∧ (x_4.2.1.length + (1 : Nat)) * (16 : Nat) ≤ (70368744177664 : Nat) ∧ Exists fun (x' : Nat × List Pl.Rt × Pl.Rt × Int) =>
 (x'.1 ≤ (List.getD s x.1 Pl.dY).2.1.length ∧ x'.2.1.length = x'.1 ∧ p ≤ x'.2.2.2 ∧ x'.2.2.2 ≤
 p + (100 : Int) * (↑x.1 : Int) + (3 : Int) + (30 : Int) * ((3 : Int) - x_2.1) +
 (2 : Int) * (↑x'.1 : Int)) ∧ (List.getD s x.1 Pl.dY).2.1.length - x'.1 < (List.getD s x.1 Pl.dY).2.1.length - x_4.1 ∧ ((0 : Nat) = (0 : Nat) ∧ (0 : Nat) = (0 : Nat) ∧ (0 : Nat) = (0 : Nat) ∧ ((0 : Nat) = (0 : Nat) ∧ List.length x_2.2.1 = List.length x_2.2.1) ∧ (↑x.1 : Int) = (↑x.1 : Int) ∧ x_2.1 = x_2.1 ∧ (0 : Nat) = (0 : Nat) ∧ IntKind.i64.wrap ((↑x_4.1 : Int) + (1 : Int)) = (↑x'.1 : Int) ∧ True) ∧ (Is (byts x_5.1) (byts b) ∧ y.2 = x'.2.2.2 ∧ True) ∧ (Is (syms s) (syms s) ∧ True) ∧ (Is (AV.lit (0 : Nat) (1 : Nat) fun (x x_6 : Nat) => AV.any) nilA ∧ True) ∧ IsO (xrR x_2.2.1) (xrR x_2.2.1) ∧ ((List.getD s x.1 Pl.dY).1 = (List.getD s x.1 Pl.dY).1 ∧ ((0 : Nat) = (0 : Nat) ∧ x_4.2.1.length + (1 : Nat) = x'.2.1.length) ∧ x_4.2.2.1.1 = x'.2.2.1.1 ∧ x_4.2.2.1.2 = x'.2.2.1.2 ∧ True) ∧ IsO
 (AObj.arr (x_4.2.1.length + (1 : Nat)) (2 : Nat)
 (joinC x_4.2.1.length (cQ x_4.2.1)
 (rowsCell [[i64 y.1.1, i64 y.1.2]])))
 (arQ x'.2.1) ∧ True)
 (∃ x_5 : List Pl.Rw × Pl.Rw,
 (x_5.1.length ≤ (1000 : Nat) ∧ (∀ (y : Pl.Rw), y ∈ x_5.1 → y.2.1.length ≤ (1000 : Nat)) ∧ x_5.2.2.1.length ≤ (1000 : Nat)) ∧ ((((0 : Nat) = (0 : Nat) ∧ List.length x_2.2.1 = x_5.1.length) ∧ ((List.getD s x.1 Pl.dY).1 = x_5.2.1 ∧ ((0 : Nat) = (0 : Nat) ∧ x_4.2.1.length = x_5.2.2.1.length) ∧ x_4.2.2.1.1 = x_5.2.2.2.1 ∧ x_4.2.2.1.2 = x_5.2.2.2.2 ∧ True) ∧ True) ∧ IsO (xrR x_2.2.1) (xrR x_5.1) ∧ IsO (arQ x_4.2.1) (arQ x_5.2.2.1) ∧ True) ∧ ∀ (y : List Nat),
 HPut x_5.1.length y →
 Exists fun (x' : Int × Pl.Mdl × Int) =>
 ((0 : Int) ≤ x'.1 ∧ x'.1 ≤ (3 : Int) ∧ Pl.MdB ((3 : Nat) * x.1 + (3 : Nat) - x'.1.toNat) (2 : Nat) x'.2.1 ∧ p ≤ x'.2.2 ∧ x'.2.2 ≤ p + (100 : Int) * (↑x.1 : Int) + (1 : Int) + (30 : Int) * ((3 : Int) - x'.1)) ∧ x'.1.toNat < x_2.1.toNat ∧ ((0 : Nat) = (0 : Nat) ∧ (0 : Nat) = (0 : Nat) ∧ (0 : Nat) = (0 : Nat) ∧ ((0 : Nat) = (0 : Nat) ∧ y.length = List.length x'.2.1) ∧ (↑x.1 : Int) = (↑x.1 : Int) ∧ IntKind.i64.wrap (x_2.1 - (1 : Int)) = x'.1 ∧ True) ∧ (Is (byts b) (byts b) ∧ x_4.2.2.2 = x'.2.2 ∧ True) ∧ (Is (syms s) (syms s) ∧ True) ∧ (Is (AV.lit (0 : Nat) (1 : Nat) fun (x x_6 : Nat) => AV.any) nilA ∧ True) ∧ IsO (xrR (List.map (fun (i : Nat) => (x_5.1 ++ [x_5.2]).getD i Pl.dR) y)) (xrR x'.2.1) ∧ True)) ∧ (((0 : Int) ≤ (↑x.1 : Int) ∧ (↑x.1 : Int) < (↑(List.length s) : Int)) ∧ x.1 < List.length s ∧ ((0 : Int) ≤ (↑x.1 : Int) ∧ (↑x.1 : Int) < (↑(List.length s) : Int)) ∧ x.1 < List.length s ∧ ∃ x_3 : List Int × Int × Int,
 Rd (549755813888 : Int) x_3.1 x_3.2.1 ∧ (((0 : Nat) = (0 : Nat) ∧ (List.getD s x.1 Pl.dY).2.2 = x_3.2.2 ∧ True) ∧ (Is (byts b) (byts x_3.1) ∧ x_2.2.2 = x_3.2.1 ∧ True) ∧ True) ∧ ∀ (y : Pl.Rt × Int),
 x_3.2.1 ≤ y.2 ∧ y.2 ≤ x_3.2.1 + (2 : Int) →
 (∃ x_4 : Nat × List Pl.Rt × Pl.Rt × Int,
 (x_4.1 ≤ (List.getD s x.1 Pl.dY).2.1.length ∧ x_4.2.1.length = x_4.1 ∧ p ≤ x_4.2.2.2 ∧ x_4.2.2.2 ≤ p + (100 : Int) * (↑x.1 : Int) + (3 : Int) + (30 : Int) * ((3 : Int) - x_2.1) + (2 : Int) * (↑x_4.1 : Int)) ∧ ((0 : Nat) = (0 : Nat) ∧ (0 : Nat) = (0 : Nat) ∧ (0 : Nat) = (0 : Nat) ∧ ((0 : Nat) = (0 : Nat) ∧ List.length x_2.2.1 = List.length x_2.2.1) ∧ (↑x.1 : Int) = (↑x.1 : Int) ∧ x_2.1 = x_2.1 ∧ (0 : Nat) = (0 : Nat) ∧ (0 : Int) = (↑x_4.1 : Int) ∧ True) ∧ (Is (byts x_3.1) (byts b) ∧ y.2 = x_4.2.2.2 ∧ True) ∧ (Is (syms s) (syms s) ∧ True) ∧ (Is (AV.lit (0 : Nat) (1 : Nat) fun (x x_5 : Nat) => AV.any) nilA ∧ True) ∧ IsO (xrR x_2.2.1) (xrR x_2.2.1) ∧ ((List.getD s x.1 Pl.dY).1 = (List.getD s x.1 Pl.dY).1 ∧ ((0 : Nat) = (0 : Nat) ∧ (0 : Nat) = (0 : Nat) ∧ x_4.2.1.length = (0 : Nat)) ∧ y.1.1 = x_4.2.2.1.1 ∧ y.1.2 = x_4.2.2.1.2 ∧ True) ∧ x_4.2.1.length = (0 : Nat) ∧ True) ∧ ∀ (x_4 : Nat × List Pl.Rt × Pl.Rt × Int),
 x_4.1 ≤ (List.getD s x.1 Pl.dY).2.1.length ∧ x_4.2.1.length = x_4.1 ∧ p ≤ x_4.2.2.2 ∧ x_4.2.2.2 ≤ p + (100 : Int) * (↑x.1 : Int) + (3 : Int) + (30 : Int) * ((3 : Int) - x_2.1) + (2 : Int) * (↑x_4.1 : Int) →
 ((0 : Int) ≤ (↑x.1 : Int) ∧ (↑x.1 : Int) < (↑(List.length s) : Int)) ∧ x.1 < List.length s ∧ condP (decide ((↑x_4.1 : Int) < (↑(List.getD s x.1 Pl.dY).2.1.length : Int)))
 ((((0 : Int) ≤ (↑x.1 : Int) ∧ (↑x.1 : Int) < (↑(List.length s) : Int)) ∧ x.1 < List.length s ∧ ((0 : Int) ≤ (↑x_4.1 : Int) ∧ (↑x_4.1 : Int) < (↑(List.getD s x.1 Pl.dY).2.1.length : Int)) ∧ x_4.1 < (List.getD s x.1 Pl.dY).2.1.length ∧ ∃ x_5 : List Int × Int × Int,
 Rd (549755813888 : Int) x_5.1 x_5.2.1 ∧ (((0 : Nat) = (0 : Nat) ∧ (List.getD s x.1 Pl.dY).2.1.getD x_4.1 (0 : Int) = x_5.2.2 ∧ True) ∧ (Is (byts b) (byts x_5.1) ∧ x_4.2.2.2 = x_5.2.1 ∧ True) ∧ True) ∧ ∀ (y : Pl.Rt × Int),
 x_5.2.1 ≤ y.2 ∧ y.2 ≤ x_5.2.1 + (2 : Int) →
 (0 : Nat) + x_4.2.1.length ≤ x_4.2.1.length ∧ (x_4.2.1.length + (1 : Nat)) * (16 : Nat) ≤ (70368744177664 : Nat) ∧ Exists fun (x' : Nat × List Pl.Rt × Pl.Rt × Int) =>
 (x'.1 ≤ (List.getD s x.1 Pl.dY).2.1.length ∧ x'.2.1.length = x'.1 ∧ p ≤ x'.2.2.2 ∧ x'.2.2.2 ≤
 p + (100 : Int) * (↑x.1 : Int) + (3 : Int) + (30 : Int) * ((3 : Int) - x_2.1) +
 (2 : Int) * (↑x'.1 : Int)) ∧ (List.getD s x.1 Pl.dY).2.1.length - x'.1 < (List.getD s x.1 Pl.dY).2.1.length - x_4.1 ∧ ((0 : Nat) = (0 : Nat) ∧ (0 : Nat) = (0 : Nat) ∧ (0 : Nat) = (0 : Nat) ∧ ((0 : Nat) = (0 : Nat) ∧ List.length x_2.2.1 = List.length x_2.2.1) ∧ (↑x.1 : Int) = (↑x.1 : Int) ∧ x_2.1 = x_2.1 ∧ (0 : Nat) = (0 : Nat) ∧ IntKind.i64.wrap ((↑x_4.1 : Int) + (1 : Int)) = (↑x'.1 : Int) ∧ True) ∧ (Is (byts x_5.1) (byts b) ∧ y.2 = x'.2.2.2 ∧ True) ∧ (Is (syms s) (syms s) ∧ True) ∧ (Is (AV.lit (0 : Nat) (1 : Nat) fun (x x_6 : Nat) => AV.any) nilA ∧ True) ∧ IsO (xrR x_2.2.1) (xrR x_2.2.1) ∧ ((List.getD s x.1 Pl.dY).1 = (List.getD s x.1 Pl.dY).1 ∧ ((0 : Nat) = (0 : Nat) ∧ x_4.2.1.length + (1 : Nat) = x'.2.1.length) ∧ x_4.2.2.1.1 = x'.2.2.1.1 ∧ x_4.2.2.1.2 = x'.2.2.1.2 ∧ True) ∧ IsO
 (AObj.arr (x_4.2.1.length + (1 : Nat)) (2 : Nat)
 (joinC x_4.2.1.length (cQ x_4.2.1)
 (rowsCell [[i64 y.1.1, i64 y.1.2]])))
 (arQ x'.2.1) ∧ True) ∧ ((0 : Int) ≤ (↑x.1 : Int) ∧ (↑x.1 : Int) < (↑(List.length s) : Int)) ∧ x.1 < List.length s ∧ ((0 : Int) ≤ (↑x_4.1 : Int) ∧ (↑x_4.1 : Int) < (↑(List.getD s x.1 Pl.dY).2.1.length : Int)) ∧ x_4.1 < (List.getD s x.1 Pl.dY).2.1.length ∧ (∃ x_5 : List Int × Int × Int,
 Rd (549755813888 : Int) x_5.1 x_5.2.1 ∧ (((0 : Nat) = (0 : Nat) ∧ (List.getD s x.1 Pl.dY).2.1.getD x_4.1 (0 : Int) = x_5.2.2 ∧ True) ∧ (Is (byts b) (byts x_5.1) ∧ x_4.2.2.2 = x_5.2.1 ∧ True) ∧ True) ∧ ∀ (y : Pl.Rt × Int),
 x_5.2.1 ≤ y.2 ∧ y.2 ≤ x_5.2.1 + (2 : Int) →
 (0 : Nat) + x_4.2.1.length ≤ x_4.2.1.length ∧ (x_4.2.1.length + (1 : Nat)) * (16 : Nat) ≤ (70368744177664 : Nat) ∧ Exists fun (x' : Nat × List Pl.Rt × Pl.Rt × Int) =>
 (x'.1 ≤ (List.getD s x.1 Pl.dY).2.1.length ∧ x'.2.1.length = x'.1 ∧ p ≤ x'.2.2.2 ∧ x'.2.2.2 ≤
 p + (100 : Int) * (↑x.1 : Int) + (3 : Int) + (30 : Int) * ((3 : Int) - x_2.1) +
 (2 : Int) * (↑x'.1 : Int)) ∧ (List.getD s x.1 Pl.dY).2.1.length - x'.1 < (List.getD s x.1 Pl.dY).2.1.length - x_4.1 ∧ ((0 : Nat) = (0 : Nat) ∧ (0 : Nat) = (0 : Nat) ∧ (0 : Nat) = (0 : Nat) ∧ ((0 : Nat) = (0 : Nat) ∧ List.length x_2.2.1 = List.length x_2.2.1) ∧ (↑x.1 : Int) = (↑x.1 : Int) ∧ x_2.1 = x_2.1 ∧ (0 : Nat) = (0 : Nat) ∧ IntKind.i64.wrap ((↑x_4.1 : Int) + (1 : Int)) = (↑x'.1 : Int) ∧ True) ∧ (Is (byts x_5.1) (byts b) ∧ y.2 = x'.2.2.2 ∧ True) ∧ (Is (syms s) (syms s) ∧ True) ∧ (Is (AV.lit (0 : Nat) (1 : Nat) fun (x x_6 : Nat) => AV.any) nilA ∧ True) ∧ IsO (xrR x_2.2.1) (xrR x_2.2.1) ∧ ((List.getD s x.1 Pl.dY).1 = (List.getD s x.1 Pl.dY).1 ∧ ((0 : Nat) = (0 : Nat) ∧ x_4.2.1.length + (1 : Nat) = x'.2.1.length) ∧ x_4.2.2.1.1 = x'.2.2.1.1 ∧ x_4.2.2.1.2 = x'.2.2.1.2 ∧ True) ∧ IsO
 (AObj.arr (x_4.2.1.length + (1 : Nat)) (2 : Nat)
 (joinC x_4.2.1.length (cQ x_4.2.1)
 (rowsCell [[i64 y.1.1, i64 y.1.2]])))
 (arQ x'.2.1) ∧ True) ∧ ∃ x_5 : List Int × Int × Int,
 Rd (549755813888 : Int) x_5.1 x_5.2.1 ∧ (((0 : Nat) = (0 : Nat) ∧ (List.getD s x.1 Pl.dY).2.1.getD x_4.1 (0 : Int) = x_5.2.2 ∧ True) ∧ (Is (byts b) (byts x_5.1) ∧ x_4.2.2.2 = x_5.2.1 ∧ True) ∧ True) ∧ ∀ (y : Pl.Rt × Int),
 x_5.2.1 ≤ y.2 ∧ y.2 ≤ x_5.2.1 + (2 : Int) →
 (0 : Nat) + x_4.2.1.length ≤ x_4.2.1.length ∧ (x_4.2.1.length + (1 : Nat)) * (16 : Nat) ≤ (70368744177664 : Nat) ∧ Exists fun (x' : Nat × List Pl.Rt × Pl.Rt × Int) =>
 (x'.1 ≤ (List.getD s x.1 Pl.dY).2.1.length ∧ x'.2.1.length = x'.1 ∧ p ≤ x'.2.2.2 ∧ x'.2.2.2 ≤
 p + (100 : Int) * (↑x.1 : Int) + (3 : Int) + (30 : Int) * ((3 : Int) - x_2.1) +
 (2 : Int) * (↑x'.1 : Int)) ∧ (List.getD s x.1 Pl.dY).2.1.length - x'.1 < (List.getD s x.1 Pl.dY).2.1.length - x_4.1 ∧ ((0 : Nat) = (0 : Nat) ∧ (0 : Nat) = (0 : Nat) ∧ (0 : Nat) = (0 : Nat) ∧ ((0 : Nat) = (0 : Nat) ∧ List.length x_2.2.1 = List.length x_2.2.1) ∧ (↑x.1 : Int) = (↑x.1 : Int) ∧ x_2.1 = x_2.1 ∧ (0 : Nat) = (0 : Nat) ∧ IntKind.i64.wrap ((↑x_4.1 : Int) + (1 : Int)) = (↑x'.1 : Int) ∧ True) ∧ (Is (byts x_5.1) (byts b) ∧ y.2 = x'.2.2.2 ∧ True) ∧ (Is (syms s) (syms s) ∧ True) ∧ (Is (AV.lit (0 : Nat) (1 : Nat) fun (x x_6 : Nat) => AV.any) nilA ∧ True) ∧ IsO (xrR x_2.2.1) (xrR x_2.2.1) ∧ ((List.getD s x.1 Pl.dY).1 = (List.getD s x.1 Pl.dY).1 ∧ ((0 : Nat) = (0 : Nat) ∧ x_4.2.1.length + (1 : Nat) = x'.2.1.length) ∧ x_4.2.2.1.1 = x'.2.2.1.1 ∧ x_4.2.2.1.2 = x'.2.2.1.2 ∧ True) ∧ IsO
 (AObj.arr (x_4.2.1.length + (1 : Nat)) (2 : Nat)
 (joinC x_4.2.1.length (cQ x_4.2.1)
 (rowsCell [[i64 y.1.1, i64 y.1.2]])))
 (arQ x'.2.1) ∧ True)
 (∃ x_5 : List Pl.Rw × Pl.Rw,
 (x_5.1.length ≤ (1000 : Nat) ∧ (∀ (y : Pl.Rw), y ∈ x_5.1 → y.2.1.length ≤ (1000 : Nat)) ∧ x_5.2.2.1.length ≤ (1000 : Nat)) ∧ ((((0 : Nat) = (0 : Nat) ∧ List.length x_2.2.1 = x_5.1.length) ∧ ((List.getD s x.1 Pl.dY).1 = x_5.2.1 ∧ ((0 : Nat) = (0 : Nat) ∧ x_4.2.1.length = x_5.2.2.1.length) ∧ x_4.2.2.1.1 = x_5.2.2.2.1 ∧ x_4.2.2.1.2 = x_5.2.2.2.2 ∧ True) ∧ True) ∧ IsO (xrR x_2.2.1) (xrR x_5.1) ∧ IsO (arQ x_4.2.1) (arQ x_5.2.2.1) ∧ True) ∧ ∀ (y : List Nat),
 HPut x_5.1.length y →
 Exists fun (x' : Int × Pl.Mdl × Int) =>
 ((0 : Int) ≤ x'.1 ∧ x'.1 ≤ (3 : Int) ∧ Pl.MdB ((3 : Nat) * x.1 + (3 : Nat) - x'.1.toNat) (2 : Nat) x'.2.1 ∧ p ≤ x'.2.2 ∧ x'.2.2 ≤ p + (100 : Int) * (↑x.1 : Int) + (1 : Int) + (30 : Int) * ((3 : Int) - x'.1)) ∧ x'.1.toNat < x_2.1.toNat ∧ ((0 : Nat) = (0 : Nat) ∧ (0 : Nat) = (0 : Nat) ∧ (0 : Nat) = (0 : Nat) ∧ ((0 : Nat) = (0 : Nat) ∧ y.length = List.length x'.2.1) ∧ (↑x.1 : Int) = (↑x.1 : Int) ∧ IntKind.i64.wrap (x_2.1 - (1 : Int)) = x'.1 ∧ True) ∧ (Is (byts b) (byts b) ∧ x_4.2.2.2 = x'.2.2 ∧ True) ∧ (Is (syms s) (syms s) ∧ True) ∧ (Is (AV.lit (0 : Nat) (1 : Nat) fun (x x_6 : Nat) => AV.any) nilA ∧ True) ∧ IsO (xrR (List.map (fun (i : Nat) => (x_5.1 ++ [x_5.2]).getD i Pl.dR) y)) (xrR x'.2.1) ∧ True)) ∧ ((0 : Int) ≤ (↑x.1 : Int) ∧ (↑x.1 : Int) < (↑(List.length s) : Int)) ∧ x.1 < List.length s ∧ (((0 : Int) ≤ (↑x.1 : Int) ∧ (↑x.1 : Int) < (↑(List.length s) : Int)) ∧ x.1 < List.length s ∧ ∃ x_3 : List Int × Int × Int,
 Rd (549755813888 : Int) x_3.1 x_3.2.1 ∧ (((0 : Nat) = (0 : Nat) ∧ (List.getD s x.1 Pl.dY).2.2 = x_3.2.2 ∧ True) ∧ (Is (byts b) (byts x_3.1) ∧ x_2.2.2 = x_3.2.1 ∧ True) ∧ True) ∧ ∀ (y : Pl.Rt × Int),
 x_3.2.1 ≤ y.2 ∧ y.2 ≤ x_3.2.1 + (2 : Int) →
 (∃ x_4 : Nat × List Pl.Rt × Pl.Rt × Int,
 (x_4.1 ≤ (List.getD s x.1 Pl.dY).2.1.length ∧ x_4.2.1.length = x_4.1 ∧ p ≤ x_4.2.2.2 ∧ x_4.2.2.2 ≤ p + (100 : Int) * (↑x.1 : Int) + (3 : Int) + (30 : Int) * ((3 : Int) - x_2.1) + (2 : Int) * (↑x_4.1 : Int)) ∧ ((0 : Nat) = (0 : Nat) ∧ (0 : Nat) = (0 : Nat) ∧ (0 : Nat) = (0 : Nat) ∧ ((0 : Nat) = (0 : Nat) ∧ List.length x_2.2.1 = List.length x_2.2.1) ∧ (↑x.1 : Int) = (↑x.1 : Int) ∧ x_2.1 = x_2.1 ∧ (0 : Nat) = (0 : Nat) ∧ (0 : Int) = (↑x_4.1 : Int) ∧ True) ∧ (Is (byts x_3.1) (byts b) ∧ y.2 = x_4.2.2.2 ∧ True) ∧ (Is (syms s) (syms s) ∧ True) ∧ (Is (AV.lit (0 : Nat) (1 : Nat) fun (x x_5 : Nat) => AV.any) nilA ∧ True) ∧ IsO (xrR x_2.2.1) (xrR x_2.2.1) ∧ ((List.getD s x.1 Pl.dY).1 = (List.getD s x.1 Pl.dY).1 ∧ ((0 : Nat) = (0 : Nat) ∧ (0 : Nat) = (0 : Nat) ∧ x_4.2.1.length = (0 : Nat)) ∧ y.1.1 = x_4.2.2.1.1 ∧ y.1.2 = x_4.2.2.1.2 ∧ True) ∧ x_4.2.1.length = (0 : Nat) ∧ True) ∧ ∀ (x_4 : Nat × List Pl.Rt × Pl.Rt × Int),
 x_4.1 ≤ (List.getD s x.1 Pl.dY).2.1.length ∧ x_4.2.1.length = x_4.1 ∧ p ≤ x_4.2.2.2 ∧ x_4.2.2.2 ≤ p + (100 : Int) * (↑x.1 : Int) + (3 : Int) + (30 : Int) * ((3 : Int) - x_2.1) + (2 : Int) * (↑x_4.1 : Int) →
 ((0 : Int) ≤ (↑x.1 : Int) ∧ (↑x.1 : Int) < (↑(List.length s) : Int)) ∧ x.1 < List.length s ∧ condP (decide ((↑x_4.1 : Int) < (↑(List.getD s x.1 Pl.dY).2.1.length : Int)))
 ((((0 : Int) ≤ (↑x.1 : Int) ∧ (↑x.1 : Int) < (↑(List.length s) : Int)) ∧ x.1 < List.length s ∧ ((0 : Int) ≤ (↑x_4.1 : Int) ∧ (↑x_4.1 : Int) < (↑(List.getD s x.1 Pl.dY).2.1.length : Int)) ∧ x_4.1 < (List.getD s x.1 Pl.dY).2.1.length ∧ ∃ x_5 : List Int × Int × Int,
 Rd (549755813888 : Int) x_5.1 x_5.2.1 ∧ (((0 : Nat) = (0 : Nat) ∧ (List.getD s x.1 Pl.dY).2.1.getD x_4.1 (0 : Int) = x_5.2.2 ∧ True) ∧ (Is (byts b) (byts x_5.1) ∧ x_4.2.2.2 = x_5.2.1 ∧ True) ∧ True) ∧ ∀ (y : Pl.Rt × Int),
 x_5.2.1 ≤ y.2 ∧ y.2 ≤ x_5.2.1 + (2 : Int) →
 (0 : Nat) + x_4.2.1.length ≤ x_4.2.1.length ∧ (x_4.2.1.length + (1 : Nat)) * (16 : Nat) ≤ (70368744177664 : Nat) ∧ Exists fun (x' : Nat × List Pl.Rt × Pl.Rt × Int) =>
 (x'.1 ≤ (List.getD s x.1 Pl.dY).2.1.length ∧ x'.2.1.length = x'.1 ∧ p ≤ x'.2.2.2 ∧ x'.2.2.2 ≤
 p + (100 : Int) * (↑x.1 : Int) + (3 : Int) + (30 : Int) * ((3 : Int) - x_2.1) +
 (2 : Int) * (↑x'.1 : Int)) ∧ (List.getD s x.1 Pl.dY).2.1.length - x'.1 < (List.getD s x.1 Pl.dY).2.1.length - x_4.1 ∧ ((0 : Nat) = (0 : Nat) ∧ (0 : Nat) = (0 : Nat) ∧ (0 : Nat) = (0 : Nat) ∧ ((0 : Nat) = (0 : Nat) ∧ List.length x_2.2.1 = List.length x_2.2.1) ∧ (↑x.1 : Int) = (↑x.1 : Int) ∧ x_2.1 = x_2.1 ∧ (0 : Nat) = (0 : Nat) ∧ IntKind.i64.wrap ((↑x_4.1 : Int) + (1 : Int)) = (↑x'.1 : Int) ∧ True) ∧ (Is (byts x_5.1) (byts b) ∧ y.2 = x'.2.2.2 ∧ True) ∧ (Is (syms s) (syms s) ∧ True) ∧ (Is (AV.lit (0 : Nat) (1 : Nat) fun (x x_6 : Nat) => AV.any) nilA ∧ True) ∧ IsO (xrR x_2.2.1) (xrR x_2.2.1) ∧ ((List.getD s x.1 Pl.dY).1 = (List.getD s x.1 Pl.dY).1 ∧ ((0 : Nat) = (0 : Nat) ∧ x_4.2.1.length + (1 : Nat) = x'.2.1.length) ∧ x_4.2.2.1.1 = x'.2.2.1.1 ∧ x_4.2.2.1.2 = x'.2.2.1.2 ∧ True) ∧ IsO
 (AObj.arr (x_4.2.1.length + (1 : Nat)) (2 : Nat)
 (joinC x_4.2.1.length (cQ x_4.2.1)
 (rowsCell [[i64 y.1.1, i64 y.1.2]])))
 (arQ x'.2.1) ∧ True) ∧ ((0 : Int) ≤ (↑x.1 : Int) ∧ (↑x.1 : Int) < (↑(List.length s) : Int)) ∧ x.1 < List.length s ∧ ((0 : Int) ≤ (↑x_4.1 : Int) ∧ (↑x_4.1 : Int) < (↑(List.getD s x.1 Pl.dY).2.1.length : Int)) ∧ x_4.1 < (List.getD s x.1 Pl.dY).2.1.length ∧ (∃ x_5 : List Int × Int × Int,
 Rd (549755813888 : Int) x_5.1 x_5.2.1 ∧ (((0 : Nat) = (0 : Nat) ∧ (List.getD s x.1 Pl.dY).2.1.getD x_4.1 (0 : Int) = x_5.2.2 ∧ True) ∧ (Is (byts b) (byts x_5.1) ∧ x_4.2.2.2 = x_5.2.1 ∧ True) ∧ True) ∧ ∀ (y : Pl.Rt × Int),
 x_5.2.1 ≤ y.2 ∧ y.2 ≤ x_5.2.1 + (2 : Int) →
 (0 : Nat) + x_4.2.1.length ≤ x_4.2.1.length ∧ (x_4.2.1.length + (1 : Nat)) * (16 : Nat) ≤ (70368744177664 : Nat) ∧ Exists fun (x' : Nat × List Pl.Rt × Pl.Rt × Int) =>
 (x'.1 ≤ (List.getD s x.1 Pl.dY).2.1.length ∧ x'.2.1.length = x'.1 ∧ p ≤ x'.2.2.2 ∧ x'.2.2.2 ≤
 p + (100 : Int) * (↑x.1 : Int) + (3 : Int) + (30 : Int) * ((3 : Int) - x_2.1) +
 (2 : Int) * (↑x'.1 : Int)) ∧ (List.getD s x.1 Pl.dY).2.1.length - x'.1 < (List.getD s x.1 Pl.dY).2.1.length - x_4.1 ∧ ((0 : Nat) = (0 : Nat) ∧ (0 : Nat) = (0 : Nat) ∧ (0 : Nat) = (0 : Nat) ∧ ((0 : Nat) = (0 : Nat) ∧ List.length x_2.2.1 = List.length x_2.2.1) ∧ (↑x.1 : Int) = (↑x.1 : Int) ∧ x_2.1 = x_2.1 ∧ (0 : Nat) = (0 : Nat) ∧ IntKind.i64.wrap ((↑x_4.1 : Int) + (1 : Int)) = (↑x'.1 : Int) ∧ True) ∧ (Is (byts x_5.1) (byts b) ∧ y.2 = x'.2.2.2 ∧ True) ∧ (Is (syms s) (syms s) ∧ True) ∧ (Is (AV.lit (0 : Nat) (1 : Nat) fun (x x_6 : Nat) => AV.any) nilA ∧ True) ∧ IsO (xrR x_2.2.1) (xrR x_2.2.1) ∧ ((List.getD s x.1 Pl.dY).1 = (List.getD s x.1 Pl.dY).1 ∧ ((0 : Nat) = (0 : Nat) ∧ x_4.2.1.length + (1 : Nat) = x'.2.1.length) ∧ x_4.2.2.1.1 = x'.2.2.1.1 ∧ x_4.2.2.1.2 = x'.2.2.1.2 ∧ True) ∧ IsO
 (AObj.arr (x_4.2.1.length + (1 : Nat)) (2 : Nat)
 (joinC x_4.2.1.length (cQ x_4.2.1)
 (rowsCell [[i64 y.1.1, i64 y.1.2]])))
 (arQ x'.2.1) ∧ True) ∧ ∃ x_5 : List Int × Int × Int,
 Rd (549755813888 : Int) x_5.1 x_5.2.1 ∧ (((0 : Nat) = (0 : Nat) ∧ (List.getD s x.1 Pl.dY).2.1.getD x_4.1 (0 : Int) = x_5.2.2 ∧ True) ∧ (Is (byts b) (byts x_5.1) ∧ x_4.2.2.2 = x_5.2.1 ∧ True) ∧ True) ∧ ∀ (y : Pl.Rt × Int),
 x_5.2.1 ≤ y.2 ∧ y.2 ≤ x_5.2.1 + (2 : Int) →
 (0 : Nat) + x_4.2.1.length ≤ x_4.2.1.length ∧ (x_4.2.1.length + (1 : Nat)) * (16 : Nat) ≤ (70368744177664 : Nat) ∧ Exists fun (x' : Nat × List Pl.Rt × Pl.Rt × Int) =>
 (x'.1 ≤ (List.getD s x.1 Pl.dY).2.1.length ∧ x'.2.1.length = x'.1 ∧ p ≤ x'.2.2.2 ∧ x'.2.2.2 ≤
 p + (100 : Int) * (↑x.1 : Int) + (3 : Int) + (30 : Int) * ((3 : Int) - x_2.1) +
 (2 : Int) * (↑x'.1 : Int)) ∧ (List.getD s x.1 Pl.dY).2.1.length - x'.1 < (List.getD s x.1 Pl.dY).2.1.length - x_4.1 ∧ ((0 : Nat) = (0 : Nat) ∧ (0 : Nat) = (0 : Nat) ∧ (0 : Nat) = (0 : Nat) ∧ ((0 : Nat) = (0 : Nat) ∧ List.length x_2.2.1 = List.length x_2.2.1) ∧ (↑x.1 : Int) = (↑x.1 : Int) ∧ x_2.1 = x_2.1 ∧ (0 : Nat) = (0 : Nat) ∧ IntKind.i64.wrap ((↑x_4.1 : Int) + (1 : Int)) = (↑x'.1 : Int) ∧ True) ∧ (Is (byts x_5.1) (byts b) ∧ y.2 = x'.2.2.2 ∧ True) ∧ (Is (syms s) (syms s) ∧ True) ∧ (Is (AV.lit (0 : Nat) (1 : Nat) fun (x x_6 : Nat) => AV.any) nilA ∧ True) ∧ IsO (xrR x_2.2.1) (xrR x_2.2.1) ∧ ((List.getD s x.1 Pl.dY).1 = (List.getD s x.1 Pl.dY).1 ∧ ((0 : Nat) = (0 : Nat) ∧ x_4.2.1.length + (1 : Nat) = x'.2.1.length) ∧ x_4.2.2.1.1 = x'.2.2.1.1 ∧ x_4.2.2.1.2 = x'.2.2.1.2 ∧ True) ∧ IsO
 (AObj.arr (x_4.2.1.length + (1 : Nat)) (2 : Nat)
 (joinC x_4.2.1.length (cQ x_4.2.1)
 (rowsCell [[i64 y.1.1, i64 y.1.2]])))
 (arQ x'.2.1) ∧ True)
 (∃ x_5 : List Pl.Rw × Pl.Rw,
 (x_5.1.length ≤ (1000 : Nat) ∧ (∀ (y : Pl.Rw), y ∈ x_5.1 → y.2.1.length ≤ (1000 : Nat)) ∧ x_5.2.2.1.length ≤ (1000 : Nat)) ∧ ((((0 : Nat) = (0 : Nat) ∧ List.length x_2.2.1 = x_5.1.length) ∧ ((List.getD s x.1 Pl.dY).1 = x_5.2.1 ∧ ((0 : Nat) = (0 : Nat) ∧ x_4.2.1.length = x_5.2.2.1.length) ∧ x_4.2.2.1.1 = x_5.2.2.2.1 ∧ x_4.2.2.1.2 = x_5.2.2.2.2 ∧ True) ∧ True) ∧ IsO (xrR x_2.2.1) (xrR x_5.1) ∧ IsO (arQ x_4.2.1) (arQ x_5.2.2.1) ∧ True) ∧ ∀ (y : List Nat),
 HPut x_5.1.length y →
 Exists fun (x' : Int × Pl.Mdl × Int) =>
 ((0 : Int) ≤ x'.1 ∧ x'.1 ≤ (3 : Int) ∧ Pl.MdB ((3 : Nat) * x.1 + (3 : Nat) - x'.1.toNat) (2 : Nat) x'.2.1 ∧ p ≤ x'.2.2 ∧ x'.2.2 ≤ p + (100 : Int) * (↑x.1 : Int) + (1 : Int) + (30 : Int) * ((3 : Int) - x'.1)) ∧ x'.1.toNat < x_2.1.toNat ∧ ((0 : Nat) = (0 : Nat) ∧ (0 : Nat) = (0 : Nat) ∧ (0 : Nat) = (0 : Nat) ∧ ((0 : Nat) = (0 : Nat) ∧ y.length = List.length x'.2.1) ∧ (↑x.1 : Int) = (↑x.1 : Int) ∧ IntKind.i64.wrap (x_2.1 - (1 : Int)) = x'.1 ∧ True) ∧ (Is (byts b) (byts b) ∧ x_4.2.2.2 = x'.2.2 ∧ True) ∧ (Is (syms s) (syms s) ∧ True) ∧ (Is (AV.lit (0 : Nat) (1 : Nat) fun (x x_6 : Nat) => AV.any) nilA ∧ True) ∧ IsO (xrR (List.map (fun (i : Nat) => (x_5.1 ++ [x_5.2]).getD i Pl.dR) y)) (xrR x'.2.1) ∧ True)) ∧ ∃ x_3 : List Int × Int × Int,
 Rd (549755813888 : Int) x_3.1 x_3.2.1 ∧ (((0 : Nat) = (0 : Nat) ∧ (List.getD s x.1 Pl.dY).2.2 = x_3.2.2 ∧ True) ∧ (Is (byts b) (byts x_3.1) ∧ x_2.2.2 = x_3.2.1 ∧ True) ∧ True) ∧ ∀ (y : Pl.Rt × Int),
 x_3.2.1 ≤ y.2 ∧ y.2 ≤ x_3.2.1 + (2 : Int) →
 ((0 : Int) ≤ (↑x.1 : Int) ∧ (↑x.1 : Int) < (↑(List.length s) : Int)) ∧ x.1 < List.length s ∧ (∃ x_4 : Nat × List Pl.Rt × Pl.Rt × Int,
 (x_4.1 ≤ (List.getD s x.1 Pl.dY).2.1.length ∧ x_4.2.1.length = x_4.1 ∧ p ≤ x_4.2.2.2 ∧ x_4.2.2.2 ≤ p + (100 : Int) * (↑x.1 : Int) + (3 : Int) + (30 : Int) * ((3 : Int) - x_2.1) + (2 : Int) * (↑x_4.1 : Int)) ∧ ((0 : Nat) = (0 : Nat) ∧ (0 : Nat) = (0 : Nat) ∧ (0 : Nat) = (0 : Nat) ∧ ((0 : Nat) = (0 : Nat) ∧ List.length x_2.2.1 = List.length x_2.2.1) ∧ (↑x.1 : Int) = (↑x.1 : Int) ∧ x_2.1 = x_2.1 ∧ (0 : Nat) = (0 : Nat) ∧ (0 : Int) = (↑x_4.1 : Int) ∧ True) ∧ (Is (byts x_3.1) (byts b) ∧ y.2 = x_4.2.2.2 ∧ True) ∧ (Is (syms s) (syms s) ∧ True) ∧ (Is (AV.lit (0 : Nat) (1 : Nat) fun (x x_5 : Nat) => AV.any) nilA ∧ True) ∧ IsO (xrR x_2.2.1) (xrR x_2.2.1) ∧ ((List.getD s x.1 Pl.dY).1 = (List.getD s x.1 Pl.dY).1 ∧ ((0 : Nat) = (0 : Nat) ∧ (0 : Nat) = (0 : Nat) ∧ x_4.2.1.length = (0 : Nat)) ∧ y.1.1 = x_4.2.2.1.1 ∧ y.1.2 = x_4.2.2.1.2 ∧ True) ∧ x_4.2.1.length = (0 : Nat) ∧ True) ∧ ∀ (x_4 : Nat × List Pl.Rt × Pl.Rt × Int),
 x_4.1 ≤ (List.getD s x.1 Pl.dY).2.1.length ∧ x_4.2.1.length = x_4.1 ∧ p ≤ x_4.2.2.2 ∧ x_4.2.2.2 ≤ p + (100 : Int) * (↑x.1 : Int) + (3 : Int) + (30 : Int) * ((3 : Int) - x_2.1) + (2 : Int) * (↑x_4.1 : Int) →
 ((0 : Int) ≤ (↑x.1 : Int) ∧ (↑x.1 : Int) < (↑(List.length s) : Int)) ∧ x.1 < List.length s ∧ condP (decide ((↑x_4.1 : Int) < (↑(List.getD s x.1 Pl.dY).2.1.length : Int)))
 ((((0 : Int) ≤ (↑x.1 : Int) ∧ (↑x.1 : Int) < (↑(List.length s) : Int)) ∧ x.1 < List.length s ∧ ((0 : Int) ≤ (↑x_4.1 : Int) ∧ (↑x_4.1 : Int) < (↑(List.getD s x.1 Pl.dY).2.1.length : Int)) ∧ x_4.1 < (List.getD s x.1 Pl.dY).2.1.length ∧ ∃ x_5 : List Int × Int × Int,
 Rd (549755813888 : Int) x_5.1 x_5.2.1 ∧ (((0 : Nat) = (0 : Nat) ∧ (List.getD s x.1 Pl.dY).2.1.getD x_4.1 (0 : Int) = x_5.2.2 ∧ True) ∧ (Is (byts b) (byts x_5.1) ∧ x_4.2.2.2 = x_5.2.1 ∧ True) ∧ True) ∧ ∀ (y : Pl.Rt × Int),
 x_5.2.1 ≤ y.2 ∧ y.2 ≤ x_5.2.1 + (2 : Int) →
 (0 : Nat) + x_4.2.1.length ≤ x_4.2.1.length ∧ (x_4.2.1.length + (1 : Nat)) * (16 : Nat) ≤ (70368744177664 : Nat) ∧ Exists fun (x' : Nat × List Pl.Rt × Pl.Rt × Int) =>
 (x'.1 ≤ (List.getD s x.1 Pl.dY).2.1.length ∧ x'.2.1.length = x'.1 ∧ p ≤ x'.2.2.2 ∧ x'.2.2.2 ≤
 p + (100 : Int) * (↑x.1 : Int) + (3 : Int) + (30 : Int) * ((3 : Int) - x_2.1) +
 (2 : Int) * (↑x'.1 : Int)) ∧ (List.getD s x.1 Pl.dY).2.1.length - x'.1 < (List.getD s x.1 Pl.dY).2.1.length - x_4.1 ∧ ((0 : Nat) = (0 : Nat) ∧ (0 : Nat) = (0 : Nat) ∧ (0 : Nat) = (0 : Nat) ∧ ((0 : Nat) = (0 : Nat) ∧ List.length x_2.2.1 = List.length x_2.2.1) ∧ (↑x.1 : Int) = (↑x.1 : Int) ∧ x_2.1 = x_2.1 ∧ (0 : Nat) = (0 : Nat) ∧ IntKind.i64.wrap ((↑x_4.1 : Int) + (1 : Int)) = (↑x'.1 : Int) ∧ True) ∧ (Is (byts x_5.1) (byts b) ∧ y.2 = x'.2.2.2 ∧ True) ∧ (Is (syms s) (syms s) ∧ True) ∧ (Is (AV.lit (0 : Nat) (1 : Nat) fun (x x_6 : Nat) => AV.any) nilA ∧ True) ∧ IsO (xrR x_2.2.1) (xrR x_2.2.1) ∧ ((List.getD s x.1 Pl.dY).1 = (List.getD s x.1 Pl.dY).1 ∧ ((0 : Nat) = (0 : Nat) ∧ x_4.2.1.length + (1 : Nat) = x'.2.1.length) ∧ x_4.2.2.1.1 = x'.2.2.1.1 ∧ x_4.2.2.1.2 = x'.2.2.1.2 ∧ True) ∧ IsO
 (AObj.arr (x_4.2.1.length + (1 : Nat)) (2 : Nat)
 (joinC x_4.2.1.length (cQ x_4.2.1)
 (rowsCell [[i64 y.1.1, i64 y.1.2]])))
 (arQ x'.2.1) ∧ True) ∧ ((0 : Int) ≤ (↑x.1 : Int) ∧ (↑x.1 : Int) < (↑(List.length s) : Int)) ∧ x.1 < List.length s ∧ ((0 : Int) ≤ (↑x_4.1 : Int) ∧ (↑x_4.1 : Int) < (↑(List.getD s x.1 Pl.dY).2.1.length : Int)) ∧ x_4.1 < (List.getD s x.1 Pl.dY).2.1.length ∧ (∃ x_5 : List Int × Int × Int,
 Rd (549755813888 : Int) x_5.1 x_5.2.1 ∧ (((0 : Nat) = (0 : Nat) ∧ (List.getD s x.1 Pl.dY).2.1.getD x_4.1 (0 : Int) = x_5.2.2 ∧ True) ∧ (Is (byts b) (byts x_5.1) ∧ x_4.2.2.2 = x_5.2.1 ∧ True) ∧ True) ∧ ∀ (y : Pl.Rt × Int),
 x_5.2.1 ≤ y.2 ∧ y.2 ≤ x_5.2.1 + (2 : Int) →
 (0 : Nat) + x_4.2.1.length ≤ x_4.2.1.length ∧ (x_4.2.1.length + (1 : Nat)) * (16 : Nat) ≤ (70368744177664 : Nat) ∧ Exists fun (x' : Nat × List Pl.Rt × Pl.Rt × Int) =>
 (x'.1 ≤ (List.getD s x.1 Pl.dY).2.1.length ∧ x'.2.1.length = x'.1 ∧ p ≤ x'.2.2.2 ∧ x'.2.2.2 ≤
 p + (100 : Int) * (↑x.1 : Int) + (3 : Int) + (30 : Int) * ((3 : Int) - x_2.1) +
 (2 : Int) * (↑x'.1 : Int)) ∧ (List.getD s x.1 Pl.dY).2.1.length - x'.1 < (List.getD s x.1 Pl.dY).2.1.length - x_4.1 ∧ ((0 : Nat) = (0 : Nat) ∧ (0 : Nat) = (0 : Nat) ∧ (0 : Nat) = (0 : Nat) ∧ ((0 : Nat) = (0 : Nat) ∧ List.length x_2.2.1 = List.length x_2.2.1) ∧ (↑x.1 : Int) = (↑x.1 : Int) ∧ x_2.1 = x_2.1 ∧ (0 : Nat) = (0 : Nat) ∧ IntKind.i64.wrap ((↑x_4.1 : Int) + (1 : Int)) = (↑x'.1 : Int) ∧ True) ∧ (Is (byts x_5.1) (byts b) ∧ y.2 = x'.2.2.2 ∧ True) ∧ (Is (syms s) (syms s) ∧ True) ∧ (Is (AV.lit (0 : Nat) (1 : Nat) fun (x x_6 : Nat) => AV.any) nilA ∧ True) ∧ IsO (xrR x_2.2.1) (xrR x_2.2.1) ∧ ((List.getD s x.1 Pl.dY).1 = (List.getD s x.1 Pl.dY).1 ∧ ((0 : Nat) = (0 : Nat) ∧ x_4.2.1.length + (1 : Nat) = x'.2.1.length) ∧ x_4.2.2.1.1 = x'.2.2.1.1 ∧ x_4.2.2.1.2 = x'.2.2.1.2 ∧ True) ∧ IsO
 (AObj.arr (x_4.2.1.length + (1 : Nat)) (2 : Nat)
 (joinC x_4.2.1.length (cQ x_4.2.1)
 (rowsCell [[i64 y.1.1, i64 y.1.2]])))
 (arQ x'.2.1) ∧ True) ∧ ∃ x_5 : List Int × Int × Int,
 Rd (549755813888 : Int) x_5.1 x_5.2.1 ∧ (((0 : Nat) = (0 : Nat) ∧ (List.getD s x.1 Pl.dY).2.1.getD x_4.1 (0 : Int) = x_5.2.2 ∧ True) ∧ (Is (byts b) (byts x_5.1) ∧ x_4.2.2.2 = x_5.2.1 ∧ True) ∧ True) ∧ ∀ (y : Pl.Rt × Int),
 x_5.2.1 ≤ y.2 ∧ y.2 ≤ x_5.2.1 + (2 : Int) →
 (0 : Nat) + x_4.2.1.length ≤ x_4.2.1.length ∧ (x_4.2.1.length + (1 : Nat)) * (16 : Nat) ≤ (70368744177664 : Nat) ∧ Exists fun (x' : Nat × List Pl.Rt × Pl.Rt × Int) =>
 (x'.1 ≤ (List.getD s x.1 Pl.dY).2.1.length ∧ x'.2.1.length = x'.1 ∧ p ≤ x'.2.2.2 ∧ x'.2.2.2 ≤
 p + (100 : Int) * (↑x.1 : Int) + (3 : Int) + (30 : Int) * ((3 : Int) - x_2.1) +
 (2 : Int) * (↑x'.1 : Int)) ∧ (List.getD s x.1 Pl.dY).2.1.length - x'.1 < (List.getD s x.1 Pl.dY).2.1.length - x_4.1 ∧ ((0 : Nat) = (0 : Nat) ∧ (0 : Nat) = (0 : Nat) ∧ (0 : Nat) = (0 : Nat) ∧ ((0 : Nat) = (0 : Nat) ∧ List.length x_2.2.1 = List.length x_2.2.1) ∧ (↑x.1 : Int) = (↑x.1 : Int) ∧ x_2.1 = x_2.1 ∧ (0 : Nat) = (0 : Nat) ∧ IntKind.i64.wrap ((↑x_4.1 : Int) + (1 : Int)) = (↑x'.1 : Int) ∧ True) ∧ (Is (byts x_5.1) (byts b) ∧ y.2 = x'.2.2.2 ∧ True) ∧ (Is (syms s) (syms s) ∧ True) ∧ (Is (AV.lit (0 : Nat) (1 : Nat) fun (x x_6 : Nat) => AV.any) nilA ∧ True) ∧ IsO (xrR x_2.2.1) (xrR x_2.2.1) ∧ ((List.getD s x.1 Pl.dY).1 = (List.getD s x.1 Pl.dY).1 ∧ ((0 : Nat) = (0 : Nat) ∧ x_4.2.1.length + (1 : Nat) = x'.2.1.length) ∧ x_4.2.2.1.1 = x'.2.2.1.1 ∧ x_4.2.2.1.2 = x'.2.2.1.2 ∧ True) ∧ IsO
 (AObj.arr (x_4.2.1.length + (1 : Nat)) (2 : Nat)
 (joinC x_4.2.1.length (cQ x_4.2.1)
 (rowsCell [[i64 y.1.1, i64 y.1.2]])))
 (arQ x'.2.1) ∧ True)
 (∃ x_5 : List Pl.Rw × Pl.Rw,
 (x_5.1.length ≤ (1000 : Nat) ∧ (∀ (y : Pl.Rw), y ∈ x_5.1 → y.2.1.length ≤ (1000 : Nat)) ∧ x_5.2.2.1.length ≤ (1000 : Nat)) ∧ ((((0 : Nat) = (0 : Nat) ∧ List.length x_2.2.1 = x_5.1.length) ∧ ((List.getD s x.1 Pl.dY).1 = x_5.2.1 ∧ ((0 : Nat) = (0 : Nat) ∧ x_4.2.1.length = x_5.2.2.1.length) ∧ x_4.2.2.1.1 = x_5.2.2.2.1 ∧ x_4.2.2.1.2 = x_5.2.2.2.2 ∧ True) ∧ True) ∧ IsO (xrR x_2.2.1) (xrR x_5.1) ∧ IsO (arQ x_4.2.1) (arQ x_5.2.2.1) ∧ True) ∧ ∀ (y : List Nat),
 HPut x_5.1.length y →
 Exists fun (x' : Int × Pl.Mdl × Int) =>
 ((0 : Int) ≤ x'.1 ∧ x'.1 ≤ (3 : Int) ∧ Pl.MdB ((3 : Nat) * x.1 + (3 : Nat) - x'.1.toNat) (2 : Nat) x'.2.1 ∧ p ≤ x'.2.2 ∧ x'.2.2 ≤ p + (100 : Int) * (↑x.1 : Int) + (1 : Int) + (30 : Int) * ((3 : Int) - x'.1)) ∧ x'.1.toNat < x_2.1.toNat ∧ ((0 : Nat) = (0 : Nat) ∧ (0 : Nat) = (0 : Nat) ∧ (0 : Nat) = (0 : Nat) ∧ ((0 : Nat) = (0 : Nat) ∧ y.length = List.length x'.2.1) ∧ (↑x.1 : Int) = (↑x.1 : Int) ∧ IntKind.i64.wrap (x_2.1 - (1 : Int)) = x'.1 ∧ True) ∧ (Is (byts b) (byts b) ∧ x_4.2.2.2 = x'.2.2 ∧ True) ∧ (Is (syms s) (syms s) ∧ True) ∧ (Is (AV.lit (0 : Nat) (1 : Nat) fun (x x_6 : Nat) => AV.any) nilA ∧ True) ∧ IsO (xrR (List.map (fun (i : Nat) => (x_5.1 ++ [x_5.2]).getD i Pl.dR) y)) (xrR x'.2.1) ∧ True))
 (Exists fun (x' : Nat × Pl.Mdl × Int) =>
 (x'.1 ≤ List.length s ∧ Pl.MdB ((3 : Nat) * x'.1) (2 : Nat) x'.2.1 ∧ p ≤ x'.2.2 ∧ x'.2.2 ≤ p + (100 : Int) * (↑x'.1 : Int)) ∧ List.length s - x'.1 < List.length s - x.1 ∧ ((0 : Nat) = (0 : Nat) ∧ (0 : Nat) = (0 : Nat) ∧ (0 : Nat) = (0 : Nat) ∧ ((0 : Nat) = (0 : Nat) ∧ List.length x_2.2.1 = List.length x'.2.1) ∧ IntKind.i64.wrap ((↑x.1 : Int) + (1 : Int)) = (↑x'.1 : Int) ∧ True) ∧ (Is (byts b) (byts b) ∧ x_2.2.2 = x'.2.2 ∧ True) ∧ (Is (syms s) (syms s) ∧ True) ∧ (Is (AV.lit (0 : Nat) (1 : Nat) fun (x x_3 : Nat) => AV.any) nilA ∧ True) ∧ IsO (xrR x_2.2.1) (xrR x'.2.1) ∧ True))
 (∃ y : Pl.Mdl × Int,
 (Pl.MdB (15 : Nat) (2 : Nat) y.1 ∧ p ≤ y.2 ∧ y.2 ≤ p + (1000 : Int)) ∧ ((((0 : Nat) = (0 : Nat) ∧ List.length x.2.1 = List.length y.1) ∧ True) ∧ True) ∧ (Is (byts b) (byts b) ∧ x.2.2 = y.2 ∧ True) ∧ IsO (xrR x.2.1) (xrR y.1) ∧ True)) = Goal Tryz.prog [K_num, K_l7Value, K_l7PutX] (A_l7Any b p s) K_l7Any.1 K_l7Any.2 ((b, p, s)) := by kernel_rfl


theorem vc_l7Some (b : List Int) (p : Int) (s : Pl.Sig) : (∃ x : BX,
 (Rd (137438953472 : Int) x.1 x.2.1 ∧ Pl.SgB (5 : Nat) (2 : Nat) x.2.2) ∧ (((0 : Nat) = (0 : Nat) ∧ (Is (syms s) (syms x.2.2) ∧ True) ∧ True) ∧ (Is (byts b) (byts x.1) ∧ p = x.2.1 ∧ True) ∧ True) ∧ ∀ (y : Pl.Mdl × Int),
 Pl.MdB (15 : Nat) (2 : Nat) y.1 ∧ x.2.1 ≤ y.2 ∧ y.2 ≤ x.2.1 + (1000 : Int) →
 condP ((↑(List.length y.1) : Int) == (0 : Int))
 (∃ y_1 : Pl.Mdl × Int,
 (Pl.MdB (16 : Nat) (3 : Nat) y_1.1 ∧ p ≤ y_1.2 ∧ y_1.2 ≤ p + (1100 : Int)) ∧ (0 : Nat) + List.length y.1 ≤ List.length y.1 ∧ ((Is (mrows y.1) (mrows y_1.1) ∧ True) ∧ True) ∧ (Is (byts x.1) (byts b) ∧ y.2 = y_1.2 ∧ True) ∧ True)
 (∃ x_1 : List Int × Int × Int,
 Rd (1099511627776 : Int) x_1.1 x_1.2.1 ∧ (((0 : Nat) = (0 : Nat) ∧ (10 : Int) = x_1.2.2 ∧ True) ∧ (Is (byts x.1) (byts x_1.1) ∧ y.2 = x_1.2.1 ∧ True) ∧ True) ∧ ∀ (y_1 : Int),
 ((1 : Int) ≤ x_1.2.2 → (0 : Int) ≤ y_1 ∧ y_1 < x_1.2.2) ∧ (x_1.2.2 < (1 : Int) → y_1 = (0 : Int)) →
 condP (decide (y_1 > (0 : Int)))
 (∃ y_2 : Pl.Mdl × Int,
 (Pl.MdB (16 : Nat) (3 : Nat) y_2.1 ∧ p ≤ y_2.2 ∧ y_2.2 ≤ p + (1100 : Int)) ∧ (0 : Nat) + List.length y.1 ≤ List.length y.1 ∧ ((Is (mrows y.1) (mrows y_2.1) ∧ True) ∧ True) ∧ (Is (byts x_1.1) (byts b) ∧ x_1.2.1 + (1 : Int) = y_2.2 ∧ True) ∧ True)
 (∃ x : List Int × Int × Int,
 Rd (1099511627776 : Int) x.1 x.2.1 ∧ (((0 : Nat) = (0 : Nat) ∧ (↑(List.length y.1) : Int) = x.2.2 ∧ True) ∧ (Is (byts x_1.1) (byts x.1) ∧ x_1.2.1 + (1 : Int) = x.2.1 ∧ True) ∧ True) ∧ ∀ (y_2 : Int),
 ((1 : Int) ≤ x.2.2 → (0 : Int) ≤ y_2 ∧ y_2 < x.2.2) ∧ (x.2.2 < (1 : Int) → y_2 = (0 : Int)) →
 ∃ x_2 : List Int × Int × Int,
 Rd (1099511627776 : Int) x_2.1 x_2.2.1 ∧ (((0 : Nat) = (0 : Nat) ∧ (5 : Int) = x_2.2.2 ∧ True) ∧ (Is (byts x.1) (byts x_2.1) ∧ x.2.1 + (1 : Int) = x_2.2.1 ∧ True) ∧ True) ∧ ∀ (y_3 : Int),
 ((1 : Int) ≤ x_2.2.2 → (0 : Int) ≤ y_3 ∧ y_3 < x_2.2.2) ∧ (x_2.2.2 < (1 : Int) → y_3 = (0 : Int)) →
 condP (y_3 == (0 : Int))
 ((∃ x : List Int × Int,
 Rd (549755813888 : Int) x.1 x.2 ∧ (((0 : Nat) = (0 : Nat) ∧ True) ∧ (Is (byts x_2.1) (byts x.1) ∧ x_2.2.1 + (1 : Int) = x.2 ∧ True) ∧ True) ∧ ∀ (y_4 : Pl.Rt),
 True →
 ((0 : Int) ≤ y_2 ∧ y_2 < (↑(List.length y.1) : Int)) ∧ y_2.toNat < List.length y.1 ∧ ∃ y_5 : Pl.Mdl × Int,
 (Pl.MdB (16 : Nat) (3 : Nat) y_5.1 ∧ p ≤ y_5.2 ∧ y_5.2 ≤ p + (1100 : Int)) ∧ (0 : Nat) + List.length y.1 ≤ List.length y.1 ∧ ((Is
 (AV.sl (List.length y.1) (4 : Nat) fun (i j : Nat) =>
 storeC (cR y.1) y_2.toNat ((2 : Nat)) [i64 y_4.1, i64 y_4.2] i j)
 (mrows y_5.1) ∧ True) ∧ True) ∧ (Is (byts x.1) (byts b) ∧ x.2 + (2 : Int) = y_5.2 ∧ True) ∧ True) ∧ ∃ x : List Int × Int,
 Rd (549755813888 : Int) x.1 x.2 ∧ (((0 : Nat) = (0 : Nat) ∧ True) ∧ (Is (byts x_2.1) (byts x.1) ∧ x_2.2.1 + (1 : Int) = x.2 ∧ True) ∧ True) ∧ ∀ (y_4 : Pl.Rt),
 True →
 ((0 : Int) ≤ y_2 ∧ y_2 < (↑(List.length y.1) : Int)) ∧ y_2.toNat < List.length y.1 ∧ ∃ y_5 : Pl.Mdl × Int,
 (Pl.MdB (16 : Nat) (3 : Nat) y_5.1 ∧ p ≤ y_5.2 ∧ y_5.2 ≤ p + (1100 : Int)) ∧ (0 : Nat) + List.length y.1 ≤ List.length y.1 ∧ ((Is
 (AV.sl (List.length y.1) (4 : Nat) fun (i j : Nat) =>
 storeC (cR y.1) y_2.toNat ((2 : Nat)) [i64 y_4.1, i64 y_4.2] i j)
 (mrows y_5.1) ∧ True) ∧ True) ∧ (Is (byts x.1) (byts b) ∧ x.2 + (2 : Int) = y_5.2 ∧ True) ∧ True)
 (condP (y_3 == (1 : Int))
 (((0 : Int) ≤ y_2 ∧ y_2 < (↑(List.length y.1) : Int)) ∧ y_2.toNat < List.length y.1 ∧ (List.getD y.1 y_2.toNat Pl.dR).2.1.length = (List.getD y.1 y_2.toNat Pl.dR).2.1.length ∧ y_2.toNat < List.length y.1 ∧ (0 : Nat) + List.length y.1 ≤ List.length y.1 ∧ (List.length y.1 + (1 : Nat)) * (56 : Nat) ≤ (70368744177664 : Nat) ∧ ∃ y_4 : Pl.Mdl × Int,
 (Pl.MdB (16 : Nat) (3 : Nat) y_4.1 ∧ p ≤ y_4.2 ∧ y_4.2 ≤ p + (1100 : Int)) ∧ (0 : Nat) + (List.length y.1 + (1 : Nat)) ≤ List.length y.1 + (1 : Nat) ∧ ((Is
 (AV.sl (List.length y.1 + (1 : Nat)) (4 : Nat) fun (i j : Nat) =>
 joinC (List.length y.1) (cR y.1)
 (rowsCell
 [[st (List.getD y.1 y_2.toNat Pl.dR).1, rats (List.getD y.1 y_2.toNat Pl.dR).2.1,
 i64 (List.getD y.1 y_2.toNat Pl.dR).2.2.1, i64 (List.getD y.1 y_2.toNat Pl.dR).2.2.2]])
 i j)
 (mrows y_4.1) ∧ True) ∧ True) ∧ (Is (byts x_2.1) (byts b) ∧ x_2.2.1 + (1 : Int) = y_4.2 ∧ True) ∧ True)
 (condP (y_3 == (2 : Int))
 (((0 : Int) ≤ y_2 ∧ y_2 < (↑(List.length y.1) : Int)) ∧ y_2.toNat < List.length y.1 ∧ (List.getD y.1 y_2.toNat Pl.dR).2.1.length = (List.getD y.1 y_2.toNat Pl.dR).2.1.length ∧ y_2.toNat < List.length y.1 ∧ (1 : Nat) < (4 : Nat) ∧ ((List.getD y.1 y_2.toNat Pl.dR).2.1.length + (1 : Nat)) * (16 : Nat) ≤ (70368744177664 : Nat) ∧ ((0 : Int) ≤ y_2 ∧ y_2 < (↑(List.length y.1) : Int)) ∧ y_2.toNat < List.length y.1 ∧ ∃ y_4 : Pl.Mdl × Int,
 (Pl.MdB (16 : Nat) (3 : Nat) y_4.1 ∧ p ≤ y_4.2 ∧ y_4.2 ≤ p + (1100 : Int)) ∧ (0 : Nat) + List.length y.1 ≤ List.length y.1 ∧ ((Is
 (AV.sl (List.length y.1) (4 : Nat) fun (i j : Nat) =>
 storeC (cR y.1) y_2.toNat ((1 : Nat))
 [AV.sl ((List.getD y.1 y_2.toNat Pl.dR).2.1.length + (1 : Nat)) (2 : Nat)
 (joinC (List.getD y.1 y_2.toNat Pl.dR).2.1.length (cQ (List.getD y.1 y_2.toNat Pl.dR).2.1)
 (rowsCell [[i64 (0 : Int), i64 (1 : Int)]]))]
 i j)
 (mrows y_4.1) ∧ True) ∧ True) ∧ (Is (byts x_2.1) (byts b) ∧ x_2.2.1 + (1 : Int) = y_4.2 ∧ True) ∧ True)
 (condP (y_3 == (3 : Int))
 ((∃ x : List Int × Int × List ByteArray,
 (Rd (1099511627776 : Int) x.1 x.2.1 ∧ x.2.2 ≠ [] ∧ Sz x.2.2) ∧ (((0 : Nat) = (0 : Nat) ∧ Is
 (AV.lit (3 : Nat) (1 : Nat)
 (rowsCell
 [[st (ByteArray.mk #[])], [st (ByteArray.mk #[(65 : UInt8)])], [st (ByteArray.mk #[(122 : UInt8), (122 : UInt8)])]]))
 (strs x.2.2) ∧ True) ∧ (Is (byts x_2.1) (byts x.1) ∧ x_2.2.1 + (1 : Int) = x.2.1 ∧ True) ∧ True) ∧ ∀ (y_4 : ByteArray),
 y_4 ∈ x.2.2 →
 ((0 : Int) ≤ y_2 ∧ y_2 < (↑(List.length y.1) : Int)) ∧ y_2.toNat < List.length y.1 ∧ ∃ y_5 : Pl.Mdl × Int,
 (Pl.MdB (16 : Nat) (3 : Nat) y_5.1 ∧ p ≤ y_5.2 ∧ y_5.2 ≤ p + (1100 : Int)) ∧ (0 : Nat) + List.length y.1 ≤ List.length y.1 ∧ ((Is
 (AV.sl (List.length y.1) (4 : Nat) fun (i j : Nat) =>
 storeC (cR y.1) y_2.toNat (0 : Nat) [st y_4] i j)
 (mrows y_5.1) ∧ True) ∧ True) ∧ (Is (byts x.1) (byts b) ∧ x.2.1 + (1 : Int) = y_5.2 ∧ True) ∧ True) ∧ ∃ x : List Int × Int × List ByteArray,
 (Rd (1099511627776 : Int) x.1 x.2.1 ∧ x.2.2 ≠ [] ∧ Sz x.2.2) ∧ (((0 : Nat) = (0 : Nat) ∧ Is
 (AV.lit (3 : Nat) (1 : Nat)
 (rowsCell
 [[st (ByteArray.mk #[])], [st (ByteArray.mk #[(65 : UInt8)])], [st (ByteArray.mk #[(122 : UInt8), (122 : UInt8)])]]))
 (strs x.2.2) ∧ True) ∧ (Is (byts x_2.1) (byts x.1) ∧ x_2.2.1 + (1 : Int) = x.2.1 ∧ True) ∧ True) ∧ ∀ (y_4 : ByteArray),
 y_4 ∈ x.2.2 →
 ((0 : Int) ≤ y_2 ∧ y_2 < (↑(List.length y.1) : Int)) ∧ y_2.toNat < List.length y.1 ∧ ∃ y_5 : Pl.Mdl × Int,
 (Pl.MdB (16 : Nat) (3 : Nat) y_5.1 ∧ p ≤ y_5.2 ∧ y_5.2 ≤ p + (1100 : Int)) ∧ (0 : Nat) + List.length y.1 ≤ List.length y.1 ∧ ((Is
 (AV.sl (List.length y.1) (4 : Nat) fun (i j : Nat) =>
 storeC (cR y.1) y_2.toNat (0 : Nat) [st y_4] i j)
 (mrows y_5.1) ∧ True) ∧ True) ∧ (Is (byts x.1) (byts b) ∧ x.2.1 + (1 : Int) = y_5.2 ∧ True) ∧ True)
 (((0 : Int) ≤ y_2 ∧ y_2 < (↑(List.length y.1) : Int)) ∧ y_2.toNat < List.length y.1 ∧ (List.getD y.1 y_2.toNat Pl.dR).2.1.length = (List.getD y.1 y_2.toNat Pl.dR).2.1.length ∧ y_2.toNat < List.length y.1 ∧ ((0 : Int) ≤ (0 : Int) ∧ (0 : Int) < (↑(List.length y.1) : Int)) ∧ (0 : Nat) < List.length y.1 ∧ ((0 : Int) ≤ y_2 ∧ y_2 < (↑(List.length y.1) : Int)) ∧ y_2.toNat < List.length y.1 ∧ ((0 : Int) ≤ (0 : Int) ∧ (0 : Int) < (↑(List.length y.1) : Int)) ∧ (0 : Nat) < List.length y.1 ∧ ∃ y_4 : Pl.Mdl × Int,
 (Pl.MdB (16 : Nat) (3 : Nat) y_4.1 ∧ p ≤ y_4.2 ∧ y_4.2 ≤ p + (1100 : Int)) ∧ (0 : Nat) + List.length y.1 ≤ List.length y.1 ∧ ((Is
 (AV.sl (List.length y.1) (4 : Nat) fun (i j : Nat) =>
 storeC
 (storeC (cR y.1) y_2.toNat (0 : Nat)
 [st (List.getD y.1 (0 : Nat) Pl.dR).1, rats (List.getD y.1 (0 : Nat) Pl.dR).2.1,
 i64 (List.getD y.1 (0 : Nat) Pl.dR).2.2.1,
 i64 (List.getD y.1 (0 : Nat) Pl.dR).2.2.2])
 (0 : Nat) (0 : Nat)
 [st (List.getD y.1 y_2.toNat Pl.dR).1, rats (List.getD y.1 y_2.toNat Pl.dR).2.1,
 i64 (List.getD y.1 y_2.toNat Pl.dR).2.2.1, i64 (List.getD y.1 y_2.toNat Pl.dR).2.2.2]
 i j)
 (mrows y_4.1) ∧ True) ∧ True) ∧ (Is (byts x_2.1) (byts b) ∧ x_2.2.1 + (1 : Int) = y_4.2 ∧ True) ∧ True))))))) = Goal Tryz.prog [K_l7Any, K_pick, K_rat, K_of] ([]) K_l7Some.1 K_l7Some.2 ((b, p, s)) := by kernel_rfl

theorem vc_DrawModelOk (b : List Int) : (∃ x : List Int,
 (Sz x ∧ Byt x) ∧ ((Is (byts b) (byts x) ∧ True) ∧ True) ∧ ∀ (y : List Int),
 Rd (0 : Int) y (0 : Int) →
 ∃ x : RX,
 Rd (549755813888 : Int) x.1 x.2 ∧ (((0 : Nat) = (0 : Nat) ∧ True) ∧ (Is (byts y) (byts x.1) ∧ (0 : Int) = x.2 ∧ True) ∧ True) ∧ ∀ (y : Pl.Sig),
 Pl.SgB (5 : Nat) (2 : Nat) y →
 ∃ x_1 : BX,
 (Rd (68719476736 : Int) x_1.1 x_1.2.1 ∧ Pl.SgB (5 : Nat) (2 : Nat) x_1.2.2) ∧ (((0 : Nat) = (0 : Nat) ∧ (Is (syms y) (syms x_1.2.2) ∧ True) ∧ True) ∧ (Is (byts x.1) (byts x_1.1) ∧ x.2 + (1 : Int) = x_1.2.1 ∧ True) ∧ True) ∧ ∀ (y_1 : Pl.Mdl × Int),
 Pl.MdB (16 : Nat) (3 : Nat) y_1.1 ∧ x_1.2.1 ≤ y_1.2 ∧ y_1.2 ≤ x_1.2.1 + (1100 : Int) →
 ∃ x : List Int × Int × Int,
 Rd (1099511627776 : Int) x.1 x.2.1 ∧ (((0 : Nat) = (0 : Nat) ∧ (12 : Int) = x.2.2 ∧ True) ∧ (Is (byts x_1.1) (byts x.1) ∧ y_1.2 = x.2.1 ∧ True) ∧ True) ∧ ∀ (y_2 : Int),
 ((1 : Int) ≤ x.2.2 → (0 : Int) ≤ y_2 ∧ y_2 < x.2.2) ∧ (x.2.2 < (1 : Int) → y_2 = (0 : Int)) →
 condP (y_2 == (0 : Int))
 (∃ x_2 : List Int × Int × Pl.Sig × Nat × Nat,
 (Rd (274877906944 : Int) x_2.1 x_2.2.1 ∧ Pl.SgB x_2.2.2.2.1 x_2.2.2.2.2 x_2.2.2.1 ∧ (7 : Nat) ≤ x_2.2.2.2.1 ∧ x_2.2.2.2.1 ≤ (14 : Nat) ∧ x_2.2.2.2.2 ≤ (8 : Nat)) ∧ (((0 : Nat) = (0 : Nat) ∧ (Is (syms y) (syms x_2.2.2.1) ∧ True) ∧ True) ∧ (Is (byts x.1) (byts x_2.1) ∧ x.2.1 + (1 : Int) = x_2.2.1 ∧ True) ∧ True) ∧ ∀ (y : Pl.Sig × Int),
 Pl.SgB (x_2.2.2.2.1 + (1 : Nat)) (x_2.2.2.2.2 + (1 : Nat)) y.1 ∧ x_2.2.1 ≤ y.2 ∧ y.2 ≤ x_2.2.1 + (100 : Int) →
 ∃ x : List Int × Int × Pl.Sig × Nat × Nat,
 (Rd (274877906944 : Int) x.1 x.2.1 ∧ Pl.SgB x.2.2.2.1 x.2.2.2.2 x.2.2.1 ∧ (7 : Nat) ≤ x.2.2.2.1 ∧ x.2.2.2.1 ≤ (14 : Nat) ∧ x.2.2.2.2 ≤ (8 : Nat)) ∧ (((0 : Nat) = (0 : Nat) ∧ (Is (syms y.1) (syms x.2.2.1) ∧ True) ∧ True) ∧ (Is (byts x_2.1) (byts x.1) ∧ y.2 = x.2.1 ∧ True) ∧ True) ∧ ∀ (y : Pl.Sig × Int),
 Pl.SgB (x.2.2.2.1 + (1 : Nat)) (x.2.2.2.2 + (1 : Nat)) y.1 ∧ x.2.1 ≤ y.2 ∧ y.2 ≤ x.2.1 + (100 : Int) →
 (∃ y_3 : Pl.Sig × Pl.Mdl,
 (Pl.SgB (15 : Nat) (9 : Nat) y_3.1 ∧ Pl.MdB (16 : Nat) (3 : Nat) y_3.2) ∧ (((Is (syms y.1) (syms y_3.1) ∧ True) ∧ (Is (mrows y_1.1) (mrows y_3.2) ∧ True) ∧ True) ∧ True) ∧ True) ∧ ∃ y_3 : Pl.Sig × Pl.Mdl,
 (Pl.SgB (15 : Nat) (9 : Nat) y_3.1 ∧ Pl.MdB (16 : Nat) (3 : Nat) y_3.2) ∧ (((Is (syms y.1) (syms y_3.1) ∧ True) ∧ (Is (mrows y_1.1) (mrows y_3.2) ∧ True) ∧ True) ∧ True) ∧ True)
 ((∃ y_3 : Pl.Sig × Pl.Mdl,
 (Pl.SgB (15 : Nat) (9 : Nat) y_3.1 ∧ Pl.MdB (16 : Nat) (3 : Nat) y_3.2) ∧ (((Is (syms y) (syms y_3.1) ∧ True) ∧ (Is (mrows y_1.1) (mrows y_3.2) ∧ True) ∧ True) ∧ True) ∧ True) ∧ ∃ y_3 : Pl.Sig × Pl.Mdl,
 (Pl.SgB (15 : Nat) (9 : Nat) y_3.1 ∧ Pl.MdB (16 : Nat) (3 : Nat) y_3.2) ∧ (((Is (syms y) (syms y_3.1) ∧ True) ∧ (Is (mrows y_1.1) (mrows y_3.2) ∧ True) ∧ True) ∧ True) ∧ True)) = Goal Tryz.prog [K_l16Open, K_l4Sig, K_l7Some, K_pick, K_l4Bent] ([]) K_DrawModelOk.1 K_DrawModelOk.2 (b) := by kernel_rfl

end Cg

/-
  What is left to show of each function's code, printed by a program: Draw. No condition.
-/
set_option maxRecDepth 100000
set_option linter.unusedVariables false
namespace Cg
open Go Go.Proofs
theorem vc_l16Open (b : List Int) : (condP (decide ((↑b.length : Int) > (2000 : Int)))
 (((0 : Int) ≤ (2000 : Int) ∧ (2000 : Int) ≤ (↑b.length : Int)) ∧ ∃ y : List Int, Rd (0 : Int) y (0 : Int) ∧ ((0 : Nat) = (0 : Nat) ∧ True) ∧ (Is (AV.sl (2000 : Nat) (1 : Nat) (cU b)) (byts y) ∧ (0 : Int) = (0 : Int) ∧ True) ∧ True)
 (∃ y : List Int, Rd (0 : Int) y (0 : Int) ∧ ((0 : Nat) = (0 : Nat) ∧ True) ∧ (Is (byts b) (byts y) ∧ (0 : Int) = (0 : Int) ∧ True) ∧ True)) = Goal Tryz.prog [] ([]) K_l16Open.1 K_l16Open.2 (b) := by kernel_rfl

theorem vc_pick (b : List Int) (p n : Int) : (condP (decide (n < (1 : Int)))
 (∃ y : Int,
 (((1 : Int) ≤ n → (0 : Int) ≤ y ∧ y < n) ∧ (n < (1 : Int) → y = (0 : Int))) ∧ ((0 : Int) = y ∧ True) ∧ (Is (byts b) (byts b) ∧ IntKind.i64.wrap (p + (1 : Int)) = p + (1 : Int) ∧ True) ∧ True)
 (condP ((↑b.length : Int) == (0 : Int))
 (∃ y : Int,
 (((1 : Int) ≤ n → (0 : Int) ≤ y ∧ y < n) ∧ (n < (1 : Int) → y = (0 : Int))) ∧ ((0 : Int) = y ∧ True) ∧ (Is (byts b) (byts b) ∧ IntKind.i64.wrap (p + (1 : Int)) = p + (1 : Int) ∧ True) ∧ True)
 (condP (decide (IntKind.i64.wrap (IntKind.i64.wrap (p + (1 : Int)) - (1 : Int)) < (↑b.length : Int)))
 (((0 : Int) ≤ IntKind.i64.wrap (IntKind.i64.wrap (p + (1 : Int)) - (1 : Int)) ∧ IntKind.i64.wrap (IntKind.i64.wrap (p + (1 : Int)) - (1 : Int)) < (↑b.length : Int)) ∧ (IntKind.i64.wrap (IntKind.i64.wrap (p + (1 : Int)) - (1 : Int))).toNat < b.length ∧ n ≠ (0 : Int) ∧ ∃ y : Int,
 (((1 : Int) ≤ n → (0 : Int) ≤ y ∧ y < n) ∧ (n < (1 : Int) → y = (0 : Int))) ∧ ((IntKind.i64.wrap (b.getD (IntKind.i64.wrap (IntKind.i64.wrap (p + (1 : Int)) - (1 : Int))).toNat (0 : Int))).tmod n = y ∧ True) ∧ (Is (byts b) (byts b) ∧ IntKind.i64.wrap (p + (1 : Int)) = p + (1 : Int) ∧ True) ∧ True)
 ((↑b.length : Int) ≠ (0 : Int) ∧ ((0 : Int) ≤ (IntKind.i64.wrap (IntKind.i64.wrap (p + (1 : Int)) - (1 : Int))).tmod (↑b.length : Int) ∧ (IntKind.i64.wrap (IntKind.i64.wrap (p + (1 : Int)) - (1 : Int))).tmod (↑b.length : Int) < (↑b.length : Int)) ∧ ((IntKind.i64.wrap (IntKind.i64.wrap (p + (1 : Int)) - (1 : Int))).tmod (↑b.length : Int)).toNat < b.length ∧ (↑b.length : Int) ≠ (0 : Int) ∧ ((0 : Int) ≤ (IntKind.i64.wrap (IntKind.i64.wrap (IntKind.i64.wrap (IntKind.i64.wrap (p + (1 : Int)) - (1 : Int)) * (7 : Int)) + (3 : Int))).tmod (↑b.length : Int) ∧ (IntKind.i64.wrap (IntKind.i64.wrap (IntKind.i64.wrap (IntKind.i64.wrap (p + (1 : Int)) - (1 : Int)) * (7 : Int)) + (3 : Int))).tmod (↑b.length : Int) <
 (↑b.length : Int)) ∧ ((IntKind.i64.wrap (IntKind.i64.wrap (IntKind.i64.wrap (IntKind.i64.wrap (p + (1 : Int)) - (1 : Int)) * (7 : Int)) + (3 : Int))).tmod (↑b.length : Int)).toNat < b.length ∧ (↑b.length : Int) ≠ (0 : Int) ∧ (64 : Int) ≠ (0 : Int) ∧ n ≠ (0 : Int) ∧ ∃ y : Int,
 (((1 : Int) ≤ n → (0 : Int) ≤ y ∧ y < n) ∧ (n < (1 : Int) → y = (0 : Int))) ∧ ((IntKind.i64.wrap
 (↑(BitVec.ofInt (64 : Nat)
 (IntKind.i64.wrap
 (IntKind.i64.wrap
 (IntKind.i64.wrap
 (IntKind.i64.wrap
 (IntKind.i64.wrap
 (b.getD ((IntKind.i64.wrap (IntKind.i64.wrap (p + (1 : Int)) - (1 : Int))).tmod (↑b.length : Int)).toNat (0 : Int)) *
 (131 : Int)) +
 IntKind.i64.wrap
 (IntKind.i64.wrap
 (b.getD
 ((IntKind.i64.wrap
 (IntKind.i64.wrap (IntKind.i64.wrap (IntKind.i64.wrap (p + (1 : Int)) - (1 : Int)) * (7 : Int)) +
 (3 : Int))).tmod
 (↑b.length : Int)).toNat
 (0 : Int)) *
 (1117 : Int))) +
 IntKind.i64.wrap (IntKind.i64.wrap (IntKind.i64.wrap (p + (1 : Int)) - (1 : Int)) * (29 : Int))) +
 IntKind.i64.wrap
 (IntKind.i64.wrap ((IntKind.i64.wrap (IntKind.i64.wrap (p + (1 : Int)) - (1 : Int))).tdiv (↑b.length : Int)) * (53 : Int)))) ^^^
 BitVec.ofInt (64 : Nat)
 (IntKind.i64.wrap
 ((IntKind.i64.wrap
 (IntKind.i64.wrap
 (IntKind.i64.wrap
 (IntKind.i64.wrap
 (IntKind.i64.wrap
 (b.getD ((IntKind.i64.wrap (IntKind.i64.wrap (p + (1 : Int)) - (1 : Int))).tmod (↑b.length : Int)).toNat (0 : Int)) *
 (131 : Int)) +
 IntKind.i64.wrap
 (IntKind.i64.wrap
 (b.getD
 ((IntKind.i64.wrap
 (IntKind.i64.wrap (IntKind.i64.wrap (IntKind.i64.wrap (p + (1 : Int)) - (1 : Int)) * (7 : Int)) +
 (3 : Int))).tmod
 (↑b.length : Int)).toNat
 (0 : Int)) *
 (1117 : Int))) +
 IntKind.i64.wrap (IntKind.i64.wrap (IntKind.i64.wrap (p + (1 : Int)) - (1 : Int)) * (29 : Int))) +
 IntKind.i64.wrap
 (IntKind.i64.wrap ((IntKind.i64.wrap (IntKind.i64.wrap (p + (1 : Int)) - (1 : Int))).tdiv (↑b.length : Int)) * (53 : Int)))).tdiv
 (64 : Int)))).toNat :
 Int)).tmod
 n =
 y ∧ True) ∧ (Is (byts b) (byts b) ∧ IntKind.i64.wrap (p + (1 : Int)) = p + (1 : Int) ∧ True) ∧ True)))) = Goal Tryz.prog [] ([]) K_pick.1 K_pick.2 ((b, p, n)) := by kernel_rfl

theorem vc_num (b : List Int) (p : Int) (l : List Int) : (∃ x : List Int × Int × Int,
 Rd (1099511627776 : Int) x.1 x.2.1 ∧ (((0 : Nat) = (0 : Nat) ∧ (↑l.length : Int) = x.2.2 ∧ True) ∧ (Is (byts b) (byts x.1) ∧ p = x.2.1 ∧ True) ∧ True) ∧ ∀ (y : Int),
 ((1 : Int) ≤ x.2.2 → (0 : Int) ≤ y ∧ y < x.2.2) ∧ (x.2.2 < (1 : Int) → y = (0 : Int)) →
 ((0 : Int) ≤ y ∧ y < (↑l.length : Int)) ∧ y.toNat < l.length ∧ ∃ y_1 : Int, y_1 ∈ l ∧ (l.getD y.toNat (0 : Int) = y_1 ∧ True) ∧ (Is (byts x.1) (byts b) ∧ x.2.1 + (1 : Int) = p + (1 : Int) ∧ True) ∧ True) = Goal Tryz.prog [K_pick] ([]) K_num.1 K_num.2 ((b, p, l)) := by kernel_rfl

end Cg

/-
  What is left to show of each function's code, printed by a program: Units. No condition.
-/
set_option maxRecDepth 100000
set_option linter.unusedVariables false
namespace Cg
open Go Go.Proofs
end Cg

/-
  Unit propagation: plain laws. No condition.
-/
set_option linter.unusedVariables false
namespace Pl
open Go Cg

/-- A mark of at most sixty variables. -/
def Mk (x : Int) : Prop := x ≠ 0 ∧ -60 ≤ x ∧ x ≤ 60
theorem Mk.wneg {x : Int} (h : Mk x) : Pl.wneg x = -x := by
  obtain ⟨h1, h2, h3⟩ := h
  unfold Pl.wneg; rw [Cg.wrap_small (by omega) (by omega)]; omega
theorem absW_of {x : Int} (h : Mk x) : absW x = if x < 0 then -x else x := by
  obtain ⟨h1, h2, h3⟩ := h
  unfold absW Pl.wneg
  rw [if_neg (by omega), if_neg (by omega)]
  split
  · rw [Cg.wrap_small (by omega) (by omega)]; omega
  · rfl
theorem take_succ_getD {α : Type} (d : α) {l : List α} {i : Nat} (h : i < l.length) : l.take (i + 1) = l.take i ++ [l.getD i d] := by
  rw [List.take_succ_eq_append_getElem h]; simp [h]
end Pl

/-
  The codes' contracts: unit propagation. No condition.
-/
set_option linter.unusedVariables false
set_option linter.unusedSimpArgs false
set_option maxRecDepth 100000
namespace Cg
open Go Go.Proofs

end Cg

/-
  The codes' contracts: the reader. No condition.
-/
set_option linter.unusedVariables false
set_option linter.unusedSimpArgs false
set_option maxRecDepth 100000
namespace Cg
open Go Go.Proofs

theorem Rd.mono {m m' : Int} {b : List Int} {p : Int} (h : Rd m b p) (hm : m ≤ m') : Rd m' b p := ⟨h.1, h.2.1, h.2.2.1, Int.le_trans h.2.2.2 hm⟩
theorem Rd.add {m m' : Int} {b : List Int} {p p' : Int} (h : Rd m b p) (h1 : p ≤ p') (h2 : p' ≤ m') : Rd m' b p' := ⟨h.1, h.2.1, Int.le_trans h.2.2.1 h1, h2⟩

theorem k_l16Open : SoundC Tryz.prog K_l16Open.1 K_l16Open.2 := sound_of hm CtxOK.nil (fun _ => []) (by kernel_rfl) fun (b : List Int) hb => cast (vc_l16Open b) (by
  obtain ⟨h1, h2⟩ : Sz b ∧ Byt b := hb
  simp [-List.getD_eq_getElem?_getD, and_assoc]
  refine ⟨fun h => ⟨by omega, b.take 2000, ⟨by simp; omega, fun x hx => h2 x (List.mem_of_mem_take hx), Int.le_refl 0, Int.le_refl 0⟩, (byts_take (by omega)).2 rfl⟩, fun h => ⟨by omega, h2, Int.le_refl 0, Int.le_refl 0⟩⟩)

theorem xor_nonneg {E : Int} (h0 : 0 ≤ E) (h1 : E < 281474976710656) : 0 ≤ IntKind.i64.wrap ((BitVec.ofInt 64 E ^^^ BitVec.ofInt 64 (IntKind.i64.wrap (E.tdiv 64))).toNat : Int) := by
  have d1 : 0 ≤ E.tdiv 64 := Int.tdiv_nonneg h0 (by omega)
  have d2 : E.tdiv 64 ≤ E := Int.tdiv_le_self _ h0
  rw [wrap_small (x := E.tdiv 64) (by omega) (by omega)]
  have e : ∀ x : Int, 0 ≤ x → x < 281474976710656 → (BitVec.ofInt 64 x).toNat < 2 ^ 48 := fun x h h' => by
    rw [BitVec.toNat_ofInt]
    have : x % ((2 ^ 64 : Nat) : Int) = x := Int.emod_eq_of_lt h (by omega)
    rw [this]; omega
  have h : (BitVec.ofInt 64 E ^^^ BitVec.ofInt 64 (E.tdiv 64)).toNat < 2 ^ 48 := by
    rw [BitVec.toNat_xor]
    exact Nat.xor_lt_two_pow (e E h0 h1) (e _ d1 (by omega))
  rw [wrap_small (by omega) (by omega)]
  omega

set_option maxHeartbeats 2000000 in
theorem k_pick : SoundC Tryz.prog K_pick.1 K_pick.2 := sound_of hm CtxOK.nil (fun _ => []) (by kernel_rfl) fun (b, p, n) hb => cast (vc_pick b p n) (by
  obtain ⟨h1, h2, h3, h4⟩ : Rd 1099511627776 b p := hb
  rw [wrap_small (x := p + 1) (by omega) (by omega), show p + 1 - 1 = p by omega, wrap_small (x := p) (by omega) (by omega)]
  simp only [condP_iff, decide_eq_true_eq, decide_eq_false_iff_not, beq_iff_eq, beq_eq_false_iff_ne, ne_eq]
  refine ⟨fun h => ⟨0, ⟨fun h' => absurd h' (by omega), fun _ => rfl⟩, by simp⟩, fun h => ⟨fun h' => ⟨0, ⟨fun _ => ⟨by omega, by omega⟩, fun _ => rfl⟩, by simp⟩, fun h' => ?_⟩⟩
  have hL : (0 : Int) < b.length := by
    omega
  have byte : ∀ i, i < b.length → 0 ≤ b.getD i 0 ∧ b.getD i 0 < 256 := fun i hi => h2 _ (getD_mem 0 hi)
  have tm : ∀ x : Int, 0 ≤ x → 0 ≤ x.tmod b.length ∧ x.tmod b.length < b.length := fun x hx => ⟨Int.tmod_nonneg _ hx, Int.tmod_lt_of_pos _ hL⟩
  refine ⟨fun hlt => ?_, fun hge => ?_⟩
  · obtain ⟨b1, b2⟩ := byte p.toNat (by omega)
    refine ⟨⟨by omega, hlt⟩, by omega, by omega, _, ⟨fun _ => ⟨?_, ?_⟩, fun h'' => absurd h'' (by omega)⟩, ⟨rfl, trivial⟩, by simp⟩
    · rw [wrap_small (by omega) (by omega)]; exact Int.tmod_nonneg _ b1
    · exact Int.tmod_lt_of_pos _ (by omega)
  · have e1 : IntKind.i64.wrap (p * 7) = p * 7 := wrap_small (by omega) (by omega)
    have e2 : IntKind.i64.wrap (p * 7 + 3) = p * 7 + 3 := wrap_small (by omega) (by omega)
    simp only [e1, e2]
    obtain ⟨t1, t2⟩ := tm p h3
    obtain ⟨t3, t4⟩ := tm (p * 7 + 3) (by omega)
    obtain ⟨a1, a2⟩ := byte (p.tmod b.length).toNat (by omega)
    obtain ⟨a3, a4⟩ := byte ((p * 7 + 3).tmod b.length).toNat (by omega)
    have d1 : 0 ≤ p.tdiv b.length := Int.tdiv_nonneg h3 (by omega)
    have d2 : p.tdiv b.length ≤ p := Int.tdiv_le_self _ h3
    refine ⟨by omega, ⟨t1, t2⟩, by omega, by omega, ⟨t3, t4⟩, by omega, by omega, by omega, by omega, ?_⟩
    generalize b.getD (p.tmod b.length).toNat 0 = A at a1 a2 ⊢
    generalize b.getD ((p * 7 + 3).tmod b.length).toNat 0 = B at a3 a4 ⊢
    generalize p.tdiv b.length = D at d1 d2 ⊢
    have e3 : IntKind.i64.wrap A = A := wrap_small (by omega) (by omega)
    have e4 : IntKind.i64.wrap (A * 131) = A * 131 := wrap_small (by omega) (by omega)
    have e5 : IntKind.i64.wrap B = B := wrap_small (by omega) (by omega)
    have e6 : IntKind.i64.wrap (B * 1117) = B * 1117 := wrap_small (by omega) (by omega)
    have e7 : IntKind.i64.wrap (A * 131 + B * 1117) = A * 131 + B * 1117 := wrap_small (by omega) (by omega)
    have e8 : IntKind.i64.wrap (p * 29) = p * 29 := wrap_small (by omega) (by omega)
    have e9 : IntKind.i64.wrap (A * 131 + B * 1117 + p * 29) = A * 131 + B * 1117 + p * 29 := wrap_small (by omega) (by omega)
    have e10 : IntKind.i64.wrap D = D := wrap_small (by omega) (by omega)
    have e11 : IntKind.i64.wrap (D * 53) = D * 53 := wrap_small (by omega) (by omega)
    have e12 : IntKind.i64.wrap (A * 131 + B * 1117 + p * 29 + D * 53) = A * 131 + B * 1117 + p * 29 + D * 53 := wrap_small (by omega) (by omega)
    simp only [e3, e4, e5, e6, e7, e8, e9, e10, e11, e12]
    have hE : 0 ≤ A * 131 + B * 1117 + p * 29 + D * 53 ∧ A * 131 + B * 1117 + p * 29 + D * 53 < 281474976710656 := by omega
    generalize A * 131 + B * 1117 + p * 29 + D * 53 = E at hE
    refine ⟨_, ⟨fun _ => ⟨Int.tmod_nonneg _ (xor_nonneg hE.1 hE.2), Int.tmod_lt_of_pos _ (by omega)⟩, fun h'' => absurd h'' (by omega)⟩, ⟨rfl, trivial⟩, by simp⟩)

end Cg

/-
  Drawn clause sets: plain laws. No condition.
-/
set_option linter.unusedVariables false
set_option linter.unusedSimpArgs false
namespace Pl
open Go Cg

theorem lIs_neg {x : Int} {v : List Bool} (h0 : x ≠ 0) (h1 : x ≤ v.length) (h2 : -(v.length : Int) ≤ x) : lIs (-x) v = !lIs x v := by
  have e1 : ¬ (-x = 0 ∨ -x > (v.length : Int) ∨ -x < -(v.length : Int)) := by omega
  have e2 : ¬ (x = 0 ∨ x > (v.length : Int) ∨ x < -(v.length : Int)) := by omega
  unfold lIs
  rw [if_neg e1, if_neg e2]
  by_cases h : x < 0
  · have e3 : ¬ -x < 0 := by omega
    rw [if_neg e3, if_pos h, Bool.not_not]; congr 2; omega
  · have e3 : -x < 0 := by omega
    rw [if_pos e3, if_neg h]; congr 3; omega
theorem Mk.le_abs {x n : Int} (h : Mk x) (h1 : absW x ≤ n) : x ≤ n ∧ -n ≤ x := by
  rw [absW_of h] at h1
  split at h1 <;> omega
theorem Mk.lIs {x : Int} {v : List Bool} (h : Mk x) (h1 : absW x ≤ v.length) : Pl.lIs (Pl.wneg x) v = !Pl.lIs x v := by
  obtain ⟨h2, h3⟩ := h.le_abs h1
  rw [h.wneg]
  exact lIs_neg h.1 h2 h3

end Pl

/-
  The codes' contracts: drawn clause sets. No condition.
-/
set_option linter.unusedVariables false
set_option linter.unusedSimpArgs false
set_option maxRecDepth 100000
namespace Cg
open Go Go.Proofs

theorem k_num : SoundC Tryz.prog K_num.1 K_num.2 := sound_of hm (CtxOK.nil.and k_pick) (fun _ => []) (by kernel_rfl) fun (b, p, l) hb => cast (vc_num b p l) (by
  obtain ⟨h1, h2, h3⟩ : Rd 1099511627776 b p ∧ l ≠ [] ∧ Sz l := hb
  simp [-List.getD_eq_getElem?_getD, and_assoc]
  have hl : 0 < l.length := List.length_pos_iff.2 h2
  exact ⟨b, p, h1, rfl, rfl, fun y h4 h5 => by
    obtain ⟨h6, h7⟩ := h4 (by omega)
    exact ⟨h6, h7, by omega, _, getD_mem 0 (by omega), rfl, rfl, rfl⟩⟩)

end Cg

/-
  The codes' contracts: drawn clause sets, the rest. No condition.
-/
set_option linter.unusedVariables false
set_option linter.unusedSimpArgs false
set_option maxRecDepth 100000
namespace Cg
open Go Go.Proofs


theorem Rd.to {m m' : Int} {b : List Int} {p p' : Int} (h : Rd m b p) (h1 : 0 ≤ p') (h2 : p' ≤ m') : Rd m' b p' := ⟨h.1, h.2.1, h1, h2⟩
theorem Rds.two {v w : List Int} {a b : AV} (h1 : Is a (ints v)) (h2 : Is b (ints w)) : Rds 1 eII [] 2 (rowsCell [[a], [b]]) [v, w] := ⟨rfl, fun i hi j hj => by
  match i, j, hi, hj with
  | 0, 0, _, _ => exact h1
  | 1, 0, _, _ => exact h2⟩
theorem Rds.one {v : List Int} {a : AV} (h1 : Is a (ints v)) : Rds 1 eII [] 1 (rowsCell [[a]]) [v] := ⟨rfl, fun i hi j hj => by
  match i, j, hi, hj with
  | 0, 0, _, _ => exact h1⟩

theorem Sm.len {a : Int} {l : List (List Int)} (h : Sm (a, l)) : a ≤ 61 ∧ l.length ≤ 100 ∧ ∀ x ∈ l, x.length ≤ 100 := h
end Cg

/-
  The codes' contracts: laws of drawn clause sets. No condition.
-/
set_option linter.unusedVariables false
set_option linter.unusedSimpArgs false
set_option maxRecDepth 100000
namespace Cg
open Go Go.Proofs

theorem byt_of {l : List Int} (h : ∀ x ∈ l, (Lit.int .u8 x).wf = true) : Byt l := fun x hx => by
  have := h x hx
  simp [Lit.wf, IntKind.min, IntKind.max, IntKind.signed, IntKind.bits] at this
  omega
end Cg

/-
  The codes' contracts: drawn words. No condition.
-/
set_option linter.unusedVariables false
set_option linter.unusedSimpArgs false
set_option maxRecDepth 100000
namespace Cg
open Go Go.Proofs Pl
theorem slit (v : ByteArray) (j : Nat) (hj : j < 1) : [st v].getD j .any = eS v j := by
  have : j = 0 := by omega
  subst this
  rfl
@[simp] theorem strs_lit3 {a b c : ByteArray} {m : List ByteArray} : Is (.lit 3 1 (rowsCell [[st a], [st b], [st c]])) (strs m) ↔ [a, b, c] = m := Is_lits (by decide) EncN.eS [a, b, c] m (fun v => [st v]) slit
@[simp] theorem strs_lit5 {a b c d e : ByteArray} {m : List ByteArray} : Is (.lit 5 1 (rowsCell [[st a], [st b], [st c], [st d], [st e]])) (strs m) ↔ [a, b, c, d, e] = m := Is_lits (by decide) EncN.eS [a, b, c, d, e] m (fun v => [st v]) slit
@[simp] theorem strs_lit4 {a b c d : ByteArray} {m : List ByteArray} : Is (.lit 4 1 (rowsCell [[st a], [st b], [st c], [st d]])) (strs m) ↔ [a, b, c, d] = m := Is_lits (by decide) EncN.eS [a, b, c, d] m (fun v => [st v]) slit
theorem k_of : SoundC Tryz.prog K_of.1 K_of.2 := sound_of hm (CtxOK.nil.and k_pick) (fun _ => []) (by kernel_rfl) fun ((b, p, l) : List Int × Int × List ByteArray) hb => (by
  obtain ⟨h1, h2, h3⟩ : Rd 1099511627776 b p ∧ l ≠ [] ∧ Sz l := hb
  rw [← vc_of b p l]
  simp [-List.getD_eq_getElem?_getD, -List.mem_cons, -Bool.forall_bool, -Bool.exists_bool, and_assoc, peta, tl_inj, ex_1, ex_2, ex_3, ex_4, ex_5, ex_6, ex_7, ex_8, ex_9, ey_2, ey_3, ey_4, ey_5, ey_6, ey_7, ey_8, ey_9]
  have h0 : 0 < l.length := List.length_pos_iff.2 h2
  refine ⟨h1, fun y hy _ => ?_⟩
  obtain ⟨h4, h5⟩ := hy (by omega)
  exact ⟨h4, h5, by omega, getD_mem _ (by omega)⟩)
/-- Rows that were written out, one by one. -/
def LitR {α : Type} (k : Nat) (e : α → Nat → AV) (d : α) (rows : List (List AV)) (l : List α) : Prop := rows.length = l.length ∧ ∀ i, i < l.length → ∀ j, j < k → Is ((rows.getD i []).getD j .any) (e (l.getD i d) j)
theorem LitR.nil {α : Type} {k : Nat} {e : α → Nat → AV} {d : α} : LitR k e d [] [] := ⟨rfl, fun i hi => by cases hi⟩
theorem LitR.cons {α : Type} {k : Nat} {e : α → Nat → AV} {d : α} {rows : List (List AV)} {l : List α} (h : LitR k e d rows l) {r : List AV} {v : α} (hr : ∀ j, j < k → Is (r.getD j .any) (e v j)) : LitR k e d (r :: rows) (v :: l) :=
  ⟨by simp [h.1], fun i hi j hj => by
    cases i with
    | zero => exact hr j hj
    | succ i => exact h.2 i (by simpa using hi) j hj⟩
theorem LitR.is {α : Type} {k : Nat} {e : α → Nat → AV} {d : α} {rows : List (List AV)} {l : List α} (h : LitR k e d rows l) : Is (.lit rows.length k (rowsCell rows)) (.sl l.length k fun i j => e (l.getD i d) j) :=
  Is_lit_of h.1 fun i hi j hj => h.2 i hi j hj
theorem rowY {a : ByteArray} {b : AV} {l : List Int} {c : Int} (hb : Is b (ints l)) : ∀ j, j < 3 → Is ([st a, b, i64 c].getD j .any) (eY (a, l, c) j) := Is_rowY hb
theorem ints_l0 {q : Nat} {c : Nat → Nat → AV} : Is (.lit 0 q c) (ints []) := ints_nil.2 rfl
theorem ints_l1 {a : Int} : Is (.lit 1 1 (rowsCell [[i64 a]])) (ints [a]) := ints_lit1.2 rfl
theorem ints_l2 {a b : Int} : Is (.lit 2 1 (rowsCell [[i64 a], [i64 b]])) (ints [a, b]) := ints_lit2.2 rfl
theorem base_small (k : Int) : SgB 5 2 (base k) := by
  unfold base
  split
  · exact ⟨by decide, by simp; decide⟩
  · split
    · exact ⟨by decide, by simp; decide⟩
    · split
      · exact ⟨by decide, by simp; decide⟩
      · split
        · exact ⟨by decide, by simp; decide⟩
        · exact ⟨by decide, by simp⟩
theorem k_l4Base : SoundC Tryz.prog K_l4Base.1 K_l4Base.2 := sound_of hm CtxOK.nil (fun _ => []) (by kernel_rfl) fun (k : Int) hb => (by
  rw [← vc_l4Base k]
  simp [-List.getD_eq_getElem?_getD, -List.mem_cons, -Bool.forall_bool, -Bool.exists_bool, and_assoc, peta, tl_inj, ex_1, ex_2, ex_3, ex_4, ex_5, ex_6, ex_7, ex_8, ex_9, ey_2, ey_3, ey_4, ey_5, ey_6, ey_7, ey_8, ey_9]
  refine ⟨fun h => ?_, fun h0 => ⟨fun h => ?_, fun h1 => ⟨fun h => ?_, fun h2 => ⟨fun h => ?_, fun h3 => ?_⟩⟩⟩⟩
  · unfold base; rw [if_pos h]
    exact (((((LitR.nil.cons (rowY ints_l2)).cons (rowY ints_l1)).cons (rowY ints_l0)).cons (rowY ints_l0)).cons (rowY ints_l0)).is
  · unfold base; rw [if_neg h0, if_pos h]
    exact (((((LitR.nil.cons (rowY ints_l0)).cons (rowY ints_l0)).cons (rowY ints_l1)).cons (rowY ints_l0)).cons (rowY ints_l0)).is
  · unfold base; rw [if_neg h0, if_neg h1, if_pos h]
    exact ((((LitR.nil.cons (rowY ints_l0)).cons (rowY ints_l0)).cons (rowY ints_l0)).cons (rowY ints_l1)).is
  · unfold base; rw [if_neg h0, if_neg h1, if_neg h2, if_pos h]
    exact (((((LitR.nil.cons (rowY ints_l0)).cons (rowY ints_l0)).cons (rowY ints_l2)).cons (rowY ints_l1)).cons (rowY ints_l0)).is
  · unfold base; rw [if_neg h0, if_neg h1, if_neg h2, if_neg h3])
theorem k_l4Sig : SoundC Tryz.prog K_l4Sig.1 K_l4Sig.2 := sound_of hm ((CtxOK.nil.and k_l4Base).and k_num) (fun _ => []) (by kernel_rfl) fun ((b, p) : List Int × Int) hb => (by
  replace hb : Rd 549755813888 b p := hb
  rw [← vc_l4Sig b p]
  simp [-List.getD_eq_getElem?_getD, -List.mem_cons, -Bool.forall_bool, -Bool.exists_bool, and_assoc, peta, tl_inj, ex_1, ex_2, ex_3, ex_4, ex_5, ex_6, ex_7, ex_8, ex_9, ey_2, ey_3, ey_4, ey_5, ey_6, ey_7, ey_8, ey_9]
  exact ⟨hb.to hb.2.2.1 (by have := hb.2.2.2; omega), fun y _ => base_small y⟩)
theorem IsR_store {α : Type} {k : Nat} {e : α → Nat → AV} {d : α} (he : EncN k e) {l : List α} {i0 off : Nat} {v : α} {vs : List AV}
    (h : ∀ j, j < k → Is (bif Nat.ble off j && Nat.blt j (off + vs.length) then vs.getD (j - off) .any else e (l.getD i0 d) j) (e v j)) : IsR k e d (storeC (fun i j => e (l.getD i d) j) i0 off vs) (l.set i0 v) := fun i hi j hj => by
  have hi' : i < l.length := by simpa using hi
  unfold storeC
  by_cases hii : i = i0
  · subst hii
    have e1 : (l.set i v).getD i d = v := by simp [hi']
    rw [e1, beq_iff.2 rfl, Bool.true_and]
    exact h j hj
  · have e1 : (l.set i0 v).getD i d = l.getD i d := by simp only [List.getD_eq_getElem?_getD, List.getElem?_set_ne (Ne.symm hii)]
    have e2 : Nat.beq i i0 = false := by
      cases hb : Nat.beq i i0
      · rfl
      · exact absurd (beq_iff.1 hb) hii
    rw [e1, e2]
    exact he.self _ hj
theorem IsR_storeG {α : Type} {k : Nat} {e : α → Nat → AV} {d : α} {c : Nat → Nat → AV} {l : List α} (hc : IsR k e d c l) {i0 : Nat} {v : α} {vs : List AV} (hl : vs.length = k)
    (h : ∀ j, j < k → Is (vs.getD j .any) (e v j)) : IsR k e d (storeC c i0 0 vs) (l.set i0 v) := fun i hi j hj => by
  have hi' : i < l.length := by simpa using hi
  unfold storeC
  by_cases hii : i = i0
  · subst hii
    have e1 : (l.set i v).getD i d = v := by simp [hi']
    rw [e1, beq_iff.2 rfl, Bool.true_and, ble_iff.2 (Nat.zero_le j), blt_true (by omega), Bool.true_and, cond_true, Nat.sub_zero]
    exact h j hj
  · have e1 : (l.set i0 v).getD i d = l.getD i d := by simp only [List.getD_eq_getElem?_getD, List.getElem?_set_ne (Ne.symm hii)]
    have e2 : Nat.beq i i0 = false := by
      cases hb : Nat.beq i i0
      · rfl
      · exact absurd (beq_iff.1 hb) hii
    rw [e1, e2, Bool.false_and, Bool.false_and, cond_false]
    exact hc i hi' j hj
theorem IsO_xpush {α : Type} {k : Nat} {e : α → Nat → AV} {d : α} {l : List α} {n : Nat} {row : List AV} {v : α} (hn : n = l.length) (hs : ∀ x j, j < k → IsX (e x j) (e x j)) (hr : ∀ j, j < k → IsX (row.getD j .any) (e v j)) :
    IsO (.xarr (n + 1) k (joinC n (fun i j => e (l.getD i d) j) (rowsCell [row]))) (.xarr (l ++ [v]).length k fun i j => e ((l ++ [v]).getD i d) j) := by
  subst hn
  refine ⟨rfl, by simp, fun i hi j hj => ?_⟩
  by_cases h' : i < l.length
  · have e1 : (l ++ [v]).getD i d = l.getD i d := by simp only [List.getD_eq_getElem?_getD, List.getElem?_append_left h']
    show IsX (joinC l.length (fun i j => e (l.getD i d) j) (rowsCell [row]) i j) (e ((l ++ [v]).getD i d) j)
    unfold joinC
    rw [blt_true h', e1]
    exact hs _ j hj
  · have hi' : i = l.length := by omega
    subst hi'
    have e1 : (l ++ [v]).getD l.length d = v := by simp
    show IsX (joinC l.length (fun i j => e (l.getD i d) j) (rowsCell [row]) l.length j) (e ((l ++ [v]).getD l.length d) j)
    unfold joinC
    rw [blt_false h', e1, Nat.sub_self]
    exact hr j hj
theorem IsX_v (x : Value) : IsX (.v x) (.v x) := rfl
theorem IsX_intsS {v : List Int} : IsX (ints v) (ints v) := ⟨rfl, rfl, fun i hi j hj => EncN.eI.self _ hj⟩
theorem IsX_eY (x : Sym) (j : Nat) (hj : j < 3) : IsX (eY x j) (eY x j) := by
  match j, hj with
  | 0, _ => exact IsX_v _
  | 1, _ => exact IsX_intsS
  | 2, _ => exact IsX_v _
theorem xrY_push {l : List Sym} {n : Nat} {a : ByteArray} {v : List Int} {c : Int} (hn : n = l.length) : IsO (.xarr (n + 1) 3 (joinC n (cY l) (rowsCell [[st a, AV.sl v.length 1 (cI v), i64 c]]))) (xrY (l ++ [(a, v, c)])) :=
  IsO_xpush hn IsX_eY fun j hj => by
    match j, hj with
    | 0, _ => exact IsX_v _
    | 1, _ => exact IsX_intsS
    | 2, _ => exact IsX_v _
theorem mem_set_imp {α : Type} {q : α → Prop} {l : List α} {i : Nat} {v : α} (h : ∀ x ∈ l, q x) (hv : q v) : ∀ x ∈ l.set i v, q x := fun x hx => by
  rcases List.mem_or_eq_of_mem_set hx with e | e
  · exact h x e
  · rw [e]; exact hv
theorem mem_push_imp {α : Type} {q : α → Prop} {l : List α} {v : α} (h : ∀ x ∈ l, q x) (hv : q v) : ∀ x ∈ l ++ [v], q x := fun x hx => by
  rcases List.mem_append.1 hx with e | e
  · exact h x e
  · rw [List.mem_singleton.1 e]; exact hv
theorem _root_.Pl.SgB.mono {n k n' k' : Nat} {s : Pl.Sig} (h : SgB n k s) (h1 : n ≤ n') (h2 : k ≤ k') : SgB n' k' s := ⟨Nat.le_trans h.1 h1, fun x hx => ⟨(h.2 x hx).1, Nat.le_trans (h.2 x hx).2 h2⟩⟩
theorem _root_.Pl.SgB.set {n k : Nat} {s : Pl.Sig} (h : SgB n k s) {i : Nat} {x : Sym} (hx : x.1.size ≤ 10 ∧ x.2.1.length ≤ k) : SgB n k (s.set i x) := ⟨by simpa using h.1, mem_set_imp h.2 hx⟩
theorem _root_.Pl.SgB.push {n k : Nat} {s : Pl.Sig} (h : SgB n k s) {x : Sym} (hn : s.length < n) (hx : x.1.size ≤ 10 ∧ x.2.1.length ≤ k) : SgB n k (s ++ [x]) := ⟨by simp; omega, mem_push_imp h.2 hx⟩
theorem names5 : ∀ y ∈ [(⟨#[]⟩ : ByteArray), ⟨#[65]⟩, ⟨#[97, 98, 99]⟩, ⟨#[122, 122]⟩, ⟨#[97]⟩], y.size ≤ 10 := by decide
theorem names3 : ∀ y ∈ [(⟨#[97]⟩ : ByteArray), ⟨#[98]⟩, ⟨#[122]⟩], ((⟨#[122]⟩ : ByteArray) ++ y).size ≤ 10 ∧ y.size ≤ 10 := by decide
theorem k_l4Bent : SoundC Tryz.prog K_l4Bent.1 K_l4Bent.2 := sound_of hm (((CtxOK.nil.and k_of).and k_num).and k_pick) (fun (b, p, s, n, k) => A_l4Bent b p s n k) (by kernel_rfl) fun ((b, p, s, n, r) : List Int × Int × Pl.Sig × Nat × Nat) hb => (by
  obtain ⟨h1, h2, hn1, hn2, hr2⟩ : Rd 274877906944 b p ∧ SgB n r s ∧ 7 ≤ n ∧ n ≤ 14 ∧ r ≤ 8 := hb
  rw [← vc_l4Bent b p s n r]
  simp [-List.getD_eq_getElem?_getD, -List.mem_cons, -Bool.forall_bool, -Bool.exists_bool, and_assoc, peta, tl_inj, ex_1, ex_2, ex_3, ex_4, ex_5, ex_6, ex_7, ex_8, ex_9, ey_2, ey_3, ey_4, ey_5, ey_6, ey_7, ey_8, ey_9]
  obtain ⟨s1, s2⟩ : s.length ≤ n ∧ ∀ x ∈ s, x.1.size ≤ 10 ∧ x.2.1.length ≤ r := id h2
  have g3 := h1.2.2.1
  have g4 := h1.2.2.2
  have hB : SgB (n + 1) (r + 1) s := h2.mono (by omega) (by omega)
  refine ⟨⟨0, by omega, rfl, rfl, .inl rfl⟩, fun x hx => ⟨fun hlt => ?_, fun hge => ?_⟩⟩
  · have h3 := s2 _ (getD_mem dY hlt)
    refine ⟨hlt, by omega, by omega, by omega, by omega, by omega, wrap_succ hlt (by omega), ?_⟩
    rw [Pl.take_succ_getD dY hlt]
    exact xrY_push (by simp; omega)
  · obtain rfl : x = s.length := by omega
    rw [List.take_length, Nat.min_self]
    have hI : Is (AV.sl s.length 3 (cY s)) (syms s) := (syms_take (Nat.le_refl _)).2 List.take_length
    refine ⟨fun _ => ⟨s, hB, by omega, by omega, hI⟩, fun h0 => ⟨h1.to (by omega) (by omega), fun y y1 y2 => ⟨fun _ => ⟨s, hB, by omega, by omega, hI⟩, fun _ => ⟨h1.to (by omega) (by omega), fun k hk _ => ⟨h1.to (by omega) (by omega), fun z z1 z2 => ?_⟩⟩⟩⟩⟩
    obtain ⟨k1, k2⟩ := hk (by omega)
    have hkl : k.toNat < s.length := by omega
    have h3 := s2 _ (getD_mem dY hkl)
    have hsl : ∀ v : Sym, (s.set k.toNat v).length = s.length := fun v => by simp
    refine ⟨fun _ => ⟨h1.to (by omega) (by omega), fun nm hnm => ?_⟩, fun _ => ⟨fun _ => ?_, fun _ => ⟨fun _ => ⟨h1.to (by omega) (by omega), fun v hv => ?_⟩, fun _ => ⟨fun _ => ?_, fun _ => ⟨⟨s, hB, by omega, by omega, rfl, .inr rfl⟩, fun a q ha q1 q2 => ⟨fun hle => ⟨h1.to (by omega) (by omega), fun nm hnm => ?_⟩, fun _ => ⟨ha, by omega, by have := ha.1; omega⟩⟩⟩⟩⟩⟩⟩
    · exact ⟨by omega, by omega, by omega, _, hB.set (x := (nm, (s.getD k.toNat dY).2)) ⟨names5 nm hnm, Nat.le_trans h3.2 (by omega)⟩, by omega, by omega, by omega, Is_sl_of (hsl _).symm (IsR_store EncN.eY fun j hj => by
        match j, hj with
        | 0, _ => exact Is_st.2 rfl
        | 1, _ => exact EncN.eY.self _ (j := 1) (by decide)
        | 2, _ => exact EncN.eY.self _ (j := 2) (by decide))⟩
    · have main : ∀ v : Int, ∃ a, SgB (n + 1) (r + 1) a ∧ p ≤ p + 1 + 1 + 1 + 1 ∧ p + 1 + 1 + 1 + 1 ≤ p + 100 ∧ s.length ≤ s.length ∧ Is (AV.sl s.length 3 fun i j => storeC (cY s) k.toNat 1 [AV.sl ((s.getD k.toNat dY).snd.fst.length + 1) 1 (joinC (s.getD k.toNat dY).snd.fst.length (cI (s.getD k.toNat dY).snd.fst) (rowsCell [[i64 v]]))] i j) (syms a) := fun v =>
        ⟨_, hB.set (x := ((s.getD k.toNat dY).1, (s.getD k.toNat dY).2.1 ++ [v], (s.getD k.toNat dY).2.2)) ⟨h3.1, by dsimp only; rw [List.length_append, List.length_singleton]; omega⟩, by omega, by omega, by omega, Is_sl_of (hsl _).symm (IsR_store EncN.eY fun j hj => by
          match j, hj with
          | 0, _ => exact EncN.eY.self _ (j := 0) (by decide)
          | 1, _ => exact ((Rds.cel EncN.eI (s.getD k.toNat dY).2.1).join (Rds.row (ints_row v))).is
          | 2, _ => exact EncN.eY.self _ (j := 2) (by decide))⟩
      exact ⟨by omega, by omega, by omega, h1.to (by omega) (by omega), fun v _ => ⟨by omega, by omega, by omega, by omega, by omega, main v⟩, h1.to (by omega) (by omega), fun v _ => ⟨by omega, by omega, by omega, by omega, by omega, by omega, by omega, main v⟩⟩
    · exact ⟨by omega, by omega, by omega, _, hB.set (x := ((s.getD k.toNat dY).1, (s.getD k.toNat dY).2.1, v)) ⟨h3.1, Nat.le_trans h3.2 (by omega)⟩, by omega, by omega, by omega, Is_sl_of (hsl _).symm (IsR_store EncN.eY fun j hj => by
        match j, hj with
        | 0, _ => exact EncN.eY.self _ (j := 0) (by decide)
        | 1, _ => exact EncN.eY.self _ (j := 1) (by decide)
        | 2, _ => exact Is_i64.2 rfl)⟩
    · exact ⟨by omega, by omega, by omega, by omega, by omega, _, hB.push (x := s.getD k.toNat dY) (by omega) ⟨h3.1, by omega⟩, by omega, by omega, ((Rds.cel EncN.eY s).join (Rds.row (IsR_row EncN.eY (Is_rowY (Is_ints.2 rfl))))).is⟩
    · obtain ⟨e1, e2⟩ := names3 nm hnm
      refine ⟨by omega, by omega, _, ha.push (x := (⟨#[122]⟩ ++ nm, [], 0)) (by omega) ⟨e1, Nat.zero_le _⟩, by omega, ?_, ?_, by simp, IsO_join EncN.eY (IsR_row EncN.eY (Is_rowY (ints_nil.2 rfl)))⟩
      · simp; omega
      · simp; omega)
end Cg

/-
  The codes' contracts: vocabularies that are read. No condition.
-/
set_option linter.unusedVariables false
set_option linter.unusedSimpArgs false
set_option maxRecDepth 100000
namespace Pl
open Go Cg
theorem sumN_app {α : Type} (f : α → Nat) : ∀ a b : List α, sumN f (a ++ b) = sumN f a + sumN f b
  | [], b => by simp [sumN]
  | x :: a, b => by simp only [List.cons_append, sumN, sumN_app f a b]; omega
theorem sumN_pre {α : Type} (f : α → Nat) (l : List α) (x : Nat) : sumN f (l.take x) ≤ sumN f l := by
  have := sumN_app f (l.take x) (l.drop x)
  rw [List.take_append_drop] at this
  omega
theorem sumN_map {α β : Type} (f : β → Nat) (g : α → β) : ∀ l : List α, sumN f (l.map g) = sumN (fun x => f (g x)) l
  | [] => rfl
  | x :: l => by simp only [List.map_cons, sumN, sumN_map f g l]
theorem sumN_mono {α : Type} {f g : α → Nat} (h : ∀ x, f x ≤ g x) : ∀ l : List α, sumN f l ≤ sumN g l
  | [] => Nat.le_refl _
  | x :: l => by have := sumN_mono h l; have := h x; simp only [sumN]; omega
theorem sumN_one {α : Type} (f : α → Nat) : ∀ l : List α, sumN (fun x => f x + 1) l = sumN f l + l.length
  | [] => rfl
  | x :: l => by simp only [sumN, sumN_one f l, List.length_cons]; omega
theorem cutL_sum (c : UInt8) : ∀ l : List UInt8, sumN (fun p => p.length + 1) (cutL c l) = l.length + 1
  | [] => rfl
  | x :: r => by
    have ih := cutL_sum c r
    by_cases hx : x = c
    · rw [cutL, if_pos hx]; simp only [sumN, ih, List.length_cons, List.length_nil]; omega
    · obtain ⟨p, ps, e1, e2⟩ := cutL_cons hx r
      rw [e2]; rw [e1] at ih
      simp only [sumN, List.length_cons] at ih ⊢; omega
theorem cut_sum (c : UInt8) (s : ByteArray) : sumN (fun (p : ByteArray) => p.size + 1) (cut c s) = s.size + 1 := by
  unfold cut
  rw [sumN_map]
  exact cutL_sum c (bl' s)
theorem take_cost {c : UInt8} {s : ByteArray} {x : Nat} (h : x ≤ (cut c s).length - 1) : sumN (fun (p : ByteArray) => p.size + 1) ((cut c s).take x) ≤ s.size := by
  have h1 := cut_sum c s
  have h0 := cut_ne c s
  have h2 : (cut c s).take (x + 1) = (cut c s).take x ++ [(cut c s).getD x ByteArray.empty] := take_snoc _ (by omega)
  have h3 := sumN_pre (fun (p : ByteArray) => p.size + 1) (cut c s) (x + 1)
  rw [h2, sumN_app] at h3
  simp only [sumN] at h3
  omega
end Pl
namespace Cg
open Go Go.Proofs Pl
end Cg

/-
  Plain laws: vocabularies are read back as written. No condition.
-/
set_option linter.unusedVariables false
set_option linter.unusedSimpArgs false
namespace Pl
open Go Cg
theorem itoa_no {n : Int} {c : UInt8} (hc : dig c = false) (h45 : c ≠ 45) : ∀ x ∈ itoa n, x ≠ c := fun x hx e => by
  subst e
  have hd : ∀ u, ∀ y ∈ Go.Lib.decDigits u, dig y = true := fun u y hy => List.all_eq_true.1 (dec_dig u) y hy
  unfold itoa Go.Lib.itoa at hx
  split at hx
  · rcases List.mem_cons.1 hx with e | h
    · exact h45 e
    · rw [hd _ _ h] at hc; cases hc
  · rw [hd _ _ hx] at hc; cases hc
theorem name_no {v : ByteArray} {c : UInt8} (h : nameOk v = true) (hc : lower c = false) : ∀ x ∈ bl' v, x ≠ c := fun x hx e => by
  subst e
  have := List.all_eq_true.1 (name_lower h) x hx
  rw [hc] at this; cases this
theorem i0 : itoa 0 = [48] := dec_last (m := 0) (by omega)
theorem i1 : itoa 1 = [49] := dec_last (m := 1) (by omega)
theorem rd_zero {α : Type} {R : α → Bool} {T : α → List UInt8} {z : α} {s : List UInt8} (h : (rd R T z s).2 = false) : (rd R T z s).1 = z := by
  unfold rd at h ⊢
  split
  · rename_i he; rw [dif_pos he] at h; cases h
  · rfl
end Pl

/-
  Plain laws: models are read back as written. No condition.
-/
set_option linter.unusedVariables false
set_option linter.unusedSimpArgs false
namespace Pl
open Go Cg
/-- A text cut at the first of a piece. -/
theorem cut_at {a b sep : List UInt8} (h : ∀ j, j < a.length → Go.Lib.occAt (a ++ (sep ++ b)) sep j = false) : Go.Lib.cut (a ++ (sep ++ b)) sep = (a, b, true) := by
  have h1 : Go.Lib.index (a ++ (sep ++ b)) sep = ((a.length : Nat) : Int) := Go.Lib.index_first (by simp) (by
    unfold Go.Lib.occAt
    rw [List.drop_left, List.isPrefixOf_iff_prefix]
    exact List.prefix_append _ _) h
  unfold Go.Lib.cut
  rw [h1, if_pos (by omega)]
  simp only [Int.toNat_natCast]
  rw [List.take_left, ← List.drop_drop, List.drop_left, List.drop_left]
theorem cut_none {a sep : List UInt8} (h : ∀ j, j ≤ a.length → Go.Lib.occAt a sep j = false) : Go.Lib.cut a sep = (a, [], false) := by
  have h1 := Go.Lib.index_none h
  unfold Go.Lib.cut
  rw [h1, if_neg (by omega)]
theorem occ_head {s t : List UInt8} {c : UInt8} {j : Nat} (h : s.getD j 0 ≠ c ∨ s.length ≤ j) : Go.Lib.occAt s (c :: t) j = false := by
  cases ho : Go.Lib.occAt s (c :: t) j with
  | false => rfl
  | true =>
    have := Go.Lib.occAt_head rfl ho
    rcases h with h | h
    · rw [List.getD_eq_getElem?_getD, this] at h; exact absurd rfl h
    · rw [List.getElem?_eq_none h] at this; cases this
theorem cut_one {a b : List UInt8} {c : UInt8} (h : ∀ x ∈ a, x ≠ c) : Go.Lib.cut (a ++ c :: b) [c] = (a, b, true) :=
  cut_at (sep := [c]) fun j hj => occ_head (.inl (by
    have e : (a ++ ([c] ++ b)).getD j 0 = a[j] := by rw [List.getD_eq_getElem?_getD, List.getElem?_append_left hj, List.getElem?_eq_getElem hj]; rfl
    rw [e]; exact h _ (List.getElem_mem hj)))
theorem cut_one_no {a : List UInt8} {c : UInt8} (h : ∀ x ∈ a, x ≠ c) : Go.Lib.cut a [c] = (a, [], false) :=
  cut_none fun j _ => occ_head (by
    by_cases hj : j < a.length
    · refine .inl ?_
      rw [List.getD_eq_getElem?_getD, List.getElem?_eq_getElem hj]
      exact h _ (List.getElem_mem hj)
    · exact .inr (by omega))
theorem rat_range {q : Rt} (h : ratOk q = true) : -1000000000 ≤ q.1 ∧ q.1 ≤ 1000000000 ∧ 1 ≤ q.2 ∧ q.2 ≤ 1000000000 := by
  simp only [ratOk, Bool.and_eq_true, decide_eq_true_eq] at h
  exact ⟨h.1.1.1, h.1.1.2, h.1.2.1, h.1.2.2⟩
theorem ratB_no {q : Rt} {c : UInt8} (hc : dig c = false) (h45 : c ≠ 45) (h47 : c ≠ 47) : ∀ x ∈ ratB q, x ≠ c := fun x hx => by
  unfold ratB at hx
  split at hx
  · exact itoa_no hc h45 x hx
  · simp only [List.mem_append, List.mem_singleton] at hx
    rcases hx with (hx | rfl) | hx
    · exact itoa_no hc h45 x hx
    · exact fun e => h47 e.symm
    · exact itoa_no hc h45 x hx
theorem ratS_text {q : Rt} (h : ratOk q = true) : ratS (mkB (ratB q)) = q := by
  obtain ⟨h1, h2, h3, h4⟩ := rat_range h
  have hn := itoa_no (n := q.1) (c := 47) (by decide) (by decide)
  have hd := itoa_no (n := q.2) (c := 47) (by decide) (by decide)
  by_cases hq : q.2 = 1
  · have e : cut 47 (mkB (ratB q)) = [mkB (itoa q.1)] := by
      unfold cut
      rw [bl_mk]
      unfold ratB
      rw [if_pos hq, cutL_no hn]; rfl
    unfold ratS
    rw [e, if_neg (by simp)]
    refine Prod.ext ?_ hq.symm
    show (numL (bl' (mkB (itoa q.1)))).1 = q.1
    rw [bl_mk, numL_itoa (by omega) (by omega)]
  · have e : cut 47 (mkB (ratB q)) = [mkB (itoa q.1), mkB (itoa q.2)] := by
      unfold cut
      rw [bl_mk]
      unfold ratB
      rw [if_neg hq, List.append_assoc, List.singleton_append, cutL_app _ hn, cutL_no hd]; rfl
    unfold ratS
    rw [e, if_pos (by simp)]
    refine Prod.ext ?_ ?_
    · show (numL (bl' (mkB (itoa q.1)))).1 = q.1
      rw [bl_mk, numL_itoa (by omega) (by omega)]
    · show (numL (bl' (mkB (itoa q.2)))).1 = q.2
      rw [bl_mk, numL_itoa (by omega) (by omega)]
theorem ratI_text {q : Rt} (h : ratOk q = true) : ratI (mkB (ratB q)) = q := by
  obtain ⟨h1, h2, h3, h4⟩ := rat_range h
  have hn := itoa_no (n := q.1) (c := 47) (by decide) (by decide)
  by_cases hq : q.2 = 1
  · have e : Go.Lib.cut (bl' (mkB (ratB q))) (bl' (mkB [47])) = (itoa q.1, [], false) := by
      rw [bl_mk, bl_mk]
      unfold ratB
      rw [if_pos hq, cut_one_no hn]
    unfold ratI cutA cutR cutK
    rw [e, if_neg (by simp)]
    refine Prod.ext ?_ hq.symm
    show atoiL (bl' (mkB (itoa q.1))) = q.1
    rw [bl_mk, atoiL_itoa (by omega) (by omega)]
  · have e : Go.Lib.cut (bl' (mkB (ratB q))) (bl' (mkB [47])) = (itoa q.1, itoa q.2, true) := by
      rw [bl_mk, bl_mk]
      unfold ratB
      rw [if_neg hq, List.append_assoc, List.singleton_append, cut_one hn]
    unfold ratI cutA cutR cutK
    rw [e, if_pos rfl]
    refine Prod.ext ?_ ?_
    · show atoiL (bl' (mkB (itoa q.1))) = q.1
      rw [bl_mk, atoiL_itoa (by omega) (by omega)]
    · show atoiL (bl' (mkB (itoa q.2))) = q.2
      rw [bl_mk, atoiL_itoa (by omega) (by omega)]
theorem ratRd_rd (s : ByteArray) : ratRd s = rd ratOk ratB ((0, 0) : Rt) (bl' s) := rfl
theorem ratRd_of (f : ByteArray → Rt) (hf : ∀ q, ratOk q = true → f (mkB (ratB q)) = q) (s : ByteArray) : ratRd s = if ratOk (f s) = true ∧ mkB (ratB (f s)) = s then (f s, true) else ((0, 0), false) := by
  rw [ratRd_rd]
  split
  · rename_i h
    exact rd_yes (fun _ _ => ratB_inj) h.1 (congrArg bl' h.2)
  · rename_i h
    refine rd_no fun q h1 h2 => h ?_
    have e : mkB (ratB q) = s := by rw [h2]; rfl
    have e2 : f s = q := by rw [← e]; exact hf q h1
    rw [e2]; exact ⟨h1, e⟩
theorem ratRd_S (s : ByteArray) : ratRd s = if ratOk (ratS s) = true ∧ mkB (ratB (ratS s)) = s then (ratS s, true) else ((0, 0), false) := ratRd_of ratS (fun _ => ratS_text) s
theorem ratRd_I (s : ByteArray) : ratRd s = if ratOk (ratI s) = true ∧ mkB (ratB (ratI s)) = s then (ratI s, true) else ((0, 0), false) := ratRd_of ratI (fun _ => ratI_text) s
theorem ratRd_text {q : Rt} (h : ratOk q = true) : ratRd (mkB (ratB q)) = (q, true) := (ratRd_rd _).trans <| rd_yes (fun _ _ => ratB_inj) h rfl
theorem sp_cut : ∀ (qs : List Rt) (a v : List UInt8), (∀ x ∈ a, x ≠ 32) → (∀ x ∈ v, x ≠ 32) → cutL 32 (a ++ (catB spB qs ++ 32 :: 61 :: 32 :: v)) = a :: (qs.map ratB ++ [[61], v])
  | [], a, v, ha, hv => by
    show cutL 32 (a ++ 32 :: ([61] ++ 32 :: v)) = _
    rw [cutL_app _ ha, cutL_app _ (by decide), cutL_no hv]; rfl
  | q :: qs, a, v, ha, hv => by
    have e : a ++ (catB spB (q :: qs) ++ 32 :: 61 :: 32 :: v) = a ++ 32 :: (ratB q ++ (catB spB qs ++ 32 :: 61 :: 32 :: v)) := by simp [catB, spB]
    rw [e, cutL_app _ ha, sp_cut qs (ratB q) v (ratB_no (by decide) (by decide) (by decide)) hv]; rfl
theorem sp_cutL : ∀ (qs : List Rt) (a : List UInt8), (∀ x ∈ a, x ≠ 32) → cutL 32 (a ++ catB spB qs) = a :: qs.map ratB
  | [], a, ha => by
    show cutL 32 (a ++ []) = _
    rw [List.append_nil, cutL_no ha]; rfl
  | q :: qs, a, ha => by
    have e : a ++ catB spB (q :: qs) = a ++ 32 :: (ratB q ++ catB spB qs) := by simp [catB, spB]
    rw [e, cutL_app _ ha, sp_cutL qs (ratB q) (ratB_no (by decide) (by decide) (by decide))]; rfl
theorem sp_no {c : UInt8} (hc : dig c = false) (h45 : c ≠ 45) (h47 : c ≠ 47) (h32 : c ≠ 32) : ∀ (qs : List Rt), ∀ x ∈ catB spB qs, x ≠ c
  | [], x, hx => by cases hx
  | q :: qs, x, hx => by
    have e : catB spB (q :: qs) = 32 :: (ratB q ++ catB spB qs) := by simp [catB, spB]
    rw [e] at hx
    simp only [List.mem_cons, List.mem_append] at hx
    rcases hx with rfl | hx | hx
    · exact fun e => h32 e.symm
    · exact ratB_no hc h45 h47 x hx
    · exact sp_no hc h45 h47 h32 qs x hx
theorem rw_eq (r : Rw) : rwB r = bl' r.1 ++ (catB spB r.2.1 ++ 32 :: 61 :: 32 :: ratB r.2.2) := by simp [rwB]
theorem row_cut {r : Rw} (h : rowOk r = true) : cut 32 (mkB (rwB r)) = r.1 :: (r.2.1.map (fun q => mkB (ratB q)) ++ [mkB [61], mkB (ratB r.2.2)]) := by
  have hr := rowOk_iff.1 h
  unfold cut
  rw [bl_mk, rw_eq, sp_cut _ _ _ (name_no hr.1 (by decide)) (ratB_no (by decide) (by decide) (by decide))]
  simp [mk_bl]
theorem row_cut3 {r : Rw} (h : rowOk r = true) : Go.Lib.cut (bl' (mkB (rwB r))) (bl' eqS) = (bl' r.1 ++ catB spB r.2.1, ratB r.2.2, true) := by
  have hr := rowOk_iff.1 h
  have hno : ∀ x ∈ bl' r.1 ++ catB spB r.2.1, x ≠ 61 := fun x hx => by
    rcases List.mem_append.1 hx with hx | hx
    · exact name_no hr.1 (by decide) x hx
    · exact sp_no (by decide) (by decide) (by decide) (by decide) _ x hx
  have e : rwB r = (bl' r.1 ++ catB spB r.2.1) ++ ([32, 61, 32] ++ ratB r.2.2) := by rw [rw_eq]; simp
  unfold eqS
  rw [bl_mk, bl_mk, e, cut_at fun j hj => ?_]
  generalize bl' r.1 ++ catB spB r.2.1 = a at hno hj
  cases ho : Go.Lib.occAt (a ++ ([32, 61, 32] ++ ratB r.2.2)) [32, 61, 32] j with
  | false => rfl
  | true =>
    exfalso
    unfold Go.Lib.occAt at ho
    rw [List.isPrefixOf_iff_prefix] at ho
    obtain ⟨t, ht⟩ := ho
    have h1 : (a ++ ([32, 61, 32] ++ ratB r.2.2))[j + 1]? = some 61 := by
      have := congrArg (fun l => l[1]?) ht
      simp only [List.getElem?_drop] at this
      rw [← this]; rfl
    by_cases hj1 : j + 1 < a.length
    · rw [List.getElem?_append_left hj1, List.getElem?_eq_getElem hj1] at h1
      exact hno _ (List.getElem_mem hj1) (Option.some.inj h1)
    · rw [List.getElem?_append_right (by omega), show j + 1 - a.length = 0 by omega] at h1
      simp at h1
theorem row_left {r : Rw} (h : rowOk r = true) : cutA (mkB (rwB r)) eqS = mkB (bl' r.1 ++ catB spB r.2.1) ∧ cutR (mkB (rwB r)) eqS = mkB (ratB r.2.2) ∧ cutK (mkB (rwB r)) eqS = true := by
  unfold cutA cutR cutK
  rw [row_cut3 h]
  exact ⟨rfl, rfl, rfl⟩
theorem row_words {r : Rw} (h : rowOk r = true) : leftW (mkB (rwB r)) = r.1 :: r.2.1.map (fun q => mkB (ratB q)) := by
  have hr := rowOk_iff.1 h
  unfold leftW
  rw [(row_left h).1]
  unfold cut
  rw [bl_mk, sp_cutL _ _ (name_no hr.1 (by decide))]
  simp [mk_bl]
theorem rats_text {qs : List Rt} (h : ∀ q ∈ qs, ratOk q = true) : ratsOf (qs.map fun q => mkB (ratB q)) = qs := by
  unfold ratsOf
  rw [List.map_map]
  conv => rhs; rw [← List.map_id qs]
  exact List.map_congr_left fun q hq => by show (ratRd (mkB (ratB q))).1 = q; rw [ratRd_text (h q hq)]
theorem scan_row {r : Rw} (h : rowOk r = true) : rowScan (mkB (rwB r)) = r := by
  have hr := rowOk_iff.1 h
  have hl : r.2.1.length ≤ 2 := hr.2.1
  unfold rowScan
  rw [row_cut h]
  have hlen : (r.1 :: (r.2.1.map (fun q => mkB (ratB q)) ++ [mkB [61], mkB (ratB r.2.2)])).length = r.2.1.length + 3 := by simp
  rw [hlen]
  have hm : min (r.2.1.length + 3 - 3) 3 = (r.2.1.map fun q => mkB (ratB q)).length := by rw [List.length_map]; omega
  refine Prod.ext rfl (Prod.ext ?_ ?_)
  · show ratsOf (List.take (min (r.2.1.length + 3 - 3) 3) ((r.2.1.map (fun q => mkB (ratB q)) ++ [mkB [61], mkB (ratB r.2.2)]))) = r.2.1
    rw [hm, List.take_left]
    exact rats_text (List.all_eq_true.1 hr.2.2.2)
  · show (ratRd (pw (r.1 :: (r.2.1.map (fun q => mkB (ratB q)) ++ [mkB [61], mkB (ratB r.2.2)])) (r.2.1.length + 3 - 1))).1 = r.2.2
    have : pw (r.1 :: (r.2.1.map (fun q => mkB (ratB q)) ++ [mkB [61], mkB (ratB r.2.2)])) (r.2.1.length + 3 - 1) = mkB (ratB r.2.2) := by
      unfold pw
      rw [show r.2.1.length + 3 - 1 = (r.2.1.length + 1) + 1 by omega, List.getD_cons_succ]
      simp [List.getD_eq_getElem?_getD, List.getElem?_append_right]
    rw [this, ratRd_text hr.2.2.1]
theorem read_row {r : Rw} (h : rowOk r = true) : readRow (mkB (rwB r)) = (r, true) := by
  have hr := rowOk_iff.1 h
  have hl : r.2.1.length ≤ 2 := hr.2.1
  have e : rowI (mkB (rwB r)) = r := by
    unfold rowI
    rw [row_words h, (row_left h).2.1]
    refine Prod.ext rfl (Prod.ext ?_ ?_)
    · show ratsOf (r.2.1.map fun q => mkB (ratB q)) = r.2.1
      exact rats_text (List.all_eq_true.1 hr.2.2.2)
    · show (ratRd (mkB (ratB r.2.2))).1 = r.2.2
      rw [ratRd_text hr.2.2.1]
  unfold readRow
  rw [if_pos, e, (row_left h).2.1]
  · show (r, (ratRd (mkB (ratB r.2.2))).2 && rowOk r) = _
    rw [ratRd_text hr.2.2.1, h]; rfl
  · rw [row_words h]
    refine ⟨(row_left h).2.2, by simp; omega, ?_⟩
    rw [List.drop_succ_cons, List.drop_zero, List.all_eq_true]
    intro x hx
    obtain ⟨q, hq, rfl⟩ := List.mem_map.1 hx
    rw [ratRd_text (List.all_eq_true.1 hr.2.2.2 q hq)]
theorem row_no10 {r : Rw} (h : rowOk r = true) : ∀ c ∈ rwB r, c ≠ 10 := fun c hc => by
  have hr := rowOk_iff.1 h
  rw [rw_eq] at hc
  simp only [List.mem_append, List.mem_cons] at hc
  rcases hc with hc | hc | rfl | rfl | rfl | hc
  · exact name_no hr.1 (by decide) c hc
  · exact sp_no (by decide) (by decide) (by decide) (by decide) _ c hc
  · decide
  · decide
  · decide
  · exact ratB_no (by decide) (by decide) (by decide) c hc
theorem model_cut : ∀ {s : Mdl}, (∀ x ∈ s, rowOk x = true) → cutL 10 (modelB s) = s.map rwB ++ [[]]
  | [], _ => rfl
  | x :: s, h => by
    have e : modelB (x :: s) = rwB x ++ 10 :: modelB s := by simp [modelB, catB, lineR]
    rw [e, cutL_app _ (row_no10 (h x List.mem_cons_self)), model_cut fun y hy => h y (List.mem_cons_of_mem _ hy)]
    rfl
theorem model_lines {s : Mdl} {t : ByteArray} (h : mRight s = true) (ht : modelB s = bl' t) : (cut 10 t).dropLast = s.map (fun x => mkB (rwB x)) ∧ (cut 10 t).getLastD ByteArray.empty = ByteArray.empty := by
  have e : cut 10 t = s.map (fun x => mkB (rwB x)) ++ [mkB []] := by
    unfold cut
    rw [← ht, model_cut (model_facts h).2, List.map_append, List.map_map]
    rfl
  rw [e]
  exact ⟨List.dropLast_concat, by rw [List.getLastD_eq_getLast?, List.getLast?_concat]; rfl⟩
theorem modelReadS_eq (t : ByteArray) : modelReadS t = rd mRight modelB [] (bl' t) := by
  unfold modelReadS
  split
  · rename_i h
    rw [rd_yes (a := mdlScan t) modelB_inj h.1 (congrArg bl' h.2)]
  · rename_i h
    rw [rd_no fun a h1 h2 => h ?_]
    obtain ⟨e1, e2⟩ := model_lines h1 h2
    have hl := (model_facts h1).1
    have e : mdlScan t = a := by
      unfold mdlScan
      rw [e1, List.take_of_length_le (by rw [List.length_map]; omega), List.map_map]
      conv => rhs; rw [← List.map_id a]
      exact List.map_congr_left fun x hx => scan_row ((model_facts h1).2 x hx)
    rw [e]
    exact ⟨h1, by rw [h2]; rfl⟩
theorem modelReadI_eq (t : ByteArray) : modelReadI t = rd mRight modelB [] (bl' t) := by
  unfold modelReadI
  split
  · rename_i h
    rw [rd_yes (a := rowsIn (linesOf t).1) modelB_inj h.2.2.2.1 (congrArg bl' h.2.2.2.2)]
  · rename_i h
    rw [rd_no fun a h1 h2 => h ?_]
    obtain ⟨e1, e2⟩ := model_lines h1 h2
    have hl := (model_facts h1).1
    have e : (linesOf t).1 = a.map (fun x => mkB (rwB x)) := e1
    have e3 : rowsIn (linesOf t).1 = a := by
      unfold rowsIn
      rw [e, List.map_map]
      conv => rhs; rw [← List.map_id a]
      exact List.map_congr_left fun x hx => by
        show (readRow (mkB (rwB x))).1 = x
        rw [read_row ((model_facts h1).2 x hx)]
    rw [e3, e]
    refine ⟨by unfold linesOf; rw [decide_eq_true_eq]; exact e2, by rw [List.length_map]; exact hl, List.all_eq_true.2 fun l hl => ?_, h1, by rw [h2]; rfl⟩
    obtain ⟨x, hx, rfl⟩ := List.mem_map.1 hl
    rw [read_row ((model_facts h1).2 x hx)]
theorem mRight_cost {s : Mdl} (h : mRight s = true) : costM s ≤ 1048576 := by
  obtain ⟨h1, h2⟩ := model_facts h
  have : sumN costR s ≤ s.length * 4 := sumN_le fun x hx => by
    have hr := rowOk_iff.1 (h2 x hx)
    have q1 := hr.1
    have q2 : x.2.1.length ≤ 2 := hr.2.1
    simp only [nameOk, Bool.and_eq_true, decide_eq_true_eq] at q1
    unfold costR; omega
  unfold costM; omega
end Pl

/-
  What is left to show of each function's code, printed by a program: Mdr. No condition.
-/
set_option maxRecDepth 100000
set_option linter.unusedVariables false
namespace Cg
open Go Go.Proofs
theorem vc_l7Put (L : List Pl.HRw) (r : Pl.HRw) : ((∃ x : Nat,
 x ≤ L.length ∧ (((0 : Nat) = (0 : Nat) ∧ L.length = L.length) ∧ (0 : Nat) = (0 : Nat) ∧ (0 : Int) = (↑x : Int) ∧ True) ∧ IsO (arRH L) (arRH L) ∧ (r.2.1 = r.2.1 ∧ Is (hdQ r.1 r.2.2.1) (hdQ r.1 r.2.2.1) ∧ r.2.2.2.1 = r.2.2.2.1 ∧ r.2.2.2.2 = r.2.2.2.2 ∧ True) ∧ True) ∧ ∀ (x : Nat),
 x ≤ L.length →
 condP (decide ((↑x : Int) < (↑L.length : Int)))
 (((0 : Int) ≤ (↑x : Int) ∧ (↑x : Int) < (↑L.length : Int)) ∧ x < L.length ∧ ∃ x_1 : Pl.Rw × Pl.Rw,
 (((L.getD x Pl.dH).2.1 = x_1.1.1 ∧ Is (hdQ (L.getD x Pl.dH).1 (L.getD x Pl.dH).2.2.1) (rats x_1.1.2.1) ∧ (L.getD x Pl.dH).2.2.2.1 = x_1.1.2.2.1 ∧ (L.getD x Pl.dH).2.2.2.2 = x_1.1.2.2.2 ∧ True) ∧ (r.2.1 = x_1.2.1 ∧ Is (hdQ r.1 r.2.2.1) (rats x_1.2.2.1) ∧ r.2.2.2.1 = x_1.2.2.2.1 ∧ r.2.2.2.2 = x_1.2.2.2.2 ∧ True) ∧ True) ∧ x_1.1.2.1.length ≤ (1048576 : Nat) ∧ condP (Pl.rowLess x_1.1 x_1.2)
 (Exists fun (x' : Nat) =>
 x' ≤ L.length ∧ L.length - x' < L.length - x ∧ (((0 : Nat) = (0 : Nat) ∧ L.length = L.length) ∧ (0 : Nat) = (0 : Nat) ∧ IntKind.i64.wrap ((↑x : Int) + (1 : Int)) = (↑x' : Int) ∧ True) ∧ IsO (arRH L) (arRH L) ∧ (r.2.1 = r.2.1 ∧ Is (hdQ r.1 r.2.2.1) (hdQ r.1 r.2.2.1) ∧ r.2.2.2.1 = r.2.2.2.1 ∧ r.2.2.2.2 = r.2.2.2.2 ∧ True) ∧ True)
 (condP (decide ((↑x : Int) < (↑L.length : Int)))
 (((0 : Int) ≤ (↑x : Int) ∧ (↑x : Int) < (↑L.length : Int)) ∧ x < L.length ∧ condP ((L.getD x Pl.dH).2.1.toList == r.2.1.toList)
 (((0 : Int) ≤ (↑x : Int) ∧ (↑x : Int) < (↑L.length : Int)) ∧ x < L.length ∧ ∃ x_2 : List Pl.Rt × List Pl.Rt,
 (Is (hdQ (L.getD x Pl.dH).1 (L.getD x Pl.dH).2.2.1) (rats x_2.1) ∧ Is (hdQ r.1 r.2.2.1) (rats x_2.2) ∧ True) ∧ Sz x_2.1 ∧ condP (decide (x_2.1 = x_2.2))
 (∃ y : List Nat,
 HPut L.length y ∧ (((0 : Nat) = (0 : Nat) ∧ L.length = y.length) ∧ True) ∧ True ∧ IsO (arRH L) (arRH (List.map (fun (i : Nat) => (L ++ [r]).getD i Pl.dH) y)) ∧ True)
 (((0 : Int) ≤ (↑x : Int) ∧ (↑x : Int) ≤ (↑L.length : Int)) ∧ x + (L.length - x) ≤ L.length ∧ ((0 : Nat) = (0 : Nat) ∨ (0 : Nat) < L.length - x) ∧ ((0 : Nat) + (L.length - x)) * (56 : Nat) ≤ (70368744177664 : Nat) ∧ ((0 : Int) ≤ (↑x : Int) ∧ (↑x : Int) ≤ (↑L.length : Int)) ∧ (0 : Nat) + x ≤ L.length ∧ ((0 : Nat) = (0 : Nat) ∨ (0 : Nat) < x) ∧ ((0 : Nat) + x) * (56 : Nat) ≤ (70368744177664 : Nat) ∧ (0 : Nat) + ((0 : Nat) + x) ≤ (0 : Nat) + x ∧ ((0 : Nat) + x + (1 : Nat)) * (56 : Nat) ≤ (70368744177664 : Nat) ∧ (0 : Nat) + ((0 : Nat) + (L.length - x)) ≤ (0 : Nat) + (L.length - x) ∧ (0 : Nat) + ((0 : Nat) + x + (1 : Nat)) ≤ (0 : Nat) + x + (1 : Nat) ∧ ((0 : Nat) + x + (1 : Nat) + ((0 : Nat) + (L.length - x))) * (56 : Nat) ≤ (70368744177664 : Nat) ∧ ∃ y : List Nat,
 HPut L.length y ∧ (((0 : Nat) = (0 : Nat) ∧ (0 : Nat) + x + (1 : Nat) + ((0 : Nat) + (L.length - x)) = y.length) ∧ True) ∧ True ∧ IsO
 (AObj.arr ((0 : Nat) + x + (1 : Nat) + ((0 : Nat) + (L.length - x))) (4 : Nat)
 (joinC ((0 : Nat) + x + (1 : Nat))
 (fun (i j : Nat) =>
 joinC ((0 : Nat) + x) (cRH L)
 (rowsCell [[st r.2.1, hdQ r.1 r.2.2.1, i64 r.2.2.2.1, i64 r.2.2.2.2]])
 i j)
 fun (i j : Nat) => joinC (0 : Nat) (rowsCell []) (fun (i j : Nat) => eRH (L.getD (i + x) Pl.dH) j) i j))
 (arRH (List.map (fun (i : Nat) => (L ++ [r]).getD i Pl.dH) y)) ∧ True))
 (((0 : Int) ≤ (↑x : Int) ∧ (↑x : Int) ≤ (↑L.length : Int)) ∧ x + (L.length - x) ≤ L.length ∧ ((0 : Nat) = (0 : Nat) ∨ (0 : Nat) < L.length - x) ∧ ((0 : Nat) + (L.length - x)) * (56 : Nat) ≤ (70368744177664 : Nat) ∧ ((0 : Int) ≤ (↑x : Int) ∧ (↑x : Int) ≤ (↑L.length : Int)) ∧ (0 : Nat) + x ≤ L.length ∧ ((0 : Nat) = (0 : Nat) ∨ (0 : Nat) < x) ∧ ((0 : Nat) + x) * (56 : Nat) ≤ (70368744177664 : Nat) ∧ (0 : Nat) + ((0 : Nat) + x) ≤ (0 : Nat) + x ∧ ((0 : Nat) + x + (1 : Nat)) * (56 : Nat) ≤ (70368744177664 : Nat) ∧ (0 : Nat) + ((0 : Nat) + (L.length - x)) ≤ (0 : Nat) + (L.length - x) ∧ (0 : Nat) + ((0 : Nat) + x + (1 : Nat)) ≤ (0 : Nat) + x + (1 : Nat) ∧ ((0 : Nat) + x + (1 : Nat) + ((0 : Nat) + (L.length - x))) * (56 : Nat) ≤ (70368744177664 : Nat) ∧ ∃ y : List Nat,
 HPut L.length y ∧ (((0 : Nat) = (0 : Nat) ∧ (0 : Nat) + x + (1 : Nat) + ((0 : Nat) + (L.length - x)) = y.length) ∧ True) ∧ True ∧ IsO
 (AObj.arr ((0 : Nat) + x + (1 : Nat) + ((0 : Nat) + (L.length - x))) (4 : Nat)
 (joinC ((0 : Nat) + x + (1 : Nat))
 (fun (i j : Nat) =>
 joinC ((0 : Nat) + x) (cRH L)
 (rowsCell [[st r.2.1, hdQ r.1 r.2.2.1, i64 r.2.2.2.1, i64 r.2.2.2.2]]) i j)
 fun (i j : Nat) => joinC (0 : Nat) (rowsCell []) (fun (i j : Nat) => eRH (L.getD (i + x) Pl.dH) j) i j))
 (arRH (List.map (fun (i : Nat) => (L ++ [r]).getD i Pl.dH) y)) ∧ True))
 (((0 : Int) ≤ (↑x : Int) ∧ (↑x : Int) ≤ (↑L.length : Int)) ∧ x + (L.length - x) ≤ L.length ∧ ((0 : Nat) = (0 : Nat) ∨ (0 : Nat) < L.length - x) ∧ ((0 : Nat) + (L.length - x)) * (56 : Nat) ≤ (70368744177664 : Nat) ∧ ((0 : Int) ≤ (↑x : Int) ∧ (↑x : Int) ≤ (↑L.length : Int)) ∧ (0 : Nat) + x ≤ L.length ∧ ((0 : Nat) = (0 : Nat) ∨ (0 : Nat) < x) ∧ ((0 : Nat) + x) * (56 : Nat) ≤ (70368744177664 : Nat) ∧ (0 : Nat) + ((0 : Nat) + x) ≤ (0 : Nat) + x ∧ ((0 : Nat) + x + (1 : Nat)) * (56 : Nat) ≤ (70368744177664 : Nat) ∧ (0 : Nat) + ((0 : Nat) + (L.length - x)) ≤ (0 : Nat) + (L.length - x) ∧ (0 : Nat) + ((0 : Nat) + x + (1 : Nat)) ≤ (0 : Nat) + x + (1 : Nat) ∧ ((0 : Nat) + x + (1 : Nat) + ((0 : Nat) + (L.length - x))) * (56 : Nat) ≤ (70368744177664 : Nat) ∧ ∃ y : List Nat,
 HPut L.length y ∧ (((0 : Nat) = (0 : Nat) ∧ (0 : Nat) + x + (1 : Nat) + ((0 : Nat) + (L.length - x)) = y.length) ∧ True) ∧ True ∧ IsO
 (AObj.arr ((0 : Nat) + x + (1 : Nat) + ((0 : Nat) + (L.length - x))) (4 : Nat)
 (joinC ((0 : Nat) + x + (1 : Nat))
 (fun (i j : Nat) =>
 joinC ((0 : Nat) + x) (cRH L)
 (rowsCell [[st r.2.1, hdQ r.1 r.2.2.1, i64 r.2.2.2.1, i64 r.2.2.2.2]]) i j)
 fun (i j : Nat) => joinC (0 : Nat) (rowsCell []) (fun (i j : Nat) => eRH (L.getD (i + x) Pl.dH) j) i j))
 (arRH (List.map (fun (i : Nat) => (L ++ [r]).getD i Pl.dH) y)) ∧ True)))
 (condP (decide ((↑x : Int) < (↑L.length : Int)))
 (((0 : Int) ≤ (↑x : Int) ∧ (↑x : Int) < (↑L.length : Int)) ∧ x < L.length ∧ condP ((L.getD x Pl.dH).2.1.toList == r.2.1.toList)
 (((0 : Int) ≤ (↑x : Int) ∧ (↑x : Int) < (↑L.length : Int)) ∧ x < L.length ∧ ∃ x_1 : List Pl.Rt × List Pl.Rt,
 (Is (hdQ (L.getD x Pl.dH).1 (L.getD x Pl.dH).2.2.1) (rats x_1.1) ∧ Is (hdQ r.1 r.2.2.1) (rats x_1.2) ∧ True) ∧ Sz x_1.1 ∧ condP (decide (x_1.1 = x_1.2))
 (∃ y : List Nat,
 HPut L.length y ∧ (((0 : Nat) = (0 : Nat) ∧ L.length = y.length) ∧ True) ∧ True ∧ IsO (arRH L) (arRH (List.map (fun (i : Nat) => (L ++ [r]).getD i Pl.dH) y)) ∧ True)
 (((0 : Int) ≤ (↑x : Int) ∧ (↑x : Int) ≤ (↑L.length : Int)) ∧ x + (L.length - x) ≤ L.length ∧ ((0 : Nat) = (0 : Nat) ∨ (0 : Nat) < L.length - x) ∧ ((0 : Nat) + (L.length - x)) * (56 : Nat) ≤ (70368744177664 : Nat) ∧ ((0 : Int) ≤ (↑x : Int) ∧ (↑x : Int) ≤ (↑L.length : Int)) ∧ (0 : Nat) + x ≤ L.length ∧ ((0 : Nat) = (0 : Nat) ∨ (0 : Nat) < x) ∧ ((0 : Nat) + x) * (56 : Nat) ≤ (70368744177664 : Nat) ∧ (0 : Nat) + ((0 : Nat) + x) ≤ (0 : Nat) + x ∧ ((0 : Nat) + x + (1 : Nat)) * (56 : Nat) ≤ (70368744177664 : Nat) ∧ (0 : Nat) + ((0 : Nat) + (L.length - x)) ≤ (0 : Nat) + (L.length - x) ∧ (0 : Nat) + ((0 : Nat) + x + (1 : Nat)) ≤ (0 : Nat) + x + (1 : Nat) ∧ ((0 : Nat) + x + (1 : Nat) + ((0 : Nat) + (L.length - x))) * (56 : Nat) ≤ (70368744177664 : Nat) ∧ ∃ y : List Nat,
 HPut L.length y ∧ (((0 : Nat) = (0 : Nat) ∧ (0 : Nat) + x + (1 : Nat) + ((0 : Nat) + (L.length - x)) = y.length) ∧ True) ∧ True ∧ IsO
 (AObj.arr ((0 : Nat) + x + (1 : Nat) + ((0 : Nat) + (L.length - x))) (4 : Nat)
 (joinC ((0 : Nat) + x + (1 : Nat))
 (fun (i j : Nat) =>
 joinC ((0 : Nat) + x) (cRH L)
 (rowsCell [[st r.2.1, hdQ r.1 r.2.2.1, i64 r.2.2.2.1, i64 r.2.2.2.2]]) i j)
 fun (i j : Nat) => joinC (0 : Nat) (rowsCell []) (fun (i j : Nat) => eRH (L.getD (i + x) Pl.dH) j) i j))
 (arRH (List.map (fun (i : Nat) => (L ++ [r]).getD i Pl.dH) y)) ∧ True))
 (((0 : Int) ≤ (↑x : Int) ∧ (↑x : Int) ≤ (↑L.length : Int)) ∧ x + (L.length - x) ≤ L.length ∧ ((0 : Nat) = (0 : Nat) ∨ (0 : Nat) < L.length - x) ∧ ((0 : Nat) + (L.length - x)) * (56 : Nat) ≤ (70368744177664 : Nat) ∧ ((0 : Int) ≤ (↑x : Int) ∧ (↑x : Int) ≤ (↑L.length : Int)) ∧ (0 : Nat) + x ≤ L.length ∧ ((0 : Nat) = (0 : Nat) ∨ (0 : Nat) < x) ∧ ((0 : Nat) + x) * (56 : Nat) ≤ (70368744177664 : Nat) ∧ (0 : Nat) + ((0 : Nat) + x) ≤ (0 : Nat) + x ∧ ((0 : Nat) + x + (1 : Nat)) * (56 : Nat) ≤ (70368744177664 : Nat) ∧ (0 : Nat) + ((0 : Nat) + (L.length - x)) ≤ (0 : Nat) + (L.length - x) ∧ (0 : Nat) + ((0 : Nat) + x + (1 : Nat)) ≤ (0 : Nat) + x + (1 : Nat) ∧ ((0 : Nat) + x + (1 : Nat) + ((0 : Nat) + (L.length - x))) * (56 : Nat) ≤ (70368744177664 : Nat) ∧ ∃ y : List Nat,
 HPut L.length y ∧ (((0 : Nat) = (0 : Nat) ∧ (0 : Nat) + x + (1 : Nat) + ((0 : Nat) + (L.length - x)) = y.length) ∧ True) ∧ True ∧ IsO
 (AObj.arr ((0 : Nat) + x + (1 : Nat) + ((0 : Nat) + (L.length - x))) (4 : Nat)
 (joinC ((0 : Nat) + x + (1 : Nat))
 (fun (i j : Nat) =>
 joinC ((0 : Nat) + x) (cRH L)
 (rowsCell [[st r.2.1, hdQ r.1 r.2.2.1, i64 r.2.2.2.1, i64 r.2.2.2.2]]) i j)
 fun (i j : Nat) => joinC (0 : Nat) (rowsCell []) (fun (i j : Nat) => eRH (L.getD (i + x) Pl.dH) j) i j))
 (arRH (List.map (fun (i : Nat) => (L ++ [r]).getD i Pl.dH) y)) ∧ True))
 (((0 : Int) ≤ (↑x : Int) ∧ (↑x : Int) ≤ (↑L.length : Int)) ∧ x + (L.length - x) ≤ L.length ∧ ((0 : Nat) = (0 : Nat) ∨ (0 : Nat) < L.length - x) ∧ ((0 : Nat) + (L.length - x)) * (56 : Nat) ≤ (70368744177664 : Nat) ∧ ((0 : Int) ≤ (↑x : Int) ∧ (↑x : Int) ≤ (↑L.length : Int)) ∧ (0 : Nat) + x ≤ L.length ∧ ((0 : Nat) = (0 : Nat) ∨ (0 : Nat) < x) ∧ ((0 : Nat) + x) * (56 : Nat) ≤ (70368744177664 : Nat) ∧ (0 : Nat) + ((0 : Nat) + x) ≤ (0 : Nat) + x ∧ ((0 : Nat) + x + (1 : Nat)) * (56 : Nat) ≤ (70368744177664 : Nat) ∧ (0 : Nat) + ((0 : Nat) + (L.length - x)) ≤ (0 : Nat) + (L.length - x) ∧ (0 : Nat) + ((0 : Nat) + x + (1 : Nat)) ≤ (0 : Nat) + x + (1 : Nat) ∧ ((0 : Nat) + x + (1 : Nat) + ((0 : Nat) + (L.length - x))) * (56 : Nat) ≤ (70368744177664 : Nat) ∧ ∃ y : List Nat,
 HPut L.length y ∧ (((0 : Nat) = (0 : Nat) ∧ (0 : Nat) + x + (1 : Nat) + ((0 : Nat) + (L.length - x)) = y.length) ∧ True) ∧ True ∧ IsO
 (AObj.arr ((0 : Nat) + x + (1 : Nat) + ((0 : Nat) + (L.length - x))) (4 : Nat)
 (joinC ((0 : Nat) + x + (1 : Nat))
 (fun (i j : Nat) =>
 joinC ((0 : Nat) + x) (cRH L)
 (rowsCell [[st r.2.1, hdQ r.1 r.2.2.1, i64 r.2.2.2.1, i64 r.2.2.2.2]]) i j)
 fun (i j : Nat) => joinC (0 : Nat) (rowsCell []) (fun (i j : Nat) => eRH (L.getD (i + x) Pl.dH) j) i j))
 (arRH (List.map (fun (i : Nat) => (L ++ [r]).getD i Pl.dH) y)) ∧ True))) = Goal Tryz.prog [K_l7Less, K_l7Rats] (A_l7Put L r) K_l7Put.1 K_l7Put.2 ((L, r)) := by kernel_rfl

end Cg

/-
  A row that owns its values is put among rows that own theirs: from what the code does with the slices themselves. No condition.
-/
set_option linter.unusedVariables false
set_option linter.unusedSimpArgs false
namespace Cg
open Go Pl
theorem RelN_keep {S S' : Nat → Prop} {w w' : World} {q : Option Inn} {n e : Nat} {c : Nat → Nat → AV} {y : Value} (h : RelN S w q n e c y) (hc : ∀ i, i < n → ∀ j, j < e → ∃ v, c i j = .v v)
    (hb : ∀ v, q = some v → w'.heap[v.b]? = w.heap[v.b]?) : RelN S' w' q n e c y := by
  cases q with
  | none => exact h
  | some q =>
    obtain ⟨h1, h2, h3, C, T, h4, h5, h6⟩ := h
    refine ⟨h1, h2, h3, C, T, by rw [hb q rfl]; exact h4, h5, fun i hi j hj => ?_⟩
    obtain ⟨x, h7, h8⟩ := h6 i hi j hj
    obtain ⟨v, hv⟩ := hc i hi j hj
    rw [hv] at h8 ⊢
    exact ⟨x, h7, h8⟩
theorem cQ_plain (l : List Rt) : ∀ i, i < l.length → ∀ j, j < 2 → ∃ v, cQ l i j = .v v := fun i _ j hj => by
  match j, hj with
  | 0, _ => exact ⟨_, rfl⟩
  | 1, _ => exact ⟨_, rfl⟩
/-- An inner slice whose block stays, as one known by its header. -/
theorem RelN_hdr {S S' : Nat → Prop} {w : World} {q : Option Inn} {l : List Rt} {y : Value} (h : RelN S w q l.length 2 (cQ l) y) (hS : ∀ v, q = some v → S' v.b) : RelI S' w (hdQ y l) y := by
  refine ⟨rfl, ?_⟩
  cases q with
  | none =>
    obtain ⟨h1, a, rfl⟩ := h
    exact ⟨a, 0, by rw [h1], by omega, .inl h1⟩
  | some q =>
    obtain ⟨h1, h2, rfl, C, T, h4, h5, h6⟩ := h
    refine ⟨_, q.cap, rfl, by omega, .inr ⟨q.b, q.off, rfl, hS q rfl, C, T, _, h4, fun i hi j hj => ?_⟩⟩
    obtain ⟨x, h7, h8⟩ := h6 i hi j hj
    obtain ⟨v, hv⟩ := cQ_plain l i hi j hj
    rw [hv] at h8 ⊢
    exact ⟨x, h7, h8⟩

section
variable {S : Nat → Prop} {μ : Nat → OI} {w : World} {L : List Rw} {r : Rw}

/-- What is known of the rows' slices: headers, and what they own. -/
structure Hds (S : Nat → Prop) (μ : Nat → OI) (w : World) (L : List Rw) (r : Rw) (hd : Nat → Value) (iq : Nat → Option Inn) : Prop where
  rel : ∀ i, i ≤ L.length → RelN S w (iq i) ((L ++ [r]).getD i dR).2.1.length 2 (cQ ((L ++ [r]).getD i dR).2.1) (hd i)
  own : ∀ i v, iq i = some v → i ≤ L.length ∧ Blk μ [xrR L, arQ r.2.1] v.b ∧ (μ 0).b ≠ some v.b
  dis : ∀ i v i' v', iq i = some v → iq i' = some v' → v'.b = v.b → i' = i

/-- The one slice of an own row. -/
def innOf (q : OI) (n : Nat) : Option Inn := match q.b with
  | none => none
  | some b => if q.cap = 0 then none else some ⟨b, q.base, q.cap, n⟩
theorem innOf_rel {o : Nat} {H : List AObj} {l : List Rt} {a : Value} (hok : HOK S μ w H) (ho : H[o]? = some (arQ l)) (ha : Rel S μ w (.osl o 0 l.length) a) : RelN S w (innOf (μ o) l.length) l.length 2 (cQ l) a := by
  obtain ⟨he, hob⟩ := hok.obj o _ ho
  unfold Rel at ha
  unfold innOf
  cases hb : (μ o).b with
  | none =>
    rw [hb] at ha
    obtain ⟨_, h1, a', rfl⟩ := ha
    exact ⟨h1, a', rfl⟩
  | some b =>
    rw [hb] at ha hob
    obtain ⟨h1, a', rfl, h2⟩ := ha
    obtain ⟨h3, C, T, h4, h5, h6⟩ := hob
    by_cases hc : (μ o).cap = 0
    · simp only [hc, if_true]
      exact ⟨by omega, some a', by rw [show l.length = 0 by omega]⟩
    · simp only [hc, if_false]
      have := h2 (by omega)
      subst this
      refine ⟨rfl, h3, by simp, C, T, h4, by rw [← he]; rw [he]; exact h5, fun i hi j hj => ?_⟩
      exact h6 i hi j hj

theorem getD_left {α : Type} {l : List α} {x : α} {i : Nat} (d : α) (h : i < l.length) : (l ++ [x]).getD i d = l.getD i d := by
  simp only [List.getD_eq_getElem?_getD, List.getElem?_append_left h]
theorem getD_last {α : Type} {l : List α} {x : α} (d : α) : (l ++ [x]).getD l.length d = x := by simp

theorem hds_of {a : Value} (hok : HOK S μ w [xrR L, arQ r.2.1]) (ha : Rel S μ w (.osl 1 0 r.2.1.length) a) : ∃ hd iq, Hds S μ w L r hd iq ∧ hd L.length = a ∧
    (∀ b, (μ 0).b = some b → ∃ C T, w.heap[b]? = some (.cells C T (0, 0)) ∧ ∀ i, i < L.length → C[(μ 0).base + i * 4 + 1]? = some (hd i)) := by
  have h0 : ([xrR L, arQ r.2.1] : List AObj)[0]? = some (xrR L) := rfl
  have h1 : ([xrR L, arQ r.2.1] : List AObj)[1]? = some (arQ r.2.1) := rfl
  obtain ⟨he, hinn, hob⟩ := hok.obj 0 _ h0
  have hla := innOf_rel hok h1 ha
  have own1 : ∀ v, innOf (μ 1) r.2.1.length = some v → (μ 1).b = some v.b := fun v hv => by
    unfold innOf at hv
    cases hb : (μ 1).b with
    | none => rw [hb] at hv; cases hv
    | some b =>
      rw [hb] at hv
      simp only at hv
      split at hv
      · cases hv
      · cases hv; rfl
  have key : ∀ hd0 : Nat → Value, (∀ i, i < L.length → RelN S w ((μ 0).inn i 1) (L.getD i dR).2.1.length 2 (cQ (L.getD i dR).2.1) (hd0 i)) →
      Hds S μ w L r (fun i => if i < L.length then hd0 i else a) (fun i => if i < L.length then (μ 0).inn i 1 else if i = L.length then innOf (μ 1) r.2.1.length else none) := fun hd0 hrel => {
    rel := fun i hi => by
      by_cases h : i < L.length
      · simp only [if_pos h, getD_left dR h]
        exact hrel i h
      · have hi' : i = L.length := by omega
        subst hi'
        simp only [if_neg h, if_true, getD_last dR]
        exact hla
    own := fun i v hv => by
      by_cases h : i < L.length
      · simp only [if_pos h] at hv
        exact ⟨by omega, ⟨0, _, h0, .inr ⟨i, 1, v, hv, rfl⟩⟩, (hinn i 1 v hv).1⟩
      · simp only [if_neg h] at hv
        split at hv
        · rename_i hi
          have hb := own1 v hv
          exact ⟨by omega, ⟨1, _, h1, hb⟩, fun h' => hok.seps 0 1 v.b (by decide) ⟨_, h0, .inl h'⟩ ⟨_, h1, hb⟩⟩
        · cases hv
    dis := fun i v i' v' hv hv' hb => by
      by_cases h : i < L.length
      · by_cases h' : i' < L.length
        · simp only [if_pos h] at hv
          simp only [if_pos h'] at hv'
          exact ((hinn i 1 v hv).2.2.2 i' 1 v' hv' hb).1
        · simp only [if_pos h] at hv
          simp only [if_neg h'] at hv'
          split at hv'
          · exact absurd ⟨_, h1, own1 v' hv'⟩ (hok.seps 0 1 v'.b (by decide) ⟨_, h0, .inr ⟨i, 1, v, hv, hb.symm⟩⟩)
          · cases hv'
      · by_cases h' : i' < L.length
        · simp only [if_neg h] at hv
          simp only [if_pos h'] at hv'
          split at hv
          · exact absurd ⟨_, h1, own1 v hv⟩ (hok.seps 0 1 v.b (by decide) ⟨_, h0, .inr ⟨i', 1, v', hv', hb⟩⟩)
          · cases hv
        · simp only [if_neg h] at hv
          simp only [if_neg h'] at hv'
          split at hv
          · split at hv'
            · omega
            · cases hv'
          · cases hv }
  cases hb0 : (μ 0).b with
  | none =>
    rw [hb0] at hob
    have hn : L.length = 0 := hob
    exact ⟨_, _, key (fun _ => a) fun i hi => by omega, by simp, fun b hb => by cases hb⟩
  | some b0 =>
    rw [hb0] at hob
    obtain ⟨h3, C, T, h4, h5, h6⟩ := hob
    refine ⟨_, _, key (fun i => C.getD ((μ 0).base + i * 4 + 1) undef) fun i hi => ?_, by simp, fun b hb => ?_⟩
    · obtain ⟨x, h7, h8⟩ := h6 i hi 1 (by decide)
      have e : C.getD ((μ 0).base + i * 4 + 1) undef = x := by rw [Array.getD_eq_getD_getElem?, h7]; rfl
      rw [e]
      exact h8
    · cases hb
      refine ⟨C, T, h4, fun i hi => ?_⟩
      obtain ⟨x, h7, h8⟩ := h6 i hi 1 (by decide)
      have e : C.getD ((μ 0).base + i * 4 + 1) undef = x := by rw [Array.getD_eq_getD_getElem?, h7]; rfl
      simp only [if_pos hi, e]
      exact h7

theorem nodup_inj {l : List Nat} (h : l.Nodup) {i j : Nat} (hi : i < l.length) (hj : j < l.length) (e : l[i] = l[j]) : i = j := by
  rcases Nat.lt_trichotomy i j with h1 | h1 | h1
  · exact absurd e (List.pairwise_iff_getElem.1 h i j hi hj h1)
  · exact h1
  · exact absurd e.symm (List.pairwise_iff_getElem.1 h j i hj hi h1)
/-- What stays while the rows are moved: what stays anyhow, and what they own. -/
def SOwn (S : Nat → Prop) (iq : Nat → Option Inn) : Nat → Prop := fun b => S b ∨ ∃ i v, iq i = some v ∧ v.b = b
def hrows (hd : Nat → Value) (L : List Rw) : List HRw := (List.range L.length).map fun i => (hd i, L.getD i dR)
@[simp] theorem hrows_len (hd : Nat → Value) (L : List Rw) : (hrows hd L).length = L.length := by unfold hrows; simp
theorem hrows_get {hd : Nat → Value} {L : List Rw} {i : Nat} (h : i < L.length) : (hrows hd L).getD i dH = (hd i, L.getD i dR) := by unfold hrows; simp [h]

theorem open_hok {hd : Nat → Value} {iq : Nat → Option Inn} (hok : HOK S μ w [xrR L, arQ r.2.1]) (hh : Hds S μ w L r hd iq)
    (hc : ∀ b, (μ 0).b = some b → ∃ C T, w.heap[b]? = some (.cells C T (0, 0)) ∧ ∀ i, i < L.length → C[(μ 0).base + i * 4 + 1]? = some (hd i)) : HOK (SOwn S iq) μ w [arRH (hrows hd L)] := by
  have h0 : ([xrR L, arQ r.2.1] : List AObj)[0]? = some (xrR L) := rfl
  obtain ⟨he, hinn, hob⟩ := hok.obj 0 _ h0
  have only : ∀ o b, Own μ [arRH (hrows hd L)] o b → o = 0 ∧ (μ 0).b = some b := fun o b ⟨x, hx, hb⟩ => by
    cases o with
    | zero => cases hx; exact ⟨rfl, hb⟩
    | succ o => simp at hx
  refine { obj := fun o x hx => ?_, ids := fun o cs hx => ?_, seps := fun o o' b hne h1 h2 => ?_, owns := fun o b h => ?_, inS := fun b hb => ?_, gl := hok.gl.mono (fun _ h => .inl h) fun _ _ => rfl }
  · cases o with
    | succ o => simp at hx
    | zero =>
      cases hx
      refine ⟨he, ?_⟩
      cases hb : (μ 0).b with
      | none =>
        rw [hb] at hob
        show (hrows hd L).length = 0
        rw [hrows_len]; exact hob
      | some b =>
        rw [hb] at hob
        obtain ⟨h3, C, T, h4, h5, h6⟩ := hob
        obtain ⟨C', T', h4', h7⟩ := hc b hb
        rw [h4] at h4'
        cases h4'
        refine ⟨by rw [hrows_len]; exact h3, C, T, h4, h5, fun i hi j hj => ?_⟩
        rw [hrows_len] at hi
        obtain ⟨x, h8, h9⟩ := h6 i hi j hj
        refine ⟨x, h8, ?_⟩
        show RelI (SOwn S iq) w (eRH ((hrows hd L).getD i dH) j) x
        rw [hrows_get hi]
        match j, hj with
        | 0, _ => exact h9
        | 1, _ =>
          have e := h7 i hi
          rw [h8] at e
          cases e
          have hr := hh.rel i (by omega)
          rw [getD_left dR hi] at hr
          exact RelN_hdr hr fun v hv => .inr ⟨i, v, hv, rfl⟩
        | 2, _ => exact h9
        | 3, _ => exact h9
  · cases o with
    | succ o => simp at hx
    | zero => cases hx
  · exact hne ((only o b h1).1.trans (only o' b h2).1.symm)
  · obtain ⟨rfl, hb⟩ := only o b h
    obtain ⟨h1, h2⟩ := hok.owns 0 b ⟨_, h0, .inl hb⟩
    refine ⟨fun hs => ?_, h2⟩
    rcases hs with hs | ⟨i, v, hv, rfl⟩
    · exact h1 hs
    · exact (hh.own i v hv).2.2 hb
  · rcases hb with hb | ⟨i, v, hv, rfl⟩
    · exact hok.inS b hb
    · obtain ⟨o, h⟩ := (hh.own i v hv).2.1
      exact (hok.owns o _ h).2

theorem close_evo {hd : Nat → Value} {iq : Nat → Option Inn} {S' : Nat → Prop} {μ' : Nat → OI} {w' : World} {idx : List Nat} {v : Value} (hok : HOK S μ w [xrR L, arQ r.2.1]) (hh : Hds S μ w L r hd iq)
    (hnd : idx.Nodup) (hle : ∀ i ∈ idx, i ≤ L.length)
    (hev : Evo (SOwn S iq) μ [arRH (hrows hd L)] w S' μ' [.dead, arRH (idx.map fun i => (hrows hd L ++ [(hd L.length, r)]).getD i dH)] w') (hv : Rel S' μ' w' (.osl 1 0 idx.length) v) :
    ∃ S'' μ'', Evo S μ [xrR L, arQ r.2.1] w S'' μ'' [.dead, .dead, xrR (idx.map fun i => (L ++ [r]).getD i dR)] w' ∧ Rel S'' μ'' w' (.osl 2 0 idx.length) v := by
  have h0 : ([xrR L, arQ r.2.1] : List AObj)[0]? = some (xrR L) := rfl
  generalize hidx : (idx.map fun i => (hrows hd L ++ [(hd L.length, r)]).getD i dH) = Y at hev
  have hYl : Y.length = idx.length := by rw [← hidx]; simp
  have hYg : ∀ i, i < idx.length → Y.getD i dH = (hd (idx.getD i 0), (L ++ [r]).getD (idx.getD i 0) dR) := fun i hi => by
    have hm : idx.getD i 0 ≤ L.length := hle _ (getD_mem 0 hi)
    rw [← hidx]
    have e : (idx.map fun i => (hrows hd L ++ [(hd L.length, r)]).getD i dH).getD i dH = (hrows hd L ++ [(hd L.length, r)]).getD (idx.getD i 0) dH := by simp [hi]
    rw [e]
    by_cases h : idx.getD i 0 < L.length
    · rw [getD_left dH (by rw [hrows_len]; exact h), hrows_get h, getD_left dR h]
    · have e2 : idx.getD i 0 = L.length := by omega
      rw [e2, getD_last dR]
      have := getD_last (l := hrows hd L) (x := (hd L.length, r)) dH
      rw [hrows_len] at this
      exact this
  have hA : ([AObj.dead, arRH Y] : List AObj)[1]? = some (arRH Y) := rfl
  have hlt : ∀ i u, iq i = some u → u.b < w.heap.size ∧ ¬ S u.b := fun i u hu => by
    obtain ⟨o, h⟩ := (hh.own i u hu).2.1
    exact ⟨(hok.owns o _ h).2, (hok.owns o _ h).1⟩
  have hkeep : ∀ i u, iq i = some u → w'.heap[u.b]? = w.heap[u.b]? := fun i u hu => hev.kept.block u.b (hlt i u hu).1 fun ⟨o, x, hx, hb⟩ => by
    cases o with
    | zero => cases hx; exact (hh.own i u hu).2.2 hb
    | succ o => simp at hx
  have hb0 : ∀ b, Blk μ [arRH (hrows hd L)] b → (μ 0).b = some b := fun b ⟨o, x, hx, hb⟩ => by
    cases o with
    | zero => cases hx; exact hb
    | succ o => simp at hx
  obtain ⟨he, hob⟩ := hev.hok.obj 1 _ hA
  let inn' : Nat → Nat → Option Inn := fun i j => if j = 1 ∧ i < idx.length then iq (idx.getD i 0) else none
  let μ'' : Nat → OI := fun o => if o < 2 then μ o else { μ' 1 with inn := inn' }
  have m2 : μ'' 2 = { μ' 1 with inn := inn' } := rfl
  have hinn' : ∀ i j u, inn' i j = some u → j = 1 ∧ i < idx.length ∧ iq (idx.getD i 0) = some u := fun i j u hu => by
    by_cases h : j = 1 ∧ i < idx.length
    · have : inn' i j = iq (idx.getD i 0) := if_pos h
      rw [this] at hu
      exact ⟨h.1, h.2, hu⟩
    · have : inn' i j = none := if_neg h
      rw [this] at hu; cases hu
  have outer : ∀ b, (μ' 1).b = some b → (w.heap.size ≤ b ∨ (μ 0).b = some b) ∧ ¬ S b ∧ b < w'.heap.size ∧ ¬ S' b := fun b hb => by
    have ho : Own μ' [AObj.dead, arRH Y] 1 b := ⟨_, hA, hb⟩
    have h1 := hev.mine 1 b ho
    have h2 := hev.hok.owns 1 b ho
    refine ⟨h1.imp id (hb0 b), fun hs => h2.1 (hev.sub b (.inl hs)), h2.2, h2.1⟩
  have own2 : ∀ o b, Own μ'' [AObj.dead, .dead, xrR (idx.map fun i => (L ++ [r]).getD i dR)] o b → o = 2 ∧ ((μ' 1).b = some b ∨ ∃ i j u, inn' i j = some u ∧ u.b = b) := fun o b ⟨x, hx, hb⟩ => by
    match o, hx with
    | 0, hx => cases hx; exact hb.elim
    | 1, hx => cases hx; exact hb.elim
    | 2, hx => cases hx; exact ⟨rfl, hb⟩
    | o + 3, hx => simp at hx
  refine ⟨S, μ'', { sub := fun _ h => h, new := fun _ h => .inl h, mu := fun o ho => if_pos ho, len := by simp, kept := ⟨hev.kept.os, hev.kept.tape, hev.kept.output, hev.kept.size, fun b hb hn => hev.kept.block b hb fun h => hn ⟨0, _, h0, .inl (hb0 b h)⟩⟩, mine := fun o b ho => ?_, hok := ?_ }, ?_⟩
  · obtain ⟨rfl, h⟩ := own2 o b ho
    rcases h with h | ⟨i, j, u, hu, rfl⟩
    · rcases (outer b h).1 with h1 | h1
      · exact .inl h1
      · exact .inr ⟨0, _, h0, .inl h1⟩
    · obtain ⟨_, _, hu⟩ := hinn' i j u hu
      exact .inr (hh.own _ u hu).2.1
  · refine { obj := fun o x hx => ?_, ids := fun o cs hx => ?_, seps := fun o o' b hne h1 h2 => ?_, owns := fun o b ho => ?_, inS := fun b hb => Nat.lt_of_lt_of_le (hok.inS b hb) hev.kept.size, gl := fun g hg => ⟨(hok.gl g hg).1, (hev.hok.gl g hg).2⟩ }
    · match o, hx with
      | 0, hx => cases hx; trivial
      | 1, hx => cases hx; trivial
      | o + 3, hx => simp at hx
      | 2, hx =>
        cases hx
        refine ⟨he, fun i j u hu => ?_, ?_⟩
        · obtain ⟨rfl, hi, hu⟩ := hinn' i j u hu
          refine ⟨fun hb => (outer u.b hb).2.2.2 (hev.sub _ (.inr ⟨_, u, hu, rfl⟩)), by simpa using hi, by decide, fun i' j' u' hu' hbb => ?_⟩
          obtain ⟨rfl, hi', hu'⟩ := hinn' i' j' u' hu'
          have e := hh.dis _ u _ u' hu hu' hbb
          refine ⟨?_, rfl⟩
          have e1 : idx.getD i 0 = idx[i] := by simp [hi]
          have e2 : idx.getD i' 0 = idx[i'] := by simp [hi']
          rw [e1, e2] at e
          exact nodup_inj hnd hi' hi e
        · show match (μ' 1).b with
            | none => _
            | some b => _
          cases hb : (μ' 1).b with
          | none =>
            rw [hb] at hob
            have : Y.length = 0 := hob
            show (idx.map fun i => (L ++ [r]).getD i dR).length = 0
            simp; rw [← List.length_eq_zero_iff]; omega
          | some b =>
            rw [hb] at hob
            obtain ⟨h3, C, T, h4, h5, h6⟩ := hob
            refine ⟨by simp; rw [← hYl]; exact h3, C, T, h4, h5, fun i hi j hj => ?_⟩
            have hi : i < idx.length := by simpa using hi
            obtain ⟨x, h7, h8⟩ := h6 i (by omega) j hj
            refine ⟨x, h7, ?_⟩
            replace h8 : RelI S' w' (eRH (Y.getD i dH) j) x := h8
            rw [hYg i hi] at h8
            have e : (idx.map fun i => (L ++ [r]).getD i dR).getD i dR = (L ++ [r]).getD (idx.getD i 0) dR := by simp [hi]
            show RelX S inn' w' i j (eR ((idx.map fun i => (L ++ [r]).getD i dR).getD i dR) j) x
            rw [e]
            match j, hj with
            | 0, _ => exact h8
            | 1, _ =>
              have hx : x = hd (idx.getD i 0) := h8.1
              show RelN S w' (inn' i 1) _ 2 _ x
              have hi1 : inn' i 1 = iq (idx.getD i 0) := if_pos ⟨rfl, hi⟩
              rw [hi1, hx]
              exact RelN_keep (hh.rel _ (hle _ (getD_mem 0 hi))) (cQ_plain _) fun u hu => hkeep _ u hu
            | 2, _ => exact h8
            | 3, _ => exact h8
    · match o, hx with
      | 0, hx => cases hx
      | 1, hx => cases hx
      | 2, hx => cases hx
      | o + 3, hx => simp at hx
    · exact hne ((own2 o b h1).1.trans (own2 o' b h2).1.symm)
    · obtain ⟨rfl, h⟩ := own2 o b ho
      rcases h with h | ⟨i, j, u, hu, rfl⟩
      · exact ⟨(outer b h).2.1, (outer b h).2.2.1⟩
      · obtain ⟨_, _, hu⟩ := hinn' i j u hu
        exact ⟨(hlt _ u hu).2, Nat.lt_of_lt_of_le (hlt _ u hu).1 hev.kept.size⟩
  · exact hv
end

/-- From what the code does with the slices themselves to what it does with rows that own theirs. -/
theorem put_own {P : Program} (h : SoundC P K_l7Put.1 K_l7Put.2) : SoundC P K_l7PutX.1 K_l7PutX.2 := by
  refine ⟨h.1, fun x hp S μ w vals hok hrel => ?_⟩
  obtain ⟨L, r⟩ := x
  obtain ⟨p1, p2, p3⟩ : L.length ≤ 1000 ∧ (∀ y ∈ L, y.2.1.length ≤ 1000) ∧ r.2.1.length ≤ 1000 := hp
  obtain ⟨v0, rest, rfl, hv0, v1, rest', rfl, hv1, hre⟩ := hrel
  cases hre
  obtain ⟨vs, rfl, nm, rs, rfl, hnm, a, rs1, rfl, ha, vn, rs2, rfl, hvn, vd, rs3, rfl, hvd, hr3⟩ := hv1
  cases hr3
  obtain ⟨hd, iq, hh, hda, hc⟩ := hds_of hok ha
  have hrel' : RelL (SOwn S iq) μ w [.osl 0 0 (hrows hd L).length, rowB (hdQ (hd L.length) r.2.1) r] [v0, .agg #[nm, a, vn, vd]] := by
    refine ⟨v0, _, rfl, by rw [hrows_len]; exact hv0, _, [], rfl, ⟨[nm, a, vn, vd], rfl, nm, _, rfl, hnm, a, _, rfl, ?_, vn, _, rfl, hvn, vd, _, rfl, hvd, rfl⟩, rfl⟩
    have := hh.rel L.length (Nat.le_refl _)
    rw [getD_last dR, hda] at this
    rw [hda]
    exact RelN_hdr this fun v hv => .inr ⟨_, v, hv, rfl⟩
  have := h.2 (hrows hd L, (hd L.length, r)) ⟨by rw [hrows_len]; exact p1, fun y hy => by
    unfold hrows at hy
    obtain ⟨i, hi, rfl⟩ := List.mem_map.1 hy
    have hi := List.mem_range.1 hi
    exact p2 _ (getD_mem dR hi), p3⟩ (SOwn S iq) μ w _ (open_hok hok hh hc) hrel'
  refine Calls.mono this fun e w' he => ?_
  obtain ⟨v, y, S', μ', rfl, hy, hev, hr⟩ := he
  obtain ⟨y1, y2, y3⟩ : HPut (hrows hd L).length y := hy
  rw [hrows_len] at y1 y3
  obtain ⟨S'', μ'', hev', hr'⟩ := close_evo hok hh y2 y3 hev hr
  exact ⟨v, y, S'', μ'', rfl, ⟨y1, y2, y3⟩, hev', hr'⟩
end Cg

/-
  The codes' contracts: drawn models. No condition.
-/
set_option linter.unusedVariables false
set_option linter.unusedSimpArgs false
set_option maxRecDepth 100000
namespace Cg
open Go Go.Proofs Pl
theorem map_range_get {α : Type} {L : List α} {r : α} (d : α) {x : Nat} (hx : x ≤ L.length) : (List.range x).map (fun i => (L ++ [r]).getD i d) = L.take x := by
  refine List.ext_getElem (by simp; omega) fun i h1 h2 => ?_
  have hi : i < x := by simpa using h1
  simp only [List.getElem_map, List.getElem_range, List.getElem_take]
  rw [getD_left d (by omega)]
  simp [show i < L.length by omega]
theorem map_range'_get {α : Type} {L : List α} {r : α} (d : α) {x : Nat} (hx : x ≤ L.length) : (List.range' x (L.length - x)).map (fun i => (L ++ [r]).getD i d) = L.drop x := by
  refine List.ext_getElem (by simp) fun i h1 h2 => ?_
  have hi : i < L.length - x := by simpa using h1
  simp only [List.getElem_map, List.getElem_range', List.getElem_drop]
  rw [getD_left d (by omega)]
  simp [show x + i < L.length by omega]
/-- The places, with the last one put in at x. -/
def insI (x n : Nat) : List Nat := List.range x ++ [n] ++ List.range' x (n - x)
theorem insI_len {x n : Nat} (h : x ≤ n) : (insI x n).length = n + 1 := by unfold insI; simp; omega
theorem hput_ins {x n : Nat} (h : x ≤ n) : HPut n (insI x n) := by
  refine ⟨by rw [insI_len h]; omega, ?_, fun i hi => ?_⟩
  · unfold insI
    rw [List.nodup_append, List.nodup_append]
    refine ⟨⟨List.nodup_range, by simp, fun a ha b hb => ?_⟩, List.nodup_range', fun a ha b hb => ?_⟩
    · have := List.mem_range.1 ha
      rw [List.mem_singleton.1 hb]; omega
    · obtain ⟨k, hk, rfl⟩ := List.mem_range'.1 hb
      rcases List.mem_append.1 ha with e | e
      · have := List.mem_range.1 e; omega
      · rw [List.mem_singleton.1 e]; omega
  · unfold insI at hi
    rcases List.mem_append.1 hi with e | e
    · rcases List.mem_append.1 e with e | e
      · have := List.mem_range.1 e; omega
      · rw [List.mem_singleton.1 e]; omega
    · obtain ⟨k, hk, rfl⟩ := List.mem_range'.1 e
      omega
theorem map_insI {α : Type} {L : List α} {r : α} (d : α) {x : Nat} (hx : x ≤ L.length) : (insI x L.length).map (fun i => (L ++ [r]).getD i d) = L.take x ++ [r] ++ L.drop x := by
  unfold insI
  rw [List.map_append, List.map_append, map_range_get d hx, map_range'_get d hx]
  simp only [List.map_cons, List.map_nil, getD_last d]
theorem row_rH {r : HRw} {j : Nat} (hj : j < 4) : Is ([st r.snd.fst, hdQ r.fst r.snd.snd.fst, i64 r.snd.snd.snd.fst, i64 r.snd.snd.snd.snd].getD j .any) (eRH r j) := by
  match j, hj with
  | 0, _ => exact EncN.eRH.self r (j := 0) (by decide)
  | 1, _ => exact EncN.eRH.self r (j := 1) (by decide)
  | 2, _ => exact EncN.eRH.self r (j := 2) (by decide)
  | 3, _ => exact EncN.eRH.self r (j := 3) (by decide)
theorem k_l7Put : SoundC Tryz.prog K_l7Put.1 K_l7Put.2 := sound_of hm ((CtxOK.nil.and k_l7Rats).and k_l7Less) (fun (L, r) => A_l7Put L r) (by kernel_rfl) fun (L, r) hb => (by
  obtain ⟨h1, h2, h3⟩ : L.length ≤ 1000 ∧ (∀ y ∈ L, y.2.2.1.length ≤ 1000) ∧ r.2.2.1.length ≤ 1000 := hb
  rw [← vc_l7Put L r]
  simp [-List.getD_eq_getElem?_getD, -List.mem_cons, -Bool.forall_bool, -Bool.exists_bool, and_assoc, peta, tl_inj, ex_1, ex_2, ex_3, ex_4, ex_5, ex_6, ex_7, ex_8, ex_9, ey_2, ey_3, ey_4, ey_5, ey_6, ey_7, ey_8, ey_9]
  have same : ∃ y, HPut L.length y ∧ L.length = y.length ∧ (y = [] ∨ L = List.map (fun i => (L ++ [r]).getD i dH) y) :=
    ⟨List.range L.length, ⟨by simp, List.nodup_range, fun i hi => by have := List.mem_range.1 hi; omega⟩, by simp, .inr (by rw [map_range_get dH (Nat.le_refl _), List.take_length])⟩
  have fin : ∀ x, x ≤ L.length → x ≤ L.length ∧ x + (L.length - x) ≤ L.length ∧ (L.length - x) * 56 ≤ 70368744177664 ∧ x ≤ L.length ∧ x * 56 ≤ 70368744177664 ∧ (x + 1) * 56 ≤ 70368744177664 ∧ (x + 1 + (L.length - x)) * 56 ≤ 70368744177664 ∧
      ∃ y, HPut L.length y ∧ x + 1 + (L.length - x) = y.length ∧ IsO (AObj.arr (x + 1 + (L.length - x)) 4 (joinC (x + 1) (fun i j => joinC x (cRH L) (rowsCell [[st r.snd.fst, hdQ r.fst r.snd.snd.fst, i64 r.snd.snd.snd.fst, i64 r.snd.snd.snd.snd]]) i j) fun i j => joinC 0 (rowsCell []) (fun i j => eRH (L.getD (i + x) dH) j) i j)) (arRH (List.map (fun i => (L ++ [r]).getD i dH) y)) := fun x hx => by
    refine ⟨hx, by omega, by omega, hx, by omega, by omega, by omega, insI x L.length, hput_ins hx, by rw [insI_len hx]; omega, ?_⟩
    rw [map_insI dH hx]
    have hR := ((Rds.take (d := dH) EncN.eRH hx).join (Rds.row (v := r) (IsR_row EncN.eRH fun j hj => row_rH hj))).join ((Rds.nil (c := rowsCell [])).join (Rds.drop EncN.eRH L x))
    exact (hR.cong (n' := x + 1 + (L.length - x)) (by omega) rfl (by simp)).iso
  refine ⟨⟨0, by omega, rfl⟩, fun x hx => ⟨fun hlt => ?_, fun hge => ?_⟩⟩
  · have h4 := h2 _ (getD_mem dH hlt)
    exact ⟨hlt, by omega, fun _ => ⟨x + 1, by omega, by omega, wrap_succ hlt (by omega)⟩, fun _ => ⟨fun _ => ⟨hlt, fun _ => ⟨hlt, by omega, fun _ => same, fun _ => fin x hx⟩, fun _ => fin x hx⟩, fun _ => fin x hx⟩⟩
  · exact ⟨fun h => absurd h (by omega), fun _ => fin x hx⟩)
theorem k_l7PutX : SoundC Tryz.prog K_l7PutX.1 K_l7PutX.2 := put_own k_l7Put
end Cg

/-
  What is left to show of each function's code, printed by a program: Mlt. No condition.
-/
set_option maxRecDepth 100000
set_option linter.unusedVariables false
namespace Cg
open Go Go.Proofs
theorem vc_l1Least (x : Int × Int) : (condP (decide (x.1 < (0 : Int)))
 (∃ x_1 : Nat × Nat,
 (IntKind.i64.wrap ((0 : Int) - x.1) = (↑x_1.1 : Int) ∧ x.2 = (↑x_1.2 : Int) ∧ True) ∧ (x_1.1 ≤ (4611686018427387904 : Nat) ∧ x_1.2 ≤ (4611686018427387904 : Nat)) ∧ (↑(x_1.1.gcd x_1.2) : Int) ≠ (0 : Int) ∧ (↑(x_1.1.gcd x_1.2) : Int) ≠ (0 : Int) ∧ ∃ x_2 : Pl.Rt,
 ((IntKind.i64.wrap (x.1.tdiv (↑(x_1.1.gcd x_1.2) : Int)) = x_2.1 ∧ IntKind.i64.wrap (x.2.tdiv (↑(x_1.1.gcd x_1.2) : Int)) = x_2.2 ∧ True) ∧ True) ∧ True ∧ condP (!Pl.ratOk x_2)
 (((0 : Int) = (Pl.ratV (Pl.least x.1 x.2)).1 ∧ (0 : Int) = (Pl.ratV (Pl.least x.1 x.2)).2 ∧ True) ∧ false = (Pl.least x.1 x.2).isSome ∧ True)
 ((IntKind.i64.wrap (x.1.tdiv (↑(x_1.1.gcd x_1.2) : Int)) = (Pl.ratV (Pl.least x.1 x.2)).1 ∧ IntKind.i64.wrap (x.2.tdiv (↑(x_1.1.gcd x_1.2) : Int)) = (Pl.ratV (Pl.least x.1 x.2)).2 ∧ True) ∧ true = (Pl.least x.1 x.2).isSome ∧ True))
 (∃ x_1 : Nat × Nat,
 (x.1 = (↑x_1.1 : Int) ∧ x.2 = (↑x_1.2 : Int) ∧ True) ∧ (x_1.1 ≤ (4611686018427387904 : Nat) ∧ x_1.2 ≤ (4611686018427387904 : Nat)) ∧ (↑(x_1.1.gcd x_1.2) : Int) ≠ (0 : Int) ∧ (↑(x_1.1.gcd x_1.2) : Int) ≠ (0 : Int) ∧ ∃ x_2 : Pl.Rt,
 ((IntKind.i64.wrap (x.1.tdiv (↑(x_1.1.gcd x_1.2) : Int)) = x_2.1 ∧ IntKind.i64.wrap (x.2.tdiv (↑(x_1.1.gcd x_1.2) : Int)) = x_2.2 ∧ True) ∧ True) ∧ True ∧ condP (!Pl.ratOk x_2)
 (((0 : Int) = (Pl.ratV (Pl.least x.1 x.2)).1 ∧ (0 : Int) = (Pl.ratV (Pl.least x.1 x.2)).2 ∧ True) ∧ false = (Pl.least x.1 x.2).isSome ∧ True)
 ((IntKind.i64.wrap (x.1.tdiv (↑(x_1.1.gcd x_1.2) : Int)) = (Pl.ratV (Pl.least x.1 x.2)).1 ∧ IntKind.i64.wrap (x.2.tdiv (↑(x_1.1.gcd x_1.2) : Int)) = (Pl.ratV (Pl.least x.1 x.2)).2 ∧ True) ∧ true = (Pl.least x.1 x.2).isSome ∧ True))) = Goal Tryz.prog [K_l1Gcd, K_sRatOk] ([]) K_l1Least.1 K_l1Least.2 (x) := by kernel_rfl

end Cg

/-
  The codes' contracts: the truth of literals in models. No condition.
-/
set_option linter.unusedVariables false
set_option linter.unusedSimpArgs false
set_option maxRecDepth 100000
set_option maxHeartbeats 1000000
namespace Pl
open Go Cg
theorem least_div {n d : Int} (hn : n.natAbs ≤ 2000000000000000000) (h1 : 1 ≤ d) (h2 : d ≤ 1000000000000000000) :
    Nat.gcd n.natAbs d.natAbs ≠ 0 ∧ IntKind.i64.wrap (n.tdiv (Nat.gcd n.natAbs d.natAbs)) = n.tdiv (Nat.gcd n.natAbs d.natAbs) ∧ IntKind.i64.wrap (d.tdiv (Nat.gcd n.natAbs d.natAbs)) = d.tdiv (Nat.gcd n.natAbs d.natAbs) := by
  have hg : Nat.gcd n.natAbs d.natAbs ≠ 0 := fun h => by
    have := Nat.eq_zero_of_gcd_eq_zero_right h
    omega
  have e1 : (n.tdiv (Nat.gcd n.natAbs d.natAbs)).natAbs ≤ n.natAbs := by rw [Int.natAbs_tdiv]; exact Nat.div_le_self _ _
  have e2 : (d.tdiv (Nat.gcd n.natAbs d.natAbs)).natAbs ≤ d.natAbs := by rw [Int.natAbs_tdiv]; exact Nat.div_le_self _ _
  exact ⟨hg, wrap_small (by omega) (by omega), wrap_small (by omega) (by omega)⟩
end Pl
namespace Cg
open Go Go.Proofs Pl
theorem k_l1Least : SoundC Tryz.prog K_l1Least.1 K_l1Least.2 := sound_of hm ((CtxOK.nil.and k_sRatOk).and k_l1Gcd) (fun _ => []) (by kernel_rfl) fun (x : Int × Int) hl => (by
  obtain ⟨h1, h2, h3⟩ : x.1.natAbs ≤ 2000000000000000000 ∧ 1 ≤ x.2 ∧ x.2 ≤ 1000000000000000000 := hl
  rw [← vc_l1Least x]
  obtain ⟨n, d⟩ := x
  dsimp only at *
  obtain ⟨g1, g2, g3⟩ := least_div h1 h2 h3
  have fin : ∃ x_2 : Rt, ((IntKind.i64.wrap (n.tdiv (Nat.gcd n.natAbs d.natAbs)) = x_2.fst ∧ IntKind.i64.wrap (d.tdiv (Nat.gcd n.natAbs d.natAbs)) = x_2.snd ∧ True) ∧ True) ∧ True ∧
      condP (!ratOk x_2) (((0 : Int) = (ratV (least n d)).fst ∧ (0 : Int) = (ratV (least n d)).snd ∧ True) ∧ false = (least n d).isSome ∧ True)
        ((IntKind.i64.wrap (n.tdiv (Nat.gcd n.natAbs d.natAbs)) = (ratV (least n d)).fst ∧ IntKind.i64.wrap (d.tdiv (Nat.gcd n.natAbs d.natAbs)) = (ratV (least n d)).snd ∧ True) ∧ true = (least n d).isSome ∧ True) := by
    refine ⟨(n.tdiv (Nat.gcd n.natAbs d.natAbs), d.tdiv (Nat.gcd n.natAbs d.natAbs)), ⟨⟨g2, g3, trivial⟩, trivial⟩, trivial, ?_⟩
    rw [g2, g3]
    unfold least
    cases e : ratOk (n.tdiv (Nat.gcd n.natAbs d.natAbs), d.tdiv (Nat.gcd n.natAbs d.natAbs)) <;> simp [condP, ratV]
  rw [condP_iff]
  simp only [decide_eq_true_eq, decide_eq_false_iff_not]
  refine ⟨fun hn => ⟨(n.natAbs, d.natAbs), ⟨by rw [wrap_small (by omega) (by omega)]; simp only; omega, by simp only; omega, trivial⟩, ⟨by simp only; omega, by simp only; omega⟩, by simp only; omega, by simp only; omega, fin⟩, fun hn => ⟨(n.natAbs, d.natAbs), ⟨by simp only; omega, by simp only; omega, trivial⟩, ⟨by simp only; omega, by simp only; omega⟩, by simp only; omega, by simp only; omega, fin⟩⟩)
end Cg
